/- Packed: C19. -/
import Derived.Laws.DeepStrings4
import Derived.Laws.StructEq
import Derived.OrdersHeld
import Derived.OpenShut
import Derived.Carry
import Derived.ChangeOld
import Derived.ChangeSame
import Derived.SizedLaws
import Derived.Test.YtegjjdhgffnkhaaGreatDoorZ0
/- The engine: texts C10, C11, C12, C13, C14, C15, C16, C17, C18, C19. -/
/- The equations by which a walk is reckoned. -/
set_option linter.unusedVariables false
set_option linter.unusedSimpArgs false
namespace Go.BM
open Go.RowKit

section
variable {P : Program} {B : Nat} {ops : Array Oper} {K : Env → AH → Prop} {l : List Oper} {e : Env} {H : AH} {d : Option Tmp} {op : Op} {ty : TypeId} {p : String} {af : Array Edge}

theorem aops_nil : aops P B ops K [] e H = K e H := rfl
theorem aops_assign (x : Operand) : aops P B ops K (⟨d, .assign x, ty, p, af, none⟩ :: l) e H = aops P B ops K l (put e d (ev e x)) H := rfl
theorem qops_assign {Kq : Env → Prop} (x : Operand) : qops P ops H Kq (⟨d, .assign x, ty, p, af, none⟩ :: l) e = qops P ops H Kq l (put e d (ev e x)) := rfl
theorem aops_move (x : Operand) : aops P B ops K (⟨d, .move x, ty, p, af, none⟩ :: l) e H = aops P B ops K l (put e d (ev e x)) H := rfl
theorem qops_move {Kq : Env → Prop} (x : Operand) : qops P ops H Kq (⟨d, .move x, ty, p, af, none⟩ :: l) e = qops P ops H Kq l (put e d (ev e x)) := rfl
theorem aops_pick (c x y : Operand) : aops P B ops K (⟨d, .pick c x y, ty, p, af, none⟩ :: l) e H = optK (pickV (ev e c) (ev e x) (ev e y)) (fun v => aops P B ops K l (put e d v) H) := rfl
theorem qops_pick {Kq : Env → Prop} (c x y : Operand) : qops P ops H Kq (⟨d, .pick c x y, ty, p, af, none⟩ :: l) e = optK (pickV (ev e c) (ev e x) (ev e y)) (fun v => qops P ops H Kq l (put e d v)) := rfl
/-- Is the right side the constant nil of a slice type? -/
def nilY : Operand → Bool
  | .const (.slice none 0 0) => true
  | _ => false
theorem nilOp_none {o : BinOp} {t : TypeId} {x y : Operand} {u : TypeId} (h : nilY y = false) : (nilOp (.binOp o t x y u)).isNone = true := by
  unfold nilOp
  split
  · rename_i e; cases e; cases h
  · rename_i e; cases e; cases h
  · rfl
theorem nilY_tmp (t : Nat) : nilY (.tmp t) = false := rfl
theorem nilY_int (k : IntKind) (i : Int) : nilY (.const (.int k i)) = false := rfl
theorem nilY_bool (b : Bool) : nilY (.const (.bool b)) = false := rfl
theorem nilY_str (s : ByteArray) : nilY (.const (.string s)) = false := rfl
theorem nilY_func : nilY (.const .nilFunc) = false := rfl
theorem nilY_iface : nilY (.const .nilIface) = false := rfl
theorem nilY_ptr (a : Option Addr) : nilY (.const (.pointer a)) = false := rfl
theorem aops_binOp (o : BinOp) (t : TypeId) (x y : Operand) (u : TypeId) (hy : nilY y = false) : aops P B ops K (⟨d, .binOp o t x y u, ty, p, af, none⟩ :: l) e H = optK (binS P o t x y (ev e x) (ev e y)) (fun v => aops P B ops K l (put e d v) H) := by
  have h := nilOp_none (o := o) (t := t) (x := x) (u := u) hy
  simp only [aops, aop, isPop, h, if_true]
  rfl
theorem qops_binOp {Kq : Env → Prop} (o : BinOp) (t : TypeId) (x y : Operand) (u : TypeId) (hy : nilY y = false) : qops P ops H Kq (⟨d, .binOp o t x y u, ty, p, af, none⟩ :: l) e = optK (binS P o t x y (ev e x) (ev e y)) (fun v => qops P ops H Kq l (put e d v)) := by
  have h := nilOp_none (o := o) (t := t) (x := x) (u := u) hy
  simp only [qops, qop, isPop, h, if_true]
  rfl
theorem aops_eqNil (t : TypeId) (x : Operand) (u : TypeId) : aops P B ops K (⟨d, .binOp .eql t x (.const (.slice none 0 0)) u, ty, p, af, none⟩ :: l) e H = nilQ P H true t (ev e x) (fun v H' => aops P B ops K l (put e d v) H') := rfl
theorem aops_neNil (t : TypeId) (x : Operand) (u : TypeId) : aops P B ops K (⟨d, .binOp .neq t x (.const (.slice none 0 0)) u, ty, p, af, none⟩ :: l) e H = nilQ P H false t (ev e x) (fun v H' => aops P B ops K l (put e d v) H') := rfl
theorem nilQ_intro {t : TypeId} {v : Value} {pos : Bool} {k : Value → AH → Prop} {z : TypeId × Nat × Nat} {n : Nat} (hz : elZ P t = some z) (hn : slen H v = some n) (h : ∀ b : Bool, (b = true → n = 0) → k (.bool (if pos = true then b else !b)) H) : nilQ P H pos t v k := by
  unfold nilQ
  rw [hz, hn]
  exact h
theorem aops_clear (x : Operand) (t : TypeId) : aops P B ops K (⟨d, .call ⟨.builtin .clear, #[x], #[t]⟩, ty, p, af, none⟩ :: l) e H =
    optK (clearH P B H t (ev e x)) (fun H' => aops P B ops K l (put e d (.tuple #[])) H') := by
  simp only [aops, aop, isPop, Bool.false_eq_true, if_false, aopE]
  show optH (clearH P B H t (ev e x)) _ = _
  cases clearH P B H t (ev e x) <;> rfl
theorem aops_unOp (o : UnOp) (t : TypeId) (x : Operand) : aops P B ops K (⟨d, .unOp o t x, ty, p, af, none⟩ :: l) e H = optK (unS P o (ev e x)) (fun v => aops P B ops K l (put e d v) H) := rfl
theorem qops_unOp {Kq : Env → Prop} (o : UnOp) (t : TypeId) (x : Operand) : qops P ops H Kq (⟨d, .unOp o t x, ty, p, af, none⟩ :: l) e = optK (unS P o (ev e x)) (fun v => qops P ops H Kq l (put e d v)) := rfl
theorem aops_convert (s t : TypeId) (x : Operand) : aops P B ops K (⟨d, .convert s t x, ty, p, af, none⟩ :: l) e H = optK (convX P H s t (ev e x)) (fun v => aops P B ops K l (put e d v) H) := rfl
theorem qops_convert {Kq : Env → Prop} (s t : TypeId) (x : Operand) : qops P ops H Kq (⟨d, .convert s t x, ty, p, af, none⟩ :: l) e = optK (convX P H s t (ev e x)) (fun v => qops P ops H Kq l (put e d v)) := rfl
theorem aops_nilCheck (x : Operand) : aops P B ops K (⟨d, .nilCheck x, ty, p, af, none⟩ :: l) e H = optK (nilK H (ev e x)) (fun v => aops P B ops K l (put e d v) H) := rfl
theorem qops_nilCheck {Kq : Env → Prop} (x : Operand) : qops P ops H Kq (⟨d, .nilCheck x, ty, p, af, none⟩ :: l) e = optK (nilK H (ev e x)) (fun v => qops P ops H Kq l (put e d v)) := rfl
theorem aops_fieldAddr (s : TypeId) (x : Operand) (f : Nat) : aops P B ops K (⟨d, .fieldAddr s x f, ty, p, af, none⟩ :: l) e H = optK (fldV P H s (ev e x) f) (fun v => aops P B ops K l (put e d v) H) := rfl
theorem qops_fieldAddr {Kq : Env → Prop} (s : TypeId) (x : Operand) (f : Nat) : qops P ops H Kq (⟨d, .fieldAddr s x f, ty, p, af, none⟩ :: l) e = optK (fldV P H s (ev e x) f) (fun v => qops P ops H Kq l (put e d v)) := rfl
theorem aops_field (s : TypeId) (x : Operand) (f : Nat) : aops P B ops K (⟨d, .field s x f, ty, p, af, none⟩ :: l) e H = optK (fieldS P s (ev e x) f) (fun v => aops P B ops K l (put e d v) H) := rfl
theorem qops_field {Kq : Env → Prop} (s : TypeId) (x : Operand) (f : Nat) : qops P ops H Kq (⟨d, .field s x f, ty, p, af, none⟩ :: l) e = optK (fieldS P s (ev e x) f) (fun v => qops P ops H Kq l (put e d v)) := rfl
theorem aops_indexAddr (t : TypeId) (x i : Operand) : aops P B ops K (⟨d, .indexAddr t x i, ty, p, af, none⟩ :: l) e H = optK (idxV P H t (ev e x) (ev e i)) (fun v => aops P B ops K l (put e d v) H) := rfl
theorem qops_indexAddr {Kq : Env → Prop} (t : TypeId) (x i : Operand) : qops P ops H Kq (⟨d, .indexAddr t x i, ty, p, af, none⟩ :: l) e = optK (idxV P H t (ev e x) (ev e i)) (fun v => qops P ops H Kq l (put e d v)) := rfl
theorem aops_index (t : TypeId) (x i : Operand) : aops P B ops K (⟨d, .index t x i, ty, p, af, none⟩ :: l) e H = optK (strIdxS P t (ev e x) (ev e i)) (fun v => aops P B ops K l (put e d v) H) := rfl
theorem qops_index {Kq : Env → Prop} (t : TypeId) (x i : Operand) : qops P ops H Kq (⟨d, .index t x i, ty, p, af, none⟩ :: l) e = optK (strIdxS P t (ev e x) (ev e i)) (fun v => qops P ops H Kq l (put e d v)) := rfl
theorem aops_load (t : TypeId) (x : Operand) : aops P B ops K (⟨d, .load t x, ty, p, af, none⟩ :: l) e H = optK (loadV P H t (ev e x)) (fun v => aops P B ops K l (put e d v) H) := rfl
theorem qops_load {Kq : Env → Prop} (t : TypeId) (x : Operand) : qops P ops H Kq (⟨d, .load t x, ty, p, af, none⟩ :: l) e = optK (loadV P H t (ev e x)) (fun v => qops P ops H Kq l (put e d v)) := rfl
theorem aops_slice (t : TypeId) (x : Operand) (lo hi mx : Option Operand) : aops P B ops K (⟨d, .slice t x lo hi mx, ty, p, af, none⟩ :: l) e H = optK (slV P H t (ev e x) (lo.map (ev e)) (hi.map (ev e)) (mx.map (ev e))) (fun v => aops P B ops K l (put e d v) H) := rfl
theorem qops_slice {Kq : Env → Prop} (t : TypeId) (x : Operand) (lo hi mx : Option Operand) : qops P ops H Kq (⟨d, .slice t x lo hi mx, ty, p, af, none⟩ :: l) e = optK (slV P H t (ev e x) (lo.map (ev e)) (hi.map (ev e)) (mx.map (ev e))) (fun v => qops P ops H Kq l (put e d v)) := rfl
theorem aops_extract (x : Operand) (i : Nat) : aops P B ops K (⟨d, .extract x i, ty, p, af, none⟩ :: l) e H = optK (extractV (ev e x) i) (fun v => aops P B ops K l (put e d v) H) := rfl
theorem qops_extract {Kq : Env → Prop} (x : Operand) (i : Nat) : qops P ops H Kq (⟨d, .extract x i, ty, p, af, none⟩ :: l) e = optK (extractV (ev e x) i) (fun v => qops P ops H Kq l (put e d v)) := rfl
theorem aops_build (t : TypeId) (ps : Array (Nat × Operand)) : aops P B ops K (⟨d, .build t ps, ty, p, af, none⟩ :: l) e H = optK (buildV P t (ps.toList.map fun q => (q.1, ev e q.2))) (fun v => aops P B ops K l (put e d v) H) := rfl
theorem qops_build {Kq : Env → Prop} (t : TypeId) (ps : Array (Nat × Operand)) : qops P ops H Kq (⟨d, .build t ps, ty, p, af, none⟩ :: l) e = optK (buildV P t (ps.toList.map fun q => (q.1, ev e q.2))) (fun v => qops P ops H Kq l (put e d v)) := rfl
theorem aops_makeInterface (t : TypeId) (x : Operand) : aops P B ops K (⟨d, .makeInterface t x, ty, p, af, none⟩ :: l) e H = optK (ifaceS P t (ev e x)) (fun v => aops P B ops K l (put e d v) H) := rfl
theorem qops_makeInterface {Kq : Env → Prop} (t : TypeId) (x : Operand) : qops P ops H Kq (⟨d, .makeInterface t x, ty, p, af, none⟩ :: l) e = optK (ifaceS P t (ev e x)) (fun v => qops P ops H Kq l (put e d v)) := rfl
theorem aops_makeFunc (fn : Fn) (cap : Array Operand) : aops P B ops K (⟨d, .makeFunc fn #[] cap, ty, p, af, none⟩ :: l) e H = aops P B ops K l (put e d (.func fn #[] (cap.toList.map (ev e)).toArray)) H := rfl
theorem qops_makeFunc {Kq : Env → Prop} (fn : Fn) (cap : Array Operand) : qops P ops H Kq (⟨d, .makeFunc fn #[] cap, ty, p, af, none⟩ :: l) e = qops P ops H Kq l (put e d (.func fn #[] (cap.toList.map (ev e)).toArray)) := rfl
theorem aops_len (x : Operand) (t : TypeId) : aops P B ops K (⟨d, .call ⟨.builtin .len, #[x], #[t]⟩, ty, p, af, none⟩ :: l) e H = optK (lenV P H t (ev e x)) (fun v => aops P B ops K l (put e d v) H) := rfl
theorem qops_len {Kq : Env → Prop} (x : Operand) (t : TypeId) : qops P ops H Kq (⟨d, .call ⟨.builtin .len, #[x], #[t]⟩, ty, p, af, none⟩ :: l) e = optK (lenV P H t (ev e x)) (fun v => qops P ops H Kq l (put e d v)) := rfl
theorem aops_min (xs : Array Operand) (ts : Array TypeId) : aops P B ops K (⟨d, .call ⟨.builtin .min, xs, ts⟩, ty, p, af, none⟩ :: l) e H = optK (minS P ts ty (xs.toList.map (ev e)).toArray) (fun v => aops P B ops K l (put e d v) H) := rfl
theorem qops_min {Kq : Env → Prop} (xs : Array Operand) (ts : Array TypeId) : qops P ops H Kq (⟨d, .call ⟨.builtin .min, xs, ts⟩, ty, p, af, none⟩ :: l) e = optK (minS P ts ty (xs.toList.map (ev e)).toArray) (fun v => qops P ops H Kq l (put e d v)) := rfl
theorem aops_max (xs : Array Operand) (ts : Array TypeId) : aops P B ops K (⟨d, .call ⟨.builtin .max, xs, ts⟩, ty, p, af, none⟩ :: l) e H = optK (maxS P ts ty (xs.toList.map (ev e)).toArray) (fun v => aops P B ops K l (put e d v) H) := rfl
theorem qops_max {Kq : Env → Prop} (xs : Array Operand) (ts : Array TypeId) : qops P ops H Kq (⟨d, .call ⟨.builtin .max, xs, ts⟩, ty, p, af, none⟩ :: l) e = optK (maxS P ts ty (xs.toList.map (ev e)).toArray) (fun v => qops P ops H Kq l (put e d v)) := rfl
theorem aops_gate (j : Nat) (b : Bool) : aops P B ops K (⟨d, op, ty, p, af, some (j, b)⟩ :: l) e H = gateA (yieldA ops e j) b (aops P B ops K (⟨d, op, ty, p, af, none⟩ :: l) e H) (aops P B ops K l (put e d undef) H) := rfl
theorem aops_box (T : TypeId) (x : Operand) : aops P B ops K (⟨d, .box T x, ty, p, af, none⟩ :: l) e H =
    cK ((cellsV (ev e x)).all Value.oneCell' = true) (aops P B ops K l (put e d (.pointer (some ⟨H.length, 0, some 0⟩))) (H ++ [mkB T 0 (cellsV (ev e x))])) := rfl
theorem aops_alloc (T : TypeId) : aops P B ops K (⟨d, .alloc T, ty, p, af, none⟩ :: l) e H =
    optK (zeroV P T) (fun z => cK (zOkV z = true) (aops P B ops K l (put e d (.pointer (some ⟨H.length, 0, some 0⟩))) (H ++ [mkB T 0 (cellsV z)]))) := rfl
theorem aops_store (t : TypeId) (x v : Operand) : aops P B ops K (⟨d, .store t x v, ty, p, af, none⟩ :: l) e H =
    optK (storeH P B H t (ev e x) (ev e v)) (fun H' => aops P B ops K l (put e d undef) H') := by
  simp only [aops, aop, isPop, Bool.false_eq_true, if_false, aopE]
  cases storeH P B H t (ev e x) (ev e v) <;> rfl
theorem aops_buildSlice (t : TypeId) (len : Nat) (ps : Array (Nat × Operand)) : aops P B ops K (⟨d, .buildSlice t len ps, ty, p, af, none⟩ :: l) e H =
    optP (buildSliceH P H t len (ps.toList.map fun q => (q.1, ev e q.2))) (fun v H' => aops P B ops K l (put e d v) H') := rfl
theorem aops_makeSlice (t : TypeId) (x c : Operand) : aops P B ops K (⟨d, .makeSlice t x c, ty, p, af, none⟩ :: l) e H =
    optP (makeH P H t (ev e x) (ev e c)) (fun v H' => aops P B ops K l (put e d v) H') := rfl
theorem aops_append (s x : Operand) (t tx : TypeId) : aops P B ops K (⟨d, .call ⟨.builtin .append, #[s, x], #[t, tx]⟩, ty, p, af, none⟩ :: l) e H =
    optP (appendH P B H t tx (ev e s) (ev e x)) (fun v H' => aops P B ops K l (put e d v) H') := rfl
def callK (P : Program) (B : Nat) (f : Value) (args : List Value) (H : AH) (k : Value → AH → Prop) : Prop :=
  match f with
  | .func (.func g) first caps => first.size = 0 ∧ ACalls P B g (args ++ caps.toList) H k
  | _ => False
theorem aops_call (f : Operand) (args : Array Operand) (ats : Array TypeId) : aops P B ops K (⟨d, .call ⟨.value f, args, ats⟩, ty, p, af, none⟩ :: l) e H =
    callK P B (ev e f) (args.toList.map (ev e)) H (fun v H' => aops P B ops K l (put e d v) H') := rfl
theorem callK_func (g : FuncId) (caps : Array Value) (args : List Value) (k : Value → AH → Prop) : callK P B (.func (.func g) #[] caps) args H k = ACalls P B g (args ++ caps.toList) H k := by
  simp [callK]
theorem qops_nil {Kq : Env → Prop} : qops P ops H Kq [] e = Kq e := rfl
theorem qops_gate {Kq : Env → Prop} (j : Nat) (b : Bool) : qops P ops H Kq (⟨d, op, ty, p, af, some (j, b)⟩ :: l) e = gateA (yieldA ops e j) b (qops P ops H Kq (⟨d, op, ty, p, af, none⟩ :: l) e) (qops P ops H Kq l (put e d undef)) := rfl
def qcallK (P : Program) (f : Value) (args : List Value) (H : AH) (k : Value → Prop) : Prop :=
  match f with
  | .func (.func g) first caps => first.size = 0 ∧ ∃ d, pureV d = true ∧ ACalls P H.length g (args ++ caps.toList) H (fun v _ => v = d) ∧ k d
  | _ => False
theorem qops_call {Kq : Env → Prop} (f : Operand) (args : Array Operand) (ats : Array TypeId) : qops P ops H Kq (⟨d, .call ⟨.value f, args, ats⟩, ty, p, af, none⟩ :: l) e =
    qcallK P (ev e f) (args.toList.map (ev e)) H (fun v => qops P ops H Kq l (put e d v)) := rfl
theorem qcall_intro {g : FuncId} {caps : Array Value} {args : List Value} {k : Value → Prop} {v : Value} {B0 : Nat} (h : ACalls P B0 g (args ++ caps.toList) H (fun x _ => x = v)) (hB : B0 = H.length) (hv : pureV v = true) (hk : k v) : qcallK P (.func (.func g) #[] caps) args H k := by
  subst hB
  exact ⟨rfl, v, hv, h, hk⟩
end

theorem put_at (e : Env) (t i : Nat) (v : Value) : put e (some t) v i = if i = t then v else e i := rfl
theorem put_none (e : Env) (v : Value) : put e none v = e := rfl
theorem ev_tmp (e : Env) (t : Nat) : ev e (.tmp t) = e t := rfl
theorem ev_const (e : Env) (v : Value) : ev e (.const v) = v := rfl
theorem ev_func (e : Env) (f : FuncId) : ev e (.func f) = .func (.func f) #[] #[] := rfl
def yieldL (ops : List Oper) (e : Env) (j : Nat) : Option Bool :=
  match ops, j with
  | [], _ => none
  | o :: _, 0 => (match o.dst with | some t => boolOf (e t) | none => none)
  | _ :: l, j + 1 => yieldL l e j
theorem yieldA_lit : ∀ (ops : List Oper) (e : Env) (j : Nat), yieldA ops.toArray e j = yieldL ops e j
  | [], e, j => by simp [yieldA, yieldL]
  | o :: l, e, 0 => by
    unfold yieldA yieldL
    simp only [List.getElem?_toArray, List.getElem?_cons_zero, Option.bind_some]
    cases o.dst <;> rfl
  | o :: l, e, j + 1 => by
    have ih := yieldA_lit l e j
    unfold yieldA at ih ⊢
    simp only [List.getElem?_toArray, List.getElem?_cons_succ] at ih ⊢
    exact ih
theorem yieldL_zero (t : Nat) (op : Op) (ty : TypeId) (p : String) (af : Array Edge) (g : Option (Nat × Bool)) (l : List Oper) (e : Env) : yieldL (⟨some t, op, ty, p, af, g⟩ :: l) e 0 = boolOf (e t) := rfl
theorem yieldL_succ (o : Oper) (l : List Oper) (e : Env) (j : Nat) : yieldL (o :: l) e (j + 1) = yieldL l e j := rfl
theorem boolOf_bool (b : Bool) : boolOf (.bool b) = some b := rfl
theorem boolOf_undef : boolOf undef = none := rfl

/-! what binary operations come to -/
section
variable {P : Program} (t : TypeId) (xo yo : Operand)
theorem bin_of {op : BinOp} {x y d : Value} (hx : pureV x = true) (hy : pureV y = true) (hd : pureV d = true) (h : ∀ w, (do eqGuard op t xo yo x y; binOp op t x y : Sem Value).run P w = .ok d w) : binS P op t xo yo x y = some d := by
  unfold binS
  rw [if_pos ⟨hx, hy⟩]
  exact runV_eq hd h
theorem bin_add (k : IntKind) (a b : Int) : binS P .add t xo yo (.int k a) (.int k b) = some (.int k (k.wrap (a + b))) := bin_of t xo yo rfl rfl rfl fun w => by simp [eqGuard_add, binOp_add, Op.intArith]
theorem bin_sub (k : IntKind) (a b : Int) : binS P .sub t xo yo (.int k a) (.int k b) = some (.int k (k.wrap (a - b))) := bin_of t xo yo rfl rfl rfl fun w => by simp [eqGuard_sub, binOp_sub, Op.intArith]
theorem bin_mul (k : IntKind) (a b : Int) : binS P .mul t xo yo (.int k a) (.int k b) = some (.int k (k.wrap (a * b))) := bin_of t xo yo rfl rfl rfl fun w => by simp [eqGuard_mul, binOp_mul, Op.intArith]
theorem bin_quo (k : IntKind) (a b : Int) (h : b ≠ 0) : binS P .quo t xo yo (.int k a) (.int k b) = some (.int k (k.wrap (a.tdiv b))) := bin_of t xo yo rfl rfl rfl fun w => by simp [eqGuard_quo, binOp_quo, Op.intDiv, h]
theorem bin_rem (k : IntKind) (a b : Int) (h : b ≠ 0) : binS P .rem t xo yo (.int k a) (.int k b) = some (.int k (a.tmod b)) := bin_of t xo yo rfl rfl rfl fun w => by simp [eqGuard_rem, binOp_rem, Op.intDiv, h]
theorem bin_eql (k : IntKind) (a b : Int) : binS P .eql t xo yo (.int k a) (.int k b) = some (.bool (a == b)) := bin_of t xo yo rfl rfl rfl fun w => by simp [eqGuard_at_int, binOp_eql]
theorem bin_neq (k : IntKind) (a b : Int) : binS P .neq t xo yo (.int k a) (.int k b) = some (.bool (!(a == b))) := bin_of t xo yo rfl rfl rfl fun w => by simp [eqGuard_at_int, binOp_neq, bne]
theorem bin_lss (k : IntKind) (a b : Int) : binS P .lss t xo yo (.int k a) (.int k b) = some (.bool (decide (a < b))) := bin_of t xo yo rfl rfl rfl fun w => by simp [eqGuard_lss, binOp_lss]
theorem bin_leq (k : IntKind) (a b : Int) : binS P .leq t xo yo (.int k a) (.int k b) = some (.bool (decide (a ≤ b))) := bin_of t xo yo rfl rfl rfl fun w => by simp [eqGuard_leq, binOp_leq]
theorem bin_gtr (k : IntKind) (a b : Int) : binS P .gtr t xo yo (.int k a) (.int k b) = some (.bool (decide (b < a))) := bin_of t xo yo rfl rfl rfl fun w => by simp [eqGuard_gtr, binOp_gtr]
theorem bin_geq (k : IntKind) (a b : Int) : binS P .geq t xo yo (.int k a) (.int k b) = some (.bool (decide (b ≤ a))) := bin_of t xo yo rfl rfl rfl fun w => by simp [eqGuard_geq, binOp_geq]
theorem bin_seql (a b : ByteArray) : binS P .eql t xo yo (.string a) (.string b) = some (.bool (a == b)) := bin_of t xo yo rfl rfl rfl fun w => by
  simp [eqGuard_at_string, binOp, Op.stringOp, beq_toListBytes]
theorem bin_sneq (a b : ByteArray) : binS P .neq t xo yo (.string a) (.string b) = some (.bool (!(a == b))) := bin_of t xo yo rfl rfl rfl fun w => by
  simp [eqGuard_at_string, binOp, Op.stringOp, beq_toListBytes]
/-- A string, by its bytes. -/
abbrev bs (l : List UInt8) : ByteArray := ⟨l.toArray⟩
noncomputable def strIdxW (P : Program) (t : TypeId) (x i : Value) : Option Value := strIdxS P t x i
noncomputable def strSliceW (P : Program) (t : TypeId) (x : Value) (lo hi mx : Option Value) : Option Value := strSliceS P t x lo hi mx
theorem ba_beq (a b : ByteArray) : (a == b) = (a.data == b.data) := by
  cases a; cases b; rfl
theorem bs_beq (a b : List UInt8) : (bs a == bs b) = (a == b) := by
  rw [ba_beq]
  simp
theorem bs_size (l : List UInt8) : (bs l).size = l.length := by simp [ByteArray.size]
theorem bs_of (s : ByteArray) : bs s.data.toList = s := by cases s; simp
theorem bs_app (a b : List UInt8) : bs a ++ bs b = bs (a ++ b) := by
  apply ByteArray.ext
  simp [ByteArray.data_append]
theorem bs_get (l : List UInt8) (i : Nat) (h : i < (bs l).size) : (bs l)[i] = l.getD i 0 := by
  have h2 : i < l.length := by rw [bs_size] at h; exact h
  simp [List.getD, List.getElem?_eq_getElem h2, ByteArray.getElem_eq_getElem_data]
theorem bin_sadd (a b : List UInt8) (h : a.length + b.length ≤ 9223372036854775807) : binS P .add t xo yo (.string (bs a)) (.string (bs b)) = some (.string (bs (a ++ b))) := bin_of t xo yo rfl rfl rfl fun w => by
  have hs : ¬ (((bs a).size + (bs b).size : Nat) : Int) > IntKind.i64.max := by
    rw [bs_size, bs_size]
    have : IntKind.i64.max = 9223372036854775807 := by decide
    omega
  have hg : (eqGuard .add t xo yo (.string (bs a)) (.string (bs b))).run P w = .ok () w := by simp [eqGuard]
  rw [Sem.run_bind, hg, Result.andThen_ok]
  simp only [binOp, Op.stringOp]
  rw [if_neg hs, ← bs_app]
  rfl
theorem strIdx_bs (l : List UInt8) (kd : IntKind) (i : Int) (h : P.underlying t = some .string) : strIdxS P t (.string (bs l)) (.int kd i) = if 0 ≤ i ∧ i < l.length then some (.int .u8 (l.getD i.toNat 0).toNat) else strIdxW P t (.string (bs l)) (.int kd i) := by
  by_cases hi : 0 ≤ i ∧ i < l.length
  · rw [if_pos hi]
    unfold strIdxS
    rw [if_pos ⟨rfl, rfl⟩]
    refine runV_eq rfl fun w => ?_
    rw [run_index_string w t (bs l) kd i h, dif_pos (by rw [bs_size]; exact hi), bs_get]
  · rw [if_neg hi]; rfl
theorem strSl2 (l : List UInt8) (k k' : IntKind) (i j : Int) (h : P.underlying t = some .string) : strSliceS P t (.string (bs l)) (some (.int k i)) (some (.int k' j)) none = if 0 ≤ i ∧ i ≤ j ∧ j ≤ l.length then some (.string (bs ((l.drop i.toNat).take (j.toNat - i.toNat)))) else strSliceW P t (.string (bs l)) (some (.int k i)) (some (.int k' j)) none := by
  by_cases hc : 0 ≤ i ∧ i ≤ j ∧ j ≤ l.length
  · rw [if_pos hc]
    unfold strSliceS
    rw [if_pos ⟨rfl, rfl⟩]
    refine runV_eq rfl fun w => ?_
    rw [run_sliceAt_string w t _ _ _ _ h, run_slice_string w t (bs l) k k' i j h hc.1 hc.2.1 (by rw [bs_size]; exact hc.2.2), ByteArray.extract_mk]
  · rw [if_neg hc]; rfl
theorem strSlL (l : List UInt8) (k : IntKind) (i : Int) (h : P.underlying t = some .string) : strSliceS P t (.string (bs l)) (some (.int k i)) none none = if 0 ≤ i ∧ i ≤ l.length then some (.string (bs (l.drop i.toNat))) else strSliceW P t (.string (bs l)) (some (.int k i)) none none := by
  by_cases hc : 0 ≤ i ∧ i ≤ l.length
  · rw [if_pos hc]
    unfold strSliceS
    rw [if_pos ⟨rfl, rfl⟩]
    refine runV_eq rfl fun w => ?_
    rw [run_sliceAt_string w t _ _ _ _ h, run_slice_string_from_if w t (bs l) k i h, if_pos (by rw [bs_size]; exact hc), bs_size, ByteArray.extract_mk, List.take_of_length_le (by simp)]
  · rw [if_neg hc]; rfl
theorem strSlH (l : List UInt8) (k : IntKind) (j : Int) (h : P.underlying t = some .string) : strSliceS P t (.string (bs l)) none (some (.int k j)) none = if 0 ≤ j ∧ j ≤ l.length then some (.string (bs (l.take j.toNat))) else strSliceW P t (.string (bs l)) none (some (.int k j)) none := by
  by_cases hc : 0 ≤ j ∧ j ≤ l.length
  · rw [if_pos hc]
    unfold strSliceS
    rw [if_pos ⟨rfl, rfl⟩]
    refine runV_eq rfl fun w => ?_
    rw [run_sliceAt_string w t _ _ _ _ h, run_slice_string_to_if w t (bs l) k j h, if_pos (by rw [bs_size]; exact hc), ByteArray.extract_mk, List.drop_zero, Nat.sub_zero]
  · rw [if_neg hc]; rfl
theorem bin_beql (a b : Bool) (h : P.underlying t = some .bool) : binS P .eql t xo yo (.bool a) (.bool b) = some (.bool (a == b)) := bin_of t xo yo rfl rfl rfl fun w => by
  have hr := run_equalIn_bool' (P := P) w 9999 t a b h
  simp only [eqGuard_at_bool, binOp, Op.equal, show Op.maxDepth = 9999 + 1 from rfl]
  simp [hr]
theorem bin_bneq (a b : Bool) (h : P.underlying t = some .bool) : binS P .neq t xo yo (.bool a) (.bool b) = some (.bool (!(a == b))) := bin_of t xo yo rfl rfl rfl fun w => by
  have hr := run_equalIn_bool' (P := P) w 9999 t a b h
  simp only [eqGuard_at_bool, binOp, Op.equal, show Op.maxDepth = 9999 + 1 from rfl]
  simp [hr]
theorem un_not (b : Bool) : unS P .not (.bool b) = some (.bool (!b)) := by
  unfold unS
  rw [if_pos (show pureV (.bool b) = true from rfl)]
  exact runV_eq rfl fun w => by simp [Op.unary]
theorem un_neg (k : IntKind) (a : Int) : unS P .neg (.int k a) = some (.int k (k.wrap (0 - a))) := by
  unfold unS
  rw [if_pos (show pureV (.int k a) = true from rfl)]
  exact runV_eq rfl fun w => by simp [Op.unary, Op.intArith]
theorem conv_int (s d : TypeId) (k k' : IntKind) (a : Int) (hs : (P.underlying s).isSome = true) (hd : P.underlying d = some (.int k')) : convS P s d (.int k a) = some (.int k' (k'.wrap a)) := by
  unfold convS
  rw [if_pos (show pureV (.int k a) = true from rfl)]
  refine runV_eq rfl fun w => ?_
  obtain ⟨ds, hs'⟩ := Option.isSome_iff_exists.1 hs
  simp [convert, run_underlying hs', run_underlying hd, Conv.intToInt]
def intOf : Option TypeDesc → Option IntKind
  | some (.int k) => some k
  | _ => none
theorem intOf_int (k : IntKind) : intOf (some (.int k)) = some k := rfl
theorem conv_intR (s d : TypeId) (k : IntKind) (a : Int) (hs : (P.underlying s).isSome = true) (hd : (intOf (P.underlying d)).isSome = true) : convS P s d (.int k a) = (intOf (P.underlying d)).bind fun k' => some (.int k' (k'.wrap a)) := by
  cases hu : P.underlying d with
  | none => rw [hu] at hd; cases hd
  | some t =>
    rw [hu] at hd
    cases t <;> try (cases hd; done)
    rename_i k'
    exact conv_int s d k k' a hs hu
end
theorem pick_b (t a b : Bool) : pickV (.bool t) (.bool a) (.bool b) = some (.bool (cond t a b)) := by cases t <;> rfl
theorem pick_t (a b : Value) : pickV (.bool true) a b = some a := rfl
theorem pick_f (a b : Value) : pickV (.bool false) a b = some b := rfl

theorem thenQ_normal (K : Env → AH → Prop) (Q : Exit → Env → AH → Prop) (e : Env) (H : AH) : thenQ K Q .normal e H = K e H := rfl
theorem thenQ_ret (K : Env → AH → Prop) (Q : Exit → Env → AH → Prop) (e : Env) (H : AH) : thenQ K Q .ret e H = Q .ret e H := rfl
theorem thenQ_exit (K : Env → AH → Prop) (Q : Exit → Env → AH → Prop) (e : Env) (H : AH) (id : Nat) : thenQ K Q (.exit id) e H = Q (.exit id) e H := rfl
theorem blockQ_normal (id : Nat) (Q : Exit → Env → AH → Prop) (e : Env) (H : AH) : blockQ id Q .normal e H = Q .normal e H := rfl
theorem blockQ_ret (id : Nat) (Q : Exit → Env → AH → Prop) (e : Env) (H : AH) : blockQ id Q .ret e H = Q .ret e H := rfl
theorem blockQ_exit (id i : Nat) (Q : Exit → Env → AH → Prop) (e : Env) (H : AH) : blockQ id Q (.exit i) e H = if i = id then Q .normal e H else Q (.exit i) e H := rfl
theorem loopQ_normal (I : Nat → Env → AH → Prop) (m : Nat) (ds : List Nat) (e : Env) (Q : Exit → Env → AH → Prop) (e' : Env) (H' : AH) : loopQ I m ds e Q .normal e' H' = ((∃ m', m' < m ∧ I m' e' H') ∧ Agree ds e e') := rfl
theorem loopQ_ret (I : Nat → Env → AH → Prop) (m : Nat) (ds : List Nat) (e : Env) (Q : Exit → Env → AH → Prop) (e' : Env) (H' : AH) : loopQ I m ds e Q .ret e' H' = Q .ret e' H' := rfl
theorem loopQ_exit (I : Nat → Env → AH → Prop) (m : Nat) (ds : List Nat) (e : Env) (Q : Exit → Env → AH → Prop) (e' : Env) (H' : AH) (i : Nat) : loopQ I m ds e Q (.exit i) e' H' = Q (.exit i) e' H' := rfl
theorem bodyQ_ret (P : Program) (rs : List ResultVar) (post : Value → AH → Prop) (e : Env) (H : AH) : bodyQ P rs post .ret e H = optK (resV P e H rs) fun d => post d H := rfl
theorem bodyQ_normal (P : Program) (rs : List ResultVar) (post : Value → AH → Prop) (e : Env) (H : AH) : bodyQ P rs post .normal e H = optK (resV P e H rs) fun d => post d H := rfl
theorem resV_nil (P : Program) (e : Env) (H : AH) : resV P e H [] = some (.tuple #[]) := rfl
theorem resV_more (P : Program) (e : Env) (H : AH) (a b : ResultVar) (l : List ResultVar) : resV P e H (a :: b :: l) = (res1 P e H a).bind fun v => (res1 P e H b).bind fun u => (resL P e H l).bind fun vs => some (.tuple (v :: u :: vs).toArray) := by
  have h : resL P e H (a :: b :: l) = (res1 P e H a).bind fun v => ((res1 P e H b).bind fun u => (resL P e H l).map fun vs => u :: vs).map fun vs => v :: vs := rfl
  show (resL P e H (a :: b :: l)).map _ = _
  rw [h]
  cases res1 P e H a with
  | none => rfl
  | some v =>
    cases res1 P e H b with
    | none => rfl
    | some u => cases resL P e H l <;> rfl
theorem resL_nil (P : Program) (e : Env) (H : AH) : resL P e H [] = some [] := rfl
theorem resL_cons (P : Program) (e : Env) (H : AH) (r : ResultVar) (rs : List ResultVar) : resL P e H (r :: rs) = (res1 P e H r).bind fun v => (resL P e H rs).bind fun vs => some (v :: vs) := by
  show (res1 P e H r).bind _ = _
  congr 1
  funext v
  cases resL P e H rs <;> rfl
theorem res1_tmp (P : Program) (e : Env) (H : AH) (t : Nat) : res1 P e H (.tmp t) = some (e t) := rfl
theorem res1_cell (P : Program) (e : Env) (H : AH) (x t : Nat) : res1 P e H (.cell x t) = loadV P H t (e x) := rfl
theorem resV_tmp (P : Program) (e : Env) (H : AH) (t : Nat) : resV P e H [.tmp t] = some (e t) := rfl
theorem resV_cell (P : Program) (e : Env) (H : AH) (x t : Nat) : resV P e H [.cell x t] = loadV P H t (e x) := rfl

/-! ### What follows, behind a name (and no hypothesis) -/
structure KT (A : Env → AH → Prop) where
  K : Env → AH → Prop
  go : ∀ e H, A e H → K e H
structure KV (A : Value → AH → Prop) where
  K : Value → AH → Prop
  go : ∀ e H, A e H → K e H
structure KQ (A : Value → Prop) where
  K : Value → Prop
  go : ∀ e, A e → K e
theorem KT.run {A : Env → AH → Prop} (k : KT A) {e : Env} {H : AH} (h : A e H) : k.K e H := k.go e H h
theorem KV.run {A : Value → AH → Prop} (k : KV A) {e : Value} {H : AH} (h : A e H) : k.K e H := k.go e H h
theorem KQ.run {A : Value → Prop} (k : KQ A) {e : Value} (h : A e) : k.K e := k.go e h

/-! ### The steps of a walk: what follows stands behind a variable -/
section
variable {P : Program} {n B : Nat} {ops : Array Oper} {K : Env → AH → Prop} {l : List Oper} {e : Env} {H : AH} {d : Option Tmp} {op : Op} {ty : TypeId} {p : String} {af : Array Edge} {Q : Exit → Env → AH → Prop}

theorem AWp.seqH {x y : Code} (h : ∀ k : KT (AWp P n B y Q), AWp P n B x (thenQ k.K Q) e H) : AWp P n B (.seq x y) Q e H := AWp.seq (h ⟨_, fun _ _ h => h⟩)
theorem aops_callH {g : FuncId} {caps : Array Value} {f : Operand} {args : Array Operand} {ats : Array TypeId} (hf : ev e f = .func (.func g) #[] caps)
    (h : ∀ k : KV (fun v H' => aops P B ops K l (put e d v) H'), ACalls P B g (args.toList.map (ev e) ++ caps.toList) H k.K) :
    aops P B ops K (⟨d, .call ⟨.value f, args, ats⟩, ty, p, af, none⟩ :: l) e H := by
  rw [aops_call, hf, callK_func]
  exact h ⟨_, fun _ _ h => h⟩
theorem qops_callH {Kq : Env → Prop} {g : FuncId} {caps : Array Value} {f : Operand} {args : Array Operand} {ats : Array TypeId} (hf : ev e f = .func (.func g) #[] caps)
    (h : ∀ k : KQ (fun v => qops P ops H Kq l (put e d v)), qcallK P (.func (.func g) #[] caps) (args.toList.map (ev e)) H k.K) :
    qops P ops H Kq (⟨d, .call ⟨.value f, args, ats⟩, ty, p, af, none⟩ :: l) e := by
  rw [qops_call, hf]
  exact h ⟨_, fun _ h => h⟩
theorem aops_take (j : Nat) (b : Bool) (h : yieldA ops e j = some b) : aops P B ops K (⟨d, op, ty, p, af, some (j, b)⟩ :: l) e H = aops P B ops K (⟨d, op, ty, p, af, none⟩ :: l) e H := by rw [aops_gate, h]; cases b <;> rfl
theorem aops_skip_t (j : Nat) (h : yieldA ops e j = some false) : aops P B ops K (⟨d, op, ty, p, af, some (j, true)⟩ :: l) e H = aops P B ops K l (put e d undef) H := by rw [aops_gate, h]; rfl
theorem aops_skip_f (j : Nat) (h : yieldA ops e j = some true) : aops P B ops K (⟨d, op, ty, p, af, some (j, false)⟩ :: l) e H = aops P B ops K l (put e d undef) H := by rw [aops_gate, h]; rfl
theorem aops_skip_n (j : Nat) (b : Bool) (h : yieldA ops e j = none) : aops P B ops K (⟨d, op, ty, p, af, some (j, b)⟩ :: l) e H = aops P B ops K l (put e d undef) H := by rw [aops_gate, h]; rfl
theorem qops_take {Kq : Env → Prop} (j : Nat) (b : Bool) (h : yieldA ops e j = some b) : qops P ops H Kq (⟨d, op, ty, p, af, some (j, b)⟩ :: l) e = qops P ops H Kq (⟨d, op, ty, p, af, none⟩ :: l) e := by rw [qops_gate, h]; cases b <;> rfl
theorem qops_skip_t {Kq : Env → Prop} (j : Nat) (h : yieldA ops e j = some false) : qops P ops H Kq (⟨d, op, ty, p, af, some (j, true)⟩ :: l) e = qops P ops H Kq l (put e d undef) := by rw [qops_gate, h]; rfl
theorem qops_skip_f {Kq : Env → Prop} (j : Nat) (h : yieldA ops e j = some true) : qops P ops H Kq (⟨d, op, ty, p, af, some (j, false)⟩ :: l) e = qops P ops H Kq l (put e d undef) := by rw [qops_gate, h]; rfl
theorem qops_skip_n {Kq : Env → Prop} (j : Nat) (b : Bool) (h : yieldA ops e j = none) : qops P ops H Kq (⟨d, op, ty, p, af, some (j, b)⟩ :: l) e = qops P ops H Kq l (put e d undef) := by rw [qops_gate, h]; rfl
theorem ACalls.enter {f : FuncId} {fn : Func} {c : Code} {args : List Value} {post : Value → AH → Prop} {rs : List ResultVar} (hf : P.funcs[f]? = some fn) (hb : fn.body = some c) (hn : fn.ntmps = n) (hrs : fn.results.toList = rs)
    (hname : (fn.name == "runtime.NumGoroutine") = false) (hok : codeOk n c = true) (hres : rs.all (resOk n) = true) (hlen : args.length ≤ n)
    (h : AWp P n B c (bodyQ P rs post) (env0 args) H) : ACalls P B f args H post := by
  subst hn; subst hrs
  exact ACalls.intro hf hb hname hok hres hlen h
theorem env0_zero (v : Value) (l : List Value) : env0 (v :: l) 0 = v := rfl
theorem env0_succ (v : Value) (l : List Value) (i : Nat) : env0 (v :: l) (i + 1) = env0 l i := rfl
theorem env0_nil (i : Nat) : env0 [] i = undef := rfl
end

/-- ALL EQUATIONS of a walk, in one. -/
theorem wk : type_of% (And.intro (And.intro (And.intro (And.intro (And.intro (And.intro (@bin_beql) (And.intro (@bin_bneq) (@bodyQ_normal))) (And.intro (And.intro (@resV_nil) (@resV_more)) (And.intro (@resL_nil) (@resL_cons)))) (And.intro (And.intro (And.intro (@res1_tmp) (@res1_cell)) (And.intro (@nilY_tmp) (@nilY_int))) (And.intro (And.intro (@nilY_bool) (@nilY_str)) (And.intro (@nilY_func) (@nilY_iface))))) (And.intro (And.intro (And.intro (@nilY_ptr) (And.intro (@aops_eqNil) (@aops_neNil))) (And.intro (And.intro (@aops_clear) (@aops_assign)) (And.intro (@qops_assign) (@aops_move)))) (And.intro (And.intro (And.intro (@qops_move) (@aops_pick)) (And.intro (@qops_pick) (@aops_binOp))) (And.intro (And.intro (@qops_binOp) (@aops_unOp)) (And.intro (@qops_unOp) (@aops_convert)))))) (And.intro (And.intro (And.intro (And.intro (@qops_convert) (And.intro (@aops_nilCheck) (@qops_nilCheck))) (And.intro (And.intro (@aops_fieldAddr) (@qops_fieldAddr)) (And.intro (@aops_field) (@qops_field)))) (And.intro (And.intro (And.intro (@aops_indexAddr) (@qops_indexAddr)) (And.intro (@aops_index) (@qops_index))) (And.intro (And.intro (@aops_load) (@qops_load)) (And.intro (@aops_slice) (@qops_slice))))) (And.intro (And.intro (And.intro (And.intro (@aops_extract) (@qops_extract)) (And.intro (@aops_build) (@qops_build))) (And.intro (And.intro (@aops_makeInterface) (@qops_makeInterface)) (And.intro (@aops_makeFunc) (@qops_makeFunc)))) (And.intro (And.intro (And.intro (@aops_len) (@qops_len)) (And.intro (@aops_min) (@qops_min))) (And.intro (And.intro (@aops_max) (@qops_max)) (And.intro (@aops_nil) (@aops_box))))))) (And.intro (And.intro (And.intro (And.intro (And.intro (@aops_alloc) (And.intro (@aops_store) (@aops_buildSlice))) (And.intro (And.intro (@aops_makeSlice) (@aops_append)) (And.intro (@optK_some) (@optP_some)))) (And.intro (And.intro (And.intro (@cK_true) (@optK_ite)) (And.intro (@optP_ite) (@qops_nil))) (And.intro (And.intro (@aops_take) (@aops_skip_t)) (And.intro (@aops_skip_f) (@aops_skip_n))))) (And.intro (And.intro (And.intro (And.intro (@qops_take) (@qops_skip_t)) (And.intro (@qops_skip_f) (@qops_skip_n))) (And.intro (And.intro (@env0_zero) (@env0_succ)) (And.intro (@env0_nil) (@thenQ_normal)))) (And.intro (And.intro (And.intro (@thenQ_ret) (@thenQ_exit)) (And.intro (@blockQ_normal) (@blockQ_ret))) (And.intro (And.intro (@blockQ_exit) (@loopQ_normal)) (And.intro (@loopQ_ret) (@loopQ_exit)))))) (And.intro (And.intro (And.intro (And.intro (@bodyQ_ret) (And.intro (@resV_tmp) (@resV_cell))) (And.intro (And.intro (@put_at) (@put_none)) (And.intro (@ev_tmp) (@ev_const)))) (And.intro (And.intro (And.intro (@ev_func) (@yieldA_lit)) (And.intro (@yieldL_zero) (@yieldL_succ))) (And.intro (And.intro (@boolOf_bool) (@boolOf_undef)) (And.intro (@bin_add) (@bin_sub))))) (And.intro (And.intro (And.intro (And.intro (@bin_mul) (@bin_quo)) (And.intro (@bin_rem) (@bin_eql))) (And.intro (And.intro (@bin_neq) (@bin_lss)) (And.intro (@bin_leq) (@bin_gtr)))) (And.intro (And.intro (And.intro (@bin_geq) (@bin_seql)) (And.intro (@bin_sneq) (@un_not))) (And.intro (And.intro (@un_neg) (@pick_t)) (And.intro (@pick_f) (@pick_b)))))))) := And.intro (And.intro (And.intro (And.intro (And.intro (And.intro (@bin_beql) (And.intro (@bin_bneq) (@bodyQ_normal))) (And.intro (And.intro (@resV_nil) (@resV_more)) (And.intro (@resL_nil) (@resL_cons)))) (And.intro (And.intro (And.intro (@res1_tmp) (@res1_cell)) (And.intro (@nilY_tmp) (@nilY_int))) (And.intro (And.intro (@nilY_bool) (@nilY_str)) (And.intro (@nilY_func) (@nilY_iface))))) (And.intro (And.intro (And.intro (@nilY_ptr) (And.intro (@aops_eqNil) (@aops_neNil))) (And.intro (And.intro (@aops_clear) (@aops_assign)) (And.intro (@qops_assign) (@aops_move)))) (And.intro (And.intro (And.intro (@qops_move) (@aops_pick)) (And.intro (@qops_pick) (@aops_binOp))) (And.intro (And.intro (@qops_binOp) (@aops_unOp)) (And.intro (@qops_unOp) (@aops_convert)))))) (And.intro (And.intro (And.intro (And.intro (@qops_convert) (And.intro (@aops_nilCheck) (@qops_nilCheck))) (And.intro (And.intro (@aops_fieldAddr) (@qops_fieldAddr)) (And.intro (@aops_field) (@qops_field)))) (And.intro (And.intro (And.intro (@aops_indexAddr) (@qops_indexAddr)) (And.intro (@aops_index) (@qops_index))) (And.intro (And.intro (@aops_load) (@qops_load)) (And.intro (@aops_slice) (@qops_slice))))) (And.intro (And.intro (And.intro (And.intro (@aops_extract) (@qops_extract)) (And.intro (@aops_build) (@qops_build))) (And.intro (And.intro (@aops_makeInterface) (@qops_makeInterface)) (And.intro (@aops_makeFunc) (@qops_makeFunc)))) (And.intro (And.intro (And.intro (@aops_len) (@qops_len)) (And.intro (@aops_min) (@qops_min))) (And.intro (And.intro (@aops_max) (@qops_max)) (And.intro (@aops_nil) (@aops_box))))))) (And.intro (And.intro (And.intro (And.intro (And.intro (@aops_alloc) (And.intro (@aops_store) (@aops_buildSlice))) (And.intro (And.intro (@aops_makeSlice) (@aops_append)) (And.intro (@optK_some) (@optP_some)))) (And.intro (And.intro (And.intro (@cK_true) (@optK_ite)) (And.intro (@optP_ite) (@qops_nil))) (And.intro (And.intro (@aops_take) (@aops_skip_t)) (And.intro (@aops_skip_f) (@aops_skip_n))))) (And.intro (And.intro (And.intro (And.intro (@qops_take) (@qops_skip_t)) (And.intro (@qops_skip_f) (@qops_skip_n))) (And.intro (And.intro (@env0_zero) (@env0_succ)) (And.intro (@env0_nil) (@thenQ_normal)))) (And.intro (And.intro (And.intro (@thenQ_ret) (@thenQ_exit)) (And.intro (@blockQ_normal) (@blockQ_ret))) (And.intro (And.intro (@blockQ_exit) (@loopQ_normal)) (And.intro (@loopQ_ret) (@loopQ_exit)))))) (And.intro (And.intro (And.intro (And.intro (@bodyQ_ret) (And.intro (@resV_tmp) (@resV_cell))) (And.intro (And.intro (@put_at) (@put_none)) (And.intro (@ev_tmp) (@ev_const)))) (And.intro (And.intro (And.intro (@ev_func) (@yieldA_lit)) (And.intro (@yieldL_zero) (@yieldL_succ))) (And.intro (And.intro (@boolOf_bool) (@boolOf_undef)) (And.intro (@bin_add) (@bin_sub))))) (And.intro (And.intro (And.intro (And.intro (@bin_mul) (@bin_quo)) (And.intro (@bin_rem) (@bin_eql))) (And.intro (And.intro (@bin_neq) (@bin_lss)) (And.intro (@bin_leq) (@bin_gtr)))) (And.intro (And.intro (And.intro (@bin_geq) (@bin_seql)) (And.intro (@bin_sneq) (@un_not))) (And.intro (And.intro (@un_neg) (@pick_t)) (And.intro (@pick_f) (@pick_b)))))))

end Go.BM

/- '==' of structs. -/
set_option linter.unusedVariables false
namespace Go.BM
open Go.RowKit
section
variable {P : Program} {d : Nat} {xs ys : Array Value} {f : Field} {fs : List Field} {a b : Value} {r s : Bool} {w : World}
theorem eqf_one (hn : (f.name == "_") = false) (ha : (part f.type xs f.offset).run P w = .ok a w) (hb : (part f.type ys f.offset).run P w = .ok b w) (he : (Op.equalIn d f.type a b).run P w = .ok r w) : (Op.eqFields d xs ys [f]).run P w = .ok r w := by
  have hn' : f.name ≠ "_" := by simpa using hn
  simp only [Op.eqFields, if_pos hn', Sem.run_bind, ha, hb, he, Result.andThen_ok]
  cases r <;> simp
theorem eqf_more (hn : (f.name == "_") = false) (ha : (part f.type xs f.offset).run P w = .ok a w) (hb : (part f.type ys f.offset).run P w = .ok b w) (he : (Op.equalIn d f.type a b).run P w = .ok r w) (hr : (Op.eqFields d xs ys fs).run P w = .ok s w) : (Op.eqFields d xs ys (f :: fs)).run P w = .ok (r && s) w := by
  have hn' : f.name ≠ "_" := by simpa using hn
  rw [Op.eqFields]
  simp only [if_pos hn', Sem.run_bind, ha, hb, he, Result.andThen_ok]
  cases r
  · simp
  · simpa using hr
theorem eqs_of {t : TypeId} {fs : Array Field} (hu : P.underlying t = some (.struct fs)) (hp : P.stoodInHeld t = false) (h : (Op.eqFields d xs ys fs.toList).run P w = .ok r w) : (Op.equalIn (d + 1) t (.agg xs) (.agg ys)).run P w = .ok r w := by
  have hf : P.fieldsOf t = fs := by simp [Program.fieldsOf, hu]
  rw [run_equalIn_struct (P := P) w d t xs ys (by rw [hf]; exact hu) hp, hf]
  exact h
theorem eql_of (D : Nat) {t : TypeId} {xo yo : Operand} (hD : D ≤ 10000) (hx : pureV (.agg xs) = true) (hy : pureV (.agg ys) = true) (hm : P.eqGuardType P.depth t = false) (h : ∀ d w, (Op.equalIn (d + D) t (.agg xs) (.agg ys)).run P w = .ok r w) : binS P .eql t xo yo (.agg xs) (.agg ys) = some (.bool r) :=
  bin_of t xo yo hx hy rfl fun w => by
    have h' := h (10000 - D) w
    rw [Nat.sub_add_cancel hD] at h'
    rw [Sem.run_bind, run_eqGuard_agg w .eql t xo yo _ _ hm, Result.andThen_ok, run_eql_struct, h']
    rfl
theorem neq_of (D : Nat) {t : TypeId} {xo yo : Operand} (hD : D ≤ 10000) (hx : pureV (.agg xs) = true) (hy : pureV (.agg ys) = true) (hm : P.eqGuardType P.depth t = false) (h : ∀ d w, (Op.equalIn (d + D) t (.agg xs) (.agg ys)).run P w = .ok r w) : binS P .neq t xo yo (.agg xs) (.agg ys) = some (.bool (!r)) :=
  bin_of t xo yo hx hy rfl fun w => by
    have h' := h (10000 - D) w
    rw [Nat.sub_add_cancel hD] at h'
    rw [Sem.run_bind, run_eqGuard_agg w .neq t xo yo _ _ hm, Result.andThen_ok, run_neq_struct, h']
    rfl
end
end Go.BM

/- Values that are only read: lent to a call, and handed on. -/
set_option linter.unusedVariables false
set_option linter.unusedSimpArgs false
namespace Go.BM
open Go.RowKit

/-- A value that leads to no block of ours. -/
inductive Im : Value → Prop
  | flat (v : Value) (h : flatV v = true) : Im v
  | agg (xs : Array Value) (h : ∀ i (hi : i < xs.size), Im xs[i]) : Im (.agg xs)
  | tuple (xs : Array Value) (h : ∀ i (hi : i < xs.size), Im xs[i]) : Im (.tuple xs)
  | func (fn : Fn) (fst cs : Array Value) (h : ∀ i (hi : i < cs.size), Im cs[i]) : Im (.func fn fst cs)

theorem VR.im {σ σ' : Sg} {H H' : AH} {v d : Value} (h : VR σ H v d) (hd : Im d) (hσ : ∀ a u, σ.im a = some u → σ'.im a = some u) : VR σ' H' v d := by
  induction h with
  | flat v h => exact .flat v h
  | mt a d ver hd' => cases hd with | flat _ h => simp [flatV] at h
  | ptr r off ver blk h hv ho => cases hd with | flat _ h => simp [flatV] at h
  | sptr r off ver blk h hv a => cases hd with | flat _ h => simp [flatV] at h
  | slice r off len cap ver sp blk h hv ho hl hsp hm hc => cases hd with | flat _ h => simp [flatV] at h
  | stale r off len ver sp blk h hv a l c => cases hd with | flat _ h => simp [flatV] at h
  | agg xs ys hs h ih =>
    cases hd with
    | flat _ h => simp [flatV] at h
    | agg _ h' => exact .agg xs ys hs fun i h1 h2 => ih i h1 h2 (h' i h2)
  | tuple xs ys hs h ih =>
    cases hd with
    | flat _ h' =>
      have h0 : ys.size = 0 := by simpa [flatV] using h'
      exact .tuple xs ys hs fun i h1 h2 => by omega
    | tuple _ h' => exact .tuple xs ys hs fun i h1 h2 => ih i h1 h2 (h' i h2)
  | func fn xs ys hs h ih =>
    cases hd with
    | flat _ h => simp [flatV] at h
    | func _ _ _ h' => exact .func fn xs ys hs fun i h1 h2 => ih i h1 h2 (h' i h2)
  | isl b o len cap us cs hl hm hs him h ih =>
    cases hd with
    | flat _ h => simp [flatV] at h
    | func _ _ _ h' => exact .isl b o len cap us cs hl hm hs (fun j hj => hσ _ _ (him j hj)) fun i h1 h2 => ih i h1 h2 (h' i h2)
  | isl0 a cap hm => exact .isl0 a cap hm
  | ip b o us cs hs him h ih =>
    cases hd with
    | flat _ h => simp [flatV] at h
    | func _ _ _ h' => exact .ip b o us cs hs (fun j hj => hσ _ _ (him j hj)) fun i h1 h2 => ih i h1 h2 (h' i h2)

theorem Im.isl {n : Nat} {cs : List Value} (h : ∀ c ∈ cs, Im c) : Im (BM.isl n cs) := .func _ _ _ fun i hi => h _ (by simp at hi ⊢)
theorem Im.ip {cs : List Value} (h : ∀ c ∈ cs, Im c) : Im (BM.ip cs) := .func _ _ _ fun i hi => h _ (by simp at hi ⊢)
theorem Im.aggL {cs : List Value} (h : ∀ c ∈ cs, Im c) : Im (.agg cs.toArray) := .agg _ fun i hi => h _ (by simp at hi ⊢)
theorem Im.tupleL {cs : List Value} (h : ∀ c ∈ cs, Im c) : Im (.tuple cs.toArray) := .tuple _ fun i hi => h _ (by simp at hi ⊢)
theorem Im.funcL {g : Fn} {cs : List Value} (h : ∀ c ∈ cs, Im c) : Im (.func g #[] cs.toArray) := .func _ _ _ fun i hi => h _ (by simp at hi ⊢)
theorem Im.nilL : ∀ c ∈ ([] : List Value), Im c := fun c h => by simp at h
theorem Im.consL {x : Value} {l : List Value} (hx : Im x) (hl : ∀ c ∈ l, Im c) : ∀ c ∈ x :: l, Im c := fun c h => by
  rcases List.mem_cons.1 h with rfl | h
  · exact hx
  · exact hl c h

/-! ### What our blocks hold, as memory that stays -/
open Classical in
/-- All that can be read now. -/
noncomputable def snap (σ : Sg) (H : AH) (w : World) : Sg :=
  ⟨σ.loc, fun a => match σ.im a with
    | some u => some u
    | none => if ∃ r blk, H[r]? = some blk ∧ blk.own = true ∧ (σ r).b = a.block ∧ a.off < blk.cs.length ∧ a.spot = none then w.cell? a else none⟩

theorem snap_im {σ : Sg} {H : AH} {w : World} {a : Addr} {u : Value} (h : σ.im a = some u) : (snap σ H w).im a = some u := by
  unfold snap
  simp only [h]

theorem snap_cell {σ : Sg} {H : AH} {w : World} (hS : Sim σ H w) {r : Nat} {blk : Blk} (hb : H[r]? = some blk) (ho : blk.own = true) {j : Nat} {v : Value} (hj : blk.cs[j]? = some v) :
    ∃ u, (snap σ H w).im ⟨(σ r).b, (σ r).base + j, none⟩ = some u ∧ VR σ H u v := by
  obtain ⟨u, hu, hv, _⟩ := hS.cell hb ho hj
  obtain ⟨c, h1, h2, h3, h4, h5⟩ := hS.own r blk hb ho
  refine ⟨u, ?_, hv⟩
  unfold snap
  dsimp only
  cases him : σ.im ⟨(σ r).b, (σ r).base + j, none⟩ with
  | some u' =>
    have := hS.sep _ _ him r blk hb ho
    exact absurd rfl this
  | none =>
    dsimp only
    rw [if_pos ⟨r, blk, hb, ho, rfl, by rw [h2, Nat.zero_add]; exact lt_of_some'' hj, rfl⟩]
    exact hu

theorem snap_sim {σ : Sg} {H : AH} {w : World} (hS : Sim σ H w) : Sim (snap σ H w) [] w where
  own := fun r blk h => by simp at h
  im := fun a u h => by
    unfold snap at h
    dsimp only at h
    cases him : σ.im a with
    | some u' =>
      rw [him] at h
      cases h
      exact hS.im a _ him
    | none =>
      rw [him] at h
      dsimp only at h
      split at h
      case isFalse => cases h
      rename_i hx
      obtain ⟨r, blk, hb, ho, h1, h2, h3⟩ := hx
      obtain ⟨c, k1, k2, k3, k4, k5⟩ := hS.own r blk hb ho
      obtain ⟨u', g1, g2, g3⟩ := hS.cell hb ho (List.getElem?_eq_getElem h2)
      obtain ⟨ab, ao, as'⟩ := a
      dsimp only at h1 h2 h3
      subst h3
      rw [← h1] at h ⊢
      rw [k2, Nat.zero_add] at g1
      rw [g1] at h
      cases h
      exact ⟨g1, rfl, g3⟩
  sep := fun a u h r blk hb => by simp at hb
  inj := fun r r' blk blk' h => by simp at h
  glob := hS.glob.keep (fun a u h => snap_im h) fun _ _ _ => rfl

/-- A value as it is lent: what leads to our blocks is told by what they hold. -/
inductive Bor (H : AH) : Value → Value → Prop
  | same (v : Value) (h : Im v) : Bor H v v
  | nil : Bor H (.slice none 0 0) (isl 0 [])
  | own (r off : Nat) (sp : Option Nat) (len : Nat) (blk : Blk) (cs : List Value) (h : H[r]? = some blk) (ho : blk.own = true) (hl : off + cs.length ≤ blk.cs.length) (hn : len = 0 → cs = [])
      (hb : ∀ i (h1 : i < cs.length), Bor H (blk.cs[off + i]'(by omega)) cs[i]) : Bor H (.slice (some ⟨r, off, sp⟩) len blk.ver) (isl len cs)
  | emp (r off : Nat) (sp : Option Nat) (ver : Nat) (blk : Blk) (h : H[r]? = some blk) (hv : blk.ver = ver) : Bor H (.slice (some ⟨r, off, sp⟩) 0 ver) (isl 0 [])
  | ptr (r off : Nat) (blk : Blk) (cs : List Value) (h : H[r]? = some blk) (ho : blk.own = true) (hl : off + cs.length ≤ blk.cs.length)
      (hb : ∀ i (h1 : i < cs.length), Bor H (blk.cs[off + i]'(by omega)) cs[i]) : Bor H (.pointer (some ⟨r, off, some blk.ver⟩)) (ip cs)
  | agg (xs ys : Array Value) (hs : xs.size = ys.size) (h : ∀ i (h1 : i < xs.size) (h2 : i < ys.size), Bor H xs[i] ys[i]) : Bor H (.agg xs) (.agg ys)
  | func (fn : Fn) (xs ys : Array Value) (hs : xs.size = ys.size) (h : ∀ i (h1 : i < xs.size) (h2 : i < ys.size), Bor H xs[i] ys[i]) : Bor H (.func fn #[] xs) (.func fn #[] ys)
  | tuple (xs ys : Array Value) (hs : xs.size = ys.size) (h : ∀ i (h1 : i < xs.size) (h2 : i < ys.size), Bor H xs[i] ys[i]) : Bor H (.tuple xs) (.tuple ys)

/-- Cells of a block, lent one by one. -/
theorem bor_cells {σ σ' : Sg} {H : AH} {w : World} (hS : Sim σ H w) {r off : Nat} {blk : Blk} {cs : List Value} (h : H[r]? = some blk) (ho : blk.own = true) (hl : off + cs.length ≤ blk.cs.length)
    (ih : ∀ i (h1 : i < cs.length), ∀ u, VR σ H u (blk.cs[off + i]'(by omega)) → VR σ' [] u cs[i]) (hσ : ∀ a u, (snap σ H w).im a = some u → σ'.im a = some u) :
    ∃ us : List Value, us.length = cs.length ∧ (∀ (j : Nat) u, us[j]? = some u → σ'.im ⟨(σ r).b, (σ r).base + off + j, none⟩ = some u) ∧ ∀ (j : Nat) u, cs[j]? = some u → ∃ x, us[j]? = some x ∧ VR σ' [] x u := by
  have : ∀ n, n ≤ cs.length → ∃ us : List Value, us.length = n ∧ (∀ (j : Nat) u, us[j]? = some u → σ'.im ⟨(σ r).b, (σ r).base + off + j, none⟩ = some u) ∧ ∀ (j : Nat) u, j < n → cs[j]? = some u → ∃ x, us[j]? = some x ∧ VR σ' [] x u := by
    intro n
    induction n with
    | zero => exact fun _ => ⟨[], rfl, fun j u hu => by simp at hu, fun j u hj => by omega⟩
    | succ n ihn =>
      intro hn
      obtain ⟨us, l1, l2, l3⟩ := ihn (by omega)
      obtain ⟨u, hu, hv⟩ := snap_cell hS h ho (j := off + n) (List.getElem?_eq_getElem (by omega))
      have hv' := ih n (by omega) u hv
      refine ⟨us ++ [u], by simp [l1], fun j x hx => ?_, fun j x hj hx => ?_⟩
      · rcases Nat.lt_or_ge j us.length with hj | hj
        · rw [List.getElem?_append_left hj] at hx; exact l2 j x hx
        · rw [List.getElem?_append_right hj] at hx
          have := lt_of_some'' hx
          simp at this
          have hj0 : j - us.length = 0 := by omega
          rw [hj0] at hx
          simp at hx
          subst hx
          have : j = n := by omega
          subst this
          rw [Nat.add_assoc]
          exact hσ _ _ hu
      · rcases Nat.lt_or_ge j n with h' | h'
        · rw [List.getElem?_append_left (by omega)]; exact l3 j x h' hx
        · have : j = n := by omega
          subst this
          rw [List.getElem?_append_right (by omega), l1, Nat.sub_self]
          rw [List.getElem?_eq_getElem (by omega)] at hx
          cases hx
          exact ⟨u, rfl, hv'⟩
  obtain ⟨us, l1, l2, l3⟩ := this cs.length (Nat.le_refl _)
  exact ⟨us, l1, l2, fun j u hj => l3 j u (lt_of_some'' hj) hj⟩

theorem bor_vr {σ : Sg} {H : AH} {w : World} (hS : Sim σ H w) {d d' : Value} (h : Bor H d d') : ∀ v, VR σ H v d → VR (snap σ H w) [] v d' := by
  induction h with
  | same v h => exact fun u hu => hu.im h fun a x => snap_im
  | nil =>
    intro v hv
    obtain ⟨a, rfl⟩ := hv.sliceNil rfl
    have := VR.isl0 (σ := snap σ H w) (H := []) a 0 (Nat.zero_le _)
    simpa [isl] using this
  | own r off sp len blk cs h ho hl hn hb ih =>
    intro v hv
    have hg : getB H r blk.ver = some blk.cs := by simp [getB, h, ho]
    rcases hv.sliceI hg with ⟨rfl, _, a, rfl⟩ | ⟨cap, blk', hb', rfl, hlc, hsp, hcm, hcn⟩
    · have hcs := hn rfl
      subst hcs
      have := VR.isl0 (σ := snap σ H w) (H := []) a 0 (Nat.zero_le _)
      simpa [isl] using this
    · obtain ⟨us, l1, l2, l3⟩ := bor_cells hS h ho hl ih (fun _ _ h => h)
      exact VR.mkI hlc hcm l1 l2 l3
  | emp r off sp ver blk h hv =>
    intro v hv'
    cases hv' with
    | flat _ h => simp [flatV] at h
    | mt a _ _ hd =>
      have := VR.isl0 (σ := snap σ H w) (H := []) a 0 (Nat.zero_le _)
      simpa [isl] using this
    | slice _ _ _ cap _ _ blk' h' hv2 ho hl hsp hm hc =>
      have := VR.isl0 (σ := snap σ H w) (H := []) (some ⟨(σ r).b, (σ r).base + off, none⟩) cap hm
      simpa [isl] using this
    | stale _ _ _ _ _ blk' h' hv' => rw [h] at h'; cases h'; omega
  | ptr r off blk cs h ho hl hb ih =>
    intro v hv
    have hg : getB H r blk.ver = some blk.cs := by simp [getB, h, ho]
    have := hv.ptrI hg
    subst this
    obtain ⟨us, l1, l2, l3⟩ := bor_cells hS h ho hl ih (fun _ _ h => h)
    exact VR.mkP l1 l2 l3
  | agg xs ys hs h ih =>
    intro v hv
    obtain ⟨zs, rfl, hz, hv⟩ := hv.aggI
    exact .agg _ _ (hz.trans hs) fun i h1 h2 => ih i (by omega) h2 _ (hv i h1 (by omega))
  | func fn xs ys hs h ih =>
    intro v hv
    cases hv with
    | flat _ h => simp [flatV] at h
    | func _ zs _ hz hv => exact .func fn _ _ (hz.trans hs) fun i h1 h2 => ih i (by omega) h2 _ (hv i h1 (by omega))
  | tuple xs ys hs h ih =>
    intro v hv
    obtain ⟨zs, rfl, hz, hv⟩ := hv.tupleI
    exact .tuple _ _ (hz.trans hs) fun i h1 h2 => ih i (by omega) h2 _ (hv i h1 (by omega))

/-- Arguments, lent. -/
inductive BorL (H : AH) : List Value → List Value → Prop
  | nil : BorL H [] []
  | cons {x y : Value} {xs ys : List Value} (h : Bor H x y) (t : BorL H xs ys) : BorL H (x :: xs) (y :: ys)

theorem BorL.vr {σ : Sg} {H : AH} {w : World} (hS : Sim σ H w) {ds ds' : List Value} (h : BorL H ds ds') : ∀ vs, VRL σ H vs ds → VRL (snap σ H w) [] vs ds' := by
  induction h with
  | nil => exact fun vs hv => ⟨hv.1, fun j u hu => by simp at hu⟩
  | cons hx ht ih =>
    intro vs hv
    obtain ⟨h1, h2⟩ := hv
    cases vs with
    | nil => simp at h1
    | cons v vs =>
      obtain ⟨x, hx1, hx2⟩ := h2 0 _ rfl
      simp at hx1
      subst hx1
      have := ih vs ⟨by simpa using h1, fun j u hu => by simpa using h2 (j + 1) u (by simpa using hu)⟩
      refine ⟨by simpa using this.1, fun j u hu => ?_⟩
      cases j with
      | zero => simp at hu; subst hu; exact ⟨_, rfl, bor_vr hS hx _ hx2⟩
      | succ j => simpa using this.2 j u (by simpa using hu)

theorem BorL.same {H : AH} : ∀ {ds : List Value}, (∀ d ∈ ds, Im d) → BorL H ds ds
  | [], _ => .nil
  | d :: ds, h => .cons (.same d (h d (by simp))) (BorL.same fun x hx => h x (by simp [hx]))

theorem BorL.at {H : AH} {xs ys : List Value} (h : BorL H xs ys) : xs.length = ys.length ∧ ∀ (i : Nat) (h1 : i < xs.length) (h2 : i < ys.length), Bor H xs[i] ys[i] := by
  induction h with
  | nil => exact ⟨rfl, fun i h => by simp at h⟩
  | cons hx ht ih =>
    refine ⟨by simp [ih.1], fun i h1 h2 => ?_⟩
    cases i with
    | zero => exact hx
    | succ i => exact ih.2 i (by simpa using h1) (by simpa using h2)
theorem Bor.aggL {H : AH} {xs ys : List Value} (h : BorL H xs ys) : Bor H (.agg xs.toArray) (.agg ys.toArray) :=
  .agg _ _ (by simpa using h.at.1) fun i h1 h2 => h.at.2 i (by simpa using h1) (by simpa using h2)
theorem Bor.tupleL {H : AH} {xs ys : List Value} (h : BorL H xs ys) : Bor H (.tuple xs.toArray) (.tuple ys.toArray) :=
  .tuple _ _ (by simpa using h.at.1) fun i h1 h2 => h.at.2 i (by simpa using h1) (by simpa using h2)
theorem Bor.funcL {H : AH} {g : Fn} {xs ys : List Value} (h : BorL H xs ys) : Bor H (.func g #[] xs.toArray) (.func g #[] ys.toArray) :=
  .func _ _ _ (by simpa using h.at.1) fun i h1 h2 => h.at.2 i (by simpa using h1) (by simpa using h2)
/-- The whole of a block, lent as a slice. -/
theorem Bor.ownL {H : AH} {r : Nat} {sp : Option Nat} {len ver : Nat} {blk : Blk} {cs : List Value} (h : H[r]? = some blk) (hv : blk.ver = ver) (ho : blk.own = true) (hn : len = 0 → cs = []) (hb : ∃ l, BorL H l cs ∧ blk.cs.take cs.length = l) :
    Bor H (.slice (some ⟨r, 0, sp⟩) len ver) (isl len cs) := by
  subst hv
  obtain ⟨l, hb, rfl⟩ := hb
  have h1 := hb.at.1
  have hle : cs.length ≤ blk.cs.length := by simp at h1; omega
  refine .own r 0 sp len blk cs h ho (by omega) hn fun i hi => ?_
  have := hb.at.2 i (by simp; omega) hi
  simpa using this
theorem Bor.ptrL {H : AH} {r off ver : Nat} {blk : Blk} {cs : List Value} (h : H[r]? = some blk) (hv : blk.ver = ver) (ho : blk.own = true) (hb : ∃ l, BorL H l cs ∧ (blk.cs.drop off).take cs.length = l) (hoff : off ≤ blk.cs.length) :
    Bor H (.pointer (some ⟨r, off, some ver⟩)) (ip cs) := by
  subst hv
  obtain ⟨l, hb, rfl⟩ := hb
  have h1 := hb.at.1
  have hle : off + cs.length ≤ blk.cs.length := by simp at h1; omega
  refine .ptr r off blk cs h ho hle fun i hi => ?_
  have := hb.at.2 i (by simp; omega) hi
  simpa using this

/-! ### Calls that only read -/
/-- THE CONTRACT of a call that only reads: values in, a value out (perhaps in new memory). -/
def PCalls (P : Program) (f : FuncId) (args : List Value) (v : Value) : Prop := ACalls P 0 f args [] fun d H' => Bor H' d v

section
variable {P : Program} {B n : Nat} {σ : Sg} {H : AH} {w : World}

/-- Behind a call that began with an empty heap of lists all older blocks are as they were. -/
theorem Fut.below0 {σ σ' : Sg} {H' : AH} {w w' : World} (f : Fut 0 σ [] w σ' H' w') : Below w.heap.size w w' :=
  ⟨f.os, f.tape, f.output, f.size, fun k hk => f.frame k hk fun r blk h1 h2 => by simp at h2⟩

/-- What a call learned of memory that stays, kept. -/
theorem keep_sim {σ' : Sg} {H' : AH} {w' : World} (hS : Sim σ H w) (f : Fut 0 ⟨σ.loc, σ.im⟩ [] w σ' H' w') (hS' : Sim σ' H' w') :
    Fut B σ H w ⟨σ.loc, σ'.im⟩ H w' ∧ Sim ⟨σ.loc, σ'.im⟩ H w' := by
  have hb := f.below0
  have F : Fut B σ H w ⟨σ.loc, σ'.im⟩ H w' := {
    os := f.os
    tape := f.tape
    output := f.output
    size := f.size
    frame := fun k hk _ => hb.block k hk
    pre := fun _ _ => rfl
    preσ := fun _ _ _ => rfl
    keep := fun r blk h => ⟨blk, h, Nat.le_refl _, fun _ => ⟨rfl, rfl, rfl⟩⟩
    loc := fun r blk h ho => .inl ⟨blk, h, ho, rfl⟩
    imk := f.imk
    imn := fun a u hu => by
      rcases f.imn a u hu with h1 | h1 | ⟨r, blk, _, h1, _⟩
      · exact .inl h1
      · exact .inr (.inl h1)
      · simp at h1 }
  refine ⟨F, ⟨fun r blk h ho => ?_, hS'.im, fun a u hu r blk h ho => ?_, hS.inj, hS'.glob⟩⟩
  · obtain ⟨c, h1, h2, h3, h4, h5⟩ := hS.own r blk h ho
    refine ⟨c, by show w'.heap[(σ r).b]? = _; rw [hb.block _ (hS.lt h ho)]; exact h1, h2, h3, h4, fun j v hj => ?_⟩
    obtain ⟨u, a1, a2, a3⟩ := h5 j v hj
    exact ⟨u, a1, a2.fut F, a3⟩
  · have hlt := hS.lt h ho
    rcases F.imn a u hu with h1 | h1 | ⟨q, bq, _, h1, h2, h3⟩
    · exact hS.sep a u h1 r blk h ho
    · intro e
      have : (σ r).b = a.block := e
      omega
    · rcases f.imn a u hu with g1 | g1 | ⟨q', bq', _, g1, _⟩
      · exact hS.sep a u g1 r blk h ho
      · intro e
        have : (σ r).b = a.block := e
        omega
      · simp at g1

/-- A plain value comes of what is lent. -/
theorem ACalls.ofP {f : FuncId} {args args' : List Value} {v : Value} {k : Value → AH → Prop} (h : PCalls P f args' v) (hb : BorL H args args') (hv : pureV v = true) (hk : k v H) : ACalls P B f args H k :=
  ⟨h.1, fun σ w vals hS hB hvl => (h.2 (snap σ H w) w vals (snap_sim hS) (Nat.le_refl _) (hb.vr hS _ hvl)).mono fun e w' ⟨x, he, σ', H', d, h1, h2, h3, h4⟩ => by
    have hb := h1.below0
    have : x = v := (bor_vr h2 h4 x h3).pureE hv
    subst this
    exact ⟨x, he, σ, H, x, .of_below hb, hS.below hb, .ofPure hv, hk⟩⟩

theorem VRL.im {σ σ' : Sg} {H H' : AH} {vs ds : List Value} (h : VRL σ H vs ds) (hd : ∀ d ∈ ds, Im d) (hσ : ∀ a u, σ.im a = some u → σ'.im a = some u) : VRL σ' H' vs ds :=
  ⟨h.1, fun j u hu => by obtain ⟨x, h1, h2⟩ := h.2 j u hu; exact ⟨x, h1, h2.im (hd u (List.mem_of_getElem? hu)) hσ⟩⟩

/-- What is learned of new blocks by a look at them. -/
theorem snap_fut {σ0 σ' : Sg} {w w' : World} {H' : AH} (f : Fut 0 σ0 [] w σ' H' w') : Fut 0 σ0 [] w (snap σ' H' w') [] w' where
  os := f.os
  tape := f.tape
  output := f.output
  size := f.size
  frame := f.frame
  pre := fun r hr => by omega
  preσ := fun r hr => by omega
  keep := fun r blk h => by simp at h
  loc := fun r blk h => by simp at h
  imk := fun a u h => snap_im (f.imk a u h)
  imn := fun a u h => by
    unfold snap at h
    dsimp only at h
    cases him : σ'.im a with
    | some u' => rw [him] at h; cases h; exact f.imn a _ him
    | none =>
      rw [him] at h
      dsimp only at h
      split at h
      case isFalse => cases h
      rename_i hx
      obtain ⟨r, blk, hb, ho, h1, h2, h3⟩ := hx
      rcases f.loc r blk hb ho with ⟨b0, g1, _⟩ | g1
      · simp at g1
      · exact .inr (.inl (by rw [h1] at g1; exact g1))

/-- A value that only reads comes of values that only read. -/
theorem ACalls.ofI {f : FuncId} {args : List Value} {v : Value} {k : Value → AH → Prop} (h : PCalls P f args v) (hi : ∀ d ∈ args, Im d) (hv : Im v) (hk : k v H) : ACalls P B f args H k :=
  ⟨h.1, fun σ w vals hS hB hvl => by
    have hS0 : Sim ⟨σ.loc, σ.im⟩ [] w := ⟨fun r blk h => by simp at h, hS.im, fun a u h r blk hb => by simp at hb, fun r r' blk blk' h => by simp at h, hS.glob⟩
    refine (h.2 ⟨σ.loc, σ.im⟩ w vals hS0 (Nat.le_refl _) (hvl.im hi fun _ _ h => h)).mono fun e w' ⟨x, he, σ', H', d, h1, h2, h3, h4⟩ => ?_
    obtain ⟨F, S⟩ := keep_sim (B := B) hS (snap_fut h1) (snap_sim h2)
    exact ⟨x, he, _, H, v, F, S, (bor_vr h2 h4 x h3).im hv fun _ _ h => h, hk⟩⟩

/-- The contract of a function that only reads, out of a walk. -/
theorem PCalls.mk {f : FuncId} {args : List Value} {v : Value} (hv : Im v) (h : ACalls P 0 f args [] fun d _ => d = v) : PCalls P f args v :=
  h.mono fun d H' hd => by subst hd; exact .same _ hv
/-- Within a region in which nothing is made. -/
theorem qcallP {g : FuncId} {caps : Array Value} {args args' : List Value} {k : Value → Prop} {v : Value} (h : PCalls P g args' v) (hb : BorL H (args ++ caps.toList) args') (hv : pureV v = true) (hk : k v) : qcallK P (.func (.func g) #[] caps) args H k :=
  qcall_intro (B0 := H.length) (ACalls.ofP h hb hv rfl) rfl hv hk
end
end Go.BM

/- Slices as lists; how values and heaps are reckoned. -/
set_option linter.unusedVariables false
set_option linter.unusedSimpArgs false
namespace Go.BM
open Go.RowKit

instance : LawfulBEq ByteArray where
  eq_of_beq {a b} h := by
    rw [ba_beq] at h
    cases a; cases b
    simp at h
    rw [h]
  rfl {a} := by rw [ba_beq]; simp
/-- A cell that is only read. -/
structure Ok (c : Value) : Prop where
  im : Im c
  one : c.oneCell' = true
theorem Ok.int (k : IntKind) (i : Int) : Ok (.int k i) := ⟨.flat _ rfl, rfl⟩
theorem Ok.str (s : ByteArray) : Ok (.string s) := ⟨.flat _ rfl, rfl⟩
theorem Ok.bool (b : Bool) : Ok (.bool b) := ⟨.flat _ rfl, rfl⟩
theorem Ok.isl {n : Nat} {cs : List Value} (h : ∀ c ∈ cs, Ok c) : Ok (BM.isl n cs) := ⟨.isl fun c hc => (h c hc).im, rfl⟩
theorem Ok.nil : ∀ c ∈ ([] : List Value), Ok c := fun c h => by simp at h
theorem Ok.cons {x : Value} {l : List Value} (hx : Ok x) (hl : ∀ c ∈ l, Ok c) : ∀ c ∈ x :: l, Ok c := fun c h => by
  rcases List.mem_cons.1 h with rfl | h
  · exact hx
  · exact hl c h
/-- How a thing lies in memory. -/
structure Enc (α : Type) where
  val : α → Value
  sz : Nat
  agg : Bool
  hsz : ∀ x, (cellsV (val x)).length = sz
  hval : ∀ x, (if agg = true then val x = .agg (cellsV (val x)).toArray else cellsV (val x) = [val x])
  hpos : 0 < sz
  hok : ∀ x, ∀ c ∈ cellsV (val x), Ok c

def intE : Enc Int := ⟨fun x => .int .i64 x, 1, false, fun _ => rfl, fun _ => rfl, by decide, fun _ => Ok.cons (.int _ _) Ok.nil⟩
def strE : Enc ByteArray := ⟨fun x => .string x, 1, false, fun _ => rfl, fun _ => rfl, by decide, fun _ => Ok.cons (.str _) Ok.nil⟩
def boolE : Enc Bool := ⟨fun x => .bool x, 1, false, fun _ => rfl, fun _ => rfl, by decide, fun _ => Ok.cons (.bool _) Ok.nil⟩
def byteE : Enc UInt8 := ⟨fun x => .int .u8 x.toNat, 1, false, fun _ => rfl, fun _ => rfl, by decide, fun _ => Ok.cons (.int _ _) Ok.nil⟩

def Enc.flat {α : Type} (E : Enc α) (xs : List α) : List Value := xs.flatMap fun x => cellsV (E.val x)
theorem Enc.flat_length {α : Type} (E : Enc α) : ∀ xs : List α, (E.flat xs).length = xs.length * E.sz
  | [] => by simp [Enc.flat]
  | x :: xs => by
    have := E.flat_length xs
    unfold Enc.flat at this ⊢
    simp only [List.flatMap_cons, List.length_append, E.hsz, List.length_cons, this, Nat.add_mul, Nat.one_mul]
    omega
theorem Enc.flat_append {α : Type} (E : Enc α) (xs ys : List α) : E.flat (xs ++ ys) = E.flat xs ++ E.flat ys := by simp [Enc.flat]
theorem Enc.flat_nil {α : Type} (E : Enc α) : E.flat [] = [] := rfl
theorem Enc.flat_cons {α : Type} (E : Enc α) (x : α) (xs : List α) : E.flat (x :: xs) = cellsV (E.val x) ++ E.flat xs := rfl
theorem Enc.flat_one {α : Type} (E : Enc α) (x : α) : E.flat [x] = cellsV (E.val x) := by simp [Enc.flat]
theorem Enc.flat_drop {α : Type} (E : Enc α) (xs : List α) (k : Nat) : (E.flat xs).drop (k * E.sz) = E.flat (xs.drop k) := by
  rcases Nat.le_total k xs.length with hk | hk
  · have hkl : (E.flat (xs.take k)).length = k * E.sz := by rw [E.flat_length]; congr 1; simp; omega
    have h : E.flat xs = E.flat (xs.take k) ++ E.flat (xs.drop k) := by rw [← E.flat_append, List.take_append_drop]
    rw [h, ← hkl, List.drop_left]
  · rw [List.drop_eq_nil_of_le (by rw [E.flat_length]; exact Nat.mul_le_mul_right _ hk), List.drop_eq_nil_of_le hk]
    rfl
theorem Enc.flat_take {α : Type} (E : Enc α) (xs : List α) (k : Nat) : (E.flat xs).take (k * E.sz) = E.flat (xs.take k) := by
  rcases Nat.le_total k xs.length with hk | hk
  · have hkl : (E.flat (xs.take k)).length = k * E.sz := by rw [E.flat_length]; congr 1; simp; omega
    have h : E.flat xs = E.flat (xs.take k) ++ E.flat (xs.drop k) := by rw [← E.flat_append, List.take_append_drop]
    rw [h, List.take_left' hkl]
  · rw [List.take_of_length_le (by rw [E.flat_length]; exact Nat.mul_le_mul_right _ hk), List.take_of_length_le hk]
theorem Enc.flat_all {α : Type} (E : Enc α) (xs : List α) : (E.flat xs).take (xs.length * E.sz) = E.flat xs := by rw [E.flat_take, List.take_length]
theorem Enc.flat_ok {α : Type} (E : Enc α) (xs : List α) : ∀ c ∈ E.flat xs, Ok c := fun c h => by
  obtain ⟨x, _, hc⟩ := List.mem_flatMap.1 h
  exact E.hok x c hc
theorem Enc.val_im {α : Type} (E : Enc α) (x : α) : Im (E.val x) := by
  have h := E.hval x
  cases ha : E.agg with
  | true =>
    rw [ha, if_pos rfl] at h
    rw [h]
    exact .aggL fun c hc => (E.hok x c hc).im
  | false =>
    rw [ha] at h
    simp only [Bool.false_eq_true, if_false] at h
    exact (E.hok x (E.val x) (by rw [h]; simp)).im
theorem Enc.drop_cons {α : Type} (E : Enc α) (xs : List α) (k : Nat) (hk : k < xs.length) : E.flat (xs.drop k) = cellsV (E.val xs[k]) ++ E.flat (xs.drop (k + 1)) := by
  rw [List.drop_eq_getElem_cons hk, E.flat_cons]

/-- A slice that is only read, by its list. -/
def islE {α : Type} (E : Enc α) (xs : List α) : Value := isl xs.length (E.flat xs)
theorem islE_ok {α : Type} (E : Enc α) (xs : List α) : Ok (islE E xs) := Ok.isl (E.flat_ok xs)
theorem islE_im {α : Type} (E : Enc α) (xs : List α) : Im (islE E xs) := (islE_ok E xs).im

section
variable {P : Program} {B : Nat} {H L : AH} {b b' : Blk} {α : Type} {E : Enc α} {xs : List α}

/-! values that are only read -/
theorem asI_slice (a : Option Addr) (n m : Nat) : asI (.slice a n m) = none := rfl
theorem asP_ptr (a : Option Addr) : asP (.pointer a) = none := rfl
theorem loadV_ip (t : TypeId) (cs : List Value) : loadV P H t (ip cs) = (lay P t).bind fun gn => getVar gn.1 gn.2 cs 0 := by
  unfold loadV
  rw [asP_ip]
  cases lay P t <;> rfl
theorem fldV_ip (s : TypeId) (f : Nat) (cs : List Value) : fldV P H s (ip cs) f = (fldOff P s f).bind fun o => some (ip (cs.drop o)) := by
  unfold fldV
  rw [asP_ip]
  cases fldOff P s f <;> rfl
theorem nilK_ip (cs : List Value) : nilK H (ip cs) = some (ip cs) := by unfold nilK; rw [asP_ip]
def idxSlow (P : Program) (H : AH) (t : TypeId) (x i : Value) : Option Value := idxV P H t x i
noncomputable def slSlow (P : Program) (H : AH) (t : TypeId) (x : Value) (lo hi mx : Option Value) : Option Value := slV P H t x lo hi mx
def idxE (E : Enc α) (xs : List α) (k : Nat) : Option Value := if k < xs.length then some (ip (E.flat (xs.drop k))) else none
theorem idxV_islE (t : TypeId) (kd : IntKind) (k : Nat) : idxV P H t (islE E xs) (.int kd (k : Int)) = (elZ P t).bind fun z => if z.2.1 = E.sz then idxE E xs k else idxSlow P H t (islE E xs) (.int kd (k : Int)) := by
  unfold idxSlow
  cases h : elZ P t with
  | none => unfold idxV islE; rw [h]; rfl
  | some z =>
    simp only [Option.bind_some]
    by_cases hz : z.2.1 = E.sz
    · rw [if_pos hz]
      unfold idxV islE idxE
      obtain ⟨e, s, b⟩ := z
      simp only at hz
      subst hz
      simp only [h, asI_isl, Int.toNat_natCast]
      by_cases h : k < xs.length
      · rw [if_pos h, if_pos (by omega), E.flat_drop]
      · rw [if_neg h, if_neg (by omega)]
    · rw [if_neg hz]
theorem idxE_eq {k : Nat} (h : k < xs.length) : idxE E xs k = some (ip (cellsV (E.val xs[k]) ++ E.flat (xs.drop (k + 1)))) := by
  unfold idxE
  rw [if_pos h, E.drop_cons xs k h]
theorem lenV_islE (t : TypeId) : lenV P H t (islE E xs) = (elZ P t).bind fun _ => some (.int .i64 (xs.length : Nat)) := by
  unfold lenV islE
  split
  · rename_i s hs
    simp [isl] at hs
  · simp only [asI_isl]
    cases elZ P t <;> rfl
theorem lenV_nil (t : TypeId) : lenV P H t (.slice none 0 0) = (elZ P t).bind fun _ => some (.int .i64 0) := by
  unfold lenV
  simp only [asI_slice]
  cases elZ P t <;> rfl
theorem lenV_own (t : TypeId) (r off : Nat) (sp : Option Nat) (len ver : Nat) : lenV P H t (.slice (some ⟨r, off, sp⟩) len ver) = (elZ P t).bind fun _ => (H[r]?).bind fun blk => if blk.ver = ver then some (.int .i64 (len : Nat)) else none := by
  unfold lenV
  simp only [asI_slice]
  cases elZ P t with
  | none => rfl
  | some z => cases H[r]? <;> rfl
theorem lenV_str (t : TypeId) (s : ByteArray) (h : P.underlying t = some .string) : lenV P H t (.string s) = some (.int .i64 s.size) := by
  unfold lenV
  simp only [h]
def sliE (E : Enc α) (xs : List α) (i j : Nat) : Option Value := if i ≤ j ∧ j ≤ xs.length then some (islE E ((xs.take j).drop i)) else none
theorem sliE_eq {i j : Nat} (h1 : i ≤ j) (h2 : j ≤ xs.length) : sliE E xs i j = some (islE E ((xs.take j).drop i)) := by
  unfold sliE
  rw [if_pos ⟨h1, h2⟩]
theorem sliE_raw {s i j : Nat} (hs : s = E.sz) (h1 : i ≤ j) (h2 : j ≤ xs.length) : isl (j - i) (((E.flat xs).drop (i * s)).take ((j - i) * s)) = islE E ((xs.take j).drop i) := by
  unfold islE
  rw [hs, E.flat_drop, E.flat_take, List.drop_take]
  congr 1
  simp; omega
theorem slV_slice (t : TypeId) (x : Value) (lo hi mx : Option Value) (h : ∀ s, x ≠ .string s) : slV P H t x lo hi mx = sliceV P H t x lo hi mx := by
  unfold slV
  split
  · rename_i s; exact absurd rfl (h s)
  · rfl
theorem slV_hi (t : TypeId) (kd : IntKind) (j : Nat) : slV P H t (islE E xs) none (some (.int kd (j : Int))) none = (elZ P t).bind fun z => if z.2.1 = E.sz then sliE E xs 0 j else slSlow P H t (islE E xs) none (some (.int kd (j : Int))) none := by
  unfold slSlow
  cases hz : elZ P t with
  | none => rw [slV_slice _ _ _ _ _ (by intro s h; simp [islE, isl] at h)]; unfold sliceV; rw [hz]; rfl
  | some z =>
    obtain ⟨e, s, b⟩ := z
    simp only [Option.bind_some]
    by_cases hs : s = E.sz
    · rw [if_pos hs, slV_slice _ _ _ _ _ (by intro s h; simp [islE, isl] at h)]
      unfold sliceV
      simp only [hz]
      rw [show asI (islE E xs) = some (xs.length, E.flat xs) from asI_isl _ _]
      simp only [boundV]
      by_cases h : j ≤ xs.length
      · rw [if_pos ⟨by omega, by omega, by omega, by omega, by simp⟩, if_neg (by simp), sliE_eq (Nat.zero_le _) h, ← sliE_raw hs (Nat.zero_le _) h]
        simp
      · unfold sliE
        rw [if_neg (by omega), if_neg (by omega)]
    · rw [if_neg hs]
theorem slV_lo (t : TypeId) (kd : IntKind) (i : Nat) : slV P H t (islE E xs) (some (.int kd (i : Int))) none none = (elZ P t).bind fun z => if z.2.1 = E.sz then sliE E xs i xs.length else slSlow P H t (islE E xs) (some (.int kd (i : Int))) none none := by
  unfold slSlow
  cases hz : elZ P t with
  | none => rw [slV_slice _ _ _ _ _ (by intro s h; simp [islE, isl] at h)]; unfold sliceV; rw [hz]; rfl
  | some z =>
    obtain ⟨e, s, b⟩ := z
    simp only [Option.bind_some]
    by_cases hs : s = E.sz
    · rw [if_pos hs, slV_slice _ _ _ _ _ (by intro s h; simp [islE, isl] at h)]
      unfold sliceV
      simp only [hz]
      rw [show asI (islE E xs) = some (xs.length, E.flat xs) from asI_isl _ _]
      simp only [boundV]
      by_cases h : i ≤ xs.length
      · have e1 : ((xs.length : Int) - i).toNat = xs.length - i := by omega
        rw [if_pos ⟨by omega, by omega, by omega, by omega, by simp⟩, if_neg (by simp), sliE_eq h (Nat.le_refl _), ← sliE_raw hs h (Nat.le_refl _)]
        simp [e1]
      · unfold sliE
        rw [if_neg (by omega), if_neg (by omega)]
    · rw [if_neg hs]
theorem slV_both (t : TypeId) (kd kd' : IntKind) (i j : Nat) : slV P H t (islE E xs) (some (.int kd (i : Int))) (some (.int kd' (j : Int))) none = (elZ P t).bind fun z => if z.2.1 = E.sz then sliE E xs i j else slSlow P H t (islE E xs) (some (.int kd (i : Int))) (some (.int kd' (j : Int))) none := by
  unfold slSlow
  cases hz : elZ P t with
  | none => rw [slV_slice _ _ _ _ _ (by intro s h; simp [islE, isl] at h)]; unfold sliceV; rw [hz]; rfl
  | some z =>
    obtain ⟨e, s, b⟩ := z
    simp only [Option.bind_some]
    by_cases hs : s = E.sz
    · rw [if_pos hs, slV_slice _ _ _ _ _ (by intro s h; simp [islE, isl] at h)]
      unfold sliceV
      simp only [hz]
      rw [show asI (islE E xs) = some (xs.length, E.flat xs) from asI_isl _ _]
      simp only [boundV]
      by_cases h : i ≤ j ∧ j ≤ xs.length
      · have e1 : ((j : Int) - i).toNat = j - i := by omega
        rw [if_pos ⟨by omega, by omega, by omega, by omega, by simp⟩, if_neg (by simp), sliE_eq h.1 h.2, ← sliE_raw hs h.1 h.2]
        simp [e1]
      · unfold sliE
        rw [if_neg (by omega), if_neg h]
    · rw [if_neg hs]
theorem slV_own (t : TypeId) (r off : Nat) (sp : Option Nat) (len ver : Nat) (lo hi mx : Option Value) : slV P H t (.slice (some ⟨r, off, sp⟩) len ver) lo hi mx = (elZ P t).bind fun z => (H[r]?).bind fun blk => (boundV lo 0).bind fun l => (boundV hi len).bind fun h => (boundV mx (sp.getD len)).bind fun m =>
    if blk.ver = ver ∧ blk.own = true ∧ blk.sz = z.2.1 ∧ 0 ≤ l ∧ l ≤ h ∧ h ≤ m ∧ m ≤ ((sp.getD len : Nat) : Int) ∧ (mx.isSome = true → hi.isSome = true) then
      some (.slice (some ⟨r, off + l.toNat * z.2.1, some (m - l).toNat⟩) (h - l).toNat ver) else none := by
  rw [slV_slice _ _ _ _ _ (by intro s h; cases h)]
  unfold sliceV
  cases elZ P t with
  | none => rfl
  | some z =>
    obtain ⟨e, s, b⟩ := z
    simp only [asI_slice, Option.bind_some]
    cases H[r]? with
    | none => rfl
    | some blk =>
      cases boundV lo 0 with
      | none => rfl
      | some l =>
        cases boundV hi len with
        | none => rfl
        | some h => cases boundV mx (sp.getD len) <;> rfl
theorem srcV_islE (el sz : Nat) (t : TypeId) : srcV P H el sz t (islE E xs) = (elZ P t).bind fun _ => if xs.length * sz ≤ (E.flat xs).length then some (xs.length, (E.flat xs).take (xs.length * sz)) else none := by
  unfold srcV islE
  split
  · rename_i s hs
    simp [isl] at hs
  · simp only [asI_isl]
    cases elZ P t <;> rfl

/-! heaps -/
theorem get_app0 : (H ++ L)[H.length]? = L[0]? := by rw [List.getElem?_append_right (Nat.le_refl _), Nat.sub_self]
theorem get_appk (k : Nat) : (H ++ L)[H.length + k]? = L[k]? := by rw [List.getElem?_append_right (by omega), Nat.add_sub_cancel_left]
theorem get_old {r : Nat} {x : Blk} (h : H[r]? = some x) : (H ++ L)[r]? = some x := by rw [List.getElem?_append_left (lt_of_some h)]; exact h
theorem set_app0 : (H ++ L).set H.length b = H ++ L.set 0 b := by rw [List.set_append_right _ _ (Nat.le_refl _), Nat.sub_self]
theorem set_appk (k : Nat) : (H ++ L).set (H.length + k) b = H ++ L.set k b := by rw [List.set_append_right _ _ (by omega), Nat.add_sub_cancel_left]
theorem getB_eq (r ver : Nat) : getB H r ver = (H[r]?).bind fun x => if x.ver = ver ∧ x.own = true then some x.cs else none := by
  unfold getB
  cases H[r]? <;> rfl
theorem loadV_ptr (t : TypeId) (r off ver : Nat) : loadV P H t (.pointer (some ⟨r, off, some ver⟩)) = (lay P t).bind fun gn => (getB H r ver).bind fun cs => getVar gn.1 gn.2 cs off := by
  unfold loadV
  cases lay P t with
  | none => rfl
  | some gn =>
    simp only [asP_ptr, Option.bind_some]
    cases getB H r ver <;> rfl
theorem getVar_t (n : Nat) (cs : List Value) (off : Nat) : getVar true n cs off = if off + n ≤ cs.length then some (.agg ((cs.drop off).take n).toArray) else none := rfl
theorem getVar_f (n : Nat) (cs : List Value) (off : Nat) : getVar false n cs off = cs[off]? := rfl
theorem fldV_ptr (s : TypeId) (f r off ver : Nat) : fldV P H s (.pointer (some ⟨r, off, some ver⟩)) f = (fldOff P s f).bind fun o => (getB H r ver).bind fun _ => some (.pointer (some ⟨r, off + o, some ver⟩)) := by
  unfold fldV
  simp only [asP_ptr]
  cases fldOff P s f with
  | none => rfl
  | some o => cases getB H r ver <;> rfl
theorem nilK_ptr (r off ver : Nat) : nilK H (.pointer (some ⟨r, off, some ver⟩)) = (getB H r ver).bind fun _ => some (.pointer (some ⟨r, off, some ver⟩)) := by
  unfold nilK
  simp only [asP_ptr]
  cases getB H r ver <;> rfl
theorem idxV_own (t : TypeId) (r off : Nat) (sp : Option Nat) (len ver : Nat) (kd : IntKind) (i : Int) : idxV P H t (.slice (some ⟨r, off, sp⟩) len ver) (.int kd i) = (elZ P t).bind fun z => (getB H r ver).bind fun _ => if 0 ≤ i ∧ i < len then some (.pointer (some ⟨r, off + i.toNat * z.2.1, some ver⟩)) else none := by
  unfold idxV
  cases elZ P t with
  | none => rfl
  | some z =>
    obtain ⟨e, s, b⟩ := z
    simp only [asI_slice, Option.bind_some]
    cases getB H r ver <;> rfl
theorem storeH_ptr (t : TypeId) (r off ver : Nat) (v : Value) : storeH P B H t (.pointer (some ⟨r, off, some ver⟩)) v = (lay P t).bind fun gn => (H[r]?).bind fun blk =>
    if blk.ver = ver ∧ blk.own = true ∧ B ≤ r ∧ (cellsV v).length = gn.2 ∧ off + gn.2 ≤ blk.cs.length ∧ (cellsV v).all Value.oneCell' = true then some (H.set r { blk with cs := splice blk.cs off (cellsV v) }) else none := by
  unfold storeH
  dsimp only
  cases lay P t with
  | none => rfl
  | some gn =>
    dsimp only [Option.bind_some]
    cases H[r]? <;> rfl
/-- A struct's field, by its place. -/
def fldAt (P : Program) (t : TypeId) (f : Nat) : Option (Nat × Bool × Nat) :=
  match P.underlying t with
  | some (.struct fs) => (match fs[f]? with
    | some fd => (lay P fd.type).map fun gn => (fd.offset, gn.1, gn.2)
    | none => none)
  | _ => none
theorem fieldS_agg (t : TypeId) (l : List Value) (f : Nat) : fieldS P t (.agg l.toArray) f = (fldAt P t f).bind fun x => getVar x.2.1 x.2.2 l x.1 := by
  unfold fieldS fldAt
  cases P.underlying t with
  | none => rfl
  | some d =>
    cases d <;> try rfl
    rename_i fs
    cases hf : fs[f]? with
    | none => simp [hf]
    | some fd =>
      simp only [hf]
      cases lay P fd.type with
      | none => rfl
      | some gn => obtain ⟨g, n⟩ := gn; rfl
theorem mkB_eq (el : TypeId) (sz : Nat) (cs : List Value) : mkB el sz cs = ⟨el, sz, cs, 0, true⟩ := rfl
theorem cells_int (k : IntKind) (i : Int) : cellsV (.int k i) = [.int k i] := rfl
theorem cells_bool (b : Bool) : cellsV (.bool b) = [.bool b] := rfl
theorem cells_str (s : ByteArray) : cellsV (.string s) = [.string s] := rfl
theorem cells_slice (a : Option Addr) (n m : Nat) : cellsV (.slice a n m) = [.slice a n m] := rfl
theorem cells_islE : cellsV (islE E xs) = [islE E xs] := rfl
theorem cells_isl (n : Nat) (cs : List Value) : cellsV (isl n cs) = [isl n cs] := rfl
theorem cells_ip (cs : List Value) : cellsV (ip cs) = [ip cs] := rfl
theorem cells_ptr (a : Option Addr) : cellsV (.pointer a) = [.pointer a] := rfl
theorem cells_agg (l : List Value) : cellsV (.agg l.toArray) = l := rfl
theorem cells_func (g : Fn) (a c : Array Value) : cellsV (.func g a c) = [.func g a c] := rfl
theorem one_int (k : IntKind) (i : Int) : Value.oneCell' (.int k i) = true := rfl
theorem one_bool (b : Bool) : Value.oneCell' (.bool b) = true := rfl
theorem one_str (s : ByteArray) : Value.oneCell' (.string s) = true := rfl
theorem one_slice (a : Option Addr) (n m : Nat) : Value.oneCell' (.slice a n m) = true := rfl
theorem one_islE : Value.oneCell' (islE E xs) = true := rfl
theorem one_isl (n : Nat) (cs : List Value) : Value.oneCell' (isl n cs) = true := rfl
theorem one_ip (cs : List Value) : Value.oneCell' (ip cs) = true := rfl
theorem one_ptr (a : Option Addr) : Value.oneCell' (.pointer a) = true := rfl
theorem one_func (g : Fn) (a c : Array Value) : Value.oneCell' (.func g a c) = true := rfl
theorem const_int (k : IntKind) (i : Int) : constOk (.int k i) = true := rfl
theorem const_bool (b : Bool) : constOk (.bool b) = true := rfl
theorem const_str (s : ByteArray) : constOk (.string s) = true := rfl
theorem const_nil : constOk (.slice none 0 0) = true := rfl
theorem zOkV_agg (l : List Value) : zOkV (.agg l.toArray) = (l.all constOk && l.all Value.oneCell') := by simp [zOkV]
theorem zOkV_int (k : IntKind) (i : Int) : zOkV (.int k i) = true := rfl
theorem zOkV_bool (b : Bool) : zOkV (.bool b) = true := rfl
theorem zOkV_str (s : ByteArray) : zOkV (.string s) = true := rfl
theorem zOkV_nil : zOkV (.slice none 0 0) = true := rfl
theorem splice_eq (cs : List Value) (off : Nat) (news : List Value) : splice cs off news = cs.take off ++ news ++ cs.drop (off + news.length) := rfl
theorem extract_tuple (l : List Value) (i : Nat) : extractV (.tuple l.toArray) i = l[i]? := by simp [extractV]
theorem buildV_eq (t : TypeId) (parts : List (Nat × Value)) : buildV P t parts = (strT P t).bind fun zp => if zp.1.all constOk = true then (fillL zp.2 zp.1 parts).map fun cs => .agg cs.toArray else none := by
  unfold buildV
  cases strT P t <;> rfl
theorem fillL_nil (places : List (Nat × Nat)) (cs : List Value) : fillL places cs [] = some cs := rfl
theorem fillL_cons (places : List (Nat × Nat)) (cs : List Value) (i : Nat) (v : Value) (rest : List (Nat × Value)) : fillL places cs ((i, v) :: rest) =
    (places[i]?).bind fun os => if (cellsV v).length = os.2 ∧ os.1 + os.2 ≤ cs.length then fillL places (splice cs os.1 (cellsV v)) rest else none := by
  show (match places[i]? with | none => none | some (off, size) => _) = _
  cases places[i]? <;> rfl
theorem buildSliceH_eq (t : TypeId) (len : Nat) (parts : List (Nat × Value)) : buildSliceH P H t len parts = (elZ P t).bind fun z => if zOk P z.1 z.2.1 = true ∧ parts.length = len ∧ len * z.2.1 ≤ 16777216 then
    (litCells z.2.1 0 parts).bind fun cs => if cs.all Value.oneCell' = true then some (.slice (some ⟨H.length, 0, none⟩) len 0, H ++ [mkB z.1 z.2.1 cs]) else none else none := by
  unfold buildSliceH
  cases elZ P t with
  | none => rfl
  | some z =>
    obtain ⟨e, s, b⟩ := z
    simp only [Option.bind_some]
    split
    · cases litCells s 0 parts <;> rfl
    · rfl
theorem lit_nil (sz k : Nat) : litCells sz k [] = some [] := rfl
theorem lit_cons (sz k i : Nat) (v : Value) (rest : List (Nat × Value)) : litCells sz k ((i, v) :: rest) = if i = k ∧ (cellsV v).length = sz then (litCells sz (k + 1) rest).map fun l => cellsV v ++ l else none := rfl
theorem le_self_add (n k : Nat) : (n ≤ n + k) = True := by simp

/-! slices that grow and are written -/
/-- A block that holds a list. -/
def sb (el : TypeId) (E : Enc α) (xs : List α) (ver : Nat) (o : Bool) : Blk := ⟨el, E.sz, E.flat xs, ver, o⟩
theorem sb_eq (el : TypeId) (xs : List α) (ver : Nat) (o : Bool) : sb el E xs ver o = ⟨el, E.sz, E.flat xs, ver, o⟩ := rfl

theorem srcV_own {el t r off m ver : Nat} {sp : Option Nat} {z : TypeId × Nat × Nat} {blk : Blk} {cs : List Value} (hz : elZ P t = some z) (hb : H[r]? = some blk) (hv : blk.ver = ver) (ho : blk.own = true) (hc : (blk.cs.drop off).take (m * E.sz) = cs) (hl : off + m * E.sz ≤ blk.cs.length) :
    srcV P H el E.sz t (.slice (some ⟨r, off, sp⟩) m ver) = some (m, cs) := by
  unfold srcV
  simp only [hz, asI_slice]
  rw [getB_eq, hb]
  simp only [Option.bind_some]
  rw [if_pos ⟨hv, ho⟩]
  simp only
  rw [if_pos hl, hc]
/-- A list is appended to a list that is ours. -/
theorem appendH_sb {t tx el by_ r ver : Nat} {o : Bool} {ys : List α} {x : Value} (hz : elZ P t = some (el, E.sz, by_)) (hok : zOk P el E.sz = true) (hb : H[r]? = some (sb el E xs ver o)) (hB : B ≤ r)
    (hs : srcV P H el E.sz tx x = some (ys.length, E.flat ys)) (h1 : (xs.length + ys.length) * by_ ≤ 140737488355328) (h2 : xs.length + ys.length ≤ 140737488355328) :
    appendH P B H t tx (.slice (some ⟨r, 0, none⟩) xs.length ver) x = some (.slice (some ⟨r, 0, none⟩) (xs ++ ys).length (ver + 1), H.set r (sb el E (xs ++ ys) (ver + 1) (o || decide (ys.length ≠ 0)))) := by
  unfold appendH
  simp only [hz, hs, hok, if_true, hb]
  rw [if_pos ⟨rfl, hB, rfl, rfl, by simp [sb, E.flat_length], h1, h2⟩]
  simp [sb, E.flat_all, E.flat_append]
theorem appendH_nil {t tx el by_ : Nat} {ys : List α} {x : Value} (hz : elZ P t = some (el, E.sz, by_)) (hok : zOk P el E.sz = true)
    (hs : srcV P H el E.sz tx x = some (ys.length, E.flat ys)) (h0 : ys.length ≠ 0) (h1 : ys.length * by_ ≤ 140737488355328) (h2 : ys.length ≤ 140737488355328) :
    appendH P B H t tx (.slice none 0 0) x = some (.slice (some ⟨H.length, 0, none⟩) ys.length 0, H ++ [sb el E ys 0 true]) := by
  unfold appendH
  rw [hz]
  dsimp only
  rw [hs]
  dsimp only
  rw [if_pos hok, if_pos ⟨h1, h2⟩, if_neg h0]
  rfl
theorem Bor.sb {el r ver : Nat} {o : Bool} {sp : Option Nat} {ys : List α} {n : Nat} (hb : H[r]? = some (sb el E ys ver o)) (ho : ys.length ≠ 0 → o = true) (hn : n = ys.length) : Bor H (.slice (some ⟨r, 0, sp⟩) n ver) (islE E ys) := by
  subst hn
  cases h : ys with
  | nil =>
    subst h
    exact .emp r 0 sp ver _ hb rfl
  | cons y l =>
    rw [← h]
    refine Bor.ownL hb rfl (ho (by rw [h]; simp)) (fun h0 => by rw [h] at h0; simp at h0) ⟨E.flat ys, .same fun d hd => (E.flat_ok ys d hd).im, by simp [BM.sb]⟩
end

/-! ### numbers -/
theorem wr {n : Int} (h0 : -9223372036854775808 ≤ n) (h1 : n ≤ 9223372036854775807) : IntKind.i64.wrap n = n := by
  rw [IntKind.wrap_i64]; omega
theorem wr_succ {k : Nat} (h : k < 4611686018427387904) : IntKind.i64.wrap ((k : Int) + 1) = ((k + 1 : Nat) : Int) := by rw [wr] <;> omega
end Go.BM

/- Reckoning with heaps, in one; the splits of a walk. -/
set_option linter.unusedVariables false
namespace Go.BM
open Go.RowKit

def condK (v : Value) (p q : Prop) : Prop := ∃ t, v = .bool t ∧ (t = true → p) ∧ (t = false → q)
theorem condK_true (p q : Prop) : condK (.bool true) p q = p := by simp [condK]
theorem condK_false (p q : Prop) : condK (.bool false) p q = q := by simp [condK]
theorem condK_bool {X : Bool} {p q : Prop} (h1 : X = true → p) (h2 : X = false → q) : condK (.bool X) p q := ⟨X, rfl, h1, h2⟩
theorem condK_not (X : Bool) (p q : Prop) : condK (.bool (!X)) p q = condK (.bool X) q p := by cases X <;> simp [condK]
section
variable {P : Program} {B n : Nat} {H : AH} {e : Env} {Q : Exit → Env → AH → Prop}
theorem AWp.condB {c : Operand} {x y : Code} (h : condK (ev e c) (AWp P n B x Q e H) (AWp P n B y Q e H)) : AWp P n B (.cond c x y) Q e H := by
  obtain ⟨t, h1, h2, h3⟩ := h
  exact AWp.cond h1 h2 h3
def boolV : Option Bool → Value
  | some b => .bool b
  | none => undef
theorem boolV_some (b : Bool) : boolV (some b) = .bool b := rfl
theorem aops_partB {ops : Array Oper} {K : Env → AH → Prop} {l : List Oper} {d : Option Tmp} {op : Op} {ty : TypeId} {p : String} {af : Array Edge} {j : Nat} {b : Bool}
    (h : condK (boolV (yieldA ops e j)) (aops P B ops K (⟨d, op, ty, p, af, some (j, b)⟩ :: l) e H) (aops P B ops K (⟨d, op, ty, p, af, some (j, b)⟩ :: l) e H)) : aops P B ops K (⟨d, op, ty, p, af, some (j, b)⟩ :: l) e H := by
  obtain ⟨t, h1, h2, h3⟩ := h
  cases t
  · exact h3 rfl
  · exact h2 rfl
theorem qops_partB {ops : Array Oper} {K : Env → Prop} {l : List Oper} {d : Option Tmp} {op : Op} {ty : TypeId} {p : String} {af : Array Edge} {j : Nat} {b : Bool}
    (h : condK (boolV (yieldA ops e j)) (qops P ops H K (⟨d, op, ty, p, af, some (j, b)⟩ :: l) e) (qops P ops H K (⟨d, op, ty, p, af, some (j, b)⟩ :: l) e)) : qops P ops H K (⟨d, op, ty, p, af, some (j, b)⟩ :: l) e := by
  obtain ⟨t, h1, h2, h3⟩ := h
  cases t
  · exact h3 rfl
  · exact h2 rfl
/-- A call's contract, taken up where it stands. -/
theorem ACalls.get {B0 : Nat} {f : FuncId} {args : List Value} {post post' : Value → AH → Prop} (h : ACalls P B0 f args H post) (hB0 : B0 ≤ H.length) (hB : B ≤ B0) (hp : ∀ d H', post d H' → post' d H') : ACalls P B f args H post' :=
  (h.base hB0 hB).mono hp
end

theorem Agree.nest {ds ds1 : List Nat} {e e1 e2 : Env} (h : Agree ds1 e1 e2) (hs : ds1.all ds.contains = true) (h1 : Agree ds e e1) : Agree ds e e2 := h1.trans fun i hi => h i (by
  cases hc : ds1.contains i with
  | false => rfl
  | true =>
    have := List.all_eq_true.1 hs i (by simpa using hc)
    rw [hi] at this
    cases this)
/-- What is kept for the end of a round. -/
structure KJ (A : Env → AH → Prop) (D : Env → Prop) where
  K : Env → AH → Prop
  out : ∀ e H, A e H → D e → K e H
def loopJ (J : Env → AH → Prop) (Q : Exit → Env → AH → Prop) : Exit → Env → AH → Prop
  | .normal, e, H => J e H
  | ex, e, H => Q ex e H
theorem AWp.loopH {P : Program} {B n : Nat} {H : AH} {e : Env} {Q : Exit → Env → AH → Prop} {c : Code} (ds : List Nat) (I : Nat → Env → AH → Prop) (m0 : Nat) (h0 : I m0 e H)
    (round : ∀ m e' H', Agree ds e e' → I m e' H' → ∀ J : KJ (fun e1 H1 => ∃ m', m' < m ∧ I m' e1 H1) (fun e1 => Agree ds e' e1), AWp P n B c (loopJ J.K Q) e' H') : AWp P n B (.loop c) Q e H :=
  AWp.loop ds I m0 h0 fun m e' H' hA hI => by
    have := round m e' H' hA hI ⟨fun e1 H1 => (∃ m', m' < m ∧ I m' e1 H1) ∧ Agree ds e e1, fun e1 H1 h1 h2 => ⟨h1, hA.trans h2⟩⟩
    have e : loopQ I m ds e Q = loopJ (fun e1 H1 => (∃ m', m' < m ∧ I m' e1 H1) ∧ Agree ds e e1) Q := by
      funext ex e1 H1
      cases ex <;> rfl
    rw [e]
    exact this
theorem loopJ_normal (J : Env → AH → Prop) (Q : Exit → Env → AH → Prop) (e : Env) (H : AH) : loopJ J Q .normal e H = J e H := rfl
theorem loopJ_ret (J : Env → AH → Prop) (Q : Exit → Env → AH → Prop) (e : Env) (H : AH) : loopJ J Q .ret e H = Q .ret e H := rfl
theorem loopJ_exit (J : Env → AH → Prop) (Q : Exit → Env → AH → Prop) (e : Env) (H : AH) (i : Nat) : loopJ J Q (.exit i) e H = Q (.exit i) e H := rfl

/-- The equations by which a heap is reckoned, in one. -/
theorem hea : type_of% (And.intro (And.intro (And.intro (And.intro (And.intro (And.intro (@get_app0) (@get_appk)) (And.intro (@set_app0) (@set_appk))) (And.intro (And.intro (@getB_eq) (@loadV_ptr)) (And.intro (@loadV_ip) (@getVar_t)))) (And.intro (And.intro (And.intro (@getVar_f) (@fldV_ptr)) (And.intro (@fldV_ip) (@nilK_ptr))) (And.intro (And.intro (@nilK_ip) (@idxV_islE)) (And.intro (@idxV_own) (@lenV_islE))))) (And.intro (And.intro (And.intro (And.intro (@lenV_nil) (@lenV_own)) (And.intro (@slV_hi) (@slV_lo))) (And.intro (And.intro (@slV_both) (@fieldS_agg)) (And.intro (@mkB_eq) (@cells_int)))) (And.intro (And.intro (And.intro (@cells_bool) (@cells_str)) (And.intro (@cells_slice) (@cells_islE))) (And.intro (And.intro (@cells_isl) (@cells_ip)) (And.intro (@cells_ptr) (And.intro (@cells_agg) (@cells_func))))))) (And.intro (And.intro (And.intro (And.intro (And.intro (@one_int) (@one_bool)) (And.intro (@one_str) (@one_slice))) (And.intro (And.intro (@one_islE) (@one_isl)) (And.intro (@one_ip) (@one_ptr)))) (And.intro (And.intro (And.intro (@one_func) (@const_int)) (And.intro (@const_bool) (@const_str))) (And.intro (And.intro (@const_nil) (@zOkV_agg)) (And.intro (@zOkV_int) (And.intro (@zOkV_bool) (@zOkV_str)))))) (And.intro (And.intro (And.intro (And.intro (@zOkV_nil) (@splice_eq)) (And.intro (@extract_tuple) (@buildV_eq))) (And.intro (And.intro (@fillL_nil) (@fillL_cons)) (And.intro (@buildSliceH_eq) (@lit_nil)))) (And.intro (And.intro (And.intro (@lit_cons) (@le_self_add)) (And.intro (@condK_true) (@condK_false))) (And.intro (And.intro (@condK_not) (@boolV_some)) (And.intro (@loopJ_normal) (And.intro (@loopJ_ret) (@loopJ_exit)))))))) := And.intro (And.intro (And.intro (And.intro (And.intro (And.intro (@get_app0) (@get_appk)) (And.intro (@set_app0) (@set_appk))) (And.intro (And.intro (@getB_eq) (@loadV_ptr)) (And.intro (@loadV_ip) (@getVar_t)))) (And.intro (And.intro (And.intro (@getVar_f) (@fldV_ptr)) (And.intro (@fldV_ip) (@nilK_ptr))) (And.intro (And.intro (@nilK_ip) (@idxV_islE)) (And.intro (@idxV_own) (@lenV_islE))))) (And.intro (And.intro (And.intro (And.intro (@lenV_nil) (@lenV_own)) (And.intro (@slV_hi) (@slV_lo))) (And.intro (And.intro (@slV_both) (@fieldS_agg)) (And.intro (@mkB_eq) (@cells_int)))) (And.intro (And.intro (And.intro (@cells_bool) (@cells_str)) (And.intro (@cells_slice) (@cells_islE))) (And.intro (And.intro (@cells_isl) (@cells_ip)) (And.intro (@cells_ptr) (And.intro (@cells_agg) (@cells_func))))))) (And.intro (And.intro (And.intro (And.intro (And.intro (@one_int) (@one_bool)) (And.intro (@one_str) (@one_slice))) (And.intro (And.intro (@one_islE) (@one_isl)) (And.intro (@one_ip) (@one_ptr)))) (And.intro (And.intro (And.intro (@one_func) (@const_int)) (And.intro (@const_bool) (@const_str))) (And.intro (And.intro (@const_nil) (@zOkV_agg)) (And.intro (@zOkV_int) (And.intro (@zOkV_bool) (@zOkV_str)))))) (And.intro (And.intro (And.intro (And.intro (@zOkV_nil) (@splice_eq)) (And.intro (@extract_tuple) (@buildV_eq))) (And.intro (And.intro (@fillL_nil) (@fillL_cons)) (And.intro (@buildSliceH_eq) (@lit_nil)))) (And.intro (And.intro (And.intro (@lit_cons) (@le_self_add)) (And.intro (@condK_true) (@condK_false))) (And.intro (And.intro (@condK_not) (@boolV_some)) (And.intro (@loopJ_normal) (And.intro (@loopJ_ret) (@loopJ_exit)))))))
end Go.BM

/- Regions that ask for their order and make, write or call as well: one order serves for all, where a static check says so. -/
set_option linter.unusedVariables false
set_option linter.unusedSimpArgs false
namespace Go.BM
open Go.RowKit

section
variable {P : Program} {ops : Array Oper} {Q : Exit → Act → World → Prop} {md : Region.Mode} {st : Nat → Bool}

/-- Whatever order is picked from here on; behind an operation for which 'st' stands the older memory is as it was ahead of it. -/
def wpG (P : Program) (md : Region.Mode) (ops : Array Oper) (Q : Exit → Act → World → Prop) (st : Nat → Bool) : Nat → Array Bool → Act → World → Prop
  | 0, listed, a, w => Region.ready md ops listed = [] ∧ Q .normal a w
  | fuel + 1, listed, a, w =>
    (Region.ready md ops listed = [] → Q .normal a w) ∧
    ∀ i ∈ Region.ready md ops listed, wpOp P ops Q i (fun a' w' => (st i = true → Below w.heap.size w w') ∧ wpG P md ops Q st fuel (listed.setIfInBounds i true) a' w') a w

theorem wpAny_of_G : ∀ (fuel : Nat) (listed : Array Bool) (a : Act) (w : World), wpG P md ops Q st fuel listed a w → wpAny P md ops Q fuel listed a w
  | 0, _, _, _, h => h
  | fuel + 1, _, _, _, h => ⟨h.1, fun i hi => wpOp_mono (fun a' w' h' => wpAny_of_G fuel _ a' w' h'.2) (h.2 i hi)⟩

theorem wpG_first {i : Nat} {oi : Oper} {v : Value} (hi : ops[i]? = some oi) (hsel : ∀ (j : Nat) (o : Oper) cs b, ops[j]? = some o → o.op ≠ .select cs b)
    (hQ : ∀ c a w, Q (.panic c) (a.put oi.dst v) w → Q (.panic c) a w) (R : Array Bool) (hRi : R.getD i false = false)
    (hRc : ∀ (j : Nat) oj, ops[j]? = some oj → R.getD j false = false → j = i ∨ ∃ e ∈ oj.after, Region.binds md e = true ∧ R.getD e.on false = false) (wt : World) :
    ∀ (fuel : Nat) (listed : Array Bool) (a : Act) (w : World),
      (∀ k, listed.getD k false = true → R.getD k false = true) → (∀ k, R.getD k false = true → listed.getD k true = false → st k = true) →
      (∀ j oj, ops[j]? = some oj → j ≠ i → listed.getD j true = false → (∀ e ∈ oj.after, Region.binds md e = true → e.on ≠ i) → oi.apart ops oj = true) →
      i ∈ Region.ready md ops listed → YieldsIf P ops (fun w' => Below wt.heap.size wt w') oi v a → Below wt.heap.size wt w →
      wpG P md ops Q st fuel (listed.setIfInBounds i true) (a.put oi.dst v) w → wpG P md ops Q st (fuel + 1) listed a w := by
  intro fuel
  induction fuel with
  | zero =>
    intro listed a w _ _ _ hr hy hS H
    refine ⟨fun h => (by rw [h] at hr; cases hr), fun j hj => ?_⟩
    by_cases hji : j = i
    · subst hji; exact hy.wpOp hi hS ⟨fun _ => Below.refl _ _, H⟩
    · have := ready_mono hj hji
      rw [H.1] at this
      cases this
  | succ fuel ih =>
    intro listed a w hsub hst hfree hr hy hS H
    refine ⟨fun h => (by rw [h] at hr; cases hr), fun j hj => ?_⟩
    by_cases hji : j = i
    · subst hji; exact hy.wpOp hi hS ⟨fun _ => Below.refl _ _, H⟩
    · have h1 := H.2 j (ready_mono hj hji)
      obtain ⟨hjun, oj, hoj, hall⟩ := mem_ready.1 hj
      have hnot : ∀ e ∈ oj.after, Region.binds md e = true → e.on ≠ i := fun e he hb heq => by
        have h1 := hall e he hb
        have h0 := (mem_ready.1 hr).1
        rw [heq] at h1
        rcases Nat.lt_or_ge i listed.size with h' | h'
        · simp [h'] at h0 h1; rw [h0] at h1; cases h1
        · simp [Array.getElem?_eq_none h'] at h1
      have hRj : R.getD j false = true := by
        cases hRj : R.getD j false with
        | true => rfl
        | false =>
          rcases hRc j oj hoj hRj with h | ⟨e, he, hb, hR⟩
          · exact absurd h hji
          · have := hsub _ (hall e he hb)
            rw [hR] at this
            cases this
      have hstj := hst j hRj hjun
      have h2 := wpOp_putIf hoj (hfree j oj hoj hji hjun hnot) (fun cs b => hsel i oi cs b hi) (fun cs b => hsel j oj cs b hoj) hQ hy h1
      have hfree' : ∀ k ok, ops[k]? = some ok → k ≠ i → (listed.setIfInBounds j true).getD k true = false →
          (∀ e ∈ ok.after, Region.binds md e = true → e.on ≠ i) → oi.apart ops ok = true := fun k ok hk hki hun hno => by
        refine hfree k ok hk hki ?_ hno
        by_cases hjk : j = k
        · subst hjk; exact hjun
        · rw [getD_set_ne true hjk] at hun; exact hun
      have hsub' : ∀ k, (listed.setIfInBounds j true).getD k false = true → R.getD k false = true := fun k hk => by
        by_cases hjk : j = k
        · subst hjk; exact hRj
        · rw [getD_set_ne false hjk] at hk; exact hsub k hk
      have hst' : ∀ k, R.getD k false = true → (listed.setIfInBounds j true).getD k true = false → st k = true := fun k hk hun => by
        refine hst k hk ?_
        by_cases hjk : j = k
        · subst hjk; exact hjun
        · rw [getD_set_ne true hjk] at hun; exact hun
      refine wpOp_mono (fun a' w' h3 => ?_) h2
      have hbj := h3.2.1 hstj
      have hS' : Below wt.heap.size wt w' := hS.trans (hbj.mono hS.size)
      refine ⟨fun _ => hbj, ih (listed.setIfInBounds j true) a' w' hsub' hst' hfree' (ready_mono hr (Ne.symm hji)) h3.1 hS' ?_⟩
      rw [Array.setIfInBounds_comm _ _ hji]
      exact h3.2.2

theorem wpG_firstU {i : Nat} {oi : Oper} {v : Value} (hi : ops[i]? = some oi) (hsel : ∀ (j : Nat) (o : Oper) cs b, ops[j]? = some o → o.op ≠ .select cs b)
    (hQ : ∀ c a w, Q (.panic c) (a.put oi.dst v) w → Q (.panic c) a w) (R : Array Bool) (hRi : R.getD i false = false)
    (hRc : ∀ (j : Nat) oj, ops[j]? = some oj → R.getD j false = false → j = i ∨ ∃ e ∈ oj.after, Region.binds md e = true ∧ R.getD e.on false = false) :
    ∀ (fuel : Nat) (listed : Array Bool) (a : Act) (w : World),
      (∀ k, listed.getD k false = true → R.getD k false = true) →
      (∀ j oj, ops[j]? = some oj → j ≠ i → listed.getD j true = false → (∀ e ∈ oj.after, Region.binds md e = true → e.on ≠ i) → oi.apart ops oj = true) →
      i ∈ Region.ready md ops listed → YieldsIf P ops (fun _ => True) oi v a →
      wpG P md ops Q st fuel (listed.setIfInBounds i true) (a.put oi.dst v) w → wpG P md ops Q st (fuel + 1) listed a w := by
  intro fuel
  induction fuel with
  | zero =>
    intro listed a w _ _ hr hy H
    refine ⟨fun h => (by rw [h] at hr; cases hr), fun j hj => ?_⟩
    by_cases hji : j = i
    · subst hji; exact hy.wpOp hi trivial ⟨fun _ => Below.refl _ _, H⟩
    · have := ready_mono hj hji
      rw [H.1] at this
      cases this
  | succ fuel ih =>
    intro listed a w hsub hfree hr hy H
    refine ⟨fun h => (by rw [h] at hr; cases hr), fun j hj => ?_⟩
    by_cases hji : j = i
    · subst hji; exact hy.wpOp hi trivial ⟨fun _ => Below.refl _ _, H⟩
    · have h1 := H.2 j (ready_mono hj hji)
      obtain ⟨hjun, oj, hoj, hall⟩ := mem_ready.1 hj
      have hnot : ∀ e ∈ oj.after, Region.binds md e = true → e.on ≠ i := fun e he hb heq => by
        have h1 := hall e he hb
        have h0 := (mem_ready.1 hr).1
        rw [heq] at h1
        rcases Nat.lt_or_ge i listed.size with h' | h'
        · simp [h'] at h0 h1; rw [h0] at h1; cases h1
        · simp [Array.getElem?_eq_none h'] at h1
      have hRj : R.getD j false = true := by
        cases hRj : R.getD j false with
        | true => rfl
        | false =>
          rcases hRc j oj hoj hRj with h | ⟨e, he, hb, hR⟩
          · exact absurd h hji
          · have := hsub _ (hall e he hb)
            rw [hR] at this
            cases this
      have h2 := wpOp_putIf hoj (hfree j oj hoj hji hjun hnot) (fun cs b => hsel i oi cs b hi) (fun cs b => hsel j oj cs b hoj) hQ hy h1
      have hfree' : ∀ k ok, ops[k]? = some ok → k ≠ i → (listed.setIfInBounds j true).getD k true = false →
          (∀ e ∈ ok.after, Region.binds md e = true → e.on ≠ i) → oi.apart ops ok = true := fun k ok hk hki hun hno => by
        refine hfree k ok hk hki ?_ hno
        by_cases hjk : j = k
        · subst hjk; exact hjun
        · rw [getD_set_ne true hjk] at hun; exact hun
      have hsub' : ∀ k, (listed.setIfInBounds j true).getD k false = true → R.getD k false = true := fun k hk => by
        by_cases hjk : j = k
        · subst hjk; exact hRj
        · rw [getD_set_ne false hjk] at hk; exact hsub k hk
      refine wpOp_mono (fun a' w' h3 => ?_) h2
      refine ⟨h3.2.1, ih (listed.setIfInBounds j true) a' w' hsub' hfree' (ready_mono hr (Ne.symm hji)) h3.1 ?_⟩
      rw [Array.setIfInBounds_comm _ _ hji]
      exact h3.2.2

theorem wpG_done {listed : Array Bool} {a : Act} {w : World} (hr : Region.ready md ops listed = []) (h : Q .normal a w) :
    ∀ fuel, wpG P md ops Q st fuel listed a w
  | 0 => ⟨hr, h⟩
  | _ + 1 => ⟨fun _ => h, by rw [hr]; simp⟩

theorem wp_region_G {id : Nat} {a : Act} {w : World} (hm : P.follows .mixedOrders = true)
    (h : wpG P .any ops Q st ops.size (Array.replicate ops.size false) a { w with drawn := w.drawn + 1 }) : (Code.region id ops true).wp P Q a w :=
  wp_region_any hm (wpAny_of_G _ _ _ _ h)
end

/-! ### The static check -/
/-- Which operations may come up while number i has not: all but i and what waits for it. -/
def reachB (ops : Array Oper) (i : Nat) : Array Bool :=
  ops.toList.foldl (fun R o => R.push (!(R.size == i) && o.after.all fun e => !Region.binds .any e || R.getD e.on false)) #[]

def relB (ops : Array Oper) (st : Nat → Bool) (listed : Array Bool) (i : Nat) (R : Array Bool) : Bool :=
  !R.getD i false && ((List.range ops.size).all fun j => match ops[j]? with
    | some oj => (R.getD j false || j == i || oj.after.any fun e => Region.binds .any e && !R.getD e.on false) && (!R.getD j false || listed.getD j true || st j) && (!listed.getD j false || R.getD j false)
    | none => true) && decide (listed.size ≤ ops.size)

/-- An operation that no world turns. -/
def isMv : Op → Bool
  | .move _ | .assign _ => true
  | _ => false
def mvB (ops : Array Oper) (i : Nat) : Bool := match ops[i]? with | some o => isMv o.op | none => false
def mixB (ops : Array Oper) (st : Nat → Bool) : List (Nat × Nat) → Array Bool → Bool
  | [], listed => (Region.ready .any ops listed).isEmpty
  | (i, k) :: sch, listed =>
    (if k == 0 then Region.free .any ops listed i && (Region.ready .any ops listed).contains i && (relB ops st listed i (reachB ops i) || mvB ops i && relB ops (fun _ => true) listed i (reachB ops i)) else Region.ready .any ops listed == [i]) &&
      (k != 1 || true) && (k == 0 || k == 1 || !st i) && mixB ops st sch (listed.setIfInBounds i true)

def stOf (sch : List (Nat × Nat)) : Nat → Bool := fun j => !sch.any fun p => p.1 == j && p.2 == 2

def mixC (ops : Array Oper) (sch : List (Nat × Nat)) : Bool := Region.noSelect ops && mixB ops (stOf sch) sch (Array.replicate ops.size false) && decide (sch.length ≤ ops.size)

/-! ### What it comes to -/
noncomputable def mop (P : Program) (B : Nat) (k : Nat) (e : Env) (H : AH) (o : Oper) (K : Value → AH → Prop) : Prop :=
  if k = 0 then (if isPop o.op = true then optK (popV P e H o.type o.op) (fun v => K v H) else False)
  else if k = 1 then aop P H.length e H o K else aop P B e H o K

noncomputable def mops (P : Program) (B : Nat) (ops : Array Oper) (K : Env → AH → Prop) : List (Nat × Nat) → Env → AH → Prop
  | [], e, H => K e H
  | (i, k) :: sch, e, H =>
    match ops[i]? with
    | none => False
    | some o =>
      match o.guard with
      | none => mop P B k e H o fun v H' => mops P B ops K sch (put e o.dst v) H'
      | some (j, want) => gateA (yieldA ops e j) want (mop P B k e H o fun v H' => mops P B ops K sch (put e o.dst v) H') (mops P B ops K sch (put e o.dst undef) H)

section
variable {P : Program} {B n : Nat} {σ0 : Sg} {H0 : AH} {w0 : World}

def RelN (n B : Nat) (σ : Sg) (H : AH) (w : World) (Q : Env → AH → Prop) : Exit → Act → World → Prop
  | .normal, a', w' => ∃ σ' e' H', Fut B σ H w σ' H' w' ∧ Sim σ' H' w' ∧ ER n σ' H' a' e' ∧ Q e' H'
  | _, _, _ => False

theorem relB_spec {ops : Array Oper} {st : Nat → Bool} {listed : Array Bool} {i : Nat} {R : Array Bool} (h : relB ops st listed i R = true) :
    R.getD i false = false ∧ (∀ (j : Nat) oj, ops[j]? = some oj → R.getD j false = false → j = i ∨ ∃ e ∈ oj.after, Region.binds .any e = true ∧ R.getD e.on false = false) ∧
      (∀ k, listed.getD k false = true → R.getD k false = true) ∧ (∀ k, R.getD k false = true → listed.getD k true = false → st k = true) := by
  simp only [relB, Bool.and_eq_true, List.all_eq_true, List.mem_range, decide_eq_true_eq] at h
  obtain ⟨⟨h1, h2⟩, h3⟩ := h
  have at' : ∀ j, j < ops.size → ∃ oj, ops[j]? = some oj ∧ ((R.getD j false || j == i || oj.after.any fun e => Region.binds .any e && !R.getD e.on false) = true ∧ (!R.getD j false || listed.getD j true || st j) = true) ∧ (!listed.getD j false || R.getD j false) = true := fun j hj => by
    have := h2 j hj
    rw [Array.getElem?_eq_getElem hj] at this
    simp only [Bool.and_eq_true] at this
    exact ⟨_, Array.getElem?_eq_getElem hj, this⟩
  refine ⟨by simpa using h1, fun j oj hoj hR => ?_, fun k hk => ?_, fun k hk hl => ?_⟩
  · obtain ⟨o, ho, ⟨h4, _⟩, _⟩ := at' j (Array.getElem?_eq_some_iff.1 hoj).1
    rw [hoj] at ho
    cases ho
    rw [hR] at h4
    simp only [Bool.false_or, Bool.or_eq_true, beq_iff_eq, Array.any_eq_true, Bool.and_eq_true, Bool.not_eq_true'] at h4
    rcases h4 with h4 | ⟨x, hx, h5, h6⟩
    · exact .inl h4
    · exact .inr ⟨_, Array.getElem_mem hx, h5, h6⟩
  · have hk' : k < ops.size := by
      rcases Nat.lt_or_ge k listed.size with h' | h'
      · omega
      · simp [Array.getElem?_eq_none h'] at hk
    obtain ⟨o, ho, _, h5⟩ := at' k hk'
    rw [hk] at h5
    simpa using h5
  · have hk' : k < ops.size := by
      rcases Nat.lt_or_ge k listed.size with h' | h'
      · omega
      · simp [Array.getElem?_eq_none h'] at hl
    obtain ⟨o, ho, ⟨_, h4⟩, _⟩ := at' k hk'
    rw [hk, hl] at h4
    simpa using h4

theorem mix_sound {ops : Array Oper} (hops : ops.all (operOk n) = true) (hsel : Region.noSelect ops = true) {st : Nat → Bool} {K : Env → AH → Prop} : ∀ (sch : List (Nat × Nat)) (listed : Array Bool) (e : Env) (H : AH) (σ : Sg) (w : World) (a : Act) (fuel : Nat),
    mixB ops st sch listed = true → sch.length ≤ fuel → Fut B σ0 H0 w0 σ H w → Sim σ H w → B ≤ H.length → ER n σ H a e → mops P B ops K sch e H → wpG P .any ops (RelN n B σ0 H0 w0 K) st fuel listed a w
  | [], listed, e, H, σ, w, a, fuel, hm, hf, F, hS, hB, hE, h => by
    simp only [mixB, List.isEmpty_iff] at hm
    exact wpG_done hm ⟨σ, e, H, F, hS, hE, h⟩ fuel
  | (i, k) :: sch, listed, e, H, σ, w, a, 0, hm, hf, F, hS, hB, hE, h => by simp at hf
  | (i, k) :: sch, listed, e, H, σ, w, a, fuel + 1, hm, hf, F, hS, hB, hE, h => by
    simp only [mixB, Bool.and_eq_true] at hm
    obtain ⟨⟨⟨hm1, _⟩, hm2⟩, hm3⟩ := hm
    unfold mops at h
    cases ho : ops[i]? with
    | none => rw [ho] at h; exact h.elim
    | some o =>
      rw [ho] at h
      dsimp only at h
      have hoo : operOk n o = true := Array.all_eq_true'.1 hops o (Array.mem_of_getElem? ho)
      unfold operOk at hoo
      rw [Bool.and_eq_true] at hoo
      have hdst : ops.all (fun o => dstOk n o.dst) = true := by
        rw [Array.all_eq_true] at hops ⊢
        intro i hi
        have := hops i hi
        unfold operOk at this
        rw [Bool.and_eq_true] at this
        exact this.1
      have hy := yield_eq hE hdst
      have next : ∀ v d w' σ' H', Fut B σ H w σ' H' w' → Sim σ' H' w' → VR σ' H' v d → mops P B ops K sch (put e o.dst d) H' → wpG P .any ops (RelN n B σ0 H0 w0 K) st fuel (listed.setIfInBounds i true) (a.put o.dst v) w' := fun v d w' σ' H' F' S' V' h' =>
        mix_sound hops hsel sch _ _ _ σ' w' _ fuel hm3 (by simp at hf; omega) (F.trans F') S' (Nat.le_trans hB F'.len) ((hE.fut F').put hoo.1 V') h'
      -- what is wanted, and what comes of it
      have cases2 : (Region.wanted o (yielded ops a.tmps) = true ∧ mop P B k e H o (fun v H' => mops P B ops K sch (put e o.dst v) H')) ∨ (Region.wanted o (yielded ops a.tmps) = false ∧ mops P B ops K sch (put e o.dst undef) H) := by
        cases hg : o.guard with
        | none =>
          rw [hg] at h
          exact .inl ⟨by simp [Region.wanted, hg], h⟩
        | some jw =>
          obtain ⟨j, want⟩ := jw
          rw [hg] at h
          dsimp only at h
          unfold gateA at h
          by_cases hc : yieldA ops e j = some want
          · rw [if_pos hc] at h
            exact .inl ⟨by simp [Region.wanted, hg, hy, hc], h⟩
          · rw [if_neg hc] at h
            exact .inr ⟨by simp [Region.wanted, hg, hy, hc], h⟩
      by_cases hk0 : k = 0
      · -- taken first
        subst hk0
        simp only [beq_self_eq_true, if_true, Bool.and_eq_true] at hm1
        obtain ⟨⟨hfree, hready⟩, hrel0⟩ := hm1
        rcases Bool.or_eq_true_iff.1 hrel0 with hrel | hmv
        case inr =>
          rw [Bool.and_eq_true] at hmv
          obtain ⟨hmv, hrel⟩ := hmv
          obtain ⟨r1, r2, r3, r4⟩ := relB_spec hrel
          unfold mvB at hmv
          rw [ho] at hmv
          dsimp only at hmv
          have take : ∀ v, YieldsIf P ops (fun _ => True) o v a → wpG P .any ops (RelN n B σ0 H0 w0 K) st fuel (listed.setIfInBounds i true) (a.put o.dst v) w → wpG P .any ops (RelN n B σ0 H0 w0 K) st (fuel + 1) listed a w := fun v hyv hn =>
            wpG_firstU ho (Region.noSelect_spec hsel) (fun c a w hq => hq.elim) _ r1 r2 fuel listed a w r3 (Region.free_spec ho hfree) (by simpa using hready) hyv hn
          rcases cases2 with ⟨hw, hc⟩ | ⟨hw, hc⟩
          · simp only [mop, if_true] at hc
            by_cases hp : isPop o.op = true
            · rw [if_pos hp] at hc
              cases hv : popV P e H o.type o.op with
              | none => rw [hv] at hc; exact hc.elim
              | some d =>
                rw [hv] at hc
                obtain ⟨v, hvr, hrun⟩ := pop_sound hS hE hoo.2 hv
                refine take v (.inl ⟨hw, fun w' _ => ?_⟩) (next v d w σ H (.refl _ _ _ _) hS hvr hc)
                have hr0 := hrun w (Below.refl _ w)
                obtain ⟨dst, op, ty, pos0, af, g⟩ := o
                cases op <;> first | (cases hmv; done) | skip
                all_goals
                  simp only [execOp] at hr0 ⊢
                  injection hr0 with hr1
                  simp_all
            · rw [if_neg hp] at hc; exact hc.elim
          · exact take undef (.inr ⟨hw, rfl⟩) (next undef undef w σ H (.refl _ _ _ _) hS (.flat _ rfl) hc)
        obtain ⟨r1, r2, r3, r4⟩ := relB_spec hrel
        have take : ∀ v, YieldsIf P ops (fun w' => Below w.heap.size w w') o v a → wpG P .any ops (RelN n B σ0 H0 w0 K) st fuel (listed.setIfInBounds i true) (a.put o.dst v) w → wpG P .any ops (RelN n B σ0 H0 w0 K) st (fuel + 1) listed a w := fun v hyv hn =>
          wpG_first ho (Region.noSelect_spec hsel) (fun c a w hq => hq.elim) _ r1 r2 w fuel listed a w r3 r4 (Region.free_spec ho hfree) (by simpa using hready) hyv (Below.refl _ _) hn
        rcases cases2 with ⟨hw, hc⟩ | ⟨hw, hc⟩
        · simp only [mop, if_true] at hc
          by_cases hp : isPop o.op = true
          · rw [if_pos hp] at hc
            cases hv : popV P e H o.type o.op with
            | none => rw [hv] at hc; exact hc.elim
            | some d =>
              rw [hv] at hc
              obtain ⟨v, hvr, hrun⟩ := pop_sound hS hE hoo.2 hv
              exact take v (.inl ⟨hw, fun w' hb => hrun w' hb⟩) (next v d w σ H (.refl _ _ _ _) hS hvr hc)
          · rw [if_neg hp] at hc; exact hc.elim
        · exact take undef (.inr ⟨hw, rfl⟩) (next undef undef w σ H (.refl _ _ _ _) hS (.flat _ rfl) hc)
      · -- the only one that may come up
        have hk0' : (k == 0) = false := by simpa using hk0
        simp only [hk0', Bool.false_eq_true, if_false, beq_iff_eq] at hm1
        refine ⟨fun h0 => (by rw [hm1] at h0; cases h0), fun j hj => ?_⟩
        rw [hm1] at hj
        obtain rfl : j = i := by simpa using hj
        unfold wpOp
        simp only [ho]
        rcases cases2 with ⟨hw, hc⟩ | ⟨hw, hc⟩
        · rw [if_pos hw]
          left
          unfold mop at hc
          rw [if_neg hk0] at hc
          by_cases hk1 : k = 1
          · rw [if_pos hk1] at hc
            exact aop_sound hS (Nat.le_refl _) hE hoo.2 hc fun v w' σ' H' d F' S' V' h' => ⟨fun _ => F'.forget, next v d w' σ' H' (F'.base hB) S' V' h'⟩
          · rw [if_neg hk1] at hc
            have hst : st j = false := by
              have e1 : (k == 1) = false := by simpa using hk1
              rw [hk0', e1] at hm2
              simpa using hm2
            exact aop_sound hS hB hE hoo.2 hc fun v w' σ' H' d F' S' V' h' => ⟨fun hx => (by rw [hst] at hx; cases hx), next v d w' σ' H' F' S' V' h'⟩
        · rw [if_neg (by rw [hw]; decide)]
          exact ⟨fun _ => Below.refl _ _, next undef undef w σ H (.refl _ _ _ _) hS (.flat _ rfl) hc⟩

/-- THE RULE for a region that asks the tape. -/
theorem AWp.mixed {id : Nat} {ops : Array Oper} {e : Env} {H : AH} {Q : Exit → Env → AH → Prop} (sch : List (Nat × Nat)) (hm : P.follows .mixedOrders = true) (hc : mixC ops sch = true)
    (h : mops P B ops (Q .normal) sch e H) : AWp P n B (.region id ops true) Q e H := fun hok σ w a hS hB hE => by
  simp only [codeOk] at hok
  simp only [mixC, Bool.and_eq_true, decide_eq_true_eq] at hc
  have hb : Below w.heap.size w { w with drawn := w.drawn + 1 } := ⟨rfl, rfl, rfl, Nat.le_refl _, fun _ _ => rfl⟩
  have := mix_sound (P := P) (B := B) (σ0 := σ) (H0 := H) (w0 := w) hok hc.1.1 (st := stOf sch) (K := Q .normal) sch (Array.replicate ops.size false) e H σ { w with drawn := w.drawn + 1 } a ops.size hc.1.2 hc.2 (.of_below hb) (hS.below hb) hB hE h
  refine wp_mono (wp_region_G hm this) fun ex a' w' hq => ?_
  cases ex with
  | normal => exact hq
  | _ => exact hq.elim
end

/-! ### Orders told by a tree: where several operations may come up, each of them -/
inductive SchT
  | nil
  | cons (i k : Nat) (t : SchT)
  | alt (i k : Nat) (t r : SchT)
def SchT.firsts : SchT → List Nat
  | .nil => []
  | .cons i _ _ => [i]
  | .alt i _ _ r => i :: r.firsts
def SchT.size : SchT → Nat
  | .nil => 0
  | .cons _ _ t => t.size + 1
  | .alt _ _ t r => max (t.size + 1) r.size
def SchT.writes : SchT → Nat → Bool
  | .nil, _ => false
  | .cons i k t, j => (i == j && k == 2) || t.writes j
  | .alt i k t r, j => (i == j && k == 2) || t.writes j || r.writes j
def mixF (ops : Array Oper) (st : Nat → Bool) : Bool → SchT → Array Bool → Bool
  | top, .nil, listed => top && (Region.ready .any ops listed).isEmpty
  | top, .cons i k t, listed =>
    (if k == 0 then top && (Region.free .any ops listed i && (Region.ready .any ops listed).contains i && (relB ops st listed i (reachB ops i) || mvB ops i && relB ops (fun _ => true) listed i (reachB ops i))) else !top || Region.ready .any ops listed == [i]) &&
      (k == 0 || k == 1 || !st i) && mixF ops st true t (listed.setIfInBounds i true)
  | top, .alt i k t r, listed => k != 0 && (!top || (Region.ready .any ops listed).all (fun j => (i :: r.firsts).contains j) && !(Region.ready .any ops listed).isEmpty) && (k == 1 || !st i) && mixF ops st true t (listed.setIfInBounds i true) && mixF ops st false r listed
def mixT (ops : Array Oper) (t : SchT) : Bool := Region.noSelect ops && mixF ops (fun j => !t.writes j) true t (Array.replicate ops.size false) && decide (t.size ≤ ops.size)
noncomputable def stepP (P : Program) (B : Nat) (ops : Array Oper) (i k : Nat) (N : Env → AH → Prop) (e : Env) (H : AH) : Prop :=
  match ops[i]? with
  | none => False
  | some o =>
    match o.guard with
    | none => mop P B k e H o fun v H' => N (put e o.dst v) H'
    | some (j, want) => gateA (yieldA ops e j) want (mop P B k e H o fun v H' => N (put e o.dst v) H') (N (put e o.dst undef) H)
noncomputable def mopsT (P : Program) (B : Nat) (ops : Array Oper) (K : Env → AH → Prop) : SchT → Env → AH → Prop
  | .nil, e, H => K e H
  | .cons i k t, e, H => stepP P B ops i k (mopsT P B ops K t) e H
  | .alt i k t r, e, H => stepP P B ops i k (mopsT P B ops K t) e H ∧ mopsT P B ops K r e H
section
variable {P : Program} {B n : Nat} {σ0 : Sg} {H0 : AH} {w0 : World}
theorem step_cases {ops : Array Oper} (hops : ops.all (operOk n) = true) {i k : Nat} {N : Env → AH → Prop} {e : Env} {H : AH} {σ : Sg} {a : Act} (hE : ER n σ H a e) (h : stepP P B ops i k N e H) :
    ∃ o, ops[i]? = some o ∧ (dstOk n o.dst = true ∧ o.op.operands.all (opdOk n) = true) ∧
      ((Region.wanted o (yielded ops a.tmps) = true ∧ mop P B k e H o (fun v H' => N (put e o.dst v) H')) ∨ (Region.wanted o (yielded ops a.tmps) = false ∧ N (put e o.dst undef) H)) := by
  unfold stepP at h
  cases ho : ops[i]? with
  | none => rw [ho] at h; exact h.elim
  | some o =>
    rw [ho] at h
    dsimp only at h
    have hoo : operOk n o = true := Array.all_eq_true'.1 hops o (Array.mem_of_getElem? ho)
    unfold operOk at hoo
    rw [Bool.and_eq_true] at hoo
    have hdst : ops.all (fun o => dstOk n o.dst) = true := by
      rw [Array.all_eq_true] at hops ⊢
      intro i hi
      have := hops i hi
      unfold operOk at this
      rw [Bool.and_eq_true] at this
      exact this.1
    have hy := yield_eq hE hdst
    refine ⟨o, rfl, hoo, ?_⟩
    cases hg : o.guard with
    | none =>
      rw [hg] at h
      exact .inl ⟨by simp [Region.wanted, hg], h⟩
    | some jw =>
      obtain ⟨j, want⟩ := jw
      rw [hg] at h
      dsimp only at h
      unfold gateA at h
      by_cases hc : yieldA ops e j = some want
      · rw [if_pos hc] at h
        exact .inl ⟨by simp [Region.wanted, hg, hy, hc], h⟩
      · rw [if_neg hc] at h
        exact .inr ⟨by simp [Region.wanted, hg, hy, hc], h⟩

theorem eff_step {ops : Array Oper} (hops : ops.all (operOk n) = true) {st : Nat → Bool} {Q : Exit → Act → World → Prop} {i k : Nat} {N : Env → AH → Prop} {e : Env} {H : AH} {σ : Sg} {w : World} {a : Act} {W : Act → World → Prop} (hk0 : k ≠ 0) (hst : k = 1 ∨ st i = false)
    (hS : Sim σ H w) (hB : B ≤ H.length) (hE : ER n σ H a e) (h : stepP P B ops i k N e H)
    (next : ∀ o, ops[i]? = some o → dstOk n o.dst = true → ∀ v d w' σ' H', Fut B σ H w σ' H' w' → Sim σ' H' w' → VR σ' H' v d → N (put e o.dst d) H' → W (a.put o.dst v) w') :
    wpOp P ops Q i (fun a' w' => (st i = true → Below w.heap.size w w') ∧ W a' w') a w := by
  obtain ⟨o, ho, hoo, cases2⟩ := step_cases hops hE h
  unfold wpOp
  simp only [ho]
  rcases cases2 with ⟨hw, hc⟩ | ⟨hw, hc⟩
  · rw [if_pos hw]
    left
    unfold mop at hc
    rw [if_neg hk0] at hc
    by_cases hk1 : k = 1
    · rw [if_pos hk1] at hc
      exact aop_sound hS (Nat.le_refl _) hE hoo.2 hc fun v w' σ' H' d F' S' V' h' => ⟨fun _ => F'.forget, next o ho hoo.1 v d w' σ' H' (F'.base hB) S' V' h'⟩
    · rw [if_neg hk1] at hc
      have hst' : st i = false := by
        rcases hst with h | h
        · exact absurd h hk1
        · exact h
      exact aop_sound hS hB hE hoo.2 hc fun v w' σ' H' d F' S' V' h' => ⟨fun hx => (by rw [hst'] at hx; cases hx), next o ho hoo.1 v d w' σ' H' F' S' V' h'⟩
  · rw [if_neg (by rw [hw]; decide)]
    exact ⟨fun _ => Below.refl _ _, next o ho hoo.1 undef undef w σ H (.refl _ _ _ _) hS (.flat _ rfl) hc⟩

theorem mixF_sound {ops : Array Oper} (hops : ops.all (operOk n) = true) (hsel : Region.noSelect ops = true) {st : Nat → Bool} {K : Env → AH → Prop} : ∀ (t : SchT) (listed : Array Bool) (e : Env) (H : AH) (σ : Sg) (w : World) (a : Act) (fuel : Nat),
    t.size ≤ fuel → Fut B σ0 H0 w0 σ H w → Sim σ H w → B ≤ H.length → ER n σ H a e → mopsT P B ops K t e H →
      (mixF ops st true t listed = true → wpG P .any ops (RelN n B σ0 H0 w0 K) st fuel listed a w) ∧
      (mixF ops st false t listed = true → ∀ f, fuel = f + 1 → ∀ j ∈ t.firsts, wpOp P ops (RelN n B σ0 H0 w0 K) j (fun a' w' => (st j = true → Below w.heap.size w w') ∧ wpG P .any ops (RelN n B σ0 H0 w0 K) st f (listed.setIfInBounds j true) a' w') a w)
  | .nil, listed, e, H, σ, w, a, fuel, hf, F, hS, hB, hE, h => by
    refine ⟨fun hm => ?_, fun hm => ?_⟩
    · simp only [mixF, Bool.true_and, List.isEmpty_iff] at hm
      exact wpG_done hm ⟨σ, e, H, F, hS, hE, h⟩ fuel
    · simp [mixF] at hm
  | .cons i k t, listed, e, H, σ, w, a, 0, hf, F, hS, hB, hE, h => by simp [SchT.size] at hf
  | .cons i k t, listed, e, H, σ, w, a, fuel + 1, hf, F, hS, hB, hE, h => by
    have next : mixF ops st true t (listed.setIfInBounds i true) = true → ∀ o, ops[i]? = some o → dstOk n o.dst = true → ∀ v d w' σ' H', Fut B σ H w σ' H' w' → Sim σ' H' w' → VR σ' H' v d → mopsT P B ops K t (put e o.dst d) H' → wpG P .any ops (RelN n B σ0 H0 w0 K) st fuel (listed.setIfInBounds i true) (a.put o.dst v) w' :=
      fun hm o ho hd v d w' σ' H' F' S' V' h' => (mixF_sound hops hsel t _ _ _ σ' w' _ fuel (by simp [SchT.size] at hf; omega) (F.trans F') S' (Nat.le_trans hB F'.len) ((hE.fut F').put hd V') h').1 hm
    by_cases hk0 : k = 0
    · subst hk0
      refine ⟨fun hm => ?_, fun hm => by simp [mixF] at hm⟩
      simp only [mixF, beq_self_eq_true, if_true, Bool.true_and, Bool.and_eq_true] at hm
      obtain ⟨⟨⟨⟨hfree, hready⟩, hrel0⟩, _⟩, hm3⟩ := hm
      obtain ⟨o, ho, hoo, cases2⟩ := step_cases hops hE h
      have next := next hm3 o ho hoo.1
      rcases Bool.or_eq_true_iff.1 hrel0 with hrel | hmv
      case inr =>
        rw [Bool.and_eq_true] at hmv
        obtain ⟨hmv, hrel⟩ := hmv
        obtain ⟨r1, r2, r3, r4⟩ := relB_spec hrel
        unfold mvB at hmv
        rw [ho] at hmv
        dsimp only at hmv
        have take : ∀ v, YieldsIf P ops (fun _ => True) o v a → wpG P .any ops (RelN n B σ0 H0 w0 K) st fuel (listed.setIfInBounds i true) (a.put o.dst v) w → wpG P .any ops (RelN n B σ0 H0 w0 K) st (fuel + 1) listed a w := fun v hyv hn =>
          wpG_firstU ho (Region.noSelect_spec hsel) (fun c a w hq => hq.elim) _ r1 r2 fuel listed a w r3 (Region.free_spec ho hfree) (by simpa using hready) hyv hn
        rcases cases2 with ⟨hw, hc⟩ | ⟨hw, hc⟩
        · simp only [mop, if_true] at hc
          by_cases hp : isPop o.op = true
          · rw [if_pos hp] at hc
            cases hv : popV P e H o.type o.op with
            | none => rw [hv] at hc; exact hc.elim
            | some d =>
              rw [hv] at hc
              obtain ⟨v, hvr, hrun⟩ := pop_sound hS hE hoo.2 hv
              refine take v (.inl ⟨hw, fun w' _ => ?_⟩) (next v d w σ H (.refl _ _ _ _) hS hvr hc)
              have hr0 := hrun w (Below.refl _ w)
              obtain ⟨dst, op, ty, pos0, af, g⟩ := o
              cases op <;> first | (cases hmv; done) | skip
              all_goals
                simp only [execOp] at hr0 ⊢
                injection hr0 with hr1
                simp_all
          · rw [if_neg hp] at hc; exact hc.elim
        · exact take undef (.inr ⟨hw, rfl⟩) (next undef undef w σ H (.refl _ _ _ _) hS (.flat _ rfl) hc)
      obtain ⟨r1, r2, r3, r4⟩ := relB_spec hrel
      have take : ∀ v, YieldsIf P ops (fun w' => Below w.heap.size w w') o v a → wpG P .any ops (RelN n B σ0 H0 w0 K) st fuel (listed.setIfInBounds i true) (a.put o.dst v) w → wpG P .any ops (RelN n B σ0 H0 w0 K) st (fuel + 1) listed a w := fun v hyv hn =>
        wpG_first ho (Region.noSelect_spec hsel) (fun c a w hq => hq.elim) _ r1 r2 w fuel listed a w r3 r4 (Region.free_spec ho hfree) (by simpa using hready) hyv (Below.refl _ _) hn
      rcases cases2 with ⟨hw, hc⟩ | ⟨hw, hc⟩
      · simp only [mop, if_true] at hc
        by_cases hp : isPop o.op = true
        · rw [if_pos hp] at hc
          cases hv : popV P e H o.type o.op with
          | none => rw [hv] at hc; exact hc.elim
          | some d =>
            rw [hv] at hc
            obtain ⟨v, hvr, hrun⟩ := pop_sound hS hE hoo.2 hv
            exact take v (.inl ⟨hw, fun w' hb => hrun w' hb⟩) (next v d w σ H (.refl _ _ _ _) hS hvr hc)
        · rw [if_neg hp] at hc; exact hc.elim
      · exact take undef (.inr ⟨hw, rfl⟩) (next undef undef w σ H (.refl _ _ _ _) hS (.flat _ rfl) hc)
    · have hk0' : (k == 0) = false := by simpa using hk0
      have hst : (k == 0 || k == 1 || !st i) = true → k = 1 ∨ st i = false := fun h => by simp [hk0'] at h; exact h
      refine ⟨fun hm => ?_, fun hm f hfe j hj => ?_⟩
      · simp only [mixF, hk0', Bool.false_eq_true, if_false, Bool.not_true, Bool.false_or, beq_iff_eq, Bool.and_eq_true] at hm
        obtain ⟨⟨hm1, hm2⟩, hm3⟩ := hm
        refine ⟨fun h0 => (by rw [hm1] at h0; cases h0), fun j hj => ?_⟩
        rw [hm1] at hj
        obtain rfl : j = i := by simpa using hj
        exact eff_step hops hk0 (hst (by simpa [hk0'] using hm2)) hS hB hE h (next hm3)
      · simp only [mixF, hk0', Bool.false_eq_true, if_false, Bool.not_false, Bool.true_or, Bool.true_and, Bool.and_eq_true] at hm
        obtain rfl : fuel = f := by omega
        obtain rfl : j = i := by simpa [SchT.firsts] using hj
        exact eff_step hops hk0 (hst (by simpa [hk0'] using hm.1)) hS hB hE h (next hm.2)
  | .alt i k t r, listed, e, H, σ, w, a, 0, hf, F, hS, hB, hE, h => by simp [SchT.size] at hf
  | .alt i k t r, listed, e, H, σ, w, a, fuel + 1, hf, F, hS, hB, hE, h => by
    have next : mixF ops st true t (listed.setIfInBounds i true) = true → ∀ o, ops[i]? = some o → dstOk n o.dst = true → ∀ v d w' σ' H', Fut B σ H w σ' H' w' → Sim σ' H' w' → VR σ' H' v d → mopsT P B ops K t (put e o.dst d) H' → wpG P .any ops (RelN n B σ0 H0 w0 K) st fuel (listed.setIfInBounds i true) (a.put o.dst v) w' :=
      fun hm o ho hd v d w' σ' H' F' S' V' h' => (mixF_sound hops hsel t _ _ _ σ' w' _ fuel (by simp [SchT.size] at hf; omega) (F.trans F') S' (Nat.le_trans hB F'.len) ((hE.fut F').put hd V') h').1 hm
    have rest := (mixF_sound (st := st) hops hsel r listed e H σ w a (fuel + 1) (by simp [SchT.size] at hf; omega) F hS hB hE h.2).2
    have main : (k != 0) = true → (k == 1 || !st i) = true → mixF ops st true t (listed.setIfInBounds i true) = true → mixF ops st false r listed = true → ∀ j ∈ i :: r.firsts, wpOp P ops (RelN n B σ0 H0 w0 K) j (fun a' w' => (st j = true → Below w.heap.size w w') ∧ wpG P .any ops (RelN n B σ0 H0 w0 K) st fuel (listed.setIfInBounds j true) a' w') a w := by
      intro c1 c2 c3 c4 j hj
      rcases List.mem_cons.1 hj with rfl | hj
      · exact eff_step hops (by simpa using c1) (by simpa using c2) hS hB hE h.1 (next c3)
      · exact rest c4 fuel rfl j hj
    refine ⟨fun hm => ?_, fun hm f hfe j hj => ?_⟩
    · simp only [mixF, Bool.not_true, Bool.false_or, Bool.and_eq_true] at hm
      obtain ⟨⟨⟨⟨c1, c5, c6⟩, c2⟩, c3⟩, c4⟩ := hm
      refine ⟨fun h0 => by rw [h0] at c6; simp at c6, fun j hj => main c1 c2 c3 c4 j ?_⟩
      have := List.all_eq_true.1 c5 j hj
      simpa using this
    · simp only [mixF, Bool.not_false, Bool.true_or, Bool.and_eq_true] at hm
      obtain ⟨⟨⟨⟨c1, _⟩, c2⟩, c3⟩, c4⟩ := hm
      obtain rfl : fuel = f := by omega
      exact main c1 c2 c3 c4 j hj

/-- THE RULE for a region that asks the tape, with a tree of orders. -/
theorem AWp.mixedT {id : Nat} {ops : Array Oper} {e : Env} {H : AH} {Q : Exit → Env → AH → Prop} (t : SchT) (hm : P.follows .mixedOrders = true) (hc : mixT ops t = true)
    (h : mopsT P B ops (Q .normal) t e H) : AWp P n B (.region id ops true) Q e H := fun hok σ w a hS hB hE => by
  simp only [codeOk] at hok
  simp only [mixT, Bool.and_eq_true, decide_eq_true_eq] at hc
  have hb : Below w.heap.size w { w with drawn := w.drawn + 1 } := ⟨rfl, rfl, rfl, Nat.le_refl _, fun _ _ => rfl⟩
  have := (mixF_sound (P := P) (B := B) (σ0 := σ) (H0 := H) (w0 := w) hok hc.1.1 (st := fun j => !t.writes j) (K := Q .normal) t (Array.replicate ops.size false) e H σ { w with drawn := w.drawn + 1 } a ops.size hc.2 (.of_below hb) (hS.below hb) hB hE h).1 hc.1.2
  refine wp_mono (wp_region_G hm this) fun ex a' w' hq => ?_
  cases ex with
  | normal => exact hq
  | _ => exact hq.elim
end

theorem mop_zero {P : Program} {B : Nat} {e : Env} {H : AH} {o : Oper} {K : Value → AH → Prop} (hp : isPop o.op = true) : mop P B 0 e H o K = aop P B e H o K := by
  unfold mop aop
  rw [if_pos rfl, if_pos hp, if_pos hp]
section
variable {P : Program} {B : Nat} {ops : Array Oper} {K : Env → AH → Prop} {sch : List (Nat × Nat)} {e : Env} {H : AH} {i : Nat} {o : Oper}
theorem mops_nil : mops P B ops K [] e H = K e H := rfl
theorem mops_at (B' k : Nat) (ho : ops[i]? = some o) (hk : ∀ K', mop P B k e H o K' = aop P B' e H o K') (h : aops P B' ops (fun e' H' => mops P B ops K sch e' H') [o] e H) : mops P B ops K ((i, k) :: sch) e H := by
  unfold mops
  rw [ho]
  simp only [aops] at h
  dsimp only
  simp only [hk]
  exact h
/-- Number i of a list that stands written out. -/
def opAt : List Oper → Nat → Option Oper
  | [], _ => none
  | o :: _, 0 => some o
  | _ :: l, i + 1 => opAt l i
theorem opAt_eq : ∀ (l : List Oper) (i : Nat), opAt l i = l[i]?
  | [], _ => by simp [opAt]
  | o :: _, 0 => rfl
  | _ :: l, i + 1 => by simp [opAt, opAt_eq l i]
theorem opAt_ops (ho : opAt ops.toList i = some o) : ops[i]? = some o := by
  rw [opAt_eq] at ho
  simpa using ho
theorem mops_step0 (ho : opAt ops.toList i = some o) (hp : isPop o.op = true) (h : ∀ k : KT (mops P B ops K sch), aops P B ops k.K [o] e H) : mops P B ops K ((i, 0) :: sch) e H :=
  mops_at B 0 (opAt_ops ho) (fun K' => mop_zero hp) (h ⟨_, fun e H h => h⟩)
theorem mops_step1 (ho : opAt ops.toList i = some o) (h : ∀ k : KT (mops P B ops K sch), aops P H.length ops k.K [o] e H) : mops P B ops K ((i, 1) :: sch) e H :=
  mops_at H.length 1 (opAt_ops ho) (fun K' => rfl) (h ⟨_, fun e H h => h⟩)
theorem mops_step2 (ho : opAt ops.toList i = some o) (h : ∀ k : KT (mops P B ops K sch), aops P B ops k.K [o] e H) : mops P B ops K ((i, 2) :: sch) e H :=
  mops_at B 2 (opAt_ops ho) (fun K' => rfl) (h ⟨_, fun e H h => h⟩)
theorem stepP_at {N : Env → AH → Prop} (B' k : Nat) (ho : ops[i]? = some o) (hk : ∀ K', mop P B k e H o K' = aop P B' e H o K') (h : aops P B' ops N [o] e H) : stepP P B ops i k N e H := by
  unfold stepP
  rw [ho]
  simp only [aops] at h
  dsimp only
  simp only [hk]
  exact h
variable {t r : SchT}
theorem mopsT_nil : mopsT P B ops K .nil e H = K e H := rfl
theorem mopsT_step0 (ho : opAt ops.toList i = some o) (hp : isPop o.op = true) (h : ∀ k : KT (mopsT P B ops K t), aops P B ops k.K [o] e H) : mopsT P B ops K (.cons i 0 t) e H :=
  stepP_at B 0 (opAt_ops ho) (fun K' => mop_zero hp) (h ⟨_, fun e H h => h⟩)
theorem mopsT_step1 (ho : opAt ops.toList i = some o) (h : ∀ k : KT (mopsT P B ops K t), aops P H.length ops k.K [o] e H) : mopsT P B ops K (.cons i 1 t) e H :=
  stepP_at H.length 1 (opAt_ops ho) (fun K' => rfl) (h ⟨_, fun e H h => h⟩)
theorem mopsT_step2 (ho : opAt ops.toList i = some o) (h : ∀ k : KT (mopsT P B ops K t), aops P B ops k.K [o] e H) : mopsT P B ops K (.cons i 2 t) e H :=
  stepP_at B 2 (opAt_ops ho) (fun K' => rfl) (h ⟨_, fun e H h => h⟩)
theorem mopsT_alt1 (ho : opAt ops.toList i = some o) (h : ∀ k : KT (mopsT P B ops K t), aops P H.length ops k.K [o] e H) (h' : mopsT P B ops K r e H) : mopsT P B ops K (.alt i 1 t r) e H :=
  ⟨stepP_at H.length 1 (opAt_ops ho) (fun K' => rfl) (h ⟨_, fun e H h => h⟩), h'⟩
theorem mopsT_alt2 (ho : opAt ops.toList i = some o) (h : ∀ k : KT (mopsT P B ops K t), aops P B ops k.K [o] e H) (h' : mopsT P B ops K r e H) : mopsT P B ops K (.alt i 2 t r) e H :=
  ⟨stepP_at B 2 (opAt_ops ho) (fun K' => rfl) (h ⟨_, fun e H h => h⟩), h'⟩
theorem optK_mono {α : Type} {o : Option α} {k k' : α → Prop} (hk : ∀ v, k v → k' v) (h : optK o k) : optK o k' := by
  cases o with
  | none => exact h.elim
  | some v => exact hk v h
theorem optP_mono {o : Option (Value × AH)} {k k' : Value → AH → Prop} (hk : ∀ v H, k v H → k' v H) (h : optP o k) : optP o k' := by
  cases o with
  | none => exact h.elim
  | some v => exact hk _ _ h
theorem optH_mono {o : Option AH} {k k' : AH → Prop} (hk : ∀ H, k H → k' H) (h : optH o k) : optH o k' := by
  cases o with
  | none => exact h.elim
  | some v => exact hk _ h
theorem aop_mono {e : Env} {H : AH} {o : Oper} {k k' : Value → AH → Prop} (hk : ∀ v H, k v H → k' v H) (h : aop P B e H o k) : aop P B e H o k' := by
  unfold aop at h ⊢
  by_cases hp : isPop o.op = true
  · rw [if_pos hp] at h ⊢
    exact optK_mono (fun v h => hk v H h) h
  · rw [if_neg hp] at h ⊢
    unfold aopE at h ⊢
    split at h
    · split at h
      · unfold nilQ at h ⊢
        split at h
        · exact fun b hb => hk _ _ (h b hb)
        · exact h.elim
      · exact h.elim
    · exact ⟨h.1, hk _ _ h.2⟩
    · exact optK_mono (fun z h => ⟨h.1, hk _ _ h.2⟩) h
    · exact optH_mono (fun H h => hk _ H h) h
    · exact optP_mono hk h
    · exact optP_mono hk h
    · split at h
      · split at h
        · exact optP_mono hk h
        · exact h.elim
      · split at h
        · exact optH_mono (fun H h => hk _ H h) h
        · exact h.elim
      · split at h
        · exact ⟨h.1, h.2.mono hk⟩
        · exact h.elim
      · exact h.elim
    · exact h.elim
theorem stepP_mono {N N' : Env → AH → Prop} {k : Nat} (hN : ∀ e H, N e H → N' e H) (h : stepP P B ops i k N e H) : stepP P B ops i k N' e H := by
  unfold stepP at h ⊢
  cases ho : ops[i]? with
  | none => rw [ho] at h; exact h.elim
  | some o =>
    rw [ho] at h
    dsimp only at h ⊢
    have hm : mop P B k e H o (fun v H' => N (put e o.dst v) H') → mop P B k e H o (fun v H' => N' (put e o.dst v) H') := fun h => by
      unfold mop at h ⊢
      by_cases h0 : k = 0
      · rw [if_pos h0] at h ⊢
        by_cases hp : isPop o.op = true
        · rw [if_pos hp] at h ⊢
          cases hv : popV P e H o.type o.op with
          | none => rw [hv] at h; exact h.elim
          | some d => rw [hv] at h; exact hN _ _ h
        · rw [if_neg hp] at h; exact h.elim
      · rw [if_neg h0] at h ⊢
        by_cases h1 : k = 1
        · rw [if_pos h1] at h ⊢; exact aop_mono (fun v H' h => hN _ _ h) h
        · rw [if_neg h1] at h ⊢; exact aop_mono (fun v H' h => hN _ _ h) h
    cases hg : o.guard with
    | none => rw [hg] at h; exact hm h
    | some jw =>
      obtain ⟨q, want⟩ := jw
      rw [hg] at h
      dsimp only at h ⊢
      unfold gateA at h ⊢
      by_cases hc : yieldA ops e q = some want
      · rw [if_pos hc] at h ⊢; exact hm h
      · rw [if_neg hc] at h ⊢; exact hN _ _ h
theorem mopsT_mono {K K' : Env → AH → Prop} (hK : ∀ e H, K e H → K' e H) : ∀ (t : SchT) (e : Env) (H : AH), mopsT P B ops K t e H → mopsT P B ops K' t e H
  | .nil, e, H, h => hK e H h
  | .cons i k t, e, H, h => stepP_mono (fun e H h => mopsT_mono hK t e H h) h
  | .alt i k t r, e, H, h => ⟨stepP_mono (fun e H h => mopsT_mono hK t e H h) h.1, mopsT_mono hK r e H h.2⟩
theorem mopsT_abs (h : ∀ e0 : Env, e0 = e → mopsT P B ops K t e0 H) : mopsT P B ops K t e H := h e rfl
end
end Go.BM

/- Plain facts on lists. -/
set_option linter.unusedVariables false
namespace Go.BM

/-! ### the first place -/
def findI {α : Type} (p : α → Bool) : List α → Int
  | [] => -1
  | x :: xs => if p x = true then 0 else (let r := findI p xs; if r < 0 then -1 else r + 1)


section
open Go.RowKit
variable {P : Program} {B : Nat} {H : AH}
/-- A call of plain values, at the very arguments of its contract. -/
theorem ACalls.start {f : FuncId} {args : List Value} {k : Value → AH → Prop} (h : ACalls P B f args H k) : ACalls P B f args H k := h
theorem qcall_start {f : Value} {args : List Value} {k : Value → Prop} (h : qcallK P f args H k) : qcallK P f args H k := h
theorem ACalls.ofJ {f : FuncId} {args args' : List Value} {v : Value} {k : Value → AH → Prop} (h : PCalls P f args' v) (he : args = args') (hi : ∀ d ∈ args', Im d) (hv : Im v) (hk : k v H) : ACalls P B f args H k := by
  subst he
  exact ACalls.ofI h hi hv hk
theorem qcallF {g : FuncId} {caps : Array Value} {args args' : List Value} {k : Value → Prop} {v : Value} (h : PCalls P g args' v) (he : args ++ caps.toList = args') (hi : ∀ d ∈ args', Im d) (hv : pureV v = true) (hk : k v) : qcallK P (.func (.func g) #[] caps) args H k := by
  subst he
  exact qcallP h (.same hi) hv hk
theorem Im.appL {l l' : List Value} (hx : ∀ c ∈ l, Im c) (hl : ∀ c ∈ l', Im c) : ∀ c ∈ l ++ l', Im c := fun c h => by
  rcases List.mem_append.1 h with h | h
  · exact hx c h
  · exact hl c h
theorem Im.funcA {g : Fn} {caps : Array Value} (h : ∀ c ∈ caps.toList, Im c) : Im (.func g #[] caps) := .func _ _ _ fun i hi => h _ (by simp)
theorem PCalls.of {f : FuncId} {args : List Value} {v : Value} (h : ACalls P 0 f args [] fun d H' => Bor H' d v) : PCalls P f args v := h
theorem PCalls.flat {f : FuncId} {args : List Value} {v : Value} (hv : flatV v = true) (h : ACalls P 0 f args [] fun d _ => d = v) : PCalls P f args v := PCalls.mk (.flat _ hv) h
theorem PCalls.val {f : FuncId} {args : List Value} {v : Value} (hv : Im v) (h : ACalls P 0 f args [] fun d _ => d = v) : PCalls P f args v := PCalls.mk hv h
end
theorem intE_sz : intE.sz = 1 := rfl
theorem strE_sz : strE.sz = 1 := rfl
theorem boolE_sz : boolE.sz = 1 := rfl
theorem byteE_sz : byteE.sz = 1 := rfl
theorem intE_val (i : Int) : intE.val i = .int .i64 i := rfl
theorem strE_val (i : ByteArray) : strE.val i = .string i := rfl
theorem boolE_val (i : Bool) : boolE.val i = .bool i := rfl
theorem byteE_val (i : UInt8) : byteE.val i = .int .u8 i.toNat := rfl

theorem findI_hit {α : Type} (p : α → Bool) : ∀ (xs : List α) (k : Nat) (hk : k < xs.length), (∀ j (hj : j < xs.length), j < k → p xs[j] = false) → p xs[k] = true → findI p xs = k
  | [], k, hk, _, _ => by simp at hk
  | x :: xs, 0, _, _, h => by simp at h; simp [findI, h]
  | x :: xs, k + 1, hk, hno, h => by
    have h0 := hno 0 (by simp) (by omega)
    simp at h0
    have ih := findI_hit p xs k (by simpa using hk) (fun j hj hjk => hno (j + 1) (by simpa using hj) (by omega)) h
    unfold findI
    rw [if_neg (by simp [h0])]
    dsimp only
    rw [ih, if_neg (by omega)]
    omega

theorem findI_none {α : Type} (p : α → Bool) : ∀ (xs : List α), (∀ j (hj : j < xs.length), p xs[j] = false) → findI p xs = -1
  | [], _ => rfl
  | x :: xs, h => by
    have h0 := h 0 (by simp)
    simp at h0
    have ih := findI_none p xs (fun j hj => h (j + 1) (by simpa using hj))
    unfold findI
    rw [if_neg (by simp [h0])]
    dsimp only
    rw [ih, if_pos (by omega)]

theorem findI_any {α : Type} (p : α → Bool) : ∀ (xs : List α), decide (0 ≤ findI p xs) = xs.any p
  | [] => rfl
  | x :: xs => by
    have ih := findI_any p xs
    unfold findI
    by_cases h : p x = true
    · simp [h]
    · rw [if_neg h]
      dsimp only
      have hx : p x = false := by simpa using h
      rw [List.any_cons, hx, Bool.false_or, ← ih]
      by_cases h2 : findI p xs < 0
      · rw [if_pos h2]; simp; omega
      · rw [if_neg h2]; simp; omega

/-! ### what is only read, by instances -/
class ImC (v : Value) : Prop where
  out : Im v
class ImLs (l : List Value) : Prop where
  out : ∀ c ∈ l, Im c
instance (k : IntKind) (i : Int) : ImC (.int k i) := ⟨.flat _ rfl⟩
instance (b : Bool) : ImC (.bool b) := ⟨.flat _ rfl⟩
instance (s : ByteArray) : ImC (.string s) := ⟨.flat _ rfl⟩
instance : ImC .nilFunc := ⟨.flat _ rfl⟩
instance : ImC .nilIface := ⟨.flat _ rfl⟩
instance : ImC (.pointer none) := ⟨.flat _ rfl⟩
instance : ImLs [] := ⟨Im.nilL⟩
instance (v : Value) (l : List Value) [h : ImC v] [t : ImLs l] : ImLs (v :: l) := ⟨Im.consL h.out t.out⟩
instance (l m : List Value) [h : ImLs l] [t : ImLs m] : ImLs (l ++ m) := ⟨Im.appL h.out t.out⟩
instance (l : List Value) [h : ImLs l] : ImC (.agg l.toArray) := ⟨Im.aggL h.out⟩
instance (l : List Value) [h : ImLs l] : ImC (.tuple l.toArray) := ⟨Im.tupleL h.out⟩
instance (g : Fn) (l : List Value) [h : ImLs l] : ImC (.func g #[] l.toArray) := ⟨Im.funcL h.out⟩
instance (g : Fn) (l : Array Value) [h : ImLs l.toList] : ImC (.func g #[] l) := ⟨Im.funcA h.out⟩
instance (n : Nat) (l : List Value) [h : ImLs l] : ImC (isl n l) := ⟨Im.isl h.out⟩
instance (l : List Value) [h : ImLs l] : ImC (ip l) := ⟨Im.ip h.out⟩
instance {α : Type} (E : Enc α) (xs : List α) : ImC (islE E xs) := ⟨islE_im _ _⟩
instance {α : Type} (E : Enc α) (x : α) : ImC (E.val x) := ⟨E.val_im x⟩
instance {α : Type} (E : Enc α) (xs : List α) : ImLs (E.flat xs) := ⟨fun c h => (E.flat_ok xs c h).im⟩
instance {α : Type} (E : Enc α) (x : α) : ImLs (cellsV (E.val x)) := ⟨fun c h => (E.hok x c h).im⟩
theorem ACalls.ofJi {P : Program} {B : Nat} {H : AH} {f : FuncId} {args args' : List Value} {v : Value} {k : Value → AH → Prop} (h : PCalls P f args' v) (he : args = args') [hi : ImLs args'] [hv : ImC v] (hk : k v H) : ACalls P B f args H k :=
  ACalls.ofJ h he hi.out hv.out hk
theorem qcallFi {P : Program} {H : AH} {g : FuncId} {caps : Array Value} {args args' : List Value} {k : Value → Prop} {v : Value} (h : PCalls P g args' v) (he : args ++ caps.toList = args') [hi : ImLs args'] (hv : pureV v = true) (hk : k v) : qcallK P (.func (.func g) #[] caps) args H k :=
  qcallF h he hi.out hv hk
/-- The equations of a walk, in one. -/
theorem bse : type_of% (And.intro (And.intro (And.intro (And.intro (@mopsT_nil) (@convX_int)) (And.intro (@convX_bool) (@convX_str))) (And.intro (And.intro (@convX_own) (@convX_isl)) (And.intro (And.intro (And.intro (@isU8_u8) (@isStr_str)) (And.intro (And.intro (And.intro (@conv_intR) (And.intro (@intOf_int) (@bs_beq))) (And.intro (@lenV_str) (@bs_size))) (And.intro (And.intro (@bin_sadd) (@strIdx_bs)) (And.intro (@strSl2) (And.intro (@strSlL) (@strSlH)))))) (And.intro (@bytesV_nil) (@bytesV_cons))))) (And.intro (And.intro (And.intro (And.intro (And.intro (And.intro (@mops_nil) (@hea)) (And.intro (@decide_true) (@decide_false))) (And.intro (And.intro (@List.map_cons.{0,0}) (@List.map_nil.{0,0})) (And.intro (@List.append_nil.{0}) (@List.nil_append.{0})))) (And.intro (And.intro (And.intro (@List.cons_append.{0}) (@List.append_assoc.{0})) (And.intro (@List.getElem?_cons_zero.{0}) (@List.getElem?_cons_succ.{0}))) (And.intro (And.intro (@List.set_cons_zero.{0}) (@List.set_cons_succ.{0})) (And.intro (@Option.bind_some.{0,0}) (@Option.map_some.{0,0}))))) (And.intro (And.intro (And.intro (And.intro (@Option.map_none.{0,0}) (@List.length_cons.{0})) (And.intro (@List.length_nil.{0}) (@List.length_append.{0}))) (And.intro (And.intro (@Nat.zero_add) (@Nat.add_zero)) (And.intro (@List.drop_zero.{0}) (@List.drop_succ_cons.{0})))) (And.intro (And.intro (And.intro (@List.take_succ_cons.{0}) (@List.take_zero.{0})) (And.intro (@List.all_cons.{0}) (@List.all_nil.{0}))) (And.intro (And.intro (@Bool.and_true) (@Bool.and_self)) (And.intro (@Bool.true_and) (And.intro (@Bool.false_and) (@Bool.and_false))))))) (And.intro (And.intro (And.intro (And.intro (And.intro (@Bool.or_true) (@Bool.true_or)) (And.intro (@Bool.false_or) (@Bool.or_false))) (And.intro (And.intro (@Bool.not_true) (@Bool.not_false)) (And.intro (@Bool.not_not) (@and_self)))) (And.intro (And.intro (And.intro (@and_true) (@true_and)) (And.intro (@Nat.le_refl) (@beq_self_eq_true.{0}))) (And.intro (And.intro (@cond_true.{1}) (@cond_false.{1})) (And.intro (@List.drop_nil.{0}) (And.intro (@List.take_nil.{0}) (@idxE_eq)))))) (And.intro (And.intro (And.intro (And.intro (@sliE_eq) (@Int.toNat_natCast)) (And.intro (@List.take_length.{0}) (@Nat.sub_zero))) (And.intro (And.intro (@intE_sz) (@strE_sz)) (And.intro (@boolE_sz) (@byteE_sz)))) (And.intro (And.intro (And.intro (@intE_val) (@strE_val)) (And.intro (@boolE_val) (@byteE_val))) (And.intro (And.intro (@Option.isSome_some.{0}) (@Option.isSome_none.{0})) (And.intro (@Int.natCast_nonneg) (And.intro (@Nat.mul_one) (@Nat.zero_le))))))))) :=
  And.intro (And.intro (And.intro (And.intro (@mopsT_nil) (@convX_int)) (And.intro (@convX_bool) (@convX_str))) (And.intro (And.intro (@convX_own) (@convX_isl)) (And.intro (And.intro (And.intro (@isU8_u8) (@isStr_str)) (And.intro (And.intro (And.intro (@conv_intR) (And.intro (@intOf_int) (@bs_beq))) (And.intro (@lenV_str) (@bs_size))) (And.intro (And.intro (@bin_sadd) (@strIdx_bs)) (And.intro (@strSl2) (And.intro (@strSlL) (@strSlH)))))) (And.intro (@bytesV_nil) (@bytesV_cons))))) (And.intro (And.intro (And.intro (And.intro (And.intro (And.intro (@mops_nil) (@hea)) (And.intro (@decide_true) (@decide_false))) (And.intro (And.intro (@List.map_cons.{0,0}) (@List.map_nil.{0,0})) (And.intro (@List.append_nil.{0}) (@List.nil_append.{0})))) (And.intro (And.intro (And.intro (@List.cons_append.{0}) (@List.append_assoc.{0})) (And.intro (@List.getElem?_cons_zero.{0}) (@List.getElem?_cons_succ.{0}))) (And.intro (And.intro (@List.set_cons_zero.{0}) (@List.set_cons_succ.{0})) (And.intro (@Option.bind_some.{0,0}) (@Option.map_some.{0,0}))))) (And.intro (And.intro (And.intro (And.intro (@Option.map_none.{0,0}) (@List.length_cons.{0})) (And.intro (@List.length_nil.{0}) (@List.length_append.{0}))) (And.intro (And.intro (@Nat.zero_add) (@Nat.add_zero)) (And.intro (@List.drop_zero.{0}) (@List.drop_succ_cons.{0})))) (And.intro (And.intro (And.intro (@List.take_succ_cons.{0}) (@List.take_zero.{0})) (And.intro (@List.all_cons.{0}) (@List.all_nil.{0}))) (And.intro (And.intro (@Bool.and_true) (@Bool.and_self)) (And.intro (@Bool.true_and) (And.intro (@Bool.false_and) (@Bool.and_false))))))) (And.intro (And.intro (And.intro (And.intro (And.intro (@Bool.or_true) (@Bool.true_or)) (And.intro (@Bool.false_or) (@Bool.or_false))) (And.intro (And.intro (@Bool.not_true) (@Bool.not_false)) (And.intro (@Bool.not_not) (@and_self)))) (And.intro (And.intro (And.intro (@and_true) (@true_and)) (And.intro (@Nat.le_refl) (@beq_self_eq_true.{0}))) (And.intro (And.intro (@cond_true.{1}) (@cond_false.{1})) (And.intro (@List.drop_nil.{0}) (And.intro (@List.take_nil.{0}) (@idxE_eq)))))) (And.intro (And.intro (And.intro (And.intro (@sliE_eq) (@Int.toNat_natCast)) (And.intro (@List.take_length.{0}) (@Nat.sub_zero))) (And.intro (And.intro (@intE_sz) (@strE_sz)) (And.intro (@boolE_sz) (@byteE_sz)))) (And.intro (And.intro (And.intro (@intE_val) (@strE_val)) (And.intro (@boolE_val) (@byteE_val))) (And.intro (And.intro (@Option.isSome_some.{0}) (@Option.isSome_none.{0})) (And.intro (@Int.natCast_nonneg) (And.intro (@Nat.mul_one) (@Nat.zero_le))))))))
end Go.BM

/- What an argument that reads as data is, told by lists. -/
set_option linter.unusedVariables false
namespace Go.BM
open Go.RowKit

/-- All memory as it is. -/
def allM (W : World) : Sg := ⟨fun _ => ⟨0, 0, 0, false⟩, fun a => if a.spot = none then (match W.cell? a with | some u => if u.oneCell' = true then some u else none | none => none) else none⟩
theorem allM_im {W : World} {a : Addr} {u : Value} (hs : a.spot = none) (h : W.cell? a = some u) (h1 : u.oneCell' = true) : (allM W).im a = some u := by
  unfold allM
  simp only [hs, if_true, h, h1]
theorem allM_sim (W : World) (hG : GI (allM W).im W) : Sim (allM W) [] W where
  own := fun r b h => by simp at h
  im := fun a u h => by
    unfold allM at h
    dsimp only at h
    split at h
    case isFalse => cases h
    rename_i hs
    split at h
    case h_2 => cases h
    rename_i u' hu
    split at h
    case isFalse => cases h
    rename_i h1
    cases h
    exact ⟨hu, hs, h1⟩
  sep := fun a u h r blk hb => by simp at hb
  inj := fun r r' b b' h => by simp at h
  glob := hG

def laidF (P : Program) (tot : Nat) : Nat → List Field → Bool
  | off, [] => off == tot
  | off, f :: fs => f.offset == off && laidF P tot (off + P.cellsOf f.type) fs

/-- Types of numbers, bools, strings, structs and slices. -/
def plainT (P : Program) : Nat → TypeId → Bool
  | 0, _ => false
  | n + 1, t =>
    match P.underlying t with
    | some (.int _) => true
    | some .bool => true
    | some .string => true
    | some (.slice e) => decide (0 < P.cellsOf e) && plainT P n e
    | some (.struct fs) => laidF P (P.cellsOf t) 0 fs.toList && fs.toList.all fun f => plainT P n f.type
    | _ => false

def AbL (R : TypeId → List Value → Prop) : List Field → List Value → Prop
  | [], cs => cs = []
  | f :: fs, cs => ∃ p q, cs = p ++ q ∧ R f.type p ∧ AbL R fs q

/-- Cells of a type, told by lists. -/
def Ab (P : Program) : Nat → TypeId → List Value → Prop
  | 0, _, _ => False
  | n + 1, t, cs =>
    match P.underlying t with
    | some (.int k) => ∃ i, cs = [.int k i] ∧ (Lit.int k i).wf = true
    | some .bool => ∃ b, cs = [.bool b]
    | some .string => ∃ s, cs = [.string s] ∧ s.size ≤ maxLen
    | some (.slice e) => ∃ xs : List (List Value), cs = [isl xs.length xs.flatten] ∧ xs.length ≤ maxLen ∧ ∀ x ∈ xs, x.length = P.cellsOf e ∧ Ab P n e x
    | some (.struct fs) => AbL (fun u c => Ab P n u c) fs.toList cs
    | _ => False

theorem flatten_get {c : Nat} (hc : 0 < c) : ∀ (xss : List (List Value)) (j : Nat), (∀ x ∈ xss, x.length = c) → xss.flatten[j]? = (xss[j / c]?).bind (·[j % c]?)
  | [], j, _ => by simp
  | x :: xss, j, h => by
    have hx := h x (by simp)
    simp only [List.flatten_cons]
    rcases Nat.lt_or_ge j c with hj | hj
    · rw [List.getElem?_append_left (by omega), Nat.div_eq_of_lt hj, Nat.mod_eq_of_lt hj]
      simp
    · rw [List.getElem?_append_right (by omega), flatten_get hc xss _ (fun y hy => h y (by simp [hy])), hx]
      have e1 : j / c = (j - c) / c + 1 := by rw [Nat.div_eq_sub_div hc hj]
      have e2 : j % c = (j - c) % c := by rw [Nat.mod_eq_sub_mod hj]
      rw [e1, e2, List.getElem?_cons_succ]

section
variable {H : Type} {enc : TypeId × Value → H} {P : Program} {W : World}

/-- What opening one type's cells comes to. -/
def Opens (enc : TypeId × Value → H) (P : Program) (W : World) (m n : Nat) : Prop :=
  ∀ (t : TypeId) (cs : List Value) (x : DataW H × List MemPlace), DataW.trod enc P W 0 (fun _ => true) true m t cs = some x → plainT P n t = true →
    ∃ as : List Value, VRL (allM W) [] cs as ∧ as.all Value.oneCell' = true ∧ Ab P n t as

theorem opens_list {m n : Nat} (ih : Opens enc P W m n) {e : TypeId} (hp : plainT P n e = true) : ∀ (css : List (List Value)), (∀ c ∈ css, ∃ x, DataW.trod enc P W 0 (fun _ => true) true m e c = some x) →
    ∃ ass : List (List Value), ass.length = css.length ∧ (∀ (j : Nat) d, ass[j]? = some d → ∃ c, css[j]? = some c ∧ VRL (allM W) [] c d) ∧ ∀ d ∈ ass, d.all Value.oneCell' = true ∧ Ab P n e d
  | [], _ => ⟨[], rfl, fun j d hd => by simp at hd, fun d hd => by simp at hd⟩
  | c :: css, hcs => by
    obtain ⟨x, hx⟩ := hcs c (by simp)
    obtain ⟨as, v1, o1, b1⟩ := ih e c x hx hp
    obtain ⟨ass, l2, v2, b2⟩ := opens_list ih hp css (fun c hc => hcs c (by simp [hc]))
    refine ⟨as :: ass, by simp [l2], fun j d hd => ?_, fun d hd => ?_⟩
    · cases j with
      | zero => simp at hd; subst hd; exact ⟨c, rfl, v1⟩
      | succ j =>
        simp at hd
        obtain ⟨c', h1, h2⟩ := v2 j d hd
        exact ⟨c', by simpa using h1, h2⟩
    · rcases List.mem_cons.1 hd with rfl | hd
      · exact ⟨o1, b1⟩
      · exact b2 d hd

theorem opens_fields {m n : Nat} (ih : Opens enc P W m n) {tot : Nat} {cs : List Value} (hl : cs.length = tot) : ∀ (fs : List Field) (off : Nat) (xs : List (DataW H × List MemPlace)), laidF P tot off fs = true → fs.all (fun f => plainT P n f.type) = true → off ≤ tot →
    (fs.mapM fun f => DataW.trod enc P W 0 (fun _ => true) true m f.type ((cs.drop f.offset).take (P.cellsOf f.type))) = some xs →
    ∃ as : List Value, VRL (allM W) [] (cs.drop off) as ∧ as.all Value.oneCell' = true ∧ AbL (fun u c => Ab P n u c) fs as
  | [], off, xs, h1, _, h3, h4 => by
    simp only [laidF, beq_iff_eq] at h1
    refine ⟨[], ?_, rfl, rfl⟩
    rw [List.drop_eq_nil_of_le (by omega)]
    exact ⟨rfl, fun j u hu => by simp at hu⟩
  | f :: fs, off, xs, h1, h2, h3, h4 => by
    simp only [laidF, Bool.and_eq_true, beq_iff_eq] at h1
    simp only [List.all_cons, Bool.and_eq_true] at h2
    rw [List.mapM_cons] at h4
    simp only [bind, Option.bind_eq_some_iff, pure, Option.some.injEq] at h4
    obtain ⟨y, hy, ys, hys, rfl⟩ := h4
    have hle : ∀ (fs : List Field) (off : Nat), laidF P tot off fs = true → off ≤ tot := fun fs => by
      induction fs with
      | nil => intro off h; simp only [laidF, beq_iff_eq] at h; omega
      | cons f fs ihh => intro off h; simp only [laidF, Bool.and_eq_true, beq_iff_eq] at h; have := ihh _ h.2; omega
    have hoff := hle fs _ h1.2
    obtain ⟨as, v1, o1, b1⟩ := ih f.type _ y hy h2.1
    obtain ⟨bs, v2, o2, b2⟩ := opens_fields ih hl fs (off + P.cellsOf f.type) ys h1.2 h2.2 hoff hys
    rw [h1.1] at v1
    refine ⟨as ++ bs, ?_, by rw [List.all_append, o1, o2]; rfl, as, bs, rfl, b1, b2⟩
    have := v1.append v2
    rw [← List.drop_drop, List.take_append_drop] at this
    exact this

theorem cells?_at {W : World} {a : Addr} {n : Nat} {cs : List Value} (h : W.cells? 0 a n = some cs) : cs.length = n ∧ ∀ (j : Nat) u, cs[j]? = some u → W.cell? (a.add j) = some u := by
  unfold World.cells? at h
  rw [if_pos (Nat.zero_le _)] at h
  have hl := mapM_some_length h
  simp only [List.length_range] at hl
  refine ⟨hl, fun j u hu => ?_⟩
  have hj : j < n := by have := lt_of_some'' hu; omega
  rw [mapM_some_get h j j (by rw [List.getElem?_range hj]), hu]

theorem opens_all : ∀ (m n : Nat), Opens enc P W m n
  | 0, n => fun t cs x h => by simp [DataW.trod] at h
  | m + 1, 0 => fun t cs x h hp => by simp [plainT] at hp
  | m + 1, n + 1 => fun t cs x h hp => by
    have flatC : ∀ (v : Value), flatV v = true → v.oneCell' = true → Ab P (n + 1) t [v] → ∃ as : List Value, VRL (allM W) [] [v] as ∧ as.all Value.oneCell' = true ∧ Ab P (n + 1) t as := fun v hf ho hab =>
      ⟨[v], ⟨rfl, fun j u hu => ⟨u, hu, by
        have hj : j = 0 := by have := lt_of_some'' hu; simpa using this
        subst hj
        simp at hu
        subst hu
        exact .flat _ hf⟩⟩, by simp [ho], hab⟩
    unfold plainT at hp
    unfold DataW.trod at h
    cases hu : P.underlying t with
    | none => rw [hu] at hp; cases hp
    | some desc =>
      rw [hu] at hp h
      cases desc with
      | int k =>
        obtain ⟨i, rfl, hw⟩ : ∃ i, cs = [.int k i] ∧ (Lit.int k i).wf = true := by
          split at h <;> simp_all
        exact flatC _ rfl rfl (by unfold Ab; rw [hu]; exact ⟨i, rfl, hw⟩)
      | bool =>
        obtain ⟨i, rfl⟩ : ∃ i, cs = [.bool i] := by
          split at h <;> simp_all
        exact flatC _ rfl rfl (by unfold Ab; rw [hu]; exact ⟨i, rfl⟩)
      | string =>
        obtain ⟨i, rfl, hw⟩ : ∃ i, cs = [.string i] ∧ i.size ≤ maxLen := by
          split at h <;> simp_all
        exact flatC _ rfl rfl (by unfold Ab; rw [hu]; exact ⟨i, rfl, hw⟩)
      | struct fs =>
        simp only [Bool.and_eq_true] at hp
        obtain ⟨hl, xs, hxs⟩ : cs.length = P.cellsOf t ∧ ∃ xs, (fs.toList.mapM fun f => DataW.trod enc P W 0 (fun _ => true) true m f.type ((cs.drop f.offset).take (P.cellsOf f.type))) = some xs := by
          split at h <;> simp_all
          exact ⟨_, h.2.choose_spec.1⟩
        obtain ⟨as, h3, h4, h5⟩ := opens_fields (opens_all m n) hl fs.toList 0 xs hp.1 hp.2 (Nat.zero_le _) hxs
        exact ⟨as, by simpa using h3, h4, by unfold Ab; rw [hu]; exact h5⟩
      | slice e =>
        simp only [Bool.and_eq_true, decide_eq_true_eq] at hp
        have nilC : ∀ (a : Option Addr), cs = [.slice a 0 0] → ∃ as : List Value, VRL (allM W) [] cs as ∧ as.all Value.oneCell' = true ∧ Ab P (n + 1) t as := fun a hcs => by
          subst hcs
          refine ⟨[isl 0 []], ⟨rfl, fun j u hu => ?_⟩, rfl, by unfold Ab; rw [hu]; exact ⟨[], rfl, Nat.zero_le _, fun x hx => by simp at hx⟩⟩
          have hj : j = 0 := by have := lt_of_some'' hu; simpa using this
          subst hj
          simp at hu
          subst hu
          have := VR.isl0 (σ := allM W) (H := []) a 0 (Nat.zero_le _)
          exact ⟨_, rfl, by simpa [isl] using this⟩
        have hcase : cs = [.slice none 0 0] ∨ ∃ (a : Addr) (len cap : Nat) (elems rest : List (DataW H × List MemPlace)), cs = [.slice (some a) len cap] ∧ len ≤ cap ∧ cap ≤ maxLen ∧
            ((List.range len).mapM fun i => (W.cells? 0 (a.add (i * P.cellsOf e)) (P.cellsOf e)).bind (DataW.trod enc P W 0 (fun _ => true) true m e)) = some elems ∧
            ((List.range (cap - len)).mapM fun j => (W.cells? 0 (a.add ((len + j) * P.cellsOf e)) (P.cellsOf e)).bind (DataW.trod enc P W 0 (fun _ => true) true m e)) = some rest := by
          split at h <;> simp_all
          obtain ⟨elems, h1, h2⟩ := Option.bind_eq_some_iff.1 h.2
          obtain ⟨rest, h3, _⟩ := Option.map_eq_some_iff.1 h2
          exact ⟨_, _, _, ⟨rfl, rfl, rfl⟩, h.1.1, h.1.2, ⟨_, h1⟩, ⟨_, h3⟩⟩
        rcases hcase with hcs | ⟨a, len, cap, elems, rest, hcs, hlc, hcm, h1, h2⟩
        · exact nilC none hcs
        by_cases hl0 : len = 0
        · subst hl0
          subst hcs
          refine ⟨[isl 0 []], ⟨rfl, fun j u hu => ?_⟩, rfl, by unfold Ab; rw [hu]; exact ⟨[], rfl, Nat.zero_le _, fun x hx => by simp at hx⟩⟩
          have hj : j = 0 := by have := lt_of_some'' hu; simpa using this
          subst hj
          simp at hu
          subst hu
          have := VR.isl0 (σ := allM W) (H := []) (some a) cap hcm
          exact ⟨_, rfl, by simpa [isl] using this⟩
        -- the elements' cells
        have el : ∀ i, i < len → ∃ c x, W.cells? 0 (a.add (i * P.cellsOf e)) (P.cellsOf e) = some c ∧ DataW.trod enc P W 0 (fun _ => true) true m e c = some x := fun i hi => by
          have := mapM_some_get h1 i i (by rw [List.getElem?_range hi])
          have hlen := mapM_some_length h1
          simp only [List.length_range] at hlen
          rw [List.getElem?_eq_getElem (by omega)] at this
          obtain ⟨c, hc, hx⟩ := Option.bind_eq_some_iff.1 this
          exact ⟨c, _, hc, hx⟩
        have spot : a.spot = none := by
          obtain ⟨c, x, hc, hx⟩ := el 0 (by omega)
          obtain ⟨c1, c2⟩ := cells?_at hc
          have := c2 0 c[0] (List.getElem?_eq_getElem (by omega))
          simpa [Addr.add] using World.cell?_spot this
        obtain ⟨ab, ao, as'⟩ := a
        dsimp only at spot
        subst spot
        have hch : ∃ css : List (List Value), css.length = len ∧ ∀ (i : Nat) c, css[i]? = some c → W.cells? 0 (Addr.add ⟨ab, ao, none⟩ (i * P.cellsOf e)) (P.cellsOf e) = some c ∧ ∃ x, DataW.trod enc P W 0 (fun _ => true) true m e c = some x := by
          have : ∀ k, k ≤ len → ∃ css : List (List Value), css.length = k ∧ ∀ (i : Nat) c, css[i]? = some c → W.cells? 0 (Addr.add ⟨ab, ao, none⟩ (i * P.cellsOf e)) (P.cellsOf e) = some c ∧ ∃ x, DataW.trod enc P W 0 (fun _ => true) true m e c = some x := by
            intro k
            induction k with
            | zero => exact fun _ => ⟨[], rfl, fun i c hc => by simp at hc⟩
            | succ k ihk =>
              intro hk
              obtain ⟨css, l1, l2⟩ := ihk (by omega)
              obtain ⟨c, x, hc, hx⟩ := el k (by omega)
              refine ⟨css ++ [c], by simp [l1], fun i c' hc' => ?_⟩
              rcases Nat.lt_or_ge i css.length with hi | hi
              · rw [List.getElem?_append_left hi] at hc'; exact l2 i c' hc'
              · rw [List.getElem?_append_right hi] at hc'
                have := lt_of_some'' hc'
                simp at this
                have hi0 : i - css.length = 0 := by omega
                rw [hi0] at hc'
                simp at hc'
                subst hc'
                have : i = k := by omega
                subst this
                exact ⟨hc, x, hx⟩
          exact this len (Nat.le_refl _)
        obtain ⟨css, cl, hcs2⟩ := hch
        obtain ⟨ass, l1, v1, b1⟩ := opens_list (opens_all m n) hp.2 css (fun c hc => by
          obtain ⟨i, hi, rfl⟩ := List.getElem_of_mem hc
          exact (hcs2 i _ (List.getElem?_eq_getElem hi)).2)
        have hlenE : ∀ d ∈ ass, d.length = P.cellsOf e := fun d hd => by
          obtain ⟨i, hi, rfl⟩ := List.getElem_of_mem hd
          obtain ⟨c, hc, hv⟩ := v1 i _ (List.getElem?_eq_getElem hi)
          rw [← hv.1]
          exact (cells?_at (hcs2 i c hc).1).1
        have hlenC : ∀ c ∈ css, c.length = P.cellsOf e := fun c hc => by
          obtain ⟨i, hi, rfl⟩ := List.getElem_of_mem hc
          exact (cells?_at (hcs2 i _ (List.getElem?_eq_getElem hi)).1).1
        have hflat : ∀ xss : List (List Value), (∀ x ∈ xss, x.length = P.cellsOf e) → xss.flatten.length = xss.length * P.cellsOf e := by
          intro xss
          induction xss with
          | nil => simp
          | cons x xss ihx =>
            intro hx
            rw [List.flatten_cons, List.length_append, hx x (by simp), ihx fun y hy => hx y (by simp [hy]), List.length_cons, Nat.add_mul, Nat.one_mul, Nat.add_comm]
        have hvr : VR (allM W) [] (.slice (some ⟨ab, ao, none⟩) len cap) (BM.isl len ass.flatten) := by
          refine VR.mkI (us := css.flatten) hlc hcm (by rw [hflat _ hlenE, hflat _ hlenC, l1]) (fun j u hj => ?_) fun j v hj => ?_
          · rw [flatten_get hp.1 css j hlenC] at hj
            obtain ⟨c, hc, hq⟩ := Option.bind_eq_some_iff.1 hj
            have h3 := (cells?_at (hcs2 _ c hc).1).2 _ u hq
            rw [Addr.add_add] at h3
            have e1 : j / P.cellsOf e * P.cellsOf e + j % P.cellsOf e = j := Nat.div_add_mod' j _
            rw [e1, add_plain'] at h3
            have hjl : j / P.cellsOf e < ass.length := by rw [l1]; exact lt_of_some'' hc
            obtain ⟨c', hc', hv'⟩ := v1 _ _ (List.getElem?_eq_getElem hjl)
            rw [hc] at hc'
            cases hc'
            have hdl : j % P.cellsOf e < (ass[j / P.cellsOf e]).length := by rw [hlenE _ (List.getElem_mem hjl)]; exact Nat.mod_lt _ hp.1
            obtain ⟨x, hx1, hx2⟩ := hv'.2 _ _ (List.getElem?_eq_getElem hdl)
            rw [hq] at hx1
            cases hx1
            refine allM_im rfl h3 ?_
            rw [hx2.one]
            exact List.all_eq_true.1 (b1 _ (List.getElem_mem hjl)).1 _ (List.getElem_mem hdl)
          · rw [flatten_get hp.1 ass j hlenE] at hj
            obtain ⟨d, hd, hq⟩ := Option.bind_eq_some_iff.1 hj
            obtain ⟨c, hc, hv⟩ := v1 _ d hd
            obtain ⟨u, hu1, hu2⟩ := hv.2 _ v hq
            exact ⟨u, by rw [flatten_get hp.1 css j hlenC, hc]; exact hu1, hu2⟩
        subst hcs
        refine ⟨[isl len ass.flatten], ⟨rfl, fun j u hu => ?_⟩, rfl, ?_⟩
        · have hj : j = 0 := by have := lt_of_some'' hu; simpa using this
          subst hj
          simp at hu
          subst hu
          exact ⟨_, rfl, hvr⟩
        · unfold Ab
          rw [hu]
          exact ⟨ass, by rw [l1, cl], by omega, fun x hx => ⟨hlenE x hx, (b1 x hx).2⟩⟩
      | _ => cases hp

end
end Go.BM

/- From a row's reading to a walk over lists, and back. -/
set_option linter.unusedVariables false
namespace Go.BM
open Go.RowKit Go.ChangeShapes

def AbV (P : Program) (n : Nat) (t : TypeId) (v : Value) : Prop :=
  match P.underlying t with
  | some (.struct _) => ∃ cs : List Value, v = .agg cs.toArray ∧ Ab P n t cs
  | _ => Ab P n t [v]

def AbVs (P : Program) (n : Nat) : List TypeId → List Value → Prop
  | [], [] => True
  | t :: ts, v :: vs => AbV P n t v ∧ AbVs P n ts vs
  | _, _ => False

theorem AbV.one {P : Program} {n : Nat} {t : TypeId} {v : Value} {d : TypeDesc} (hu : P.underlying t = some d) (hd : ∀ fs, d ≠ .struct fs) (h : AbV P n t v) : Ab P n t [v] := by
  unfold AbV at h
  rw [hu] at h
  split at h
  · rename_i fs e; cases e; exact absurd rfl (hd fs)
  · exact h
theorem Ab.int {P : Program} {n : Nat} {t : TypeId} {cs : List Value} {k : IntKind} (hu : P.underlying t = some (.int k)) (h : Ab P (n + 1) t cs) : ∃ i, cs = [.int k i] ∧ (Lit.int k i).wf = true := by
  unfold Ab at h
  rw [hu] at h
  exact h
/-- A slice's reading, as a list of things. -/
theorem Ab.slE {α : Type} {E : Enc α} {Q : α → Prop} {P : Program} {n : Nat} {t e : TypeId} {cs : List Value} (hu : P.underlying t = some (.slice e)) (hel : ∀ x, Ab P n e x → ∃ y, x = cellsV (E.val y) ∧ Q y) (h : Ab P (n + 1) t cs) :
    ∃ ys : List α, cs = [islE E ys] ∧ ys.length ≤ maxLen ∧ ∀ y ∈ ys, Q y := by
  unfold Ab at h
  rw [hu] at h
  obtain ⟨xs, h1, h2, h3⟩ := h
  have hys : ∀ xs : List (List Value), (∀ x ∈ xs, ∃ y, x = cellsV (E.val y) ∧ Q y) → ∃ ys : List α, ys.length = xs.length ∧ xs.flatten = E.flat ys ∧ ∀ y ∈ ys, Q y := by
    intro xs
    induction xs with
    | nil => exact fun _ => ⟨[], rfl, rfl, fun y hy => by simp at hy⟩
    | cons x xs ih =>
      intro hx
      obtain ⟨y, rfl, hq⟩ := hx x (by simp)
      obtain ⟨ys, l1, l2, l3⟩ := ih fun z hz => hx z (by simp [hz])
      refine ⟨y :: ys, by simp [l1], by rw [List.flatten_cons, l2]; rfl, fun z hz => ?_⟩
      rcases List.mem_cons.1 hz with rfl | hz
      · exact hq
      · exact l3 z hz
  obtain ⟨ys, l1, l2, l3⟩ := hys xs fun x hx => hel x (h3 x hx).2
  exact ⟨ys, by rw [h1, l2, ← l1]; rfl, by omega, l3⟩
theorem AbVs.uncons {P : Program} {n : Nat} {t : TypeId} {ts : List TypeId} {vs : List Value} (h : AbVs P n (t :: ts) vs) : ∃ v vs', vs = v :: vs' ∧ AbV P n t v ∧ AbVs P n ts vs' := by
  cases vs with
  | nil => exact h.elim
  | cons v vs' => exact ⟨v, vs', rfl, h.1, h.2⟩
theorem AbVs.done {P : Program} {n : Nat} {vs : List Value} (h : AbVs P n [] vs) : vs = [] := by
  cases vs with
  | nil => rfl
  | cons v vs' => exact h.elim

section
variable {H : Type} {enc : TypeId × Value → H} {P : Program} {W : World}

theorem open_one {n : Nat} {t : TypeId} {v : Value} {d : DataW H} {p : List MemPlace} {base : Nat} (hp : plainT P n t = true) (hval : Value.okWide P W .any base t v) (h : DataW.Trod enc P W 0 (fun _ => true) true t v d p) :
    ∃ a : Value, VR (allM W) [] v a ∧ AbV P n t a := by
  obtain ⟨m, hm⟩ := h
  obtain ⟨as, h3, h4, h5⟩ := opens_all m n t _ _ hm hp
  by_cases hs : ∃ fs, P.underlying t = some (.struct fs)
  · obtain ⟨fs, hs⟩ := hs
    have hv : ∃ cs, v = .agg cs := by
      unfold Value.okWide at hval
      rw [hs] at hval
      obtain ⟨cs, rfl, _⟩ := hval
      exact ⟨cs, rfl⟩
    obtain ⟨cs, rfl⟩ := hv
    refine ⟨.agg as.toArray, ?_, by unfold AbV; rw [hs]; exact ⟨as, rfl, h5⟩⟩
    have := h3.toAgg
    simpa [Value.cells] using this
  · have hcell : v.cells.toList = [v] := by
      cases v <;> try rfl
      rename_i cs
      exfalso
      unfold Value.okWide at hval
      cases n with
      | zero => simp [plainT] at hp
      | succ n =>
        unfold plainT at hp
        cases hu : P.underlying t with
        | none => rw [hu] at hp; cases hp
        | some desc =>
          rw [hu] at hp hval
          cases desc <;> first | (cases hp; done) | (simp [Cell.okWide, Cell.ok, hu] at hval; done) | exact hs ⟨_, hu⟩
    rw [hcell] at h3
    have hl : as.length = 1 := h3.1.symm
    match as, hl with
    | [a], _ =>
      refine ⟨a, ?_, ?_⟩
      · obtain ⟨x, hx, hr⟩ := h3.2 0 a rfl
        simp at hx
        subst hx
        exact hr
      · unfold AbV
        split
        · rename_i fs e; exact absurd ⟨fs, e⟩ hs
        · exact h5

theorem open_args {n : Nat} {base : Nat} : ∀ (ts : List TypeId) (vs : List Value) (ds : List (DataW H)) (p : List MemPlace), DataW.TrodAll enc P W 0 (fun _ => true) true ts vs ds p → (∀ (j : Nat) t v, ts[j]? = some t → vs[j]? = some v → Value.okWide P W .any base t v) →
    ts.all (plainT P n) = true → ∃ as : List Value, VRL (allM W) [] vs as ∧ AbVs P n ts as
  | [], vs, ds, p, h, _, _ => by
    obtain ⟨rfl, rfl, rfl⟩ := trodAll_nil h
    exact ⟨[], ⟨rfl, fun j u hu => by simp at hu⟩, trivial⟩
  | t :: ts, vs, ds, p, h, hval, hp => by
    obtain ⟨v, vs', d, ds', p1, q1, rfl, rfl, rfl, h1, h2⟩ := trodAll_cons h
    simp only [List.all_cons, Bool.and_eq_true] at hp
    obtain ⟨a, v1, b1⟩ := open_one hp.1 (hval 0 t v rfl rfl) h1
    obtain ⟨as, v2, b2⟩ := open_args ts vs' ds' q1 h2 (fun j t' v' ht hv => hval (j + 1) t' v' (by simpa using ht) (by simpa using hv)) hp.2
    refine ⟨a :: as, ⟨by simp [v2.1], fun j u hu => ?_⟩, b1, b2⟩
    cases j with
    | zero => simp at hu; subst hu; exact ⟨v, rfl, v1⟩
    | succ j => simp at hu; obtain ⟨x, hx, hr⟩ := v2.2 j u hu; exact ⟨x, by simpa using hx, hr⟩

/-- THE RUN: a contract over values that are only read, at a real world. -/
theorem PCalls.run {f : FuncId} {args : Array Value} {as : List Value} (hG : GI (allM W).im W) (h : PCalls P f as (.bool true)) (hv : VRL (allM W) [] args.toList as) :
    Calls P f args W fun e W' => e = .returned (.bool true) ∧ Below W.heap.size W W' :=
  (h.2 (allM W) W args (allM_sim W hG) (Nat.le_refl _) hv).mono fun e W' ⟨v, he, σ', H', d, F, S, V, hd⟩ => by
    have := (bor_vr S hd v V).bool
    subst this
    exact ⟨he, F.below0⟩

theorem below_trodAll (hl : laidOutB P = true) {W' : World} (hb : Below W.heap.size W W') : ∀ {ts : List TypeId} {vs : List Value} {ds : List (DataW H)} {ps : List MemPlace}, (ts.all fun t => P.readableRec t && decide (t < P.types.size)) = true →
    DataW.TrodAll enc P W 0 (fun _ => true) true ts vs ds ps → DataW.TrodAll enc P W' 0 (fun b => decide (b < W.heap.size)) true ts vs ds ps
  | [], _, _, _, _, h => by
    obtain ⟨rfl, rfl, rfl⟩ := trodAll_nil h
    exact trodAll_mk0
  | t :: ts, vs, ds, ps, hr, h => by
    have hlt := h.lt
    obtain ⟨v, vs', d, ds', p1, q1, rfl, rfl, rfl, h1, h2⟩ := trodAll_cons h
    simp only [List.all_cons, Bool.and_eq_true, decide_eq_true_eq] at hr
    exact trodAll_cons_mk (Below.trod hl hr.1.1 hr.1.2 h1 hb fun x hx => hlt x (by simp [hx])) (below_trodAll hl hb hr.2 h2)
end
end Go.BM

/- New slices: made, written, marked. -/
set_option linter.unusedVariables false
set_option linter.unusedSimpArgs false
namespace Go.BM
open Go.RowKit
section
variable {α : Type} {E : Enc α} {P : Program} {B : Nat} {H : AH}

theorem makeH_cells {t el sz by_ : Nat} {zv : Value} (hz : elZ P t = some (el, sz, by_)) (hv : zeroV P el = some zv) (ho : zOk P el sz = true) {n : Nat} (hb : by_ * n ≤ 140737488355328) (hn : n ≤ 140737488355328) :
    makeH P H t (.int .i64 n) (.int .i64 n) = some (.slice (some ⟨H.length, 0, none⟩) n 0, H ++ [⟨el, sz, zerosOf (cellsV zv) (n * sz), 0, true⟩]) := by
  unfold makeH
  dsimp only
  rw [hz]
  dsimp only
  rw [hv]
  dsimp only
  have h3 : ((by_ * n : Nat) : Int) ≤ 140737488355328 := by omega
  rw [Int.natCast_mul] at h3
  rw [if_pos ⟨ho, by omega, Int.le_refl _, h3, by omega⟩, cellsV_eq, Int.toNat_natCast]
  rfl
end

/-! ### marks -/
def marksC (k : Int) (n : Nat) : List Value := (List.range n).map fun j => .int .i64 (k + (j : Nat))
theorem marksC_ok (k : Int) (n : Nat) : ∀ c ∈ marksC k n, Ok c := fun c h => by
  obtain ⟨j, _, rfl⟩ := List.mem_map.1 h
  exact .int _ _
section
variable {P : Program} {B : Nat} {H : AH}
theorem idxV_isl {t e s b n k : Nat} {cs : List Value} {kd : IntKind} (hz : elZ P t = some (e, s, b)) (hk : k < n) : idxV P H t (isl n cs) (.int kd (k : Int)) = some (ip (cs.drop (k * s))) := by
  unfold idxV
  rw [hz]
  simp only [asI_isl, Int.toNat_natCast]
  rw [if_pos (by omega)]
theorem load_ip1 {T p : Nat} {cs : List Value} {v : Value} (hl : lay P T = some (false, 1)) (hv : cs[p]? = some v) : loadV P H T (ip (cs.drop p)) = some v := by
  rw [loadV_ip, hl]
  simp only [Option.bind_some, getVar_f, List.getElem?_drop, Nat.add_zero, hv]
end
/-! ### sizes -/
/-- The next of what is copied. -/
theorem take_next {α : Type} (xs : List α) (k : Nat) (hk : k < xs.length) : xs.take k ++ [xs[k]] = xs.take (k + 1) := List.take_append_getElem hk
end Go.BM
namespace Go.BM
open Go.RowKit
section
variable {P : Program} {B : Nat} {H : AH} {α : Type} {E : Enc α} {xs : List α}
theorem srcV_isl' {el t e b : Nat} (hz : elZ P t = some (e, E.sz, b)) : srcV P H el E.sz t (islE E xs) = some (xs.length, E.flat xs) := by
  rw [srcV_islE, hz]
  simp only [Option.bind_some]
  rw [if_pos (by rw [E.flat_length]; exact Nat.le_refl _), E.flat_all]
theorem slen_islE : slen H (islE E xs) = some xs.length := by
  unfold slen islE
  simp only [asI_isl]
/-- A nil slice, told as a block that stands nowhere. -/
theorem ACalls.ghost {f : FuncId} {args : List Value} {post post' : Value → AH → Prop} (h : ACalls P B f args H post)
    (hp : ∀ d H', post d H' → post' d H' ∨ (d = .slice none 0 0 ∧ ∃ el sz, post' (.slice (some ⟨H'.length, 0, none⟩) 0 0) (H' ++ [⟨el, sz, [], 0, false⟩]))) : ACalls P B f args H post' :=
  ⟨h.1, fun σ w vals hS hB hv => (h.2 σ w vals hS hB hv).mono fun e w' ⟨v, he, σ', H', d, F, S, V, hd⟩ => by
    rcases hp d H' hd with h1 | ⟨rfl, el, sz, h1⟩
    · exact ⟨v, he, σ', H', d, F, S, V, h1⟩
    · have get : ∀ (q : Nat) (bq : Blk), (H' ++ [⟨el, sz, [], 0, false⟩])[q]? = some bq → bq.own = true → H'[q]? = some bq := fun q bq hbq hoq => by
        rcases Nat.lt_or_ge q H'.length with h1 | h1
        · rw [List.getElem?_append_left h1] at hbq; exact hbq
        · rw [List.getElem?_append_right h1] at hbq
          have := lt_of_some'' hbq
          simp at this
          have : q - H'.length = 0 := by omega
          rw [this] at hbq
          simp at hbq
          subst hbq
          cases hoq
      have F2 : Fut B σ' H' w' σ' (H' ++ [⟨el, sz, [], 0, false⟩]) w' := {
        os := rfl
        tape := rfl
        output := rfl
        size := Nat.le_refl _
        frame := fun _ _ _ => rfl
        pre := fun r hr => List.getElem?_append_left (by have := F.len; omega)
        preσ := fun _ _ _ => rfl
        keep := fun r b hb => ⟨b, by rw [List.getElem?_append_left (lt_of_some hb)]; exact hb, Nat.le_refl _, fun _ => ⟨rfl, rfl, rfl⟩⟩
        loc := fun r b hb hob => .inl ⟨b, get r b hb hob, hob, rfl⟩
        imk := fun _ _ h => h
        imn := fun _ _ h => .inl h }
      have S2 : Sim σ' (H' ++ [⟨el, sz, [], 0, false⟩]) w' := ⟨fun r b hb hob => by
          obtain ⟨c, h1, h2, h3, h4, h5⟩ := S.own r b (get r b hb hob) hob
          exact ⟨c, h1, h2, h3, h4, fun j v hj => by obtain ⟨u, a1, a2, a3⟩ := h5 j v hj; exact ⟨u, a1, a2.fut F2, a3⟩⟩,
        S.im, fun a u ha r b hb hob => S.sep a u ha r b (get r b hb hob) hob, fun r r' b b' hb hb' hrr ho ho' => S.inj r r' b b' (get r b hb ho) (get r' b' hb' ho') hrr ho ho', S.glob⟩
      obtain ⟨a, rfl⟩ := V.sliceNil rfl
      exact ⟨_, he, σ', _, _, F.trans F2, S2, .mt _ _ _ (fun x hx => by cases hx; rfl), h1⟩⟩
end
end Go.BM
