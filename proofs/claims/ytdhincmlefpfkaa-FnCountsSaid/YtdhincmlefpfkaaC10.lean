/- The equations by which a walk is reckoned. -/
import Derived.Test.YtdhincmlefpfkaaC9
import Derived.Laws.DeepStrings4
set_option linter.unusedVariables false
set_option linter.unusedSimpArgs false
namespace Go.BM
open Go.RowKit

section
variable {P : Program} {B : Nat} {ops : Array Oper} {K : Env → AH → Prop} {l : List Oper} {e : Env} {H : AH} {d : Option Tmp} {op : Op} {ty : TypeId} {p : String} {af : Array Edge}

theorem aops_nil : aops P B ops K [] e H = K e H := rfl
theorem aops_assign (x : Operand) : aops P B ops K (⟨d, .assign x, ty, p, af, none⟩ :: l) e H = aops P B ops K l (put e d (ev e x)) H := rfl
theorem qops_assign {Kq : Env → Prop} (x : Operand) : qops P ops H Kq (⟨d, .assign x, ty, p, af, none⟩ :: l) e = qops P ops H Kq l (put e d (ev e x)) := rfl
theorem aops_move (x : Operand) : aops P B ops K (⟨d, .move x, ty, p, af, none⟩ :: l) e H = aops P B ops K l (put e d (ev e x)) H := rfl
theorem qops_move {Kq : Env → Prop} (x : Operand) : qops P ops H Kq (⟨d, .move x, ty, p, af, none⟩ :: l) e = qops P ops H Kq l (put e d (ev e x)) := rfl
theorem aops_pick (c x y : Operand) : aops P B ops K (⟨d, .pick c x y, ty, p, af, none⟩ :: l) e H = optK (pickV (ev e c) (ev e x) (ev e y)) (fun v => aops P B ops K l (put e d v) H) := rfl
theorem qops_pick {Kq : Env → Prop} (c x y : Operand) : qops P ops H Kq (⟨d, .pick c x y, ty, p, af, none⟩ :: l) e = optK (pickV (ev e c) (ev e x) (ev e y)) (fun v => qops P ops H Kq l (put e d v)) := rfl
/-- Is the right side the constant nil of a slice type? -/
def nilY : Operand → Bool
  | .const (.slice none 0 0) => true
  | _ => false
theorem nilOp_none {o : BinOp} {t : TypeId} {x y : Operand} {u : TypeId} (h : nilY y = false) : (nilOp (.binOp o t x y u)).isNone = true := by
  unfold nilOp
  split
  · rename_i e; cases e; cases h
  · rename_i e; cases e; cases h
  · rfl
theorem nilY_tmp (t : Nat) : nilY (.tmp t) = false := rfl
theorem nilY_int (k : IntKind) (i : Int) : nilY (.const (.int k i)) = false := rfl
theorem nilY_bool (b : Bool) : nilY (.const (.bool b)) = false := rfl
theorem nilY_str (s : ByteArray) : nilY (.const (.string s)) = false := rfl
theorem nilY_func : nilY (.const .nilFunc) = false := rfl
theorem nilY_iface : nilY (.const .nilIface) = false := rfl
theorem nilY_ptr (a : Option Addr) : nilY (.const (.pointer a)) = false := rfl
theorem aops_binOp (o : BinOp) (t : TypeId) (x y : Operand) (u : TypeId) (hy : nilY y = false) : aops P B ops K (⟨d, .binOp o t x y u, ty, p, af, none⟩ :: l) e H = optK (binS P o t x y (ev e x) (ev e y)) (fun v => aops P B ops K l (put e d v) H) := by
  have h := nilOp_none (o := o) (t := t) (x := x) (u := u) hy
  simp only [aops, aop, isPop, h, if_true]
  rfl
theorem qops_binOp {Kq : Env → Prop} (o : BinOp) (t : TypeId) (x y : Operand) (u : TypeId) (hy : nilY y = false) : qops P ops H Kq (⟨d, .binOp o t x y u, ty, p, af, none⟩ :: l) e = optK (binS P o t x y (ev e x) (ev e y)) (fun v => qops P ops H Kq l (put e d v)) := by
  have h := nilOp_none (o := o) (t := t) (x := x) (u := u) hy
  simp only [qops, qop, isPop, h, if_true]
  rfl
theorem aops_eqNil (t : TypeId) (x : Operand) (u : TypeId) : aops P B ops K (⟨d, .binOp .eql t x (.const (.slice none 0 0)) u, ty, p, af, none⟩ :: l) e H = nilQ P H true t (ev e x) (fun v H' => aops P B ops K l (put e d v) H') := rfl
theorem aops_neNil (t : TypeId) (x : Operand) (u : TypeId) : aops P B ops K (⟨d, .binOp .neq t x (.const (.slice none 0 0)) u, ty, p, af, none⟩ :: l) e H = nilQ P H false t (ev e x) (fun v H' => aops P B ops K l (put e d v) H') := rfl
theorem nilQ_intro {t : TypeId} {v : Value} {pos : Bool} {k : Value → AH → Prop} {z : TypeId × Nat × Nat} {n : Nat} (hz : elZ P t = some z) (hn : slen H v = some n) (h : ∀ b : Bool, (b = true → n = 0) → k (.bool (if pos = true then b else !b)) H) : nilQ P H pos t v k := by
  unfold nilQ
  rw [hz, hn]
  exact h
theorem aops_clear (x : Operand) (t : TypeId) : aops P B ops K (⟨d, .call ⟨.builtin .clear, #[x], #[t]⟩, ty, p, af, none⟩ :: l) e H =
    optK (clearH P B H t (ev e x)) (fun H' => aops P B ops K l (put e d (.tuple #[])) H') := by
  simp only [aops, aop, isPop, Bool.false_eq_true, if_false, aopE]
  show optH (clearH P B H t (ev e x)) _ = _
  cases clearH P B H t (ev e x) <;> rfl
theorem aops_unOp (o : UnOp) (t : TypeId) (x : Operand) : aops P B ops K (⟨d, .unOp o t x, ty, p, af, none⟩ :: l) e H = optK (unS P o (ev e x)) (fun v => aops P B ops K l (put e d v) H) := rfl
theorem qops_unOp {Kq : Env → Prop} (o : UnOp) (t : TypeId) (x : Operand) : qops P ops H Kq (⟨d, .unOp o t x, ty, p, af, none⟩ :: l) e = optK (unS P o (ev e x)) (fun v => qops P ops H Kq l (put e d v)) := rfl
theorem aops_convert (s t : TypeId) (x : Operand) : aops P B ops K (⟨d, .convert s t x, ty, p, af, none⟩ :: l) e H = optK (convX P H s t (ev e x)) (fun v => aops P B ops K l (put e d v) H) := rfl
theorem qops_convert {Kq : Env → Prop} (s t : TypeId) (x : Operand) : qops P ops H Kq (⟨d, .convert s t x, ty, p, af, none⟩ :: l) e = optK (convX P H s t (ev e x)) (fun v => qops P ops H Kq l (put e d v)) := rfl
theorem aops_nilCheck (x : Operand) : aops P B ops K (⟨d, .nilCheck x, ty, p, af, none⟩ :: l) e H = optK (nilK H (ev e x)) (fun v => aops P B ops K l (put e d v) H) := rfl
theorem qops_nilCheck {Kq : Env → Prop} (x : Operand) : qops P ops H Kq (⟨d, .nilCheck x, ty, p, af, none⟩ :: l) e = optK (nilK H (ev e x)) (fun v => qops P ops H Kq l (put e d v)) := rfl
theorem aops_fieldAddr (s : TypeId) (x : Operand) (f : Nat) : aops P B ops K (⟨d, .fieldAddr s x f, ty, p, af, none⟩ :: l) e H = optK (fldV P H s (ev e x) f) (fun v => aops P B ops K l (put e d v) H) := rfl
theorem qops_fieldAddr {Kq : Env → Prop} (s : TypeId) (x : Operand) (f : Nat) : qops P ops H Kq (⟨d, .fieldAddr s x f, ty, p, af, none⟩ :: l) e = optK (fldV P H s (ev e x) f) (fun v => qops P ops H Kq l (put e d v)) := rfl
theorem aops_field (s : TypeId) (x : Operand) (f : Nat) : aops P B ops K (⟨d, .field s x f, ty, p, af, none⟩ :: l) e H = optK (fieldS P s (ev e x) f) (fun v => aops P B ops K l (put e d v) H) := rfl
theorem qops_field {Kq : Env → Prop} (s : TypeId) (x : Operand) (f : Nat) : qops P ops H Kq (⟨d, .field s x f, ty, p, af, none⟩ :: l) e = optK (fieldS P s (ev e x) f) (fun v => qops P ops H Kq l (put e d v)) := rfl
theorem aops_indexAddr (t : TypeId) (x i : Operand) : aops P B ops K (⟨d, .indexAddr t x i, ty, p, af, none⟩ :: l) e H = optK (idxV P H t (ev e x) (ev e i)) (fun v => aops P B ops K l (put e d v) H) := rfl
theorem qops_indexAddr {Kq : Env → Prop} (t : TypeId) (x i : Operand) : qops P ops H Kq (⟨d, .indexAddr t x i, ty, p, af, none⟩ :: l) e = optK (idxV P H t (ev e x) (ev e i)) (fun v => qops P ops H Kq l (put e d v)) := rfl
theorem aops_index (t : TypeId) (x i : Operand) : aops P B ops K (⟨d, .index t x i, ty, p, af, none⟩ :: l) e H = optK (strIdxS P t (ev e x) (ev e i)) (fun v => aops P B ops K l (put e d v) H) := rfl
theorem qops_index {Kq : Env → Prop} (t : TypeId) (x i : Operand) : qops P ops H Kq (⟨d, .index t x i, ty, p, af, none⟩ :: l) e = optK (strIdxS P t (ev e x) (ev e i)) (fun v => qops P ops H Kq l (put e d v)) := rfl
theorem aops_load (t : TypeId) (x : Operand) : aops P B ops K (⟨d, .load t x, ty, p, af, none⟩ :: l) e H = optK (loadV P H t (ev e x)) (fun v => aops P B ops K l (put e d v) H) := rfl
theorem qops_load {Kq : Env → Prop} (t : TypeId) (x : Operand) : qops P ops H Kq (⟨d, .load t x, ty, p, af, none⟩ :: l) e = optK (loadV P H t (ev e x)) (fun v => qops P ops H Kq l (put e d v)) := rfl
theorem aops_slice (t : TypeId) (x : Operand) (lo hi mx : Option Operand) : aops P B ops K (⟨d, .slice t x lo hi mx, ty, p, af, none⟩ :: l) e H = optK (slV P H t (ev e x) (lo.map (ev e)) (hi.map (ev e)) (mx.map (ev e))) (fun v => aops P B ops K l (put e d v) H) := rfl
theorem qops_slice {Kq : Env → Prop} (t : TypeId) (x : Operand) (lo hi mx : Option Operand) : qops P ops H Kq (⟨d, .slice t x lo hi mx, ty, p, af, none⟩ :: l) e = optK (slV P H t (ev e x) (lo.map (ev e)) (hi.map (ev e)) (mx.map (ev e))) (fun v => qops P ops H Kq l (put e d v)) := rfl
theorem aops_extract (x : Operand) (i : Nat) : aops P B ops K (⟨d, .extract x i, ty, p, af, none⟩ :: l) e H = optK (extractV (ev e x) i) (fun v => aops P B ops K l (put e d v) H) := rfl
theorem qops_extract {Kq : Env → Prop} (x : Operand) (i : Nat) : qops P ops H Kq (⟨d, .extract x i, ty, p, af, none⟩ :: l) e = optK (extractV (ev e x) i) (fun v => qops P ops H Kq l (put e d v)) := rfl
theorem aops_build (t : TypeId) (ps : Array (Nat × Operand)) : aops P B ops K (⟨d, .build t ps, ty, p, af, none⟩ :: l) e H = optK (buildV P t (ps.toList.map fun q => (q.1, ev e q.2))) (fun v => aops P B ops K l (put e d v) H) := rfl
theorem qops_build {Kq : Env → Prop} (t : TypeId) (ps : Array (Nat × Operand)) : qops P ops H Kq (⟨d, .build t ps, ty, p, af, none⟩ :: l) e = optK (buildV P t (ps.toList.map fun q => (q.1, ev e q.2))) (fun v => qops P ops H Kq l (put e d v)) := rfl
theorem aops_makeInterface (t : TypeId) (x : Operand) : aops P B ops K (⟨d, .makeInterface t x, ty, p, af, none⟩ :: l) e H = optK (ifaceS P t (ev e x)) (fun v => aops P B ops K l (put e d v) H) := rfl
theorem qops_makeInterface {Kq : Env → Prop} (t : TypeId) (x : Operand) : qops P ops H Kq (⟨d, .makeInterface t x, ty, p, af, none⟩ :: l) e = optK (ifaceS P t (ev e x)) (fun v => qops P ops H Kq l (put e d v)) := rfl
theorem aops_makeFunc (fn : Fn) (cap : Array Operand) : aops P B ops K (⟨d, .makeFunc fn #[] cap, ty, p, af, none⟩ :: l) e H = aops P B ops K l (put e d (.func fn #[] (cap.toList.map (ev e)).toArray)) H := rfl
theorem qops_makeFunc {Kq : Env → Prop} (fn : Fn) (cap : Array Operand) : qops P ops H Kq (⟨d, .makeFunc fn #[] cap, ty, p, af, none⟩ :: l) e = qops P ops H Kq l (put e d (.func fn #[] (cap.toList.map (ev e)).toArray)) := rfl
theorem aops_len (x : Operand) (t : TypeId) : aops P B ops K (⟨d, .call ⟨.builtin .len, #[x], #[t]⟩, ty, p, af, none⟩ :: l) e H = optK (lenV P H t (ev e x)) (fun v => aops P B ops K l (put e d v) H) := rfl
theorem qops_len {Kq : Env → Prop} (x : Operand) (t : TypeId) : qops P ops H Kq (⟨d, .call ⟨.builtin .len, #[x], #[t]⟩, ty, p, af, none⟩ :: l) e = optK (lenV P H t (ev e x)) (fun v => qops P ops H Kq l (put e d v)) := rfl
theorem aops_min (xs : Array Operand) (ts : Array TypeId) : aops P B ops K (⟨d, .call ⟨.builtin .min, xs, ts⟩, ty, p, af, none⟩ :: l) e H = optK (minS P ts ty (xs.toList.map (ev e)).toArray) (fun v => aops P B ops K l (put e d v) H) := rfl
theorem qops_min {Kq : Env → Prop} (xs : Array Operand) (ts : Array TypeId) : qops P ops H Kq (⟨d, .call ⟨.builtin .min, xs, ts⟩, ty, p, af, none⟩ :: l) e = optK (minS P ts ty (xs.toList.map (ev e)).toArray) (fun v => qops P ops H Kq l (put e d v)) := rfl
theorem aops_max (xs : Array Operand) (ts : Array TypeId) : aops P B ops K (⟨d, .call ⟨.builtin .max, xs, ts⟩, ty, p, af, none⟩ :: l) e H = optK (maxS P ts ty (xs.toList.map (ev e)).toArray) (fun v => aops P B ops K l (put e d v) H) := rfl
theorem qops_max {Kq : Env → Prop} (xs : Array Operand) (ts : Array TypeId) : qops P ops H Kq (⟨d, .call ⟨.builtin .max, xs, ts⟩, ty, p, af, none⟩ :: l) e = optK (maxS P ts ty (xs.toList.map (ev e)).toArray) (fun v => qops P ops H Kq l (put e d v)) := rfl
theorem aops_gate (j : Nat) (b : Bool) : aops P B ops K (⟨d, op, ty, p, af, some (j, b)⟩ :: l) e H = gateA (yieldA ops e j) b (aops P B ops K (⟨d, op, ty, p, af, none⟩ :: l) e H) (aops P B ops K l (put e d undef) H) := rfl
theorem aops_box (T : TypeId) (x : Operand) : aops P B ops K (⟨d, .box T x, ty, p, af, none⟩ :: l) e H =
    cK ((cellsV (ev e x)).all Value.oneCell' = true) (aops P B ops K l (put e d (.pointer (some ⟨H.length, 0, some 0⟩))) (H ++ [mkB T 0 (cellsV (ev e x))])) := rfl
theorem aops_alloc (T : TypeId) : aops P B ops K (⟨d, .alloc T, ty, p, af, none⟩ :: l) e H =
    optK (zeroV P T) (fun z => cK (zOkV z = true) (aops P B ops K l (put e d (.pointer (some ⟨H.length, 0, some 0⟩))) (H ++ [mkB T 0 (cellsV z)]))) := rfl
theorem aops_store (t : TypeId) (x v : Operand) : aops P B ops K (⟨d, .store t x v, ty, p, af, none⟩ :: l) e H =
    optK (storeH P B H t (ev e x) (ev e v)) (fun H' => aops P B ops K l (put e d undef) H') := by
  simp only [aops, aop, isPop, Bool.false_eq_true, if_false, aopE]
  cases storeH P B H t (ev e x) (ev e v) <;> rfl
theorem aops_buildSlice (t : TypeId) (len : Nat) (ps : Array (Nat × Operand)) : aops P B ops K (⟨d, .buildSlice t len ps, ty, p, af, none⟩ :: l) e H =
    optP (buildSliceH P H t len (ps.toList.map fun q => (q.1, ev e q.2))) (fun v H' => aops P B ops K l (put e d v) H') := rfl
theorem aops_makeSlice (t : TypeId) (x c : Operand) : aops P B ops K (⟨d, .makeSlice t x c, ty, p, af, none⟩ :: l) e H =
    optP (makeH P H t (ev e x) (ev e c)) (fun v H' => aops P B ops K l (put e d v) H') := rfl
theorem aops_append (s x : Operand) (t tx : TypeId) : aops P B ops K (⟨d, .call ⟨.builtin .append, #[s, x], #[t, tx]⟩, ty, p, af, none⟩ :: l) e H =
    optP (appendH P B H t tx (ev e s) (ev e x)) (fun v H' => aops P B ops K l (put e d v) H') := rfl
def callK (P : Program) (B : Nat) (f : Value) (args : List Value) (H : AH) (k : Value → AH → Prop) : Prop :=
  match f with
  | .func (.func g) first caps => first.size = 0 ∧ ACalls P B g (args ++ caps.toList) H k
  | _ => False
theorem aops_call (f : Operand) (args : Array Operand) (ats : Array TypeId) : aops P B ops K (⟨d, .call ⟨.value f, args, ats⟩, ty, p, af, none⟩ :: l) e H =
    callK P B (ev e f) (args.toList.map (ev e)) H (fun v H' => aops P B ops K l (put e d v) H') := rfl
theorem callK_func (g : FuncId) (caps : Array Value) (args : List Value) (k : Value → AH → Prop) : callK P B (.func (.func g) #[] caps) args H k = ACalls P B g (args ++ caps.toList) H k := by
  simp [callK]
theorem callK_congr {f f' : Value} {args args' : List Value} {k : Value → AH → Prop} (h1 : f = f') (h2 : args = args') : callK P B f args H k = callK P B f' args' H k := by rw [h1, h2]
theorem ACalls_congr {g : FuncId} {args args' : List Value} {k : Value → AH → Prop} (h2 : args = args') : ACalls P B g args H k = ACalls P B g args' H k := by rw [h2]

theorem qops_nil {Kq : Env → Prop} : qops P ops H Kq [] e = Kq e := rfl
theorem qops_gate {Kq : Env → Prop} (j : Nat) (b : Bool) : qops P ops H Kq (⟨d, op, ty, p, af, some (j, b)⟩ :: l) e = gateA (yieldA ops e j) b (qops P ops H Kq (⟨d, op, ty, p, af, none⟩ :: l) e) (qops P ops H Kq l (put e d undef)) := rfl
def qcallK (P : Program) (f : Value) (args : List Value) (H : AH) (k : Value → Prop) : Prop :=
  match f with
  | .func (.func g) first caps => first.size = 0 ∧ ∃ d, pureV d = true ∧ ACalls P H.length g (args ++ caps.toList) H (fun v _ => v = d) ∧ k d
  | _ => False
theorem qops_call {Kq : Env → Prop} (f : Operand) (args : Array Operand) (ats : Array TypeId) : qops P ops H Kq (⟨d, .call ⟨.value f, args, ats⟩, ty, p, af, none⟩ :: l) e =
    qcallK P (ev e f) (args.toList.map (ev e)) H (fun v => qops P ops H Kq l (put e d v)) := rfl
theorem qcallK_congr {f f' : Value} {args args' : List Value} {k : Value → Prop} (h1 : f = f') (h2 : args = args') : qcallK P f args H k = qcallK P f' args' H k := by rw [h1, h2]
theorem qcall_intro {g : FuncId} {caps : Array Value} {args : List Value} {k : Value → Prop} {v : Value} {B0 : Nat} (h : ACalls P B0 g (args ++ caps.toList) H (fun x _ => x = v)) (hB : B0 = H.length) (hv : pureV v = true) (hk : k v) : qcallK P (.func (.func g) #[] caps) args H k := by
  subst hB
  exact ⟨rfl, v, hv, h, hk⟩
end

theorem gateA_congr {y y' : Option Bool} {b : Bool} {p q : Prop} (h : y = y') : gateA y b p q = gateA y' b p q := by rw [h]
theorem gateA_tt (p q : Prop) : gateA (some true) true p q = p := rfl
theorem gateA_ff (p q : Prop) : gateA (some false) false p q = p := rfl
theorem gateA_tf (p q : Prop) : gateA (some true) false p q = q := rfl
theorem gateA_ft (p q : Prop) : gateA (some false) true p q = q := rfl
theorem gateA_none (b : Bool) (p q : Prop) : gateA none b p q = q := rfl
theorem gateA_split {y w : Bool} {p q : Prop} (h1 : y = w → p) (h2 : y = !w → q) : gateA (some y) w p q := by
  unfold gateA
  by_cases h : y = w
  · rw [if_pos (by rw [h])]; exact h1 h
  · rw [if_neg (by simpa using h)]; exact h2 (by cases y <;> cases w <;> simp_all)
theorem gateA_cases {y w : Bool} {p q : Prop} (h1 : y = true → gateA (some true) w p q) (h2 : y = false → gateA (some false) w p q) : gateA (some y) w p q := by
  cases y
  · exact h2 rfl
  · exact h1 rfl

theorem put_at (e : Env) (t i : Nat) (v : Value) : put e (some t) v i = if i = t then v else e i := rfl
theorem put_none (e : Env) (v : Value) : put e none v = e := rfl
theorem ev_tmp (e : Env) (t : Nat) : ev e (.tmp t) = e t := rfl
theorem ev_const (e : Env) (v : Value) : ev e (.const v) = v := rfl
theorem ev_func (e : Env) (f : FuncId) : ev e (.func f) = .func (.func f) #[] #[] := rfl
def yieldL (ops : List Oper) (e : Env) (j : Nat) : Option Bool :=
  match ops, j with
  | [], _ => none
  | o :: _, 0 => (match o.dst with | some t => boolOf (e t) | none => none)
  | _ :: l, j + 1 => yieldL l e j
theorem yieldA_lit : ∀ (ops : List Oper) (e : Env) (j : Nat), yieldA ops.toArray e j = yieldL ops e j
  | [], e, j => by simp [yieldA, yieldL]
  | o :: l, e, 0 => by
    unfold yieldA yieldL
    simp only [List.getElem?_toArray, List.getElem?_cons_zero, Option.bind_some]
    cases o.dst <;> rfl
  | o :: l, e, j + 1 => by
    have ih := yieldA_lit l e j
    unfold yieldA at ih ⊢
    simp only [List.getElem?_toArray, List.getElem?_cons_succ] at ih ⊢
    exact ih
theorem yieldL_zero (t : Nat) (op : Op) (ty : TypeId) (p : String) (af : Array Edge) (g : Option (Nat × Bool)) (l : List Oper) (e : Env) : yieldL (⟨some t, op, ty, p, af, g⟩ :: l) e 0 = boolOf (e t) := rfl
theorem yieldL_succ (o : Oper) (l : List Oper) (e : Env) (j : Nat) : yieldL (o :: l) e (j + 1) = yieldL l e j := rfl
theorem boolOf_bool (b : Bool) : boolOf (.bool b) = some b := rfl
theorem boolOf_undef : boolOf undef = none := rfl

/-! what binary operations come to -/
section
variable {P : Program} (t : TypeId) (xo yo : Operand)
theorem bin_of {op : BinOp} {x y d : Value} (hx : pureV x = true) (hy : pureV y = true) (hd : pureV d = true) (h : ∀ w, (do eqGuard op t xo yo x y; binOp op t x y : Sem Value).run P w = .ok d w) : binS P op t xo yo x y = some d := by
  unfold binS
  rw [if_pos ⟨hx, hy⟩]
  exact runV_eq hd h
theorem bin_add (k : IntKind) (a b : Int) : binS P .add t xo yo (.int k a) (.int k b) = some (.int k (k.wrap (a + b))) := bin_of t xo yo rfl rfl rfl fun w => by simp [eqGuard_add, binOp_add, Op.intArith]
theorem bin_sub (k : IntKind) (a b : Int) : binS P .sub t xo yo (.int k a) (.int k b) = some (.int k (k.wrap (a - b))) := bin_of t xo yo rfl rfl rfl fun w => by simp [eqGuard_sub, binOp_sub, Op.intArith]
theorem bin_mul (k : IntKind) (a b : Int) : binS P .mul t xo yo (.int k a) (.int k b) = some (.int k (k.wrap (a * b))) := bin_of t xo yo rfl rfl rfl fun w => by simp [eqGuard_mul, binOp_mul, Op.intArith]
theorem bin_quo (k : IntKind) (a b : Int) (h : b ≠ 0) : binS P .quo t xo yo (.int k a) (.int k b) = some (.int k (k.wrap (a.tdiv b))) := bin_of t xo yo rfl rfl rfl fun w => by simp [eqGuard_quo, binOp_quo, Op.intDiv, h]
theorem bin_rem (k : IntKind) (a b : Int) (h : b ≠ 0) : binS P .rem t xo yo (.int k a) (.int k b) = some (.int k (a.tmod b)) := bin_of t xo yo rfl rfl rfl fun w => by simp [eqGuard_rem, binOp_rem, Op.intDiv, h]
theorem bin_eql (k : IntKind) (a b : Int) : binS P .eql t xo yo (.int k a) (.int k b) = some (.bool (a == b)) := bin_of t xo yo rfl rfl rfl fun w => by simp [eqGuard_at_int, binOp_eql]
theorem bin_neq (k : IntKind) (a b : Int) : binS P .neq t xo yo (.int k a) (.int k b) = some (.bool (!(a == b))) := bin_of t xo yo rfl rfl rfl fun w => by simp [eqGuard_at_int, binOp_neq, bne]
theorem bin_lss (k : IntKind) (a b : Int) : binS P .lss t xo yo (.int k a) (.int k b) = some (.bool (decide (a < b))) := bin_of t xo yo rfl rfl rfl fun w => by simp [eqGuard_lss, binOp_lss]
theorem bin_leq (k : IntKind) (a b : Int) : binS P .leq t xo yo (.int k a) (.int k b) = some (.bool (decide (a ≤ b))) := bin_of t xo yo rfl rfl rfl fun w => by simp [eqGuard_leq, binOp_leq]
theorem bin_gtr (k : IntKind) (a b : Int) : binS P .gtr t xo yo (.int k a) (.int k b) = some (.bool (decide (b < a))) := bin_of t xo yo rfl rfl rfl fun w => by simp [eqGuard_gtr, binOp_gtr]
theorem bin_geq (k : IntKind) (a b : Int) : binS P .geq t xo yo (.int k a) (.int k b) = some (.bool (decide (b ≤ a))) := bin_of t xo yo rfl rfl rfl fun w => by simp [eqGuard_geq, binOp_geq]
theorem bin_seql (a b : ByteArray) : binS P .eql t xo yo (.string a) (.string b) = some (.bool (a == b)) := bin_of t xo yo rfl rfl rfl fun w => by
  simp [eqGuard_at_string, binOp, Op.stringOp, beq_toListBytes]
theorem bin_sneq (a b : ByteArray) : binS P .neq t xo yo (.string a) (.string b) = some (.bool (!(a == b))) := bin_of t xo yo rfl rfl rfl fun w => by
  simp [eqGuard_at_string, binOp, Op.stringOp, beq_toListBytes]
/-- A string, by its bytes. -/
abbrev bs (l : List UInt8) : ByteArray := ⟨l.toArray⟩
noncomputable def strIdxW (P : Program) (t : TypeId) (x i : Value) : Option Value := strIdxS P t x i
noncomputable def strSliceW (P : Program) (t : TypeId) (x : Value) (lo hi mx : Option Value) : Option Value := strSliceS P t x lo hi mx
theorem ba_beq (a b : ByteArray) : (a == b) = (a.data == b.data) := by
  cases a; cases b; rfl
theorem bs_beq (a b : List UInt8) : (bs a == bs b) = (a == b) := by
  rw [ba_beq]
  simp
theorem bs_size (l : List UInt8) : (bs l).size = l.length := by simp [ByteArray.size]
theorem bs_of (s : ByteArray) : bs s.data.toList = s := by cases s; simp
theorem bs_app (a b : List UInt8) : bs a ++ bs b = bs (a ++ b) := by
  apply ByteArray.ext
  simp [ByteArray.data_append]
theorem bs_get (l : List UInt8) (i : Nat) (h : i < (bs l).size) : (bs l)[i] = l.getD i 0 := by
  have h2 : i < l.length := by rw [bs_size] at h; exact h
  simp [List.getD, List.getElem?_eq_getElem h2, ByteArray.getElem_eq_getElem_data]
theorem bin_sadd (a b : List UInt8) (h : a.length + b.length ≤ 9223372036854775807) : binS P .add t xo yo (.string (bs a)) (.string (bs b)) = some (.string (bs (a ++ b))) := bin_of t xo yo rfl rfl rfl fun w => by
  have hs : ¬ (((bs a).size + (bs b).size : Nat) : Int) > IntKind.i64.max := by
    rw [bs_size, bs_size]
    have : IntKind.i64.max = 9223372036854775807 := by decide
    omega
  have hg : (eqGuard .add t xo yo (.string (bs a)) (.string (bs b))).run P w = .ok () w := by simp [eqGuard]
  rw [Sem.run_bind, hg, Result.andThen_ok]
  simp only [binOp, Op.stringOp]
  rw [if_neg hs, ← bs_app]
  rfl
theorem strIdx_bs (l : List UInt8) (kd : IntKind) (i : Int) (h : P.underlying t = some .string) : strIdxS P t (.string (bs l)) (.int kd i) = if 0 ≤ i ∧ i < l.length then some (.int .u8 (l.getD i.toNat 0).toNat) else strIdxW P t (.string (bs l)) (.int kd i) := by
  by_cases hi : 0 ≤ i ∧ i < l.length
  · rw [if_pos hi]
    unfold strIdxS
    rw [if_pos ⟨rfl, rfl⟩]
    refine runV_eq rfl fun w => ?_
    rw [run_index_string w t (bs l) kd i h, dif_pos (by rw [bs_size]; exact hi), bs_get]
  · rw [if_neg hi]; rfl
theorem strSl2 (l : List UInt8) (k k' : IntKind) (i j : Int) (h : P.underlying t = some .string) : strSliceS P t (.string (bs l)) (some (.int k i)) (some (.int k' j)) none = if 0 ≤ i ∧ i ≤ j ∧ j ≤ l.length then some (.string (bs ((l.drop i.toNat).take (j.toNat - i.toNat)))) else strSliceW P t (.string (bs l)) (some (.int k i)) (some (.int k' j)) none := by
  by_cases hc : 0 ≤ i ∧ i ≤ j ∧ j ≤ l.length
  · rw [if_pos hc]
    unfold strSliceS
    rw [if_pos ⟨rfl, rfl⟩]
    refine runV_eq rfl fun w => ?_
    rw [run_sliceAt_string w t _ _ _ _ h, run_slice_string w t (bs l) k k' i j h hc.1 hc.2.1 (by rw [bs_size]; exact hc.2.2), ByteArray.extract_mk]
  · rw [if_neg hc]; rfl
theorem strSlL (l : List UInt8) (k : IntKind) (i : Int) (h : P.underlying t = some .string) : strSliceS P t (.string (bs l)) (some (.int k i)) none none = if 0 ≤ i ∧ i ≤ l.length then some (.string (bs (l.drop i.toNat))) else strSliceW P t (.string (bs l)) (some (.int k i)) none none := by
  by_cases hc : 0 ≤ i ∧ i ≤ l.length
  · rw [if_pos hc]
    unfold strSliceS
    rw [if_pos ⟨rfl, rfl⟩]
    refine runV_eq rfl fun w => ?_
    rw [run_sliceAt_string w t _ _ _ _ h, run_slice_string_from_if w t (bs l) k i h, if_pos (by rw [bs_size]; exact hc), bs_size, ByteArray.extract_mk, List.take_of_length_le (by simp)]
  · rw [if_neg hc]; rfl
theorem strSlH (l : List UInt8) (k : IntKind) (j : Int) (h : P.underlying t = some .string) : strSliceS P t (.string (bs l)) none (some (.int k j)) none = if 0 ≤ j ∧ j ≤ l.length then some (.string (bs (l.take j.toNat))) else strSliceW P t (.string (bs l)) none (some (.int k j)) none := by
  by_cases hc : 0 ≤ j ∧ j ≤ l.length
  · rw [if_pos hc]
    unfold strSliceS
    rw [if_pos ⟨rfl, rfl⟩]
    refine runV_eq rfl fun w => ?_
    rw [run_sliceAt_string w t _ _ _ _ h, run_slice_string_to_if w t (bs l) k j h, if_pos (by rw [bs_size]; exact hc), ByteArray.extract_mk, List.drop_zero, Nat.sub_zero]
  · rw [if_neg hc]; rfl
theorem bin_beql (a b : Bool) (h : P.underlying t = some .bool) : binS P .eql t xo yo (.bool a) (.bool b) = some (.bool (a == b)) := bin_of t xo yo rfl rfl rfl fun w => by
  have hr := run_equalIn_bool' (P := P) w 9999 t a b h
  simp only [eqGuard_at_bool, binOp, Op.equal, show Op.maxDepth = 9999 + 1 from rfl]
  simp [hr]
theorem bin_bneq (a b : Bool) (h : P.underlying t = some .bool) : binS P .neq t xo yo (.bool a) (.bool b) = some (.bool (!(a == b))) := bin_of t xo yo rfl rfl rfl fun w => by
  have hr := run_equalIn_bool' (P := P) w 9999 t a b h
  simp only [eqGuard_at_bool, binOp, Op.equal, show Op.maxDepth = 9999 + 1 from rfl]
  simp [hr]
theorem un_not (b : Bool) : unS P .not (.bool b) = some (.bool (!b)) := by
  unfold unS
  rw [if_pos (show pureV (.bool b) = true from rfl)]
  exact runV_eq rfl fun w => by simp [Op.unary]
theorem un_neg (k : IntKind) (a : Int) : unS P .neg (.int k a) = some (.int k (k.wrap (0 - a))) := by
  unfold unS
  rw [if_pos (show pureV (.int k a) = true from rfl)]
  exact runV_eq rfl fun w => by simp [Op.unary, Op.intArith]
theorem conv_int (s d : TypeId) (k k' : IntKind) (a : Int) (hs : (P.underlying s).isSome = true) (hd : P.underlying d = some (.int k')) : convS P s d (.int k a) = some (.int k' (k'.wrap a)) := by
  unfold convS
  rw [if_pos (show pureV (.int k a) = true from rfl)]
  refine runV_eq rfl fun w => ?_
  obtain ⟨ds, hs'⟩ := Option.isSome_iff_exists.1 hs
  simp [convert, run_underlying hs', run_underlying hd, Conv.intToInt]
def intOf : Option TypeDesc → Option IntKind
  | some (.int k) => some k
  | _ => none
theorem intOf_int (k : IntKind) : intOf (some (.int k)) = some k := rfl
theorem conv_intR (s d : TypeId) (k : IntKind) (a : Int) (hs : (P.underlying s).isSome = true) (hd : (intOf (P.underlying d)).isSome = true) : convS P s d (.int k a) = (intOf (P.underlying d)).bind fun k' => some (.int k' (k'.wrap a)) := by
  cases hu : P.underlying d with
  | none => rw [hu] at hd; cases hd
  | some t =>
    rw [hu] at hd
    cases t <;> try (cases hd; done)
    rename_i k'
    exact conv_int s d k k' a hs hu
end
theorem pick_b (t a b : Bool) : pickV (.bool t) (.bool a) (.bool b) = some (.bool (cond t a b)) := by cases t <;> rfl
theorem pick_t (a b : Value) : pickV (.bool true) a b = some a := rfl
theorem pick_f (a b : Value) : pickV (.bool false) a b = some b := rfl

theorem thenQ_normal (K : Env → AH → Prop) (Q : Exit → Env → AH → Prop) (e : Env) (H : AH) : thenQ K Q .normal e H = K e H := rfl
theorem thenQ_ret (K : Env → AH → Prop) (Q : Exit → Env → AH → Prop) (e : Env) (H : AH) : thenQ K Q .ret e H = Q .ret e H := rfl
theorem thenQ_exit (K : Env → AH → Prop) (Q : Exit → Env → AH → Prop) (e : Env) (H : AH) (id : Nat) : thenQ K Q (.exit id) e H = Q (.exit id) e H := rfl
theorem blockQ_normal (id : Nat) (Q : Exit → Env → AH → Prop) (e : Env) (H : AH) : blockQ id Q .normal e H = Q .normal e H := rfl
theorem blockQ_ret (id : Nat) (Q : Exit → Env → AH → Prop) (e : Env) (H : AH) : blockQ id Q .ret e H = Q .ret e H := rfl
theorem blockQ_exit (id i : Nat) (Q : Exit → Env → AH → Prop) (e : Env) (H : AH) : blockQ id Q (.exit i) e H = if i = id then Q .normal e H else Q (.exit i) e H := rfl
theorem loopQ_normal (I : Nat → Env → AH → Prop) (m : Nat) (ds : List Nat) (e : Env) (Q : Exit → Env → AH → Prop) (e' : Env) (H' : AH) : loopQ I m ds e Q .normal e' H' = ((∃ m', m' < m ∧ I m' e' H') ∧ Agree ds e e') := rfl
theorem loopQ_ret (I : Nat → Env → AH → Prop) (m : Nat) (ds : List Nat) (e : Env) (Q : Exit → Env → AH → Prop) (e' : Env) (H' : AH) : loopQ I m ds e Q .ret e' H' = Q .ret e' H' := rfl
theorem loopQ_exit (I : Nat → Env → AH → Prop) (m : Nat) (ds : List Nat) (e : Env) (Q : Exit → Env → AH → Prop) (e' : Env) (H' : AH) (i : Nat) : loopQ I m ds e Q (.exit i) e' H' = Q (.exit i) e' H' := rfl
theorem bodyQ_ret (P : Program) (rs : List ResultVar) (post : Value → AH → Prop) (e : Env) (H : AH) : bodyQ P rs post .ret e H = optK (resV P e H rs) fun d => post d H := rfl
theorem bodyQ_normal (P : Program) (rs : List ResultVar) (post : Value → AH → Prop) (e : Env) (H : AH) : bodyQ P rs post .normal e H = optK (resV P e H rs) fun d => post d H := rfl
theorem resV_nil (P : Program) (e : Env) (H : AH) : resV P e H [] = some (.tuple #[]) := rfl
theorem resV_more (P : Program) (e : Env) (H : AH) (a b : ResultVar) (l : List ResultVar) : resV P e H (a :: b :: l) = (res1 P e H a).bind fun v => (res1 P e H b).bind fun u => (resL P e H l).bind fun vs => some (.tuple (v :: u :: vs).toArray) := by
  have h : resL P e H (a :: b :: l) = (res1 P e H a).bind fun v => ((res1 P e H b).bind fun u => (resL P e H l).map fun vs => u :: vs).map fun vs => v :: vs := rfl
  show (resL P e H (a :: b :: l)).map _ = _
  rw [h]
  cases res1 P e H a with
  | none => rfl
  | some v =>
    cases res1 P e H b with
    | none => rfl
    | some u => cases resL P e H l <;> rfl
theorem resL_nil (P : Program) (e : Env) (H : AH) : resL P e H [] = some [] := rfl
theorem resL_cons (P : Program) (e : Env) (H : AH) (r : ResultVar) (rs : List ResultVar) : resL P e H (r :: rs) = (res1 P e H r).bind fun v => (resL P e H rs).bind fun vs => some (v :: vs) := by
  show (res1 P e H r).bind _ = _
  congr 1
  funext v
  cases resL P e H rs <;> rfl
theorem res1_tmp (P : Program) (e : Env) (H : AH) (t : Nat) : res1 P e H (.tmp t) = some (e t) := rfl
theorem res1_cell (P : Program) (e : Env) (H : AH) (x t : Nat) : res1 P e H (.cell x t) = loadV P H t (e x) := rfl
theorem resV_tmp (P : Program) (e : Env) (H : AH) (t : Nat) : resV P e H [.tmp t] = some (e t) := rfl
theorem resV_cell (P : Program) (e : Env) (H : AH) (x t : Nat) : resV P e H [.cell x t] = loadV P H t (e x) := rfl

/-! ### What follows, behind a name (and no hypothesis) -/
structure KT (A : Env → AH → Prop) where
  K : Env → AH → Prop
  go : ∀ e H, A e H → K e H
structure KV (A : Value → AH → Prop) where
  K : Value → AH → Prop
  go : ∀ e H, A e H → K e H
structure KQ (A : Value → Prop) where
  K : Value → Prop
  go : ∀ e, A e → K e
theorem KT.run {A : Env → AH → Prop} (k : KT A) {e : Env} {H : AH} (h : A e H) : k.K e H := k.go e H h
theorem KV.run {A : Value → AH → Prop} (k : KV A) {e : Value} {H : AH} (h : A e H) : k.K e H := k.go e H h
theorem KQ.run {A : Value → Prop} (k : KQ A) {e : Value} (h : A e) : k.K e := k.go e h

/-! ### The steps of a walk: what follows stands behind a variable -/
section
variable {P : Program} {n B : Nat} {ops : Array Oper} {K : Env → AH → Prop} {l : List Oper} {e : Env} {H : AH} {d : Option Tmp} {op : Op} {ty : TypeId} {p : String} {af : Array Edge} {Q : Exit → Env → AH → Prop}

theorem AWp.seqH {x y : Code} (h : ∀ k : KT (AWp P n B y Q), AWp P n B x (thenQ k.K Q) e H) : AWp P n B (.seq x y) Q e H := AWp.seq (h ⟨_, fun _ _ h => h⟩)
theorem aops_callH {g : FuncId} {caps : Array Value} {f : Operand} {args : Array Operand} {ats : Array TypeId} (hf : ev e f = .func (.func g) #[] caps)
    (h : ∀ k : KV (fun v H' => aops P B ops K l (put e d v) H'), ACalls P B g (args.toList.map (ev e) ++ caps.toList) H k.K) :
    aops P B ops K (⟨d, .call ⟨.value f, args, ats⟩, ty, p, af, none⟩ :: l) e H := by
  rw [aops_call, hf, callK_func]
  exact h ⟨_, fun _ _ h => h⟩
theorem qops_callH {Kq : Env → Prop} {g : FuncId} {caps : Array Value} {f : Operand} {args : Array Operand} {ats : Array TypeId} (hf : ev e f = .func (.func g) #[] caps)
    (h : ∀ k : KQ (fun v => qops P ops H Kq l (put e d v)), qcallK P (.func (.func g) #[] caps) (args.toList.map (ev e)) H k.K) :
    qops P ops H Kq (⟨d, .call ⟨.value f, args, ats⟩, ty, p, af, none⟩ :: l) e := by
  rw [qops_call, hf]
  exact h ⟨_, fun _ h => h⟩
theorem aops_take (j : Nat) (b : Bool) (h : yieldA ops e j = some b) : aops P B ops K (⟨d, op, ty, p, af, some (j, b)⟩ :: l) e H = aops P B ops K (⟨d, op, ty, p, af, none⟩ :: l) e H := by rw [aops_gate, h]; cases b <;> rfl
theorem aops_skip_t (j : Nat) (h : yieldA ops e j = some false) : aops P B ops K (⟨d, op, ty, p, af, some (j, true)⟩ :: l) e H = aops P B ops K l (put e d undef) H := by rw [aops_gate, h]; rfl
theorem aops_skip_f (j : Nat) (h : yieldA ops e j = some true) : aops P B ops K (⟨d, op, ty, p, af, some (j, false)⟩ :: l) e H = aops P B ops K l (put e d undef) H := by rw [aops_gate, h]; rfl
theorem aops_skip_n (j : Nat) (b : Bool) (h : yieldA ops e j = none) : aops P B ops K (⟨d, op, ty, p, af, some (j, b)⟩ :: l) e H = aops P B ops K l (put e d undef) H := by rw [aops_gate, h]; rfl
theorem qops_take {Kq : Env → Prop} (j : Nat) (b : Bool) (h : yieldA ops e j = some b) : qops P ops H Kq (⟨d, op, ty, p, af, some (j, b)⟩ :: l) e = qops P ops H Kq (⟨d, op, ty, p, af, none⟩ :: l) e := by rw [qops_gate, h]; cases b <;> rfl
theorem qops_skip_t {Kq : Env → Prop} (j : Nat) (h : yieldA ops e j = some false) : qops P ops H Kq (⟨d, op, ty, p, af, some (j, true)⟩ :: l) e = qops P ops H Kq l (put e d undef) := by rw [qops_gate, h]; rfl
theorem qops_skip_f {Kq : Env → Prop} (j : Nat) (h : yieldA ops e j = some true) : qops P ops H Kq (⟨d, op, ty, p, af, some (j, false)⟩ :: l) e = qops P ops H Kq l (put e d undef) := by rw [qops_gate, h]; rfl
theorem qops_skip_n {Kq : Env → Prop} (j : Nat) (b : Bool) (h : yieldA ops e j = none) : qops P ops H Kq (⟨d, op, ty, p, af, some (j, b)⟩ :: l) e = qops P ops H Kq l (put e d undef) := by rw [qops_gate, h]; rfl
theorem aops_part {j : Nat} {b y : Bool} (h : yieldA ops e j = some y) (h1 : y = true → aops P B ops K (⟨d, op, ty, p, af, some (j, b)⟩ :: l) e H) (h2 : y = false → aops P B ops K (⟨d, op, ty, p, af, some (j, b)⟩ :: l) e H) : aops P B ops K (⟨d, op, ty, p, af, some (j, b)⟩ :: l) e H := by
  cases y
  · exact h2 rfl
  · exact h1 rfl
theorem qops_part {Kq : Env → Prop} {j : Nat} {b y : Bool} (h : yieldA ops e j = some y) (h1 : y = true → qops P ops H Kq (⟨d, op, ty, p, af, some (j, b)⟩ :: l) e) (h2 : y = false → qops P ops H Kq (⟨d, op, ty, p, af, some (j, b)⟩ :: l) e) : qops P ops H Kq (⟨d, op, ty, p, af, some (j, b)⟩ :: l) e := by
  cases y
  · exact h2 rfl
  · exact h1 rfl
theorem cK_intro {c q : Prop} (h1 : c) (h2 : q) : cK c q := ⟨h1, h2⟩

theorem ACalls.enter {f : FuncId} {fn : Func} {c : Code} {args : List Value} {post : Value → AH → Prop} {rs : List ResultVar} (hf : P.funcs[f]? = some fn) (hb : fn.body = some c) (hn : fn.ntmps = n) (hrs : fn.results.toList = rs)
    (hname : (fn.name == "runtime.NumGoroutine") = false) (hok : codeOk n c = true) (hres : rs.all (resOk n) = true) (hlen : args.length ≤ n)
    (h : AWp P n B c (bodyQ P rs post) (env0 args) H) : ACalls P B f args H post := by
  subst hn; subst hrs
  exact ACalls.intro hf hb hname hok hres hlen h
theorem env0_zero (v : Value) (l : List Value) : env0 (v :: l) 0 = v := rfl
theorem env0_succ (v : Value) (l : List Value) (i : Nat) : env0 (v :: l) (i + 1) = env0 l i := rfl
theorem env0_nil (i : Nat) : env0 [] i = undef := rfl
end

/-- ALL EQUATIONS of a walk, in one. -/
theorem wk : type_of% (And.intro (And.intro (And.intro (And.intro (And.intro (And.intro (@bin_beql) (And.intro (@bin_bneq) (@bodyQ_normal))) (And.intro (And.intro (@resV_nil) (@resV_more)) (And.intro (@resL_nil) (@resL_cons)))) (And.intro (And.intro (And.intro (@res1_tmp) (@res1_cell)) (And.intro (@nilY_tmp) (@nilY_int))) (And.intro (And.intro (@nilY_bool) (@nilY_str)) (And.intro (@nilY_func) (@nilY_iface))))) (And.intro (And.intro (And.intro (@nilY_ptr) (And.intro (@aops_eqNil) (@aops_neNil))) (And.intro (And.intro (@aops_clear) (@aops_assign)) (And.intro (@qops_assign) (@aops_move)))) (And.intro (And.intro (And.intro (@qops_move) (@aops_pick)) (And.intro (@qops_pick) (@aops_binOp))) (And.intro (And.intro (@qops_binOp) (@aops_unOp)) (And.intro (@qops_unOp) (@aops_convert)))))) (And.intro (And.intro (And.intro (And.intro (@qops_convert) (And.intro (@aops_nilCheck) (@qops_nilCheck))) (And.intro (And.intro (@aops_fieldAddr) (@qops_fieldAddr)) (And.intro (@aops_field) (@qops_field)))) (And.intro (And.intro (And.intro (@aops_indexAddr) (@qops_indexAddr)) (And.intro (@aops_index) (@qops_index))) (And.intro (And.intro (@aops_load) (@qops_load)) (And.intro (@aops_slice) (@qops_slice))))) (And.intro (And.intro (And.intro (And.intro (@aops_extract) (@qops_extract)) (And.intro (@aops_build) (@qops_build))) (And.intro (And.intro (@aops_makeInterface) (@qops_makeInterface)) (And.intro (@aops_makeFunc) (@qops_makeFunc)))) (And.intro (And.intro (And.intro (@aops_len) (@qops_len)) (And.intro (@aops_min) (@qops_min))) (And.intro (And.intro (@aops_max) (@qops_max)) (And.intro (@aops_nil) (@aops_box))))))) (And.intro (And.intro (And.intro (And.intro (And.intro (@aops_alloc) (And.intro (@aops_store) (@aops_buildSlice))) (And.intro (And.intro (@aops_makeSlice) (@aops_append)) (And.intro (@optK_some) (@optP_some)))) (And.intro (And.intro (And.intro (@cK_true) (@optK_ite)) (And.intro (@optP_ite) (@qops_nil))) (And.intro (And.intro (@aops_take) (@aops_skip_t)) (And.intro (@aops_skip_f) (@aops_skip_n))))) (And.intro (And.intro (And.intro (And.intro (@qops_take) (@qops_skip_t)) (And.intro (@qops_skip_f) (@qops_skip_n))) (And.intro (And.intro (@env0_zero) (@env0_succ)) (And.intro (@env0_nil) (@thenQ_normal)))) (And.intro (And.intro (And.intro (@thenQ_ret) (@thenQ_exit)) (And.intro (@blockQ_normal) (@blockQ_ret))) (And.intro (And.intro (@blockQ_exit) (@loopQ_normal)) (And.intro (@loopQ_ret) (@loopQ_exit)))))) (And.intro (And.intro (And.intro (And.intro (@bodyQ_ret) (And.intro (@resV_tmp) (@resV_cell))) (And.intro (And.intro (@put_at) (@put_none)) (And.intro (@ev_tmp) (@ev_const)))) (And.intro (And.intro (And.intro (@ev_func) (@yieldA_lit)) (And.intro (@yieldL_zero) (@yieldL_succ))) (And.intro (And.intro (@boolOf_bool) (@boolOf_undef)) (And.intro (@bin_add) (@bin_sub))))) (And.intro (And.intro (And.intro (And.intro (@bin_mul) (@bin_quo)) (And.intro (@bin_rem) (@bin_eql))) (And.intro (And.intro (@bin_neq) (@bin_lss)) (And.intro (@bin_leq) (@bin_gtr)))) (And.intro (And.intro (And.intro (@bin_geq) (@bin_seql)) (And.intro (@bin_sneq) (@un_not))) (And.intro (And.intro (@un_neg) (@pick_t)) (And.intro (@pick_f) (@pick_b)))))))) := And.intro (And.intro (And.intro (And.intro (And.intro (And.intro (@bin_beql) (And.intro (@bin_bneq) (@bodyQ_normal))) (And.intro (And.intro (@resV_nil) (@resV_more)) (And.intro (@resL_nil) (@resL_cons)))) (And.intro (And.intro (And.intro (@res1_tmp) (@res1_cell)) (And.intro (@nilY_tmp) (@nilY_int))) (And.intro (And.intro (@nilY_bool) (@nilY_str)) (And.intro (@nilY_func) (@nilY_iface))))) (And.intro (And.intro (And.intro (@nilY_ptr) (And.intro (@aops_eqNil) (@aops_neNil))) (And.intro (And.intro (@aops_clear) (@aops_assign)) (And.intro (@qops_assign) (@aops_move)))) (And.intro (And.intro (And.intro (@qops_move) (@aops_pick)) (And.intro (@qops_pick) (@aops_binOp))) (And.intro (And.intro (@qops_binOp) (@aops_unOp)) (And.intro (@qops_unOp) (@aops_convert)))))) (And.intro (And.intro (And.intro (And.intro (@qops_convert) (And.intro (@aops_nilCheck) (@qops_nilCheck))) (And.intro (And.intro (@aops_fieldAddr) (@qops_fieldAddr)) (And.intro (@aops_field) (@qops_field)))) (And.intro (And.intro (And.intro (@aops_indexAddr) (@qops_indexAddr)) (And.intro (@aops_index) (@qops_index))) (And.intro (And.intro (@aops_load) (@qops_load)) (And.intro (@aops_slice) (@qops_slice))))) (And.intro (And.intro (And.intro (And.intro (@aops_extract) (@qops_extract)) (And.intro (@aops_build) (@qops_build))) (And.intro (And.intro (@aops_makeInterface) (@qops_makeInterface)) (And.intro (@aops_makeFunc) (@qops_makeFunc)))) (And.intro (And.intro (And.intro (@aops_len) (@qops_len)) (And.intro (@aops_min) (@qops_min))) (And.intro (And.intro (@aops_max) (@qops_max)) (And.intro (@aops_nil) (@aops_box))))))) (And.intro (And.intro (And.intro (And.intro (And.intro (@aops_alloc) (And.intro (@aops_store) (@aops_buildSlice))) (And.intro (And.intro (@aops_makeSlice) (@aops_append)) (And.intro (@optK_some) (@optP_some)))) (And.intro (And.intro (And.intro (@cK_true) (@optK_ite)) (And.intro (@optP_ite) (@qops_nil))) (And.intro (And.intro (@aops_take) (@aops_skip_t)) (And.intro (@aops_skip_f) (@aops_skip_n))))) (And.intro (And.intro (And.intro (And.intro (@qops_take) (@qops_skip_t)) (And.intro (@qops_skip_f) (@qops_skip_n))) (And.intro (And.intro (@env0_zero) (@env0_succ)) (And.intro (@env0_nil) (@thenQ_normal)))) (And.intro (And.intro (And.intro (@thenQ_ret) (@thenQ_exit)) (And.intro (@blockQ_normal) (@blockQ_ret))) (And.intro (And.intro (@blockQ_exit) (@loopQ_normal)) (And.intro (@loopQ_ret) (@loopQ_exit)))))) (And.intro (And.intro (And.intro (And.intro (@bodyQ_ret) (And.intro (@resV_tmp) (@resV_cell))) (And.intro (And.intro (@put_at) (@put_none)) (And.intro (@ev_tmp) (@ev_const)))) (And.intro (And.intro (And.intro (@ev_func) (@yieldA_lit)) (And.intro (@yieldL_zero) (@yieldL_succ))) (And.intro (And.intro (@boolOf_bool) (@boolOf_undef)) (And.intro (@bin_add) (@bin_sub))))) (And.intro (And.intro (And.intro (And.intro (@bin_mul) (@bin_quo)) (And.intro (@bin_rem) (@bin_eql))) (And.intro (And.intro (@bin_neq) (@bin_lss)) (And.intro (@bin_leq) (@bin_gtr)))) (And.intro (And.intro (And.intro (@bin_geq) (@bin_seql)) (And.intro (@bin_sneq) (@un_not))) (And.intro (And.intro (@un_neg) (@pick_t)) (And.intro (@pick_f) (@pick_b)))))))

end Go.BM
