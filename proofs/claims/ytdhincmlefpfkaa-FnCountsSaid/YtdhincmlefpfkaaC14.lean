/- Reckoning with heaps, in one; the splits of a walk. -/
import Derived.Test.YtdhincmlefpfkaaC13
set_option linter.unusedVariables false
namespace Go.BM
open Go.RowKit

def condK (v : Value) (p q : Prop) : Prop := ∃ t, v = .bool t ∧ (t = true → p) ∧ (t = false → q)
theorem condK_true (p q : Prop) : condK (.bool true) p q = p := by simp [condK]
theorem condK_false (p q : Prop) : condK (.bool false) p q = q := by simp [condK]
theorem condK_bool {X : Bool} {p q : Prop} (h1 : X = true → p) (h2 : X = false → q) : condK (.bool X) p q := ⟨X, rfl, h1, h2⟩
theorem condK_not (X : Bool) (p q : Prop) : condK (.bool (!X)) p q = condK (.bool X) q p := by cases X <;> simp [condK]
section
variable {P : Program} {B n : Nat} {H : AH} {e : Env} {Q : Exit → Env → AH → Prop}
theorem AWp.condB {c : Operand} {x y : Code} (h : condK (ev e c) (AWp P n B x Q e H) (AWp P n B y Q e H)) : AWp P n B (.cond c x y) Q e H := by
  obtain ⟨t, h1, h2, h3⟩ := h
  exact AWp.cond h1 h2 h3
theorem gateA_t (w : Bool) (p q : Prop) : gateA (some true) w p q = if w = true then p else q := by cases w <;> rfl
theorem gateA_f (w : Bool) (p q : Prop) : gateA (some false) w p q = if w = true then q else p := by cases w <;> rfl
def boolV : Option Bool → Value
  | some b => .bool b
  | none => undef
theorem boolV_some (b : Bool) : boolV (some b) = .bool b := rfl
theorem aops_partB {ops : Array Oper} {K : Env → AH → Prop} {l : List Oper} {d : Option Tmp} {op : Op} {ty : TypeId} {p : String} {af : Array Edge} {j : Nat} {b : Bool}
    (h : condK (boolV (yieldA ops e j)) (aops P B ops K (⟨d, op, ty, p, af, some (j, b)⟩ :: l) e H) (aops P B ops K (⟨d, op, ty, p, af, some (j, b)⟩ :: l) e H)) : aops P B ops K (⟨d, op, ty, p, af, some (j, b)⟩ :: l) e H := by
  obtain ⟨t, h1, h2, h3⟩ := h
  cases t
  · exact h3 rfl
  · exact h2 rfl
theorem qops_partB {ops : Array Oper} {K : Env → Prop} {l : List Oper} {d : Option Tmp} {op : Op} {ty : TypeId} {p : String} {af : Array Edge} {j : Nat} {b : Bool}
    (h : condK (boolV (yieldA ops e j)) (qops P ops H K (⟨d, op, ty, p, af, some (j, b)⟩ :: l) e) (qops P ops H K (⟨d, op, ty, p, af, some (j, b)⟩ :: l) e)) : qops P ops H K (⟨d, op, ty, p, af, some (j, b)⟩ :: l) e := by
  obtain ⟨t, h1, h2, h3⟩ := h
  cases t
  · exact h3 rfl
  · exact h2 rfl
/-- A call's contract, taken up where it stands. -/
theorem ACalls.get {B0 : Nat} {f : FuncId} {args : List Value} {post post' : Value → AH → Prop} (h : ACalls P B0 f args H post) (hB0 : B0 ≤ H.length) (hB : B ≤ B0) (hp : ∀ d H', post d H' → post' d H') : ACalls P B f args H post' :=
  (h.base hB0 hB).mono hp
end

theorem Agree.nest {ds ds1 : List Nat} {e e1 e2 : Env} (h : Agree ds1 e1 e2) (hs : ds1.all ds.contains = true) (h1 : Agree ds e e1) : Agree ds e e2 := h1.trans fun i hi => h i (by
  cases hc : ds1.contains i with
  | false => rfl
  | true =>
    have := List.all_eq_true.1 hs i (by simpa using hc)
    rw [hi] at this
    cases this)
/-- What is kept for the end of a round. -/
structure KJ (A : Env → AH → Prop) (D : Env → Prop) where
  K : Env → AH → Prop
  out : ∀ e H, A e H → D e → K e H
def loopJ (J : Env → AH → Prop) (Q : Exit → Env → AH → Prop) : Exit → Env → AH → Prop
  | .normal, e, H => J e H
  | ex, e, H => Q ex e H
theorem AWp.loopH {P : Program} {B n : Nat} {H : AH} {e : Env} {Q : Exit → Env → AH → Prop} {c : Code} (ds : List Nat) (I : Nat → Env → AH → Prop) (m0 : Nat) (h0 : I m0 e H)
    (round : ∀ m e' H', Agree ds e e' → I m e' H' → ∀ J : KJ (fun e1 H1 => ∃ m', m' < m ∧ I m' e1 H1) (fun e1 => Agree ds e' e1), AWp P n B c (loopJ J.K Q) e' H') : AWp P n B (.loop c) Q e H :=
  AWp.loop ds I m0 h0 fun m e' H' hA hI => by
    have := round m e' H' hA hI ⟨fun e1 H1 => (∃ m', m' < m ∧ I m' e1 H1) ∧ Agree ds e e1, fun e1 H1 h1 h2 => ⟨h1, hA.trans h2⟩⟩
    have e : loopQ I m ds e Q = loopJ (fun e1 H1 => (∃ m', m' < m ∧ I m' e1 H1) ∧ Agree ds e e1) Q := by
      funext ex e1 H1
      cases ex <;> rfl
    rw [e]
    exact this
theorem loopJ_normal (J : Env → AH → Prop) (Q : Exit → Env → AH → Prop) (e : Env) (H : AH) : loopJ J Q .normal e H = J e H := rfl
theorem loopJ_ret (J : Env → AH → Prop) (Q : Exit → Env → AH → Prop) (e : Env) (H : AH) : loopJ J Q .ret e H = Q .ret e H := rfl
theorem loopJ_exit (J : Env → AH → Prop) (Q : Exit → Env → AH → Prop) (e : Env) (H : AH) (i : Nat) : loopJ J Q (.exit i) e H = Q (.exit i) e H := rfl

/-- The equations by which a heap is reckoned, in one. -/
theorem hea : type_of% (And.intro (And.intro (And.intro (And.intro (And.intro (And.intro (@get_app0) (@get_appk)) (And.intro (@set_app0) (@set_appk))) (And.intro (And.intro (@getB_eq) (@loadV_ptr)) (And.intro (@loadV_ip) (@getVar_t)))) (And.intro (And.intro (And.intro (@getVar_f) (@fldV_ptr)) (And.intro (@fldV_ip) (@nilK_ptr))) (And.intro (And.intro (@nilK_ip) (@idxV_islE)) (And.intro (@idxV_own) (@lenV_islE))))) (And.intro (And.intro (And.intro (And.intro (@lenV_nil) (@lenV_own)) (And.intro (@slV_hi) (@slV_lo))) (And.intro (And.intro (@slV_both) (@fieldS_agg)) (And.intro (@mkB_eq) (@cells_int)))) (And.intro (And.intro (And.intro (@cells_bool) (@cells_str)) (And.intro (@cells_slice) (@cells_islE))) (And.intro (And.intro (@cells_isl) (@cells_ip)) (And.intro (@cells_ptr) (And.intro (@cells_agg) (@cells_func))))))) (And.intro (And.intro (And.intro (And.intro (And.intro (@one_int) (@one_bool)) (And.intro (@one_str) (@one_slice))) (And.intro (And.intro (@one_islE) (@one_isl)) (And.intro (@one_ip) (@one_ptr)))) (And.intro (And.intro (And.intro (@one_func) (@const_int)) (And.intro (@const_bool) (@const_str))) (And.intro (And.intro (@const_nil) (@zOkV_agg)) (And.intro (@zOkV_int) (And.intro (@zOkV_bool) (@zOkV_str)))))) (And.intro (And.intro (And.intro (And.intro (@zOkV_nil) (@splice_eq)) (And.intro (@extract_tuple) (@buildV_eq))) (And.intro (And.intro (@fillL_nil) (@fillL_cons)) (And.intro (@buildSliceH_eq) (@lit_nil)))) (And.intro (And.intro (And.intro (@lit_cons) (@le_self_add)) (And.intro (@condK_true) (@condK_false))) (And.intro (And.intro (@condK_not) (@boolV_some)) (And.intro (@loopJ_normal) (And.intro (@loopJ_ret) (@loopJ_exit)))))))) := And.intro (And.intro (And.intro (And.intro (And.intro (And.intro (@get_app0) (@get_appk)) (And.intro (@set_app0) (@set_appk))) (And.intro (And.intro (@getB_eq) (@loadV_ptr)) (And.intro (@loadV_ip) (@getVar_t)))) (And.intro (And.intro (And.intro (@getVar_f) (@fldV_ptr)) (And.intro (@fldV_ip) (@nilK_ptr))) (And.intro (And.intro (@nilK_ip) (@idxV_islE)) (And.intro (@idxV_own) (@lenV_islE))))) (And.intro (And.intro (And.intro (And.intro (@lenV_nil) (@lenV_own)) (And.intro (@slV_hi) (@slV_lo))) (And.intro (And.intro (@slV_both) (@fieldS_agg)) (And.intro (@mkB_eq) (@cells_int)))) (And.intro (And.intro (And.intro (@cells_bool) (@cells_str)) (And.intro (@cells_slice) (@cells_islE))) (And.intro (And.intro (@cells_isl) (@cells_ip)) (And.intro (@cells_ptr) (And.intro (@cells_agg) (@cells_func))))))) (And.intro (And.intro (And.intro (And.intro (And.intro (@one_int) (@one_bool)) (And.intro (@one_str) (@one_slice))) (And.intro (And.intro (@one_islE) (@one_isl)) (And.intro (@one_ip) (@one_ptr)))) (And.intro (And.intro (And.intro (@one_func) (@const_int)) (And.intro (@const_bool) (@const_str))) (And.intro (And.intro (@const_nil) (@zOkV_agg)) (And.intro (@zOkV_int) (And.intro (@zOkV_bool) (@zOkV_str)))))) (And.intro (And.intro (And.intro (And.intro (@zOkV_nil) (@splice_eq)) (And.intro (@extract_tuple) (@buildV_eq))) (And.intro (And.intro (@fillL_nil) (@fillL_cons)) (And.intro (@buildSliceH_eq) (@lit_nil)))) (And.intro (And.intro (And.intro (@lit_cons) (@le_self_add)) (And.intro (@condK_true) (@condK_false))) (And.intro (And.intro (@condK_not) (@boolV_some)) (And.intro (@loopJ_normal) (And.intro (@loopJ_ret) (@loopJ_exit)))))))
end Go.BM
