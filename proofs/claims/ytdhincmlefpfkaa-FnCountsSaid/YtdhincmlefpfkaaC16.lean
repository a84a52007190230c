/- Plain facts on lists. -/
import Derived.Test.YtdhincmlefpfkaaC15
set_option linter.unusedVariables false
namespace Go.BM

/-! ### the first place -/
def findI {α : Type} (p : α → Bool) : List α → Int
  | [] => -1
  | x :: xs => if p x = true then 0 else (let r := findI p xs; if r < 0 then -1 else r + 1)


section
open Go.RowKit
variable {P : Program} {B : Nat} {H : AH}
/-- A call of plain values, at the very arguments of its contract. -/
theorem ACalls.start {f : FuncId} {args : List Value} {k : Value → AH → Prop} (h : ACalls P B f args H k) : ACalls P B f args H k := h
theorem qcall_start {f : Value} {args : List Value} {k : Value → Prop} (h : qcallK P f args H k) : qcallK P f args H k := h
theorem ACalls.ofF {f : FuncId} {args args' : List Value} {v : Value} {k : Value → AH → Prop} (h : PCalls P f args' v) (he : args = args') (hi : ∀ d ∈ args', Im d) (hv : pureV v = true) (hk : k v H) : ACalls P B f args H k := by
  subst he
  exact ACalls.ofP h (.same hi) hv hk
theorem ACalls.ofJ {f : FuncId} {args args' : List Value} {v : Value} {k : Value → AH → Prop} (h : PCalls P f args' v) (he : args = args') (hi : ∀ d ∈ args', Im d) (hv : Im v) (hk : k v H) : ACalls P B f args H k := by
  subst he
  exact ACalls.ofI h hi hv hk
theorem qcallF {g : FuncId} {caps : Array Value} {args args' : List Value} {k : Value → Prop} {v : Value} (h : PCalls P g args' v) (he : args ++ caps.toList = args') (hi : ∀ d ∈ args', Im d) (hv : pureV v = true) (hk : k v) : qcallK P (.func (.func g) #[] caps) args H k := by
  subst he
  exact qcallP h (.same hi) hv hk
theorem ACalls.ofL {f : FuncId} {args args0 args' : List Value} {v : Value} {k : Value → AH → Prop} (h : PCalls P f args' v) (he : args = args0) (hb : BorL H args0 args') (hv : pureV v = true) (hk : k v H) : ACalls P B f args H k := by
  subst he
  exact ACalls.ofP h hb hv hk
theorem Im.appL {l l' : List Value} (hx : ∀ c ∈ l, Im c) (hl : ∀ c ∈ l', Im c) : ∀ c ∈ l ++ l', Im c := fun c h => by
  rcases List.mem_append.1 h with h | h
  · exact hx c h
  · exact hl c h
theorem Im.funcA {g : Fn} {caps : Array Value} (h : ∀ c ∈ caps.toList, Im c) : Im (.func g #[] caps) := .func _ _ _ fun i hi => h _ (by simp)
theorem PCalls.of {f : FuncId} {args : List Value} {v : Value} (h : ACalls P 0 f args [] fun d H' => Bor H' d v) : PCalls P f args v := h
theorem PCalls.flat {f : FuncId} {args : List Value} {v : Value} (hv : flatV v = true) (h : ACalls P 0 f args [] fun d _ => d = v) : PCalls P f args v := PCalls.mk (.flat _ hv) h
theorem PCalls.val {f : FuncId} {args : List Value} {v : Value} (hv : Im v) (h : ACalls P 0 f args [] fun d _ => d = v) : PCalls P f args v := PCalls.mk hv h
end
theorem intE_sz : intE.sz = 1 := rfl
theorem strE_sz : strE.sz = 1 := rfl
theorem boolE_sz : boolE.sz = 1 := rfl
theorem byteE_sz : byteE.sz = 1 := rfl
theorem intE_val (i : Int) : intE.val i = .int .i64 i := rfl
theorem strE_val (i : ByteArray) : strE.val i = .string i := rfl
theorem boolE_val (i : Bool) : boolE.val i = .bool i := rfl
theorem byteE_val (i : UInt8) : byteE.val i = .int .u8 i.toNat := rfl

theorem findI_ge {α : Type} (p : α → Bool) : ∀ xs : List α, -1 ≤ findI p xs
  | [] => by simp [findI]
  | x :: xs => by
    have := findI_ge p xs
    unfold findI
    split
    · omega
    · dsimp only; split <;> omega

theorem findI_hit {α : Type} (p : α → Bool) : ∀ (xs : List α) (k : Nat) (hk : k < xs.length), (∀ j (hj : j < xs.length), j < k → p xs[j] = false) → p xs[k] = true → findI p xs = k
  | [], k, hk, _, _ => by simp at hk
  | x :: xs, 0, _, _, h => by simp at h; simp [findI, h]
  | x :: xs, k + 1, hk, hno, h => by
    have h0 := hno 0 (by simp) (by omega)
    simp at h0
    have ih := findI_hit p xs k (by simpa using hk) (fun j hj hjk => hno (j + 1) (by simpa using hj) (by omega)) h
    unfold findI
    rw [if_neg (by simp [h0])]
    dsimp only
    rw [ih, if_neg (by omega)]
    omega

theorem findI_none {α : Type} (p : α → Bool) : ∀ (xs : List α), (∀ j (hj : j < xs.length), p xs[j] = false) → findI p xs = -1
  | [], _ => rfl
  | x :: xs, h => by
    have h0 := h 0 (by simp)
    simp at h0
    have ih := findI_none p xs (fun j hj => h (j + 1) (by simpa using hj))
    unfold findI
    rw [if_neg (by simp [h0])]
    dsimp only
    rw [ih, if_pos (by omega)]

theorem findI_any {α : Type} (p : α → Bool) : ∀ (xs : List α), decide (0 ≤ findI p xs) = xs.any p
  | [] => rfl
  | x :: xs => by
    have ih := findI_any p xs
    unfold findI
    by_cases h : p x = true
    · simp [h]
    · rw [if_neg h]
      dsimp only
      have hx : p x = false := by simpa using h
      rw [List.any_cons, hx, Bool.false_or, ← ih]
      by_cases h2 : findI p xs < 0
      · rw [if_pos h2]; simp; omega
      · rw [if_neg h2]; simp; omega

theorem findI_lt {α : Type} (p : α → Bool) : ∀ (xs : List α), findI p xs < xs.length ∨ xs = []
  | [] => .inr rfl
  | x :: xs => by
    left
    have ih := findI_lt p xs
    unfold findI
    split
    · simp
    · dsimp only
      split
      · simp; omega
      · rcases ih with h | h
        · simp; omega
        · subst h; rename_i h2; simp [findI] at h2

theorem findI_spec {α : Type} (p : α → Bool) : ∀ (xs : List α), 0 ≤ findI p xs → ∃ (k : Nat) (hk : k < xs.length), findI p xs = k ∧ p xs[k] = true ∧ ∀ j (hj : j < xs.length), j < k → p xs[j] = false
  | [], h => by simp [findI] at h
  | x :: xs, h => by
    unfold findI at h ⊢
    by_cases hx : p x = true
    · rw [if_pos hx]
      exact ⟨0, by simp, rfl, by simpa using hx, fun j hj h0 => by omega⟩
    · rw [if_neg hx] at h ⊢
      dsimp only at h ⊢
      by_cases h2 : findI p xs < 0
      · rw [if_pos h2] at h; omega
      · rw [if_neg h2]
        obtain ⟨k, hk, e, hp, hno⟩ := findI_spec p xs (by omega)
        refine ⟨k + 1, by simpa using hk, by omega, by simpa using hp, fun j hj hjk => ?_⟩
        cases j with
        | zero => simpa using hx
        | succ j => simpa using hno j (by simpa using hj) (by omega)

theorem any_take {α : Type} (p : α → Bool) (xs : List α) (k : Nat) (hk : k < xs.length) : (xs.take k).any p = true ↔ ∃ (j : Nat) (hj : j < xs.length), j < k ∧ p xs[j] = true := by
  rw [List.any_eq_true]
  constructor
  · rintro ⟨x, hx, hp⟩
    obtain ⟨j, hj, rfl⟩ := List.getElem_of_mem hx
    simp at hj
    exact ⟨j, by omega, by omega, by simpa using hp⟩
  · rintro ⟨j, hj, hjk, hp⟩
    refine ⟨xs[j], ?_, hp⟩
    rw [List.mem_iff_getElem]
    exact ⟨j, by simp; omega, by simp⟩
theorem findI_at {α : Type} (p : α → Bool) (xs : List α) (k : Nat) (hk : k < xs.length) (hp : p xs[k] = true) : (findI p xs == (k : Int)) = !(xs.take k).any p := by
  cases ha : (xs.take k).any p with
  | false =>
    have : ∀ j (hj : j < xs.length), j < k → p xs[j] = false := fun j hj hjk => by
      cases hq : p xs[j] with
      | false => rfl
      | true => have := (any_take p xs k hk).2 ⟨j, hj, hjk, hq⟩; rw [ha] at this; cases this
    rw [findI_hit p xs k hk this hp]
    simp
  | true =>
    obtain ⟨j, hj, hjk, hq⟩ := (any_take p xs k hk).1 ha
    have : ¬ findI p xs = (k : Int) := fun e => by
      obtain ⟨q, hq1, hq2, hq3, hq4⟩ := findI_spec p xs (by omega)
      have : q = k := by omega
      subst this
      have := hq4 j hj hjk
      rw [hq] at this
      cases this
    simpa using this
/-- What a copying loop has in hand. -/
theorem take_set {α : Type} (xs : List α) (z : α) (k : Nat) (hk : k < xs.length) : (xs.take k ++ List.replicate (xs.length - k) z).set k xs[k] = xs.take (k + 1) ++ List.replicate (xs.length - (k + 1)) z := by
  apply List.ext_getElem?
  intro j
  by_cases hj : j = k
  · subst hj
    rw [List.getElem?_set_self (by simp; omega), List.getElem?_append_left (by simp; omega), List.getElem?_take, if_pos (by omega), List.getElem?_eq_getElem hk]
  · rw [List.getElem?_set_ne (Ne.symm hj)]
    rcases Nat.lt_or_ge j k with h | h
    · rw [List.getElem?_append_left (by simp; omega), List.getElem?_append_left (by simp; omega), List.getElem?_take, List.getElem?_take, if_pos h, if_pos (by omega)]
    · have e1 : (xs.take k).length = k := by simp; omega
      have e2 : (xs.take (k + 1)).length = k + 1 := by simp; omega
      rw [List.getElem?_append_right (by omega), List.getElem?_append_right (by omega), e1, e2, List.getElem?_replicate, List.getElem?_replicate]
      by_cases h2 : j < xs.length
      · rw [if_pos (by omega), if_pos (by omega)]
      · rw [if_neg (by omega), if_neg (by omega)]
theorem take_rep_len {α : Type} (xs : List α) (z : α) (k : Nat) (hk : k ≤ xs.length) : (xs.take k ++ List.replicate (xs.length - k) z).length = xs.length := by simp; omega
/-! ### what is only read, by instances -/
class ImC (v : Value) : Prop where
  out : Im v
class ImLs (l : List Value) : Prop where
  out : ∀ c ∈ l, Im c
instance (k : IntKind) (i : Int) : ImC (.int k i) := ⟨.flat _ rfl⟩
instance (b : Bool) : ImC (.bool b) := ⟨.flat _ rfl⟩
instance (s : ByteArray) : ImC (.string s) := ⟨.flat _ rfl⟩
instance : ImC .nilFunc := ⟨.flat _ rfl⟩
instance : ImC .nilIface := ⟨.flat _ rfl⟩
instance : ImC (.pointer none) := ⟨.flat _ rfl⟩
instance : ImLs [] := ⟨Im.nilL⟩
instance (v : Value) (l : List Value) [h : ImC v] [t : ImLs l] : ImLs (v :: l) := ⟨Im.consL h.out t.out⟩
instance (l m : List Value) [h : ImLs l] [t : ImLs m] : ImLs (l ++ m) := ⟨Im.appL h.out t.out⟩
instance (l : List Value) [h : ImLs l] : ImC (.agg l.toArray) := ⟨Im.aggL h.out⟩
instance (l : List Value) [h : ImLs l] : ImC (.tuple l.toArray) := ⟨Im.tupleL h.out⟩
instance (g : Fn) (l : List Value) [h : ImLs l] : ImC (.func g #[] l.toArray) := ⟨Im.funcL h.out⟩
instance (g : Fn) (l : Array Value) [h : ImLs l.toList] : ImC (.func g #[] l) := ⟨Im.funcA h.out⟩
instance (n : Nat) (l : List Value) [h : ImLs l] : ImC (isl n l) := ⟨Im.isl h.out⟩
instance (l : List Value) [h : ImLs l] : ImC (ip l) := ⟨Im.ip h.out⟩
instance {α : Type} (E : Enc α) (xs : List α) : ImC (islE E xs) := ⟨islE_im _ _⟩
instance {α : Type} (E : Enc α) (x : α) : ImC (E.val x) := ⟨E.val_im x⟩
instance {α : Type} (E : Enc α) (xs : List α) : ImLs (E.flat xs) := ⟨fun c h => (E.flat_ok xs c h).im⟩
instance {α : Type} (E : Enc α) (x : α) : ImLs (cellsV (E.val x)) := ⟨fun c h => (E.hok x c h).im⟩
theorem ACalls.ofJi {P : Program} {B : Nat} {H : AH} {f : FuncId} {args args' : List Value} {v : Value} {k : Value → AH → Prop} (h : PCalls P f args' v) (he : args = args') [hi : ImLs args'] [hv : ImC v] (hk : k v H) : ACalls P B f args H k :=
  ACalls.ofJ h he hi.out hv.out hk
theorem qcallFi {P : Program} {H : AH} {g : FuncId} {caps : Array Value} {args args' : List Value} {k : Value → Prop} {v : Value} (h : PCalls P g args' v) (he : args ++ caps.toList = args') [hi : ImLs args'] (hv : pureV v = true) (hk : k v) : qcallK P (.func (.func g) #[] caps) args H k :=
  qcallF h he hi.out hv hk
/-- The equations of a walk, in one. -/
theorem bse : type_of% (And.intro (And.intro (And.intro (And.intro (@mopsT_nil) (@convX_int)) (And.intro (@convX_bool) (@convX_str))) (And.intro (And.intro (@convX_own) (@convX_isl)) (And.intro (And.intro (And.intro (@isU8_u8) (@isStr_str)) (And.intro (And.intro (And.intro (@conv_intR) (And.intro (@intOf_int) (@bs_beq))) (And.intro (@lenV_str) (@bs_size))) (And.intro (And.intro (@bin_sadd) (@strIdx_bs)) (And.intro (@strSl2) (And.intro (@strSlL) (@strSlH)))))) (And.intro (@bytesV_nil) (@bytesV_cons))))) (And.intro (And.intro (And.intro (And.intro (And.intro (And.intro (@mops_nil) (@hea)) (And.intro (@decide_true) (@decide_false))) (And.intro (And.intro (@List.map_cons.{0,0}) (@List.map_nil.{0,0})) (And.intro (@List.append_nil.{0}) (@List.nil_append.{0})))) (And.intro (And.intro (And.intro (@List.cons_append.{0}) (@List.append_assoc.{0})) (And.intro (@List.getElem?_cons_zero.{0}) (@List.getElem?_cons_succ.{0}))) (And.intro (And.intro (@List.set_cons_zero.{0}) (@List.set_cons_succ.{0})) (And.intro (@Option.bind_some.{0,0}) (@Option.map_some.{0,0}))))) (And.intro (And.intro (And.intro (And.intro (@Option.map_none.{0,0}) (@List.length_cons.{0})) (And.intro (@List.length_nil.{0}) (@List.length_append.{0}))) (And.intro (And.intro (@Nat.zero_add) (@Nat.add_zero)) (And.intro (@List.drop_zero.{0}) (@List.drop_succ_cons.{0})))) (And.intro (And.intro (And.intro (@List.take_succ_cons.{0}) (@List.take_zero.{0})) (And.intro (@List.all_cons.{0}) (@List.all_nil.{0}))) (And.intro (And.intro (@Bool.and_true) (@Bool.and_self)) (And.intro (@Bool.true_and) (And.intro (@Bool.false_and) (@Bool.and_false))))))) (And.intro (And.intro (And.intro (And.intro (And.intro (@Bool.or_true) (@Bool.true_or)) (And.intro (@Bool.false_or) (@Bool.or_false))) (And.intro (And.intro (@Bool.not_true) (@Bool.not_false)) (And.intro (@Bool.not_not) (@and_self)))) (And.intro (And.intro (And.intro (@and_true) (@true_and)) (And.intro (@Nat.le_refl) (@beq_self_eq_true.{0}))) (And.intro (And.intro (@cond_true.{1}) (@cond_false.{1})) (And.intro (@List.drop_nil.{0}) (And.intro (@List.take_nil.{0}) (@idxE_eq)))))) (And.intro (And.intro (And.intro (And.intro (@sliE_eq) (@Int.toNat_natCast)) (And.intro (@List.take_length.{0}) (@Nat.sub_zero))) (And.intro (And.intro (@intE_sz) (@strE_sz)) (And.intro (@boolE_sz) (@byteE_sz)))) (And.intro (And.intro (And.intro (@intE_val) (@strE_val)) (And.intro (@boolE_val) (@byteE_val))) (And.intro (And.intro (@Option.isSome_some.{0}) (@Option.isSome_none.{0})) (And.intro (@Int.natCast_nonneg) (And.intro (@Nat.mul_one) (@Nat.zero_le))))))))) :=
  And.intro (And.intro (And.intro (And.intro (@mopsT_nil) (@convX_int)) (And.intro (@convX_bool) (@convX_str))) (And.intro (And.intro (@convX_own) (@convX_isl)) (And.intro (And.intro (And.intro (@isU8_u8) (@isStr_str)) (And.intro (And.intro (And.intro (@conv_intR) (And.intro (@intOf_int) (@bs_beq))) (And.intro (@lenV_str) (@bs_size))) (And.intro (And.intro (@bin_sadd) (@strIdx_bs)) (And.intro (@strSl2) (And.intro (@strSlL) (@strSlH)))))) (And.intro (@bytesV_nil) (@bytesV_cons))))) (And.intro (And.intro (And.intro (And.intro (And.intro (And.intro (@mops_nil) (@hea)) (And.intro (@decide_true) (@decide_false))) (And.intro (And.intro (@List.map_cons.{0,0}) (@List.map_nil.{0,0})) (And.intro (@List.append_nil.{0}) (@List.nil_append.{0})))) (And.intro (And.intro (And.intro (@List.cons_append.{0}) (@List.append_assoc.{0})) (And.intro (@List.getElem?_cons_zero.{0}) (@List.getElem?_cons_succ.{0}))) (And.intro (And.intro (@List.set_cons_zero.{0}) (@List.set_cons_succ.{0})) (And.intro (@Option.bind_some.{0,0}) (@Option.map_some.{0,0}))))) (And.intro (And.intro (And.intro (And.intro (@Option.map_none.{0,0}) (@List.length_cons.{0})) (And.intro (@List.length_nil.{0}) (@List.length_append.{0}))) (And.intro (And.intro (@Nat.zero_add) (@Nat.add_zero)) (And.intro (@List.drop_zero.{0}) (@List.drop_succ_cons.{0})))) (And.intro (And.intro (And.intro (@List.take_succ_cons.{0}) (@List.take_zero.{0})) (And.intro (@List.all_cons.{0}) (@List.all_nil.{0}))) (And.intro (And.intro (@Bool.and_true) (@Bool.and_self)) (And.intro (@Bool.true_and) (And.intro (@Bool.false_and) (@Bool.and_false))))))) (And.intro (And.intro (And.intro (And.intro (And.intro (@Bool.or_true) (@Bool.true_or)) (And.intro (@Bool.false_or) (@Bool.or_false))) (And.intro (And.intro (@Bool.not_true) (@Bool.not_false)) (And.intro (@Bool.not_not) (@and_self)))) (And.intro (And.intro (And.intro (@and_true) (@true_and)) (And.intro (@Nat.le_refl) (@beq_self_eq_true.{0}))) (And.intro (And.intro (@cond_true.{1}) (@cond_false.{1})) (And.intro (@List.drop_nil.{0}) (And.intro (@List.take_nil.{0}) (@idxE_eq)))))) (And.intro (And.intro (And.intro (And.intro (@sliE_eq) (@Int.toNat_natCast)) (And.intro (@List.take_length.{0}) (@Nat.sub_zero))) (And.intro (And.intro (@intE_sz) (@strE_sz)) (And.intro (@boolE_sz) (@byteE_sz)))) (And.intro (And.intro (And.intro (@intE_val) (@strE_val)) (And.intro (@boolE_val) (@byteE_val))) (And.intro (And.intro (@Option.isSome_some.{0}) (@Option.isSome_none.{0})) (And.intro (@Int.natCast_nonneg) (And.intro (@Nat.mul_one) (@Nat.zero_le))))))))
end Go.BM
