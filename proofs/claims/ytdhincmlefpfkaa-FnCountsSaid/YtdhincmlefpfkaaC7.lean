/- One operation, one region, one call, told by lists. -/
import Derived.Test.YtdhincmlefpfkaaC6
set_option linter.unusedVariables false
set_option linter.unusedSimpArgs false
namespace Go.BM
open Go.RowKit

def optK {α : Type} (o : Option α) (k : α → Prop) : Prop :=
  match o with
  | some v => k v
  | none => False
def optP (o : Option (Value × AH)) (k : Value → AH → Prop) : Prop :=
  match o with
  | some p => k p.1 p.2
  | none => False
theorem optK_some {α : Type} (v : α) (k : α → Prop) : optK (some v) k = k v := rfl
theorem optP_some (v : Value) (H : AH) (k : Value → AH → Prop) : optP (some (v, H)) k = k v H := rfl
theorem optK_congr {α : Type} {o o' : Option α} {k : α → Prop} (h : o = o') : optK o k = optK o' k := by rw [h]
theorem optP_congr {o o' : Option (Value × AH)} {k : Value → AH → Prop} (h : o = o') : optP o k = optP o' k := by rw [h]
/-- A side condition, ahead of what follows. -/
def cK (c p : Prop) : Prop := c ∧ p
theorem cK_congr {c c' p : Prop} (h : c = c') : cK c p = cK c' p := by rw [h]
theorem cK_true (p : Prop) : cK True p = p := by simp [cK]
theorem optK_ite {α : Type} (c : Prop) [Decidable c] (v : α) (k : α → Prop) : optK (if c then some v else none) k = cK c (k v) := by
  unfold cK
  by_cases h : c
  · rw [if_pos h]; simp [optK, h]
  · rw [if_neg h]; simp [optK, h]
theorem optP_ite (c : Prop) [Decidable c] (v : Value) (H : AH) (k : Value → AH → Prop) : optP (if c then some (v, H) else none) k = cK c (k v H) := by
  unfold cK
  by_cases h : c
  · rw [if_pos h]; simp [optP, h]
  · rw [if_neg h]; simp [optP, h]

def nilK (H : AH) (x : Value) : Option Value :=
  match asP x with
  | some _ => some x
  | none =>
    (match x with
     | .pointer (some ⟨r, off, some ver⟩) => if (getB H r ver).isSome = true then some (.pointer (some ⟨r, off, some ver⟩)) else none
     | _ => none)

noncomputable def slV (P : Program) (H : AH) (t : TypeId) (x : Value) (lo hi mx : Option Value) : Option Value :=
  match x with
  | .string s => strSliceS P t (.string s) lo hi mx
  | x => sliceV P H t x lo hi mx

noncomputable def popB (P : Program) (H : AH) (b : Builtin) (ty : TypeId) (ts : Array TypeId) (vs : List Value) : Option Value :=
  match b, vs with
  | .len, [x] => if ts.size = 1 then lenV P H (ts.getD 0 0) x else none
  | .min, vs => minS P ts ty vs.toArray
  | .max, vs => maxS P ts ty vs.toArray
  | _, _ => none

noncomputable def popV (P : Program) (e : Env) (H : AH) (ty : TypeId) : Op → Option Value
  | .move x => some (ev e x)
  | .assign x => some (ev e x)
  | .pick c a b => pickV (ev e c) (ev e a) (ev e b)
  | .binOp op t x y _ => binS P op t x y (ev e x) (ev e y)
  | .unOp op _ x => unS P op (ev e x)
  | .convert s d x => convX P H s d (ev e x)
  | .nilCheck x => nilK H (ev e x)
  | .fieldAddr s x f => fldV P H s (ev e x) f
  | .field t x f => fieldS P t (ev e x) f
  | .indexAddr t x i => idxV P H t (ev e x) (ev e i)
  | .index t x i => strIdxS P t (ev e x) (ev e i)
  | .load t x => loadV P H t (ev e x)
  | .slice t x lo hi mx => slV P H t (ev e x) (lo.map (ev e)) (hi.map (ev e)) (mx.map (ev e))
  | .extract x i => extractV (ev e x) i
  | .build t ps => buildV P t (ps.toList.map fun p => (p.1, ev e p.2))
  | .makeInterface t x => ifaceS P t (ev e x)
  | .makeFunc fn first cap => if first.size = 0 then some (.func fn #[] (cap.toList.map (ev e)).toArray) else none
  | .call c => (match c.callee with | .builtin b => popB P H b ty c.argTypes (c.args.toList.map (ev e)) | _ => none)
  | _ => none

section
variable {P : Program} {B n : Nat} {σ : Sg} {H : AH} {w : World} {a : Act} {e : Env}

theorem ER.evalL (hE : ER n σ H a e) : ∀ (xs : List Operand), (∀ x ∈ xs, opdOk n x = true) → VRL σ H (xs.map a.eval) (xs.map (ev e))
  | [], _ => ⟨rfl, fun j u hu => by simp at hu⟩
  | x :: xs, h => by
    have ih := ER.evalL hE xs (fun y hy => h y (by simp [hy]))
    refine ⟨by simp, fun j u hu => ?_⟩
    cases j with
    | zero => simp at hu; subst hu; exact ⟨_, rfl, hE.eval (h x (by simp))⟩
    | succ j => simpa using ih.2 j u (by simpa using hu)

theorem VRL.toArr {xs ys : List Value} (h : VRL σ H xs ys) : xs.toArray.size = ys.toArray.size ∧ ∀ i (h1 : i < xs.toArray.size) (h2 : i < ys.toArray.size), VR σ H xs.toArray[i] ys.toArray[i] := by
  refine ⟨by simpa using h.1, fun i h1 h2 => ?_⟩
  obtain ⟨x, hx, hv⟩ := h.2 i ys[i] (List.getElem?_eq_getElem (by simpa using h2))
  rw [List.getElem?_eq_getElem (by simpa using h1)] at hx
  cases hx
  simpa using hv

theorem optEval (hE : ER n σ H a e) {o : Option Operand} (h : ∀ x ∈ o.toList, opdOk n x = true) : (∀ k m, boundV (o.map (ev e)) k = some m → boundV (o.map a.eval) k = some m) := by
  cases o with
  | none => intro k m h; exact h
  | some x =>
    intro k m hb
    have hv := hE.eval (h x (by simp))
    simp only [Option.map_some] at hb ⊢
    cases hx : ev e x <;> rw [hx] at hb hv <;> simp [boundV] at hb
    have := hv.int
    rw [this]
    simpa [boundV] using hb

theorem pop_sound (hS : Sim σ H w) (hE : ER n σ H a e) {o : Oper} (hok : o.op.operands.all (opdOk n) = true) {d : Value} (h : popV P e H o.type o.op = some d) :
    ∃ v, VR σ H v d ∧ ∀ w', Below w.heap.size w w' → (execOp a.eval o).run P w' = .ok (.value v) w' := by
  obtain ⟨dst, op, ty, pos, af, g⟩ := o
  dsimp only at hok h
  have ok : ∀ x ∈ op.operands.toList, opdOk n x = true := fun x hx => Array.all_eq_true'.1 hok x (by simpa using hx)
  cases op <;> simp only [Op.operands] at ok <;> simp only [popV] at h <;> try (cases h; done)
  case move x => cases h; exact ⟨_, hE.eval (ok x (by simp)), fun w' _ => by simp [execOp]⟩
  case assign x => cases h; exact ⟨_, hE.eval (ok x (by simp)), fun w' _ => by simp [execOp]⟩
  case pick c x y =>
    obtain ⟨u, hu, hr⟩ := pick_sound (P := P) (hE.eval (ok c (by simp))) (hE.eval (ok x (by simp))) (hE.eval (ok y (by simp))) h
    exact ⟨u, hu, fun w' _ => by unfold execOp; exact hr w'⟩
  case binOp op t x y yt =>
    obtain ⟨hu, hr⟩ := bin_sound (hE.eval (ok x (by simp))) (hE.eval (ok y (by simp))) h
    exact ⟨d, hu, fun w' _ => by
      have := hr w'
      simp only [execOp, Sem.run_bind] at this ⊢
      rw [this]; rfl⟩
  case unOp op t x =>
    obtain ⟨hu, hr⟩ := un_sound (P := P) (hE.eval (ok x (by simp))) h
    exact ⟨d, hu, fun w' _ => by simp [execOp, hr w']⟩
  case convert s t x =>
    obtain ⟨hu, hr⟩ := convX_sound (P := P) hS (hE.eval (ok x (by simp))) h
    exact ⟨d, hu, fun w' hb => by simp [execOp, hr w' hb]⟩
  case nilCheck x =>
    have hv := hE.eval (ok x (by simp))
    unfold nilK at h
    cases ha : asP (ev e x) with
    | some cs =>
      rw [ha] at h
      cases h
      obtain ⟨b, q, us, hx, _⟩ := hv.aptr ha
      exact ⟨_, hv, fun w' _ => by simp [execOp, hx]⟩
    | none =>
    rw [ha] at h
    dsimp only at h
    split at h
    case h_2 => cases h
    rename_i r off ver hx
    by_cases hb : (getB H r ver).isSome = true
    · rw [if_pos hb] at h
      cases h
      rw [hx] at hv
      obtain ⟨cs, hcs⟩ := Option.isSome_iff_exists.1 hb
      have := hv.ptrI hcs
      exact ⟨_, hv, fun w' _ => by simp [execOp, this]⟩
    · rw [if_neg hb] at h; cases h
  case fieldAddr s x f =>
    obtain ⟨u, hu, hr⟩ := fld_sound (P := P) (hE.eval (ok x (by simp))) h
    exact ⟨u, hu, fun w' _ => by simp [execOp, hr w']⟩
  case field s x f =>
    obtain ⟨u, hu, hr⟩ := field_sound (P := P) (hE.eval (ok x (by simp))) h
    exact ⟨u, hu, fun w' _ => by simp [execOp, hr w']⟩
  case indexAddr t x i =>
    obtain ⟨u, hu, hr⟩ := idx_sound (P := P) (hE.eval (ok x (by simp))) (hE.eval (ok i (by simp))) h
    exact ⟨u, hu, fun w' _ => by simp [execOp, hr w']⟩
  case index t x i =>
    obtain ⟨hu, hr⟩ := strIdx_sound (P := P) (hE.eval (ok x (by simp))) (hE.eval (ok i (by simp))) h
    exact ⟨d, hu, fun w' _ => by simp [execOp, hr w']⟩
  case load t x =>
    obtain ⟨u, hu, hr⟩ := load_sound (P := P) hS (hE.eval (ok x (by simp))) h
    exact ⟨u, hu, fun w' hb => by simp [execOp, hr w' hb]⟩
  case slice t x lo hi mx =>
    have hv := hE.eval (ok x (by simp))
    have hlo := optEval hE (o := lo) (fun y hy => ok y (by simp; exact .inr (.inl (by simpa using hy))))
    have hhi := optEval hE (o := hi) (fun y hy => ok y (by simp; exact .inr (.inr (.inl (by simpa using hy)))))
    have hmx := optEval hE (o := mx) (fun y hy => ok y (by simp; exact .inr (.inr (.inr (by simpa using hy)))))
    unfold slV at h
    split at h
    · rename_i s hx
      rw [hx] at hv
      have hs := hv.str
      unfold strSliceS at h
      by_cases hp : pureV (.string s) = true ∧ ((lo.map (ev e)).all pureV && (hi.map (ev e)).all pureV && (mx.map (ev e)).all pureV) = true
      · rw [if_pos hp] at h
        obtain ⟨h1, h2⟩ := runV_some h
        obtain ⟨_, hp2⟩ := hp
        simp only [Bool.and_eq_true] at hp2
        obtain ⟨⟨p1, p2⟩, p3⟩ := hp2
        have same : ∀ (o : Option Operand), (∀ y ∈ o.toList, opdOk n y = true) → (o.map (ev e)).all pureV = true → o.map a.eval = o.map (ev e) := fun o ho hp => by
          cases o with
          | none => rfl
          | some y =>
            simp only [Option.map_some, Option.all_some] at hp ⊢
            rw [(hE.eval (ho y (by simp))).pureE hp]
        refine ⟨d, .ofPure h1, fun w' _ => ?_⟩
        have e1 := same lo (fun y hy => ok y (by simp; exact .inr (.inl (by simpa using hy)))) p1
        have e2 := same hi (fun y hy => ok y (by simp; exact .inr (.inr (.inl (by simpa using hy))))) p2
        have e3 := same mx (fun y hy => ok y (by simp; exact .inr (.inr (.inr (by simpa using hy))))) p3
        simp [execOp, hs, e1, e2, e3, h2 w']
      · rw [if_neg hp] at h; cases h
    · obtain ⟨u, hu, hr⟩ := slice_sound (P := P) hv hS (hlo 0) hhi hmx (by cases hi <;> rfl) (by cases mx <;> rfl) h
      exact ⟨u, hu, fun w' _ => by simp [execOp, hr w']⟩
  case extract x i =>
    obtain ⟨u, hu, hr⟩ := extract_sound (P := P) (hE.eval (ok x (by simp))) h
    exact ⟨u, hu, fun w' _ => by simp [execOp, hr w']⟩
  case build t ps =>
    obtain ⟨u, hu, hr⟩ := build_sound (P := P) hE (fun p hp => ok p.2 (by simp; exact ⟨p.1, by simpa using hp⟩)) h
    exact ⟨u, hu, fun w' _ => by
      have := hr w'
      simp [execOp, this]⟩
  case makeInterface t x =>
    obtain ⟨hu, hr⟩ := iface_sound (P := P) (hE.eval (ok x (by simp))) h
    exact ⟨d, hu, fun w' _ => by simp [execOp, hr w']⟩
  case makeFunc fn first cap =>
    by_cases h0 : first.size = 0
    · rw [if_pos h0] at h
      cases h
      have hf : first = #[] := Array.eq_empty_of_size_eq_zero h0
      subst hf
      have hl := (hE.evalL cap.toList (fun x hx => ok x (by simp; simpa using hx))).toArr
      refine ⟨.func fn #[] (cap.toList.map a.eval).toArray, .func fn _ _ hl.1 hl.2, fun w' _ => ?_⟩
      simp [execOp, Instr.makeFunc, ← Array.toList_map]
    · rw [if_neg h0] at h; cases h
  case call c =>
    obtain ⟨callee, args, argTypes⟩ := c
    cases callee with
    | value f => cases h
    | invoke r m => cases h
    | builtin b =>
      dsimp only at h
      have hl := hE.evalL args.toList (fun x hx => ok x (by simp [Call.operands]; simpa using hx))
      unfold popB at h
      split at h
      · rename_i x hx
        by_cases h1 : argTypes.size = 1
        · rw [if_pos h1] at h
          obtain ⟨t, ht⟩ : ∃ t, argTypes = #[t] := Array.size_eq_one_iff.1 h1
          subst ht
          have hlen : args.toList.length = 1 := by have := congrArg List.length hx; simpa using this
          obtain ⟨y, hy⟩ : ∃ y, args.toList = [y] := List.length_eq_one_iff.1 hlen
          have hargs : args = #[y] := by apply Array.ext'; exact hy
          subst hargs
          simp only [List.map_cons, List.map_nil, List.cons.injEq, and_true] at hx
          subst hx
          obtain ⟨hu, hr⟩ := len_sound (P := P) (ty := ty) (hE.eval (ok y (by simp [Call.operands]))) (by simpa using h)
          exact ⟨d, hu, fun w' _ => by simp [execOp, resolve, invoke, builtin, hr w']⟩
        · rw [if_neg h1] at h; cases h
      · obtain ⟨hu, hr⟩ := min_sound (P := P) (ty := ty) hl.toArr.1 hl.toArr.2 h
        exact ⟨d, hu, fun w' _ => by
          have := hr w'
          simp only [← Array.toList_map, Array.toArray_toList] at this
          simp [execOp, resolve, invoke, builtin, this]⟩
      · obtain ⟨hu, hr⟩ := max_sound (P := P) (ty := ty) hl.toArr.1 hl.toArr.2 h
        exact ⟨d, hu, fun w' _ => by
          have := hr w'
          simp only [← Array.toList_map, Array.toArray_toList] at this
          simp [execOp, resolve, invoke, builtin, this]⟩
      · cases h

end
end Go.BM
