/- New slices handed back, and how a heap is reckoned. -/
import Derived.Test.YtgcffommhbjgdaaA13
set_option linter.unusedVariables false
set_option linter.unusedSimpArgs false
namespace Go.AM
open Go.RowKit

def sb {α : Type} (el : TypeId) (E : Enc α) (xs : List α) (o : Bool) : Blk := ⟨el, E.sz, E.flat xs, 0, o⟩
def slv (r n : Nat) : Value := .slice (some ⟨r, 0, none⟩) n 0

/-- All cells are plain. -/
def Enc.Flat {α : Type} (E : Enc α) : Prop := ∀ x c, c ∈ cellsV (E.val x) → flatV c = true
theorem intE_flat : intE.Flat := fun x c h => by simp [intE, cellsV] at h; subst h; rfl
theorem strE_flat : strE.Flat := fun x c h => by simp [strE, cellsV] at h; subst h; rfl
theorem boolE_flat : boolE.Flat := fun x c h => by simp [boolE, cellsV] at h; subst h; rfl
theorem Enc.Flat.all {α : Type} {E : Enc α} (h : E.Flat) (xs : List α) : ∀ c ∈ E.flat xs, flatV c = true := fun c hc => by
  unfold Enc.flat at hc
  simp only [List.mem_flatMap] at hc
  obtain ⟨x, _, hx⟩ := hc
  exact h x c hx

structure Spec where
  el : TypeId
  sz : Nat
  cells : List Value
  len : Nat

def specOf {α : Type} (el : TypeId) (E : Enc α) (xs : List α) : Spec := ⟨el, E.sz, E.flat xs, xs.length⟩
def Spec.blk (s : Spec) (o : Bool) : Blk := ⟨s.el, s.sz, s.cells, 0, o⟩

/-- A slice as it stands when it is handed back: nil, or at the head of a new block ('w': the block is ours). -/
def RawC (s : Spec) (A : Nat) (H' : AH) (o : Option Nat) (w : Bool) (d : Value) : Prop :=
  match o with
  | none => d = .slice none 0 0 ∧ s.len = 0 ∧ s.cells = [] ∧ w = false
  | some r => ∃ blk, d = .slice (some ⟨r, 0, none⟩) s.len blk.ver ∧ A ≤ r ∧ H'[r]? = some blk ∧ blk.own = w ∧ (s.len ≠ 0 → w = true) ∧ blk.el = s.el ∧ blk.sz = s.sz ∧ s.cells.length ≤ blk.cs.length ∧ blk.cs.take s.cells.length = s.cells

def blksOf : List Spec → List Bool → List Blk
  | s :: ss, o :: os => s.blk o :: blksOf ss os
  | _, _ => []

def slvs (A : Nat) : List Spec → List Value
  | [] => []
  | s :: ss => slv A s.len :: slvs (A + 1) ss

inductive RNL (A : Nat) (rs : List (Option Nat)) (H' : AH) (bs : List Blk) : List Value → List Value → Prop
  | nil : RNL A rs H' bs [] []
  | cons {x y : Value} {xs ys : List Value} (h : RN A rs H' bs x y) (t : RNL A rs H' bs xs ys) : RNL A rs H' bs (x :: xs) (y :: ys)

theorem RNL.at {A : Nat} {rs : List (Option Nat)} {H' bs : AH} {xs ys : List Value} (h : RNL A rs H' bs xs ys) : xs.length = ys.length ∧ ∀ (i : Nat) (h1 : i < xs.length) (h2 : i < ys.length), RN A rs H' bs xs[i] ys[i] := by
  induction h with
  | nil => exact ⟨rfl, fun i h1 _ => absurd h1 (Nat.not_lt_zero _)⟩
  | cons h t ih =>
    refine ⟨by simp [ih.1], fun i h1 h2 => ?_⟩
    cases i with
    | zero => exact h
    | succ i => exact ih.2 i (by simpa using h1) (by simpa using h2)

theorem RN.aggL {A : Nat} {rs : List (Option Nat)} {H' bs : AH} {xs ys : List Value} (h : RNL A rs H' bs xs ys) : RN A rs H' bs (.agg xs.toArray) (.agg ys.toArray) :=
  .agg _ _ (by simpa using h.at.1) fun i h1 h2 => h.at.2 i (by simpa using h1) (by simpa using h2)
theorem RN.tupleL {A : Nat} {rs : List (Option Nat)} {H' bs : AH} {xs ys : List Value} (h : RNL A rs H' bs xs ys) : RN A rs H' bs (.tuple xs.toArray) (.tuple ys.toArray) :=
  .tuple _ _ (by simpa using h.at.1) fun i h1 h2 => h.at.2 i (by simpa using h1) (by simpa using h2)

theorem slvs_get (A : Nat) : ∀ (ss : List Spec) (i : Nat), (slvs A ss)[i]? = ss[i]?.map fun s => slv (A + i) s.len
  | [], i => by simp [slvs]
  | s :: ss, 0 => by simp [slvs]
  | s :: ss, i + 1 => by
    simp only [slvs, List.getElem?_cons_succ]
    rw [slvs_get (A + 1) ss i]
    congr 1
    funext s
    rw [show A + 1 + i = A + (i + 1) by omega]

theorem blksOf_get : ∀ (ss : List Spec) (os : List Bool) (i : Nat) (s : Spec) (o : Bool), ss[i]? = some s → os[i]? = some o → (blksOf ss os)[i]? = some (s.blk o)
  | [], _, i, s, o, h, _ => by simp at h
  | s :: ss, [], i, _, _, _, h => by simp at h
  | s :: ss, o :: os, 0, s', o', h, h' => by simp at h h'; subst h; subst h'; rfl
  | s :: ss, o :: os, i + 1, s', o', h, h' => by
    simp only [blksOf, List.getElem?_cons_succ] at h h' ⊢
    exact blksOf_get ss os i s' o' h h'

theorem blksOf_len : ∀ (ss : List Spec) (os : List Bool), ss.length = os.length → (blksOf ss os).length = os.length
  | [], [], _ => rfl
  | s :: ss, o :: os, h => by simp only [blksOf, List.length_cons]; rw [blksOf_len ss os (by simpa using h)]
  | [], o :: os, h => by simp at h
  | s :: ss, [], h => by simp at h

/-- What is handed back is some values with slices in it: told tidily. -/
theorem ACalls.fresh {P : Program} {f : FuncId} {args : List Value} {H : AH} (ss : List Spec) (hflat : ∀ s ∈ ss, ∀ c ∈ s.cells, flatV c = true) (F : List Value → Value)
    (hF : ∀ A rs H' bs vs us, RNL A rs H' bs vs us → vs.length = ss.length → RN A rs H' bs (F vs) (F us))
    (h : ACalls P H.length f args H fun d H' => ∃ (rs : List (Option Nat)) (ws : List Bool) (vs : List Value), rs.length = ss.length ∧ ws.length = ss.length ∧ vs.length = ss.length ∧ (∀ i j r : Nat, rs[i]? = some (some r) → rs[j]? = some (some r) → i = j) ∧
      (∀ (i : Nat) (s : Spec) (o : Option Nat) (w : Bool) (v : Value), ss[i]? = some s → rs[i]? = some o → ws[i]? = some w → vs[i]? = some v → RawC s H.length H' o w v) ∧ d = F vs) :
    ACalls P H.length f args H fun d H' => ∃ ws : List Bool, ws.length = ss.length ∧ (∀ (i : Nat) (s : Spec) (w : Bool), ss[i]? = some s → ws[i]? = some w → s.len ≠ 0 → w = true) ∧ d = F (slvs H.length ss) ∧ H' = H ++ blksOf ss ws := by
  refine h.tidy fun d H' ⟨rs, ws, vs, h1, h1w, h2, h3, h4, h5⟩ hpre => ?_
  have hbl := blksOf_len ss ws (by omega)
  have atI : ∀ i, i < ss.length → ∃ s o w v, ss[i]? = some s ∧ rs[i]? = some o ∧ ws[i]? = some w ∧ vs[i]? = some v ∧ RawC s H.length H' o w v := fun i hi => by
    have a1 : ss[i]? = some ss[i] := List.getElem?_eq_getElem hi
    have a2 : rs[i]? = some (rs[i]'(by omega)) := List.getElem?_eq_getElem (by omega)
    have a2w : ws[i]? = some (ws[i]'(by omega)) := List.getElem?_eq_getElem (by omega)
    have a3 : vs[i]? = some (vs[i]'(by omega)) := List.getElem?_eq_getElem (by omega)
    exact ⟨_, _, _, _, a1, a2, a2w, a3, h4 i _ _ _ _ a1 a2 a2w a3⟩
  have hT : Tidy H.length H' rs (blksOf ss ws) := {
    size := by omega
    inj := h3
    blk := fun i r hr => by
      have hi : i < ss.length := by have := lt_of_some'' hr; omega
      obtain ⟨s, o, w, v, a1, a2, a2w, a3, a4⟩ := atI i hi
      rw [hr] at a2
      cases a2
      obtain ⟨b, c1, c2, c3, c4, c4', c5, c6, c7, c8⟩ := a4
      refine ⟨c2, b, _, c3, blksOf_get ss ws i s _ a1 a2w, ⟨c5.symm, c6.symm, ?_, c7, fun j u' hu => ?_⟩⟩
      · simp [Spec.blk, c4]
      · refine ⟨u', ?_, .flat _ (hflat s (List.mem_of_getElem? a1) u' (List.mem_of_getElem? hu))⟩
        have hj : j < s.cells.length := lt_of_some'' hu
        have hu' : (b.cs.take s.cells.length)[j]? = some u' := by rw [c8]; exact hu
        rw [List.getElem?_take, if_pos hj] at hu'
        exact hu'
    void := fun i hr => by
      have hi : i < ss.length := by have := lt_of_some'' hr; omega
      obtain ⟨s, o, w, v, a1, a2, a2w, a3, a4⟩ := atI i hi
      rw [hr] at a2
      cases a2
      obtain ⟨c1, c2, c3, c4⟩ := a4
      exact ⟨_, blksOf_get ss ws i s _ a1 a2w, c4, c3⟩ }
  have hnl : ∀ (i : Nat) (v u : Value), vs[i]? = some v → (slvs H.length ss)[i]? = some u → RN H.length rs H' (blksOf ss ws) v u := fun i v u hv hu => by
    have hi : i < ss.length := by have := lt_of_some'' hv; omega
    obtain ⟨s, o, w, v', a1, a2, a2w, a3, a4⟩ := atI i hi
    rw [hv] at a3
    cases a3
    rw [slvs_get, a1] at hu
    simp only [Option.map_some, Option.some.injEq] at hu
    subst hu
    cases o with
    | none =>
      obtain ⟨c1, c2, c3, c4⟩ := a4
      rw [c1, c2]
      exact .nilTo _ _ _ _
    | some r =>
      obtain ⟨b, c1, c2, c3, c4, c4', c5, c6, c7, c8⟩ := a4
      rw [c1]
      exact .sl i r 0 s.len b _ a2 c3 (blksOf_get ss ws i s _ a1 a2w) c6.symm (by simp [Spec.blk, c4])
  have rnl : ∀ (xs ys : List Value), xs.length = ys.length → (∀ (i : Nat) (v u : Value), xs[i]? = some v → ys[i]? = some u → RN H.length rs H' (blksOf ss ws) v u) → RNL H.length rs H' (blksOf ss ws) xs ys := by
    intro xs
    induction xs with
    | nil => intro ys hl _; cases ys with
      | nil => exact .nil
      | cons _ _ => simp at hl
    | cons x xs ih => intro ys hl hh; cases ys with
      | nil => simp at hl
      | cons y ys => exact .cons (hh 0 x y rfl rfl) (ih ys (by simpa using hl) fun i v u hv hu => hh (i + 1) v u (by simpa using hv) (by simpa using hu))
  have hsl : (slvs H.length ss).length = ss.length := by
    have : ∀ (A : Nat) (ss : List Spec), (slvs A ss).length = ss.length := fun A ss => by
      induction ss generalizing A with
      | nil => rfl
      | cons s ss ih => simp [slvs, ih]
    exact this _ _
  have hall := rnl vs (slvs H.length ss) (by omega) hnl
  refine ⟨rs, blksOf ss ws, F (slvs H.length ss), hT, by rw [h5]; exact hF _ _ _ _ _ _ hall (by omega), ws, h1w, fun i s w hs hw hl => ?_, rfl, rfl⟩
  obtain ⟨s', o, w', v, a1, a2, a2w, a3, a4⟩ := atI i (lt_of_some'' hs)
  rw [hs] at a1
  cases a1
  rw [hw] at a2w
  cases a2w
  cases o with
  | none => obtain ⟨c1, c2, c3, c4⟩ := a4; exact absurd c2 hl
  | some r => obtain ⟨b, c1, c2, c3, c4, c4', _⟩ := a4; exact c4' hl

/-- One slice among what is handed back. -/
theorem ACalls.fresh1 {P : Program} {f : FuncId} {args : List Value} {H : AH} (s : Spec) (hflat : ∀ c ∈ s.cells, flatV c = true) (F : Value → Value)
    (hF : ∀ A rs H' bs v u, RN A rs H' bs v u → RN A rs H' bs (F v) (F u))
    (h : ACalls P H.length f args H fun d H' => ∃ o w v, RawC s H.length H' o w v ∧ d = F v) :
    ACalls P H.length f args H fun d H' => ∃ w, (s.len ≠ 0 → w = true) ∧ d = F (slv H.length s.len) ∧ H' = H ++ [s.blk w] := by
  have := ACalls.fresh (P := P) (f := f) (args := args) (H := H) [s] (fun s' hs c hc => by simp at hs; subst hs; exact hflat c hc) (fun vs => match vs with | [v] => F v | _ => undef)
    (fun A rs H' bs vs us hr hl => by
      cases hr with
      | nil => simp at hl
      | cons h t => cases t with
        | nil => exact hF _ _ _ _ _ _ h
        | cons _ _ => simp at hl)
    (h.mono fun d H' ⟨o, w, v, h1, h2⟩ => ⟨[o], [w], [v], rfl, rfl, rfl, fun i j r hi hj => by
      have h1 := lt_of_some'' hi
      have h2 := lt_of_some'' hj
      simp at h1 h2
      omega, fun i s' o' w' v' a1 a2 a2w a3 => by
      have hi := lt_of_some'' a1
      have : i = 0 := by simpa using hi
      subst this
      simp at a1 a2 a2w a3
      subst a1; subst a2; subst a2w; subst a3
      exact h1, h2⟩)
  refine this.mono fun d H' ⟨ws, h1, h2, h3, h4⟩ => ?_
  match ws, h1 with
  | [w], _ => exact ⟨w, h2 0 s w rfl rfl, h3, h4⟩

/-- Two slices among what is handed back. -/
theorem ACalls.fresh2 {P : Program} {f : FuncId} {args : List Value} {H : AH} (s t : Spec) (hflat : ∀ c ∈ s.cells, flatV c = true) (hflat2 : ∀ c ∈ t.cells, flatV c = true) (F : Value → Value → Value)
    (hF : ∀ A rs H' bs v u v' u', RN A rs H' bs v u → RN A rs H' bs v' u' → RN A rs H' bs (F v v') (F u u'))
    (h : ACalls P H.length f args H fun d H' => ∃ o w v o' w' v', RawC s H.length H' o w v ∧ RawC t H.length H' o' w' v' ∧ (∀ r, o = some r → o' = some r → False) ∧ d = F v v') :
    ACalls P H.length f args H fun d H' => ∃ w w', (s.len ≠ 0 → w = true) ∧ (t.len ≠ 0 → w' = true) ∧ d = F (slv H.length s.len) (slv (H.length + 1) t.len) ∧ H' = H ++ [s.blk w, t.blk w'] := by
  have := ACalls.fresh (P := P) (f := f) (args := args) (H := H) [s, t] (fun s' hs c hc => by
      simp at hs
      rcases hs with rfl | rfl
      · exact hflat c hc
      · exact hflat2 c hc) (fun vs => match vs with | [v, v'] => F v v' | _ => undef)
    (fun A rs H' bs vs us hr hl => by
      cases hr with
      | nil => simp at hl
      | cons h t => cases t with
        | nil => simp at hl
        | cons h' t' => cases t' with
          | nil => exact hF _ _ _ _ _ _ _ _ h h'
          | cons _ _ => simp at hl)
    (h.mono fun d H' ⟨o, w, v, o', w', v', h1, h1', hne, h2⟩ => ⟨[o, o'], [w, w'], [v, v'], rfl, rfl, rfl, fun i j r hi hj => by
      have h1 := lt_of_some'' hi
      have h2 := lt_of_some'' hj
      simp at h1 h2
      match i, j with
      | 0, 0 => rfl
      | 1, 1 => rfl
      | 0, 1 => simp at hi hj; exact (hne r hi hj).elim
      | 1, 0 => simp at hi hj; exact (hne r hj hi).elim
      | i + 2, _ => omega
      | _, j + 2 => omega, fun i s' p' w'' v'' a1 a2 a2w a3 => by
      have hi := lt_of_some'' a1
      match i with
      | 0 =>
        simp at a1 a2 a2w a3
        subst a1; subst a2; subst a2w; subst a3
        exact h1
      | 1 =>
        simp at a1 a2 a2w a3
        subst a1; subst a2; subst a2w; subst a3
        exact h1'
      | i + 2 => simp at hi; omega, h2⟩)
  refine this.mono fun d H' ⟨ws, h1, h2, h3, h4⟩ => ?_
  match ws, h1 with
  | [w, w'], _ => exact ⟨w, w', h2 0 s w rfl rfl, h2 1 t w' rfl rfl, h3, h4⟩

/-! ### How a heap is reckoned -/
section
variable {P : Program} {B : Nat} {H L : AH} {b b' : Blk}

theorem get_app0 : (H ++ L)[H.length]? = L[0]? := by rw [List.getElem?_append_right (Nat.le_refl _), Nat.sub_self]
theorem get_appk (k : Nat) : (H ++ L)[H.length + k]? = L[k]? := by rw [List.getElem?_append_right (by omega), Nat.add_sub_cancel_left]
theorem get_old {r : Nat} {x : Blk} (h : H[r]? = some x) : (H ++ L)[r]? = some x := by rw [List.getElem?_append_left (lt_of_some h)]; exact h
theorem set_app0 : (H ++ L).set H.length b = H ++ L.set 0 b := by rw [List.set_append_right _ _ (Nat.le_refl _), Nat.sub_self]
theorem set_appk (k : Nat) : (H ++ L).set (H.length + k) b = H ++ L.set k b := by rw [List.set_append_right _ _ (by omega), Nat.add_sub_cancel_left]
theorem getB_eq (r ver : Nat) : getB H r ver = (H[r]?).bind fun x => if x.ver = ver then some x.cs else none := by
  unfold getB
  cases H[r]? <;> rfl
theorem loadV_ptr (t : TypeId) (r off ver : Nat) : loadV P H t (.pointer (some ⟨r, off, some ver⟩)) = (lay P t).bind fun gn => (getB H r ver).bind fun cs => getVar gn.1 gn.2 cs off := by
  unfold loadV
  cases lay P t with
  | none => rfl
  | some gn =>
    dsimp only [Option.bind_some]
    cases getB H r ver <;> rfl
theorem getVar_t (n : Nat) (cs : List Value) (off : Nat) : getVar true n cs off = if off + n ≤ cs.length then some (.agg ((cs.drop off).take n).toArray) else none := rfl
theorem getVar_f (n : Nat) (cs : List Value) (off : Nat) : getVar false n cs off = cs[off]? := rfl
theorem fldV_ptr (s : TypeId) (f r off ver : Nat) : fldV P H s (.pointer (some ⟨r, off, some ver⟩)) f = (fldOff P s f).bind fun o => (getB H r ver).bind fun _ => some (.pointer (some ⟨r, off + o, some ver⟩)) := by
  unfold fldV
  dsimp only
  cases fldOff P s f with
  | none => rfl
  | some o => cases getB H r ver <;> rfl
theorem nilK_ptr (r off ver : Nat) : nilK H (.pointer (some ⟨r, off, some ver⟩)) = (getB H r ver).bind fun _ => some (.pointer (some ⟨r, off, some ver⟩)) := by
  unfold nilK
  dsimp only
  cases getB H r ver <;> rfl
theorem storeH_ptr (t : TypeId) (r off ver : Nat) (v : Value) : storeH P B H t (.pointer (some ⟨r, off, some ver⟩)) v = (lay P t).bind fun gn => (H[r]?).bind fun blk =>
    if blk.ver = ver ∧ blk.own = true ∧ B ≤ r ∧ (cellsV v).length = gn.2 ∧ off + gn.2 ≤ blk.cs.length ∧ (cellsV v).all Value.oneCell' = true then some (H.set r { blk with cs := splice blk.cs off (cellsV v) }) else none := by
  unfold storeH
  dsimp only
  cases lay P t with
  | none => rfl
  | some gn =>
    dsimp only [Option.bind_some]
    cases H[r]? <;> rfl
theorem mkB_eq (el : TypeId) (sz : Nat) (cs : List Value) : mkB el sz cs = ⟨el, sz, cs, 0, true⟩ := rfl
theorem Spec_blk {α : Type} (el : TypeId) (E : Enc α) (xs : List α) (o : Bool) : (specOf el E xs).blk o = sb el E xs o := rfl
theorem specOf_len {α : Type} (el : TypeId) (E : Enc α) (xs : List α) : (specOf el E xs).len = xs.length := rfl
theorem specOf_cells {α : Type} (el : TypeId) (E : Enc α) (xs : List α) : (specOf el E xs).cells = E.flat xs := rfl
theorem cells_int (k : IntKind) (i : Int) : cellsV (.int k i) = [.int k i] := rfl
theorem cells_bool (b : Bool) : cellsV (.bool b) = [.bool b] := rfl
theorem cells_str (s : ByteArray) : cellsV (.string s) = [.string s] := rfl
theorem cells_slice (a : Option Addr) (n m : Nat) : cellsV (.slice a n m) = [.slice a n m] := rfl
theorem cells_slv (n m : Nat) : cellsV (slv n m) = [slv n m] := rfl
theorem cells_ptr (a : Option Addr) : cellsV (.pointer a) = [.pointer a] := rfl
theorem cells_agg (l : List Value) : cellsV (.agg l.toArray) = l := rfl
theorem one_int (k : IntKind) (i : Int) : Value.oneCell' (.int k i) = true := rfl
theorem one_bool (b : Bool) : Value.oneCell' (.bool b) = true := rfl
theorem one_str (s : ByteArray) : Value.oneCell' (.string s) = true := rfl
theorem one_slice (a : Option Addr) (n m : Nat) : Value.oneCell' (.slice a n m) = true := rfl
theorem one_slv (n m : Nat) : Value.oneCell' (slv n m) = true := rfl
theorem one_ptr (a : Option Addr) : Value.oneCell' (.pointer a) = true := rfl
theorem const_int (k : IntKind) (i : Int) : constOk (.int k i) = true := rfl
theorem const_bool (b : Bool) : constOk (.bool b) = true := rfl
theorem const_str (s : ByteArray) : constOk (.string s) = true := rfl
theorem const_nil : constOk (.slice none 0 0) = true := rfl
theorem pure_int (k : IntKind) (i : Int) : pureV (.int k i) = true := rfl
theorem pure_bool (b : Bool) : pureV (.bool b) = true := rfl
theorem pure_str (s : ByteArray) : pureV (.string s) = true := rfl
theorem zOkV_agg (l : List Value) : zOkV (.agg l.toArray) = (l.all constOk && l.all Value.oneCell') := by simp [zOkV]
theorem zOkV_int (k : IntKind) (i : Int) : zOkV (.int k i) = true := rfl
theorem zOkV_bool (b : Bool) : zOkV (.bool b) = true := rfl
theorem zOkV_str (s : ByteArray) : zOkV (.string s) = true := rfl
theorem zOkV_nil : zOkV (.slice none 0 0) = true := rfl
theorem splice_eq (cs : List Value) (off : Nat) (news : List Value) : splice cs off news = cs.take off ++ news ++ cs.drop (off + news.length) := rfl
theorem extract_tuple (l : List Value) (i : Nat) : extractV (.tuple l.toArray) i = l[i]? := by simp [extractV]
theorem buildV_eq (t : TypeId) (parts : List (Nat × Value)) : buildV P t parts = (strT P t).bind fun zp => if zp.1.all constOk = true then (fillL zp.2 zp.1 parts).map fun cs => .agg cs.toArray else none := by
  unfold buildV
  cases strT P t <;> rfl
theorem fillL_nil (places : List (Nat × Nat)) (cs : List Value) : fillL places cs [] = some cs := rfl
theorem fillL_cons (places : List (Nat × Nat)) (cs : List Value) (i : Nat) (v : Value) (rest : List (Nat × Value)) : fillL places cs ((i, v) :: rest) =
    (places[i]?).bind fun os => if (cellsV v).length = os.2 ∧ os.1 + os.2 ≤ cs.length then fillL places (splice cs os.1 (cellsV v)) rest else none := by
  show (match places[i]? with | none => none | some (off, size) => _) = _
  cases places[i]? <;> rfl
theorem le_self_add (n k : Nat) : (n ≤ n + k) = True := by simp

theorem SlE.of_sb {α : Type} {E : Enc α} {xs : List α} {el r : Nat} {o : Bool} {n : Nat} (h : H[r]? = some (sb el E xs o)) (hn : n = xs.length) : SlE E H (slv r n) xs := by
  subst hn
  refine .inr ⟨r, 0, 0, _, rfl, h, rfl, rfl, ?_, ?_⟩
  · simp [sb, E.flat_length]
  · simp only [sb, List.drop_zero]
    rw [List.take_of_length_le (by rw [E.flat_length]; exact Nat.le_refl _)]
end

theorem RawC.sb {α : Type} {E : Enc α} {xs : List α} {H' : AH} {A el r : Nat} {o : Bool} (h : H'[r]? = some (sb el E xs o)) (hr : A ≤ r) (ho : xs.length ≠ 0 → o = true) : RawC (specOf el E xs) A H' (some r) o (slv r xs.length) :=
  ⟨_, rfl, hr, h, rfl, ho, rfl, rfl, Nat.le_refl _, List.take_of_length_le (Nat.le_refl _)⟩
theorem RawC.nil {α : Type} {E : Enc α} {H' : AH} {A el : Nat} : RawC (specOf el E []) A H' none false (.slice none 0 0) := ⟨rfl, rfl, rfl, rfl⟩

/-! ### Struct values -/
/-- Equality of struct values: each cell. -/
def cellEq : Value → Value → Option Bool
  | .int _ a, .int _ b => some (a == b)
  | .string a, .string b => some (a == b)
  | .bool a, .bool b => some (a == b)
  | _, _ => none

end Go.AM
