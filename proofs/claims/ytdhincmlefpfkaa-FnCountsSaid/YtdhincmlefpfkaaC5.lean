/- Literals of structs and slices, make and append, told by lists. -/
import Derived.Test.YtdhincmlefpfkaaC4
set_option linter.unusedVariables false
set_option linter.unusedSimpArgs false
namespace Go.BM
open Go.RowKit

/-- Two lists of cells, one for one. -/
def VRL (σ : Sg) (H : AH) (xs ys : List Value) : Prop := xs.length = ys.length ∧ ∀ (j : Nat) u, ys[j]? = some u → ∃ x, xs[j]? = some x ∧ VR σ H x u

theorem VRL.one {σ : Sg} {H : AH} {xs ys : List Value} (h : VRL σ H xs ys) (h1 : ys.all Value.oneCell' = true) : ∀ u ∈ xs, u.oneCell' = true := by
  intro u hu
  obtain ⟨j, hj, rfl⟩ := List.getElem_of_mem hu
  have hj2 : j < ys.length := by rw [← h.1]; exact hj
  obtain ⟨x, hx, hv⟩ := h.2 j _ (List.getElem?_eq_getElem hj2)
  rw [List.getElem?_eq_getElem hj] at hx
  cases hx
  rw [hv.one]
  exact List.all_eq_true.1 h1 _ (List.getElem_mem hj2)

theorem VRL.append {σ : Sg} {H : AH} {xs ys xs' ys' : List Value} (h : VRL σ H xs ys) (h' : VRL σ H xs' ys') : VRL σ H (xs ++ xs') (ys ++ ys') := by
  refine ⟨by simp [h.1, h'.1], fun j u hu => ?_⟩
  rcases Nat.lt_or_ge j ys.length with hj | hj
  · rw [List.getElem?_append_left hj] at hu
    obtain ⟨x, hx, hv⟩ := h.2 j u hu
    exact ⟨x, by rw [List.getElem?_append_left (by rw [h.1]; exact hj)]; exact hx, hv⟩
  · rw [List.getElem?_append_right hj] at hu
    obtain ⟨x, hx, hv⟩ := h'.2 _ u hu
    exact ⟨x, by rw [List.getElem?_append_right (by rw [h.1]; exact hj), h.1]; exact hx, hv⟩

theorem VRL.splice {σ : Sg} {H : AH} {xs ys xs' ys' : List Value} (h : VRL σ H xs ys) (h' : VRL σ H xs' ys') (off : Nat) (hf : off + ys'.length ≤ ys.length) : VRL σ H (splice xs off xs') (splice ys off ys') := by
  have e1 := h.1
  have e2 := h'.1
  refine ⟨by rw [splice_len (by omega), splice_len (by omega)]; exact e1, fun j u hu => ?_⟩
  rw [splice_get (by omega)] at hu ⊢
  by_cases a : j < off
  · rw [if_pos a] at hu ⊢; exact h.2 j u hu
  · rw [if_neg a] at hu ⊢
    by_cases b : j < off + ys'.length
    · rw [if_pos b] at hu; rw [if_pos (by omega)]; exact h'.2 _ u hu
    · rw [if_neg b] at hu; rw [if_neg (by omega)]; exact h.2 j u hu

theorem VRL.consts {σ : Sg} {H : AH} {zs : List Value} (h : zs.all constOk = true) : VRL σ H zs zs :=
  ⟨rfl, fun j u hu => ⟨u, hu, flat_const (List.all_eq_true.1 h u (List.mem_of_getElem? hu)) σ H⟩⟩

theorem VR.cellsL {σ : Sg} {H : AH} {v d : Value} (h : VR σ H v d) : VRL σ H (BM.cellsV v) (BM.cellsV d) := h.cellsV

theorem VRL.toAgg {σ : Sg} {H : AH} {xs ys : List Value} (h : VRL σ H xs ys) : VR σ H (.agg xs.toArray) (.agg ys.toArray) :=
  .agg _ _ (by simpa using h.1) fun i h1 h2 => by
    obtain ⟨x, hx, hv⟩ := h.2 i ys[i] (List.getElem?_eq_getElem (by simpa using h2))
    have : xs[i]'(by simpa using h1) = x := by
      rw [List.getElem?_eq_getElem (by simpa using h1)] at hx
      exact Option.some.inj hx
    simpa [this] using hv

/-! ### struct literals -/
def fillL (places : List (Nat × Nat)) : List Value → List (Nat × Value) → Option (List Value)
  | cs, [] => some cs
  | cs, (i, v) :: rest =>
    match places[i]? with
    | none => none
    | some (off, size) => if (cellsV v).length = size ∧ off + size ≤ cs.length then fillL places (splice cs off (cellsV v)) rest else none

theorem foldl_set (off : Nat) : ∀ (l : List Value) (k : Nat) (cs : List Value), off + k + l.length ≤ cs.length →
    (l.zipIdx k).foldl (fun (a : Array Value) (p : Value × Nat) => a.setIfInBounds (off + p.2) p.1) cs.toArray = (splice cs (off + k) l).toArray
  | [], k, cs, _ => by simp [splice]
  | v :: l, k, cs, h => by
    simp only [List.length_cons] at h
    simp only [List.zipIdx_cons, List.foldl_cons]
    have e : cs.toArray.setIfInBounds (off + k) v = (cs.set (off + k) v).toArray := by simp
    rw [e, foldl_set off l (k + 1) (cs.set (off + k) v) (by simp; omega)]
    congr 1
    unfold splice
    apply List.ext_getElem?
    intro j
    have t1 : (List.take (off + (k + 1)) (cs.set (off + k) v)).length = off + k + 1 := by simp; omega
    have t2 : (List.take (off + k) cs).length = off + k := by simp; omega
    rw [List.append_assoc, List.append_assoc]
    rcases Nat.lt_trichotomy j (off + k) with h1 | h1 | h1
    · rw [List.getElem?_append_left (by omega), List.getElem?_append_left (by omega), List.getElem?_take, List.getElem?_take, if_pos (by omega), if_pos h1, List.getElem?_set_ne (by omega)]
    · subst h1
      rw [List.getElem?_append_left (by omega), List.getElem?_append_right (by omega), List.getElem?_take, if_pos (by omega), List.getElem?_set_self (by omega), t2]
      simp
    · rw [List.getElem?_append_right (show (List.take (off + (k + 1)) (cs.set (off + k) v)).length ≤ j by omega), List.getElem?_append_right (show (List.take (off + k) cs).length ≤ j by omega), t1, t2]
      have e2 : j - (off + k) = (j - (off + k + 1)) + 1 := by omega
      rw [e2, List.cons_append, List.getElem?_cons_succ]
      rcases Nat.lt_or_ge (j - (off + k + 1)) l.length with h2 | h2
      · rw [List.getElem?_append_left h2, List.getElem?_append_left h2]
      · rw [List.getElem?_append_right h2, List.getElem?_append_right h2, List.getElem?_drop, List.getElem?_drop, List.getElem?_set_ne (by omega)]
        congr 1
        simp only [List.length_cons]
        omega

theorem fill_eq (places : List (Nat × Nat)) : ∀ (parts : List (Nat × Value)) (cs cs' : List Value), fillL places cs parts = some cs' →
    Instr.fill (fun i => places[i]?) cs.toArray parts = some cs'.toArray
  | [], cs, cs', h => by simp [fillL] at h; subst h; rfl
  | (i, v) :: rest, cs, cs', h => by
    unfold fillL at h
    unfold Instr.fill
    cases hp : places[i]? with
    | none => rw [hp] at h; cases h
    | some os =>
      obtain ⟨off, size⟩ := os
      rw [hp] at h
      dsimp only at h ⊢
      by_cases hc : (cellsV v).length = size ∧ off + size ≤ cs.length
      · rw [if_pos hc] at h
        have hs : v.cells.size = size := by rw [← Array.length_toList, cellsV_eq]; exact hc.1
        have n1 : (decide (v.cells.size ≠ size) || decide (off + v.cells.size > cs.toArray.size)) = false := by
          simp [hs]; exact hc.2
        rw [if_neg (by rw [n1]; exact Bool.false_ne_true)]
        have hf := foldl_set off (cellsV v) 0 cs (by omega)
        have e : Array.foldl (fun (a : Array Value) (p : Value × Nat) => a.setIfInBounds (off + p.2) p.1) cs.toArray v.cells.zipIdx = (splice cs off (cellsV v)).toArray := by
          rw [← Array.foldl_toList, Array.toList_zipIdx, cellsV_eq]
          simpa using hf
        have ih := fill_eq places rest _ _ h
        rw [← e] at ih
        exact ih
      · rw [if_neg hc] at h; cases h

def strT (P : Program) (t : TypeId) : Option (List Value × List (Nat × Nat)) :=
  match P.info? t, P.underlying t with
  | some it, some (.struct fields) =>
    (match it.zero, fields.toList.mapM (fun f => (P.info? f.type).map fun i => (f.offset, i.size)) with
     | some z, some places => some (z.cells.toList, places)
     | _, _ => none)
  | _, _ => none

section
variable {P : Program} {B n : Nat} {σ : Sg} {H : AH} {w : World} {a : Act} {e : Env}

theorem built_eq {t : TypeId} {zs : List Value} {places : List (Nat × Nat)} (hT : strT P t = some (zs, places)) {parts : List (Nat × Value)} {cs : List Value} (h : fillL places zs parts = some cs) : P.built t parts = some cs.toArray := by
  unfold strT at hT
  unfold Program.built
  cases hi : P.info? t with
  | none => rw [hi] at hT; cases hT
  | some it =>
    cases hu : P.underlying t with
    | none => rw [hi, hu] at hT; cases hT
    | some d =>
      rw [hi, hu] at hT
      cases d <;> try (cases hT; done)
      rename_i fields
      dsimp only at hT ⊢
      cases hz : it.zero with
      | none => rw [hz] at hT; cases hT
      | some z =>
        cases hp : fields.toList.mapM (fun f => (P.info? f.type).map fun i => (f.offset, i.size)) with
        | none => rw [hz, hp] at hT; cases hT
        | some pl =>
          rw [hz, hp] at hT
          dsimp only at hT ⊢
          cases hT
          have := fill_eq _ parts _ _ h
          simpa using this

theorem fillL_rel (hE : ER n σ H a e) (places : List (Nat × Nat)) : ∀ (ps : List (Nat × Operand)), (∀ p ∈ ps, opdOk n p.2 = true) → ∀ (cs ds ds' : List Value), VRL σ H cs ds →
    fillL places ds (ps.map fun p => (p.1, ev e p.2)) = some ds' → ∃ cs', fillL places cs (ps.map fun p => (p.1, a.eval p.2)) = some cs' ∧ VRL σ H cs' ds'
  | [], _, cs, ds, ds', hc, h => by simp [fillL] at h; subst h; exact ⟨cs, rfl, hc⟩
  | p :: ps, hok, cs, ds, ds', hc, h => by
    obtain ⟨i, x⟩ := p
    simp only [List.map_cons] at h ⊢
    unfold fillL at h ⊢
    cases hp : places[i]? with
    | none => rw [hp] at h; cases h
    | some os =>
      obtain ⟨off, size⟩ := os
      rw [hp] at h
      dsimp only at h ⊢
      have hv := (hE.eval (hok (i, x) (by simp))).cellsL
      by_cases hcc : (cellsV (ev e x)).length = size ∧ off + size ≤ ds.length
      · rw [if_pos hcc] at h
        rw [if_pos ⟨by rw [hv.1]; exact hcc.1, by rw [hc.1]; exact hcc.2⟩]
        exact fillL_rel hE places ps (fun p hp => hok p (by simp [hp])) _ _ _ (hc.splice hv off (by have := hcc.1; have := hcc.2; dsimp only at *; omega)) h
      · rw [if_neg hcc] at h; cases h

def buildV (P : Program) (t : TypeId) (parts : List (Nat × Value)) : Option Value :=
  match strT P t with
  | some (zs, places) => if zs.all constOk = true then (fillL places zs parts).map fun cs => .agg cs.toArray else none
  | none => none

theorem build_sound (hE : ER n σ H a e) {t : TypeId} {ps : Array (Nat × Operand)} (hok : ∀ p ∈ ps.toList, opdOk n p.2 = true) {d : Value} (h : buildV P t (ps.toList.map fun p => (p.1, ev e p.2)) = some d) :
    ∃ u, VR σ H u d ∧ ∀ w', (Instr.build t (ps.map fun (i, x) => (i, a.eval x))).run P w' = .ok u w' := by
  unfold buildV at h
  cases hT : strT P t with
  | none => rw [hT] at h; cases h
  | some zp =>
    obtain ⟨zs, places⟩ := zp
    rw [hT] at h
    dsimp only at h
    by_cases hz : zs.all constOk = true
    · rw [if_pos hz] at h
      obtain ⟨ds', hd, rfl⟩ := Option.map_eq_some_iff.1 h
      obtain ⟨cs', hc, hv⟩ := fillL_rel hE places ps.toList hok zs zs ds' (.consts hz) hd
      exact ⟨_, hv.toAgg, fun w' => run_build w' t _ _ (by rw [Array.toList_map]; exact built_eq hT hc)⟩
    · rw [if_neg hz] at h; cases h

/-! ### slice literals -/
def litCells (sz : Nat) : Nat → List (Nat × Value) → Option (List Value)
  | _, [] => some []
  | k, (i, v) :: rest => if i = k ∧ (cellsV v).length = sz then (litCells sz (k + 1) rest).map fun l => cellsV v ++ l else none

theorem litCells_len (sz : Nat) : ∀ (ps : List (Nat × Value)) (k : Nat) (l : List Value), litCells sz k ps = some l → l.length = ps.length * sz
  | [], k, l, h => by simp [litCells] at h; subst h; simp
  | (i, v) :: rest, k, l, h => by
    unfold litCells at h
    by_cases hc : i = k ∧ (cellsV v).length = sz
    · rw [if_pos hc] at h
      obtain ⟨l', hl, rfl⟩ := Option.map_eq_some_iff.1 h
      have := litCells_len sz rest _ _ hl
      simp [this, hc.2, Nat.add_mul, Nat.add_comm]
    · rw [if_neg hc] at h; cases h

theorem lit_fill (sz : Nat) : ∀ (ps : List (Nat × Value)) (k : Nat) (l cs : List Value), litCells sz k ps = some l → (k + ps.length) * sz ≤ cs.length →
    Instr.fill (fun i => some (i * sz, sz)) cs.toArray ps = some (splice cs (k * sz) l).toArray
  | [], k, l, cs, h, _ => by simp [litCells] at h; subst h; simp [Instr.fill, splice]
  | (i, v) :: rest, k, l, cs, h, hle => by
    unfold litCells at h
    by_cases hc : i = k ∧ (cellsV v).length = sz
    · rw [if_pos hc] at h
      obtain ⟨l', hl, rfl⟩ := Option.map_eq_some_iff.1 h
      obtain ⟨rfl, hv⟩ := hc
      simp only [List.length_cons] at hle
      have hle2 : i * sz + sz ≤ cs.length := by
        have : (i + 1) * sz ≤ (i + (rest.length + 1)) * sz := Nat.mul_le_mul_right _ (by omega)
        rw [Nat.add_mul, Nat.one_mul] at this
        omega
      unfold Instr.fill
      dsimp only
      have hs : v.cells.size = sz := by rw [← Array.length_toList, cellsV_eq]; exact hv
      have n1 : (decide (v.cells.size ≠ sz) || decide (i * sz + v.cells.size > cs.toArray.size)) = false := by
        simp [hs]; exact hle2
      rw [if_neg (by rw [n1]; exact Bool.false_ne_true)]
      have e : Array.foldl (fun (a : Array Value) (p : Value × Nat) => a.setIfInBounds (i * sz + p.2) p.1) cs.toArray v.cells.zipIdx = (splice cs (i * sz) (cellsV v)).toArray := by
        rw [← Array.foldl_toList, Array.toList_zipIdx, cellsV_eq]
        simpa using foldl_set (i * sz) (cellsV v) 0 cs (by omega)
      have hsl := splice_len (cs := cs) (news := cellsV v) (off := i * sz) (by omega)
      have ih := lit_fill sz rest (i + 1) l' (splice cs (i * sz) (cellsV v)) hl (by rw [hsl, show i + 1 + rest.length = i + (rest.length + 1) by omega]; exact hle)
      rw [← e] at ih
      refine Eq.trans ih ?_
      congr 2
      have hl2 := litCells_len sz rest _ _ hl
      have hm : (i + 1) * sz = i * sz + sz := by rw [Nat.add_mul, Nat.one_mul]
      have hfit : i * sz + sz + l'.length ≤ cs.length := by
        rw [hl2]
        have : (i + (rest.length + 1)) * sz = i * sz + sz + rest.length * sz := by rw [Nat.add_mul, Nat.add_mul, Nat.one_mul]; omega
        omega
      apply List.ext_getElem?
      intro j
      rw [splice_get (by rw [hsl, hm]; omega), splice_get (by omega), splice_get (by rw [List.length_append, hv]; omega), hm]
      simp only [List.length_append, hv]
      by_cases h1 : j < i * sz
      · rw [if_pos (by omega), if_pos h1, if_pos h1]
      · rw [if_neg h1, if_neg h1]
        by_cases h2 : j < i * sz + sz
        · rw [if_pos h2, if_pos h2, if_pos (by omega), List.getElem?_append_left (by omega)]
        · rw [if_neg h2]
          by_cases h3 : j < i * sz + sz + l'.length
          · rw [if_pos h3, if_pos (by omega), List.getElem?_append_right (by omega), hv]
            congr 1
            omega
          · rw [if_neg h3, if_neg h2, if_neg (by omega)]
    · rw [if_neg hc] at h; cases h

theorem lit_rel (hE : ER n σ H a e) (sz : Nat) : ∀ (ps : List (Nat × Operand)), (∀ p ∈ ps, opdOk n p.2 = true) → ∀ (k : Nat) (ds : List Value),
    litCells sz k (ps.map fun p => (p.1, ev e p.2)) = some ds → ∃ cs, litCells sz k (ps.map fun p => (p.1, a.eval p.2)) = some cs ∧ VRL σ H cs ds
  | [], _, k, ds, h => by simp [litCells] at h; subst h; exact ⟨[], rfl, rfl, fun j u hu => by simp at hu⟩
  | p :: ps, hok, k, ds, h => by
    obtain ⟨i, x⟩ := p
    simp only [List.map_cons] at h ⊢
    unfold litCells at h ⊢
    have hv := (hE.eval (hok (i, x) (by simp))).cellsL
    by_cases hc : i = k ∧ (cellsV (ev e x)).length = sz
    · rw [if_pos hc] at h
      obtain ⟨l', hl, rfl⟩ := Option.map_eq_some_iff.1 h
      obtain ⟨cs, h1, h2⟩ := lit_rel hE sz ps (fun p hp => hok p (by simp [hp])) _ _ hl
      rw [if_pos ⟨hc.1, by rw [hv.1]; exact hc.2⟩, h1]
      exact ⟨_, rfl, hv.append h2⟩
    · rw [if_neg hc] at h; cases h

def zOk (P : Program) (el : TypeId) (sz : Nat) : Bool :=
  match zeroV P el with
  | some z => decide (z.cells.size = sz) && z.cells.all constOk && z.cells.all Value.oneCell' && decide (0 < sz)
  | none => false

def buildSliceH (P : Program) (H : AH) (t : TypeId) (len : Nat) (parts : List (Nat × Value)) : Option (Value × AH) :=
  match elZ P t with
  | some (el, sz, _) =>
    if zOk P el sz = true ∧ parts.length = len ∧ len * sz ≤ 16777216 then
      (match litCells sz 0 parts with
       | some cs => if cs.all Value.oneCell' = true then some (.slice (some ⟨H.length, 0, none⟩) len 0, H ++ [mkB el sz cs]) else none
       | none => none)
    else none
  | none => none

theorem new_slice (hS : Sim σ H w) (hB : B ≤ H.length) {w1 : World} (hw : Below w.heap.size w w1) (el : TypeId) (sz len cap : Nat) (ds : List Value) (c : Array Value) (hle : ds.length ≤ c.size)
    (hv : ∀ (j : Nat) v, ds[j]? = some v → ∃ u, c[j]? = some u ∧ VR σ H u v ∧ u.oneCell' = true) (hlc : len ≤ cap) (hcm : cap ≤ maxLen) (hcs : cap * sz ≤ c.size) :
    ∃ σ', Fut B σ H w σ' (H ++ [mkB el sz ds]) (w1.alloc (.cells c el)) ∧ Sim σ' (H ++ [mkB el sz ds]) (w1.alloc (.cells c el)) ∧
      VR σ' (H ++ [mkB el sz ds]) (.slice (some ⟨w1.heap.size, 0, none⟩) len cap) (.slice (some ⟨H.length, 0, none⟩) len 0) := by
  obtain ⟨F, S⟩ := new_sound (B := B) hS hB hw (mkB el sz ds) rfl c hle hv
  refine ⟨_, F, S, ?_⟩
  have := VR.slice (σ := σ.upd H.length ⟨w1.heap.size, 0, c.size⟩) (H := H ++ [mkB el sz ds]) H.length 0 len cap 0 none (mkB el sz ds) (by simp) rfl rfl hlc hlc hcm (by simp only [Sg.upd_at, if_true, Nat.zero_add]; exact hcs)
  simpa [Sg.upd_at] using this

theorem buildSlice_sound (hS : Sim σ H w) (hB : B ≤ H.length) (hE : ER n σ H a e) {t : TypeId} {len : Nat} {ps : Array (Nat × Operand)} (hok : ∀ p ∈ ps.toList, opdOk n p.2 = true) {d : Value} {H' : AH}
    (h : buildSliceH P H t len (ps.toList.map fun p => (p.1, ev e p.2)) = some (d, H')) :
    Goes P B σ H w ((Instr.buildSlice t len (ps.map fun (i, x) => (i, a.eval x))).run P w) d H' := by
  unfold buildSliceH at h
  cases he : elZ P t with
  | none => rw [he] at h; cases h
  | some esz =>
    obtain ⟨el, sz, by_⟩ := esz
    rw [he] at h
    dsimp only at h
    by_cases hc : zOk P el sz = true ∧ (ps.toList.map fun p => (p.1, ev e p.2)).length = len ∧ len * sz ≤ 16777216
    · rw [if_pos hc] at h
      obtain ⟨hz, hpl, hsm⟩ := hc
      cases hl : litCells sz 0 (ps.toList.map fun p => (p.1, ev e p.2)) with
      | none => rw [hl] at h; cases h
      | some ds =>
        rw [hl] at h
        dsimp only at h
        by_cases h1 : ds.all Value.oneCell' = true
        · rw [if_pos h1] at h
          cases h
          obtain ⟨cs, hcs, hvl⟩ := lit_rel hE sz ps.toList hok 0 ds hl
          obtain ⟨hu, i, hi, hisz, _⟩ := elZ_some he
          unfold zOk zeroV at hz
          rw [hi] at hz
          cases hzz : i.zero with
          | none => simp [hzz] at hz
          | some z =>
            simp only [Option.bind_some, hzz, Bool.and_eq_true, decide_eq_true_eq] at hz
            obtain ⟨⟨⟨hzs, hzc⟩, hz1⟩, hpos⟩ := hz
            have hcl := litCells_len sz _ _ _ hcs
            simp only [List.length_map] at hcl hpl
            have hdl := litCells_len sz _ _ _ hl
            simp only [List.length_map] at hdl
            have hmax : len ≤ maxLen := by
              have : len * 1 ≤ len * sz := Nat.mul_le_mul_left _ hpos
              simp only [maxLen]; omega
            obtain ⟨σ', F, S, V⟩ := new_slice (B := B) hS hB (Below.refl _ w) el sz len len ds cs.toArray (by simp [← hvl.1]) (fun j v hj => by
                obtain ⟨x, hx, hv⟩ := hvl.2 j v hj
                exact ⟨x, by simpa using hx, hv, hvl.one h1 x (List.mem_of_getElem? hx)⟩) (Nat.le_refl _) hmax (by simp [hcl, hpl])
            refine ⟨.slice (some ⟨w.heap.size, 0, none⟩) len len, _, σ', ?_, F, S, V⟩
            by_cases h0 : len = 0
            · subst h0
              have hps : ps.toList = [] := List.eq_nil_of_length_eq_zero hpl
              have hps' : ps = #[] := by apply Array.ext'; exact hps
              subst hps'
              simp [litCells] at hcs
              subst hcs
              simp [Instr.buildSlice, run_underlying hu, sizeOf, typeInfo, hi, Instr.fill, newRow, Array.range_zero']
            · have hne : ¬ len * i.size = 0 := by
                rw [hisz]
                intro hx
                rcases Nat.mul_eq_zero.1 hx with hx | hx <;> omega
              have hf := lit_fill sz (ps.toList.map fun p => (p.1, a.eval p.2)) 0 cs ((Array.range (len * i.size)).map (z.cells[· % z.cells.size]!)).toList hcs (by simp [hpl, hisz])
              have hsp : splice ((Array.range (len * i.size)).map (z.cells[· % z.cells.size]!)).toList (0 * sz) cs = cs := by
                unfold splice
                rw [List.drop_eq_nil_of_le (by simp [hcl, hpl, hisz])]
                simp
              rw [hsp, Array.toArray_toList] at hf
              refine run_buildSlice w t el len _ cs.toArray i z hu hi hzz (by rw [hisz]; omega) hne ?_
              rw [Array.toList_map, hisz]
              rw [hisz] at hf
              exact hf
        · rw [if_neg h1] at h; cases h
    · rw [if_neg hc] at h; cases h

/-! ### make -/
def zerosOf (z : List Value) (k : Nat) : List Value := (List.range k).map fun j => z.getD (j % z.length) undef

def makeH (P : Program) (H : AH) (t : TypeId) (l c : Value) : Option (Value × AH) :=
  match l, c with
  | .int _ l, .int _ c =>
    (match elZ P t with
     | some (el, sz, by_) =>
       (match zeroV P el with
        | some z =>
          if zOk P el sz = true ∧ 0 ≤ l ∧ l ≤ c ∧ (by_ : Int) * c ≤ 140737488355328 ∧ c ≤ 140737488355328 then some (.slice (some ⟨H.length, 0, none⟩) l.toNat 0, H ++ [mkB el sz (zerosOf z.cells.toList (l.toNat * sz))]) else none
        | none => none)
     | none => none)
  | _, _ => none

theorem make_sound (hS : Sim σ H w) (hB : B ≤ H.length) {t : TypeId} {l c dl dc d : Value} {H' : AH} (hl : VR σ H l dl) (hc : VR σ H c dc) (h : makeH P H t dl dc = some (d, H')) :
    Goes P B σ H w ((Instr.makeSlice t l c).run P w) d H' := by
  unfold makeH at h
  split at h
  case h_2 => cases h
  rename_i kl l' kc c'
  have := hl.int
  subst this
  have := hc.int
  subst this
  cases he : elZ P t with
  | none => rw [he] at h; cases h
  | some esz =>
    obtain ⟨el, sz, by_⟩ := esz
    rw [he] at h
    dsimp only at h
    cases hzv : zeroV P el with
    | none => rw [hzv] at h; cases h
    | some z =>
      rw [hzv] at h
      dsimp only at h
      by_cases hcc : zOk P el sz = true ∧ 0 ≤ l' ∧ l' ≤ c' ∧ (by_ : Int) * c' ≤ 140737488355328 ∧ c' ≤ 140737488355328
      · rw [if_pos hcc] at h
        cases h
        obtain ⟨hz, c1, c2, c3, c4⟩ := hcc
        obtain ⟨hu, i, hi, hisz, hiby⟩ := elZ_some he
        unfold zOk at hz
        rw [hzv] at hz
        simp only [Bool.and_eq_true, decide_eq_true_eq] at hz
        obtain ⟨⟨⟨hzs, hzc⟩, hz1⟩, hpos⟩ := hz
        have hzz : i.zero = some z := by unfold zeroV at hzv; rw [hi] at hzv; simpa using hzv
        have hr := run_make (P := P) w t el i z hu hi hzz kl kc l' c' c1 c2 (by rw [hiby]; omega) (by omega)
        have hget : ∀ (m j : Nat), j < m → (madeCells z.cells m)[j]? = some (z.cells.toList.getD (j % z.cells.toList.length) undef) := by
          intro m j hj
          have hlt : j % z.cells.size < z.cells.size := Nat.mod_lt _ (by omega)
          simp [madeCells, hj, List.getD, hlt]
        obtain ⟨σ', F, S, V⟩ := new_slice (B := B) hS hB (Below.refl _ w) el sz l'.toNat c'.toNat (zerosOf z.cells.toList (l'.toNat * sz)) (madeCells z.cells (c'.toNat * i.size))
          (by simp only [size_madeCells, zerosOf, List.length_map, List.length_range, hisz]; exact Nat.mul_le_mul_right _ (by omega))
          (fun j v hj => by
            unfold zerosOf at hj
            rw [List.getElem?_map] at hj
            obtain ⟨x, hx, rfl⟩ := Option.map_eq_some_iff.1 hj
            have hjl : j < l'.toNat * sz := by
              have := List.getElem?_eq_some_iff.1 hx
              simpa using this.1
            have hjx : x = j := by rw [List.getElem?_range hjl] at hx; exact (Option.some.inj hx).symm
            subst hjx
            have hlt : x % z.cells.toList.length < z.cells.toList.length := Nat.mod_lt _ (by simp; omega)
            have hm : z.cells.toList.getD (x % z.cells.toList.length) undef ∈ z.cells.toList := by
              simp only [List.getD, List.getElem?_eq_getElem hlt, Option.getD_some]
              exact List.getElem_mem hlt
            refine ⟨_, hget _ x (Nat.lt_of_lt_of_le hjl (by rw [hisz]; exact Nat.mul_le_mul_right _ (by omega))), flat_const ?_ σ H, ?_⟩
            · exact Array.all_eq_true'.1 hzc _ (by simpa using hm)
            · exact Array.all_eq_true'.1 hz1 _ (by simpa using hm))
          (by omega) (by simp only [maxLen]; omega) (by simp [size_madeCells, hisz])
        exact ⟨_, _, σ', hr, F, S, V⟩
      · rw [if_neg hcc] at h; cases h

end
end Go.BM
