/- The operations that only read, told by lists: the rest of them. -/
import Derived.Test.YtdhincmlefpfkaaC1
import Derived.Laws.BytesString
set_option linter.unusedVariables false
set_option linter.unusedSimpArgs false
namespace Go.BM
open Go.RowKit

def pureV (v : Value) : Bool :=
  flatV v || (match v with | .agg cs => cs.all flatV | _ => false)

theorem VR.flatE {σ : Sg} {H : AH} {v d : Value} (h : VR σ H v d) (hd : flatV d = true) : v = d := by
  cases h with
  | flat _ _ => rfl
  | mt a d ver hd' => simp [flatV] at hd
  | ptr => simp [flatV] at hd
  | sptr => simp [flatV] at hd
  | slice => simp [flatV] at hd
  | stale => simp [flatV] at hd
  | agg => simp [flatV] at hd
  | tuple xs ys hs h =>
    have : ys.size = 0 := by simpa [flatV] using hd
    have e1 : xs = #[] := Array.eq_empty_of_size_eq_zero (hs.trans this)
    have e2 : ys = #[] := Array.eq_empty_of_size_eq_zero this
    rw [e1, e2]
  | func => simp [flatV] at hd
  | isl => simp [flatV] at hd
  | isl0 => simp [flatV] at hd
  | ip => simp [flatV] at hd

theorem VR.pureE {σ : Sg} {H : AH} {v d : Value} (h : VR σ H v d) (hd : pureV d = true) : v = d := by
  unfold pureV at hd
  rcases Bool.or_eq_true_iff.1 hd with hd | hd
  · exact h.flatE hd
  · cases d <;> try (cases hd; done)
    rename_i ys
    obtain ⟨xs, rfl, hs, hv⟩ := h.aggI
    congr 1
    apply Array.ext hs
    intro i h1 h2
    exact (hv i h1 h2).flatE (Array.all_eq_true.1 hd i h2)

theorem VR.ofPure {σ : Sg} {H : AH} {d : Value} (hd : pureV d = true) : VR σ H d d := by
  unfold pureV at hd
  rcases Bool.or_eq_true_iff.1 hd with h | h
  · exact .flat d h
  · cases d <;> try (cases h; done)
    rename_i ys
    exact .agg ys ys rfl fun i h1 h2 => .flat _ (Array.all_eq_true.1 h i h2)

/-- What a closed reckoning comes to, if it comes to one value without memory in every world. -/
noncomputable def runV (P : Program) (s : Sem Value) : Option Value :=
  open Classical in
  if h : ∃ d, pureV d = true ∧ ∀ w, s.run P w = .ok d w then some h.choose else none

theorem runV_eq {P : Program} {s : Sem Value} {d : Value} (hd : pureV d = true) (h : ∀ w, s.run P w = .ok d w) : runV P s = some d := by
  have hx : ∃ d, pureV d = true ∧ ∀ w, s.run P w = .ok d w := ⟨d, hd, h⟩
  unfold runV
  rw [dif_pos hx]
  have h1 := hx.choose_spec.2 default
  rw [h default] at h1
  injection h1 with h1 _
  rw [← h1]

theorem runV_some {P : Program} {s : Sem Value} {d : Value} (h : runV P s = some d) : pureV d = true ∧ ∀ w, s.run P w = .ok d w := by
  unfold runV at h
  by_cases hx : ∃ d, pureV d = true ∧ ∀ w, s.run P w = .ok d w
  · rw [dif_pos hx] at h
    cases h
    exact hx.choose_spec
  · rw [dif_neg hx] at h; cases h

noncomputable def binS (P : Program) (op : BinOp) (t : TypeId) (xo yo : Operand) (x y : Value) : Option Value :=
  if pureV x = true ∧ pureV y = true then runV P (do eqGuard op t xo yo x y; binOp op t x y) else none
noncomputable def unS (P : Program) (op : UnOp) (x : Value) : Option Value :=
  if pureV x = true then runV P (Op.unary op x) else none
noncomputable def convS (P : Program) (s d : TypeId) (x : Value) : Option Value :=
  if pureV x = true then runV P (convert s d x) else none
noncomputable def strIdxS (P : Program) (t : TypeId) (x i : Value) : Option Value :=
  if pureV x = true ∧ pureV i = true then runV P (Instr.index t x i) else none
def fieldS (P : Program) (t : TypeId) (x : Value) (f : Nat) : Option Value :=
  match P.underlying t with
  | some (.struct fs) => (match fs[f]? with
    | some fd => (match lay P fd.type with
      | some (g, n) => (match x with | .agg cs => getVar g n cs.toList fd.offset | _ => none)
      | none => none)
    | none => none)
  | _ => none
noncomputable def minS (P : Program) (ts : Array TypeId) (ty : TypeId) (xs : Array Value) : Option Value :=
  if xs.all pureV = true then runV P (Builtin.min_ ts ty xs) else none
noncomputable def maxS (P : Program) (ts : Array TypeId) (ty : TypeId) (xs : Array Value) : Option Value :=
  if xs.all pureV = true then runV P (Builtin.max_ ts ty xs) else none
noncomputable def strSliceS (P : Program) (t : TypeId) (x : Value) (lo hi mx : Option Value) : Option Value :=
  if pureV x = true ∧ (lo.all pureV && hi.all pureV && mx.all pureV) = true then runV P (Instr.sliceAt t x lo hi mx) else none
noncomputable def ifaceS (P : Program) (t : TypeId) (x : Value) : Option Value :=
  if pureV x = true then runV P (Instr.makeInterface t x) else none

section
variable {P : Program} {σ : Sg} {H : AH} {w : World}

theorem bin_sound {op : BinOp} {t : TypeId} {xo yo : Operand} {x y dx dy d : Value} (hx : VR σ H x dx) (hy : VR σ H y dy) (h : binS P op t xo yo dx dy = some d) :
    VR σ H d d ∧ ∀ w', (do eqGuard op t xo yo x y; binOp op t x y : Sem Value).run P w' = .ok d w' := by
  unfold binS at h
  by_cases hp : pureV dx = true ∧ pureV dy = true
  · rw [if_pos hp] at h
    obtain ⟨h1, h2⟩ := runV_some h
    rw [hx.pureE hp.1, hy.pureE hp.2]
    exact ⟨.ofPure h1, h2⟩
  · rw [if_neg hp] at h; cases h

theorem un_sound {op : UnOp} {x dx d : Value} (hx : VR σ H x dx) (h : unS P op dx = some d) : VR σ H d d ∧ ∀ w', (Op.unary op x).run P w' = .ok d w' := by
  unfold unS at h
  by_cases hp : pureV dx = true
  · rw [if_pos hp] at h
    obtain ⟨h1, h2⟩ := runV_some h
    rw [hx.pureE hp]
    exact ⟨.ofPure h1, h2⟩
  · rw [if_neg hp] at h; cases h

theorem conv_sound {s t : TypeId} {x dx d : Value} (hx : VR σ H x dx) (h : convS P s t dx = some d) : VR σ H d d ∧ ∀ w', (convert s t x).run P w' = .ok d w' := by
  unfold convS at h
  by_cases hp : pureV dx = true
  · rw [if_pos hp] at h
    obtain ⟨h1, h2⟩ := runV_some h
    rw [hx.pureE hp]
    exact ⟨.ofPure h1, h2⟩
  · rw [if_neg hp] at h; cases h

theorem strIdx_sound {t : TypeId} {x i dx di d : Value} (hx : VR σ H x dx) (hi : VR σ H i di) (h : strIdxS P t dx di = some d) : VR σ H d d ∧ ∀ w', (Instr.index t x i).run P w' = .ok d w' := by
  unfold strIdxS at h
  by_cases hp : pureV dx = true ∧ pureV di = true
  · rw [if_pos hp] at h
    obtain ⟨h1, h2⟩ := runV_some h
    rw [hx.pureE hp.1, hi.pureE hp.2]
    exact ⟨.ofPure h1, h2⟩
  · rw [if_neg hp] at h; cases h

theorem iface_sound {t : TypeId} {x dx d : Value} (hx : VR σ H x dx) (h : ifaceS P t dx = some d) : VR σ H d d ∧ ∀ w', (Instr.makeInterface t x).run P w' = .ok d w' := by
  unfold ifaceS at h
  by_cases hp : pureV dx = true
  · rw [if_pos hp] at h
    obtain ⟨h1, h2⟩ := runV_some h
    rw [hx.pureE hp]
    exact ⟨.ofPure h1, h2⟩
  · rw [if_neg hp] at h; cases h

theorem field_sound {t : TypeId} {f : Nat} {x dx d : Value} (hx : VR σ H x dx) (h : fieldS P t dx f = some d) : ∃ u, VR σ H u d ∧ ∀ w', (Instr.field t x f).run P w' = .ok u w' := by
  unfold fieldS at h
  cases hu : P.underlying t with
  | none => rw [hu] at h; cases h
  | some dt =>
    rw [hu] at h
    cases dt <;> try (cases h; done)
    rename_i fs
    dsimp only at h
    cases hf : fs[f]? with
    | none => rw [hf] at h; cases h
    | some fd =>
      rw [hf] at h
      dsimp only at h
      cases hl : lay P fd.type with
      | none => rw [hl] at h; cases h
      | some gn =>
        obtain ⟨g, n⟩ := gn
        rw [hl] at h
        dsimp only at h
        split at h
        case h_2 => cases h
        rename_i ys
        obtain ⟨xs, rfl, hs, hv⟩ := hx.aggI
        unfold getVar at h
        cases g with
        | true =>
          simp only [if_true] at h
          by_cases hle : fd.offset + n ≤ ys.toList.length
          · rw [if_pos hle] at h
            cases h
            simp only [Array.length_toList] at hle
            refine ⟨.agg (xs.extract fd.offset (fd.offset + n)), .agg _ _ (by simp; omega) fun i i1 i2 => ?_, fun w' => ?_⟩
            · simp only [List.getElem_toArray, List.getElem_take, List.getElem_drop, Array.getElem_extract, Array.getElem_toList]
              exact hv _ _ _
            · obtain ⟨r1, r2, _⟩ := run_isAgg hl w'
              simp [Instr.field, run_underlying hu, hf, part, r1, r2, asAgg]
          · rw [if_neg hle] at h; cases h
        | false =>
          simp only [Bool.false_eq_true, if_false] at h
          simp only [Array.getElem?_toList] at h
          obtain ⟨hj, rfl⟩ := Array.getElem?_eq_some_iff.1 h
          refine ⟨xs[fd.offset]'(by omega), hv _ _ _, fun w' => ?_⟩
          obtain ⟨r1, r2, _⟩ := run_isAgg hl w'
          simp [Instr.field, run_underlying hu, hf, part, r1, asAgg, Array.getElem?_eq_getElem (show fd.offset < xs.size by omega)]

theorem arr_pureE {xs ys : Array Value} (hs : xs.size = ys.size) (hv : ∀ i (h1 : i < xs.size) (h2 : i < ys.size), VR σ H xs[i] ys[i]) (hp : ys.all pureV = true) : xs = ys := by
  apply Array.ext hs
  intro i h1 h2
  exact (hv i h1 h2).pureE (Array.all_eq_true.1 hp i h2)

theorem min_sound {ts : Array TypeId} {ty : TypeId} {xs ys : Array Value} {d : Value} (hs : xs.size = ys.size) (hv : ∀ i (h1 : i < xs.size) (h2 : i < ys.size), VR σ H xs[i] ys[i]) (h : minS P ts ty ys = some d) :
    VR σ H d d ∧ ∀ w', (Builtin.min_ ts ty xs).run P w' = .ok d w' := by
  unfold minS at h
  by_cases hp : ys.all pureV = true
  · rw [if_pos hp] at h
    obtain ⟨h1, h2⟩ := runV_some h
    rw [arr_pureE hs hv hp]
    exact ⟨.ofPure h1, h2⟩
  · rw [if_neg hp] at h; cases h

theorem max_sound {ts : Array TypeId} {ty : TypeId} {xs ys : Array Value} {d : Value} (hs : xs.size = ys.size) (hv : ∀ i (h1 : i < xs.size) (h2 : i < ys.size), VR σ H xs[i] ys[i]) (h : maxS P ts ty ys = some d) :
    VR σ H d d ∧ ∀ w', (Builtin.max_ ts ty xs).run P w' = .ok d w' := by
  unfold maxS at h
  by_cases hp : ys.all pureV = true
  · rw [if_pos hp] at h
    obtain ⟨h1, h2⟩ := runV_some h
    rw [arr_pureE hs hv hp]
    exact ⟨.ofPure h1, h2⟩
  · rw [if_neg hp] at h; cases h

/-! pick -/
def pickV (c a b : Value) : Option Value :=
  match c with
  | .bool t => some (cond t a b)
  | _ => none

theorem pick_sound {c a b dc da db d : Value} (hc : VR σ H c dc) (ha : VR σ H a da) (hb : VR σ H b db) (h : pickV dc da db = some d) :
    ∃ u, VR σ H u d ∧ ∀ w', (do pure (.value (if ← asBool c then a else b)) : Sem Next).run P w' = .ok (.value u) w' := by
  unfold pickV at h
  split at h
  case h_2 => cases h
  rename_i t
  cases h
  have := hc.bool
  subst this
  cases t
  · exact ⟨b, hb, fun w' => by simp [asBool]⟩
  · exact ⟨a, ha, fun w' => by simp [asBool]⟩

/-! a field's address -/
def fldOff (P : Program) (s : TypeId) (f : Nat) : Option Nat :=
  match P.underlying s with
  | some (.struct fs) => (match fs[f]? with
    | some fd => (match P.info? fd.type with | some i => if i.size = 0 then none else some fd.offset | none => none)
    | none => none)
  | _ => none

def fldV (P : Program) (H : AH) (s : TypeId) (x : Value) (f : Nat) : Option Value :=
  match fldOff P s f with
  | some o =>
    (match asP x with
     | some cs => some (ip (cs.drop o))
     | none =>
       (match x with
        | .pointer (some ⟨r, off, some ver⟩) => if (getB H r ver).isSome = true then some (.pointer (some ⟨r, off + o, some ver⟩)) else none
        | _ => none))
  | none => none

theorem getB_isSome {H : AH} {r ver : Nat} (h : (getB H r ver).isSome = true) : ∃ blk, H[r]? = some blk ∧ blk.ver = ver ∧ blk.own = true := by
  obtain ⟨cs, hcs⟩ := Option.isSome_iff_exists.1 h
  obtain ⟨blk, h1, h2, _, h3⟩ := getB_some hcs
  exact ⟨blk, h1, h2, h3⟩

theorem run_fieldAt {s f o : Nat} (ho : fldOff P s f = some o) (b off : Nat) (w' : World) : (Instr.fieldAt s (.pointer (some ⟨b, off, none⟩)) f).run P w' = .ok (.pointer (some ⟨b, off + o, none⟩)) w' := by
  unfold fldOff at ho
  cases hu : P.underlying s with
  | none => rw [hu] at ho; cases ho
  | some d =>
    rw [hu] at ho
    cases d <;> try (cases ho; done)
    rename_i fs
    dsimp only at ho
    cases hf : fs[f]? with
    | none => rw [hf] at ho; cases ho
    | some fd =>
      rw [hf] at ho
      dsimp only at ho
      cases hi : P.info? fd.type with
      | none => rw [hi] at ho; cases ho
      | some i =>
        rw [hi] at ho
        dsimp only at ho
        by_cases hz : i.size = 0
        · rw [if_pos hz] at ho; cases ho
        · rw [if_neg hz] at ho
          cases ho
          simp [Instr.fieldAt, run_underlying hu, hf, Instr.sureAddr, fieldPlace, sizeOf, typeInfo, hi, hz, add_plain']

theorem VR.ipDrop {b o : Nat} {us cs : List Value} (k : Nat) (hul : us.length = cs.length) (hui : ∀ (j : Nat) u, us[j]? = some u → σ.im ⟨b, o + j, none⟩ = some u)
    (huv : ∀ (j : Nat) u, cs[j]? = some u → ∃ x, us[j]? = some x ∧ VR σ H x u) : VR σ H (.pointer (some ⟨b, o + k, none⟩)) (BM.ip (cs.drop k)) :=
  VR.mkP (us := us.drop k) (by simp [hul]) (fun j u hj => by
    rw [List.getElem?_drop] at hj
    have := hui _ u hj
    rw [← Nat.add_assoc] at this
    exact this) fun j u hj => by
    rw [List.getElem?_drop] at hj ⊢
    exact huv _ u hj

theorem fld_sound {s : TypeId} {f : Nat} {x dx d : Value} (hx : VR σ H x dx) (h : fldV P H s dx f = some d) :
    ∃ u, VR σ H u d ∧ ∀ w', (Instr.fieldAt s x f).run P w' = .ok u w' := by
  unfold fldV at h
  cases ho : fldOff P s f with
  | none => rw [ho] at h; cases h
  | some o =>
    rw [ho] at h
    dsimp only at h
    cases ha : asP dx with
    | some cs =>
      rw [ha] at h
      cases h
      obtain ⟨b, q, us, rfl, hul, hui, huv⟩ := hx.aptr ha
      exact ⟨_, VR.ipDrop o hul hui huv, fun w' => run_fieldAt ho b q w'⟩
    | none =>
      rw [ha] at h
      dsimp only at h
      split at h
      case h_2 => cases h
      rename_i r off ver
      by_cases hb : (getB H r ver).isSome = true
      · rw [if_pos hb] at h
        cases h
        obtain ⟨cs, hcs⟩ := Option.isSome_iff_exists.1 hb
        have hv := hx.ptrI hcs
        subst hv
        obtain ⟨blk, h1, h2, _, h3⟩ := getB_some hcs
        refine ⟨.pointer (some ⟨(σ r).b, (σ r).base + (off + o), none⟩), .ptr r (off + o) ver blk h1 h2 h3, fun w' => ?_⟩
        rw [run_fieldAt ho, Nat.add_assoc]
      · rw [if_neg hb] at h; cases h

/-! an element's address; a slice of a slice; lengths -/
def elZ (P : Program) (t : TypeId) : Option (TypeId × Nat × Nat) :=
  match P.underlying t with
  | some (.slice e) => (match P.info? e with | some i => some (e, i.size, i.bytes) | none => none)
  | _ => none

theorem elZ_some {t e : TypeId} {sz by_ : Nat} (h : elZ P t = some (e, sz, by_)) : P.underlying t = some (.slice e) ∧ ∃ i, P.info? e = some i ∧ i.size = sz ∧ i.bytes = by_ := by
  unfold elZ at h
  cases hu : P.underlying t with
  | none => rw [hu] at h; cases h
  | some d =>
    rw [hu] at h
    cases d <;> try (cases h; done)
    rename_i e'
    dsimp only at h
    cases hi : P.info? e' with
    | none => rw [hi] at h; cases h
    | some i =>
      rw [hi] at h
      cases h
      exact ⟨rfl, i, hi, rfl, rfl⟩

theorem elem_of {t e : TypeId} (h : P.underlying t = some (.slice e)) : P.elem t = e := by simp [Program.elem, h]

theorem run_sizeOf {e : TypeId} {i : TypeInfo} (hi : P.info? e = some i) (w' : World) : (sizeOf e).run P w' = .ok i.size w' := by simp [sizeOf, typeInfo, hi]

def idxV (P : Program) (H : AH) (t : TypeId) (x i : Value) : Option Value :=
  match elZ P t, i with
  | some (_, sz, _), .int _ n =>
    (match asI x with
     | some (len, cs) => if 0 ≤ n ∧ n < len then some (ip (cs.drop (n.toNat * sz))) else none
     | none =>
       (match x with
        | .slice (some ⟨r, off, _⟩) len ver => if (getB H r ver).isSome = true then (if 0 ≤ n ∧ n < len then some (.pointer (some ⟨r, off + n.toNat * sz, some ver⟩)) else none) else none
        | _ => none))
  | _, _ => none

theorem run_idx {t e : TypeId} {sz by_ : Nat} (he : elZ P t = some (e, sz, by_)) (b o len cap : Nat) (k : IntKind) (n : Int) (hn : 0 ≤ n ∧ n < len) (w' : World) :
    (Instr.indexAt t (.slice (some ⟨b, o, none⟩) len cap) (.int k n)).run P w' = .ok (.pointer (some ⟨b, o + n.toNat * sz, none⟩)) w' := by
  obtain ⟨hu, i, hi2, hsz, _⟩ := elZ_some he
  rw [run_indexAt_slice (P := P) w' t _ len cap k n (by rw [elem_of hu]; exact hu), if_pos hn, elem_of hu, run_sizeOf hi2]
  simp [add_plain', hsz]

theorem idx_sound {t : TypeId} {x i dx di d : Value} (hx : VR σ H x dx) (hi : VR σ H i di) (h : idxV P H t dx di = some d) :
    ∃ u, VR σ H u d ∧ ∀ w', (Instr.indexAt t x i).run P w' = .ok u w' := by
  unfold idxV at h
  split at h
  case h_2 => cases h
  rename_i e sz by_ k n he
  have := hi.int
  subst this
  cases ha : asI dx with
  | some lc =>
    obtain ⟨len, cs⟩ := lc
    rw [ha] at h
    dsimp only at h
    by_cases hn : 0 ≤ n ∧ n < len
    · rw [if_pos hn] at h
      cases h
      rcases hx.aslice ha with ⟨h0, _⟩ | ⟨b, o, cap, us, rfl, _, _, hul, hui, huv⟩
      · omega
      · exact ⟨_, VR.ipDrop _ hul hui huv, fun w' => run_idx he b o len cap k n hn w'⟩
    · rw [if_neg hn] at h; cases h
  | none =>
    rw [ha] at h
    dsimp only at h
    split at h
    case h_2 => cases h
    rename_i r off sp len ver
    by_cases hb : (getB H r ver).isSome = true
    · rw [if_pos hb] at h
      by_cases hn : 0 ≤ n ∧ n < len
      · rw [if_pos hn] at h
        cases h
        obtain ⟨cs, hcs⟩ := Option.isSome_iff_exists.1 hb
        obtain ⟨blk, h1, h2, _, h3⟩ := getB_some hcs
        rcases hx.sliceI hcs with ⟨h0, _⟩ | ⟨cap, blk', _, rfl, _⟩
        · omega
        · refine ⟨.pointer (some ⟨(σ r).b, (σ r).base + (off + n.toNat * sz), none⟩), .ptr r _ ver blk h1 h2 h3, fun w' => ?_⟩
          rw [run_idx he _ _ len cap k n hn, Nat.add_assoc]
      · rw [if_neg hn] at h; cases h
    · rw [if_neg hb] at h; cases h

def lenV (P : Program) (H : AH) (t : TypeId) (x : Value) : Option Value :=
  match x with
  | .string s => (match P.underlying t with | some .string => some (.int .i64 s.size) | _ => none)
  | x =>
    (match elZ P t with
     | none => none
     | some _ =>
       (match asI x with
        | some (len, _) => some (.int .i64 len)
        | none =>
          (match x with
           | .slice none 0 0 => some (.int .i64 0)
           | .slice (some ⟨r, _, _⟩) len ver => (match H[r]? with | some blk => if blk.ver = ver then some (.int .i64 len) else none | none => none)
           | _ => none)))

theorem run_len {t ty e : TypeId} {sz by_ : Nat} (he : elZ P t = some (e, sz, by_)) (a : Option Addr) (len cap : Nat) (w' : World) : (Builtin.len_ #[t] ty #[.slice a len cap]).run P w' = .ok (.int .i64 len) w' := by
  obtain ⟨hu, _⟩ := elZ_some he
  simp [Builtin.len_, run_underlying hu, goInt]

theorem len_sound {t ty : TypeId} {x dx d : Value} (hx : VR σ H x dx) (h : lenV P H t dx = some d) :
    VR σ H d d ∧ ∀ w', (Builtin.len_ #[t] ty #[x]).run P w' = .ok d w' := by
  unfold lenV at h
  split at h
  · rename_i s
    have := hx.str
    subst this
    cases hu : P.underlying t with
    | none => rw [hu] at h; cases h
    | some dd =>
      rw [hu] at h
      cases dd <;> try (cases h; done)
      cases h
      exact ⟨.flat _ rfl, fun w' => by simp [Builtin.len_, run_underlying hu, goInt]⟩
  · rename_i y hy
    cases he : elZ P t with
    | none => rw [he] at h; cases h
    | some esz =>
      obtain ⟨e, sz, by_⟩ := esz
      rw [he] at h
      dsimp only at h
      cases ha : asI dx with
      | some lc =>
        obtain ⟨len, cs⟩ := lc
        rw [ha] at h
        cases h
        rcases hx.aslice ha with ⟨rfl, _, a, cap, rfl, _⟩ | ⟨b, o, cap, us, rfl, _⟩
        · exact ⟨.flat _ rfl, fun w' => run_len he _ _ _ w'⟩
        · exact ⟨.flat _ rfl, fun w' => run_len he _ _ _ w'⟩
      | none =>
        rw [ha] at h
        dsimp only at h
        split at h
        · obtain ⟨a, rfl⟩ := hx.sliceNil rfl
          cases h
          exact ⟨.flat _ rfl, fun w' => run_len he _ _ _ w'⟩
        · rename_i r off sp len ver
          cases hb : H[r]? with
          | none => rw [hb] at h; cases h
          | some blk =>
            rw [hb] at h
            dsimp only at h
            by_cases hv : blk.ver = ver
            · rw [if_pos hv] at h
              cases h
              obtain ⟨a, cap, rfl⟩ := hx.sliceJ hb hv
              exact ⟨.flat _ rfl, fun w' => run_len he _ _ _ w'⟩
            · rw [if_neg hv] at h; cases h
        · cases h

def extractV (x : Value) (i : Nat) : Option Value :=
  match x with
  | .tuple vs => vs[i]?
  | _ => none

theorem extract_sound {x dx d : Value} {i : Nat} (hx : VR σ H x dx) (h : extractV dx i = some d) : ∃ u, VR σ H u d ∧ ∀ w', (Instr.extract x i).run P w' = .ok u w' := by
  unfold extractV at h
  split at h
  case h_2 => cases h
  rename_i vs
  obtain ⟨xs, rfl, hs, hv⟩ := hx.tupleI
  obtain ⟨hi, rfl⟩ := Array.getElem?_eq_some_iff.1 h
  exact ⟨xs[i]'(by omega), hv i (by omega) hi, fun w' => by simp [Instr.extract, Array.getElem?_eq_getElem (show i < xs.size by omega)]⟩

/-- Bytes, out of cells. -/
def bytesV : List Value → Option (List UInt8)
  | [] => some []
  | .int .u8 n :: l => (bytesV l).map fun t => UInt8.ofNat n.toNat :: t
  | _ => none
theorem bytesV_cells : ∀ {l : List Value} {t : List UInt8}, bytesV l = some t → ∃ ns : List Int, l = ns.map (Value.int .u8) ∧ t = ns.map fun n => UInt8.ofNat n.toNat
  | [], t, h => by cases h; exact ⟨[], rfl, rfl⟩
  | v :: l, t, h => by
    cases v with
    | int k n =>
      cases k <;> try (simp [bytesV] at h; done)
      cases hl : bytesV l with
      | none => simp [bytesV, hl] at h
      | some t' =>
        simp [bytesV, hl] at h
        subst h
        obtain ⟨ns, rfl, rfl⟩ := bytesV_cells hl
        exact ⟨n :: ns, rfl, rfl⟩
    | _ => simp [bytesV] at h
theorem foldl_push (ns : List Int) : ∀ s : ByteArray, ns.foldl (fun r n => r.push (UInt8.ofNat n.toNat)) s = ⟨s.data ++ (ns.map fun n => UInt8.ofNat n.toNat).toArray⟩ := by
  induction ns with
  | nil => intro s; simp
  | cons n ns ih =>
    intro s
    rw [List.foldl_cons, ih]
    simp [ByteArray.push]
def isU8 : Option TypeDesc → Bool
  | some (.int .u8) => true
  | _ => false
theorem isU8_some {o : Option TypeDesc} (h : isU8 o = true) : o = some (.int .u8) := by
  unfold isU8 at h
  split at h
  · rfl
  · cases h
def isStr : Option TypeDesc → Bool
  | some .string => true
  | _ => false
theorem isStr_some {o : Option TypeDesc} (h : isStr o = true) : o = some .string := by
  unfold isStr at h
  split at h
  · rfl
  · cases h
/-- A slice of bytes, as a string. -/
def convB (P : Program) (H : AH) (s d : TypeId) (x : Value) : Option Value :=
  match elZ P s with
  | some (e, _, _) =>
    if isU8 (P.underlying e) = true ∧ isStr (P.underlying d) = true then
      (match asI x with
       | some (m, cs) => if m ≤ cs.length then (bytesV (cs.take m)).map fun l => .string ⟨l.toArray⟩ else none
       | none =>
         (match x with
          | .slice none 0 0 => some (.string ⟨#[]⟩)
          | .slice (some ⟨r, off, _⟩) m ver => (getB H r ver).bind fun cs => if off + m ≤ cs.length then (bytesV ((cs.drop off).take m)).map fun l => .string ⟨l.toArray⟩ else none
          | _ => none)) else none
  | none => none
noncomputable def convX (P : Program) (H : AH) (s d : TypeId) (x : Value) : Option Value := if pureV x = true then convS P s d x else convB P H s d x
theorem run_b2s {a : Addr} {len cap : Nat} {us : List Value} {t : List UInt8} {w' : World} (hl : us.length = len) (hc : ∀ (j : Nat) u, us[j]? = some u → w'.cell? (a.add j) = some u) (hb : bytesV us = some t) :
    (Conv.bytesToString (.slice (some a) len cap)).run P w' = .ok (.string ⟨t.toArray⟩) w' := by
  obtain ⟨ns, rfl, rfl⟩ := bytesV_cells hb
  have h1 := run_loadCells_list (P := P) w' a (ns.map (Value.int .u8)) hc
  rw [hl] at h1
  rw [run_bytesToString w' a len cap ns h1, foldl_push]
  simp [ByteArray.empty, ByteArray.emptyWithCapacity]
  rfl
theorem run_b2s0 {ad : Option Addr} {cap : Nat} {w' : World} : (Conv.bytesToString (.slice ad 0 cap)).run P w' = .ok (.string ⟨#[]⟩) w' := by
  cases ad with
  | none =>
    simp [Conv.bytesToString, Sem.run_pure, ByteArray.empty, ByteArray.emptyWithCapacity]
    rfl
  | some a =>
    have := run_b2s (P := P) (a := a) (len := 0) (cap := cap) (us := []) (t := []) (w' := w') rfl (fun j u hu => by simp at hu) rfl
    simpa using this
theorem bytes_of_vr {us ds : List Value} {t : List UInt8} (hs : us.length = ds.length) (hv : ∀ (j : Nat) u, ds[j]? = some u → ∃ x, us[j]? = some x ∧ VR σ H x u) (hb : bytesV ds = some t) : us = ds := by
  obtain ⟨ns, rfl, rfl⟩ := bytesV_cells hb
  apply List.ext_getElem?
  intro j
  rcases Nat.lt_or_ge j us.length with hj | hj
  · obtain ⟨x, h1, h2⟩ := hv j _ (List.getElem?_eq_getElem (by omega))
    rw [h1, List.getElem?_eq_getElem (by omega)]
    have : (ns.map (Value.int .u8))[j]'(by omega) = .int .u8 (ns[j]'(by simpa using (by omega : j < (ns.map (Value.int .u8)).length))) := by simp
    rw [this] at h2 ⊢
    rw [h2.int]
  · rw [List.getElem?_eq_none hj, List.getElem?_eq_none (by omega)]
theorem convX_sound (hS : Sim σ H w) {s t : TypeId} {x dx d : Value} (hx : VR σ H x dx) (h : convX P H s t dx = some d) : VR σ H d d ∧ ∀ w', Below w.heap.size w w' → (convert s t x).run P w' = .ok d w' := by
  unfold convX at h
  by_cases hp : pureV dx = true
  · rw [if_pos hp] at h
    obtain ⟨h1, h2⟩ := conv_sound hx h
    exact ⟨h1, fun w' _ => h2 w'⟩
  · rw [if_neg hp] at h
    unfold convB at h
    cases hz : elZ P s with
    | none => rw [hz] at h; cases h
    | some z =>
    obtain ⟨e, z1, z2⟩ := z
    rw [hz] at h
    dsimp only at h
    obtain ⟨hs, _⟩ := elZ_some hz
    by_cases he : isU8 (P.underlying e) = true ∧ isStr (P.underlying t) = true
    · rw [if_pos he] at h
      have he' := isU8_some he.1
      have hd := isStr_some he.2
      have hcv : ∀ (ad : Option Addr) (l c : Nat) (w' : World), (convert s t (.slice ad l c)).run P w' = (Conv.bytesToString (.slice ad l c)).run P w' := fun ad l c w' => run_convert_bytes_string w' s t e ad l c hs he' hd
      cases ha : asI dx with
      | some lc =>
        obtain ⟨m, cs⟩ := lc
        rw [ha] at h
        dsimp only at h
        by_cases hm : m ≤ cs.length
        · rw [if_pos hm] at h
          cases hb : bytesV (cs.take m) with
          | none => rw [hb] at h; cases h
          | some l =>
            rw [hb] at h
            cases h
            refine ⟨.flat _ rfl, fun w' hbw => ?_⟩
            rcases hx.aslice ha with ⟨rfl, rfl, ad, cap, rfl, _⟩ | ⟨b, o, cap, us, rfl, _, _, hul, hui, huv⟩
            · rw [hcv, run_b2s0]
              simp [bytesV] at hb
              subst hb
              rfl
            · rw [hcv]
              have e1 : us.take m = cs.take m := bytes_of_vr (σ := σ) (H := H) (by simp [hul]) (fun j u hj => by
                rw [List.getElem?_take] at hj ⊢
                split at hj
                · rename_i hjm
                  rw [if_pos hjm]
                  exact huv j u hj
                · cases hj) hb
              refine run_b2s (us := us.take m) (by simp [hul]; omega) (fun j u hj => ?_) (by rw [e1]; exact hb)
              rw [List.getElem?_take] at hj
              split at hj
              · have him := hui j u hj
                have := (hS.im _ _ him).1
                rw [add_plain', hbw.cell (hS.imlt him)]
                exact this
              · cases hj
        · rw [if_neg hm] at h; cases h
      | none =>
        rw [ha] at h
        dsimp only at h
        split at h
        · obtain ⟨ad, rfl⟩ := hx.sliceNil rfl
          cases h
          exact ⟨.flat _ rfl, fun w' _ => by rw [hcv, run_b2s0]⟩
        · rename_i r off sp m ver
          cases hg : getB H r ver with
          | none => rw [hg] at h; cases h
          | some cs =>
            rw [hg] at h
            simp only [Option.bind_some] at h
            by_cases hm : off + m ≤ cs.length
            · rw [if_pos hm] at h
              cases hb : bytesV ((cs.drop off).take m) with
              | none => rw [hb] at h; cases h
              | some l =>
                rw [hb] at h
                cases h
                refine ⟨.flat _ rfl, fun w' hbw => ?_⟩
                obtain ⟨blk, hblk, hbv, hbc, hbo⟩ := getB_some hg
                rcases hx.sliceI hg with ⟨rfl, _, ad, rfl⟩ | ⟨cap, blk', hb', rfl, hlc, hsp, hcm, hcn⟩
                · rw [hcv, run_b2s0]
                  simp [bytesV] at hb
                  subst hb
                  rfl
                · rw [hcv]
                  subst hbc
                  obtain ⟨us, hul, hui, huv⟩ := hS.cells hblk hbo off m hm
                  have e1 : us = (blk.cs.drop off).take m := bytes_of_vr (σ := σ) (H := H) (by simp [hul]; omega) (fun j u hj => by
                    have hjl : j < ((blk.cs.drop off).take m).length := (List.getElem?_eq_some_iff.1 hj).1
                    have hju : j < us.length := by simp at hjl; omega
                    have := huv j hju hjl
                    rw [List.getElem?_eq_getElem hjl] at hj
                    cases hj
                    exact ⟨_, List.getElem?_eq_getElem hju, this⟩) hb
                  refine run_b2s (us := us) hul (fun j u hj => ?_) (by rw [e1]; exact hb)
                  have := (hui j u hj).1
                  rw [add_plain', hbw.cell (hS.lt hblk hbo)]
                  exact this
            · rw [if_neg hm] at h; cases h
        · cases h
    · rw [if_neg he] at h; cases h
theorem convX_int (s d : TypeId) (k : IntKind) (a : Int) : convX P H s d (.int k a) = convS P s d (.int k a) := rfl
theorem convX_bool (s d : TypeId) (a : Bool) : convX P H s d (.bool a) = convS P s d (.bool a) := rfl
theorem convX_str (s d : TypeId) (a : ByteArray) : convX P H s d (.string a) = convS P s d (.string a) := rfl

theorem convX_own (s d : TypeId) (r off : Nat) (sp : Option Nat) (m ver : Nat) : convX P H s d (.slice (some ⟨r, off, sp⟩) m ver) = (elZ P s).bind fun z => if isU8 (P.underlying z.1) = true ∧ isStr (P.underlying d) = true then
    (getB H r ver).bind fun cs => if off + m ≤ cs.length then (bytesV ((cs.drop off).take m)).map fun l => .string ⟨l.toArray⟩ else none else none := by
  unfold convX
  rw [if_neg (by simp [pureV, flatV])]
  unfold convB
  cases elZ P s with
  | none => rfl
  | some z => rfl
theorem convX_isl (s d : TypeId) (m : Nat) (cs : List Value) : convX P H s d (isl m cs) = (elZ P s).bind fun z => if isU8 (P.underlying z.1) = true ∧ isStr (P.underlying d) = true then
    (if m ≤ cs.length then (bytesV (cs.take m)).map fun l => .string ⟨l.toArray⟩ else none) else none := by
  unfold convX
  rw [if_neg (by simp [pureV, flatV, isl])]
  unfold convB
  cases elZ P s with
  | none => rfl
  | some z => simp only [asI_isl]; rfl
theorem isU8_u8 : isU8 (some (.int .u8)) = true := rfl
theorem isStr_str : isStr (some .string) = true := rfl
theorem bytesV_nil : bytesV [] = some [] := rfl
theorem bytesV_cons (n : Int) (l : List Value) : bytesV (.int .u8 n :: l) = (bytesV l).map fun t => UInt8.ofNat n.toNat :: t := rfl
end
end Go.BM
