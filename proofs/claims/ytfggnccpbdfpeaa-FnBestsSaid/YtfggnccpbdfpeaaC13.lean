/- Slices as lists; how values and heaps are reckoned. -/
import Derived.Test.YtfggnccpbdfpeaaC12
set_option linter.unusedVariables false
set_option linter.unusedSimpArgs false
namespace Go.BM
open Go.RowKit

instance : LawfulBEq ByteArray where
  eq_of_beq {a b} h := by
    rw [ba_beq] at h
    cases a; cases b
    simp at h
    rw [h]
  rfl {a} := by rw [ba_beq]; simp
/-- A cell that is only read. -/
structure Ok (c : Value) : Prop where
  im : Im c
  one : c.oneCell' = true
theorem Ok.int (k : IntKind) (i : Int) : Ok (.int k i) := ⟨.flat _ rfl, rfl⟩
theorem Ok.str (s : ByteArray) : Ok (.string s) := ⟨.flat _ rfl, rfl⟩
theorem Ok.bool (b : Bool) : Ok (.bool b) := ⟨.flat _ rfl, rfl⟩
theorem Ok.isl {n : Nat} {cs : List Value} (h : ∀ c ∈ cs, Ok c) : Ok (BM.isl n cs) := ⟨.isl fun c hc => (h c hc).im, rfl⟩
theorem Ok.nil : ∀ c ∈ ([] : List Value), Ok c := fun c h => by simp at h
theorem Ok.cons {x : Value} {l : List Value} (hx : Ok x) (hl : ∀ c ∈ l, Ok c) : ∀ c ∈ x :: l, Ok c := fun c h => by
  rcases List.mem_cons.1 h with rfl | h
  · exact hx
  · exact hl c h
theorem Ok.append {l l' : List Value} (hx : ∀ c ∈ l, Ok c) (hl : ∀ c ∈ l', Ok c) : ∀ c ∈ l ++ l', Ok c := fun c h => by
  rcases List.mem_append.1 h with h | h
  · exact hx c h
  · exact hl c h

/-- How a thing lies in memory. -/
structure Enc (α : Type) where
  val : α → Value
  sz : Nat
  agg : Bool
  hsz : ∀ x, (cellsV (val x)).length = sz
  hval : ∀ x, (if agg = true then val x = .agg (cellsV (val x)).toArray else cellsV (val x) = [val x])
  hpos : 0 < sz
  hok : ∀ x, ∀ c ∈ cellsV (val x), Ok c

def intE : Enc Int := ⟨fun x => .int .i64 x, 1, false, fun _ => rfl, fun _ => rfl, by decide, fun _ => Ok.cons (.int _ _) Ok.nil⟩
def strE : Enc ByteArray := ⟨fun x => .string x, 1, false, fun _ => rfl, fun _ => rfl, by decide, fun _ => Ok.cons (.str _) Ok.nil⟩
def boolE : Enc Bool := ⟨fun x => .bool x, 1, false, fun _ => rfl, fun _ => rfl, by decide, fun _ => Ok.cons (.bool _) Ok.nil⟩
def byteE : Enc UInt8 := ⟨fun x => .int .u8 x.toNat, 1, false, fun _ => rfl, fun _ => rfl, by decide, fun _ => Ok.cons (.int _ _) Ok.nil⟩

def Enc.flat {α : Type} (E : Enc α) (xs : List α) : List Value := xs.flatMap fun x => cellsV (E.val x)
theorem Enc.flat_length {α : Type} (E : Enc α) : ∀ xs : List α, (E.flat xs).length = xs.length * E.sz
  | [] => by simp [Enc.flat]
  | x :: xs => by
    have := E.flat_length xs
    unfold Enc.flat at this ⊢
    simp only [List.flatMap_cons, List.length_append, E.hsz, List.length_cons, this, Nat.add_mul, Nat.one_mul]
    omega
theorem Enc.flat_append {α : Type} (E : Enc α) (xs ys : List α) : E.flat (xs ++ ys) = E.flat xs ++ E.flat ys := by simp [Enc.flat]
theorem Enc.flat_nil {α : Type} (E : Enc α) : E.flat [] = [] := rfl
theorem Enc.flat_cons {α : Type} (E : Enc α) (x : α) (xs : List α) : E.flat (x :: xs) = cellsV (E.val x) ++ E.flat xs := rfl
theorem Enc.flat_one {α : Type} (E : Enc α) (x : α) : E.flat [x] = cellsV (E.val x) := by simp [Enc.flat]
theorem Enc.flat_drop {α : Type} (E : Enc α) (xs : List α) (k : Nat) : (E.flat xs).drop (k * E.sz) = E.flat (xs.drop k) := by
  rcases Nat.le_total k xs.length with hk | hk
  · have hkl : (E.flat (xs.take k)).length = k * E.sz := by rw [E.flat_length]; congr 1; simp; omega
    have h : E.flat xs = E.flat (xs.take k) ++ E.flat (xs.drop k) := by rw [← E.flat_append, List.take_append_drop]
    rw [h, ← hkl, List.drop_left]
  · rw [List.drop_eq_nil_of_le (by rw [E.flat_length]; exact Nat.mul_le_mul_right _ hk), List.drop_eq_nil_of_le hk]
    rfl
theorem Enc.flat_take {α : Type} (E : Enc α) (xs : List α) (k : Nat) : (E.flat xs).take (k * E.sz) = E.flat (xs.take k) := by
  rcases Nat.le_total k xs.length with hk | hk
  · have hkl : (E.flat (xs.take k)).length = k * E.sz := by rw [E.flat_length]; congr 1; simp; omega
    have h : E.flat xs = E.flat (xs.take k) ++ E.flat (xs.drop k) := by rw [← E.flat_append, List.take_append_drop]
    rw [h, List.take_left' hkl]
  · rw [List.take_of_length_le (by rw [E.flat_length]; exact Nat.mul_le_mul_right _ hk), List.take_of_length_le hk]
theorem Enc.flat_all {α : Type} (E : Enc α) (xs : List α) : (E.flat xs).take (xs.length * E.sz) = E.flat xs := by rw [E.flat_take, List.take_length]
theorem Enc.flat_ok {α : Type} (E : Enc α) (xs : List α) : ∀ c ∈ E.flat xs, Ok c := fun c h => by
  obtain ⟨x, _, hc⟩ := List.mem_flatMap.1 h
  exact E.hok x c hc
theorem Enc.val_im {α : Type} (E : Enc α) (x : α) : Im (E.val x) := by
  have h := E.hval x
  cases ha : E.agg with
  | true =>
    rw [ha, if_pos rfl] at h
    rw [h]
    exact .aggL fun c hc => (E.hok x c hc).im
  | false =>
    rw [ha] at h
    simp only [Bool.false_eq_true, if_false] at h
    exact (E.hok x (E.val x) (by rw [h]; simp)).im
theorem Enc.drop_cons {α : Type} (E : Enc α) (xs : List α) (k : Nat) (hk : k < xs.length) : E.flat (xs.drop k) = cellsV (E.val xs[k]) ++ E.flat (xs.drop (k + 1)) := by
  rw [List.drop_eq_getElem_cons hk, E.flat_cons]

/-- A slice that is only read, by its list. -/
def islE {α : Type} (E : Enc α) (xs : List α) : Value := isl xs.length (E.flat xs)
theorem islE_ok {α : Type} (E : Enc α) (xs : List α) : Ok (islE E xs) := Ok.isl (E.flat_ok xs)
theorem islE_im {α : Type} (E : Enc α) (xs : List α) : Im (islE E xs) := (islE_ok E xs).im

section
variable {P : Program} {B : Nat} {H L : AH} {b b' : Blk} {α : Type} {E : Enc α} {xs : List α}

/-! values that are only read -/
theorem asI_slice (a : Option Addr) (n m : Nat) : asI (.slice a n m) = none := rfl
theorem asI_str (s : ByteArray) : asI (.string s) = none := rfl
theorem asP_ptr (a : Option Addr) : asP (.pointer a) = none := rfl
theorem loadV_ip (t : TypeId) (cs : List Value) : loadV P H t (ip cs) = (lay P t).bind fun gn => getVar gn.1 gn.2 cs 0 := by
  unfold loadV
  rw [asP_ip]
  cases lay P t <;> rfl
theorem fldV_ip (s : TypeId) (f : Nat) (cs : List Value) : fldV P H s (ip cs) f = (fldOff P s f).bind fun o => some (ip (cs.drop o)) := by
  unfold fldV
  rw [asP_ip]
  cases fldOff P s f <;> rfl
theorem nilK_ip (cs : List Value) : nilK H (ip cs) = some (ip cs) := by unfold nilK; rw [asP_ip]
def idxSlow (P : Program) (H : AH) (t : TypeId) (x i : Value) : Option Value := idxV P H t x i
noncomputable def slSlow (P : Program) (H : AH) (t : TypeId) (x : Value) (lo hi mx : Option Value) : Option Value := slV P H t x lo hi mx
def idxE (E : Enc α) (xs : List α) (k : Nat) : Option Value := if k < xs.length then some (ip (E.flat (xs.drop k))) else none
theorem idxV_islE (t : TypeId) (kd : IntKind) (k : Nat) : idxV P H t (islE E xs) (.int kd (k : Int)) = (elZ P t).bind fun z => if z.2.1 = E.sz then idxE E xs k else idxSlow P H t (islE E xs) (.int kd (k : Int)) := by
  unfold idxSlow
  cases h : elZ P t with
  | none => unfold idxV islE; rw [h]; rfl
  | some z =>
    simp only [Option.bind_some]
    by_cases hz : z.2.1 = E.sz
    · rw [if_pos hz]
      unfold idxV islE idxE
      obtain ⟨e, s, b⟩ := z
      simp only at hz
      subst hz
      simp only [h, asI_isl, Int.toNat_natCast]
      by_cases h : k < xs.length
      · rw [if_pos h, if_pos (by omega), E.flat_drop]
      · rw [if_neg h, if_neg (by omega)]
    · rw [if_neg hz]
theorem idxE_eq {k : Nat} (h : k < xs.length) : idxE E xs k = some (ip (cellsV (E.val xs[k]) ++ E.flat (xs.drop (k + 1)))) := by
  unfold idxE
  rw [if_pos h, E.drop_cons xs k h]
theorem lenV_islE (t : TypeId) : lenV P H t (islE E xs) = (elZ P t).bind fun _ => some (.int .i64 (xs.length : Nat)) := by
  unfold lenV islE
  split
  · rename_i s hs
    simp [isl] at hs
  · simp only [asI_isl]
    cases elZ P t <;> rfl
theorem lenV_nil (t : TypeId) : lenV P H t (.slice none 0 0) = (elZ P t).bind fun _ => some (.int .i64 0) := by
  unfold lenV
  simp only [asI_slice]
  cases elZ P t <;> rfl
theorem lenV_own (t : TypeId) (r off : Nat) (sp : Option Nat) (len ver : Nat) : lenV P H t (.slice (some ⟨r, off, sp⟩) len ver) = (elZ P t).bind fun _ => (H[r]?).bind fun blk => if blk.ver = ver then some (.int .i64 (len : Nat)) else none := by
  unfold lenV
  simp only [asI_slice]
  cases elZ P t with
  | none => rfl
  | some z => cases H[r]? <;> rfl
theorem lenV_str (t : TypeId) (s : ByteArray) (h : P.underlying t = some .string) : lenV P H t (.string s) = some (.int .i64 s.size) := by
  unfold lenV
  simp only [h]
def sliE (E : Enc α) (xs : List α) (i j : Nat) : Option Value := if i ≤ j ∧ j ≤ xs.length then some (islE E ((xs.take j).drop i)) else none
theorem sliE_eq {i j : Nat} (h1 : i ≤ j) (h2 : j ≤ xs.length) : sliE E xs i j = some (islE E ((xs.take j).drop i)) := by
  unfold sliE
  rw [if_pos ⟨h1, h2⟩]
theorem sliE_raw {s i j : Nat} (hs : s = E.sz) (h1 : i ≤ j) (h2 : j ≤ xs.length) : isl (j - i) (((E.flat xs).drop (i * s)).take ((j - i) * s)) = islE E ((xs.take j).drop i) := by
  unfold islE
  rw [hs, E.flat_drop, E.flat_take, List.drop_take]
  congr 1
  simp; omega
theorem slV_slice (t : TypeId) (x : Value) (lo hi mx : Option Value) (h : ∀ s, x ≠ .string s) : slV P H t x lo hi mx = sliceV P H t x lo hi mx := by
  unfold slV
  split
  · rename_i s; exact absurd rfl (h s)
  · rfl
theorem slV_hi (t : TypeId) (kd : IntKind) (j : Nat) : slV P H t (islE E xs) none (some (.int kd (j : Int))) none = (elZ P t).bind fun z => if z.2.1 = E.sz then sliE E xs 0 j else slSlow P H t (islE E xs) none (some (.int kd (j : Int))) none := by
  unfold slSlow
  cases hz : elZ P t with
  | none => rw [slV_slice _ _ _ _ _ (by intro s h; simp [islE, isl] at h)]; unfold sliceV; rw [hz]; rfl
  | some z =>
    obtain ⟨e, s, b⟩ := z
    simp only [Option.bind_some]
    by_cases hs : s = E.sz
    · rw [if_pos hs, slV_slice _ _ _ _ _ (by intro s h; simp [islE, isl] at h)]
      unfold sliceV
      simp only [hz]
      rw [show asI (islE E xs) = some (xs.length, E.flat xs) from asI_isl _ _]
      simp only [boundV]
      by_cases h : j ≤ xs.length
      · rw [if_pos ⟨by omega, by omega, by omega, by omega, by simp⟩, if_neg (by simp), sliE_eq (Nat.zero_le _) h, ← sliE_raw hs (Nat.zero_le _) h]
        simp
      · unfold sliE
        rw [if_neg (by omega), if_neg (by omega)]
    · rw [if_neg hs]
theorem slV_lo (t : TypeId) (kd : IntKind) (i : Nat) : slV P H t (islE E xs) (some (.int kd (i : Int))) none none = (elZ P t).bind fun z => if z.2.1 = E.sz then sliE E xs i xs.length else slSlow P H t (islE E xs) (some (.int kd (i : Int))) none none := by
  unfold slSlow
  cases hz : elZ P t with
  | none => rw [slV_slice _ _ _ _ _ (by intro s h; simp [islE, isl] at h)]; unfold sliceV; rw [hz]; rfl
  | some z =>
    obtain ⟨e, s, b⟩ := z
    simp only [Option.bind_some]
    by_cases hs : s = E.sz
    · rw [if_pos hs, slV_slice _ _ _ _ _ (by intro s h; simp [islE, isl] at h)]
      unfold sliceV
      simp only [hz]
      rw [show asI (islE E xs) = some (xs.length, E.flat xs) from asI_isl _ _]
      simp only [boundV]
      by_cases h : i ≤ xs.length
      · have e1 : ((xs.length : Int) - i).toNat = xs.length - i := by omega
        rw [if_pos ⟨by omega, by omega, by omega, by omega, by simp⟩, if_neg (by simp), sliE_eq h (Nat.le_refl _), ← sliE_raw hs h (Nat.le_refl _)]
        simp [e1]
      · unfold sliE
        rw [if_neg (by omega), if_neg (by omega)]
    · rw [if_neg hs]
theorem slV_both (t : TypeId) (kd kd' : IntKind) (i j : Nat) : slV P H t (islE E xs) (some (.int kd (i : Int))) (some (.int kd' (j : Int))) none = (elZ P t).bind fun z => if z.2.1 = E.sz then sliE E xs i j else slSlow P H t (islE E xs) (some (.int kd (i : Int))) (some (.int kd' (j : Int))) none := by
  unfold slSlow
  cases hz : elZ P t with
  | none => rw [slV_slice _ _ _ _ _ (by intro s h; simp [islE, isl] at h)]; unfold sliceV; rw [hz]; rfl
  | some z =>
    obtain ⟨e, s, b⟩ := z
    simp only [Option.bind_some]
    by_cases hs : s = E.sz
    · rw [if_pos hs, slV_slice _ _ _ _ _ (by intro s h; simp [islE, isl] at h)]
      unfold sliceV
      simp only [hz]
      rw [show asI (islE E xs) = some (xs.length, E.flat xs) from asI_isl _ _]
      simp only [boundV]
      by_cases h : i ≤ j ∧ j ≤ xs.length
      · have e1 : ((j : Int) - i).toNat = j - i := by omega
        rw [if_pos ⟨by omega, by omega, by omega, by omega, by simp⟩, if_neg (by simp), sliE_eq h.1 h.2, ← sliE_raw hs h.1 h.2]
        simp [e1]
      · unfold sliE
        rw [if_neg (by omega), if_neg h]
    · rw [if_neg hs]
theorem slV_own (t : TypeId) (r off : Nat) (sp : Option Nat) (len ver : Nat) (lo hi mx : Option Value) : slV P H t (.slice (some ⟨r, off, sp⟩) len ver) lo hi mx = (elZ P t).bind fun z => (H[r]?).bind fun blk => (boundV lo 0).bind fun l => (boundV hi len).bind fun h => (boundV mx (sp.getD len)).bind fun m =>
    if blk.ver = ver ∧ blk.own = true ∧ blk.sz = z.2.1 ∧ 0 ≤ l ∧ l ≤ h ∧ h ≤ m ∧ m ≤ ((sp.getD len : Nat) : Int) ∧ (mx.isSome = true → hi.isSome = true) then
      some (.slice (some ⟨r, off + l.toNat * z.2.1, some (m - l).toNat⟩) (h - l).toNat ver) else none := by
  rw [slV_slice _ _ _ _ _ (by intro s h; cases h)]
  unfold sliceV
  cases elZ P t with
  | none => rfl
  | some z =>
    obtain ⟨e, s, b⟩ := z
    simp only [asI_slice, Option.bind_some]
    cases H[r]? with
    | none => rfl
    | some blk =>
      cases boundV lo 0 with
      | none => rfl
      | some l =>
        cases boundV hi len with
        | none => rfl
        | some h => cases boundV mx (sp.getD len) <;> rfl
theorem srcV_islE (el sz : Nat) (t : TypeId) : srcV P H el sz t (islE E xs) = (elZ P t).bind fun _ => if xs.length * sz ≤ (E.flat xs).length then some (xs.length, (E.flat xs).take (xs.length * sz)) else none := by
  unfold srcV islE
  split
  · rename_i s hs
    simp [isl] at hs
  · simp only [asI_isl]
    cases elZ P t <;> rfl

/-! heaps -/
theorem get_app0 : (H ++ L)[H.length]? = L[0]? := by rw [List.getElem?_append_right (Nat.le_refl _), Nat.sub_self]
theorem get_appk (k : Nat) : (H ++ L)[H.length + k]? = L[k]? := by rw [List.getElem?_append_right (by omega), Nat.add_sub_cancel_left]
theorem get_old {r : Nat} {x : Blk} (h : H[r]? = some x) : (H ++ L)[r]? = some x := by rw [List.getElem?_append_left (lt_of_some h)]; exact h
theorem set_app0 : (H ++ L).set H.length b = H ++ L.set 0 b := by rw [List.set_append_right _ _ (Nat.le_refl _), Nat.sub_self]
theorem set_appk (k : Nat) : (H ++ L).set (H.length + k) b = H ++ L.set k b := by rw [List.set_append_right _ _ (by omega), Nat.add_sub_cancel_left]
theorem getB_eq (r ver : Nat) : getB H r ver = (H[r]?).bind fun x => if x.ver = ver ∧ x.own = true then some x.cs else none := by
  unfold getB
  cases H[r]? <;> rfl
theorem loadV_ptr (t : TypeId) (r off ver : Nat) : loadV P H t (.pointer (some ⟨r, off, some ver⟩)) = (lay P t).bind fun gn => (getB H r ver).bind fun cs => getVar gn.1 gn.2 cs off := by
  unfold loadV
  cases lay P t with
  | none => rfl
  | some gn =>
    simp only [asP_ptr, Option.bind_some]
    cases getB H r ver <;> rfl
theorem getVar_t (n : Nat) (cs : List Value) (off : Nat) : getVar true n cs off = if off + n ≤ cs.length then some (.agg ((cs.drop off).take n).toArray) else none := rfl
theorem getVar_f (n : Nat) (cs : List Value) (off : Nat) : getVar false n cs off = cs[off]? := rfl
theorem fldV_ptr (s : TypeId) (f r off ver : Nat) : fldV P H s (.pointer (some ⟨r, off, some ver⟩)) f = (fldOff P s f).bind fun o => (getB H r ver).bind fun _ => some (.pointer (some ⟨r, off + o, some ver⟩)) := by
  unfold fldV
  simp only [asP_ptr]
  cases fldOff P s f with
  | none => rfl
  | some o => cases getB H r ver <;> rfl
theorem nilK_ptr (r off ver : Nat) : nilK H (.pointer (some ⟨r, off, some ver⟩)) = (getB H r ver).bind fun _ => some (.pointer (some ⟨r, off, some ver⟩)) := by
  unfold nilK
  simp only [asP_ptr]
  cases getB H r ver <;> rfl
theorem idxV_own (t : TypeId) (r off : Nat) (sp : Option Nat) (len ver : Nat) (kd : IntKind) (i : Int) : idxV P H t (.slice (some ⟨r, off, sp⟩) len ver) (.int kd i) = (elZ P t).bind fun z => (getB H r ver).bind fun _ => if 0 ≤ i ∧ i < len then some (.pointer (some ⟨r, off + i.toNat * z.2.1, some ver⟩)) else none := by
  unfold idxV
  cases elZ P t with
  | none => rfl
  | some z =>
    obtain ⟨e, s, b⟩ := z
    simp only [asI_slice, Option.bind_some]
    cases getB H r ver <;> rfl
theorem storeH_ptr (t : TypeId) (r off ver : Nat) (v : Value) : storeH P B H t (.pointer (some ⟨r, off, some ver⟩)) v = (lay P t).bind fun gn => (H[r]?).bind fun blk =>
    if blk.ver = ver ∧ blk.own = true ∧ B ≤ r ∧ (cellsV v).length = gn.2 ∧ off + gn.2 ≤ blk.cs.length ∧ (cellsV v).all Value.oneCell' = true then some (H.set r { blk with cs := splice blk.cs off (cellsV v) }) else none := by
  unfold storeH
  dsimp only
  cases lay P t with
  | none => rfl
  | some gn =>
    dsimp only [Option.bind_some]
    cases H[r]? <;> rfl
/-- A struct's field, by its place. -/
def fldAt (P : Program) (t : TypeId) (f : Nat) : Option (Nat × Bool × Nat) :=
  match P.underlying t with
  | some (.struct fs) => (match fs[f]? with
    | some fd => (lay P fd.type).map fun gn => (fd.offset, gn.1, gn.2)
    | none => none)
  | _ => none
theorem fieldS_agg (t : TypeId) (l : List Value) (f : Nat) : fieldS P t (.agg l.toArray) f = (fldAt P t f).bind fun x => getVar x.2.1 x.2.2 l x.1 := by
  unfold fieldS fldAt
  cases P.underlying t with
  | none => rfl
  | some d =>
    cases d <;> try rfl
    rename_i fs
    cases hf : fs[f]? with
    | none => simp [hf]
    | some fd =>
      simp only [hf]
      cases lay P fd.type with
      | none => rfl
      | some gn => obtain ⟨g, n⟩ := gn; rfl
theorem mkB_eq (el : TypeId) (sz : Nat) (cs : List Value) : mkB el sz cs = ⟨el, sz, cs, 0, true⟩ := rfl
theorem cells_int (k : IntKind) (i : Int) : cellsV (.int k i) = [.int k i] := rfl
theorem cells_bool (b : Bool) : cellsV (.bool b) = [.bool b] := rfl
theorem cells_str (s : ByteArray) : cellsV (.string s) = [.string s] := rfl
theorem cells_slice (a : Option Addr) (n m : Nat) : cellsV (.slice a n m) = [.slice a n m] := rfl
theorem cells_islE : cellsV (islE E xs) = [islE E xs] := rfl
theorem cells_isl (n : Nat) (cs : List Value) : cellsV (isl n cs) = [isl n cs] := rfl
theorem cells_ip (cs : List Value) : cellsV (ip cs) = [ip cs] := rfl
theorem cells_ptr (a : Option Addr) : cellsV (.pointer a) = [.pointer a] := rfl
theorem cells_agg (l : List Value) : cellsV (.agg l.toArray) = l := rfl
theorem cells_func (g : Fn) (a c : Array Value) : cellsV (.func g a c) = [.func g a c] := rfl
theorem one_int (k : IntKind) (i : Int) : Value.oneCell' (.int k i) = true := rfl
theorem one_bool (b : Bool) : Value.oneCell' (.bool b) = true := rfl
theorem one_str (s : ByteArray) : Value.oneCell' (.string s) = true := rfl
theorem one_slice (a : Option Addr) (n m : Nat) : Value.oneCell' (.slice a n m) = true := rfl
theorem one_islE : Value.oneCell' (islE E xs) = true := rfl
theorem one_isl (n : Nat) (cs : List Value) : Value.oneCell' (isl n cs) = true := rfl
theorem one_ip (cs : List Value) : Value.oneCell' (ip cs) = true := rfl
theorem one_ptr (a : Option Addr) : Value.oneCell' (.pointer a) = true := rfl
theorem one_func (g : Fn) (a c : Array Value) : Value.oneCell' (.func g a c) = true := rfl
theorem const_int (k : IntKind) (i : Int) : constOk (.int k i) = true := rfl
theorem const_bool (b : Bool) : constOk (.bool b) = true := rfl
theorem const_str (s : ByteArray) : constOk (.string s) = true := rfl
theorem const_nil : constOk (.slice none 0 0) = true := rfl
theorem pure_int (k : IntKind) (i : Int) : pureV (.int k i) = true := rfl
theorem pure_bool (b : Bool) : pureV (.bool b) = true := rfl
theorem pure_str (s : ByteArray) : pureV (.string s) = true := rfl
theorem zOkV_agg (l : List Value) : zOkV (.agg l.toArray) = (l.all constOk && l.all Value.oneCell') := by simp [zOkV]
theorem zOkV_int (k : IntKind) (i : Int) : zOkV (.int k i) = true := rfl
theorem zOkV_bool (b : Bool) : zOkV (.bool b) = true := rfl
theorem zOkV_str (s : ByteArray) : zOkV (.string s) = true := rfl
theorem zOkV_nil : zOkV (.slice none 0 0) = true := rfl
theorem splice_eq (cs : List Value) (off : Nat) (news : List Value) : splice cs off news = cs.take off ++ news ++ cs.drop (off + news.length) := rfl
theorem extract_tuple (l : List Value) (i : Nat) : extractV (.tuple l.toArray) i = l[i]? := by simp [extractV]
theorem buildV_eq (t : TypeId) (parts : List (Nat × Value)) : buildV P t parts = (strT P t).bind fun zp => if zp.1.all constOk = true then (fillL zp.2 zp.1 parts).map fun cs => .agg cs.toArray else none := by
  unfold buildV
  cases strT P t <;> rfl
theorem fillL_nil (places : List (Nat × Nat)) (cs : List Value) : fillL places cs [] = some cs := rfl
theorem fillL_cons (places : List (Nat × Nat)) (cs : List Value) (i : Nat) (v : Value) (rest : List (Nat × Value)) : fillL places cs ((i, v) :: rest) =
    (places[i]?).bind fun os => if (cellsV v).length = os.2 ∧ os.1 + os.2 ≤ cs.length then fillL places (splice cs os.1 (cellsV v)) rest else none := by
  show (match places[i]? with | none => none | some (off, size) => _) = _
  cases places[i]? <;> rfl
theorem buildSliceH_eq (t : TypeId) (len : Nat) (parts : List (Nat × Value)) : buildSliceH P H t len parts = (elZ P t).bind fun z => if zOk P z.1 z.2.1 = true ∧ parts.length = len ∧ len * z.2.1 ≤ 16777216 then
    (litCells z.2.1 0 parts).bind fun cs => if cs.all Value.oneCell' = true then some (.slice (some ⟨H.length, 0, none⟩) len 0, H ++ [mkB z.1 z.2.1 cs]) else none else none := by
  unfold buildSliceH
  cases elZ P t with
  | none => rfl
  | some z =>
    obtain ⟨e, s, b⟩ := z
    simp only [Option.bind_some]
    split
    · cases litCells s 0 parts <;> rfl
    · rfl
theorem lit_nil (sz k : Nat) : litCells sz k [] = some [] := rfl
theorem lit_cons (sz k i : Nat) (v : Value) (rest : List (Nat × Value)) : litCells sz k ((i, v) :: rest) = if i = k ∧ (cellsV v).length = sz then (litCells sz (k + 1) rest).map fun l => cellsV v ++ l else none := rfl
theorem le_self_add (n k : Nat) : (n ≤ n + k) = True := by simp

/-! slices that grow and are written -/
/-- A block that holds a list. -/
def sb (el : TypeId) (E : Enc α) (xs : List α) (ver : Nat) (o : Bool) : Blk := ⟨el, E.sz, E.flat xs, ver, o⟩
theorem sb_eq (el : TypeId) (xs : List α) (ver : Nat) (o : Bool) : sb el E xs ver o = ⟨el, E.sz, E.flat xs, ver, o⟩ := rfl

theorem srcV_own {el t r off m ver : Nat} {sp : Option Nat} {z : TypeId × Nat × Nat} {blk : Blk} {cs : List Value} (hz : elZ P t = some z) (hb : H[r]? = some blk) (hv : blk.ver = ver) (ho : blk.own = true) (hc : (blk.cs.drop off).take (m * E.sz) = cs) (hl : off + m * E.sz ≤ blk.cs.length) :
    srcV P H el E.sz t (.slice (some ⟨r, off, sp⟩) m ver) = some (m, cs) := by
  unfold srcV
  simp only [hz, asI_slice]
  rw [getB_eq, hb]
  simp only [Option.bind_some]
  rw [if_pos ⟨hv, ho⟩]
  simp only
  rw [if_pos hl, hc]
/-- A list is appended to a list that is ours. -/
theorem appendH_sb {t tx el by_ r ver : Nat} {o : Bool} {ys : List α} {x : Value} (hz : elZ P t = some (el, E.sz, by_)) (hok : zOk P el E.sz = true) (hb : H[r]? = some (sb el E xs ver o)) (hB : B ≤ r)
    (hs : srcV P H el E.sz tx x = some (ys.length, E.flat ys)) (h1 : (xs.length + ys.length) * by_ ≤ 140737488355328) (h2 : xs.length + ys.length ≤ 140737488355328) :
    appendH P B H t tx (.slice (some ⟨r, 0, none⟩) xs.length ver) x = some (.slice (some ⟨r, 0, none⟩) (xs ++ ys).length (ver + 1), H.set r (sb el E (xs ++ ys) (ver + 1) (o || decide (ys.length ≠ 0)))) := by
  unfold appendH
  simp only [hz, hs, hok, if_true, hb]
  rw [if_pos ⟨rfl, hB, rfl, rfl, by simp [sb, E.flat_length], h1, h2⟩]
  simp [sb, E.flat_all, E.flat_append]
theorem appendH_nil {t tx el by_ : Nat} {ys : List α} {x : Value} (hz : elZ P t = some (el, E.sz, by_)) (hok : zOk P el E.sz = true)
    (hs : srcV P H el E.sz tx x = some (ys.length, E.flat ys)) (h0 : ys.length ≠ 0) (h1 : ys.length * by_ ≤ 140737488355328) (h2 : ys.length ≤ 140737488355328) :
    appendH P B H t tx (.slice none 0 0) x = some (.slice (some ⟨H.length, 0, none⟩) ys.length 0, H ++ [sb el E ys 0 true]) := by
  unfold appendH
  rw [hz]
  dsimp only
  rw [hs]
  dsimp only
  rw [if_pos hok, if_pos ⟨h1, h2⟩, if_neg h0]
  rfl
theorem Enc.flat_set (E : Enc α) (ys : List α) (k : Nat) (y : α) (hk : k < ys.length) : splice (E.flat ys) (k * E.sz) (cellsV (E.val y)) = E.flat (ys.set k y) := by
  have h : ys = ys.take k ++ (ys[k] :: ys.drop (k + 1)) := by simp
  have hl : (E.flat (ys.take k)).length = k * E.sz := by rw [E.flat_length]; congr 1; simp; omega
  have e1 : E.flat ys = E.flat (ys.take k) ++ (cellsV (E.val ys[k]) ++ E.flat (ys.drop (k + 1))) := by
    conv => lhs; rw [h]
    rw [E.flat_append]
    rfl
  have e2 : E.flat (ys.set k y) = E.flat (ys.take k) ++ (cellsV (E.val y) ++ E.flat (ys.drop (k + 1))) := by
    rw [List.set_eq_take_append_cons_drop, if_pos hk, E.flat_append]
    rfl
  rw [e1, e2, splice_eq, E.hsz, List.take_append_of_le_length (by omega), List.take_of_length_le (by omega), List.append_assoc, List.drop_append, List.drop_eq_nil_of_le (by omega), List.nil_append, hl]
  congr 2
  rw [show k * E.sz + E.sz - k * E.sz = E.sz by omega, List.drop_append_of_le_length (by rw [E.hsz]; exact Nat.le_refl _), List.drop_of_length_le (by rw [E.hsz]; exact Nat.le_refl _), List.nil_append]
theorem Enc.one (E : Enc α) (y : α) : (cellsV (E.val y)).all Value.oneCell' = true := List.all_eq_true.2 fun c hc => (E.hok y c hc).one
/-- A whole element is written. -/
theorem storeH_sb {T el r k ver : Nat} {g : Bool} {ys : List α} {y : α} (hb : H[r]? = some (sb el E ys ver true)) (hB : B ≤ r) (hl : lay P T = some (g, E.sz)) (hk : k < ys.length) :
    storeH P B H T (.pointer (some ⟨r, k * E.sz, some ver⟩)) (E.val y) = some (H.set r (sb el E (ys.set k y) ver true)) := by
  have hfit : k * E.sz + E.sz ≤ (E.flat ys).length := by
    rw [E.flat_length, ← Nat.succ_mul]
    exact Nat.mul_le_mul_right _ hk
  rw [storeH_ptr, hl]
  simp only [Option.bind_some, hb]
  rw [if_pos ⟨rfl, rfl, hB, E.hsz y, by simpa [sb] using hfit, E.one y⟩]
  simp only [sb, E.flat_set ys k y hk]
/-- A whole element is read. -/
theorem loadV_sb {T el r k ver : Nat} {ys : List α} (hb : H[r]? = some (sb el E ys ver true)) (hl : lay P T = some (E.agg, E.sz)) (hk : k < ys.length) :
    loadV P H T (.pointer (some ⟨r, k * E.sz, some ver⟩)) = some (E.val ys[k]) := by
  have hfit : k * E.sz + E.sz ≤ (E.flat ys).length := by
    rw [E.flat_length, ← Nat.succ_mul]
    exact Nat.mul_le_mul_right _ hk
  have hv := E.hval ys[k]
  rw [loadV_ptr, hl, getB_eq, hb]
  simp only [Option.bind_some, sb, and_self, if_true]
  unfold getVar
  cases ha : E.agg with
  | true =>
    rw [ha, if_pos rfl] at hv
    rw [if_pos rfl, if_pos hfit, E.flat_drop, E.drop_cons ys k hk, List.take_append_of_le_length (by rw [E.hsz]; exact Nat.le_refl _), List.take_of_length_le (by rw [E.hsz]; exact Nat.le_refl _), ← hv]
  | false =>
    rw [ha] at hv
    simp only [Bool.false_eq_true, if_false] at hv ⊢
    have := congrArg (fun l => l[0]?) (E.flat_drop ys k)
    simp only [List.getElem?_drop, Nat.add_zero] at this
    rw [this, E.drop_cons ys k hk, hv]
    rfl
theorem Bor.sb {el r ver : Nat} {o : Bool} {sp : Option Nat} {ys : List α} {n : Nat} (hb : H[r]? = some (sb el E ys ver o)) (ho : ys.length ≠ 0 → o = true) (hn : n = ys.length) : Bor H (.slice (some ⟨r, 0, sp⟩) n ver) (islE E ys) := by
  subst hn
  cases h : ys with
  | nil =>
    subst h
    exact .emp r 0 sp ver _ hb rfl
  | cons y l =>
    rw [← h]
    refine Bor.ownL hb rfl (ho (by rw [h]; simp)) (fun h0 => by rw [h] at h0; simp at h0) ⟨E.flat ys, .same fun d hd => (E.flat_ok ys d hd).im, by simp [BM.sb]⟩
end

/-! ### numbers -/
theorem wr {n : Int} (h0 : -9223372036854775808 ≤ n) (h1 : n ≤ 9223372036854775807) : IntKind.i64.wrap n = n := by
  rw [IntKind.wrap_i64]; omega
theorem wr_succ {k : Nat} (h : k < 4611686018427387904) : IntKind.i64.wrap ((k : Int) + 1) = ((k + 1 : Nat) : Int) := by rw [wr] <;> omega
end Go.BM
