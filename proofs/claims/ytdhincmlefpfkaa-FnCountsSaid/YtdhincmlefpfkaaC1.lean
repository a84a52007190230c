/- The operations that only read, told by lists: what each yields, and that the machine yields it. -/
import Derived.Test.YtdhincmlefpfkaaC0
set_option linter.unusedVariables false
set_option linter.unusedSimpArgs false
namespace Go.BM
open Go.RowKit

def ev (e : Env) : Operand → Value
  | .tmp t => e t
  | .const v => v
  | .global g => .pointer (some ⟨g, 0, none⟩)
  | .func f => .func (.func f) #[] #[]

def put (e : Env) (d : Option Tmp) (v : Value) : Env :=
  match d with
  | some t => fun i => if i = t then v else e i
  | none => e

structure ER (n : Nat) (σ : Sg) (H : AH) (a : Act) (e : Env) : Prop where
  size : a.tmps.size = n
  rel : ∀ i, i < n → VR σ H (a.tmps.getD i undef) (e i)
  defers : a.defers = []

def constOk (v : Value) : Bool :=
  flatV v || (match v with | .slice none 0 0 => true | _ => false)

def opdOk (n : Nat) : Operand → Bool
  | .tmp t => decide (t < n)
  | .const v => constOk v
  | .global _ => false
  | .func _ => true

def dstOk (n : Nat) : Option Tmp → Bool
  | some t => decide (t < n)
  | none => true

theorem ER.fut {n B : Nat} {σ σ' : Sg} {H H' : AH} {w w' : World} {a : Act} {e : Env} (h : ER n σ H a e) (f : Fut B σ H w σ' H' w') : ER n σ' H' a e :=
  ⟨h.size, fun i hi => (h.rel i hi).fut f, h.defers⟩

theorem flat_const {v : Value} (h : constOk v = true) (σ : Sg) (H : AH) : VR σ H v v := by
  unfold constOk at h
  rcases Bool.or_eq_true_iff.1 h with h | h
  · exact .flat v h
  · split at h
    · exact .mt none none 0 (fun _ h => by cases h)
    · cases h

theorem ER.eval {n : Nat} {σ : Sg} {H : AH} {a : Act} {e : Env} (h : ER n σ H a e) {x : Operand} (hx : opdOk n x = true) : VR σ H (a.eval x) (ev e x) := by
  cases x with
  | tmp t => exact h.rel t (by simpa [opdOk] using hx)
  | const v => exact flat_const hx σ H
  | global g => simp [opdOk] at hx
  | func f => exact .func _ #[] #[] rfl fun i h1 => absurd h1 (Nat.not_lt_zero _)

theorem ER.put {n : Nat} {σ : Sg} {H : AH} {a : Act} {e : Env} (h : ER n σ H a e) {d : Option Tmp} (hd : dstOk n d = true) {v u : Value} (hv : VR σ H v u) : ER n σ H (a.put d v) (put e d u) := by
  cases d with
  | none => exact h
  | some t =>
    have ht : t < n := by simpa [dstOk] using hd
    refine ⟨by simp [Act.put, h.size], fun i hi => ?_, h.defers⟩
    have hs := h.size
    simp only [Act.put, BM.put]
    by_cases e1 : i = t
    · subst e1
      simp only [Array.getD, Array.size_setIfInBounds, hs, hi, dite_true, if_true]
      simpa [Array.getElem_setIfInBounds] using hv
    · have h1 := h.rel i hi
      simp only [if_neg e1]
      have : (a.tmps.setIfInBounds t v).getD i undef = a.tmps.getD i undef := by
        simp [Array.getD_eq_getD_getElem?, Array.getElem?_setIfInBounds_ne (Ne.symm e1)]
      rw [this]
      exact h1

def boolOf : Value → Option Bool
  | .bool b => some b
  | _ => none

def yieldA (ops : Array Oper) (e : Env) (j : Nat) : Option Bool :=
  match (ops[j]?).bind (·.dst) with
  | some t => boolOf (e t)
  | none => none

theorem VR.bool_iff {σ : Sg} {H : AH} {v d : Value} (h : VR σ H v d) : boolOf v = boolOf d := by
  cases h <;> rfl

theorem yielded_boolOf (ops : Array Oper) (tmps : Array Value) (j : Nat) (t : Tmp) (h : (ops[j]?).bind (·.dst) = some t) (ht : t < tmps.size) : yielded ops tmps j = boolOf (tmps.getD t undef) := by
  unfold yielded
  simp only [h, Option.bind_some, Array.getElem?_eq_getElem ht, Array.getD, ht, dite_true]
  show _ = boolOf tmps[t]
  cases tmps[t] <;> rfl

theorem yield_eq {n : Nat} {σ : Sg} {H : AH} {a : Act} {e : Env} (h : ER n σ H a e) {ops : Array Oper} (hops : ops.all (fun o => dstOk n o.dst) = true) (j : Nat) : yielded ops a.tmps j = yieldA ops e j := by
  cases hb : (ops[j]?).bind (·.dst) with
  | none =>
    unfold yielded yieldA
    simp [hb]
  | some t =>
    have ht : t < n := by
      cases ho : ops[j]? with
      | none => rw [ho] at hb; cases hb
      | some o =>
        rw [ho] at hb
        obtain ⟨hj, rfl⟩ := Array.getElem?_eq_some_iff.1 ho
        have := Array.all_eq_true.1 hops j hj
        simp only [Option.bind_some] at hb
        rw [hb] at this
        simpa [dstOk] using this
    rw [yielded_boolOf ops a.tmps j t hb (by rw [h.size]; exact ht)]
    unfold yieldA
    simp only [hb]
    exact (h.rel t ht).bool_iff

/-! ### What comes of a value -/
theorem VR.int {σ : Sg} {H : AH} {v : Value} {k : IntKind} {i : Int} (h : VR σ H v (.int k i)) : v = .int k i := by cases h; rfl
theorem VR.bool {σ : Sg} {H : AH} {v : Value} {b : Bool} (h : VR σ H v (.bool b)) : v = .bool b := by cases h; rfl
theorem VR.str {σ : Sg} {H : AH} {v : Value} {s : ByteArray} (h : VR σ H v (.string s)) : v = .string s := by cases h; rfl
theorem VR.aggI {σ : Sg} {H : AH} {v : Value} {ys : Array Value} (h : VR σ H v (.agg ys)) : ∃ xs : Array Value, v = .agg xs ∧ xs.size = ys.size ∧ ∀ i (h1 : i < xs.size) (h2 : i < ys.size), VR σ H xs[i] ys[i] := by
  cases h with
  | flat _ h => simp [flatV] at h
  | agg xs _ hs h => exact ⟨xs, rfl, hs, h⟩
theorem VR.tupleI {σ : Sg} {H : AH} {v : Value} {ys : Array Value} (h : VR σ H v (.tuple ys)) : ∃ xs : Array Value, v = .tuple xs ∧ xs.size = ys.size ∧ ∀ i (h1 : i < xs.size) (h2 : i < ys.size), VR σ H xs[i] ys[i] := by
  cases h with
  | flat _ h =>
    have : ys.size = 0 := by simpa [flatV] using h
    exact ⟨ys, rfl, rfl, fun i h1 _ => by omega⟩
  | tuple xs _ hs h => exact ⟨xs, rfl, hs, h⟩
theorem VR.ptrI {σ : Sg} {H : AH} {v : Value} {r off ver : Nat} (h : VR σ H v (.pointer (some ⟨r, off, some ver⟩))) {cs : List Value} (hb : getB H r ver = some cs) :
    v = .pointer (some ⟨(σ r).b, (σ r).base + off, none⟩) := by
  obtain ⟨blk, h1, h2, h3, _⟩ := getB_some hb
  cases h with
  | flat _ h => simp [flatV] at h
  | ptr => rfl
  | sptr _ _ _ blk' h' hv' => rw [h1] at h'; cases h'; omega
theorem VR.sliceI {σ : Sg} {H : AH} {v : Value} {r off len ver : Nat} {sp : Option Nat} (h : VR σ H v (.slice (some ⟨r, off, sp⟩) len ver)) {cs : List Value} (hb : getB H r ver = some cs) :
    (len = 0 ∧ sp.getD 0 = 0 ∧ ∃ a, v = .slice a 0 0) ∨ (∃ cap blk, H[r]? = some blk ∧ v = .slice (some ⟨(σ r).b, (σ r).base + off, none⟩) len cap ∧ len ≤ cap ∧ sp.getD len ≤ cap ∧ cap ≤ maxLen ∧ off + cap * blk.sz ≤ (σ r).n) := by
  obtain ⟨blk, h1, h2, h3, _⟩ := getB_some hb
  cases h with
  | flat _ h => simp [flatV] at h
  | mt _ _ _ hd => exact .inl ⟨rfl, hd _ rfl, _, rfl⟩
  | slice _ _ _ cap _ _ blk' h' hv ho hl hsp hm hc => exact .inr ⟨cap, blk', h', rfl, hl, hsp, hm, hc⟩
  | stale _ _ _ _ _ blk' h' hv' => rw [h1] at h'; cases h'; omega
theorem VR.sliceJ {σ : Sg} {H : AH} {v : Value} {r off len ver : Nat} {sp : Option Nat} (h : VR σ H v (.slice (some ⟨r, off, sp⟩) len ver)) {blk : Blk} (hb : H[r]? = some blk) (hv : blk.ver = ver) :
    ∃ a cap, v = .slice a len cap := by
  cases h with
  | flat _ h => simp [flatV] at h
  | mt => exact ⟨_, _, rfl⟩
  | slice _ _ _ cap _ _ blk' h' hv ho hl hsp hm hc => exact ⟨_, _, rfl⟩
  | stale _ _ _ _ _ blk' h' hv' => rw [hb] at h'; cases h'; omega
theorem VR.sliceNil {σ : Sg} {H : AH} {v : Value} {d : Option Addr} {ver : Nat} (hd : d = none) (h : VR σ H v (.slice d 0 ver)) : ∃ a, v = .slice a 0 0 := by
  subst hd
  cases h with
  | flat _ h => simp [flatV] at h
  | mt a => exact ⟨a, rfl⟩

/-! ### Types -/
def lay (P : Program) (t : TypeId) : Option (Bool × Nat) :=
  match P.underlying t, P.info? t with
  | some (.struct _), some i => some (true, i.size)
  | some (.array _ _), some i => some (true, i.size)
  | some _, some i => some (false, i.size)
  | _, _ => none

theorem run_isAgg {P : Program} {t : TypeId} {g : Bool} {n : Nat} (h : lay P t = some (g, n)) (w : World) : (isAgg t).run P w = .ok g w ∧ (sizeOf t).run P w = .ok n w ∧ ∃ i, P.info? t = some i ∧ i.size = n := by
  unfold lay at h
  cases hu : P.underlying t with
  | none => rw [hu] at h; cases h
  | some d =>
    cases hi : P.info? t with
    | none => rw [hu, hi] at h; cases d <;> cases h
    | some i =>
      rw [hu, hi] at h
      have hs : (sizeOf t).run P w = .ok i.size w := by simp [sizeOf, typeInfo, hi]
      cases d <;> (simp only [Option.some.injEq, Prod.mk.injEq] at h; obtain ⟨rfl, rfl⟩ := h; exact ⟨by simp [isAgg, run_underlying hu], hs, i, rfl, rfl⟩)

theorem add_plain' (b o j : Nat) : (⟨b, o, none⟩ : Addr).add j = ⟨b, o + j, none⟩ := by
  unfold Addr.add; split <;> simp_all

theorem run_loadVar_agg {P : Program} {t : TypeId} {n : Nat} (h : lay P t = some (true, n)) (w : World) (b o : Nat) (us : List Value) (hl : us.length = n)
    (hc : ∀ (j : Nat) u, us[j]? = some u → w.cell? ⟨b, o + j, none⟩ = some u) : (loadVar t ⟨b, o, none⟩).run P w = .ok (.agg us.toArray) w := by
  obtain ⟨h1, h2, _⟩ := run_isAgg h w
  have := run_loadCells_list (P := P) w ⟨b, o, none⟩ us (fun j v hj => by rw [add_plain']; exact hc j v hj)
  rw [hl] at this
  simp [loadVar, h1, h2, this]

theorem run_loadVar_one {P : Program} {t : TypeId} {n : Nat} (h : lay P t = some (false, n)) (w : World) (b o : Nat) (u : Value)
    (hc : w.cell? ⟨b, o, none⟩ = some u) : (loadVar t ⟨b, o, none⟩).run P w = .ok u w := by
  obtain ⟨h1, h2, _⟩ := run_isAgg h w
  simp [loadVar, h1, hc]

/-- A variable of type t among cells. -/
def getVar (g : Bool) (n : Nat) (cs : List Value) (off : Nat) : Option Value :=
  if g = true then (if off + n ≤ cs.length then some (.agg ((cs.drop off).take n).toArray) else none) else cs[off]?

def loadV (P : Program) (H : AH) (t : TypeId) (x : Value) : Option Value :=
  match lay P t with
  | some (g, n) =>
    (match asP x with
     | some cs => getVar g n cs 0
     | none =>
       (match x with
        | .pointer (some ⟨r, off, some ver⟩) => (match getB H r ver with | some cs => getVar g n cs off | none => none)
        | _ => none))
  | none => none

theorem lt_of_some'' {α : Type} {l : List α} {j : Nat} {v : α} (h : l[j]? = some v) : j < l.length := by
  rcases Nat.lt_or_ge j l.length with h' | h'
  · exact h'
  · rw [List.getElem?_eq_none h'] at h; cases h

theorem load_sound {P : Program} {σ : Sg} {H : AH} {w : World} (hS : Sim σ H w) {t : TypeId} {x v d : Value} (hx : VR σ H v x) (h : loadV P H t x = some d) :
    ∃ u, VR σ H u d ∧ ∀ w', Below w.heap.size w w' → (Instr.loadAt t v).run P w' = .ok u w' := by
  unfold loadV at h
  cases hl : lay P t with
  | none => rw [hl] at h; cases h
  | some gn =>
    obtain ⟨g, n⟩ := gn
    rw [hl] at h
    dsimp only at h
    cases ha : asP x with
    | some cs =>
      rw [ha] at h
      dsimp only at h
      obtain ⟨b, o, us, rfl, hul, hui, huv⟩ := hx.aptr ha
      unfold getVar at h
      cases g with
      | true =>
        simp only [if_true, Nat.zero_add, List.drop_zero] at h
        by_cases hle : n ≤ cs.length
        · rw [if_pos hle] at h
          cases h
          refine ⟨.agg (us.take n).toArray, .agg _ _ (by simp [hul]) fun i i1 i2 => ?_, fun w' hb' => ?_⟩
          · have i3 : i < cs.length := by simp at i2; omega
            obtain ⟨x, hx1, hx2⟩ := huv i cs[i] (List.getElem?_eq_getElem i3)
            obtain ⟨h3, h4⟩ := List.getElem?_eq_some_iff.1 hx1
            simp only [List.getElem_toArray, List.getElem_take]
            rw [h4]
            exact hx2
          · have hr := run_loadVar_agg hl w' b o (us.take n) (by simp [hul]; omega) fun j u hj => by
              have hj2 : us[j]? = some u := by
                rw [List.getElem?_take] at hj
                split at hj
                · exact hj
                · cases hj
              have := hui j u hj2
              rw [hb'.cell (p := ⟨b, o + j, none⟩) (hS.imlt this)]
              exact (hS.im _ _ this).1
            simp [Instr.loadAt, Instr.sureAddr, hr]
        · rw [if_neg hle] at h; cases h
      | false =>
        simp only [Bool.false_eq_true, if_false] at h
        obtain ⟨u, hu, hv⟩ := huv 0 d h
        refine ⟨u, hv, fun w' hb' => ?_⟩
        have := hui 0 u hu
        have hr := run_loadVar_one hl w' b o u (by
          rw [hb'.cell (p := ⟨b, o, none⟩) (hS.imlt (a := ⟨b, o + 0, none⟩) this)]
          exact (hS.im _ _ this).1)
        simp [Instr.loadAt, Instr.sureAddr, hr]
    | none =>
    rw [ha] at h
    dsimp only at h
    split at h
    case h_2 => cases h
    rename_i r off ver
    cases hb : getB H r ver with
    | none => rw [hb] at h; cases h
    | some cs =>
      rw [hb] at h
      dsimp only at h
      have hv := hx.ptrI hb
      subst hv
      obtain ⟨blk, h1, h2, rfl, ho⟩ := getB_some hb
      unfold getVar at h
      cases g with
      | true =>
        simp only [if_true] at h
        by_cases hle : off + n ≤ blk.cs.length
        · rw [if_pos hle] at h
          cases h
          obtain ⟨us, hul, huc, huv⟩ := hS.cells h1 ho off n hle
          refine ⟨.agg us.toArray, .agg _ _ (by simp [hul]; omega) fun i i1 i2 => ?_, fun w' hb' => ?_⟩
          · have := huv i (by simpa using i1) (by simpa using i2)
            simpa using this
          · have hr := run_loadVar_agg hl w' (σ r).b ((σ r).base + off) us hul fun j u hj => by
              rw [hb'.cell (p := ⟨(σ r).b, (σ r).base + off + j, none⟩) (hS.lt h1 ho)]; exact (huc j u hj).1
            simp [Instr.loadAt, Instr.sureAddr, hr]
        · rw [if_neg hle] at h; cases h
      | false =>
        simp only [Bool.false_eq_true, if_false] at h
        obtain ⟨u, hu, huv, _⟩ := hS.cell h1 ho h
        refine ⟨u, huv, fun w' hb' => ?_⟩
        have hr := run_loadVar_one hl w' (σ r).b ((σ r).base + off) u (by rw [hb'.cell (p := ⟨(σ r).b, (σ r).base + off, none⟩) (hS.lt h1 ho)]; exact hu)
        simp [Instr.loadAt, Instr.sureAddr, hr]

end Go.BM
