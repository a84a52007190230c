/- Cuts behind drawn regions: what is in hand, told anew. -/
import Derived.Test.YtdhincmlefpfkaaC29
import Derived.Test.YtdhincmlefpfkaaC27
set_option linter.unusedVariables false
set_option linter.unusedSimpArgs false
namespace Go.BM
open Go.RowKit
section
variable {P : Program} {n B : Nat} {c : Code} {Q : Exit → Env → AH → Prop} {e : Env} {H : AH} {f : FuncId} {args : List Value} {k : Value → AH → Prop} {os : List (Value × Value × List Nat)} {bs : List (Nat × Blk)} {b : Blk}
theorem AWp.absb (hc : Cx H os bs) (h : ∀ H', Cx H' os ((H.length, b) :: bs) → AWp P n B c Q e H') : AWp P n B c Q e (H ++ [b]) := h _ (hc.push b)
theorem ACalls.absbL (hc : Cx H os bs) (h : ∀ H', H'.length = H.length + 1 → Cx H' os ((H.length, b) :: bs) → ACalls P B f args H' k) : ACalls P B f args (H ++ [b]) k := h _ (by simp) (hc.push b)
/-- Behind a cut: a thing more in hand, and a box that holds it. -/
def CxE (hc : Cx H os bs) (q : Nat) (T : TypeId) (v : Value) (sh : List Value → Prop) (e' : Env) (H' : AH) : Prop :=
  ∃ (r : Nat) (xs : List Value) (S : List Nat), e' q = .pointer (some ⟨r, 0, some 0⟩) ∧ sh xs ∧ Cx H' (os ++ [(.agg xs.toArray, v, S)]) ((r, ⟨T, 0, xs, 0, true⟩) :: bs)
theorem get_c0 {N : AH} {b : Blk} : (N ++ [b])[N.length]? = some b := by simp
theorem get_c1 {b0 b : Blk} {N : AH} : (b0 :: (N ++ [b]))[N.length + 1]? = some b := by simp
theorem get_c2 {b0 b1 b : Blk} {N : AH} : (b0 :: b1 :: (N ++ [b]))[N.length + 1 + 1]? = some b := by simp
theorem get_c3 {b0 b1 b2 b : Blk} {N : AH} : (b0 :: b1 :: b2 :: (N ++ [b]))[N.length + 1 + 1 + 1]? = some b := by simp
theorem get_c4 {b0 b1 b2 b3 b : Blk} {N : AH} : (b0 :: b1 :: b2 :: b3 :: (N ++ [b]))[N.length + 1 + 1 + 1 + 1]? = some b := by simp
theorem get_c2m {b0 b1 b c : Blk} {N : AH} : (b0 :: b1 :: (N ++ [c, b]))[N.length + 1 + 1 + 1]? = some b := by rw [show N ++ [c, b] = (N ++ [c]) ++ [b] by simp, show N.length + 1 + 1 + 1 = (N ++ [c]).length + 1 + 1 by simp]; exact get_c2
theorem get_c3m {b0 b1 b2 b c : Blk} {N : AH} : (b0 :: b1 :: b2 :: (N ++ [c, b]))[N.length + 1 + 1 + 1 + 1]? = some b := by rw [show N ++ [c, b] = (N ++ [c]) ++ [b] by simp, show N.length + 1 + 1 + 1 + 1 = (N ++ [c]).length + 1 + 1 + 1 by simp]; exact get_c3
theorem DCalls.mono {T : TypeId} {c : Nat} {R R' : Value → Prop} (h : DCalls P T c f args R) (hR : ∀ v, R v → R' v) : DCalls P T c f args R' :=
  fun code a hc h0 h1 => (h code a hc h0 h1).mono fun d N ⟨v, a', S, g1, g2⟩ => ⟨v, a', S, hR v g1, g2⟩
def DFOut (T : TypeId) (c : Nat) (R : List Blk → ((Nat → Nat) → Value) → Prop) (code : List UInt8) (a : Int) (d : Value) (N : AH) : Prop :=
  ∃ bs F a' ρ, R bs F ∧ a ≤ a' ∧ a' ≤ a + (c : Nat) ∧ N[0]? = some (srcB T code a') ∧ d = F ρ ∧
    (∀ i, i < bs.length → ρ i ≠ 0 ∧ N[ρ i]? = bs[i]?) ∧ (∀ i j, i < bs.length → j < bs.length → ρ i = ρ j → i = j)
theorem DFOut.none {T : TypeId} {c : Nat} {R : List Blk → ((Nat → Nat) → Value) → Prop} {code : List UInt8} {a : Int} {d : Value} {N : AH} {F : (Nat → Nat) → Value} (a' : Int) (hN : N[0]? = some (srcB T code a')) (hR : R [] F) (hd : d = F fun _ => 0) (h1 : a ≤ a') (h2 : a' ≤ a + (c : Nat)) : DFOut T c R code a d N :=
  ⟨[], F, a', _, hR, h1, h2, hN, hd, fun i hi => by simp at hi, fun i j hi => by simp at hi⟩
theorem DFOut.one {T : TypeId} {c : Nat} {R : List Blk → ((Nat → Nat) → Value) → Prop} {code : List UInt8} {a : Int} {d : Value} {N : AH} {F : (Nat → Nat) → Value} {b : Blk} (a' : Int) (q : Nat) (hN : N[0]? = some (srcB T code a')) (hq : N[q]? = some b) (hR : R [b] F) (hd : d = F fun _ => q) (h0 : q ≠ 0) (h1 : a ≤ a') (h2 : a' ≤ a + (c : Nat)) : DFOut T c R code a d N :=
  ⟨[b], F, a', _, hR, h1, h2, hN, hd, fun i hi => by simp at hi; subst hi; exact ⟨h0, hq⟩, fun i j hi hj _ => by simp at hi hj; omega⟩
theorem DFOut.two {T : TypeId} {c : Nat} {R : List Blk → ((Nat → Nat) → Value) → Prop} {code : List UInt8} {a : Int} {d : Value} {N : AH} {F : (Nat → Nat) → Value} {b b' : Blk} (a' : Int) (q q' : Nat) (hN : N[0]? = some (srcB T code a')) (hq : N[q]? = some b) (hq' : N[q']? = some b') (hR : R [b, b'] F) (hd : d = F fun i => if i = 0 then q else q') (h0 : q ≠ 0) (h0' : q' ≠ 0) (hne : q ≠ q') (h1 : a ≤ a') (h2 : a' ≤ a + (c : Nat)) : DFOut T c R code a d N :=
  ⟨[b, b'], F, a', _, hR, h1, h2, hN, hd, fun i hi => by
    have : i = 0 ∨ i = 1 := by simp at hi; omega
    rcases this with rfl | rfl
    · exact ⟨h0, hq⟩
    · exact ⟨h0', hq'⟩, fun i j hi hj e => by
    have h1 : i = 0 ∨ i = 1 := by simp at hi; omega
    have h2 : j = 0 ∨ j = 1 := by simp at hj; omega
    rcases h1 with rfl | rfl <;> rcases h2 with rfl | rfl
    · rfl
    · simp at e; exact absurd e hne
    · simp at e; exact absurd e.symm hne
    · rfl⟩
/-- THE CONTRACT of a draw that hands back blocks of its own, each told: blocks, and the value out of their numbers. -/
def DFun (P : Program) (T : TypeId) (c : Nat) (f : FuncId) (args : List Value) (R : List Blk → ((Nat → Nat) → Value) → Prop) : Prop :=
  ∀ (code : List UInt8) (a : Int), code.length ≤ 1048576 → 0 ≤ a → a + (c : Nat) ≤ 1000000 → ACalls P 0 f (ptr0 :: args) [srcB T code a] fun d N => DFOut T c R code a d N
structure Shp (bs : List Blk) (F : (Nat → Nat) → Value) : Prop where
  fl : ∀ b ∈ bs, ∀ c ∈ b.cs, flatV c = true
  lif : ∀ N ρ k, Lif N ρ (fun i => i < bs.length) k (F ρ) (F fun i => k + i)
theorem DFun.use {T : TypeId} {c r : Nat} {R : List Blk → ((Nat → Nat) → Value) → Prop} {code : List UInt8} {a : Int} (h : DFun P T c f args R) (hsh : ∀ bs F, R bs F → Shp bs F) (hr : H[r]? = some (srcB T code a)) (hB : B ≤ r) (hi : ∀ d ∈ args, Im d) (hc : code.length ≤ 1048576) (h0 : 0 ≤ a) (h1 : a + (c : Nat) ≤ 1000000) :
    ACalls P B f (.pointer (some ⟨r, 0, some 0⟩) :: args) H fun d H' => ∃ bs F a', R bs F ∧ a ≤ a' ∧ a' ≤ a + (c : Nat) ∧ d = F (fun i => H.length + i) ∧ H' = H.set r (srcB T code a') ++ bs := by
  refine ACalls.liftS (h code a hc h0 h1) hr hB hi ?_
  rintro d N ⟨bs, F, a', ρ, hR, ha1, ha2, hN, rfl, hb, hinj⟩
  have sh := hsh bs F hR
  refine ⟨a', ρ, fun i => i < bs.length, bs, _, hN, fun i j hi hj e => hinj i j hi hj e, fun i hi => (hb i hi).1, sh.lif N ρ H.length, fun i b' hb' _ => lt_of_some hb', fun i hi => ?_, bs, F, a', hR, ha1, ha2, rfl, rfl⟩
  have hi' : i < bs.length := hi
  refine ⟨bs[i], bs[i], by rw [(hb i hi).2]; exact List.getElem?_eq_getElem hi', List.getElem?_eq_getElem hi', ⟨rfl, rfl, rfl, rfl, Nat.le_refl _, fun j v hj => ⟨v, hj, .flat v (sh.fl _ (List.getElem_mem hi') v (List.mem_of_getElem? hj))⟩⟩⟩
theorem DFun.calls {T : TypeId} {c : Nat} {R : List Blk → ((Nat → Nat) → Value) → Prop} {R' : Value → Prop} (h : DFun P T c f args R) (hv : ∀ bs F, R bs F → ∃ v, R' v ∧ ∀ N ρ, (∀ i, i < bs.length → N[ρ i]? = bs[i]?) → OwnL false N [F ρ] [v] ((List.range bs.length).map ρ)) : DCalls P T c f args R' :=
  fun code a hc h0 h1 => (h code a hc h0 h1).mono fun d N ⟨bs, F, a', ρ, hR, ha1, ha2, hN, hd, hb, hinj⟩ => by
    subst hd
    obtain ⟨v, hv1, hv2⟩ := hv bs F hR
    refine DOut.mk a' _ hN (hv2 N ρ fun i hi => (hb i hi).2) ?_ ?_ hv1 ha1 ha2
    · refine List.pairwise_map.2 ?_
      refine (List.pairwise_lt_range (n := bs.length)).imp_of_mem fun hi hj hlt e => ?_
      have := hinj _ _ (List.mem_range.1 hi) (List.mem_range.1 hj) e
      omega
    · intro hm
      obtain ⟨i, hi, e⟩ := List.mem_map.1 hm
      exact (hb i (List.mem_range.1 hi)).1 e
/-- One block: the value made of it. -/
theorem Shp.one {el sz ver : Nat} {o : Bool} {cs : List Value} {F : (Nat → Nat) → Value} (hf : ∀ c ∈ cs, flatV c = true) (hl : ∀ N ρ k, Lif N ρ (fun i => i < 1) k (F ρ) (F fun i => k + i)) : Shp [⟨el, sz, cs, ver, o⟩] F :=
  ⟨fun b hb c hc => by simp at hb; subst hb; exact hf c hc, hl⟩
theorem Shp.none {F : (Nat → Nat) → Value} (hl : ∀ N ρ k, Lif N ρ (fun i => i < 0) k (F ρ) (F fun i => k + i)) : Shp [] F := ⟨fun b hb => by simp at hb, hl⟩
theorem LifL.aggL {N : AH} {ρ : Nat → Nat} {q : Nat → Prop} {k : Nat} {xs m : List Value} (h : LifL N ρ q k xs m) : Lif N ρ q k (.agg xs.toArray) (.agg m.toArray) := LifL.agg (by simpa using h)
/-- One thing more, behind a list that is ours. -/
theorem appendH_one {α : Type} {E : Enc α} {H0 : AH} {t tx el by_ r ver : Nat} {z : TypeId × Nat × Nat} {ys : List α} (y : α) (hz : elZ P t = some (el, E.sz, by_)) (hzx : elZ P tx = some z) (hok : zOk P el E.sz = true) (hb : H0[r]? = some ⟨el, E.sz, E.flat ys, ver, true⟩) (hB : B ≤ r)
    (h1 : (ys.length + 1) * by_ ≤ 140737488355328) (h2 : ys.length + 1 ≤ 140737488355328) :
    appendH P B (H0 ++ [⟨el, E.sz, cellsV (E.val y), 0, true⟩]) t tx (.slice (some ⟨r, 0, none⟩) ys.length ver) (.slice (some ⟨H0.length, 0, none⟩) 1 0) = some (.slice (some ⟨r, 0, none⟩) (ys.length + 1) (ver + 1), H0.set r ⟨el, E.sz, E.flat (ys ++ [y]), ver + 1, true⟩ ++ [⟨el, E.sz, cellsV (E.val y), 0, true⟩]) := by
  have := appendH_sb (P := P) (B := B) (H := H0 ++ [⟨el, E.sz, cellsV (E.val y), 0, true⟩]) (E := E) (xs := ys) (ys := [y]) (r := r) (x := .slice (some ⟨H0.length, 0, none⟩) 1 0) (t := t) (tx := tx) (o := true) (ver := ver) hz hok (by rw [List.getElem?_append_left (lt_of_some hb)]; exact hb) hB
    (srcV_own hzx (by rw [List.getElem?_append_right (Nat.le_refl _), Nat.sub_self]; rfl) rfl rfl (by simp only [E.flat_one, List.drop_zero, List.length_cons, List.length_nil, Nat.zero_add, Nat.one_mul]; exact List.take_of_length_le (by rw [E.hsz]; exact Nat.le_refl _)) (by simp [E.hsz])) h1 h2
  rw [this, List.set_append_left _ _ (lt_of_some hb)]
  simp [sb]
end
end Go.BM
