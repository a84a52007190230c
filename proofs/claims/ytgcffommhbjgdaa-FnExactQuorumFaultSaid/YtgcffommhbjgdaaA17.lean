/- What an argument that reads as data is, told by lists. -/
import Derived.Test.YtgcffommhbjgdaaA16
import Derived.OpenShut
import Derived.Carry
import Derived.ChangeOld
import Derived.ChangeSame
import Derived.SizedLaws
set_option linter.unusedVariables false
namespace Go.AM
open Go.RowKit

theorem VR.ext {σ σ' : Nat → Loc} {A N : AH} (hσ : ∀ r, r < A.length → σ' r = σ r) {v d : Value} (h : VR σ A v d) : VR σ' (A ++ N) v d := by
  have up : ∀ {r : Nat} {b : Blk}, A[r]? = some b → (A ++ N)[r]? = some b ∧ σ' r = σ r := fun {r b} hb => ⟨by rw [List.getElem?_append_left (lt_of_some hb)]; exact hb, hσ r (lt_of_some hb)⟩
  induction h with
  | flat v h => exact .flat v h
  | mt a d ver => exact .mt a d ver
  | ptr r off ver blk h hv =>
    have := VR.ptr (σ := σ') (H := A ++ N) r off ver blk (up h).1 hv
    rw [(up h).2] at this
    exact this
  | sptr r off ver blk h hv a => exact .sptr r off ver blk (up h).1 hv a
  | slice r off len cap ver blk h hv hl hm hc =>
    have := VR.slice (σ := σ') (H := A ++ N) r off len cap ver blk (up h).1 hv hl hm (fun ho => by rw [(up h).2]; exact hc ho)
    rw [(up h).2] at this
    exact this
  | stale r off len ver blk h hv a l c => exact .stale r off len ver blk (up h).1 hv a l c
  | agg xs ys hs h ih => exact .agg xs ys hs ih
  | tuple xs ys hs h ih => exact .tuple xs ys hs ih
  | func fn xs ys hs h ih => exact .func fn xs ys hs ih

theorem VRL.ext {σ σ' : Nat → Loc} {A N : AH} (hσ : ∀ r, r < A.length → σ' r = σ r) {vs ds : List Value} (h : VRL σ A vs ds) : VRL σ' (A ++ N) vs ds :=
  ⟨h.1, fun j u hu => by obtain ⟨x, h1, h2⟩ := h.2 j u hu; exact ⟨x, h1, h2.ext hσ⟩⟩

/-- Lists that are only read. -/
structure RO (σ : Nat → Loc) (A : AH) (W : World) : Prop where
  sim : Sim σ A W
  ro : ∀ (r : Nat) (b : Blk), A[r]? = some b → b.own = false

theorem RO.nil (σ : Nat → Loc) (W : World) : RO σ [] W :=
  ⟨⟨fun r b h => by simp at h, fun r b h => by simp at h, fun r r' b b' h => by simp at h⟩, fun r b h => by simp at h⟩

theorem RO.add {σ : Nat → Loc} {A : AH} {W : World} (h : RO σ A W) (blk : Blk) (ho : blk.own = false) (L : Loc)
    (hc : ∀ (j : Nat) v, blk.cs[j]? = some v → ∃ u, W.cell? ⟨L.b, L.base + j, none⟩ = some u ∧ VR σ A u v ∧ u.oneCell' = true) :
    RO (fun q => if q = A.length then L else σ q) (A ++ [blk]) W := by
  have hσ : ∀ r, r < A.length → (fun q => if q = A.length then L else σ q) r = σ r := fun r hr => by dsimp only; rw [if_neg (by omega)]
  have getq : ∀ (q : Nat) (bq : Blk), (A ++ [blk])[q]? = some bq → (q = A.length ∧ bq = blk) ∨ (q < A.length ∧ A[q]? = some bq) := fun q bq hb => by
    rcases Nat.lt_or_ge q A.length with h1 | h1
    · rw [List.getElem?_append_left h1] at hb; exact .inr ⟨h1, hb⟩
    · rw [List.getElem?_append_right h1] at hb
      have hq := lt_of_some'' hb
      simp at hq
      have : q - A.length = 0 := by omega
      rw [this] at hb
      simp at hb
      exact .inl ⟨by omega, hb.symm⟩
  have hro : ∀ (r : Nat) (b : Blk), (A ++ [blk])[r]? = some b → b.own = false := fun r b hb => by
    rcases getq r b hb with ⟨_, rfl⟩ | ⟨_, hb'⟩
    · exact ho
    · exact h.ro r b hb'
  refine ⟨⟨fun r b hb hown => (by rw [hro r b hb] at hown; cases hown), fun r b hb _ j v hj => ?_, fun r r' b b' hb hb' _ hown _ => (by rw [hro r b hb] at hown; cases hown)⟩, hro⟩
  rcases getq r b hb with ⟨rfl, rfl⟩ | ⟨hr, hb'⟩
  · obtain ⟨u, h1, h2, h3⟩ := hc j v hj
    exact ⟨u, by simp only [if_true]; exact h1, h2.ext hσ, h3⟩
  · obtain ⟨u, h1, h2, h3⟩ := h.sim.ro r b hb' (h.ro r b hb') j v hj
    exact ⟨u, by rw [if_neg (by omega)]; exact h1, h2.ext hσ, h3⟩

def laidF (P : Program) (tot : Nat) : Nat → List Field → Bool
  | off, [] => off == tot
  | off, f :: fs => f.offset == off && laidF P tot (off + P.cellsOf f.type) fs

/-- Types of numbers, bools, strings, structs and slices. -/
def plainT (P : Program) : Nat → TypeId → Bool
  | 0, _ => false
  | n + 1, t =>
    match P.underlying t with
    | some (.int _) => true
    | some .bool => true
    | some .string => true
    | some (.slice e) => decide (0 < P.cellsOf e) && plainT P n e
    | some (.struct fs) => laidF P (P.cellsOf t) 0 fs.toList && fs.toList.all fun f => plainT P n f.type
    | _ => false

def AbL (R : TypeId → List Value → Prop) : List Field → List Value → Prop
  | [], cs => cs = []
  | f :: fs, cs => ∃ p q, cs = p ++ q ∧ R f.type p ∧ AbL R fs q

/-- Cells of a type, told by lists. -/
def Ab (P : Program) (A : AH) : Nat → TypeId → List Value → Prop
  | 0, _, _ => False
  | n + 1, t, cs =>
    match P.underlying t with
    | some (.int k) => ∃ i, cs = [.int k i] ∧ (Lit.int k i).wf = true
    | some .bool => ∃ b, cs = [.bool b]
    | some .string => ∃ s, cs = [.string s] ∧ s.size ≤ maxLen
    | some (.slice e) => cs = [.slice none 0 0] ∨ ∃ (r : Nat) (xs : List (List Value)) (blk : Blk), cs = [.slice (some ⟨r, 0, none⟩) xs.length 0] ∧ A[r]? = some blk ∧ blk.ver = 0 ∧ blk.sz = P.cellsOf e ∧ blk.cs = xs.flatten ∧ xs.length ≤ maxLen ∧
        ∀ x ∈ xs, x.length = P.cellsOf e ∧ Ab P A n e x
    | some (.struct fs) => AbL (fun u c => Ab P A n u c) fs.toList cs
    | _ => False

theorem AbL.mono {R R' : TypeId → List Value → Prop} (h : ∀ t cs, R t cs → R' t cs) : ∀ {fs : List Field} {cs : List Value}, AbL R fs cs → AbL R' fs cs
  | [], _, hc => hc
  | f :: fs, cs, ⟨p, q, h1, h2, h3⟩ => ⟨p, q, h1, h _ _ h2, AbL.mono h h3⟩

theorem Ab.more {P : Program} {A : AH} (N : AH) : ∀ (n : Nat) (t : TypeId) (cs : List Value), Ab P A n t cs → Ab P (A ++ N) n t cs
  | 0, _, _, h => h
  | n + 1, t, cs, h => by
    unfold Ab at h ⊢
    split
    · rename_i k e; rw [e] at h; exact h
    · rename_i e; rw [e] at h; exact h
    · rename_i e; rw [e] at h; exact h
    · rename_i e0 e
      rw [e] at h
      rcases h with h | ⟨r, xs, blk, h1, h2, h3, h4, h5, h6, h7⟩
      · exact .inl h
      · exact .inr ⟨r, xs, blk, h1, by rw [List.getElem?_append_left (lt_of_some h2)]; exact h2, h3, h4, h5, h6, fun x hx => ⟨(h7 x hx).1, Ab.more N n e0 x (h7 x hx).2⟩⟩
    · rename_i fs e
      rw [e] at h
      exact AbL.mono (fun t cs hc => Ab.more N n t cs hc) h
    · rename_i h1 h2 h3 h4 h5
      split at h
      · rename_i k e; exact absurd e (h1 k)
      · rename_i e; exact absurd e h2
      · rename_i e; exact absurd e h3
      · rename_i k e; exact absurd e (h4 k)
      · rename_i k e; exact absurd e (h5 k)
      · exact h

theorem flatten_get {c : Nat} (hc : 0 < c) : ∀ (xss : List (List Value)) (j : Nat), (∀ x ∈ xss, x.length = c) → xss.flatten[j]? = (xss[j / c]?).bind (·[j % c]?)
  | [], j, _ => by simp
  | x :: xss, j, h => by
    have hx := h x (by simp)
    simp only [List.flatten_cons]
    rcases Nat.lt_or_ge j c with hj | hj
    · rw [List.getElem?_append_left (by omega), Nat.div_eq_of_lt hj, Nat.mod_eq_of_lt hj]
      simp
    · rw [List.getElem?_append_right (by omega), flatten_get hc xss _ (fun y hy => h y (by simp [hy])), hx]
      have e1 : j / c = (j - c) / c + 1 := by rw [Nat.div_eq_sub_div hc hj]
      have e2 : j % c = (j - c) % c := by rw [Nat.mod_eq_sub_mod hj]
      rw [e1, e2, List.getElem?_cons_succ]

section
variable {H : Type} {enc : TypeId × Value → H} {P : Program} {W : World}

/-- What opening one type's cells comes to. -/
def Opens (enc : TypeId × Value → H) (P : Program) (W : World) (m n : Nat) : Prop :=
  ∀ (t : TypeId) (cs : List Value) (x : DataW H × List MemPlace), DataW.trod enc P W 0 (fun _ => true) true m t cs = some x → plainT P n t = true → ∀ (σ : Nat → Loc) (A : AH), RO σ A W →
    ∃ (N : AH) (σ' : Nat → Loc) (as : List Value), (∀ r, r < A.length → σ' r = σ r) ∧ RO σ' (A ++ N) W ∧ VRL σ' (A ++ N) cs as ∧ as.all Value.oneCell' = true ∧ Ab P (A ++ N) n t as

theorem opens_list {m n : Nat} (ih : Opens enc P W m n) {e : TypeId} (hp : plainT P n e = true) : ∀ (css : List (List Value)), (∀ c ∈ css, ∃ x, DataW.trod enc P W 0 (fun _ => true) true m e c = some x) → ∀ (σ : Nat → Loc) (A : AH), RO σ A W →
    ∃ (N : AH) (σ' : Nat → Loc) (ass : List (List Value)), (∀ r, r < A.length → σ' r = σ r) ∧ RO σ' (A ++ N) W ∧ ass.length = css.length ∧ (∀ (j : Nat) d, ass[j]? = some d → ∃ c, css[j]? = some c ∧ VRL σ' (A ++ N) c d) ∧ ∀ d ∈ ass, d.all Value.oneCell' = true ∧ Ab P (A ++ N) n e d
  | [], _, σ, A, hA => ⟨[], σ, [], fun _ _ => rfl, by rw [List.append_nil]; exact hA, rfl, fun j d hd => by simp at hd, fun d hd => by simp at hd⟩
  | c :: css, hcs, σ, A, hA => by
    obtain ⟨x, hx⟩ := hcs c (by simp)
    obtain ⟨N1, σ1, as, s1, r1, v1, o1, b1⟩ := ih e c x hx hp σ A hA
    obtain ⟨N2, σ2, ass, s2, r2, l2, v2, b2⟩ := opens_list ih hp css (fun c hc => hcs c (by simp [hc])) σ1 (A ++ N1) r1
    rw [List.append_assoc] at r2 v2 b2
    refine ⟨N1 ++ N2, σ2, as :: ass, fun r hr => by rw [s2 r (by simp; omega), s1 r hr], r2, by simp [l2], fun j d hd => ?_, fun d hd => ?_⟩
    · cases j with
      | zero =>
        simp at hd
        subst hd
        have := v1.ext (N := N2) s2
        rw [List.append_assoc] at this
        exact ⟨c, rfl, this⟩
      | succ j =>
        simp at hd
        obtain ⟨c', h1, h2⟩ := v2 j d hd
        exact ⟨c', by simpa using h1, h2⟩
    · rcases List.mem_cons.1 hd with rfl | hd
      · have := b1.more N2
        rw [List.append_assoc] at this
        exact ⟨o1, this⟩
      · exact b2 d hd

theorem opens_fields {m n : Nat} (ih : Opens enc P W m n) {tot : Nat} {cs : List Value} (hl : cs.length = tot) : ∀ (fs : List Field) (off : Nat) (xs : List (DataW H × List MemPlace)), laidF P tot off fs = true → fs.all (fun f => plainT P n f.type) = true → off ≤ tot →
    (fs.mapM fun f => DataW.trod enc P W 0 (fun _ => true) true m f.type ((cs.drop f.offset).take (P.cellsOf f.type))) = some xs → ∀ (σ : Nat → Loc) (A : AH), RO σ A W →
    ∃ (N : AH) (σ' : Nat → Loc) (as : List Value), (∀ r, r < A.length → σ' r = σ r) ∧ RO σ' (A ++ N) W ∧ VRL σ' (A ++ N) (cs.drop off) as ∧ as.all Value.oneCell' = true ∧ AbL (fun u c => Ab P (A ++ N) n u c) fs as
  | [], off, xs, h1, _, h3, h4, σ, A, hA => by
    simp only [laidF, beq_iff_eq] at h1
    refine ⟨[], σ, [], fun _ _ => rfl, by rw [List.append_nil]; exact hA, ?_, rfl, rfl⟩
    rw [List.drop_eq_nil_of_le (by omega)]
    exact ⟨rfl, fun j u hu => by simp at hu⟩
  | f :: fs, off, xs, h1, h2, h3, h4, σ, A, hA => by
    simp only [laidF, Bool.and_eq_true, beq_iff_eq] at h1
    simp only [List.all_cons, Bool.and_eq_true] at h2
    rw [List.mapM_cons] at h4
    simp only [bind, Option.bind_eq_some_iff, pure, Option.some.injEq] at h4
    obtain ⟨y, hy, ys, hys, rfl⟩ := h4
    have hle : ∀ (fs : List Field) (off : Nat), laidF P tot off fs = true → off ≤ tot := fun fs => by
      induction fs with
      | nil => intro off h; simp only [laidF, beq_iff_eq] at h; omega
      | cons f fs ihh => intro off h; simp only [laidF, Bool.and_eq_true, beq_iff_eq] at h; have := ihh _ h.2; omega
    have hoff := hle fs _ h1.2
    obtain ⟨N1, σ1, as, s1, r1, v1, o1, b1⟩ := ih f.type _ y hy h2.1 σ A hA
    obtain ⟨N2, σ2, bs, s2, r2, v2, o2, b2⟩ := opens_fields ih hl fs (off + P.cellsOf f.type) ys h1.2 h2.2 hoff hys σ1 (A ++ N1) r1
    rw [List.append_assoc] at r2 v2 b2
    rw [h1.1] at v1
    have v1' := v1.ext (N := N2) s2
    rw [List.append_assoc] at v1'
    have b1' := b1.more N2
    rw [List.append_assoc] at b1'
    refine ⟨N1 ++ N2, σ2, as ++ bs, fun r hr => by rw [s2 r (by simp; omega), s1 r hr], r2, ?_, by rw [List.all_append, o1, o2]; rfl, as, bs, rfl, b1', b2⟩
    have := v1'.append v2
    rw [← List.drop_drop, List.take_append_drop] at this
    exact this

theorem cells?_at {W : World} {a : Addr} {n : Nat} {cs : List Value} (h : W.cells? 0 a n = some cs) : cs.length = n ∧ ∀ (j : Nat) u, cs[j]? = some u → W.cell? (a.add j) = some u := by
  unfold World.cells? at h
  rw [if_pos (Nat.zero_le _)] at h
  have hl := mapM_some_length h
  simp only [List.length_range] at hl
  refine ⟨hl, fun j u hu => ?_⟩
  have hj : j < n := by have := lt_of_some'' hu; omega
  rw [mapM_some_get h j j (by rw [List.getElem?_range hj]), hu]

theorem opens_all : ∀ (m n : Nat), Opens enc P W m n
  | 0, n => fun t cs x h => by simp [DataW.trod] at h
  | m + 1, 0 => fun t cs x h hp => by simp [plainT] at hp
  | m + 1, n + 1 => fun t cs x h hp σ A hA => by
    have flatC : ∀ (v : Value), flatV v = true → v.oneCell' = true → Ab P (A ++ []) (n + 1) t [v] → ∃ (N : AH) (σ' : Nat → Loc) (as : List Value), (∀ r, r < A.length → σ' r = σ r) ∧ RO σ' (A ++ N) W ∧ VRL σ' (A ++ N) [v] as ∧ as.all Value.oneCell' = true ∧ Ab P (A ++ N) (n + 1) t as := fun v hf ho hab =>
      ⟨[], σ, [v], fun _ _ => rfl, by rw [List.append_nil]; exact hA, ⟨rfl, fun j u hu => ⟨u, hu, by
        have hj : j = 0 := by have := lt_of_some'' hu; simpa using this
        subst hj
        simp at hu
        subst hu
        exact .flat _ hf⟩⟩, by simp [ho], hab⟩
    unfold plainT at hp
    unfold DataW.trod at h
    cases hu : P.underlying t with
    | none => rw [hu] at hp; cases hp
    | some desc =>
      rw [hu] at hp h
      cases desc with
      | int k =>
        obtain ⟨i, rfl, hw⟩ : ∃ i, cs = [.int k i] ∧ (Lit.int k i).wf = true := by
          split at h <;> simp_all
        exact flatC _ rfl rfl (by unfold Ab; rw [hu]; exact ⟨i, rfl, hw⟩)
      | bool =>
        obtain ⟨i, rfl⟩ : ∃ i, cs = [.bool i] := by
          split at h <;> simp_all
        exact flatC _ rfl rfl (by unfold Ab; rw [hu]; exact ⟨i, rfl⟩)
      | string =>
        obtain ⟨i, rfl, hw⟩ : ∃ i, cs = [.string i] ∧ i.size ≤ maxLen := by
          split at h <;> simp_all
        exact flatC _ rfl rfl (by unfold Ab; rw [hu]; exact ⟨i, rfl, hw⟩)
      | struct fs =>
        simp only [Bool.and_eq_true] at hp
        obtain ⟨hl, xs, hxs⟩ : cs.length = P.cellsOf t ∧ ∃ xs, (fs.toList.mapM fun f => DataW.trod enc P W 0 (fun _ => true) true m f.type ((cs.drop f.offset).take (P.cellsOf f.type))) = some xs := by
          split at h <;> simp_all
          exact ⟨_, h.2.choose_spec.1⟩
        obtain ⟨N, σ', as, h1, h2, h3, h4, h5⟩ := opens_fields (opens_all m n) hl fs.toList 0 xs hp.1 hp.2 (Nat.zero_le _) hxs σ A hA
        exact ⟨N, σ', as, h1, h2, by simpa using h3, h4, by unfold Ab; rw [hu]; exact h5⟩
      | slice e =>
        simp only [Bool.and_eq_true, decide_eq_true_eq] at hp
        have nilC : ∀ (a : Option Addr), cs = [.slice a 0 0] → ∃ (N : AH) (σ' : Nat → Loc) (as : List Value), (∀ r, r < A.length → σ' r = σ r) ∧ RO σ' (A ++ N) W ∧ VRL σ' (A ++ N) cs as ∧ as.all Value.oneCell' = true ∧ Ab P (A ++ N) (n + 1) t as := fun a hcs => by
          subst hcs
          refine ⟨[], σ, [.slice none 0 0], fun _ _ => rfl, by rw [List.append_nil]; exact hA, ⟨rfl, fun j u hu => ?_⟩, rfl, by unfold Ab; rw [hu]; exact .inl rfl⟩
          have hj : j = 0 := by have := lt_of_some'' hu; simpa using this
          subst hj
          simp at hu
          subst hu
          exact ⟨_, rfl, .mt _ _ _⟩
        have hcase : cs = [.slice none 0 0] ∨ ∃ (a : Addr) (len cap : Nat) (elems rest : List (DataW H × List MemPlace)), cs = [.slice (some a) len cap] ∧ len ≤ cap ∧ cap ≤ maxLen ∧
            ((List.range len).mapM fun i => (W.cells? 0 (a.add (i * P.cellsOf e)) (P.cellsOf e)).bind (DataW.trod enc P W 0 (fun _ => true) true m e)) = some elems ∧
            ((List.range (cap - len)).mapM fun j => (W.cells? 0 (a.add ((len + j) * P.cellsOf e)) (P.cellsOf e)).bind (DataW.trod enc P W 0 (fun _ => true) true m e)) = some rest := by
          split at h <;> simp_all
          obtain ⟨elems, h1, h2⟩ := Option.bind_eq_some_iff.1 h.2
          obtain ⟨rest, h3, _⟩ := Option.map_eq_some_iff.1 h2
          exact ⟨_, _, _, ⟨rfl, rfl, rfl⟩, h.1.1, h.1.2, ⟨_, h1⟩, ⟨_, h3⟩⟩
        rcases hcase with hcs | ⟨a, len, cap, elems, rest, hcs, hlc, hcm, h1, h2⟩
        · exact nilC none hcs
        by_cases hcap : cap = 0
        · subst hcap
          have : len = 0 := by omega
          subst this
          exact nilC _ hcs
        -- the elements' cells
        have el : ∀ i, i < len → ∃ c x, W.cells? 0 (a.add (i * P.cellsOf e)) (P.cellsOf e) = some c ∧ DataW.trod enc P W 0 (fun _ => true) true m e c = some x := fun i hi => by
          have := mapM_some_get h1 i i (by rw [List.getElem?_range hi])
          have hlen := mapM_some_length h1
          simp only [List.length_range] at hlen
          rw [List.getElem?_eq_getElem (by omega)] at this
          obtain ⟨c, hc, hx⟩ := Option.bind_eq_some_iff.1 this
          exact ⟨c, _, hc, hx⟩
        have spot : a.spot = none := by
          by_cases hl0 : len = 0
          · have := mapM_some_get h2 0 0 (by rw [List.getElem?_range (by omega)])
            have hlen := mapM_some_length h2
            simp only [List.length_range] at hlen
            rw [List.getElem?_eq_getElem (by omega)] at this
            obtain ⟨c, hc, hx⟩ := Option.bind_eq_some_iff.1 this
            obtain ⟨c1, c2⟩ := cells?_at hc
            have := c2 0 c[0] (List.getElem?_eq_getElem (by omega))
            rw [hl0] at this
            simpa [Addr.add] using World.cell?_spot this
          · obtain ⟨c, x, hc, hx⟩ := el 0 (by omega)
            obtain ⟨c1, c2⟩ := cells?_at hc
            have := c2 0 c[0] (List.getElem?_eq_getElem (by omega))
            simpa [Addr.add] using World.cell?_spot this
        obtain ⟨ab, ao, as'⟩ := a
        dsimp only at spot
        subst spot
        have hch : ∃ css : List (List Value), css.length = len ∧ ∀ (i : Nat) c, css[i]? = some c → W.cells? 0 (Addr.add ⟨ab, ao, none⟩ (i * P.cellsOf e)) (P.cellsOf e) = some c ∧ ∃ x, DataW.trod enc P W 0 (fun _ => true) true m e c = some x := by
          have : ∀ k, k ≤ len → ∃ css : List (List Value), css.length = k ∧ ∀ (i : Nat) c, css[i]? = some c → W.cells? 0 (Addr.add ⟨ab, ao, none⟩ (i * P.cellsOf e)) (P.cellsOf e) = some c ∧ ∃ x, DataW.trod enc P W 0 (fun _ => true) true m e c = some x := by
            intro k
            induction k with
            | zero => exact fun _ => ⟨[], rfl, fun i c hc => by simp at hc⟩
            | succ k ihk =>
              intro hk
              obtain ⟨css, l1, l2⟩ := ihk (by omega)
              obtain ⟨c, x, hc, hx⟩ := el k (by omega)
              refine ⟨css ++ [c], by simp [l1], fun i c' hc' => ?_⟩
              rcases Nat.lt_or_ge i css.length with hi | hi
              · rw [List.getElem?_append_left hi] at hc'; exact l2 i c' hc'
              · rw [List.getElem?_append_right hi] at hc'
                have := lt_of_some'' hc'
                simp at this
                have hi0 : i - css.length = 0 := by omega
                rw [hi0] at hc'
                simp at hc'
                subst hc'
                have : i = k := by omega
                subst this
                exact ⟨hc, x, hx⟩
          exact this len (Nat.le_refl _)
        obtain ⟨css, cl, hcs2⟩ := hch
        obtain ⟨N1, σ1, ass, s1, r1, l1, v1, b1⟩ := opens_list (opens_all m n) hp.2 css (fun c hc => by
          obtain ⟨i, hi, rfl⟩ := List.getElem_of_mem hc
          exact (hcs2 i _ (List.getElem?_eq_getElem hi)).2) σ A hA
        have hlenE : ∀ d ∈ ass, d.length = P.cellsOf e := fun d hd => by
          obtain ⟨i, hi, rfl⟩ := List.getElem_of_mem hd
          obtain ⟨c, hc, hv⟩ := v1 i _ (List.getElem?_eq_getElem hi)
          rw [← hv.1]
          exact (cells?_at (hcs2 i c hc).1).1
        have r2 := r1.add ⟨e, P.cellsOf e, ass.flatten, 0, false⟩ rfl ⟨ab, ao, 0⟩ (fun j v hj => by
          dsimp only at hj ⊢
          rw [flatten_get hp.1 ass j hlenE] at hj
          obtain ⟨d, hd, hq⟩ := Option.bind_eq_some_iff.1 hj
          obtain ⟨c, hc, hv⟩ := v1 _ d hd
          obtain ⟨u, hu1, hu2⟩ := hv.2 _ v hq
          have := (cells?_at (hcs2 _ c hc).1).2 _ u hu1
          refine ⟨u, ?_, hu2, ?_⟩
          · rw [Addr.add_add] at this
            have e1 : j / P.cellsOf e * P.cellsOf e + j % P.cellsOf e = j := Nat.div_add_mod' j _
            rw [e1, add_plain'] at this
            exact this
          · have hall := (b1 d (List.mem_of_getElem? hd)).1
            rw [hu2.one]
            rw [List.all_eq_true] at hall
            exact hall v (List.mem_of_getElem? hq))
        refine ⟨N1 ++ [⟨e, P.cellsOf e, ass.flatten, 0, false⟩], _, [.slice (some ⟨(A ++ N1).length, 0, none⟩) ass.length 0], fun r hr => ?_, by rw [← List.append_assoc]; exact r2, ?_, rfl, ?_⟩
        · have : r ≠ (A ++ N1).length := by simp; omega
          rw [if_neg this]
          exact s1 r hr
        · subst hcs
          refine ⟨rfl, fun j u hu => ?_⟩
          have hj : j = 0 := by have := lt_of_some'' hu; simpa using this
          subst hj
          simp at hu
          subst hu
          refine ⟨_, rfl, ?_⟩
          have hget : (A ++ (N1 ++ [⟨e, P.cellsOf e, ass.flatten, 0, false⟩]))[(A ++ N1).length]? = some ⟨e, P.cellsOf e, ass.flatten, 0, false⟩ := by
            rw [← List.append_assoc, get_app0]; rfl
          have := VR.slice (σ := fun q => if q = (A ++ N1).length then (⟨ab, ao, 0⟩ : Loc) else σ1 q) (A ++ N1).length 0 len cap 0 _ hget rfl hlc hcm (fun ho => by cases ho)
          simp only [if_true, Nat.add_zero] at this
          rw [show ass.length = len by omega]
          simpa using this
        · unfold Ab
          rw [hu]
          refine .inr ⟨(A ++ N1).length, ass, _, rfl, by rw [← List.append_assoc, get_app0]; rfl, rfl, rfl, rfl, by omega, fun x hx => ⟨hlenE x hx, ?_⟩⟩
          have := (b1 x hx).2.more [⟨e, P.cellsOf e, ass.flatten, 0, false⟩]
          rw [List.append_assoc] at this
          exact this
      | _ => cases hp

end
end Go.AM
