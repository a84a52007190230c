/- What an argument that reads as data is, told by lists. -/
import Derived.Test.YtfggnccpbdfpeaaC16
import Derived.OpenShut
import Derived.Carry
import Derived.ChangeOld
import Derived.ChangeSame
import Derived.SizedLaws
set_option linter.unusedVariables false
namespace Go.BM
open Go.RowKit

/-- All memory as it is. -/
def allM (W : World) : Sg := ⟨fun _ => ⟨0, 0, 0⟩, fun a => if a.spot = none then (match W.cell? a with | some u => if u.oneCell' = true then some u else none | none => none) else none⟩
theorem allM_im {W : World} {a : Addr} {u : Value} (hs : a.spot = none) (h : W.cell? a = some u) (h1 : u.oneCell' = true) : (allM W).im a = some u := by
  unfold allM
  simp only [hs, if_true, h, h1]
theorem allM_sim (W : World) : Sim (allM W) [] W where
  own := fun r b h => by simp at h
  im := fun a u h => by
    unfold allM at h
    dsimp only at h
    split at h
    case isFalse => cases h
    rename_i hs
    split at h
    case h_2 => cases h
    rename_i u' hu
    split at h
    case isFalse => cases h
    rename_i h1
    cases h
    exact ⟨hu, hs, h1⟩
  sep := fun a u h r blk hb => by simp at hb
  inj := fun r r' b b' h => by simp at h

def laidF (P : Program) (tot : Nat) : Nat → List Field → Bool
  | off, [] => off == tot
  | off, f :: fs => f.offset == off && laidF P tot (off + P.cellsOf f.type) fs

/-- Types of numbers, bools, strings, structs and slices. -/
def plainT (P : Program) : Nat → TypeId → Bool
  | 0, _ => false
  | n + 1, t =>
    match P.underlying t with
    | some (.int _) => true
    | some .bool => true
    | some .string => true
    | some (.slice e) => decide (0 < P.cellsOf e) && plainT P n e
    | some (.struct fs) => laidF P (P.cellsOf t) 0 fs.toList && fs.toList.all fun f => plainT P n f.type
    | _ => false

def AbL (R : TypeId → List Value → Prop) : List Field → List Value → Prop
  | [], cs => cs = []
  | f :: fs, cs => ∃ p q, cs = p ++ q ∧ R f.type p ∧ AbL R fs q

/-- Cells of a type, told by lists. -/
def Ab (P : Program) : Nat → TypeId → List Value → Prop
  | 0, _, _ => False
  | n + 1, t, cs =>
    match P.underlying t with
    | some (.int k) => ∃ i, cs = [.int k i] ∧ (Lit.int k i).wf = true
    | some .bool => ∃ b, cs = [.bool b]
    | some .string => ∃ s, cs = [.string s] ∧ s.size ≤ maxLen
    | some (.slice e) => ∃ xs : List (List Value), cs = [isl xs.length xs.flatten] ∧ xs.length ≤ maxLen ∧ ∀ x ∈ xs, x.length = P.cellsOf e ∧ Ab P n e x
    | some (.struct fs) => AbL (fun u c => Ab P n u c) fs.toList cs
    | _ => False

theorem flatten_get {c : Nat} (hc : 0 < c) : ∀ (xss : List (List Value)) (j : Nat), (∀ x ∈ xss, x.length = c) → xss.flatten[j]? = (xss[j / c]?).bind (·[j % c]?)
  | [], j, _ => by simp
  | x :: xss, j, h => by
    have hx := h x (by simp)
    simp only [List.flatten_cons]
    rcases Nat.lt_or_ge j c with hj | hj
    · rw [List.getElem?_append_left (by omega), Nat.div_eq_of_lt hj, Nat.mod_eq_of_lt hj]
      simp
    · rw [List.getElem?_append_right (by omega), flatten_get hc xss _ (fun y hy => h y (by simp [hy])), hx]
      have e1 : j / c = (j - c) / c + 1 := by rw [Nat.div_eq_sub_div hc hj]
      have e2 : j % c = (j - c) % c := by rw [Nat.mod_eq_sub_mod hj]
      rw [e1, e2, List.getElem?_cons_succ]

section
variable {H : Type} {enc : TypeId × Value → H} {P : Program} {W : World}

/-- What opening one type's cells comes to. -/
def Opens (enc : TypeId × Value → H) (P : Program) (W : World) (m n : Nat) : Prop :=
  ∀ (t : TypeId) (cs : List Value) (x : DataW H × List MemPlace), DataW.trod enc P W 0 (fun _ => true) true m t cs = some x → plainT P n t = true →
    ∃ as : List Value, VRL (allM W) [] cs as ∧ as.all Value.oneCell' = true ∧ Ab P n t as

theorem opens_list {m n : Nat} (ih : Opens enc P W m n) {e : TypeId} (hp : plainT P n e = true) : ∀ (css : List (List Value)), (∀ c ∈ css, ∃ x, DataW.trod enc P W 0 (fun _ => true) true m e c = some x) →
    ∃ ass : List (List Value), ass.length = css.length ∧ (∀ (j : Nat) d, ass[j]? = some d → ∃ c, css[j]? = some c ∧ VRL (allM W) [] c d) ∧ ∀ d ∈ ass, d.all Value.oneCell' = true ∧ Ab P n e d
  | [], _ => ⟨[], rfl, fun j d hd => by simp at hd, fun d hd => by simp at hd⟩
  | c :: css, hcs => by
    obtain ⟨x, hx⟩ := hcs c (by simp)
    obtain ⟨as, v1, o1, b1⟩ := ih e c x hx hp
    obtain ⟨ass, l2, v2, b2⟩ := opens_list ih hp css (fun c hc => hcs c (by simp [hc]))
    refine ⟨as :: ass, by simp [l2], fun j d hd => ?_, fun d hd => ?_⟩
    · cases j with
      | zero => simp at hd; subst hd; exact ⟨c, rfl, v1⟩
      | succ j =>
        simp at hd
        obtain ⟨c', h1, h2⟩ := v2 j d hd
        exact ⟨c', by simpa using h1, h2⟩
    · rcases List.mem_cons.1 hd with rfl | hd
      · exact ⟨o1, b1⟩
      · exact b2 d hd

theorem opens_fields {m n : Nat} (ih : Opens enc P W m n) {tot : Nat} {cs : List Value} (hl : cs.length = tot) : ∀ (fs : List Field) (off : Nat) (xs : List (DataW H × List MemPlace)), laidF P tot off fs = true → fs.all (fun f => plainT P n f.type) = true → off ≤ tot →
    (fs.mapM fun f => DataW.trod enc P W 0 (fun _ => true) true m f.type ((cs.drop f.offset).take (P.cellsOf f.type))) = some xs →
    ∃ as : List Value, VRL (allM W) [] (cs.drop off) as ∧ as.all Value.oneCell' = true ∧ AbL (fun u c => Ab P n u c) fs as
  | [], off, xs, h1, _, h3, h4 => by
    simp only [laidF, beq_iff_eq] at h1
    refine ⟨[], ?_, rfl, rfl⟩
    rw [List.drop_eq_nil_of_le (by omega)]
    exact ⟨rfl, fun j u hu => by simp at hu⟩
  | f :: fs, off, xs, h1, h2, h3, h4 => by
    simp only [laidF, Bool.and_eq_true, beq_iff_eq] at h1
    simp only [List.all_cons, Bool.and_eq_true] at h2
    rw [List.mapM_cons] at h4
    simp only [bind, Option.bind_eq_some_iff, pure, Option.some.injEq] at h4
    obtain ⟨y, hy, ys, hys, rfl⟩ := h4
    have hle : ∀ (fs : List Field) (off : Nat), laidF P tot off fs = true → off ≤ tot := fun fs => by
      induction fs with
      | nil => intro off h; simp only [laidF, beq_iff_eq] at h; omega
      | cons f fs ihh => intro off h; simp only [laidF, Bool.and_eq_true, beq_iff_eq] at h; have := ihh _ h.2; omega
    have hoff := hle fs _ h1.2
    obtain ⟨as, v1, o1, b1⟩ := ih f.type _ y hy h2.1
    obtain ⟨bs, v2, o2, b2⟩ := opens_fields ih hl fs (off + P.cellsOf f.type) ys h1.2 h2.2 hoff hys
    rw [h1.1] at v1
    refine ⟨as ++ bs, ?_, by rw [List.all_append, o1, o2]; rfl, as, bs, rfl, b1, b2⟩
    have := v1.append v2
    rw [← List.drop_drop, List.take_append_drop] at this
    exact this

theorem cells?_at {W : World} {a : Addr} {n : Nat} {cs : List Value} (h : W.cells? 0 a n = some cs) : cs.length = n ∧ ∀ (j : Nat) u, cs[j]? = some u → W.cell? (a.add j) = some u := by
  unfold World.cells? at h
  rw [if_pos (Nat.zero_le _)] at h
  have hl := mapM_some_length h
  simp only [List.length_range] at hl
  refine ⟨hl, fun j u hu => ?_⟩
  have hj : j < n := by have := lt_of_some'' hu; omega
  rw [mapM_some_get h j j (by rw [List.getElem?_range hj]), hu]

theorem opens_all : ∀ (m n : Nat), Opens enc P W m n
  | 0, n => fun t cs x h => by simp [DataW.trod] at h
  | m + 1, 0 => fun t cs x h hp => by simp [plainT] at hp
  | m + 1, n + 1 => fun t cs x h hp => by
    have flatC : ∀ (v : Value), flatV v = true → v.oneCell' = true → Ab P (n + 1) t [v] → ∃ as : List Value, VRL (allM W) [] [v] as ∧ as.all Value.oneCell' = true ∧ Ab P (n + 1) t as := fun v hf ho hab =>
      ⟨[v], ⟨rfl, fun j u hu => ⟨u, hu, by
        have hj : j = 0 := by have := lt_of_some'' hu; simpa using this
        subst hj
        simp at hu
        subst hu
        exact .flat _ hf⟩⟩, by simp [ho], hab⟩
    unfold plainT at hp
    unfold DataW.trod at h
    cases hu : P.underlying t with
    | none => rw [hu] at hp; cases hp
    | some desc =>
      rw [hu] at hp h
      cases desc with
      | int k =>
        obtain ⟨i, rfl, hw⟩ : ∃ i, cs = [.int k i] ∧ (Lit.int k i).wf = true := by
          split at h <;> simp_all
        exact flatC _ rfl rfl (by unfold Ab; rw [hu]; exact ⟨i, rfl, hw⟩)
      | bool =>
        obtain ⟨i, rfl⟩ : ∃ i, cs = [.bool i] := by
          split at h <;> simp_all
        exact flatC _ rfl rfl (by unfold Ab; rw [hu]; exact ⟨i, rfl⟩)
      | string =>
        obtain ⟨i, rfl, hw⟩ : ∃ i, cs = [.string i] ∧ i.size ≤ maxLen := by
          split at h <;> simp_all
        exact flatC _ rfl rfl (by unfold Ab; rw [hu]; exact ⟨i, rfl, hw⟩)
      | struct fs =>
        simp only [Bool.and_eq_true] at hp
        obtain ⟨hl, xs, hxs⟩ : cs.length = P.cellsOf t ∧ ∃ xs, (fs.toList.mapM fun f => DataW.trod enc P W 0 (fun _ => true) true m f.type ((cs.drop f.offset).take (P.cellsOf f.type))) = some xs := by
          split at h <;> simp_all
          exact ⟨_, h.2.choose_spec.1⟩
        obtain ⟨as, h3, h4, h5⟩ := opens_fields (opens_all m n) hl fs.toList 0 xs hp.1 hp.2 (Nat.zero_le _) hxs
        exact ⟨as, by simpa using h3, h4, by unfold Ab; rw [hu]; exact h5⟩
      | slice e =>
        simp only [Bool.and_eq_true, decide_eq_true_eq] at hp
        have nilC : ∀ (a : Option Addr), cs = [.slice a 0 0] → ∃ as : List Value, VRL (allM W) [] cs as ∧ as.all Value.oneCell' = true ∧ Ab P (n + 1) t as := fun a hcs => by
          subst hcs
          refine ⟨[isl 0 []], ⟨rfl, fun j u hu => ?_⟩, rfl, by unfold Ab; rw [hu]; exact ⟨[], rfl, Nat.zero_le _, fun x hx => by simp at hx⟩⟩
          have hj : j = 0 := by have := lt_of_some'' hu; simpa using this
          subst hj
          simp at hu
          subst hu
          have := VR.isl0 (σ := allM W) (H := []) a 0 (Nat.zero_le _)
          exact ⟨_, rfl, by simpa [isl] using this⟩
        have hcase : cs = [.slice none 0 0] ∨ ∃ (a : Addr) (len cap : Nat) (elems rest : List (DataW H × List MemPlace)), cs = [.slice (some a) len cap] ∧ len ≤ cap ∧ cap ≤ maxLen ∧
            ((List.range len).mapM fun i => (W.cells? 0 (a.add (i * P.cellsOf e)) (P.cellsOf e)).bind (DataW.trod enc P W 0 (fun _ => true) true m e)) = some elems ∧
            ((List.range (cap - len)).mapM fun j => (W.cells? 0 (a.add ((len + j) * P.cellsOf e)) (P.cellsOf e)).bind (DataW.trod enc P W 0 (fun _ => true) true m e)) = some rest := by
          split at h <;> simp_all
          obtain ⟨elems, h1, h2⟩ := Option.bind_eq_some_iff.1 h.2
          obtain ⟨rest, h3, _⟩ := Option.map_eq_some_iff.1 h2
          exact ⟨_, _, _, ⟨rfl, rfl, rfl⟩, h.1.1, h.1.2, ⟨_, h1⟩, ⟨_, h3⟩⟩
        rcases hcase with hcs | ⟨a, len, cap, elems, rest, hcs, hlc, hcm, h1, h2⟩
        · exact nilC none hcs
        by_cases hl0 : len = 0
        · subst hl0
          subst hcs
          refine ⟨[isl 0 []], ⟨rfl, fun j u hu => ?_⟩, rfl, by unfold Ab; rw [hu]; exact ⟨[], rfl, Nat.zero_le _, fun x hx => by simp at hx⟩⟩
          have hj : j = 0 := by have := lt_of_some'' hu; simpa using this
          subst hj
          simp at hu
          subst hu
          have := VR.isl0 (σ := allM W) (H := []) (some a) cap hcm
          exact ⟨_, rfl, by simpa [isl] using this⟩
        -- the elements' cells
        have el : ∀ i, i < len → ∃ c x, W.cells? 0 (a.add (i * P.cellsOf e)) (P.cellsOf e) = some c ∧ DataW.trod enc P W 0 (fun _ => true) true m e c = some x := fun i hi => by
          have := mapM_some_get h1 i i (by rw [List.getElem?_range hi])
          have hlen := mapM_some_length h1
          simp only [List.length_range] at hlen
          rw [List.getElem?_eq_getElem (by omega)] at this
          obtain ⟨c, hc, hx⟩ := Option.bind_eq_some_iff.1 this
          exact ⟨c, _, hc, hx⟩
        have spot : a.spot = none := by
          obtain ⟨c, x, hc, hx⟩ := el 0 (by omega)
          obtain ⟨c1, c2⟩ := cells?_at hc
          have := c2 0 c[0] (List.getElem?_eq_getElem (by omega))
          simpa [Addr.add] using World.cell?_spot this
        obtain ⟨ab, ao, as'⟩ := a
        dsimp only at spot
        subst spot
        have hch : ∃ css : List (List Value), css.length = len ∧ ∀ (i : Nat) c, css[i]? = some c → W.cells? 0 (Addr.add ⟨ab, ao, none⟩ (i * P.cellsOf e)) (P.cellsOf e) = some c ∧ ∃ x, DataW.trod enc P W 0 (fun _ => true) true m e c = some x := by
          have : ∀ k, k ≤ len → ∃ css : List (List Value), css.length = k ∧ ∀ (i : Nat) c, css[i]? = some c → W.cells? 0 (Addr.add ⟨ab, ao, none⟩ (i * P.cellsOf e)) (P.cellsOf e) = some c ∧ ∃ x, DataW.trod enc P W 0 (fun _ => true) true m e c = some x := by
            intro k
            induction k with
            | zero => exact fun _ => ⟨[], rfl, fun i c hc => by simp at hc⟩
            | succ k ihk =>
              intro hk
              obtain ⟨css, l1, l2⟩ := ihk (by omega)
              obtain ⟨c, x, hc, hx⟩ := el k (by omega)
              refine ⟨css ++ [c], by simp [l1], fun i c' hc' => ?_⟩
              rcases Nat.lt_or_ge i css.length with hi | hi
              · rw [List.getElem?_append_left hi] at hc'; exact l2 i c' hc'
              · rw [List.getElem?_append_right hi] at hc'
                have := lt_of_some'' hc'
                simp at this
                have hi0 : i - css.length = 0 := by omega
                rw [hi0] at hc'
                simp at hc'
                subst hc'
                have : i = k := by omega
                subst this
                exact ⟨hc, x, hx⟩
          exact this len (Nat.le_refl _)
        obtain ⟨css, cl, hcs2⟩ := hch
        obtain ⟨ass, l1, v1, b1⟩ := opens_list (opens_all m n) hp.2 css (fun c hc => by
          obtain ⟨i, hi, rfl⟩ := List.getElem_of_mem hc
          exact (hcs2 i _ (List.getElem?_eq_getElem hi)).2)
        have hlenE : ∀ d ∈ ass, d.length = P.cellsOf e := fun d hd => by
          obtain ⟨i, hi, rfl⟩ := List.getElem_of_mem hd
          obtain ⟨c, hc, hv⟩ := v1 i _ (List.getElem?_eq_getElem hi)
          rw [← hv.1]
          exact (cells?_at (hcs2 i c hc).1).1
        have hlenC : ∀ c ∈ css, c.length = P.cellsOf e := fun c hc => by
          obtain ⟨i, hi, rfl⟩ := List.getElem_of_mem hc
          exact (cells?_at (hcs2 i _ (List.getElem?_eq_getElem hi)).1).1
        have hflat : ∀ xss : List (List Value), (∀ x ∈ xss, x.length = P.cellsOf e) → xss.flatten.length = xss.length * P.cellsOf e := by
          intro xss
          induction xss with
          | nil => simp
          | cons x xss ihx =>
            intro hx
            rw [List.flatten_cons, List.length_append, hx x (by simp), ihx fun y hy => hx y (by simp [hy]), List.length_cons, Nat.add_mul, Nat.one_mul, Nat.add_comm]
        have hvr : VR (allM W) [] (.slice (some ⟨ab, ao, none⟩) len cap) (BM.isl len ass.flatten) := by
          refine VR.mkI (us := css.flatten) hlc hcm (by rw [hflat _ hlenE, hflat _ hlenC, l1]) (fun j u hj => ?_) fun j v hj => ?_
          · rw [flatten_get hp.1 css j hlenC] at hj
            obtain ⟨c, hc, hq⟩ := Option.bind_eq_some_iff.1 hj
            have h3 := (cells?_at (hcs2 _ c hc).1).2 _ u hq
            rw [Addr.add_add] at h3
            have e1 : j / P.cellsOf e * P.cellsOf e + j % P.cellsOf e = j := Nat.div_add_mod' j _
            rw [e1, add_plain'] at h3
            have hjl : j / P.cellsOf e < ass.length := by rw [l1]; exact lt_of_some'' hc
            obtain ⟨c', hc', hv'⟩ := v1 _ _ (List.getElem?_eq_getElem hjl)
            rw [hc] at hc'
            cases hc'
            have hdl : j % P.cellsOf e < (ass[j / P.cellsOf e]).length := by rw [hlenE _ (List.getElem_mem hjl)]; exact Nat.mod_lt _ hp.1
            obtain ⟨x, hx1, hx2⟩ := hv'.2 _ _ (List.getElem?_eq_getElem hdl)
            rw [hq] at hx1
            cases hx1
            refine allM_im rfl h3 ?_
            rw [hx2.one]
            exact List.all_eq_true.1 (b1 _ (List.getElem_mem hjl)).1 _ (List.getElem_mem hdl)
          · rw [flatten_get hp.1 ass j hlenE] at hj
            obtain ⟨d, hd, hq⟩ := Option.bind_eq_some_iff.1 hj
            obtain ⟨c, hc, hv⟩ := v1 _ d hd
            obtain ⟨u, hu1, hu2⟩ := hv.2 _ v hq
            exact ⟨u, by rw [flatten_get hp.1 css j hlenC, hc]; exact hu1, hu2⟩
        subst hcs
        refine ⟨[isl len ass.flatten], ⟨rfl, fun j u hu => ?_⟩, rfl, ?_⟩
        · have hj : j = 0 := by have := lt_of_some'' hu; simpa using this
          subst hj
          simp at hu
          subst hu
          exact ⟨_, rfl, hvr⟩
        · unfold Ab
          rw [hu]
          exact ⟨ass, by rw [l1, cl], by omega, fun x hx => ⟨hlenE x hx, (b1 x hx).2⟩⟩
      | _ => cases hp

end
end Go.BM
