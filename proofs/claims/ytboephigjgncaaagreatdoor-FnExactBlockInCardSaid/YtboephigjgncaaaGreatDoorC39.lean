/- The engine: texts C38, C39, C40, C41. -/
import Derived.Test.YtboephigjgncaaaGreatDoorC37
/- Drawn regions by what stands behind each operation: no order is told. -/
set_option linter.unusedVariables false
set_option linter.unusedSimpArgs false
namespace Go.BM
open Go.RowKit
def upL (L : Nat → Bool) (i : Nat) : Nat → Bool := fun q => if q = i then true else L q
theorem upL_self (L : Nat → Bool) (i : Nat) : upL L i i = true := by simp [upL]
theorem upL_ne (L : Nat → Bool) {i q : Nat} (h : q ≠ i) : upL L i q = L q := by simp [upL, h]
theorem cnt_lt {p p' : Nat → Bool} {i : Nat} (hle : ∀ x, p' x = true → p x = true) (hi : p i = true) (hi' : p' i = false) : ∀ l : List Nat, i ∈ l → l.countP p' + 1 ≤ l.countP p
  | x :: l, h => by
    have hm : l.countP p' ≤ l.countP p := List.countP_mono_left fun x _ => hle x
    rcases List.mem_cons.1 h with rfl | h
    · rw [List.countP_cons_of_neg (by simp [hi']), List.countP_cons_of_pos hi]; omega
    · have := cnt_lt hle hi hi' l h
      rw [List.countP_cons, List.countP_cons]
      by_cases hx : p' x = true
      · simp [hx, hle x hx]; omega
      · simp [hx]; split <;> omega
def acycB (ops : Array Oper) : Bool := (List.range ops.size).all fun i => match ops[i]? with | some o => o.after.all (fun e => !Region.binds .any e || decide (e.on < i)) | none => true
section
variable {P : Program} {B n : Nat} {σ0 : Sg} {H0 : AH} {w0 : World}
theorem mixI_sound {ops : Array Oper} (hops : ops.all (operOk n) = true) (hac : acycB ops = true) {I : (Nat → Bool) → Env → AH → Prop} {K : Env → AH → Prop}
    (hstep : ∀ L e H, I L e H → ∀ i o, ops[i]? = some o → L i = false → (∀ x ∈ o.after, Region.binds .any x = true → L x.on = true) → stepP P B ops i 2 (I (upL L i)) e H)
    (hend : ∀ L e H, I L e H → (∀ i, i < ops.size → L i = true) → K e H) : ∀ (fuel : Nat) (listed : Array Bool) (e : Env) (H : AH) (σ : Sg) (w : World) (a : Act),
      listed.size = ops.size → (List.range ops.size).countP (fun i => !listed.getD i true) ≤ fuel → Fut B σ0 H0 w0 σ H w → Sim σ H w → B ≤ H.length → ER n σ H a e → I (fun q => listed.getD q false) e H →
      wpAny P .any ops (RelN n B σ0 H0 w0 K) fuel listed a w := by
  have noReady : ∀ listed : Array Bool, listed.size = ops.size → Region.ready .any ops listed = [] → ∀ i, i < ops.size → listed.getD i false = true := fun listed hsz hr i => by
    induction i using Nat.strongRecOn with
    | _ i ih =>
      intro hi
      cases hl : listed.getD i false with
      | true => rfl
      | false =>
        exfalso
        have hl' : listed.getD i true = false := by
          have : i < listed.size := by omega
          simp [this] at hl ⊢; exact hl
        have hm : i ∈ Region.ready .any ops listed := mem_ready.2 ⟨hl', _, Array.getElem?_eq_getElem hi, fun x hx hb => by
          have h1 := List.all_eq_true.1 hac i (List.mem_range.2 hi)
          rw [Array.getElem?_eq_getElem hi] at h1
          dsimp only at h1
          have h2 := Array.all_eq_true'.1 h1 x hx
          rw [hb] at h2
          simp at h2
          exact ih x.on h2 (by omega)⟩
        rw [hr] at hm
        cases hm
  intro fuel
  induction fuel with
  | zero =>
    intro listed e H σ w a hsz hc F hS hB hE hI
    have hall : ∀ i, i < ops.size → listed.getD i true = true := fun i hi => by
      have h0 : (List.range ops.size).countP (fun i => !listed.getD i true) = 0 := by omega
      have := List.countP_eq_zero.1 h0 i (List.mem_range.2 hi)
      simpa using this
    have hr : Region.ready .any ops listed = [] := List.eq_nil_iff_forall_not_mem.2 fun i hi => by
      obtain ⟨h1, o, ho, _⟩ := mem_ready.1 hi
      rw [hall i (Array.getElem?_eq_some_iff.1 ho).1] at h1
      cases h1
    exact ⟨hr, ⟨σ, e, H, F, hS, hE, hend _ e H hI (noReady listed hsz hr)⟩⟩
  | succ fuel ih =>
    intro listed e H σ w a hsz hc F hS hB hE hI
    refine ⟨fun hr => ⟨σ, e, H, F, hS, hE, hend _ e H hI (noReady listed hsz hr)⟩, fun i hi => ?_⟩
    obtain ⟨h1, o, ho, hdep⟩ := mem_ready.1 hi
    have hi' : i < ops.size := (Array.getElem?_eq_some_iff.1 ho).1
    have hil : i < listed.size := by omega
    have h1f : listed.getD i false = false := by simp [hil] at h1 ⊢; exact h1
    have hst := hstep _ e H hI i o ho h1f hdep
    refine wpOp_mono (fun a' w' h => h.2) (eff_step (st := fun _ => false) hops (by omega) (.inr rfl) hS hB hE hst (W := fun a' w' => wpAny P .any ops (RelN n B σ0 H0 w0 K) fuel (listed.setIfInBounds i true) a' w') ?_)
    intro o' ho' hd v d w' σ' H' F' S' V' hI'
    refine ih _ _ H' σ' w' _ (by simp [hsz]) ?_ (F.trans F') S' (Nat.le_trans hB F'.len) ((hE.fut F').put hd V') ?_
    · have := cnt_lt (p := fun q => !listed.getD q true) (p' := fun q => !(listed.setIfInBounds i true).getD q true) (i := i) (fun x hx => by
        by_cases e : i = x
        · subst e; simp [hil] at hx
        · rw [getD_set_ne true e] at hx; exact hx) (by simpa using h1) (by simp [hil]) (List.range ops.size) (List.mem_range.2 hi')
      omega
    · have : (fun q => (listed.setIfInBounds i true).getD q false) = upL (fun q => listed.getD q false) i := funext fun q => by
        by_cases e : q = i
        · subst e; simp [upL, hil]
        · rw [upL_ne _ e, getD_set_ne false (Ne.symm e)]
      rw [this]
      exact hI'
end
def dstAt (ops : Array Oper) (i : Nat) : Option Tmp := (ops[i]?).bind (·.dst)
def dstsOf (ops : Array Oper) : List Nat := ops.toList.filterMap (·.dst)
/-- All that an operation waits for. -/
def depsF (ops : Array Oper) : Nat → Nat → List Nat
  | 0, _ => []
  | f + 1, i => match ops[i]? with
    | none => []
    | some o => (o.after.toList.filter (Region.binds .any)).flatMap fun x => x.on :: depsF ops f x.on
/-- kl: whose memory an operation takes over or writes; dl: whose facts it uses. -/
def factC (ops : Array Oper) (kl dl : List (List Nat)) : Bool :=
  acycB ops && decide ((dstsOf ops).Nodup) && (List.range ops.size).all (fun i => (dl.getD i []).all fun j => (depsF ops ops.size i).contains j && (List.range ops.size).all fun k => !(kl.getD k []).contains j || k == i || (depsF ops ops.size k).contains i) &&
    decide (kl.length ≤ ops.size) && (List.range ops.size).all (fun i => (kl.getD i []).all fun j => (dl.getD i []).contains j)
/-- What is in hand ahead of operation i. -/
structure SHyp (ops : Array Oper) (X : List Nat) (dl : List (List Nat)) (Base : (Nat → Bool) → AH → Prop) (Pf : Nat → Nat → Nat → Value → AH → Prop) (e0 : Env) (H0 : AH) (i : Nat) (L : Nat → Bool) (lo hi : Nat → Nat) (e : Env) (H : AH) : Prop where
  agree : Agree (dstsOf ops) e0 e
  base : Base L H
  nL : L i = false
  dL : ∀ j ∈ dl.getD i [], L j = true
  fact : ∀ j ∈ dl.getD i [], ∀ d, dstAt ops j = some d → Pf j (lo j) (hi j) (e d) H
  disj : ∀ j ∈ dl.getD i [], ∀ k ∈ dl.getD i [], j ≠ k → hi j ≤ lo k ∨ hi k ≤ lo j
  bnd : ∀ j ∈ dl.getD i [], H0.length ≤ lo j ∧ hi j ≤ H.length
  elder : ∀ q b, q ∉ X → H0[q]? = some b → H[q]? = some b
  len : H0.length ≤ H.length
/-- What must stand behind operation i. -/
structure KFact (X : List Nat) (kl : List (List Nat)) (Base : (Nat → Bool) → AH → Prop) (Pf : Nat → Nat → Nat → Value → AH → Prop) (i : Nat) (L : Nat → Bool) (lo hi : Nat → Nat) (e : Env) (H : AH) (d : Option Tmp) (e' : Env) (H' : AH) : Prop where
  ex : ∃ v l h, e' = put e d v ∧ Pf i l h v H' ∧ ((l = H.length ∧ h = H'.length) ∨ ∃ j ∈ kl.getD i [], l = lo j ∧ h = hi j)
  ext : ∀ q b, q ∉ X → (∀ j ∈ kl.getD i [], ¬ (lo j ≤ q ∧ q < hi j)) → H[q]? = some b → H'[q]? = some b
  base : Base (upL L i) H'
  len : H.length ≤ H'.length
/-- What is in hand behind all. -/
structure EHyp (ops : Array Oper) (X : List Nat) (kl : List (List Nat)) (Base : (Nat → Bool) → AH → Prop) (Pf : Nat → Nat → Nat → Value → AH → Prop) (e0 : Env) (H0 : AH) (lo hi : Nat → Nat) (e : Env) (H : AH) : Prop where
  agree : Agree (dstsOf ops) e0 e
  base : ∃ L : Nat → Bool, (∀ i, i < ops.size → L i = true) ∧ Base L H
  fact : ∀ j d, dstAt ops j = some d → (List.range ops.size).all (fun k => !(kl.getD k []).contains j) = true → Pf j (lo j) (hi j) (e d) H
  disj : ∀ j k, j < ops.size → k < ops.size → j ≠ k → (List.range ops.size).all (fun q => !(kl.getD q []).contains j && !(kl.getD q []).contains k) = true → hi j ≤ lo k ∨ hi k ≤ lo j
  bnd : ∀ j, j < ops.size → H0.length ≤ lo j ∧ hi j ≤ H.length
  elder : ∀ q b, q ∉ X → H0[q]? = some b → H[q]? = some b
  len : H0.length ≤ H.length
theorem nodup_dstL {d : Nat} : ∀ (l : List Oper), (l.filterMap (fun o => o.dst)).Nodup → ∀ {i j : Nat}, (l[i]?).bind (fun o : Oper => o.dst) = some d → (l[j]?).bind (fun o : Oper => o.dst) = some d → i = j
  | [], _, i, j, hi, hj => by simp at hi
  | o :: l, h, i, j, hi, hj => by
    have hmem : ∀ k : Nat, (l[k]?).bind (fun o : Oper => o.dst) = some d → d ∈ l.filterMap (fun o => o.dst) := fun k hk => by
      cases ho : l[k]? with
      | none => rw [ho] at hk; cases hk
      | some o' => rw [ho] at hk; exact List.mem_filterMap.2 ⟨o', List.mem_of_getElem? ho, hk⟩
    have hl : (l.filterMap (fun o => o.dst)).Nodup := by
      rw [List.filterMap_cons] at h
      split at h
      · exact h
      · exact (List.nodup_cons.1 h).2
    have hno : o.dst = some d → d ∉ l.filterMap (fun o => o.dst) := fun he => by
      rw [List.filterMap_cons, he] at h
      exact (List.nodup_cons.1 h).1
    cases i with
    | zero =>
      cases j with
      | zero => rfl
      | succ j => exact absurd (hmem j (by simpa using hj)) (hno (by simpa using hi))
    | succ i =>
      cases j with
      | zero => exact absurd (hmem i (by simpa using hi)) (hno (by simpa using hj))
      | succ j => rw [nodup_dstL l hl (i := i) (j := j) (by simpa using hi) (by simpa using hj)]
theorem nodup_dst {ops : Array Oper} (h : (dstsOf ops).Nodup) {i j d : Nat} (hi : dstAt ops i = some d) (hj : dstAt ops j = some d) : i = j := by
  unfold dstAt at hi hj
  unfold dstsOf at h
  rw [← Array.getElem?_toList] at hi hj
  exact nodup_dstL _ h hi hj
section
variable {P : Program} {B n : Nat}
structure IF (ops : Array Oper) (X : List Nat) (kl : List (List Nat)) (Base : (Nat → Bool) → AH → Prop) (Pf : Nat → Nat → Nat → Value → AH → Prop) (e0 : Env) (H0 : AH) (L : Nat → Bool) (lo hi : Nat → Nat) (e : Env) (H : AH) : Prop where
  agree : Agree (dstsOf ops) e0 e
  base : Base L H
  clos : ∀ j o, ops[j]? = some o → L j = true → ∀ x ∈ o.after, Region.binds .any x = true → L x.on = true
  fact : ∀ j d, L j = true → (∀ k, L k = true → j ∉ kl.getD k []) → dstAt ops j = some d → Pf j (lo j) (hi j) (e d) H
  disj : ∀ j k, L j = true → L k = true → (∀ q, L q = true → j ∉ kl.getD q []) → (∀ q, L q = true → k ∉ kl.getD q []) → j ≠ k → hi j ≤ lo k ∨ hi k ≤ lo j
  bnd : ∀ j, L j = true → H0.length ≤ lo j ∧ hi j ≤ H.length
  elder : ∀ q b, q ∉ X → H0[q]? = some b → H[q]? = some b
  len : H0.length ≤ H.length
theorem deps_listed {ops : Array Oper} {L : Nat → Bool} (hcl : ∀ j o, ops[j]? = some o → L j = true → ∀ x ∈ o.after, Region.binds .any x = true → L x.on = true) : ∀ (f i : Nat), (∀ o, ops[i]? = some o → ∀ x ∈ o.after, Region.binds .any x = true → L x.on = true) → ∀ j ∈ depsF ops f i, L j = true
  | 0, i, h, j, hj => by simp [depsF] at hj
  | f + 1, i, h, j, hj => by
    unfold depsF at hj
    cases ho : ops[i]? with
    | none => rw [ho] at hj; simp at hj
    | some o =>
      rw [ho] at hj
      dsimp only at hj
      obtain ⟨x, hx, hj⟩ := List.mem_flatMap.1 hj
      obtain ⟨hx1, hx2⟩ := List.mem_filter.1 hx
      have hLx := h o ho x (by simpa using hx1) hx2
      rcases List.mem_cons.1 hj with rfl | hj
      · exact hLx
      · exact deps_listed hcl f x.on (fun o' ho' y hy hb => hcl _ o' ho' hLx y hy hb) j hj
theorem AWp.mixedF {id : Nat} {ops : Array Oper} {e : Env} {H : AH} {Q : Exit → Env → AH → Prop} (X : List Nat) (kl dl : List (List Nat)) (Base : (Nat → Bool) → AH → Prop) (Pf : Nat → Nat → Nat → Value → AH → Prop) (N : Nat)
    (hm : P.follows .mixedOrders = true) (hN : (ops.size == N && factC ops kl dl) = true) (hX : ∀ q ∈ X, q < H.length)
    (hmono : ∀ i l h v H1 H2, (∀ q b, l ≤ q → q < h → H1[q]? = some b → H2[q]? = some b) → Pf i l h v H1 → Pf i l h v H2) (h0 : Base (fun _ => false) H)
    (hstep : ∀ i, i < N → ∀ L lo hi e' H', SHyp ops X dl Base Pf e H i L lo hi e' H' → stepP P B ops i 2 (KFact X kl Base Pf i L lo hi e' H' (dstAt ops i)) e' H')
    (hend : ∀ lo hi e' H', EHyp ops X kl Base Pf e H lo hi e' H' → Q .normal e' H') :
    AWp P n B (.region id ops true) Q e H := fun hok σ w a hS hB hE => by
  simp only [codeOk] at hok
  obtain ⟨hN, hc⟩ := Bool.and_eq_true_iff.1 hN
  have hN : ops.size = N := eq_of_beq hN
  simp only [factC, Bool.and_eq_true, decide_eq_true_eq] at hc
  obtain ⟨⟨⟨⟨hac, hnd⟩, hdl⟩, hkl⟩, hkd⟩ := hc
  have hdl' : ∀ i, i < ops.size → ∀ j ∈ dl.getD i [], j ∈ depsF ops ops.size i ∧ ∀ k, k < ops.size → j ∈ kl.getD k [] → k = i ∨ i ∈ depsF ops ops.size k := fun i hi j hj => by
    have h1 := List.all_eq_true.1 (List.all_eq_true.1 hdl i (List.mem_range.2 hi)) j hj
    rw [Bool.and_eq_true] at h1
    refine ⟨by simpa using h1.1, fun k hk hjk => ?_⟩
    have h2 := List.all_eq_true.1 h1.2 k (List.mem_range.2 hk)
    simp only [Bool.or_eq_true, Bool.not_eq_true', beq_iff_eq] at h2
    rcases h2 with (h2 | h2) | h2
    · rw [List.contains_eq_mem, decide_eq_false_iff_not] at h2; exact absurd hjk h2
    · exact .inl h2
    · exact .inr (by simpa using h2)
  have hkn : ∀ k, ops.size ≤ k → kl.getD k [] = [] := fun k hk => by
    rw [List.getD_eq_getElem?_getD, List.getElem?_eq_none (by omega)]; rfl
  have hb : Below w.heap.size w { w with drawn := w.drawn + 1 } := ⟨rfl, rfl, rfl, Nat.le_refl _, fun _ _ => rfl⟩
  let I : (Nat → Bool) → Env → AH → Prop := fun L e' H' => ∃ lo hi, IF ops X kl Base Pf e H L lo hi e' H'
  have := mixI_sound (P := P) (B := B) (σ0 := σ) (H0 := H) (w0 := w) hok hac (I := I) (K := Q .normal)
    (fun L e' H' ⟨lo, hi, hI⟩ i o ho hL hdep => by
      have hi' : i < ops.size := (Array.getElem?_eq_some_iff.1 ho).1
      have hdst : dstAt ops i = o.dst := by unfold dstAt; rw [ho]; rfl
      have hLd : ∀ j ∈ depsF ops ops.size i, L j = true := deps_listed hI.clos _ _ fun o' ho' => by rw [ho] at ho'; cases ho'; exact hdep
      have hal : ∀ j ∈ dl.getD i [], ∀ k, L k = true → j ∉ kl.getD k [] := fun j hj k hk hjk => by
        by_cases hks : k < ops.size
        · rcases (hdl' i hi' j hj).2 k hks hjk with h | h
          · rw [h, hL] at hk; cases hk
          · have := deps_listed hI.clos ops.size k (fun o' ho' x hx hb => hI.clos k o' ho' hk x hx hb) i h
            rw [hL] at this; cases this
        · rw [hkn k (by omega)] at hjk; cases hjk
      have hsh : SHyp ops X dl Base Pf e H i L lo hi e' H' := ⟨hI.agree, hI.base, hL, fun j hj => hLd j (hdl' i hi' j hj).1,
        fun j hj d hd => hI.fact j d (hLd j (hdl' i hi' j hj).1) (hal j hj) hd,
        fun j hj k hk hne => hI.disj j k (hLd j (hdl' i hi' j hj).1) (hLd k (hdl' i hi' k hk).1) (hal j hj) (hal k hk) hne,
        fun j hj => hI.bnd j (hLd j (hdl' i hi' j hj).1), hI.elder, hI.len⟩
      refine stepP_mono (fun e'' H'' hK => ?_) (hstep i (by omega) L lo hi e' H' hsh)
      rw [hdst] at hK
      obtain ⟨v, l, h, he, hp, hlh⟩ := hK.ex
      let lo' : Nat → Nat := fun q => if q = i then l else lo q
      let hi'' : Nat → Nat := fun q => if q = i then h else hi q
      have hkin : ∀ j ∈ kl.getD i [], j ∈ dl.getD i [] := fun j hj => by
        have := List.all_eq_true.1 (List.all_eq_true.1 hkd i (List.mem_range.2 hi')) j hj
        simpa using this
      have hlist : ∀ {j}, upL L i j = true → j ≠ i → L j = true := fun hj hne => by rw [upL_ne _ hne] at hj; exact hj
      have halive : ∀ {j}, (∀ k, upL L i k = true → j ∉ kl.getD k []) → (∀ k, L k = true → j ∉ kl.getD k []) ∧ j ∉ kl.getD i [] := fun hj =>
        ⟨fun k hk => hj k (by by_cases e : k = i; · rw [e, upL_self]
                              · rw [upL_ne _ e]; exact hk), hj i (upL_self _ _)⟩
      have hsep : ∀ j, L j = true → j ≠ i → (∀ k, L k = true → j ∉ kl.getD k []) → j ∉ kl.getD i [] → h ≤ lo j ∨ hi j ≤ l := fun j hj hne hal1 hal2 => by
        rcases hlh with ⟨rfl, rfl⟩ | ⟨k, hk, rfl, rfl⟩
        · exact .inr (hI.bnd j hj).2
        · have hkd' := hkin k hk
          have := hI.disj j k hj (hLd k (hdl' i hi' k hkd').1) hal1 (hal k hkd') (fun e => hal2 (e ▸ hk))
          omega
      refine ⟨lo', hi'', ?_, hK.base, fun j o' ho' hj x hx hb => ?_, fun j d hj hal' hd => ?_, fun j k hj hk haj hak hne => ?_, fun j hj => ?_, fun q b hq hb => ?_, Nat.le_trans hI.len hK.len⟩
      · rw [he]
        cases hd : o.dst with
        | none => exact hI.agree
        | some t => exact hI.agree.put (by
            rw [List.contains_iff_mem]
            exact List.mem_filterMap.2 ⟨o, Array.mem_toList_iff.2 (Array.mem_of_getElem? ho), hd⟩) _
      · by_cases hji : j = i
        · subst hji
          rw [ho] at ho'; cases ho'
          have := hdep x hx hb
          by_cases e : x.on = j
          · rw [e, upL_self]
          · rw [upL_ne _ e]; exact this
        · have := hI.clos j o' ho' (hlist hj hji) x hx hb
          by_cases e : x.on = i
          · rw [e, upL_self]
          · rw [upL_ne _ e]; exact this
      · by_cases hji : j = i
        · subst hji
          have hd' : o.dst = some d := by rw [← hdst]; exact hd
          rw [he, hd']
          simp only [lo', hi'', if_true]
          simpa [put] using hp
        · obtain ⟨ha1, ha2⟩ := halive hal'
          have hLj := hlist hj hji
          have hne : e'' d = e' d := by
            rw [he]
            cases hd' : o.dst with
            | none => rfl
            | some t =>
              have : d ≠ t := fun h => hji (nodup_dst hnd hd (by rw [hdst, h]; exact hd'))
              simp [put, this]
          rw [hne]
          simp only [lo', hi'', if_neg hji]
          refine hmono j _ _ _ _ _ (fun q b h1 h2 h3 => hK.ext q b (fun hx => ?_) (fun k hk => ?_) h3) (hI.fact j d hLj ha1 hd)
          · have := hX q hx
            have := (hI.bnd j hLj).1
            omega
          · have hkd' := hkin k hk
            have := hI.disj j k hLj (hLd k (hdl' i hi' k hkd').1) ha1 (hal k hkd') (fun e => ha2 (e ▸ hk))
            omega
      · obtain ⟨ha1, ha2⟩ := halive haj
        obtain ⟨hb1, hb2⟩ := halive hak
        by_cases hji : j = i
        · subst hji
          have hki : k ≠ j := Ne.symm hne
          simp only [lo', hi'', if_true, if_neg hki]
          exact hsep k (hlist hk hki) hki hb1 hb2
        · by_cases hki : k = i
          · subst hki
            simp only [lo', hi'', if_true, if_neg hji]
            have := hsep j (hlist hj hji) hji ha1 ha2
            omega
          · simp only [lo', hi'', if_neg hji, if_neg hki]
            exact hI.disj j k (hlist hj hji) (hlist hk hki) ha1 hb1 hne
      · by_cases hji : j = i
        · subst hji
          simp only [lo', hi'', if_true]
          rcases hlh with ⟨rfl, rfl⟩ | ⟨k, hk, rfl, rfl⟩
          · exact ⟨hI.len, Nat.le_refl _⟩
          · have := hI.bnd k (hLd k (hdl' j hi' k (hkin k hk)).1)
            have := hK.len
            omega
        · simp only [lo', hi'', if_neg hji]
          have := hI.bnd j (hlist hj hji)
          have := hK.len
          omega
      · refine hK.ext q b hq (fun j hj => ?_) (hI.elder q b hq hb)
        have := (hI.bnd j (hLd j (hdl' i hi' j (hkin j hj)).1)).1
        have := lt_of_some hb
        omega)
    (fun L e' H' ⟨lo, hi, hI⟩ hall => hend lo hi e' H' ⟨hI.agree, ⟨L, hall, hI.base⟩, fun j d hd hk => hI.fact j d (hall j (by
        unfold dstAt at hd
        cases ho : ops[j]? with
        | none => rw [ho] at hd; cases hd
        | some o => exact (Array.getElem?_eq_some_iff.1 ho).1)) (fun k _ hjk => by
        by_cases hks : k < ops.size
        · have := List.all_eq_true.1 hk k (List.mem_range.2 hks)
          rw [Bool.not_eq_true', List.contains_eq_mem, decide_eq_false_iff_not] at this
          exact this hjk
        · rw [hkn k (by omega)] at hjk; cases hjk) hd,
      fun j k hj hk hne hal => by
        have h1 : ∀ q, j ∉ kl.getD q [] ∧ k ∉ kl.getD q [] := fun q => by
          by_cases hqs : q < ops.size
          · have := List.all_eq_true.1 hal q (List.mem_range.2 hqs)
            simp only [Bool.and_eq_true, Bool.not_eq_true', List.contains_eq_mem, decide_eq_false_iff_not] at this
            exact this
          · rw [hkn q (by omega)]; simp
        exact hI.disj j k (hall j hj) (hall k hk) (fun q _ => (h1 q).1) (fun q _ => (h1 q).2) hne,
      fun j hj => hI.bnd j (hall j hj), hI.elder, hI.len⟩)
    ops.size (Array.replicate ops.size false) e H σ { w with drawn := w.drawn + 1 } a (by simp) (Nat.le_trans List.countP_le_length (by simp)) (.of_below hb) (hS.below hb) hB hE
    (by
      have : (fun q => (Array.replicate ops.size false).getD q false) = fun _ => false := funext fun q => by
        by_cases h : q < ops.size <;> simp [Array.getD, h]
      rw [this]
      exact ⟨fun _ => 0, fun _ => 0, Agree.refl _ _, h0, fun j o _ hj => (by cases hj), fun j d hj => (by cases hj), fun j k hj => (by cases hj), fun j hj => (by cases hj), fun q b _ h => h, Nat.le_refl _⟩)
  refine wp_mono (wp_region_any hm this) fun ex a' w' hq => ?_
  cases ex with
  | normal => exact hq
  | _ => exact hq.elim
end
/-- A continuation that a walk leaves alone. -/
structure KZ (A : Env → AH → Prop) where
  K : Env → AH → Prop
  go : ∀ e H, A e H → K e H
theorem KZ.run {A : Env → AH → Prop} (k : KZ A) {e : Env} {H : AH} (h : A e H) : k.K e H := k.go e H h
section
variable {P : Program} {B n : Nat} {ops : Array Oper} {e : Env} {H : AH}
theorem stepF {i : Nat} {o : Oper} {A : Env → AH → Prop} (ho : opAt ops.toList i = some o) (h : ∀ k : KZ A, aops P B ops k.K [o] e H) : stepP P B ops i 2 A e H :=
  stepP_at B 2 (opAt_ops ho) (fun K' => rfl) (h ⟨_, fun e H h => h⟩)
theorem AWp.absE {c : Code} {Q : Exit → Env → AH → Prop} (h : ∀ e0 : Env, e0 = e → AWp P n B c Q e0 H) : AWp P n B c Q e H := h e rfl
end
/-- Facts of common kinds: some number; a fresh slice of numbers; some text; a fresh slice of texts. -/
def FInt (v : Value) : Prop := ∃ k : Int, v = .int .i64 k
def FInts (T n l h : Nat) (v : Value) (H : AH) : Prop := v = .slice (some ⟨l, 0, none⟩) n 0 ∧ l < h ∧ ∃ xs : List Int, xs.length = n ∧ H[l]? = some ⟨T, 1, intE.flat xs, 0, true⟩
theorem FInts.mono {T n l h : Nat} {v : Value} {H1 H2 : AH} (hm : ∀ q b, l ≤ q → q < h → H1[q]? = some b → H2[q]? = some b) (hp : FInts T n l h v H1) : FInts T n l h v H2 := by
  obtain ⟨h1, h2, xs, h3, h4⟩ := hp
  exact ⟨h1, h2, xs, h3, hm l _ (Nat.le_refl _) h2 h4⟩
def FStr (v : Value) : Prop := ∃ s : ByteArray, v = .string s
def FStrs (T n l h : Nat) (v : Value) (H : AH) : Prop := v = .slice (some ⟨l, 0, none⟩) n 0 ∧ l < h ∧ ∃ xs : List ByteArray, xs.length = n ∧ H[l]? = some ⟨T, 1, strE.flat xs, 0, true⟩
theorem FStrs.mono {T n l h : Nat} {v : Value} {H1 H2 : AH} (hm : ∀ q b, l ≤ q → q < h → H1[q]? = some b → H2[q]? = some b) (hp : FStrs T n l h v H1) : FStrs T n l h v H2 := by
  obtain ⟨h1, h2, xs, h3, h4⟩ := hp
  exact ⟨h1, h2, xs, h3, hm l _ (Nat.le_refl _) h2 h4⟩
end Go.BM

/- Places that are read: fewer cells of them; sizes of slices of slices; nil arguments. -/
set_option linter.unusedVariables false
set_option linter.unusedSimpArgs false
namespace Go.BM
open Go.RowKit
theorem VR.ipTake {σ : Sg} {H : AH} {v : Value} {cs ds : List Value} (h : VR σ H v (BM.ip (cs ++ ds))) : VR σ H v (BM.ip cs) := by
  obtain ⟨b, o, us, rfl, hl, him, hv⟩ := h.aptr (asP_ip _)
  rw [List.length_append] at hl
  refine VR.mkP (us := us.take cs.length) (by rw [List.length_take]; omega) (fun j u hu => ?_) fun j u hu => ?_
  · have hj : j < cs.length := by
      have := lt_of_some'' hu
      rw [List.length_take] at this
      omega
    rw [List.getElem?_take_of_lt hj] at hu
    exact him j u hu
  · have hj : j < cs.length := lt_of_some'' hu
    obtain ⟨x, hx, hxv⟩ := hv j u (by rw [List.getElem?_append_left hj]; exact hu)
    exact ⟨x, by rw [List.getElem?_take_of_lt hj]; exact hx, hxv⟩
section
variable {P : Program} {B : Nat} {H : AH} {f : FuncId} {k : Value → AH → Prop}
theorem ACalls.weak {args args' : List Value} (h : ACalls P B f args' H k) (hw : ∀ (σ : Sg) vs, VRL σ H vs args → VRL σ H vs args') : ACalls P B f args H k :=
  ⟨h.1, fun σ w vals hS hB hvl => h.2 σ w vals hS hB (hw σ _ hvl)⟩
theorem VRL.set1 {σ : Sg} {vs pre post : List Value} {x y : Value} (h : VRL σ H vs (pre ++ x :: post)) (hx : ∀ v, VR σ H v x → VR σ H v y) : VRL σ H vs (pre ++ y :: post) := by
  refine ⟨by have := h.1; simpa using this, fun j u hu => ?_⟩
  by_cases e : j = pre.length
  · subst e
    rw [List.getElem?_append_right (Nat.le_refl _), Nat.sub_self] at hu
    cases hu
    obtain ⟨z, h1, h2⟩ := h.2 pre.length x (by simp)
    exact ⟨z, h1, hx z h2⟩
  · refine h.2 j u ?_
    by_cases hj : j < pre.length
    · rw [List.getElem?_append_left hj] at hu ⊢; exact hu
    · rw [List.getElem?_append_right (by omega)] at hu ⊢
      obtain ⟨m, hm⟩ : ∃ m, j - pre.length = m + 1 := ⟨j - pre.length - 1, by omega⟩
      rw [hm] at hu ⊢
      simpa using hu
theorem ACalls.more {pre post cs : List Value} (ds : List Value) (h : ACalls P B f (pre ++ ip cs :: post) H k) : ACalls P B f (pre ++ ip (cs ++ ds) :: post) H k := h.weak fun σ vs hv => hv.set1 fun v => VR.ipTake
theorem PCalls.more {post cs : List Value} {v : Value} (ds : List Value) (h : PCalls P f (ip cs :: post) v) : PCalls P f (ip (cs ++ ds) :: post) v := ACalls.more (pre := []) ds h
theorem PCalls.more2 {x : Value} {post cs : List Value} {v : Value} (ds : List Value) (h : PCalls P f (x :: ip cs :: post) v) : PCalls P f (x :: ip (cs ++ ds) :: post) v := ACalls.more (pre := [x]) ds h
/-- The nil slice serves where the empty list is wanted. -/
theorem VR.nilE {α : Type} {σ : Sg} {v : Value} {E : Enc α} (h : VR σ H v (.slice none 0 0)) : VR σ H v (islE E []) := by
  obtain ⟨a, rfl⟩ := h.sliceNil rfl
  have := VR.isl0 (σ := σ) (H := H) a 0 (Nat.zero_le _)
  simpa [islE, BM.isl, Enc.flat] using this
theorem ACalls.nil1 {α : Type} {E : Enc α} {pre post : List Value} (h : ACalls P B f (pre ++ islE E [] :: post) H k) : ACalls P B f (pre ++ .slice none 0 0 :: post) H k := h.weak fun σ vs hv => hv.set1 fun v => VR.nilE
end
/-- The size of a slice whose things have sizes. -/
def sumN {α : Type} (f : α → Nat) (xs : List α) : Nat := xs.length + (xs.map f).sum
theorem sumN_len {α : Type} (f : α → Nat) (xs : List α) : xs.length ≤ sumN f xs := Nat.le_add_right _ _
theorem sumN_at {α : Type} (f : α → Nat) {xs : List α} {x : α} (h : x ∈ xs) : f x ≤ sumN f xs := by
  have : f x ≤ (xs.map f).sum := by
    induction xs with
    | nil => cases h
    | cons y l ih =>
      rw [List.map_cons, List.sum_cons]
      rcases List.mem_cons.1 h with rfl | h
      · omega
      · have := ih h; omega
  unfold sumN
  omega
def szGo {α : Type} (f : α → Nat) : List α → Int → Int
  | [], k => k
  | x :: l, k => if szI (f x) k < 0 then -1 else szGo f l (szI (f x) k)
theorem szGo_eq {α : Type} (f : α → Nat) : ∀ (xs : List α) (k : Int), 0 ≤ k → szGo f xs k = szI (xs.map f).sum k
  | [], k, h => by simp [szGo, szI]; omega
  | x :: l, k, h => by
    unfold szGo
    rw [List.map_cons, List.sum_cons]
    split
    · rename_i h1
      unfold szI at h1 ⊢
      (repeat' split at h1) <;> (repeat' split) <;> omega
    · rename_i h1
      rw [szGo_eq f l _ (by omega)]
      unfold szI at h1 ⊢
      (repeat' split at h1) <;> (repeat' split) <;> omega
theorem szGo_step {α : Type} (f : α → Nat) (xs : List α) (j : Nat) (hj : j < xs.length) (k : Int) : szGo f (xs.drop j) k = if szI (f xs[j]) k < 0 then -1 else szGo f (xs.drop (j + 1)) (szI (f xs[j]) k) := by
  rw [List.drop_eq_getElem_cons hj]
  rfl
end Go.BM

/- Those of the lowest ranks, in rising order. -/
set_option linter.unusedVariables false
set_option linter.unusedSimpArgs false
namespace Go.BM
theorem asc_ext : ∀ l1 l2 : List Int, l1.Pairwise (· < ·) → l2.Pairwise (· < ·) → (∀ x, x ∈ l1 ↔ x ∈ l2) → l1 = l2
  | [], [], _, _, _ => rfl
  | [], y :: l, _, _, h => absurd ((h y).2 (by simp)) (by simp)
  | x :: l, [], _, _, h => absurd ((h x).1 (by simp)) (by simp)
  | x :: l, y :: m, h1, h2, h => by
    obtain ⟨a1, a2⟩ := List.pairwise_cons.1 h1
    obtain ⟨b1, b2⟩ := List.pairwise_cons.1 h2
    have hxy : x = y := by
      rcases List.mem_cons.1 ((h x).1 (by simp)) with e | e
      · exact e
      · rcases List.mem_cons.1 ((h y).2 (by simp)) with e' | e'
        · exact e'.symm
        · have := b1 x e; have := a1 y e'; omega
    subst hxy
    rw [asc_ext l m a2 b2 fun z => ⟨fun hz => by
      rcases List.mem_cons.1 ((h z).1 (by simp [hz])) with e | e
      · subst e; have := a1 z hz; omega
      · exact e, fun hz => by
      rcases List.mem_cons.1 ((h z).2 (by simp [hz])) with e | e
      · subst e; have := b1 z hz; omega
      · exact e⟩]
def rankF (key seed : Int) : Int := if inB key 1 999 && inB seed 0 65535 then (key * 40503 + seed * 30011 + key * seed + 7) % 65521 else -1
def aheadB (seed a b : Int) : Bool := decide (rankF a seed < rankF b seed) || (rankF a seed == rankF b seed && decide (a < b))
def kap (seed key : Int) : Int := rankF key seed * 1000 + key
def cntA (seed : Int) (keys : List Int) (x : Int) : Nat := (keys.filter fun y => aheadB seed y x).length
theorem rankF_ge (key seed : Int) : -1 ≤ rankF key seed := by
  unfold rankF
  split
  · have := Int.emod_nonneg (key * 40503 + seed * 30011 + key * seed + 7) (b := 65521) (by decide); omega
  · omega
theorem ahead_kap {seed a b : Int} (ha : inB a 1 999 = true) (hb : inB b 1 999 = true) : aheadB seed a b = decide (kap seed a < kap seed b) := by
  unfold inB at ha hb
  simp at ha hb
  unfold aheadB kap
  generalize rankF a seed = x
  generalize rankF b seed = y
  by_cases h1 : x < y
  · have : x * 1000 + a < y * 1000 + b := by omega
    simp [h1, this]
  · by_cases h2 : x = y
    · subst h2
      by_cases h3 : a < b
      · have : x * 1000 + a < x * 1000 + b := by omega
        simp [h3]
      · have : ¬ x * 1000 + a < x * 1000 + b := by omega
        simp [h3]
    · have : ¬ x * 1000 + a < y * 1000 + b := by omega
      simp [h1, h2, this]
theorem kap_inj {seed a b : Int} (ha : inB a 1 999 = true) (hb : inB b 1 999 = true) (h : kap seed a = kap seed b) : a = b := by
  unfold inB at ha hb
  simp at ha hb
  unfold kap at h
  omega
/-- A number laid into a rising list. -/
def insAsc (x : Int) : List Int → List Int
  | [] => [x]
  | y :: l => if y < x then y :: insAsc x l else x :: y :: l
theorem insAsc_mem (x z : Int) : ∀ l, z ∈ insAsc x l ↔ z = x ∨ z ∈ l
  | [] => by simp [insAsc]
  | y :: l => by
    unfold insAsc
    split
    · rw [List.mem_cons, insAsc_mem x z l, List.mem_cons]
      constructor
      · rintro (h | h | h) <;> simp [h]
      · rintro (h | h | h) <;> simp [h]
    · simp
theorem insAsc_asc (x : Int) : ∀ l : List Int, l.Pairwise (· < ·) → x ∉ l → (insAsc x l).Pairwise (· < ·)
  | [], _, _ => by simp [insAsc]
  | y :: l, h, hx => by
    obtain ⟨a1, a2⟩ := List.pairwise_cons.1 h
    unfold insAsc
    split
    · rename_i hy
      refine List.pairwise_cons.2 ⟨fun z hz => ?_, insAsc_asc x l a2 fun h' => hx (by simp [h'])⟩
      rcases (insAsc_mem x z l).1 hz with e | e
      · omega
      · exact a1 z e
    · rename_i hy
      have hne : x ≠ y := fun e => hx (by simp [e])
      refine List.pairwise_cons.2 ⟨fun z hz => ?_, h⟩
      rcases List.mem_cons.1 hz with e | e
      · omega
      · have := a1 z e; omega
theorem insAsc_len (x : Int) : ∀ l, (insAsc x l).length = l.length + 1
  | [] => rfl
  | y :: l => by
    unfold insAsc
    split
    · simp [insAsc_len x l]
    · simp
/-- Where it is laid: behind those that are lower. -/
theorem insAsc_at (x : Int) : ∀ (l : List Int) (k : Nat), k ≤ l.length → (∀ j (h : j < l.length), j < k → l[j] < x) → (∀ h : k < l.length, ¬ l[k] < x) → insAsc x l = l.take k ++ x :: l.drop k
  | [], k, hk, _, _ => by simp at hk; subst hk; rfl
  | y :: l, 0, _, _, h2 => by
    have := h2 (by simp)
    unfold insAsc
    rw [if_neg (by simpa using this)]
    simp
  | y :: l, k + 1, hk, h1, h2 => by
    have h0 := h1 0 (by simp) (by omega)
    unfold insAsc
    rw [if_pos (by simpa using h0), insAsc_at x l k (by simpa using hk) (fun j h hj => by have := h1 (j + 1) (by simp; omega) (by omega); rw [List.getElem_cons_succ] at this; exact this) (fun h => by have := h2 (by simp; omega); rw [List.getElem_cons_succ] at this; exact this)]
    simp
def chooseStep (seed n : Int) (keys out : List Int) (x : Int) : List Int := if n ≤ (cntA seed keys x : Int) then out else insAsc x out
def chooseL (keys : List Int) (seed n : Int) : List Int := foldN (chooseStep seed n keys) [] keys
theorem chooseL_facts (keys : List Int) (seed n : Int) : ∀ (l out : List Int), l.Nodup → (∀ x ∈ l, x ∉ out) → out.Pairwise (· < ·) →
    (l.foldl (chooseStep seed n keys) out).Pairwise (· < ·) ∧ ∀ z, z ∈ l.foldl (chooseStep seed n keys) out ↔ z ∈ out ∨ (z ∈ l ∧ (cntA seed keys z : Int) < n)
  | [], out, _, _, h => ⟨h, by simp⟩
  | x :: l, out, hn, hd, h => by
    obtain ⟨n1, n2⟩ := List.nodup_cons.1 hn
    rw [List.foldl_cons]
    by_cases hc : n ≤ (cntA seed keys x : Int)
    · have e : chooseStep seed n keys out x = out := by unfold chooseStep; rw [if_pos hc]
      rw [e]
      obtain ⟨h1, h2⟩ := chooseL_facts keys seed n l out n2 (fun y hy => hd y (by simp [hy])) h
      refine ⟨h1, fun z => (h2 z).trans ⟨?_, ?_⟩⟩
      · rintro (h | ⟨h, h'⟩)
        · exact .inl h
        · exact .inr ⟨by simp [h], h'⟩
      · rintro (h | ⟨h, h'⟩)
        · exact .inl h
        · rcases List.mem_cons.1 h with rfl | h
          · omega
          · exact .inr ⟨h, h'⟩
    · have e : chooseStep seed n keys out x = insAsc x out := by unfold chooseStep; rw [if_neg hc]
      rw [e]
      obtain ⟨h1, h2⟩ := chooseL_facts keys seed n l (insAsc x out) n2 (fun y hy hm => by
        rcases (insAsc_mem x y out).1 hm with rfl | hm
        · exact n1 hy
        · exact hd y (by simp [hy]) hm) (insAsc_asc x out h (hd x (by simp)))
      refine ⟨h1, fun z => (h2 z).trans ⟨?_, ?_⟩⟩
      · rintro (h | ⟨h, h'⟩)
        · rcases (insAsc_mem x z out).1 h with rfl | h
          · exact .inr ⟨by simp, by omega⟩
          · exact .inl h
        · exact .inr ⟨by simp [h], h'⟩
      · rintro (h | ⟨h, h'⟩)
        · exact .inl ((insAsc_mem x z out).2 (.inr h))
        · rcases List.mem_cons.1 h with rfl | h
          · exact .inl ((insAsc_mem z z out).2 (.inl rfl))
          · exact .inr ⟨h, h'⟩
theorem chooseL_asc {keys : List Int} (seed n : Int) (hn : keys.Nodup) : (chooseL keys seed n).Pairwise (· < ·) := (chooseL_facts keys seed n keys [] hn (by simp) List.Pairwise.nil).1
theorem chooseL_mem {keys : List Int} (seed n : Int) (hn : keys.Nodup) (z : Int) : z ∈ chooseL keys seed n ↔ z ∈ keys ∧ (cntA seed keys z : Int) < n := by
  have := (chooseL_facts keys seed n keys [] hn (by simp) List.Pairwise.nil).2 z
  unfold chooseL foldN
  simpa using this
/-- In a list that rises by kap the place is the count. -/
theorem cnt_place {seed : Int} {ys : List Int} (hv : ∀ y ∈ ys, inB y 1 999 = true) (hs : ys.Pairwise fun a b => kap seed a < kap seed b) (i : Nat) (hi : i < ys.length) : cntA seed ys ys[i] = i := by
  induction ys generalizing i with
  | nil => simp at hi
  | cons y l ih =>
    obtain ⟨a1, a2⟩ := List.pairwise_cons.1 hs
    have hvl : ∀ y ∈ l, inB y 1 999 = true := fun z hz => hv z (by simp [hz])
    unfold cntA
    cases i with
    | zero =>
      have : (y :: l).filter (fun z => aheadB seed z y) = [] := List.filter_eq_nil_iff.2 fun z hz => by
        rw [ahead_kap (hv z hz) (hv y (by simp))]
        rcases List.mem_cons.1 hz with rfl | hz
        · simp
        · have := a1 z hz; simp; omega
      simp only [List.getElem_cons_zero, this, List.length_nil]
    | succ i =>
      have hi' : i < l.length := by simpa using hi
      have hm : l[i] ∈ l := List.getElem_mem hi'
      simp only [List.getElem_cons_succ]
      rw [List.filter_cons, if_pos (by rw [ahead_kap (hv y (by simp)) (hvl _ hm)]; simpa using a1 _ hm), List.length_cons]
      have := ih hvl a2 i hi'
      unfold cntA at this
      rw [this]
theorem cnt_perm {seed : Int} {xs ys : List Int} (h : xs.Perm ys) (x : Int) : cntA seed xs x = cntA seed ys x := (h.filter _).length_eq
/-- What is sorted, cut and sorted anew is what is chosen. -/
theorem choose_sorted {keys ys zs : List Int} {seed : Int} {n : Nat} (hv : ∀ y ∈ keys, inB y 1 999 = true) (hn : keys.Nodup) (hp : ys.Perm keys) (hs : ys.Pairwise fun a b => kap seed a ≤ kap seed b) (hz : zs.Perm (ys.take n)) (ha : zs.Pairwise (· ≤ ·)) : zs = chooseL keys seed n := by
  have hvy : ∀ y ∈ ys, inB y 1 999 = true := fun y hy => hv y (hp.mem_iff.1 hy)
  have hny : ys.Nodup := hp.nodup_iff.2 hn
  have hsy : ys.Pairwise fun a b => kap seed a < kap seed b := by
    have h2 := (List.Pairwise.and hs hny)
    refine List.Pairwise.imp_of_mem (R := fun a b => kap seed a ≤ kap seed b ∧ a ≠ b) (fun {a b} ha hb ⟨h3, h4⟩ => ?_) h2
    have : kap seed a ≠ kap seed b := fun e => h4 (kap_inj (hvy a ha) (hvy b hb) e)
    omega
  have hnz : zs.Nodup := hz.nodup_iff.2 (hny.sublist (List.take_sublist _ _))
  refine asc_ext _ _ (List.Pairwise.imp (fun {a b} ⟨h1, h2⟩ => by omega) (List.Pairwise.and ha hnz)) (chooseL_asc seed n hn) fun x => ?_
  rw [chooseL_mem seed n hn, hz.mem_iff]
  constructor
  · intro hx
    obtain ⟨i, hi, rfl⟩ := List.getElem_of_mem hx
    rw [List.length_take] at hi
    rw [List.getElem_take]
    refine ⟨hp.mem_iff.1 (List.getElem_mem _), ?_⟩
    rw [cnt_perm hp.symm, cnt_place hvy hsy i (by omega)]
    omega
  · rintro ⟨hx, hc⟩
    obtain ⟨i, hi, rfl⟩ := List.getElem_of_mem (hp.mem_iff.2 hx)
    rw [cnt_perm hp.symm, cnt_place hvy hsy i hi] at hc
    have hi' : i < (ys.take n).length := by rw [List.length_take]; omega
    have := List.getElem_mem hi'
    rwa [List.getElem_take] at this
/-! Sorting by insertion. -/
section
variable {α : Type} {κ : α → Int} {zs : List α} {j k : Nat}
structure SrtP (κ : α → Int) (zs : List α) (k : Nat) : Prop where
  at' : ∀ a b (hb : b < zs.length) (hab : a < b), b < k → κ (zs[a]'(by omega)) ≤ κ zs[b]
structure InsP (κ : α → Int) (zs : List α) (j k : Nat) : Prop where
  jk : j ≤ k
  kl : k < zs.length
  oth : ∀ a b (hb : b < zs.length) (hab : a < b), b ≤ k → a ≠ j → b ≠ j → κ (zs[a]'(by omega)) ≤ κ zs[b]
  gt : ∀ b (hb : b < zs.length) (hjb : j < b), b ≤ k → κ (zs[j]'(by omega)) < κ zs[b]
theorem InsP.start (h : SrtP κ zs k) (hk : k < zs.length) : InsP κ zs k k :=
  ⟨Nat.le_refl _, hk, fun a b hb hab h1 h2 h3 => h.at' a b hb hab (by omega), fun b hb h1 h2 => by omega⟩
theorem InsP.stop (h : InsP κ zs j k) (h0 : ∀ hj : 0 < j, ¬ κ (zs[j]'(by have := h.jk; have := h.kl; omega)) < κ (zs[j - 1]'(by have := h.jk; have := h.kl; omega))) : SrtP κ zs (k + 1) := ⟨fun a b hb hab hbk => by
  have := h.jk
  have := h.kl
  by_cases e1 : b = j
  · subst e1
    have h1 := h0 (by omega)
    by_cases e2 : a = b - 1
    · subst e2; omega
    · have := h.oth a (b - 1) (by omega) (by omega) (by omega) (by omega) (by omega)
      omega
  · by_cases e2 : a = j
    · subst e2
      have := h.gt b hb hab (by omega)
      omega
    · exact h.oth a b hb hab (by omega) e2 e1⟩
theorem InsP.step (h : InsP κ zs j k) (hj : 0 < j) (hjl : j < zs.length) (hlt : κ zs[j] < κ zs[j - 1]) : InsP κ ((zs.set j zs[j - 1]).set (j - 1) zs[j]) (j - 1) k := by
  have hjk := h.jk
  have hkl := h.kl
  have hget : ∀ q (hq : q < ((zs.set j zs[j - 1]).set (j - 1) zs[j]).length), ((zs.set j zs[j - 1]).set (j - 1) zs[j])[q] = if q = j - 1 then zs[j] else if q = j then zs[j - 1] else zs[q]'(by simpa using hq) := fun q hq => by
    rw [List.getElem_set, List.getElem_set]
    (repeat' split) <;> first | rfl | (exfalso; omega)
  refine ⟨by omega, by simpa using hkl, fun a b hb hab hbk ha1 hb1 => ?_, fun b hb hjb hbk => ?_⟩
  · have hb' : b < zs.length := by simpa using hb
    rw [hget, hget, if_neg ha1, if_neg hb1]
    by_cases e1 : a = j
    · subst e1
      rw [if_pos rfl, if_neg (by omega)]
      exact h.oth (a - 1) b hb' (by omega) hbk (by omega) (by omega)
    · rw [if_neg e1]
      by_cases e2 : b = j
      · subst e2
        rw [if_pos rfl]
        exact h.oth a (b - 1) (by omega) (by omega) (by omega) (by omega) (by omega)
      · rw [if_neg e2]
        exact h.oth a b hb' hab hbk e1 e2
  · have hb' : b < zs.length := by simpa using hb
    rw [hget, hget, if_pos rfl, if_neg (by omega)]
    by_cases e2 : b = j
    · rw [if_pos e2]; exact hlt
    · rw [if_neg e2]; exact h.gt b hb' (by omega) hbk
theorem SrtP.one (κ : α → Int) (zs : List α) : SrtP κ zs 1 := ⟨fun a b hb hab h => by omega⟩
theorem SrtP.pair (h : SrtP κ zs zs.length) : zs.Pairwise fun a b => κ a ≤ κ b := List.pairwise_iff_getElem.2 fun i j hi hj hij => h.at' i j hj hij hj
theorem SrtP.more (h : SrtP κ zs k) (hk : zs.length ≤ k) : SrtP κ zs zs.length := ⟨fun a b hb hab hbk => h.at' a b hb hab (by omega)⟩
end
theorem optK_of {α : Type} {o : Option α} {v : α} {k : α → Prop} (h : o = some v) (hk : k v) : optK o k := by rw [h]; exact hk
end Go.BM

/- Drawn regions by what stands behind each operation: values may name the blocks of others, and outlive a kill. -/
set_option linter.unusedVariables false
set_option linter.unusedSimpArgs false
namespace Go.BM
open Go.RowKit
def vAt (e : Env) : Option Tmp → Value | none => undef | some d => e d
def upN (f : Nat → Nat) (i l : Nat) : Nat → Nat := fun q => if q = i then l else f q
theorem upN_self (f : Nat → Nat) (i l : Nat) : upN f i l i = l := by simp [upN]
theorem upN_ne (f : Nat → Nat) {i l q : Nat} (h : q ≠ i) : upN f i l q = f q := by simp [upN, h]
/-- Of which operations number j may speak. -/
def sees (ops : Array Oper) (j q : Nat) : Bool := q == j || (depsF ops ops.size j).contains q
/-- What is in hand ahead of operation i. -/
structure SGyp (ops : Array Oper) (X : List Nat) (dl : List (List Nat)) (Base : (Nat → Bool) → AH → Prop) (Vf : Nat → (Nat → Nat) → Value → Prop) (Pf : Nat → (Nat → Nat) → (Nat → Nat) → Value → AH → Prop) (e0 : Env) (H0 : AH) (i : Nat) (L : Nat → Bool) (lo hi : Nat → Nat) (e : Env) (H : AH) : Prop where
  agree : Agree (dstsOf ops) e0 e
  base : Base L H
  nL : L i = false
  dL : ∀ j ∈ dl.getD i [], L j = true
  val : ∀ j ∈ dl.getD i [], Vf j lo (vAt e (dstAt ops j))
  fact : ∀ j ∈ dl.getD i [], Pf j lo hi (vAt e (dstAt ops j)) H
  disj : ∀ j ∈ dl.getD i [], ∀ k ∈ dl.getD i [], j ≠ k → hi j ≤ lo k ∨ hi k ≤ lo j
  bnd : ∀ j ∈ dl.getD i [], H0.length ≤ lo j ∧ hi j ≤ H.length
  elder : ∀ q b, q ∉ X → H0[q]? = some b → H[q]? = some b
  len : H0.length ≤ H.length
/-- What must stand behind operation i. -/
structure KGact (X : List Nat) (kl : List (List Nat)) (Base : (Nat → Bool) → AH → Prop) (Vf : Nat → (Nat → Nat) → Value → Prop) (Pf : Nat → (Nat → Nat) → (Nat → Nat) → Value → AH → Prop) (i : Nat) (L : Nat → Bool) (lo hi : Nat → Nat) (e : Env) (H : AH) (d : Option Tmp) (e' : Env) (H' : AH) : Prop where
  ex : ∃ v l h, e' = put e d v ∧ (d = none → v = undef) ∧ Vf i (upN lo i l) v ∧ Pf i (upN lo i l) (upN hi i h) v H' ∧ ((l = H.length ∧ h = H'.length) ∨ ∃ j ∈ kl.getD i [], l = lo j ∧ h = hi j)
  ext : ∀ q b, q ∉ X → (∀ j ∈ kl.getD i [], ¬ (lo j ≤ q ∧ q < hi j)) → H[q]? = some b → H'[q]? = some b
  base : Base (upL L i) H'
  len : H.length ≤ H'.length
/-- What is in hand behind all. -/
structure EGyp (ops : Array Oper) (X : List Nat) (kl : List (List Nat)) (Base : (Nat → Bool) → AH → Prop) (Vf : Nat → (Nat → Nat) → Value → Prop) (Pf : Nat → (Nat → Nat) → (Nat → Nat) → Value → AH → Prop) (e0 : Env) (H0 : AH) (lo hi : Nat → Nat) (e : Env) (H : AH) : Prop where
  agree : Agree (dstsOf ops) e0 e
  base : ∃ L : Nat → Bool, (∀ i, i < ops.size → L i = true) ∧ Base L H
  val : ∀ j, j < ops.size → Vf j lo (vAt e (dstAt ops j))
  fact : ∀ j, j < ops.size → (List.range ops.size).all (fun k => !(kl.getD k []).contains j) = true → Pf j lo hi (vAt e (dstAt ops j)) H
  disj : ∀ j k, j < ops.size → k < ops.size → j ≠ k → (List.range ops.size).all (fun q => !(kl.getD q []).contains j && !(kl.getD q []).contains k) = true → hi j ≤ lo k ∨ hi k ≤ lo j
  bnd : ∀ j, j < ops.size → H0.length ≤ lo j ∧ hi j ≤ H.length
  elder : ∀ q b, q ∉ X → H0[q]? = some b → H[q]? = some b
  len : H0.length ≤ H.length
section
variable {P : Program} {B n : Nat}
structure IG (ops : Array Oper) (X : List Nat) (kl : List (List Nat)) (Base : (Nat → Bool) → AH → Prop) (Vf : Nat → (Nat → Nat) → Value → Prop) (Pf : Nat → (Nat → Nat) → (Nat → Nat) → Value → AH → Prop) (e0 : Env) (H0 : AH) (L : Nat → Bool) (lo hi : Nat → Nat) (e : Env) (H : AH) : Prop where
  agree : Agree (dstsOf ops) e0 e
  base : Base L H
  clos : ∀ j o, ops[j]? = some o → L j = true → ∀ x ∈ o.after, Region.binds .any x = true → L x.on = true
  val : ∀ j, L j = true → Vf j lo (vAt e (dstAt ops j))
  fact : ∀ j, L j = true → (∀ k, L k = true → j ∉ kl.getD k []) → Pf j lo hi (vAt e (dstAt ops j)) H
  disj : ∀ j k, L j = true → L k = true → (∀ q, L q = true → j ∉ kl.getD q []) → (∀ q, L q = true → k ∉ kl.getD q []) → j ≠ k → hi j ≤ lo k ∨ hi k ≤ lo j
  bnd : ∀ j, L j = true → H0.length ≤ lo j ∧ hi j ≤ H.length
  elder : ∀ q b, q ∉ X → H0[q]? = some b → H[q]? = some b
  len : H0.length ≤ H.length
theorem AWp.mixedG {id : Nat} {ops : Array Oper} {e : Env} {H : AH} {Q : Exit → Env → AH → Prop} (X : List Nat) (kl dl : List (List Nat)) (Base : (Nat → Bool) → AH → Prop) (Vf : Nat → (Nat → Nat) → Value → Prop) (Pf : Nat → (Nat → Nat) → (Nat → Nat) → Value → AH → Prop) (N : Nat)
    (hm : P.follows .mixedOrders = true) (hN : (ops.size == N && factC ops kl dl) = true) (hX : ∀ q ∈ X, q < H.length)
    (hmonoV : ∀ j lo lo' v, (∀ q, sees ops j q = true → lo' q = lo q) → Vf j lo v → Vf j lo' v)
    (hmono : ∀ j lo lo' hi hi' v H1 H2, (∀ q, sees ops j q = true → lo' q = lo q ∧ hi' q = hi q) → (∀ q b, lo j ≤ q → q < hi j → H1[q]? = some b → H2[q]? = some b) → Pf j lo hi v H1 → Pf j lo' hi' v H2) (h0 : Base (fun _ => false) H)
    (hstep : ∀ i, i < N → ∀ L lo hi e' H', SGyp ops X dl Base Vf Pf e H i L lo hi e' H' → stepP P B ops i 2 (KGact X kl Base Vf Pf i L lo hi e' H' (dstAt ops i)) e' H')
    (hend : ∀ lo hi e' H', EGyp ops X kl Base Vf Pf e H lo hi e' H' → Q .normal e' H') :
    AWp P n B (.region id ops true) Q e H := fun hok σ w a hS hB hE => by
  simp only [codeOk] at hok
  obtain ⟨hN, hc⟩ := Bool.and_eq_true_iff.1 hN
  have hN : ops.size = N := eq_of_beq hN
  simp only [factC, Bool.and_eq_true, decide_eq_true_eq] at hc
  obtain ⟨⟨⟨⟨hac, hnd⟩, hdl⟩, hkl⟩, hkd⟩ := hc
  have hdl' : ∀ i, i < ops.size → ∀ j ∈ dl.getD i [], j ∈ depsF ops ops.size i ∧ ∀ k, k < ops.size → j ∈ kl.getD k [] → k = i ∨ i ∈ depsF ops ops.size k := fun i hi j hj => by
    have h1 := List.all_eq_true.1 (List.all_eq_true.1 hdl i (List.mem_range.2 hi)) j hj
    rw [Bool.and_eq_true] at h1
    refine ⟨by simpa using h1.1, fun k hk hjk => ?_⟩
    have h2 := List.all_eq_true.1 h1.2 k (List.mem_range.2 hk)
    simp only [Bool.or_eq_true, Bool.not_eq_true', beq_iff_eq] at h2
    rcases h2 with (h2 | h2) | h2
    · rw [List.contains_eq_mem, decide_eq_false_iff_not] at h2; exact absurd hjk h2
    · exact .inl h2
    · exact .inr (by simpa using h2)
  have hkn : ∀ k, ops.size ≤ k → kl.getD k [] = [] := fun k hk => by
    rw [List.getD_eq_getElem?_getD, List.getElem?_eq_none (by omega)]; rfl
  have hb : Below w.heap.size w { w with drawn := w.drawn + 1 } := ⟨rfl, rfl, rfl, Nat.le_refl _, fun _ _ => rfl⟩
  let I : (Nat → Bool) → Env → AH → Prop := fun L e' H' => ∃ lo hi, IG ops X kl Base Vf Pf e H L lo hi e' H'
  have := mixI_sound (P := P) (B := B) (σ0 := σ) (H0 := H) (w0 := w) hok hac (I := I) (K := Q .normal)
    (fun L e' H' ⟨lo, hi, hI⟩ i o ho hL hdep => by
      have hi' : i < ops.size := (Array.getElem?_eq_some_iff.1 ho).1
      have hdst : dstAt ops i = o.dst := by unfold dstAt; rw [ho]; rfl
      have hLd : ∀ j ∈ depsF ops ops.size i, L j = true := deps_listed hI.clos _ _ fun o' ho' => by rw [ho] at ho'; cases ho'; exact hdep
      have hal : ∀ j ∈ dl.getD i [], ∀ k, L k = true → j ∉ kl.getD k [] := fun j hj k hk hjk => by
        by_cases hks : k < ops.size
        · rcases (hdl' i hi' j hj).2 k hks hjk with h | h
          · rw [h, hL] at hk; cases hk
          · have := deps_listed hI.clos ops.size k (fun o' ho' x hx hb => hI.clos k o' ho' hk x hx hb) i h
            rw [hL] at this; cases this
        · rw [hkn k (by omega)] at hjk; cases hjk
      have hsh : SGyp ops X dl Base Vf Pf e H i L lo hi e' H' := ⟨hI.agree, hI.base, hL, fun j hj => hLd j (hdl' i hi' j hj).1,
        fun j hj => hI.val j (hLd j (hdl' i hi' j hj).1),
        fun j hj => hI.fact j (hLd j (hdl' i hi' j hj).1) (hal j hj),
        fun j hj k hk hne => hI.disj j k (hLd j (hdl' i hi' j hj).1) (hLd k (hdl' i hi' k hk).1) (hal j hj) (hal k hk) hne,
        fun j hj => hI.bnd j (hLd j (hdl' i hi' j hj).1), hI.elder, hI.len⟩
      refine stepP_mono (fun e'' H'' hK => ?_) (hstep i (by omega) L lo hi e' H' hsh)
      rw [hdst] at hK
      obtain ⟨v, l, h, he, hun, hvf, hp, hlh⟩ := hK.ex
      let lo' : Nat → Nat := upN lo i l
      let hi'' : Nat → Nat := upN hi i h
      have hvi : vAt e'' o.dst = v := by
        rw [he]
        cases hd' : o.dst with
        | none => exact (hun hd').symm
        | some t => simp [vAt, put]
      have hvj : ∀ j, j ≠ i → vAt e'' (dstAt ops j) = vAt e' (dstAt ops j) := fun j hji => by
        rw [he]
        cases hj' : dstAt ops j with
        | none => rfl
        | some d =>
          cases hd' : o.dst with
          | none => rfl
          | some t =>
            have : d ≠ t := fun h => hji (nodup_dst hnd hj' (by rw [hdst, h]; exact hd'))
            simp [vAt, put, this]
      have hsee : ∀ j q, L j = true → sees ops j q = true → q ≠ i := fun j q hj hs e => by
        have hq : L q = true := by
          unfold sees at hs
          rcases Bool.or_eq_true_iff.1 hs with h | h
          · rw [eq_of_beq h]; exact hj
          · exact deps_listed hI.clos ops.size j (fun o' ho' x hx hb => hI.clos j o' ho' hj x hx hb) q (by simpa using h)
        rw [e, hL] at hq
        cases hq
      have hkin : ∀ j ∈ kl.getD i [], j ∈ dl.getD i [] := fun j hj => by
        have := List.all_eq_true.1 (List.all_eq_true.1 hkd i (List.mem_range.2 hi')) j hj
        simpa using this
      have hlist : ∀ {j}, upL L i j = true → j ≠ i → L j = true := fun hj hne => by rw [upL_ne _ hne] at hj; exact hj
      have halive : ∀ {j}, (∀ k, upL L i k = true → j ∉ kl.getD k []) → (∀ k, L k = true → j ∉ kl.getD k []) ∧ j ∉ kl.getD i [] := fun hj =>
        ⟨fun k hk => hj k (by by_cases e : k = i; · rw [e, upL_self]
                              · rw [upL_ne _ e]; exact hk), hj i (upL_self _ _)⟩
      have hsep : ∀ j, L j = true → j ≠ i → (∀ k, L k = true → j ∉ kl.getD k []) → j ∉ kl.getD i [] → h ≤ lo j ∨ hi j ≤ l := fun j hj hne hal1 hal2 => by
        rcases hlh with ⟨rfl, rfl⟩ | ⟨k, hk, rfl, rfl⟩
        · exact .inr (hI.bnd j hj).2
        · have hkd' := hkin k hk
          have := hI.disj j k hj (hLd k (hdl' i hi' k hkd').1) hal1 (hal k hkd') (fun e => hal2 (e ▸ hk))
          omega
      refine ⟨lo', hi'', ?_, hK.base, fun j o' ho' hj x hx hb => ?_, fun j hj => ?_, fun j hj hal' => ?_, fun j k hj hk haj hak hne => ?_, fun j hj => ?_, fun q b hq hb => ?_, Nat.le_trans hI.len hK.len⟩
      · rw [he]
        cases hd : o.dst with
        | none => exact hI.agree
        | some t => exact hI.agree.put (by
            rw [List.contains_iff_mem]
            exact List.mem_filterMap.2 ⟨o, Array.mem_toList_iff.2 (Array.mem_of_getElem? ho), hd⟩) _
      · by_cases hji : j = i
        · subst hji
          rw [ho] at ho'; cases ho'
          have := hdep x hx hb
          by_cases e : x.on = j
          · rw [e, upL_self]
          · rw [upL_ne _ e]; exact this
        · have := hI.clos j o' ho' (hlist hj hji) x hx hb
          by_cases e : x.on = i
          · rw [e, upL_self]
          · rw [upL_ne _ e]; exact this
      · by_cases hji : j = i
        · subst hji
          rw [hdst, hvi]
          exact hvf
        · rw [hvj j hji]
          exact hmonoV j lo lo' _ (fun q hq => upN_ne lo (hsee j q (hlist hj hji) hq)) (hI.val j (hlist hj hji))
      · by_cases hji : j = i
        · subst hji
          rw [hdst, hvi]
          exact hp
        · obtain ⟨ha1, ha2⟩ := halive hal'
          have hLj := hlist hj hji
          rw [hvj j hji]
          refine hmono j lo lo' hi hi'' _ _ _ (fun q hq => ⟨upN_ne lo (hsee j q hLj hq), upN_ne hi (hsee j q hLj hq)⟩) (fun q b h1 h2 h3 => hK.ext q b (fun hx => ?_) (fun k hk => ?_) h3) (hI.fact j hLj ha1)
          · have := hX q hx
            have := (hI.bnd j hLj).1
            omega
          · have hkd' := hkin k hk
            have := hI.disj j k hLj (hLd k (hdl' i hi' k hkd').1) ha1 (hal k hkd') (fun e => ha2 (e ▸ hk))
            omega
      · obtain ⟨ha1, ha2⟩ := halive haj
        obtain ⟨hb1, hb2⟩ := halive hak
        by_cases hji : j = i
        · subst hji
          have hki : k ≠ j := Ne.symm hne
          simp only [lo', hi'', upN, if_true, if_neg hki]
          exact hsep k (hlist hk hki) hki hb1 hb2
        · by_cases hki : k = i
          · subst hki
            simp only [lo', hi'', upN, if_true, if_neg hji]
            have := hsep j (hlist hj hji) hji ha1 ha2
            omega
          · simp only [lo', hi'', upN, if_neg hji, if_neg hki]
            exact hI.disj j k (hlist hj hji) (hlist hk hki) ha1 hb1 hne
      · by_cases hji : j = i
        · subst hji
          simp only [lo', hi'', upN, if_true]
          rcases hlh with ⟨rfl, rfl⟩ | ⟨k, hk, rfl, rfl⟩
          · exact ⟨hI.len, Nat.le_refl _⟩
          · have := hI.bnd k (hLd k (hdl' j hi' k (hkin k hk)).1)
            have := hK.len
            omega
        · simp only [lo', hi'', upN, if_neg hji]
          have := hI.bnd j (hlist hj hji)
          have := hK.len
          omega
      · refine hK.ext q b hq (fun j hj => ?_) (hI.elder q b hq hb)
        have := (hI.bnd j (hLd j (hdl' i hi' j (hkin j hj)).1)).1
        have := lt_of_some hb
        omega)
    (fun L e' H' ⟨lo, hi, hI⟩ hall => hend lo hi e' H' ⟨hI.agree, ⟨L, hall, hI.base⟩, fun j hj => hI.val j (hall j hj), fun j hj hk => hI.fact j (hall j hj) (fun k _ hjk => by
        by_cases hks : k < ops.size
        · have := List.all_eq_true.1 hk k (List.mem_range.2 hks)
          rw [Bool.not_eq_true', List.contains_eq_mem, decide_eq_false_iff_not] at this
          exact this hjk
        · rw [hkn k (by omega)] at hjk; cases hjk),
      fun j k hj hk hne hal => by
        have h1 : ∀ q, j ∉ kl.getD q [] ∧ k ∉ kl.getD q [] := fun q => by
          by_cases hqs : q < ops.size
          · have := List.all_eq_true.1 hal q (List.mem_range.2 hqs)
            simp only [Bool.and_eq_true, Bool.not_eq_true', List.contains_eq_mem, decide_eq_false_iff_not] at this
            exact this
          · rw [hkn q (by omega)]; simp
        exact hI.disj j k (hall j hj) (hall k hk) (fun q _ => (h1 q).1) (fun q _ => (h1 q).2) hne,
      fun j hj => hI.bnd j (hall j hj), hI.elder, hI.len⟩)
    ops.size (Array.replicate ops.size false) e H σ { w with drawn := w.drawn + 1 } a (by simp) (Nat.le_trans List.countP_le_length (by simp)) (.of_below hb) (hS.below hb) hB hE
    (by
      have : (fun q => (Array.replicate ops.size false).getD q false) = fun _ => false := funext fun q => by
        by_cases h : q < ops.size <;> simp [Array.getD, h]
      rw [this]
      exact ⟨fun _ => 0, fun _ => 0, Agree.refl _ _, h0, fun j o _ hj => (by cases hj), fun j hj => (by cases hj), fun j hj => (by cases hj), fun j k hj => (by cases hj), fun j hj => (by cases hj), fun q b _ h => h, Nat.le_refl _⟩)
  refine wp_mono (wp_region_any hm this) fun ex a' w' hq => ?_
  cases ex with
  | normal => exact hq
  | _ => exact hq.elim
end
end Go.BM
