/- append, told by lists. -/
import Derived.Test.YtgcffommhbjgdaaA5
set_option linter.unusedVariables false
set_option linter.unusedSimpArgs false
namespace Go.AM
open Go.RowKit

section
variable {P : Program} {B n : Nat} {σ : Nat → Loc} {H : AH} {w : World} {a : Act} {e : Env}

theorem lt_of_some' {α : Type} {l : List α} {j : Nat} {v : α} (h : l[j]? = some v) : j < l.length := by
  rcases Nat.lt_or_ge j l.length with h' | h'
  · exact h'
  · rw [List.getElem?_eq_none h'] at h; cases h

/-- What is appended: how many, and their cells. -/
def srcV (P : Program) (H : AH) (el sz : Nat) (tx : TypeId) (x : Value) : Option (Nat × List Value) :=
  match x with
  | .slice none 0 0 => (match elZ P tx with | some _ => some (0, []) | none => none)
  | .slice (some ⟨r, off, none⟩) m ver =>
    (match elZ P tx, getB H r ver with
     | some _, some cs => if off + m * sz ≤ cs.length then some (m, (cs.drop off).take (m * sz)) else none
     | _, _ => none)
  | .string s => (match P.underlying tx with | some .string => if sz = 1 then some (s.size, byteCells s) else none | _ => none)
  | _ => none

theorem src_sound (hS : Sim σ H w) {el sz : Nat} {tx : TypeId} {x dx : Value} (hx : VR σ H x dx) {m : Nat} {ds : List Value} (h : srcV P H el sz tx dx = some (m, ds)) :
    ∃ us, Src P sz tx x m us w ∧ VRL σ H us ds := by
  unfold srcV at h
  split at h
  · cases he : elZ P tx with
    | none => rw [he] at h; cases h
    | some esz =>
      obtain ⟨e', sz', by_⟩ := esz
      rw [he] at h
      cases h
      obtain ⟨hu, _⟩ := elZ_some he
      obtain ⟨ao, rfl⟩ := hx.sliceNil rfl
      refine ⟨[], ?_, rfl, fun j u hu => by simp at hu⟩
      cases ao with
      | none => exact Src.ofNil w hu 0
      | some ad => exact Src.ofSlice w hu ad 0 0 [] (by simp) (fun j u hj => by simp at hj) (fun u hu => by cases hu)
  · rename_i r off m' ver
    cases he : elZ P tx with
    | none => rw [he] at h; cases h
    | some esz =>
      cases hb : getB H r ver with
      | none => rw [he, hb] at h; cases h
      | some cs =>
        rw [he, hb] at h
        dsimp only at h
        by_cases hle : off + m' * sz ≤ cs.length
        · rw [if_pos hle] at h
          cases h
          obtain ⟨e', sz', by_⟩ := esz
          obtain ⟨hu, _⟩ := elZ_some he
          rcases hx.sliceI hb with ⟨h0, ad, rfl⟩ | ⟨cap, blk, hbk, rfl, hlc, hcm, hown⟩
          · subst h0
            refine ⟨[], ?_, by simp, fun j u hu => by simp at hu⟩
            cases ad with
            | none => exact Src.ofNil w hu 0
            | some ad => exact Src.ofSlice w hu ad 0 0 [] (by simp) (fun j u hj => by simp at hj) (fun u hu => by cases hu)
          · obtain ⟨blk', h1, h2, h3⟩ := getB_some hb
            rw [hbk] at h1
            cases h1
            subst h3
            obtain ⟨us, hul, huc, huv⟩ := hS.cells hbk off (m * sz) hle
            refine ⟨us, Src.ofSlice w hu _ m cap us hul (fun j u hj => by rw [add_plain']; exact (huc j u hj).1) (fun u hu => ?_), by simp [hul]; omega, fun j u hj => ?_⟩
            · obtain ⟨j, hj, rfl⟩ := List.getElem_of_mem hu
              exact (huc j _ (List.getElem?_eq_getElem hj)).2
            · have hjl : j < ((blk.cs.drop off).take (m * sz)).length := by
                rcases Nat.lt_or_ge j ((blk.cs.drop off).take (m * sz)).length with h' | h'
                · exact h'
                · rw [List.getElem?_eq_none h'] at hj; cases hj
              have hju : j < us.length := by rw [hul]; simp at hjl; omega
              refine ⟨us[j], List.getElem?_eq_getElem hju, ?_⟩
              have := huv j hju hjl
              rw [List.getElem?_eq_getElem hjl] at hj
              cases hj
              exact this
        · rw [if_neg hle] at h; cases h
  · rename_i s
    have := hx.str
    subst this
    cases hu : P.underlying tx with
    | none => rw [hu] at h; cases h
    | some d =>
      rw [hu] at h
      cases d <;> try (cases h; done)
      dsimp only at h
      by_cases h1 : sz = 1
      · rw [if_pos h1] at h
        cases h
        subst h1
        refine ⟨byteCells s, Src.ofString w hu s, rfl, fun j u hj => ⟨u, hj, ?_⟩⟩
        have := List.mem_of_getElem? hj
        unfold byteCells at this
        obtain ⟨b, _, rfl⟩ := List.mem_map.1 this
        exact .flat _ rfl
      · rw [if_neg h1] at h; cases h
  · cases h

theorem app_room {t tx ty el : TypeId} {i : TypeInfo} (ht : P.underlying t = some (.slice el)) (hi : P.info? el = some i) {x : Value} {m : Nat} {news : List Value} (hs : Src P i.size tx x m news w)
    {g sLen sCap : Nat} {cur : Array Value} {e0 : TypeId} (hg : w.heap[g]? = some (.cells cur e0 (0, 0))) (hroom : sLen + m ≤ sCap) (hfit : sLen * i.size + news.length ≤ cur.size) :
    (Builtin.append_ #[t, tx] ty #[.slice (some ⟨g, 0, none⟩) sLen sCap, x]).run P w = .ok (.slice (some ⟨g, 0, none⟩) (sLen + m) sCap) (w.setRow g (cur.toList.take (sLen * i.size) ++ news ++ cur.toList.drop (sLen * i.size + news.length)).toArray) := by
  have hst := run_storeCells_at P g (sLen * i.size) e0 news 0 cur w hg (by simpa using hfit) hs.one
  simp only [Nat.add_zero] at hst
  rcases hs.kind with ⟨e', hk⟩ | hk <;> simp [Builtin.append_, run_underlying ht, run_underlying hk, sizeOf, typeInfo, hi, hs.len, hroom, hs.cells, add_plain', hst]

theorem app_none {t tx ty el : TypeId} {i : TypeInfo} (ht : P.underlying t = some (.slice el)) (hi : P.info? el = some i) {x : Value} (hs : Src P i.size tx x 0 [] w) (ao : Option Addr) :
    (Builtin.append_ #[t, tx] ty #[.slice ao 0 0, x]).run P w = .ok (.slice ao 0 0) w := by
  rcases hs.kind with ⟨e', hk⟩ | hk <;> cases ao <;> simp [Builtin.append_, run_underlying ht, run_underlying hk, sizeOf, typeInfo, hi, hs.len, hs.cells, storeCells]

theorem app_grow {t tx ty el : TypeId} {i : TypeInfo} {z : Value} (ht : P.underlying t = some (.slice el)) (hi : P.info? el = some i) (hz : i.zero = some z) (hzs : z.cells.size = i.size) (base : Option Addr) (sLen sCap : Nat) (olds : List Value)
    (hold : (Builtin.firstCells i.size sLen (.slice base sLen sCap)).run P w.drew = .ok olds.toArray w.drew) (holdl : olds.length = sLen * i.size) {x : Value} {m : Nat} {news : List Value} (hs : Src P i.size tx x m news w)
    (hg : sCap < sLen + m) (hbytes : (sLen + m) * i.bytes ≤ 140737488355328) (hmax : sLen + m ≤ maxLen) :
    ∃ (c : Array Value) (cap : Nat), (Builtin.append_ #[t, tx] ty #[.slice base sLen sCap, x]).run P w = .ok (.slice (some ⟨w.drew.heap.size, 0, none⟩) (sLen + m) cap) (w.drew.alloc (.cells c el)) ∧
      sLen + m ≤ cap ∧ cap ≤ maxLen ∧ c.size = cap * i.size ∧ (olds ++ news).length ≤ c.size ∧ ∀ (j : Nat) v, (olds ++ news)[j]? = some v → c[j]? = some v := by
  have hr := run_append_grow_src (P := P) w t tx ty el i z ht hi hz base sLen sCap olds hold x m news hs hg (by simp only [maxLen] at hmax; omega) (growslice_fits hg hbytes)
  have hge := grownCap_ge w (sLen + m) sCap el
  have hle := grownCap_le_maxLen w (sLen + m) sCap el hmax
  have hnl := hs.newsLen
  have hsize : (olds ++ news).length = (sLen + m) * i.size := by rw [List.length_append, holdl, hnl, Nat.add_mul]
  have hcs : ((olds ++ news).toArray ++ Builtin.zeroCells z.cells (grownCap w (sLen + m) sCap el - (sLen + m))).size = grownCap w (sLen + m) sCap el * i.size := by
    rw [Array.size_append, List.size_toArray, hsize, size_zeroCells, hzs, ← Nat.add_mul]
    congr 1
    omega
  refine ⟨_, _, hr, hge, hle, hcs, ?_, fun j v hj => ?_⟩
  · rw [hcs, hsize]; exact Nat.mul_le_mul_right _ hge
  · have hjl : j < (olds ++ news).length := by
      rcases Nat.lt_or_ge j (olds ++ news).length with h' | h'
      · exact h'
      · rw [List.getElem?_eq_none h'] at hj; cases hj
    rw [Array.getElem?_append_left (by simpa using hjl)]
    simpa using hj

def appendH (P : Program) (B : Nat) (H : AH) (t tx : TypeId) (s x : Value) : Option (Value × AH) :=
  match elZ P t with
  | some (el, sz, by_) =>
    (match srcV P H el sz tx x with
     | some (m, news) =>
       if zOk P el sz = true then
         (match s with
          | .slice none 0 0 =>
            if m * by_ ≤ 140737488355328 ∧ m ≤ 140737488355328 then
              (if m = 0 then some (.slice none 0 0, H) else some (.slice (some ⟨H.length, 0, none⟩) m 0, H ++ [mkB el sz news]))
            else none
          | .slice (some ⟨r, 0, none⟩) len ver =>
            (match H[r]? with
             | some blk =>
               if blk.ver = ver ∧ blk.own = true ∧ B ≤ r ∧ blk.el = el ∧ blk.sz = sz ∧ blk.cs.length = len * sz ∧ (len + m) * by_ ≤ 140737488355328 ∧ len + m ≤ 140737488355328 then
                 some (.slice (some ⟨r, 0, none⟩) (len + m) (ver + 1), H.set r { blk with cs := blk.cs ++ news, ver := ver + 1 })
               else none
             | none => none)
          | _ => none)
       else none
     | none => none)
  | none => none

theorem append_sound (hS : Sim σ H w) (hB : B ≤ H.length) {t tx ty : TypeId} {s x ds dx d : Value} {H' : AH} (hs : VR σ H s ds) (hx : VR σ H x dx) (h : appendH P B H t tx ds dx = some (d, H')) :
    Goes P B σ H w ((Builtin.append_ #[t, tx] ty #[s, x]).run P w) d H' := by
  unfold appendH at h
  cases he : elZ P t with
  | none => rw [he] at h; cases h
  | some esz =>
    obtain ⟨el, sz, by_⟩ := esz
    rw [he] at h
    dsimp only at h
    cases hsrc : srcV P H el sz tx dx with
    | none => rw [hsrc] at h; cases h
    | some mn =>
      obtain ⟨m, news⟩ := mn
      rw [hsrc] at h
      dsimp only at h
      by_cases hz : zOk P el sz = true
      · rw [if_pos hz] at h
        obtain ⟨us, hS', hvl⟩ := src_sound (P := P) hS hx hsrc
        obtain ⟨hu, i, hi, hisz, hiby⟩ := elZ_some he
        unfold zOk zeroV at hz
        rw [hi] at hz
        cases hzz : i.zero with
        | none => simp [hzz] at hz
        | some z =>
          simp only [Option.bind_some, hzz, Bool.and_eq_true, decide_eq_true_eq] at hz
          obtain ⟨⟨⟨hzs, hzc⟩, hz1⟩, hpos⟩ := hz
          rw [← hisz] at hS'
          split at h
          · obtain ⟨ao, rfl⟩ := hs.sliceNil rfl
            by_cases hc : m * by_ ≤ 140737488355328 ∧ m ≤ 140737488355328
            · rw [if_pos hc] at h
              by_cases h0 : m = 0
              · rw [if_pos h0] at h
                cases h
                subst h0
                have hus : us = [] := List.eq_nil_of_length_eq_zero (by rw [hS'.newsLen]; simp)
                subst hus
                exact ⟨_, w, σ, app_none hu hi hS' ao, Fut.refl _ _ _ _, hS, .mt _ _ _⟩
              · rw [if_neg h0] at h
                cases h
                obtain ⟨c, cap, hr, h1, h2, h3, h4, h5⟩ := app_grow (ty := ty) hu hi hzz (by rw [hzs, hisz]) ao 0 0 [] (by cases ao <;> simp [Builtin.firstCells, loadCells, loadCellsFrom]) (by simp) hS' (by omega) (by rw [hiby]; simpa using hc.1) (by simp only [maxLen]; omega)
                obtain ⟨σ', F, S, V⟩ := new_slice (B := B) hS hB (w1 := w.drew) (below_drewN' w) el sz m cap news c (by rw [List.nil_append] at h4; rw [← hvl.1]; exact h4) (fun j v hj => by
                  obtain ⟨u, hu', hv⟩ := hvl.2 j v hj
                  exact ⟨u, h5 j u (by simpa using hu'), hv, hS'.one u (List.mem_of_getElem? hu')⟩) (by omega) h2 (by rw [h3, hisz]; exact Nat.le_refl _)
                simp only [Nat.zero_add] at hr
                exact ⟨_, _, σ', hr, F, S, V⟩
            · rw [if_neg hc] at h; cases h
          · rename_i r len ver
            cases hb : H[r]? with
            | none => rw [hb] at h; cases h
            | some blk =>
              rw [hb] at h
              dsimp only at h
              by_cases hc : blk.ver = ver ∧ blk.own = true ∧ B ≤ r ∧ blk.el = el ∧ blk.sz = sz ∧ blk.cs.length = len * sz ∧ (len + m) * by_ ≤ 140737488355328 ∧ len + m ≤ 140737488355328
              · rw [if_pos hc] at h
                cases h
                obtain ⟨c1, c2, c3, c4, c5, c6, c7, c8⟩ := hc
                have hg : getB H r ver = some blk.cs := by simp [getB, hb, c1]
                obtain ⟨cur, o1, o2, o3, o4, o5⟩ := hS.own r blk hb c2
                have hnl := hS'.newsLen
                have hlt := lt_of_some hb
                rcases hs.sliceI hg with ⟨h0, ao, rfl⟩ | ⟨cap, blk', hbk, rfl, hlc, hcm, hown⟩
                · subst h0
                  have hcs0 : blk.cs = [] := List.eq_nil_of_length_eq_zero (by rw [c6]; simp)
                  by_cases h0 : m = 0
                  · subst h0
                    have hus : us = [] := List.eq_nil_of_length_eq_zero (by rw [hnl]; simp)
                    subst hus
                    have hn0 : news = [] := List.eq_nil_of_length_eq_zero (by rw [← hvl.1]; rfl)
                    subst hn0
                    obtain ⟨F, S⟩ := upd_sound (B := B) (w' := w) (blk' := { blk with cs := blk.cs ++ [], ver := ver + 1 }) hS hb c2 c3 rfl rfl rfl (Nat.le_refl _) (fun _ _ _ => rfl) (σ r) (.inl rfl) (by simp [c1]) rfl rfl cur o1 o2 o3 (by simpa using o4) (by simpa using o5)
                    exact ⟨_, w, _, app_none hu hi hS' ao, F, S, .mt _ _ _⟩
                  · obtain ⟨c, cap, hr, h1, h2, h3, h4, h5⟩ := app_grow (ty := ty) hu hi hzz (by rw [hzs, hisz]) ao 0 0 [] (by cases ao <;> simp [Builtin.firstCells, loadCells, loadCellsFrom]) (by simp) hS' (by omega) (by rw [hiby]; simpa using c7) (by simp only [maxLen]; omega)
                    obtain ⟨F, S⟩ := upd_sound (B := B) (w' := w.drew.alloc (.cells c el)) (blk' := { blk with cs := blk.cs ++ news, ver := ver + 1 }) hS hb c2 c3 rfl rfl rfl (by simp) (fun k hk _ => Below.heap_alloc w.drew _ k hk) ⟨w.drew.heap.size, 0, c.size⟩ (.inr ⟨Nat.le_refl _, by simp [c1]⟩) (by simp [c1]) rfl rfl c (by rw [c4]; exact heap_alloc_new w.drew _) rfl rfl (by
                        rw [hcs0]; rw [List.nil_append] at h4; simp only [List.nil_append]; rw [← hvl.1]; exact h4) (fun j v hj => by
                        rw [hcs0] at hj
                        simp only [List.nil_append] at hj
                        obtain ⟨u, hu', hv⟩ := hvl.2 j v hj
                        exact ⟨u, h5 j u (by simpa using hu'), hv, hS'.one u (List.mem_of_getElem? hu')⟩)
                    simp only [Nat.zero_add] at hr
                    refine ⟨_, _, _, hr, F, S, ?_⟩
                    have := VR.slice (σ := fun q => if q = r then ⟨w.drew.heap.size, 0, c.size⟩ else σ q) (H := H.set r { blk with cs := blk.cs ++ news, ver := ver + 1 }) r 0 (0 + m) cap (ver + 1) _ (by rw [List.getElem?_set_self hlt]) rfl (by omega) h2 (fun _ => by simp only [if_true, Nat.zero_add]; rw [c5, h3, hisz]; exact Nat.le_refl _)
                    simpa using this
                · rw [hb] at hbk
                  cases hbk
                  have hcapn := hown c2
                  simp only [Nat.zero_add, c5] at hcapn
                  rw [o2, Nat.zero_add]
                  by_cases hroom : len + m ≤ cap
                  · have hfit : len * i.size + us.length ≤ cur.size := by
                      rw [hnl, ← Nat.add_mul, hisz, o3]
                      exact Nat.le_trans (Nat.mul_le_mul_right _ hroom) hcapn
                    have hr := app_room (ty := ty) hu hi hS' o1 hroom hfit
                    have hget := splice_get (cs := cur.toList) (news := us) (off := len * i.size) (by simpa using hfit)
                    unfold splice at hget
                    obtain ⟨F, S⟩ := upd_sound (B := B) (w' := w.setRow (σ r).b (cur.toList.take (len * i.size) ++ us ++ cur.toList.drop (len * i.size + us.length)).toArray) (blk' := { blk with cs := blk.cs ++ news, ver := ver + 1 }) hS hb c2 c3 rfl rfl rfl (by simp) (fun k _ hk => setRow_other w _ k _ hk) (σ r) (.inl rfl) (by simp [c1]) rfl rfl
                      _ (setRow_heap w _ cur _ _ _ o1) o2 (by simp; omega) (by simp only [List.length_append, List.size_toArray, c6, ← hvl.1, ← hisz]; simp; omega) (by
                        intro j v hj
                        simp only [List.getElem?_toArray]
                        rw [hget]
                        by_cases j1 : j < len * i.size
                        · rw [if_pos j1]
                          rw [List.getElem?_append_left (by rw [c6, ← hisz]; exact j1)] at hj
                          obtain ⟨u, a1, a2, a3⟩ := o5 j v hj
                          exact ⟨u, by simpa using a1, a2, a3⟩
                        · rw [if_neg j1]
                          rw [List.getElem?_append_right (by rw [c6, ← hisz]; omega), c6, ← hisz] at hj
                          obtain ⟨u, a1, a2⟩ := hvl.2 _ v hj
                          have hju : j - len * i.size < us.length := by
                            rcases Nat.lt_or_ge (j - len * i.size) us.length with h' | h'
                            · exact h'
                            · rw [List.getElem?_eq_none h'] at a1; cases a1
                          rw [if_pos (by omega)]
                          exact ⟨u, a1, a2, hS'.one u (List.mem_of_getElem? a1)⟩)
                    refine ⟨_, _, _, hr, F, S, ?_⟩
                    have := VR.slice (σ := fun q => if q = r then σ r else σ q) (H := H.set r { blk with cs := blk.cs ++ news, ver := ver + 1 }) r 0 (len + m) cap (ver + 1) _ (by rw [List.getElem?_set_self hlt]) rfl hroom hcm (fun _ => by simp only [if_true, Nat.zero_add]; rw [c5]; exact hcapn)
                    simpa [o2] using this
                  · obtain ⟨olds, p1, p2, p3⟩ := hS.cells hb 0 (len * sz) (by omega)
                    have hold : (Builtin.firstCells i.size len (.slice (some ⟨(σ r).b, 0, none⟩) len cap)).run P w.drew = .ok olds.toArray w.drew := by
                      refine run_firstCells_some w.drew i.size len _ len cap olds (by rw [p1, hisz]) fun j u hj => ?_
                      rw [add_plain']
                      have := (p2 j u hj).1
                      simp only [o2, Nat.zero_add, Nat.add_zero] at this ⊢
                      exact this
                    obtain ⟨c, cap', hr, h1, h2, h3, h4, h5⟩ := app_grow (ty := ty) hu hi hzz (by rw [hzs, hisz]) (some ⟨(σ r).b, 0, none⟩) len cap olds hold (by rw [p1, hisz]) hS' (by omega) (by rw [hiby]; exact c7) (by simp only [maxLen]; omega)
                    have hvold : VRL σ H olds blk.cs := by
                      refine ⟨by rw [p1, c6], fun j v hj => ?_⟩
                      have hjl : j < blk.cs.length := lt_of_some' hj
                      have hjo : j < olds.length := by rw [p1, ← c6]; exact hjl
                      have hjt : j < ((blk.cs.drop 0).take (len * sz)).length := by simp; omega
                      have := p3 j hjo hjt
                      simp only [List.getElem_take, List.getElem_drop, Nat.zero_add] at this
                      rw [List.getElem?_eq_getElem hjl] at hj
                      cases hj
                      exact ⟨_, List.getElem?_eq_getElem hjo, this⟩
                    have hva := hvold.append hvl
                    obtain ⟨F, S⟩ := upd_sound (B := B) (w' := w.drew.alloc (.cells c el)) (blk' := { blk with cs := blk.cs ++ news, ver := ver + 1 }) hS hb c2 c3 rfl rfl rfl (by simp) (fun k hk _ => Below.heap_alloc w.drew _ k hk) ⟨w.drew.heap.size, 0, c.size⟩ (.inr ⟨Nat.le_refl _, by simp [c1]⟩) (by simp [c1]) rfl rfl c (by rw [c4]; exact heap_alloc_new w.drew _) rfl rfl (by
                        simp only; rw [← hva.1]; exact h4) (fun j v hj => by
                        obtain ⟨u, hu', hv⟩ := hva.2 j v hj
                        refine ⟨u, h5 j u hu', hv, ?_⟩
                        rcases List.mem_append.1 (List.mem_of_getElem? hu') with hm | hm
                        · obtain ⟨q, hq, rfl⟩ := List.getElem_of_mem hm
                          exact (p2 q _ (List.getElem?_eq_getElem hq)).2
                        · exact hS'.one u hm)
                    refine ⟨_, _, _, hr, F, S, ?_⟩
                    have := VR.slice (σ := fun q => if q = r then ⟨w.drew.heap.size, 0, c.size⟩ else σ q) (H := H.set r { blk with cs := blk.cs ++ news, ver := ver + 1 }) r 0 (len + m) cap' (ver + 1) _ (by rw [List.getElem?_set_self hlt]) rfl (by omega) h2 (fun _ => by simp only [if_true, Nat.zero_add]; rw [c5, h3, hisz]; exact Nat.le_refl _)
                    simpa using this
              · rw [if_neg hc] at h; cases h
          · cases h
      · rw [if_neg hz] at h; cases h

end
end Go.AM
