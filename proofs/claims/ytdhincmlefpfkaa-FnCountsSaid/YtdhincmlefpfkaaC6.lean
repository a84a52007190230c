/- append, told by lists. -/
import Derived.Test.YtdhincmlefpfkaaC5
set_option linter.unusedVariables false
set_option linter.unusedSimpArgs false
namespace Go.BM
open Go.RowKit

section
variable {P : Program} {B n : Nat} {σ : Sg} {H : AH} {w : World} {a : Act} {e : Env}

theorem lt_of_some' {α : Type} {l : List α} {j : Nat} {v : α} (h : l[j]? = some v) : j < l.length := by
  rcases Nat.lt_or_ge j l.length with h' | h'
  · exact h'
  · rw [List.getElem?_eq_none h'] at h; cases h

/-- What is appended: how many, and their cells. -/
def srcV (P : Program) (H : AH) (el sz : Nat) (tx : TypeId) (x : Value) : Option (Nat × List Value) :=
  match x with
  | .string s => (match P.underlying tx with | some .string => if sz = 1 then some (s.size, byteCells s) else none | _ => none)
  | x =>
    (match elZ P tx with
     | none => none
     | some _ =>
       (match asI x with
        | some (m, cs) => if m * sz ≤ cs.length then some (m, cs.take (m * sz)) else none
        | none =>
          (match x with
           | .slice none 0 0 => some (0, [])
           | .slice (some ⟨r, off, _⟩) m ver =>
             (match getB H r ver with
              | some cs => if off + m * sz ≤ cs.length then some (m, (cs.drop off).take (m * sz)) else none
              | none => none)
           | _ => none)))

theorem src_none {tx e : TypeId} {z : Nat × Nat} {sz : Nat} (he : elZ P tx = some (e, z)) (ad : Option Addr) (cap : Nat) : Src P sz tx (.slice ad 0 cap) 0 [] w := by
  obtain ⟨hu, _⟩ := elZ_some he
  cases ad with
  | none => exact Src.ofNil w hu cap
  | some ad => exact Src.ofSlice w hu ad 0 cap [] (by simp) (fun j u hj => by simp at hj) (fun u hu => by cases hu)

theorem src_sound (hS : Sim σ H w) {el sz : Nat} {tx : TypeId} {x dx : Value} (hx : VR σ H x dx) {m : Nat} {ds : List Value} (h : srcV P H el sz tx dx = some (m, ds)) :
    ∃ us, Src P sz tx x m us w ∧ VRL σ H us ds := by
  unfold srcV at h
  split at h
  · rename_i s
    have := hx.str
    subst this
    cases hu : P.underlying tx with
    | none => rw [hu] at h; cases h
    | some d =>
      rw [hu] at h
      cases d <;> try (cases h; done)
      dsimp only at h
      by_cases h1 : sz = 1
      · rw [if_pos h1] at h
        cases h
        subst h1
        refine ⟨byteCells s, Src.ofString w hu s, rfl, fun j u hj => ⟨u, hj, ?_⟩⟩
        have := List.mem_of_getElem? hj
        unfold byteCells at this
        obtain ⟨b, _, rfl⟩ := List.mem_map.1 this
        exact .flat _ rfl
      · rw [if_neg h1] at h; cases h
  · cases he : elZ P tx with
    | none => rw [he] at h; cases h
    | some esz =>
    obtain ⟨e', sz', by_⟩ := esz
    rw [he] at h
    dsimp only at h
    obtain ⟨hu, _⟩ := elZ_some he
    cases ha : asI dx with
    | some lc =>
      obtain ⟨m', cs⟩ := lc
      rw [ha] at h
      dsimp only at h
      by_cases hle : m' * sz ≤ cs.length
      · rw [if_pos hle] at h
        cases h
        rcases hx.aslice ha with ⟨rfl, rfl, a, cap, rfl, hcm⟩ | ⟨b, o, cap, us, rfl, hlc, hcm, hul, hui, huv⟩
        · exact ⟨[], src_none he a cap, by simp, fun j u hu => by simp at hu⟩
        · refine ⟨us.take (m * sz), Src.ofSlice w hu _ m cap _ (by simp [hul]; omega) (fun j u hj => ?_) (fun u hu => ?_), by simp [hul], fun j u hj => ?_⟩
          · rw [add_plain']
            rw [List.getElem?_take] at hj
            split at hj
            · exact (hS.im _ _ (hui j u hj)).1
            · cases hj
          · obtain ⟨j, hj⟩ := List.getElem?_of_mem hu
            rw [List.getElem?_take] at hj
            split at hj
            · exact (hS.im _ _ (hui j u hj)).2.2
            · cases hj
          · rw [List.getElem?_take] at hj ⊢
            split at hj
            · rename_i hlt
              rw [if_pos hlt]
              exact huv j u hj
            · cases hj
      · rw [if_neg hle] at h; cases h
    | none =>
      rw [ha] at h
      dsimp only at h
      split at h
      · cases h
        obtain ⟨ao, rfl⟩ := hx.sliceNil rfl
        exact ⟨[], src_none he ao 0, rfl, fun j u hu => by simp at hu⟩
      · rename_i r off sp m' ver _
        cases hb : getB H r ver with
        | none => rw [hb] at h; cases h
        | some cs =>
          rw [hb] at h
          dsimp only at h
          by_cases hle : off + m' * sz ≤ cs.length
          · rw [if_pos hle] at h
            cases h
            rcases hx.sliceI hb with ⟨h0, _, ad, rfl⟩ | ⟨cap, blk, hbk, rfl, hlc, _, hcm, hown⟩
            · subst h0
              exact ⟨[], src_none he ad 0, by simp, fun j u hu => by simp at hu⟩
            · obtain ⟨blk', h1, h2, h3, ho⟩ := getB_some hb
              rw [hbk] at h1
              cases h1
              subst h3
              obtain ⟨us, hul, huc, huv⟩ := hS.cells hbk ho off (m * sz) hle
              refine ⟨us, Src.ofSlice w hu _ m cap us hul (fun j u hj => by rw [add_plain']; exact (huc j u hj).1) (fun u hu => ?_), by simp [hul]; omega, fun j u hj => ?_⟩
              · obtain ⟨j, hj, rfl⟩ := List.getElem_of_mem hu
                exact (huc j _ (List.getElem?_eq_getElem hj)).2
              · have hjl : j < ((blk.cs.drop off).take (m * sz)).length := lt_of_some' hj
                have hju : j < us.length := by rw [hul]; simp at hjl; omega
                refine ⟨us[j], List.getElem?_eq_getElem hju, ?_⟩
                have := huv j hju hjl
                rw [List.getElem?_eq_getElem hjl] at hj
                cases hj
                exact this
          · rw [if_neg hle] at h; cases h
      · cases h

theorem app_room {t tx ty el : TypeId} {i : TypeInfo} (ht : P.underlying t = some (.slice el)) (hi : P.info? el = some i) {x : Value} {m : Nat} {news : List Value} (hs : Src P i.size tx x m news w)
    {g sLen sCap : Nat} {cur : Array Value} {e0 : TypeId} (hg : w.heap[g]? = some (.cells cur e0 (0, 0))) (hroom : sLen + m ≤ sCap) (hfit : sLen * i.size + news.length ≤ cur.size) :
    (Builtin.append_ #[t, tx] ty #[.slice (some ⟨g, 0, none⟩) sLen sCap, x]).run P w = .ok (.slice (some ⟨g, 0, none⟩) (sLen + m) sCap) (w.setRow g (cur.toList.take (sLen * i.size) ++ news ++ cur.toList.drop (sLen * i.size + news.length)).toArray) := by
  have hst := run_storeCells_at P g (sLen * i.size) e0 news 0 cur w hg (by simpa using hfit) hs.one
  simp only [Nat.add_zero] at hst
  rcases hs.kind with ⟨e', hk⟩ | hk <;> simp [Builtin.append_, run_underlying ht, run_underlying hk, sizeOf, typeInfo, hi, hs.len, hroom, hs.cells, add_plain', hst]

theorem app_none {t tx ty el : TypeId} {i : TypeInfo} (ht : P.underlying t = some (.slice el)) (hi : P.info? el = some i) {x : Value} (hs : Src P i.size tx x 0 [] w) (ao : Option Addr) :
    (Builtin.append_ #[t, tx] ty #[.slice ao 0 0, x]).run P w = .ok (.slice ao 0 0) w := by
  rcases hs.kind with ⟨e', hk⟩ | hk <;> cases ao <;> simp [Builtin.append_, run_underlying ht, run_underlying hk, sizeOf, typeInfo, hi, hs.len, hs.cells, storeCells]

theorem app_grow {t tx ty el : TypeId} {i : TypeInfo} {z : Value} (ht : P.underlying t = some (.slice el)) (hi : P.info? el = some i) (hz : i.zero = some z) (hzs : z.cells.size = i.size) (base : Option Addr) (sLen sCap : Nat) (olds : List Value)
    (hold : (Builtin.firstCells i.size sLen (.slice base sLen sCap)).run P w.drew = .ok olds.toArray w.drew) (holdl : olds.length = sLen * i.size) {x : Value} {m : Nat} {news : List Value} (hs : Src P i.size tx x m news w)
    (hg : sCap < sLen + m) (hbytes : (sLen + m) * i.bytes ≤ 140737488355328) (hmax : sLen + m ≤ maxLen) :
    ∃ (c : Array Value) (cap : Nat), (Builtin.append_ #[t, tx] ty #[.slice base sLen sCap, x]).run P w = .ok (.slice (some ⟨w.drew.heap.size, 0, none⟩) (sLen + m) cap) (w.drew.alloc (.cells c el)) ∧
      sLen + m ≤ cap ∧ cap ≤ maxLen ∧ c.size = cap * i.size ∧ (olds ++ news).length ≤ c.size ∧ ∀ (j : Nat) v, (olds ++ news)[j]? = some v → c[j]? = some v := by
  have hr := run_append_grow_src (P := P) w t tx ty el i z ht hi hz base sLen sCap olds hold x m news hs hg (by simp only [maxLen] at hmax; omega) (growslice_fits hg hbytes)
  have hge := grownCap_ge w (sLen + m) sCap el
  have hle := grownCap_le_maxLen w (sLen + m) sCap el hmax
  have hnl := hs.newsLen
  have hsize : (olds ++ news).length = (sLen + m) * i.size := by rw [List.length_append, holdl, hnl, Nat.add_mul]
  have hcs : ((olds ++ news).toArray ++ Builtin.zeroCells z.cells (grownCap w (sLen + m) sCap el - (sLen + m))).size = grownCap w (sLen + m) sCap el * i.size := by
    rw [Array.size_append, List.size_toArray, hsize, size_zeroCells, hzs, ← Nat.add_mul]
    congr 1
    omega
  refine ⟨_, _, hr, hge, hle, hcs, ?_, fun j v hj => ?_⟩
  · rw [hcs, hsize]; exact Nat.mul_le_mul_right _ hge
  · have hjl : j < (olds ++ news).length := by
      rcases Nat.lt_or_ge j (olds ++ news).length with h' | h'
      · exact h'
      · rw [List.getElem?_eq_none h'] at hj; cases hj
    rw [Array.getElem?_append_left (by simpa using hjl)]
    simpa using hj

def appendH (P : Program) (B : Nat) (H : AH) (t tx : TypeId) (s x : Value) : Option (Value × AH) :=
  match elZ P t with
  | some (el, sz, by_) =>
    (match srcV P H el sz tx x with
     | some (m, news) =>
       if zOk P el sz = true then
         (match s with
          | .slice none 0 0 =>
            if m * by_ ≤ 140737488355328 ∧ m ≤ 140737488355328 then
              (if m = 0 then some (.slice none 0 0, H) else some (.slice (some ⟨H.length, 0, none⟩) m 0, H ++ [mkB el sz news]))
            else none
          | .slice (some ⟨r, 0, sp⟩) len ver =>
            (match H[r]? with
             | some blk =>
               if blk.ver = ver ∧ B ≤ r ∧ blk.el = el ∧ blk.sz = sz ∧ len * sz ≤ blk.cs.length ∧ (len + m) * by_ ≤ 140737488355328 ∧ len + m ≤ 140737488355328 then
                 (if sp.isSome = true ∧ len + m ≤ sp.getD len then
                   (if blk.own = true ∧ (len + m) * sz ≤ blk.cs.length then some (.slice (some ⟨r, 0, sp⟩) (len + m) ver, H.set r { blk with cs := splice blk.cs (len * sz) news }) else none)
                  else some (.slice (some ⟨r, 0, none⟩) (len + m) (ver + 1), H.set r { blk with cs := blk.cs.take (len * sz) ++ news, ver := ver + 1, own := blk.own || decide (m ≠ 0) }))
               else none
             | none => none)
          | _ => none)
       else none
     | none => none)
  | none => none

/-- An append that makes a new array: the block is told anew. -/
theorem app_new (hS : Sim σ H w) {r : Nat} {blk : Blk} (hb : H[r]? = some blk) (hB : B ≤ r) {t tx ty el : TypeId} {i : TypeInfo} {z : Value} (ht : P.underlying t = some (.slice el)) (hi : P.info? el = some i) (hz : i.zero = some z) (hzs : z.cells.size = i.size)
    (c4 : blk.el = el) (c5 : blk.sz = i.size) (base : Option Addr) (sLen sCap : Nat) (olds : List Value) (dold : List Value)
    (hold : (Builtin.firstCells i.size sLen (.slice base sLen sCap)).run P w.drew = .ok olds.toArray w.drew) (holdl : olds.length = sLen * i.size) (holdv : VRL σ H olds dold) (hold1 : ∀ u ∈ olds, u.oneCell' = true)
    {x : Value} {m : Nat} {us news : List Value} (hs : Src P i.size tx x m us w) (hvl : VRL σ H us news)
    (hg : sCap < sLen + m) (hbytes : (sLen + m) * i.bytes ≤ 140737488355328) (hmax : sLen + m ≤ 140737488355328) :
    Goes P B σ H w ((Builtin.append_ #[t, tx] ty #[.slice base sLen sCap, x]).run P w) (.slice (some ⟨r, 0, none⟩) (sLen + m) (blk.ver + 1)) (H.set r { blk with cs := dold ++ news, ver := blk.ver + 1, own := true }) := by
  have hlt := lt_of_some hb
  obtain ⟨c, cap, hr, h1, h2, h3, h4, h5⟩ := app_grow (ty := ty) ht hi hz hzs base sLen sCap olds hold holdl hs hg hbytes (by simp only [maxLen]; omega)
  have hva := holdv.append hvl
  obtain ⟨F, S⟩ := upd_sound (B := B) (w' := w.drew.alloc (.cells c el)) (blk' := { blk with cs := dold ++ news, ver := blk.ver + 1, own := true }) hS hb hB rfl rfl rfl (by simp) (fun k hk _ => Below.heap_alloc w.drew _ k hk) ⟨w.drew.heap.size, 0, c.size⟩ (.inr ⟨Nat.le_refl _, by simp⟩) (by simp) rfl rfl c (by rw [c4]; exact heap_alloc_new w.drew _) rfl rfl (by
      simp only; rw [← hva.1]; exact h4) (fun j v hj => by
      obtain ⟨u, hu', hv⟩ := hva.2 j v hj
      refine ⟨u, h5 j u hu', hv, ?_⟩
      rcases List.mem_append.1 (List.mem_of_getElem? hu') with hm | hm
      · exact hold1 u hm
      · exact hs.one u hm)
  refine ⟨_, _, _, hr, F, S, ?_⟩
  have := VR.slice (σ := σ.upd r ⟨w.drew.heap.size, 0, c.size⟩) (H := H.set r { blk with cs := dold ++ news, ver := blk.ver + 1, own := true }) r 0 (sLen + m) cap (blk.ver + 1) none _ (by rw [List.getElem?_set_self hlt]) rfl rfl (by omega) (by simpa using h1) h2 (by simp only [Sg.upd_at, if_true, Nat.zero_add]; rw [c5, h3]; exact Nat.le_refl _)
  simpa [Sg.upd_at] using this

theorem append_sound (hS : Sim σ H w) (hB : B ≤ H.length) {t tx ty : TypeId} {s x ds dx d : Value} {H' : AH} (hs : VR σ H s ds) (hx : VR σ H x dx) (h : appendH P B H t tx ds dx = some (d, H')) :
    Goes P B σ H w ((Builtin.append_ #[t, tx] ty #[s, x]).run P w) d H' := by
  unfold appendH at h
  cases he : elZ P t with
  | none => rw [he] at h; cases h
  | some esz =>
    obtain ⟨el, sz, by_⟩ := esz
    rw [he] at h
    dsimp only at h
    cases hsrc : srcV P H el sz tx dx with
    | none => rw [hsrc] at h; cases h
    | some mn =>
      obtain ⟨m, news⟩ := mn
      rw [hsrc] at h
      dsimp only at h
      by_cases hz : zOk P el sz = true
      · rw [if_pos hz] at h
        obtain ⟨us, hS', hvl⟩ := src_sound (P := P) hS hx hsrc
        obtain ⟨hu, i, hi, hisz, hiby⟩ := elZ_some he
        unfold zOk zeroV at hz
        rw [hi] at hz
        cases hzz : i.zero with
        | none => simp [hzz] at hz
        | some z =>
          simp only [Option.bind_some, hzz, Bool.and_eq_true, decide_eq_true_eq] at hz
          obtain ⟨⟨⟨hzs, hzc⟩, hz1⟩, hpos⟩ := hz
          rw [← hisz] at hS'
          have hnl := hS'.newsLen
          split at h
          · obtain ⟨ao, rfl⟩ := hs.sliceNil rfl
            by_cases hc : m * by_ ≤ 140737488355328 ∧ m ≤ 140737488355328
            · rw [if_pos hc] at h
              by_cases h0 : m = 0
              · rw [if_pos h0] at h
                cases h
                subst h0
                have hus : us = [] := List.eq_nil_of_length_eq_zero (by rw [hnl]; simp)
                subst hus
                exact ⟨_, w, σ, app_none hu hi hS' ao, Fut.refl _ _ _ _, hS, .mt _ _ _ (fun x hx => by cases hx)⟩
              · rw [if_neg h0] at h
                cases h
                obtain ⟨c, cap, hr, h1, h2, h3, h4, h5⟩ := app_grow (ty := ty) hu hi hzz (by rw [hzs, hisz]) ao 0 0 [] (by cases ao <;> simp [Builtin.firstCells, loadCells, loadCellsFrom]) (by simp) hS' (by omega) (by rw [hiby]; simpa using hc.1) (by simp only [maxLen]; omega)
                obtain ⟨σ', F, S, V⟩ := new_slice (B := B) hS hB (w1 := w.drew) (below_drewN' w) el sz m cap news c (by rw [List.nil_append] at h4; rw [← hvl.1]; exact h4) (fun j v hj => by
                  obtain ⟨u, hu', hv⟩ := hvl.2 j v hj
                  exact ⟨u, h5 j u (by simpa using hu'), hv, hS'.one u (List.mem_of_getElem? hu')⟩) (by omega) h2 (by rw [h3, hisz]; exact Nat.le_refl _)
                simp only [Nat.zero_add] at hr
                exact ⟨_, _, σ', hr, F, S, V⟩
            · rw [if_neg hc] at h; cases h
          · rename_i r sp len ver
            cases hb : H[r]? with
            | none => rw [hb] at h; cases h
            | some blk =>
              rw [hb] at h
              dsimp only at h
              by_cases hc : blk.ver = ver ∧ B ≤ r ∧ blk.el = el ∧ blk.sz = sz ∧ len * sz ≤ blk.cs.length ∧ (len + m) * by_ ≤ 140737488355328 ∧ len + m ≤ 140737488355328
              · rw [if_pos hc] at h
                obtain ⟨c1, c3, c4, c5, c6, c7, c8⟩ := hc
                have hlt := lt_of_some hb
                subst c1
                -- what stands there
                have cases2 : (len = 0 ∧ sp.getD 0 = 0 ∧ ∃ a, s = .slice a 0 0) ∨ (blk.own = true ∧ ∃ cap, s = .slice (some ⟨(σ r).b, (σ r).base + 0, none⟩) len cap ∧ len ≤ cap ∧ sp.getD len ≤ cap ∧ cap ≤ maxLen ∧ 0 + cap * blk.sz ≤ (σ r).n) := by
                  cases hs with
                  | flat _ h => simp [flatV] at h
                  | mt _ _ _ hd => exact .inl ⟨rfl, hd _ rfl, _, rfl⟩
                  | slice _ _ _ cap _ _ blk' h' hv ho hl hsp hm hc => rw [hb] at h'; cases h'; exact .inr ⟨ho, cap, rfl, hl, hsp, hm, hc⟩
                  | stale _ _ _ _ _ blk' h' hv' => rw [hb] at h'; cases h'; omega
                by_cases hin : sp.isSome = true ∧ len + m ≤ sp.getD len
                · rw [if_pos hin] at h
                  by_cases hfit0 : blk.own = true ∧ (len + m) * sz ≤ blk.cs.length
                  · rw [if_pos hfit0] at h
                    cases h
                    obtain ⟨c2, hfit1⟩ := hfit0
                    obtain ⟨cur, o1, o2, o3, o4, o5⟩ := hS.own r blk hb c2
                    rcases cases2 with ⟨h0, hsp0, a, rfl⟩ | ⟨_, cap, rfl, hlc, hsp, hcm, hcn⟩
                    · subst h0
                      have hm0 : m = 0 := by omega
                      subst hm0
                      have hus : us = [] := List.eq_nil_of_length_eq_zero (by rw [hnl]; simp)
                      subst hus
                      have hn0 : news = [] := List.eq_nil_of_length_eq_zero (by rw [← hvl.1]; rfl)
                      subst hn0
                      have hset : H.set r { blk with cs := splice blk.cs (0 * sz) [] } = H := by
                        apply List.ext_getElem?
                        intro q
                        by_cases e : q = r
                        · subst e
                          rw [List.getElem?_set_self hlt, hb]
                          simp [splice]
                        · rw [List.getElem?_set_ne (Ne.symm e)]
                      rw [hset]
                      exact ⟨_, w, σ, app_none hu hi hS' a, Fut.refl _ _ _ _, hS, .mt _ _ _ (fun x hx => by cases hx; exact hsp0)⟩
                    · rw [o2, Nat.zero_add]
                      have hroom : len + m ≤ cap := by omega
                      have hlen2 : news.length = m * sz := by rw [← hvl.1, hnl, hisz]
                      have hfit : len * i.size + us.length ≤ cur.size := by
                        rw [hnl, ← Nat.add_mul, hisz]
                        omega
                      have hr := app_room (ty := ty) hu hi hS' o1 hroom hfit
                      have hget := splice_get (cs := cur.toList) (news := us) (off := len * i.size) (by simpa using hfit)
                      unfold splice at hget
                      have hfit2 : len * sz + news.length ≤ blk.cs.length := by rw [hlen2, ← Nat.add_mul]; exact hfit1
                      obtain ⟨F, S⟩ := upd_sound (B := B) (w' := w.setRow (σ r).b (cur.toList.take (len * i.size) ++ us ++ cur.toList.drop (len * i.size + us.length)).toArray) (blk' := { blk with cs := splice blk.cs (len * sz) news }) hS hb c3 rfl rfl rfl (by simp) (fun k _ hk => setRow_other w _ k _ (hk c2)) (σ r) (.inl ⟨rfl, c2⟩) (Nat.le_refl _) c2 rfl
                        _ (setRow_heap w _ cur _ _ _ o1) o2 (by simp; omega) (by simp only [splice_len hfit2]; simp; omega) (by
                          intro j v hj
                          simp only [List.getElem?_toArray]
                          rw [hget]
                          simp only at hj
                          rw [splice_get hfit2] at hj
                          by_cases j1 : j < len * i.size
                          · rw [if_pos j1]
                            rw [if_pos (by rw [← hisz]; exact j1)] at hj
                            obtain ⟨u, a1, a2, a3⟩ := o5 j v hj
                            exact ⟨u, by simpa using a1, a2, a3⟩
                          · rw [if_neg j1]
                            rw [if_neg (by rw [← hisz]; exact j1)] at hj
                            by_cases j2 : j < len * i.size + us.length
                            · rw [if_pos j2]
                              rw [if_pos (by rw [← hvl.1, ← hisz]; exact j2), ← hisz] at hj
                              obtain ⟨u, a1, a2⟩ := hvl.2 _ v hj
                              exact ⟨u, a1, a2, hS'.one u (List.mem_of_getElem? a1)⟩
                            · rw [if_neg j2]
                              rw [if_neg (by rw [← hvl.1, ← hisz]; exact j2)] at hj
                              obtain ⟨u, a1, a2, a3⟩ := o5 j v hj
                              exact ⟨u, by simpa using a1, a2, a3⟩)
                      refine ⟨_, _, _, hr, F, S, ?_⟩
                      have := VR.slice (σ := σ.upd r (σ r)) (H := H.set r { blk with cs := splice blk.cs (len * sz) news }) r 0 (len + m) cap blk.ver sp { blk with cs := splice blk.cs (len * sz) news } (by rw [List.getElem?_set_self hlt]) rfl c2 hroom (by
                        rcases hin with ⟨q1, q2⟩
                        obtain ⟨kc, rfl⟩ := Option.isSome_iff_exists.1 q1
                        exact hsp) hcm (by simp only [Sg.upd_at, if_true]; exact hcn)
                      simpa [o2, Sg.upd_at] using this
                  · rw [if_neg hfit0] at h; cases h
                · rw [if_neg hin] at h
                  cases h
                  rcases cases2 with ⟨h0, hsp0, a, rfl⟩ | ⟨c2, cap, rfl, hlc, hsp, hcm, hcn⟩
                  · subst h0
                    by_cases h0 : m = 0
                    · subst h0
                      have hus : us = [] := List.eq_nil_of_length_eq_zero (by rw [hnl]; simp)
                      subst hus
                      have hn0 : news = [] := List.eq_nil_of_length_eq_zero (by rw [← hvl.1]; rfl)
                      subst hn0
                      cases ho : blk.own with
                      | true =>
                        obtain ⟨cur, o1, o2, o3, o4, o5⟩ := hS.own r blk hb ho
                        obtain ⟨F, S⟩ := upd_sound (B := B) (w' := w) (blk' := { blk with cs := blk.cs.take (0 * sz) ++ [], ver := blk.ver + 1, own := true }) hS hb c3 rfl rfl rfl (Nat.le_refl _) (fun _ _ _ => rfl) (σ r) (.inl ⟨rfl, ho⟩) (by simp) rfl rfl cur o1 o2 o3 (by simp) (by simp)
                        exact ⟨_, w, _, app_none hu hi hS' a, F, S, .mt _ _ _ (fun x hx => by cases hx; rfl)⟩
                      | false =>
                        obtain ⟨F, S⟩ := void_sound (B := B) (blk' := { blk with cs := blk.cs.take (0 * sz) ++ [], ver := blk.ver + 1, own := false }) hS hb c3 (by simp) rfl
                        exact ⟨_, w, _, app_none hu hi hS' a, F, S, .mt _ _ _ (fun x hx => by cases hx; rfl)⟩
                    · have := app_new (B := B) (ty := ty) hS hb c3 hu hi hzz (by rw [hzs, hisz]) c4 (by rw [c5, hisz]) a 0 0 [] [] (by cases a <;> simp [Builtin.firstCells, loadCells, loadCellsFrom]) (by simp) ⟨rfl, fun j u hu => by simp at hu⟩ (by simp) hS' hvl (by omega) (by rw [hiby]; exact c7) c8
                      simpa [h0] using this
                  · obtain ⟨cur, o1, o2, o3, o4, o5⟩ := hS.own r blk hb c2
                    rw [o2, Nat.zero_add]
                    rw [Nat.zero_add, c5] at hcn
                    by_cases hroom : len + m ≤ cap
                    · have hfit : len * i.size + us.length ≤ cur.size := by
                        rw [hnl, ← Nat.add_mul, hisz, o3]
                        exact Nat.le_trans (Nat.mul_le_mul_right _ hroom) hcn
                      have hr := app_room (ty := ty) hu hi hS' o1 hroom hfit
                      have hget := splice_get (cs := cur.toList) (news := us) (off := len * i.size) (by simpa using hfit)
                      unfold splice at hget
                      have htl : (blk.cs.take (len * sz)).length = len * sz := by simp; omega
                      obtain ⟨F, S⟩ := upd_sound (B := B) (w' := w.setRow (σ r).b (cur.toList.take (len * i.size) ++ us ++ cur.toList.drop (len * i.size + us.length)).toArray) (blk' := { blk with cs := blk.cs.take (len * sz) ++ news, ver := blk.ver + 1, own := true }) hS hb c3 rfl rfl rfl (by simp) (fun k _ hk => setRow_other w _ k _ (hk c2)) (σ r) (.inl ⟨rfl, c2⟩) (by simp) rfl rfl
                        _ (setRow_heap w _ cur _ _ _ o1) o2 (by simp; omega) (by simp only [List.length_append, List.size_toArray, htl, ← hvl.1, ← hisz]; simp; omega) (by
                          intro j v hj
                          simp only [List.getElem?_toArray]
                          rw [hget]
                          by_cases j1 : j < len * i.size
                          · rw [if_pos j1]
                            simp only at hj
                            rw [List.getElem?_append_left (by rw [htl, ← hisz]; exact j1), List.getElem?_take, if_pos (by rw [← hisz]; exact j1)] at hj
                            obtain ⟨u, a1, a2, a3⟩ := o5 j v hj
                            exact ⟨u, by simpa using a1, a2, a3⟩
                          · rw [if_neg j1]
                            simp only at hj
                            rw [List.getElem?_append_right (by rw [htl, ← hisz]; omega), htl, ← hisz] at hj
                            obtain ⟨u, a1, a2⟩ := hvl.2 _ v hj
                            have hju : j - len * i.size < us.length := lt_of_some' a1
                            rw [if_pos (by omega)]
                            exact ⟨u, a1, a2, hS'.one u (List.mem_of_getElem? a1)⟩)
                      rw [c2, Bool.true_or]
                      refine ⟨_, _, _, hr, F, S, ?_⟩
                      have := VR.slice (σ := σ.upd r (σ r)) (H := H.set r { blk with cs := blk.cs.take (len * sz) ++ news, ver := blk.ver + 1, own := true }) r 0 (len + m) cap (blk.ver + 1) none _ (by rw [List.getElem?_set_self hlt]) rfl rfl hroom (by simpa using hroom) hcm (by simp only [Sg.upd_at, if_true, Nat.zero_add]; rw [c5]; exact hcn)
                      simpa [o2, Sg.upd_at] using this
                    · obtain ⟨olds, p1, p2, p3⟩ := hS.cells hb c2 0 (len * sz) (by omega)
                      have hold : (Builtin.firstCells i.size len (.slice (some ⟨(σ r).b, 0, none⟩) len cap)).run P w.drew = .ok olds.toArray w.drew := by
                        refine run_firstCells_some w.drew i.size len _ len cap olds (by rw [p1, hisz]) fun j u hj => ?_
                        rw [add_plain']
                        have := (p2 j u hj).1
                        simp only [o2, Nat.zero_add, Nat.add_zero] at this ⊢
                        exact this
                      have hvold : VRL σ H olds (blk.cs.take (len * sz)) := by
                        refine ⟨by rw [p1]; simp; omega, fun j v hj => ?_⟩
                        have hjl : j < (blk.cs.take (len * sz)).length := lt_of_some' hj
                        have hjo : j < olds.length := by rw [p1]; simp at hjl; omega
                        have hjt : j < ((blk.cs.drop 0).take (len * sz)).length := by simpa using hjl
                        have := p3 j hjo hjt
                        rw [List.getElem?_eq_getElem hjl] at hj
                        cases hj
                        refine ⟨_, List.getElem?_eq_getElem hjo, ?_⟩
                        simpa using this
                      have := app_new (B := B) (ty := ty) hS hb c3 hu hi hzz (by rw [hzs, hisz]) c4 (by rw [c5, hisz]) (some ⟨(σ r).b, 0, none⟩) len cap olds _ hold (by rw [p1, hisz]) hvold (fun u hu => by
                        obtain ⟨q, hq, rfl⟩ := List.getElem_of_mem hu
                        exact (p2 q _ (List.getElem?_eq_getElem hq)).2) hS' hvl (by omega) (by rw [hiby]; exact c7) c8
                      rw [c2, Bool.true_or]
                      exact this
              · rw [if_neg hc] at h; cases h
          · cases h
      · rw [if_neg hz] at h; cases h

end
end Go.BM
