/- Rows that grow by append. -/
import Derived.Test.YtdfnepbhgifkkaaAmL
namespace Go.Am
open Go.RowKit
set_option linter.unusedSimpArgs false
set_option linter.unusedVariables false

/-- the cells of rows, one behind the other -/
theorem rows_news {X : Nat → Nat → Option Value} {rows : List (List AV)} {x : Value} {s : Nat} (h : SimD X (.list rows .free) x) (hr : ∀ row ∈ rows, row.length = s) :
    ∃ news : List Value, news.length = rows.length * s ∧ (∀ (i : Nat) (a : AV), rows.flatten[i]? = some a → ∃ y, news[i]? = some y ∧ SimD X a y ∧ y.oneCell' = true) ∧ (∀ u ∈ news, u.oneCell' = true) ∧
      (rows ≠ [] → ∃ b off c, x = .slice (some ⟨b, off, none⟩) rows.length c ∧ ∀ (j : Nat) (u : Value), news[j]? = some u → X b (off + j) = some u) := by
  by_cases h0 : rows = []
  · subst h0
    exact ⟨[], by simp, (fun i a h => by simp at h), (fun u h => by cases h), fun h => absurd rfl h⟩
  · obtain ⟨b, off, c, s', y, rfl, hr', hX, hS, h1⟩ := h.pos h0
    have hss : s' = s := by
      cases rows with
      | nil => exact absurd rfl h0
      | cons r rows => exact (hr' r (by simp)).symm.trans (hr r (by simp))
    subst hss
    have hfl := flatten_length hr
    have key : ∀ i a, rows.flatten[i]? = some a → X b (off + i) = some (y (i / s') (i % s')) ∧ SimD X a (y (i / s') (i % s')) ∧ (y (i / s') (i % s')).oneCell' = true := fun i a ha => by
      have hi := (List.getElem?_eq_some_iff.1 ha).1
      rw [hfl] at hi
      have hs0 : 0 < s' := by
        rcases Nat.eq_zero_or_pos s' with h | h
        · subst h; simp at hi
        · exact h
      have hd : i / s' < rows.length := Nat.div_lt_of_lt_mul (by rw [Nat.mul_comm]; exact hi)
      have hm : i % s' < s' := Nat.mod_lt _ hs0
      have e1 : rows[i / s']? = some rows[i / s'] := List.getElem?_eq_getElem hd
      have hl := hr _ (List.getElem_mem hd)
      have e2 : rows[i / s'][i % s']? = some (rows[i / s'][i % s']'(by rw [hl]; exact hm)) := List.getElem?_eq_getElem _
      have e3 := flat_get hr e1 e2
      have e4 : i / s' * s' + i % s' = i := by have := Nat.div_add_mod i s'; rw [Nat.mul_comm]; omega
      rw [e4, ha] at e3
      simp only [Option.some.injEq] at e3
      have k := hX _ _ _ _ e1 e2
      rw [Nat.add_assoc, e4] at k
      exact ⟨k, by rw [e3]; exact hS _ _ _ _ e1 e2, h1 _ _ _ _ e1 e2⟩
    refine ⟨(List.range (rows.length * s')).map fun i => y (i / s') (i % s'), by simp, fun i a ha => ?_, fun u hu => ?_, fun _ => ⟨b, off, c, rfl, fun j u hu => ?_⟩⟩
    · have hi := (List.getElem?_eq_some_iff.1 ha).1
      rw [hfl] at hi
      obtain ⟨_, k2, k3⟩ := key i a ha
      exact ⟨_, by simp [hi], k2, k3⟩
    · obtain ⟨i, hi, rfl⟩ := List.mem_map.1 hu
      rw [List.mem_range, ← hfl] at hi
      exact (key i _ (List.getElem?_eq_getElem hi)).2.2
    · have hjl := (List.getElem?_eq_some_iff.1 hu).1
      simp only [List.length_map, List.length_range] at hjl
      have hu' : u = y (j / s') (j % s') := by
        rw [List.getElem?_map, List.getElem?_range hjl] at hu
        simpa using hu.symm
      rw [hu']
      exact (key j _ (List.getElem?_eq_getElem (by rw [hfl]; exact hjl))).1

/-- rows laid flat in a block -/
theorem list_of_flat {X : Nat → Nat → Option Value} {rows : List (List AV)} {s b off c : Nat} {news : List Value} (hr : ∀ row ∈ rows, row.length = s) (hn : rows.length ≤ c) (hc : c ≤ maxLen)
    (hX : ∀ (j : Nat) (u : Value), news[j]? = some u → X b (off + j) = some u) (hS : ∀ (i : Nat) (a : AV), rows.flatten[i]? = some a → ∃ y, news[i]? = some y ∧ SimD X a y ∧ y.oneCell' = true) :
    SimD X (.list rows .free) (.slice (some ⟨b, off, none⟩) rows.length c) := by
  refine .list rows .free b off c s (fun i j => news.getD (i * s + j) undef) hn hc (by simp) (.inl rfl) hr (fun i row j a h1 h2 => ?_) (fun i row j a h1 h2 => ?_) (fun i row j a h1 h2 => ?_)
  all_goals
    obtain ⟨y, k1, k2, k3⟩ := hS _ a (flat_get hr h1 h2)
    have k4 : news.getD (i * s + j) undef = y := by simp [List.getD, k1]
  · rw [k4, Nat.add_assoc]; exact hX _ _ k1
  · rw [k4]; exact k2
  · rw [k4]; exact k3

theorem src_of {P : Program} {X : Nat → Nat → Option Value} {w : World} {rows : List (List AV)} {x : Value} {s : Nat} {tx e' : TypeId} (hk : P.underlying tx = some (.slice e')) (h : SimD X (.list rows .free) x) (hw : ∀ b i v, X b i = some v → w.cell? ⟨b, i, none⟩ = some v)
    {news : List Value} (hl : news.length = rows.length * s) (h1 : ∀ u ∈ news, u.oneCell' = true) (hp : rows ≠ [] → ∃ b off c, x = .slice (some ⟨b, off, none⟩) rows.length c ∧ ∀ (j : Nat) (u : Value), news[j]? = some u → X b (off + j) = some u) : Src P s tx x rows.length news w := by
  by_cases h0 : rows = []
  · subst h0
    obtain ⟨base, c, rfl, _⟩ := h.slice
    have hn : news = [] := by simpa using hl
    subst hn
    cases base with
    | none => exact Src.ofNil w hk c
    | some a => exact Src.ofSlice w hk a 0 c [] (by simp) (fun j u h => by simp at h) (fun u h => by cases h)
  · obtain ⟨b, off, c, rfl, hX⟩ := hp h0
    exact Src.ofSlice w hk _ _ c news hl (fun j u hj => by rw [add_mk]; exact hw _ _ _ (hX j u hj)) h1

structure Fits (P : Program) (t tx e : TypeId) (ti te : TI) (s : Nat) (z : Value) : Prop where
  t : P.underlying t = some (.slice e)
  tx : ∃ e', P.underlying tx = some (.slice e')
  info : ∃ i, P.info? e = some i ∧ i.size = s ∧ i.bytes = te.bytes ∧ i.zero = some z
  s0 : 0 < s
  zs : z.cells.size = s

theorem append_tok {P : Program} {G : Ghost} {w : World} {k s : Nat} {rows rows2 : List (List AV)} {vx vy : Value} {t tx e ty : TypeId} {ti te : TI} {z : Value} (hF : Fits P t tx e ti te s z) (h : Holds G w [(k, .tok s rows.length)])
    (hx : SimD G.X (.list rows .free) vx) (hv : vx = (G.tk k).val) (hy : SimD G.X (.list rows2 .free) vy) (hr1 : ∀ row ∈ rows, row.length = s) (hr2 : ∀ row ∈ rows2, row.length = s)
    (hb : (rows.length + rows2.length) * te.bytes ≤ 140737488355328) (hm : rows.length + rows2.length ≤ 4611686018427387904) :
    ∃ v G' w', (Builtin.append_ #[t, tx] ty #[vx, vy]).run P w = .ok v w' ∧ Sim G' (.list (rows ++ rows2) (.tok k)) v ∧ Holds G' w' [(k, .tok s (rows.length + rows2.length))] ∧ Step G w [(k, .tok s rows.length)] G' w' [(k, .tok s (rows.length + rows2.length))] ∧ G'.live = G.live := by
  obtain ⟨ht, ⟨e', htx⟩, ⟨inf, hinf, his, hib, hiz⟩, hs0, hzs⟩ := hF
  obtain ⟨hts, htn, hsp⟩ := h.res _ (List.mem_singleton.2 rfl)
  have hlive := h.live (k, .tok s rows.length) (by simp)
  simp only at hlive
  obtain ⟨news, n1, n2, n3, n4⟩ := rows_news hy hr2
  obtain ⟨olds, o1, o2, o3, o4⟩ := rows_news hx hr1
  have hsrc := src_of (P := P) htx hy h.X n1 n3 n4
  have hXlt : ∀ b i v, G.X b i = some v → b < w.heap.size := fun b i v hx => by
    have := h.X b i v hx
    rcases Nat.lt_or_ge b w.heap.size with hlt | hge
    · exact hlt
    · simp [World.cell?, Array.getElem?_eq_none hge] at this
  have hrr : ∀ row ∈ rows ++ rows2, row.length = s := fun row hrow => by
    rcases List.mem_append.1 hrow with hrow | hrow
    · exact hr1 row hrow
    · exact hr2 row hrow
  have hlen : (rows ++ rows2).length = rows.length + rows2.length := List.length_append
  have hflat : ∀ (i : Nat) (a : AV), (rows ++ rows2).flatten[i]? = some a → ∃ y, (olds ++ news)[i]? = some y ∧ SimD G.X a y ∧ y.oneCell' = true := fun i a ha => by
    have hfl := flatten_length hr1
    rw [List.flatten_append, List.getElem?_append] at ha
    rw [List.getElem?_append, o1, ← hfl]
    split at ha
    · rename_i hi; rw [if_pos hi]; exact o2 i a ha
    · rename_i hi; rw [if_neg hi]; exact n2 _ a ha
  by_cases hz : rows2 = []
  · subst hz
    obtain ⟨base, c, rfl, hc1, hc2, _⟩ := hx.slice
    have hn : news = [] := by simpa using n1
    subst hn
    refine ⟨_, G, w, run_append_nothing w t tx ty e inf ht hinf base rows.length c hc1 vy (by rw [his]; exact hsrc), ?_, by simpa using h, by simpa using Step.refl G w _, rfl⟩
    rw [List.append_nil]
    exact .tok rows k _ hlive hx (by rw [htn]; exact Nat.le_refl _) (by rw [hts]; exact hr1) (fun _ => hv)
  have hpos : 0 < rows2.length := List.length_pos_iff.2 hz
  -- what is alike in both arms
  have fin : ∀ (v : Value) (G' : Ghost) (w' : World) (b off cap : Nat) , G'.loc = G.loc → G'.live = G.live → G'.lits = G.lits → G'.base = G.base → G'.tk = (fun i => if i = k then ⟨s, rows.length + rows2.length, v, some (b, off, cap)⟩ else G.tk i) →
      v = .slice (some ⟨b, off, none⟩) (rows.length + rows2.length) cap → rows.length + rows2.length ≤ cap → cap ≤ maxLen → (b ∈ blocksOf G [(k, .tok s rows.length)] ∨ (w.heap.size ≤ b ∧ b < w'.heap.size)) →
      (∃ arr E fr, w'.heap[b]? = some (.cells arr E fr) ∧ off + cap * s ≤ arr.size ∧ ∀ i, i < arr.size → w'.frozen? ⟨b, i, none⟩ = false) → (∀ i, off + (rows.length + rows2.length) * s ≤ i → G'.X b i = none) →
      (∀ b i v, G.X b i = some v → G'.X b i = some v) → (∀ b' i v, G'.X b' i = some v → G.X b' i = some v ∨ b' = b) → (∀ b' i v, G'.X b' i = some v → w'.cell? ⟨b', i, none⟩ = some v) →
      w'.os = w.os → w'.tape = w.tape → w'.output = w.output → w.heap.size ≤ w'.heap.size → (∀ b', b' < w.heap.size → b' ∉ blocksOf G [(k, .tok s rows.length)] → w'.heap[b']? = w.heap[b']?) →
      SimD G'.X (.list (rows ++ rows2) .free) v → Sim G' (.list (rows ++ rows2) (.tok k)) v ∧ Holds G' w' [(k, .tok s (rows.length + rows2.length))] ∧ Step G w [(k, .tok s rows.length)] G' w' [(k, .tok s (rows.length + rows2.length))] := by
    intro v G' w' b off cap g1 g2 g3 g4 g5 hv' hle hcap hbk harr hxn hX1 hX2 hX3 p1 p2 p3 p4 hfr hsd
    have htk : G'.tk k = ⟨s, rows.length + rows2.length, v, some (b, off, cap)⟩ := by rw [g5]; simp
    have hb' : blocksOf G' [(k, .tok s (rows.length + rows2.length))] = [b] := by simp [blocksOf, Ghost.placed, htk]
    refine ⟨.tok _ k _ (by rw [g2]; exact hlive) hsd (by rw [htk, hlen]; exact Nat.le_refl _) (by rw [htk]; exact hrr) (fun _ => by rw [htk]), ⟨hX3, fun r hr => ?_, by simp, fun r hr => ?_, by rw [hb']; simp, fun c hc => ?_⟩,
      ⟨p1, p2, p3, p4, g4, hX1, fun c hlt hn => ⟨.inl (hfr c hlt hn), fun _ => hfr c hlt hn⟩, fun c i u hu => ?_, fun c hc => ?_, fun i hi => ?_, fun i hi => .inl (by simpa using hi), fun c hc => by rw [g3]; exact hc, fun c hc => by rw [g3] at hc; exact .inl hc⟩⟩
    · obtain rfl := List.mem_singleton.1 hr
      unfold ResHolds
      simp only [htk]
      exact ⟨trivial, trivial, hv', hle, hcap, harr, hxn⟩
    · obtain rfl := List.mem_singleton.1 hr
      rw [g2]; exact hlive
    · rw [g3] at hc
      obtain ⟨q1, q2, q3⟩ := h.lits c hc
      refine ⟨by rw [g4]; exact q1, by omega, ?_⟩
      rw [hb']
      intro hm
      have : c = b := by simpa using hm
      subst this
      rcases hbk with hbk | hbk
      · exact q3 hbk
      · omega
    · rcases hX2 c i u hu with hu | rfl
      · exact .inl hu
      · rcases hbk with hbk | hbk
        · exact .inr (.inr hbk)
        · exact .inr (.inl hbk.1)
    · rw [hb'] at hc
      have : c = b := by simpa using hc
      subst this
      exact hbk.imp_right And.left
    · refine ⟨by rw [g2]; exact hi, by rw [g1], ?_⟩
      by_cases hik : i = k
      · subst hik
        right
        refine ⟨by simp, ?_, by rw [htk, hts]⟩
        rw [htk, htn]; simp only; omega
      · left; rw [g5]; simp [hik]
  by_cases hroom : ∃ b off cap, (G.tk k).spare = some (b, off, cap) ∧ rows.length + rows2.length ≤ cap
  · obtain ⟨b, off, cap, hspare, hcap⟩ := hroom
    rw [hspare] at hsp
    obtain ⟨hval, _, hcm, ⟨arr, E, fr, hh, hsz, hfz⟩, hxn⟩ := hsp
    have hbl : blocksOf G [(k, .tok s rows.length)] = [b] := by simp [blocksOf, Ghost.placed, hspare]
    have hle2 : off + rows.length * s + rows2.length * s ≤ off + cap * s := by
      have := Nat.mul_le_mul_right s hcap
      rw [Nat.add_mul] at this; omega
    obtain ⟨arr', a1, a2, a3⟩ := setCells_heap b news (off + rows.length * s) w arr E fr hh (by rw [n1]; omega)
    obtain ⟨p1, p2, p3, p4, p5⟩ := setCells_other b news (off + rows.length * s) w
    have hrun := run_append_room_src (P := P) w t tx ty e inf ht hinf b off rows.length cap vy rows2.length news (by rw [his]; exact hsrc) hcap
      (fun j hj => by rw [his]; rw [n1] at hj; have : off + rows.length * s + j < arr.size := by omega
                      simp [World.cell?, hh, this]) (fun j hj => by rw [his]; rw [n1] at hj; exact hfz _ (by omega))
    rw [his] at hrun
    rw [hv, hval]
    have hxval : vx = .slice (some ⟨b, off, none⟩) rows.length cap := by rw [hv, hval]
    -- the old cells lie in this block
    have hold : ∀ j u, olds[j]? = some u → G.X b (off + j) = some u := fun j u hj => by
      by_cases h0 : rows = []
      · have : olds = [] := by subst h0; simpa using o1
        subst this; simp at hj
      · obtain ⟨b1, off1, c1, e1, e2⟩ := o4 h0
        rw [hxval] at e1
        simp only [Value.slice.injEq, Option.some.injEq, Addr.mk.injEq] at e1
        obtain ⟨⟨rfl, rfl, _⟩, _, _⟩ := e1
        exact e2 j u hj
    have hin : ∀ j u, news[j]? = some u → j < rows2.length * s := fun j u hj => by rw [← n1]; exact (List.getElem?_eq_some_iff.1 hj).1
    let X' : Nat → Nat → Option Value := fun b' i => if b' = b ∧ off + rows.length * s ≤ i then news[i - (off + rows.length * s)]? else G.X b' i
    have hX1 : ∀ b i v, G.X b i = some v → X' b i = some v := fun b' i u hu => by
      show (if b' = b ∧ off + rows.length * s ≤ i then news[i - (off + rows.length * s)]? else G.X b' i) = some u
      rw [if_neg]
      · exact hu
      · rintro ⟨rfl, hi⟩
        rw [hxn i hi] at hu; cases hu
    refine ⟨_, { G with X := X', tk := fun i => if i = k then ⟨s, rows.length + rows2.length, .slice (some ⟨b, off, none⟩) (rows.length + rows2.length) cap, some (b, off, cap)⟩ else G.tk i }, _, hrun, ?_⟩
    have := fin (.slice (some ⟨b, off, none⟩) (rows.length + rows2.length) cap) { G with X := X', tk := fun i => if i = k then ⟨s, rows.length + rows2.length, .slice (some ⟨b, off, none⟩) (rows.length + rows2.length) cap, some (b, off, cap)⟩ else G.tk i }
      (w.setCells b (off + rows.length * s) news) b off cap rfl rfl rfl rfl rfl rfl hcap hcm (.inl (by rw [hbl]; simp)) ⟨arr', E, fr, a1, by rw [a2]; exact hsz, fun i hi => by
        have := hfz i (by rw [← a2]; exact hi)
        simp only [World.frozen?, hh] at this
        simp only [World.frozen?, a1]; exact this⟩ (fun i hi => by
        show (if b = b ∧ off + rows.length * s ≤ i then news[i - (off + rows.length * s)]? else G.X b i) = none
        rw [Nat.add_mul] at hi
        rw [if_pos ⟨rfl, by omega⟩, List.getElem?_eq_none (by omega)]) hX1 (fun b' i u hu => by
        by_cases hbb : b' = b
        · exact .inr hbb
        · left
          have : X' b' i = G.X b' i := if_neg (by rintro ⟨h, _⟩; exact hbb h)
          rw [← this]; exact hu) (fun b' i u hu => by
        replace hu : (if b' = b ∧ off + rows.length * s ≤ i then news[i - (off + rows.length * s)]? else G.X b' i) = some u := hu
        split at hu
        · rename_i hc
          obtain ⟨rfl, hi⟩ := hc
          have hj := hin _ u hu
          have hlt : i < arr'.size := by rw [a2]; omega
          have h3 := a3 i
          rw [if_pos (by rw [n1]; omega)] at h3
          simp only [List.getD, hu, Option.getD_some] at h3
          have h4 : arr'.getD i undef = arr'[i] := by simp [hlt]
          rw [h4] at h3
          simp [World.cell?, a1, hlt, h3]
        · rename_i hc
          by_cases hbb : b' = b
          · subst hbb
            have hi : i < off + rows.length * s := by
              rcases Nat.lt_or_ge i (off + rows.length * s) with h | h
              · exact h
              · exact absurd ⟨rfl, h⟩ hc
            have h5 := h.X _ _ _ hu
            have hlt : i < arr.size := by
              simp only [World.cell?, hh] at h5
              exact (Array.getElem?_eq_some_iff.1 (by simpa using h5)).1
            have h3 := a3 i
            rw [if_neg (by omega)] at h3
            have h4 : arr'.getD i undef = arr'[i]'(by rw [a2]; exact hlt) := by simp [a2, hlt]
            have h6 : arr.getD i undef = arr[i] := by simp [hlt]
            rw [h4, h6] at h3
            simp only [World.cell?, hh] at h5
            have h7 : arr[i]? = some u := by simpa using h5
            simp only [World.cell?, a1]
            have h8 : arr'[i]? = some u := by
              rw [Array.getElem?_eq_getElem (by rw [a2]; exact hlt), h3]
              rw [Array.getElem?_eq_getElem hlt] at h7; exact h7
            simpa using h8
          · have := h.X _ _ _ hu
            rw [← this]; simp [World.cell?, p5 b' hbb]) p1 p2 p3 (by rw [p4]; exact Nat.le_refl _) (fun b' _ hn => p5 b' (fun e => hn (by rw [hbl]; simp [e])))
      (by rw [← hlen]; exact list_of_flat (news := olds ++ news) hrr (by rw [hlen]; exact hcap) hcm (fun j u hj => by
            rw [List.getElem?_append] at hj
            split at hj
            · exact hX1 _ _ _ (hold j u hj)
            · rename_i hjl
              show (if b = b ∧ off + rows.length * s ≤ off + j then news[off + j - (off + rows.length * s)]? else G.X b (off + j)) = some u
              rw [o1] at hjl hj
              rw [if_pos ⟨rfl, by omega⟩, show off + j - (off + rows.length * s) = j - rows.length * s by omega]
              exact hj) (fun i a ha => let ⟨y, y1, y2, y3⟩ := hflat i a ha; ⟨y, y1, y2.mono hX1, y3⟩))
    exact ⟨this.1, this.2.1, this.2.2, rfl⟩
  · obtain ⟨base, c, hxe, hc1, hc2, _⟩ := hx.slice
    have hclt : c < rows.length + rows2.length := by
      cases hspare : (G.tk k).spare with
      | none =>
        rw [hspare] at hsp
        obtain ⟨base', hval, _⟩ := hsp
        rw [← hv, hxe] at hval
        simp only [Value.slice.injEq] at hval
        omega
      | some p =>
        obtain ⟨b, off, cap⟩ := p
        rw [hspare] at hsp
        have hval := hsp.1
        rw [← hv, hxe] at hval
        simp only [Value.slice.injEq] at hval
        rcases Nat.lt_or_ge cap (rows.length + rows2.length) with hlt | hge
        · omega
        · exact absurd ⟨b, off, cap, hspare, hge⟩ hroom
    have hsrcx := src_of (P := P) ht hx h.X o1 o3 o4
    have hfit : Builtin.nextslicecap (rows.length + rows2.length) c * inf.bytes ≤ 281474976710656 := by
      have h1 := Nat.mul_le_mul_right inf.bytes (Go.Room.nextslicecap_le' hclt)
      rw [hib] at h1 ⊢
      rw [Nat.mul_assoc] at h1
      omega
    have hrun := run_append_grow_src (P := P) w t tx ty e inf z ht hinf hiz base rows.length c olds (by rw [his, ← hxe]; exact hsrcx.cellsD) vy rows2.length news (by rw [his]; exact hsrc) hclt (by omega) hfit
    have hcap := grownCap_ge w (rows.length + rows2.length) c e
    have hcapm := grownCap_le_maxLen w (rows.length + rows2.length) c e (by unfold maxLen; omega)
    generalize hce : grownCap w (rows.length + rows2.length) c e = cap at hrun hcap hcapm
    generalize harr : (olds ++ news).toArray ++ Builtin.zeroCells z.cells (cap - (rows.length + rows2.length)) = arr at hrun
    have hsz : arr.size = cap * s := by
      rw [← harr]
      simp only [Array.size_append, List.size_toArray, List.length_append, size_zeroCells, o1, n1, hzs]
      rw [Nat.sub_mul, Nat.add_mul]
      have := Nat.mul_le_mul_right s hcap
      rw [Nat.add_mul] at this
      omega
    have hh' : Holds G w.drew [(k, .tok s rows.length)] := ⟨h.X, h.res, h.ids, h.live, h.blocks, h.lits⟩
    have hg := grow_alloc hh' arr e (0, 0) ((rows.length + rows2.length) * s)
    have hnewb : (w.drew.alloc (.cells arr e)).heap[w.heap.size]? = some (.cells arr e) := by
      show (w.heap.push _)[w.heap.size]? = _
      simp
    have hget : ∀ (j : Nat) (u : Value), (olds ++ news)[j]? = some u → arr[j]? = some u := fun j u hj => by
      rw [← harr]
      have := (List.getElem?_eq_some_iff.1 hj).1
      rw [Array.getElem?_append_left (by simpa using this)]
      simpa using hj
    have hsd : SimD (G.sealed w.heap.size arr ((rows.length + rows2.length) * s)).X (.list (rows ++ rows2) .free) (.slice (some ⟨w.heap.size, 0, none⟩) (rows.length + rows2.length) cap) := by
      have := list_of_flat (X := (G.sealed w.heap.size arr ((rows.length + rows2.length) * s)).X) (off := 0) (b := w.heap.size) (c := cap) (news := olds ++ news) hrr (by rw [hlen]; exact hcap) hcapm (fun j u hj => by
            have hjl := (List.getElem?_eq_some_iff.1 hj).1
            rw [List.length_append, o1, n1, ← Nat.add_mul] at hjl
            show (if w.heap.size = w.heap.size then (if 0 + j < (rows.length + rows2.length) * s then arr[0 + j]? else none) else G.X w.heap.size (0 + j)) = some u
            rw [if_pos rfl, if_pos (by omega), Nat.zero_add]
            exact hget j u hj) (fun i a ha => let ⟨y, y1, y2, y3⟩ := hflat i a ha; ⟨y, y1, y2.mono hg.X, y3⟩)
      rw [hlen] at this
      exact this
    rw [hxe]
    refine ⟨_, { G.sealed w.heap.size arr ((rows.length + rows2.length) * s) with tk := fun i => if i = k then ⟨s, rows.length + rows2.length, .slice (some ⟨w.heap.size, 0, none⟩) (rows.length + rows2.length) cap, some (w.heap.size, 0, cap)⟩ else G.tk i }, _, hrun, ?_⟩
    have := fin (.slice (some ⟨w.heap.size, 0, none⟩) (rows.length + rows2.length) cap) { G.sealed w.heap.size arr ((rows.length + rows2.length) * s) with tk := fun i => if i = k then ⟨s, rows.length + rows2.length, .slice (some ⟨w.heap.size, 0, none⟩) (rows.length + rows2.length) cap, some (w.heap.size, 0, cap)⟩ else G.tk i }
      (w.drew.alloc (.cells arr e)) w.heap.size 0 cap rfl rfl rfl rfl rfl rfl hcap hcapm (.inr ⟨Nat.le_refl _, by simp⟩) ⟨arr, e, (0, 0), hnewb, by rw [hsz]; omega, fun i _ => by simp only [World.frozen?, hnewb]; simp⟩
      (fun i hi => by
        show (if w.heap.size = w.heap.size then (if i < (rows.length + rows2.length) * s then arr[i]? else none) else G.X w.heap.size i) = none
        rw [if_pos rfl, if_neg (by omega)]) hg.X (fun b' i u hu => by
        by_cases hbb : b' = w.heap.size
        · exact .inr hbb
        · left
          have : (G.sealed w.heap.size arr ((rows.length + rows2.length) * s)).X b' i = G.X b' i := if_neg hbb
          rw [← this]; exact hu) (fun b' i u hu => (hg.holds hh').X b' i u hu) rfl rfl rfl (by simp) (fun b' hlt _ => Below.heap_alloc _ _ _ hlt)
      hsd
    exact ⟨this.1, this.2.1, this.2.2, rfl⟩

/-- a row without room begins to grow -/
theorem new_tok {G : Ghost} {w : World} {id s : Nat} {rows : List (List AV)} {vx : Value} (h : Holds G w []) (hid : ¬ G.live id) (hx : SimD G.X (.list rows .full) vx) :
    ∃ G', Holds G' w [(id, .tok s rows.length)] ∧ Step G w [] G' w [(id, .tok s rows.length)] ∧ SimD G'.X (.list rows .free) vx ∧ vx = (G'.tk id).val ∧ ∀ i, G'.live i → G.live i ∨ i = id := by
  obtain ⟨base, c, rfl, h1, h2, h3⟩ := hx.slice
  have hc := h3 rfl
  subst hc
  refine ⟨{ G with tk := fun i => if i = id then ⟨s, rows.length, .slice base rows.length rows.length, none⟩ else G.tk i, live := fun i => G.live i ∨ i = id }, ?_⟩
  generalize hG : ({ G with tk := fun i => if i = id then ⟨s, rows.length, .slice base rows.length rows.length, none⟩ else G.tk i, live := fun i => G.live i ∨ i = id } : Ghost) = G'
  have htk : G'.tk id = ⟨s, rows.length, .slice base rows.length rows.length, none⟩ := by rw [← hG]; simp
  have hlive : G'.live = fun i => G.live i ∨ i = id := by rw [← hG]
  have hXe : G'.X = G.X := by rw [← hG]
  have hloc : G'.loc = G.loc := by rw [← hG]
  have hlits : G'.lits = G.lits := by rw [← hG]
  have hbase : G'.base = G.base := by rw [← hG]
  have hbl : blocksOf G' [(id, .tok s rows.length)] = [] := by simp [blocksOf, Ghost.placed, htk]
  refine ⟨⟨by rw [hXe]; exact h.X, fun r hr => ?_, by simp, fun r hr => ?_, by rw [hbl]; simp, fun b hb => ?_⟩, ⟨rfl, rfl, rfl, Nat.le_refl _, hbase, by rw [hXe]; exact fun _ _ _ h => h, fun _ _ _ => ⟨.inl rfl, fun _ => rfl⟩, by rw [hXe]; exact fun _ _ _ h => .inl h,
    (fun b hb => by rw [hbl] at hb; cases hb), fun i hi => ?_, fun i hi => ?_, by rw [hlits]; exact fun _ h => h, by rw [hlits]; exact fun _ h => .inl h⟩, by rw [hXe]; exact hx.free, by rw [htk], by rw [hlive]; exact fun _ h => h⟩
  · obtain rfl := List.mem_singleton.1 hr
    unfold ResHolds
    simp only [htk]
    exact ⟨trivial, trivial, base, rfl, h2⟩
  · obtain rfl := List.mem_singleton.1 hr
    rw [hlive]; exact .inr rfl
  · rw [hlits] at hb
    obtain ⟨q1, q2, _⟩ := h.lits b hb
    exact ⟨by rw [hbase]; exact q1, q2, by rw [hbl]; simp⟩
  · have hne : i ≠ id := fun e => hid (e ▸ hi)
    refine ⟨by rw [hlive]; exact .inl hi, by rw [hloc], .inl ?_⟩
    rw [← hG]; simp [hne]
  · have : i = id := by simpa using hi
    subst this; exact .inr hid

section
variable {P : Program} {L : Heap} {ev raw : Operand → AV} {o : Oper}

theorem append_run {t tx : TypeId} {x y : Operand} {c : Call} {ρ : Operand → Value} {w w' : World} {v : Value} (ho : o.op = .call c) (hc : c.callee = .builtin .append) (ha : c.args = #[x, y]) (hty : c.argTypes = #[t, tx])
    (h : (Builtin.append_ #[t, tx] o.type #[ρ x, ρ y]).run P w = .ok v w') : (execOp ρ o).run P w = .ok (.value v) w' := by
  simp only [execOp, ho, resolve, hc, ha, hty, invoke, builtin]
  have e1 : (Array.map ρ #[x, y]) = #[ρ x, ρ y] := by simp
  rw [e1, Sem.run_bind]
  simp only [Sem.run_pure, Result.andThen]
  rw [Sem.run_bind, h]
  rfl
structure Rows (P : Program) (t tx e : TypeId) (ti te : TI) (z : Value) (rows2 : List (List AV)) : Prop where
  ht : Nonempty (TIs P t ti)
  hk : ti.kind = .slice e
  htx : ∃ tj, Nonempty (TIs P tx tj) ∧ ∃ e', tj.kind = .slice e'
  he : Nonempty (TIs P e te)
  hz : te.zero = some z
  hok : zok te z = true
  rows : ∀ row ∈ rows2, row.length = te.size
theorem Rows.fits {t tx e : TypeId} {ti te : TI} {z : Value} {rows2 : List (List AV)} (h : Rows P t tx e ti te z rows2) : Fits P t tx e ti te te.size z := by
  obtain ⟨ht⟩ := h.ht
  obtain ⟨tj, ⟨hx⟩, e', hk⟩ := h.htx
  obtain ⟨he⟩ := h.he
  obtain ⟨z1, z2, z3⟩ := zok_spec h.hok
  exact ⟨ht.slice h.hk, ⟨e', hx.slice hk⟩, ⟨he.i, he.info, he.size, he.bytes, by rw [he.zero]; exact h.hz⟩, z3, z1⟩
theorem e_append_tok {t tx e : TypeId} {x y : Operand} {c : Call} {ti te : TI} {z : Value} {rows rows2 : List (List AV)} {own2 : Own} {k : Nat} (ho : o.op = .call c) (hc : c.callee = .builtin .append) (ha : c.args = #[x, y]) (hty : c.argTypes = #[t, tx])
    (hR : Rows P t tx e ti te z rows2) (hx : ev x = .list rows (.tok k)) (hf : findL L k = some (.tok te.size rows.length)) (hy : ev y = .list rows2 own2)
    (hb : (rows.length + rows2.length) * te.bytes ≤ 140737488355328) (hm : rows.length + rows2.length ≤ 4611686018427387904) :
    EOk P L ev raw o (.list (rows ++ rows2) (.tok k)) (setL L k (.tok te.size (rows.length + rows2.length))) fun _ => False := fun G w ρ hh _ => by
  have h1 := hh.ev x (by rw [ho]; simp [Op.operands, Call.operands, hc, ha])
  have h2 := hh.ev y (by rw [ho]; simp [Op.operands, Call.operands, hc, ha])
  rw [hx] at h1; rw [hy] at h2
  have hres := hh.holds.res _ (findL_mem hf)
  · obtain ⟨hk, hsd, hle, hz, he⟩ := h1.tok_inv
    have hv := he hres.2.1.symm
    obtain ⟨L0, p1, p2⟩ := findL_perm hf
    have h3 : Holds G w ([(k, .tok te.size rows.length)] ++ L0) := hh.holds.perm p1
    obtain ⟨v, G', w', r1, r2, r3, r4, r5⟩ := append_tok (ty := o.type) hR.fits h3.left hsd hv h2.list_inv.1 (by rw [← hres.1]; exact hz) hR.rows hb hm
    obtain ⟨m1, m2⟩ := h3.beside r3 r4
    exact ⟨v, G', w', .inl (append_run ho hc ha hty r1), r2, m1.perm (p2 _).symm, m2.perm p1.symm (p2 _).symm, fun id hid => by rw [r5] at hid; exact .inl hid⟩
theorem e_append_full {t tx e : TypeId} {x y : Operand} {c : Call} {ti te : TI} {z : Value} {rows rows2 : List (List AV)} {own2 : Own} {id : Nat} (ho : o.op = .call c) (hc : c.callee = .builtin .append) (ha : c.args = #[x, y]) (hty : c.argTypes = #[t, tx])
    (hR : Rows P t tx e ti te z rows2) (hr : ∀ row ∈ rows, row.length = te.size) (hx : ev x = .list rows .full) (hy : ev y = .list rows2 own2)
    (hb : (rows.length + rows2.length) * te.bytes ≤ 140737488355328) (hm : rows.length + rows2.length ≤ 4611686018427387904) :
    EOk P L ev raw o (.list (rows ++ rows2) (.tok id)) ((id, .tok te.size (rows.length + rows2.length)) :: L) fun i => i = id := fun G w ρ hh hn => by
  have h1 := hh.ev x (by rw [ho]; simp [Op.operands, Call.operands, hc, ha])
  have h2 := hh.ev y (by rw [ho]; simp [Op.operands, Call.operands, hc, ha])
  rw [hx] at h1; rw [hy] at h2
  have h3 : Holds G w ([] ++ L) := hh.holds
  obtain ⟨G1, k1, k2, k3, k4, k5⟩ := new_tok (s := te.size) h3.left (hn id rfl) (h1.list_inv.2 rfl)
  obtain ⟨v, G', w', r1, r2, r3, r4, r5⟩ := append_tok (ty := o.type) hR.fits k1 k3 k4 ((h2.list_inv.1).mono k2.X) hr hR.rows hb hm
  obtain ⟨m1, m2⟩ := h3.beside r3 (k2.trans r4)
  exact ⟨v, G', w', .inl (append_run ho hc ha hty r1), r2, m1, m2, fun i hi => by rw [r5] at hi; exact k5 i hi⟩
/-- what is appended to nothing, as an object that may be written -/
theorem e_append_arr {t tx e : TypeId} {x y : Operand} {c : Call} {ti te : TI} {z : Value} {rows2 : List (List AV)} {own2 : Own} {id : Nat} (ho : o.op = .call c) (hc : c.callee = .builtin .append) (ha : c.args = #[x, y]) (hty : c.argTypes = #[t, tx])
    (hR : Rows P t tx e ti te z rows2) (hx : ev x = .list [] .full) (hy : ev y = .list rows2 own2) (h0 : 0 < rows2.length)
    (hb : rows2.length * te.bytes ≤ 140737488355328) (hm : rows2.length ≤ 4611686018427387904) :
    EOk P L ev raw o (.arr id rows2.length) ((id, .box rows2.flatten) :: L) fun i => i = id := fun G w ρ hh hn => by
  have h1 := hh.ev x (by rw [ho]; simp [Op.operands, Call.operands, hc, ha])
  have h2 := hh.ev y (by rw [ho]; simp [Op.operands, Call.operands, hc, ha])
  rw [hx] at h1; rw [hy] at h2
  have hx1 := h1.list_inv.2 rfl
  obtain ⟨base, cc, hxe, hc1, hc2, hc3⟩ := hx1.slice
  have hcc := hc3 rfl
  simp only [List.length_nil] at hcc hxe
  subst hcc
  obtain ⟨ht, ⟨e', htx⟩, ⟨inf, hinf, his, hib, hiz⟩, hs0, hzs⟩ := hR.fits
  obtain ⟨news, n1, n2, n3, n4⟩ := rows_news h2.list_inv.1 hR.rows
  have hsrc := src_of (P := P) htx h2.list_inv.1 hh.holds.X n1 n3 n4
  have hsrcx := src_of (P := P) (s := te.size) (news := []) ht hx1.free hh.holds.X (by simp) (fun u h => by cases h) (fun h => absurd rfl h)
  have hfit : Builtin.nextslicecap (0 + rows2.length) 0 * inf.bytes ≤ 281474976710656 := by
    have h1 := Nat.mul_le_mul_right inf.bytes (Go.Room.nextslicecap_le' (show 0 < 0 + rows2.length by omega))
    rw [hib] at h1 ⊢
    rw [Nat.mul_assoc] at h1
    rw [Nat.zero_add] at h1 ⊢
    omega
  have hrun := run_append_grow_src (P := P) w t tx o.type e inf z ht hinf hiz base 0 0 [] (by rw [his, ← hxe]; exact hsrcx.cellsD) (ρ y) rows2.length news (by rw [his]; exact hsrc) (by omega) (by omega) hfit
  have hcap := grownCap_ge w (0 + rows2.length) 0 e
  have hcapm := grownCap_le_maxLen w (0 + rows2.length) 0 e (by unfold maxLen; omega)
  generalize hce : grownCap w (0 + rows2.length) 0 e = cap at hrun hcap hcapm
  generalize harr : ([] ++ news).toArray ++ Builtin.zeroCells z.cells (cap - (0 + rows2.length)) = arr at hrun
  rw [← hxe] at hrun
  rw [Nat.zero_add] at hrun hcap
  have hsz : rows2.flatten.length ≤ arr.size := by
    rw [← harr, flatten_length hR.rows]
    simp only [Array.size_append, List.size_toArray, List.nil_append, n1]
    omega
  have hget : ∀ (j : Nat) (u : Value), news[j]? = some u → arr.getD j undef = u := fun j u hj => by
    rw [← harr]
    have := (List.getElem?_eq_some_iff.1 hj).1
    rw [Array.getD_eq_getD_getElem?, Array.getElem?_append_left (by simpa using this)]
    simp [hj]
  obtain ⟨k1, k2⟩ := with_new (w := w) (r := (id, .box rows2.flatten)) (G' := G.boxed id w.heap.size) (w' := w.drew.alloc (.cells arr e)) hh.holds fun h => by
    have hd : Holds G w.drew [] := ⟨h.X, h.res, h.ids, h.live, h.blocks, h.lits⟩
    obtain ⟨q1, q2⟩ := new_box (id := id) e hd (hn id rfl) (l := rows2.flatten) (arr := arr) ⟨hsz, fun i a ha => by
      obtain ⟨u, u1, u2, _⟩ := n2 i a ha
      rw [hget i u u1]
      exact .data _ _ u2⟩
    exact ⟨q1, ⟨q2.os, q2.tape, q2.output, q2.size, q2.base, q2.X, q2.frame, q2.newX, q2.newB, q2.live, q2.newI, q2.lits, q2.newL⟩⟩
  refine ⟨_, _, _, .inl (append_run ho hc ha hty hrun), ?_, k1, k2, fun i hi => hi⟩
  have hloc : (G.boxed id w.heap.size).loc id = w.heap.size := by simp [Ghost.boxed]
  have h5 := Sim.arr (G := G.boxed id w.heap.size) id rows2.length cap (.inr rfl) hcap hcapm
  rw [hloc] at h5
  exact h5
end
end Go.Am
