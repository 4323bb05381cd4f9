/- Part 2 of what the laws RowsBytes rest on: AmM, AmN, AmO, AmP, AmQ, AmR. -/
import Derived.Test.YtjepgbpcpcahgaaGreatP1
import Derived.Lib.AppendZerosOnto
set_option linter.unusedSimpArgs false
set_option linter.unusedVariables false
namespace Go.Am
open Go.RowKit
theorem rows_news {X : Nat → Nat → Option Value} {rows : List (List AV)} {x : Value} {s : Nat} (h : SimD X (.list rows .free) x) (hr : ∀ row ∈ rows, row.length = s) :
  ∃ news : List Value, news.length = rows.length * s ∧ (∀ (i : Nat) (a : AV), rows.flatten[i]? = some a → ∃ y, news[i]? = some y ∧ SimD X a y ∧ y.oneCell' = true) ∧ (∀ u ∈ news, u.oneCell' = true) ∧
   (rows ≠ [] → ∃ b off c, x = .slice (some ⟨b, off, none⟩) rows.length c ∧ ∀ (j : Nat) (u : Value), news[j]? = some u → X b (off + j) = some u) := by
 by_cases h0 : rows = []
 ·subst h0
  exact ⟨[], by simp, (fun i a h => by simp at h), (fun u h => by cases h), fun h => absurd rfl h⟩
 ·obtain ⟨b, off, c, s', y, rfl, hr', hX, hS, h1⟩ := h.pos h0
  have hss : s' = s := by
   cases rows with
   | nil => exact absurd rfl h0
   | cons r rows => exact (hr' r (by simp)).symm.trans (hr r (by simp))
  subst hss
  have hfl := flatten_length hr
  have key : ∀ i a, rows.flatten[i]? = some a → X b (off + i) = some (y (i / s') (i % s')) ∧ SimD X a (y (i / s') (i % s')) ∧ (y (i / s') (i % s')).oneCell' = true := fun i a ha => by
   have hi := (List.getElem?_eq_some_iff.1 ha).1
   rw [hfl] at hi
   have hs0 : 0 < s' := by
    rcases Nat.eq_zero_or_pos s' with h | h
    ·subst h; simp at hi
    ·exact h
   have hd : i / s' < rows.length := Nat.div_lt_of_lt_mul (by rw [Nat.mul_comm]; exact hi)
   have hm : i % s' < s' := Nat.mod_lt _ hs0
   have e1 : rows[i / s']? = some rows[i / s'] := List.getElem?_eq_getElem hd
   have hl := hr _ (List.getElem_mem hd)
   have e2 : rows[i / s'][i % s']? = some (rows[i / s'][i % s']'(by rw [hl]; exact hm)) := List.getElem?_eq_getElem _
   have e3 := flat_get hr e1 e2
   have e4 : i / s' * s' + i % s' = i := by have := Nat.div_add_mod i s'; rw [Nat.mul_comm]; omega
   rw [e4, ha] at e3
   simp only [Option.some.injEq] at e3
   have k := hX _ _ _ _ e1 e2
   rw [Nat.add_assoc, e4] at k
   exact ⟨k, by rw [e3]; exact hS _ _ _ _ e1 e2, h1 _ _ _ _ e1 e2⟩
  refine ⟨(List.range (rows.length * s')).map fun i => y (i / s') (i % s'), by simp, fun i a ha => ?_, fun u hu => ?_, fun _ => ⟨b, off, c, rfl, fun j u hu => ?_⟩⟩
  ·have hi := (List.getElem?_eq_some_iff.1 ha).1
   rw [hfl] at hi
   obtain ⟨_, k2, k3⟩ := key i a ha
   exact ⟨_, by simp [hi], k2, k3⟩
  ·obtain ⟨i, hi, rfl⟩ := List.mem_map.1 hu
   rw [List.mem_range, ← hfl] at hi
   exact (key i _ (List.getElem?_eq_getElem hi)).2.2
  ·have hjl := (List.getElem?_eq_some_iff.1 hu).1
   simp only [List.length_map, List.length_range] at hjl
   have hu' : u = y (j / s') (j % s') := by
    rw [List.getElem?_map, List.getElem?_range hjl] at hu
    simpa using hu.symm
   rw [hu']
   exact (key j _ (List.getElem?_eq_getElem (by rw [hfl]; exact hjl))).1
theorem list_of_flat {X : Nat → Nat → Option Value} {rows : List (List AV)} {s b off c : Nat} {news : List Value} (hr : ∀ row ∈ rows, row.length = s) (hn : rows.length ≤ c) (hc : c ≤ maxLen)
  (hX : ∀ (j : Nat) (u : Value), news[j]? = some u → X b (off + j) = some u) (hS : ∀ (i : Nat) (a : AV), rows.flatten[i]? = some a → ∃ y, news[i]? = some y ∧ SimD X a y ∧ y.oneCell' = true) :
  SimD X (.list rows .free) (.slice (some ⟨b, off, none⟩) rows.length c) := by
 refine .list rows .free b off c s (fun i j => news.getD (i * s + j) undef) hn hc (by simp) (.inl rfl) hr (fun i row j a h1 h2 => ?_) (fun i row j a h1 h2 => ?_) (fun i row j a h1 h2 => ?_)
 all_goals
  obtain ⟨y, k1, k2, k3⟩ := hS _ a (flat_get hr h1 h2)
  have k4 : news.getD (i * s + j) undef = y := by simp [List.getD, k1]
 ·rw [k4, Nat.add_assoc]; exact hX _ _ k1
 ·rw [k4]; exact k2
 ·rw [k4]; exact k3
theorem src_of {P : Program} {X : Nat → Nat → Option Value} {w : World} {rows : List (List AV)} {x : Value} {s : Nat} {tx e' : TypeId} (hk : P.underlying tx = some (.slice e')) (h : SimD X (.list rows .free) x) (hw : ∀ b i v, X b i = some v → w.cell? ⟨b, i, none⟩ = some v)
  {news : List Value} (hl : news.length = rows.length * s) (h1 : ∀ u ∈ news, u.oneCell' = true) (hp : rows ≠ [] → ∃ b off c, x = .slice (some ⟨b, off, none⟩) rows.length c ∧ ∀ (j : Nat) (u : Value), news[j]? = some u → X b (off + j) = some u) : Src P s tx x rows.length news w := by
 by_cases h0 : rows = []
 ·subst h0
  obtain ⟨base, c, rfl, _⟩ := h.slice
  have hn : news = [] := by simpa using hl
  subst hn
  cases base with
  | none => exact Src.ofNil w hk c
  | some a => exact Src.ofSlice w hk a 0 c [] (by simp) (fun j u h => by simp at h) (fun u h => by cases h)
 ·obtain ⟨b, off, c, rfl, hX⟩ := hp h0
  exact Src.ofSlice w hk _ _ c news hl (fun j u hj => by rw [add_mk]; exact hw _ _ _ (hX j u hj)) h1
structure Fits (P : Program) (t tx e : TypeId) (ti te : TI) (s : Nat) (z : Value) : Prop where
 t : P.underlying t = some (.slice e)
 tx : ∃ e', P.underlying tx = some (.slice e')
 info : ∃ i, P.info? e = some i ∧ i.size = s ∧ i.bytes = te.bytes ∧ i.zero = some z
 s0 : 0 < s
 zs : z.cells.size = s
theorem append_tok {P : Program} {G : Ghost} {w : World} {k s : Nat} {rows rows2 : List (List AV)} {vx vy : Value} {t tx e ty : TypeId} {ti te : TI} {z : Value} (hF : Fits P t tx e ti te s z) (h : Holds G w [(k, .tok s rows.length)])
    (hx : SimD G.X (.list rows .free) vx) (hv : vx = (G.tk k).val) (hy : SimD G.X (.list rows2 .free) vy) (hr1 : ∀ row ∈ rows, row.length = s) (hr2 : ∀ row ∈ rows2, row.length = s)
    (hb : (rows.length + rows2.length) * te.bytes ≤ 140737488355328) (hm : rows.length + rows2.length ≤ 4611686018427387904) :
    ∃ v G' w', (Builtin.append_ #[t, tx] ty #[vx, vy]).run P w = .ok v w' ∧ Sim G' (.list (rows ++ rows2) (.tok k)) v ∧ Holds G' w' [(k, .tok s (rows.length + rows2.length))] ∧ Step G w [(k, .tok s rows.length)] G' w' [(k, .tok s (rows.length + rows2.length))] ∧ G'.live = G.live := by
  obtain ⟨ht, ⟨e', htx⟩, ⟨inf, hinf, his, hib, hiz⟩, hs0, hzs⟩ := hF
  obtain ⟨hts, htn, hsp⟩ := h.res _ (List.mem_singleton.2 rfl)
  have hlive := h.live (k, .tok s rows.length) (by simp)
  simp only at hlive
  obtain ⟨news, n1, n2, n3, n4⟩ := rows_news hy hr2
  obtain ⟨olds, o1, o2, o3, o4⟩ := rows_news hx hr1
  have hsrc := src_of (P := P) htx hy h.X n1 n3 n4
  have hXlt : ∀ b i v, G.X b i = some v → b < w.heap.size := fun b i v hx => by
    have := h.X b i v hx
    rcases Nat.lt_or_ge b w.heap.size with hlt | hge
    · exact hlt
    · simp [World.cell?, Array.getElem?_eq_none hge] at this
  have hrr : ∀ row ∈ rows ++ rows2, row.length = s := fun row hrow => by
    rcases List.mem_append.1 hrow with hrow | hrow
    · exact hr1 row hrow
    · exact hr2 row hrow
  have hlen : (rows ++ rows2).length = rows.length + rows2.length := List.length_append
  have hflat : ∀ (i : Nat) (a : AV), (rows ++ rows2).flatten[i]? = some a → ∃ y, (olds ++ news)[i]? = some y ∧ SimD G.X a y ∧ y.oneCell' = true := fun i a ha => by
    have hfl := flatten_length hr1
    rw [List.flatten_append, List.getElem?_append] at ha
    rw [List.getElem?_append, o1, ← hfl]
    split at ha
    · rename_i hi; rw [if_pos hi]; exact o2 i a ha
    · rename_i hi; rw [if_neg hi]; exact n2 _ a ha
  by_cases hz : rows2 = []
  · subst hz
    obtain ⟨base, c, rfl, hc1, hc2, _⟩ := hx.slice
    have hn : news = [] := by simpa using n1
    subst hn
    refine ⟨_, G, w, run_append_nothing w t tx ty e inf ht hinf base rows.length c hc1 vy (by rw [his]; exact hsrc), ?_, by simpa using h, by simpa using Step.refl G w _, rfl⟩
    rw [List.append_nil]
    exact .tok rows k _ hlive hx (by rw [htn]; exact Nat.le_refl _) (by rw [hts]; exact hr1) (fun _ => hv)
  have hpos : 0 < rows2.length := List.length_pos_iff.2 hz
  -- what is alike in both arms
  have fin : ∀ (v : Value) (G' : Ghost) (w' : World) (b off cap : Nat) , G'.loc = G.loc → G'.live = G.live → G'.lits = G.lits → G'.base = G.base → G'.tk = (fun i => if i = k then ⟨s, rows.length + rows2.length, v, some (b, off, cap)⟩ else G.tk i) →
      v = .slice (some ⟨b, off, none⟩) (rows.length + rows2.length) cap → rows.length + rows2.length ≤ cap → cap ≤ maxLen → (b ∈ blocksOf G [(k, .tok s rows.length)] ∨ (w.heap.size ≤ b ∧ b < w'.heap.size)) →
      (∃ arr E fr, w'.heap[b]? = some (.cells arr E fr) ∧ off + cap * s ≤ arr.size ∧ ∀ i, i < arr.size → w'.frozen? ⟨b, i, none⟩ = false) → (∀ i, off + (rows.length + rows2.length) * s ≤ i → G'.X b i = none) →
      (∀ b i v, G.X b i = some v → G'.X b i = some v) → (∀ b' i v, G'.X b' i = some v → G.X b' i = some v ∨ b' = b) → (∀ b' i v, G'.X b' i = some v → w'.cell? ⟨b', i, none⟩ = some v) →
      w'.os = w.os → w'.tape = w.tape → w'.output = w.output → w.heap.size ≤ w'.heap.size → (∀ b', b' < w.heap.size → b' ∉ blocksOf G [(k, .tok s rows.length)] → w'.heap[b']? = w.heap[b']?) →
      SimD G'.X (.list (rows ++ rows2) .free) v → Sim G' (.list (rows ++ rows2) (.tok k)) v ∧ Holds G' w' [(k, .tok s (rows.length + rows2.length))] ∧ Step G w [(k, .tok s rows.length)] G' w' [(k, .tok s (rows.length + rows2.length))] := by
    intro v G' w' b off cap g1 g2 g3 g4 g5 hv' hle hcap hbk harr hxn hX1 hX2 hX3 p1 p2 p3 p4 hfr hsd
    have htk : G'.tk k = ⟨s, rows.length + rows2.length, v, some (b, off, cap)⟩ := by rw [g5]; simp
    have hb' : blocksOf G' [(k, .tok s (rows.length + rows2.length))] = [b] := by simp [blocksOf, Ghost.placed, htk]
    refine ⟨.tok _ k _ (by rw [g2]; exact hlive) hsd (by rw [htk, hlen]; exact Nat.le_refl _) (by rw [htk]; exact hrr) (fun _ => by rw [htk]), ⟨hX3, fun r hr => ?_, by simp, fun r hr => ?_, by rw [hb']; simp, fun c hc => ?_⟩,
      ⟨p1, p2, p3, p4, g4, hX1, fun c hlt hn => ⟨.inl (hfr c hlt hn), fun _ => hfr c hlt hn⟩, fun c i u hu => ?_, fun c hc => ?_, fun i hi => ?_, fun i hi => .inl (by simpa using hi), fun c hc => by rw [g3]; exact hc, fun c hc => by rw [g3] at hc; exact .inl hc⟩⟩
    · obtain rfl := List.mem_singleton.1 hr
      unfold ResHolds
      simp only [htk]
      exact ⟨trivial, trivial, hv', hle, hcap, harr, hxn⟩
    · obtain rfl := List.mem_singleton.1 hr
      rw [g2]; exact hlive
    · rw [g3] at hc
      obtain ⟨q1, q2, q3⟩ := h.lits c hc
      refine ⟨by rw [g4]; exact q1, by omega, ?_⟩
      rw [hb']
      intro hm
      have : c = b := by simpa using hm
      subst this
      rcases hbk with hbk | hbk
      · exact q3 hbk
      · omega
    · rcases hX2 c i u hu with hu | rfl
      · exact .inl hu
      · rcases hbk with hbk | hbk
        · exact .inr (.inr hbk)
        · exact .inr (.inl hbk.1)
    · rw [hb'] at hc
      have : c = b := by simpa using hc
      subst this
      exact hbk.imp_right And.left
    · refine ⟨by rw [g2]; exact hi, by rw [g1], ?_⟩
      by_cases hik : i = k
      · subst hik
        right
        refine ⟨by simp, ?_, by rw [htk, hts]⟩
        rw [htk, htn]; simp only; omega
      · left; rw [g5]; simp [hik]
  by_cases hroom : ∃ b off cap, (G.tk k).spare = some (b, off, cap) ∧ rows.length + rows2.length ≤ cap
  · obtain ⟨b, off, cap, hspare, hcap⟩ := hroom
    rw [hspare] at hsp
    obtain ⟨hval, _, hcm, ⟨arr, E, fr, hh, hsz, hfz⟩, hxn⟩ := hsp
    have hbl : blocksOf G [(k, .tok s rows.length)] = [b] := by simp [blocksOf, Ghost.placed, hspare]
    have hle2 : off + rows.length * s + rows2.length * s ≤ off + cap * s := by
      have := Nat.mul_le_mul_right s hcap
      rw [Nat.add_mul] at this; omega
    obtain ⟨arr', a1, a2, a3⟩ := setCells_heap b news (off + rows.length * s) w arr E fr hh (by rw [n1]; omega)
    obtain ⟨p1, p2, p3, p4, p5⟩ := setCells_other b news (off + rows.length * s) w
    have hrun := run_append_room_src (P := P) w t tx ty e inf ht hinf b off rows.length cap vy rows2.length news (by rw [his]; exact hsrc) hcap
      (fun j hj => by rw [his]; rw [n1] at hj; have : off + rows.length * s + j < arr.size := by omega
                      simp [World.cell?, hh, this]) (fun j hj => by rw [his]; rw [n1] at hj; exact hfz _ (by omega))
    rw [his] at hrun
    rw [hv, hval]
    have hxval : vx = .slice (some ⟨b, off, none⟩) rows.length cap := by rw [hv, hval]
    -- the old cells lie in this block
    have hold : ∀ j u, olds[j]? = some u → G.X b (off + j) = some u := fun j u hj => by
      by_cases h0 : rows = []
      · have : olds = [] := by subst h0; simpa using o1
        subst this; simp at hj
      · obtain ⟨b1, off1, c1, e1, e2⟩ := o4 h0
        rw [hxval] at e1
        simp only [Value.slice.injEq, Option.some.injEq, Addr.mk.injEq] at e1
        obtain ⟨⟨rfl, rfl, _⟩, _, _⟩ := e1
        exact e2 j u hj
    have hin : ∀ j u, news[j]? = some u → j < rows2.length * s := fun j u hj => by rw [← n1]; exact (List.getElem?_eq_some_iff.1 hj).1
    let X' : Nat → Nat → Option Value := fun b' i => if b' = b ∧ off + rows.length * s ≤ i then news[i - (off + rows.length * s)]? else G.X b' i
    have hX1 : ∀ b i v, G.X b i = some v → X' b i = some v := fun b' i u hu => by
      show (if b' = b ∧ off + rows.length * s ≤ i then news[i - (off + rows.length * s)]? else G.X b' i) = some u
      rw [if_neg]
      · exact hu
      · rintro ⟨rfl, hi⟩
        rw [hxn i hi] at hu; cases hu
    refine ⟨_, { G with X := X', tk := fun i => if i = k then ⟨s, rows.length + rows2.length, .slice (some ⟨b, off, none⟩) (rows.length + rows2.length) cap, some (b, off, cap)⟩ else G.tk i }, _, hrun, ?_⟩
    have := fin (.slice (some ⟨b, off, none⟩) (rows.length + rows2.length) cap) { G with X := X', tk := fun i => if i = k then ⟨s, rows.length + rows2.length, .slice (some ⟨b, off, none⟩) (rows.length + rows2.length) cap, some (b, off, cap)⟩ else G.tk i }
      (w.setCells b (off + rows.length * s) news) b off cap rfl rfl rfl rfl rfl rfl hcap hcm (.inl (by rw [hbl]; simp)) ⟨arr', E, fr, a1, by rw [a2]; exact hsz, fun i hi => by
        have := hfz i (by rw [← a2]; exact hi)
        simp only [World.frozen?, hh] at this
        simp only [World.frozen?, a1]; exact this⟩ (fun i hi => by
        show (if b = b ∧ off + rows.length * s ≤ i then news[i - (off + rows.length * s)]? else G.X b i) = none
        rw [Nat.add_mul] at hi
        rw [if_pos ⟨rfl, by omega⟩, List.getElem?_eq_none (by omega)]) hX1 (fun b' i u hu => by
        by_cases hbb : b' = b
        · exact .inr hbb
        · left
          have : X' b' i = G.X b' i := if_neg (by rintro ⟨h, _⟩; exact hbb h)
          rw [← this]; exact hu) (fun b' i u hu => by
        replace hu : (if b' = b ∧ off + rows.length * s ≤ i then news[i - (off + rows.length * s)]? else G.X b' i) = some u := hu
        split at hu
        · rename_i hc
          obtain ⟨rfl, hi⟩ := hc
          have hj := hin _ u hu
          have hlt : i < arr'.size := by rw [a2]; omega
          have h3 := a3 i
          rw [if_pos (by rw [n1]; omega)] at h3
          simp only [List.getD, hu, Option.getD_some] at h3
          have h4 : arr'.getD i undef = arr'[i] := by simp [hlt]
          rw [h4] at h3
          simp [World.cell?, a1, hlt, h3]
        · rename_i hc
          by_cases hbb : b' = b
          · subst hbb
            have hi : i < off + rows.length * s := by
              rcases Nat.lt_or_ge i (off + rows.length * s) with h | h
              · exact h
              · exact absurd ⟨rfl, h⟩ hc
            have h5 := h.X _ _ _ hu
            have hlt : i < arr.size := by
              simp only [World.cell?, hh] at h5
              exact (Array.getElem?_eq_some_iff.1 (by simpa using h5)).1
            have h3 := a3 i
            rw [if_neg (by omega)] at h3
            have h4 : arr'.getD i undef = arr'[i]'(by rw [a2]; exact hlt) := by simp [a2, hlt]
            have h6 : arr.getD i undef = arr[i] := by simp [hlt]
            rw [h4, h6] at h3
            simp only [World.cell?, hh] at h5
            have h7 : arr[i]? = some u := by simpa using h5
            simp only [World.cell?, a1]
            have h8 : arr'[i]? = some u := by
              rw [Array.getElem?_eq_getElem (by rw [a2]; exact hlt), h3]
              rw [Array.getElem?_eq_getElem hlt] at h7; exact h7
            simpa using h8
          · have := h.X _ _ _ hu
            rw [← this]; simp [World.cell?, p5 b' hbb]) p1 p2 p3 (by rw [p4]; exact Nat.le_refl _) (fun b' _ hn => p5 b' (fun e => hn (by rw [hbl]; simp [e])))
      (by rw [← hlen]; exact list_of_flat (news := olds ++ news) hrr (by rw [hlen]; exact hcap) hcm (fun j u hj => by
            rw [List.getElem?_append] at hj
            split at hj
            · exact hX1 _ _ _ (hold j u hj)
            · rename_i hjl
              show (if b = b ∧ off + rows.length * s ≤ off + j then news[off + j - (off + rows.length * s)]? else G.X b (off + j)) = some u
              rw [o1] at hjl hj
              rw [if_pos ⟨rfl, by omega⟩, show off + j - (off + rows.length * s) = j - rows.length * s by omega]
              exact hj) (fun i a ha => let ⟨y, y1, y2, y3⟩ := hflat i a ha; ⟨y, y1, y2.mono hX1, y3⟩))
    exact ⟨this.1, this.2.1, this.2.2, rfl⟩
  · obtain ⟨base, c, hxe, hc1, hc2, _⟩ := hx.slice
    have hclt : c < rows.length + rows2.length := by
      cases hspare : (G.tk k).spare with
      | none =>
        rw [hspare] at hsp
        obtain ⟨base', hval, _⟩ := hsp
        rw [← hv, hxe] at hval
        simp only [Value.slice.injEq] at hval
        omega
      | some p =>
        obtain ⟨b, off, cap⟩ := p
        rw [hspare] at hsp
        have hval := hsp.1
        rw [← hv, hxe] at hval
        simp only [Value.slice.injEq] at hval
        rcases Nat.lt_or_ge cap (rows.length + rows2.length) with hlt | hge
        · omega
        · exact absurd ⟨b, off, cap, hspare, hge⟩ hroom
    have hsrcx := src_of (P := P) ht hx h.X o1 o3 o4
    have hfit : Builtin.nextslicecap (rows.length + rows2.length) c * inf.bytes ≤ 281474976710656 := by
      have h1 := Nat.mul_le_mul_right inf.bytes (Go.Room.nextslicecap_le' hclt)
      rw [hib] at h1 ⊢
      rw [Nat.mul_assoc] at h1
      omega
    have hrun := run_append_grow_src (P := P) w t tx ty e inf z ht hinf hiz base rows.length c olds (by rw [his, ← hxe]; exact hsrcx.cellsD) vy rows2.length news (by rw [his]; exact hsrc) hclt (by omega) hfit
    have hcap := grownCap_ge w (rows.length + rows2.length) c e
    have hcapm := grownCap_le_maxLen w (rows.length + rows2.length) c e (by unfold maxLen; omega)
    generalize hce : grownCap w (rows.length + rows2.length) c e = cap at hrun hcap hcapm
    generalize harr : (olds ++ news).toArray ++ Builtin.zeroCells z.cells (cap - (rows.length + rows2.length)) = arr at hrun
    have hsz : arr.size = cap * s := by
      rw [← harr]
      simp only [Array.size_append, List.size_toArray, List.length_append, size_zeroCells, o1, n1, hzs]
      rw [Nat.sub_mul, Nat.add_mul]
      have := Nat.mul_le_mul_right s hcap
      rw [Nat.add_mul] at this
      omega
    have hh' : Holds G w.drew [(k, .tok s rows.length)] := ⟨h.X, h.res, h.ids, h.live, h.blocks, h.lits⟩
    have hg := grow_alloc hh' arr e (0, 0) ((rows.length + rows2.length) * s)
    have hnewb : (w.drew.alloc (.cells arr e)).heap[w.heap.size]? = some (.cells arr e) := by
      show (w.heap.push _)[w.heap.size]? = _
      simp
    have hget : ∀ (j : Nat) (u : Value), (olds ++ news)[j]? = some u → arr[j]? = some u := fun j u hj => by
      rw [← harr]
      have := (List.getElem?_eq_some_iff.1 hj).1
      rw [Array.getElem?_append_left (by simpa using this)]
      simpa using hj
    have hsd : SimD (G.sealed w.heap.size arr ((rows.length + rows2.length) * s)).X (.list (rows ++ rows2) .free) (.slice (some ⟨w.heap.size, 0, none⟩) (rows.length + rows2.length) cap) := by
      have := list_of_flat (X := (G.sealed w.heap.size arr ((rows.length + rows2.length) * s)).X) (off := 0) (b := w.heap.size) (c := cap) (news := olds ++ news) hrr (by rw [hlen]; exact hcap) hcapm (fun j u hj => by
            have hjl := (List.getElem?_eq_some_iff.1 hj).1
            rw [List.length_append, o1, n1, ← Nat.add_mul] at hjl
            show (if w.heap.size = w.heap.size then (if 0 + j < (rows.length + rows2.length) * s then arr[0 + j]? else none) else G.X w.heap.size (0 + j)) = some u
            rw [if_pos rfl, if_pos (by omega), Nat.zero_add]
            exact hget j u hj) (fun i a ha => let ⟨y, y1, y2, y3⟩ := hflat i a ha; ⟨y, y1, y2.mono hg.X, y3⟩)
      rw [hlen] at this
      exact this
    rw [hxe]
    refine ⟨_, { G.sealed w.heap.size arr ((rows.length + rows2.length) * s) with tk := fun i => if i = k then ⟨s, rows.length + rows2.length, .slice (some ⟨w.heap.size, 0, none⟩) (rows.length + rows2.length) cap, some (w.heap.size, 0, cap)⟩ else G.tk i }, _, hrun, ?_⟩
    have := fin (.slice (some ⟨w.heap.size, 0, none⟩) (rows.length + rows2.length) cap) { G.sealed w.heap.size arr ((rows.length + rows2.length) * s) with tk := fun i => if i = k then ⟨s, rows.length + rows2.length, .slice (some ⟨w.heap.size, 0, none⟩) (rows.length + rows2.length) cap, some (w.heap.size, 0, cap)⟩ else G.tk i }
      (w.drew.alloc (.cells arr e)) w.heap.size 0 cap rfl rfl rfl rfl rfl rfl hcap hcapm (.inr ⟨Nat.le_refl _, by simp⟩) ⟨arr, e, (0, 0), hnewb, by rw [hsz]; omega, fun i _ => by simp only [World.frozen?, hnewb]; simp⟩
      (fun i hi => by
        show (if w.heap.size = w.heap.size then (if i < (rows.length + rows2.length) * s then arr[i]? else none) else G.X w.heap.size i) = none
        rw [if_pos rfl, if_neg (by omega)]) hg.X (fun b' i u hu => by
        by_cases hbb : b' = w.heap.size
        · exact .inr hbb
        · left
          have : (G.sealed w.heap.size arr ((rows.length + rows2.length) * s)).X b' i = G.X b' i := if_neg hbb
          rw [← this]; exact hu) (fun b' i u hu => (hg.holds hh').X b' i u hu) rfl rfl rfl (by simp) (fun b' hlt _ => Below.heap_alloc _ _ _ hlt)
      hsd
    exact ⟨this.1, this.2.1, this.2.2, rfl⟩
theorem new_tok {G : Ghost} {w : World} {id s : Nat} {rows : List (List AV)} {vx : Value} (h : Holds G w []) (hid : ¬ G.live id) (hx : SimD G.X (.list rows .full) vx) :
  ∃ G', Holds G' w [(id, .tok s rows.length)] ∧ Step G w [] G' w [(id, .tok s rows.length)] ∧ SimD G'.X (.list rows .free) vx ∧ vx = (G'.tk id).val ∧ ∀ i, G'.live i → G.live i ∨ i = id := by
 obtain ⟨base, c, rfl, h1, h2, h3⟩ := hx.slice
 have hc := h3 rfl
 subst hc
 refine ⟨{ G with tk := fun i => if i = id then ⟨s, rows.length, .slice base rows.length rows.length, none⟩ else G.tk i, live := fun i => G.live i ∨ i = id }, ?_⟩
 generalize hG : ({ G with tk := fun i => if i = id then ⟨s, rows.length, .slice base rows.length rows.length, none⟩ else G.tk i, live := fun i => G.live i ∨ i = id } : Ghost) = G'
 have htk : G'.tk id = ⟨s, rows.length, .slice base rows.length rows.length, none⟩ := by rw [← hG]; simp
 have hlive : G'.live = fun i => G.live i ∨ i = id := by rw [← hG]
 have hXe : G'.X = G.X := by rw [← hG]
 have hloc : G'.loc = G.loc := by rw [← hG]
 have hlits : G'.lits = G.lits := by rw [← hG]
 have hbase : G'.base = G.base := by rw [← hG]
 have hbl : blocksOf G' [(id, .tok s rows.length)] = [] := by simp [blocksOf, Ghost.placed, htk]
 refine ⟨⟨by rw [hXe]; exact h.X, fun r hr => ?_, by simp, fun r hr => ?_, by rw [hbl]; simp, fun b hb => ?_⟩, ⟨rfl, rfl, rfl, Nat.le_refl _, hbase, by rw [hXe]; exact fun _ _ _ h => h, fun _ _ _ => ⟨.inl rfl, fun _ => rfl⟩, by rw [hXe]; exact fun _ _ _ h => .inl h,
  (fun b hb => by rw [hbl] at hb; cases hb), fun i hi => ?_, fun i hi => ?_, by rw [hlits]; exact fun _ h => h, by rw [hlits]; exact fun _ h => .inl h⟩, by rw [hXe]; exact hx.free, by rw [htk], by rw [hlive]; exact fun _ h => h⟩
 ·obtain rfl := List.mem_singleton.1 hr
  unfold ResHolds
  simp only [htk]
  exact ⟨trivial, trivial, base, rfl, h2⟩
 ·obtain rfl := List.mem_singleton.1 hr
  rw [hlive]; exact .inr rfl
 ·rw [hlits] at hb
  obtain ⟨q1, q2, _⟩ := h.lits b hb
  exact ⟨by rw [hbase]; exact q1, q2, by rw [hbl]; simp⟩
 ·have hne : i ≠ id := fun e => hid (e ▸ hi)
  refine ⟨by rw [hlive]; exact .inl hi, by rw [hloc], .inl ?_⟩
  rw [← hG]; simp [hne]
 ·have : i = id := by simpa using hi
  subst this; exact .inr hid
section
variable {P : Program} {L : Heap} {ev raw : Operand → AV} {o : Oper}
theorem append_run {t tx : TypeId} {x y : Operand} {c : Call} {ρ : Operand → Value} {w w' : World} {v : Value} (ho : o.op = .call c) (hc : c.callee = .builtin .append) (ha : c.args = #[x, y]) (hty : c.argTypes = #[t, tx])
  (h : (Builtin.append_ #[t, tx] o.type #[ρ x, ρ y]).run P w = .ok v w') : (execOp ρ o).run P w = .ok (.value v) w' := by
 simp only [execOp, ho, resolve, hc, ha, hty, invoke, builtin]
 have e1 : (Array.map ρ #[x, y]) = #[ρ x, ρ y] := by simp
 rw [e1, Sem.run_bind]
 simp only [Sem.run_pure, Result.andThen]
 rw [Sem.run_bind, h]
 rfl
structure Rows (P : Program) (t tx e : TypeId) (ti te : TI) (z : Value) (rows2 : List (List AV)) : Prop where
 ht : Nonempty (TIs P t ti)
 hk : ti.kind = .slice e
 htx : ∃ tj, Nonempty (TIs P tx tj) ∧ ∃ e', tj.kind = .slice e'
 he : Nonempty (TIs P e te)
 hz : te.zero = some z
 hok : zok te z = true
 rows : ∀ row ∈ rows2, row.length = te.size
theorem Rows.fits {t tx e : TypeId} {ti te : TI} {z : Value} {rows2 : List (List AV)} (h : Rows P t tx e ti te z rows2) : Fits P t tx e ti te te.size z := by
 obtain ⟨ht⟩ := h.ht
 obtain ⟨tj, ⟨hx⟩, e', hk⟩ := h.htx
 obtain ⟨he⟩ := h.he
 obtain ⟨z1, z2, z3⟩ := zok_spec h.hok
 exact ⟨ht.slice h.hk, ⟨e', hx.slice hk⟩, ⟨he.i, he.info, he.size, he.bytes, by rw [he.zero]; exact h.hz⟩, z3, z1⟩
theorem e_append_tok {t tx e : TypeId} {x y : Operand} {c : Call} {ti te : TI} {z : Value} {rows rows2 : List (List AV)} {own2 : Own} {k : Nat} (ho : o.op = .call c) (hc : c.callee = .builtin .append) (ha : c.args = #[x, y]) (hty : c.argTypes = #[t, tx])
  (hR : Rows P t tx e ti te z rows2) (hx : ev x = .list rows (.tok k)) (hf : findL L k = some (.tok te.size rows.length)) (hy : ev y = .list rows2 own2)
  (hb : (rows.length + rows2.length) * te.bytes ≤ 140737488355328) (hm : rows.length + rows2.length ≤ 4611686018427387904) :
  EOk P L ev raw o (.list (rows ++ rows2) (.tok k)) (setL L k (.tok te.size (rows.length + rows2.length))) fun _ => False := fun G w ρ hh _ => by
 have h1 := hh.ev x (by rw [ho]; simp [Op.operands, Call.operands, hc, ha])
 have h2 := hh.ev y (by rw [ho]; simp [Op.operands, Call.operands, hc, ha])
 rw [hx] at h1; rw [hy] at h2
 have hres := hh.holds.res _ (findL_mem hf)
 ·obtain ⟨hk, hsd, hle, hz, he⟩ := h1.tok_inv
  have hv := he hres.2.1.symm
  obtain ⟨L0, p1, p2⟩ := findL_perm hf
  have h3 : Holds G w ([(k, .tok te.size rows.length)] ++ L0) := hh.holds.perm p1
  obtain ⟨v, G', w', r1, r2, r3, r4, r5⟩ := append_tok (ty := o.type) hR.fits h3.left hsd hv h2.list_inv.1 (by rw [← hres.1]; exact hz) hR.rows hb hm
  obtain ⟨m1, m2⟩ := h3.beside r3 r4
  exact ⟨v, G', w', .inl (append_run ho hc ha hty r1), r2, m1.perm (p2 _).symm, m2.perm p1.symm (p2 _).symm, fun id hid => by rw [r5] at hid; exact .inl hid⟩
theorem e_append_full {t tx e : TypeId} {x y : Operand} {c : Call} {ti te : TI} {z : Value} {rows rows2 : List (List AV)} {own2 : Own} {id : Nat} (ho : o.op = .call c) (hc : c.callee = .builtin .append) (ha : c.args = #[x, y]) (hty : c.argTypes = #[t, tx])
  (hR : Rows P t tx e ti te z rows2) (hr : ∀ row ∈ rows, row.length = te.size) (hx : ev x = .list rows .full) (hy : ev y = .list rows2 own2)
  (hb : (rows.length + rows2.length) * te.bytes ≤ 140737488355328) (hm : rows.length + rows2.length ≤ 4611686018427387904) :
  EOk P L ev raw o (.list (rows ++ rows2) (.tok id)) ((id, .tok te.size (rows.length + rows2.length)) :: L) fun i => i = id := fun G w ρ hh hn => by
 have h1 := hh.ev x (by rw [ho]; simp [Op.operands, Call.operands, hc, ha])
 have h2 := hh.ev y (by rw [ho]; simp [Op.operands, Call.operands, hc, ha])
 rw [hx] at h1; rw [hy] at h2
 have h3 : Holds G w ([] ++ L) := hh.holds
 obtain ⟨G1, k1, k2, k3, k4, k5⟩ := new_tok (s := te.size) h3.left (hn id rfl) (h1.list_inv.2 rfl)
 obtain ⟨v, G', w', r1, r2, r3, r4, r5⟩ := append_tok (ty := o.type) hR.fits k1 k3 k4 ((h2.list_inv.1).mono k2.X) hr hR.rows hb hm
 obtain ⟨m1, m2⟩ := h3.beside r3 (k2.trans r4)
 exact ⟨v, G', w', .inl (append_run ho hc ha hty r1), r2, m1, m2, fun i hi => by rw [r5] at hi; exact k5 i hi⟩
end
/-! slices that may be written -/
structure SrcK (P : Program) (G : Ghost) (w : World) (s k m : Nat) (vy : Value) (cs : List AV) (news : List Value) : Prop where
 len : ∀ w' : World, (Builtin.lenOf vy).run P w' = .ok m w'
 cells : (Builtin.firstCells s k vy).run P w = .ok news.toArray w
 cellsD : (Builtin.firstCells s k vy).run P w.drew = .ok news.toArray w.drew
 newsLen : news.length = k * s
 csLen : cs.length = news.length
 sim : ∀ i a, cs[i]? = some a → Sim G a (news.getD i undef)
 one : ∀ u ∈ news, u.oneCell' = true
theorem SrcK.src {P : Program} {G : Ghost} {w : World} {s m : Nat} {vy : Value} {cs : List AV} {news : List Value} {tx e' : TypeId} (h : SrcK P G w s m m vy cs news) (hk : P.underlying tx = some (.slice e')) : Src P s tx vy m news w :=
 ⟨.inl ⟨e', hk⟩, h.len, h.cells, h.cellsD, h.newsLen, h.one⟩
theorem srck_slice {P : Program} {w : World} {G : Ghost} {s k m c : Nat} {base : Option Addr} {cs : List AV} {news : List Value} (hn : news.length = k * s) (hc : cs.length = news.length) (hs : ∀ i a, cs[i]? = some a → Sim G a (news.getD i undef)) (h1 : ∀ u ∈ news, u.oneCell' = true)
  (hb : news ≠ [] → ∃ a, base = some a ∧ ∀ j u, news[j]? = some u → w.cell? (a.add j) = some u) : SrcK P G w s k m (.slice base m c) cs news := by
 refine ⟨fun w' => rfl, ?_, ?_, hn, hc, hs, h1⟩
 all_goals
  by_cases h0 : news = []
  ·subst h0
   have hz : k * s = 0 := by simpa using hn.symm
   cases base with
   | none => exact run_firstCells_none _ s k m c
   | some a => exact run_firstCells_some _ s k a m c [] (by simpa using hn) (fun j v h => by simp at h)
  ·obtain ⟨a, rfl, ha⟩ := hb h0
   exact run_firstCells_some _ s k a m c news hn (fun j v h => by simpa using ha j v h)
theorem srck_list {P : Program} {G : Ghost} {w : World} {H : Heap} {s k : Nat} {rows : List (List AV)} {own : Own} {vy : Value} (hh : Holds G w H) (hy : Sim G (.list rows own) vy) (hr : ∀ row ∈ rows, row.length = s) (hk : k ≤ rows.length) :
  ∃ news, SrcK P G w s k rows.length vy (rows.flatten.take (k * s)) news := by
 have hd := hy.list_inv.1
 obtain ⟨news, n1, n2, n3, n4⟩ := rows_news hd hr
 obtain ⟨base, c, rfl, h1, h2, _⟩ := hd.slice
 have hks : k * s ≤ rows.length * s := Nat.mul_le_mul_right s hk
 have hfl := flatten_length hr
 refine ⟨news.take (k * s), srck_slice (by rw [List.length_take, n1]; omega) (by rw [List.length_take, List.length_take, n1, hfl]) (fun i a ha => ?_) (fun u hu => n3 u (List.mem_of_mem_take hu)) (fun hne => ?_)⟩
 ·rw [List.getElem?_take] at ha
  split at ha
  ·rename_i hi
   obtain ⟨y, y1, y2, _⟩ := n2 i a ha
   have : (news.take (k * s)).getD i undef = y := by
    rw [List.getD, List.getElem?_take, if_pos hi, y1]; rfl
   rw [this]; exact .data _ _ y2
  ·cases ha
 ·have h0 : rows ≠ [] := by
   rintro rfl
   have : news = [] := by simpa using n1
   subst this; simp at hne
  obtain ⟨b, off, c', e, hX⟩ := n4 h0
  simp only [Value.slice.injEq] at e
  obtain ⟨rfl, _, rfl⟩ := e
  refine ⟨_, rfl, fun j u hj => ?_⟩
  rw [List.getElem?_take] at hj
  split at hj
  ·rw [add_mk]; exact hh.X _ _ _ (hX j u hj)
  ·cases hj
theorem all_get {p : AV → Bool} {l : List AV} (h : l.all p = true) {i : Nat} {a : AV} (ha : l[i]? = some a) : p a = true := List.all_eq_true.1 h a (List.mem_of_getElem? ha)
theorem srck_arr {P : Program} {G : Ghost} {w : World} {H : Heap} {s k id off m c : Nat} {cells : List AV} {vy : Value} (hh : Holds G w H) (hy : Sim G (.arr id off m c) vy) (hf : findL H id = some (.box cells)) (hk : k ≤ m) (hle : off + k * s ≤ cells.length)
  (h1 : ((cells.drop off).take (k * s)).all AV.one = true) : ∃ news, SrcK P G w s k m vy ((cells.drop off).take (k * s)) news := by
 obtain ⟨base, rfl, hlive, hmc, hc, hb⟩ := hy.arr_inv
 obtain ⟨h0, arr, E, fr, hh', hsz, hfz, hcs⟩ := hh.res _ (findL_mem hf)
 have hget : ∀ i a, ((cells.drop off).take (k * s))[i]? = some a → Sim G a (arr.getD (off + i) undef) := fun i a ha => by
  rw [List.getElem?_take] at ha
  split at ha
  ·rw [List.getElem?_drop] at ha; exact hcs _ _ ha
  ·cases ha
 have hlen : ((cells.drop off).take (k * s)).length = k * s := by rw [List.length_take, List.length_drop]; omega
 refine ⟨(List.range (k * s)).map fun i => arr.getD (off + i) undef, srck_slice (by simp) (by rw [hlen]; simp) (fun i a ha => ?_) (fun u hu => ?_) (fun hne => ?_)⟩
 ·have hi := (List.getElem?_eq_some_iff.1 ha).1
  rw [hlen] at hi
  have : ((List.range (k * s)).map fun i => arr.getD (off + i) undef).getD i undef = arr.getD (off + i) undef := by
   rw [List.getD, List.getElem?_map, List.getElem?_range hi]; rfl
  rw [this]; exact hget i a ha
 ·obtain ⟨i, hi, rfl⟩ := List.mem_map.1 hu
  have hi' := List.mem_range.1 hi
  have ha : ((cells.drop off).take (k * s))[i]? = some (((cells.drop off).take (k * s))[i]'(by omega)) := List.getElem?_eq_getElem _
  exact (hget i _ ha).one (all_get h1 ha)
 ·have hks : 0 < k * s := by
   rcases Nat.eq_zero_or_pos (k * s) with h | h
   ·rw [h] at hne; simp at hne
   ·exact h
  have : k ≠ 0 := by rintro rfl; simp at hks
  obtain rfl := hb (by omega)
  refine ⟨_, rfl, fun j u hj => ?_⟩
  rw [List.getElem?_map] at hj
  have hj' : j < k * s := by
   rcases Nat.lt_or_ge j (k * s) with h | h
   ·exact h
   ·rw [List.getElem?_eq_none (by simpa using h)] at hj; cases hj
  rw [List.getElem?_range hj'] at hj
  simp only [Option.map_some, Option.some.injEq] at hj
  subst hj
  rw [add_mk]
  have hlt : off + j < arr.size := by omega
  simp [World.cell?, hh', hlt]
section
variable {P : Program} {L : Heap} {ev raw : Operand → AV} {o : Oper}
theorem put_arr {G : Ghost} {w : World} {id off n c : Nat} {base : Option Addr} {cells cs : List AV} {news : List Value} (hh : Holds G w L) (hf : findL L id = some (.box cells)) (hc : cs.length = news.length) (hs : ∀ i a, cs[i]? = some a → Sim G a (news.getD i undef)) (hle : off + news.length ≤ cells.length) :
  (∀ j, j < news.length → (w.cell? ⟨G.loc id, off + j, none⟩).isSome = true) ∧ (∀ j, j < news.length → w.frozen? ⟨G.loc id, off + j, none⟩ = false) ∧
  Holds G (w.setCells (G.loc id) off news) (setL L id (.box (putCells cells off cs))) ∧ Step G w L G (w.setCells (G.loc id) off news) (setL L id (.box (putCells cells off cs))) := by
 obtain ⟨h0, arr, E, fr, hh', hsz, hfz, hcs⟩ := hh.res _ (findL_mem hf)
 refine ⟨fun j hj => ?_, fun j hj => hfz _, within hh hf fun h => store_list h ⟨hc, hs⟩ (by omega)⟩
 have : off + j < arr.size := by omega
 simp [World.cell?, hh', this]
theorem e_append_in {t tx e : TypeId} {x y : Operand} {c : Call} {ti te : TI} {id off n m cp : Nat} {cells cs : List AV} (ho : o.op = .call c) (hc : c.callee = .builtin .append) (ha : c.args = #[x, y]) (hty : c.argTypes = #[t, tx])
  (ht : Nonempty (TIs P t ti)) (hk : ti.kind = .slice e) (htx : ∃ e', P.underlying tx = some (.slice e')) (he : Nonempty (TIs P e te)) (hx : ev x = .arr id off n cp) (hf : findL L id = some (.box cells)) (hroom : n + m ≤ cp) (hle : off + (n + m) * te.size ≤ cells.length)
  (hsrc : ∀ G w vy, Holds G w L → Sim G (ev y) vy → ∃ news, SrcK P G w te.size m m vy cs news) : EOk P L ev raw o (.arr id off (n + m) cp) (setL L id (.box (putCells cells (off + n * te.size) cs))) fun _ => False := fun G w ρ hh _ => by
 have h1 := hh.ev x (by rw [ho]; simp [Op.operands, Call.operands, hc, ha])
 have h2 := hh.ev y (by rw [ho]; simp [Op.operands, Call.operands, hc, ha])
 rw [hx] at h1
 obtain ⟨ht⟩ := ht
 obtain ⟨he⟩ := he
 obtain ⟨e', htx⟩ := htx
 obtain ⟨news, hS⟩ := hsrc G w _ hh.holds h2
 obtain ⟨base, hv, hlive, hnc, hcm, hb⟩ := h1.arr_inv
 rw [Nat.add_mul] at hle
 obtain ⟨p1, p2, p3, p4⟩ := put_arr (n := n) (c := cp) (base := base) hh.holds hf hS.csLen hS.sim (off := off + n * te.size) (by rw [hS.newsLen]; omega)
 have hsr := hS.src htx
 rw [← he.size] at hsr p1 p2 p3 p4 ⊢
 by_cases h0 : cp = 0
 ·have hm : m = 0 := by omega
  subst hm
  have hn : news = [] := by have := hS.newsLen; simpa using this
  subst hn
  refine ⟨_, G, w, .inl (append_run ho hc ha hty (by rw [hv]; exact run_append_nothing w t tx o.type e he.i (ht.slice hk) he.info base n cp hnc _ hsr)), ?_, by simpa [World.setCells] using p3, by simpa [World.setCells] using p4, fun i hi => .inl hi⟩
  rw [← hv]; exact h1
 ·obtain rfl := hb h0
  refine ⟨_, G, _, .inl (append_run ho hc ha hty (by rw [hv]; exact run_append_room_src (P := P) w t tx o.type e he.i (ht.slice hk) he.info (G.loc id) off n cp _ m news hsr hroom p1 p2)), ?_, p3, p4, fun i hi => .inl hi⟩
  exact .arr _ _ _ _ _ hlive hroom hcm fun _ => rfl
theorem e_append_new {t tx e : TypeId} {x y : Operand} {c : Call} {ti te : TI} {z : Value} {n m cp id : Nat} {olds cs : List AV} (ho : o.op = .call c) (hc : c.callee = .builtin .append) (ha : c.args = #[x, y]) (hty : c.argTypes = #[t, tx])
  (ht : Nonempty (TIs P t ti)) (hk : ti.kind = .slice e) (htx : ∃ e', P.underlying tx = some (.slice e')) (he : Nonempty (TIs P e te)) (hz : te.zero = some z) (hok : zok te z = true) (hroom : cp < n + m)
  (hb : (n + m) * te.bytes ≤ 140737488355328) (hm : n + m ≤ 4611686018427387904)
  (hold : ∀ G w vx, Holds G w L → Sim G (ev x) vx → (∃ base, vx = .slice base n cp) ∧ ∃ olds', SrcK P G w te.size n n vx olds olds')
  (hsrc : ∀ G w vy, Holds G w L → Sim G (ev y) vy → ∃ news, SrcK P G w te.size m m vy cs news) : ∀ G w ρ, Here P L ev raw o G w ρ → ¬ G.live id → ∃ v G' w' cp', n + m ≤ cp' ∧ cp' ≤ maxLen ∧
   (execOp ρ o).run P w = .ok (.value v) w' ∧ Sim G' (.arr id 0 (n + m) cp') v ∧ Holds G' w' ((id, .box (olds ++ cs ++ List.replicate ((cp' - (n + m)) * te.size) .dead)) :: L) ∧ Step G w L G' w' ((id, .box (olds ++ cs ++ List.replicate ((cp' - (n + m)) * te.size) .dead)) :: L) ∧ ∀ i, G'.live i → G.live i ∨ i = id := fun G w ρ hh hn => by
 have h1 := hh.ev x (by rw [ho]; simp [Op.operands, Call.operands, hc, ha])
 have h2 := hh.ev y (by rw [ho]; simp [Op.operands, Call.operands, hc, ha])
 obtain ⟨ht⟩ := ht
 obtain ⟨he⟩ := he
 obtain ⟨e', htx⟩ := htx
 obtain ⟨news, hS⟩ := hsrc G w _ hh.holds h2
 obtain ⟨⟨base, hv⟩, oldv, hO⟩ := hold G w _ hh.holds h1
 obtain ⟨z1, z2, z3⟩ := zok_spec hok
 have hfit : Builtin.nextslicecap (n + m) cp * he.i.bytes ≤ 281474976710656 := by
  have h1 := Nat.mul_le_mul_right he.i.bytes (Go.Room.nextslicecap_le' (show cp < n + m by omega))
  rw [he.bytes] at h1 ⊢
  rw [Nat.mul_assoc] at h1
  omega
 have hsr := hS.src htx
 have hcd := hO.cellsD
 rw [hv] at hcd
 rw [← he.size] at hsr hcd
 have hrun := run_append_grow_src (P := P) w t tx o.type e he.i z (ht.slice hk) he.info (by rw [he.zero]; exact hz) base n cp oldv hcd (ρ y) m news hsr hroom (by omega) hfit
 have hcap := grownCap_ge w (n + m) cp e
 have hcapm := grownCap_le_maxLen w (n + m) cp e (by unfold maxLen; omega)
 generalize hce : grownCap w (n + m) cp e = cap at hrun hcap hcapm
 generalize harr : (oldv ++ news).toArray ++ Builtin.zeroCells z.cells (cap - (n + m)) = arr at hrun
 have hol := hO.newsLen
 have hnl := hS.newsLen
 have hocs := hO.csLen
 have hncs := hS.csLen
 have hsz : (olds ++ cs ++ List.replicate ((cap - (n + m)) * te.size) AV.dead).length ≤ arr.size := by
  rw [← harr]
  simp only [List.length_append, List.length_replicate, Array.size_append, List.size_toArray, size_zeroCells, z1]
  omega
 have hget : ∀ (j : Nat) (u : Value), (oldv ++ news)[j]? = some u → arr.getD j undef = u := fun j u hj => by
  rw [← harr]
  have := (List.getElem?_eq_some_iff.1 hj).1
  rw [Array.getD_eq_getD_getElem?, Array.getElem?_append_left (by simpa using this)]
  simp [hj]
 have hsim : ∀ (i : Nat) (a : AV), (olds ++ cs ++ List.replicate ((cap - (n + m)) * te.size) AV.dead)[i]? = some a → Sim G a (arr.getD i undef) := fun i a ha => by
  rw [List.getElem?_append] at ha
  split at ha
  ·rename_i hi
   rw [List.length_append] at hi
   rw [List.getElem?_append] at ha
   split at ha
   ·rename_i hi2
    have h3 := hO.sim i a ha
    have h4 : oldv[i]? = some (oldv[i]'(by omega)) := List.getElem?_eq_getElem _
    rw [hget i _ (by rw [List.getElem?_append_left (by omega)]; exact h4)]
    rw [List.getD, h4] at h3; exact h3
   ·rename_i hi2
    have h3 := hS.sim _ a ha
    have h4 : news[i - olds.length]? = some (news[i - olds.length]'(by omega)) := List.getElem?_eq_getElem _
    rw [hget i _ (by rw [List.getElem?_append_right (by omega), ← hocs]; exact h4)]
    rw [List.getD, h4] at h3; exact h3
  ·rw [List.getElem?_replicate] at ha
   split at ha
   ·cases ha; exact .data _ _ (.dead _)
   ·cases ha
 obtain ⟨k1, k2⟩ := with_new (w := w) (r := (id, .box (olds ++ cs ++ List.replicate ((cap - (n + m)) * te.size) .dead))) (G' := G.boxed id w.heap.size) (w' := w.drew.alloc (.cells arr e)) hh.holds fun h => by
  have hd : Holds G w.drew [] := ⟨h.X, h.res, h.ids, h.live, h.blocks, h.lits⟩
  obtain ⟨q1, q2⟩ := new_box (id := id) e hd hn (l := olds ++ cs ++ List.replicate ((cap - (n + m)) * te.size) .dead) (arr := arr) ⟨hsz, hsim⟩
  exact ⟨q1, ⟨q2.os, q2.tape, q2.output, q2.size, q2.base, q2.X, q2.frame, q2.newX, q2.newB, q2.live, q2.newI, q2.lits, q2.newL⟩⟩
 refine ⟨_, _, _, cap, hcap, hcapm, append_run ho hc ha hty (by rw [hv]; exact hrun), ?_, k1, k2, fun i hi => hi⟩
 have hloc : (G.boxed id w.heap.size).loc id = w.heap.size := by simp [Ghost.boxed]
 exact Sim.arr (G := G.boxed id w.heap.size) id 0 (n + m) cap (some ⟨w.heap.size, 0, none⟩) (.inr rfl) hcap hcapm (fun _ => by rw [hloc])
theorem e_append_zeros {t tx e : TypeId} {x y : Operand} {c : Call} {ti te tj : TI} {z : Value} {kn kq : IntKind} {n m cp id : Nat} {olds : List AV} (ho : o.op = .call c) (hc : c.callee = .builtin .append) (ha : c.args = #[x, y]) (hty : c.argTypes = #[t, tx])
  (ht : Nonempty (TIs P t ti)) (hk : ti.kind = .slice e) (htx : Nonempty (TIs P tx tj)) (hkx : tj.kind = .int kn) (he : Nonempty (TIs P e te)) (hz : te.zero = some z) (hok : zok te z = true) (hroom : cp < n + m) (hm0 : 0 < m)
  (hb : (n + m) * te.bytes ≤ 140737488355328) (hm : n + m ≤ 4611686018427387904) (hy : ev y = .v (.int kq m))
  (hold : ∀ G w vx, Holds G w L → Sim G (ev x) vx → (∃ base, vx = .slice base n cp) ∧ ∃ olds', SrcK P G w te.size n n vx olds olds') : ∀ G w ρ, Here P L ev raw o G w ρ → ¬ G.live id → ∃ v G' w' cp', n + m ≤ cp' ∧ cp' ≤ maxLen ∧
   (execOp ρ o).run P w = .ok (.value v) w' ∧ Sim G' (.arr id 0 (n + m) cp') v ∧ Holds G' w' ((id, .box (olds ++ List.replicate ((cp' - n) * te.size) .dead)) :: L) ∧ Step G w L G' w' ((id, .box (olds ++ List.replicate ((cp' - n) * te.size) .dead)) :: L) ∧ ∀ i, G'.live i → G.live i ∨ i = id := fun G w ρ hh hn => by
 have h1 := hh.ev x (by rw [ho]; simp [Op.operands, Call.operands, hc, ha])
 have h2 := hh.ev y (by rw [ho]; simp [Op.operands, Call.operands, hc, ha])
 rw [hy] at h2
 have hyv := h2.v_inv
 obtain ⟨ht⟩ := ht
 obtain ⟨he⟩ := he
 obtain ⟨htx⟩ := htx
 obtain ⟨⟨base, hv⟩, oldv, hO⟩ := hold G w _ hh.holds h1
 obtain ⟨z1, z2, z3⟩ := zok_spec hok
 have hfit : Builtin.nextslicecap (n + m) cp * he.i.bytes ≤ 281474976710656 := by
  have h1 := Nat.mul_le_mul_right he.i.bytes (Go.Room.nextslicecap_le' (show cp < n + m by omega))
  rw [he.bytes] at h1 ⊢
  rw [Nat.mul_assoc] at h1
  omega
 have hmb : m * he.i.bytes ≤ 281474976710656 := by
  have := Nat.mul_le_mul_right te.bytes (show m ≤ n + m by omega)
  rw [he.bytes]; omega
 have hcd := hO.cellsD
 rw [hv] at hcd
 rw [← he.size] at hcd
 have hrun := Go.Lib.run_append_grow_zeros (P := P) w t tx o.type e he.i z kq kn (ht.slice hk) (htx.int hkx) he.info (by rw [he.zero]; exact hz) base n cp oldv hcd m hm0 (by rw [he.size]; exact z3) hroom (by omega) hmb hfit
 have hcap := grownCap_ge w (n + m) cp e
 have hcapm := grownCap_le_maxLen w (n + m) cp e (by unfold maxLen; omega)
 generalize hce : grownCap w (n + m) cp e = cap at hrun hcap hcapm
 generalize harr : oldv.toArray ++ Builtin.zeroCells z.cells m ++ Builtin.zeroCells z.cells (cap - (n + m)) = arr at hrun
 have hol := hO.newsLen
 have hocs := hO.csLen
 have hsz : (olds ++ List.replicate ((cap - n) * te.size) AV.dead).length ≤ arr.size := by
  rw [← harr]
  simp only [List.length_append, List.length_replicate, Array.size_append, List.size_toArray, size_zeroCells, z1]
  rw [Nat.add_assoc, ← Nat.add_mul, show m + (cap - (n + m)) = cap - n by omega]
  omega
 have hsim : ∀ (i : Nat) (a : AV), (olds ++ List.replicate ((cap - n) * te.size) AV.dead)[i]? = some a → Sim G a (arr.getD i undef) := fun i a ha => by
  rw [List.getElem?_append] at ha
  split at ha
  ·rename_i hi
   have h3 := hO.sim i a ha
   have h4 : oldv[i]? = some (oldv[i]'(by omega)) := List.getElem?_eq_getElem _
   have h5 : arr.getD i undef = oldv[i]'(by omega) := by
    rw [← harr, Array.append_assoc, Array.getD_eq_getD_getElem?, Array.getElem?_append_left (by simp; omega)]
    simp [h4]
   rw [h5]
   rw [List.getD, h4] at h3; exact h3
  ·rw [List.getElem?_replicate] at ha
   split at ha
   ·cases ha; exact .data _ _ (.dead _)
   ·cases ha
 obtain ⟨k1, k2⟩ := with_new (w := w) (r := (id, .box (olds ++ List.replicate ((cap - n) * te.size) .dead))) (G' := G.boxed id w.heap.size) (w' := w.drew.alloc (.cells arr e)) hh.holds fun h => by
  have hd : Holds G w.drew [] := ⟨h.X, h.res, h.ids, h.live, h.blocks, h.lits⟩
  obtain ⟨q1, q2⟩ := new_box (id := id) e hd hn (l := olds ++ List.replicate ((cap - n) * te.size) .dead) (arr := arr) ⟨hsz, hsim⟩
  exact ⟨q1, ⟨q2.os, q2.tape, q2.output, q2.size, q2.base, q2.X, q2.frame, q2.newX, q2.newB, q2.live, q2.newI, q2.lits, q2.newL⟩⟩
 refine ⟨_, _, _, cap, hcap, hcapm, append_run ho hc ha hty (by rw [hv, hyv]; exact hrun), ?_, k1, k2, fun i hi => hi⟩
 have hloc : (G.boxed id w.heap.size).loc id = w.heap.size := by simp [Ghost.boxed]
 exact Sim.arr (G := G.boxed id w.heap.size) id 0 (n + m) cap (some ⟨w.heap.size, 0, none⟩) (.inr rfl) hcap hcapm (fun _ => by rw [hloc])
theorem run_copy_src {w : World} {dT sT ty e : TypeId} {b o dLen dCap m s : Nat} {base : Option Addr} {vy : Value} {news : List Value} {te : TypeInfo} (hu : P.underlying dT = some (.slice e)) (hi : P.info? e = some te) (hs : te.size = s)
  (hl : (Builtin.lenOf vy).run P w = .ok m w) (hn : (Builtin.firstCells s (Nat.min m dLen) vy).run P w = .ok news.toArray w) (hb : news ≠ [] → base = some ⟨b, o, none⟩)
  (hc : ∀ j, j < news.length → (w.cell? ⟨b, o + j, none⟩).isSome = true) (hf : ∀ j, j < news.length → w.frozen? ⟨b, o + j, none⟩ = false) (h1 : ∀ v ∈ news, v.oneCell' = true) :
  (Builtin.copy_ #[dT, sT] ty #[.slice base dLen dCap, vy]).run P w = .ok (goInt (Nat.min m dLen)) (w.setCells b o news) := by
 subst hs
 by_cases h0 : news = []
 ·subst h0
  cases base with
  | none => simp [Builtin.copy_, run_underlying hu, hl, sizeOf, typeInfo, hi, hn, World.setCells]
  | some a => simp [Builtin.copy_, run_underlying hu, hl, sizeOf, typeInfo, hi, hn, World.setCells, storeCells]
 ·obtain rfl := hb h0
  have hst := run_storeCells_cells (P := P) b o news 0 w (by simpa using hc) (by simpa using hf) h1
  simp only [Nat.add_zero] at hst
  simp [Builtin.copy_, run_underlying hu, hl, sizeOf, typeInfo, hi, hn, hst]
theorem e_copy {dT sT e : TypeId} {x y : Operand} {c : Call} {ti te : TI} {id off n m cp : Nat} {cells cs : List AV} (ho : o.op = .call c) (hc : c.callee = .builtin .copy) (ha : c.args = #[x, y]) (hty : c.argTypes = #[dT, sT])
  (ht : Nonempty (TIs P dT ti)) (hk : ti.kind = .slice e) (he : Nonempty (TIs P e te)) (hx : ev x = .arr id off n cp) (hf : findL L id = some (.box cells)) (hle : off + Nat.min m n * te.size ≤ cells.length)
  (hsrc : ∀ G w vy, Holds G w L → Sim G (ev y) vy → ∃ news, SrcK P G w te.size (Nat.min m n) m vy cs news) : EOk P L ev raw o (.v (.int .i64 (Nat.min m n : Nat))) (setL L id (.box (putCells cells off cs))) fun _ => False := fun G w ρ hh _ => by
 have h1 := hh.ev x (by rw [ho]; simp [Op.operands, Call.operands, hc, ha])
 have h2 := hh.ev y (by rw [ho]; simp [Op.operands, Call.operands, hc, ha])
 rw [hx] at h1
 obtain ⟨ht⟩ := ht
 obtain ⟨he⟩ := he
 obtain ⟨news, hS⟩ := hsrc G w _ hh.holds h2
 obtain ⟨base, hv, hlive, hnc, hcm, hb⟩ := h1.arr_inv
 obtain ⟨p1, p2, p3, p4⟩ := put_arr (n := n) (c := cp) (base := base) hh.holds hf hS.csLen hS.sim (off := off) (by rw [hS.newsLen]; omega)
 have hrun := run_copy_src (P := P) (sT := sT) (ty := o.type) (dCap := cp) (ht.slice hk) he.info he.size (hS.len w) hS.cells (base := base) (b := G.loc id) (o := off) (fun hne => hb (by
  rintro rfl
  have : n = 0 := by omega
  subst this
  have h3 := hS.newsLen
  simp only [Nat.min_def] at h3
  have : news.length = 0 := by rw [h3]; split <;> simp_all
  exact hne (List.eq_nil_of_length_eq_zero this))) p1 p2 hS.one
 refine ⟨_, G, _, .inl ?_, .data _ _ (.v _), p3, p4, fun i hi => .inl hi⟩
 simp only [execOp, ho, resolve, hc, ha, hty, invoke, builtin, hv]
 have e1 : (Array.map ρ #[x, y]) = #[ρ x, ρ y] := by simp
 rw [e1, hv, Sem.run_bind]
 simp only [Sem.run_pure, Result.andThen]
 rw [Sem.run_bind, hrun]
 rfl
theorem run_clear_gen {w : World} {t ty e : TypeId} {b o n c s : Nat} {base : Option Addr} {te : TypeInfo} {z : Value} (hu : P.underlying t = some (.slice e)) (hi : P.info? e = some te) (hz : te.zero = some z) (hs : z.cells.size = s) (hb : n ≠ 0 → base = some ⟨b, o, none⟩)
  (hc : ∀ j, j < n * s → (w.cell? ⟨b, o + j, none⟩).isSome = true) (hf : ∀ j, j < n * s → w.frozen? ⟨b, o + j, none⟩ = false) (h1 : ∀ v ∈ z.cells.toList, v.oneCell' = true) (hs0 : 0 < s) :
  (Builtin.clear_ #[t] ty #[.slice base n c]).run P w = .ok (.tuple #[]) (w.setCells b o (Builtin.zeroCells z.cells n).toList) := by
 cases n with
 | zero =>
  have : (Builtin.zeroCells z.cells 0).toList = [] := by simp [Builtin.zeroCells]
  rw [this]
  cases base <;> simp [Builtin.clear_, run_underlying hu, World.setCells]
 | succ n =>
  obtain rfl := hb (by omega)
  have hlen : (Builtin.zeroCells z.cells (n + 1)).toList.length = (n + 1) * s := by rw [Array.length_toList, size_zeroCells, hs]
  have hst := run_storeCells_cells (P := P) b o (Builtin.zeroCells z.cells (n + 1)).toList 0 w (by rw [hlen]; simpa using hc) (by rw [hlen]; simpa using hf) (fun v hv => by
   rw [Builtin.zeroCells, Array.toList_map, List.mem_map] at hv
   obtain ⟨i, _, rfl⟩ := hv
   have hlt : i % z.cells.size < z.cells.size := Nat.mod_lt _ (by omega)
   rw [getElem!_pos z.cells _ hlt]
   exact h1 _ (Array.getElem_mem_toList hlt))
  simp only [Nat.add_zero] at hst
  simp [Builtin.clear_, run_underlying hu, zeroValue, typeInfo, hi, hz, hst]
theorem e_clear {t e : TypeId} {x : Operand} {c : Call} {ti te : TI} {z : Value} {id off n cp : Nat} {cells : List AV} (ho : o.op = .call c) (hc : c.callee = .builtin .clear) (ha : c.args = #[x]) (hty : c.argTypes = #[t])
  (ht : Nonempty (TIs P t ti)) (hk : ti.kind = .slice e) (he : Nonempty (TIs P e te)) (hz : te.zero = some z) (hok : zok te z = true) (hx : ev x = .arr id off n cp) (hf : findL L id = some (.box cells)) (hle : off + n * te.size ≤ cells.length) :
  EOk P L ev raw o (.tuple []) (setL L id (.box (putCells cells off (List.replicate (n * te.size) .dead)))) fun _ => False := fun G w ρ hh _ => by
 have h1 := hh.ev x (by rw [ho]; simp [Op.operands, Call.operands, hc, ha])
 rw [hx] at h1
 obtain ⟨ht⟩ := ht
 obtain ⟨he⟩ := he
 obtain ⟨z1, z2, z3⟩ := zok_spec hok
 obtain ⟨base, hv, hlive, hnc, hcm, hb⟩ := h1.arr_inv
 have hlen : (Builtin.zeroCells z.cells n).toList.length = n * te.size := by rw [Array.length_toList, size_zeroCells, z1]
 obtain ⟨p1, p2, p3, p4⟩ := put_arr (n := n) (c := cp) (base := base) (cs := List.replicate (n * te.size) .dead) (news := (Builtin.zeroCells z.cells n).toList) hh.holds hf (by rw [hlen]; simp) (fun i a ha => by
  rw [List.getElem?_replicate] at ha
  split at ha
  ·cases ha; exact .data _ _ (.dead _)
  ·cases ha) (off := off) (by rw [hlen]; omega)
 rw [hlen] at p1 p2
 have hrun := run_clear_gen (P := P) (ty := o.type) (c := cp) (base := base) (ht.slice hk) he.info (by rw [he.zero]; exact hz) z1 (fun h => hb (by omega)) p1 p2 z2 z3
 refine ⟨_, G, _, .inl ?_, .tuple [] #[] rfl (fun i a h => by simp at h), p3, p4, fun i hi => .inl hi⟩
 simp only [execOp, ho, resolve, hc, ha, hty, invoke, builtin, hv]
 have e1 : (Array.map ρ #[x]) = #[ρ x] := by simp
 rw [e1, hv, Sem.run_bind]
 simp only [Sem.run_pure, Result.andThen]
 rw [Sem.run_bind, hrun]
 rfl
end
theorem move_box {G : Ghost} {w : World} {id nid : Nat} {cells : List AV} {L0 : Heap} (h : Holds G w ((id, .box cells) :: L0)) (hn : ¬ G.live nid) :
  Holds (G.boxed nid (G.loc id)) w ((nid, .box cells) :: L0) ∧ Step G w ((id, .box cells) :: L0) (G.boxed nid (G.loc id)) w ((nid, .box cells) :: L0) ∧ ∀ a x, Sim G a x → Sim (G.boxed nid (G.loc id)) a x := by
 generalize hG : G.boxed nid (G.loc id) = G'
 have e1 : ∀ i, i ≠ nid → G'.loc i = G.loc i := fun i hi => by rw [← hG]; simp [Ghost.boxed, hi]
 have e2 : G'.loc nid = G.loc id := by rw [← hG]; simp [Ghost.boxed]
 have e3 : G'.tk = G.tk := by rw [← hG]; rfl
 have e4 : G'.live = fun i => G.live i ∨ i = nid := by rw [← hG]; rfl
 have e5 : G'.X = G.X := by rw [← hG]; rfl
 have e6 : G'.lits = G.lits := by rw [← hG]; rfl
 have e7 : G'.base = G.base := by rw [← hG]; rfl
 have hne : ∀ i, G.live i → i ≠ nid := fun i hi e => hn (e ▸ hi)
 have hlive : ∀ i, G.live i → G'.live i ∧ G'.loc i = G.loc i ∧ G'.tk i = G.tk i := fun i hi => ⟨by rw [e4]; exact .inl hi, e1 i (hne i hi), by rw [e3]⟩
 have hsim : ∀ a x, Sim G a x → Sim G' a x := fun a x hs => hs.mono (by rw [e5]; exact fun _ _ _ h => h) fun i hi => let ⟨a, b, c⟩ := hlive i hi; ⟨a, b, .inl c⟩
 have hids := h.ids
 simp only [List.map_cons, List.nodup_cons] at hids
 have hL0 : ∀ r ∈ L0, r.1 ≠ nid := fun r hr => hne _ (h.live r (List.mem_cons_of_mem _ hr))
 have hb0 : blocksOf G' L0 = blocksOf G L0 := filterMap_same fun r hr => placed_same (e1 _ (hL0 r hr)) (by rw [e3])
 have hb : blocksOf G' ((nid, .box cells) :: L0) = blocksOf G ((id, .box cells) :: L0) := by
  show G'.loc nid :: blocksOf G' L0 = G.loc id :: blocksOf G L0
  rw [e2, hb0]
 refine ⟨⟨by rw [e5]; exact h.X, fun r hr => ?_, ?_, fun r hr => ?_, by rw [hb]; exact h.blocks, fun b hb' => ?_⟩, ⟨rfl, rfl, rfl, Nat.le_refl _, e7, by rw [e5]; exact fun _ _ _ h => h, fun _ _ _ => ⟨.inl rfl, fun _ => rfl⟩, by rw [e5]; exact fun _ _ _ h => .inl h, fun b hb' => by rw [hb] at hb'; exact .inl hb', fun i hi => let ⟨a, b, c⟩ := hlive i hi; ⟨a, b, .inl c⟩, fun i hi => ?_, by rw [e6]; exact fun _ h => h, by rw [e6]; exact fun _ h => .inl h⟩, hsim⟩
 ·rcases List.mem_cons.1 hr with rfl | hr
  ·obtain ⟨h0, arr, E, fr, k1, k2, k3, k4⟩ := h.res (id, .box cells) (by simp)
   exact ⟨fun i => by rw [e2, e5]; exact h0 i, arr, E, fr, by rw [e2]; exact k1, k2, fun i => by rw [e2]; exact k3 i, fun i a ha => hsim _ _ (k4 i a ha)⟩
  ·exact (h.res r (List.mem_cons_of_mem _ hr)).keep (e1 _ (hL0 r hr)) (by rw [e3]) hsim fun b _ => ⟨rfl, by rw [e5]; exact fun _ _ h => h⟩
 ·simp only [List.map_cons, List.nodup_cons]
  refine ⟨fun hm => ?_, hids.2⟩
  obtain ⟨r, hr, e⟩ := List.mem_map.1 hm
  exact hL0 r hr e
 ·rw [e4]
  rcases List.mem_cons.1 hr with rfl | hr
  ·exact .inr rfl
  ·exact .inl (h.live r (List.mem_cons_of_mem _ hr))
 ·rw [e6] at hb'
  obtain ⟨q1, q2, q3⟩ := h.lits b hb'
  exact ⟨by rw [e7]; exact q1, q2, by rw [hb]; exact q3⟩
 ·simp only [List.map_cons, List.mem_cons] at hi ⊢
  rcases hi with rfl | hi
  ·exact .inr hn
  ·exact .inl (.inr hi)
theorem Holds.swap {G : Ghost} {w : World} {id : Nat} {r r' : Res} {L0 : Heap} (h : Holds G w ((id, r) :: L0)) (hp : G.placed (id, r') = G.placed (id, r)) (hr : ResHolds G w (id, r')) : Holds G w ((id, r') :: L0) where
 X := h.X
 res := fun q hq => by
  rcases List.mem_cons.1 hq with rfl | hq
  ·exact hr
  ·exact h.res q (List.mem_cons_of_mem _ hq)
 ids := h.ids
 live := fun q hq => by
  rcases List.mem_cons.1 hq with rfl | hq
  ·exact h.live (id, r) (by simp)
  ·exact h.live q (List.mem_cons_of_mem _ hq)
 blocks := by
  have := h.blocks
  unfold blocksOf at this ⊢
  rw [List.filterMap_cons] at this ⊢
  rw [hp]; exact this
 lits := fun b hb => by
  obtain ⟨q1, q2, q3⟩ := h.lits b hb
  refine ⟨q1, q2, ?_⟩
  unfold blocksOf at q3 ⊢
  rw [List.filterMap_cons] at q3 ⊢
  rw [hp]; exact q3
theorem Step.swap {G G' : Ghost} {w w' : World} {H L0 : Heap} {id : Nat} {r r' : Res} (h : Step G w H G' w' ((id, r) :: L0)) (hp : G'.placed (id, r') = G'.placed (id, r)) : Step G w H G' w' ((id, r') :: L0) where
 os := h.os
 tape := h.tape
 output := h.output
 size := h.size
 base := h.base
 X := h.X
 frame := h.frame
 newX := h.newX
 newB := fun b hb => h.newB b (by
  unfold blocksOf at hb ⊢
  rw [List.filterMap_cons] at hb ⊢
  rw [hp] at hb; exact hb)
 live := h.live
 newI := h.newI
 lits := h.lits
 newL := h.newL
theorem seq_placed {G : Ghost} {id : Nat} {rows : List (List AV)} {k : Nat} (hne : rows.length + k ≠ 0) : G.placed (id, .seq rows k) = some (G.loc id) := if_neg hne
theorem blocks_seq {G : Ghost} {id : Nat} {rows : List (List AV)} {k : Nat} {L0 : Heap} : ∀ b ∈ blocksOf G ((id, .seq rows k) :: L0), b ∈ blocksOf G ((id, .box (seqC rows k)) :: L0) := fun b hb => by
 unfold blocksOf at hb ⊢
 rw [List.filterMap_cons] at hb
 rw [List.filterMap_cons, show G.placed (id, .box (seqC rows k)) = some (G.loc id) from rfl]
 split at hb
 ·exact List.mem_cons_of_mem _ hb
 ·rename_i b' h
  have : b' = G.loc id := by
   simp only [Ghost.placed] at h
   split at h
   ·cases h
   ·simpa using h.symm
  subst this; exact hb
theorem Holds.unseq {G : Ghost} {w : World} {id k : Nat} {rows : List (List AV)} {L0 : Heap} (hne : rows.length + k ≠ 0) (h : Holds G w ((id, .seq rows k) :: L0)) : Holds G w ((id, .box (seqC rows k)) :: L0) ∧ ∀ a ∈ rows.flatten, a.pure = true :=
 let ⟨h1, h2⟩ := h.res (id, .seq rows k) (by simp) hne
 ⟨h.swap (seq_placed hne).symm h1, h2⟩
theorem Step.unseq {G G' : Ghost} {w w' : World} {H L0 : Heap} {id k : Nat} {rows : List (List AV)} (hne : rows.length + k ≠ 0) (h : Step G w H G' w' ((id, .seq rows k) :: L0)) : Step G w H G' w' ((id, .box (seqC rows k)) :: L0) := h.swap (seq_placed hne).symm
theorem Holds.toSeq {G : Ghost} {w : World} {id k : Nat} {rows : List (List AV)} {L0 : Heap} (h : Holds G w ((id, .box (seqC rows k)) :: L0)) (hp : ∀ a ∈ rows.flatten, a.pure = true) : Holds G w ((id, .seq rows k) :: L0) where
 X := h.X
 res := fun q hq => by
  rcases List.mem_cons.1 hq with rfl | hq
  ·exact fun _ => ⟨h.res (id, .box (seqC rows k)) (by simp), hp⟩
  ·exact h.res q (List.mem_cons_of_mem _ hq)
 ids := h.ids
 live := fun q hq => by
  rcases List.mem_cons.1 hq with rfl | hq
  ·exact h.live (id, .box (seqC rows k)) (by simp)
  ·exact h.live q (List.mem_cons_of_mem _ hq)
 blocks := by
  have h1 : blocksOf G ((id, .box (seqC rows k)) :: L0) = G.loc id :: blocksOf G L0 := rfl
  have h2 := h.blocks
  rw [h1] at h2
  by_cases hne : rows.length + k = 0
  ·have h3 : blocksOf G ((id, .seq rows k) :: L0) = blocksOf G L0 := by
    unfold blocksOf
    rw [List.filterMap_cons, show G.placed (id, .seq rows k) = none from if_pos hne]
   rw [h3]; exact (List.nodup_cons.1 h2).2
  ·have h3 : blocksOf G ((id, .seq rows k) :: L0) = G.loc id :: blocksOf G L0 := by
    unfold blocksOf
    rw [List.filterMap_cons, seq_placed hne]
   rw [h3]; exact h2
 lits := fun b hb => by
  obtain ⟨q1, q2, q3⟩ := h.lits b hb
  exact ⟨q1, q2, fun hm => q3 (blocks_seq b hm)⟩
theorem Step.toSeq {G G' : Ghost} {w w' : World} {H L0 : Heap} {id k : Nat} {rows : List (List AV)} (h : Step G w H G' w' ((id, .box (seqC rows k)) :: L0)) : Step G w H G' w' ((id, .seq rows k) :: L0) where
 os := h.os
 tape := h.tape
 output := h.output
 size := h.size
 base := h.base
 X := h.X
 frame := h.frame
 newX := h.newX
 newB := fun b hb => h.newB b (blocks_seq b hb)
 live := h.live
 newI := h.newI
 lits := h.lits
 newL := h.newL
theorem Step.forget {G G' : Ghost} {w w' : World} {H L : Heap} {r : Nat × Res} (h : Step G w H G' w' (r :: L)) : Step G w H G' w' L where
 os := h.os
 tape := h.tape
 output := h.output
 size := h.size
 base := h.base
 X := h.X
 frame := h.frame
 newX := h.newX
 newB := fun b hb => h.newB b (by
  unfold blocksOf at hb ⊢
  rw [List.filterMap_cons]
  split
  ·exact hb
  ·exact List.mem_cons_of_mem _ hb)
 live := h.live
 newI := fun i hi => h.newI i (List.mem_cons_of_mem _ hi)
 lits := h.lits
 newL := h.newL
theorem putCells_end {A cs : List AV} {k : Nat} (h : cs.length ≤ k) : putCells (A ++ List.replicate k .dead) A.length cs = A ++ cs ++ List.replicate (k - cs.length) .dead := by
 have hle : A.length + cs.length ≤ (A ++ List.replicate k AV.dead).length := by simp; omega
 apply List.ext_getElem?
 intro i
 have hp := fun a => put_get (a := a) (i := i) hle
 have hl := put_len hle
 by_cases hi : i < (A ++ List.replicate k AV.dead).length
 ·have h1 : (putCells (A ++ List.replicate k AV.dead) A.length cs)[i]? = some ((putCells (A ++ List.replicate k AV.dead) A.length cs)[i]'(by rw [hl]; exact hi)) := List.getElem?_eq_getElem _
  rw [h1]
  symm
  rcases hp _ h1 with ⟨p1, p2, p3⟩ | ⟨p1, p2⟩
  ·rw [List.append_assoc, List.getElem?_append_right (by omega), List.getElem?_append_left (by omega)]
   exact p3
  ·by_cases hi2 : i < A.length
   ·rw [List.append_assoc, List.getElem?_append_left hi2]
    rw [List.getElem?_append_left hi2] at p2
    exact p2
   ·rw [List.getElem?_append_right (by omega), List.getElem?_replicate] at p2
    rw [List.getElem?_append_right (by simp; omega), List.getElem?_replicate]
    simp only [List.length_append, List.length_replicate] at hi ⊢
    rw [if_pos (by omega)] at p2 ⊢
    exact p2
 ·have hi' := hi
  rw [List.length_append, List.length_replicate] at hi'
  rw [List.getElem?_eq_none (by rw [hl]; omega), List.getElem?_eq_none (by simp; omega)]
theorem pure_app {r1 r2 : List (List AV)} (h1 : ∀ a ∈ r1.flatten, a.pure = true) (h2 : ∀ a ∈ r2.flatten, a.pure = true) : ∀ a ∈ (r1 ++ r2).flatten, a.pure = true := fun a ha => by
 rw [List.flatten_append] at ha
 rcases List.mem_append.1 ha with h | h
 ·exact h1 a h
 ·exact h2 a h
section
variable {P : Program} {L : Heap} {ev raw : Operand → AV} {o : Oper}
theorem e_append_seq {t tx e : TypeId} {x y : Operand} {c : Call} {ti te : TI} {z : Value} {id nn cp m k nid : Nat} {rows rows2 : List (List AV)} {L0 : Heap} (ho : o.op = .call c) (hc : c.callee = .builtin .append) (ha : c.args = #[x, y]) (hty : c.argTypes = #[t, tx])
  (ht : Nonempty (TIs P t ti)) (hk : ti.kind = .slice e) (htx : ∃ e', P.underlying tx = some (.slice e')) (he : Nonempty (TIs P e te)) (hz : te.zero = some z) (hok : zok te z = true)
  (hx : ev x = .arr id 0 nn cp) (hp : L.Perm ((id, .seq rows k) :: L0)) (hr : ∀ row ∈ rows, row.length = te.size) (hn : rows.length = nn) (hkk : k = (cp - nn) * te.size) (hone : rows.flatten.all AV.one = true)
  (hm2 : rows2.length = m) (hr2 : ∀ row ∈ rows2, row.length = te.size) (hpure2 : ∀ a ∈ rows2.flatten, a.pure = true)
  (hb : (nn + m) * te.bytes ≤ 140737488355328) (hm : nn + m ≤ 4611686018427387904) (hpos : 0 < nn + m)
  (hsrc : ∀ G w vy, Holds G w L → Sim G (ev y) vy → ∃ news, SrcK P G w te.size m m vy rows2.flatten news) : ∀ G w ρ, Here P L ev raw o G w ρ → ¬ G.live nid → ∃ v G' w' cp', nn + m ≤ cp' ∧ cp' ≤ maxLen ∧
   (execOp ρ o).run P w = .ok (.value v) w' ∧ Sim G' (.arr nid 0 (nn + m) cp') v ∧ Holds G' w' ((nid, .seq (rows ++ rows2) ((cp' - (nn + m)) * te.size)) :: L0) ∧ Step G w L G' w' ((nid, .seq (rows ++ rows2) ((cp' - (nn + m)) * te.size)) :: L0) ∧ ∀ i, G'.live i → G.live i ∨ i = nid := fun G w ρ hh hnl => by
 have h1 := hh.ev x (by rw [ho]; simp [Op.operands, Call.operands, hc, ha])
 rw [hx] at h1
 have hH := hh.holds.perm hp
 obtain ⟨_, _, zs0⟩ := zok_spec hok
 have hpure : ∀ a ∈ rows.flatten, a.pure = true := by
  by_cases hne : rows.length + k = 0
  ·have : rows = [] := List.eq_nil_of_length_eq_zero (by omega)
   subst this
   intro a ha; simp at ha
  ·exact (hH.unseq hne).2
 have hfl := flatten_length hr
 have hfl2 := flatten_length hr2
 by_cases hroom : nn + m ≤ cp
 ·have hne : rows.length + k ≠ 0 := fun e => by
   have h3 : nn = 0 := by omega
   have h4 : k = 0 := by omega
   subst h3
   rw [hkk] at h4
   rcases Nat.mul_eq_zero.1 h4 with h5 | h5 <;> omega
  have hHb := (hH.unseq hne).1
  have h2 := hh.ev y (by rw [ho]; simp [Op.operands, Call.operands, hc, ha])
  obtain ⟨ht⟩ := ht
  obtain ⟨he⟩ := he
  obtain ⟨e', htx⟩ := htx
  obtain ⟨news, hS⟩ := hsrc G w _ hh.holds h2
  obtain ⟨base, hv, hlive, hnc, hcm, hbs⟩ := h1.arr_inv
  have hmk : m * te.size ≤ k := by rw [hkk]; exact Nat.mul_le_mul_right _ (by omega)
  have hf : findL ((id, Res.box (seqC rows k)) :: L0) id = some (.box (seqC rows k)) := by simp [findL]
  obtain ⟨p1, p2, p3, p4⟩ := put_arr (n := nn) (c := cp) (base := base) hHb hf hS.csLen hS.sim (off := nn * te.size) (by rw [hS.newsLen]; unfold seqC; simp; rw [← List.length_flatten, hfl, hn]; omega)
  have hset : setL ((id, Res.box (seqC rows k)) :: L0) id (.box (putCells (seqC rows k) (nn * te.size) rows2.flatten)) = (id, .box (seqC (rows ++ rows2) ((cp - (nn + m)) * te.size))) :: L0 := by
   simp only [setL, if_true]
   congr 3
   unfold seqC
   rw [← hn, ← hfl, putCells_end (by rw [hfl2, hm2]; exact hmk), List.flatten_append, hfl2, hm2, hkk, hn, ← Nat.mul_sub_right_distrib, show cp - nn - m = cp - (nn + m) by omega]
  rw [hset] at p3 p4
  obtain ⟨q1, q2, q3⟩ := move_box p3 hnl
  have hsr := hS.src htx
  rw [← he.size] at hsr
  have hrun : (Builtin.append_ #[t, tx] o.type #[ρ x, ρ y]).run P w = .ok (.slice base (nn + m) cp) (w.setCells (G.loc id) (nn * te.size) news) := by
   rw [hv]
   by_cases h0 : cp = 0
   ·have hm0 : m = 0 := by omega
    subst hm0
    have hnw : news = [] := by have := hS.newsLen; simpa using this
    subst hnw
    exact run_append_nothing w t tx o.type e he.i (ht.slice hk) he.info base nn cp hnc _ hsr
   ·obtain rfl := hbs h0
    have := run_append_room_src (P := P) w t tx o.type e he.i (ht.slice hk) he.info (G.loc id) 0 nn cp _ m news hsr hroom (by rw [he.size, Nat.zero_add]; exact p1) (by rw [he.size, Nat.zero_add]; exact p2)
    rw [he.size, Nat.zero_add] at this
    exact this
  refine ⟨_, _, _, cp, hroom, hcm, append_run ho hc ha hty hrun, ?_, q1.toSeq (pure_app hpure hpure2), ((((Step.refl G w L).perm (.refl _) hp).unseq hne).trans (p4.trans q2)).toSeq, fun i hi => hi⟩
  exact Sim.arr (G := G.boxed nid (G.loc id)) nid 0 (nn + m) cp base (.inr rfl) hroom hcm fun h0 => by
   rw [hbs h0]; simp [Ghost.boxed]
 ·obtain ⟨v, G', w', cp', c1, c2, r1, r2, r3, r4, r5⟩ := e_append_new (id := nid) (olds := rows.flatten) (cs := rows2.flatten) (cp := cp) (n := nn) (m := m) ho hc ha hty ht hk htx he hz hok (by omega) hb hm (fun G w vx hH' hx' => by
   rw [hx] at hx'
   have hH := hH'.perm hp
   obtain ⟨base, hv, _⟩ := hx'.arr_inv
   refine ⟨⟨base, hv⟩, ?_⟩
   by_cases hne : rows.length + k = 0
   ·have h3 : rows = [] := List.eq_nil_of_length_eq_zero (by omega)
    subst h3
    simp only [List.length_nil] at hn
    subst hn
    rw [hv]
    exact ⟨[], srck_slice (by simp) rfl (fun i a h => by simp at h) (fun u h => by cases h) (fun h => absurd rfl h)⟩
   have hHb := (hH.unseq hne).1
   have hcut : ((seqC rows k).drop 0).take (nn * te.size) = rows.flatten := by
    unfold seqC
    rw [List.drop_zero, ← hn, ← hfl, List.take_left]
   have := srck_arr (P := P) (s := te.size) (k := nn) hHb hx' (show findL ((id, Res.box (seqC rows k)) :: L0) id = some (.box (seqC rows k)) by simp [findL]) (Nat.le_refl _) (by unfold seqC; simp; rw [← List.length_flatten, hfl, hn]; omega) (by rw [hcut]; exact hone)
   rw [hcut] at this
   exact this) hsrc G w ρ hh hnl
  have hp2 : ((nid, Res.box (rows.flatten ++ rows2.flatten ++ List.replicate ((cp' - (nn + m)) * te.size) .dead)) :: L).Perm ((id, .seq rows k) :: (nid, Res.box (seqC (rows ++ rows2) ((cp' - (nn + m)) * te.size))) :: L0) := by
   unfold seqC
   rw [List.flatten_append]
   exact (hp.cons _).trans (.swap _ _ _)
  have hq : Holds G' w' ((nid, .box (seqC (rows ++ rows2) ((cp' - (nn + m)) * te.size))) :: L0) := Holds.left (R := [(id, Res.seq rows k)]) ((r3.perm hp2).perm (List.perm_append_comm (l₁ := [(id, Res.seq rows k)])))
  have hs : Step G w L G' w' ((nid, .box (seqC (rows ++ rows2) ((cp' - (nn + m)) * te.size))) :: L0) := (r4.perm (.refl _) hp2).forget
  exact ⟨v, G', w', cp', c1, c2, r1, r2, hq.toSeq (pure_app hpure hpure2), hs.toSeq, r5⟩
theorem new_void {G : Ghost} {w : World} {n : Nat} (hl : Holds G w []) (hn : ¬ G.live n) : Holds (G.boxed n 0) w [(n, .seq [] 0)] ∧ Step G w [] (G.boxed n 0) w [(n, .seq [] 0)] := by
 have hlive : ∀ i, G.live i → (G.boxed n 0).live i ∧ (G.boxed n 0).loc i = G.loc i ∧ (G.boxed n 0).tk i = G.tk i := fun i hi => ⟨.inl hi, by
  have : i ≠ n := fun e => hn (e ▸ hi)
  simp [Ghost.boxed, this], rfl⟩
 have hb : blocksOf (G.boxed n 0) [(n, .seq [] 0)] = [] := rfl
 refine ⟨⟨hl.X, fun r hr => ?_, by simp, fun r hr => ?_, by rw [hb]; simp, fun b hb' => ?_⟩, ⟨rfl, rfl, rfl, Nat.le_refl _, rfl, fun _ _ _ h => h, fun _ _ _ => ⟨.inl rfl, fun _ => rfl⟩, fun _ _ _ h => .inl h, fun b hb' => (by rw [hb] at hb'; cases hb'), fun i hi => let ⟨a, b, c⟩ := hlive i hi; ⟨a, b, .inl c⟩, fun i hi => ?_, fun _ h => h, fun _ h => .inl h⟩⟩
 ·obtain rfl := List.mem_singleton.1 hr
  exact fun h => absurd rfl h
 ·obtain rfl := List.mem_singleton.1 hr
  exact .inr rfl
 ·obtain ⟨q1, q2, q3⟩ := hl.lits b hb'
  exact ⟨q1, q2, by rw [hb]; simp⟩
 ·have : i = n := by simpa using hi
  subst this; exact .inr hn
theorem e_append_seq0 {t tx e : TypeId} {x y : Operand} {c : Call} {ti te : TI} {z : Value} {m nid : Nat} {rows2 : List (List AV)} (ho : o.op = .call c) (hc : c.callee = .builtin .append) (ha : c.args = #[x, y]) (hty : c.argTypes = #[t, tx])
  (ht : Nonempty (TIs P t ti)) (hk : ti.kind = .slice e) (htx : ∃ e', P.underlying tx = some (.slice e')) (he : Nonempty (TIs P e te)) (hz : te.zero = some z) (hok : zok te z = true) (hm2 : rows2.length = m)
  (hx : ev x = .list [] .full ∨ ∃ id off, ev x = .arr id off 0 0) (hpure2 : ∀ a ∈ rows2.flatten, a.pure = true)
  (hb : m * te.bytes ≤ 140737488355328) (hm : m ≤ 4611686018427387904)
  (hsrc : ∀ G w vy, Holds G w L → Sim G (ev y) vy → ∃ news, SrcK P G w te.size m m vy rows2.flatten news) : ∀ G w ρ, Here P L ev raw o G w ρ → ¬ G.live nid → ∃ v G' w' cp', m ≤ cp' ∧ cp' ≤ maxLen ∧
   (execOp ρ o).run P w = .ok (.value v) w' ∧ Sim G' (.arr nid 0 m cp') v ∧ Holds G' w' ((nid, .seq rows2 ((cp' - m) * te.size)) :: L) ∧ Step G w L G' w' ((nid, .seq rows2 ((cp' - m) * te.size)) :: L) ∧ ∀ i, G'.live i → G.live i ∨ i = nid := fun G w ρ hh hnl => by
 by_cases h0 : m = 0
 ·subst h0
  obtain rfl : rows2 = [] := List.eq_nil_of_length_eq_zero hm2
  have h1 := hh.ev x (by rw [ho]; simp [Op.operands, Call.operands, hc, ha])
  have h2 := hh.ev y (by rw [ho]; simp [Op.operands, Call.operands, hc, ha])
  obtain ⟨ht⟩ := ht
  obtain ⟨he⟩ := he
  obtain ⟨e', htx⟩ := htx
  obtain ⟨news, hS⟩ := hsrc G w _ hh.holds h2
  have hsr := hS.src htx
  rw [← he.size] at hsr
  have hnw : news = [] := by have := hS.newsLen; simpa using this
  subst hnw
  obtain ⟨base, hv⟩ : ∃ base, ρ x = .slice base 0 0 := by
   rcases hx with hx | ⟨id, off, hx⟩
   ·rw [hx] at h1
    obtain ⟨base, c, hb, _, _, hc⟩ := (h1.list_inv.2 rfl).slice
    have := hc rfl
    simp only [List.length_nil] at this hb
    subst this
    exact ⟨base, hb⟩
   ·rw [hx] at h1
    obtain ⟨base, hb, _⟩ := h1.arr_inv
    exact ⟨base, hb⟩
  have hrun : (Builtin.append_ #[t, tx] o.type #[ρ x, ρ y]).run P w = .ok (.slice base 0 0) w := by
   rw [hv]
   exact run_append_nothing w t tx o.type e he.i (ht.slice hk) he.info base 0 0 (Nat.le_refl _) _ hsr
  have hd : Holds G w ([] ++ L) := hh.holds
  obtain ⟨k1, k2⟩ := new_void hd.left hnl
  obtain ⟨m1, m2⟩ := hd.beside k1 k2
  refine ⟨_, G.boxed nid 0, w, 0, Nat.le_refl _, by decide, append_run ho hc ha hty hrun, ?_, ?_, ?_, fun i hi => hi⟩
  ·exact .arr nid 0 0 0 base (.inr rfl) (Nat.le_refl _) (by decide) fun h => absurd rfl h
  ·rw [Nat.zero_mul]; exact m1
  ·rw [Nat.zero_mul]; exact m2
 obtain ⟨v, G', w', cp', c1, c2, r1, r2, r3, r4, r5⟩ := e_append_new (id := nid) (olds := []) (cs := rows2.flatten) (cp := 0) (n := 0) (m := m) ho hc ha hty ht hk htx he hz hok (by omega) (by rw [Nat.zero_add]; exact hb) (by rw [Nat.zero_add]; exact hm) (fun G w vx hH' hx' => by
  rcases hx with hx | ⟨id, off, hx⟩
  ·rw [hx] at hx'
   obtain ⟨base, c, rfl, _, _, hc⟩ := (hx'.list_inv.2 rfl).slice
   have := hc rfl
   simp only [List.length_nil] at this ⊢
   subst this
   exact ⟨⟨base, rfl⟩, [], srck_slice (by simp) rfl (fun i a h => by simp at h) (fun u h => by cases h) (fun h => absurd rfl h)⟩
  ·rw [hx] at hx'
   obtain ⟨base, rfl, _⟩ := hx'.arr_inv
   exact ⟨⟨base, rfl⟩, [], srck_slice (by simp) rfl (fun i a h => by simp at h) (fun u h => by cases h) (fun h => absurd rfl h)⟩) hsrc G w ρ hh hnl
 rw [Nat.zero_add, List.nil_append] at *
 exact ⟨v, G', w', cp', c1, c2, r1, r2, Holds.toSeq (rows := rows2) (k := (cp' - m) * te.size) r3 hpure2, Step.toSeq (rows := rows2) (k := (cp' - m) * te.size) r4, r5⟩
theorem e_store_seq {t : TypeId} {x y : Operand} {ti : TI} {id off k : Nat} {l : List AV} {rows rows' : List (List AV)} {L0 : Heap} (ho : o.op = .store t x y) (ht : TIs P t ti) (hx : ev x = .ptr id off) (hp : L.Perm ((id, .seq rows k) :: L0)) (hl : acells (ev y) = some l) (hone : l.all AV.one = true)
  (hs : l.length = ti.size) (hl0 : 0 < l.length) (hle : off + l.length ≤ (seqC rows k).length) (hput : putCells (seqC rows k) off l = seqC rows' k) (hpure : ∀ a ∈ rows'.flatten, a.pure = true) : EOk P L ev raw o .dead ((id, .seq rows' k) :: L0) fun _ => False := fun G w ρ hh hn => by
 have hH := hh.holds.perm hp
 have hne : rows.length + k ≠ 0 := fun e => by
  have h3 : rows = [] := List.eq_nil_of_length_eq_zero (by omega)
  have h4 : k = 0 := by omega
  subst h3; subst h4
  have : (seqC [] 0).length = 0 := rfl
  omega
 have hHb := (hH.unseq hne).1
 have hf : findL ((id, Res.box (seqC rows k)) :: L0) id = some (.box (seqC rows k)) := by simp [findL]
 obtain ⟨v, G', w', r1, r2, r3, r4, r5⟩ := e_store (L := (id, Res.box (seqC rows k)) :: L0) ho ht hx hf hl hone hs hle G w ρ ⟨hh.ev, hh.raw, hHb, hh.base⟩ hn
 have hset : setL ((id, Res.box (seqC rows k)) :: L0) id (.box (putCells (seqC rows k) off l)) = (id, .box (seqC rows' k)) :: L0 := by
  simp only [setL, if_true, hput]
 rw [hset] at r3 r4
 refine ⟨v, G', w', r1, r2, r3.toSeq hpure, ?_, r5⟩
 exact ((((Step.refl G w L).perm (.refl _) hp).unseq hne).trans r4).toSeq
theorem EOk.onSeq {id k k' : Nat} {rows rows' : List (List AV)} {L0 : Heap} {av : AV} {cells' : List AV} (hp : L.Perm ((id, .seq rows k) :: L0)) (hne : rows.length + k ≠ 0) (hput : cells' = seqC rows' k') (hpure : ∀ a ∈ rows'.flatten, a.pure = true)
  (h : (∀ a ∈ rows.flatten, a.pure = true) → EOk P ((id, .box (seqC rows k)) :: L0) ev raw o av ((id, .box cells') :: L0) fun _ => False) : EOk P L ev raw o av ((id, .seq rows' k') :: L0) fun _ => False := fun G w ρ hh hn => by
 subst hput
 have hH := hh.holds.perm hp
 obtain ⟨v, G', w', r1, r2, r3, r4, r5⟩ := h (hH.unseq hne).2 G w ρ ⟨hh.ev, hh.raw, (hH.unseq hne).1, hh.base⟩ hn
 exact ⟨v, G', w', r1, r2, r3.toSeq hpure, ((((Step.refl G w L).perm (.refl _) hp).unseq hne).trans r4).toSeq, r5⟩
theorem setL_here (id : Nat) (r r' : Res) (L0 : Heap) : setL ((id, r) :: L0) id r' = (id, r') :: L0 := by simp [setL]
end
end Go.Am
namespace Go.Am
open Go.RowKit
/-! names of objects, renamed -/
def Own.ren (f : Nat → Nat) : Own → Own
 | .tok k => .tok (f k)
 | o => o
mutual
def AV.ren (f : Nat → Nat) : AV → AV
 | .v x => .v x
 | .list rows o => .list rows (o.ren f)
 | .agg l => .agg (AV.renL f l)
 | .tuple l => .tuple (AV.renL f l)
 | .ptr id off => .ptr (f id) off
 | .arr id off n c => .arr (f id) off n c
 | .cref l => .cref l
 | .fn g l => .fn g (AV.renL f l)
 | .bnd g l => .bnd g (AV.renL f l)
 | .iface t x => .iface t (AV.ren f x)
 | .dead => .dead
def AV.renL (f : Nat → Nat) : List AV → List AV
 | [] => []
 | a :: l => AV.ren f a :: AV.renL f l
end
theorem renL_eq (f : Nat → Nat) : ∀ l, AV.renL f l = l.map (AV.ren f)
 | [] => by rw [AV.renL]; rfl
 | a :: l => by rw [AV.renL, renL_eq f l]; rfl
def Res.ren (f : Nat → Nat) : Res → Res
 | .box l => .box (AV.renL f l)
 | .tok s n => .tok s n
 | .seq rows k => .seq rows k
theorem AV.pure_ren {a : AV} (h : a.pure = true) (f : Nat → Nat) : a.ren f = a := by
 cases a with
 | list rows o => cases o <;> first | rfl | (rw [AV.ren]; rfl) | (simp [AV.pure] at h)
 | v x => rw [AV.ren]
 | dead => rw [AV.ren]
 | cref l => rw [AV.ren]
 | _ => simp [AV.pure] at h
theorem seqC_pure {rows : List (List AV)} {k : Nat} (h : ∀ a ∈ rows.flatten, a.pure = true) {i : Nat} {a : AV} (ha : (seqC rows k)[i]? = some a) (f : Nat → Nat) : a.ren f = a := by
 unfold seqC at ha
 rcases List.mem_append.1 (List.mem_of_getElem? ha) with h1 | h1
 ·exact AV.pure_ren (h a h1) f
 ·rw [List.eq_of_mem_replicate h1, AV.ren]
def renH (f : Nat → Nat) : Heap → Heap
 | [] => []
 | (i, r) :: H => (f i, r.ren f) :: renH f H
theorem renH_eq (f : Nat → Nat) (H : Heap) : renH f H = H.map fun p => (f p.1, p.2.ren f) := by
 induction H with
 | nil => rfl
 | cons p H ih => obtain ⟨i, r⟩ := p; simp [renH, ih]
def Ghost.look (G : Ghost) (f : Nat → Nat) (k base : Nat) : Ghost :=
  { X := G.X, loc := fun i => G.loc (f i), tk := fun i => G.tk (f i), live := fun i => G.live (f i) ∧ i < k, lits := fun _ => False, base := base }
theorem Sim.look {G : Ghost} {f : Nat → Nat} {k base : Nat} {a : AV} {x : Value} (h : Sim G (a.ren f) x) (hk : ∀ i, G.live (f i) → i < k) : Sim (G.look f k base) a x := by
 generalize hb : a.ren f = b at h
 induction h generalizing a with
 | data b x h =>
  subst hb
  cases a with
  | v y => exact .data _ _ (by rw [AV.ren] at h; exact h)
  | list rows o =>
   rw [AV.ren] at h
   cases o with
   | tok j =>
    exfalso
    cases h with
    | nil _ _ _ _ _ hs => rcases hs with h | h <;> cases h
    | list _ _ _ _ _ _ _ _ _ _ hs _ _ _ _ => rcases hs with h | h <;> cases h
   | free => exact .data _ _ h
   | full => exact .data _ _ h
   | lit => exact .data _ _ h
  | agg l => rw [AV.ren] at h; cases h
  | tuple l => rw [AV.ren] at h; cases h
  | ptr i j => rw [AV.ren] at h; cases h
  | arr i j k l => rw [AV.ren] at h; cases h
  | cref l => exact .data _ _ (by rw [AV.ren] at h; exact h)
  | fn g l => rw [AV.ren] at h; cases h
  | bnd g l => rw [AV.ren] at h; cases h
  | iface t y => rw [AV.ren] at h; cases h
  | dead => exact .data _ _ (.dead _)
 | tok rows j x hj h hl hz he =>
  cases a <;> rw [AV.ren] at hb <;> try (cases hb; done)
  rename_i rows' o
  cases o <;> simp only [Own.ren] at hb <;> cases hb
  exact .tok _ _ _ ⟨hj, hk _ hj⟩ h hl hz he
 | ptr i j hi =>
  cases a <;> rw [AV.ren] at hb <;> cases hb
  exact .ptr _ _ ⟨hi, hk _ hi⟩
 | arr i off n c base hi hn hc hbs =>
  cases a <;> rw [AV.ren] at hb <;> cases hb
  exact .arr _ _ _ c base ⟨hi, hk _ hi⟩ hn hc hbs
 | fn g cap vs hl h ih =>
  cases a <;> rw [AV.ren] at hb <;> cases hb
  rename_i l
  rw [renL_eq] at hl ih
  refine .fn _ _ _ (by simpa using hl) fun i a ha => ih i (a.ren f) (by simp [ha]) rfl
 | bnd g cap vs hl h ih =>
  cases a <;> rw [AV.ren] at hb <;> cases hb
  rename_i l
  rw [renL_eq] at hl ih
  refine .bnd _ _ _ (by simpa using hl) fun i a ha => ih i (a.ren f) (by simp [ha]) rfl
 | agg cap vs hl h ih =>
  cases a <;> rw [AV.ren] at hb <;> cases hb
  rename_i l
  rw [renL_eq] at hl ih
  refine .agg _ _ (by simpa using hl) fun i a ha => ih i (a.ren f) (by simp [ha]) rfl
 | tuple cap vs hl h ih =>
  cases a <;> rw [AV.ren] at hb <;> cases hb
  rename_i l
  rw [renL_eq] at hl ih
  refine .tuple _ _ (by simpa using hl) fun i a ha => ih i (a.ren f) (by simp [ha]) rfl
 | iface t b x h ih =>
  cases a <;> rw [AV.ren] at hb <;> cases hb
  exact .iface _ _ _ (ih rfl)
theorem Sim.back {G0 G : Ghost} {f : Nat → Nat} {a : AV} {x : Value} (h : Sim G0 a x) (hX : G.X = G0.X) (hl : ∀ i, G0.live i → G.live (f i) ∧ G.loc (f i) = G0.loc i ∧ G.tk (f i) = G0.tk i) : Sim G (a.ren f) x := by
 induction h with
 | data a x h =>
  rw [← hX] at h
  cases h with
  | v x => exact .data _ _ (by rw [AV.ren]; exact .v x)
  | dead x => exact .data _ _ (by rw [AV.ren]; exact .dead x)
  | nil o a c hc ho hs => rw [AV.ren]; rcases hs with rfl | rfl <;> exact .data _ _ (.nil _ a c hc ho (by simp [Own.ren]))
  | list rows o b off c s y h1 h2 h3 h4 h5 h6 h7 h8 => rw [AV.ren]; rcases h4 with rfl | rfl <;> exact .data _ _ (.list rows _ b off c s y h1 h2 h3 (by simp [Own.ren]) h5 h6 h7 h8)
  | cref l b off y h1 h2 h3 => rw [AV.ren]; exact .data _ _ (.cref l b off y h1 h2 h3)
 | tok rows k x hk h hle hz he =>
  obtain ⟨k1, k2, k3⟩ := hl k hk
  rw [AV.ren]
  exact .tok rows (f k) x k1 (by rw [hX]; exact h) (by rw [k3]; exact hle) (by rw [k3]; exact hz) (by rw [k3]; exact he)
 | ptr id off hk =>
  obtain ⟨k1, k2, k3⟩ := hl id hk
  rw [AV.ren, ← k2]; exact .ptr _ _ k1
 | arr id off n c base hk hn hc hb =>
  obtain ⟨k1, k2, k3⟩ := hl id hk
  rw [AV.ren]; exact .arr _ _ _ c base k1 hn hc (by rw [k2]; exact hb)
 | fn g cap vs hl' h ih =>
  rw [AV.ren, renL_eq]
  exact .fn _ _ _ (by simpa using hl') fun i a ha => by
   rw [List.getElem?_map, Option.map_eq_some_iff] at ha
   obtain ⟨b, hb, rfl⟩ := ha
   exact ih i b hb
 | bnd g cap vs hl' h ih =>
  rw [AV.ren, renL_eq]
  exact .bnd _ _ _ (by simpa using hl') fun i a ha => by
   rw [List.getElem?_map, Option.map_eq_some_iff] at ha
   obtain ⟨b, hb, rfl⟩ := ha
   exact ih i b hb
 | agg cap vs hl' h ih =>
  rw [AV.ren, renL_eq]
  exact .agg _ _ (by simpa using hl') fun i a ha => by
   rw [List.getElem?_map, Option.map_eq_some_iff] at ha
   obtain ⟨b, hb, rfl⟩ := ha
   exact ih i b hb
 | tuple cap vs hl' h ih =>
  rw [AV.ren, renL_eq]
  exact .tuple _ _ (by simpa using hl') fun i a ha => by
   rw [List.getElem?_map, Option.map_eq_some_iff] at ha
   obtain ⟨b, hb, rfl⟩ := ha
   exact ih i b hb
 | iface t a x h ih => rw [AV.ren]; exact .iface _ _ _ ih
inductive AOut where
 | ret (a : AV)
 | panic (a : AV)
def AOut.ren (f : Nat → Nat) : AOut → AOut
 | .ret a => .ret (a.ren f)
 | .panic a => .panic (a.ren f)
def OSim (G : Ghost) : AOut → Ending → Prop
 | .ret a, .returned v => Sim G a v
 | .panic a, .panicked chain => ∃ v, chain = [{ v, recovered := false }] ∧ Sim G a v
 | _, _ => False
def Upon (P : Program) (f : FuncId) (args : Array Value) (w : World) (R : Ending → World → Prop) : Prop :=
 ((callFunc f args).run P w = .ok (.enter f args) w ∧ Calls P f args w R) ∨ ∃ v w', (callFunc f args).run P w = .ok (.value v) w' ∧ R (.returned v) w'
def ACalls (P : Program) (f : FuncId) (k top : Nat) (args : List AV) (H : Heap) (R : AOut → Heap → Prop) : Prop :=
 ∀ (G : Ghost) (w : World) (vals : Array Value), (∀ id, G.live id → id < k) → (∀ b, ¬ G.lits b) → G.base = w.heap.size → Holds G w H → args.length = vals.size → (∀ i a, args[i]? = some a → Sim G a (vals.getD i undef)) →
  Upon P f vals w fun e w' => ∃ G' out H', R out H' ∧ OSim G' out e ∧ Holds G' w' H' ∧ Step G w H G' w' H' ∧ ∀ id, G'.live id → G.live id ∨ (k ≤ id ∧ id < top)
theorem ACalls.mono {P : Program} {f : FuncId} {k top : Nat} {args : List AV} {H : Heap} {R R' : AOut → Heap → Prop} (h : ACalls P f k top args H R) (hr : ∀ o H', R o H' → R' o H') : ACalls P f k top args H R' := by
 intro G w vals h1 h2 h3 h4 h5 h6
 rcases h G w vals h1 h2 h3 h4 h5 h6 with ⟨k1, k2⟩ | ⟨v, w', k1, G', out, H', k2, k3⟩
 ·exact .inl ⟨k1, k2.mono fun e w' ⟨G', out, H', k3, k4⟩ => ⟨G', out, H', hr _ _ k3, k4⟩⟩
 ·exact .inr ⟨v, w', k1, G', out, H', hr _ _ k2, k3⟩
def rn (ids : List Nat) (next : Nat) (j : Nat) : Nat := match ids[j]? with | some i => i | none => next + (j - ids.length)
theorem nodup_get {l : List Nat} (h : l.Nodup) : ∀ {i j x : Nat}, l[i]? = some x → l[j]? = some x → i = j := by
 induction l with
 | nil => intro i j x h1; simp at h1
 | cons a l ih =>
  intro i j x h1 h2
  obtain ⟨n1, n2⟩ := List.nodup_cons.1 h
  cases i with
  | zero =>
   cases j with
   | zero => rfl
   | succ j => simp at h1 h2; subst h1; exact absurd (List.mem_of_getElem? h2) n1
  | succ i =>
   cases j with
   | zero => simp at h1 h2; subst h2; exact absurd (List.mem_of_getElem? h1) n1
   | succ j => simp at h1 h2; rw [ih n2 h1 h2]
theorem rn_inj {ids : List Nat} {next : Nat} (hn : ids.Nodup) (hl : ∀ i ∈ ids, i < next) {a b : Nat} (h : rn ids next a = rn ids next b) : a = b := by
 unfold rn at h
 cases ha : ids[a]? with
 | some i =>
  cases hb : ids[b]? with
  | some j =>
   rw [ha, hb] at h
   simp only at h
   subst h
   exact nodup_get hn ha hb
  | none =>
   rw [ha, hb] at h
   simp only at h
   have := hl i (List.mem_of_getElem? ha)
   omega
 | none =>
  cases hb : ids[b]? with
  | some j =>
   rw [ha, hb] at h
   simp only at h
   have := hl j (List.mem_of_getElem? hb)
   omega
  | none =>
   rw [ha, hb] at h
   simp only at h
   have h1 := List.getElem?_eq_none_iff.1 ha
   have h2 := List.getElem?_eq_none_iff.1 hb
   omega
open Classical in
noncomputable def Ghost.after (G G0 : Ghost) (f : Nat → Nat) : Ghost :=
  { X := G0.X, loc := fun i => if h : ∃ j, f j = i ∧ G0.live j then G0.loc h.choose else G.loc i, tk := fun i => if h : ∃ j, f j = i ∧ G0.live j then G0.tk h.choose else G.tk i,
    live := fun i => G.live i ∨ ∃ j, f j = i ∧ G0.live j, lits := G.lits, base := G.base }
theorem Ghost.after_at {G G0 : Ghost} {f : Nat → Nat} (hf : ∀ a b, f a = f b → a = b) {j : Nat} (hj : G0.live j) : (G.after G0 f).live (f j) ∧ (G.after G0 f).loc (f j) = G0.loc j ∧ (G.after G0 f).tk (f j) = G0.tk j := by
 have hex : ∃ i, f i = f j ∧ G0.live i := ⟨j, rfl, hj⟩
 have hc : hex.choose = j := hf _ _ hex.choose_spec.1
 refine ⟨.inr hex, ?_, ?_⟩
 ·unfold Ghost.after
  simp only
  rw [dif_pos hex, hc]
 ·unfold Ghost.after
  simp only
  rw [dif_pos hex, hc]
theorem Ghost.after_out {G G0 : Ghost} {f : Nat → Nat} {i : Nat} (h : ¬ ∃ j, f j = i ∧ G0.live j) : (G.after G0 f).loc i = G.loc i ∧ (G.after G0 f).tk i = G.tk i :=
 ⟨dif_neg h, dif_neg h⟩
theorem placed_ren {G G' : Ghost} {f : Nat → Nat} {r : Nat × Res} (hl : G.loc (f r.1) = G'.loc r.1) (ht : G.tk (f r.1) = G'.tk r.1) : G.placed (f r.1, r.2.ren f) = G'.placed r := by
 obtain ⟨i, r⟩ := r
 cases r <;> simp_all [Ghost.placed, Res.ren]
theorem blocks_ren {G G' : Ghost} {f : Nat → Nat} : ∀ {H : Heap}, (∀ r ∈ H, G.loc (f r.1) = G'.loc r.1 ∧ G.tk (f r.1) = G'.tk r.1) → blocksOf G (renH f H) = blocksOf G' H
 | [], _ => rfl
 | (i, r) :: H, h => by
  have h1 := h (i, r) (by simp)
  have h2 := placed_ren (r := (i, r)) h1.1 h1.2
  have h3 := blocks_ren (H := H) fun x hx => h x (List.mem_cons_of_mem _ hx)
  unfold blocksOf at h3 ⊢
  simp only [renH, List.filterMap_cons, h2, h3]
theorem ids_ren (f : Nat → Nat) (H : Heap) : (renH f H).map (·.1) = (H.map (·.1)).map f := by rw [renH_eq]; simp
theorem nodup_map_inj {f : Nat → Nat} (hf : ∀ a b, f a = f b → a = b) : ∀ {l : List Nat}, (l.map f).Nodup ↔ l.Nodup
 | [] => by simp
 | a :: l => by
  simp only [List.map_cons, List.nodup_cons, nodup_map_inj hf (l := l), List.mem_map]
  constructor
  ·rintro ⟨h1, h2⟩; exact ⟨fun hm => h1 ⟨a, hm, rfl⟩, h2⟩
  ·rintro ⟨h1, h2⟩; exact ⟨fun ⟨b, hb, he⟩ => h1 (hf _ _ he ▸ hb), h2⟩
theorem Holds.look {G : Ghost} {w : World} {f : Nat → Nat} {k : Nat} {H : Heap} (hf : ∀ a b, f a = f b → a = b) (hk : ∀ i, G.live (f i) → i < k) (h : Holds G w (renH f H)) : Holds (G.look f k w.heap.size) w H where
 X := h.X
 res := fun r hr => by
  obtain ⟨i, r⟩ := r
  have hm : (f i, r.ren f) ∈ renH f H := by rw [renH_eq]; exact List.mem_map.2 ⟨(i, r), hr, rfl⟩
  have h1 := h.res _ hm
  cases r with
  | box cells =>
   obtain ⟨k0, arr, E, fr, k1, k2, k3, k4⟩ := h1
   rw [renL_eq] at k2 k4
   exact ⟨k0, arr, E, fr, k1, by simpa using k2, k3, fun i a ha => (k4 i (a.ren f) (by simp [ha])).look hk⟩
  | seq rows k =>
   intro hne
   obtain ⟨⟨k0, arr, E, fr, k1, k2, k3, k4⟩, hp⟩ := h1 hne
   exact ⟨⟨k0, arr, E, fr, k1, k2, k3, fun i a ha => Sim.look (by rw [seqC_pure hp ha f]; exact k4 i a ha) hk⟩, hp⟩
  | tok s n => exact h1
 ids := (nodup_map_inj hf).1 (by rw [← ids_ren]; exact h.ids)
 live := fun r hr => by
  have hm : (f r.1, r.2.ren f) ∈ renH f H := by rw [renH_eq]; exact List.mem_map.2 ⟨r, hr, rfl⟩
  have := h.live _ hm
  exact ⟨this, hk _ this⟩
 blocks := by
  have := h.blocks
  rwa [blocks_ren (G' := G.look f k w.heap.size) (fun r _ => ⟨rfl, rfl⟩)] at this
 lits := fun _ h => h.elim
theorem Holds.back {G G0 G0' : Ghost} {w w' : World} {f : Nat → Nat} {k : Nat} {H H' : Heap} (hf : ∀ a b, f a = f b → a = b) (hk : ∀ i, G.live (f i) → i < k) (h : Holds G w (renH f H)) (hG0 : G0 = G.look f k w.heap.size)
  (h' : Holds G0' w' H') (st : Step G0 w H G0' w' H') :
  Holds (G.after G0' f) w' (renH f H') ∧ Step G w (renH f H) (G.after G0' f) w' (renH f H') := by
 subst hG0
 have hat : ∀ r ∈ H', (G.after G0' f).loc (f r.1) = G0'.loc r.1 ∧ (G.after G0' f).tk (f r.1) = G0'.tk r.1 := fun r hr => (Ghost.after_at hf (h'.live r hr)).2
 have hb' : blocksOf (G.after G0' f) (renH f H') = blocksOf G0' H' := blocks_ren hat
 have hb : blocksOf G (renH f H) = blocksOf (G.look f k w.heap.size) H := blocks_ren fun r _ => ⟨rfl, rfl⟩
 have hsim : ∀ a x, Sim G0' a x → Sim (G.after G0' f) (a.ren f) x := fun a x hs => hs.back rfl fun i hi => Ghost.after_at hf hi
 have hfr : ∀ b, b < w.heap.size → b ∉ blocksOf G (renH f H) → w'.heap[b]? = w.heap[b]? := fun b h1 h2 => (st.frame b h1 (by rw [← hb]; exact h2)).2 (fun h => h)
 refine ⟨⟨h'.X, fun r hr => ?_, by rw [ids_ren]; exact (nodup_map_inj hf).2 h'.ids, fun r hr => ?_, by rw [hb']; exact h'.blocks, fun b hbl => ?_⟩,
  ⟨st.os, st.tape, st.output, st.size, rfl, st.X, fun b h1 h2 => ⟨.inl (hfr b h1 h2), fun _ => hfr b h1 h2⟩, fun b i v hx => by rw [hb]; exact st.newX b i v hx, fun b hbb => by rw [hb'] at hbb; rw [hb]; exact st.newB b hbb, fun i hi => ?_, fun i hi => ?_, fun _ h => h, fun _ h => .inl h⟩⟩
 ·rw [renH_eq] at hr
  obtain ⟨⟨i, r⟩, hr0, rfl⟩ := List.mem_map.1 hr
  have h1 := h'.res _ hr0
  obtain ⟨e1, e2⟩ := hat _ hr0
  cases r with
  | box cells =>
   obtain ⟨k0, arr, E, fr, k1, k2, k3, k4⟩ := h1
   simp only at e1 e2
   refine ⟨fun j => by rw [e1]; exact k0 j, arr, E, fr, by rw [e1]; exact k1, by rw [renL_eq]; simpa using k2, fun j => by rw [e1]; exact k3 j, fun j a ha => ?_⟩
   rw [renL_eq, List.getElem?_map, Option.map_eq_some_iff] at ha
   obtain ⟨b, hb, rfl⟩ := ha
   exact hsim _ _ (k4 j b hb)
  | seq rows k =>
   intro hne
   obtain ⟨⟨k0, arr, E, fr, k1, k2, k3, k4⟩, hp⟩ := h1 hne
   simp only at e1 e2
   refine ⟨⟨fun j => by rw [e1]; exact k0 j, arr, E, fr, by rw [e1]; exact k1, k2, fun j => by rw [e1]; exact k3 j, fun j a ha => ?_⟩, hp⟩
   have := hsim _ _ (k4 j a ha)
   rwa [seqC_pure hp ha f] at this
  | tok s n =>
   simp only at e1 e2
   unfold ResHolds at h1 ⊢
   simp only [Res.ren, e2]
   exact h1
 ·rw [renH_eq] at hr
  obtain ⟨r0, hr0, rfl⟩ := List.mem_map.1 hr
  exact (Ghost.after_at hf (h'.live r0 hr0)).1
 ·obtain ⟨q1, q2, q3⟩ := h.lits b hbl
  refine ⟨q1, Nat.lt_of_lt_of_le q2 st.size, ?_⟩
  rw [hb']
  intro hm
  rcases st.newB b hm with hm | hm
  ·rw [← hb] at hm; exact q3 hm
  ·omega
 ·by_cases hex : ∃ j, f j = i ∧ G0'.live j
  ·obtain ⟨j, rfl, hj⟩ := hex
   obtain ⟨a1, a2, a3⟩ := Ghost.after_at (G := G) hf hj
   have hj0 : (G.look f k w.heap.size).live j := ⟨hi, hk _ hi⟩
   obtain ⟨b1, b2, b3⟩ := st.live j hj0
   refine ⟨a1, a2.trans b2, ?_⟩
   rw [a3]
   rcases b3 with b3 | ⟨b3, b4⟩
   ·exact .inl b3
   ·refine .inr ⟨?_, b4⟩
    rw [ids_ren]; exact List.mem_map_of_mem b3
  ·obtain ⟨a1, a2⟩ := Ghost.after_out (G := G) hex
   exact ⟨.inl hi, a1, .inl a2⟩
 ·rw [ids_ren] at hi ⊢
  obtain ⟨j, hj, rfl⟩ := List.mem_map.1 hi
  rcases st.newI j hj with h1 | h1
  ·exact .inl (List.mem_map_of_mem h1)
  ·refine .inr fun hl => h1 ⟨hl, hk _ hl⟩
end Go.Am
namespace Go.Am
open Go.RowKit
structure ASt where
 slots : List AV
 L : Heap
 next : Nat
inductive AExit where
 | normal
 | ret
 | exit (id : Nat)
 | panic (x : AV)
def ESim (G : Ghost) : AExit → Exit → Prop
 | .normal, .normal => True
 | .ret, .ret => True
 | .exit i, .exit j => i = j
 | .panic a, .panic chain => ∃ v, chain = [{ v, recovered := false }] ∧ Sim G a v
 | _, _ => False
def getA : List AV → Nat → AV
 | [], _ => .dead
 | a :: _, 0 => a
 | _ :: l, n + 1 => getA l n
theorem getA_eq (l : List AV) (n : Nat) : getA l n = l.getD n .dead := by
 induction l generalizing n with
 | nil => rfl
 | cons a l ih => cases n <;> simp [getA, ih]
def setA : List AV → Nat → AV → List AV
 | [], _, _ => []
 | _ :: l, 0, x => x :: l
 | a :: l, n + 1, x => a :: setA l n x
theorem setA_eq (l : List AV) (n : Nat) (x : AV) : setA l n x = l.set n x := by
 induction l generalizing n with
 | nil => rfl
 | cons a l ih => cases n <;> simp [setA, ih]
def raw (s : List AV) : Operand → AV
 | .tmp t => getA s t
 | .const v => .ofValue v
 | .func f => .fn f []
 | .global _ => .dead
def ev (s : List AV) : Operand → AV
 | .tmp t => (getA s t).down
 | .const v => .ofValue v
 | .func f => .fn f []
 | .global _ => .dead
structure Base where
 G : Ghost
 w : World
 H : Heap
 k : Nat
 D : List Deferred := []
structure Rel (B : Base) (U : Nat → Prop) (G : Ghost) (σ : ASt) (a : Act) (w : World) : Prop where
 size : a.tmps.size = σ.slots.length
 slots : ∀ t, ¬ U t → Slot G (getA σ.slots t) (a.tmps.getD t undef)
 defers : a.defers = B.D
 holds : Holds G w σ.L
 step : Step B.G B.w B.H G w σ.L
 next : ∀ id, G.live id → id < σ.next
 base : G.base ≤ w.heap.size
 low : B.k ≤ σ.next
 old : ∀ id, G.live id → B.G.live id ∨ B.k ≤ id
theorem Rel.op {B : Base} {U : Nat → Prop} {G : Ghost} {σ : ASt} {a : Act} {w : World} (h : Rel B U G σ a w) {x : Operand} (hx : ∀ t, x = .tmp t → ¬ U t) : Sim G (ev σ.slots x) (a.eval x) ∧ Slot G (raw σ.slots x) (a.eval x) := by
 cases x with
 | tmp t => exact ⟨(h.slots t (hx t rfl)).down, h.slots t (hx t rfl)⟩
 | const v => exact ⟨.ofValue G v, .of (.ofValue G v)⟩
 | func f =>
  have : Sim G (.fn f []) (.func (.func f) #[] #[]) := .fn f [] #[] rfl fun i a h => by simp at h
  exact ⟨this, .of this⟩
 | global g => exact ⟨.data _ _ (.dead _), .of (.data _ _ (.dead _))⟩
theorem Rel.here {B : Base} {U : Nat → Prop} {G : Ghost} {σ : ASt} {a : Act} {w : World} {P : Program} {o : Oper} (h : Rel B U G σ a w) (hx : ∀ t, .tmp t ∈ o.op.operands → ¬ U t) : Here P σ.L (ev σ.slots) (raw σ.slots) o G w a.eval :=
 ⟨fun x hm => (h.op fun t e => hx t (e ▸ hm)).1, fun x hm => (h.op fun t e => hx t (e ▸ hm)).2, h.holds, h.base⟩
def LeA (a b : AV) : Prop := ∀ G x, Sim G a x → Sim G b x
inductive LeL : List AV → List AV → Prop
 | nil : LeL [] []
 | cons {a b : AV} {s t : List AV} (h : LeA a b) (hs : LeL s t) : LeL (a :: s) (b :: t)
theorem LeL.refl : ∀ s, LeL s s
 | [] => .nil
 | a :: s => .cons (fun _ _ h => h) (LeL.refl s)
theorem LeL.of_eq {s t : List AV} (h : s = t) : LeL s t := by subst h; exact .refl _
theorem LeL.len {s t : List AV} (h : LeL s t) : s.length = t.length := by
 induction h with
 | nil => rfl
 | cons _ _ ih => simp [ih]
theorem LeL.get {s t : List AV} (h : LeL s t) : ∀ (i : Nat) (b : AV), t[i]? = some b → ∃ a, s[i]? = some a ∧ LeA a b := by
 induction h with
 | nil => intro i b hb; simp at hb
 | @cons a b s t h1 _ ih =>
  intro i c hc
  cases i with
  | zero => simp at hc; subst hc; exact ⟨a, rfl, h1⟩
  | succ i => exact ih i c hc
theorem LeA.refl (a : AV) : LeA a a := fun _ _ h => h
theorem LeA.free (rows : List (List AV)) (o : Own) : LeA (.list rows o) (.list rows .free) := fun G x h => by
 cases h with
 | data _ _ h => exact .data _ _ h.free
 | tok _ k _ _ h => exact .data _ _ h
theorem LeA.dead (a : AV) : LeA a .dead := fun _ _ _ => .data _ _ (.dead _)
def acall (P : Program) (f : FuncId) (args : List AV) (L : Heap) (next : Nat) (K KP : AV → Heap → Nat → Prop) : Prop :=
 ∃ (k top : Nat) (args0 : List AV) (H0 : Heap) (R : AOut → Heap → Prop) (ids : List Nat) (rest : Heap), ACalls P f k top args0 H0 R ∧
  (ids.length = k ∧ ids.Nodup ∧ (∀ i ∈ ids, i < next) ∧ k ≤ top ∧ LeL args (AV.renL (rn ids next) args0) ∧ L.Perm (renH (rn ids next) H0 ++ rest)) ∧
  ∀ out H', R out H' → match out with
   | .ret x => K (x.ren (rn ids next)) (renH (rn ids next) H' ++ rest) (next + (top - k))
   | .panic x => KP (x.ren (rn ids next)) (renH (rn ids next) H' ++ rest) (next + (top - k))
def isNilS : Value → Bool | .slice none 0 0 => true | _ => false
inductive OK where
 | quiet | store | box | alloc | append | call | panic | nilq | mem
def opKind (o : Oper) : OK :=
 match o.op with
 | .store _ _ _ => .store
 | .box _ _ => .box
 | .alloc _ => .alloc
 | .panic _ => .panic
 | .call c => match c.callee with
  | .builtin .append => .append
  | .builtin .copy => .mem
  | .builtin .clear => .mem
  | .builtin .panic => .panic
  | .builtin _ => .quiet
  | .value _ => .call
  | .invoke _ _ => .quiet
 | .binOp _ _ _ y _ => match y with
  | .const v => match isNilS v with | true => .nilq | false => .quiet
  | _ => .quiet
 | _ => .quiet
def astore (TT : Types) (s : List AV) (L : Heap) (t : TypeId) (x y : Operand) (K : Heap → Prop) : Prop :=
 opt1 (TT t) fun ti => match ev s x with
  | .ptr id off => match findL L id with
   | some (.box cells) => opt1 (acells (ev s y)) fun l => if l.all AV.one && (Nat.beq l.length ti.size && Nat.ble (off + l.length) cells.length) then K (setL L id (.box (putCells cells off l))) else False
   | _ => False
  | _ => False
def aappend (TT : Types) (s : List AV) (L : Heap) (next : Nat) (c : Call) (K : AV → Heap → Nat → Prop) : Prop :=
 match c.args.toList, c.argTypes.toList with
 | [x, y], [t, tx] => match kindT TT t, kindT TT tx with
  | .slice e, .slice _ => opt1 (TT e) fun te => opt1 te.zero fun z => if zok te z then
    match ev s x, ev s y with
    | .list rows own, .list rows2 _ => (∀ row ∈ rows2, row.length = te.size) ∧ (rows.length + rows2.length) * te.bytes ≤ 140737488355328 ∧ rows.length + rows2.length ≤ 4611686018427387904 ∧
     match own with
     | .tok k => match findL L k with
      | some (.tok sz n) => sz = te.size ∧ n = rows.length ∧ K (.list (rows ++ rows2) (.tok k)) (setL L k (.tok te.size (rows.length + rows2.length))) next
      | _ => False
     | .full => (∀ row ∈ rows, row.length = te.size) ∧ K (.list (rows ++ rows2) (.tok next)) ((next, .tok te.size (rows.length + rows2.length)) :: L) (next + 1)
     | _ => False
    | _, _ => False
   else False
  | _, _ => False
 | _, _ => False
def asrc (L : Heap) (s : Nat) (lim : Nat → Nat) (y : AV) (K : Nat → List AV → Prop) : Prop :=
 match y with
 | .list rows _ => (∀ row ∈ rows, row.length = s) ∧ lim rows.length ≤ rows.length ∧ K rows.length (rows.flatten.take (lim rows.length * s))
 | .arr id off m _ => match findL L id with
  | some (.box cells) => lim m ≤ m ∧ off + lim m * s ≤ cells.length ∧ ((cells.drop off).take (lim m * s)).all AV.one = true ∧ K m ((cells.drop off).take (lim m * s))
  | some (.seq rows k) => lim m ≤ m ∧ off + lim m * s ≤ (seqC rows k).length ∧ (((seqC rows k).drop off).take (lim m * s)).all AV.one = true ∧ K m (((seqC rows k).drop off).take (lim m * s))
  | _ => False
 | _ => False
def aolds (L : Heap) (s : Nat) (x : AV) (olds : List AV) (n cp : Nat) : Prop :=
 match x with
 | .list [] .full => n = 0 ∧ cp = 0 ∧ olds = []
 | .arr id off n' cp' => n' = n ∧ cp' = cp ∧ ((n = 0 ∧ olds = []) ∨ (∃ rows k, findL L id = some (.seq rows k) ∧ off + n * s ≤ (seqC rows k).length ∧ (((seqC rows k).drop off).take (n * s)).all AV.one = true ∧ olds = ((seqC rows k).drop off).take (n * s)) ∨ ∃ cells, findL L id = some (.box cells) ∧ off + n * s ≤ cells.length ∧ ((cells.drop off).take (n * s)).all AV.one = true ∧ olds = (cells.drop off).take (n * s))
 | _ => False
def aappendA (TT : Types) (s : List AV) (L : Heap) (next : Nat) (c : Call) (K : AV → Heap → Nat → Prop) : Prop :=
 match c.args.toList, c.argTypes.toList with
 | [x, y], [t, tx] => match kindT TT t with
  | .slice e => opt1 (TT e) fun te => opt1 te.zero fun z => if zok te z then
    match kindT TT tx with
    | .slice _ => asrc L te.size (fun m => m) (ev s y) fun m cs => ∃ n cp, (n + m) * te.bytes ≤ 140737488355328 ∧ n + m ≤ 4611686018427387904 ∧
      (n + m ≤ cp → ∃ id off cells, ev s x = .arr id off n cp ∧ findL L id = some (.box cells) ∧ off + (n + m) * te.size ≤ cells.length ∧ K (.arr id off (n + m) cp) (setL L id (.box (putCells cells (off + n * te.size) cs))) next) ∧
      (cp < n + m → ∃ olds, aolds L te.size (ev s x) olds n cp ∧ ∀ cp', n + m ≤ cp' → cp' ≤ maxLen → K (.arr next 0 (n + m) cp') ((next, .box (olds ++ cs ++ List.replicate ((cp' - (n + m)) * te.size) .dead)) :: L) (next + 1))
    | .int _ => ∃ k m n cp olds, ev s y = .v (.int k (m : Nat)) ∧ 0 < m ∧ cp < n + m ∧ (n + m) * te.bytes ≤ 140737488355328 ∧ n + m ≤ 4611686018427387904 ∧ aolds L te.size (ev s x) olds n cp ∧ ∃ rows0, olds = rows0.flatten ∧ (∀ a ∈ rows0.flatten, a.pure = true) ∧
      ∀ cp', n + m ≤ cp' → cp' ≤ maxLen → K (.arr next 0 (n + m) cp') ((next, .seq rows0 ((cp' - n) * te.size)) :: L) (next + 1)
    | _ => False
   else False
  | _ => False
 | _, _ => False
def aappendS (TT : Types) (s : List AV) (L : Heap) (next : Nat) (c : Call) (K : AV → Heap → Nat → Prop) : Prop :=
 match c.args.toList, c.argTypes.toList with
 | [x, y], [t, tx] => match kindT TT t, kindT TT tx with
  | .slice e, .slice _ => opt1 (TT e) fun te => opt1 te.zero fun z => if zok te z then
    asrc L te.size (fun m => m) (ev s y) fun m cs => ∃ rows2, cs = rows2.flatten ∧ rows2.length = m ∧ (∀ row ∈ rows2, row.length = te.size) ∧ (∀ a ∈ rows2.flatten, a.pure = true) ∧
     ((∃ id nn cp rows k L0, ev s x = .arr id 0 nn cp ∧ L.Perm ((id, .seq rows k) :: L0) ∧ (∀ row ∈ rows, row.length = te.size) ∧ rows.length = nn ∧ k = (cp - nn) * te.size ∧ rows.flatten.all AV.one = true ∧ (nn + m) * te.bytes ≤ 140737488355328 ∧ nn + m ≤ 4611686018427387904 ∧ 0 < nn + m ∧
       ∀ cp', nn + m ≤ cp' → cp' ≤ maxLen → K (.arr next 0 (nn + m) cp') ((next, .seq (rows ++ rows2) ((cp' - (nn + m)) * te.size)) :: L0) (next + 1)) ∨
      ((ev s x = .list [] .full ∨ ∃ id off, ev s x = .arr id off 0 0) ∧ m * te.bytes ≤ 140737488355328 ∧ m ≤ 4611686018427387904 ∧
       ∀ cp', m ≤ cp' → cp' ≤ maxLen → K (.arr next 0 m cp') ((next, .seq rows2 ((cp' - m) * te.size)) :: L) (next + 1)))
   else False
  | _, _ => False
 | _, _ => False
def astoreS (TT : Types) (s : List AV) (L : Heap) (t : TypeId) (x y : Operand) (K : Heap → Prop) : Prop :=
 opt1 (TT t) fun ti => ∃ id off rows k L0 l rows', ev s x = .ptr id off ∧ L.Perm ((id, .seq rows k) :: L0) ∧ acells (ev s y) = some l ∧ l.all AV.one = true ∧ l.length = ti.size ∧ 0 < l.length ∧ off + l.length ≤ (seqC rows k).length ∧ putCells (seqC rows k) off l = seqC rows' k ∧ (∀ a ∈ rows'.flatten, a.pure = true) ∧ K ((id, .seq rows' k) :: L0)
def amem (TT : Types) (s : List AV) (L : Heap) (next : Nat) (c : Call) (K : AV → Heap → Nat → Prop) : Prop :=
 match c.callee with
 | .builtin .copy => match c.args.toList, c.argTypes.toList with
  | [x, y], [t, _] => match kindT TT t, ev s x with
   | .slice e, .arr id off n _ => opt1 (TT e) fun te => asrc L te.size (fun m => Nat.min m n) (ev s y) fun m cs => (∃ cells, findL L id = some (.box cells) ∧ off + Nat.min m n * te.size ≤ cells.length ∧ K (.v (.int .i64 (Nat.min m n : Nat))) (setL L id (.box (putCells cells off cs))) next) ∨
     ∃ rows k L0 rows' k', L.Perm ((id, .seq rows k) :: L0) ∧ rows.length + k ≠ 0 ∧ off + Nat.min m n * te.size ≤ (seqC rows k).length ∧ putCells (seqC rows k) off cs = seqC rows' k' ∧ (∀ a ∈ rows'.flatten, a.pure = true) ∧ K (.v (.int .i64 (Nat.min m n : Nat))) ((id, .seq rows' k') :: L0) next
   | _, _ => False
  | _, _ => False
 | .builtin .clear => match c.args.toList, c.argTypes.toList with
  | [x], [t] => match kindT TT t, ev s x with
   | .slice e, .arr id off n _ => opt1 (TT e) fun te => opt1 te.zero fun z => if zok te z then (∃ cells, findL L id = some (.box cells) ∧ off + n * te.size ≤ cells.length ∧ K (.tuple []) (setL L id (.box (putCells cells off (List.replicate (n * te.size) .dead)))) next) ∨
     (∃ rows k L0 rows' k', L.Perm ((id, .seq rows k) :: L0) ∧ rows.length + k ≠ 0 ∧ off + n * te.size ≤ (seqC rows k).length ∧ putCells (seqC rows k) off (List.replicate (n * te.size) .dead) = seqC rows' k' ∧ (∀ a ∈ rows'.flatten, a.pure = true) ∧ K (.tuple []) ((id, .seq rows' k') :: L0) next) else False
   | _, _ => False
  | _, _ => False
 | _ => False
theorem asrc_ok {P : Program} {L : Heap} {s : Nat} {lim : Nat → Nat} {y : AV} {K : Nat → List AV → Prop} (h : asrc L s lim y K) : ∃ m cs, K m cs ∧ ∀ G w vy, Holds G w L → Sim G y vy → ∃ news, SrcK P G w s (lim m) m vy cs news := by
 unfold asrc at h
 split at h
 ·rename_i rows own
  obtain ⟨h1, h2, h3⟩ := h
  exact ⟨_, _, h3, fun G w vy hh hy => srck_list hh hy h1 h2⟩
 ·rename_i id off m cp
  split at h
  ·rename_i cells hf
   obtain ⟨h1, h2, h3, h4⟩ := h
   exact ⟨_, _, h4, fun G w vy hh hy => srck_arr hh hy hf h1 h2 h3⟩
  ·rename_i rows k hf
   obtain ⟨h1, h2, h3, h4⟩ := h
   refine ⟨_, _, h4, fun G w vy hh hy => ?_⟩
   obtain ⟨L0, p1, _⟩ := findL_perm hf
   have hH := hh.perm p1
   by_cases hne : rows.length + k = 0
   ·have e1 : rows = [] := List.eq_nil_of_length_eq_zero (by omega)
    have e2 : k = 0 := by omega
    subst e1; subst e2
    obtain ⟨base, rfl, _⟩ := hy.arr_inv
    have e3 : lim m * s = 0 := by
     have : (seqC [] 0).length = 0 := rfl
     omega
    rw [e3]
    exact ⟨[], srck_slice (by simp [e3]) (by simp) (fun i a h => by simp at h) (fun u h => by cases h) (fun h => absurd rfl h)⟩
   exact srck_arr (hH.unseq hne).1 hy (by simp [findL]) h1 h2 h3
  ·exact h.elim
 ·exact h.elim
theorem aolds_ok {P : Program} {L : Heap} {s : Nat} {x : AV} {olds : List AV} {n cp : Nat} (h : aolds L s x olds n cp) : ∀ G w vx, Holds G w L → Sim G x vx → (∃ base, vx = .slice base n cp) ∧ ∃ olds', SrcK P G w s n n vx olds olds' := by
 intro G w vx hh hx
 unfold aolds at h
 split at h
 ·obtain ⟨rfl, rfl, rfl⟩ := h
  obtain ⟨base, c, rfl, _, _, hc⟩ := (hx.list_inv.2 rfl).slice
  have := hc rfl
  simp only [List.length_nil] at this ⊢
  subst this
  exact ⟨⟨base, rfl⟩, [], srck_slice (by simp) rfl (fun i a h => by simp at h) (fun u h => by cases h) (fun h => absurd rfl h)⟩
 ·rename_i id off n' cp'
  obtain ⟨rfl, rfl, h⟩ := h
  rcases h with ⟨rfl, rfl⟩ | ⟨rows, k, hf, h1, h2, rfl⟩ | ⟨cells, hf, h1, h2, rfl⟩
  ·obtain ⟨base, rfl, _⟩ := hx.arr_inv
   exact ⟨⟨base, rfl⟩, [], srck_slice (by simp) rfl (fun i a h => by simp at h) (fun u h => by cases h) (fun h => absurd rfl h)⟩
  ·obtain ⟨L0, p1, _⟩ := findL_perm hf
   have hH := hh.perm p1
   by_cases hne : rows.length + k = 0
   ·have e1 : rows = [] := List.eq_nil_of_length_eq_zero (by omega)
    have e2 : k = 0 := by omega
    subst e1; subst e2
    obtain ⟨base, rfl, _⟩ := hx.arr_inv
    have e3 : n' * s = 0 := by
     have : (seqC [] 0).length = 0 := rfl
     omega
    rw [e3]
    exact ⟨⟨base, rfl⟩, [], srck_slice (by simp [e3]) (by simp) (fun i a h => by simp at h) (fun u h => by cases h) (fun h => absurd rfl h)⟩
   obtain ⟨news, hS⟩ := srck_arr (P := P) (hH.unseq hne).1 hx (show findL ((id, Res.box (seqC rows k)) :: L0) id = some (.box (seqC rows k)) by simp [findL]) (Nat.le_refl _) h1 h2
   obtain ⟨base, rfl, _⟩ := hx.arr_inv
   exact ⟨⟨base, rfl⟩, news, hS⟩
  ·obtain ⟨news, hS⟩ := srck_arr (P := P) hh hx hf (Nat.le_refl _) h1 h2
   obtain ⟨base, rfl, _⟩ := hx.arr_inv
   exact ⟨⟨base, rfl⟩, news, hS⟩
 ·exact h.elim
def isIface : AV → Bool | .iface _ _ => true | _ => false
def nanR (r : Nat) : Prop := (9218868437227405312 < r ∧ r < 9223372036854775808) ∨ (18442240474082181120 < r ∧ r < 18446744073709551616)
def afl (s : List AV) (o : Oper) (K : AV → Prop) : Prop :=
 match o.op with
 | .binOp .add _ x y _ => match ev s x, ev s y with
  | .v (.float .f64 a), .v (.float .f64 b) => ∀ r, (match FloatKind.f64.format.add a b with | some r0 => r = r0 | none => nanR r) → K (.v (.float .f64 r))
  | _, _ => False
 | _ => False
def abuildO (TT : Types) (s : List AV) (L : Heap) (next : Nat) (o : Oper) (K : AV → Heap → Nat → Prop) : Prop := match o.op with
 | .buildSlice t len parts => match kindT TT t with
  | .slice e => opt1 (TT e) fun te => opt2 te.zero (partCells (ev s) parts.toList) fun z p => if zok te z && decide (0 < len ∧ len * te.size ≤ 16777216) then opt1 (aFill (fun i => some (i * te.size, te.size)) (List.replicate len (zcells z)).flatten p) fun cells => K (.arr next 0 len len) ((next, .box cells) :: L) (next + 1) else False
  | _ => False
 | _ => False
def aop (P : Program) (TT : Types) (o : Oper) (s : List AV) (L : Heap) (next : Nat) (K KP : AV → Heap → Nat → Prop) : Prop :=
 match opKind o with
 | .quiet => aq P TT L (ev s) (raw s) o (fun av => K av L next) ∨ (afl s o fun av => K av L next) ∨ abuildO TT s L next o K ∨ ∃ av, QOk P L (ev s) (raw s) o av ∧ K av L next
 | .store => match o.op with | .store t x y => (astore TT s L t x y fun L' => K .dead L' next) ∨ (astoreS TT s L t x y fun L' => K .dead L' next) | _ => False
 | .box => match o.op with | .box _ x => opt1 (acells (ev s x)) fun l => K (.ptr next 0) ((next, .box l) :: L) (next + 1) | _ => False
 | .alloc => match o.op with | .alloc t => opt1 (TT t) fun ti => opt1 ti.zero fun z => K (.ptr next 0) ((next, .box (zcells z)) :: L) (next + 1) | _ => False
 | .append => match o.op with | .call c => aappend TT s L next c K ∨ aappendA TT s L next c K ∨ aappendS TT s L next c K | _ => False
 | .panic => match o.op with
  | .panic x => match isIface (ev s x) with | true => KP (ev s x) L next | false => False
  | _ => False
 | .call => match o.op with
  | .call c => match c.callee with
   | .value x => match ev s x with
    | .fn f cap => acall P f (c.args.toList.map (ev s) ++ cap) L next K KP
    | .bnd f fst => acall P f (fst ++ c.args.toList.map (ev s)) L next K KP
    | _ => False
   | _ => False
  | _ => False
 | .nilq => match o.op with
  | .binOp op t x _ _ => match kindT TT t, ev s x with
   | .slice _, .list rows _ => (rows = [] → eqRes op true fun v => K v L next) ∧ eqRes op false fun v => K v L next
   | _, _ => False
  | _ => False
 | .mem => match o.op with | .call c => amem TT s L next c K | _ => False
section
variable {P : Program} {TT : Types} {o : Oper} {B : Base} {U : Nat → Prop}
def Nexts (B : Base) (U : Nat → Prop) (σ : ASt) (a : Act) (o : Oper) (K KP : AV → Heap → Nat → Prop) (next : Act → World → Prop) (Q : Exit → Act → World → Prop) : Prop :=
 (∀ av L' n' v G' w', K av L' n' → Slot G' av v → σ.next ≤ n' → Rel B U G' ⟨σ.slots, L', n'⟩ a w' → next (a.put o.dst v) w') ∧
 ∀ x L' n' v G' w', KP x L' n' → Sim G' x v → σ.next ≤ n' → Rel B U G' ⟨σ.slots, L', n'⟩ a w' → Q (.panic [{ v := v, recovered := false }]) a w'
theorem Rel.stepped {G G' : Ghost} {σ : ASt} {a : Act} {w w' : World} {L' : Heap} {n' : Nat} (h : Rel B U G σ a w) (hh : Holds G' w' L') (st : Step G w σ.L G' w' L') (hnn : σ.next ≤ n') (hn : ∀ id, G'.live id → id < n' ∧ (G.live id ∨ σ.next ≤ id)) : Rel B U G' ⟨σ.slots, L', n'⟩ a w' :=
 ⟨h.size, fun t ht => (h.slots t ht).mono st.lits fun _ _ => st.sim, h.defers, hh, h.step.trans st, fun id hid => (hn id hid).1, by rw [st.base]; exact Nat.le_trans h.base st.size, Nat.le_trans h.low hnn, fun id hid => (hn id hid).2.elim (h.old id) fun h1 => .inr (Nat.le_trans h.low h1)⟩
theorem quiet_sound {σ : ASt} {a : Act} {w : World} {G : Ghost} {K KP : AV → Heap → Nat → Prop} {next : Act → World → Prop} {Q : Exit → Act → World → Prop} (hr : Rel B U G σ a w) (hU : ∀ t, .tmp t ∈ o.op.operands → ¬ U t)
  {av : AV} (hq : QOk P σ.L (ev σ.slots) (raw σ.slots) o av) (hK : K av σ.L σ.next) (hN : Nexts B U σ a o K KP next Q) : o.wp P a w next Q := by
 obtain ⟨v, G', w', h1, h2, h3⟩ := hq G w a.eval (hr.here hU)
 unfold Oper.wp
 rw [h1, Oper.upon_value]
 exact hN.1 av σ.L σ.next v G' w' hK h2 (Nat.le_refl _) (hr.stepped (h3.holds hr.holds) (h3.step _) (Nat.le_refl _) fun id hid => by rw [h3.live] at hid; exact ⟨hr.next id hid, .inl hid⟩)
theorem eff_sound {σ : ASt} {a : Act} {w : World} {G : Ghost} {K KP : AV → Heap → Nat → Prop} {next : Act → World → Prop} {Q : Exit → Act → World → Prop} (hr : Rel B U G σ a w) (hU : ∀ t, .tmp t ∈ o.op.operands → ¬ U t)
  {av : AV} {L' : Heap} {new : Nat → Prop} {n' : Nat} (hnn : σ.next ≤ n') (hnew : ∀ i, new i → i = σ.next ∧ i < n') (hq : EOk P σ.L (ev σ.slots) (raw σ.slots) o av L' new) (hlit : ∀ rows, av ≠ .list rows .lit) (hK : K av L' n') (hN : Nexts B U σ a o K KP next Q) : o.wp P a w next Q := by
 obtain ⟨v, G', w', h1, h2, h3, h4, h5⟩ := hq G w a.eval (hr.here hU) (fun id hid hl => by have := hr.next id hl; rw [(hnew id hid).1] at this; omega)
 have hrel : Rel B U G' ⟨σ.slots, L', n'⟩ a w' := hr.stepped h3 h4 hnn fun id hid => by
  rcases h5 id hid with h | h
  ·exact ⟨Nat.lt_of_lt_of_le (hr.next id h) hnn, .inl h⟩
  ·exact ⟨(hnew id h).2, .inr (Nat.le_of_eq (hnew id h).1.symm)⟩
 unfold Oper.wp
 rcases h1 with h1 | ⟨h1, rfl⟩
 ·rw [h1, Oper.upon_value]
  exact hN.1 av L' n' v G' w' hK (.of h2) hnn hrel
 ·rw [h1, Oper.upon_skip]
  exact hN.1 av L' n' undef G' w' hK (.of h2) hnn hrel
theorem new_sound {σ : ASt} {a : Act} {w : World} {G : Ghost} {K KP : AV → Heap → Nat → Prop} {next : Act → World → Prop} {Q : Exit → Act → World → Prop} (hr : Rel B U G σ a w) (hU : ∀ t, .tmp t ∈ o.op.operands → ¬ U t)
  {n : Nat} {L' : Nat → Heap} (hq : ∀ G w ρ, Here P σ.L (ev σ.slots) (raw σ.slots) o G w ρ → ¬ G.live σ.next → ∃ v G' w' cp', n ≤ cp' ∧ cp' ≤ maxLen ∧ (execOp ρ o).run P w = .ok (.value v) w' ∧ Sim G' (.arr σ.next 0 n cp') v ∧ Holds G' w' (L' cp') ∧ Step G w σ.L G' w' (L' cp') ∧ ∀ i, G'.live i → G.live i ∨ i = σ.next)
  (hK : ∀ cp', n ≤ cp' → cp' ≤ maxLen → K (.arr σ.next 0 n cp') (L' cp') (σ.next + 1)) (hN : Nexts B U σ a o K KP next Q) : o.wp P a w next Q := by
 obtain ⟨v, G', w', cp', c1, c2, h1, h2, h3, h4, h5⟩ := hq G w a.eval (hr.here hU) (fun hl => by have := hr.next _ hl; omega)
 have hrel : Rel B U G' ⟨σ.slots, L' cp', σ.next + 1⟩ a w' := hr.stepped h3 h4 (Nat.le_succ _) fun id hid => by
  rcases h5 id hid with h | h
  ·exact ⟨Nat.lt_of_lt_of_le (hr.next id h) (Nat.le_succ _), .inl h⟩
  ·subst h; exact ⟨Nat.lt_succ_self _, .inr (Nat.le_refl _)⟩
 unfold Oper.wp
 rw [h1, Oper.upon_value]
 exact hN.1 _ _ _ v G' w' (hK cp' c1 c2) (.of h2) (Nat.le_succ _) hrel
theorem appendA_sound (hT : TOk P TT) {σ : ASt} {a : Act} {w : World} {G : Ghost} {K KP : AV → Heap → Nat → Prop} {next : Act → World → Prop} {Q : Exit → Act → World → Prop} (hr : Rel B U G σ a w) (hU : ∀ t, .tmp t ∈ o.op.operands → ¬ U t)
  {c : Call} (ho : o.op = .call c) (hc : c.callee = .builtin .append) (h : aappendA TT σ.slots σ.L σ.next c K) (hN : Nexts B U σ a o K KP next Q) : o.wp P a w next Q := by
 unfold aappendA at h
 split at h
 ·rename_i x y t tx ha hty
  have ha := args2 ha
  have hty : c.argTypes = #[t, tx] := by have := congrArg List.toArray hty; simpa using this
  split at h
  ·rename_i e hk
   obtain ⟨ti, ht, hk⟩ := kindT_some hk (by simp)
   obtain ⟨hti⟩ := hT.get ht
   obtain ⟨te, he, h1⟩ := opt1_some h
   obtain ⟨hte⟩ := hT.get he
   obtain ⟨z, hz, h2⟩ := opt1_some h1
   split at h2
   ·rename_i hok
    split at h2
    ·rename_i e' hkx
     obtain ⟨tj, htj, hkj⟩ := kindT_some hkx (by simp)
     obtain ⟨htj⟩ := hT.get htj
     obtain ⟨m, cs, ⟨n, cp, c1, c2, hin, hnew⟩, hsrc⟩ := asrc_ok (P := P) h2
     by_cases hroom : n + m ≤ cp
     ·obtain ⟨id, off, cells, hx, hf, hle, hK⟩ := hin hroom
      exact eff_sound hr hU (Nat.le_refl _) (fun i hi => hi.elim) (e_append_in ho hc ha hty ⟨hti⟩ hk ⟨e', htj.slice hkj⟩ ⟨hte⟩ hx hf hroom hle hsrc) (fun _ h => by cases h) hK hN
     ·obtain ⟨olds, hol, hK⟩ := hnew (by omega)
      exact new_sound hr hU (fun G w ρ hh hn => e_append_new ho hc ha hty ⟨hti⟩ hk ⟨e', htj.slice hkj⟩ ⟨hte⟩ hz hok (by omega) c1 c2 (aolds_ok hol) hsrc G w ρ hh hn) hK hN
    ·rename_i kk hkx
     obtain ⟨tj, htj, hkj⟩ := kindT_some hkx (by simp)
     obtain ⟨htj⟩ := hT.get htj
     obtain ⟨k, m, n, cp, olds, hy, hm0, hroom, c1, c2, hol, rows0, rfl, hp0, hK⟩ := h2
     exact new_sound hr hU (fun G w ρ hh hn => by
      obtain ⟨v, G', w', cp', q1, q2, r1, r2, r3, r4, r5⟩ := e_append_zeros ho hc ha hty ⟨hti⟩ hk ⟨htj⟩ hkj ⟨hte⟩ hz hok hroom hm0 c1 c2 hy (aolds_ok hol) G w ρ hh hn
      exact ⟨v, G', w', cp', q1, q2, r1, r2, Holds.toSeq (rows := rows0) (k := (cp' - n) * te.size) r3 hp0, Step.toSeq (rows := rows0) (k := (cp' - n) * te.size) r4, r5⟩) hK hN
    ·exact h2.elim
   ·exact h2.elim
  ·exact h.elim
 ·exact h.elim
theorem appendS_sound (hT : TOk P TT) {σ : ASt} {a : Act} {w : World} {G : Ghost} {K KP : AV → Heap → Nat → Prop} {next : Act → World → Prop} {Q : Exit → Act → World → Prop} (hr : Rel B U G σ a w) (hU : ∀ t, .tmp t ∈ o.op.operands → ¬ U t)
  {c : Call} (ho : o.op = .call c) (hc : c.callee = .builtin .append) (h : aappendS TT σ.slots σ.L σ.next c K) (hN : Nexts B U σ a o K KP next Q) : o.wp P a w next Q := by
 unfold aappendS at h
 split at h
 ·rename_i x y t tx ha hty
  have ha := args2 ha
  have hty : c.argTypes = #[t, tx] := by have := congrArg List.toArray hty; simpa using this
  split at h
  ·rename_i e e' hk hkx
   obtain ⟨ti, ht, hk⟩ := kindT_some hk (by simp)
   obtain ⟨hti⟩ := hT.get ht
   obtain ⟨tj, htj, hkj⟩ := kindT_some hkx (by simp)
   obtain ⟨htj⟩ := hT.get htj
   obtain ⟨te, he, h1⟩ := opt1_some h
   obtain ⟨hte⟩ := hT.get he
   obtain ⟨z, hz, h2⟩ := opt1_some h1
   split at h2
   ·rename_i hok
    obtain ⟨m, cs, ⟨rows2, rfl, hl2, hr2, hp2, h3⟩, hsrc⟩ := asrc_ok (P := P) h2
    rcases h3 with ⟨id, nn, cp, rows, k, L0, hx, hp, hr', hn, hkk, hone, c1, c2, c3, hK⟩ | ⟨hx, c1, c2, hK⟩
    ·exact new_sound hr hU (fun G w ρ hh hn' => e_append_seq ho hc ha hty ⟨hti⟩ hk ⟨e', htj.slice hkj⟩ ⟨hte⟩ hz hok hx hp hr' hn hkk hone hl2 hr2 hp2 c1 c2 c3 hsrc G w ρ hh hn') hK hN
    ·exact new_sound hr hU (fun G w ρ hh hn' => e_append_seq0 ho hc ha hty ⟨hti⟩ hk ⟨e', htj.slice hkj⟩ ⟨hte⟩ hz hok hl2 hx hp2 c1 c2 hsrc G w ρ hh hn') hK hN
   ·exact h2.elim
  ·exact h.elim
 ·exact h.elim
theorem storeS_sound (hT : TOk P TT) {σ : ASt} {a : Act} {w : World} {G : Ghost} {K KP : AV → Heap → Nat → Prop} {next : Act → World → Prop} {Q : Exit → Act → World → Prop} (hr : Rel B U G σ a w) (hU : ∀ t, .tmp t ∈ o.op.operands → ¬ U t)
  {t : TypeId} {x y : Operand} (ho : o.op = .store t x y) (h : astoreS TT σ.slots σ.L t x y fun L' => K .dead L' σ.next) (hN : Nexts B U σ a o K KP next Q) : o.wp P a w next Q := by
 unfold astoreS at h
 obtain ⟨ti, ht, id, off, rows, k, L0, l, rows', hx, hp, hl, hone, hs, hl0, hle, hput, hpure, hK⟩ := opt1_some h
 obtain ⟨hti⟩ := hT.get ht
 exact eff_sound hr hU (Nat.le_refl _) (fun i hi => hi.elim) (e_store_seq ho hti hx hp hl hone hs hl0 hle hput hpure) (fun _ h => by cases h) hK hN
theorem mem_sound (hT : TOk P TT) {σ : ASt} {a : Act} {w : World} {G : Ghost} {K KP : AV → Heap → Nat → Prop} {next : Act → World → Prop} {Q : Exit → Act → World → Prop} (hr : Rel B U G σ a w) (hU : ∀ t, .tmp t ∈ o.op.operands → ¬ U t)
  {c : Call} (ho : o.op = .call c) (h : amem TT σ.slots σ.L σ.next c K) (hN : Nexts B U σ a o K KP next Q) : o.wp P a w next Q := by
 unfold amem at h
 split at h
 ·rename_i hc
  split at h
  ·rename_i x y t tx ha hty
   have ha := args2 ha
   have hty : c.argTypes = #[t, tx] := by have := congrArg List.toArray hty; simpa using this
   split at h
   ·rename_i e id off n cp hk hx
    obtain ⟨ti, ht, hk⟩ := kindT_some hk (by simp)
    obtain ⟨hti⟩ := hT.get ht
    obtain ⟨te, he, h1⟩ := opt1_some h
    obtain ⟨hte⟩ := hT.get he
    obtain ⟨m, cs, h2, hsrc⟩ := asrc_ok (P := P) h1
    rcases h2 with ⟨cells, hf, hle, hK⟩ | ⟨rows, k, L0, rows', k', hp, hne, hle, hput, hpure, hK⟩
    ·exact eff_sound hr hU (Nat.le_refl _) (fun i hi => hi.elim) (e_copy ho hc ha hty ⟨hti⟩ hk ⟨hte⟩ hx hf hle hsrc) (fun _ h => by cases h) hK hN
    ·refine eff_sound hr hU (Nat.le_refl _) (fun i hi => hi.elim) (EOk.onSeq hp hne hput hpure fun hpr => ?_) (fun _ h => by cases h) hK hN
     have he := e_copy (L := (id, Res.box (seqC rows k)) :: L0) (P := P) (raw := raw σ.slots) ho hc ha hty ⟨hti⟩ hk ⟨hte⟩ hx (show findL ((id, Res.box (seqC rows k)) :: L0) id = some (.box (seqC rows k)) by simp [findL]) hle (fun G w vy hh hy => hsrc G w vy ((hh.toSeq hpr).perm hp.symm) hy)
     rw [setL_here] at he
     exact he
   ·exact h.elim
  ·exact h.elim
 ·rename_i hc
  split at h
  ·rename_i x t ha hty
   have ha := args1 ha
   have hty := tys1 hty
   split at h
   ·rename_i e id off n cp hk hx
    obtain ⟨ti, ht, hk⟩ := kindT_some hk (by simp)
    obtain ⟨hti⟩ := hT.get ht
    obtain ⟨te, he, h1⟩ := opt1_some h
    obtain ⟨hte⟩ := hT.get he
    obtain ⟨z, hz, h2⟩ := opt1_some h1
    split at h2
    ·rename_i hok
     rcases h2 with ⟨cells, hf, hle, hK⟩ | ⟨rows, k, L0, rows', k', hp, hne, hle, hput, hpure, hK⟩
     ·exact eff_sound hr hU (Nat.le_refl _) (fun i hi => hi.elim) (e_clear ho hc ha hty ⟨hti⟩ hk ⟨hte⟩ hz hok hx hf hle) (fun _ h => by cases h) hK hN
     ·have he := e_clear (L := (id, Res.box (seqC rows k)) :: L0) (P := P) (raw := raw σ.slots) ho hc ha hty ⟨hti⟩ hk ⟨hte⟩ hz hok hx (show findL ((id, Res.box (seqC rows k)) :: L0) id = some (.box (seqC rows k)) by simp [findL]) hle
      rw [setL_here] at he
      exact eff_sound hr hU (Nat.le_refl _) (fun i hi => hi.elim) (EOk.onSeq hp hne hput hpure fun _ => he) (fun _ h => by cases h) hK hN
    ·exact h2.elim
   ·exact h.elim
  ·exact h.elim
 ·exact h.elim
theorem call_run {c : Call} {x : Operand} {f : FuncId} {vs : Array Value} {ρ : Operand → Value} {w w' : World} {r : Next} (ho : o.op = .call c) (hc : c.callee = .value x) (hx : ρ x = .func (.func f) #[] vs) (h : (callFunc f (c.args.map ρ ++ vs)).run P w = .ok r w') :
  (execOp ρ o).run P w = .ok r w' := by
 simp only [execOp, ho, resolve, hc, hx, Deferred.ofValue]
 rw [Sem.run_bind, Sem.run_pure]
 simp only [Result.andThen, invoke, Array.empty_append]
 exact h
theorem call_runB {c : Call} {x : Operand} {f : FuncId} {vs : Array Value} {ρ : Operand → Value} {w w' : World} {r : Next} (ho : o.op = .call c) (hc : c.callee = .value x) (hx : ρ x = .func (.func f) vs #[]) (h : (callFunc f (vs ++ c.args.map ρ)).run P w = .ok r w') :
  (execOp ρ o).run P w = .ok r w' := by
 simp only [execOp, ho, resolve, hc, hx, Deferred.ofValue]
 rw [Sem.run_bind, Sem.run_pure]
 simp only [Result.andThen, invoke, Array.append_empty]
 exact h
theorem acall_gen {σ : ASt} {a : Act} {w : World} {G : Ghost} {K KP : AV → Heap → Nat → Prop} {next : Act → World → Prop} {Q : Exit → Act → World → Prop} (hr : Rel B U G σ a w)
  {f : FuncId} {aargs : List AV} {vals : Array Value} (hlen : aargs.length = vals.size) (hs : ∀ i b, aargs[i]? = some b → Sim G b (vals.getD i undef)) (hex : ∀ (w' : World) (r : Next), (callFunc f vals).run P w = .ok r w' → (execOp a.eval o).run P w = .ok r w')
  (h : acall P f aargs σ.L σ.next K KP) (hN : Nexts B U σ a o K KP next Q) : o.wp P a w next Q := by
 obtain ⟨k, top, args0, H0, R, ids, rest, hC, ⟨hk, hnd, hlt, hkt, hargs, hperm⟩, hout⟩ := h
 have hinj := fun a b => rn_inj (next := σ.next) hnd hlt (a := a) (b := b)
 have hlivek : ∀ i, G.live (rn ids σ.next i) → i < k := fun i hi => by
  have := hr.next _ hi
  unfold rn at this
  cases hg : ids[i]? with
  | some j => rw [← hk]; exact (List.getElem?_eq_some_iff.1 hg).1
  | none => rw [hg] at this; simp only at this; omega
 have hpart : Holds G w (renH (rn ids σ.next) H0 ++ rest) := hr.holds.perm hperm
 have hlook := Holds.look hinj hlivek hpart.left
 have hsim : ∀ (i : Nat) (b : AV), args0[i]? = some b → Sim (G.look (rn ids σ.next) k w.heap.size) b (vals.getD i undef) := fun i b hb => by
  refine Sim.look ?_ hlivek
  obtain ⟨b1, h1, hle⟩ := hargs.get i (b.ren (rn ids σ.next)) (by rw [renL_eq]; simp [hb])
  exact hle _ _ (hs i b1 h1)
 have hU' := hC (G.look (rn ids σ.next) k w.heap.size) w vals (fun id hid => hid.2) (fun _ h => h) rfl hlook (by
  have h1 := hargs.len
  rw [renL_eq, List.length_map] at h1
  rw [← h1]; exact hlen) hsim
 -- what comes back
 have fin : ∀ (G0' : Ghost) (w' : World) (H' : Heap), Holds G0' w' H' → Step (G.look (rn ids σ.next) k w.heap.size) w H0 G0' w' H' → (∀ id, G0'.live id → (G.look (rn ids σ.next) k w.heap.size).live id ∨ (k ≤ id ∧ id < top)) →
   Rel B U (G.after G0' (rn ids σ.next)) ⟨σ.slots, renH (rn ids σ.next) H' ++ rest, σ.next + (top - k)⟩ a w' ∧ ∀ b v, Sim G0' b v → Sim (G.after G0' (rn ids σ.next)) (b.ren (rn ids σ.next)) v := by
  intro G0' w' H' h1 h2 h3
  obtain ⟨k1, k2⟩ := Holds.back hinj hlivek hpart.left rfl h1 h2
  obtain ⟨m1, m2⟩ := hpart.beside k1 k2
  refine ⟨hr.stepped m1 (m2.perm hperm.symm (.refl _)) (Nat.le_add_right _ _) fun id hid => ?_, fun b v hb => hb.back rfl fun i hi => Ghost.after_at hinj hi⟩
  rcases hid with hid | ⟨j, rfl, hj⟩
  ·have := hr.next id hid; exact ⟨by omega, .inl hid⟩
  ·rcases h3 j hj with h4 | ⟨h4, h5⟩
   ·have := hr.next _ h4.1; exact ⟨by omega, .inl h4.1⟩
   ·have : rn ids σ.next j = σ.next + (j - ids.length) := by
     unfold rn
     rw [List.getElem?_eq_none (by omega)]
    rw [this]
    exact ⟨by omega, .inr (Nat.le_add_right _ _)⟩
 unfold Oper.wp
 rcases hU' with ⟨hrun, hcalls⟩ | ⟨v, w', hrun, G', out, H', hR, hos, hho, hst, hlv⟩
 ·rw [hex _ _ hrun, Oper.upon_enter]
  refine hcalls.mono fun e w' ⟨G', out, H', hR, hos, hho, hst, hlv⟩ => ?_
  obtain ⟨f1, f2⟩ := fin G' w' H' hho hst hlv
  have ho' := hout out H' hR
  cases out with
  | ret b =>
   cases e with
   | returned v => exact hN.1 _ _ _ _ _ _ ho' (.of (f2 _ _ hos)) (by omega) f1
   | panicked chain => exact hos.elim
   | outgrown => exact hos.elim
  | panic b =>
   cases e with
   | returned v => exact hos.elim
   | panicked chain =>
    obtain ⟨v, rfl, hv⟩ := hos
    exact hN.2 _ _ _ _ _ _ ho' (f2 _ _ hv) (by omega) f1
   | outgrown => exact hos.elim
 ·rw [hex _ _ hrun, Oper.upon_value]
  obtain ⟨f1, f2⟩ := fin G' w' H' hho hst hlv
  have ho' := hout out H' hR
  cases out with
  | ret b => exact hN.1 _ _ _ _ _ _ ho' (.of (f2 _ _ hos)) (by omega) f1
  | panic b => exact hos.elim
theorem acall_sound {σ : ASt} {a : Act} {w : World} {G : Ghost} {K KP : AV → Heap → Nat → Prop} {next : Act → World → Prop} {Q : Exit → Act → World → Prop} (hr : Rel B U G σ a w) (hU : ∀ t, .tmp t ∈ o.op.operands → ¬ U t)
  {c : Call} {x : Operand} {f : FuncId} {cap : List AV} (ho : o.op = .call c) (hc : c.callee = .value x) (hx : ev σ.slots x = .fn f cap) (h : acall P f (c.args.toList.map (ev σ.slots) ++ cap) σ.L σ.next K KP) (hN : Nexts B U σ a o K KP next Q) : o.wp P a w next Q := by
 have hh := hr.here (P := P) hU
 have hfx := hh.ev x (by rw [ho]; simp [Op.operands, Call.operands, hc])
 rw [hx] at hfx
 obtain ⟨vs, hv, hvl, hvs⟩ := hfx.fn_inv
 refine acall_gen (vals := c.args.map a.eval ++ vs) hr (by simp [hvl]) (fun i b h1 => ?_) (fun w' r hrun => call_run ho hc hv hrun) h hN
 rw [List.getElem?_append] at h1
 split at h1
 ·rename_i hi
  simp only [List.length_map, Array.length_toList] at hi
  rw [List.getElem?_map, Array.getElem?_toList, Option.map_eq_some_iff] at h1
  obtain ⟨y, hy, he⟩ := h1
  have h2 := hh.ev y (by rw [ho]; simp only [Op.operands, Call.operands, hc, Array.mem_append]; exact .inr (Array.mem_of_getElem? hy))
  have h3 : (c.args.map a.eval ++ vs).getD i undef = a.eval y := by
   have : (c.args.map a.eval ++ vs)[i]? = some (a.eval y) := by
    rw [Array.getElem?_append_left (by simpa using hi)]
    simp [hy]
   simp [Array.getD_eq_getD_getElem?, this]
  rw [h3, ← he]; exact h2
 ·rename_i hi
  simp only [List.length_map, Array.length_toList, Nat.not_lt] at hi h1
  have h2 := hvs _ _ h1
  have h3 : (c.args.map a.eval ++ vs).getD i undef = vs.getD (i - c.args.size) undef := by
   rw [Array.getD_eq_getD_getElem?, Array.getElem?_append_right (by simpa using hi), Array.getD_eq_getD_getElem?]
   simp
  rw [h3]; exact h2
theorem acall_soundB {σ : ASt} {a : Act} {w : World} {G : Ghost} {K KP : AV → Heap → Nat → Prop} {next : Act → World → Prop} {Q : Exit → Act → World → Prop} (hr : Rel B U G σ a w) (hU : ∀ t, .tmp t ∈ o.op.operands → ¬ U t)
  {c : Call} {x : Operand} {f : FuncId} {fst : List AV} (ho : o.op = .call c) (hc : c.callee = .value x) (hx : ev σ.slots x = .bnd f fst) (h : acall P f (fst ++ c.args.toList.map (ev σ.slots)) σ.L σ.next K KP) (hN : Nexts B U σ a o K KP next Q) : o.wp P a w next Q := by
 have hh := hr.here (P := P) hU
 have hfx := hh.ev x (by rw [ho]; simp [Op.operands, Call.operands, hc])
 rw [hx] at hfx
 obtain ⟨vs, hv, hvl, hvs⟩ := hfx.bnd_inv
 refine acall_gen (vals := vs ++ c.args.map a.eval) hr (by simp [hvl]) (fun i b h1 => ?_) (fun w' r hrun => call_runB ho hc hv hrun) h hN
 rw [List.getElem?_append] at h1
 split at h1
 ·rename_i hi
  have h2 := hvs _ _ h1
  have h3 : (vs ++ c.args.map a.eval).getD i undef = vs.getD i undef := by
   rw [Array.getD_eq_getD_getElem?, Array.getElem?_append_left (by omega), Array.getD_eq_getD_getElem?]
  rw [h3]; exact h2
 ·rename_i hi
  rw [List.getElem?_map, Array.getElem?_toList, Option.map_eq_some_iff] at h1
  obtain ⟨y, hy, he⟩ := h1
  have h2 := hh.ev y (by rw [ho]; simp only [Op.operands, Call.operands, hc, Array.mem_append]; exact .inr (Array.mem_of_getElem? hy))
  have h3 : (vs ++ c.args.map a.eval).getD i undef = a.eval y := by
   have : (vs ++ c.args.map a.eval)[i]? = some (a.eval y) := by
    rw [Array.getElem?_append_right (by omega), ← hvl]
    simp [hy]
   simp [Array.getD_eq_getD_getElem?, this]
  rw [h3, ← he]; exact h2
theorem afl_sound {σ : ASt} {a : Act} {w : World} {G : Ghost} {K KP : AV → Heap → Nat → Prop} {next : Act → World → Prop} {Q : Exit → Act → World → Prop} (hr : Rel B U G σ a w) (hU : ∀ t, .tmp t ∈ o.op.operands → ¬ U t)
  (h : afl σ.slots o fun av => K av σ.L σ.next) (hN : Nexts B U σ a o K KP next Q) : o.wp P a w next Q := by
 unfold afl at h
 split at h
 ·rename_i t x y t' ho
  split at h
  ·rename_i x1 y1 hx hy
   have hxo := hr.here (P := P) hU
   have e1 := hxo.ev x (by rw [ho]; simp [Op.operands])
   have e2 := hxo.ev y (by rw [ho]; simp [Op.operands])
   rw [hx] at e1; rw [hy] at e2
   have hrel : Rel B U G ⟨σ.slots, σ.L, σ.next⟩ a w.drew :=
    ⟨hr.size, hr.slots, hr.defers, ⟨hr.holds.X, hr.holds.res, hr.holds.ids, hr.holds.live, hr.holds.blocks, hr.holds.lits⟩,
     ⟨hr.step.os, hr.step.tape, hr.step.output, hr.step.size, hr.step.base, hr.step.X, hr.step.frame, hr.step.newX, hr.step.newB, hr.step.live, hr.step.newI, hr.step.lits, hr.step.newL⟩, hr.next, hr.base, hr.low, hr.old⟩
   unfold Oper.wp
   cases hadd : FloatKind.f64.format.add x1 y1 with
   | some r0 =>
    have hrun : (execOp a.eval o).run P w = .ok (.value (.float .f64 r0)) w := by
     have hv : (do eqGuard .add t x y (.float .f64 x1) (.float .f64 y1); binOp .add t (.float .f64 x1) (.float .f64 y1) : Sem Value).run P w = .ok (.float .f64 r0) w := by simp [eqGuard, binOp, Op.floatArith, hadd]
     simp only [execOp, ho, e1.v_inv, e2.v_inv]
     rw [Sem.run_bind, hv]; rfl
    rw [hrun, Oper.upon_value]
    exact hN.1 _ _ _ _ _ _ (h r0 (by rw [hadd])) (.of (.data _ _ (.v _))) (Nat.le_refl _) hr
   | none =>
    have hrun : (execOp a.eval o).run P w = .ok (.value (.float .f64 ((Question.nanBits .f64 x1 y1).cut (w.tape w.drawn (Question.nanBits .f64 x1 y1))))) w.drew := by
     have hv : (do eqGuard .add t x y (.float .f64 x1) (.float .f64 y1); binOp .add t (.float .f64 x1) (.float .f64 y1) : Sem Value).run P w = .ok (.float .f64 ((Question.nanBits .f64 x1 y1).cut (w.tape w.drawn (Question.nanBits .f64 x1 y1)))) w.drew := by simp [eqGuard, binOp, Op.floatArith, hadd, Question.forced]
     simp only [execOp, ho, e1.v_inv, e2.v_inv]
     rw [Sem.run_bind, hv]; rfl
    rw [hrun, Oper.upon_value]
    refine hN.1 _ _ _ _ _ _ (h _ ?_) (.of (.data _ _ (.v _))) (Nat.le_refl _) hrel
    rw [hadd]
    generalize w.tape w.drawn (Question.nanBits .f64 x1 y1) = tt
    show nanR (tt % 2 * 9223372036854775808 + 9218868437227405312 + 1 + tt / 2 % 4503599627370495)
    unfold nanR
    omega
  ·exact h.elim
 ·exact h.elim
theorem equal_slice_nil {t e : TypeId} (h : P.underlying t = some (.slice e)) (b : Option Addr) (n c : Nat) (w : World) : (Op.equal t (.slice b n c) (.slice none 0 0)).run P w = .ok b.isNone w := by
 have : ∀ d, (Op.equalIn (d + 1) t (.slice b n c) (.slice none 0 0)).run P w = .ok b.isNone w := fun d => by cases b <;> simp [Op.equalIn, run_underlying h]
 exact this 9999
theorem aop_sound (hT : TOk P TT) {σ : ASt} {a : Act} {w : World} {G : Ghost} {K KP : AV → Heap → Nat → Prop} {next : Act → World → Prop} {Q : Exit → Act → World → Prop} (hr : Rel B U G σ a w) (hU : ∀ t, .tmp t ∈ o.op.operands → ¬ U t)
  (h : aop P TT o σ.slots σ.L σ.next K KP) (hN : Nexts B U σ a o K KP next Q) : o.wp P a w next Q := by
 unfold aop at h
 split at h
 ·rcases h with h | h | h | ⟨av, h1, h2⟩
  ·obtain ⟨av, h1, h2⟩ := aq_ok hT h
   exact quiet_sound hr hU h2 h1 hN
  ·exact afl_sound hr hU h hN
  rotate_left
  ·exact quiet_sound hr hU h1 h2 hN
  ·unfold abuildO at h
   split at h
   ·rename_i t len parts ho
    split at h
    ·rename_i e hk
     obtain ⟨te, hte, h1⟩ := opt1_some h
     obtain ⟨z, p, hz, hp, h2⟩ := opt2_some h1
     split at h2
     ·rename_i hc
      simp only [Bool.and_eq_true, decide_eq_true_eq] at hc
      obtain ⟨c1, c2, c3⟩ := hc
      obtain ⟨z1, z2, z3⟩ := zok_spec c1
      obtain ⟨cells, hf, h3⟩ := opt1_some h2
      obtain ⟨ti, hti, hki⟩ := kindT_some hk (by simp)
      obtain ⟨g1⟩ := hT.get hti
      obtain ⟨g2⟩ := hT.get hte
      exact eff_sound hr hU (Nat.le_succ _) (fun i hi => ⟨hi, by rw [hi]; exact Nat.lt_succ_self _⟩) (e_buildObj ho g1 hki g2 hz z1 z2 z3 c2 c3 hp hf) (fun _ h => by cases h) h3 hN
     ·exact h2.elim
    ·exact h.elim
   ·exact h.elim
 ·split at h
  ·rename_i t x y ho
   rcases h with h | h
   rotate_left
   ·exact storeS_sound hT hr hU ho h hN
   unfold astore at h
   obtain ⟨ti, ht, h1⟩ := opt1_some h
   obtain ⟨hti⟩ := hT.get ht
   split at h1
   ·rename_i id off hx
    split at h1
    ·rename_i cells hf
     obtain ⟨l, hl, h2⟩ := opt1_some h1
     split at h2
     ·rename_i hc
      simp only [Bool.and_eq_true] at hc
      obtain ⟨c1, c2, c3⟩ := hc
      exact eff_sound hr hU (Nat.le_refl _) (fun i hi => hi.elim) (e_store ho hti hx hf hl c1 (Nat.eq_of_beq_eq_true c2) (Nat.le_of_ble_eq_true c3)) (fun _ h => by cases h) h2 hN
     ·exact h2.elim
    ·exact h1.elim
   ·exact h1.elim
  ·exact h.elim
 ·split at h
  ·rename_i t x ho
   obtain ⟨l, hl, h1⟩ := opt1_some h
   exact eff_sound hr hU (Nat.le_succ _) (fun i hi => ⟨hi, by rw [hi]; exact Nat.lt_succ_self _⟩) (e_box ho hl) (fun _ h => by cases h) h1 hN
  ·exact h.elim
 ·split at h
  ·rename_i t ho
   obtain ⟨ti, ht, h1⟩ := opt1_some h
   obtain ⟨hti⟩ := hT.get ht
   obtain ⟨z, hz, h2⟩ := opt1_some h1
   exact eff_sound hr hU (Nat.le_succ _) (fun i hi => ⟨hi, by rw [hi]; exact Nat.lt_succ_self _⟩) (e_alloc ho hti hz) (fun _ h => by cases h) h2 hN
  ·exact h.elim
 ·split at h
  ·rename_i hkind _ c ho
   have hc : c.callee = .builtin .append := by
    unfold opKind at hkind
    rw [ho] at hkind
    simp only at hkind
    split at hkind <;> first | assumption | cases hkind
   rcases h with h | h
   rotate_left
   ·rcases h with h | h
    ·exact appendA_sound hT hr hU ho hc h hN
    ·exact appendS_sound hT hr hU ho hc h hN
   unfold aappend at h
   split at h
   ·rename_i x y t tx ha hty
    have ha := args2 ha
    have hty : c.argTypes = #[t, tx] := by have := congrArg List.toArray hty; simpa using this
    split at h
    ·rename_i e e' hk hkx
     obtain ⟨ti, ht, hk⟩ := kindT_some hk (by simp)
     obtain ⟨hti⟩ := hT.get ht
     obtain ⟨tj, htj, hkj⟩ := kindT_some hkx (by simp)
     obtain ⟨htj⟩ := hT.get htj
     obtain ⟨te, he, h1⟩ := opt1_some h
     obtain ⟨hte⟩ := hT.get he
     obtain ⟨z, hz, h2⟩ := opt1_some h1
     split at h2
     ·rename_i hok
      split at h2
      ·rename_i rows own rows2 own2 hx hy
       obtain ⟨c1, c2, c3, h3⟩ := h2
       have hR : Rows P t tx e ti te z rows2 := ⟨⟨hti⟩, hk, ⟨tj, ⟨htj⟩, e', hkj⟩, ⟨hte⟩, hz, hok, c1⟩
       split at h3
       ·rename_i k
        split at h3
        ·rename_i sz n hf
         obtain ⟨rfl, rfl, h3⟩ := h3
         exact eff_sound hr hU (Nat.le_refl _) (fun i hi => hi.elim) (e_append_tok ho hc ha hty hR hx hf hy c2 c3) (fun _ h => by cases h) h3 hN
        ·exact h3.elim
       ·obtain ⟨h4, h3⟩ := h3
        exact eff_sound hr hU (Nat.le_succ _) (fun i hi => ⟨hi, by rw [hi]; exact Nat.lt_succ_self _⟩) (e_append_full ho hc ha hty hR h4 hx hy c2 c3) (fun _ h => by cases h) h3 hN
       ·exact h3.elim
      ·exact h2.elim
     ·exact h2.elim
    ·exact h.elim
   ·exact h.elim
  ·exact h.elim
 ·split at h
  ·rename_i x ho
   split at h
   ·rename_i hi
    have hxo := hr.here (P := P) hU
    have h1 := hxo.ev x (by rw [ho]; simp [Op.operands])
    cases hx : ev σ.slots x <;> rw [hx] at hi <;> simp [isIface] at hi
    rename_i t b
    have h2 := h1
    rw [hx] at h2
    obtain ⟨y, h3, h4⟩ := h2.iface_inv
    unfold Oper.wp
    have hrun : (execOp a.eval o).run P w = .halt (.panic (a.eval x)) w := by
     simp only [execOp, ho, h3]; rfl
    rw [hrun, Oper.upon_panic]
    exact hN.2 _ _ _ _ _ _ h h1 (Nat.le_refl _) hr
   ·exact h.elim
  ·exact h.elim
 ·split at h
  ·rename_i c ho
   split at h
   ·rename_i x hc
    split at h
    ·rename_i f cap hx
     exact acall_sound hr hU ho hc hx h hN
    ·rename_i f fst hx
     exact acall_soundB hr hU ho hc hx h hN
    ·exact h.elim
   ·exact h.elim
  ·exact h.elim
 ·rename_i hkind
  split at h
  ·rename_i op t x y t' ho
   have hy : y = .const (.slice none 0 0) := by
    unfold opKind at hkind
    rw [ho] at hkind
    simp only at hkind
    split at hkind
    ·split at hkind
     ·rename_i v hv
      unfold isNilS at hv
      split at hv
      ·rfl
      ·cases hv
     ·cases hkind
    ·cases hkind
   subst hy
   split at h
   ·rename_i e rows own hk hx
    obtain ⟨ti, ht, hk⟩ := kindT_some hk (by simp)
    obtain ⟨hti⟩ := hT.get ht
    have hxo := (hr.here (P := P) hU).ev x (by rw [ho]; simp [Op.operands])
    rw [hx] at hxo
    have hsd := hxo.list_inv.1
    have hund := hti.slice hk
    have go : ∀ (base : Option Addr) (n c : Nat), a.eval x = .slice base n c → eqRes op base.isNone (fun v => K v σ.L σ.next) → o.wp P a w next Q := fun base n c hv he => by
     obtain ⟨r, h3, h4⟩ := eqRes_ok he
     have hrun : (execOp a.eval o).run P w = .ok (.value (.bool r)) w := by
      have hc : a.eval (.const (.slice none 0 0)) = .slice none 0 0 := rfl
      simp only [execOp, ho, hv, hc]
      rcases h4 with ⟨rfl, rfl⟩ | ⟨rfl, rfl⟩
      ·(cases base <;> simp [eqGuard, binOp, equal_slice_nil hund])
      ·(cases base <;> simp [eqGuard, binOp, equal_slice_nil hund])
     unfold Oper.wp
     rw [hrun, Oper.upon_value]
     exact hN.1 _ _ _ _ _ _ h3 (.of (.data _ _ (.v _))) (Nat.le_refl _) hr
    have fin : ∀ v : Value, SimD G.X (.list rows .free) v → a.eval x = v → o.wp P a w next Q := fun v hv he => by
     cases hv with
     | nil _ b c _ _ _ =>
      cases b with
      | none => exact go none 0 c he (h.1 rfl)
      | some b => exact go (some b) 0 c he h.2
     | list _ _ b off c s y _ _ _ _ _ _ _ _ => exact go _ _ _ he h.2
    exact fin _ hsd rfl
   ·exact h.elim
  ·exact h.elim
 ·split at h
  ·rename_i c ho
   exact mem_sound hT hr hU ho h hN
  ·exact h.elim
end
end Go.Am
namespace Go.Am
open Go.RowKit
def setK {α : Type} : List AV → Nat → AV → (List AV → α) → α
 | [], _, _, k => k []
 | _ :: l, 0, x, k => k (x :: l)
 | a :: l, n + 1, x, k => setK l n x fun l' => k (a :: l')
theorem setK_eq {α : Type} (l : List AV) (n : Nat) (x : AV) (k : List AV → α) : setK l n x k = k (setA l n x) := by
 induction l generalizing n k with
 | nil => rfl
 | cons a l ih => cases n <;> simp [setK, setA, ih]
def forceA {α : Type} : List AV → (List AV → α) → α
 | [], k => k []
 | a :: l, k => forceA l fun l' => k (a :: l')
theorem forceA_eq {α : Type} (l : List AV) (k : List AV → α) : forceA l k = k l := by
 induction l generalizing k with
 | nil => rfl
 | cons a l ih => simp [forceA, ih]
def forceR {α : Type} : Res → (Res → α) → α
 | .box l, k => forceA l fun l' => k (.box l')
 | .seq rows m, k => k (.seq rows m)
 | .tok s n, k => k (.tok s n)
theorem forceR_eq {α : Type} (r : Res) (k : Res → α) : forceR r k = k r := by cases r <;> simp [forceR, forceA_eq]
def forceH {α : Type} : Heap → (Heap → α) → α
 | [], k => k []
 | (i, r) :: H, k => forceR r fun r' => forceH H fun H' => k ((i, r') :: H')
theorem forceH_eq {α : Type} (H : Heap) (k : Heap → α) : forceH H k = k H := by
 induction H generalizing k with
 | nil => rfl
 | cons p H ih => obtain ⟨i, r⟩ := p; simp [forceH, forceR_eq, ih]
def putD {α : Type} (s : List AV) (d : Option Nat) (x : AV) (k : List AV → α) : α :=
 match d with
 | none => k s
 | some d => setK s d x k
def putS (s : List AV) (d : Option Nat) (x : AV) : List AV := match d with | none => s | some d => setA s d x
theorem putD_eq {α : Type} (s : List AV) (d : Option Nat) (x : AV) (k : List AV → α) : putD s d x k = k (putS s d x) := by cases d <;> simp [putD, putS, setK_eq]
abbrev Kn := List AV → Heap → Nat → Prop
def guarded (all : List Oper) (s : List AV) (o : Oper) (yes no : Prop) : Prop :=
 match o.guard with
 | none => yes
 | some (j, want) => match (all[j]?).bind (·.dst) with
  | some d => match getA s d with
   | .v (.bool b) => match want with | true => abr b yes no | false => abr b no yes
   | .v (.tuple _) => no
   | _ => False
  | none => False
def aops (P : Program) (TT : Types) (all : List Oper) : List Oper → List AV → Heap → Nat → Kn → (AV → Kn) → Prop
 | [], s, L, n, K, _ => K s L n
 | o :: rest, s, L, n, K, KP =>
  guarded all s o (aop P TT o s L n (fun av L' n' => putD s o.dst av fun s' => forceH L' fun L'' => aops P TT all rest s' L'' n' K KP) (fun x L' n' => KP x s L' n'))
   (putD s o.dst (.v (.tuple #[])) fun s' => aops P TT all rest s' L n K KP)
section
variable {P : Program} {TT : Types} {B : Base} {Q : Exit → Act → World → Prop}
theorem getA_setA (s : List AV) (d t : Nat) (x : AV) : getA (setA s d x) t = if d = t ∧ t < s.length then x else getA s t := by
 rw [getA_eq, setA_eq, getA_eq]
 by_cases h : d = t
 ·subst h
  by_cases hl : d < s.length
  ·simp [hl]
  ·simp [hl, List.getElem?_eq_none (Nat.not_lt.1 hl), List.set_eq_of_length_le (Nat.not_lt.1 hl)]
 ·simp [h, List.getElem?_set]
theorem Rel.put {U : Nat → Prop} {G : Ghost} {σ : ASt} {a : Act} {w : World} (h : Rel B U G σ a w) (d : Option Nat) {x : AV} {v : Value} (hx : Slot G x v) : Rel B (fun t => U t ∧ d ≠ some t) G ⟨putS σ.slots d x, σ.L, σ.next⟩ (a.put d v) w := by
 cases d with
 | none => exact ⟨h.size, fun t ht => h.slots t fun hu => ht ⟨hu, by simp⟩, h.defers, h.holds, h.step, h.next, h.base, h.low, h.old⟩
 | some d =>
  refine ⟨by simp [Act.put, putS, setA_eq, h.size], fun t ht => ?_, h.defers, h.holds, h.step, h.next, h.base, h.low, h.old⟩
  simp only [Act.put, putS]
  rw [getA_setA]
  by_cases hd : d = t
  ·subst hd
   by_cases hl : d < σ.slots.length
   ·rw [if_pos ⟨rfl, hl⟩]
    have hl' : d < a.tmps.size := by rw [h.size]; exact hl
    simp only [Array.getD_eq_getD_getElem?, Array.getElem?_setIfInBounds, if_pos hl', if_true, Option.getD_some]
    exact hx
   ·rw [if_neg (by simp [hl])]
    have : getA σ.slots d = .dead := by rw [getA_eq, List.getD, List.getElem?_eq_none (Nat.not_lt.1 hl)]; rfl
    rw [this]
    exact .of (.data _ _ (.dead _))
  ·rw [if_neg (by simp [hd])]
   have : (a.tmps.setIfInBounds d v).getD t undef = a.tmps.getD t undef := by
    simp only [Array.getD_eq_getD_getElem?, Array.getElem?_setIfInBounds, if_neg hd]
   rw [this]
   exact h.slots t fun hu => ht ⟨hu, by simpa using hd⟩
theorem Rel.weakU {U U' : Nat → Prop} {G : Ghost} {σ : ASt} {a : Act} {w : World} (h : Rel B U G σ a w) (hu : ∀ t, U t → U' t) : Rel B U' G σ a w :=
 ⟨h.size, fun t ht => h.slots t fun hu' => ht (hu t hu'), h.defers, h.holds, h.step, h.next, h.base, h.low, h.old⟩
def No : Nat → Prop := fun _ => False
theorem Rel.bool {U : Nat → Prop} {G : Ghost} {σ : ASt} {a : Act} {w : World} (h : Rel B U G σ a w) {d : Nat} {b : Bool} (hd : ¬ U d) (hb : getA σ.slots d = .v (.bool b)) : a.tmps[d]? = some (.bool b) := by
 have h1 := h.slots d hd
 rw [hb] at h1
 have h2 : a.tmps.getD d undef = .bool b := Sim.v_inv h1.down
 rw [Array.getD_eq_getD_getElem?] at h2
 cases hg : a.tmps[d]? with
 | some v => rw [hg] at h2; simpa using h2
 | none => rw [hg] at h2; cases h2
theorem guarded_sound {U : Nat → Prop} {G : Ghost} {σ : ASt} {a : Act} {w : World} (h : Rel B U G σ a w) {ops : Array Oper} {o : Oper} {yes no : Prop} (hU : ∀ j b d, o.guard = some (j, b) → (ops[j]?).bind (·.dst) = some d → ¬ U d) (hg : guarded ops.toList σ.slots o yes no) :
  (Region.wanted o (yielded ops a.tmps) = true ∧ yes) ∨ (Region.wanted o (yielded ops a.tmps) = false ∧ no) := by
 unfold guarded at hg
 split at hg
 ·rename_i h0
  exact .inl ⟨by simp [Region.wanted, h0], hg⟩
 ·rename_i j want h0
  split at hg
  ·rename_i d hd
   rw [Array.getElem?_toList] at hd
   split at hg
   ·rename_i b hb
    have h1 := h.bool (hU j want d h0 hd) hb
    have hy : yielded ops a.tmps j = some b := by simp [yielded, hd, h1]
    cases want <;> cases b <;> simp only [abr] at hg
    ·exact .inl ⟨by simp [Region.wanted, h0, hy], hg⟩
    ·exact .inr ⟨by simp [Region.wanted, h0, hy], hg⟩
    ·exact .inr ⟨by simp [Region.wanted, h0, hy], hg⟩
    ·exact .inl ⟨by simp [Region.wanted, h0, hy], hg⟩
   ·rename_i vs hb
    have h1 := h.slots d (hU j want d h0 hd)
    rw [hb] at h1
    have h2 : a.tmps.getD d undef = .tuple vs := Sim.v_inv h1.down
    have hy : yielded ops a.tmps j = none := by
     unfold yielded
     rw [hd]
     simp only [Option.bind_some]
     cases hg' : a.tmps[d]? with
     | none => rfl
     | some v =>
      rw [Array.getD_eq_getD_getElem?, hg'] at h2
      simp only [Option.getD_some] at h2
      subst h2; rfl
    exact .inr ⟨by simp [Region.wanted, h0, hy], hg⟩
   ·exact hg.elim
  ·exact hg.elim
theorem aops_sound (hT : TOk P TT) {ops : Array Oper} {K : Kn} {KP : AV → Kn} (hK : ∀ s L n G a w, K s L n → Rel B No G ⟨s, L, n⟩ a w → Q .normal a w)
  (hKP : ∀ x s L n v G a w, KP x s L n → Sim G x v → Rel B No G ⟨s, L, n⟩ a w → Q (.panic [{ v := v, recovered := false }]) a w) :
  ∀ (rest : List Oper) (s : List AV) (L : Heap) (n : Nat) (G : Ghost) (a : Act) (w : World), aops P TT ops.toList rest s L n K KP → Rel B No G ⟨s, L, n⟩ a w → wpList P ops Q rest a w
 | [], s, L, n, G, a, w, h, hr => hK s L n G a w h hr
 | o :: rest, s, L, n, G, a, w, h, hr => by
  unfold aops at h
  unfold wpList
  rcases guarded_sound (B := B) hr (fun _ _ _ _ _ h => h) h with ⟨h1, h2⟩ | ⟨h1, h2⟩
  ·rw [if_pos h1]
   refine .inl (aop_sound hT (σ := ⟨s, L, n⟩) hr (fun _ _ h => h) h2 ⟨fun av L' n' v G' w' k1 k2 k3 k4 => ?_, fun x L' n' v G' w' k1 k2 k3 k4 => hKP x s L' n' v G' a w' k1 k2 k4⟩)
   simp only [putD_eq, forceH_eq] at k1
   exact aops_sound hT hK hKP rest _ _ _ G' _ w' k1 ((k4.put o.dst k2).weakU fun t ht => ht.1)
  ·rw [if_neg (by simp [h1])]
   simp only [putD_eq] at h2
   exact aops_sound hT hK hKP rest _ _ _ G _ w h2 ((hr.put o.dst (.of (.data _ _ (.v undef)))).weakU fun t ht => ht.1)
def Conv (σ τ : ASt) : Prop := ∀ B G a w, Rel B No G σ a w → ∃ G', Rel B No G' τ a w
theorem Conv.refl (σ : ASt) : Conv σ σ := fun _ G _ _ h => ⟨G, h⟩
theorem Conv.trans {σ τ υ : ASt} (h : Conv σ τ) (k : Conv τ υ) : Conv σ υ := fun B G a w hr => let ⟨G', h'⟩ := h B G a w hr; k B G' a w h'
def ConvN (N : Nat) (σ τ : ASt) : Prop := ∀ B G a w, (∀ id, B.G.live id → id < N) → B.k ≤ N → Rel B No G σ a w → ∃ G', Rel B No G' τ a w
theorem Conv.toN {σ τ : ASt} (h : Conv σ τ) (N : Nat) : ConvN N σ τ := fun B G a w _ _ hr => h B G a w hr
theorem ConvN.after {N : Nat} {σ τ υ : ASt} (k : ConvN N τ υ) (h : Conv σ τ) : ConvN N σ υ := fun B G a w h1 h2 hr => let ⟨G', h'⟩ := h B G a w hr; k B G' a w h1 h2 h'
theorem ConvN.then {N : Nat} {σ τ υ : ASt} (h : ConvN N σ τ) (k : Conv τ υ) : ConvN N σ υ := fun B G a w h1 h2 hr => let ⟨G', h'⟩ := h B G a w h1 h2 hr; k B G' a w h'
theorem getA_renL (f : Nat → Nat) : ∀ (t : List AV) (i : Nat), getA (AV.renL f t) i = (getA t i).ren f := fun t i => by
 rw [getA_eq, getA_eq, renL_eq, List.getD, List.getD, List.getElem?_map]
 cases t[i]? with
 | none => rfl
 | some a => rfl
theorem ConvN.ren {t : List AV} {H : Heap} {n N M : Nat} (ids : List Nat) (hnd : ids.Nodup) (hlt : ∀ i ∈ ids, i < n) (hN : ∀ i, i < N → ids[i]? = some i) (hM : ids.length = M) : ConvN N ⟨AV.renL (rn ids n) t, renH (rn ids n) H, n⟩ ⟨t, H, M⟩ := fun B G a w hB hk hr => by
 have hf : ∀ a b, rn ids n a = rn ids n b → a = b := fun a b => rn_inj hnd hlt
 have hlo : ∀ i, i < N → rn ids n i = i := fun i hi => by unfold rn; rw [hN i hi]
 have hle : N ≤ M := by
  rcases Nat.lt_or_ge M N with h | h
  ·have := hN M h
   rw [← hM] at this; simp at this
  ·exact h
 have hkk : ∀ i, G.live (rn ids n i) → i < M := fun i hi => by
  have := hr.next _ hi
  unfold rn at this
  split at this
  ·rename_i h; rw [← hM]; exact (List.getElem?_eq_some_iff.1 h).1
  ·simp only at this; omega
 have hh := Holds.look hf hkk hr.holds
 generalize hG : ({ G.look (rn ids n) M w.heap.size with lits := G.lits, base := G.base } : Ghost) = G'
 have e1 : G'.X = G.X := by rw [← hG]; rfl
 have e2 : G'.loc = fun i => G.loc (rn ids n i) := by rw [← hG]; rfl
 have e3 : G'.tk = fun i => G.tk (rn ids n i) := by rw [← hG]; rfl
 have e4 : G'.live = fun i => G.live (rn ids n i) ∧ i < M := by rw [← hG]; rfl
 have e5 : G'.lits = G.lits := by rw [← hG]
 have e6 : G'.base = G.base := by rw [← hG]
 have hsim : ∀ a x, Sim (G.look (rn ids n) M w.heap.size) a x → Sim G' a x := fun a x h => h.mono (by rw [e1]; exact fun _ _ _ h => h) fun i hi => ⟨by rw [e4]; exact hi, by rw [e2]; rfl, .inl (by rw [e3]; rfl)⟩
 have hres : ∀ r, ResHolds (G.look (rn ids n) M w.heap.size) w r → ResHolds G' w r := fun r h => h.keep (by rw [e2]; rfl) (by rw [e3]; rfl) hsim fun b _ => ⟨rfl, by rw [e1]; exact fun _ _ h => h⟩
 have hbl : blocksOf G' H = blocksOf G (renH (rn ids n) H) := by
  rw [blocks_ren (G' := G') fun r _ => ⟨by rw [e2], by rw [e3]⟩]
 refine ⟨G', ?_, fun i hi => ?_, hr.defers, ⟨by rw [e1]; exact hh.X, fun r h => hres r (hh.res r h), hh.ids, fun r h => ?_, ?_, fun b hb => ?_⟩, ?_, fun i hi => ?_, by rw [e6]; exact hr.base, Nat.le_trans hk hle, fun i hi => ?_⟩
 ·rw [hr.size, renL_eq]; simp
 ·have h1 := hr.slots i hi
  rw [getA_renL] at h1
  show Slot G' (getA t i) _
  generalize getA t i = av at h1 ⊢
  unfold Slot at h1 ⊢
  split
  ·rw [AV.ren] at h1
   simp only [Own.ren] at h1
   obtain ⟨h1, b, off, h2, h3⟩ := h1
   exact ⟨hsim _ _ (Sim.look (a := .list _ .full) h1 hkk), b, off, h2, by rw [e5]; exact h3⟩
  ·rename_i hne
   have : Sim G (av.ren (rn ids n)) (a.tmps.getD i undef) := by
    split at h1
    ·rename_i rows he
     exfalso
     cases av with
     | list rows' o =>
      rw [AV.ren] at he
      cases o <;> simp only [Own.ren] at he <;> first | exact hne _ rfl | (cases he; done)
     | _ => rw [AV.ren] at he; cases he
    ·exact h1
   exact hsim _ _ (this.look hkk)
 ·have := hh.live r h
  rw [e4]; exact this
 ·rw [hbl]; exact hr.holds.blocks
 ·rw [e5] at hb
  obtain ⟨q1, q2, q3⟩ := hr.holds.lits b hb
  exact ⟨by rw [e6]; exact q1, q2, by rw [hbl]; exact q3⟩
 ·have st := hr.step
  refine ⟨st.os, st.tape, st.output, st.size, by rw [e6]; exact st.base, by rw [e1]; exact st.X, st.frame, by rw [e1]; exact st.newX, fun b hb => st.newB b (by rw [← hbl]; exact hb), fun i hi => ?_, fun i hi => ?_, by rw [e5]; exact st.lits, by rw [e5]; exact st.newL⟩
  ·have hiN := hB i hi
   obtain ⟨k1, k2, k3⟩ := st.live i hi
   rw [e4, e2, e3]
   simp only [hlo i hiN]
   exact ⟨⟨k1, Nat.lt_of_lt_of_le hiN hle⟩, k2, k3⟩
  ·rcases Nat.lt_or_ge i N with h | h
   ·have h2 : i ∈ (renH (rn ids n) H).map (·.1) := by
     rw [ids_ren]
     exact List.mem_map.2 ⟨i, hi, hlo i h⟩
    exact st.newI i h2
   ·exact .inr fun hl => Nat.lt_irrefl _ (Nat.lt_of_lt_of_le (hB i hl) h)
 ·rw [e4] at hi; exact hi.2
 ·rw [e4] at hi
  rcases Nat.lt_or_ge i N with h | h
  ·have := hr.old _ hi.1
   rw [hlo i h] at this; exact this
  ·exact .inr (Nat.le_trans hk h)
abbrev Kc := AExit → Kn
structure Dr where
 run : Nat → List Oper → List AV → Heap → Nat → Kc → Prop
 low : Nat → Prop
def LoopTo (low : Nat → Prop) (N : Nat) (σ τ : ASt) : Prop := ConvN N σ τ ∨ ∃ M, low M ∧ ConvN M σ τ
def SeqTo (low : Nat → Prop) (σ τ : ASt) : Prop := Conv σ τ ∨ ∃ M, low M ∧ ConvN M σ τ
def acode (P : Program) (TT : Types) (D : Dr) : Code → List AV → Heap → Nat → Kc → Prop
 | .skip, s, L, n, K => K .normal s L n
 | .region id ops draw, s, L, n, K => match draw with
  | false => aops P TT ops.toList ops.toList s L n (K .normal) (fun x => K (.panic x))
  | true => D.run id ops.toList s L n K
 | .seq x y, s, L, n, K => acode P TT D x s L n fun e s' L' n' => match e with
  | .normal => ∃ τ : ASt, SeqTo D.low ⟨s', L', n'⟩ τ ∧ acode P TT D y τ.slots τ.L τ.next K
  | e => K e s' L' n'
 | .cond c x y, s, L, n, K => match ev s c with
  | .v (.bool b) => abr b (acode P TT D x s L n K) (acode P TT D y s L n K)
  | _ => False
 | .block id x, s, L, n, K => acode P TT D x s L n fun e s' L' n' => match e with
  | .exit i => match Nat.beq i id with
   | true => K .normal s' L' n'
   | false => K (.exit i) s' L' n'
  | e => K e s' L' n'
 | .loop x, s, L, n, K => ∃ (α : Type) (S : α → ASt) (C : α → Prop) (μ : α → Nat), (∃ a, C a ∧ Conv ⟨s, L, n⟩ (S a)) ∧ ∀ a, C a → acode P TT D x (S a).slots (S a).L (S a).next fun e s' L' n' => match e with
  | .normal => ∃ b, C b ∧ μ b < μ a ∧ LoopTo D.low (S a).next ⟨s', L', n'⟩ (S b)
  | e => K e s' L' n'
 | .exit id, s, L, n, K => K (.exit id) s L n
 | .ret, s, L, n, K => K .ret s L n
 | _, _, _, _, _ => False
def Post (B : Base) (K : Kc) : Exit → Act → World → Prop := fun e a w => ∃ e' s L n G, K e' s L n ∧ ESim G e' e ∧ Rel B No G ⟨s, L, n⟩ a w
def DOk (P : Program) (D : Nat → List Oper → List AV → Heap → Nat → Kc → Prop) : Prop :=
 ∀ B id (ops : Array Oper) s L n K G a w, D id ops.toList s L n K → Rel B No G ⟨s, L, n⟩ a w → (Code.region id ops true).wp P (Post B K) a w
theorem least {p : Nat → Prop} (h : ∃ n, p n) : ∃ n, p n ∧ ∀ m, p m → n ≤ m := by
 obtain ⟨n, hn⟩ := h
 induction n using Nat.strongRecOn with
 | _ n ih =>
  by_cases hx : ∃ m, m < n ∧ p m
  ·obtain ⟨m, h1, h2⟩ := hx; exact ih m h1 h2
  ·refine ⟨n, hn, fun m hm => ?_⟩
   rcases Nat.lt_or_ge m n with h1 | h1
   ·exact absurd ⟨m, h1, hm⟩ hx
   ·exact h1
open Classical in
theorem loop_by {P : Program} {Q : Exit → Act → World → Prop} {c : Code} {a : Act} {w : World} (I : Nat → Act → World → Prop) (h0 : ∃ n, I n a w) (hround : ∀ n a w, I n a w → c.wp P (Exit.then (fun a' w' => ∃ m, m < n ∧ I m a' w') Q) a w) : (Code.loop c).wp P Q a w := by
 refine wp_loop (fun a w => ∃ n, I n a w) (fun a w => if h : ∃ n, I n a w then (least h).choose else 0) h0 fun a w hI => ?_
 have h1 := (least hI).choose_spec
 refine wp_mono (hround _ a w h1.1) fun e a' w' he => ?_
 cases e with
 | normal =>
  obtain ⟨m, hm, hm'⟩ := he
  refine ⟨⟨m, hm'⟩, ?_⟩
  rw [dif_pos ⟨m, hm'⟩, dif_pos hI]
  exact Nat.lt_of_le_of_lt ((least ⟨m, hm'⟩).choose_spec.2 m hm') hm
 | exit id => exact he
 | goto l => exact he
 | ret => exact he
 | panic ch => exact he
 | outgrown => exact he
theorem acode_sound (hT : TOk P TT) {D : Dr} (hD : DOk P D.run) (hlow : ∀ N, D.low N → (∀ id, B.G.live id → id < N) ∧ B.k ≤ N) : ∀ (c : Code) (s : List AV) (L : Heap) (n : Nat) (K : Kc) (G : Ghost) (a : Act) (w : World), acode P TT D c s L n K → Rel B No G ⟨s, L, n⟩ a w → c.wp P (Post B K) a w := by
 intro c
 induction c with
 | skip => exact fun s L n K G a w h hr => wp_skip ⟨_, s, L, n, G, h, trivial, hr⟩
 | region id ops draw =>
  intro s L n K G a w h hr
  cases draw with
  | false => exact wp_region_list (aops_sound hT (fun s L n G a w h hr => ⟨.normal, s, L, n, G, h, trivial, hr⟩) (fun x s L n v G a w h hs hr => ⟨.panic x, s, L, n, G, h, ⟨v, rfl, hs⟩, hr⟩) _ s L n G a w h hr)
  | true => exact hD B id ops s L n K G a w h hr
 | seq x y ihx ihy =>
  intro s L n K G a w h hr
  refine wp_seq (wp_mono (ihx _ _ _ _ G a w h hr) fun e a' w' ⟨e', s', L', n', G', k1, k2, k3⟩ => ?_)
  cases e' with
  | normal =>
   obtain ⟨τ, c1, c2⟩ := k1
   obtain ⟨G2, c3⟩ : ∃ G2, Rel B No G2 τ a' w' := by
    rcases c1 with c1 | ⟨M, hM, c1⟩
    ·exact c1 B G' a' w' k3
    ·exact c1 B G' a' w' (hlow M hM).1 (hlow M hM).2 k3
   cases e <;> first | exact k2.elim | exact ihy _ _ _ _ G2 a' w' c2 c3
  | ret => cases e <;> first | exact k2.elim | exact ⟨_, s', L', n', G', k1, k2, k3⟩
  | exit i => cases e <;> first | exact k2.elim | exact ⟨_, s', L', n', G', k1, k2, k3⟩
  | panic x => cases e <;> first | exact k2.elim | exact ⟨_, s', L', n', G', k1, k2, k3⟩
 | cond c x y ihx ihy =>
  intro s L n K G a w h hr
  unfold acode at h
  split at h
  ·rename_i b hb
   have h1 := (hr.op (x := c) (fun _ _ h => h)).1
   rw [hb] at h1
   have h2 := h1.v_inv
   cases b with
   | true => exact wp_cond_true h2 (ihx _ _ _ _ G a w h hr)
   | false => exact wp_cond_false h2 (ihy _ _ _ _ G a w h hr)
  ·exact h.elim
 | block id x ih =>
  intro s L n K G a w h hr
  refine wp_block (wp_mono (ih _ _ _ _ G a w h hr) fun e a' w' ⟨e', s', L', n', G', k1, k2, k3⟩ => ?_)
  cases e' with
  | normal => cases e <;> first | exact k2.elim | exact ⟨_, s', L', n', G', k1, trivial, k3⟩
  | ret => cases e <;> first | exact k2.elim | exact ⟨_, s', L', n', G', k1, k2, k3⟩
  | panic x => cases e <;> first | exact k2.elim | exact ⟨_, s', L', n', G', k1, k2, k3⟩
  | exit i =>
   cases e with
   | exit j =>
    have hij : i = j := k2
    subst hij
    simp only at k1
    show (if i = id then Post B K Exit.normal a' w' else Post B K (Exit.exit i) a' w')
    cases hb : Nat.beq i id with
    | true =>
     rw [hb] at k1
     rw [if_pos (Nat.eq_of_beq_eq_true hb)]
     exact ⟨_, s', L', n', G', k1, trivial, k3⟩
    | false =>
     rw [hb] at k1
     rw [if_neg (fun e => by subst e; simp at hb)]
     exact ⟨.exit i, s', L', n', G', k1, rfl, k3⟩
   | normal => exact k2.elim
   | goto l => exact k2.elim
   | ret => exact k2.elim
   | panic ch => exact k2.elim
   | outgrown => exact k2.elim
 | loop x ih =>
  intro s L n K G a w h hr
  unfold acode at h
  obtain ⟨α, S, C, μ, ⟨a0, hc0, hv0⟩, hround⟩ := h
  obtain ⟨G0, hr0⟩ := hv0 B G a w hr
  refine loop_by (fun m a w => ∃ al G, C al ∧ μ al = m ∧ Rel B No G (S al) a w) ⟨_, a0, G0, hc0, rfl, hr0⟩ fun m a w ⟨al, G, hc, hm, hr⟩ => ?_
  refine wp_mono (ih _ _ _ _ G a w (hround al hc) hr) fun e a' w' ⟨e', s', L', n', G', k1, k2, k3⟩ => ?_
  cases e' with
  | normal =>
   cases e with
   | normal =>
    obtain ⟨b, h1, h2, h3⟩ := k1
    obtain ⟨G'', h4⟩ : ∃ G'', Rel B No G'' (S b) a' w' := by
     rcases h3 with h3 | ⟨M, hM, h3⟩
     ·exact h3 B G' a' w' (fun id hl => hr.next id (hr.step.live id hl).1) hr.low k3
     ·exact h3 B G' a' w' (hlow M hM).1 (hlow M hM).2 k3
    exact ⟨μ b, by rw [← hm]; exact h2, b, G'', h1, rfl, h4⟩
   | exit i => exact k2.elim
   | goto l => exact k2.elim
   | ret => exact k2.elim
   | panic ch => exact k2.elim
   | outgrown => exact k2.elim
  | ret => cases e <;> first | exact k2.elim | exact ⟨_, s', L', n', G', k1, k2, k3⟩
  | exit i => cases e <;> first | exact k2.elim | exact ⟨_, s', L', n', G', k1, k2, k3⟩
  | panic x => cases e <;> first | exact k2.elim | exact ⟨_, s', L', n', G', k1, k2, k3⟩
 | exit id => exact fun s L n K G a w h hr => wp_exit ⟨_, s, L, n, G, h, rfl, hr⟩
 | ret => exact fun s L n K G a w h hr => wp_ret ⟨_, s, L, n, G, h, trivial, hr⟩
 | rangeFunc => exact fun s L n K G a w h hr => h.elim
 | scope => exact fun s L n K G a w h hr => h.elim
 | label => exact fun s L n K G a w h hr => h.elim
 | goto => exact fun s L n K G a w h hr => h.elim
 | refuse => exact fun s L n K G a w h hr => h.elim
theorem acode_sound0 (hT : TOk P TT) {d : Nat → List Oper → List AV → Heap → Nat → Kc → Prop} (hD : DOk P d) (c : Code) (s : List AV) (L : Heap) (n : Nat) (K : Kc) (G : Ghost) (a : Act) (w : World) (h : acode P TT ⟨d, fun _ => False⟩ c s L n K) (hr : Rel B No G ⟨s, L, n⟩ a w) : c.wp P (Post B K) a w :=
 acode_sound hT (D := ⟨d, fun _ => False⟩) hD (fun _ h => h.elim) c s L n K G a w h hr
end
end Go.Am
namespace Go.Am
open Go.RowKit
def aresults (TT : Types) (s : List AV) (L : Heap) : List ResultVar → Option (List AV)
 | [] => some []
 | .tmp t :: r => match aresults TT s L r with
  | some l => some ((getA s t).down :: l)
  | none => none
 | .cell a ty :: r => match TT ty with
  | some ti => match aload L ti ((getA s a).down), aresults TT s L r with
   | some x, some l => some (x :: l)
   | _, _ => none
  | none => none
def aout : List AV → AV
 | [a] => a
 | l => .tuple l
section
variable {P : Program} {TT : Types} {B : Base}
theorem results_mapM (hT : TOk P TT) {G : Ghost} {s : List AV} {L : Heap} {n : Nat} {a : Act} {w : World} (hr : Rel B No G ⟨s, L, n⟩ a w) : ∀ (r : List ResultVar) (l : List AV), aresults TT s L r = some l →
  ∃ vs : List Value, (∀ g : ResultVar → Sem Value, (∀ t, g (.tmp t) = pure (a.tmps.getD t undef)) → (∀ x t, g (.cell x t) = do loadVar t (← asAddr (a.tmps.getD x undef))) → (r.mapM g).run P w = .ok vs w) ∧ vs.length = l.length ∧ ∀ i b, l[i]? = some b → Sim G b (vs.getD i undef)
 | [], l, h => by
  cases h
  exact ⟨[], (fun _ _ _ => rfl), rfl, fun i b h => by simp at h⟩
 | .tmp t :: r, l, h => by
  unfold aresults at h
  split at h
  ·rename_i l' hl'
   cases h
   obtain ⟨vs, h1, h2, h3⟩ := results_mapM hT hr r l' hl'
   refine ⟨a.tmps.getD t undef :: vs, fun g g1 g2 => ?_, by simp [h2], fun i b hb => ?_⟩
   ·rw [List.mapM_cons, Sem.run_bind, g1, Sem.run_pure]
    simp only [Result.andThen]
    rw [Sem.run_bind, h1 g g1 g2]
    rfl
   ·cases i with
    | zero => simp at hb; subst hb; exact (hr.slots t (fun h => h)).down
    | succ i => exact h3 i b (by simpa using hb)
  ·cases h
 | .cell x t :: r, l, h => by
  unfold aresults at h
  split at h
  ·rename_i ti ht
   obtain ⟨hti⟩ := hT.get ht
   split at h
   ·rename_i c l' hc hl'
    cases h
    obtain ⟨vs, h1, h2, h3⟩ := results_mapM hT hr r l' hl'
    obtain ⟨v, ad, e1, e2, e3⟩ := load_run (P := P) (hr.slots x (fun h => h)).down hr.holds hti hc
    rw [e1] at e2
    have e2 : (loadVar t ad).run P w = .ok v w := e2
    refine ⟨v :: vs, fun g g1 g2 => ?_, by simp [h2], fun i b hb => ?_⟩
    ·have e4 : (do loadVar t (← asAddr (a.tmps.getD x undef)) : Sem Value).run P w = .ok v w := by
      rw [Sem.run_bind, e1]
      have : (asAddr (.pointer (some ad))).run P w = .ok ad w := rfl
      rw [this]
      exact e2
     rw [List.mapM_cons, Sem.run_bind, g2, e4]
     simp only [Result.andThen]
     rw [Sem.run_bind, h1 g g1 g2]
     rfl
    ·cases i with
     | zero => simp at hb; subst hb; exact e3
     | succ i => exact h3 i b (by simpa using hb)
   ·cases h
  ·cases h
theorem results_run (hT : TOk P TT) {G : Ghost} {s : List AV} {L : Heap} {n : Nat} {a : Act} {w : World} (hr : Rel B No G ⟨s, L, n⟩ a w) {fn : Func} {l : List AV} (h : aresults TT s L fn.results.toList = some l) :
  ∃ v, (results fn a.tmps).run P w = .ok v w ∧ Sim G (aout l) v := by
 obtain ⟨vs, h1, h2, h3⟩ := results_mapM hT hr _ l h
 refine ⟨if h : vs.toArray.size = 1 then vs.toArray[0] else .tuple vs.toArray, ?_, ?_⟩
 ·unfold results
  rw [Sem.run_bind, Array.mapM_eq_mapM_toList, Sem.run_map, h1 _ (fun _ => rfl) (fun _ _ => rfl)]
  rfl
 unfold aout
 split
 ·rename_i b
  have hl : vs.length = 1 := h2
  have h4 := h3 0 b rfl
  rw [dif_pos (by simp [hl])]
  have : vs.toArray[0]'(by simp [hl]) = vs.getD 0 undef := by simp [hl]
  rw [this]; exact h4
 ·rename_i hne
  have hl : ¬ vs.toArray.size = 1 := fun e => by
   have e' : l.length = 1 := by rw [← h2]; simpa using e
   obtain ⟨b, hb⟩ := List.length_eq_one_iff.1 e'
   exact hne b hb
  rw [dif_neg hl]
  exact .tuple _ _ (by simp [h2]) fun i b hb => by have := h3 i b hb; simpa using this
theorem Step.sub {G G' : Ghost} {w w' : World} {H L H' rest : Heap} (h : Step G w H G' w' L) (hp : L.Perm (H' ++ rest)) : Step G w H G' w' H' where
 os := h.os
 tape := h.tape
 output := h.output
 size := h.size
 base := h.base
 X := h.X
 frame := h.frame
 newX := h.newX
 newB := fun b hb => h.newB b ((hp.filterMap _).mem_iff.2 (by rw [List.filterMap_append]; exact List.mem_append_left _ hb))
 live := h.live
 newI := fun id hid => h.newI id ((hp.map _).mem_iff.2 (by rw [List.map_append]; exact List.mem_append_left _ hid))
 lits := h.lits
 newL := h.newL
def aend (P : Program) (TT : Types) (res : List ResultVar) (top : Nat) (R : AOut → Heap → Prop) : Kc := fun e s L n =>
 match e with
 | .panic x => ∃ H' rest, R (.panic x) H' ∧ L.Perm (H' ++ rest) ∧ n ≤ top
 | .exit _ => False
 | _ => ∃ τ : ASt, Conv ⟨s, L, n⟩ τ ∧ opt1 (aresults TT τ.slots τ.L res) fun l => ∃ H' rest, R (.ret (aout l)) H' ∧ τ.L.Perm (H' ++ rest) ∧ τ.next ≤ top
structure FnIs (P : Program) (f : FuncId) (fn : Func) (c : Code) : Prop where
 get : P.funcs[f]? = some fn
 body : fn.body = some c
 name : (fn.name == "runtime.NumGoroutine") = false
theorem acalls_of (hT : TOk P TT) {d : Nat → List Oper → List AV → Heap → Nat → Kc → Prop} (hD : DOk P d) {f : FuncId} {fn : Func} {c : Code} (hf : FnIs P f fn c) {k top : Nat} {args : List AV} {H : Heap} {R : AOut → Heap → Prop}
  (h : acode P TT ⟨d, fun N => k ≤ N⟩ c (args ++ List.replicate (fn.ntmps - args.length) .dead) H k (aend P TT fn.results.toList top R)) : ACalls P f k top args H R := by
 intro G w vals hk hlits hbase hh hlen hsim
 left
 refine ⟨?_, ?_⟩
 ·unfold callFunc
  have hp : program.run P w = .ok P w := rfl
  rw [Sem.run_bind, hp]
  simp only [Result.andThen, hf.get, hf.name, hf.body]
  rfl
 ·refine calls_of_wp hf.get hf.body ?_
  have hr : Rel ⟨G, w, H, k, []⟩ No G ⟨args ++ List.replicate (fn.ntmps - args.length) .dead, H, k⟩ { tmps := vals ++ Array.replicate (fn.ntmps - vals.size) undef, defers := [] } w := by
   refine ⟨by simp [hlen], fun t _ => ?_, rfl, hh, Step.refl _ _ _, hk, by rw [hbase]; exact Nat.le_refl _, Nat.le_refl _, fun id hid => .inl hid⟩
   rw [getA_eq]
   by_cases ht : t < args.length
   ·have e1 : (args ++ List.replicate (fn.ntmps - args.length) AV.dead).getD t .dead = args[t] := by simp [List.getElem?_append, ht]
    have e2 : (vals ++ Array.replicate (fn.ntmps - vals.size) undef).getD t undef = vals.getD t undef := by
     have : t < vals.size := by omega
     rw [Array.getD_eq_getD_getElem?, Array.getElem?_append_left this, Array.getD_eq_getD_getElem?]
    rw [e1, e2]
    exact .of (hsim t _ (List.getElem?_eq_getElem ht))
   ·have e1 : (args ++ List.replicate (fn.ntmps - args.length) AV.dead).getD t .dead = .dead := by
     rw [List.getD, List.getElem?_append_right (by omega), List.getElem?_replicate]
     split <;> rfl
    rw [e1]
    exact .of (.data _ _ (.dead _))
  refine wp_mono (acode_sound hT (D := ⟨d, fun N => k ≤ N⟩) hD (fun N hN => ⟨fun id hid => Nat.lt_of_lt_of_le (hk id hid) hN, hN⟩) c _ _ _ _ G _ w h hr) fun e a' w' ⟨e', s, L, n, G', k1, k2, k3⟩ => ?_
  have fin : ∀ (G' : Ghost) (s : List AV) (L H' rest : Heap) (n : Nat) (a' : Act) (w' : World), Rel ⟨G, w, H, k, []⟩ No G' ⟨s, L, n⟩ a' w' → L.Perm (H' ++ rest) → n ≤ top → Holds G' w' H' ∧ Step G w H G' w' H' ∧ ∀ id, G'.live id → G.live id ∨ (k ≤ id ∧ id < top) := fun G' s L H' rest n a' w' hr hp hn =>
   ⟨(hr.holds.perm hp).left, hr.step.sub hp, fun id hid => (hr.old id hid).imp_right fun h1 => ⟨h1, Nat.lt_of_lt_of_le (hr.next id hid) hn⟩⟩
  have ret : (∃ τ : ASt, Conv ⟨s, L, n⟩ τ ∧ opt1 (aresults TT τ.slots τ.L fn.results.toList) fun l => ∃ H' rest, R (.ret (aout l)) H' ∧ τ.L.Perm (H' ++ rest) ∧ τ.next ≤ top) →
    a'.defers = [] ∧ ∃ v, (results fn a'.tmps).run P w' = .ok v w' ∧ ∃ G' out H', R out H' ∧ OSim G' out (.returned v) ∧ Holds G' w' H' ∧ Step G w H G' w' H' ∧ ∀ id, G'.live id → G.live id ∨ (k ≤ id ∧ id < top) := fun ⟨τ, hc, h1⟩ => by
   obtain ⟨G2, hr2⟩ := hc _ _ _ _ k3
   obtain ⟨l, hl, H', rest, h2, h3, h4⟩ := opt1_some h1
   obtain ⟨v, h5, h6⟩ := results_run (P := P) hT (s := τ.slots) (L := τ.L) (n := τ.next) hr2 hl
   exact ⟨hr2.defers, v, h5, G2, .ret (aout l), H', h2, h6, fin G2 τ.slots τ.L H' rest τ.next a' w' hr2 h3 h4⟩
  cases e' with
  | normal =>
   cases e <;> first | exact k2.elim | skip
   exact ret k1
  | ret =>
   cases e <;> first | exact k2.elim | skip
   exact ret k1
  | exit i => exact k1.elim
  | panic x =>
   cases e <;> first | exact k2.elim | skip
   obtain ⟨v, rfl, hv⟩ := k2
   obtain ⟨H', rest, h1, h2, h3⟩ := k1
   exact ⟨k3.defers, G', .panic x, H', h1, ⟨v, rfl, hv⟩, fin G' s L H' rest n a' w' k3 h2 h3⟩
end
end Go.Am
namespace Go.Am
open Go.RowKit
def forceRows : List (List AV) → (List (List AV) → Prop) → Prop
 | [], k => k []
 | a :: l, k => forceA a fun a' => forceRows l fun l' => k (a' :: l')
theorem forceRows_eq : ∀ (l : List (List AV)) (k : List (List AV) → Prop), forceRows l k = k l
 | [], k => rfl
 | a :: l, k => by unfold forceRows; rw [forceA_eq, forceRows_eq l]
def hdV : AV → (AV → Prop) → Prop
 | .v x, K => K (.v x)
 | .list r o, K => K (.list r o)
 | .agg l, K => K (.agg l)
 | .tuple l, K => K (.tuple l)
 | .ptr i j, K => K (.ptr i j)
 | .arr i o j c, K => K (.arr i o j c)
 | .cref l, K => K (.cref l)
 | .fn f l, K => K (.fn f l)
 | .bnd f l, K => K (.bnd f l)
 | .iface t x, K => K (.iface t x)
 | .dead, K => K .dead
theorem hdV_eq (x : AV) (K : AV → Prop) : hdV x K = K x := by cases x <;> rfl
def forceE : List AV → (List AV → Prop) → Prop
 | [], k => k []
 | a :: l, k => hdV a fun a' => forceE l fun l' => k (a' :: l')
theorem forceE_eq : ∀ (l : List AV) (k : List AV → Prop), forceE l k = k l
 | [], k => rfl
 | a :: l, k => by unfold forceE; rw [hdV_eq, forceE_eq l]
def fv : AV → (AV → Prop) → Prop
 | .v x, K => K (.v x)
 | .list r .lit, K => forceRows r fun r' => K (.list r' .lit)
 | .list r .free, K => K (.list r .free)
 | .list r .full, K => K (.list r .full)
 | .list r (.tok k), K => K (.list r (.tok k))
 | .agg l, K => forceE l fun l' => K (.agg l')
 | .tuple l, K => forceA l fun l' => K (.tuple l')
 | .ptr i j, K => K (.ptr i j)
 | .arr i o j c, K => K (.arr i o j c)
 | .cref l, K => forceA l fun l' => K (.cref l')
 | .fn f l, K => forceA l fun l' => K (.fn f l')
 | .bnd f l, K => forceA l fun l' => K (.bnd f l')
 | .iface t x, K => K (.iface t x)
 | .dead, K => K .dead
theorem fv_eq (x : AV) (K : AV → Prop) : fv x K = K x := by
 cases x <;> try (simp [fv, forceA_eq, forceE_eq]; done)
 rename_i r o; cases o <;> simp [fv, forceRows_eq]
def forceV : List AV → (List AV → Prop) → Prop
 | [], k => k []
 | a :: l, k => fv a fun a' => forceV l fun l' => k (a' :: l')
theorem forceV_eq : ∀ (l : List AV) (k : List AV → Prop), forceV l k = k l
 | [], k => rfl
 | a :: l, k => by unfold forceV; rw [fv_eq, forceV_eq l]
def forceHv : Heap → (Heap → Prop) → Prop
 | [], k => k []
 | (i, .box l) :: H, k => forceV l fun l' => forceHv H fun H' => k ((i, .box l') :: H')
 | (i, .tok a b) :: H, k => forceHv H fun H' => k ((i, .tok a b) :: H')
 | (i, .seq a b) :: H, k => forceHv H fun H' => k ((i, .seq a b) :: H')
theorem forceHv_eq : ∀ (H : Heap) (k : Heap → Prop), forceHv H k = k H
 | [], k => rfl
 | (i, .box l) :: H, k => by unfold forceHv; rw [forceV_eq, forceHv_eq H]
 | (i, .tok a b) :: H, k => by unfold forceHv; rw [forceHv_eq H]
 | (i, .seq a b) :: H, k => by unfold forceHv; rw [forceHv_eq H]
theorem qAnd5 {X : (AV → Prop) → Prop} {p1 p2 p3 p4 p5 : Prop} {av : AV} (h : ∀ K : AV → Prop, (p1 ∧ p2 ∧ p3 ∧ p4 ∧ p5 ∧ K av) → X K) : ∀ K : AV → Prop, (p1 ∧ p2 ∧ p3 ∧ p4 ∧ p5) ∧ K av → X K := fun K ⟨⟨a, b, c, d, e⟩, f⟩ => h K ⟨a, b, c, d, e, f⟩
theorem qAnd4 {X : (AV → Prop) → Prop} {p1 p2 p3 p4 : Prop} {av : AV} (h : ∀ K : AV → Prop, (p1 ∧ p2 ∧ p3 ∧ p4 ∧ K av) → X K) : ∀ K : AV → Prop, (p1 ∧ p2 ∧ p3 ∧ p4) ∧ K av → X K := fun K ⟨⟨a, b, c, d⟩, f⟩ => h K ⟨a, b, c, d, f⟩
theorem qAnd2 {X : (AV → Prop) → Prop} {p1 p2 : Prop} {av : AV} (h : ∀ K : AV → Prop, (p1 ∧ p2 ∧ K av) → X K) : ∀ K : AV → Prop, (p1 ∧ p2) ∧ K av → X K := fun K ⟨⟨a, b⟩, c⟩ => h K ⟨a, b, c⟩
theorem qIx {X : (AV → Prop) → Prop} {n : Int} {m : Nat} {rows : List (List AV)} {row : List AV} (h : ∀ K : AV → Prop, (0 ≤ n ∧ ∃ row, rows[n.toNat]? = some row ∧ row.length = m ∧ fv (.cref row) K) → X K) : ∀ K : AV → Prop, (0 ≤ n ∧ rows[n.toNat]? = some row ∧ row.length = m) ∧ K (.cref row) → X K :=
 fun K ⟨⟨a, b, c⟩, d⟩ => h K ⟨a, row, b, c, by rw [fv_eq]; exact d⟩
theorem qStr {X : (AV → Prop) → Prop} {rows : List (List AV)} {l : List UInt8} (h : ∀ K : AV → Prop, (∃ l : List UInt8, rows = l.map brow ∧ K (.v (.string ⟨l.toArray⟩))) → X K) : ∀ K : AV → Prop, rows = l.map brow ∧ K (.v (.string ⟨l.toArray⟩)) → X K := fun K ⟨a, b⟩ => h K ⟨l, a, b⟩
theorem qFall {P : Program} {X : (AV → Prop) → Prop} {op : BinOp} {t : TypeId} {x y : Operand} {a b : Value} (r : Bool) (h : ∀ K : AV → Prop, fallB P op t x y (some a) (some b) (fun z => fv z K) → X K) (hv : ∀ w, (do eqGuard op t x y a b; binOp op t a b : Sem Value).run P w = .ok (.bool r) w) : ∀ K : AV → Prop, K (.v (.bool r)) → X K :=
 fun K hk => h K ⟨.bool r, hv, by show fv (.v (.bool r)) K; rw [fv_eq]; exact hk⟩
theorem qIfN {P : Program} {X : (AV → Prop) → Prop} {op : BinOp} {t t1 : TypeId} {v : Value} (r : Bool) (h : ∀ K : AV → Prop, (∃ r, (∀ (u : Value) (w : World), (binOp op t (.iface t1 u) v : Sem Value).run P w = .ok (.bool r) w) ∧ fv (.v (.bool r)) K) → X K) (hv : ∀ (u : Value) (w : World), (binOp op t (.iface t1 u) v : Sem Value).run P w = .ok (.bool r) w) : ∀ K : AV → Prop, K (.v (.bool r)) → X K :=
 fun K hk => h K ⟨r, hv, by rw [fv_eq]; exact hk⟩
theorem qIfP {P : Program} {X : (AV → Prop) → Prop} {op : BinOp} {t t1 : TypeId} {i j : Nat} (r : Bool) (h : ∀ K : AV → Prop, ((i = i ∧ j = j ∧ t1 = t1) ∧ ∃ r, (∀ (c : Nat) (w : World), (binOp op t (.iface t1 (.pointer (some ⟨c, j, none⟩))) (.iface t1 (.pointer (some ⟨c, j, none⟩))) : Sem Value).run P w = .ok (.bool r) w) ∧ fv (.v (.bool r)) K) → X K)
  (hv : ∀ (c : Nat) (w : World), (binOp op t (.iface t1 (.pointer (some ⟨c, j, none⟩))) (.iface t1 (.pointer (some ⟨c, j, none⟩))) : Sem Value).run P w = .ok (.bool r) w) : ∀ K : AV → Prop, K (.v (.bool r)) → X K :=
 fun K hk => h K ⟨⟨rfl, rfl, rfl⟩, r, hv, by rw [fv_eq]; exact hk⟩
section
variable {P : Program} {TT : Types} {D : Dr} {all rest : List Oper} {o : Oper} {s s' : List AV} {L L' L'' : Heap} {n n' : Nat} {K : Kn} {KP : AV → Kn} {av : AV} {Kk : Kc}
def opK (P : Program) (TT : Types) (all rest : List Oper) (s : List AV) (d : Option Nat) (K : Kn) (KP : AV → Kn) : AV → Heap → Nat → Prop := fun av L' n' => putD s d av fun s' => forceH L' fun L'' => aops P TT all rest s' L'' n' K KP
def opP (s : List AV) (KP : AV → Kn) : AV → Heap → Nat → Prop := fun x L' n' => KP x s L' n'
theorem o_nil (h : K s L n) : aops P TT all [] s L n K KP := h
theorem o_op (hg : o.guard = none) (h : aop P TT o s L n (opK P TT all rest s o.dst K KP) (opP s KP)) : aops P TT all (o :: rest) s L n K KP := by
 unfold aops guarded; rw [hg]; exact h
theorem o_guard {j d : Nat} {want b : Bool} (hg : o.guard = some (j, want)) (hd : (all[j]?).bind (·.dst) = some d) (hb : getA s d = .v (.bool b)) (hyes : b = want → aop P TT o s L n (opK P TT all rest s o.dst K KP) (opP s KP))
  (hno : b = !want → putD s o.dst (.v (.tuple #[])) fun s' => aops P TT all rest s' L n K KP) : aops P TT all (o :: rest) s L n K KP := by
 unfold aops guarded
 rw [hg]
 simp only [hd, hb]
 cases want <;> cases b
 ·exact hyes rfl
 ·exact hno rfl
 ·exact hno rfl
 ·exact hyes rfl
theorem o_no {j d : Nat} {want : Bool} (hg : o.guard = some (j, want)) (hd : (all[j]?).bind (·.dst) = some d) (hb : getA s d = .v (.bool (!want))) (hs : ∀ k : List AV → Prop, k s' → putD s o.dst (.v (.tuple #[])) k) (h : aops P TT all rest s' L n K KP) : aops P TT all (o :: rest) s L n K KP :=
 o_guard hg hd hb (fun e => by cases want <;> cases e) fun _ => hs _ h
theorem o_not {j d : Nat} {want : Bool} {vs : Array Value} (hg : o.guard = some (j, want)) (hd : (all[j]?).bind (·.dst) = some d) (hb : getA s d = .v (.tuple vs)) (hs : ∀ k : List AV → Prop, k s' → putD s o.dst (.v (.tuple #[])) k) (h : aops P TT all rest s' L n K KP) : aops P TT all (o :: rest) s L n K KP := by
 unfold aops guarded
 rw [hg]
 simp only [hd, hb]
 exact hs _ h
theorem o_yes {j d : Nat} {want : Bool} (hg : o.guard = some (j, want)) (hd : (all[j]?).bind (·.dst) = some d) (hb : getA s d = .v (.bool want)) (h : aop P TT o s L n (opK P TT all rest s o.dst K KP) (opP s KP)) : aops P TT all (o :: rest) s L n K KP :=
 o_guard hg hd hb (fun _ => h) fun e => by cases want <;> cases e
theorem k_op' {d : Option Nat} (hs : ∀ k : List AV → Prop, k s' → putD s d av k) (h : aops P TT all rest s' L n K KP) : opK P TT all rest s d K KP av L n := by
 refine hs _ ?_
 rw [forceH_eq]; exact h
theorem k_opc {d : Option Nat} {x : AV} (hx : ∀ k : AV → Prop, k av → fv x k) (hs : ∀ k : List AV → Prop, k s' → putD s d av k) (hL : ∀ k : Heap → Prop, k L'' → forceH L' k) (h : aops P TT all rest s' L'' n' K KP) : opK P TT all rest s d K KP x L' n' := by
 have e : x = av := by
  have := hx (fun y => y = av) rfl
  rwa [fv_eq] at this
 subst e
 exact hs _ (hL _ h)
theorem k_as (y : AV) {d : Option Nat} (he : av = y) (h : opK P TT all rest s d K KP y L n) : opK P TT all rest s d K KP av L n := he ▸ h
theorem a_q {K KP : AV → Heap → Nat → Prop} (hk : opKind o = .quiet) (h : aq P TT L (ev s) (raw s) o fun av => K av L n) : aop P TT o s L n K KP := by
 unfold aop; rw [hk]; exact .inl h
theorem a_fadd {K KP : AV → Heap → Nat → Prop} {t t' : TypeId} {x y : Operand} {a b : Nat} (ho : o.op = .binOp .add t x y t') (hk : opKind o = .quiet) (hx : ev s x = .v (.float .f64 a)) (hy : ev s y = .v (.float .f64 b)) (h : ∀ r, (match FloatKind.f64.format.add a b with | some r0 => r = r0 | none => nanR r) → K (.v (.float .f64 r)) L n) : aop P TT o s L n K KP := by
 unfold aop; rw [hk]
 refine .inr (.inl ?_)
 unfold afl
 rw [ho]
 simp only [hx, hy]
 exact h
theorem a_known {K KP : AV → Heap → Nat → Prop} (hk : opKind o = .quiet) (hq : QOk P L (ev s) (raw s) o av) (h : K av L n) : aop P TT o s L n K KP := by
 unfold aop; rw [hk]; exact .inr (.inr (.inr ⟨av, hq, h⟩))
theorem a_q1 {K KP : AV → Heap → Nat → Prop} (hk : opKind o = .quiet) (hC : ∀ K : AV → Prop, K av → aq P TT L (ev s) (raw s) o fun x => fv x K) (h : K av L n) : aop P TT o s L n K KP := by
 refine a_q hk ?_
 have := hC (fun av => K av L n) h
 simpa only [fv_eq] using this
theorem a_qS {p : Prop} {K KP : AV → Heap → Nat → Prop} (hk : opKind o = .quiet) (hC : ∀ K : AV → Prop, p ∧ K av → aq P TT L (ev s) (raw s) o fun x => fv x K) (hp : p) (h : K av L n) : aop P TT o s L n K KP := by
 refine a_q hk ?_
 have := hC (fun av => K av L n) ⟨hp, h⟩
 simpa only [fv_eq] using this
theorem a_box {K KP : AV → Heap → Nat → Prop} {t : TypeId} {x : Operand} {l : List AV} (ho : o.op = .box t x) (hl : ∀ k : List AV → Prop, k l → opt1 (acells (ev s x)) fun l => forceV l k) (h : K (.ptr n 0) ((n, .box l) :: L) (n + 1)) : aop P TT o s L n K KP := by
 unfold aop opKind; simp only [ho]
 have := hl (fun l => K (.ptr n 0) ((n, .box l) :: L) (n + 1)) h
 simpa only [forceV_eq] using this
theorem a_alloc {K KP : AV → Heap → Nat → Prop} {t : TypeId} {l : List AV} (ho : o.op = .alloc t) (hl : ∀ k : List AV → Prop, k l → opt1 (TT t) fun ti => opt1 ti.zero fun z => forceV (zcells z) k) (h : K (.ptr n 0) ((n, .box l) :: L) (n + 1)) : aop P TT o s L n K KP := by
 unfold aop opKind; simp only [ho]
 have := hl (fun l => K (.ptr n 0) ((n, .box l) :: L) (n + 1)) h
 simpa only [forceV_eq] using this
theorem a_storev {K KP : AV → Heap → Nat → Prop} {t : TypeId} {x y : Operand} (ho : o.op = .store t x y) (hL : ∀ k : Heap → Prop, k L' → astore TT s L t x y fun L' => forceHv L' k) (h : K .dead L' n) : aop P TT o s L n K KP := by
 unfold aop opKind; simp only [ho]
 have := hL (fun L' => K .dead L' n) h
 exact .inl (by simpa only [forceHv_eq] using this)
theorem a_move {K KP : AV → Heap → Nat → Prop} {x : Operand} (ho : o.op = .move x) (hx : ev s x = av) (h : K av L n) : aop P TT o s L n K KP := by
 unfold aop opKind; simp only [ho]; unfold aq; simp only [ho]; rw [hx]; exact .inl h
theorem a_loadAt {K KP : AV → Heap → Nat → Prop} {t : TypeId} {x : Operand} {ti : TI} {id off : Nat} {cells : List AV} (ho : o.op = .load t x) (ht : TT t = some ti) (hx : ev s x = .ptr id off) (hf : findL L id = some (.box cells)) (hk : isAggK ti.kind = false) (hc : cells[off]? = some av) (h : K av L n) : aop P TT o s L n K KP := by
 unfold aop opKind; simp only [ho]; unfold aq; simp only [ho]; rw [ht, hx]
 simp only [opt1, aload, hf, hk, hc, Bool.false_eq_true, if_false]
 exact .inl h
theorem a_storeAt {K KP : AV → Heap → Nat → Prop} {t : TypeId} {x y : Operand} {ti : TI} {id off : Nat} {cells l cells' : List AV} (ho : o.op = .store t x y) (ht : TT t = some ti) (hx : ev s x = .ptr id off) (hf : findL L id = some (.box cells)) (hl : acells (ev s y) = some l)
  (hk : (l.all AV.one && (Nat.beq l.length ti.size && Nat.ble (off + l.length) cells.length)) = true) (hp : putCells cells off l = cells') (h : K .dead (setL L id (.box cells')) n) : aop P TT o s L n K KP := by
 subst hp
 unfold aop opKind; simp only [ho]; unfold astore; rw [ht, hx]
 simp only [opt1, hf, hl, hk, if_true]
 exact .inl h
theorem a_nilq {K KP : AV → Heap → Nat → Prop} {op : BinOp} {t t' : TypeId} {x : Operand} {e : TypeId} {rows : List (List AV)} {own : Own} {bt bf : AV} (ho : o.op = .binOp op t x (.const (.slice none 0 0)) t') (hk : kindT TT t = .slice e) (hx : ev s x = .list rows own)
  (ht : ∀ K : AV → Prop, K bt → eqRes op true K) (hf : ∀ K : AV → Prop, K bf → eqRes op false K) (h1 : rows = [] → K bt L n) (h2 : K bf L n) : aop P TT o s L n K KP := by
 unfold aop opKind; simp only [ho, isNilS]
 rw [hk, hx]
 exact ⟨fun e => ht _ (h1 e), hf _ h2⟩
theorem a_append_tok {K KP : AV → Heap → Nat → Prop} {c : Call} {x y : Operand} {t tx e e2 : TypeId} {te : TI} {z : Value} {rows rows2 : List (List AV)} {own2 : Own} {k sz m B : Nat} (ho : o.op = .call c) (hk : opKind o = .append) (ha : c.args.toList = [x, y]) (hty : c.argTypes.toList = [t, tx])
  (hkt : kindT TT t = .slice e) (hkx : kindT TT tx = .slice e2) (hte : TT e = some te) (hz : te.zero = some z) (hzk : zok te z = true) (hx : ev s x = .list rows (.tok k)) (hy : ev s y = .list rows2 own2) (hf : findL L k = some (.tok sz m)) (hsz : sz = te.size) (hB : te.bytes = B) (hm : m = rows.length)
  (hL : ∀ q : Heap → Prop, q L' → forceH (setL L k (.tok te.size (rows.length + rows2.length))) q)
  (hr : ∀ row ∈ rows2, row.length = te.size) (hroom : (rows.length + rows2.length) * B ≤ 140737488355328 ∧ rows.length + rows2.length ≤ 4611686018427387904) (h : K (.list (rows ++ rows2) (.tok k)) L' n) : aop P TT o s L n K KP := by
 unfold aop; rw [hk]; simp only [ho]
 refine .inl ?_
 unfold aappend
 rw [ha, hty]
 simp only [hkt, hkx, hte, hz, hx, hy, hzk, opt1, if_pos, hf]
 have := hL (fun L' => K (.list (rows ++ rows2) (.tok k)) L' n) h
 rw [forceH_eq] at this
 subst hB
 exact ⟨hr, hroom.1, hroom.2, hsz, hm, this⟩
theorem a_append_full {K KP : AV → Heap → Nat → Prop} {c : Call} {x y : Operand} {t tx e e2 : TypeId} {te : TI} {z : Value} {rows rows2 : List (List AV)} {own2 : Own} {B : Nat} (ho : o.op = .call c) (hk : opKind o = .append) (ha : c.args.toList = [x, y]) (hty : c.argTypes.toList = [t, tx])
  (hkt : kindT TT t = .slice e) (hkx : kindT TT tx = .slice e2) (hte : TT e = some te) (hz : te.zero = some z) (hzk : zok te z = true) (hx : ev s x = .list rows .full) (hy : ev s y = .list rows2 own2) (hB : te.bytes = B)
  (hr1 : ∀ row ∈ rows, row.length = te.size) (hr : ∀ row ∈ rows2, row.length = te.size) (hroom : (rows.length + rows2.length) * B ≤ 140737488355328 ∧ rows.length + rows2.length ≤ 4611686018427387904) (h : K (.list (rows ++ rows2) (.tok n)) ((n, .tok te.size (rows.length + rows2.length)) :: L) (n + 1)) : aop P TT o s L n K KP := by
 unfold aop; rw [hk]; simp only [ho]
 refine .inl ?_
 unfold aappend
 rw [ha, hty]
 simp only [hkt, hkx, hte, hz, hx, hy, hzk, opt1, if_pos]
 subst hB
 exact ⟨hr, hroom.1, hroom.2, hr1, h⟩
theorem asrc_list {L : Heap} {sz : Nat} {y : AV} {rows : List (List AV)} {own : Own} {K : Nat → List AV → Prop} (hy : y = .list rows own) (hr : ∀ row ∈ rows, row.length = sz) (h : K rows.length rows.flatten) : asrc L sz (fun m => m) y K := by
 subst hy
 refine ⟨hr, Nat.le_refl _, ?_⟩
 rw [← flatten_length hr, List.take_length]; exact h
theorem a_app_arr {K KP : AV → Heap → Nat → Prop} {c : Call} {x y : Operand} {t tx e e2 : TypeId} {te : TI} {z : Value} {id off nn cp m : Nat} {cs : List AV} (ho : o.op = .call c) (hk : opKind o = .append) (ha : c.args.toList = [x, y]) (hty : c.argTypes.toList = [t, tx])
  (hkt : kindT TT t = .slice e) (hkx : kindT TT tx = .slice e2) (hte : TT e = some te) (hz : te.zero = some z) (hzk : zok te z = true) (hx : ev s x = .arr id off nn cp) (hy : ∀ K : Nat → List AV → Prop, K m cs → asrc L te.size (fun m => m) (ev s y) K)
  (hroom : (nn + m) * te.bytes ≤ 140737488355328 ∧ nn + m ≤ 4611686018427387904)
  (hin : nn + m ≤ cp → ∃ cells, findL L id = some (.box cells) ∧ off + (nn + m) * te.size ≤ cells.length ∧ K (.arr id off (nn + m) cp) (setL L id (.box (putCells cells (off + nn * te.size) cs))) n)
  (hnew : cp < nn + m → ∃ olds, aolds L te.size (.arr id off nn cp) olds nn cp ∧ ∀ cp', nn + m ≤ cp' → cp' ≤ maxLen → K (.arr n 0 (nn + m) cp') ((n, .box (olds ++ cs ++ List.replicate ((cp' - (nn + m)) * te.size) .dead)) :: L) (n + 1)) : aop P TT o s L n K KP := by
 unfold aop; rw [hk]; simp only [ho]
 refine .inr (.inl ?_)
 unfold aappendA
 rw [ha, hty]
 simp only [hkt, hkx, hte, hz, hzk, opt1, if_pos]
 refine hy _ ⟨nn, cp, hroom.1, hroom.2, fun h => ?_, fun h => ?_⟩
 ·obtain ⟨cells, h1, h2, h3⟩ := hin h
  exact ⟨id, off, cells, hx, h1, h2, h3⟩
 ·rw [hx]; exact hnew h
theorem a_app_zeros {K KP : AV → Heap → Nat → Prop} {c : Call} {x y : Operand} {t tx e : TypeId} {te : TI} {z : Value} {kn : IntKind} {q : Int} {id off nn cp m : Nat} {olds : List AV} (ho : o.op = .call c) (hk : opKind o = .append) (ha : c.args.toList = [x, y]) (hty : c.argTypes.toList = [t, tx])
  (hkt : kindT TT t = .slice e) (hkx : kindT TT tx = .int kn) (hte : TT e = some te) (hz : te.zero = some z) (hzk : zok te z = true) (hx : ev s x = .arr id off nn cp) {k' : IntKind} (hy : ev s y = .v (.int k' q)) (hq : q = (m : Int)) (h0 : 0 < m) (h1 : cp < nn + m)
  (hroom : (nn + m) * te.bytes ≤ 140737488355328 ∧ nn + m ≤ 4611686018427387904) (hol : aolds L te.size (.arr id off nn cp) olds nn cp) {rows0 : List (List AV)} (h0r : olds = rows0.flatten) (hpr : ∀ a ∈ rows0.flatten, a.pure = true)
  (h : ∀ cp', nn + m ≤ cp' → cp' ≤ maxLen → K (.arr n 0 (nn + m) cp') ((n, .seq rows0 ((cp' - nn) * te.size)) :: L) (n + 1)) : aop P TT o s L n K KP := by
 subst hq
 unfold aop; rw [hk]; simp only [ho]
 refine .inr (.inl ?_)
 unfold aappendA
 rw [ha, hty]
 simp only [hkt, hkx, hte, hz, hzk, opt1, if_pos]
 exact ⟨k', m, nn, cp, olds, hy, h0, h1, hroom.1, hroom.2, by rw [hx]; exact hol, rows0, h0r, hpr, h⟩
structure RowsOk (sz : Nat) (rows : List (List AV)) : Prop where
 len : ∀ row ∈ rows, row.length = sz
 one : rows.flatten.all AV.one = true
 pure : ∀ a ∈ rows.flatten, a.pure = true
theorem RowsOk.of {sz : Nat} {rows : List (List AV)} (h : ∀ row ∈ rows, row.length = sz ∧ row.all AV.one = true ∧ row.all AV.pure = true) : RowsOk sz rows := by
 refine ⟨fun row hr => (h row hr).1, ?_, fun a ha => ?_⟩
 ·rw [List.all_eq_true]
  intro a ha
  obtain ⟨row, hr, hm⟩ := List.mem_flatten.1 ha
  exact List.all_eq_true.1 (h row hr).2.1 a hm
 ·obtain ⟨row, hr, hm⟩ := List.mem_flatten.1 ha
  exact List.all_eq_true.1 (h row hr).2.2 a hm
theorem RowsOk.row {sz : Nat} {rows : List (List AV)} (h : RowsOk sz rows) {row : List AV} (hr : row ∈ rows) : row.length = sz ∧ row.all AV.one = true ∧ row.all AV.pure = true :=
 ⟨h.len row hr, List.all_eq_true.2 fun a ha => List.all_eq_true.1 h.one a (List.mem_flatten.2 ⟨row, hr, ha⟩), List.all_eq_true.2 fun a ha => h.pure a (List.mem_flatten.2 ⟨row, hr, ha⟩)⟩
theorem RowsOk.map {α : Type} {sz : Nat} {f : α → List AV} (h : ∀ x, (f x).length = sz ∧ (f x).all AV.one = true ∧ (f x).all AV.pure = true) (l : List α) : RowsOk sz (l.map f) :=
 .of fun row hr => by
  obtain ⟨x, _, rfl⟩ := List.mem_map.1 hr
  exact h x
theorem RowsOk.app {sz : Nat} {r1 r2 : List (List AV)} (h1 : RowsOk sz r1) (h2 : RowsOk sz r2) : RowsOk sz (r1 ++ r2) :=
 .of fun row hr => (List.mem_append.1 hr).elim h1.row h2.row
theorem RowsOk.one1 {sz : Nat} {row : List AV} (h : row.length = sz ∧ row.all AV.one = true ∧ row.all AV.pure = true) : RowsOk sz [row] :=
 .of fun r hr => by rw [List.mem_singleton.1 hr]; exact h
def takeO : Heap → Nat → (Res → Heap → Prop) → Prop
 | [], _, _ => False
 | (i, r) :: H, id, k => match Nat.beq i id with
  | true => k r H
  | false => takeO H id fun r' H' => k r' ((i, r) :: H')
theorem takeO_perm : ∀ (L : Heap) (id : Nat) (k : Res → Heap → Prop), takeO L id k → ∃ r L0, k r L0 ∧ L.Perm ((id, r) :: L0)
 | [], _, _, h => h.elim
 | (i, r) :: H, id, k, h => by
  unfold takeO at h
  split at h
  ·rename_i hb
   obtain rfl := Nat.eq_of_beq_eq_true hb
   exact ⟨r, H, h, .refl _⟩
  ·obtain ⟨r', L0, h1, h2⟩ := takeO_perm H id _ h
   exact ⟨r', _, h1, (h2.cons _).trans (.swap _ _ _)⟩
theorem takeO_at {L L0 : Heap} {id : Nat} {r : Res} (h : ∀ k : Res → Heap → Prop, k r L0 → takeO L id k) : L.Perm ((id, r) :: L0) := by
 obtain ⟨r', L1, ⟨rfl, rfl⟩, h2⟩ := takeO_perm L id (fun r' L1 => r' = r ∧ L1 = L0) (h _ ⟨rfl, rfl⟩)
 exact h2
theorem a_appS {K KP : AV → Heap → Nat → Prop} {c : Call} {x y : Operand} {t tx e e2 : TypeId} {te : TI} {z : Value} {id nn cp k sz B : Nat} {rows rows2 rows3 : List (List AV)} {own : Own} {L0 : Heap} {m2 : Nat} (ho : o.op = .call c) (hk : opKind o = .append) (ha : c.args.toList = [x, y]) (hty : c.argTypes.toList = [t, tx])
  (hkt : kindT TT t = .slice e) (hkx : kindT TT tx = .slice e2) (hte : TT e = some te) (hz : te.zero = some z) (hzk : zok te z = true) (hx : ev s x = .arr id 0 nn cp) (hy : ev s y = .list rows2 own) (ht : ∀ k' : Res → Heap → Prop, k' (.seq rows k) L0 → takeO L id k') (hsz : te.size = sz) (hB : te.bytes = B)
  (hR : RowsOk sz rows) (hR2 : RowsOk sz rows2) (hn : rows.length = nn) (hkk : k = (cp - nn) * sz) (hroom : (nn + rows2.length) * B ≤ 140737488355328 ∧ nn + rows2.length ≤ 4611686018427387904 ∧ 0 < nn + rows2.length)
  (hm2 : nn + rows2.length = m2) (h3 : rows ++ rows2 = rows3) (h : ∀ cp', m2 ≤ cp' → cp' ≤ maxLen → K (.arr n 0 m2 cp') ((n, .seq rows3 ((cp' - m2) * sz)) :: L0) (n + 1)) : aop P TT o s L n K KP := by
 subst hsz; subst hB; subst hm2; subst h3
 unfold aop; rw [hk]; simp only [ho]
 refine .inr (.inr ?_)
 unfold aappendS
 rw [ha, hty]
 simp only [hkt, hkx, hte, hz, hzk, opt1, if_pos]
 exact asrc_list hy hR2.len ⟨rows2, rfl, rfl, hR2.len, hR2.pure, .inl ⟨id, nn, cp, rows, k, L0, hx, takeO_at ht, hR.len, hn, hkk, hR.one, hroom.1, hroom.2.1, hroom.2.2, h⟩⟩
theorem a_appS0 {K KP : AV → Heap → Nat → Prop} {c : Call} {x y : Operand} {t tx e e2 : TypeId} {te : TI} {z : Value} {sz B m2 : Nat} {rows2 : List (List AV)} {own : Own} (ho : o.op = .call c) (hk : opKind o = .append) (ha : c.args.toList = [x, y]) (hty : c.argTypes.toList = [t, tx])
  (hkt : kindT TT t = .slice e) (hkx : kindT TT tx = .slice e2) (hte : TT e = some te) (hz : te.zero = some z) (hzk : zok te z = true) (hx : ev s x = .list [] .full ∨ ∃ id off, ev s x = .arr id off 0 0) (hy : ev s y = .list rows2 own) (hsz : te.size = sz) (hB : te.bytes = B)
  (hR2 : RowsOk sz rows2) (h0 : 0 < rows2.length ∨ True) (hroom : rows2.length * B ≤ 140737488355328 ∧ rows2.length ≤ 4611686018427387904)
  (hm2 : rows2.length = m2) (h : ∀ cp', m2 ≤ cp' → cp' ≤ maxLen → K (.arr n 0 m2 cp') ((n, .seq rows2 ((cp' - m2) * sz)) :: L) (n + 1)) : aop P TT o s L n K KP := by
 subst hsz; subst hB; subst hm2
 unfold aop; rw [hk]; simp only [ho]
 refine .inr (.inr ?_)
 unfold aappendS
 rw [ha, hty]
 simp only [hkt, hkx, hte, hz, hzk, opt1, if_pos]
 exact asrc_list hy hR2.len ⟨rows2, rfl, rfl, hR2.len, hR2.pure, .inr ⟨hx, hroom.1, hroom.2, h⟩⟩
theorem a_copyS {K KP : AV → Heap → Nat → Prop} {c : Call} {x y : Operand} {t tx e : TypeId} {te : TI} {id off nn cp m k k' : Nat} {cs : List AV} {rows rows' : List (List AV)} {L0 : Heap} (ho : o.op = .call c) (hk : opKind o = .mem) (hc : c.callee = .builtin .copy) (ha : c.args.toList = [x, y]) (hty : c.argTypes.toList = [t, tx])
  (hkt : kindT TT t = .slice e) (hte : TT e = some te) (hx : ev s x = .arr id off nn cp) (hta : ∀ k' : Res → Heap → Prop, k' (.seq rows k) L0 → takeO L id k') (hy : ∀ K : Nat → List AV → Prop, K m cs → asrc L te.size (fun m => Nat.min m nn) (ev s y) K) (hne : rows.length + k ≠ 0) (hle : off + Nat.min m nn * te.size ≤ (seqC rows k).length)
  (hput : putCells (seqC rows k) off cs = seqC rows' k') (hpure : ∀ a ∈ rows'.flatten, a.pure = true) (h : K (.v (.int .i64 (Nat.min m nn : Nat))) ((id, .seq rows' k') :: L0) n) : aop P TT o s L n K KP := by
 unfold aop; rw [hk]; simp only [ho]
 unfold amem
 simp only [hc, ha, hty, hkt, hx, hte, opt1]
 exact hy _ (.inr ⟨rows, k, L0, rows', k', takeO_at hta, hne, hle, hput, hpure, h⟩)
theorem a_clearS {K KP : AV → Heap → Nat → Prop} {c : Call} {x : Operand} {t e : TypeId} {te : TI} {z : Value} {id off nn cp k k' : Nat} {rows rows' : List (List AV)} {L0 : Heap} (ho : o.op = .call c) (hk : opKind o = .mem) (hc : c.callee = .builtin .clear) (ha : c.args.toList = [x]) (hty : c.argTypes.toList = [t])
  (hkt : kindT TT t = .slice e) (hte : TT e = some te) (hz : te.zero = some z) (hzk : zok te z = true) (hx : ev s x = .arr id off nn cp) (hta : ∀ k' : Res → Heap → Prop, k' (.seq rows k) L0 → takeO L id k') (hne : rows.length + k ≠ 0) (hle : off + nn * te.size ≤ (seqC rows k).length)
  (hput : putCells (seqC rows k) off (List.replicate (nn * te.size) .dead) = seqC rows' k') (hpure : ∀ a ∈ rows'.flatten, a.pure = true) (h : K (.tuple []) ((id, .seq rows' k') :: L0) n) : aop P TT o s L n K KP := by
 unfold aop; rw [hk]; simp only [ho]
 unfold amem
 simp only [hc, ha, hty, hkt, hx, hte, hz, hzk, opt1, if_pos]
 exact .inr ⟨rows, k, L0, rows', k', takeO_at hta, hne, hle, hput, hpure, h⟩
theorem flat_at {rows : List (List AV)} {sz i j : Nat} {row : List AV} {a : AV} (hl : ∀ row ∈ rows, row.length = sz) (hi : rows[i]? = some row) (hj : row[j]? = some a) (k : Nat) : (seqC rows k)[i * sz + j]? = some a := by
 unfold seqC
 have := flat_get hl hi hj
 rw [List.getElem?_append_left (List.getElem?_eq_some_iff.1 this).1]
 exact this
theorem a_loadSeq {K KP : AV → Heap → Nat → Prop} {t : TypeId} {x : Operand} {ti : TI} {id off sz i j k : Nat} {rows : List (List AV)} {row : List AV} (ho : o.op = .load t x) (ht : TT t = some ti) (hx : ev s x = .ptr id off) (hf : findL L id = some (.seq rows k)) (hk : isAggK ti.kind = false)
  (hl : RowsOk sz rows) (hi : rows[i]? = some row) (hj : row[j]? = some av) (hoff : off = i * sz + j) (h : K av L n) : aop P TT o s L n K KP := by
 subst hoff
 unfold aop opKind; simp only [ho]; unfold aq; simp only [ho]; rw [ht, hx]
 simp only [opt1, aload, hf, hk, flat_at hl.len hi hj, Bool.false_eq_true, if_false]
 exact .inl h
theorem flat_cut {rows : List (List AV)} {sz i j m : Nat} {row : List AV} (hl : ∀ row ∈ rows, row.length = sz) (hi : rows[i]? = some row) (hj : j + m ≤ sz) (k : Nat) : i * sz + j + m ≤ (seqC rows k).length ∧ ((seqC rows k).drop (i * sz + j)).take m = (row.drop j).take m := by
 have hrow := hl row (List.mem_of_getElem? hi)
 have hlt := (List.getElem?_eq_some_iff.1 hi).1
 have hfl := flatten_length hl
 have hle : i * sz + sz ≤ rows.flatten.length := by
  rw [hfl, ← Nat.succ_mul]; exact Nat.mul_le_mul_right _ hlt
 refine ⟨by unfold seqC; rw [List.length_append]; omega, ?_⟩
 apply List.ext_getElem?
 intro q
 rw [List.getElem?_take, List.getElem?_take]
 split
 ·rename_i hq
  rw [List.getElem?_drop, List.getElem?_drop]
  have h1 : row[j + q]? = some (row[j + q]'(by omega)) := List.getElem?_eq_getElem _
  rw [h1, Nat.add_assoc]
  exact flat_at hl hi h1 k
 ·rfl
theorem a_loadSeqA {K KP : AV → Heap → Nat → Prop} {t : TypeId} {x : Operand} {ti : TI} {id off sz i j k : Nat} {rows : List (List AV)} {row cells : List AV} (ho : o.op = .load t x) (ht : TT t = some ti) (hx : ev s x = .ptr id off) (hf : findL L id = some (.seq rows k)) (hk : isAggK ti.kind = true)
  (hl : RowsOk sz rows) (hi : rows[i]? = some row) (hj : j + ti.size ≤ sz) (hc : (row.drop j).take ti.size = cells) (hoff : off = i * sz + j) (h : K (.agg cells) L n) : aop P TT o s L n K KP := by
 subst hoff; subst hc
 obtain ⟨h1, h2⟩ := flat_cut hl.len hi hj k
 unfold aop opKind; simp only [ho]; unfold aq; simp only [ho]; rw [ht, hx]
 simp only [opt1, aload, hf, hk, if_pos h1, if_true, h2]
 exact .inl h
theorem flat_put {rows : List (List AV)} {sz i j : Nat} {row l : List AV} (hl : ∀ row ∈ rows, row.length = sz) (hi : rows[i]? = some row) (hj : j + l.length ≤ sz) (k : Nat) : putCells (seqC rows k) (i * sz + j) l = seqC (rows.set i (putCells row j l)) k := by
 have hrow := hl row (List.mem_of_getElem? hi)
 have hlt := (List.getElem?_eq_some_iff.1 hi).1
 induction rows generalizing i with
 | nil => simp at hlt
 | cons r rows ih =>
  have hr : r.length = sz := hl r (by simp)
  cases i with
  | zero =>
   simp only [List.getElem?_cons_zero, Option.some.injEq] at hi
   subst hi
   unfold putCells seqC
   simp only [List.set_cons_zero, List.flatten_cons, Nat.zero_mul, Nat.zero_add, List.append_assoc]
   rw [List.take_append_of_le_length (by omega), List.drop_append_of_le_length (by omega)]
  | succ i =>
   have h1 := ih (i := i) (fun row hm => hl row (List.mem_cons_of_mem _ hm)) (by simpa using hi) (by simpa using hlt)
   unfold putCells seqC at h1 ⊢
   simp only [List.set_cons_succ, List.flatten_cons, List.append_assoc]
   have e : (i + 1) * sz + j = r.length + (i * sz + j) := by rw [hr, Nat.succ_mul]; omega
   rw [e, Nat.add_assoc, List.take_length_add_append, List.drop_length_add_append, List.append_assoc, h1]
theorem a_storeSeq {K KP : AV → Heap → Nat → Prop} {t : TypeId} {x y : Operand} {ti : TI} {id off sz i j k : Nat} {rows : List (List AV)} {row row' l : List AV} {L0 : Heap} (ho : o.op = .store t x y) (ht : TT t = some ti) (hx : ev s x = .ptr id off) (hta : ∀ k' : Res → Heap → Prop, k' (.seq rows k) L0 → takeO L id k') (hl : acells (ev s y) = some l)
  (hlo : (l.all AV.one && (l.all AV.pure && (Nat.beq l.length ti.size && Nat.blt 0 l.length))) = true) (hR : RowsOk sz rows) (hi : rows[i]? = some row) (hj : j + l.length ≤ sz) (hrow : putCells row j l = row') (hoff : off = i * sz + j) (h : K .dead ((id, .seq (rows.set i row') k) :: L0) n) : aop P TT o s L n K KP := by
 subst hoff; subst hrow
 simp only [Bool.and_eq_true] at hlo
 obtain ⟨l1, l2, l3, l4⟩ := hlo
 have hlt := (List.getElem?_eq_some_iff.1 hi).1
 have hfl := flatten_length hR.len
 have hle : i * sz + sz ≤ rows.flatten.length := by
  rw [hfl, ← Nat.succ_mul]; exact Nat.mul_le_mul_right _ hlt
 have hrm := hR.row (List.mem_of_getElem? hi)
 unfold aop opKind; simp only [ho]
 refine .inr ?_
 unfold astoreS
 rw [ht]
 refine ⟨id, i * sz + j, rows, k, L0, l, _, hx, takeO_at hta, hl, l1, Nat.eq_of_beq_eq_true l3, Nat.le_of_ble_eq_true l4, by unfold seqC; rw [List.length_append]; omega, flat_put hR.len hi hj k, fun a ha => ?_, h⟩
 obtain ⟨r, hr, hm⟩ := List.mem_flatten.1 ha
 rcases List.mem_or_eq_of_mem_set hr with hr | rfl
 ·exact hR.pure a (List.mem_flatten.2 ⟨r, hr, hm⟩)
 ·unfold putCells at hm
  rcases List.mem_append.1 hm with hm | hm
  ·exact List.all_eq_true.1 hrm.2.2 a (List.mem_of_mem_take hm)
  ·rcases List.mem_append.1 hm with hm | hm
   ·exact List.all_eq_true.1 l2 a hm
   ·exact List.all_eq_true.1 hrm.2.2 a (List.mem_of_mem_drop hm)
theorem RowsOk.set {sz i j : Nat} {rows : List (List AV)} {row l : List AV} (h : RowsOk sz rows) (hi : rows[i]? = some row) (hj : j + l.length ≤ sz) (hl : (l.all AV.one && l.all AV.pure) = true) : RowsOk sz (rows.set i (putCells row j l)) :=
 .of fun r hr => by
  rw [Bool.and_eq_true] at hl
  rcases List.mem_or_eq_of_mem_set hr with hr | rfl
  ·exact h.row hr
  ·obtain ⟨h1, h2, h3⟩ := h.row (List.mem_of_getElem? hi)
   have hp : ∀ a ∈ putCells row j l, a ∈ row ∨ a ∈ l := fun a hm => by
    unfold putCells at hm
    rcases List.mem_append.1 hm with hm | hm
    ·exact .inl (List.mem_of_mem_take hm)
    ·rcases List.mem_append.1 hm with hm | hm
     ·exact .inr hm
     ·exact .inl (List.mem_of_mem_drop hm)
   refine ⟨by rw [put_len (by omega)]; exact h1, List.all_eq_true.2 fun a ha => ?_, List.all_eq_true.2 fun a ha => ?_⟩
   ·exact (hp a ha).elim (List.all_eq_true.1 h2 a) (List.all_eq_true.1 hl.1 a)
   ·exact (hp a ha).elim (List.all_eq_true.1 h3 a) (List.all_eq_true.1 hl.2 a)
theorem a_panic {K KP : AV → Heap → Nat → Prop} {x : Operand} {t : TypeId} {y : AV} (ho : o.op = .panic x) (hx : ev s x = .iface t y) (h : KP (.iface t y) L n) : aop P TT o s L n K KP := by
 unfold aop opKind; simp only [ho]; rw [hx]; exact h
theorem a_call {K KP : AV → Heap → Nat → Prop} {c : Call} {x : Operand} {f : FuncId} {cap : List AV} {args : List AV} (ho : o.op = .call c) (hk : opKind o = .call) (hc : c.callee = .value x) (hx : ev s x = .fn f cap) (ha : ∀ k : List AV → Prop, k args → forceA (c.args.toList.map (ev s) ++ cap) k)
  (h : acall P f args L n K KP) : aop P TT o s L n K KP := by
 unfold aop; rw [hk]; simp only [ho, hc, hx]
 have := ha (fun args => acall P f args L n K KP) h
 rwa [forceA_eq] at this
theorem a_callS {K KP : AV → Heap → Nat → Prop} {c : Call} {x : Operand} {f : FuncId} {cap : List AV} {args : List AV} (ho : o.op = .call c) (hk : opKind o = .call) (hc : c.callee = .value x) (hx : ev s x = .fn f cap) (ha : c.args.toList.map (ev s) ++ cap = args)
  (h : acall P f args L n K KP) : aop P TT o s L n K KP := by
 subst ha
 unfold aop; rw [hk]; simp only [ho, hc, hx]; exact h
theorem by_contract {f : FuncId} {args args0 : List AV} {k top : Nat} {H0 rest : Heap} {R : AOut → Heap → Prop} {K KP : AV → Heap → Nat → Prop} (ids : List Nat) (hC : ACalls P f k top args0 H0 R) (hids : (Nat.beq ids.length k && (ids.all (fun i => Nat.blt i n) && Nat.ble k top)) = true) (hnd : ids.Nodup)
  (hargs : LeL args (AV.renL (rn ids n) args0)) (hperm : L.Perm (renH (rn ids n) H0 ++ rest))
  (hret : ∀ x H', R (.ret x) H' → K (x.ren (rn ids n)) (renH (rn ids n) H' ++ rest) (n + (top - k))) (hpanic : ∀ x H', R (.panic x) H' → KP (x.ren (rn ids n)) (renH (rn ids n) H' ++ rest) (n + (top - k))) : acall P f args L n K KP := by
 simp only [Bool.and_eq_true, List.all_eq_true] at hids
 obtain ⟨h1, h2, h3⟩ := hids
 refine ⟨k, top, args0, H0, R, ids, rest, hC, ⟨Nat.eq_of_beq_eq_true h1, hnd, fun i hi => ?_, Nat.le_of_ble_eq_true h3, hargs, hperm⟩, fun out H' hR => ?_⟩
 ·have := h2 i hi; exact Nat.le_of_ble_eq_true this
 ·cases out with
  | ret x => exact hret x H' hR
  | panic x => exact hpanic x H' hR
def pickH (i : Nat) : Heap → (Res → Heap → Prop) → Prop
 | [], _ => False
 | (j, r) :: L, k => match Nat.beq j i with
  | true => k r L
  | false => pickH i L fun r' L' => k r' ((j, r) :: L')
def takeH : List Nat → Heap → (Heap → Heap → Prop) → Prop
 | [], L, k => k [] L
 | i :: is, L, k => pickH i L fun r L' => takeH is L' fun a b => k ((i, r) :: a) b
theorem pickH_spec {i : Nat} : ∀ {L : Heap} {k : Res → Heap → Prop}, pickH i L k → ∃ r L', L.Perm ((i, r) :: L') ∧ k r L'
 | [], _, h => h.elim
 | (j, r) :: L, k, h => by
  unfold pickH at h
  split at h
  ·rename_i he
   have := Nat.eq_of_beq_eq_true he
   subst this
   exact ⟨r, L, .refl _, h⟩
  ·obtain ⟨r', L', h1, h2⟩ := pickH_spec h
   exact ⟨r', _, (h1.cons _).trans (.swap _ _ _), h2⟩
theorem takeH_spec : ∀ {is : List Nat} {L : Heap} {k : Heap → Heap → Prop}, takeH is L k → ∃ a b, L.Perm (a ++ b) ∧ k a b
 | [], L, k, h => ⟨[], L, .refl _, h⟩
 | i :: is, L, k, h => by
  obtain ⟨r, L', h1, h2⟩ := pickH_spec h
  obtain ⟨a, b, h3, h4⟩ := takeH_spec h2
  exact ⟨_, b, h1.trans (h3.cons _), h4⟩
theorem takeH_to {is : List Nat} {L A R : Heap} (h : ∀ k : Heap → Heap → Prop, k A R → takeH is L k) : L.Perm (A ++ R) := by
 obtain ⟨a, b, h1, h2, h3⟩ := takeH_spec (h (fun a b => a = A ∧ b = R) ⟨rfl, rfl⟩)
 subst h2; subst h3; exact h1
def nodupB : List Nat → Bool
 | [] => true
 | a :: l => !(l.any (Nat.beq a)) && nodupB l
theorem nodupB_spec : ∀ {l : List Nat}, nodupB l = true → l.Nodup
 | [], _ => .nil
 | a :: l, h => by
  unfold nodupB at h
  simp only [Bool.and_eq_true, Bool.not_eq_true', List.any_eq_false] at h
  refine List.nodup_cons.2 ⟨fun hm => h.1 a hm (Nat.beq_refl a), nodupB_spec h.2⟩
def keysH : Heap → List Nat
 | [] => []
 | (i, _) :: H => i :: keysH H
theorem by_c {f : FuncId} {args args0 : List AV} {k top n' : Nat} {H0 H1 rest : Heap} {R : AOut → Heap → Prop} {K KP : AV → Heap → Nat → Prop} (ids : List Nat) (hC : ACalls P f k top args0 H0 R) (hids : (Nat.beq ids.length k && (ids.all (fun i => Nat.blt i n) && (Nat.ble k top && nodupB ids))) = true)
  (hargs : LeL args (AV.renL (rn ids n) args0)) (ht : ∀ k : Heap → Heap → Prop, k H1 rest → takeH (keysH (renH (rn ids n) H0)) L k) (heq : H1 = renH (rn ids n) H0) (hn : n + (top - k) = n')
  (hret : ∀ x H', R (.ret x) H' → K (x.ren (rn ids n)) (renH (rn ids n) H' ++ rest) n') (hpanic : ∀ x H', R (.panic x) H' → KP (x.ren (rn ids n)) (renH (rn ids n) H' ++ rest) n') : acall P f args L n K KP := by
 simp only [Bool.and_eq_true] at hids
 obtain ⟨h1, h2, h3, h4⟩ := hids
 subst hn
 exact by_contract ids hC (by simp only [Bool.and_eq_true]; exact ⟨h1, h2, h3⟩) (nodupB_spec h4) hargs (by rw [← heq]; exact takeH_to ht) hret hpanic
def seqK (P : Program) (TT : Types) (D : Dr) (y : Code) (K : Kc) : Kc := fun e s L n => match e with
 | .normal => ∃ τ : ASt, SeqTo D.low ⟨s, L, n⟩ τ ∧ acode P TT D y τ.slots τ.L τ.next K
 | e => K e s L n
def blockK (id : Nat) (K : Kc) : Kc := fun e s L n => match e with
 | .exit i => match Nat.beq i id with
  | true => K .normal s L n
  | false => K (.exit i) s L n
 | e => K e s L n
def panK (K : Kc) : AV → Kn := fun x => K (.panic x)
theorem c_skip (h : Kk .normal s L n) : acode P TT D .skip s L n Kk := h
theorem c_region {id : Nat} {l : List Oper} (h : aops P TT l l s L n (Kk .normal) (panK Kk)) : acode P TT D (.region id l.toArray false) s L n Kk := h
theorem c_draw {d : Nat → List Oper → List AV → Heap → Nat → Kc → Prop} {low : Nat → Prop} {id : Nat} {l : List Oper} (h : d id l s L n Kk) : acode P TT ⟨d, low⟩ (.region id l.toArray true) s L n Kk := h
theorem c_seq {x y : Code} (h : acode P TT D x s L n (seqK P TT D y Kk)) : acode P TT D (.seq x y) s L n Kk := h
theorem c_block {id : Nat} {x : Code} (h : acode P TT D x s L n (blockK id Kk)) : acode P TT D (.block id x) s L n Kk := h
theorem c_exit {id : Nat} (h : Kk (.exit id) s L n) : acode P TT D (.exit id) s L n Kk := h
theorem c_ret (h : Kk .ret s L n) : acode P TT D .ret s L n Kk := h
theorem zE {c : Operand} {x y : Code} {b : Bool} (hc : ev s c = .v (.bool b)) (h1 : b = true → acode P TT D x s L n Kk) (h2 : b = false → acode P TT D y s L n Kk) : acode P TT D (.cond c x y) s L n Kk := by
 unfold acode; rw [hc]; exact abr_intro h1 h2
theorem c_true {c : Operand} {x y : Code} (hc : ev s c = .v (.bool true)) (h : acode P TT D x s L n Kk) : acode P TT D (.cond c x y) s L n Kk := by
 unfold acode; rw [hc]; exact h
theorem c_false {c : Operand} {x y : Code} (hc : ev s c = .v (.bool false)) (h : acode P TT D y s L n Kk) : acode P TT D (.cond c x y) s L n Kk := by
 unfold acode; rw [hc]; exact h
theorem k_seq {y : Code} (h : acode P TT D y s L n Kk) : seqK P TT D y Kk .normal s L n := ⟨⟨s, L, n⟩, .inl (Conv.refl _), h⟩
theorem k_seq_to {y : Code} (τ : ASt) (hc : Conv ⟨s, L, n⟩ τ) (h : acode P TT D y τ.slots τ.L τ.next Kk) : seqK P TT D y Kk .normal s L n := ⟨τ, .inl hc, h⟩
theorem k_seq_ret {y : Code} (h : Kk .ret s L n) : seqK P TT D y Kk .ret s L n := h
theorem k_seq_exit {y : Code} {i : Nat} (h : Kk (.exit i) s L n) : seqK P TT D y Kk (.exit i) s L n := h
theorem k_seq_pan {y : Code} {x : AV} (h : Kk (.panic x) s L n) : seqK P TT D y Kk (.panic x) s L n := h
theorem k_block {id : Nat} (h : Kk .normal s L n) : blockK id Kk .normal s L n := h
theorem k_block_ret {id : Nat} (h : Kk .ret s L n) : blockK id Kk .ret s L n := h
theorem k_block_pan {id : Nat} {x : AV} (h : Kk (.panic x) s L n) : blockK id Kk (.panic x) s L n := h
theorem k_block_here {id i : Nat} (hi : Nat.beq i id = true) (h : Kk .normal s L n) : blockK id Kk (.exit i) s L n := by unfold blockK; simp only; rw [hi]; exact h
theorem k_pan {x : AV} (h : Kk (.panic x) s L n) : panK Kk x s L n := h
theorem k_opP {x : AV} (h : KP x s L n) : opP s KP x L n := h
theorem e_ret_to {res : List ResultVar} {top : Nat} {R : AOut → Heap → Prop} {l : List AV} {H' rest : Heap} {τ : ASt} (hc : Conv ⟨s, L, n⟩ τ) (hres : aresults TT τ.slots τ.L res = some l) (hR : R (.ret (aout l)) H') (hp : τ.L.Perm (H' ++ rest)) (hn : τ.next ≤ top) : aend P TT res top R .ret s L n :=
 ⟨τ, hc, by rw [hres]; exact ⟨H', rest, hR, hp, hn⟩⟩
theorem e_ret {res : List ResultVar} {top : Nat} {R : AOut → Heap → Prop} {l : List AV} {H' rest : Heap} (hres : aresults TT s L res = some l) (hR : R (.ret (aout l)) H') (hp : L.Perm (H' ++ rest)) (hn : n ≤ top) : aend P TT res top R .ret s L n :=
 ⟨⟨s, L, n⟩, Conv.refl _, by rw [hres]; exact ⟨H', rest, hR, hp, hn⟩⟩
theorem e_end {res : List ResultVar} {top : Nat} {R : AOut → Heap → Prop} (h : aend P TT res top R .ret s L n) : aend P TT res top R .normal s L n := h
theorem e_pan {res : List ResultVar} {top : Nat} {R : AOut → Heap → Prop} {x : AV} {H' rest : Heap} (hR : R (.panic x) H') (hp : L.Perm (H' ++ rest)) (hn : n ≤ top) : aend P TT res top R (.panic x) s L n := ⟨H', rest, hR, hp, hn⟩
/-! what a goal is -/
theorem zC {K KP : AV → Heap → Nat → Prop} (h : aop P TT o s L n K KP) : aop P TT o s L n K KP := h
theorem is_opK {d : Option Nat} (h : opK P TT all rest s d K KP av L n) : opK P TT all rest s d K KP av L n := h
theorem zA (h : aops P TT all (o :: rest) s L n K KP) : aops P TT all (o :: rest) s L n K KP := h
theorem zB {c : Operand} {x y : Code} (h : acode P TT D (.cond c x y) s L n Kk) : acode P TT D (.cond c x y) s L n Kk := h
theorem is_blockx {id i : Nat} (h : blockK id Kk (.exit i) s L n) : blockK id Kk (.exit i) s L n := h
theorem zD {j d : Nat} {want b : Bool} (hg : o.guard = some (j, want)) (hd : (all[j]?).bind (·.dst) = some d) (hb : getA s d = .v (.bool b)) (h1 : b = true → aops P TT all (o :: rest) s L n K KP) (h2 : b = false → aops P TT all (o :: rest) s L n K KP) : aops P TT all (o :: rest) s L n K KP := by
 cases b
 ·exact h2 rfl
 ·exact h1 rfl
theorem c_start {c : Code} (hs : ∀ k : List AV → Prop, k s' → forceA s k) (h : acode P TT D c s' L n Kk) : acode P TT D c s L n Kk := by
 have := hs (fun s => acode P TT D c s L n Kk) h
 rwa [forceA_eq] at this
theorem c_turn {c : Code} (hs : ∀ k : List AV → Prop, k s' → forceA s k) (hL : ∀ k : Heap → Prop, k L' → forceH L k) (hn : n = n') (h : acode P TT D c s' L' n' Kk) : acode P TT D c s L n Kk := by
 subst hn
 have h1 := hL (fun L => acode P TT D c s' L n Kk) h
 rw [forceH_eq] at h1
 have := hs (fun s => acode P TT D c s L n Kk) h1
 rwa [forceA_eq] at this
/-! states that say less -/
theorem Conv.drop {s : List AV} {H rest : Heap} {n n' : Nat} (hp : L.Perm (H ++ rest)) (hn : n ≤ n') : Conv ⟨s, L, n⟩ ⟨s, H, n'⟩ := fun B G a w hr =>
 ⟨G, hr.size, hr.slots, hr.defers, (hr.holds.perm hp).left, hr.step.sub hp, fun id hid => Nat.lt_of_lt_of_le (hr.next id hid) hn, hr.base, Nat.le_trans hr.low hn, hr.old⟩
theorem c_loop {x : Code} {α : Type} (S : α → ASt) (C : α → Prop) (μ : α → Nat) {a : α} (ha : C a) (hc : Conv ⟨s, L, n⟩ (S a)) (hround : ∀ a, C a → acode P TT D x (S a).slots (S a).L (S a).next fun e s' L' n' => match e with
  | .normal => ∃ b, C b ∧ μ b < μ a ∧ LoopTo D.low (S a).next ⟨s', L', n'⟩ (S b)
  | e => Kk e s' L' n') : acode P TT D (.loop x) s L n Kk := ⟨α, S, C, μ, ⟨a, ha, hc⟩, hround⟩
def loopK (low : Nat → Prop) {α : Type} (S : α → ASt) (C : α → Prop) (μ : α → Nat) (a : α) (K : Kc) : Kc := fun e s' L' n' => match e with
  | .normal => ∃ b, C b ∧ μ b < μ a ∧ LoopTo low (S a).next ⟨s', L', n'⟩ (S b)
  | e => K e s' L' n'
theorem c_loop' {x : Code} {α : Type} (S : α → ASt) (C : α → Prop) (μ : α → Nat) {a : α} (ha : C a) (hc : Conv ⟨s, L, n⟩ (S a)) (hround : ∀ a, C a → acode P TT D x (S a).slots (S a).L (S a).next (loopK D.low S C μ a Kk)) : acode P TT D (.loop x) s L n Kk := c_loop S C μ ha hc hround
theorem c_loop2 {x : Code} {α β : Type} (S : α → β → ASt) (C : α → β → Prop) (μ : α → β → Nat) (a : α) (b : β) (ha : C a b) (hc : Conv ⟨s, L, n⟩ (S a b)) (hround : ∀ a b, C a b → acode P TT D x (S a b).slots (S a b).L (S a b).next (loopK D.low (fun p : α × β => S p.1 p.2) (fun p => C p.1 p.2) (fun p => μ p.1 p.2) (a, b) Kk)) : acode P TT D (.loop x) s L n Kk :=
 c_loop' (fun p : α × β => S p.1 p.2) (fun p => C p.1 p.2) (fun p => μ p.1 p.2) (a := (a, b)) ha hc fun p h => hround p.1 p.2 h
theorem k_loop_ret {low : Nat → Prop} {α : Type} {S : α → ASt} {C : α → Prop} {μ : α → Nat} {a : α} (h : Kk .ret s L n) : loopK low S C μ a Kk .ret s L n := h
theorem k_loop_exit {low : Nat → Prop} {α : Type} {S : α → ASt} {C : α → Prop} {μ : α → Nat} {a : α} {i : Nat} (h : Kk (.exit i) s L n) : loopK low S C μ a Kk (.exit i) s L n := h
theorem k_loop_pan {low : Nat → Prop} {α : Type} {S : α → ASt} {C : α → Prop} {μ : α → Nat} {a : α} {x : AV} (h : Kk (.panic x) s L n) : loopK low S C μ a Kk (.panic x) s L n := h
theorem k_loop {low : Nat → Prop} {α : Type} {S : α → ASt} {C : α → Prop} {μ : α → Nat} {a : α} (b : α) (hb : C b) (hm : μ b < μ a) (hc : Conv ⟨s, L, n⟩ (S b)) : loopK low S C μ a Kk .normal s L n := ⟨b, hb, hm, .inl (hc.toN _)⟩
theorem k_loopR {low : Nat → Prop} {α : Type} {S : α → ASt} {C : α → Prop} {μ : α → Nat} {a : α} (b : α) (ids : List Nat) (hb : C b) (hm : μ b < μ a) (hc : Conv ⟨s, L, n⟩ ⟨AV.renL (rn ids n') (S b).slots, renH (rn ids n') (S b).L, n'⟩) (hM : ids.length = (S b).next := by rfl) (hnd : ids.Nodup := by decide) (hlt : ∀ i ∈ ids, i < n' := by decide) (hN : ∀ i, i < (S a).next → ids[i]? = some i := by decide) : loopK low S C μ a Kk .normal s L n := ⟨b, hb, hm, .inl ((ConvN.ren ids hnd hlt hN hM).after hc)⟩
theorem k_loopL {low : Nat → Prop} {α : Type} {S : α → ASt} {C : α → Prop} {μ : α → Nat} {a : α} (b : α) (N : Nat) (ids : List Nat) (hb : C b) (hm : μ b < μ a) (hlow : low N) (hc : Conv ⟨s, L, n⟩ ⟨AV.renL (rn ids n') (S b).slots, renH (rn ids n') (S b).L, n'⟩) (hM : ids.length = (S b).next := by rfl) (hnd : ids.Nodup := by decide) (hlt : ∀ i ∈ ids, i < n' := by decide) (hN : ∀ i, i < N → ids[i]? = some i := by decide) : loopK low S C μ a Kk .normal s L n := ⟨b, hb, hm, .inr ⟨N, hlow, (ConvN.ren ids hnd hlt hN hM).after hc⟩⟩
end
end Go.Am
