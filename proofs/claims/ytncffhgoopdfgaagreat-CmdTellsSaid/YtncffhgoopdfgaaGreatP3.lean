/- Part 3 of what the laws CmdTells rest on: AmM, AmN. -/
import Derived.Test.YtncffhgoopdfgaaGreatP2
import Derived.Lib.AppendZerosOnto
set_option linter.unusedSimpArgs false
set_option linter.unusedVariables false
namespace Go.Am
open Go.RowKit
theorem rows_news {X : Nat → Nat → Option Value} {rows : List (List AV)} {x : Value} {s : Nat} (h : SimD X (.list rows .free) x) (hr : ∀ row ∈ rows, row.length = s) :
  ∃ news : List Value, news.length = rows.length * s ∧ (∀ (i : Nat) (a : AV), rows.flatten[i]? = some a → ∃ y, news[i]? = some y ∧ SimD X a y ∧ y.oneCell' = true) ∧ (∀ u ∈ news, u.oneCell' = true) ∧
   (rows ≠ [] → ∃ b off c, x = .slice (some ⟨b, off, none⟩) rows.length c ∧ ∀ (j : Nat) (u : Value), news[j]? = some u → X b (off + j) = some u) := by
 by_cases h0 : rows = []
 ·subst h0
  exact ⟨[], by simp, (fun i a h => by simp at h), (fun u h => by cases h), fun h => absurd rfl h⟩
 ·obtain ⟨b, off, c, s', y, rfl, hr', hX, hS, h1⟩ := h.pos h0
  have hss : s' = s := by
   cases rows with
   | nil => exact absurd rfl h0
   | cons r rows => exact (hr' r (by simp)).symm.trans (hr r (by simp))
  subst hss
  have hfl := flatten_length hr
  have key : ∀ i a, rows.flatten[i]? = some a → X b (off + i) = some (y (i / s') (i % s')) ∧ SimD X a (y (i / s') (i % s')) ∧ (y (i / s') (i % s')).oneCell' = true := fun i a ha => by
   have hi := (List.getElem?_eq_some_iff.1 ha).1
   rw [hfl] at hi
   have hs0 : 0 < s' := by
    rcases Nat.eq_zero_or_pos s' with h | h
    ·subst h; simp at hi
    ·exact h
   have hd : i / s' < rows.length := Nat.div_lt_of_lt_mul (by rw [Nat.mul_comm]; exact hi)
   have hm : i % s' < s' := Nat.mod_lt _ hs0
   have e1 : rows[i / s']? = some rows[i / s'] := List.getElem?_eq_getElem hd
   have hl := hr _ (List.getElem_mem hd)
   have e2 : rows[i / s'][i % s']? = some (rows[i / s'][i % s']'(by rw [hl]; exact hm)) := List.getElem?_eq_getElem _
   have e3 := flat_get hr e1 e2
   have e4 : i / s' * s' + i % s' = i := by have := Nat.div_add_mod i s'; rw [Nat.mul_comm]; omega
   rw [e4, ha] at e3
   simp only [Option.some.injEq] at e3
   have k := hX _ _ _ _ e1 e2
   rw [Nat.add_assoc, e4] at k
   exact ⟨k, by rw [e3]; exact hS _ _ _ _ e1 e2, h1 _ _ _ _ e1 e2⟩
  refine ⟨(List.range (rows.length * s')).map fun i => y (i / s') (i % s'), by simp, fun i a ha => ?_, fun u hu => ?_, fun _ => ⟨b, off, c, rfl, fun j u hu => ?_⟩⟩
  ·have hi := (List.getElem?_eq_some_iff.1 ha).1
   rw [hfl] at hi
   obtain ⟨_, k2, k3⟩ := key i a ha
   exact ⟨_, by simp [hi], k2, k3⟩
  ·obtain ⟨i, hi, rfl⟩ := List.mem_map.1 hu
   rw [List.mem_range, ← hfl] at hi
   exact (key i _ (List.getElem?_eq_getElem hi)).2.2
  ·have hjl := (List.getElem?_eq_some_iff.1 hu).1
   simp only [List.length_map, List.length_range] at hjl
   have hu' : u = y (j / s') (j % s') := by
    rw [List.getElem?_map, List.getElem?_range hjl] at hu
    simpa using hu.symm
   rw [hu']
   exact (key j _ (List.getElem?_eq_getElem (by rw [hfl]; exact hjl))).1
theorem list_of_flat {X : Nat → Nat → Option Value} {rows : List (List AV)} {s b off c : Nat} {news : List Value} (hr : ∀ row ∈ rows, row.length = s) (hn : rows.length ≤ c) (hc : c ≤ maxLen)
  (hX : ∀ (j : Nat) (u : Value), news[j]? = some u → X b (off + j) = some u) (hS : ∀ (i : Nat) (a : AV), rows.flatten[i]? = some a → ∃ y, news[i]? = some y ∧ SimD X a y ∧ y.oneCell' = true) :
  SimD X (.list rows .free) (.slice (some ⟨b, off, none⟩) rows.length c) := by
 refine .list rows .free b off c s (fun i j => news.getD (i * s + j) undef) hn hc (by simp) (.inl rfl) hr (fun i row j a h1 h2 => ?_) (fun i row j a h1 h2 => ?_) (fun i row j a h1 h2 => ?_)
 all_goals
  obtain ⟨y, k1, k2, k3⟩ := hS _ a (flat_get hr h1 h2)
  have k4 : news.getD (i * s + j) undef = y := by simp [List.getD, k1]
 ·rw [k4, Nat.add_assoc]; exact hX _ _ k1
 ·rw [k4]; exact k2
 ·rw [k4]; exact k3
theorem src_of {P : Program} {X : Nat → Nat → Option Value} {w : World} {rows : List (List AV)} {x : Value} {s : Nat} {tx e' : TypeId} (hk : P.underlying tx = some (.slice e')) (h : SimD X (.list rows .free) x) (hw : ∀ b i v, X b i = some v → w.cell? ⟨b, i, none⟩ = some v)
  {news : List Value} (hl : news.length = rows.length * s) (h1 : ∀ u ∈ news, u.oneCell' = true) (hp : rows ≠ [] → ∃ b off c, x = .slice (some ⟨b, off, none⟩) rows.length c ∧ ∀ (j : Nat) (u : Value), news[j]? = some u → X b (off + j) = some u) : Src P s tx x rows.length news w := by
 by_cases h0 : rows = []
 ·subst h0
  obtain ⟨base, c, rfl, _⟩ := h.slice
  have hn : news = [] := by simpa using hl
  subst hn
  cases base with
  | none => exact Src.ofNil w hk c
  | some a => exact Src.ofSlice w hk a 0 c [] (by simp) (fun j u h => by simp at h) (fun u h => by cases h)
 ·obtain ⟨b, off, c, rfl, hX⟩ := hp h0
  exact Src.ofSlice w hk _ _ c news hl (fun j u hj => by rw [add_mk]; exact hw _ _ _ (hX j u hj)) h1
structure Fits (P : Program) (t tx e : TypeId) (ti te : TI) (s : Nat) (z : Value) : Prop where
 t : P.underlying t = some (.slice e)
 tx : ∃ e', P.underlying tx = some (.slice e')
 info : ∃ i, P.info? e = some i ∧ i.size = s ∧ i.bytes = te.bytes ∧ i.zero = some z
 s0 : 0 < s
 zs : z.cells.size = s
theorem append_tok {P : Program} {G : Ghost} {w : World} {k s : Nat} {rows rows2 : List (List AV)} {vx vy : Value} {t tx e ty : TypeId} {ti te : TI} {z : Value} (hF : Fits P t tx e ti te s z) (h : Holds G w [(k, .tok s rows.length)])
    (hx : SimD G.X (.list rows .free) vx) (hv : vx = (G.tk k).val) (hy : SimD G.X (.list rows2 .free) vy) (hr1 : ∀ row ∈ rows, row.length = s) (hr2 : ∀ row ∈ rows2, row.length = s)
    (hb : (rows.length + rows2.length) * te.bytes ≤ 140737488355328) (hm : rows.length + rows2.length ≤ 4611686018427387904) :
    ∃ v G' w', (Builtin.append_ #[t, tx] ty #[vx, vy]).run P w = .ok v w' ∧ Sim G' (.list (rows ++ rows2) (.tok k)) v ∧ Holds G' w' [(k, .tok s (rows.length + rows2.length))] ∧ Step G w [(k, .tok s rows.length)] G' w' [(k, .tok s (rows.length + rows2.length))] ∧ G'.live = G.live := by
  obtain ⟨ht, ⟨e', htx⟩, ⟨inf, hinf, his, hib, hiz⟩, hs0, hzs⟩ := hF
  obtain ⟨hts, htn, hsp⟩ := h.res _ (List.mem_singleton.2 rfl)
  have hlive := h.live (k, .tok s rows.length) (by simp)
  simp only at hlive
  obtain ⟨news, n1, n2, n3, n4⟩ := rows_news hy hr2
  obtain ⟨olds, o1, o2, o3, o4⟩ := rows_news hx hr1
  have hsrc := src_of (P := P) htx hy h.X n1 n3 n4
  have hXlt : ∀ b i v, G.X b i = some v → b < w.heap.size := fun b i v hx => by
    have := h.X b i v hx
    rcases Nat.lt_or_ge b w.heap.size with hlt | hge
    · exact hlt
    · simp [World.cell?, Array.getElem?_eq_none hge] at this
  have hrr : ∀ row ∈ rows ++ rows2, row.length = s := fun row hrow => by
    rcases List.mem_append.1 hrow with hrow | hrow
    · exact hr1 row hrow
    · exact hr2 row hrow
  have hlen : (rows ++ rows2).length = rows.length + rows2.length := List.length_append
  have hflat : ∀ (i : Nat) (a : AV), (rows ++ rows2).flatten[i]? = some a → ∃ y, (olds ++ news)[i]? = some y ∧ SimD G.X a y ∧ y.oneCell' = true := fun i a ha => by
    have hfl := flatten_length hr1
    rw [List.flatten_append, List.getElem?_append] at ha
    rw [List.getElem?_append, o1, ← hfl]
    split at ha
    · rename_i hi; rw [if_pos hi]; exact o2 i a ha
    · rename_i hi; rw [if_neg hi]; exact n2 _ a ha
  by_cases hz : rows2 = []
  · subst hz
    obtain ⟨base, c, rfl, hc1, hc2, _⟩ := hx.slice
    have hn : news = [] := by simpa using n1
    subst hn
    refine ⟨_, G, w, run_append_nothing w t tx ty e inf ht hinf base rows.length c hc1 vy (by rw [his]; exact hsrc), ?_, by simpa using h, by simpa using Step.refl G w _, rfl⟩
    rw [List.append_nil]
    exact .tok rows k _ hlive hx (by rw [htn]; exact Nat.le_refl _) (by rw [hts]; exact hr1) (fun _ => hv)
  have hpos : 0 < rows2.length := List.length_pos_iff.2 hz
  have fin : ∀ (v : Value) (G' : Ghost) (w' : World) (b off cap : Nat) , G'.loc = G.loc → G'.live = G.live → G'.lits = G.lits → G'.base = G.base → G'.tk = (fun i => if i = k then ⟨s, rows.length + rows2.length, v, some (b, off, cap)⟩ else G.tk i) →
      v = .slice (some ⟨b, off, none⟩) (rows.length + rows2.length) cap → rows.length + rows2.length ≤ cap → cap ≤ maxLen → (b ∈ blocksOf G [(k, .tok s rows.length)] ∨ (w.heap.size ≤ b ∧ b < w'.heap.size)) →
      (∃ arr E fr, w'.heap[b]? = some (.cells arr E fr) ∧ off + cap * s ≤ arr.size ∧ ∀ i, i < arr.size → w'.frozen? ⟨b, i, none⟩ = false) → (∀ i, off + (rows.length + rows2.length) * s ≤ i → G'.X b i = none) →
      (∀ b i v, G.X b i = some v → G'.X b i = some v) → (∀ b' i v, G'.X b' i = some v → G.X b' i = some v ∨ b' = b) → (∀ b' i v, G'.X b' i = some v → w'.cell? ⟨b', i, none⟩ = some v) →
      w'.os = w.os → w'.tape = w.tape → w'.output = w.output → w.heap.size ≤ w'.heap.size → (∀ b', b' < w.heap.size → b' ∉ blocksOf G [(k, .tok s rows.length)] → w'.heap[b']? = w.heap[b']?) →
      SimD G'.X (.list (rows ++ rows2) .free) v → Sim G' (.list (rows ++ rows2) (.tok k)) v ∧ Holds G' w' [(k, .tok s (rows.length + rows2.length))] ∧ Step G w [(k, .tok s rows.length)] G' w' [(k, .tok s (rows.length + rows2.length))] := by
    intro v G' w' b off cap g1 g2 g3 g4 g5 hv' hle hcap hbk harr hxn hX1 hX2 hX3 p1 p2 p3 p4 hfr hsd
    have htk : G'.tk k = ⟨s, rows.length + rows2.length, v, some (b, off, cap)⟩ := by rw [g5]; simp
    have hb' : blocksOf G' [(k, .tok s (rows.length + rows2.length))] = [b] := by simp [blocksOf, Ghost.placed, htk]
    refine ⟨.tok _ k _ (by rw [g2]; exact hlive) hsd (by rw [htk, hlen]; exact Nat.le_refl _) (by rw [htk]; exact hrr) (fun _ => by rw [htk]), ⟨hX3, fun r hr => ?_, by simp, fun r hr => ?_, by rw [hb']; simp, fun c hc => ?_⟩,
      ⟨p1, p2, p3, p4, g4, hX1, fun c hlt hn => ⟨.inl (hfr c hlt hn), fun _ => hfr c hlt hn⟩, fun c i u hu => ?_, fun c hc => ?_, fun i hi => ?_, fun i hi => .inl (by simpa using hi), fun c hc => by rw [g3]; exact hc, fun c hc => by rw [g3] at hc; exact .inl hc⟩⟩
    · obtain rfl := List.mem_singleton.1 hr
      unfold ResHolds
      simp only [htk]
      exact ⟨trivial, trivial, hv', hle, hcap, harr, hxn⟩
    · obtain rfl := List.mem_singleton.1 hr
      rw [g2]; exact hlive
    · rw [g3] at hc
      obtain ⟨q1, q2, q3⟩ := h.lits c hc
      refine ⟨by rw [g4]; exact q1, by omega, ?_⟩
      rw [hb']
      intro hm
      have : c = b := by simpa using hm
      subst this
      rcases hbk with hbk | hbk
      · exact q3 hbk
      · omega
    · rcases hX2 c i u hu with hu | rfl
      · exact .inl hu
      · rcases hbk with hbk | hbk
        · exact .inr (.inr hbk)
        · exact .inr (.inl hbk.1)
    · rw [hb'] at hc
      have : c = b := by simpa using hc
      subst this
      exact hbk.imp_right And.left
    · refine ⟨by rw [g2]; exact hi, by rw [g1], ?_⟩
      by_cases hik : i = k
      · subst hik
        right
        refine ⟨by simp, ?_, by rw [htk, hts]⟩
        rw [htk, htn]; simp only; omega
      · left; rw [g5]; simp [hik]
  by_cases hroom : ∃ b off cap, (G.tk k).spare = some (b, off, cap) ∧ rows.length + rows2.length ≤ cap
  · obtain ⟨b, off, cap, hspare, hcap⟩ := hroom
    rw [hspare] at hsp
    obtain ⟨hval, _, hcm, ⟨arr, E, fr, hh, hsz, hfz⟩, hxn⟩ := hsp
    have hbl : blocksOf G [(k, .tok s rows.length)] = [b] := by simp [blocksOf, Ghost.placed, hspare]
    have hle2 : off + rows.length * s + rows2.length * s ≤ off + cap * s := by
      have := Nat.mul_le_mul_right s hcap
      rw [Nat.add_mul] at this; omega
    obtain ⟨arr', a1, a2, a3⟩ := setCells_heap b news (off + rows.length * s) w arr E fr hh (by rw [n1]; omega)
    obtain ⟨p1, p2, p3, p4, p5⟩ := setCells_other b news (off + rows.length * s) w
    have hrun := run_append_room_src (P := P) w t tx ty e inf ht hinf b off rows.length cap vy rows2.length news (by rw [his]; exact hsrc) hcap
      (fun j hj => by rw [his]; rw [n1] at hj; have : off + rows.length * s + j < arr.size := by omega
                      simp [World.cell?, hh, this]) (fun j hj => by rw [his]; rw [n1] at hj; exact hfz _ (by omega))
    rw [his] at hrun
    rw [hv, hval]
    have hxval : vx = .slice (some ⟨b, off, none⟩) rows.length cap := by rw [hv, hval]
    have hold : ∀ j u, olds[j]? = some u → G.X b (off + j) = some u := fun j u hj => by
      by_cases h0 : rows = []
      · have : olds = [] := by subst h0; simpa using o1
        subst this; simp at hj
      · obtain ⟨b1, off1, c1, e1, e2⟩ := o4 h0
        rw [hxval] at e1
        simp only [Value.slice.injEq, Option.some.injEq, Addr.mk.injEq] at e1
        obtain ⟨⟨rfl, rfl, _⟩, _, _⟩ := e1
        exact e2 j u hj
    have hin : ∀ j u, news[j]? = some u → j < rows2.length * s := fun j u hj => by rw [← n1]; exact (List.getElem?_eq_some_iff.1 hj).1
    let X' : Nat → Nat → Option Value := fun b' i => if b' = b ∧ off + rows.length * s ≤ i then news[i - (off + rows.length * s)]? else G.X b' i
    have hX1 : ∀ b i v, G.X b i = some v → X' b i = some v := fun b' i u hu => by
      show (if b' = b ∧ off + rows.length * s ≤ i then news[i - (off + rows.length * s)]? else G.X b' i) = some u
      rw [if_neg]
      · exact hu
      · rintro ⟨rfl, hi⟩
        rw [hxn i hi] at hu; cases hu
    refine ⟨_, { G with X := X', tk := fun i => if i = k then ⟨s, rows.length + rows2.length, .slice (some ⟨b, off, none⟩) (rows.length + rows2.length) cap, some (b, off, cap)⟩ else G.tk i }, _, hrun, ?_⟩
    have := fin (.slice (some ⟨b, off, none⟩) (rows.length + rows2.length) cap) { G with X := X', tk := fun i => if i = k then ⟨s, rows.length + rows2.length, .slice (some ⟨b, off, none⟩) (rows.length + rows2.length) cap, some (b, off, cap)⟩ else G.tk i }
      (w.setCells b (off + rows.length * s) news) b off cap rfl rfl rfl rfl rfl rfl hcap hcm (.inl (by rw [hbl]; simp)) ⟨arr', E, fr, a1, by rw [a2]; exact hsz, fun i hi => by
        have := hfz i (by rw [← a2]; exact hi)
        simp only [World.frozen?, hh] at this
        simp only [World.frozen?, a1]; exact this⟩ (fun i hi => by
        show (if b = b ∧ off + rows.length * s ≤ i then news[i - (off + rows.length * s)]? else G.X b i) = none
        rw [Nat.add_mul] at hi
        rw [if_pos ⟨rfl, by omega⟩, List.getElem?_eq_none (by omega)]) hX1 (fun b' i u hu => by
        by_cases hbb : b' = b
        · exact .inr hbb
        · left
          have : X' b' i = G.X b' i := if_neg (by rintro ⟨h, _⟩; exact hbb h)
          rw [← this]; exact hu) (fun b' i u hu => by
        replace hu : (if b' = b ∧ off + rows.length * s ≤ i then news[i - (off + rows.length * s)]? else G.X b' i) = some u := hu
        split at hu
        · rename_i hc
          obtain ⟨rfl, hi⟩ := hc
          have hj := hin _ u hu
          have hlt : i < arr'.size := by rw [a2]; omega
          have h3 := a3 i
          rw [if_pos (by rw [n1]; omega)] at h3
          simp only [List.getD, hu, Option.getD_some] at h3
          have h4 : arr'.getD i undef = arr'[i] := by simp [hlt]
          rw [h4] at h3
          simp [World.cell?, a1, hlt, h3]
        · rename_i hc
          by_cases hbb : b' = b
          · subst hbb
            have hi : i < off + rows.length * s := by
              rcases Nat.lt_or_ge i (off + rows.length * s) with h | h
              · exact h
              · exact absurd ⟨rfl, h⟩ hc
            have h5 := h.X _ _ _ hu
            have hlt : i < arr.size := by
              simp only [World.cell?, hh] at h5
              exact (Array.getElem?_eq_some_iff.1 (by simpa using h5)).1
            have h3 := a3 i
            rw [if_neg (by omega)] at h3
            have h4 : arr'.getD i undef = arr'[i]'(by rw [a2]; exact hlt) := by simp [a2, hlt]
            have h6 : arr.getD i undef = arr[i] := by simp [hlt]
            rw [h4, h6] at h3
            simp only [World.cell?, hh] at h5
            have h7 : arr[i]? = some u := by simpa using h5
            simp only [World.cell?, a1]
            have h8 : arr'[i]? = some u := by
              rw [Array.getElem?_eq_getElem (by rw [a2]; exact hlt), h3]
              rw [Array.getElem?_eq_getElem hlt] at h7; exact h7
            simpa using h8
          · have := h.X _ _ _ hu
            rw [← this]; simp [World.cell?, p5 b' hbb]) p1 p2 p3 (by rw [p4]; exact Nat.le_refl _) (fun b' _ hn => p5 b' (fun e => hn (by rw [hbl]; simp [e])))
      (by rw [← hlen]; exact list_of_flat (news := olds ++ news) hrr (by rw [hlen]; exact hcap) hcm (fun j u hj => by
            rw [List.getElem?_append] at hj
            split at hj
            · exact hX1 _ _ _ (hold j u hj)
            · rename_i hjl
              show (if b = b ∧ off + rows.length * s ≤ off + j then news[off + j - (off + rows.length * s)]? else G.X b (off + j)) = some u
              rw [o1] at hjl hj
              rw [if_pos ⟨rfl, by omega⟩, show off + j - (off + rows.length * s) = j - rows.length * s by omega]
              exact hj) (fun i a ha => let ⟨y, y1, y2, y3⟩ := hflat i a ha; ⟨y, y1, y2.mono hX1, y3⟩))
    exact ⟨this.1, this.2.1, this.2.2, rfl⟩
  · obtain ⟨base, c, hxe, hc1, hc2, _⟩ := hx.slice
    have hclt : c < rows.length + rows2.length := by
      cases hspare : (G.tk k).spare with
      | none =>
        rw [hspare] at hsp
        obtain ⟨base', hval, _⟩ := hsp
        rw [← hv, hxe] at hval
        simp only [Value.slice.injEq] at hval
        omega
      | some p =>
        obtain ⟨b, off, cap⟩ := p
        rw [hspare] at hsp
        have hval := hsp.1
        rw [← hv, hxe] at hval
        simp only [Value.slice.injEq] at hval
        rcases Nat.lt_or_ge cap (rows.length + rows2.length) with hlt | hge
        · omega
        · exact absurd ⟨b, off, cap, hspare, hge⟩ hroom
    have hsrcx := src_of (P := P) ht hx h.X o1 o3 o4
    have hfit : Builtin.nextslicecap (rows.length + rows2.length) c * inf.bytes ≤ 281474976710656 := by
      have h1 := Nat.mul_le_mul_right inf.bytes (Go.Room.nextslicecap_le' hclt)
      rw [hib] at h1 ⊢
      rw [Nat.mul_assoc] at h1
      omega
    have hrun := run_append_grow_src (P := P) w t tx ty e inf z ht hinf hiz base rows.length c olds (by rw [his, ← hxe]; exact hsrcx.cellsD) vy rows2.length news (by rw [his]; exact hsrc) hclt (by omega) hfit
    have hcap := grownCap_ge w (rows.length + rows2.length) c e
    have hcapm := grownCap_le_maxLen w (rows.length + rows2.length) c e (by unfold maxLen; omega)
    generalize hce : grownCap w (rows.length + rows2.length) c e = cap at hrun hcap hcapm
    generalize harr : (olds ++ news).toArray ++ Builtin.zeroCells z.cells (cap - (rows.length + rows2.length)) = arr at hrun
    have hsz : arr.size = cap * s := by
      rw [← harr]
      simp only [Array.size_append, List.size_toArray, List.length_append, size_zeroCells, o1, n1, hzs]
      rw [Nat.sub_mul, Nat.add_mul]
      have := Nat.mul_le_mul_right s hcap
      rw [Nat.add_mul] at this
      omega
    have hh' : Holds G w.drew [(k, .tok s rows.length)] := ⟨h.X, h.res, h.ids, h.live, h.blocks, h.lits⟩
    have hg := grow_alloc hh' arr e (0, 0) ((rows.length + rows2.length) * s)
    have hnewb : (w.drew.alloc (.cells arr e)).heap[w.heap.size]? = some (.cells arr e) := by
      show (w.heap.push _)[w.heap.size]? = _
      simp
    have hget : ∀ (j : Nat) (u : Value), (olds ++ news)[j]? = some u → arr[j]? = some u := fun j u hj => by
      rw [← harr]
      have := (List.getElem?_eq_some_iff.1 hj).1
      rw [Array.getElem?_append_left (by simpa using this)]
      simpa using hj
    have hsd : SimD (G.sealed w.heap.size arr ((rows.length + rows2.length) * s)).X (.list (rows ++ rows2) .free) (.slice (some ⟨w.heap.size, 0, none⟩) (rows.length + rows2.length) cap) := by
      have := list_of_flat (X := (G.sealed w.heap.size arr ((rows.length + rows2.length) * s)).X) (off := 0) (b := w.heap.size) (c := cap) (news := olds ++ news) hrr (by rw [hlen]; exact hcap) hcapm (fun j u hj => by
            have hjl := (List.getElem?_eq_some_iff.1 hj).1
            rw [List.length_append, o1, n1, ← Nat.add_mul] at hjl
            show (if w.heap.size = w.heap.size then (if 0 + j < (rows.length + rows2.length) * s then arr[0 + j]? else none) else G.X w.heap.size (0 + j)) = some u
            rw [if_pos rfl, if_pos (by omega), Nat.zero_add]
            exact hget j u hj) (fun i a ha => let ⟨y, y1, y2, y3⟩ := hflat i a ha; ⟨y, y1, y2.mono hg.X, y3⟩)
      rw [hlen] at this
      exact this
    rw [hxe]
    refine ⟨_, { G.sealed w.heap.size arr ((rows.length + rows2.length) * s) with tk := fun i => if i = k then ⟨s, rows.length + rows2.length, .slice (some ⟨w.heap.size, 0, none⟩) (rows.length + rows2.length) cap, some (w.heap.size, 0, cap)⟩ else G.tk i }, _, hrun, ?_⟩
    have := fin (.slice (some ⟨w.heap.size, 0, none⟩) (rows.length + rows2.length) cap) { G.sealed w.heap.size arr ((rows.length + rows2.length) * s) with tk := fun i => if i = k then ⟨s, rows.length + rows2.length, .slice (some ⟨w.heap.size, 0, none⟩) (rows.length + rows2.length) cap, some (w.heap.size, 0, cap)⟩ else G.tk i }
      (w.drew.alloc (.cells arr e)) w.heap.size 0 cap rfl rfl rfl rfl rfl rfl hcap hcapm (.inr ⟨Nat.le_refl _, by simp⟩) ⟨arr, e, (0, 0), hnewb, by rw [hsz]; omega, fun i _ => by simp only [World.frozen?, hnewb]; simp⟩
      (fun i hi => by
        show (if w.heap.size = w.heap.size then (if i < (rows.length + rows2.length) * s then arr[i]? else none) else G.X w.heap.size i) = none
        rw [if_pos rfl, if_neg (by omega)]) hg.X (fun b' i u hu => by
        by_cases hbb : b' = w.heap.size
        · exact .inr hbb
        · left
          have : (G.sealed w.heap.size arr ((rows.length + rows2.length) * s)).X b' i = G.X b' i := if_neg hbb
          rw [← this]; exact hu) (fun b' i u hu => (hg.holds hh').X b' i u hu) rfl rfl rfl (by simp) (fun b' hlt _ => Below.heap_alloc _ _ _ hlt)
      hsd
    exact ⟨this.1, this.2.1, this.2.2, rfl⟩
theorem new_tok {G : Ghost} {w : World} {id s : Nat} {rows : List (List AV)} {vx : Value} (h : Holds G w []) (hid : ¬ G.live id) (hx : SimD G.X (.list rows .full) vx) :
  ∃ G', Holds G' w [(id, .tok s rows.length)] ∧ Step G w [] G' w [(id, .tok s rows.length)] ∧ SimD G'.X (.list rows .free) vx ∧ vx = (G'.tk id).val ∧ ∀ i, G'.live i → G.live i ∨ i = id := by
 obtain ⟨base, c, rfl, h1, h2, h3⟩ := hx.slice
 have hc := h3 rfl
 subst hc
 refine ⟨{ G with tk := fun i => if i = id then ⟨s, rows.length, .slice base rows.length rows.length, none⟩ else G.tk i, live := fun i => G.live i ∨ i = id }, ?_⟩
 generalize hG : ({ G with tk := fun i => if i = id then ⟨s, rows.length, .slice base rows.length rows.length, none⟩ else G.tk i, live := fun i => G.live i ∨ i = id } : Ghost) = G'
 have htk : G'.tk id = ⟨s, rows.length, .slice base rows.length rows.length, none⟩ := by rw [← hG]; simp
 have hlive : G'.live = fun i => G.live i ∨ i = id := by rw [← hG]
 have hXe : G'.X = G.X := by rw [← hG]
 have hloc : G'.loc = G.loc := by rw [← hG]
 have hlits : G'.lits = G.lits := by rw [← hG]
 have hbase : G'.base = G.base := by rw [← hG]
 have hbl : blocksOf G' [(id, .tok s rows.length)] = [] := by simp [blocksOf, Ghost.placed, htk]
 refine ⟨⟨by rw [hXe]; exact h.X, fun r hr => ?_, by simp, fun r hr => ?_, by rw [hbl]; simp, fun b hb => ?_⟩, ⟨rfl, rfl, rfl, Nat.le_refl _, hbase, by rw [hXe]; exact fun _ _ _ h => h, fun _ _ _ => ⟨.inl rfl, fun _ => rfl⟩, by rw [hXe]; exact fun _ _ _ h => .inl h,
  (fun b hb => by rw [hbl] at hb; cases hb), fun i hi => ?_, fun i hi => ?_, by rw [hlits]; exact fun _ h => h, by rw [hlits]; exact fun _ h => .inl h⟩, by rw [hXe]; exact hx.free, by rw [htk], by rw [hlive]; exact fun _ h => h⟩
 ·obtain rfl := List.mem_singleton.1 hr
  unfold ResHolds
  simp only [htk]
  exact ⟨trivial, trivial, base, rfl, h2⟩
 ·obtain rfl := List.mem_singleton.1 hr
  rw [hlive]; exact .inr rfl
 ·rw [hlits] at hb
  obtain ⟨q1, q2, _⟩ := h.lits b hb
  exact ⟨by rw [hbase]; exact q1, q2, by rw [hbl]; simp⟩
 ·have hne : i ≠ id := fun e => hid (e ▸ hi)
  refine ⟨by rw [hlive]; exact .inl hi, by rw [hloc], .inl ?_⟩
  rw [← hG]; simp [hne]
 ·have : i = id := by simpa using hi
  subst this; exact .inr hid
section
variable {P : Program} {L : Heap} {ev raw : Operand → AV} {o : Oper}
theorem append_run {t tx : TypeId} {x y : Operand} {c : Call} {ρ : Operand → Value} {w w' : World} {v : Value} (ho : o.op = .call c) (hc : c.callee = .builtin .append) (ha : c.args = #[x, y]) (hty : c.argTypes = #[t, tx])
  (h : (Builtin.append_ #[t, tx] o.type #[ρ x, ρ y]).run P w = .ok v w') : (execOp ρ o).run P w = .ok (.value v) w' := by
 simp only [execOp, ho, resolve, hc, ha, hty, invoke, builtin]
 have e1 : (Array.map ρ #[x, y]) = #[ρ x, ρ y] := by simp
 rw [e1, Sem.run_bind]
 simp only [Sem.run_pure, Result.andThen]
 rw [Sem.run_bind, h]
 rfl
structure Rows (P : Program) (t tx e : TypeId) (ti te : TI) (z : Value) (rows2 : List (List AV)) : Prop where
 ht : Nonempty (TIs P t ti)
 hk : ti.kind = .slice e
 htx : ∃ tj, Nonempty (TIs P tx tj) ∧ ∃ e', tj.kind = .slice e'
 he : Nonempty (TIs P e te)
 hz : te.zero = some z
 hok : zok te z = true
 rows : ∀ row ∈ rows2, row.length = te.size
theorem Rows.fits {t tx e : TypeId} {ti te : TI} {z : Value} {rows2 : List (List AV)} (h : Rows P t tx e ti te z rows2) : Fits P t tx e ti te te.size z := by
 obtain ⟨ht⟩ := h.ht
 obtain ⟨tj, ⟨hx⟩, e', hk⟩ := h.htx
 obtain ⟨he⟩ := h.he
 obtain ⟨z1, z2, z3⟩ := zok_spec h.hok
 exact ⟨ht.slice h.hk, ⟨e', hx.slice hk⟩, ⟨he.i, he.info, he.size, he.bytes, by rw [he.zero]; exact h.hz⟩, z3, z1⟩
theorem e_append_tok {t tx e : TypeId} {x y : Operand} {c : Call} {ti te : TI} {z : Value} {rows rows2 : List (List AV)} {own2 : Own} {k : Nat} (ho : o.op = .call c) (hc : c.callee = .builtin .append) (ha : c.args = #[x, y]) (hty : c.argTypes = #[t, tx])
  (hR : Rows P t tx e ti te z rows2) (hx : ev x = .list rows (.tok k)) (hf : findL L k = some (.tok te.size rows.length)) (hy : ev y = .list rows2 own2)
  (hb : (rows.length + rows2.length) * te.bytes ≤ 140737488355328) (hm : rows.length + rows2.length ≤ 4611686018427387904) :
  EOk P L ev raw o (.list (rows ++ rows2) (.tok k)) (setL L k (.tok te.size (rows.length + rows2.length))) fun _ => False := fun G w ρ hh _ => by
 have h1 := hh.ev x (by rw [ho]; simp [Op.operands, Call.operands, hc, ha])
 have h2 := hh.ev y (by rw [ho]; simp [Op.operands, Call.operands, hc, ha])
 rw [hx] at h1; rw [hy] at h2
 have hres := hh.holds.res _ (findL_mem hf)
 ·obtain ⟨hk, hsd, hle, hz, he⟩ := h1.tok_inv
  have hv := he hres.2.1.symm
  obtain ⟨L0, p1, p2⟩ := findL_perm hf
  have h3 : Holds G w ([(k, .tok te.size rows.length)] ++ L0) := hh.holds.perm p1
  obtain ⟨v, G', w', r1, r2, r3, r4, r5⟩ := append_tok (ty := o.type) hR.fits h3.left hsd hv h2.list_inv.1 (by rw [← hres.1]; exact hz) hR.rows hb hm
  obtain ⟨m1, m2⟩ := h3.beside r3 r4
  exact ⟨v, G', w', .inl (append_run ho hc ha hty r1), r2, m1.perm (p2 _).symm, m2.perm p1.symm (p2 _).symm, fun id hid => by rw [r5] at hid; exact .inl hid⟩
theorem e_append_full {t tx e : TypeId} {x y : Operand} {c : Call} {ti te : TI} {z : Value} {rows rows2 : List (List AV)} {own2 : Own} {id : Nat} (ho : o.op = .call c) (hc : c.callee = .builtin .append) (ha : c.args = #[x, y]) (hty : c.argTypes = #[t, tx])
  (hR : Rows P t tx e ti te z rows2) (hr : ∀ row ∈ rows, row.length = te.size) (hx : ev x = .list rows .full) (hy : ev y = .list rows2 own2)
  (hb : (rows.length + rows2.length) * te.bytes ≤ 140737488355328) (hm : rows.length + rows2.length ≤ 4611686018427387904) :
  EOk P L ev raw o (.list (rows ++ rows2) (.tok id)) ((id, .tok te.size (rows.length + rows2.length)) :: L) fun i => i = id := fun G w ρ hh hn => by
 have h1 := hh.ev x (by rw [ho]; simp [Op.operands, Call.operands, hc, ha])
 have h2 := hh.ev y (by rw [ho]; simp [Op.operands, Call.operands, hc, ha])
 rw [hx] at h1; rw [hy] at h2
 have h3 : Holds G w ([] ++ L) := hh.holds
 obtain ⟨G1, k1, k2, k3, k4, k5⟩ := new_tok (s := te.size) h3.left (hn id rfl) (h1.list_inv.2 rfl)
 obtain ⟨v, G', w', r1, r2, r3, r4, r5⟩ := append_tok (ty := o.type) hR.fits k1 k3 k4 ((h2.list_inv.1).mono k2.X) hr hR.rows hb hm
 obtain ⟨m1, m2⟩ := h3.beside r3 (k2.trans r4)
 exact ⟨v, G', w', .inl (append_run ho hc ha hty r1), r2, m1, m2, fun i hi => by rw [r5] at hi; exact k5 i hi⟩
end
/-! slices that may be written -/
structure SrcK (P : Program) (G : Ghost) (w : World) (s k m : Nat) (vy : Value) (cs : List AV) (news : List Value) : Prop where
 len : ∀ w' : World, (Builtin.lenOf vy).run P w' = .ok m w'
 cells : (Builtin.firstCells s k vy).run P w = .ok news.toArray w
 cellsD : (Builtin.firstCells s k vy).run P w.drew = .ok news.toArray w.drew
 newsLen : news.length = k * s
 csLen : cs.length = news.length
 sim : ∀ i a, cs[i]? = some a → Sim G a (news.getD i undef)
 one : ∀ u ∈ news, u.oneCell' = true
theorem SrcK.src {P : Program} {G : Ghost} {w : World} {s m : Nat} {vy : Value} {cs : List AV} {news : List Value} {tx e' : TypeId} (h : SrcK P G w s m m vy cs news) (hk : P.underlying tx = some (.slice e')) : Src P s tx vy m news w :=
 ⟨.inl ⟨e', hk⟩, h.len, h.cells, h.cellsD, h.newsLen, h.one⟩
theorem srck_slice {P : Program} {w : World} {G : Ghost} {s k m c : Nat} {base : Option Addr} {cs : List AV} {news : List Value} (hn : news.length = k * s) (hc : cs.length = news.length) (hs : ∀ i a, cs[i]? = some a → Sim G a (news.getD i undef)) (h1 : ∀ u ∈ news, u.oneCell' = true)
  (hb : news ≠ [] → ∃ a, base = some a ∧ ∀ j u, news[j]? = some u → w.cell? (a.add j) = some u) : SrcK P G w s k m (.slice base m c) cs news := by
 refine ⟨fun w' => rfl, ?_, ?_, hn, hc, hs, h1⟩
 all_goals
  by_cases h0 : news = []
  ·subst h0
   have hz : k * s = 0 := by simpa using hn.symm
   cases base with
   | none => exact run_firstCells_none _ s k m c
   | some a => exact run_firstCells_some _ s k a m c [] (by simpa using hn) (fun j v h => by simp at h)
  ·obtain ⟨a, rfl, ha⟩ := hb h0
   exact run_firstCells_some _ s k a m c news hn (fun j v h => by simpa using ha j v h)
theorem srck_list {P : Program} {G : Ghost} {w : World} {H : Heap} {s k : Nat} {rows : List (List AV)} {own : Own} {vy : Value} (hh : Holds G w H) (hy : Sim G (.list rows own) vy) (hr : ∀ row ∈ rows, row.length = s) (hk : k ≤ rows.length) :
  ∃ news, SrcK P G w s k rows.length vy (rows.flatten.take (k * s)) news := by
 have hd := hy.list_inv.1
 obtain ⟨news, n1, n2, n3, n4⟩ := rows_news hd hr
 obtain ⟨base, c, rfl, h1, h2, _⟩ := hd.slice
 have hks : k * s ≤ rows.length * s := Nat.mul_le_mul_right s hk
 have hfl := flatten_length hr
 refine ⟨news.take (k * s), srck_slice (by rw [List.length_take, n1]; omega) (by rw [List.length_take, List.length_take, n1, hfl]) (fun i a ha => ?_) (fun u hu => n3 u (List.mem_of_mem_take hu)) (fun hne => ?_)⟩
 ·rw [List.getElem?_take] at ha
  split at ha
  ·rename_i hi
   obtain ⟨y, y1, y2, _⟩ := n2 i a ha
   have : (news.take (k * s)).getD i undef = y := by
    rw [List.getD, List.getElem?_take, if_pos hi, y1]; rfl
   rw [this]; exact .data _ _ y2
  ·cases ha
 ·have h0 : rows ≠ [] := by
   rintro rfl
   have : news = [] := by simpa using n1
   subst this; simp at hne
  obtain ⟨b, off, c', e, hX⟩ := n4 h0
  simp only [Value.slice.injEq] at e
  obtain ⟨rfl, _, rfl⟩ := e
  refine ⟨_, rfl, fun j u hj => ?_⟩
  rw [List.getElem?_take] at hj
  split at hj
  ·rw [add_mk]; exact hh.X _ _ _ (hX j u hj)
  ·cases hj
theorem all_get {p : AV → Bool} {l : List AV} (h : l.all p = true) {i : Nat} {a : AV} (ha : l[i]? = some a) : p a = true := List.all_eq_true.1 h a (List.mem_of_getElem? ha)
theorem srck_arr {P : Program} {G : Ghost} {w : World} {H : Heap} {s k id off m c : Nat} {cells : List AV} {vy : Value} (hh : Holds G w H) (hy : Sim G (.arr id off m c) vy) (hf : findL H id = some (.box cells)) (hk : k ≤ m) (hle : off + k * s ≤ cells.length)
  (h1 : ((cells.drop off).take (k * s)).all AV.one = true) : ∃ news, SrcK P G w s k m vy ((cells.drop off).take (k * s)) news := by
 obtain ⟨base, rfl, hlive, hmc, hc, hb⟩ := hy.arr_inv
 obtain ⟨h0, arr, E, fr, hh', hsz, hfz, hcs⟩ := hh.res _ (findL_mem hf)
 have hget : ∀ i a, ((cells.drop off).take (k * s))[i]? = some a → Sim G a (arr.getD (off + i) undef) := fun i a ha => by
  rw [List.getElem?_take] at ha
  split at ha
  ·rw [List.getElem?_drop] at ha; exact hcs _ _ ha
  ·cases ha
 have hlen : ((cells.drop off).take (k * s)).length = k * s := by rw [List.length_take, List.length_drop]; omega
 refine ⟨(List.range (k * s)).map fun i => arr.getD (off + i) undef, srck_slice (by simp) (by rw [hlen]; simp) (fun i a ha => ?_) (fun u hu => ?_) (fun hne => ?_)⟩
 ·have hi := (List.getElem?_eq_some_iff.1 ha).1
  rw [hlen] at hi
  have : ((List.range (k * s)).map fun i => arr.getD (off + i) undef).getD i undef = arr.getD (off + i) undef := by
   rw [List.getD, List.getElem?_map, List.getElem?_range hi]; rfl
  rw [this]; exact hget i a ha
 ·obtain ⟨i, hi, rfl⟩ := List.mem_map.1 hu
  have hi' := List.mem_range.1 hi
  have ha : ((cells.drop off).take (k * s))[i]? = some (((cells.drop off).take (k * s))[i]'(by omega)) := List.getElem?_eq_getElem _
  exact (hget i _ ha).one (all_get h1 ha)
 ·have hks : 0 < k * s := by
   rcases Nat.eq_zero_or_pos (k * s) with h | h
   ·rw [h] at hne; simp at hne
   ·exact h
  have : k ≠ 0 := by rintro rfl; simp at hks
  obtain rfl := hb (by omega)
  refine ⟨_, rfl, fun j u hj => ?_⟩
  rw [List.getElem?_map] at hj
  have hj' : j < k * s := by
   rcases Nat.lt_or_ge j (k * s) with h | h
   ·exact h
   ·rw [List.getElem?_eq_none (by simpa using h)] at hj; cases hj
  rw [List.getElem?_range hj'] at hj
  simp only [Option.map_some, Option.some.injEq] at hj
  subst hj
  rw [add_mk]
  have hlt : off + j < arr.size := by omega
  simp [World.cell?, hh', hlt]
section
variable {P : Program} {L : Heap} {ev raw : Operand → AV} {o : Oper}
theorem put_arr {G : Ghost} {w : World} {id off n c : Nat} {base : Option Addr} {cells cs : List AV} {news : List Value} (hh : Holds G w L) (hf : findL L id = some (.box cells)) (hc : cs.length = news.length) (hs : ∀ i a, cs[i]? = some a → Sim G a (news.getD i undef)) (hle : off + news.length ≤ cells.length) :
  (∀ j, j < news.length → (w.cell? ⟨G.loc id, off + j, none⟩).isSome = true) ∧ (∀ j, j < news.length → w.frozen? ⟨G.loc id, off + j, none⟩ = false) ∧
  Holds G (w.setCells (G.loc id) off news) (setL L id (.box (putCells cells off cs))) ∧ Step G w L G (w.setCells (G.loc id) off news) (setL L id (.box (putCells cells off cs))) := by
 obtain ⟨h0, arr, E, fr, hh', hsz, hfz, hcs⟩ := hh.res _ (findL_mem hf)
 refine ⟨fun j hj => ?_, fun j hj => hfz _, within hh hf fun h => store_list h ⟨hc, hs⟩ (by omega)⟩
 have : off + j < arr.size := by omega
 simp [World.cell?, hh', this]
theorem e_append_in {t tx e : TypeId} {x y : Operand} {c : Call} {ti te : TI} {id off n m cp : Nat} {cells cs : List AV} (ho : o.op = .call c) (hc : c.callee = .builtin .append) (ha : c.args = #[x, y]) (hty : c.argTypes = #[t, tx])
  (ht : Nonempty (TIs P t ti)) (hk : ti.kind = .slice e) (htx : ∃ e', P.underlying tx = some (.slice e')) (he : Nonempty (TIs P e te)) (hx : ev x = .arr id off n cp) (hf : findL L id = some (.box cells)) (hroom : n + m ≤ cp) (hle : off + (n + m) * te.size ≤ cells.length)
  (hsrc : ∀ G w vy, Holds G w L → Sim G (ev y) vy → ∃ news, SrcK P G w te.size m m vy cs news) : EOk P L ev raw o (.arr id off (n + m) cp) (setL L id (.box (putCells cells (off + n * te.size) cs))) fun _ => False := fun G w ρ hh _ => by
 have h1 := hh.ev x (by rw [ho]; simp [Op.operands, Call.operands, hc, ha])
 have h2 := hh.ev y (by rw [ho]; simp [Op.operands, Call.operands, hc, ha])
 rw [hx] at h1
 obtain ⟨ht⟩ := ht
 obtain ⟨he⟩ := he
 obtain ⟨e', htx⟩ := htx
 obtain ⟨news, hS⟩ := hsrc G w _ hh.holds h2
 obtain ⟨base, hv, hlive, hnc, hcm, hb⟩ := h1.arr_inv
 rw [Nat.add_mul] at hle
 obtain ⟨p1, p2, p3, p4⟩ := put_arr (n := n) (c := cp) (base := base) hh.holds hf hS.csLen hS.sim (off := off + n * te.size) (by rw [hS.newsLen]; omega)
 have hsr := hS.src htx
 rw [← he.size] at hsr p1 p2 p3 p4 ⊢
 by_cases h0 : cp = 0
 ·have hm : m = 0 := by omega
  subst hm
  have hn : news = [] := by have := hS.newsLen; simpa using this
  subst hn
  refine ⟨_, G, w, .inl (append_run ho hc ha hty (by rw [hv]; exact run_append_nothing w t tx o.type e he.i (ht.slice hk) he.info base n cp hnc _ hsr)), ?_, by simpa [World.setCells] using p3, by simpa [World.setCells] using p4, fun i hi => .inl hi⟩
  rw [← hv]; exact h1
 ·obtain rfl := hb h0
  refine ⟨_, G, _, .inl (append_run ho hc ha hty (by rw [hv]; exact run_append_room_src (P := P) w t tx o.type e he.i (ht.slice hk) he.info (G.loc id) off n cp _ m news hsr hroom p1 p2)), ?_, p3, p4, fun i hi => .inl hi⟩
  exact .arr _ _ _ _ _ hlive hroom hcm fun _ => rfl
def bigB (n b : Nat) : Prop := n * b ≤ 140737488355328 ∨ (b = 1 ∧ n ≤ 140737490452480)
theorem nextslicecap_w {need old : Nat} (h : old < need) : Builtin.nextslicecap need old ≤ need + need / 4 + 192 := by
 unfold Builtin.nextslicecap
 split
 ·omega
 ·split
  ·omega
  ·rw [Go.Room.growBy_four']
   repeat' split
   all_goals omega
theorem e_append_new {t tx e : TypeId} {x y : Operand} {c : Call} {ti te : TI} {z : Value} {n m cp id : Nat} {olds cs : List AV} (ho : o.op = .call c) (hc : c.callee = .builtin .append) (ha : c.args = #[x, y]) (hty : c.argTypes = #[t, tx])
  (ht : Nonempty (TIs P t ti)) (hk : ti.kind = .slice e) (htx : ∃ e', P.underlying tx = some (.slice e')) (he : Nonempty (TIs P e te)) (hz : te.zero = some z) (hok : zok te z = true) (hroom : cp < n + m)
  (hb : bigB (n + m) te.bytes) (hm : n + m ≤ 4611686018427387904)
  (hold : ∀ G w vx, Holds G w L → Sim G (ev x) vx → (∃ base, vx = .slice base n cp) ∧ ∃ olds', SrcK P G w te.size n n vx olds olds')
  (hsrc : ∀ G w vy, Holds G w L → Sim G (ev y) vy → ∃ news, SrcK P G w te.size m m vy cs news) : ∀ G w ρ, Here P L ev raw o G w ρ → ¬ G.live id → ∃ v G' w' cp', n + m ≤ cp' ∧ cp' ≤ maxLen ∧
   (execOp ρ o).run P w = .ok (.value v) w' ∧ Sim G' (.arr id 0 (n + m) cp') v ∧ Holds G' w' ((id, .box (olds ++ cs ++ List.replicate ((cp' - (n + m)) * te.size) .dead)) :: L) ∧ Step G w L G' w' ((id, .box (olds ++ cs ++ List.replicate ((cp' - (n + m)) * te.size) .dead)) :: L) ∧ ∀ i, G'.live i → G.live i ∨ i = id := fun G w ρ hh hn => by
 have h1 := hh.ev x (by rw [ho]; simp [Op.operands, Call.operands, hc, ha])
 have h2 := hh.ev y (by rw [ho]; simp [Op.operands, Call.operands, hc, ha])
 obtain ⟨ht⟩ := ht
 obtain ⟨he⟩ := he
 obtain ⟨e', htx⟩ := htx
 obtain ⟨news, hS⟩ := hsrc G w _ hh.holds h2
 obtain ⟨⟨base, hv⟩, oldv, hO⟩ := hold G w _ hh.holds h1
 obtain ⟨z1, z2, z3⟩ := zok_spec hok
 have hfit : Builtin.nextslicecap (n + m) cp * he.i.bytes ≤ 281474976710656 := by
  have h1 := Nat.mul_le_mul_right he.i.bytes (Go.Room.nextslicecap_le' (show cp < n + m by omega))
  rw [he.bytes] at h1 ⊢
  rw [Nat.mul_assoc] at h1
  rcases hb with hb | ⟨hb1, hb2⟩
  ·omega
  ·rw [hb1, Nat.mul_one]
   have h2 := nextslicecap_w (show cp < n + m by omega)
   omega
 have hsr := hS.src htx
 have hcd := hO.cellsD
 rw [hv] at hcd
 rw [← he.size] at hsr hcd
 have hrun := run_append_grow_src (P := P) w t tx o.type e he.i z (ht.slice hk) he.info (by rw [he.zero]; exact hz) base n cp oldv hcd (ρ y) m news hsr hroom (by omega) hfit
 have hcap := grownCap_ge w (n + m) cp e
 have hcapm := grownCap_le_maxLen w (n + m) cp e (by unfold maxLen; omega)
 generalize hce : grownCap w (n + m) cp e = cap at hrun hcap hcapm
 generalize harr : (oldv ++ news).toArray ++ Builtin.zeroCells z.cells (cap - (n + m)) = arr at hrun
 have hol := hO.newsLen
 have hnl := hS.newsLen
 have hocs := hO.csLen
 have hncs := hS.csLen
 have hsz : (olds ++ cs ++ List.replicate ((cap - (n + m)) * te.size) AV.dead).length ≤ arr.size := by
  rw [← harr]
  simp only [List.length_append, List.length_replicate, Array.size_append, List.size_toArray, size_zeroCells, z1]
  omega
 have hget : ∀ (j : Nat) (u : Value), (oldv ++ news)[j]? = some u → arr.getD j undef = u := fun j u hj => by
  rw [← harr]
  have := (List.getElem?_eq_some_iff.1 hj).1
  rw [Array.getD_eq_getD_getElem?, Array.getElem?_append_left (by simpa using this)]
  simp [hj]
 have hsim : ∀ (i : Nat) (a : AV), (olds ++ cs ++ List.replicate ((cap - (n + m)) * te.size) AV.dead)[i]? = some a → Sim G a (arr.getD i undef) := fun i a ha => by
  rw [List.getElem?_append] at ha
  split at ha
  ·rename_i hi
   rw [List.length_append] at hi
   rw [List.getElem?_append] at ha
   split at ha
   ·rename_i hi2
    have h3 := hO.sim i a ha
    have h4 : oldv[i]? = some (oldv[i]'(by omega)) := List.getElem?_eq_getElem _
    rw [hget i _ (by rw [List.getElem?_append_left (by omega)]; exact h4)]
    rw [List.getD, h4] at h3; exact h3
   ·rename_i hi2
    have h3 := hS.sim _ a ha
    have h4 : news[i - olds.length]? = some (news[i - olds.length]'(by omega)) := List.getElem?_eq_getElem _
    rw [hget i _ (by rw [List.getElem?_append_right (by omega), ← hocs]; exact h4)]
    rw [List.getD, h4] at h3; exact h3
  ·rw [List.getElem?_replicate] at ha
   split at ha
   ·cases ha; exact .data _ _ (.dead _)
   ·cases ha
 obtain ⟨k1, k2⟩ := with_new (w := w) (r := (id, .box (olds ++ cs ++ List.replicate ((cap - (n + m)) * te.size) .dead))) (G' := G.boxed id w.heap.size) (w' := w.drew.alloc (.cells arr e)) hh.holds fun h => by
  have hd : Holds G w.drew [] := ⟨h.X, h.res, h.ids, h.live, h.blocks, h.lits⟩
  obtain ⟨q1, q2⟩ := new_box (id := id) e hd hn (l := olds ++ cs ++ List.replicate ((cap - (n + m)) * te.size) .dead) (arr := arr) ⟨hsz, hsim⟩
  exact ⟨q1, ⟨q2.os, q2.tape, q2.output, q2.size, q2.base, q2.X, q2.frame, q2.newX, q2.newB, q2.live, q2.newI, q2.lits, q2.newL⟩⟩
 refine ⟨_, _, _, cap, hcap, hcapm, append_run ho hc ha hty (by rw [hv]; exact hrun), ?_, k1, k2, fun i hi => hi⟩
 have hloc : (G.boxed id w.heap.size).loc id = w.heap.size := by simp [Ghost.boxed]
 exact Sim.arr (G := G.boxed id w.heap.size) id 0 (n + m) cap (some ⟨w.heap.size, 0, none⟩) (.inr rfl) hcap hcapm (fun _ => by rw [hloc])
theorem e_append_zeros {t tx e : TypeId} {x y : Operand} {c : Call} {ti te tj : TI} {z : Value} {kn kq : IntKind} {n m cp id : Nat} {olds : List AV} (ho : o.op = .call c) (hc : c.callee = .builtin .append) (ha : c.args = #[x, y]) (hty : c.argTypes = #[t, tx])
  (ht : Nonempty (TIs P t ti)) (hk : ti.kind = .slice e) (htx : Nonempty (TIs P tx tj)) (hkx : tj.kind = .int kn) (he : Nonempty (TIs P e te)) (hz : te.zero = some z) (hok : zok te z = true) (hroom : cp < n + m) (hm0 : 0 < m)
  (hb : (n + m) * te.bytes ≤ 140737488355328) (hm : n + m ≤ 4611686018427387904) (hy : ev y = .v (.int kq m))
  (hold : ∀ G w vx, Holds G w L → Sim G (ev x) vx → (∃ base, vx = .slice base n cp) ∧ ∃ olds', SrcK P G w te.size n n vx olds olds') : ∀ G w ρ, Here P L ev raw o G w ρ → ¬ G.live id → ∃ v G' w' cp', n + m ≤ cp' ∧ cp' ≤ maxLen ∧
   (execOp ρ o).run P w = .ok (.value v) w' ∧ Sim G' (.arr id 0 (n + m) cp') v ∧ Holds G' w' ((id, .box (olds ++ List.replicate ((cp' - n) * te.size) .dead)) :: L) ∧ Step G w L G' w' ((id, .box (olds ++ List.replicate ((cp' - n) * te.size) .dead)) :: L) ∧ ∀ i, G'.live i → G.live i ∨ i = id := fun G w ρ hh hn => by
 have h1 := hh.ev x (by rw [ho]; simp [Op.operands, Call.operands, hc, ha])
 have h2 := hh.ev y (by rw [ho]; simp [Op.operands, Call.operands, hc, ha])
 rw [hy] at h2
 have hyv := h2.v_inv
 obtain ⟨ht⟩ := ht
 obtain ⟨he⟩ := he
 obtain ⟨htx⟩ := htx
 obtain ⟨⟨base, hv⟩, oldv, hO⟩ := hold G w _ hh.holds h1
 obtain ⟨z1, z2, z3⟩ := zok_spec hok
 have hfit : Builtin.nextslicecap (n + m) cp * he.i.bytes ≤ 281474976710656 := by
  have h1 := Nat.mul_le_mul_right he.i.bytes (Go.Room.nextslicecap_le' (show cp < n + m by omega))
  rw [he.bytes] at h1 ⊢
  rw [Nat.mul_assoc] at h1
  omega
 have hmb : m * he.i.bytes ≤ 281474976710656 := by
  have := Nat.mul_le_mul_right te.bytes (show m ≤ n + m by omega)
  rw [he.bytes]; omega
 have hcd := hO.cellsD
 rw [hv] at hcd
 rw [← he.size] at hcd
 have hrun := Go.Lib.run_append_grow_zeros (P := P) w t tx o.type e he.i z kq kn (ht.slice hk) (htx.int hkx) he.info (by rw [he.zero]; exact hz) base n cp oldv hcd m hm0 (by rw [he.size]; exact z3) hroom (by omega) hmb hfit
 have hcap := grownCap_ge w (n + m) cp e
 have hcapm := grownCap_le_maxLen w (n + m) cp e (by unfold maxLen; omega)
 generalize hce : grownCap w (n + m) cp e = cap at hrun hcap hcapm
 generalize harr : oldv.toArray ++ Builtin.zeroCells z.cells m ++ Builtin.zeroCells z.cells (cap - (n + m)) = arr at hrun
 have hol := hO.newsLen
 have hocs := hO.csLen
 have hsz : (olds ++ List.replicate ((cap - n) * te.size) AV.dead).length ≤ arr.size := by
  rw [← harr]
  simp only [List.length_append, List.length_replicate, Array.size_append, List.size_toArray, size_zeroCells, z1]
  rw [Nat.add_assoc, ← Nat.add_mul, show m + (cap - (n + m)) = cap - n by omega]
  omega
 have hsim : ∀ (i : Nat) (a : AV), (olds ++ List.replicate ((cap - n) * te.size) AV.dead)[i]? = some a → Sim G a (arr.getD i undef) := fun i a ha => by
  rw [List.getElem?_append] at ha
  split at ha
  ·rename_i hi
   have h3 := hO.sim i a ha
   have h4 : oldv[i]? = some (oldv[i]'(by omega)) := List.getElem?_eq_getElem _
   have h5 : arr.getD i undef = oldv[i]'(by omega) := by
    rw [← harr, Array.append_assoc, Array.getD_eq_getD_getElem?, Array.getElem?_append_left (by simp; omega)]
    simp [h4]
   rw [h5]
   rw [List.getD, h4] at h3; exact h3
  ·rw [List.getElem?_replicate] at ha
   split at ha
   ·cases ha; exact .data _ _ (.dead _)
   ·cases ha
 obtain ⟨k1, k2⟩ := with_new (w := w) (r := (id, .box (olds ++ List.replicate ((cap - n) * te.size) .dead))) (G' := G.boxed id w.heap.size) (w' := w.drew.alloc (.cells arr e)) hh.holds fun h => by
  have hd : Holds G w.drew [] := ⟨h.X, h.res, h.ids, h.live, h.blocks, h.lits⟩
  obtain ⟨q1, q2⟩ := new_box (id := id) e hd hn (l := olds ++ List.replicate ((cap - n) * te.size) .dead) (arr := arr) ⟨hsz, hsim⟩
  exact ⟨q1, ⟨q2.os, q2.tape, q2.output, q2.size, q2.base, q2.X, q2.frame, q2.newX, q2.newB, q2.live, q2.newI, q2.lits, q2.newL⟩⟩
 refine ⟨_, _, _, cap, hcap, hcapm, append_run ho hc ha hty (by rw [hv, hyv]; exact hrun), ?_, k1, k2, fun i hi => hi⟩
 have hloc : (G.boxed id w.heap.size).loc id = w.heap.size := by simp [Ghost.boxed]
 exact Sim.arr (G := G.boxed id w.heap.size) id 0 (n + m) cap (some ⟨w.heap.size, 0, none⟩) (.inr rfl) hcap hcapm (fun _ => by rw [hloc])
theorem run_copy_src {w : World} {dT sT ty e : TypeId} {b o dLen dCap m s : Nat} {base : Option Addr} {vy : Value} {news : List Value} {te : TypeInfo} (hu : P.underlying dT = some (.slice e)) (hi : P.info? e = some te) (hs : te.size = s)
  (hl : (Builtin.lenOf vy).run P w = .ok m w) (hn : (Builtin.firstCells s (Nat.min m dLen) vy).run P w = .ok news.toArray w) (hb : news ≠ [] → base = some ⟨b, o, none⟩)
  (hc : ∀ j, j < news.length → (w.cell? ⟨b, o + j, none⟩).isSome = true) (hf : ∀ j, j < news.length → w.frozen? ⟨b, o + j, none⟩ = false) (h1 : ∀ v ∈ news, v.oneCell' = true) :
  (Builtin.copy_ #[dT, sT] ty #[.slice base dLen dCap, vy]).run P w = .ok (goInt (Nat.min m dLen)) (w.setCells b o news) := by
 subst hs
 by_cases h0 : news = []
 ·subst h0
  cases base with
  | none => simp [Builtin.copy_, run_underlying hu, hl, sizeOf, typeInfo, hi, hn, World.setCells]
  | some a => simp [Builtin.copy_, run_underlying hu, hl, sizeOf, typeInfo, hi, hn, World.setCells, storeCells]
 ·obtain rfl := hb h0
  have hst := run_storeCells_cells (P := P) b o news 0 w (by simpa using hc) (by simpa using hf) h1
  simp only [Nat.add_zero] at hst
  simp [Builtin.copy_, run_underlying hu, hl, sizeOf, typeInfo, hi, hn, hst]
theorem e_copy {dT sT e : TypeId} {x y : Operand} {c : Call} {ti te : TI} {id off n m cp : Nat} {cells cs : List AV} (ho : o.op = .call c) (hc : c.callee = .builtin .copy) (ha : c.args = #[x, y]) (hty : c.argTypes = #[dT, sT])
  (ht : Nonempty (TIs P dT ti)) (hk : ti.kind = .slice e) (he : Nonempty (TIs P e te)) (hx : ev x = .arr id off n cp) (hf : findL L id = some (.box cells)) (hle : off + Nat.min m n * te.size ≤ cells.length)
  (hsrc : ∀ G w vy, Holds G w L → Sim G (ev y) vy → ∃ news, SrcK P G w te.size (Nat.min m n) m vy cs news) : EOk P L ev raw o (.v (.int .i64 (Nat.min m n : Nat))) (setL L id (.box (putCells cells off cs))) fun _ => False := fun G w ρ hh _ => by
 have h1 := hh.ev x (by rw [ho]; simp [Op.operands, Call.operands, hc, ha])
 have h2 := hh.ev y (by rw [ho]; simp [Op.operands, Call.operands, hc, ha])
 rw [hx] at h1
 obtain ⟨ht⟩ := ht
 obtain ⟨he⟩ := he
 obtain ⟨news, hS⟩ := hsrc G w _ hh.holds h2
 obtain ⟨base, hv, hlive, hnc, hcm, hb⟩ := h1.arr_inv
 obtain ⟨p1, p2, p3, p4⟩ := put_arr (n := n) (c := cp) (base := base) hh.holds hf hS.csLen hS.sim (off := off) (by rw [hS.newsLen]; omega)
 have hrun := run_copy_src (P := P) (sT := sT) (ty := o.type) (dCap := cp) (ht.slice hk) he.info he.size (hS.len w) hS.cells (base := base) (b := G.loc id) (o := off) (fun hne => hb (by
  rintro rfl
  have : n = 0 := by omega
  subst this
  have h3 := hS.newsLen
  simp only [Nat.min_def] at h3
  have : news.length = 0 := by rw [h3]; split <;> simp_all
  exact hne (List.eq_nil_of_length_eq_zero this))) p1 p2 hS.one
 refine ⟨_, G, _, .inl ?_, .data _ _ (.v _), p3, p4, fun i hi => .inl hi⟩
 simp only [execOp, ho, resolve, hc, ha, hty, invoke, builtin, hv]
 have e1 : (Array.map ρ #[x, y]) = #[ρ x, ρ y] := by simp
 rw [e1, hv, Sem.run_bind]
 simp only [Sem.run_pure, Result.andThen]
 rw [Sem.run_bind, hrun]
 rfl
theorem run_clear_gen {w : World} {t ty e : TypeId} {b o n c s : Nat} {base : Option Addr} {te : TypeInfo} {z : Value} (hu : P.underlying t = some (.slice e)) (hi : P.info? e = some te) (hz : te.zero = some z) (hs : z.cells.size = s) (hb : n ≠ 0 → base = some ⟨b, o, none⟩)
  (hc : ∀ j, j < n * s → (w.cell? ⟨b, o + j, none⟩).isSome = true) (hf : ∀ j, j < n * s → w.frozen? ⟨b, o + j, none⟩ = false) (h1 : ∀ v ∈ z.cells.toList, v.oneCell' = true) (hs0 : 0 < s) :
  (Builtin.clear_ #[t] ty #[.slice base n c]).run P w = .ok (.tuple #[]) (w.setCells b o (Builtin.zeroCells z.cells n).toList) := by
 cases n with
 | zero =>
  have : (Builtin.zeroCells z.cells 0).toList = [] := by simp [Builtin.zeroCells]
  rw [this]
  cases base <;> simp [Builtin.clear_, run_underlying hu, World.setCells]
 | succ n =>
  obtain rfl := hb (by omega)
  have hlen : (Builtin.zeroCells z.cells (n + 1)).toList.length = (n + 1) * s := by rw [Array.length_toList, size_zeroCells, hs]
  have hst := run_storeCells_cells (P := P) b o (Builtin.zeroCells z.cells (n + 1)).toList 0 w (by rw [hlen]; simpa using hc) (by rw [hlen]; simpa using hf) (fun v hv => by
   rw [Builtin.zeroCells, Array.toList_map, List.mem_map] at hv
   obtain ⟨i, _, rfl⟩ := hv
   have hlt : i % z.cells.size < z.cells.size := Nat.mod_lt _ (by omega)
   rw [getElem!_pos z.cells _ hlt]
   exact h1 _ (Array.getElem_mem_toList hlt))
  simp only [Nat.add_zero] at hst
  simp [Builtin.clear_, run_underlying hu, zeroValue, typeInfo, hi, hz, hst]
theorem e_clear {t e : TypeId} {x : Operand} {c : Call} {ti te : TI} {z : Value} {id off n cp : Nat} {cells : List AV} (ho : o.op = .call c) (hc : c.callee = .builtin .clear) (ha : c.args = #[x]) (hty : c.argTypes = #[t])
  (ht : Nonempty (TIs P t ti)) (hk : ti.kind = .slice e) (he : Nonempty (TIs P e te)) (hz : te.zero = some z) (hok : zok te z = true) (hx : ev x = .arr id off n cp) (hf : findL L id = some (.box cells)) (hle : off + n * te.size ≤ cells.length) :
  EOk P L ev raw o (.tuple []) (setL L id (.box (putCells cells off (List.replicate (n * te.size) .dead)))) fun _ => False := fun G w ρ hh _ => by
 have h1 := hh.ev x (by rw [ho]; simp [Op.operands, Call.operands, hc, ha])
 rw [hx] at h1
 obtain ⟨ht⟩ := ht
 obtain ⟨he⟩ := he
 obtain ⟨z1, z2, z3⟩ := zok_spec hok
 obtain ⟨base, hv, hlive, hnc, hcm, hb⟩ := h1.arr_inv
 have hlen : (Builtin.zeroCells z.cells n).toList.length = n * te.size := by rw [Array.length_toList, size_zeroCells, z1]
 obtain ⟨p1, p2, p3, p4⟩ := put_arr (n := n) (c := cp) (base := base) (cs := List.replicate (n * te.size) .dead) (news := (Builtin.zeroCells z.cells n).toList) hh.holds hf (by rw [hlen]; simp) (fun i a ha => by
  rw [List.getElem?_replicate] at ha
  split at ha
  ·cases ha; exact .data _ _ (.dead _)
  ·cases ha) (off := off) (by rw [hlen]; omega)
 rw [hlen] at p1 p2
 have hrun := run_clear_gen (P := P) (ty := o.type) (c := cp) (base := base) (ht.slice hk) he.info (by rw [he.zero]; exact hz) z1 (fun h => hb (by omega)) p1 p2 z2 z3
 refine ⟨_, G, _, .inl ?_, .tuple [] #[] rfl (fun i a h => by simp at h), p3, p4, fun i hi => .inl hi⟩
 simp only [execOp, ho, resolve, hc, ha, hty, invoke, builtin, hv]
 have e1 : (Array.map ρ #[x]) = #[ρ x] := by simp
 rw [e1, hv, Sem.run_bind]
 simp only [Sem.run_pure, Result.andThen]
 rw [Sem.run_bind, hrun]
 rfl
end
theorem move_box {G : Ghost} {w : World} {id nid : Nat} {cells : List AV} {L0 : Heap} (h : Holds G w ((id, .box cells) :: L0)) (hn : ¬ G.live nid) :
  Holds (G.boxed nid (G.loc id)) w ((nid, .box cells) :: L0) ∧ Step G w ((id, .box cells) :: L0) (G.boxed nid (G.loc id)) w ((nid, .box cells) :: L0) ∧ ∀ a x, Sim G a x → Sim (G.boxed nid (G.loc id)) a x := by
 generalize hG : G.boxed nid (G.loc id) = G'
 have e1 : ∀ i, i ≠ nid → G'.loc i = G.loc i := fun i hi => by rw [← hG]; simp [Ghost.boxed, hi]
 have e2 : G'.loc nid = G.loc id := by rw [← hG]; simp [Ghost.boxed]
 have e3 : G'.tk = G.tk := by rw [← hG]; rfl
 have e4 : G'.live = fun i => G.live i ∨ i = nid := by rw [← hG]; rfl
 have e5 : G'.X = G.X := by rw [← hG]; rfl
 have e6 : G'.lits = G.lits := by rw [← hG]; rfl
 have e7 : G'.base = G.base := by rw [← hG]; rfl
 have hne : ∀ i, G.live i → i ≠ nid := fun i hi e => hn (e ▸ hi)
 have hlive : ∀ i, G.live i → G'.live i ∧ G'.loc i = G.loc i ∧ G'.tk i = G.tk i := fun i hi => ⟨by rw [e4]; exact .inl hi, e1 i (hne i hi), by rw [e3]⟩
 have hsim : ∀ a x, Sim G a x → Sim G' a x := fun a x hs => hs.mono (by rw [e5]; exact fun _ _ _ h => h) fun i hi => let ⟨a, b, c⟩ := hlive i hi; ⟨a, b, .inl c⟩
 have hids := h.ids
 simp only [List.map_cons, List.nodup_cons] at hids
 have hL0 : ∀ r ∈ L0, r.1 ≠ nid := fun r hr => hne _ (h.live r (List.mem_cons_of_mem _ hr))
 have hb0 : blocksOf G' L0 = blocksOf G L0 := filterMap_same fun r hr => placed_same (e1 _ (hL0 r hr)) (by rw [e3])
 have hb : blocksOf G' ((nid, .box cells) :: L0) = blocksOf G ((id, .box cells) :: L0) := by
  show G'.loc nid :: blocksOf G' L0 = G.loc id :: blocksOf G L0
  rw [e2, hb0]
 refine ⟨⟨by rw [e5]; exact h.X, fun r hr => ?_, ?_, fun r hr => ?_, by rw [hb]; exact h.blocks, fun b hb' => ?_⟩, ⟨rfl, rfl, rfl, Nat.le_refl _, e7, by rw [e5]; exact fun _ _ _ h => h, fun _ _ _ => ⟨.inl rfl, fun _ => rfl⟩, by rw [e5]; exact fun _ _ _ h => .inl h, fun b hb' => by rw [hb] at hb'; exact .inl hb', fun i hi => let ⟨a, b, c⟩ := hlive i hi; ⟨a, b, .inl c⟩, fun i hi => ?_, by rw [e6]; exact fun _ h => h, by rw [e6]; exact fun _ h => .inl h⟩, hsim⟩
 ·rcases List.mem_cons.1 hr with rfl | hr
  ·obtain ⟨h0, arr, E, fr, k1, k2, k3, k4⟩ := h.res (id, .box cells) (by simp)
   exact ⟨fun i => by rw [e2, e5]; exact h0 i, arr, E, fr, by rw [e2]; exact k1, k2, fun i => by rw [e2]; exact k3 i, fun i a ha => hsim _ _ (k4 i a ha)⟩
  ·exact (h.res r (List.mem_cons_of_mem _ hr)).keep (e1 _ (hL0 r hr)) (by rw [e3]) hsim fun b _ => ⟨rfl, by rw [e5]; exact fun _ _ h => h⟩
 ·simp only [List.map_cons, List.nodup_cons]
  refine ⟨fun hm => ?_, hids.2⟩
  obtain ⟨r, hr, e⟩ := List.mem_map.1 hm
  exact hL0 r hr e
 ·rw [e4]
  rcases List.mem_cons.1 hr with rfl | hr
  ·exact .inr rfl
  ·exact .inl (h.live r (List.mem_cons_of_mem _ hr))
 ·rw [e6] at hb'
  obtain ⟨q1, q2, q3⟩ := h.lits b hb'
  exact ⟨by rw [e7]; exact q1, q2, by rw [hb]; exact q3⟩
 ·simp only [List.map_cons, List.mem_cons] at hi ⊢
  rcases hi with rfl | hi
  ·exact .inr hn
  ·exact .inl (.inr hi)
theorem Holds.swap {G : Ghost} {w : World} {id : Nat} {r r' : Res} {L0 : Heap} (h : Holds G w ((id, r) :: L0)) (hp : G.placed (id, r') = G.placed (id, r)) (hr : ResHolds G w (id, r')) : Holds G w ((id, r') :: L0) where
 X := h.X
 res := fun q hq => by
  rcases List.mem_cons.1 hq with rfl | hq
  ·exact hr
  ·exact h.res q (List.mem_cons_of_mem _ hq)
 ids := h.ids
 live := fun q hq => by
  rcases List.mem_cons.1 hq with rfl | hq
  ·exact h.live (id, r) (by simp)
  ·exact h.live q (List.mem_cons_of_mem _ hq)
 blocks := by
  have := h.blocks
  unfold blocksOf at this ⊢
  rw [List.filterMap_cons] at this ⊢
  rw [hp]; exact this
 lits := fun b hb => by
  obtain ⟨q1, q2, q3⟩ := h.lits b hb
  refine ⟨q1, q2, ?_⟩
  unfold blocksOf at q3 ⊢
  rw [List.filterMap_cons] at q3 ⊢
  rw [hp]; exact q3
theorem Step.swap {G G' : Ghost} {w w' : World} {H L0 : Heap} {id : Nat} {r r' : Res} (h : Step G w H G' w' ((id, r) :: L0)) (hp : G'.placed (id, r') = G'.placed (id, r)) : Step G w H G' w' ((id, r') :: L0) where
 os := h.os
 tape := h.tape
 output := h.output
 size := h.size
 base := h.base
 X := h.X
 frame := h.frame
 newX := h.newX
 newB := fun b hb => h.newB b (by
  unfold blocksOf at hb ⊢
  rw [List.filterMap_cons] at hb ⊢
  rw [hp] at hb; exact hb)
 live := h.live
 newI := h.newI
 lits := h.lits
 newL := h.newL
theorem seq_placed {G : Ghost} {id : Nat} {rows : List (List AV)} {k : Nat} (hne : rows.length + k ≠ 0) : G.placed (id, .seq rows k) = some (G.loc id) := if_neg hne
theorem blocks_seq {G : Ghost} {id : Nat} {rows : List (List AV)} {k : Nat} {L0 : Heap} : ∀ b ∈ blocksOf G ((id, .seq rows k) :: L0), b ∈ blocksOf G ((id, .box (seqC rows k)) :: L0) := fun b hb => by
 unfold blocksOf at hb ⊢
 rw [List.filterMap_cons] at hb
 rw [List.filterMap_cons, show G.placed (id, .box (seqC rows k)) = some (G.loc id) from rfl]
 split at hb
 ·exact List.mem_cons_of_mem _ hb
 ·rename_i b' h
  have : b' = G.loc id := by
   simp only [Ghost.placed] at h
   split at h
   ·cases h
   ·simpa using h.symm
  subst this; exact hb
theorem Holds.unseq {G : Ghost} {w : World} {id k : Nat} {rows : List (List AV)} {L0 : Heap} (hne : rows.length + k ≠ 0) (h : Holds G w ((id, .seq rows k) :: L0)) : Holds G w ((id, .box (seqC rows k)) :: L0) ∧ ∀ a ∈ rows.flatten, a.pure = true :=
 let ⟨h1, h2⟩ := h.res (id, .seq rows k) (by simp) hne
 ⟨h.swap (seq_placed hne).symm h1, h2⟩
theorem Step.unseq {G G' : Ghost} {w w' : World} {H L0 : Heap} {id k : Nat} {rows : List (List AV)} (hne : rows.length + k ≠ 0) (h : Step G w H G' w' ((id, .seq rows k) :: L0)) : Step G w H G' w' ((id, .box (seqC rows k)) :: L0) := h.swap (seq_placed hne).symm
theorem Holds.toSeq {G : Ghost} {w : World} {id k : Nat} {rows : List (List AV)} {L0 : Heap} (h : Holds G w ((id, .box (seqC rows k)) :: L0)) (hp : ∀ a ∈ rows.flatten, a.pure = true) : Holds G w ((id, .seq rows k) :: L0) where
 X := h.X
 res := fun q hq => by
  rcases List.mem_cons.1 hq with rfl | hq
  ·exact fun _ => ⟨h.res (id, .box (seqC rows k)) (by simp), hp⟩
  ·exact h.res q (List.mem_cons_of_mem _ hq)
 ids := h.ids
 live := fun q hq => by
  rcases List.mem_cons.1 hq with rfl | hq
  ·exact h.live (id, .box (seqC rows k)) (by simp)
  ·exact h.live q (List.mem_cons_of_mem _ hq)
 blocks := by
  have h1 : blocksOf G ((id, .box (seqC rows k)) :: L0) = G.loc id :: blocksOf G L0 := rfl
  have h2 := h.blocks
  rw [h1] at h2
  by_cases hne : rows.length + k = 0
  ·have h3 : blocksOf G ((id, .seq rows k) :: L0) = blocksOf G L0 := by
    unfold blocksOf
    rw [List.filterMap_cons, show G.placed (id, .seq rows k) = none from if_pos hne]
   rw [h3]; exact (List.nodup_cons.1 h2).2
  ·have h3 : blocksOf G ((id, .seq rows k) :: L0) = G.loc id :: blocksOf G L0 := by
    unfold blocksOf
    rw [List.filterMap_cons, seq_placed hne]
   rw [h3]; exact h2
 lits := fun b hb => by
  obtain ⟨q1, q2, q3⟩ := h.lits b hb
  exact ⟨q1, q2, fun hm => q3 (blocks_seq b hm)⟩
theorem Step.toSeq {G G' : Ghost} {w w' : World} {H L0 : Heap} {id k : Nat} {rows : List (List AV)} (h : Step G w H G' w' ((id, .box (seqC rows k)) :: L0)) : Step G w H G' w' ((id, .seq rows k) :: L0) where
 os := h.os
 tape := h.tape
 output := h.output
 size := h.size
 base := h.base
 X := h.X
 frame := h.frame
 newX := h.newX
 newB := fun b hb => h.newB b (blocks_seq b hb)
 live := h.live
 newI := h.newI
 lits := h.lits
 newL := h.newL
theorem Step.forget {G G' : Ghost} {w w' : World} {H L : Heap} {r : Nat × Res} (h : Step G w H G' w' (r :: L)) : Step G w H G' w' L where
 os := h.os
 tape := h.tape
 output := h.output
 size := h.size
 base := h.base
 X := h.X
 frame := h.frame
 newX := h.newX
 newB := fun b hb => h.newB b (by
  unfold blocksOf at hb ⊢
  rw [List.filterMap_cons]
  split
  ·exact hb
  ·exact List.mem_cons_of_mem _ hb)
 live := h.live
 newI := fun i hi => h.newI i (List.mem_cons_of_mem _ hi)
 lits := h.lits
 newL := h.newL
theorem putCells_end {A cs : List AV} {k : Nat} (h : cs.length ≤ k) : putCells (A ++ List.replicate k .dead) A.length cs = A ++ cs ++ List.replicate (k - cs.length) .dead := by
 have hle : A.length + cs.length ≤ (A ++ List.replicate k AV.dead).length := by simp; omega
 apply List.ext_getElem?
 intro i
 have hp := fun a => put_get (a := a) (i := i) hle
 have hl := put_len hle
 by_cases hi : i < (A ++ List.replicate k AV.dead).length
 ·have h1 : (putCells (A ++ List.replicate k AV.dead) A.length cs)[i]? = some ((putCells (A ++ List.replicate k AV.dead) A.length cs)[i]'(by rw [hl]; exact hi)) := List.getElem?_eq_getElem _
  rw [h1]
  symm
  rcases hp _ h1 with ⟨p1, p2, p3⟩ | ⟨p1, p2⟩
  ·rw [List.append_assoc, List.getElem?_append_right (by omega), List.getElem?_append_left (by omega)]
   exact p3
  ·by_cases hi2 : i < A.length
   ·rw [List.append_assoc, List.getElem?_append_left hi2]
    rw [List.getElem?_append_left hi2] at p2
    exact p2
   ·rw [List.getElem?_append_right (by omega), List.getElem?_replicate] at p2
    rw [List.getElem?_append_right (by simp; omega), List.getElem?_replicate]
    simp only [List.length_append, List.length_replicate] at hi ⊢
    rw [if_pos (by omega)] at p2 ⊢
    exact p2
 ·have hi' := hi
  rw [List.length_append, List.length_replicate] at hi'
  rw [List.getElem?_eq_none (by rw [hl]; omega), List.getElem?_eq_none (by simp; omega)]
theorem pure_app {r1 r2 : List (List AV)} (h1 : ∀ a ∈ r1.flatten, a.pure = true) (h2 : ∀ a ∈ r2.flatten, a.pure = true) : ∀ a ∈ (r1 ++ r2).flatten, a.pure = true := fun a ha => by
 rw [List.flatten_append] at ha
 rcases List.mem_append.1 ha with h | h
 ·exact h1 a h
 ·exact h2 a h
section
variable {P : Program} {L : Heap} {ev raw : Operand → AV} {o : Oper}
theorem e_append_seq {t tx e : TypeId} {x y : Operand} {c : Call} {ti te : TI} {z : Value} {id nn cp m k nid : Nat} {rows rows2 : List (List AV)} {L0 : Heap} (ho : o.op = .call c) (hc : c.callee = .builtin .append) (ha : c.args = #[x, y]) (hty : c.argTypes = #[t, tx])
  (ht : Nonempty (TIs P t ti)) (hk : ti.kind = .slice e) (htx : ∃ e', P.underlying tx = some (.slice e')) (he : Nonempty (TIs P e te)) (hz : te.zero = some z) (hok : zok te z = true)
  (hx : ev x = .arr id 0 nn cp) (hp : L.Perm ((id, .seq rows k) :: L0)) (hr : ∀ row ∈ rows, row.length = te.size) (hn : rows.length = nn) (hkk : k = (cp - nn) * te.size) (hone : rows.flatten.all AV.one = true)
  (hm2 : rows2.length = m) (hr2 : ∀ row ∈ rows2, row.length = te.size) (hpure2 : ∀ a ∈ rows2.flatten, a.pure = true)
  (hb : bigB (nn + m) te.bytes) (hm : nn + m ≤ 4611686018427387904) (hpos : 0 < nn + m)
  (hsrc : ∀ G w vy, Holds G w L → Sim G (ev y) vy → ∃ news, SrcK P G w te.size m m vy rows2.flatten news) : ∀ G w ρ, Here P L ev raw o G w ρ → ¬ G.live nid → ∃ v G' w' cp', nn + m ≤ cp' ∧ cp' ≤ maxLen ∧
   (execOp ρ o).run P w = .ok (.value v) w' ∧ Sim G' (.arr nid 0 (nn + m) cp') v ∧ Holds G' w' ((nid, .seq (rows ++ rows2) ((cp' - (nn + m)) * te.size)) :: L0) ∧ Step G w L G' w' ((nid, .seq (rows ++ rows2) ((cp' - (nn + m)) * te.size)) :: L0) ∧ ∀ i, G'.live i → G.live i ∨ i = nid := fun G w ρ hh hnl => by
 have h1 := hh.ev x (by rw [ho]; simp [Op.operands, Call.operands, hc, ha])
 rw [hx] at h1
 have hH := hh.holds.perm hp
 obtain ⟨_, _, zs0⟩ := zok_spec hok
 have hpure : ∀ a ∈ rows.flatten, a.pure = true := by
  by_cases hne : rows.length + k = 0
  ·have : rows = [] := List.eq_nil_of_length_eq_zero (by omega)
   subst this
   intro a ha; simp at ha
  ·exact (hH.unseq hne).2
 have hfl := flatten_length hr
 have hfl2 := flatten_length hr2
 by_cases hroom : nn + m ≤ cp
 ·have hne : rows.length + k ≠ 0 := fun e => by
   have h3 : nn = 0 := by omega
   have h4 : k = 0 := by omega
   subst h3
   rw [hkk] at h4
   rcases Nat.mul_eq_zero.1 h4 with h5 | h5 <;> omega
  have hHb := (hH.unseq hne).1
  have h2 := hh.ev y (by rw [ho]; simp [Op.operands, Call.operands, hc, ha])
  obtain ⟨ht⟩ := ht
  obtain ⟨he⟩ := he
  obtain ⟨e', htx⟩ := htx
  obtain ⟨news, hS⟩ := hsrc G w _ hh.holds h2
  obtain ⟨base, hv, hlive, hnc, hcm, hbs⟩ := h1.arr_inv
  have hmk : m * te.size ≤ k := by rw [hkk]; exact Nat.mul_le_mul_right _ (by omega)
  have hf : findL ((id, Res.box (seqC rows k)) :: L0) id = some (.box (seqC rows k)) := by simp [findL]
  obtain ⟨p1, p2, p3, p4⟩ := put_arr (n := nn) (c := cp) (base := base) hHb hf hS.csLen hS.sim (off := nn * te.size) (by rw [hS.newsLen]; unfold seqC; simp; rw [← List.length_flatten, hfl, hn]; omega)
  have hset : setL ((id, Res.box (seqC rows k)) :: L0) id (.box (putCells (seqC rows k) (nn * te.size) rows2.flatten)) = (id, .box (seqC (rows ++ rows2) ((cp - (nn + m)) * te.size))) :: L0 := by
   simp only [setL, if_true]
   congr 3
   unfold seqC
   rw [← hn, ← hfl, putCells_end (by rw [hfl2, hm2]; exact hmk), List.flatten_append, hfl2, hm2, hkk, hn, ← Nat.mul_sub_right_distrib, show cp - nn - m = cp - (nn + m) by omega]
  rw [hset] at p3 p4
  obtain ⟨q1, q2, q3⟩ := move_box p3 hnl
  have hsr := hS.src htx
  rw [← he.size] at hsr
  have hrun : (Builtin.append_ #[t, tx] o.type #[ρ x, ρ y]).run P w = .ok (.slice base (nn + m) cp) (w.setCells (G.loc id) (nn * te.size) news) := by
   rw [hv]
   by_cases h0 : cp = 0
   ·have hm0 : m = 0 := by omega
    subst hm0
    have hnw : news = [] := by have := hS.newsLen; simpa using this
    subst hnw
    exact run_append_nothing w t tx o.type e he.i (ht.slice hk) he.info base nn cp hnc _ hsr
   ·obtain rfl := hbs h0
    have := run_append_room_src (P := P) w t tx o.type e he.i (ht.slice hk) he.info (G.loc id) 0 nn cp _ m news hsr hroom (by rw [he.size, Nat.zero_add]; exact p1) (by rw [he.size, Nat.zero_add]; exact p2)
    rw [he.size, Nat.zero_add] at this
    exact this
  refine ⟨_, _, _, cp, hroom, hcm, append_run ho hc ha hty hrun, ?_, q1.toSeq (pure_app hpure hpure2), ((((Step.refl G w L).perm (.refl _) hp).unseq hne).trans (p4.trans q2)).toSeq, fun i hi => hi⟩
  exact Sim.arr (G := G.boxed nid (G.loc id)) nid 0 (nn + m) cp base (.inr rfl) hroom hcm fun h0 => by
   rw [hbs h0]; simp [Ghost.boxed]
 ·obtain ⟨v, G', w', cp', c1, c2, r1, r2, r3, r4, r5⟩ := e_append_new (id := nid) (olds := rows.flatten) (cs := rows2.flatten) (cp := cp) (n := nn) (m := m) ho hc ha hty ht hk htx he hz hok (by omega) hb hm (fun G w vx hH' hx' => by
   rw [hx] at hx'
   have hH := hH'.perm hp
   obtain ⟨base, hv, _⟩ := hx'.arr_inv
   refine ⟨⟨base, hv⟩, ?_⟩
   by_cases hne : rows.length + k = 0
   ·have h3 : rows = [] := List.eq_nil_of_length_eq_zero (by omega)
    subst h3
    simp only [List.length_nil] at hn
    subst hn
    rw [hv]
    exact ⟨[], srck_slice (by simp) rfl (fun i a h => by simp at h) (fun u h => by cases h) (fun h => absurd rfl h)⟩
   have hHb := (hH.unseq hne).1
   have hcut : ((seqC rows k).drop 0).take (nn * te.size) = rows.flatten := by
    unfold seqC
    rw [List.drop_zero, ← hn, ← hfl, List.take_left]
   have := srck_arr (P := P) (s := te.size) (k := nn) hHb hx' (show findL ((id, Res.box (seqC rows k)) :: L0) id = some (.box (seqC rows k)) by simp [findL]) (Nat.le_refl _) (by unfold seqC; simp; rw [← List.length_flatten, hfl, hn]; omega) (by rw [hcut]; exact hone)
   rw [hcut] at this
   exact this) hsrc G w ρ hh hnl
  have hp2 : ((nid, Res.box (rows.flatten ++ rows2.flatten ++ List.replicate ((cp' - (nn + m)) * te.size) .dead)) :: L).Perm ((id, .seq rows k) :: (nid, Res.box (seqC (rows ++ rows2) ((cp' - (nn + m)) * te.size))) :: L0) := by
   unfold seqC
   rw [List.flatten_append]
   exact (hp.cons _).trans (.swap _ _ _)
  have hq : Holds G' w' ((nid, .box (seqC (rows ++ rows2) ((cp' - (nn + m)) * te.size))) :: L0) := Holds.left (R := [(id, Res.seq rows k)]) ((r3.perm hp2).perm (List.perm_append_comm (l₁ := [(id, Res.seq rows k)])))
  have hs : Step G w L G' w' ((nid, .box (seqC (rows ++ rows2) ((cp' - (nn + m)) * te.size))) :: L0) := (r4.perm (.refl _) hp2).forget
  exact ⟨v, G', w', cp', c1, c2, r1, r2, hq.toSeq (pure_app hpure hpure2), hs.toSeq, r5⟩
theorem new_void {G : Ghost} {w : World} {n : Nat} (hl : Holds G w []) (hn : ¬ G.live n) : Holds (G.boxed n 0) w [(n, .seq [] 0)] ∧ Step G w [] (G.boxed n 0) w [(n, .seq [] 0)] := by
 have hlive : ∀ i, G.live i → (G.boxed n 0).live i ∧ (G.boxed n 0).loc i = G.loc i ∧ (G.boxed n 0).tk i = G.tk i := fun i hi => ⟨.inl hi, by
  have : i ≠ n := fun e => hn (e ▸ hi)
  simp [Ghost.boxed, this], rfl⟩
 have hb : blocksOf (G.boxed n 0) [(n, .seq [] 0)] = [] := rfl
 refine ⟨⟨hl.X, fun r hr => ?_, by simp, fun r hr => ?_, by rw [hb]; simp, fun b hb' => ?_⟩, ⟨rfl, rfl, rfl, Nat.le_refl _, rfl, fun _ _ _ h => h, fun _ _ _ => ⟨.inl rfl, fun _ => rfl⟩, fun _ _ _ h => .inl h, fun b hb' => (by rw [hb] at hb'; cases hb'), fun i hi => let ⟨a, b, c⟩ := hlive i hi; ⟨a, b, .inl c⟩, fun i hi => ?_, fun _ h => h, fun _ h => .inl h⟩⟩
 ·obtain rfl := List.mem_singleton.1 hr
  exact fun h => absurd rfl h
 ·obtain rfl := List.mem_singleton.1 hr
  exact .inr rfl
 ·obtain ⟨q1, q2, q3⟩ := hl.lits b hb'
  exact ⟨q1, q2, by rw [hb]; simp⟩
 ·have : i = n := by simpa using hi
  subst this; exact .inr hn
theorem e_append_seq0 {t tx e : TypeId} {x y : Operand} {c : Call} {ti te : TI} {z : Value} {m nid : Nat} {rows2 : List (List AV)} (ho : o.op = .call c) (hc : c.callee = .builtin .append) (ha : c.args = #[x, y]) (hty : c.argTypes = #[t, tx])
  (ht : Nonempty (TIs P t ti)) (hk : ti.kind = .slice e) (htx : ∃ e', P.underlying tx = some (.slice e')) (he : Nonempty (TIs P e te)) (hz : te.zero = some z) (hok : zok te z = true) (hm2 : rows2.length = m)
  (hx : ev x = .list [] .full ∨ ∃ id off, ev x = .arr id off 0 0) (hpure2 : ∀ a ∈ rows2.flatten, a.pure = true)
  (hb : m * te.bytes ≤ 140737488355328) (hm : m ≤ 4611686018427387904)
  (hsrc : ∀ G w vy, Holds G w L → Sim G (ev y) vy → ∃ news, SrcK P G w te.size m m vy rows2.flatten news) : ∀ G w ρ, Here P L ev raw o G w ρ → ¬ G.live nid → ∃ v G' w' cp', m ≤ cp' ∧ cp' ≤ maxLen ∧
   (execOp ρ o).run P w = .ok (.value v) w' ∧ Sim G' (.arr nid 0 m cp') v ∧ Holds G' w' ((nid, .seq rows2 ((cp' - m) * te.size)) :: L) ∧ Step G w L G' w' ((nid, .seq rows2 ((cp' - m) * te.size)) :: L) ∧ ∀ i, G'.live i → G.live i ∨ i = nid := fun G w ρ hh hnl => by
 by_cases h0 : m = 0
 ·subst h0
  obtain rfl : rows2 = [] := List.eq_nil_of_length_eq_zero hm2
  have h1 := hh.ev x (by rw [ho]; simp [Op.operands, Call.operands, hc, ha])
  have h2 := hh.ev y (by rw [ho]; simp [Op.operands, Call.operands, hc, ha])
  obtain ⟨ht⟩ := ht
  obtain ⟨he⟩ := he
  obtain ⟨e', htx⟩ := htx
  obtain ⟨news, hS⟩ := hsrc G w _ hh.holds h2
  have hsr := hS.src htx
  rw [← he.size] at hsr
  have hnw : news = [] := by have := hS.newsLen; simpa using this
  subst hnw
  obtain ⟨base, hv⟩ : ∃ base, ρ x = .slice base 0 0 := by
   rcases hx with hx | ⟨id, off, hx⟩
   ·rw [hx] at h1
    obtain ⟨base, c, hb, _, _, hc⟩ := (h1.list_inv.2 rfl).slice
    have := hc rfl
    simp only [List.length_nil] at this hb
    subst this
    exact ⟨base, hb⟩
   ·rw [hx] at h1
    obtain ⟨base, hb, _⟩ := h1.arr_inv
    exact ⟨base, hb⟩
  have hrun : (Builtin.append_ #[t, tx] o.type #[ρ x, ρ y]).run P w = .ok (.slice base 0 0) w := by
   rw [hv]
   exact run_append_nothing w t tx o.type e he.i (ht.slice hk) he.info base 0 0 (Nat.le_refl _) _ hsr
  have hd : Holds G w ([] ++ L) := hh.holds
  obtain ⟨k1, k2⟩ := new_void hd.left hnl
  obtain ⟨m1, m2⟩ := hd.beside k1 k2
  refine ⟨_, G.boxed nid 0, w, 0, Nat.le_refl _, by decide, append_run ho hc ha hty hrun, ?_, ?_, ?_, fun i hi => hi⟩
  ·exact .arr nid 0 0 0 base (.inr rfl) (Nat.le_refl _) (by decide) fun h => absurd rfl h
  ·rw [Nat.zero_mul]; exact m1
  ·rw [Nat.zero_mul]; exact m2
 obtain ⟨v, G', w', cp', c1, c2, r1, r2, r3, r4, r5⟩ := e_append_new (id := nid) (olds := []) (cs := rows2.flatten) (cp := 0) (n := 0) (m := m) ho hc ha hty ht hk htx he hz hok (by omega) (.inl (by rw [Nat.zero_add]; exact hb)) (by rw [Nat.zero_add]; exact hm) (fun G w vx hH' hx' => by
  rcases hx with hx | ⟨id, off, hx⟩
  ·rw [hx] at hx'
   obtain ⟨base, c, rfl, _, _, hc⟩ := (hx'.list_inv.2 rfl).slice
   have := hc rfl
   simp only [List.length_nil] at this ⊢
   subst this
   exact ⟨⟨base, rfl⟩, [], srck_slice (by simp) rfl (fun i a h => by simp at h) (fun u h => by cases h) (fun h => absurd rfl h)⟩
  ·rw [hx] at hx'
   obtain ⟨base, rfl, _⟩ := hx'.arr_inv
   exact ⟨⟨base, rfl⟩, [], srck_slice (by simp) rfl (fun i a h => by simp at h) (fun u h => by cases h) (fun h => absurd rfl h)⟩) hsrc G w ρ hh hnl
 rw [Nat.zero_add, List.nil_append] at *
 exact ⟨v, G', w', cp', c1, c2, r1, r2, Holds.toSeq (rows := rows2) (k := (cp' - m) * te.size) r3 hpure2, Step.toSeq (rows := rows2) (k := (cp' - m) * te.size) r4, r5⟩
theorem e_store_seq {t : TypeId} {x y : Operand} {ti : TI} {id off k : Nat} {l : List AV} {rows rows' : List (List AV)} {L0 : Heap} (ho : o.op = .store t x y) (ht : TIs P t ti) (hx : ev x = .ptr id off) (hp : L.Perm ((id, .seq rows k) :: L0)) (hl : acells (ev y) = some l) (hone : l.all AV.one = true)
  (hs : l.length = ti.size) (hl0 : 0 < l.length) (hle : off + l.length ≤ (seqC rows k).length) (hput : putCells (seqC rows k) off l = seqC rows' k) (hpure : ∀ a ∈ rows'.flatten, a.pure = true) : EOk P L ev raw o .dead ((id, .seq rows' k) :: L0) fun _ => False := fun G w ρ hh hn => by
 have hH := hh.holds.perm hp
 have hne : rows.length + k ≠ 0 := fun e => by
  have h3 : rows = [] := List.eq_nil_of_length_eq_zero (by omega)
  have h4 : k = 0 := by omega
  subst h3; subst h4
  have : (seqC [] 0).length = 0 := rfl
  omega
 have hHb := (hH.unseq hne).1
 have hf : findL ((id, Res.box (seqC rows k)) :: L0) id = some (.box (seqC rows k)) := by simp [findL]
 obtain ⟨v, G', w', r1, r2, r3, r4, r5⟩ := e_store (L := (id, Res.box (seqC rows k)) :: L0) ho ht hx hf hl hone hs hle G w ρ ⟨hh.ev, hh.raw, hHb, hh.base⟩ hn
 have hset : setL ((id, Res.box (seqC rows k)) :: L0) id (.box (putCells (seqC rows k) off l)) = (id, .box (seqC rows' k)) :: L0 := by
  simp only [setL, if_true, hput]
 rw [hset] at r3 r4
 refine ⟨v, G', w', r1, r2, r3.toSeq hpure, ?_, r5⟩
 exact ((((Step.refl G w L).perm (.refl _) hp).unseq hne).trans r4).toSeq
theorem EOk.onSeq {id k k' : Nat} {rows rows' : List (List AV)} {L0 : Heap} {av : AV} {cells' : List AV} (hp : L.Perm ((id, .seq rows k) :: L0)) (hne : rows.length + k ≠ 0) (hput : cells' = seqC rows' k') (hpure : ∀ a ∈ rows'.flatten, a.pure = true)
  (h : (∀ a ∈ rows.flatten, a.pure = true) → EOk P ((id, .box (seqC rows k)) :: L0) ev raw o av ((id, .box cells') :: L0) fun _ => False) : EOk P L ev raw o av ((id, .seq rows' k') :: L0) fun _ => False := fun G w ρ hh hn => by
 subst hput
 have hH := hh.holds.perm hp
 obtain ⟨v, G', w', r1, r2, r3, r4, r5⟩ := h (hH.unseq hne).2 G w ρ ⟨hh.ev, hh.raw, (hH.unseq hne).1, hh.base⟩ hn
 exact ⟨v, G', w', r1, r2, r3.toSeq hpure, ((((Step.refl G w L).perm (.refl _) hp).unseq hne).trans r4).toSeq, r5⟩
theorem setL_here (id : Nat) (r r' : Res) (L0 : Heap) : setL ((id, r) :: L0) id r' = (id, r') :: L0 := by simp [setL]
end
end Go.Am
namespace Go.Am
open Go.RowKit
/-! names of objects, renamed -/
def Own.ren (f : Nat → Nat) : Own → Own
 | .tok k => .tok (f k)
 | o => o
mutual
def AV.ren (f : Nat → Nat) : AV → AV
 | .v x => .v x
 | .list rows o => .list rows (o.ren f)
 | .agg l => .agg (AV.renL f l)
 | .tuple l => .tuple (AV.renL f l)
 | .ptr id off => .ptr (f id) off
 | .arr id off n c => .arr (f id) off n c
 | .cref l => .cref l
 | .fn g l => .fn g (AV.renL f l)
 | .bnd g l => .bnd g (AV.renL f l)
 | .iface t x => .iface t (AV.ren f x)
 | .dead => .dead
def AV.renL (f : Nat → Nat) : List AV → List AV
 | [] => []
 | a :: l => AV.ren f a :: AV.renL f l
end
theorem renL_eq (f : Nat → Nat) : ∀ l, AV.renL f l = l.map (AV.ren f)
 | [] => by rw [AV.renL]; rfl
 | a :: l => by rw [AV.renL, renL_eq f l]; rfl
def Res.ren (f : Nat → Nat) : Res → Res
 | .box l => .box (AV.renL f l)
 | .tok s n => .tok s n
 | .seq rows k => .seq rows k
theorem AV.pure_ren {a : AV} (h : a.pure = true) (f : Nat → Nat) : a.ren f = a := by
 cases a with
 | list rows o => cases o <;> first | rfl | (rw [AV.ren]; rfl) | (simp [AV.pure] at h)
 | v x => rw [AV.ren]
 | dead => rw [AV.ren]
 | cref l => rw [AV.ren]
 | _ => simp [AV.pure] at h
theorem seqC_pure {rows : List (List AV)} {k : Nat} (h : ∀ a ∈ rows.flatten, a.pure = true) {i : Nat} {a : AV} (ha : (seqC rows k)[i]? = some a) (f : Nat → Nat) : a.ren f = a := by
 unfold seqC at ha
 rcases List.mem_append.1 (List.mem_of_getElem? ha) with h1 | h1
 ·exact AV.pure_ren (h a h1) f
 ·rw [List.eq_of_mem_replicate h1, AV.ren]
def renH (f : Nat → Nat) : Heap → Heap
 | [] => []
 | (i, r) :: H => (f i, r.ren f) :: renH f H
theorem renH_eq (f : Nat → Nat) (H : Heap) : renH f H = H.map fun p => (f p.1, p.2.ren f) := by
 induction H with
 | nil => rfl
 | cons p H ih => obtain ⟨i, r⟩ := p; simp [renH, ih]
def Ghost.look (G : Ghost) (f : Nat → Nat) (k base : Nat) : Ghost :=
  { X := G.X, loc := fun i => G.loc (f i), tk := fun i => G.tk (f i), live := fun i => G.live (f i) ∧ i < k, lits := fun _ => False, base := base }
theorem Sim.look {G : Ghost} {f : Nat → Nat} {k base : Nat} {a : AV} {x : Value} (h : Sim G (a.ren f) x) (hk : ∀ i, G.live (f i) → i < k) : Sim (G.look f k base) a x := by
 generalize hb : a.ren f = b at h
 induction h generalizing a with
 | data b x h =>
  subst hb
  cases a with
  | v y => exact .data _ _ (by rw [AV.ren] at h; exact h)
  | list rows o =>
   rw [AV.ren] at h
   cases o with
   | tok j =>
    exfalso
    cases h with
    | nil _ _ _ _ _ hs => rcases hs with h | h <;> cases h
    | list _ _ _ _ _ _ _ _ _ _ hs _ _ _ _ => rcases hs with h | h <;> cases h
   | free => exact .data _ _ h
   | full => exact .data _ _ h
   | lit => exact .data _ _ h
  | agg l => rw [AV.ren] at h; cases h
  | tuple l => rw [AV.ren] at h; cases h
  | ptr i j => rw [AV.ren] at h; cases h
  | arr i j k l => rw [AV.ren] at h; cases h
  | cref l => exact .data _ _ (by rw [AV.ren] at h; exact h)
  | fn g l => rw [AV.ren] at h; cases h
  | bnd g l => rw [AV.ren] at h; cases h
  | iface t y => rw [AV.ren] at h; cases h
  | dead => exact .data _ _ (.dead _)
 | tok rows j x hj h hl hz he =>
  cases a <;> rw [AV.ren] at hb <;> try (cases hb; done)
  rename_i rows' o
  cases o <;> simp only [Own.ren] at hb <;> cases hb
  exact .tok _ _ _ ⟨hj, hk _ hj⟩ h hl hz he
 | ptr i j hi =>
  cases a <;> rw [AV.ren] at hb <;> cases hb
  exact .ptr _ _ ⟨hi, hk _ hi⟩
 | arr i off n c base hi hn hc hbs =>
  cases a <;> rw [AV.ren] at hb <;> cases hb
  exact .arr _ _ _ c base ⟨hi, hk _ hi⟩ hn hc hbs
 | fn g cap vs hl h ih =>
  cases a <;> rw [AV.ren] at hb <;> cases hb
  rename_i l
  rw [renL_eq] at hl ih
  refine .fn _ _ _ (by simpa using hl) fun i a ha => ih i (a.ren f) (by simp [ha]) rfl
 | bnd g cap vs hl h ih =>
  cases a <;> rw [AV.ren] at hb <;> cases hb
  rename_i l
  rw [renL_eq] at hl ih
  refine .bnd _ _ _ (by simpa using hl) fun i a ha => ih i (a.ren f) (by simp [ha]) rfl
 | agg cap vs hl h ih =>
  cases a <;> rw [AV.ren] at hb <;> cases hb
  rename_i l
  rw [renL_eq] at hl ih
  refine .agg _ _ (by simpa using hl) fun i a ha => ih i (a.ren f) (by simp [ha]) rfl
 | tuple cap vs hl h ih =>
  cases a <;> rw [AV.ren] at hb <;> cases hb
  rename_i l
  rw [renL_eq] at hl ih
  refine .tuple _ _ (by simpa using hl) fun i a ha => ih i (a.ren f) (by simp [ha]) rfl
 | iface t b x h ih =>
  cases a <;> rw [AV.ren] at hb <;> cases hb
  exact .iface _ _ _ (ih rfl)
theorem Sim.back {G0 G : Ghost} {f : Nat → Nat} {a : AV} {x : Value} (h : Sim G0 a x) (hX : G.X = G0.X) (hl : ∀ i, G0.live i → G.live (f i) ∧ G.loc (f i) = G0.loc i ∧ G.tk (f i) = G0.tk i) : Sim G (a.ren f) x := by
 induction h with
 | data a x h =>
  rw [← hX] at h
  cases h with
  | v x => exact .data _ _ (by rw [AV.ren]; exact .v x)
  | dead x => exact .data _ _ (by rw [AV.ren]; exact .dead x)
  | nil o a c hc ho hs => rw [AV.ren]; rcases hs with rfl | rfl <;> exact .data _ _ (.nil _ a c hc ho (by simp [Own.ren]))
  | list rows o b off c s y h1 h2 h3 h4 h5 h6 h7 h8 => rw [AV.ren]; rcases h4 with rfl | rfl <;> exact .data _ _ (.list rows _ b off c s y h1 h2 h3 (by simp [Own.ren]) h5 h6 h7 h8)
  | cref l b off y h1 h2 h3 => rw [AV.ren]; exact .data _ _ (.cref l b off y h1 h2 h3)
 | tok rows k x hk h hle hz he =>
  obtain ⟨k1, k2, k3⟩ := hl k hk
  rw [AV.ren]
  exact .tok rows (f k) x k1 (by rw [hX]; exact h) (by rw [k3]; exact hle) (by rw [k3]; exact hz) (by rw [k3]; exact he)
 | ptr id off hk =>
  obtain ⟨k1, k2, k3⟩ := hl id hk
  rw [AV.ren, ← k2]; exact .ptr _ _ k1
 | arr id off n c base hk hn hc hb =>
  obtain ⟨k1, k2, k3⟩ := hl id hk
  rw [AV.ren]; exact .arr _ _ _ c base k1 hn hc (by rw [k2]; exact hb)
 | fn g cap vs hl' h ih =>
  rw [AV.ren, renL_eq]
  exact .fn _ _ _ (by simpa using hl') fun i a ha => by
   rw [List.getElem?_map, Option.map_eq_some_iff] at ha
   obtain ⟨b, hb, rfl⟩ := ha
   exact ih i b hb
 | bnd g cap vs hl' h ih =>
  rw [AV.ren, renL_eq]
  exact .bnd _ _ _ (by simpa using hl') fun i a ha => by
   rw [List.getElem?_map, Option.map_eq_some_iff] at ha
   obtain ⟨b, hb, rfl⟩ := ha
   exact ih i b hb
 | agg cap vs hl' h ih =>
  rw [AV.ren, renL_eq]
  exact .agg _ _ (by simpa using hl') fun i a ha => by
   rw [List.getElem?_map, Option.map_eq_some_iff] at ha
   obtain ⟨b, hb, rfl⟩ := ha
   exact ih i b hb
 | tuple cap vs hl' h ih =>
  rw [AV.ren, renL_eq]
  exact .tuple _ _ (by simpa using hl') fun i a ha => by
   rw [List.getElem?_map, Option.map_eq_some_iff] at ha
   obtain ⟨b, hb, rfl⟩ := ha
   exact ih i b hb
 | iface t a x h ih => rw [AV.ren]; exact .iface _ _ _ ih
inductive AOut where
 | ret (a : AV)
 | panic (a : AV)
def AOut.ren (f : Nat → Nat) : AOut → AOut
 | .ret a => .ret (a.ren f)
 | .panic a => .panic (a.ren f)
def OSim (G : Ghost) : AOut → Ending → Prop
 | .ret a, .returned v => Sim G a v
 | .panic a, .panicked chain => ∃ v, chain = [{ v, recovered := false }] ∧ Sim G a v
 | _, _ => False
def Upon (P : Program) (f : FuncId) (args : Array Value) (w : World) (R : Ending → World → Prop) : Prop :=
 ((callFunc f args).run P w = .ok (.enter f args) w ∧ Calls P f args w R) ∨ ∃ v w', (callFunc f args).run P w = .ok (.value v) w' ∧ R (.returned v) w'
def ACalls (P : Program) (f : FuncId) (k top : Nat) (args : List AV) (H : Heap) (R : AOut → Heap → Prop) : Prop :=
 ∀ (G : Ghost) (w : World) (vals : Array Value), (∀ id, G.live id → id < k) → (∀ b, ¬ G.lits b) → G.base = w.heap.size → Holds G w H → args.length = vals.size → (∀ i a, args[i]? = some a → Sim G a (vals.getD i undef)) →
  Upon P f vals w fun e w' => ∃ G' out H', R out H' ∧ OSim G' out e ∧ Holds G' w' H' ∧ Step G w H G' w' H' ∧ ∀ id, G'.live id → G.live id ∨ (k ≤ id ∧ id < top)
theorem ACalls.mono {P : Program} {f : FuncId} {k top : Nat} {args : List AV} {H : Heap} {R R' : AOut → Heap → Prop} (h : ACalls P f k top args H R) (hr : ∀ o H', R o H' → R' o H') : ACalls P f k top args H R' := by
 intro G w vals h1 h2 h3 h4 h5 h6
 rcases h G w vals h1 h2 h3 h4 h5 h6 with ⟨k1, k2⟩ | ⟨v, w', k1, G', out, H', k2, k3⟩
 ·exact .inl ⟨k1, k2.mono fun e w' ⟨G', out, H', k3, k4⟩ => ⟨G', out, H', hr _ _ k3, k4⟩⟩
 ·exact .inr ⟨v, w', k1, G', out, H', hr _ _ k2, k3⟩
def rn (ids : List Nat) (next : Nat) (j : Nat) : Nat := match ids[j]? with | some i => i | none => next + (j - ids.length)
theorem nodup_get {l : List Nat} (h : l.Nodup) : ∀ {i j x : Nat}, l[i]? = some x → l[j]? = some x → i = j := by
 induction l with
 | nil => intro i j x h1; simp at h1
 | cons a l ih =>
  intro i j x h1 h2
  obtain ⟨n1, n2⟩ := List.nodup_cons.1 h
  cases i with
  | zero =>
   cases j with
   | zero => rfl
   | succ j => simp at h1 h2; subst h1; exact absurd (List.mem_of_getElem? h2) n1
  | succ i =>
   cases j with
   | zero => simp at h1 h2; subst h2; exact absurd (List.mem_of_getElem? h1) n1
   | succ j => simp at h1 h2; rw [ih n2 h1 h2]
theorem rn_inj {ids : List Nat} {next : Nat} (hn : ids.Nodup) (hl : ∀ i ∈ ids, i < next) {a b : Nat} (h : rn ids next a = rn ids next b) : a = b := by
 unfold rn at h
 cases ha : ids[a]? with
 | some i =>
  cases hb : ids[b]? with
  | some j =>
   rw [ha, hb] at h
   simp only at h
   subst h
   exact nodup_get hn ha hb
  | none =>
   rw [ha, hb] at h
   simp only at h
   have := hl i (List.mem_of_getElem? ha)
   omega
 | none =>
  cases hb : ids[b]? with
  | some j =>
   rw [ha, hb] at h
   simp only at h
   have := hl j (List.mem_of_getElem? hb)
   omega
  | none =>
   rw [ha, hb] at h
   simp only at h
   have h1 := List.getElem?_eq_none_iff.1 ha
   have h2 := List.getElem?_eq_none_iff.1 hb
   omega
open Classical in
noncomputable def Ghost.after (G G0 : Ghost) (f : Nat → Nat) : Ghost :=
  { X := G0.X, loc := fun i => if h : ∃ j, f j = i ∧ G0.live j then G0.loc h.choose else G.loc i, tk := fun i => if h : ∃ j, f j = i ∧ G0.live j then G0.tk h.choose else G.tk i,
    live := fun i => G.live i ∨ ∃ j, f j = i ∧ G0.live j, lits := G.lits, base := G.base }
theorem Ghost.after_at {G G0 : Ghost} {f : Nat → Nat} (hf : ∀ a b, f a = f b → a = b) {j : Nat} (hj : G0.live j) : (G.after G0 f).live (f j) ∧ (G.after G0 f).loc (f j) = G0.loc j ∧ (G.after G0 f).tk (f j) = G0.tk j := by
 have hex : ∃ i, f i = f j ∧ G0.live i := ⟨j, rfl, hj⟩
 have hc : hex.choose = j := hf _ _ hex.choose_spec.1
 refine ⟨.inr hex, ?_, ?_⟩
 ·unfold Ghost.after
  simp only
  rw [dif_pos hex, hc]
 ·unfold Ghost.after
  simp only
  rw [dif_pos hex, hc]
theorem Ghost.after_out {G G0 : Ghost} {f : Nat → Nat} {i : Nat} (h : ¬ ∃ j, f j = i ∧ G0.live j) : (G.after G0 f).loc i = G.loc i ∧ (G.after G0 f).tk i = G.tk i :=
 ⟨dif_neg h, dif_neg h⟩
theorem placed_ren {G G' : Ghost} {f : Nat → Nat} {r : Nat × Res} (hl : G.loc (f r.1) = G'.loc r.1) (ht : G.tk (f r.1) = G'.tk r.1) : G.placed (f r.1, r.2.ren f) = G'.placed r := by
 obtain ⟨i, r⟩ := r
 cases r <;> simp_all [Ghost.placed, Res.ren]
theorem blocks_ren {G G' : Ghost} {f : Nat → Nat} : ∀ {H : Heap}, (∀ r ∈ H, G.loc (f r.1) = G'.loc r.1 ∧ G.tk (f r.1) = G'.tk r.1) → blocksOf G (renH f H) = blocksOf G' H
 | [], _ => rfl
 | (i, r) :: H, h => by
  have h1 := h (i, r) (by simp)
  have h2 := placed_ren (r := (i, r)) h1.1 h1.2
  have h3 := blocks_ren (H := H) fun x hx => h x (List.mem_cons_of_mem _ hx)
  unfold blocksOf at h3 ⊢
  simp only [renH, List.filterMap_cons, h2, h3]
theorem ids_ren (f : Nat → Nat) (H : Heap) : (renH f H).map (·.1) = (H.map (·.1)).map f := by rw [renH_eq]; simp
theorem nodup_map_inj {f : Nat → Nat} (hf : ∀ a b, f a = f b → a = b) : ∀ {l : List Nat}, (l.map f).Nodup ↔ l.Nodup
 | [] => by simp
 | a :: l => by
  simp only [List.map_cons, List.nodup_cons, nodup_map_inj hf (l := l), List.mem_map]
  constructor
  ·rintro ⟨h1, h2⟩; exact ⟨fun hm => h1 ⟨a, hm, rfl⟩, h2⟩
  ·rintro ⟨h1, h2⟩; exact ⟨fun ⟨b, hb, he⟩ => h1 (hf _ _ he ▸ hb), h2⟩
theorem Holds.look {G : Ghost} {w : World} {f : Nat → Nat} {k : Nat} {H : Heap} (hf : ∀ a b, f a = f b → a = b) (hk : ∀ i, G.live (f i) → i < k) (h : Holds G w (renH f H)) : Holds (G.look f k w.heap.size) w H where
 X := h.X
 res := fun r hr => by
  obtain ⟨i, r⟩ := r
  have hm : (f i, r.ren f) ∈ renH f H := by rw [renH_eq]; exact List.mem_map.2 ⟨(i, r), hr, rfl⟩
  have h1 := h.res _ hm
  cases r with
  | box cells =>
   obtain ⟨k0, arr, E, fr, k1, k2, k3, k4⟩ := h1
   rw [renL_eq] at k2 k4
   exact ⟨k0, arr, E, fr, k1, by simpa using k2, k3, fun i a ha => (k4 i (a.ren f) (by simp [ha])).look hk⟩
  | seq rows k =>
   intro hne
   obtain ⟨⟨k0, arr, E, fr, k1, k2, k3, k4⟩, hp⟩ := h1 hne
   exact ⟨⟨k0, arr, E, fr, k1, k2, k3, fun i a ha => Sim.look (by rw [seqC_pure hp ha f]; exact k4 i a ha) hk⟩, hp⟩
  | tok s n => exact h1
 ids := (nodup_map_inj hf).1 (by rw [← ids_ren]; exact h.ids)
 live := fun r hr => by
  have hm : (f r.1, r.2.ren f) ∈ renH f H := by rw [renH_eq]; exact List.mem_map.2 ⟨r, hr, rfl⟩
  have := h.live _ hm
  exact ⟨this, hk _ this⟩
 blocks := by
  have := h.blocks
  rwa [blocks_ren (G' := G.look f k w.heap.size) (fun r _ => ⟨rfl, rfl⟩)] at this
 lits := fun _ h => h.elim
theorem Holds.back {G G0 G0' : Ghost} {w w' : World} {f : Nat → Nat} {k : Nat} {H H' : Heap} (hf : ∀ a b, f a = f b → a = b) (hk : ∀ i, G.live (f i) → i < k) (h : Holds G w (renH f H)) (hG0 : G0 = G.look f k w.heap.size)
  (h' : Holds G0' w' H') (st : Step G0 w H G0' w' H') :
  Holds (G.after G0' f) w' (renH f H') ∧ Step G w (renH f H) (G.after G0' f) w' (renH f H') := by
 subst hG0
 have hat : ∀ r ∈ H', (G.after G0' f).loc (f r.1) = G0'.loc r.1 ∧ (G.after G0' f).tk (f r.1) = G0'.tk r.1 := fun r hr => (Ghost.after_at hf (h'.live r hr)).2
 have hb' : blocksOf (G.after G0' f) (renH f H') = blocksOf G0' H' := blocks_ren hat
 have hb : blocksOf G (renH f H) = blocksOf (G.look f k w.heap.size) H := blocks_ren fun r _ => ⟨rfl, rfl⟩
 have hsim : ∀ a x, Sim G0' a x → Sim (G.after G0' f) (a.ren f) x := fun a x hs => hs.back rfl fun i hi => Ghost.after_at hf hi
 have hfr : ∀ b, b < w.heap.size → b ∉ blocksOf G (renH f H) → w'.heap[b]? = w.heap[b]? := fun b h1 h2 => (st.frame b h1 (by rw [← hb]; exact h2)).2 (fun h => h)
 refine ⟨⟨h'.X, fun r hr => ?_, by rw [ids_ren]; exact (nodup_map_inj hf).2 h'.ids, fun r hr => ?_, by rw [hb']; exact h'.blocks, fun b hbl => ?_⟩,
  ⟨st.os, st.tape, st.output, st.size, rfl, st.X, fun b h1 h2 => ⟨.inl (hfr b h1 h2), fun _ => hfr b h1 h2⟩, fun b i v hx => by rw [hb]; exact st.newX b i v hx, fun b hbb => by rw [hb'] at hbb; rw [hb]; exact st.newB b hbb, fun i hi => ?_, fun i hi => ?_, fun _ h => h, fun _ h => .inl h⟩⟩
 ·rw [renH_eq] at hr
  obtain ⟨⟨i, r⟩, hr0, rfl⟩ := List.mem_map.1 hr
  have h1 := h'.res _ hr0
  obtain ⟨e1, e2⟩ := hat _ hr0
  cases r with
  | box cells =>
   obtain ⟨k0, arr, E, fr, k1, k2, k3, k4⟩ := h1
   simp only at e1 e2
   refine ⟨fun j => by rw [e1]; exact k0 j, arr, E, fr, by rw [e1]; exact k1, by rw [renL_eq]; simpa using k2, fun j => by rw [e1]; exact k3 j, fun j a ha => ?_⟩
   rw [renL_eq, List.getElem?_map, Option.map_eq_some_iff] at ha
   obtain ⟨b, hb, rfl⟩ := ha
   exact hsim _ _ (k4 j b hb)
  | seq rows k =>
   intro hne
   obtain ⟨⟨k0, arr, E, fr, k1, k2, k3, k4⟩, hp⟩ := h1 hne
   simp only at e1 e2
   refine ⟨⟨fun j => by rw [e1]; exact k0 j, arr, E, fr, by rw [e1]; exact k1, k2, fun j => by rw [e1]; exact k3 j, fun j a ha => ?_⟩, hp⟩
   have := hsim _ _ (k4 j a ha)
   rwa [seqC_pure hp ha f] at this
  | tok s n =>
   simp only at e1 e2
   unfold ResHolds at h1 ⊢
   simp only [Res.ren, e2]
   exact h1
 ·rw [renH_eq] at hr
  obtain ⟨r0, hr0, rfl⟩ := List.mem_map.1 hr
  exact (Ghost.after_at hf (h'.live r0 hr0)).1
 ·obtain ⟨q1, q2, q3⟩ := h.lits b hbl
  refine ⟨q1, Nat.lt_of_lt_of_le q2 st.size, ?_⟩
  rw [hb']
  intro hm
  rcases st.newB b hm with hm | hm
  ·rw [← hb] at hm; exact q3 hm
  ·omega
 ·by_cases hex : ∃ j, f j = i ∧ G0'.live j
  ·obtain ⟨j, rfl, hj⟩ := hex
   obtain ⟨a1, a2, a3⟩ := Ghost.after_at (G := G) hf hj
   have hj0 : (G.look f k w.heap.size).live j := ⟨hi, hk _ hi⟩
   obtain ⟨b1, b2, b3⟩ := st.live j hj0
   refine ⟨a1, a2.trans b2, ?_⟩
   rw [a3]
   rcases b3 with b3 | ⟨b3, b4⟩
   ·exact .inl b3
   ·refine .inr ⟨?_, b4⟩
    rw [ids_ren]; exact List.mem_map_of_mem b3
  ·obtain ⟨a1, a2⟩ := Ghost.after_out (G := G) hex
   exact ⟨.inl hi, a1, .inl a2⟩
 ·rw [ids_ren] at hi ⊢
  obtain ⟨j, hj, rfl⟩ := List.mem_map.1 hi
  rcases st.newI j hj with h1 | h1
  ·exact .inl (List.mem_map_of_mem h1)
  ·refine .inr fun hl => h1 ⟨hl, hk _ hl⟩
end Go.Am
