/- Part 10 of what the laws ChangeTells rest on: AmBw, RwA, RwC, Vc, RwD, RwE. -/
import Derived.Test.YtncffhgoopdfgaaGreatP9
set_option linter.unusedSimpArgs false
set_option linter.unusedVariables false
namespace Go.Am
open Go.RowKit
theorem seal_rel {B : Base} {G : Ghost} {a : Act} {w : World} {s : List AV} {L L0 : Heap} {n id off m cp sz : Nat} {cells : List AV} {rows : List (List AV)} (hrel : Rel B No G ⟨s, L, n⟩ a w) (hp : L.Perm ((id, .box cells) :: L0)) (hr : ∀ row ∈ rows, row.length = sz) (hm : rows.length = m)
  (hd : ∀ i a', rows.flatten[i]? = some a' → ∃ a, cells[off + i]? = some a ∧ a.seal = some a' ∧ a.one = true) : ∃ G', Rel B No G' ⟨s, L0, n⟩ a w ∧ (∀ x, Sim G (.arr id off m cp) x → Sim G' (.list rows .free) x) ∧ G'.loc = G.loc := by
 have h5 : Holds G w ((id, .box cells) :: L0) := hrel.holds.perm hp
 have hst : Step B.G B.w B.H G w ((id, .box cells) :: L0) := hrel.step.perm (.refl _) hp
 obtain ⟨h0, arr, E, fr, hh, hsz, hf, hcs⟩ := h5.res (id, .box cells) (by simp)
 have hbl : blocksOf G ((id, .box cells) :: L0) = G.loc id :: blocksOf G L0 := rfl
 have hnd := h5.blocks
 rw [hbl] at hnd
 obtain ⟨hnd1, hnd2⟩ := List.nodup_cons.1 hnd
 have hids := h5.ids
 simp only [List.map_cons] at hids
 obtain ⟨hi1, hi2⟩ := List.nodup_cons.1 hids
 generalize hG : G.sealed (G.loc id) arr cells.length = G'
 have e1 : ∀ b i, G'.X b i = if b = G.loc id then (if i < cells.length then arr[i]? else none) else G.X b i := fun b i => by rw [← hG]; rfl
 have e2 : G'.loc = G.loc := by rw [← hG]; rfl
 have e3 : G'.tk = G.tk := by rw [← hG]; rfl
 have e4 : G'.live = G.live := by rw [← hG]; rfl
 have e5 : G'.lits = G.lits := by rw [← hG]; rfl
 have e6 : G'.base = G.base := by rw [← hG]; rfl
 have hX : ∀ b i v, G.X b i = some v → G'.X b i = some v := fun b i v h => by
  rw [e1, if_neg]
  ·exact h
  ·rintro rfl
   rw [h0 i] at h; cases h
 have hsim : ∀ a x, Sim G a x → Sim G' a x := fun a x h => h.mono hX fun i hi => ⟨by rw [e4]; exact hi, by rw [e2], .inl (by rw [e3])⟩
 have hbl' : blocksOf G' L0 = blocksOf G L0 := filterMap_same fun r _ => placed_same (by rw [e2]) (by rw [e3])
 have hcell : ∀ (i : Nat) (a' : AV), rows.flatten[i]? = some a' → G'.X (G.loc id) (off + i) = some (arr.getD (off + i) undef) ∧ SimD G'.X a' (arr.getD (off + i) undef) ∧ (arr.getD (off + i) undef).oneCell' = true := fun i a' h => by
  obtain ⟨a, k1, k2, k3⟩ := hd i a' h
  have h2 := (List.getElem?_eq_some_iff.1 k1).1
  have h3 := hcs _ a k1
  refine ⟨?_, ((h3.seal k2).mono hX), h3.one k3⟩
  rw [e1, if_pos rfl, if_pos h2]
  have : off + i < arr.size := by omega
  simp [this]
 have hlist : ∀ x, Sim G (.arr id off m cp) x → SimD G'.X (.list rows .free) x := fun x hx => by
  obtain ⟨base, rfl, hlive, hnc, hcm, hbs⟩ := hx.arr_inv
  subst hm
  by_cases h00 : rows = []
  ·subst h00
   exact .nil .free base cp hcm (by simp) (.inl rfl)
  ·have hpos : 0 < rows.length := List.length_pos_iff.2 h00
   obtain rfl := hbs (by omega)
   refine .list rows .free (G.loc id) off cp sz (fun i j => arr.getD (off + (i * sz + j)) undef) hnc hcm (by simp) (.inl rfl) hr (fun i row q a h1 h2 => ?_) (fun i row q a h1 h2 => ?_) (fun i row q a h1 h2 => ?_)
   all_goals
    obtain ⟨c1, c2, c3⟩ := hcell _ _ (flat_get hr h1 h2)
   ·rw [Nat.add_assoc]; exact c1
   ·exact c2
   ·exact c3
 refine ⟨G', ⟨hrel.size, fun i hi => (hrel.slots i hi).mono (by rw [e5]; exact fun _ h => h) hsim, hrel.defers, ⟨fun b i v hxv => ?_, fun r hr' => ?_, hi2, fun r hr' => ?_, by rw [hbl']; exact hnd2, fun b hb => ?_⟩, ⟨hst.os, hst.tape, hst.output, hst.size, by rw [e6]; exact hst.base, fun b i v h => hX _ _ _ (hst.X b i v h), hst.frame, fun b i v hxv => ?_, fun b hb => ?_, fun i hi => ?_, fun i hi => ?_, by rw [e5]; exact hst.lits, by rw [e5]; exact hst.newL⟩, by rw [e4]; exact hrel.next, by rw [e6]; exact hrel.base, hrel.low, by rw [e4]; exact hrel.old⟩, fun x hx => .data _ _ (hlist x hx), e2⟩
 ·rw [e1] at hxv
  split at hxv
  ·rename_i hb
   subst hb
   split at hxv
   ·simp only [World.cell?, hh]
    simpa using hxv
   ·cases hxv
  ·exact h5.X _ _ _ hxv
 ·refine (h5.res r (List.mem_cons_of_mem _ hr')).keep (by rw [e2]) (by rw [e3]) hsim fun b hb => ⟨rfl, fun i v hxv => ?_⟩
  rw [e1, if_neg] at hxv
  ·exact hxv
  ·rintro rfl
   exact hnd1 (List.mem_filterMap.2 ⟨r, hr', hb⟩)
 ·rw [e4]; exact h5.live r (List.mem_cons_of_mem _ hr')
 ·rw [e5] at hb
  obtain ⟨q1, q2, q3⟩ := h5.lits b hb
  refine ⟨by rw [e6]; exact q1, q2, ?_⟩
  rw [hbl']
  rw [hbl] at q3
  exact fun hm' => q3 (List.mem_cons_of_mem _ hm')
 ·rw [e1] at hxv
  split at hxv
  ·rename_i hb
   subst hb
   rcases hst.newB (G.loc id) (by rw [hbl]; simp) with h | h
   ·exact .inr (.inr h)
   ·exact .inr (.inl h)
  ·exact hst.newX _ _ _ hxv
 ·rw [hbl'] at hb
  exact hst.newB b (by rw [hbl]; exact List.mem_cons_of_mem _ hb)
 ·rw [e4, e2, e3]; 
  obtain ⟨k1, k2, k3⟩ := hst.live i hi
  exact ⟨k1, k2, k3⟩
 ·exact hst.newI i (by simp only [List.map_cons]; exact List.mem_cons_of_mem _ hi)
theorem Conv.freezeBox {s : List AV} {L L0 : Heap} {n j id bid m cp k sz : Nat} {rows : List (List AV)} {cells : List AV} (hp : L.Perm ((id, .seq rows k) :: (bid, .box cells) :: L0)) (hj : cells[j]? = some (.arr id 0 m cp)) (hR : RowsOk sz rows) (hm : rows.length = m) :
  Conv ⟨s, L, n⟩ ⟨s, (bid, .box (setA cells j (.list rows .free))) :: L0, n⟩ := fun B G a w hr => by
 by_cases hne : rows.length + k = 0
 ·have e1 : rows = [] := List.eq_nil_of_length_eq_zero (by omega)
  subst e1
  simp only [List.length_nil] at hm
  subst hm
  obtain ⟨G1, h1⟩ := (Conv.to (τ := ⟨s, (bid, .box cells) :: L0, n⟩) [(id, .seq [] k)] (.refl s) (hp.trans (List.perm_append_comm (l₁ := [(id, Res.seq [] k)]))) (Nat.le_refl _)) B G a w hr
  obtain ⟨g0, arr, E, fr, g1, g2, g3, g4⟩ := h1.holds.res (bid, .box cells) (by simp)
  obtain ⟨r1, r2⟩ := box_more (j := j) h1.holds (a := .list [] .free) fun arr' E' fr' h => by
   rw [g1] at h
   simp only [Option.some.injEq, Obj.cells.injEq] at h
   obtain ⟨rfl, rfl, rfl⟩ := h
   obtain ⟨base, hv, _, _, hc, _⟩ := (g4 j _ hj).arr_inv
   rw [hv]
   exact .data _ _ (.nil _ _ _ hc (by simp) (.inl rfl))
  exact ⟨G1, h1.size, h1.slots, h1.defers, r1, r2 _ _ _ h1.step, h1.next, h1.base, h1.low, h1.old⟩
 ·obtain ⟨G0, h0⟩ := Conv.unseq hne hp B G a w hr
  obtain ⟨g0, arr, E, fr, g1, g2, g3, g4⟩ := h0.holds.res (bid, .box cells) (by simp)
  obtain ⟨G1, h1, h2, h3⟩ := seal_rel (off := 0) (cp := cp) h0 (.refl _) hR.len hm fun i a ha => ⟨a, by
   rw [Nat.zero_add]; unfold seqC
   rw [List.getElem?_append_left (List.getElem?_eq_some_iff.1 ha).1]; exact ha, AV.seal_pure (hR.pure a (List.mem_of_getElem? ha)), List.all_eq_true.1 hR.one a (List.mem_of_getElem? ha)⟩
  obtain ⟨r1, r2⟩ := box_more (j := j) h1.holds (a := .list rows .free) fun arr' E' fr' h => by
   rw [h3, g1] at h
   simp only [Option.some.injEq, Obj.cells.injEq] at h
   obtain ⟨rfl, rfl, rfl⟩ := h
   exact h2 _ (g4 j _ hj)
  exact ⟨G1, h1.size, h1.slots, h1.defers, r1, r2 _ _ _ h1.step, h1.next, h1.base, h1.low, h1.old⟩
/-! BORROW -/
def Ghost.mem (G : Ghost) (w : World) : Ghost := ⟨fun b i => w.cell? ⟨b, i, none⟩, G.loc, G.tk, fun _ => False, fun _ => False, w.heap.size⟩
def Reads (H : Heap) (a a' : AV) : Prop := ∀ G w x, Holds G w H → Sim G a x → Sim (G.mem w) a' x
theorem Reads.data {H : Heap} {a : AV} (hp : a.pure = true) : Reads H a a := fun G w x hh hs => by
 cases hs with
 | data _ _ h => exact .data _ _ (h.mono fun b i v hx => hh.X b i v hx)
 | tok => simp [AV.pure] at hp
 | _ => simp [AV.pure] at hp
theorem Sim.dataP {G : Ghost} {a : AV} {x : Value} (h : Sim G a x) (hp : a.pure = true) : SimD G.X a x := by
 cases h with
 | data _ _ h => exact h
 | _ => simp [AV.pure] at hp
theorem Reads.fn {H : Heap} {f : FuncId} : Reads H (.fn f []) (.fn f []) := fun G w x hh hs => by
 cases hs with
 | data _ _ h => cases h
 | fn _ _ vs hl h => exact .fn f [] vs hl fun i a ha => by simp at ha
theorem Reads.agg {H : Heap} {l l' : List AV} (hl : l.length = l'.length) (h : ∀ (i : Nat) (a' : AV), l'[i]? = some a' → ∃ a, l[i]? = some a ∧ Reads H a a') : Reads H (.agg l) (.agg l') := fun G w x hh hs => by
 cases hs with
 | data _ _ h => cases h
 | agg _ vs h1 h2 =>
  refine .agg l' vs (by omega) fun i a' ha => ?_
  obtain ⟨a, h3, h4⟩ := h i a' ha
  exact h4 G w _ hh (h2 i a h3)
theorem Reads.box {H : Heap} {id off m cp sz : Nat} {cells : List AV} {rows : List (List AV)} (hb : ∀ G w, Holds G w H → rows ≠ [] → BoxHolds G w id cells) (hr : ∀ row ∈ rows, row.length = sz) (hm : rows.length = m)
  (hd : ∀ i a', rows.flatten[i]? = some a' → ∃ a, cells[off + i]? = some a ∧ Reads H a a' ∧ a'.pure = true ∧ a.one = true) : Reads H (.arr id off m cp) (.list rows .free) := fun G w x hh hs => by
 obtain ⟨base, rfl, hlive, hnc, hcm, hbs⟩ := hs.arr_inv
 by_cases h00 : rows = []
 ·subst h00
  simp only [List.length_nil] at hm
  subst hm
  exact .data _ _ (.nil .free base cp hcm (by simp) (.inl rfl))
 ·obtain ⟨g0, arr, E, fr, g1, g2, g3, g4⟩ := hb G w hh h00
  have hpos : 0 < rows.length := List.length_pos_iff.2 h00
  subst hm
  obtain rfl := hbs (by omega)
  have hcell : ∀ (i : Nat) (a' : AV), rows.flatten[i]? = some a' → (G.mem w).X (G.loc id) (off + i) = some (arr.getD (off + i) undef) ∧ SimD (G.mem w).X a' (arr.getD (off + i) undef) ∧ (arr.getD (off + i) undef).oneCell' = true := fun i a' h => by
   obtain ⟨a, k1, k2, k3, k4⟩ := hd i a' h
   have h2 := (List.getElem?_eq_some_iff.1 k1).1
   have h3 := g4 _ a k1
   have h5 := k2 G w _ hh h3
   refine ⟨?_, ?_, h3.one k4⟩
   ·show w.cell? ⟨G.loc id, off + i, none⟩ = _
    have : off + i < arr.size := by omega
    simp [World.cell?, g1, this]
   ·exact h5.dataP k3
  refine .data _ _ (.list rows .free (G.loc id) off cp sz (fun i j => arr.getD (off + (i * sz + j)) undef) hnc hcm (by simp) (.inl rfl) hr (fun i row q a h1 h2 => ?_) (fun i row q a h1 h2 => ?_) (fun i row q a h1 h2 => ?_))
  all_goals
   obtain ⟨c1, c2, c3⟩ := hcell _ _ (flat_get hr h1 h2)
  ·rw [Nat.add_assoc]; exact c1
  ·exact c2
  ·exact c3
theorem Reads.boxes {H : Heap} {id off m cp sz : Nat} {cells : List AV} {rows : List (List AV)} (hm0 : (id, Res.box cells) ∈ H) (hr : ∀ row ∈ rows, row.length = sz) (hm : rows.length = m)
  (hd : ∀ i a', rows.flatten[i]? = some a' → ∃ a, cells[off + i]? = some a ∧ Reads H a a' ∧ a'.pure = true ∧ a.one = true) : Reads H (.arr id off m cp) (.list rows .free) :=
 .box (fun G w hh _ => hh.res _ hm0) hr hm hd
theorem Reads.seq {H : Heap} {id m cp k sz : Nat} {rows : List (List AV)} (hm0 : (id, Res.seq rows k) ∈ H) (hR : RowsOk sz rows) (hm : rows.length = m) : Reads H (.arr id 0 m cp) (.list rows .free) :=
 .box (cells := seqC rows k) (fun G w hh hne => (hh.res _ hm0 (by have := List.length_pos_iff.2 hne; omega)).1) hR.len hm fun i a ha => ⟨a, by
  rw [Nat.zero_add]; unfold seqC
  rw [List.getElem?_append_left (List.getElem?_eq_some_iff.1 ha).1]; exact ha, .data (hR.pure a (List.mem_of_getElem? ha)), hR.pure a (List.mem_of_getElem? ha), List.all_eq_true.1 hR.one a (List.mem_of_getElem? ha)⟩
def AV.isV : AV → Bool
 | .v _ => true
 | _ => false
def AV.valB : AV → Bool
 | .v _ => true
 | .tuple l => l.all AV.isV
 | _ => false
def AOut.valB : AOut → Bool
 | .ret a => a.valB
 | .panic a => a.valB
theorem Sim.valV {G G' : Ghost} {a : AV} {x : Value} (h : Sim G a x) (hv : a.isV = true) : Sim G' a x := by
 cases h with
 | data _ _ h => cases h <;> first | exact .data _ _ (.v _) | (simp [AV.isV] at hv)
 | _ => simp [AV.isV] at hv
theorem Sim.val {G G' : Ghost} {a : AV} {x : Value} (h : Sim G a x) (hv : a.valB = true) : Sim G' a x := by
 cases h with
 | data _ _ h => cases h <;> first | exact .data _ _ (.v _) | (simp [AV.valB] at hv)
 | tuple l vs hl h =>
  exact .tuple l vs hl fun i a ha => (h i a ha).valV (List.all_eq_true.1 hv a (List.mem_of_getElem? ha))
 | _ => simp [AV.valB] at hv
theorem OSim.val {G G' : Ghost} {out : AOut} {e : Ending} (h : OSim G out e) (hv : out.valB = true) : OSim G' out e := by
 cases out with
 | ret a =>
  cases e with
  | returned v => exact Sim.val (G := G) h hv
  | _ => exact h.elim
 | panic a =>
  cases e with
  | panicked c => obtain ⟨v, h1, h2⟩ := h; exact ⟨v, h1, h2.val hv⟩
  | _ => exact h.elim
theorem ACalls.borrow {P : Program} {f : FuncId} {k top top0 : Nat} {args args' : List AV} {H : Heap} {R : AOut → Heap → Prop} (h : ACalls P f 0 top0 args' [] R) (hl : args.length = args'.length) (hR : ∀ out H', R out H' → out.valB = true)
  (hr : ∀ (i : Nat) (a' : AV), args'[i]? = some a' → ∃ a, args[i]? = some a ∧ Reads H a a') : ACalls P f k top args H (fun out H2 => (∃ H', R out H') ∧ H2 = H) := by
 intro G w vals h1 h2 h3 h4 h5 h6
 have key : ∀ (G' : Ghost) (w' : World) (out : AOut) (H' : Heap) (e : Ending), R out H' → OSim G' out e → Step (G.mem w) w [] G' w' H' →
   ∃ G2 out2 H2, ((∃ H', R out2 H') ∧ H2 = H) ∧ OSim G2 out2 e ∧ Holds G2 w' H2 ∧ Step G w H G2 w' H2 ∧ ∀ id, G2.live id → G.live id ∨ (k ≤ id ∧ id < top) := fun G' w' out H' e r1 r2 st => by
  have hfr : ∀ b, b < w.heap.size → w'.heap[b]? = w.heap[b]? := fun b hb => (st.frame b hb (by simp [blocksOf])).2 fun h => h
  refine ⟨G, out, H, ⟨⟨H', r1⟩, rfl⟩, r2.val (hR _ _ r1), ⟨fun b i v hx => ?_, fun r hm => ?_, h4.ids, h4.live, h4.blocks, fun b hb => absurd hb (h2 b)⟩, ⟨st.os, st.tape, st.output, st.size, rfl, fun _ _ _ h => h, fun b hb hn => ⟨.inl (hfr b hb), fun _ => hfr b hb⟩, fun _ _ _ h => .inl h, fun _ h => .inl h, fun _ h => ⟨h, rfl, .inl rfl⟩, fun _ h => .inl h, fun _ h => h, fun _ h => .inl h⟩, fun id h => .inl h⟩
  ·have hc := h4.X b i v hx
   have hb : b < w.heap.size := by
    rcases Nat.lt_or_ge b w.heap.size with h | h
    ·exact h
    ·have : w.heap[b]? = none := Array.getElem?_eq_none h
     simp [World.cell?, this] at hc
   exact (Alike.cell (w := w) (w' := w') (.inl (hfr b hb)) hc)
  ·exact (h4.res r hm).keep rfl rfl (fun _ _ h => h) fun b hb => ⟨hfr b ((h4.res r hm).lt hb), fun _ _ h => h⟩
 have h0 := h (G.mem w) w vals (fun _ h => h.elim) (fun _ h => h) rfl ⟨fun b i v hx => hx, fun r hm => (by cases hm), List.nodup_nil, fun r hm => (by cases hm), List.nodup_nil, fun b hb => False.elim hb⟩ (by omega) fun i a' ha => by
  obtain ⟨a, q1, q2⟩ := hr i a' ha
  exact q2 G w _ h4 (h6 i a q1)
 rcases h0 with ⟨k1, k2⟩ | ⟨v, w', k1, G', out, H', r1, r2, r3, st, r5⟩
 ·exact .inl ⟨k1, k2.mono fun e w' ⟨G', out, H', r1, r2, r3, st, r5⟩ => key G' w' out H' e r1 r2 st⟩
 ·exact .inr ⟨v, w', k1, key G' w' out H' _ r1 r2 st⟩
theorem ACalls.top0 {P : Program} {f : FuncId} {top : Nat} {args : List AV} {x : Value} (h : ACalls P f 0 top args [] (fun out H' => out = .ret (.v x) ∧ H' = [])) : ACalls P f 0 0 args [] (fun out H' => out = .ret (.v x) ∧ H' = []) :=
 h.ren (Nat.zero_le _) fun out H' hh => by
  obtain ⟨rfl, rfl⟩ := hh
  exact ⟨[], .ret (.v x), [], List.nodup_nil, (fun i h => by cases h), (fun i h => absurd h (Nat.not_lt_zero i)), Nat.le_refl _, (by simp [AOut.ren, AV.ren]), rfl, rfl, rfl⟩
theorem Conv.freezeA {id m cp k sz n : Nat} {rows : List (List AV)} (hR : RowsOk sz rows) (hm : rows.length = m) : Conv ⟨[.agg [.arr id 0 m cp]], [(id, .seq rows k)], n⟩ ⟨[.agg [.list rows .free]], [], n⟩ := fun B G a w hr => by
 have key : ∀ G1, Rel B No G1 ⟨[.agg [.arr id 0 m cp]], [], n⟩ a w → (∀ x, Sim G (.arr id 0 m cp) x → Sim G1 (.list rows .free) x) → ∃ G', Rel B No G' ⟨[.agg [.list rows .free]], [], n⟩ a w := fun G1 h1 h2 => by
  refine ⟨G1, ⟨h1.size, fun t ht => ?_, h1.defers, h1.holds, h1.step, h1.next, h1.base, h1.low, h1.old⟩⟩
  cases t with
  | zero =>
   have h3 : Sim G (.agg [.arr id 0 m cp]) (a.tmps.getD 0 undef) := (hr.slots 0 ht).down
   obtain ⟨vs, h4, h5, h6⟩ := h3.agg_inv
   show Slot G1 (.agg [.list rows .free]) (a.tmps.getD 0 undef)
   rw [h4]
   refine .of (.agg _ vs h5 fun i b hb => ?_)
   cases i with
   | zero =>
    simp only [List.getElem?_cons_zero, Option.some.injEq] at hb
    subst hb
    exact h2 _ (h6 0 _ rfl)
   | succ i => simp at hb
  | succ t => exact h1.slots (t + 1) ht
 by_cases hne : rows.length + k = 0
 ·have e1 : rows = [] := List.eq_nil_of_length_eq_zero (by omega)
  subst e1
  simp only [List.length_nil] at hm
  subst hm
  obtain ⟨G1, h1⟩ := (Conv.to (τ := ⟨[.agg [.arr id 0 0 cp]], [], n⟩) [(id, .seq [] k)] (.refl _) (.of_eq rfl) (Nat.le_refl _)) B G a w hr
  exact key G1 h1 fun x hx => by
   obtain ⟨base, rfl, _, _, hc, _⟩ := hx.arr_inv
   exact .data _ _ (.nil _ _ _ hc (by simp) (.inl rfl))
 ·have hh := hr.holds
  have hu := hh.unseq hne
  have h0 : Rel B No G ⟨[.agg [.arr id 0 m cp]], [(id, .box (seqC rows k))], n⟩ a w := ⟨hr.size, hr.slots, hr.defers, hu.1, hr.step.unseq hne, hr.next, hr.base, hr.low, hr.old⟩
  obtain ⟨G1, h1, h2, h3⟩ := seal_rel (off := 0) (cp := cp) h0 (.refl _) hR.len hm fun i a ha => ⟨a, by
   rw [Nat.zero_add]; unfold seqC
   rw [List.getElem?_append_left (List.getElem?_eq_some_iff.1 ha).1]; exact ha, AV.seal_pure (hR.pure a (List.mem_of_getElem? ha)), List.all_eq_true.1 hR.one a (List.mem_of_getElem? ha)⟩
  exact key G1 h1 h2
/-! a field of a struct that is a value -/
end Go.Am
namespace Go.Proofs.YtncffhgoopdfgaaGreat
open Go.Am
set_option maxRecDepth 100000
theorem isNaN_s (s : ByteArray) : ACalls Tryz.prog 216 0 0 [.v (.string s)] [] (fun out H' => out = .ret (.v (.bool false)) ∧ H' = []) := by
 refine no_implicit_lambda% (acalls_of tok dok (f := 216) ⟨Tryz.func216, rfl, by kernel_rfl⟩ ?_); refine no_implicit_lambda% (c_start (fun _ h => h) ?_)
 repeat' (first | (refine no_implicit_lambda% (zH ?_)) | (refine no_implicit_lambda% (spl (fun hc => ?_) (fun hc => ?_)) <;> first | exact zG hc | skip) | (refine no_implicit_lambda% (ans ?_)) | (with_reducible first | exact zI | exact zJ))
 refine no_implicit_lambda% (e_ret (H' := []) (rest := _) rfl ⟨congrArg (fun z => AOut.ret (.v (.bool z))) ?_, rfl⟩ (.refl _) (LE0 rfl))
 simp
def sLt (a b : ByteArray) : Bool := Op.bytesLess a.toList b.toList
def cmpS (a b : ByteArray) : Int := Lib.compareBytes a.toList b.toList
theorem sLt_eq (a b : ByteArray) : sLt a b = decide (cmpS a b = -1) := less_cb _ _
theorem compare_s (a b : ByteArray) : ACalls Tryz.prog 206 0 0 [.v (.string a), .v (.string b)] [] (fun out H' => out = .ret (.v (.int .i64 (cmpS a b))) ∧ H' = []) := by
 refine no_implicit_lambda% (acalls_of tok dok (f := 206) ⟨Tryz.func206, rfl, by kernel_rfl⟩ ?_); refine no_implicit_lambda% (c_start (fun _ h => h) ?_)
 repeat' (first | (refine no_implicit_lambda% (zH ?_)) | (refine no_implicit_lambda% (spl (fun hc => ?_) (fun hc => ?_)) <;> first | exact zG hc | skip) | (refine no_implicit_lambda% (ans ?_)) | (with_reducible first | exact zI | exact zJ) | (refine no_implicit_lambda% (cal [] (isNaN_s _) ?_ ?_)) | fail)
 all_goals
  refine e_ret (H' := []) (rest := _) rfl ⟨congrArg (fun z => AOut.ret (.v (.int .i64 z))) ?_, rfl⟩ (.refl _) (LE0 rfl)
  simp only [less_cb, eq_cb] at *
  rcases cb_three a.toList b.toList with h | h | h
  all_goals first | (unfold cmpS; exact h.symm) | (exfalso; simp [h] at *; done)
structure Ve where
 t : Int
 v : Va
structure Co where
 n : ByteArray
 l : List Ve
def verow (x : Ve) : List AV := .v (.int .i64 x.t) :: vrowV x.v
def corow (c : Co) : List AV := [.v (.string c.n), .list (c.l.map verow) .free]
def rowA (r : List Co) : AV := .agg [.list (r.map corow) .free]
def nmB (s : ByteArray) : Bool := decide ((1 : Int) ≤ s.size ∧ (s.size : Int) ≤ 16)
theorem name_c (s : ByteArray) : ACalls Tryz.prog 116 0 0 [.v (.string s)] [] (fun out H' => out = .ret (.v (.bool (nmB s))) ∧ H' = []) := by
 refine no_implicit_lambda% (acalls_of tok dok (f := 116) ⟨Tryz.func116, rfl, by kernel_rfl⟩ ?_); refine no_implicit_lambda% (c_start (fun _ h => h) ?_)
 repeat' (first | (refine no_implicit_lambda% (zH ?_)) | (refine no_implicit_lambda% (spl (fun hc => ?_) (fun hc => ?_)) <;> first | exact zG hc | skip) | (refine no_implicit_lambda% (ans ?_)) | (with_reducible first | exact zI | exact zJ))
 all_goals (refine no_implicit_lambda% (e_ret (H' := []) (rest := _) rfl ⟨congrArg (fun z => AOut.ret (.v (.bool z))) ?_, rfl⟩ (.refl _) (LE0 rfl)); unfold nmB; (refine no_implicit_lambda% (Bool.eq_iff_iff.2 ?_); simp only [decide_eq_true_eq, decide_eq_false_iff_not, Bool.false_eq_true, Bool.and_eq_true, Bool.or_eq_true, Bool.not_eq_true', beq_iff_eq, List.length_map, true_iff, false_iff, iff_false, iff_true] at *; omega))
theorem rname_c (s : ByteArray) : ACalls Tryz.prog 106 0 0 [.v (.string s)] [] (fun out H' => out = .ret (.v (.bool (nmB s))) ∧ H' = []) := by
 refine no_implicit_lambda% (acalls_of tok dok (f := 106) ⟨Tryz.func106, rfl, by kernel_rfl⟩ ?_); refine no_implicit_lambda% (c_start (fun _ h => h) ?_)
 repeat' (first | (refine no_implicit_lambda% (zH ?_)) | (refine no_implicit_lambda% (spl (fun hc => ?_) (fun hc => ?_)) <;> first | exact zG hc | skip) | (refine no_implicit_lambda% (ans ?_)) | (with_reducible first | exact zI | exact zJ))
 all_goals (refine no_implicit_lambda% (e_ret (H' := []) (rest := _) rfl ⟨congrArg (fun z => AOut.ret (.v (.bool z))) ?_, rfl⟩ (.refl _) (LE0 rfl)); unfold nmB; (refine no_implicit_lambda% (Bool.eq_iff_iff.2 ?_); simp only [decide_eq_true_eq, decide_eq_false_iff_not, Bool.false_eq_true, Bool.and_eq_true, Bool.or_eq_true, Bool.not_eq_true', beq_iff_eq, List.length_map, true_iff, false_iff, iff_false, iff_true] at *; omega))
def vRt (v : Va) : Bool := v.kind == 1 && decide ((v.b.length : Int) ≤ 16) || v.kind == 2
def tmOk (t : Int) : Bool := decide (0 ≤ t ∧ t ≤ 1099511627776)
def ltT : Option Int → Int → Bool
 | none, _ => true
 | some q, t => decide (t < q)
def ltN : Option ByteArray → ByteArray → Bool
 | none, _ => true
 | some q, n => sLt q n
def versB : Option Int → List Ve → Bool
 | _, [] => true
 | p, x :: l => tmOk x.t && vRt x.v && ltT p x.t && versB (some x.t) l
def prevT (l : List Ve) (i : Nat) : Option Int := if i = 0 then none else l[i - 1]?.map (·.t)
def colB (c : Co) : Bool := nmB c.n && decide (1 ≤ c.l.length ∧ c.l.length ≤ 2) && versB none c.l
theorem vex {l : List Ve} {i : Nat} {t : Ve} (h : l[i]? = some t) : 0 ≤ (i : Int) ∧ (l.map verow)[(i : Int).toNat]? = some (verow t) ∧ (verow t).length = 4 := ⟨Int.natCast_nonneg _, by rw [Int.toNat_natCast, List.getElem?_map, h]; rfl, rfl⟩
theorem vexp {l : List Ve} {i : Nat} {t : Ve} (hi : 0 < i) (hb : i < 1000000) (h : l[i - 1]? = some t) : 0 ≤ IntKind.i64.wrap ((i : Int) - 1) ∧ (l.map verow)[(IntKind.i64.wrap ((i : Int) - 1)).toNat]? = some (verow t) ∧ (verow t).length = 4 := by
 have e : IntKind.i64.wrap ((i : Int) - 1) = ((i - 1 : Nat) : Int) := by rw [z64 (by omega) (by omega)]; omega
 rw [e]
 exact vex h
theorem vers_at {p : Option Int} {l : List Ve} {i : Nat} {x : Ve} (h : l[i]? = some x) : versB p (l.drop i) = (tmOk x.t && vRt x.v && ltT p x.t && versB (some x.t) (l.drop (i + 1))) := by
 have : l.drop i = x :: l.drop (i + 1) := by
  obtain ⟨hi, rfl⟩ := List.getElem?_eq_some_iff.1 h
  exact List.drop_eq_getElem_cons hi
 rw [this]; rfl
theorem prevT_succ {l : List Ve} {i : Nat} {x : Ve} (h : l[i]? = some x) : prevT l (i + 1) = some x.t := by
 unfold prevT
 rw [if_neg (by omega), Nat.add_sub_cancel, h]; rfl
def clSt (c : Co) (i : Nat) : ASt := ⟨([.dead, .ptr 0 0] ++ List.replicate 20 .dead ++ [.list (c.l.map verow) .free, .v (.int .i64 c.l.length), .v (.int .i64 i)] ++ List.replicate 35 .dead), [(0, .box (corow c))], 1⟩
set_option maxHeartbeats 3200000 in
theorem column_c (c : Co) : ACalls Tryz.prog 192 0 400 [.agg (corow c)] [] (fun out H' => out = .ret (.v (.bool (colB c))) ∧ H' = []) := by
 refine no_implicit_lambda% (acalls_of tok dok (f := 192) ⟨Tryz.func192, rfl, by kernel_rfl⟩ ?_); refine no_implicit_lambda% (c_start (fun _ h => h) ?_)
 repeat' (first | (refine no_implicit_lambda% (zH ?_)) | (refine no_implicit_lambda% (spl (fun hc => ?_) (fun hc => ?_)) <;> first | exact zG hc | skip) | (refine no_implicit_lambda% (ans ?_)) | (with_reducible first | exact zI | exact zJ) | (refine no_implicit_lambda% (cal [] (name_c _) ?_ ?_)) | fail)
 ·refine no_implicit_lambda% (e_ret (H' := []) (rest := _) rfl ⟨congrArg (fun z => AOut.ret (.v (.bool z))) ?_, rfl⟩ (.refl _) (LE0 rfl))
  unfold colB
  simp at hc
  simp [hc]
 ·refine no_implicit_lambda% (e_ret (H' := []) (rest := _) rfl ⟨congrArg (fun z => AOut.ret (.v (.bool z))) ?_, rfl⟩ (.refl _) (LE0 rfl))
  unfold colB
  have : ¬ (1 ≤ c.l.length ∧ c.l.length ≤ 2) := by
   simp only [decide_eq_true_eq, List.length_map] at hc
   omega
  rw [decide_eq_false this]; simp
 ·refine no_implicit_lambda% (e_ret (H' := []) (rest := _) rfl ⟨congrArg (fun z => AOut.ret (.v (.bool z))) ?_, rfl⟩ (.refl _) (LE0 rfl))
  unfold colB
  have : ¬ (1 ≤ c.l.length ∧ c.l.length ≤ 2) := by
   simp only [decide_eq_true_eq, List.length_map] at hc
   omega
  rw [decide_eq_false this]; simp
 ·have hlen : 1 ≤ c.l.length ∧ c.l.length ≤ 2 := by
   simp only [decide_eq_false_iff_not, List.length_map] at *
   omega
  have hn : nmB c.n = true := by
   simp only [Bool.not_eq_false'] at *
   assumption
  have hcol : colB c = versB none c.l := by unfold colB; rw [hn, decide_eq_true hlen]; simp
  refine c_loop' (clSt c) (fun i => i ≤ c.l.length ∧ versB none c.l = versB (prevT c.l i) (c.l.drop i)) (fun i => c.l.length - i) (a := 0) ⟨Nat.zero_le _, rfl⟩ ?_ ?_
  ·(refine no_implicit_lambda% (Conv.toT ?_ ?_ (LE0 rfl))); (focus ((unfold clSt); (try dsimp only); exact wkl)); (focus ((unfold clSt); (try dsimp only); exact wkh))
  ·rintro i ⟨h1, hI⟩
   refine c_turn (n' := 1) (fun _ h => h) (fun _ h => h) rfl ?_
   rcases hx : c.l[i]? with _ | x
   ·have hi : i = c.l.length := by have := List.getElem?_eq_none_iff.1 hx; omega
    repeat' (first | (refine no_implicit_lambda% (zH ?_)) | (refine no_implicit_lambda% (spl (fun hc => ?_) (fun hc => ?_)) <;> first | exact zG hc | skip) | (refine no_implicit_lambda% (ans ?_)) | (with_reducible first | exact zI | exact zJ))
    refine no_implicit_lambda% (e_ret (H' := []) (rest := _) rfl ⟨congrArg (fun z => AOut.ret (.v (.bool z))) ?_, rfl⟩ (.refl _) (LE0 rfl))
    rw [hcol, hI, hi, List.drop_length]; rfl
   ·have hi : i < c.l.length := (List.getElem?_eq_some_iff.1 hx).1
    have hix := vex hx
    have hps := prevT_succ hx
    rw [vers_at hx] at hI
    have hvr : ACalls Tryz.prog 145 0 10 [vav x.v] [] (fun out H' => out = .ret (.v (.bool (vRt x.v))) ∧ H' = []) := vright_c x.v
    have hpx : decide ((i : Int) > 0) = true → 0 ≤ IntKind.i64.wrap ((i : Int) - 1) ∧ (c.l.map verow)[(IntKind.i64.wrap ((i : Int) - 1)).toNat]? = some (verow (c.l[i - 1]?.getD x)) ∧ (verow (c.l[i - 1]?.getD x)).length = 4 := fun h => by
     have h0 := of_decide_eq_true h
     rw [List.getElem?_eq_getElem (by omega : i - 1 < c.l.length)]
     exact vexp (by omega) (by omega) (List.getElem?_eq_getElem (by omega))
    repeat' (first | (refine no_implicit_lambda% (zH ?_)) | (refine no_implicit_lambda% (splv (fun hc => ?_) (fun hc => ?_)) <;> first | exact zG hc | skip) | (refine no_implicit_lambda% (ans ?_)) | (with_reducible first | exact zI | exact zJ) | (refine no_implicit_lambda% (cal [] (hvr) ?_ ?_)) | fail)
    ·refine no_implicit_lambda% (e_ret (H' := []) (rest := _) rfl ⟨congrArg (fun z => AOut.ret (.v (.bool z))) ?_, rfl⟩ (.refl _) (LE0 rfl))
     have : tmOk x.t = false := decide_eq_false (by have := of_decide_eq_true hc; omega)
     rw [hcol, hI, this]; simp
    ·refine no_implicit_lambda% (e_ret (H' := []) (rest := _) rfl ⟨congrArg (fun z => AOut.ret (.v (.bool z))) ?_, rfl⟩ (.refl _) (LE0 rfl))
     have : tmOk x.t = false := decide_eq_false (by have := of_decide_eq_true hc; omega)
     rw [hcol, hI, this]; simp
    ·refine no_implicit_lambda% (e_ret (H' := []) (rest := _) rfl ⟨congrArg (fun z => AOut.ret (.v (.bool z))) ?_, rfl⟩ (.refl _) (LE0 rfl))
     have : vRt x.v = false := by simpa using hc
     rw [hcol, hI, this]; simp
    ·refine no_implicit_lambda% (e_ret (H' := []) (rest := _) rfl ⟨congrArg (fun z => AOut.ret (.v (.bool z))) ?_, rfl⟩ (.refl _) (LE0 rfl))
     have h0 : 0 < i := by
      simp only [decide_eq_true_eq] at *
      omega
     have hy : c.l[i - 1]? = some (c.l[i - 1]?.getD x) := by rw [List.getElem?_eq_getElem (by omega : i - 1 < c.l.length)]; rfl
     have hpy : prevT c.l i = some (c.l[i - 1]?.getD x).t := by unfold prevT; rw [if_neg (by omega), hy]; rfl
     have : decide (x.t < (c.l[i - 1]?.getD x).t) = false := decide_eq_false (by have := of_decide_eq_true hc; omega)
     rw [hcol, hI, hpy]
     simp [this, ltT, ltN]
    ·have htm : tmOk x.t = true := decide_eq_true (by simp only [decide_eq_false_iff_not] at *; omega)
     have hvt : vRt x.v = true := by simp only [Bool.not_eq_false'] at *; assumption
     have h0 : 0 < i := by
      simp only [decide_eq_true_eq] at *
      omega
     have hy : c.l[i - 1]? = some (c.l[i - 1]?.getD x) := by rw [List.getElem?_eq_getElem (by omega : i - 1 < c.l.length)]; rfl
     have hpy : prevT c.l i = some (c.l[i - 1]?.getD x).t := by unfold prevT; rw [if_neg (by omega), hy]; rfl
     have hlt : decide (x.t < (c.l[i - 1]?.getD x).t) = true := decide_eq_true (by have := of_decide_eq_false hc; omega)
     (refine no_implicit_lambda% (k_loopLT (i + 1) 0 [0] (by show i + 1 ≤ c.l.length ∧ versB none c.l = versB (prevT c.l (i + 1)) (c.l.drop (i + 1)); exact ⟨hi, by rw [hps, hI, hpy]; simp [htm, hvt, hlt, ltT]⟩) (by first | omega | (simp; done) | (simp; omega)) (LE0 rfl) (fun _ h => h) (fun _ h => h) ?_ ?_)); (focus ((try dsimp only); exact wkl)); (focus ((try dsimp only); exact wkh))
    ·have htm : tmOk x.t = true := decide_eq_true (by simp only [decide_eq_false_iff_not] at *; omega)
     have hvt : vRt x.v = true := by simp only [Bool.not_eq_false'] at *; assumption
     have h0 : i = 0 := by
      have := of_decide_eq_false hc
      omega
     have hpy : prevT c.l i = none := by unfold prevT; rw [if_pos h0]
     (refine no_implicit_lambda% (k_loopLT (i + 1) 0 [0] (by show i + 1 ≤ c.l.length ∧ versB none c.l = versB (prevT c.l (i + 1)) (c.l.drop (i + 1)); exact ⟨hi, by rw [hps, hI, hpy]; simp [htm, hvt, ltT]⟩) (by first | omega | (simp; done) | (simp; omega)) (LE0 rfl) (fun _ h => h) (fun _ h => h) ?_ ?_)); (focus ((try dsimp only); exact wkl)); (focus ((try dsimp only); exact wkh))
def colsB : Option ByteArray → List Co → Bool
 | _, [] => true
 | p, c :: l => colB c && ltN p c.n && colsB (some c.n) l
def prevN (l : List Co) (i : Nat) : Option ByteArray := if i = 0 then none else l[i - 1]?.map (·.n)
def rowB (r : List Co) : Bool := colsB none r && decide (r.length ≤ 4)
theorem cox {l : List Co} {i : Nat} {t : Co} (h : l[i]? = some t) : 0 ≤ (i : Int) ∧ (l.map corow)[(i : Int).toNat]? = some (corow t) ∧ (corow t).length = 2 := ⟨Int.natCast_nonneg _, by rw [Int.toNat_natCast, List.getElem?_map, h]; rfl, rfl⟩
theorem coxp {l : List Co} {i : Nat} {t : Co} (hi : 0 < i) (hb : i < 70368744177664) (h : l[i - 1]? = some t) : 0 ≤ IntKind.i64.wrap ((i : Int) - 1) ∧ (l.map corow)[(IntKind.i64.wrap ((i : Int) - 1)).toNat]? = some (corow t) ∧ (corow t).length = 2 := by
 have e : IntKind.i64.wrap ((i : Int) - 1) = ((i - 1 : Nat) : Int) := by rw [z64 (by omega) (by omega)]; omega
 rw [e]
 exact cox h
theorem cols_at {p : Option ByteArray} {l : List Co} {i : Nat} {x : Co} (h : l[i]? = some x) : colsB p (l.drop i) = (colB x && ltN p x.n && colsB (some x.n) (l.drop (i + 1))) := by
 have : l.drop i = x :: l.drop (i + 1) := by
  obtain ⟨hi, rfl⟩ := List.getElem?_eq_some_iff.1 h
  exact List.drop_eq_getElem_cons hi
 rw [this]; rfl
theorem prevN_succ {l : List Co} {i : Nat} {x : Co} (h : l[i]? = some x) : prevN l (i + 1) = some x.n := by
 unfold prevN
 rw [if_neg (by omega), Nat.add_sub_cancel, h]; rfl
def rtSt (r : List Co) (i : Nat) : ASt := ⟨([.dead, .ptr 0 0, .dead, .dead, .dead, .dead, .list (r.map corow) .free, .v (.int .i64 r.length), .v (.int .i64 i)] ++ List.replicate 28 .dead), [(0, .box [.list (r.map corow) .free])], 1⟩
set_option maxHeartbeats 3200000 in
theorem right_c (r : List Co) (hr : r.length < 70368744177664) : ACalls Tryz.prog 166 0 600 [rowA r] [] (fun out H' => out = .ret (.v (.bool (rowB r))) ∧ H' = []) := by
 refine no_implicit_lambda% (acalls_of tok dok (f := 166) ⟨Tryz.func166, rfl, by kernel_rfl⟩ ?_); refine no_implicit_lambda% (c_start (fun _ h => h) ?_)
 repeat' (first | (refine no_implicit_lambda% (zH ?_)) | (refine no_implicit_lambda% (spl (fun hc => ?_) (fun hc => ?_)) <;> first | exact zG hc | skip) | (refine no_implicit_lambda% (ans ?_)) | (with_reducible first | exact zI | exact zJ))
 refine c_loop' (rtSt r) (fun i => i ≤ r.length ∧ colsB none r = colsB (prevN r i) (r.drop i)) (fun i => r.length - i) (a := 0) ⟨Nat.zero_le _, rfl⟩ ?_ ?_
 ·(refine no_implicit_lambda% (Conv.toT ?_ ?_ (LE0 rfl))); (focus ((unfold rtSt); (try dsimp only); exact wkl)); (focus ((unfold rtSt); (try dsimp only); exact wkh))
 ·rintro i ⟨h1, hI⟩
  refine c_turn (n' := 1) (fun _ h => h) (fun _ h => h) rfl ?_
  rcases hx : r[i]? with _ | x
  ·have hi : i = r.length := by have := List.getElem?_eq_none_iff.1 hx; omega
   repeat' (first | (refine no_implicit_lambda% (zH ?_)) | (refine no_implicit_lambda% (spl (fun hc => ?_) (fun hc => ?_)) <;> first | exact zG hc | skip) | (refine no_implicit_lambda% (ans ?_)) | (with_reducible first | exact zI | exact zJ))
   refine no_implicit_lambda% (e_ret (H' := []) (rest := _) rfl ⟨congrArg (fun z => AOut.ret (.v (.bool z))) ?_, rfl⟩ (.refl _) (LE0 rfl))
   rw [hi, List.drop_length] at hI
   unfold rowB
   rw [hI]
   show _ = (true && _)
   rw [Bool.true_and, List.length_map]
   exact decide_eq_decide.2 (by omega)
  ·have hi : i < r.length := (List.getElem?_eq_some_iff.1 hx).1
   have hix := cox hx
   have hps := prevN_succ hx
   rw [cols_at hx] at hI
   have hcl := column_c x
   have hpx : decide ((i : Int) > 0) = true → 0 ≤ IntKind.i64.wrap ((i : Int) - 1) ∧ (r.map corow)[(IntKind.i64.wrap ((i : Int) - 1)).toNat]? = some (corow (r[i - 1]?.getD x)) ∧ (corow (r[i - 1]?.getD x)).length = 2 := fun h => by
    have h0 := of_decide_eq_true h
    rw [List.getElem?_eq_getElem (by omega : i - 1 < r.length)]
    exact coxp (by omega) (by omega) (List.getElem?_eq_getElem (by omega))
   repeat' (first | (refine no_implicit_lambda% (zH ?_)) | (refine no_implicit_lambda% (splv (fun hc => ?_) (fun hc => ?_)) <;> first | exact zG hc | skip) | (refine no_implicit_lambda% (ans ?_)) | (with_reducible first | exact zI | exact zJ) | (refine no_implicit_lambda% (cal [] (hcl) ?_ ?_)) | fail)
   ·refine no_implicit_lambda% (e_ret (H' := []) (rest := _) rfl ⟨congrArg (fun z => AOut.ret (.v (.bool z))) ?_, rfl⟩ (.refl _) (LE0 rfl))
    have : colB x = false := by simpa using hc
    unfold rowB
    rw [hI, this]; simp
   ·refine no_implicit_lambda% (e_ret (H' := []) (rest := _) rfl ⟨congrArg (fun z => AOut.ret (.v (.bool z))) ?_, rfl⟩ (.refl _) (LE0 rfl))
    have h0 : 0 < i := by
     simp only [decide_eq_true_eq] at *
     omega
    have hy : r[i - 1]? = some (r[i - 1]?.getD x) := by rw [List.getElem?_eq_getElem (by omega : i - 1 < r.length)]; rfl
    have hpy : prevN r i = some (r[i - 1]?.getD x).n := by unfold prevN; rw [if_neg (by omega), hy]; rfl
    have : sLt (r[i - 1]?.getD x).n x.n = false := by simpa [sLt] using hc
    unfold rowB
    rw [hI, hpy]
    simp [this, ltT, ltN]
   ·have hcx : colB x = true := by simp only [Bool.not_eq_false'] at *; assumption
    have h0 : 0 < i := by
     simp only [decide_eq_true_eq] at *
     omega
    have hy : r[i - 1]? = some (r[i - 1]?.getD x) := by rw [List.getElem?_eq_getElem (by omega : i - 1 < r.length)]; rfl
    have hpy : prevN r i = some (r[i - 1]?.getD x).n := by unfold prevN; rw [if_neg (by omega), hy]; rfl
    have hlt : sLt (r[i - 1]?.getD x).n x.n = true := by simpa [sLt] using hc
    (refine no_implicit_lambda% (k_loopLT (i + 1) 0 [0] (by show i + 1 ≤ r.length ∧ colsB none r = colsB (prevN r (i + 1)) (r.drop (i + 1)); exact ⟨hi, by rw [hps, hI, hpy]; simp [hcx, hlt, ltN]⟩) (by first | omega | (simp; done) | (simp; omega)) (LE0 rfl) (fun _ h => h) (fun _ h => h) ?_ ?_)); (focus ((try dsimp only); exact wkl)); (focus ((try dsimp only); exact wkh))
   ·have hcx : colB x = true := by simp only [Bool.not_eq_false'] at *; assumption
    have h0 : i = 0 := by
     have := of_decide_eq_false hc
     omega
    have hpy : prevN r i = none := by unfold prevN; rw [if_pos h0]
    (refine no_implicit_lambda% (k_loopLT (i + 1) 0 [0] (by show i + 1 ≤ r.length ∧ colsB none r = colsB (prevN r (i + 1)) (r.drop (i + 1)); exact ⟨hi, by rw [hps, hI, hpy]; simp [hcx, ltN]⟩) (by first | omega | (simp; done) | (simp; omega)) (LE0 rfl) (fun _ h => h) (fun _ h => h) ?_ ?_)); (focus ((try dsimp only); exact wkl)); (focus ((try dsimp only); exact wkh))
end Go.Proofs.YtncffhgoopdfgaaGreat
namespace Go.Proofs.YtncffhgoopdfgaaGreat
open Go.Am
set_option maxRecDepth 100000
def canE (x : Ve) : Ve := ⟨x.t, canV x.v⟩
def canC (c : Co) : Co := ⟨c.n, c.l.map canE⟩
def copyR (r : List Co) : List Co := if rowB r then r.map canC else []
def RowSz (r : List Co) : Prop := ∀ c ∈ r, ∀ x ∈ c.l, x.v.b.length < 1073741824 ∧ x.v.n < 18446744073709551616
theorem cols_mem : ∀ {l : List Co} {p : Option ByteArray} {x : Co}, colsB p l = true → x ∈ l → colB x = true
 | c :: l, p, x, h, hm => by
  unfold colsB at h
  simp only [Bool.and_eq_true] at h
  rcases List.mem_cons.1 hm with rfl | hm
  ·exact h.1.1
  ·exact cols_mem h.2 hm
theorem row_mem {r : List Co} (h : rowB r = true) {x : Co} (hx : x ∈ r) : colB x = true := by
 unfold rowB at h
 simp only [Bool.and_eq_true] at h
 exact cols_mem h.1 hx
theorem col_len {c : Co} (h : colB c = true) : 1 ≤ c.l.length ∧ c.l.length ≤ 2 := by
 unfold colB at h
 simp only [Bool.and_eq_true, decide_eq_true_eq] at h
 exact h.1.2
theorem coOk (l : List Co) : RowsOk 2 (l.map corow) := .map (f := corow) (fun _ => ⟨rfl, rfl, rfl⟩) l
theorem veOk (l : List Ve) : RowsOk 4 (l.map verow) := .map (f := verow) (fun _ => ⟨rfl, rfl, rfl⟩) l
def rcSt (r o : List Co) (cp i : Nat) : ASt := ⟨([.dead, .dead, .ptr 1 0, .ptr 2 0] ++ List.replicate 10 .dead ++ [.list (r.map corow) .free, .v (.int .i64 r.length), .v (.int .i64 i)] ++ List.replicate 33 .dead), [(1, .box [.list [] .full]), (2, .box [.arr 3 0 i cp]), (3, .seq (o.map corow) ((cp - i) * 2))], 4⟩
def rdSt (r o : List Co) (cp i : Nat) (c : Co) (vs : List Ve) (k : Nat) : ASt := ⟨([.dead, .dead, .ptr 1 0, .ptr 2 0, .dead, .dead, .ptr 5 0] ++ List.replicate 7 .dead ++ [.list (r.map corow) .free, .v (.int .i64 r.length), .v (.int .i64 i)] ++ List.replicate 7 .dead ++ [.list (c.l.map verow) .free, .v (.int .i64 c.l.length), .v (.int .i64 k)] ++ List.replicate 23 .dead), [(5, .box [.v (.string c.n), .list (vs.map verow) (.tok 6)]), (6, .tok 4 vs.length), (1, .box [.list [] .full]), (2, .box [.arr 3 0 i cp]), (3, .seq (o.map corow) ((cp - i) * 2))], 7⟩
set_option maxHeartbeats 3200000 in
theorem copy_s (r : List Co) (hr : r.length < 70368744177664) (hs : RowSz r) : ACalls Tryz.prog 142 0 5000 [rowA r] [] (fun out H' => ∃ id cp, id < 5000 ∧ (copyR r).length ≤ cp ∧ cp ≤ maxLen ∧ out = .ret (.agg [.arr id 0 (copyR r).length cp]) ∧ H' = [(id, .seq ((copyR r).map corow) ((cp - (copyR r).length) * 2))]) := by
 have hrt := (right_c r hr).top0
 refine no_implicit_lambda% (acalls_of tok dok (f := 142) ⟨Tryz.func142, rfl, by kernel_rfl⟩ ?_); refine no_implicit_lambda% (c_start (fun _ h => h) ?_)
 repeat' (first | (refine no_implicit_lambda% (zH ?_)) | (refine no_implicit_lambda% (spl (fun hc => ?_) (fun hc => ?_)) <;> first | exact zG hc | skip) | (refine no_implicit_lambda% (ans ?_)) | (with_reducible first | exact zI | exact zJ) | (refine no_implicit_lambda% (cal [] (hrt) ?_ ?_)) | fail)
 ·have hf : rowB r = false := by simpa using hc
  have he : copyR r = [] := by unfold copyR; rw [hf]; rfl
  rw [he]
  exact e_ret_to (H' := [(3, .seq [] 0)]) (rest := _) (Conv.nilBox (id := 1) (j := 0) (cells := [.list [] .full]) rfl rfl) rfl ⟨3, 0, by omega, Nat.le_refl _, by decide, rfl, rfl⟩ permT (LE0 rfl)
 ·have ht : rowB r = true := by simpa using hc
  have he : copyR r = r.map canC := by unfold copyR; rw [ht]; rfl
  have h4 : r.length ≤ 4 := by
   unfold rowB at ht
   simp only [Bool.and_eq_true, decide_eq_true_eq] at ht
   exact ht.2
  rw [he]
  refine c_l3 (rcSt r) (fun o cp i => i ≤ r.length ∧ i ≤ cp ∧ cp ≤ maxLen ∧ o = (r.take i).map canC) (fun _ _ i => r.length - i) [] 0 0 ⟨Nat.zero_le _, Nat.le_refl _, by decide, rfl⟩ ((Conv.nilBox (id := 2) (j := 0) (cells := [.list [] .full]) rfl rfl).trans ?_) ?_
  ·(refine no_implicit_lambda% (Conv.toT ?_ ?_ (LE0 rfl))); (focus ((unfold rcSt); (try dsimp only); exact wkl)); (focus ((unfold rcSt); (try dsimp only); exact wkh))
  ·rintro o cp i ⟨h1, h2, h3, ho⟩
   have hol : o.length = i := by rw [ho, List.length_map, List.length_take]; omega
   refine c_turn (n' := 4) (fun _ h => h) (fun _ h => h) rfl ?_
   rcases hx : r[i]? with _ | x
   ·have hi : i = r.length := by have := List.getElem?_eq_none_iff.1 hx; omega
    subst hi
    rw [List.take_length] at ho
    subst ho
    repeat' (first | (refine no_implicit_lambda% (zH ?_)) | (refine no_implicit_lambda% (spl (fun hc => ?_) (fun hc => ?_)) <;> first | exact zG hc | skip) | (refine no_implicit_lambda% (ans ?_)) | (with_reducible first | exact zI | exact zJ))
    have e : (r.map canC).length = r.length := List.length_map ..
    exact e_ret (H' := [(3, .seq ((r.map canC).map corow) ((cp - r.length) * 2))]) (rest := _) rfl ⟨3, cp, by omega, by omega, h3, (by rw [e]; rfl), by rw [e]⟩ permT (LE0 rfl)
   ·have hi : i < r.length := (List.getElem?_eq_some_iff.1 hx).1
    have hix := cox hx
    have hsx := hs x (List.mem_of_getElem? hx)
    have hts : r.take (i + 1) = r.take i ++ [x] := by rw [List.take_add_one, hx]; rfl
    have hxl := col_len (row_mem ht (List.mem_of_getElem? hx))
    repeat' (first | (refine no_implicit_lambda% (zH ?_)) | (refine no_implicit_lambda% (spl (fun hc => ?_) (fun hc => ?_)) <;> first | exact zG hc | skip) | (refine no_implicit_lambda% (ans ?_)) | (with_reducible first | exact zI | exact zJ))
    refine c_loop2 (rdSt r o cp i x) (fun vs k => k ≤ x.l.length ∧ vs = (x.l.take k).map canE) (fun _ k => x.l.length - k) [] 0 ⟨Nat.zero_le _, rfl⟩ ((Conv.tokBox (id := 5) (j := 1) (sz := 4) (rows := []) rfl rfl (by simp)).trans ?_) ?_
    ·(refine no_implicit_lambda% (Conv.toT ?_ ?_ (LE0 rfl))); (focus ((unfold rdSt); (try dsimp only); exact wkl)); (focus ((unfold rdSt); (try dsimp only); exact wkh))
    ·rintro vs k ⟨k1, hv⟩
     have hvl : vs.length = k := by rw [hv, List.length_map, List.length_take]; omega
     refine c_turn (n' := 7) (fun _ h => h) (fun _ h => h) rfl ?_
     rcases hy : x.l[k]? with _ | y
     ·have hk : k = x.l.length := by have := List.getElem?_eq_none_iff.1 hy; omega
      subst hk
      rw [List.take_length] at hv
      repeat' (first | (refine no_implicit_lambda% (zH ?_)) | (refine no_implicit_lambda% (spl (fun hc => ?_) (fun hc => ?_)) <;> first | exact zG hc | skip) | (refine no_implicit_lambda% (ans ?_)) | (with_reducible first | exact zI | exact zJ))
      subst hv
      ((with_reducible refine no_implicit_lambda% (zC ?_)); refine no_implicit_lambda% (a_appS (sz := 2) (B := 40) (m2 := i + 1) (rows3 := (o ++ [canC x]).map corow) rfl rfl rfl rfl rfl rfl rfl rfl rfl rfl rfl (fun _ h => h) rfl rfl (coOk o) (coOk [canC x]) (by first | rfl | (exact List.length_map ..) | (simp; done) | (simp; omega)) rfl (by first | omega | (simp; omega)) (by first | rfl | (simp; done) | (simp; omega)) (by first | rfl | (exact map_snoc _ _) | (rw [List.map_append]; rfl) | (simp; done)) ?_))
      intro cp' c1 c2
      refine no_implicit_lambda% (akc ?_)
      repeat' (first | (refine no_implicit_lambda% (zH ?_)) | (refine no_implicit_lambda% (spl (fun hc => ?_) (fun hc => ?_)) <;> first | exact zG hc | skip) | (refine no_implicit_lambda% (ans ?_)) | (with_reducible first | exact zI | exact zJ))
      (refine no_implicit_lambda% (k_loopLT (((o ++ [canC x], cp', i + 1) : List Co × Nat × Nat)) 0 [0, 1, 2, 7] (by show i + 1 ≤ r.length ∧ i + 1 ≤ cp' ∧ cp' ≤ maxLen ∧ o ++ [canC x] = (r.take (i + 1)).map canC; exact ⟨hi, c1, c2, by rw [hts, List.map_append, ← ho]; rfl⟩) (by first | omega | (simp; done) | (simp; omega)) (LE0 rfl) (fun _ h => h) (fun _ h => h) ?_ ?_)); (focus ((try dsimp only); exact wkl)); (focus ((try dsimp only); exact wkh))
     ·have hk : k < x.l.length := (List.getElem?_eq_some_iff.1 hy).1
      have hiy := vex hy
      have hsy := (hsx y (List.mem_of_getElem? hy)).1
      have hcn := canonv_c y.v (by omega)
      have hty : x.l.take (k + 1) = x.l.take k ++ [y] := by rw [List.take_add_one, hy]; rfl
      repeat' (first | (refine no_implicit_lambda% (zH ?_)) | (refine no_implicit_lambda% (splv (fun hc => ?_) (fun hc => ?_)) <;> first | exact zG hc | skip) | (refine no_implicit_lambda% (ans ?_)) | (with_reducible first | exact zI | exact zJ) | (refine no_implicit_lambda% (cal [] (hcn) ?_ ?_)) | fail)
      (refine no_implicit_lambda% (k_loopLT (((vs ++ [canE y], k + 1) : List Ve × Nat)) 0 (List.range 7) (by show k + 1 ≤ x.l.length ∧ vs ++ [canE y] = (x.l.take (k + 1)).map canE; exact ⟨hk, by rw [hty, List.map_append, ← hv]; rfl⟩) (by first | omega | (simp; done) | (simp; omega)) (LE0 rfl) (fun _ h => h) (fun _ h => h) ?_ ?_)); (focus ((try dsimp only); exact wkl)); (focus ((try dsimp only); exact wkh))
theorem copy_f (r : List Co) (hr : r.length < 70368744177664) (hs : RowSz r) : ACalls Tryz.prog 142 0 0 [rowA r] [] (fun out H' => out = .ret (rowA (copyR r)) ∧ H' = []) :=
 ((copy_s r hr hs).conv (M := 5000) (R2 := fun out H' => out = .ret (rowA (copyR r)) ∧ H' = []) (Nat.zero_le _) (Nat.le_refl _) (fun x H' hh => by
  obtain ⟨id, cp, _, h1, h2, h3, rfl⟩ := hh
  cases h3
  exact ⟨rowA (copyR r), [], 5000, Nat.le_refl _, (Conv.freezeA (coOk _) (by simp)).toN 0, (fun rows h => by cases h), rfl, rfl⟩) (fun x H' hh => by
  obtain ⟨_, _, _, _, _, h', _⟩ := hh
  cases h')).ren (Nat.zero_le _) fun out H' hh => by
   obtain ⟨rfl, rfl⟩ := hh
   exact ⟨[], .ret (rowA (copyR r)), [], List.nodup_nil, (fun i h => by cases h), (fun i h => absurd h (Nat.not_lt_zero i)), Nat.le_refl _, (by simp [rowA, AOut.ren, AV.ren, AV.renL, Own.ren]), rfl, rfl, rfl⟩
end Go.Proofs.YtncffhgoopdfgaaGreat
namespace Go.Proofs.YtncffhgoopdfgaaGreat
open Go.Am
set_option maxRecDepth 100000
theorem cmpZ_refl (a : Int) : cmpZ a a = 0 := by unfold cmpZ; repeat' split <;> omega
theorem cb_refl : ∀ a : List UInt8, Lib.compareBytes a a = 0
 | [] => rfl
 | x :: a => by
  unfold Lib.compareBytes
  rw [if_neg (by simp), if_neg (by simp)]; exact cb_refl a
theorem cb_anti : ∀ a b : List UInt8, Lib.compareBytes a b = 0 - Lib.compareBytes b a
 | [], [] => rfl
 | [], _ :: _ => rfl
 | _ :: _, [] => rfl
 | x :: a, y :: b => by
  unfold Lib.compareBytes
  have h := cb_anti a b
  simp only [UInt8.lt_iff_toNat_lt]
  repeat' split <;> omega
theorem cb_bd : ∀ a b : List UInt8, -1 ≤ Lib.compareBytes a b ∧ Lib.compareBytes a b ≤ 1
 | [], [] => by decide
 | [], _ :: _ => ⟨Int.le_refl (-1), (by decide : (-1 : Int) ≤ 1)⟩
 | _ :: _, [] => ⟨(by decide : (-1 : Int) ≤ 1), Int.le_refl 1⟩
 | x :: a, y :: b => by
  unfold Lib.compareBytes
  have h := cb_bd a b
  repeat' split <;> omega
theorem cb_tr : ∀ a b c : List UInt8, Lib.compareBytes a b ≤ 0 → Lib.compareBytes b c ≤ 0 → Lib.compareBytes a c ≤ 0
 | [], [], c, _, h => h
 | [], _ :: _, [], _, _ => Int.le_refl _
 | [], _ :: _, _ :: _, _, _ => by show (-1 : Int) ≤ 0; decide
 | _ :: _, [], _, h, _ => by exfalso; revert h; show ¬ (1 : Int) ≤ 0; decide
 | _ :: _, _ :: _, [], _, h => by exfalso; revert h; show ¬ (1 : Int) ≤ 0; decide
 | x :: a, y :: b, z :: c, h1, h2 => by
  unfold Lib.compareBytes at *
  have h := cb_tr a b c
  simp only [UInt8.lt_iff_toNat_lt] at *
  repeat' split
  all_goals (repeat' split at h1)
  all_goals (repeat' split at h2)
  all_goals first | omega | (exact h h1 h2) | skip
theorem ord0_refl (x : Va) : ordV0 x x = 0 := by
 unfold ordV0
 rw [if_neg (by omega)]
 split
 ·exact cb_refl _
 ·split
  ·exact cmpZ_refl _
  ·rfl
theorem canonB_idem (n : Nat) : canonB (canonB n) = canonB n := by
 unfold canonB
 have e : nanB 9221120237041090561 = true := by kernel_rfl
 cases h : nanB n
 ·simp [h]
 ·simp [e]
theorem canV_idem (v : Va) : canV (canV v) = canV v := by
 unfold canV
 split
 ·rfl
 ·split
  ·show (⟨2, [], canonB (canonB v.n)⟩ : Va) = _
   rw [canonB_idem]
  ·rfl
end Go.Proofs.YtncffhgoopdfgaaGreat
namespace Go.Proofs.YtncffhgoopdfgaaGreat
open Go.Am
set_option maxRecDepth 100000
theorem sLt_tr {a b c : ByteArray} (h1 : sLt a b = true) (h2 : sLt b c = true) : sLt a c = true := by
 rw [sLt_eq, decide_eq_true_eq] at *
 have h3 := cb_tr a.toList b.toList c.toList (by unfold cmpS at h1; omega) (by unfold cmpS at h2; omega)
 unfold cmpS at *
 rcases cb_three a.toList c.toList with h | h | h
 ·exact h
 ·
  have e : a.toList = c.toList := by
   have := eq_cb a.toList c.toList
   rw [decide_eq_true h] at this
   simpa using this
  rw [e] at h1
  have := cb_anti c.toList b.toList
  omega
 ·omega
def npos (l : List Co) (s : ByteArray) : Nat := l.countP fun c => sLt c.n s
def Nsort (l : List Co) : Prop := l.Pairwise fun a b => sLt a.n b.n = true
theorem npos_le (l : List Co) (s : ByteArray) : npos l s ≤ l.length := List.countP_le_length
theorem npos_lt {l : List Co} {s : ByteArray} (hs : Nsort l) {i : Nat} {x : Co} (hi : l[i]? = some x) : i < npos l s ↔ sLt x.n s = true := by
 unfold npos Nsort at *
 induction l generalizing i with
 | nil => cases hi
 | cons y l ih =>
  rw [List.pairwise_cons] at hs
  rw [List.countP_cons]
  have hz : sLt y.n s = false → l.countP (fun c => sLt c.n s) = 0 := fun hc => List.countP_eq_zero.2 fun z hz h => by
   have := sLt_tr (hs.1 z hz) h
   rw [this] at hc; cases hc
  cases i with
  | zero =>
   cases hi
   cases hc : sLt x.n s with
   | true => simp
   | false => simp [hz hc]
  | succ i =>
   rw [List.getElem?_cons_succ] at hi
   have := ih hs.2 hi
   cases hc : sLt y.n s with
   | true => simp [this]
   | false =>
    have h0 := hz hc
    have h1 : sLt x.n s = false := by
     cases h2 : sLt x.n s with
     | false => rfl
     | true => rw [h0] at this; exact absurd (this.2 h2) (by omega)
    simp [h0, h1]
theorem cols_sort : ∀ {l : List Co} {p : Option ByteArray}, colsB p l = true → Nsort l ∧ ∀ q, p = some q → ∀ c ∈ l, sLt q c.n = true
 | [], p, _ => ⟨List.Pairwise.nil, fun q _ c hc => by cases hc⟩
 | c :: l, p, h => by
  unfold colsB at h
  simp only [Bool.and_eq_true] at h
  obtain ⟨h1, h2⟩ := cols_sort h.2
  refine ⟨List.pairwise_cons.2 ⟨fun b hb => h2 c.n rfl b hb, h1⟩, fun q hq b hb => ?_⟩
  subst hq
  have h3 : sLt q c.n = true := h.1.2
  rcases List.mem_cons.1 hb with rfl | hb
  ·exact h3
  ·exact sLt_tr h3 (h2 c.n rfl b hb)
theorem row_sort {r : List Co} (h : rowB r = true) : Nsort r := by
 unfold rowB at h
 simp only [Bool.and_eq_true] at h
 exact (cols_sort h.1).1
theorem copy_sort (r : List Co) : Nsort (copyR r) := by
 unfold copyR
 split
 ·rename_i h
  have := row_sort h
  unfold Nsort at *
  rw [List.pairwise_map]
  exact this
 ·exact List.Pairwise.nil
theorem copy_len (r : List Co) : (copyR r).length ≤ 4 := by
 unfold copyR
 split
 ·rename_i h
  unfold rowB at h
  simp only [Bool.and_eq_true, decide_eq_true_eq] at h
  rw [List.length_map]; exact h.2
 ·simp
theorem copy_col {r : List Co} {c : Co} (h : c ∈ copyR r) : 1 ≤ c.l.length ∧ c.l.length ≤ 2 := by
 unfold copyR at h
 split at h
 ·rename_i hb
  obtain ⟨d, hd, rfl⟩ := List.mem_map.1 h
  have := col_len (row_mem hb hd)
  unfold canC
  simpa using this
 ·cases h
theorem findf_s (c : Co) (s : ByteArray) : ACalls Tryz.prog 205 0 0 [.agg (corow c), .v (.string s)] [] (fun out H' => out = .ret (.v (.int .i64 (cmpS c.n s))) ∧ H' = []) := by
 refine ACalls.top0 (top := 5) ?_
 refine no_implicit_lambda% (acalls_of tok dok (f := 205) ⟨Tryz.func205, rfl, by kernel_rfl⟩ ?_); refine no_implicit_lambda% (c_start (fun _ h => h) ?_)
 repeat' (first | (refine no_implicit_lambda% (zH ?_)) | (refine no_implicit_lambda% (spl (fun hc => ?_) (fun hc => ?_)) <;> first | exact zG hc | skip) | (refine no_implicit_lambda% (ans ?_)) | (with_reducible first | exact zI | exact zJ) | (refine no_implicit_lambda% (cal [] (compare_s _ _) ?_ ?_)) | fail)
 exact e_ret (H' := []) (rest := _) rfl ⟨rfl, rfl⟩ permT (LE0 rfl)
def hasN (l : List Co) (s : ByteArray) : Bool := match l[npos l s]? with
 | some c => cmpS c.n s == 0
 | none => false
def fbSt (l : List Co) (s : ByteArray) (lo hi : Nat) : ASt := ⟨([.list (l.map corow) .free, .v (.string s), .fn 205 []] ++ List.replicate 5 .dead ++ [.v (.int .i64 l.length), .v (.int .i64 lo), .v (.int .i64 hi)] ++ List.replicate 38 .dead), [], 0⟩
theorem bsearch_s (l : List Co) (s : ByteArray) (hl : l.length < 1000000) (hs : Nsort l) : ACalls Tryz.prog 204 0 0 [.list (l.map corow) .free, .v (.string s), .fn 205 []] [] (fun out H' => out = .ret (.tuple [.v (.int .i64 (npos l s)), .v (.bool (hasN l s))]) ∧ H' = []) := by
 refine no_implicit_lambda% (acalls_of tok dok (f := 204) ⟨Tryz.func204, rfl, by kernel_rfl⟩ ?_); refine no_implicit_lambda% (c_start (fun _ h => h) ?_)
 repeat' (first | (refine no_implicit_lambda% (zH ?_)) | (refine no_implicit_lambda% (spl (fun hc => ?_) (fun hc => ?_)) <;> first | exact zG hc | skip) | (refine no_implicit_lambda% (ans ?_)) | (with_reducible first | exact zI | exact zJ))
 refine c_loop2 (fbSt l s) (fun lo hi => lo ≤ hi ∧ hi ≤ l.length ∧ lo ≤ npos l s ∧ npos l s ≤ hi) (fun lo hi => hi - lo) 0 l.length ⟨Nat.zero_le _, Nat.le_refl _, Nat.zero_le _, npos_le l s⟩ ?_ ?_
 ·(refine no_implicit_lambda% (Conv.toT ?_ ?_ (LE0 rfl))); (focus ((unfold fbSt); (try dsimp only); exact wkl)); (focus ((unfold fbSt); (try dsimp only); exact wkh))
 ·intro lo hi ⟨h1, h2, h3, h4⟩
  refine c_turn (n' := 0) (fun _ h => h) (fun _ h => h) rfl ?_
  rcases Nat.lt_or_ge lo hi with hlt | hge
  ·have hm : IntKind.i64.wrap ((IntKind.u64.wrap (IntKind.i64.wrap ((lo : Int) + hi))).fdiv (2 ^ min (Int.toNat 1) IntKind.u64.bits)) = (((lo + hi) / 2 : Nat) : Int) := by
    rw [show min (Int.toNat 1) IntKind.u64.bits = 1 from rfl, Int.pow_one, IntKind.wrap_i64, IntKind.wrap_u64]
    rw [Int.fdiv_eq_ediv_of_nonneg _ (by omega)]
    rw [IntKind.wrap_i64]
    omega
   obtain ⟨m, hmm⟩ : ∃ m, (lo + hi) / 2 = m := ⟨_, rfl⟩
   rw [hmm] at hm
   have hml : m < l.length := by omega
   obtain ⟨t, ht⟩ : ∃ t, l[m]? = some t := ⟨_, List.getElem?_eq_getElem hml⟩
   have hk := npos_lt (s := s) hs ht
   have hix := cox ht
   rw [← hm] at hix
   repeat' (first | (refine no_implicit_lambda% (zH ?_)) | (refine no_implicit_lambda% (spl (fun hc => ?_) (fun hc => ?_)) <;> first | exact zG hc | skip) | (refine no_implicit_lambda% (ans ?_)) | (with_reducible first | exact zI | exact zJ) | (refine no_implicit_lambda% (cal [] (findf_s t s) ?_ ?_)) | fail)
   ·have hq := of_decide_eq_true hc
    have hq2 : sLt t.n s = true := by rw [sLt_eq]; exact decide_eq_true (by have := cb_bd t.n.toList s.toList; unfold cmpS at *; omega)
    rw [hm]
    (refine no_implicit_lambda% (k_loopT (((m + 1, hi) : Nat × Nat)) (by show m + 1 ≤ hi ∧ hi ≤ l.length ∧ m + 1 ≤ npos l s ∧ npos l s ≤ hi; have := hk.2 hq2; omega) (by first | omega | (simp; done) | (simp; omega)) ?_ ?_)); (focus ((unfold fbSt); (try dsimp only); exact wkl)); (focus ((unfold fbSt); (try dsimp only); exact wkh))
   ·have hq := of_decide_eq_false hc
    have hq2 : ¬ sLt t.n s = true := by rw [sLt_eq, decide_eq_true_eq]; omega
    rw [hm]
    (refine no_implicit_lambda% (k_loopT (((lo, m) : Nat × Nat)) (by show lo ≤ m ∧ m ≤ l.length ∧ lo ≤ npos l s ∧ npos l s ≤ m; have := mt hk.1 hq2; omega) (by first | omega | (simp; done) | (simp; omega)) ?_ ?_)); (focus ((unfold fbSt); (try dsimp only); exact wkl)); (focus ((unfold fbSt); (try dsimp only); exact wkh))
  ·have hle : lo = hi := by omega
   subst hle
   have hn : lo = npos l s := by omega
   rcases ht : l[lo]? with _ | t
   ·have hge : ¬ lo < l.length := by have := List.getElem?_eq_none_iff.1 ht; omega
    have hh : hasN l s = false := by unfold hasN; rw [← hn, ht]
    rw [hh, ← hn]
    repeat' (first | (refine no_implicit_lambda% (zH ?_)) | (refine no_implicit_lambda% (spl (fun hc => ?_) (fun hc => ?_)) <;> first | exact zG hc | skip) | (refine no_implicit_lambda% (ans ?_)) | (with_reducible first | exact zI | exact zJ))
    exact e_ret (H' := []) (rest := _) rfl ⟨rfl, rfl⟩ (.refl _) (LE0 rfl)
   ·have hix := cox ht
    have hh : hasN l s = (cmpS t.n s == 0) := by unfold hasN; rw [← hn, ht]
    rw [hh, ← hn]
    repeat' (first | (refine no_implicit_lambda% (zH ?_)) | (refine no_implicit_lambda% (spl (fun hc => ?_) (fun hc => ?_)) <;> first | exact zG hc | skip) | (refine no_implicit_lambda% (ans ?_)) | (with_reducible first | exact zI | exact zJ) | (refine no_implicit_lambda% (cal [] (findf_s t s) ?_ ?_)) | fail)
    ·exact e_ret (H' := []) (rest := _) rfl ⟨rfl, rfl⟩ (.refl _) (LE0 rfl)
    ·exfalso
     have h5 := (List.getElem?_eq_some_iff.1 ht).1
     have := of_decide_eq_false hc
     omega
theorem find_f (l : List Co) (s : ByteArray) (hl : l.length < 1000000) (hs : Nsort l) : ACalls Tryz.prog 187 0 0 [rowA l, .v (.string s)] [] (fun out H' => out = .ret (.tuple [.v (.int .i64 (npos l s)), .v (.bool (hasN l s))]) ∧ H' = []) := by
 have hb := bsearch_s l s hl hs
 have h1 : ACalls Tryz.prog 187 0 5 [rowA l, .v (.string s)] [] (fun out H' => out = .ret (.tuple [.v (.int .i64 (npos l s)), .v (.bool (hasN l s))]) ∧ H' = []) := by
  refine no_implicit_lambda% (acalls_of tok dok (f := 187) ⟨Tryz.func187, rfl, by kernel_rfl⟩ ?_); refine no_implicit_lambda% (c_start (fun _ h => h) ?_)
  repeat' (first | (refine no_implicit_lambda% (zH ?_)) | (refine no_implicit_lambda% (spl (fun hc => ?_) (fun hc => ?_)) <;> first | exact zG hc | skip) | (refine no_implicit_lambda% (ans ?_)) | (with_reducible first | exact zI | exact zJ) | (refine no_implicit_lambda% (cal [] (hb) ?_ ?_)) | fail)
  exact e_ret (H' := []) (rest := _) rfl ⟨rfl, rfl⟩ permT (LE0 rfl)
 exact h1.ren (Nat.zero_le _) fun out H' hh => by
  obtain ⟨rfl, rfl⟩ := hh
  exact ⟨[], .ret (.tuple [.v (.int .i64 (npos l s)), .v (.bool (hasN l s))]), [], List.nodup_nil, (fun i h => by cases h), (fun i h => absurd h (Nat.not_lt_zero i)), Nat.le_refl _, (by simp [AOut.ren, AV.ren, AV.renL]), rfl, rfl, rfl⟩
def atL (l : List Ve) (t : Int) : Option Va := (l.find? fun x => decide (x.t ≤ t)).map (·.v)
def atR (r : List Co) (s : ByteArray) (t : Int) : Option Va := if hasN (copyR r) s then ((copyR r)[npos (copyR r) s]?).bind fun c => atL c.l t else none
def optA : Option Va → AV
 | some v => .tuple [vav v, .v (.bool true)]
 | none => .tuple [vav ⟨0, [], 0⟩, .v (.bool false)]
def atSt (l : List Ve) (t : Int) (i : Nat) : ASt := ⟨([.dead, .dead, .v (.int .i64 t), .dead, .dead, .dead, .ptr 1 0] ++ List.replicate 22 .dead ++ [.list (l.map verow) .free, .v (.int .i64 l.length), .v (.int .i64 i)] ++ List.replicate 11 .dead), [(1, .box [.v (.int .i64 0), .list [] .free, .v (.float .f64 0)])], 3⟩
set_option maxHeartbeats 3200000 in
theorem at_c (r : List Co) (s : ByteArray) (t : Int) (hr : r.length < 70368744177664) (hs : RowSz r) : ACalls Tryz.prog 157 0 5000 [rowA r, .v (.string s), .v (.int .i64 t)] [] (fun out H' => out = .ret (optA (atR r s t)) ∧ H' = []) := by
 have hcp := copy_f r hr hs
 have h4 := copy_len r
 have hf := find_f (copyR r) s (by omega) (copy_sort r)
 have hcol := fun c (h : c ∈ copyR r) => copy_col h
 unfold atR
 generalize copyR r = o at *
 refine no_implicit_lambda% (acalls_of tok dok (f := 157) ⟨Tryz.func157, rfl, by kernel_rfl⟩ ?_); refine no_implicit_lambda% (c_start (fun _ h => h) ?_)
 rcases hN : hasN o s with _ | _
 ·rw [hN] at hf
  repeat' (first | (refine no_implicit_lambda% (zH ?_)) | (refine no_implicit_lambda% (spl (fun hc => ?_) (fun hc => ?_)) <;> first | exact zG hc | skip) | (refine no_implicit_lambda% (ans ?_)) | (with_reducible first | exact zI | exact zJ) | (refine no_implicit_lambda% (cal [] (hcp) ?_ ?_)) | (refine no_implicit_lambda% (cal [] (hf) ?_ ?_)) | fail)
  refine e_ret_to (H' := []) (rest := [(1, .box (vrowV ⟨0, [], 0⟩))]) (Conv.toT (τ := ⟨_, [(1, .box (vrowV ⟨0, [], 0⟩))], _⟩) (.refl _) ?_ (Nat.le_refl _)) rfl ⟨rfl, rfl⟩ (.of_eq rfl) (LE0 rfl)
  unfold vrowV
  exact wkh
 ·rw [hN] at hf
  obtain ⟨c, hc⟩ : ∃ c, o[npos o s]? = some c := by
   unfold hasN at hN
   split at hN
   ·exact ⟨_, by assumption⟩
   ·cases hN
  have hix := cox hc
  have hcl := hcol c (List.mem_of_getElem? hc)
  have hat : (if true = true then o[npos o s]?.bind fun c => atL c.l t else none) = atL c.l t := by rw [if_pos rfl, hc]; rfl
  rw [hat]
  repeat' (first | (refine no_implicit_lambda% (zH ?_)) | (refine no_implicit_lambda% (spl (fun hc => ?_) (fun hc => ?_)) <;> first | exact zG hc | skip) | (refine no_implicit_lambda% (ans ?_)) | (with_reducible first | exact zI | exact zJ) | (refine no_implicit_lambda% (cal [] (hcp) ?_ ?_)) | (refine no_implicit_lambda% (cal [] (hf) ?_ ?_)) | fail)
  refine c_loop' (atSt c.l t) (fun i => i ≤ c.l.length ∧ (c.l.take i).find? (fun x => decide (x.t ≤ t)) = none) (fun i => c.l.length - i) (a := 0) ⟨Nat.zero_le _, rfl⟩ ?_ ?_
  ·(refine no_implicit_lambda% (Conv.toT ?_ ?_ (LE0 rfl))); (focus ((unfold atSt); (try dsimp only); exact wkl)); (focus ((unfold atSt); (try dsimp only); exact wkh))
  ·rintro i ⟨h1, hI⟩
   refine c_turn (n' := 3) (fun _ h => h) (fun _ h => h) rfl ?_
   rcases hx : c.l[i]? with _ | x
   ·have hi : i = c.l.length := by have := List.getElem?_eq_none_iff.1 hx; omega
    rw [hi, List.take_length] at hI
    have e : atL c.l t = none := by unfold atL; rw [hI]; rfl
    rw [e]
    repeat' (first | (refine no_implicit_lambda% (zH ?_)) | (refine no_implicit_lambda% (spl (fun hc => ?_) (fun hc => ?_)) <;> first | exact zG hc | skip) | (refine no_implicit_lambda% (ans ?_)) | (with_reducible first | exact zI | exact zJ))
    refine e_ret_to (H' := []) (rest := [(1, .box (vrowV ⟨0, [], 0⟩))]) (Conv.toT (τ := ⟨_, [(1, .box (vrowV ⟨0, [], 0⟩))], _⟩) (.refl _) ?_ (Nat.le_refl _)) rfl ⟨rfl, rfl⟩ (.of_eq rfl) (LE0 rfl)
    unfold vrowV
    exact wkh
   ·have hi : i < c.l.length := (List.getElem?_eq_some_iff.1 hx).1
    have hiy := vex hx
    have hts : c.l.take (i + 1) = c.l.take i ++ [x] := by rw [List.take_add_one, hx]; rfl
    repeat' (first | (refine no_implicit_lambda% (zH ?_)) | (refine no_implicit_lambda% (spl (fun hc => ?_) (fun hc => ?_)) <;> first | exact zG hc | skip) | (refine no_implicit_lambda% (ans ?_)) | (with_reducible first | exact zI | exact zJ))
    ·have e : atL c.l t = some x.v := by
      unfold atL
      have hsp : c.l = c.l.take i ++ x :: c.l.drop (i + 1) := by
       obtain ⟨hq, rfl⟩ := List.getElem?_eq_some_iff.1 hx
       rw [List.getElem_cons_drop, List.take_append_drop]
      rw [hsp, List.find?_append, hI]
      simp only [Option.none_or, List.find?_cons]
      rw [hc]; rfl
     rw [e]
     exact e_ret (H' := []) (rest := _) rfl ⟨rfl, rfl⟩ (.refl _) (LE0 rfl)
    ·(refine no_implicit_lambda% (k_loopLT (i + 1) 0 [0, 1, 2] (by show i + 1 ≤ c.l.length ∧ (c.l.take (i + 1)).find? (fun x => decide (x.t ≤ t)) = none; exact ⟨hi, by rw [hts, List.find?_append, hI]; simp [of_decide_eq_false hc]⟩) (by first | omega | (simp; done) | (simp; omega)) (LE0 rfl) (fun _ h => h) (fun _ h => h) ?_ ?_)); (focus ((try dsimp only); exact wkl)); (focus ((try dsimp only); exact wkh))
theorem newest_c (r : List Co) (s : ByteArray) (hr : r.length < 70368744177664) (hs : RowSz r) : ACalls Tryz.prog 89 0 6000 [rowA r, .v (.string s)] [] (fun out H' => out = .ret (optA (atR r s 1099511627776)) ∧ H' = []) := by
 have h := at_c r s 1099511627776 hr hs
 generalize atR r s 1099511627776 = q at *
 rcases q with _ | v
 ·have h1 : ACalls Tryz.prog 157 0 5000 [rowA r, .v (.string s), .v (.int .i64 1099511627776)] [] (fun out H' => out = .ret (.tuple [.agg (vrowV ⟨0, [], 0⟩), .v (.bool false)]) ∧ H' = []) := h
  refine no_implicit_lambda% (acalls_of tok dok (f := 89) ⟨Tryz.func89, rfl, by kernel_rfl⟩ ?_); refine no_implicit_lambda% (c_start (fun _ h => h) ?_)
  repeat' (first | (refine no_implicit_lambda% (zH ?_)) | (refine no_implicit_lambda% (spl (fun hc => ?_) (fun hc => ?_)) <;> first | exact zG hc | skip) | (refine no_implicit_lambda% (ans ?_)) | (with_reducible first | exact zI | exact zJ) | (refine no_implicit_lambda% (cal [] (h1) ?_ ?_)) | fail)
  exact e_ret (H' := []) (rest := _) rfl ⟨rfl, rfl⟩ (.refl _) (LE0 rfl)
 ·have h1 : ACalls Tryz.prog 157 0 5000 [rowA r, .v (.string s), .v (.int .i64 1099511627776)] [] (fun out H' => out = .ret (.tuple [.agg (vrowV v), .v (.bool true)]) ∧ H' = []) := h
  refine no_implicit_lambda% (acalls_of tok dok (f := 89) ⟨Tryz.func89, rfl, by kernel_rfl⟩ ?_); refine no_implicit_lambda% (c_start (fun _ h => h) ?_)
  repeat' (first | (refine no_implicit_lambda% (zH ?_)) | (refine no_implicit_lambda% (spl (fun hc => ?_) (fun hc => ?_)) <;> first | exact zG hc | skip) | (refine no_implicit_lambda% (ans ?_)) | (with_reducible first | exact zI | exact zJ) | (refine no_implicit_lambda% (cal [] (h1) ?_ ?_)) | fail)
  exact e_ret (H' := []) (rest := _) rfl ⟨rfl, rfl⟩ (.refl _) (LE0 rfl)
end Go.Proofs.YtncffhgoopdfgaaGreat
namespace Go.Proofs.YtncffhgoopdfgaaGreat
open Go.Am
set_option maxRecDepth 100000
theorem ordV_refl (v : Va) : ordV v v = 0 := ord0_refl _
def rfSt (r : List Co) (i : Nat) : ASt := ⟨([.dead, .dead, .ptr 0 0, .ptr 1 0, .dead, .v (.int .i64 i)] ++ List.replicate 101 .dead), [(0, .box [.list (r.map corow) .free]), (1, .box [.list (r.map corow) .free])], 2⟩
def rgSt (r : List Co) (i k : Nat) : ASt := ⟨([.dead, .dead, .ptr 0 0, .ptr 1 0, .dead, .v (.int .i64 i), .v (.int .i64 k)] ++ List.replicate 100 .dead), [(0, .box [.list (r.map corow) .free]), (1, .box [.list (r.map corow) .free])], 2⟩
theorem refsame_v (v : Va) (hn : v.n < 18446744073709551616) : ACalls Tryz.prog 87 0 0 [vav v, vav v] [] (fun out H' => out = .ret (.v (.bool true)) ∧ H' = []) := by
 have h := refSame_c v v hn hn
 rw [ordV_refl] at h
 exact h.top0
set_option maxHeartbeats 3200000 in
theorem refsame_r (r : List Co) (hr : r.length < 1000000) (hl : ∀ c ∈ r, c.l.length < 1000000) (hs : ∀ c ∈ r, ∀ x ∈ c.l, x.v.n < 18446744073709551616) : ACalls Tryz.prog 69 0 0 [rowA r, rowA r] [] (fun out H' => out = .ret (.v (.bool true)) ∧ H' = []) := by
 refine ACalls.top0 (top := 400) ?_
 refine no_implicit_lambda% (acalls_of tok dok (f := 69) ⟨Tryz.func69, rfl, by kernel_rfl⟩ ?_); refine no_implicit_lambda% (c_start (fun _ h => h) ?_)
 repeat' (first | (refine no_implicit_lambda% (zH ?_)) | (refine no_implicit_lambda% (spl (fun hc => ?_) (fun hc => ?_)) <;> first | exact zG hc | skip) | (refine no_implicit_lambda% (ans ?_)) | (with_reducible first | exact zI | exact zJ))
 refine c_loop' (rfSt r) (fun i => i ≤ r.length) (fun i => r.length - i) (a := 0) (Nat.zero_le _) ?_ ?_
 ·(refine no_implicit_lambda% (Conv.toT ?_ ?_ (LE0 rfl))); (focus ((unfold rfSt); (try dsimp only); exact wkl)); (focus ((unfold rfSt); (try dsimp only); exact wkh))
 ·rintro i i1
  refine c_turn (n' := 2) (fun _ h => h) (fun _ h => h) rfl ?_
  rcases hx : r[i]? with _ | x
  ·have hi : i = r.length := by have := List.getElem?_eq_none_iff.1 hx; omega
   repeat' (first | (refine no_implicit_lambda% (zH ?_)) | (refine no_implicit_lambda% (spl (fun hc => ?_) (fun hc => ?_)) <;> first | exact zG hc | skip) | (refine no_implicit_lambda% (ans ?_)) | (with_reducible first | exact zI | exact zJ))
   exact e_ret (H' := []) (rest := _) rfl ⟨rfl, rfl⟩ permT (LE0 rfl)
  ·have hi : i < r.length := (List.getElem?_eq_some_iff.1 hx).1
   have hix := cox hx
   have hlx := hl x (List.mem_of_getElem? hx)
   have hsx := hs x (List.mem_of_getElem? hx)
   repeat' (first | (refine no_implicit_lambda% (zH ?_)) | (refine no_implicit_lambda% (splv (fun hc => ?_) (fun hc => ?_)) <;> first | exact zG hc | skip) | (refine no_implicit_lambda% (ans ?_)) | (with_reducible first | exact zI | exact zJ))
   ·exfalso; simp at hc
   refine c_loop' (rgSt r i) (fun k => k ≤ x.l.length) (fun k => x.l.length - k) (a := 0) (Nat.zero_le _) ?_ ?_
   ·(refine no_implicit_lambda% (Conv.toT ?_ ?_ (LE0 rfl))); (focus ((unfold rgSt); (try dsimp only); exact wkl)); (focus ((unfold rgSt); (try dsimp only); exact wkh))
   ·rintro k k1
    refine c_turn (n' := 2) (fun _ h => h) (fun _ h => h) rfl ?_
    rcases hy : x.l[k]? with _ | y
    ·have hk : k = x.l.length := by have := List.getElem?_eq_none_iff.1 hy; omega
     repeat' (first | (refine no_implicit_lambda% (zH ?_)) | (refine no_implicit_lambda% (spl (fun hc => ?_) (fun hc => ?_)) <;> first | exact zG hc | skip) | (refine no_implicit_lambda% (ans ?_)) | (with_reducible first | exact zI | exact zJ))
     (refine no_implicit_lambda% (k_loopLT (i + 1) 0 [0, 1] (by show i + 1 ≤ r.length; exact hi) (by first | omega | (simp; done) | (simp; omega)) (LE0 rfl) (fun _ h => h) (fun _ h => h) ?_ ?_)); (focus ((try dsimp only); exact wkl)); (focus ((try dsimp only); exact wkh))
    ·have hk : k < x.l.length := (List.getElem?_eq_some_iff.1 hy).1
     have hiy := vex hy
     have he := refsame_v y.v (hsx y (List.mem_of_getElem? hy))
     repeat' (first | (refine no_implicit_lambda% (zH ?_)) | (refine no_implicit_lambda% (splv (fun hc => ?_) (fun hc => ?_)) <;> first | exact zG hc | skip) | (refine no_implicit_lambda% (ans ?_)) | (with_reducible first | exact zI | exact zJ) | (refine no_implicit_lambda% (cal [] (he) ?_ ?_)) | fail)
     (refine no_implicit_lambda% (k_loopLT (k + 1) 0 [0, 1] (by show k + 1 ≤ x.l.length; exact hk) (by first | omega | (simp; done) | (simp; omega)) (LE0 rfl) (fun _ h => h) (fun _ h => h) ?_ ?_)); (focus ((try dsimp only); exact wkl)); (focus ((try dsimp only); exact wkh))
end Go.Proofs.YtncffhgoopdfgaaGreat
