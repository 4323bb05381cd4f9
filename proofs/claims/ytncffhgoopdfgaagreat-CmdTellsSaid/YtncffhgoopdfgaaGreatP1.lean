/- Part 1 of what the laws CmdTells rest on: AmA, AmB, AmC, AmD, AmE, AmF. -/
import Derived.Test.YtncffhgoopdfgaaGreatChecked
import Derived.ProofKit
import Derived.Below
import Derived.WalkLawsBesides
import Derived.WalkSpells
import Derived.Laws.Cells
set_option linter.unusedSimpArgs false
set_option linter.unusedVariables false
namespace Go.Am
theorem LE0 {a b : Nat} (h : Nat.ble a b = true) : a ≤ b := Nat.le_of_ble_eq_true h
end Go.Am
namespace Go.Am
open Go.RowKit
inductive Own where
 | free
 | full
 | lit
 | tok (k : Nat)
 deriving Inhabited
inductive AV where
 | v (x : Value)
 | list (rows : List (List AV)) (o : Own)
 | agg (l : List AV)
 | tuple (l : List AV)
 | ptr (id off : Nat)
 | arr (id off n c : Nat)
 | cref (cells : List AV)
 | fn (f : FuncId) (cap : List AV)
 | bnd (f : FuncId) (fst : List AV)
 | iface (t : TypeId) (x : AV)
 | dead
instance : Inhabited AV := ⟨.dead⟩
structure Tok where
 s : Nat
 n : Nat
 val : Value
 spare : Option (Nat × Nat × Nat)
structure Ghost where
 X : Nat → Nat → Option Value
 loc : Nat → Nat
 tk : Nat → Tok
 live : Nat → Prop
 lits : Nat → Prop
 base : Nat
inductive SimD (X : Nat → Nat → Option Value) : AV → Value → Prop
 | v (x : Value) : SimD X (.v x) x
 | dead (x : Value) : SimD X .dead x
 | nil (o : Own) (a : Option Addr) (c : Nat) (hc : c ≤ maxLen) (ho : o = .full → c = 0) (hs : o = .free ∨ o = .full) : SimD X (.list [] o) (.slice a 0 c)
 | list (rows : List (List AV)) (o : Own) (b off c s : Nat) (y : Nat → Nat → Value) (hn : rows.length ≤ c) (hc : c ≤ maxLen) (ho : o = .full → c = rows.length) (hs : o = .free ∨ o = .full)
   (hr : ∀ row ∈ rows, row.length = s) (hX : ∀ i row j a, rows[i]? = some row → row[j]? = some a → X b (off + i * s + j) = some (y i j))
   (hS : ∀ i row j a, rows[i]? = some row → row[j]? = some a → SimD X a (y i j))
   (h1 : ∀ i row j a, rows[i]? = some row → row[j]? = some a → (y i j).oneCell' = true) : SimD X (.list rows o) (.slice (some ⟨b, off, none⟩) rows.length c)
 | cref (cells : List AV) (b off : Nat) (y : Nat → Value) (hX : ∀ j a, cells[j]? = some a → X b (off + j) = some (y j)) (hS : ∀ j a, cells[j]? = some a → SimD X a (y j))
   (h1 : ∀ j a, cells[j]? = some a → (y j).oneCell' = true) : SimD X (.cref cells) (.pointer (some ⟨b, off, none⟩))
inductive Sim (G : Ghost) : AV → Value → Prop
 | data (a : AV) (x : Value) (h : SimD G.X a x) : Sim G a x
 | tok (rows : List (List AV)) (k : Nat) (x : Value) (hk : G.live k) (h : SimD G.X (.list rows .free) x) (hl : rows.length ≤ (G.tk k).n) (hz : ∀ row ∈ rows, row.length = (G.tk k).s) (he : rows.length = (G.tk k).n → x = (G.tk k).val) : Sim G (.list rows (.tok k)) x
 | ptr (id off : Nat) (hk : G.live id) : Sim G (.ptr id off) (.pointer (some ⟨G.loc id, off, none⟩))
 | arr (id off n c : Nat) (base : Option Addr) (hk : G.live id) (hn : n ≤ c) (hc : c ≤ maxLen) (hb : c ≠ 0 → base = some ⟨G.loc id, off, none⟩) : Sim G (.arr id off n c) (.slice base n c)
 | fn (f : FuncId) (cap : List AV) (vs : Array Value) (hl : cap.length = vs.size) (h : ∀ i a, cap[i]? = some a → Sim G a (vs.getD i undef)) : Sim G (.fn f cap) (.func (.func f) #[] vs)
 | bnd (f : FuncId) (cap : List AV) (vs : Array Value) (hl : cap.length = vs.size) (h : ∀ i a, cap[i]? = some a → Sim G a (vs.getD i undef)) : Sim G (.bnd f cap) (.func (.func f) vs #[])
 | agg (l : List AV) (vs : Array Value) (hl : l.length = vs.size) (h : ∀ i a, l[i]? = some a → Sim G a (vs.getD i undef)) : Sim G (.agg l) (.agg vs)
 | tuple (l : List AV) (vs : Array Value) (hl : l.length = vs.size) (h : ∀ i a, l[i]? = some a → Sim G a (vs.getD i undef)) : Sim G (.tuple l) (.tuple vs)
 | iface (t : TypeId) (a : AV) (x : Value) (h : Sim G a x) : Sim G (.iface t a) (.iface t x)
theorem SimD.mono {X X' : Nat → Nat → Option Value} (hX : ∀ b i v, X b i = some v → X' b i = some v) {a : AV} {x : Value} (h : SimD X a x) : SimD X' a x := by
 induction h with
 | v x => exact .v x
 | dead x => exact .dead x
 | nil o a c hc ho hs => exact .nil o a c hc ho hs
 | list rows o b off c s y hn hc ho hs hr hx _ h1 ih => exact .list rows o b off c s y hn hc ho hs hr (fun i row j a h1 h2 => hX _ _ _ (hx i row j a h1 h2)) ih h1
 | cref cells b off y hx _ h1 ih => exact .cref cells b off y (fun j a h => hX _ _ _ (hx j a h)) ih h1
inductive Res where
 | box (cells : List AV)
 | tok (s n : Nat)
 | seq (rows : List (List AV)) (k : Nat)
 deriving Inhabited
def AV.pure : AV → Bool
 | .v _ => true
 | .dead => true
 | .cref _ => true
 | .list _ .free => true
 | .list _ .full => true
 | _ => false
def seqC (rows : List (List AV)) (k : Nat) : List AV := rows.flatten ++ List.replicate k .dead
theorem seqC_ne {rows : List (List AV)} {k i : Nat} {a : AV} (h : (seqC rows k)[i]? = some a) : rows.length + k ≠ 0 := fun e => by
 have h1 : rows = [] := List.eq_nil_of_length_eq_zero (by omega)
 have h2 : k = 0 := by omega
 subst h1; subst h2
 simp [seqC] at h
abbrev Heap := List (Nat × Res)
def Ghost.placed (G : Ghost) : Nat × Res → Option Nat
 | (id, .box _) => some (G.loc id)
 | (id, .tok _ _) => (G.tk id).spare.map (·.1)
 | (id, .seq rows k) => if rows.length + k = 0 then none else some (G.loc id)
def blocksOf (G : Ghost) (H : Heap) : List Nat := H.filterMap G.placed
def BoxHolds (G : Ghost) (w : World) (id : Nat) (cells : List AV) : Prop :=
 (∀ i, G.X (G.loc id) i = none) ∧ ∃ arr E fr, w.heap[G.loc id]? = some (.cells arr E fr) ∧ cells.length ≤ arr.size ∧ (∀ i, w.frozen? ⟨G.loc id, i, none⟩ = false) ∧
   ∀ i a, cells[i]? = some a → Sim G a (arr.getD i undef)
def ResHolds (G : Ghost) (w : World) : Nat × Res → Prop
 | (id, .box cells) => BoxHolds G w id cells
 | (id, .seq rows k) => rows.length + k ≠ 0 → BoxHolds G w id (seqC rows k) ∧ ∀ a ∈ rows.flatten, a.pure = true
 | (id, .tok s n) => (G.tk id).s = s ∧ (G.tk id).n = n ∧ match (G.tk id).spare with
   | none => ∃ base, (G.tk id).val = .slice base n n ∧ n ≤ maxLen
   | some (b, off, cap) => (G.tk id).val = .slice (some ⟨b, off, none⟩) n cap ∧ n ≤ cap ∧ cap ≤ maxLen ∧
     (∃ arr E fr, w.heap[b]? = some (.cells arr E fr) ∧ off + cap * s ≤ arr.size ∧ ∀ i, i < arr.size → w.frozen? ⟨b, i, none⟩ = false) ∧ ∀ i, off + n * s ≤ i → G.X b i = none
structure Holds (G : Ghost) (w : World) (H : Heap) : Prop where
 X : ∀ b i v, G.X b i = some v → w.cell? ⟨b, i, none⟩ = some v
 res : ∀ r ∈ H, ResHolds G w r
 ids : (H.map (·.1)).Nodup
 live : ∀ r ∈ H, G.live r.1
 blocks : (blocksOf G H).Nodup
 lits : ∀ b, G.lits b → G.base ≤ b ∧ b < w.heap.size ∧ b ∉ blocksOf G H
def Alike (w w' : World) (b : Nat) : Prop := w'.heap[b]? = w.heap[b]? ∨ ∃ arr E fr fr', w.heap[b]? = some (.cells arr E fr) ∧ w'.heap[b]? = some (.cells arr E fr')
theorem frozen_of_block {w w' : World} {b : Nat} (h : w'.heap[b]? = w.heap[b]?) (i : Nat) : w'.frozen? ⟨b, i, none⟩ = w.frozen? ⟨b, i, none⟩ := by simp [World.frozen?, h]
theorem Alike.trans {w w' w'' : World} {b : Nat} (h : Alike w w' b) (k : Alike w' w'' b) : Alike w w'' b := by
 rcases h with h | ⟨arr, E, fr, fr', h1, h2⟩
 ·rcases k with k | ⟨arr, E, fr, fr', k1, k2⟩
  ·exact .inl (k.trans h)
  ·exact .inr ⟨arr, E, fr, fr', by rw [← h]; exact k1, k2⟩
 ·rcases k with k | ⟨arr', E', fr1, fr2, k1, k2⟩
  ·exact .inr ⟨arr, E, fr, fr', h1, by rw [k]; exact h2⟩
  ·rw [h2] at k1
   simp only [Option.some.injEq, Obj.cells.injEq] at k1
   obtain ⟨rfl, rfl, rfl⟩ := k1
   exact .inr ⟨arr, E, fr, fr2, h1, k2⟩
theorem Alike.cell {w w' : World} {b i : Nat} {v : Value} (h : Alike w w' b) (hc : w.cell? ⟨b, i, none⟩ = some v) : w'.cell? ⟨b, i, none⟩ = some v := by
 rcases h with h | ⟨arr, E, fr, fr', h1, h2⟩
 ·simp only [World.cell?, h] at hc ⊢; exact hc
 ·simp only [World.cell?, h1] at hc
  simp only [World.cell?, h2]; exact hc
structure Step (G : Ghost) (w : World) (H : Heap) (G' : Ghost) (w' : World) (H' : Heap) : Prop where
 os : w'.os = w.os
 tape : w'.tape = w.tape
 output : w'.output = w.output
 size : w.heap.size ≤ w'.heap.size
 base : G'.base = G.base
 X : ∀ b i v, G.X b i = some v → G'.X b i = some v
 frame : ∀ b, b < w.heap.size → b ∉ blocksOf G H → Alike w w' b ∧ (¬ G.lits b → w'.heap[b]? = w.heap[b]?)
 newX : ∀ b i v, G'.X b i = some v → G.X b i = some v ∨ w.heap.size ≤ b ∨ b ∈ blocksOf G H
 newB : ∀ b ∈ blocksOf G' H', b ∈ blocksOf G H ∨ w.heap.size ≤ b
 live : ∀ id, G.live id → G'.live id ∧ G'.loc id = G.loc id ∧ ((G'.tk id = G.tk id) ∨ (id ∈ H.map (·.1) ∧ (G.tk id).n < (G'.tk id).n ∧ (G'.tk id).s = (G.tk id).s))
 newI : ∀ id ∈ H'.map (·.1), id ∈ H.map (·.1) ∨ ¬ G.live id
 lits : ∀ b, G.lits b → G'.lits b
 newL : ∀ b, G'.lits b → G.lits b ∨ w.heap.size ≤ b
theorem Step.refl (G : Ghost) (w : World) (H : Heap) : Step G w H G w H :=
 ⟨rfl, rfl, rfl, Nat.le_refl _, rfl, fun _ _ _ h => h, fun _ _ _ => ⟨.inl rfl, fun _ => rfl⟩, fun _ _ _ h => .inl h, fun _ h => .inl h, fun _ h => ⟨h, rfl, .inl rfl⟩, fun _ h => .inl h, fun _ h => h, fun _ h => .inl h⟩
theorem Step.trans {G G' G'' : Ghost} {w w' w'' : World} {H H' H'' : Heap} (h : Step G w H G' w' H') (k : Step G' w' H' G'' w'' H'') : Step G w H G'' w'' H'' where
 os := k.os.trans h.os
 tape := k.tape.trans h.tape
 output := k.output.trans h.output
 size := Nat.le_trans h.size k.size
 base := k.base.trans h.base
 X := fun b i v hx => k.X b i v (h.X b i v hx)
 frame := fun b hb hn => by
  have : b ∉ blocksOf G' H' := fun hm => by
   rcases h.newB b hm with h1 | h1
   ·exact hn h1
   ·omega
  obtain ⟨k1, k2⟩ := k.frame b (Nat.lt_of_lt_of_le hb h.size) this
  obtain ⟨h1, h2⟩ := h.frame b hb hn
  refine ⟨h1.trans k1, fun hlt => ?_⟩
  rw [k2 fun hl => ?_, h2 hlt]
  rcases h.newL b hl with hl | hl
  ·exact hlt hl
  ·omega
 newX := fun b i v hx => by
  rcases k.newX b i v hx with h1 | h1 | h1
  ·exact h.newX b i v h1
  ·exact .inr (.inl (Nat.le_trans h.size h1))
  ·rcases h.newB b h1 with h2 | h2
   ·exact .inr (.inr h2)
   ·exact .inr (.inl h2)
 newB := fun b hb => by
  rcases k.newB b hb with h1 | h1
  ·exact h.newB b h1
  ·exact .inr (Nat.le_trans h.size h1)
 live := fun id hid => by
  obtain ⟨a1, a2, a3⟩ := h.live id hid
  obtain ⟨b1, b2, b3⟩ := k.live id a1
  refine ⟨b1, b2.trans a2, ?_⟩
  rcases a3 with a3 | a3 <;> rcases b3 with b3 | b3
  ·exact .inl (b3.trans a3)
  ·rw [a3] at b3
   exact .inr ⟨(h.newI id b3.1).resolve_right (fun hn => hn hid), b3.2⟩
  ·rw [b3]; exact .inr a3
  ·exact .inr ⟨a3.1, Nat.lt_trans a3.2.1 b3.2.1, b3.2.2.trans a3.2.2⟩
 newI := fun id hid => by
  rcases k.newI id hid with h1 | h1
  ·exact h.newI id h1
  ·exact .inr fun hl => h1 (h.live id hl).1
 lits := fun b hb => k.lits b (h.lits b hb)
 newL := fun b hb => by
  rcases k.newL b hb with h1 | h1
  ·exact h.newL b h1
  ·exact .inr (Nat.le_trans h.size h1)
theorem Step.below {G G' : Ghost} {w w' : World} {H H' : Heap} (h : Step G w H G' w' H') (hb : ∀ b, ¬ G.lits b) (hH : blocksOf G H = []) : Below w.heap.size w w' :=
 ⟨h.os, h.tape, h.output, h.size, fun k hk => (h.frame k hk (by simp [hH])).2 (hb k)⟩
theorem ResHolds.lt {G : Ghost} {w : World} {r : Nat × Res} {b : Nat} (h : ResHolds G w r) (hb : G.placed r = some b) : b < w.heap.size := by
 obtain ⟨id, r⟩ := r
 cases r with
 | box cells =>
  obtain ⟨_, arr, E, fr, hh, _⟩ := h
  simp only [Ghost.placed, Option.some.injEq] at hb
  subst hb
  exact (Array.getElem?_eq_some_iff.1 hh).1
 | seq rows k =>
  simp only [Ghost.placed] at hb
  split at hb
  ·cases hb
  ·rename_i hne
   obtain ⟨⟨_, arr, E, fr, hh, _⟩, _⟩ := h hne
   simp only [Option.some.injEq] at hb
   subst hb
   exact (Array.getElem?_eq_some_iff.1 hh).1
 | tok s n =>
  obtain ⟨_, _, h⟩ := h
  simp only [Ghost.placed, Option.map_eq_some_iff] at hb
  obtain ⟨⟨b', off, cap⟩, hb, rfl⟩ := hb
  rw [hb] at h
  obtain ⟨_, _, _, ⟨arr, E, fr, hh, _⟩, _⟩ := h
  exact (Array.getElem?_eq_some_iff.1 hh).1
theorem Holds.lt {G : Ghost} {w : World} {H : Heap} (h : Holds G w H) {b : Nat} (hb : b ∈ blocksOf G H) : b < w.heap.size := by
 obtain ⟨r, hr, hp⟩ := List.mem_filterMap.1 hb
 exact (h.res r hr).lt hp
theorem Sim.mono {G G' : Ghost} (hX : ∀ b i v, G.X b i = some v → G'.X b i = some v)
  (hl : ∀ id, G.live id → G'.live id ∧ G'.loc id = G.loc id ∧ ((G'.tk id = G.tk id) ∨ ((G.tk id).n < (G'.tk id).n ∧ (G'.tk id).s = (G.tk id).s))) {a : AV} {x : Value} (h : Sim G a x) : Sim G' a x := by
 induction h with
 | data a x h => exact .data a x (h.mono hX)
 | tok rows k x hk h hle hz he =>
  obtain ⟨h1, _, h2⟩ := hl k hk
  rcases h2 with h2 | ⟨h2, h3⟩
  ·exact .tok rows k x h1 (h.mono hX) (by rw [h2]; exact hle) (by rw [h2]; exact hz) (by rw [h2]; exact he)
  ·exact .tok rows k x h1 (h.mono hX) (by omega) (by rw [h3]; exact hz) (by omega)
 | ptr id off hk =>
  obtain ⟨h1, h2, _⟩ := hl id hk
  rw [← h2]; exact .ptr id off h1
 | arr id off n c base hk hn hc hb =>
  obtain ⟨h1, h2, _⟩ := hl id hk
  exact .arr id off n c base h1 hn hc (by rw [h2]; exact hb)
 | fn f cap vs hl' h ih => exact .fn f cap vs hl' ih
 | bnd f cap vs hl' h ih => exact .bnd f cap vs hl' ih
 | agg l vs hl' h ih => exact .agg l vs hl' ih
 | tuple l vs hl' h ih => exact .tuple l vs hl' ih
 | iface t a x h ih => exact .iface t a x ih
theorem Step.sim {G G' : Ghost} {w w' : World} {H H' : Heap} (h : Step G w H G' w' H') {a : AV} {x : Value} (hs : Sim G a x) : Sim G' a x := hs.mono h.X fun id hid => let ⟨a, b, c⟩ := h.live id hid; ⟨a, b, c.imp (fun h => h) And.right⟩
def Slot (G : Ghost) (a : AV) (x : Value) : Prop :=
 match a with
 | .list rows .lit => Sim G (.list rows .full) x ∧ ∃ b off, x = .slice (some ⟨b, off, none⟩) rows.length rows.length ∧ G.lits b
 | a => Sim G a x
def AV.down : AV → AV
 | .list rows .lit => .list rows .full
 | a => a
theorem Slot.down {G : Ghost} {a : AV} {x : Value} (h : Slot G a x) : Sim G a.down x := by
 unfold Slot at h; unfold AV.down
 split <;> split at h <;> simp_all
theorem Slot.mono {G G' : Ghost} (hb : ∀ b, G.lits b → G'.lits b) (hm : ∀ a x, Sim G a x → Sim G' a x) {a : AV} {x : Value} (h : Slot G a x) : Slot G' a x := by
 unfold Slot at *
 split
 ·simp only at h
  obtain ⟨h1, b, off, h2, h3⟩ := h
  exact ⟨hm _ _ h1, b, off, h2, hb _ h3⟩
 ·split at h
  ·rename_i h0; exact absurd rfl (h0 _)
  ·exact hm _ _ h
theorem Slot.of {G : Ghost} {a : AV} {x : Value} (h : Sim G a x) : Slot G a x := by
 unfold Slot; split
 ·cases h with
  | data _ _ h =>
   cases h with
   | nil _ _ _ _ _ hs => rcases hs with h | h <;> cases h
   | list _ _ _ _ _ _ _ _ _ _ hs _ _ _ _ => rcases hs with h | h <;> cases h
 ·exact h
theorem blocksOf_append (G : Ghost) (H R : Heap) : blocksOf G (H ++ R) = blocksOf G H ++ blocksOf G R := by simp [blocksOf]
theorem placed_same {G G' : Ghost} {r : Nat × Res} (hl : G'.loc r.1 = G.loc r.1) (ht : G'.tk r.1 = G.tk r.1) : G'.placed r = G.placed r := by
 obtain ⟨id, r⟩ := r
 cases r <;> simp_all [Ghost.placed]
theorem ResHolds.keep {G G' : Ghost} {w w' : World} {r : Nat × Res} (h : ResHolds G w r) (hl : G'.loc r.1 = G.loc r.1) (ht : G'.tk r.1 = G.tk r.1)
  (hs : ∀ a x, Sim G a x → Sim G' a x) (hb : ∀ b, G.placed r = some b → w'.heap[b]? = w.heap[b]? ∧ ∀ i v, G'.X b i = some v → G.X b i = some v) : ResHolds G' w' r := by
 obtain ⟨id, r⟩ := r
 have hnone : ∀ b, G.placed (id, r) = some b → ∀ i, G.X b i = none → G'.X b i = none := fun b h1 i h2 => by
  cases h3 : G'.X b i with
  | none => rfl
  | some v => rw [(hb b h1).2 i v h3] at h2; cases h2
 cases r with
 | box cells =>
  obtain ⟨h0, arr, E, fr, hh, hsz, hf, hc⟩ := h
  simp only at hl ht
  obtain ⟨k1, k2⟩ := hb _ rfl
  refine ⟨fun i => by rw [hl]; exact hnone _ rfl i (h0 i), arr, E, fr, by rw [hl, k1]; exact hh, hsz, fun i => by rw [hl, frozen_of_block k1]; exact hf i, fun i a ha => hs _ _ (hc i a ha)⟩
 | seq rows k =>
  intro hne
  obtain ⟨⟨h0, arr, E, fr, hh, hsz, hf, hc⟩, hp⟩ := h hne
  simp only at hl ht
  have hpl : G.placed (id, .seq rows k) = some (G.loc id) := if_neg hne
  obtain ⟨k1, k2⟩ := hb _ hpl
  refine ⟨⟨fun i => by rw [hl]; exact hnone _ hpl i (h0 i), arr, E, fr, by rw [hl, k1]; exact hh, hsz, fun i => by rw [hl, frozen_of_block k1]; exact hf i, fun i a ha => hs _ _ (hc i a ha)⟩, hp⟩
 | tok s n =>
  obtain ⟨hs0, h0, h3⟩ := h
  simp only at hl ht
  refine ⟨by rw [ht]; exact hs0, by rw [ht]; exact h0, ?_⟩
  rw [ht]
  cases hbase : (G.tk id).spare with
  | none => rw [hbase] at h3; exact h3
  | some p =>
   obtain ⟨b, off, cap⟩ := p
   rw [hbase] at h3
   obtain ⟨hv, h1, h2, ⟨arr, E, fr, hh, hsz, hf⟩, hx⟩ := h3
   have hp : G.placed (id, .tok s n) = some b := by simp [Ghost.placed, hbase]
   obtain ⟨k1, k2⟩ := hb b hp
   exact ⟨hv, h1, h2, ⟨arr, E, fr, by rw [k1]; exact hh, hsz, fun i hi => by rw [frozen_of_block k1]; exact hf i hi⟩, fun i hi => hnone b hp i (hx i hi)⟩
theorem nodup_app {α : Type} {l r : List α} (h : (l ++ r).Nodup) : l.Nodup ∧ r.Nodup ∧ ∀ a ∈ l, a ∉ r := by
 rw [List.nodup_append] at h
 exact ⟨h.1, h.2.1, fun a ha hr => h.2.2 a ha a hr rfl⟩
theorem Holds.left {G : Ghost} {w : World} {H R : Heap} (h : Holds G w (H ++ R)) : Holds G w H where
 X := h.X
 res := fun r hr => h.res r (List.mem_append_left _ hr)
 ids := (nodup_app (by simpa using h.ids)).1
 live := fun r hr => h.live r (List.mem_append_left _ hr)
 blocks := (nodup_app (by simpa [blocksOf_append] using h.blocks)).1
 lits := fun b hb => let ⟨k1, k2, k3⟩ := h.lits b hb; ⟨k1, k2, fun hm => k3 (by rw [blocksOf_append]; exact List.mem_append_left _ hm)⟩
theorem filterMap_same {α β : Type} {f g : α → Option β} : ∀ {l : List α}, (∀ a ∈ l, f a = g a) → l.filterMap f = l.filterMap g
 | [], _ => rfl
 | a :: l, h => by
  have h1 := h a (by simp)
  have h2 := filterMap_same (l := l) fun b hb => h b (List.mem_cons_of_mem _ hb)
  simp [List.filterMap_cons, h1, h2]
theorem Holds.beside {G G' : Ghost} {w w' : World} {H H' R : Heap} (h : Holds G w (H ++ R)) (h' : Holds G' w' H') (st : Step G w H G' w' H') :
  Holds G' w' (H' ++ R) ∧ Step G w (H ++ R) G' w' (H' ++ R) := by
 obtain ⟨i1, i2, i3⟩ := nodup_app (show ((H.map (·.1)) ++ (R.map (·.1))).Nodup by simpa using h.ids)
 obtain ⟨b1, b2, b3⟩ := nodup_app (show (blocksOf G H ++ blocksOf G R).Nodup by simpa [blocksOf_append] using h.blocks)
 have hRlive : ∀ r ∈ R, G.live r.1 := fun r hr => h.live r (List.mem_append_right _ hr)
 have hR : ∀ r ∈ R, G'.loc r.1 = G.loc r.1 ∧ G'.tk r.1 = G.tk r.1 := fun r hr => by
  obtain ⟨_, k2, k3⟩ := st.live r.1 (hRlive r hr)
  refine ⟨k2, k3.resolve_right fun hk => i3 _ hk.1 (List.mem_map_of_mem hr)⟩
 have hRb : blocksOf G' R = blocksOf G R := filterMap_same fun r hr => placed_same (hR r hr).1 (hR r hr).2
 have hbl : ∀ b ∈ blocksOf G R, b < w.heap.size ∧ b ∉ blocksOf G H := fun b hb => by
  refine ⟨h.lt (by rw [blocksOf_append]; exact List.mem_append_right _ hb), fun hm => b3 b hm hb⟩
 refine ⟨⟨h'.X, fun r hr => ?_, ?_, fun r hr => ?_, ?_, fun b hb => ?_⟩, ⟨st.os, st.tape, st.output, st.size, st.base, st.X, fun b hb hn => ?_, fun b i v hx => ?_, fun b hb => ?_, fun id hid => ?_, fun id hid => ?_, st.lits, st.newL⟩⟩
 ·rcases List.mem_append.1 hr with hr | hr
  ·exact h'.res r hr
  ·refine (h.res r (List.mem_append_right _ hr)).keep (hR r hr).1 (hR r hr).2 (fun a x => st.sim) fun b hb => ?_
   obtain ⟨k1, k2⟩ := hbl b (List.mem_filterMap.2 ⟨r, hr, hb⟩)
   refine ⟨(st.frame b k1 k2).2 (fun hl => (h.lits b hl).2.2 (by rw [blocksOf_append]; exact List.mem_append_right _ (List.mem_filterMap.2 ⟨r, hr, hb⟩))), fun i v hx => ?_⟩
   rcases st.newX b i v hx with k3 | k3 | k3
   ·exact k3
   ·omega
   ·exact absurd k3 k2
 ·rw [List.map_append, List.nodup_append]
  refine ⟨h'.ids, i2, fun a ha b hb hab => ?_⟩
  subst hab
  rcases st.newI a ha with k | k
  ·exact i3 a k hb
  ·obtain ⟨r, hr, rfl⟩ := List.mem_map.1 hb
   exact k (hRlive r hr)
 ·rcases List.mem_append.1 hr with hr | hr
  ·exact h'.live r hr
  ·exact (st.live r.1 (hRlive r hr)).1
 ·rw [blocksOf_append, List.nodup_append, hRb]
  refine ⟨h'.blocks, b2, fun a ha b hb hab => ?_⟩
  subst hab
  obtain ⟨k1, k2⟩ := hbl a hb
  rcases st.newB a ha with k | k
  ·exact k2 k
  ·omega
 ·obtain ⟨k1, k2, k3⟩ := h'.lits b hb
  refine ⟨k1, k2, ?_⟩
  rw [blocksOf_append, List.mem_append]
  rintro (hm | hm)
  ·exact k3 hm
  ·rw [hRb] at hm
   rcases st.newL b hb with hl | hl
   ·exact (h.lits b hl).2.2 (by rw [blocksOf_append]; exact List.mem_append_right _ hm)
   ·have := (hbl b hm).1; omega
 ·exact st.frame b hb fun hm => hn (by rw [blocksOf_append]; exact List.mem_append_left _ hm)
 ·rcases st.newX b i v hx with k | k | k
  ·exact .inl k
  ·exact .inr (.inl k)
  ·exact .inr (.inr (by rw [blocksOf_append]; exact List.mem_append_left _ k))
 ·rw [blocksOf_append] at *
  rcases List.mem_append.1 hb with hb | hb
  ·exact (st.newB b hb).imp (List.mem_append_left _) id
  ·rw [hRb] at hb; exact .inl (List.mem_append_right _ hb)
 ·obtain ⟨k1, k2, k3⟩ := st.live id hid
  exact ⟨k1, k2, k3.imp_right fun k => ⟨by rw [List.map_append]; exact List.mem_append_left _ k.1, k.2⟩⟩
 ·rw [List.map_append] at *
  rcases List.mem_append.1 hid with hid | hid
  ·exact (st.newI id hid).imp_left (List.mem_append_left _)
  ·exact .inl (List.mem_append_right _ hid)
theorem Holds.perm {G : Ghost} {w : World} {H H' : Heap} (h : Holds G w H) (hp : H.Perm H') : Holds G w H' where
 X := h.X
 res := fun r hr => h.res r (hp.mem_iff.2 hr)
 ids := (hp.map _).nodup_iff.1 h.ids
 live := fun r hr => h.live r (hp.mem_iff.2 hr)
 blocks := (hp.filterMap _).nodup_iff.1 h.blocks
 lits := fun b hb => let ⟨k1, k2, k3⟩ := h.lits b hb; ⟨k1, k2, fun hm => k3 ((hp.filterMap _).mem_iff.2 hm)⟩
theorem Step.perm {G G' : Ghost} {w w' : World} {H H' K K' : Heap} (h : Step G w H G' w' H') (hp : H.Perm K) (hp' : H'.Perm K') : Step G w K G' w' K' where
 os := h.os
 tape := h.tape
 output := h.output
 size := h.size
 base := h.base
 X := h.X
 frame := fun b hb hn => h.frame b hb fun hm => hn ((hp.filterMap _).mem_iff.1 hm)
 newX := fun b i v hx => (h.newX b i v hx).imp_right fun k => k.imp_right fun k => (hp.filterMap _).mem_iff.1 k
 newB := fun b hb => (h.newB b ((hp'.filterMap _).mem_iff.2 hb)).imp_left fun k => (hp.filterMap _).mem_iff.1 k
 live := fun id hid => let ⟨a, b, c⟩ := h.live id hid; ⟨a, b, c.imp_right fun k => ⟨(hp.map _).mem_iff.1 k.1, k.2⟩⟩
 newI := fun id hid => (h.newI id ((hp'.map _).mem_iff.2 hid)).imp_left fun k => (hp.map _).mem_iff.1 k
 lits := h.lits
 newL := h.newL
end Go.Am
namespace Go.Am
open Go.RowKit
inductive TK where
 | slice (e : TypeId)
 | struct (fs : List (Nat × Nat))
 | array (n : Nat) (e : TypeId)
 | int (k : IntKind)
 | bool
 | string
 | float (k : FloatKind)
 | pointer
 | func
 | iface
 | other
structure TI where
 size : Nat
 bytes : Nat
 zero : Option Value
 kind : TK
def kindOf (P : Program) : TypeDesc → TK
 | .slice e => .slice e
 | .struct fs => .struct (fs.toList.map fun f => (f.offset, P.cellsOf f.type))
 | .array n e => .array n e
 | .int k => .int k
 | .bool => .bool
 | .string => .string
 | .float k => .float k
 | .pointer _ => .pointer
 | .func _ _ _ => .func
 | .interface _ => .iface
 | _ => .other
def tiOf (P : Program) (t : TypeId) : Option TI :=
 match P.info? t, P.underlying t with
 | some i, some d => some ⟨i.size, i.bytes, i.zero, kindOf P d⟩
 | _, _ => none
def TOk (P : Program) (TT : TypeId → Option TI) : Prop := ∀ t ti, TT t = some ti → tiOf P t = some ti
structure TIs (P : Program) (t : TypeId) (ti : TI) where
 i : TypeInfo
 d : TypeDesc
 info : P.info? t = some i
 und : P.underlying t = some d
 size : i.size = ti.size
 bytes : i.bytes = ti.bytes
 zero : i.zero = ti.zero
 kind : kindOf P d = ti.kind
theorem TOk.get {P : Program} {TT : TypeId → Option TI} (h : TOk P TT) {t : TypeId} {ti : TI} (ht : TT t = some ti) : Nonempty (TIs P t ti) := by
 have := h t ti ht
 unfold tiOf at this
 split at this
 ·rename_i i d hi hd
  simp only [Option.some.injEq] at this
  subst this
  exact ⟨⟨i, d, hi, hd, rfl, rfl, rfl, rfl⟩⟩
 ·cases this
theorem TIs.slice {P : Program} {t e : TypeId} {ti : TI} (h : TIs P t ti) (hk : ti.kind = .slice e) : P.underlying t = some (.slice e) := by
 have := h.kind; rw [hk] at this
 rw [h.und]; cases hd : h.d <;> rw [hd] at this <;> simp [kindOf] at this
 subst this; rfl
theorem TIs.array {P : Program} {t e : TypeId} {n : Nat} {ti : TI} (h : TIs P t ti) (hk : ti.kind = .array n e) : P.underlying t = some (.array n e) := by
 have := h.kind; rw [hk] at this
 rw [h.und]; cases hd : h.d <;> rw [hd] at this <;> simp [kindOf] at this
 obtain ⟨rfl, rfl⟩ := this; rfl
theorem TIs.int {P : Program} {t : TypeId} {k : IntKind} {ti : TI} (h : TIs P t ti) (hk : ti.kind = .int k) : P.underlying t = some (.int k) := by
 have := h.kind; rw [hk] at this
 rw [h.und]; cases hd : h.d <;> rw [hd] at this <;> simp [kindOf] at this
 subst this; rfl
theorem TIs.float {P : Program} {t : TypeId} {k : FloatKind} {ti : TI} (h : TIs P t ti) (hk : ti.kind = .float k) : P.underlying t = some (.float k) := by
 have := h.kind; rw [hk] at this
 rw [h.und]; cases hd : h.d <;> rw [hd] at this <;> simp [kindOf] at this
 subst this; rfl
theorem TIs.bool {P : Program} {t : TypeId} {ti : TI} (h : TIs P t ti) (hk : ti.kind = .bool) : P.underlying t = some .bool := by
 have := h.kind; rw [hk] at this
 rw [h.und]; cases hd : h.d <;> rw [hd] at this <;> simp [kindOf] at this
theorem TIs.string {P : Program} {t : TypeId} {ti : TI} (h : TIs P t ti) (hk : ti.kind = .string) : P.underlying t = some .string := by
 have := h.kind; rw [hk] at this
 rw [h.und]; cases hd : h.d <;> rw [hd] at this <;> simp [kindOf] at this
theorem TIs.pointer {P : Program} {t : TypeId} {ti : TI} (h : TIs P t ti) (hk : ti.kind = .pointer) : ∃ e, P.underlying t = some (.pointer e) := by
 have := h.kind; rw [hk] at this
 rw [h.und]; cases hd : h.d <;> rw [hd] at this <;> simp [kindOf] at this
 exact ⟨_, rfl⟩
theorem TIs.func {P : Program} {t : TypeId} {ti : TI} (h : TIs P t ti) (hk : ti.kind = .func) : ∃ a b c, P.underlying t = some (.func a b c) := by
 have := h.kind; rw [hk] at this
 rw [h.und]; cases hd : h.d <;> rw [hd] at this <;> simp [kindOf] at this
 exact ⟨_, _, _, rfl⟩
theorem TIs.struct {P : Program} {t : TypeId} {fs : List (Nat × Nat)} {ti : TI} (h : TIs P t ti) (hk : ti.kind = .struct fs) : ∃ F, P.underlying t = some (.struct F) ∧ F.toList.map (fun f => (f.offset, P.cellsOf f.type)) = fs := by
 have := h.kind; rw [hk] at this
 rw [h.und]; cases hd : h.d <;> rw [hd] at this <;> simp [kindOf] at this
 exact ⟨_, rfl, by simpa using this⟩
/-! values and their shapes -/
def AV.one : AV → Bool
 | .v x => x.oneCell'
 | .list _ _ | .ptr _ _ | .arr _ _ _ _ | .cref _ | .fn _ _ | .bnd _ _ | .iface _ _ => true
 | .agg _ | .tuple _ | .dead => false
def AV.cells : AV → List AV
 | .agg l => l
 | a => [a]
def AV.ofCell : Value → AV
 | .slice none 0 0 => .list [] .full
 | x => .v x
def AV.ofValue : Value → AV
 | .agg cs => .agg (cs.toList.map AV.ofCell)
 | x => .ofCell x
def AV.seal : AV → Option AV
 | .v x => some (.v x)
 | .dead => some .dead
 | .cref l => some (.cref l)
 | .list rows .full => some (.list rows .full)
 | .list rows .lit => some (.list rows .full)
 | .list rows _ => some (.list rows .free)
 | _ => none
theorem Sim.v_inv {G : Ghost} {x y : Value} (h : Sim G (.v x) y) : y = x := by
 cases h with | data _ _ h => cases h; rfl
theorem SimD.free {X : Nat → Nat → Option Value} {rows : List (List AV)} {o : Own} {x : Value} (h : SimD X (.list rows o) x) : SimD X (.list rows .free) x := by
 cases h with
 | nil _ a c hc ho hs => exact .nil _ a c hc (by simp) (.inl rfl)
 | list _ _ b off c s y hn hc ho hs hr hx hS h1 => exact .list rows _ b off c s y hn hc (by simp) (.inl rfl) hr hx hS h1
theorem Sim.list_inv {G : Ghost} {rows : List (List AV)} {o : Own} {x : Value} (h : Sim G (.list rows o) x) : SimD G.X (.list rows .free) x ∧ (o = .full → SimD G.X (.list rows .full) x) := by
 cases h with
 | data _ _ h => exact ⟨h.free, fun e => e ▸ h⟩
 | tok _ k _ hk h hl hz he => exact ⟨h, fun e => by cases e⟩
theorem Sim.tok_inv {G : Ghost} {rows : List (List AV)} {k : Nat} {x : Value} (h : Sim G (.list rows (.tok k)) x) : G.live k ∧ SimD G.X (.list rows .free) x ∧ rows.length ≤ (G.tk k).n ∧ (∀ row ∈ rows, row.length = (G.tk k).s) ∧ (rows.length = (G.tk k).n → x = (G.tk k).val) := by
 cases h with
 | data _ _ h => cases h with
  | nil _ _ _ _ _ hs => rcases hs with h | h <;> cases h
  | list _ _ _ _ _ _ _ _ _ _ hs _ _ _ _ => rcases hs with h | h <;> cases h
 | tok _ _ _ hk h hl hz he => exact ⟨hk, h, hl, hz, he⟩
theorem SimD.slice {X : Nat → Nat → Option Value} {rows : List (List AV)} {o : Own} {x : Value} (h : SimD X (.list rows o) x) : ∃ base c, x = .slice base rows.length c ∧ rows.length ≤ c ∧ c ≤ maxLen ∧ (o = .full → c = rows.length) := by
 cases h with
 | nil _ a c hc ho hs => exact ⟨a, c, rfl, Nat.zero_le _, hc, ho⟩
 | list _ _ b off c s y hn hc ho hs hr hx hS h1 => exact ⟨_, c, rfl, hn, hc, ho⟩
theorem SimD.pos {X : Nat → Nat → Option Value} {rows : List (List AV)} {o : Own} {x : Value} (h : SimD X (.list rows o) x) (hp : rows ≠ []) : ∃ b off c s, ∃ y : Nat → Nat → Value, x = .slice (some ⟨b, off, none⟩) rows.length c ∧ (∀ row ∈ rows, row.length = s) ∧
  (∀ (i : Nat) (row : List AV) (j : Nat) (a : AV), rows[i]? = some row → row[j]? = some a → X b (off + i * s + j) = some (y i j)) ∧ (∀ (i : Nat) (row : List AV) (j : Nat) (a : AV), rows[i]? = some row → row[j]? = some a → SimD X a (y i j)) ∧
  ∀ (i : Nat) (row : List AV) (j : Nat) (a : AV), rows[i]? = some row → row[j]? = some a → (y i j).oneCell' = true := by
 cases h with
 | nil => exact absurd rfl hp
 | list _ _ b off c s y hn hc ho hs hr hx hS h1 => exact ⟨b, off, c, s, y, rfl, hr, hx, hS, h1⟩
theorem Sim.ptr_inv {G : Ghost} {id off : Nat} {x : Value} (h : Sim G (.ptr id off) x) : x = .pointer (some ⟨G.loc id, off, none⟩) ∧ G.live id := by
 cases h with
 | data _ _ h => cases h
 | ptr _ _ hk => exact ⟨rfl, hk⟩
theorem Sim.cref_inv {G : Ghost} {l : List AV} {x : Value} (h : Sim G (.cref l) x) : ∃ b off, ∃ y : Nat → Value, x = .pointer (some ⟨b, off, none⟩) ∧ (∀ j a, l[j]? = some a → G.X b (off + j) = some (y j)) ∧ (∀ j a, l[j]? = some a → SimD G.X a (y j)) ∧ ∀ j a, l[j]? = some a → (y j).oneCell' = true := by
 cases h with
 | data _ _ h => cases h with | cref _ b off y hX hS h1 => exact ⟨b, off, y, rfl, hX, hS, h1⟩
theorem Sim.agg_inv {G : Ghost} {l : List AV} {x : Value} (h : Sim G (.agg l) x) : ∃ vs : Array Value, x = .agg vs ∧ l.length = vs.size ∧ ∀ i a, l[i]? = some a → Sim G a (vs.getD i undef) := by
 cases h with
 | data _ _ h => cases h
 | agg _ vs hl h => exact ⟨vs, rfl, hl, h⟩
theorem Sim.tuple_inv {G : Ghost} {l : List AV} {x : Value} (h : Sim G (.tuple l) x) : ∃ vs : Array Value, x = .tuple vs ∧ l.length = vs.size ∧ ∀ i a, l[i]? = some a → Sim G a (vs.getD i undef) := by
 cases h with
 | data _ _ h => cases h
 | tuple _ vs hl h => exact ⟨vs, rfl, hl, h⟩
theorem Sim.fn_inv {G : Ghost} {f : FuncId} {l : List AV} {x : Value} (h : Sim G (.fn f l) x) : ∃ vs : Array Value, x = .func (.func f) #[] vs ∧ l.length = vs.size ∧ ∀ i a, l[i]? = some a → Sim G a (vs.getD i undef) := by
 cases h with
 | data _ _ h => cases h
 | fn _ _ vs hl h => exact ⟨vs, rfl, hl, h⟩
theorem Sim.bnd_inv {G : Ghost} {f : FuncId} {l : List AV} {x : Value} (h : Sim G (.bnd f l) x) : ∃ vs : Array Value, x = .func (.func f) vs #[] ∧ l.length = vs.size ∧ ∀ i a, l[i]? = some a → Sim G a (vs.getD i undef) := by
 cases h with
 | data _ _ h => cases h
 | bnd _ _ vs hl h => exact ⟨vs, rfl, hl, h⟩
theorem Sim.iface_inv {G : Ghost} {t : TypeId} {a : AV} {x : Value} (h : Sim G (.iface t a) x) : ∃ y, x = .iface t y ∧ Sim G a y := by
 cases h with
 | data _ _ h => cases h
 | iface _ _ y h => exact ⟨y, rfl, h⟩
theorem Sim.arr_inv {G : Ghost} {id off n c : Nat} {x : Value} (h : Sim G (.arr id off n c) x) : ∃ base, x = .slice base n c ∧ G.live id ∧ n ≤ c ∧ c ≤ maxLen ∧ (c ≠ 0 → base = some ⟨G.loc id, off, none⟩) := by
 cases h with
 | data _ _ h => cases h
 | arr _ _ _ c base hk hn hc hb => exact ⟨base, rfl, hk, hn, hc, hb⟩
theorem Sim.one {G : Ghost} {a : AV} {x : Value} (h : Sim G a x) (h1 : a.one = true) : x.oneCell' = true := by
 cases h with
 | data _ _ h => cases h <;> first | exact h1 | rfl | (simp [AV.one] at h1)
 | tok _ _ _ _ h _ _ _ => obtain ⟨_, _, rfl, _⟩ := h.slice; rfl
 | ptr => rfl
 | arr => rfl
 | fn => rfl
 | bnd => rfl
 | agg => simp [AV.one] at h1
 | tuple => simp [AV.one] at h1
 | iface => rfl
theorem Sim.ofCell (G : Ghost) (x : Value) : Sim G (.ofCell x) x := by
 unfold AV.ofCell; split
 ·exact .data _ _ (.nil _ _ _ (Nat.zero_le _) (fun _ => rfl) (.inr rfl))
 ·exact .data _ _ (.v x)
theorem Sim.ofValue (G : Ghost) (x : Value) : Sim G (.ofValue x) x := by
 unfold AV.ofValue; split
 ·rename_i cs
  refine .agg _ _ (by simp) fun i a ha => ?_
  rw [List.getElem?_map, Array.getElem?_toList, Option.map_eq_some_iff] at ha
  obtain ⟨y, hy, rfl⟩ := ha
  have : cs.getD i undef = y := by simp [hy]
  rw [this]; exact .ofCell G y
 ·exact .ofCell G x
theorem Sim.seal {G : Ghost} {a s : AV} {x : Value} (h : Sim G a x) (hs : a.seal = some s) : SimD G.X s x := by
 cases a with
 | v y => cases hs; cases h with | data _ _ h => exact h
 | dead => cases hs; exact .dead _
 | cref l => cases hs; cases h with | data _ _ h => exact h
 | list rows o =>
  have h1 := h.list_inv
  cases o <;> cases hs
  ·exact h1.1
  ·exact h1.2 rfl
  ·cases h with
   | data _ _ h => cases h with
    | nil _ _ _ _ _ hs => rcases hs with h | h <;> cases h
    | list _ _ _ _ _ _ _ _ _ _ hs _ _ _ _ => rcases hs with h | h <;> cases h
  ·exact h1.1
 | agg l => cases hs
 | tuple l => cases hs
 | ptr id off => cases hs
 | arr id off n c => cases hs
 | fn f l => cases hs
 | bnd f l => cases hs
 | iface t b => cases hs
theorem Sim.cells {G : Ghost} {a : AV} {x : Value} (h : Sim G a x) (hd : ∀ l, a ≠ .tuple l) (hdd : a ≠ .dead) : a.cells.length = x.cells.size ∧ (∀ i c, a.cells[i]? = some c → Sim G c (x.cells.getD i undef)) ∨ (∃ y, a = .v y) := by
 cases a with
 | v y => exact .inr ⟨y, rfl⟩
 | agg l =>
  obtain ⟨vs, rfl, h1, h2⟩ := h.agg_inv
  exact .inl ⟨h1, h2⟩
 | tuple l => exact absurd rfl (hd l)
 | dead => exact absurd rfl hdd
 | list rows o =>
  have hx := h
  obtain ⟨_, _, rfl, _⟩ := h.list_inv.1.slice
  refine .inl ⟨rfl, fun i c hc => ?_⟩
  cases i with
  | zero => simp [AV.cells] at hc; subst hc; exact hx
  | succ i => simp [AV.cells] at hc
 | ptr id off =>
  have hx := h
  obtain ⟨rfl, _⟩ := h.ptr_inv
  refine .inl ⟨rfl, fun i c hc => ?_⟩
  cases i with
  | zero => simp [AV.cells] at hc; subst hc; exact hx
  | succ i => simp [AV.cells] at hc
 | arr id off n c =>
  have hx := h
  obtain ⟨_, rfl, _⟩ := h.arr_inv
  refine .inl ⟨rfl, fun i c hc => ?_⟩
  cases i with
  | zero => simp [AV.cells] at hc; subst hc; exact hx
  | succ i => simp [AV.cells] at hc
 | cref l =>
  have hx := h
  obtain ⟨_, _, _, rfl, _⟩ := h.cref_inv
  refine .inl ⟨rfl, fun i c hc => ?_⟩
  cases i with
  | zero => simp [AV.cells] at hc; subst hc; exact hx
  | succ i => simp [AV.cells] at hc
 | fn f l =>
  have hx := h
  obtain ⟨_, rfl, _⟩ := h.fn_inv
  refine .inl ⟨rfl, fun i c hc => ?_⟩
  cases i with
  | zero => simp [AV.cells] at hc; subst hc; exact hx
  | succ i => simp [AV.cells] at hc
 | bnd f l =>
  have hx := h
  obtain ⟨_, rfl, _⟩ := h.bnd_inv
  refine .inl ⟨rfl, fun i c hc => ?_⟩
  cases i with
  | zero => simp [AV.cells] at hc; subst hc; exact hx
  | succ i => simp [AV.cells] at hc
 | iface t b =>
  have hx := h
  obtain ⟨_, rfl, _⟩ := h.iface_inv
  refine .inl ⟨rfl, fun i c hc => ?_⟩
  cases i with
  | zero => simp [AV.cells] at hc; subst hc; exact hx
  | succ i => simp [AV.cells] at hc
end Go.Am
namespace Go.Am
open Go.RowKit
structure Grow (G : Ghost) (w : World) (G' : Ghost) (w' : World) : Prop where
 os : w'.os = w.os
 tape : w'.tape = w.tape
 output : w'.output = w.output
 size : w.heap.size ≤ w'.heap.size
 base : G'.base = G.base
 loc : G'.loc = G.loc
 tk : G'.tk = G.tk
 live : G'.live = G.live
 X : ∀ b i v, G.X b i = some v → G'.X b i = some v
 frame : ∀ b, b < w.heap.size → Alike w w' b ∧ (¬ G.lits b → w'.heap[b]? = w.heap[b]?)
 lits : ∀ b, G.lits b → G'.lits b
 newL : ∀ b, G'.lits b → G.lits b ∨ (w.heap.size ≤ b ∧ b < w'.heap.size ∧ G.base ≤ b)
 newX : ∀ b i v, G'.X b i = some v → G.X b i = some v ∨ (w.heap.size ≤ b ∧ w'.cell? ⟨b, i, none⟩ = some v)
theorem Grow.refl (G : Ghost) (w : World) : Grow G w G w := ⟨rfl, rfl, rfl, Nat.le_refl _, rfl, rfl, rfl, rfl, fun _ _ _ h => h, fun _ _ => ⟨.inl rfl, fun _ => rfl⟩, fun _ h => h, fun _ h => .inl h, fun _ _ _ h => .inl h⟩
theorem Grow.trans {G G' G'' : Ghost} {w w' w'' : World} (h : Grow G w G' w') (k : Grow G' w' G'' w'') : Grow G w G'' w'' where
 os := k.os.trans h.os
 tape := k.tape.trans h.tape
 output := k.output.trans h.output
 size := Nat.le_trans h.size k.size
 base := k.base.trans h.base
 loc := k.loc.trans h.loc
 tk := k.tk.trans h.tk
 live := k.live.trans h.live
 X := fun b i v hx => k.X b i v (h.X b i v hx)
 frame := fun b hb => by
  obtain ⟨h1, h2⟩ := h.frame b hb
  obtain ⟨k1, k2⟩ := k.frame b (Nat.lt_of_lt_of_le hb h.size)
  refine ⟨h1.trans k1, fun hlt => ?_⟩
  rw [k2 fun hl => ?_, h2 hlt]
  rcases h.newL b hl with hl | hl
  ·exact hlt hl
  ·omega
 lits := fun b hb => k.lits b (h.lits b hb)
 newL := fun b hb => by
  rcases k.newL b hb with h1 | ⟨h1, h2, h3⟩
  ·rcases h.newL b h1 with h1 | ⟨h1, h2, h3⟩
   ·exact .inl h1
   ·exact .inr ⟨h1, Nat.lt_of_lt_of_le h2 k.size, h3⟩
  ·exact .inr ⟨Nat.le_trans h.size h1, h2, by rw [← h.base]; exact h3⟩
 newX := fun b i v hx => by
  rcases k.newX b i v hx with k1 | ⟨k1, k2⟩
  ·rcases h.newX b i v k1 with h1 | ⟨h1, h2⟩
   ·exact .inl h1
   ·refine .inr ⟨h1, ?_⟩
    have hlt : b < w'.heap.size := by
     rcases Nat.lt_or_ge b w'.heap.size with hlt | hge
     ·exact hlt
     ·simp [World.cell?, Array.getElem?_eq_none hge] at h2
    exact (k.frame b hlt).1.cell h2
  ·exact .inr ⟨Nat.le_trans h.size k1, k2⟩
theorem Grow.sim {G G' : Ghost} {w w' : World} (h : Grow G w G' w') {a : AV} {x : Value} (hs : Sim G a x) : Sim G' a x :=
 hs.mono h.X fun id hid => ⟨by rw [h.live]; exact hid, by rw [h.loc], .inl (by rw [h.tk])⟩
theorem Grow.placed {G G' : Ghost} {w w' : World} (h : Grow G w G' w') (r : Nat × Res) : G'.placed r = G.placed r := placed_same (by rw [h.loc]) (by rw [h.tk])
theorem Grow.blocks {G G' : Ghost} {w w' : World} (h : Grow G w G' w') (H : Heap) : blocksOf G' H = blocksOf G H := filterMap_same fun r _ => h.placed r
theorem Grow.holds {G G' : Ghost} {w w' : World} {H : Heap} (h : Grow G w G' w') (hh : Holds G w H) : Holds G' w' H where
 X := fun b i v hx => by
  rcases h.newX b i v hx with k | ⟨_, k⟩
  ·have := hh.X b i v k
   have hlt : b < w.heap.size := by
    rcases Nat.lt_or_ge b w.heap.size with hlt | hge
    ·exact hlt
    ·simp [World.cell?, Array.getElem?_eq_none hge] at this
   exact (h.frame b hlt).1.cell this
  ·exact k
 res := fun r hr => (hh.res r hr).keep (by rw [h.loc]) (by rw [h.tk]) (fun a x => h.sim) fun b hb => by
  have hlt := (hh.res r hr).lt hb
  refine ⟨(h.frame b hlt).2 (fun hl => (hh.lits b hl).2.2 (List.mem_filterMap.2 ⟨r, hr, hb⟩)), fun i v hx => (h.newX b i v hx).resolve_right fun k => by omega⟩
 ids := hh.ids
 live := fun r hr => by rw [h.live]; exact hh.live r hr
 blocks := by rw [h.blocks]; exact hh.blocks
 lits := fun b hb => by
  rw [h.base, h.blocks]
  rcases h.newL b hb with hl | ⟨h1, h2, h3⟩
  ·obtain ⟨k1, k2, k3⟩ := hh.lits b hl
   exact ⟨k1, Nat.lt_of_lt_of_le k2 h.size, k3⟩
  ·exact ⟨h3, h2, fun hm => by have := hh.lt hm; omega⟩
theorem Grow.step {G G' : Ghost} {w w' : World} (h : Grow G w G' w') (H : Heap) : Step G w H G' w' H where
 os := h.os
 tape := h.tape
 output := h.output
 size := h.size
 base := h.base
 X := h.X
 frame := fun b hb _ => h.frame b hb
 newX := fun b i v hx => (h.newX b i v hx).imp_right fun k => .inl k.1
 newB := fun b hb => by rw [h.blocks] at hb; exact .inl hb
 live := fun id hid => ⟨by rw [h.live]; exact hid, by rw [h.loc], .inl (by rw [h.tk])⟩
 newI := fun _ h => .inl h
 lits := h.lits
 newL := fun b hb => (h.newL b hb).imp_right fun k => k.1
def findL : Heap → Nat → Option Res
 | [], _ => none
 | (i, r) :: H, id => if i = id then some r else findL H id
theorem findL_mem {H : Heap} {id : Nat} {r : Res} (h : findL H id = some r) : (id, r) ∈ H := by
 induction H with
 | nil => cases h
 | cons x H ih =>
  obtain ⟨i, r'⟩ := x
  unfold findL at h
  split at h
  ·rename_i e; subst e; cases h; exact List.mem_cons_self
  ·exact List.mem_cons_of_mem _ (ih h)
def abr (b : Bool) (p q : Prop) : Prop := match b with | true => p | false => q
theorem abr_intro {b : Bool} {p q : Prop} (h1 : b = true → p) (h2 : b = false → q) : abr b p q := by
 cases b
 ·exact h2 rfl
 ·exact h1 rfl
def brow (b : UInt8) : List AV := [.v (.int .u8 b.toNat)]
def flat2 (op : BinOp) (x y : Value) (K : Value → Prop) : Prop :=
 match x, y with
 | .int k a, .int k' b =>
  match op with
  | .shl => 0 ≤ b ∧ K (.int k (k.wrap (a * 2 ^ (min b.toNat k.bits))))
  | .shr => 0 ≤ b ∧ K (.int k (a.fdiv (2 ^ (min b.toNat k.bits))))
  | .add => if k = k' then K (.int k (k.wrap (a + b))) else False
  | .sub => if k = k' then K (.int k (k.wrap (a - b))) else False
  | .mul => if k = k' then K (.int k (k.wrap (a * b))) else False
  | .quo => if k = k' then b ≠ 0 ∧ K (.int k (k.wrap (a.tdiv b))) else False
  | .rem => if k = k' then b ≠ 0 ∧ K (.int k (a.tmod b)) else False
  | .and => if k = k' then K (.int k (k.wrap (BitVec.ofInt k.bits a &&& BitVec.ofInt k.bits b).toNat)) else False
  | .or => if k = k' then K (.int k (k.wrap (BitVec.ofInt k.bits a ||| BitVec.ofInt k.bits b).toNat)) else False
  | .xor => if k = k' then K (.int k (k.wrap (BitVec.ofInt k.bits a ^^^ BitVec.ofInt k.bits b).toNat)) else False
  | .andNot => if k = k' then K (.int k (k.wrap (BitVec.ofInt k.bits a &&& ~~~(BitVec.ofInt k.bits b)).toNat)) else False
  | .eql => if k = k' then K (.bool (a == b)) else False
  | .neq => if k = k' then K (.bool (a != b)) else False
  | .lss => if k = k' then K (.bool (decide (a < b))) else False
  | .leq => if k = k' then K (.bool (decide (a ≤ b))) else False
  | .gtr => if k = k' then K (.bool (decide (a > b))) else False
  | .geq => if k = k' then K (.bool (decide (a ≥ b))) else False
 | .string a, .string b =>
  match op with
  | .add => (a.size : Int) + b.size ≤ 9223372036854775807 ∧ K (.string (a ++ b))
  | .eql => K (.bool (a.toList == b.toList))
  | .neq => K (.bool !(a.toList == b.toList))
  | .lss => K (.bool (Op.bytesLess a.toList b.toList))
  | .leq => K (.bool (Op.bytesLess a.toList b.toList || a.toList == b.toList))
  | .gtr => K (.bool !(Op.bytesLess a.toList b.toList || a.toList == b.toList))
  | .geq => K (.bool !(Op.bytesLess a.toList b.toList))
  | _ => False
 | .float k a, .float k' b =>
  match op with
  | .eql => if k = k' then K (.bool (k.format.order a b == some .eq)) else False
  | .neq => if k = k' then K (.bool (k.format.order a b != some .eq)) else False
  | _ => False
 | _, _ => False
theorem flat2_ok {P : Program} {op : BinOp} {t : TypeId} {x y : Value} {xo yo : Operand} {K : Value → Prop} (h : flat2 op x y K) :
    ∃ v, K v ∧ ∀ w, (do eqGuard op t xo yo x y; binOp op t x y : Sem Value).run P w = .ok v w := by
  unfold flat2 at h
  split at h
  · split at h
    case h_1 | h_2 =>
      obtain ⟨h1, h2⟩ := h
      refine ⟨_, h2, fun w => ?_⟩
      have h3 := Int.not_lt.2 h1
      simp [eqGuard, binOp, Op.shift, h3, go_sem]
    case h_6 | h_7 =>
      split at h
      case isFalse => exact h.elim
      rename_i e; subst e
      obtain ⟨h1, h2⟩ := h
      exact ⟨_, h2, fun w => by simp [eqGuard, binOp, Op.intDiv, h1, go_sem]⟩
    all_goals first
      | exact h.elim
      | (split at h
         case isFalse => exact h.elim
         rename_i e; subst e
         exact ⟨_, h, fun w => by simp [eqGuard, binOp, Op.intArith, Op.intBits, Op.intCmp, go_sem]⟩)
  · split at h
    case h_1 =>
      obtain ⟨h1, h2⟩ := h
      exact ⟨_, h2, fun w => by simp [eqGuard, binOp, Op.stringOp, h1, go_sem]⟩
    all_goals first
      | exact h.elim
      | exact ⟨_, h, fun w => by simp [eqGuard, binOp, Op.stringOp, go_sem]⟩
  · split at h
    all_goals first
      | exact h.elim
      | (split at h
         case isFalse => exact h.elim
         rename_i e; subst e
         exact ⟨_, h, fun w => by simp [eqGuard, binOp, Op.floatCmp, go_sem]⟩)
  · exact h.elim
def AV.flat1 : AV → Option Value
 | .v x => some x
 | .list [] .full => none
 | _ => none
def flatL : List AV → Option (List Value)
 | [] => some []
 | a :: l => match a.flat1, flatL l with
  | some x, some xs => some (x :: xs)
  | _, _ => none
def AV.flat : AV → Option Value
 | .v x => some x
 | .agg l => (flatL l).map fun xs => .agg xs.toArray
 | _ => none
theorem flatL_spec {l : List AV} : ∀ {xs : List Value}, flatL l = some xs → l = xs.map AV.v := by
 induction l with
 | nil => intro xs h; cases h; rfl
 | cons a l ih =>
  intro xs h
  unfold flatL at h
  split at h
  ·rename_i x ys h1 h2
   cases h
   rw [List.map_cons, ← ih h2]
   cases a <;> simp [AV.flat1] at h1
   ·subst h1; rfl
   ·split at h1 <;> simp_all
  ·cases h
theorem Sim.flat {G : Ghost} {a : AV} {x y : Value} (h : Sim G a y) (hf : a.flat = some x) : y = x := by
 cases a <;> simp only [AV.flat] at hf <;> try (cases hf; done)
 ·cases hf; exact h.v_inv
 ·rename_i l
  rw [Option.map_eq_some_iff] at hf
  obtain ⟨xs, h1, rfl⟩ := hf
  have := flatL_spec h1
  subst this
  obtain ⟨vs, rfl, h2, h3⟩ := h.agg_inv
  congr 1
  apply Array.ext
  ·simpa using h2.symm
  ·intro i h4 h5
   have h6 := h3 i (.v (xs[i]'(by simpa using h5))) (by simp)
   have := h6.v_inv
   simpa [h4] using this
structure Here (P : Program) (L : Heap) (ev raw : Operand → AV) (o : Oper) (G : Ghost) (w : World) (ρ : Operand → Value) : Prop where
 ev : ∀ x ∈ o.op.operands, Sim G (ev x) (ρ x)
 raw : ∀ x ∈ o.op.operands, Slot G (raw x) (ρ x)
 holds : Holds G w L
 base : G.base ≤ w.heap.size
def QOk (P : Program) (L : Heap) (ev raw : Operand → AV) (o : Oper) (av : AV) : Prop :=
 ∀ G w ρ, Here P L ev raw o G w ρ → ∃ v G' w', (execOp ρ o).run P w = .ok (.value v) w' ∧ Slot G' av v ∧ Grow G w G' w'
theorem QOk.still {P : Program} {L : Heap} {ev raw : Operand → AV} {o : Oper} {av : AV} (h : ∀ G w ρ, Here P L ev raw o G w ρ → ∃ v, (execOp ρ o).run P w = .ok (.value v) w ∧ Sim G av v) : QOk P L ev raw o av :=
 fun G w ρ hh => let ⟨v, h1, h2⟩ := h G w ρ hh; ⟨v, G, w, h1, .of h2, Grow.refl G w⟩
end Go.Am
namespace Go.Am
open Go.RowKit
def acells : AV → Option (List AV)
 | .agg l => some l
 | a => if a.one then some [a] else none
theorem oneCell_cells {x : Value} (h : x.oneCell' = true) : x.cells = #[x] := by
 cases x <;> first | rfl | (simp [Value.oneCell'] at h)
theorem acells_sim {G : Ghost} {a : AV} {x : Value} {l : List AV} (h : Sim G a x) (hc : acells a = some l) : l.length = x.cells.size ∧ ∀ i c, l[i]? = some c → Sim G c (x.cells.getD i undef) := by
 unfold acells at hc
 split at hc
 ·cases hc
  obtain ⟨vs, rfl, h1, h2⟩ := h.agg_inv
  exact ⟨h1, h2⟩
 ·split at hc
  ·rename_i h1
   cases hc
   have h2 := h.one h1
   rw [oneCell_cells h2]
   refine ⟨rfl, fun i c hi => ?_⟩
   cases i with
   | zero => simp at hi; subst hi; exact h
   | succ i => simp at hi
  ·cases hc
def isAggK : TK → Bool | .struct _ => true | .array _ _ => true | _ => false
theorem kindAgg {P : Program} {t : TypeId} {ti : TI} (h : TIs P t ti) (w : World) :
  (isAgg t).run P w = .ok (isAggK ti.kind) w := by
 have hk := h.kind
 unfold isAgg
 rw [Sem.run_bind, run_underlying h.und]
 cases hd : h.d <;> rw [hd] at hk <;> simp [kindOf] at hk <;> rw [← hk] <;> rfl
section
variable {P : Program} {L : Heap} {ev raw : Operand → AV} {o : Oper}
theorem q_move {x : Operand} (ho : o.op = .move x ∨ o.op = .assign x) : QOk P L ev raw o (ev x) :=
 .still fun G w ρ hh => by
  have h1 := hh.ev x (by rcases ho with ho | ho <;> rw [ho] <;> simp [Op.operands])
  exact ⟨_, by rcases ho with ho | ho <;> simp [execOp, ho, go_sem], h1⟩
theorem q_pick {c x y : Operand} {b : Bool} (ho : o.op = .pick c x y) (hc : ev c = .v (.bool b)) : QOk P L ev raw o (bif b then ev x else ev y) :=
 .still fun G w ρ hh => by
  have h1 := hh.ev c (by rw [ho]; simp [Op.operands])
  have h2 := hh.ev x (by rw [ho]; simp [Op.operands])
  have h3 := hh.ev y (by rw [ho]; simp [Op.operands])
  rw [hc] at h1
  have h4 := h1.v_inv
  cases b
  ·exact ⟨_, by simp [execOp, ho, h4, asBool, go_sem], h3⟩
  ·exact ⟨_, by simp [execOp, ho, h4, asBool, go_sem], h2⟩
theorem q_nilCheck {x : Operand} (ho : o.op = .nilCheck x) (hx : (∃ i j, ev x = .ptr i j) ∨ (∃ l, ev x = .cref l) ∨ ∃ f l, ev x = .fn f l) : QOk P L ev raw o (ev x) :=
 .still fun G w ρ hh => by
  have h1 := hh.ev x (by rw [ho]; simp [Op.operands])
  rcases hx with ⟨i, j, hx⟩ | ⟨l, hx⟩ | ⟨f, l, hx⟩
  ·have h2 := h1; rw [hx] at h2; obtain ⟨h3, _⟩ := h2.ptr_inv
   exact ⟨_, by simp [execOp, ho, h3, go_sem]; rfl, by rw [h3] at h1; exact h1⟩
  ·have h2 := h1; rw [hx] at h2; obtain ⟨_, _, _, h3, _⟩ := h2.cref_inv
   exact ⟨_, by simp [execOp, ho, h3, go_sem]; rfl, by rw [h3] at h1; exact h1⟩
  ·have h2 := h1; rw [hx] at h2; obtain ⟨_, h3, _⟩ := h2.fn_inv
   exact ⟨_, by simp [execOp, ho, h3, go_sem]; rfl, by rw [h3] at h1; exact h1⟩
theorem q_bin {op : BinOp} {t t' : TypeId} {x y : Operand} {vx vy : Value} {K : Value → Prop} (ho : o.op = .binOp op t x y t') (hx : ev x = .v vx) (hy : ev y = .v vy) (h : flat2 op vx vy K) : ∃ v, K v ∧ QOk P L ev raw o (.v v) := by
 obtain ⟨v, hK, hv⟩ := flat2_ok (P := P) (t := t) (xo := x) (yo := y) h
 refine ⟨v, hK, .still fun G w ρ hh => ⟨v, ?_, .data _ _ (.v v)⟩⟩
 have h1 := hh.ev x (by rw [ho]; simp [Op.operands])
 have h2 := hh.ev y (by rw [ho]; simp [Op.operands])
 rw [hx] at h1; rw [hy] at h2
 have h3 := h1.v_inv
 have h4 := h2.v_inv
 simp only [execOp, ho, h3, h4]
 rw [Sem.run_bind, hv w]; rfl
theorem q_not {x : Operand} {t : TypeId} {b : Bool} (ho : o.op = .unOp .not t x) (hx : ev x = .v (.bool b)) : QOk P L ev raw o (.v (.bool !b)) :=
 .still fun G w ρ hh => by
  have h1 := hh.ev x (by rw [ho]; simp [Op.operands])
  rw [hx] at h1
  exact ⟨.bool !b, by simp [execOp, ho, h1.v_inv, Op.unary, go_sem], .data _ _ (.v _)⟩
theorem q_neg {x : Operand} {t : TypeId} {k : IntKind} {n : Int} (ho : o.op = .unOp .neg t x) (hx : ev x = .v (.int k n)) : QOk P L ev raw o (.v (.int k (k.wrap (0 - n)))) :=
 .still fun G w ρ hh => by
  have h1 := hh.ev x (by rw [ho]; simp [Op.operands])
  rw [hx] at h1
  exact ⟨.int k (k.wrap (0 - n)), by simp [execOp, ho, h1.v_inv, Op.unary, Op.intArith, go_sem], .data _ _ (.v _)⟩
theorem q_inv {x : Operand} {t : TypeId} {k : IntKind} {n : Int} (ho : o.op = .unOp .xor t x) (hx : ev x = .v (.int k n)) : QOk P L ev raw o (.v (.int k (k.wrap (BitVec.ofInt k.bits (if k.signed then -1 else k.max) ^^^ BitVec.ofInt k.bits n).toNat))) :=
 .still fun G w ρ hh => by
  have h1 := hh.ev x (by rw [ho]; simp [Op.operands])
  rw [hx] at h1
  exact ⟨.int k (k.wrap (BitVec.ofInt k.bits (if k.signed then -1 else k.max) ^^^ BitVec.ofInt k.bits n).toNat), by simp [execOp, ho, h1.v_inv, Op.unary, Op.intBits, go_sem], .data _ _ (.v _)⟩
theorem q_makeFunc {f : FuncId} {cap : Array Operand} (ho : o.op = .makeFunc (.func f) #[] cap) : QOk P L ev raw o (.fn f (cap.toList.map ev)) :=
 .still fun G w ρ hh => by
  refine ⟨.func (.func f) #[] (cap.map ρ), by simp [execOp, ho, Instr.makeFunc, go_sem], .fn _ _ _ (by simp) fun i x hi => ?_⟩
  rw [List.getElem?_map, Array.getElem?_toList, Option.map_eq_some_iff] at hi
  obtain ⟨y, hy, rfl⟩ := hi
  have h1 := hh.ev y (by rw [ho]; simp [Op.operands]; exact Array.mem_of_getElem? hy)
  have : (cap.map ρ).getD i undef = ρ y := by simp [hy]
  rw [this]; exact h1
theorem q_makeBnd {f : FuncId} {cap : Array Operand} (ho : o.op = .makeFunc (.func f) cap #[]) : QOk P L ev raw o (.bnd f (cap.toList.map ev)) :=
 .still fun G w ρ hh => by
  refine ⟨.func (.func f) (cap.map ρ) #[], by simp [execOp, ho, Instr.makeFunc, go_sem], .bnd _ _ _ (by simp) fun i x hi => ?_⟩
  rw [List.getElem?_map, Array.getElem?_toList, Option.map_eq_some_iff] at hi
  obtain ⟨y, hy, rfl⟩ := hi
  have h1 := hh.ev y (by rw [ho]; simp [Op.operands]; exact Array.mem_of_getElem? hy)
  have : (cap.map ρ).getD i undef = ρ y := by simp [hy]
  rw [this]; exact h1
theorem q_extract {x : Operand} {i : Nat} {l : List AV} {c : AV} (ho : o.op = .extract x i) (hx : ev x = .tuple l) (hc : l[i]? = some c) : QOk P L ev raw o c :=
 .still fun G w ρ hh => by
  have h1 := hh.ev x (by rw [ho]; simp [Op.operands])
  rw [hx] at h1
  obtain ⟨vs, h2, h3, h4⟩ := h1.tuple_inv
  have h5 := h4 i c hc
  have h6 : i < vs.size := by rw [← h3]; exact (List.getElem?_eq_some_iff.1 hc).1
  have h7 : vs[i]? = some vs[i] := by simp [h6]
  have h8 : vs.getD i undef = vs[i] := by simp [h6]
  rw [h8] at h5
  exact ⟨vs[i], by simp [execOp, ho, h2, Instr.extract, h6, go_sem], h5⟩
theorem q_iface {x : Operand} {t : TypeId} {ti : TI} (ho : o.op = .makeInterface t x) (ht : TIs P t ti) (hk : ti.kind ≠ .iface) : QOk P L ev raw o (.iface t (ev x)) :=
 .still fun G w ρ hh => by
  have h1 := hh.ev x (by rw [ho]; simp [Op.operands])
  refine ⟨_, ?_, .iface t _ _ h1⟩
  have hk' := ht.kind
  simp only [execOp, ho, Instr.makeInterface]
  rw [Sem.run_bind, Sem.run_bind, run_underlying ht.und]
  cases hd : ht.d <;> rw [hd] at hk' <;> first | rfl | (simp [kindOf] at hk'; exact absurd hk'.symm hk)
theorem q_len_arr {t e : TypeId} {x : Operand} {c : Call} {ti : TI} {id off n cp : Nat} (ho : o.op = .call c) (hc : c.callee = .builtin .len) (ha : c.args = #[x]) (hty : c.argTypes = #[t]) (ht : TIs P t ti) (hk : ti.kind = .slice e) (hx : ev x = .arr id off n cp) : QOk P L ev raw o (.v (.int .i64 n)) :=
 .still fun G w ρ hh => by
  have h1 := hh.ev x (by rw [ho]; simp [Op.operands, Call.operands, hc, ha])
  rw [hx] at h1
  obtain ⟨cc, h2, _⟩ := h1.arr_inv
  refine ⟨.int .i64 n, ?_, .data _ _ (.v _)⟩
  simp [execOp, ho, resolve, hc, ha, hty, invoke, builtin, Builtin.len_, h2, run_underlying (ht.slice hk), goInt, go_sem]
theorem q_cap_arr {t e : TypeId} {x : Operand} {c : Call} {ti : TI} {id off n cp : Nat} (ho : o.op = .call c) (hc : c.callee = .builtin .cap) (ha : c.args = #[x]) (hty : c.argTypes = #[t]) (ht : TIs P t ti) (hk : ti.kind = .slice e) (hx : ev x = .arr id off n cp) : QOk P L ev raw o (.v (.int .i64 cp)) :=
 .still fun G w ρ hh => by
  have h1 := hh.ev x (by rw [ho]; simp [Op.operands, Call.operands, hc, ha])
  rw [hx] at h1
  obtain ⟨cc, h2, _⟩ := h1.arr_inv
  refine ⟨.int .i64 cp, ?_, .data _ _ (.v _)⟩
  simp [execOp, ho, resolve, hc, ha, hty, invoke, builtin, Builtin.cap_, h2, run_underlying (ht.slice hk), goInt, go_sem]
theorem q_len {t : TypeId} {x : Operand} {c : Call} {ti : TI} {n : Nat} (ho : o.op = .call c) (hc : c.callee = .builtin .len) (ha : c.args = #[x]) (hty : c.argTypes = #[t]) (ht : TIs P t ti)
  (h : (∃ e rows own, ti.kind = .slice e ∧ ev x = .list rows own ∧ n = rows.length) ∨ (∃ s, ti.kind = .string ∧ ev x = .v (.string s) ∧ n = s.size) ∨ ∃ e, ti.kind = .array n e) : QOk P L ev raw o (.v (.int .i64 n)) :=
 .still fun G w ρ hh => by
  have h1 := hh.ev x (by rw [ho]; simp [Op.operands, Call.operands, hc, ha])
  refine ⟨.int .i64 n, ?_, .data _ _ (.v _)⟩
  rcases h with ⟨e, rows, own, hk, hx, rfl⟩ | ⟨s, hk, hx, rfl⟩ | ⟨e, hk⟩
  ·rw [hx] at h1
   obtain ⟨base, cc, h2, _⟩ := h1.list_inv.1.slice
   simp [execOp, ho, resolve, hc, ha, hty, invoke, builtin, Builtin.len_, h2, run_underlying (ht.slice hk), goInt, go_sem]
  ·rw [hx] at h1
   simp [execOp, ho, resolve, hc, ha, hty, invoke, builtin, Builtin.len_, h1.v_inv, run_underlying (ht.string hk), goInt, go_sem]
  ·simp [execOp, ho, resolve, hc, ha, hty, invoke, builtin, Builtin.len_, run_underlying (ht.array hk), goInt, go_sem]
end
end Go.Am
namespace Go.Am
open Go.RowKit
theorem add_mk (b off n : Nat) : (⟨b, off, none⟩ : Addr).add n = ⟨b, off + n, none⟩ := by unfold Addr.add; split <;> simp_all
theorem box_cell {G : Ghost} {w : World} {id : Nat} {cells : List AV} (h : ResHolds G w (id, .box cells)) {i : Nat} {a : AV} (ha : cells[i]? = some a) : ∃ x, w.cell? ⟨G.loc id, i, none⟩ = some x ∧ Sim G a x ∧ w.frozen? ⟨G.loc id, i, none⟩ = false := by
 obtain ⟨_, arr, E, fr, hh, hsz, hf, hc⟩ := h
 have hi : i < arr.size := Nat.lt_of_lt_of_le (List.getElem?_eq_some_iff.1 ha).1 hsz
 have h1 := hc i a ha
 have h2 : arr.getD i undef = arr[i] := by simp [hi]
 rw [h2] at h1
 exact ⟨arr[i], by simp [World.cell?, hh, hi], h1, hf i⟩
theorem cells_run {P : Program} {w : World} {b off n : Nat} {y : Nat → Value} (h : ∀ j, j < n → w.cell? ⟨b, off + j, none⟩ = some (y j)) : (loadCells ⟨b, off, none⟩ n).run P w = .ok ((List.range n).map y).toArray w :=
 run_loadCells w _ n y fun j hj => by rw [add_mk]; exact h j hj
section
variable {P : Program} {L : Heap} {ev raw : Operand → AV} {o : Oper}
theorem loadAt_one {t : TypeId} {ti : TI} {w : World} {b off : Nat} {x : Value} (ht : TIs P t ti) (hk : isAggK ti.kind = false) (hc : w.cell? ⟨b, off, none⟩ = some x) :
  (Instr.loadAt t (.pointer (some ⟨b, off, none⟩))).run P w = .ok x w := by
 unfold Instr.loadAt
 have h1 : (Instr.sureAddr (.pointer (some ⟨b, off, none⟩))).run P w = .ok ⟨b, off, none⟩ w := rfl
 rw [Sem.run_bind, h1]
 simp only [Result.andThen]
 unfold loadVar
 rw [Sem.run_bind, kindAgg ht w]
 rw [hk]
 simp [Result.andThen, hc]
theorem loadAt_agg {t : TypeId} {ti : TI} {w : World} {b off : Nat} {y : Nat → Value} (ht : TIs P t ti) (hk : isAggK ti.kind = true) (hc : ∀ j, j < ti.size → w.cell? ⟨b, off + j, none⟩ = some (y j)) :
  (Instr.loadAt t (.pointer (some ⟨b, off, none⟩))).run P w = .ok (.agg ((List.range ti.size).map y).toArray) w := by
 unfold Instr.loadAt
 have h1 : (Instr.sureAddr (.pointer (some ⟨b, off, none⟩))).run P w = .ok ⟨b, off, none⟩ w := rfl
 rw [Sem.run_bind, h1]
 simp only [Result.andThen]
 unfold loadVar
 rw [Sem.run_bind, kindAgg ht w]
 have h2 : (sizeOf t).run P w = .ok ti.size w := by simp [sizeOf, typeInfo, ht.info, ht.size]
 rw [hk]
 simp only [Result.andThen, if_true]
 rw [Sem.run_bind, h2]
 simp only [Result.andThen]
 rw [Sem.run_bind, cells_run hc]
 rfl
theorem range_getD (n : Nat) (y : Nat → Value) {i : Nat} (h : i < n) : ((List.range n).map y).toArray.getD i undef = y i := by simp [h]
def aload (L : Heap) (ti : TI) : AV → Option AV
 | .ptr id off => match findL L id with
  | some (.box cells) =>
   if isAggK ti.kind then (if off + ti.size ≤ cells.length then some (.agg ((cells.drop off).take ti.size)) else none)
   else cells[off]?
  | some (.seq rows k) =>
   if isAggK ti.kind then (if off + ti.size ≤ (seqC rows k).length then some (.agg (((seqC rows k).drop off).take ti.size)) else none)
   else (seqC rows k)[off]?
  | _ => none
 | .cref cells =>
  if isAggK ti.kind then (if ti.size ≤ cells.length then some (.agg (cells.take ti.size)) else none)
  else cells[0]?
 | _ => none
theorem take_get {α : Type} {l : List α} {n i : Nat} {a : α} (h : (l.take n)[i]? = some a) : l[i]? = some a ∧ i < n := by
 rw [List.getElem?_take] at h
 split at h
 ·exact ⟨h, by assumption⟩
 ·cases h
theorem load_run {G : Ghost} {w : World} {t : TypeId} {x : Value} {ax : AV} {ti : TI} {c : AV} (h1 : Sim G ax x) (hh : Holds G w L) (ht : TIs P t ti) (h : aload L ti ax = some c) : ∃ v ad, x = .pointer (some ad) ∧ (Instr.loadAt t x).run P w = .ok v w ∧ Sim G c v := by
  unfold aload at h
  split at h
  ·rename_i id off
   obtain ⟨hx1, hlive⟩ := h1.ptr_inv
   split at h
   ·rename_i cells hf
    have hres := hh.res _ (findL_mem hf)
    split at h
    ·rename_i hk
     split at h
     ·rename_i hle
      cases h
      have hy : ∀ j, ∃ y, j < ti.size → w.cell? ⟨G.loc id, off + j, none⟩ = some y ∧ ∀ a, cells[off + j]? = some a → Sim G a y := fun j => by
       by_cases hj : j < ti.size
       ·have : cells[off + j]? = some (cells[off + j]'(by omega)) := List.getElem?_eq_getElem _
        obtain ⟨y, k1, k2, _⟩ := box_cell hres this
        exact ⟨y, fun _ => ⟨k1, fun a ha => by rw [this] at ha; cases ha; exact k2⟩⟩
       ·exact ⟨undef, fun hn => absurd hn hj⟩
      refine ⟨_, _, hx1, (by rw [hx1]; exact loadAt_agg ht hk (y := fun j => (hy j).choose) fun j hj => ((hy j).choose_spec hj).1), .agg _ _ (by simp; omega) fun i a ha => ?_⟩
      obtain ⟨h2, h3⟩ := take_get ha
      rw [range_getD _ _ h3]
      exact ((hy i).choose_spec h3).2 a (by rw [List.getElem?_drop] at h2; exact h2)
     ·cases h
    ·rename_i hk
     obtain ⟨y, k1, k2, _⟩ := box_cell hres h
     exact ⟨y, _, hx1, (by rw [hx1]; exact loadAt_one ht (by simpa using hk) k1), k2⟩
   ·rename_i rows k hf
    have hres : ∀ {i a}, (seqC rows k)[i]? = some a → ResHolds G w (id, .box (seqC rows k)) := fun hi => (hh.res _ (findL_mem hf) (seqC_ne hi)).1
    generalize seqC rows k = cells at *
    split at h
    ·rename_i hk
     split at h
     ·rename_i hle
      cases h
      have hy : ∀ j, ∃ y, j < ti.size → w.cell? ⟨G.loc id, off + j, none⟩ = some y ∧ ∀ a, cells[off + j]? = some a → Sim G a y := fun j => by
       by_cases hj : j < ti.size
       ·have : cells[off + j]? = some (cells[off + j]'(by omega)) := List.getElem?_eq_getElem _
        obtain ⟨y, k1, k2, _⟩ := box_cell (hres this) this
        exact ⟨y, fun _ => ⟨k1, fun a ha => by rw [this] at ha; cases ha; exact k2⟩⟩
       ·exact ⟨undef, fun hn => absurd hn hj⟩
      refine ⟨_, _, hx1, (by rw [hx1]; exact loadAt_agg ht hk (y := fun j => (hy j).choose) fun j hj => ((hy j).choose_spec hj).1), .agg _ _ (by simp; omega) fun i a ha => ?_⟩
      obtain ⟨h2, h3⟩ := take_get ha
      rw [range_getD _ _ h3]
      exact ((hy i).choose_spec h3).2 a (by rw [List.getElem?_drop] at h2; exact h2)
     ·cases h
    ·rename_i hk
     obtain ⟨y, k1, k2, _⟩ := box_cell (hres h) h
     exact ⟨y, _, hx1, (by rw [hx1]; exact loadAt_one ht (by simpa using hk) k1), k2⟩
   ·cases h
  ·rename_i cells
   obtain ⟨b, off, y, hx1, hX, hS, h1'⟩ := h1.cref_inv
   split at h
   ·rename_i hk
    split at h
    ·rename_i hle
     cases h
     refine ⟨_, _, hx1, (by rw [hx1]; exact loadAt_agg ht hk (y := y) fun j hj => hh.X _ _ _ (hX j _ (List.getElem?_eq_getElem (by omega)))), .agg _ _ (by simp; omega) fun i a ha => ?_⟩
     obtain ⟨h2, h3⟩ := take_get ha
     rw [range_getD _ _ h3]
     exact .data _ _ (hS i a h2)
    ·cases h
   ·rename_i hk
    exact ⟨y 0, _, hx1, (by rw [hx1]; exact loadAt_one ht (by simpa using hk) (hh.X _ _ _ (by simpa using hX 0 c h))), .data _ _ (hS 0 c h)⟩
  ·cases h
theorem q_load {t : TypeId} {x : Operand} {ti : TI} {c : AV} (ho : o.op = .load t x) (ht : TIs P t ti) (h : aload L ti (ev x) = some c) : QOk P L ev raw o c :=
 .still fun G w ρ hh => by
  obtain ⟨v, ad, _, h2, h3⟩ := load_run (hh.ev x (by rw [ho]; simp [Op.operands])) hh.holds ht h
  refine ⟨v, ?_, h3⟩
  simp only [execOp, ho]
  rw [Sem.run_bind, h2]; rfl
theorem drop_get {α : Type} {l : List α} {n i : Nat} {a : α} (h : (l.drop n)[i]? = some a) : l[n + i]? = some a := by rw [List.getElem?_drop] at h; exact h
theorem cref_drop {G : Ghost} {cells : List AV} {b off : Nat} {y : Nat → Value} (hX : ∀ j a, cells[j]? = some a → G.X b (off + j) = some (y j)) (hS : ∀ j a, cells[j]? = some a → SimD G.X a (y j))
  (h1 : ∀ j a, cells[j]? = some a → (y j).oneCell' = true) (n : Nat) : Sim G (.cref (cells.drop n)) (.pointer (some ⟨b, off + n, none⟩)) :=
 .data _ _ (.cref _ b (off + n) (fun j => y (n + j)) (fun j a h => by rw [Nat.add_assoc]; exact hX _ a (drop_get h)) (fun j a h => hS _ a (drop_get h)) (fun j a h => h1 _ a (drop_get h)))
def amove (n : Nat) : AV → Option AV
 | .ptr id off => some (.ptr id (off + n))
 | .cref cells => some (.cref (cells.drop n))
 | _ => none
theorem amove_sim {G : Ghost} {n : Nat} {a c : AV} {x : Value} (h : Sim G a x) (hc : amove n a = some c) : ∃ b off, x = .pointer (some ⟨b, off, none⟩) ∧ Sim G c (.pointer (some ⟨b, off + n, none⟩)) := by
 unfold amove at hc
 split at hc
 ·cases hc
  obtain ⟨rfl, hl⟩ := h.ptr_inv
  exact ⟨_, _, rfl, .ptr _ _ hl⟩
 ·cases hc
  obtain ⟨b, off, y, rfl, hX, hS, h1⟩ := h.cref_inv
  exact ⟨b, off, rfl, cref_drop hX hS h1 n⟩
 ·cases hc
theorem q_fieldAddr {s : TypeId} {x : Operand} {f off sz : Nat} {ti : TI} {fs : List (Nat × Nat)} {c : AV} (ho : o.op = .fieldAddr s x f) (ht : TIs P s ti) (hk : ti.kind = .struct fs) (hf : fs[f]? = some (off, sz)) (hz : sz ≠ 0)
  (h : amove off (ev x) = some c) : QOk P L ev raw o c :=
 .still fun G w ρ hh => by
  have h1 := hh.ev x (by rw [ho]; simp [Op.operands])
  obtain ⟨b, off', h2, h3⟩ := amove_sim h1 h
  obtain ⟨F, hF, hFs⟩ := ht.struct hk
  rw [← hFs, List.getElem?_map, Option.map_eq_some_iff] at hf
  obtain ⟨fd, hfd, hfe⟩ := hf
  simp only [Prod.mk.injEq] at hfe
  obtain ⟨rfl, rfl⟩ := hfe
  rw [Array.getElem?_toList] at hfd
  refine ⟨_, ?_, h3⟩
  have hcz : ∃ i, P.info? fd.type = some i ∧ i.size ≠ 0 := by
   unfold Program.cellsOf at hz
   cases hi : P.info? fd.type with
   | none => simp [hi] at hz
   | some i => exact ⟨i, rfl, by simpa [hi] using hz⟩
  obtain ⟨i, hi, hi0⟩ := hcz
  simp only [execOp, ho, Instr.fieldAt, h2]
  rw [Sem.run_bind, Sem.run_bind, run_underlying hF]
  simp [hfd, Instr.sureAddr, fieldPlace, sizeOf, typeInfo, hi, hi0, add_mk]
theorem q_indexAddr_list {t e : TypeId} {x ix : Operand} {ti te : TI} {rows : List (List AV)} {own : Own} {k : IntKind} {n : Int} {row : List AV} (ho : o.op = .indexAddr t x ix) (ht : TIs P t ti) (hk : ti.kind = .slice e) (hte : TIs P e te)
  (hx : ev x = .list rows own) (hi : ev ix = .v (.int k n)) (h0 : 0 ≤ n) (hr : rows[n.toNat]? = some row) (hs : row.length = te.size) : QOk P L ev raw o (.cref row) :=
 .still fun G w ρ hh => by
  have h1 := hh.ev x (by rw [ho]; simp [Op.operands])
  have h2 := hh.ev ix (by rw [ho]; simp [Op.operands])
  rw [hx] at h1; rw [hi] at h2
  have h3 := h2.v_inv
  have hlt : n.toNat < rows.length := (List.getElem?_eq_some_iff.1 hr).1
  have h4 := h1.list_inv.1
  generalize hρ : ρ x = xv at h1 h4
  cases h4 with
  | nil _ a c hc _ _ => simp at hlt
  | list _ _ b off c s y hn hc _ _ hrow hX hS h1' =>
   have hse : s = te.size := by rw [← hs]; exact (hrow row (List.mem_of_getElem? hr)).symm
   subst hse
   refine ⟨.pointer (some ⟨b, off + n.toNat * te.size, none⟩), ?_, .data _ _ (.cref row b _ (fun j => y n.toNat j) (fun j a ha => hX _ _ j a hr ha) (fun j a ha => hS _ _ j a hr ha) (fun j a ha => h1' _ _ j a hr ha))⟩
   have hlt' : n < (rows.length : Int) := by omega
   simp only [execOp, ho, Instr.indexAt, h3, hρ]
   simp [asIntOf, run_underlying (ht.slice hk), h0, hlt', sizeOf, typeInfo, hte.info, hte.size, add_mk]
theorem q_indexAddr_arr {t e : TypeId} {x ix : Operand} {ti te : TI} {id off m c : Nat} {k : IntKind} {n : Int} (ho : o.op = .indexAddr t x ix) (ht : TIs P t ti) (hk : ti.kind = .slice e) (hte : TIs P e te)
  (hx : ev x = .arr id off m c) (hi : ev ix = .v (.int k n)) (h0 : 0 ≤ n) (hr : n < m) : QOk P L ev raw o (.ptr id (off + n.toNat * te.size)) :=
 .still fun G w ρ hh => by
  have h1 := hh.ev x (by rw [ho]; simp [Op.operands])
  have h2 := hh.ev ix (by rw [ho]; simp [Op.operands])
  rw [hx] at h1; rw [hi] at h2
  have h3 := h2.v_inv
  obtain ⟨base, h4, h5, h6, _, h7⟩ := h1.arr_inv
  obtain rfl := h7 (by omega)
  refine ⟨.pointer (some ⟨G.loc id, off + n.toNat * te.size, none⟩), ?_, .ptr id _ h5⟩
  simp only [execOp, ho, Instr.indexAt, h3, h4]
  simp [asIntOf, run_underlying (ht.slice hk), h0, hr, sizeOf, typeInfo, hte.info, hte.size, add_mk]
theorem q_indexAddr_array {t e : TypeId} {x ix : Operand} {ti te : TI} {len : Nat} {k : IntKind} {n : Int} {c : AV} (ho : o.op = .indexAddr t x ix) (ht : TIs P t ti) (hk : ti.kind = .array len e) (hte : TIs P e te)
  (hi : ev ix = .v (.int k n)) (h0 : 0 ≤ n) (h1 : n < len) (hc : amove (n.toNat * te.size) (ev x) = some c) : QOk P L ev raw o c :=
 .still fun G w ρ hh => by
  have h2 := hh.ev x (by rw [ho]; simp [Op.operands])
  have h3 := hh.ev ix (by rw [ho]; simp [Op.operands])
  rw [hi] at h3
  obtain ⟨b, off, h4, h5⟩ := amove_sim h2 hc
  refine ⟨_, ?_, h5⟩
  simp only [execOp, ho, Instr.indexAt, h3.v_inv, h4]
  simp [asIntOf, run_underlying (ht.array hk), h0, h1, Instr.sureAddr, sizeOf, typeInfo, hte.info, hte.size, add_mk]
end
end Go.Am
namespace Go.Am
open Go.RowKit
def Ghost.sealed (G : Ghost) (b : Nat) (arr : Array Value) (n : Nat) : Ghost := { G with X := fun b' i => if b' = b then (if i < n then arr[i]? else none) else G.X b' i }
theorem grow_alloc {G : Ghost} {w : World} {H : Heap} (hh : Holds G w H) (arr : Array Value) (E : TypeId) (fr : Nat × Nat) (n : Nat) : Grow G w (G.sealed w.heap.size arr n) (w.alloc (.cells arr E fr)) where
 os := rfl
 tape := rfl
 output := rfl
 size := by simp
 base := rfl
 loc := rfl
 tk := rfl
 live := rfl
 X := fun b i v h => by
  have : b ≠ w.heap.size := fun e => by
   subst e
   have := hh.X _ _ _ h
   simp [World.cell?] at this
  simp [Ghost.sealed, this, h]
 frame := fun b hb => by
  have h1 : (w.alloc (.cells arr E fr)).heap[b]? = w.heap[b]? := Below.heap_alloc _ _ _ hb
  exact ⟨.inl h1, fun _ => h1⟩
 lits := fun _ h => h
 newL := fun _ h => .inl h
 newX := fun b i v h => by
  by_cases hb : b = w.heap.size
  ·subst hb
   simp only [Ghost.sealed, if_true] at h
   split at h
   ·refine .inr ⟨Nat.le_refl _, ?_⟩
    have : (w.alloc (.cells arr E fr)).heap[w.heap.size]? = some (.cells arr E fr) := by
     show (w.heap.push _)[w.heap.size]? = _
     simp
    unfold World.cell?
    rw [this]
    simpa using h
   ·cases h
  ·left; simpa [Ghost.sealed, hb] using h
theorem Grow.lit {G G' : Ghost} {w w' : World} (h : Grow G w G' w') {b : Nat} (h1 : w.heap.size ≤ b) (h2 : b < w'.heap.size) (h3 : G.base ≤ w.heap.size) : Grow G w { G' with lits := fun c => G'.lits c ∨ c = b } w' :=
 ⟨h.os, h.tape, h.output, h.size, h.base, h.loc, h.tk, h.live, h.X, h.frame, fun c hc => .inl (h.lits c hc), fun c hc => by
  rcases hc with hc | rfl
  ·exact h.newL c hc
  ·exact .inr ⟨h1, h2, Nat.le_trans h3 h1⟩, h.newX⟩
theorem flat_get {α : Type} {rows : List (List α)} {s : Nat} (hr : ∀ row ∈ rows, row.length = s) {i j : Nat} {row : List α} {a : α} (hi : rows[i]? = some row) (hj : row[j]? = some a) : rows.flatten[i * s + j]? = some a := by
 induction rows generalizing i with
 | nil => simp at hi
 | cons r rows ih =>
  have hrs : r.length = s := hr r (by simp)
  cases i with
  | zero =>
   simp at hi; subst hi
   have hlt : j < r.length := (List.getElem?_eq_some_iff.1 hj).1
   simp [List.getElem?_append_left hlt, hj]
  | succ i =>
   simp at hi
   have := ih (fun x hx => hr x (List.mem_cons_of_mem _ hx)) hi
   have he : (i + 1) * s + j = r.length + (i * s + j) := by rw [hrs, Nat.add_mul]; omega
   rw [he, List.flatten_cons, List.getElem?_append_right (by omega), Nat.add_sub_cancel_left]
   exact this
theorem flatten_length {α : Type} {rows : List (List α)} {s : Nat} (hr : ∀ row ∈ rows, row.length = s) : rows.flatten.length = rows.length * s := by
 induction rows with
 | nil => simp
 | cons r rows ih => simp [ih fun x hx => hr x (List.mem_cons_of_mem _ hx), hr r (by simp), Nat.add_mul]; omega
theorem sealed_list {G : Ghost} {w : World} {H : Heap} (hh : Holds G w H) {arr : Array Value} {rows : List (List AV)} {s c : Nat} {o : Own} (hr : ∀ row ∈ rows, row.length = s) (hn : rows.length ≤ c) (hc : c ≤ maxLen)
  (ho : o = .full → c = rows.length) (hs : o = .free ∨ o = .full)
  (hc1 : ∀ (i : Nat) (a : AV), rows.flatten[i]? = some a → ∃ y, arr[i]? = some y ∧ SimD G.X a y ∧ y.oneCell' = true) :
  SimD (G.sealed w.heap.size arr (rows.length * s)).X (.list rows o) (.slice (some ⟨w.heap.size, 0, none⟩) rows.length c) := by
 have hg := grow_alloc hh arr 0 (0, 0) (rows.length * s)
 have hfl := flatten_length hr
 have key : ∀ i row j a, rows[i]? = some row → row[j]? = some a → ∃ y, arr[i * s + j]? = some y ∧ SimD G.X a y ∧ y.oneCell' = true ∧ i * s + j < rows.length * s := fun i row j a h1 h2 => by
  obtain ⟨y, k1, k2, k3⟩ := hc1 _ a (flat_get hr h1 h2)
  refine ⟨y, k1, k2, k3, ?_⟩
  have := (List.getElem?_eq_some_iff.1 (flat_get hr h1 h2)).1
  omega
 refine .list rows o w.heap.size 0 c s (fun i j => arr.getD (i * s + j) undef) hn hc ho hs hr (fun i row j a h1 h2 => ?_) (fun i row j a h1 h2 => ?_) (fun i row j a h1 h2 => ?_)
 all_goals
  obtain ⟨y, k1, k2, k3, k4⟩ := key i row j a h1 h2
  have k5 : arr.getD (i * s + j) undef = y := by
   have := (Array.getElem?_eq_some_iff.1 k1).1
   simp [k1]
 ·rw [k5, ← k1, Nat.zero_add]; simp only [Ghost.sealed, if_true, if_pos k4]
 ·rw [k5]; exact k2.mono hg.X
 ·rw [k5]; exact k3
section
variable {P : Program} {L : Heap} {ev raw : Operand → AV} {o : Oper}
theorem SimD.cut {X : Nat → Nat → Option Value} {rows : List (List AV)} {base : Option Addr} {c l h : Nat} {o' : Own} (hs : SimD X (.list rows .free) (.slice base rows.length c)) (hlh : l ≤ h) (hh : h ≤ rows.length) (m : Nat) (hm : h ≤ m) (hmc : m ≤ c) (s : Nat)
  (hrs : ∀ row ∈ rows, row.length = s) (ho : o' = .free ∨ o' = .full) (hf : o' = .full → m = h) :
  SimD X (.list ((rows.take h).drop l) o') (.slice (if m = l then base else base.map (·.add (l * s))) (h - l) (m - l)) := by
 have hlen : ((rows.take h).drop l).length = h - l := by simp; omega
 cases hs with
 | nil _ a _ hc _ _ =>
  simp only [List.length_nil] at hh hlen ⊢
  have : h - l = 0 := by omega
  simp only [List.take_nil, List.drop_nil, this]
  exact .nil _ _ _ (by omega) (fun e => by have := hf e; omega) ho
 | list _ _ b off _ s' y hn hc _ _ hr hX hS h1 =>
  by_cases h0 : (rows.take h).drop l = []
  ·rw [h0] at hlen ⊢
   simp only [List.length_nil] at hlen
   rw [← hlen]
   exact .nil _ _ _ (by omega) (fun e => by have := hf e; omega) ho
  ·have hpos : 0 < h - l := by rw [← hlen]; exact List.length_pos_iff.2 h0
   have hml : m ≠ l := by omega
   rw [if_neg hml, ← hlen]
   simp only [Option.map_some, add_mk]
   have hrow : ∃ row, row ∈ rows := by
    cases rows with
    | nil => simp at hh; omega
    | cons r _ => exact ⟨r, by simp⟩
   obtain ⟨r0, hr0⟩ := hrow
   have hss : s' = s := (hr r0 hr0).symm.trans (hrs r0 hr0)
   subst hss
   have hget : ∀ i row, ((rows.take h).drop l)[i]? = some row → rows[l + i]? = some row := fun i row hi => (take_get (drop_get hi)).1
   have he : ∀ i j, off + l * s' + i * s' + j = off + (l + i) * s' + j := fun i j => by rw [Nat.add_mul]; omega
   refine .list _ _ b (off + l * s') _ s' (fun i j => y (l + i) j) (by omega) (by omega) (fun e => by have := hf e; omega) ho (fun row hrow => hr row (List.mem_of_mem_take (List.mem_of_mem_drop hrow)))
    (fun i row j a k1 k2 => ?_) (fun i row j a k1 k2 => hS _ _ j a (hget i row k1) k2) (fun i row j a k1 k2 => h1 _ _ j a (hget i row k1) k2)
   rw [he]; exact hX _ _ j a (hget i row k1) k2
def optNat (ev : Operand → AV) (x : Option Operand) (d : Nat) : Option Nat :=
 match x with
 | none => some d
 | some x => match ev x with
  | .v (.int _ n) => some n.toNat
  | _ => none
def optOk (ev : Operand → AV) (x : Option Operand) : Prop :=
 match x with
 | none => True
 | some x => match ev x with
  | .v (.int _ n) => 0 ≤ n
  | _ => False
theorem sliceBound_run {w : World} {k : IntKind} {n : Int} {y : Nat} {code : BoundsCode} (h0 : 0 ≤ n) (h1 : n.toNat ≤ y) : (Instr.sliceBound (.int k n) y code).run P w = .ok n.toNat w := by
 have : n ≤ (y : Int) := by omega
 simp [Instr.sliceBound, asIntOf, h0, this]
theorem opt_run {G : Ghost} {x : Option Operand} {d r : Nat} {ρ : Operand → Value} (hs : ∀ y, x = some y → Sim G (ev y) (ρ y)) (hn : optNat ev x d = some r) (hok : optOk ev x) :
  (x = none ∧ r = d) ∨ ∃ y k n, x = some y ∧ ρ y = .int k n ∧ 0 ≤ n ∧ r = n.toNat := by
 cases x with
 | none => simp [optNat] at hn; exact .inl ⟨rfl, hn.symm⟩
 | some y =>
  right
  unfold optNat at hn; unfold optOk at hok
  simp only at hn hok
  split at hn
  ·rename_i k n he
   simp only [he] at hok
   cases hn
   have h1 := hs y rfl
   rw [he] at h1
   exact ⟨y, k, n, rfl, h1.v_inv, hok, rfl⟩
  ·cases hn
theorem q_slice {t e : TypeId} {x : Operand} {lo hi mx : Option Operand} {ti te : TI} {rows : List (List AV)} {own o' : Own} {l h : Nat} (ho : o.op = .slice t x lo hi mx) (ht : TIs P t ti) (hk : ti.kind = .slice e) (hte : TIs P e te)
  (hx : ev x = .list rows own) (hl : optNat ev lo 0 = some l) (hlo : optOk ev lo) (hh' : optNat ev hi rows.length = some h) (hhi : optOk ev hi) (hmo : optOk ev mx) (hlh : l ≤ h) (hhn : h ≤ rows.length)
  (hm : (mx = none ∧ (o' = .full → own = .full ∧ h = rows.length)) ∨ (hi ≠ none ∧ ∃ m, optNat ev mx 0 = some m ∧ mx ≠ none ∧ h ≤ m ∧ m ≤ rows.length ∧ (o' = .full → m = h)))
  (hrs : ∀ row ∈ rows, row.length = te.size) (ho' : o' = .free ∨ o' = .full) : QOk P L ev raw o (.list ((rows.take h).drop l) o') :=
 .still fun G w ρ hh => by
  have h1 := hh.ev x (by rw [ho]; simp [Op.operands])
  rw [hx] at h1
  have hS : ∀ y, (lo = some y ∨ hi = some y ∨ mx = some y) → Sim G (ev y) (ρ y) := fun y hy => hh.ev y (by
   rw [ho]; simp only [Op.operands, Array.mem_append, Option.mem_toArray]
   rcases hy with hy | hy | hy <;> simp [hy])
  have h2 := h1.list_inv
  obtain ⟨base, c, h3, h4, h5, _⟩ := h2.1.slice
  have hfull : own = .full → c = rows.length := fun e => by
   obtain ⟨b', c', h6, _, _, h7⟩ := (h2.2 e).slice
   rw [h3] at h6
   simp only [Value.slice.injEq] at h6
   rw [h6.2.2]; exact h7 rfl
  have hsz : ∀ w, (sizeOf e).run P w = .ok te.size w := fun w => by simp [sizeOf, typeInfo, hte.info, hte.size]
  have hb : ∃ m, h ≤ m ∧ m ≤ c ∧ (o' = .full → m = h) ∧ (Instr.sliceBounds true rows.length c (lo.map ρ) (hi.map ρ) (mx.map ρ)).run P w = .ok (l, h, m) w := by
   have hlo' := opt_run (fun y hy => hS y (.inl hy)) hl hlo
   have hhi' := opt_run (fun y hy => hS y (.inr (.inl hy))) hh' hhi
   rcases hm with ⟨rfl, hmf⟩ | ⟨hne, m, hmm, hmne, hm1, hm2, hmf⟩
   ·refine ⟨c, by omega, Nat.le_refl _, fun e => by have := hmf e; rw [hfull this.1, this.2], ?_⟩
    rcases hlo' with ⟨rfl, rfl⟩ | ⟨y, k, n, rfl, hy, hn0, rfl⟩ <;> rcases hhi' with ⟨rfl, rfl⟩ | ⟨y', k', n', rfl, hy', hn0', rfl⟩
    ·simp [Instr.sliceBounds]
    ·simp [Instr.sliceBounds, hy', sliceBound_run hn0' (show n'.toNat ≤ c by omega)]
    ·simp [Instr.sliceBounds, hy, sliceBound_run hn0 hlh]
    ·simp [Instr.sliceBounds, hy, hy', sliceBound_run hn0' (show n'.toNat ≤ c by omega), sliceBound_run hn0 hlh]
   ·refine ⟨m, hm1, by omega, hmf, ?_⟩
    have hmx' := opt_run (fun y hy => hS y (.inr (.inr hy))) hmm hmo
    rcases hmx' with ⟨rfl, rfl⟩ | ⟨y2, k2, n2, rfl, hy2, hn02, rfl⟩
    ·exact absurd rfl hmne
    rcases hhi' with ⟨rfl, rfl⟩ | ⟨y', k', n', rfl, hy', hn0', rfl⟩
    ·exact absurd rfl hne
    rcases hlo' with ⟨rfl, rfl⟩ | ⟨y, k, n, rfl, hy, hn0, rfl⟩
    ·simp [Instr.sliceBounds, hy', hy2, sliceBound_run hn02 (show n2.toNat ≤ c by omega), sliceBound_run hn0' hm1]
    ·simp [Instr.sliceBounds, hy, hy', hy2, sliceBound_run hn02 (show n2.toNat ≤ c by omega), sliceBound_run hn0' hm1, sliceBound_run hn0 hlh]
  obtain ⟨m, hm1, hm2, hm3, hrun⟩ := hb
  have hlen : ((rows.take h).drop l).length = h - l := by simp; omega
  refine ⟨.slice (if m = l then base else base.map (·.add (l * te.size))) (h - l) (m - l), ?_, .data _ _ ?_⟩
  ·simp only [execOp, ho, Instr.sliceAt, h3]
   simp [run_underlying (ht.slice hk), Instr.slice, hrun, hsz]
  ·have h6 := h2.1
   rw [h3] at h6
   exact h6.cut hlh hhn m hm1 hm2 te.size hrs ho' hm3
theorem q_slice_arr {t e : TypeId} {x : Operand} {lo hi mx : Option Operand} {ti te : TI} {id off n c l h m : Nat} (ho : o.op = .slice t x lo hi mx) (ht : TIs P t ti) (hk : ti.kind = .slice e) (hte : TIs P e te)
  (hx : ev x = .arr id off n c) (hl : optNat ev lo 0 = some l) (hlo : optOk ev lo) (hh' : optNat ev hi n = some h) (hhi : optOk ev hi) (hmo : optOk ev mx) (hlh : l ≤ h) (hhm : h ≤ m) (hmc : m ≤ c)
  (hm : (mx = none ∧ m = c) ∨ (hi ≠ none ∧ mx ≠ none ∧ optNat ev mx 0 = some m)) : QOk P L ev raw o (.arr id (off + l * te.size) (h - l) (m - l)) :=
 .still fun G w ρ hh => by
  have h1 := hh.ev x (by rw [ho]; simp [Op.operands])
  rw [hx] at h1
  have hS : ∀ y, (lo = some y ∨ hi = some y ∨ mx = some y) → Sim G (ev y) (ρ y) := fun y hy => hh.ev y (by
   rw [ho]; simp only [Op.operands, Array.mem_append, Option.mem_toArray]
   rcases hy with hy | hy | hy <;> simp [hy])
  obtain ⟨base, h3, h4, h5, h6, h7⟩ := h1.arr_inv
  have hsz : ∀ w, (sizeOf e).run P w = .ok te.size w := fun w => by simp [sizeOf, typeInfo, hte.info, hte.size]
  have hrun : (Instr.sliceBounds true n c (lo.map ρ) (hi.map ρ) (mx.map ρ)).run P w = .ok (l, h, m) w := by
   have hlo' := opt_run (fun y hy => hS y (.inl hy)) hl hlo
   have hhi' := opt_run (fun y hy => hS y (.inr (.inl hy))) hh' hhi
   rcases hm with ⟨rfl, rfl⟩ | ⟨hne, hmne, hmm⟩
   ·rcases hlo' with ⟨rfl, rfl⟩ | ⟨y, k, q, rfl, hy, hn0, rfl⟩ <;> rcases hhi' with ⟨rfl, rfl⟩ | ⟨y', k', q', rfl, hy', hn0', rfl⟩
    ·simp [Instr.sliceBounds]
    ·simp [Instr.sliceBounds, hy', sliceBound_run hn0' hhm]
    ·simp [Instr.sliceBounds, hy, sliceBound_run hn0 hlh]
    ·simp [Instr.sliceBounds, hy, hy', sliceBound_run hn0' hhm, sliceBound_run hn0 hlh]
   ·have hmx' := opt_run (fun y hy => hS y (.inr (.inr hy))) hmm hmo
    rcases hmx' with ⟨rfl, rfl⟩ | ⟨y2, k2, n2, rfl, hy2, hn02, rfl⟩
    ·exact absurd rfl hmne
    rcases hhi' with ⟨rfl, rfl⟩ | ⟨y', k', n', rfl, hy', hn0', rfl⟩
    ·exact absurd rfl hne
    rcases hlo' with ⟨rfl, rfl⟩ | ⟨y, k, n, rfl, hy, hn0, rfl⟩
    ·simp [Instr.sliceBounds, hy', hy2, sliceBound_run hn02 hmc, sliceBound_run hn0' hhm]
    ·simp [Instr.sliceBounds, hy, hy', hy2, sliceBound_run hn02 hmc, sliceBound_run hn0' hhm, sliceBound_run hn0 hlh]
  refine ⟨.slice (if m = l then base else base.map (·.add (l * te.size))) (h - l) (m - l), ?_, .arr _ _ _ _ _ h4 (by omega) (by omega) fun hne => ?_⟩
  ·simp only [execOp, ho, Instr.sliceAt, h3]
   simp [run_underlying (ht.slice hk), Instr.slice, hrun, hsz]
  ·rw [if_neg (by omega), h7 (by omega)]
   simp [add_mk]
theorem q_slice_str {t : TypeId} {x : Operand} {lo hi : Option Operand} {ti : TI} {s : ByteArray} {l h : Nat} (ho : o.op = .slice t x lo hi none) (ht : TIs P t ti) (hk : ti.kind = .string)
  (hx : ev x = .v (.string s)) (hl : optNat ev lo 0 = some l) (hlo : optOk ev lo) (hh' : optNat ev hi s.size = some h) (hhi : optOk ev hi) (hlh : l ≤ h) (hhn : h ≤ s.size) : QOk P L ev raw o (.v (.string (s.extract l h))) :=
 .still fun G w ρ hh => by
  have h1 := hh.ev x (by rw [ho]; simp [Op.operands])
  rw [hx] at h1
  have hS : ∀ y, (lo = some y ∨ hi = some y) → Sim G (ev y) (ρ y) := fun y hy => hh.ev y (by
   rw [ho]; simp only [Op.operands, Array.mem_append, Option.mem_toArray]
   rcases hy with hy | hy <;> simp [hy])
  have hlo' := opt_run (fun y hy => hS y (.inl hy)) hl hlo
  have hhi' := opt_run (fun y hy => hS y (.inr hy)) hh' hhi
  refine ⟨.string (s.extract l h), ?_, .data _ _ (.v _)⟩
  have hrun : (Instr.sliceBounds false s.size s.size (lo.map ρ) (hi.map ρ) none).run P w = .ok (l, h, s.size) w := by
   rcases hlo' with ⟨rfl, rfl⟩ | ⟨y, k, n, rfl, hy, hn0, rfl⟩ <;> rcases hhi' with ⟨rfl, rfl⟩ | ⟨y', k', n', rfl, hy', hn0', rfl⟩
   ·simp [Instr.sliceBounds]
   ·simp [Instr.sliceBounds, hy', sliceBound_run hn0' hhn]
   ·simp [Instr.sliceBounds, hy, sliceBound_run hn0 hlh]
   ·simp [Instr.sliceBounds, hy, hy', sliceBound_run hn0' hhn, sliceBound_run hn0 hlh]
  simp only [execOp, ho, Instr.sliceAt, h1.v_inv]
  simp [run_underlying (ht.string hk), Instr.slice, hrun]
end
end Go.Am
