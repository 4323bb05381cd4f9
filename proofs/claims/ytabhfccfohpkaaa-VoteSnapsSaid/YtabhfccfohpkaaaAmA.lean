/- An abstract machine for the walks: values without addresses, a small heap of named objects, and what it means that a world holds them. -/
import Derived.Test.YtabhfccfohpkaaaChecked
import Derived.ProofKit
import Derived.Below
namespace Go.Am
open Go.RowKit

inductive Own where
  | free
  | full
  | lit
  | tok (k : Nat)
  deriving Inhabited

inductive AV where
  | v (x : Value)
  | list (rows : List (List AV)) (o : Own)
  | agg (l : List AV)
  | tuple (l : List AV)
  | ptr (id off : Nat)
  | arr (id off n c : Nat)
  | cref (cells : List AV)
  | fn (f : FuncId) (cap : List AV)
  | bnd (f : FuncId) (fst : List AV)
  | iface (t : TypeId) (x : AV)
  | dead

instance : Inhabited AV := ⟨.dead⟩

structure Tok where
  s : Nat
  n : Nat
  val : Value
  spare : Option (Nat × Nat × Nat)

/-- what is known of memory beside the world: cells that stay as they are, where objects lie, where rows that may grow lie -/
structure Ghost where
  X : Nat → Nat → Option Value
  loc : Nat → Nat
  tk : Nat → Tok
  live : Nat → Prop
  lits : Nat → Prop
  base : Nat

inductive SimD (X : Nat → Nat → Option Value) : AV → Value → Prop
  | v (x : Value) : SimD X (.v x) x
  | dead (x : Value) : SimD X .dead x
  | nil (o : Own) (a : Option Addr) (c : Nat) (hc : c ≤ maxLen) (ho : o = .full → c = 0) (hs : o = .free ∨ o = .full) : SimD X (.list [] o) (.slice a 0 c)
  | list (rows : List (List AV)) (o : Own) (b off c s : Nat) (y : Nat → Nat → Value) (hn : rows.length ≤ c) (hc : c ≤ maxLen) (ho : o = .full → c = rows.length) (hs : o = .free ∨ o = .full)
      (hr : ∀ row ∈ rows, row.length = s) (hX : ∀ i row j a, rows[i]? = some row → row[j]? = some a → X b (off + i * s + j) = some (y i j))
      (hS : ∀ i row j a, rows[i]? = some row → row[j]? = some a → SimD X a (y i j))
      (h1 : ∀ i row j a, rows[i]? = some row → row[j]? = some a → (y i j).oneCell' = true) : SimD X (.list rows o) (.slice (some ⟨b, off, none⟩) rows.length c)
  | cref (cells : List AV) (b off : Nat) (y : Nat → Value) (hX : ∀ j a, cells[j]? = some a → X b (off + j) = some (y j)) (hS : ∀ j a, cells[j]? = some a → SimD X a (y j))
      (h1 : ∀ j a, cells[j]? = some a → (y j).oneCell' = true) : SimD X (.cref cells) (.pointer (some ⟨b, off, none⟩))

inductive Sim (G : Ghost) : AV → Value → Prop
  | data (a : AV) (x : Value) (h : SimD G.X a x) : Sim G a x
  | tok (rows : List (List AV)) (k : Nat) (x : Value) (hk : G.live k) (h : SimD G.X (.list rows .free) x) (hl : rows.length ≤ (G.tk k).n) (hz : ∀ row ∈ rows, row.length = (G.tk k).s) (he : rows.length = (G.tk k).n → x = (G.tk k).val) : Sim G (.list rows (.tok k)) x
  | ptr (id off : Nat) (hk : G.live id) : Sim G (.ptr id off) (.pointer (some ⟨G.loc id, off, none⟩))
  | arr (id off n c : Nat) (base : Option Addr) (hk : G.live id) (hn : n ≤ c) (hc : c ≤ maxLen) (hb : c ≠ 0 → base = some ⟨G.loc id, off, none⟩) : Sim G (.arr id off n c) (.slice base n c)
  | fn (f : FuncId) (cap : List AV) (vs : Array Value) (hl : cap.length = vs.size) (h : ∀ i a, cap[i]? = some a → Sim G a (vs.getD i undef)) : Sim G (.fn f cap) (.func (.func f) #[] vs)
  | bnd (f : FuncId) (cap : List AV) (vs : Array Value) (hl : cap.length = vs.size) (h : ∀ i a, cap[i]? = some a → Sim G a (vs.getD i undef)) : Sim G (.bnd f cap) (.func (.func f) vs #[])
  | agg (l : List AV) (vs : Array Value) (hl : l.length = vs.size) (h : ∀ i a, l[i]? = some a → Sim G a (vs.getD i undef)) : Sim G (.agg l) (.agg vs)
  | tuple (l : List AV) (vs : Array Value) (hl : l.length = vs.size) (h : ∀ i a, l[i]? = some a → Sim G a (vs.getD i undef)) : Sim G (.tuple l) (.tuple vs)
  | iface (t : TypeId) (a : AV) (x : Value) (h : Sim G a x) : Sim G (.iface t a) (.iface t x)

theorem SimD.mono {X X' : Nat → Nat → Option Value} (hX : ∀ b i v, X b i = some v → X' b i = some v) {a : AV} {x : Value} (h : SimD X a x) : SimD X' a x := by
  induction h with
  | v x => exact .v x
  | dead x => exact .dead x
  | nil o a c hc ho hs => exact .nil o a c hc ho hs
  | list rows o b off c s y hn hc ho hs hr hx _ h1 ih => exact .list rows o b off c s y hn hc ho hs hr (fun i row j a h1 h2 => hX _ _ _ (hx i row j a h1 h2)) ih h1
  | cref cells b off y hx _ h1 ih => exact .cref cells b off y (fun j a h => hX _ _ _ (hx j a h)) ih h1

inductive Res where
  | box (cells : List AV)
  | tok (s n : Nat)
  | seq (rows : List (List AV)) (k : Nat)
  deriving Inhabited
/-- a value that speaks of no names -/
def AV.pure : AV → Bool
  | .v _ => true
  | .dead => true
  | .cref _ => true
  | .list _ .free => true
  | .list _ .full => true
  | _ => false
/-- the cells of rows, and those behind them of which nothing is known -/
def seqC (rows : List (List AV)) (k : Nat) : List AV := rows.flatten ++ List.replicate k .dead

theorem seqC_ne {rows : List (List AV)} {k i : Nat} {a : AV} (h : (seqC rows k)[i]? = some a) : rows.length + k ≠ 0 := fun e => by
  have h1 : rows = [] := List.eq_nil_of_length_eq_zero (by omega)
  have h2 : k = 0 := by omega
  subst h1; subst h2
  simp [seqC] at h
abbrev Heap := List (Nat × Res)

/-- a resource's block; rows that may grow and have none yet lie nowhere -/
def Ghost.placed (G : Ghost) : Nat × Res → Option Nat
  | (id, .box _) => some (G.loc id)
  | (id, .tok _ _) => (G.tk id).spare.map (·.1)
  | (id, .seq rows k) => if rows.length + k = 0 then none else some (G.loc id)

def blocksOf (G : Ghost) (H : Heap) : List Nat := H.filterMap G.placed

def BoxHolds (G : Ghost) (w : World) (id : Nat) (cells : List AV) : Prop :=
  (∀ i, G.X (G.loc id) i = none) ∧ ∃ arr E fr, w.heap[G.loc id]? = some (.cells arr E fr) ∧ cells.length ≤ arr.size ∧ (∀ i, w.frozen? ⟨G.loc id, i, none⟩ = false) ∧
      ∀ i a, cells[i]? = some a → Sim G a (arr.getD i undef)
def ResHolds (G : Ghost) (w : World) : Nat × Res → Prop
  | (id, .box cells) => BoxHolds G w id cells
  | (id, .seq rows k) => rows.length + k ≠ 0 → BoxHolds G w id (seqC rows k) ∧ ∀ a ∈ rows.flatten, a.pure = true
  | (id, .tok s n) => (G.tk id).s = s ∧ (G.tk id).n = n ∧ match (G.tk id).spare with
      | none => ∃ base, (G.tk id).val = .slice base n n ∧ n ≤ maxLen
      | some (b, off, cap) => (G.tk id).val = .slice (some ⟨b, off, none⟩) n cap ∧ n ≤ cap ∧ cap ≤ maxLen ∧
          (∃ arr E fr, w.heap[b]? = some (.cells arr E fr) ∧ off + cap * s ≤ arr.size ∧ ∀ i, i < arr.size → w.frozen? ⟨b, i, none⟩ = false) ∧ ∀ i, off + n * s ≤ i → G.X b i = none

structure Holds (G : Ghost) (w : World) (H : Heap) : Prop where
  X : ∀ b i v, G.X b i = some v → w.cell? ⟨b, i, none⟩ = some v
  res : ∀ r ∈ H, ResHolds G w r
  ids : (H.map (·.1)).Nodup
  live : ∀ r ∈ H, G.live r.1
  blocks : (blocksOf G H).Nodup
  lits : ∀ b, G.lits b → G.base ≤ b ∧ b < w.heap.size ∧ b ∉ blocksOf G H

/-- a block holds the same cells -/
def Alike (w w' : World) (b : Nat) : Prop := w'.heap[b]? = w.heap[b]? ∨ ∃ arr E fr fr', w.heap[b]? = some (.cells arr E fr) ∧ w'.heap[b]? = some (.cells arr E fr')
theorem frozen_of_block {w w' : World} {b : Nat} (h : w'.heap[b]? = w.heap[b]?) (i : Nat) : w'.frozen? ⟨b, i, none⟩ = w.frozen? ⟨b, i, none⟩ := by simp [World.frozen?, h]
theorem Alike.trans {w w' w'' : World} {b : Nat} (h : Alike w w' b) (k : Alike w' w'' b) : Alike w w'' b := by
  rcases h with h | ⟨arr, E, fr, fr', h1, h2⟩
  · rcases k with k | ⟨arr, E, fr, fr', k1, k2⟩
    · exact .inl (k.trans h)
    · exact .inr ⟨arr, E, fr, fr', by rw [← h]; exact k1, k2⟩
  · rcases k with k | ⟨arr', E', fr1, fr2, k1, k2⟩
    · exact .inr ⟨arr, E, fr, fr', h1, by rw [k]; exact h2⟩
    · rw [h2] at k1
      simp only [Option.some.injEq, Obj.cells.injEq] at k1
      obtain ⟨rfl, rfl, rfl⟩ := k1
      exact .inr ⟨arr, E, fr, fr2, h1, k2⟩
theorem Alike.cell {w w' : World} {b i : Nat} {v : Value} (h : Alike w w' b) (hc : w.cell? ⟨b, i, none⟩ = some v) : w'.cell? ⟨b, i, none⟩ = some v := by
  rcases h with h | ⟨arr, E, fr, fr', h1, h2⟩
  · simp only [World.cell?, h] at hc ⊢; exact hc
  · simp only [World.cell?, h1] at hc
    simp only [World.cell?, h2]; exact hc

/-- from one state to a later one: what stays -/
structure Step (G : Ghost) (w : World) (H : Heap) (G' : Ghost) (w' : World) (H' : Heap) : Prop where
  os : w'.os = w.os
  tape : w'.tape = w.tape
  output : w'.output = w.output
  size : w.heap.size ≤ w'.heap.size
  base : G'.base = G.base
  X : ∀ b i v, G.X b i = some v → G'.X b i = some v
  frame : ∀ b, b < w.heap.size → b ∉ blocksOf G H → Alike w w' b ∧ (¬ G.lits b → w'.heap[b]? = w.heap[b]?)
  newX : ∀ b i v, G'.X b i = some v → G.X b i = some v ∨ w.heap.size ≤ b ∨ b ∈ blocksOf G H
  newB : ∀ b ∈ blocksOf G' H', b ∈ blocksOf G H ∨ w.heap.size ≤ b
  live : ∀ id, G.live id → G'.live id ∧ G'.loc id = G.loc id ∧ ((G'.tk id = G.tk id) ∨ (id ∈ H.map (·.1) ∧ (G.tk id).n < (G'.tk id).n ∧ (G'.tk id).s = (G.tk id).s))
  newI : ∀ id ∈ H'.map (·.1), id ∈ H.map (·.1) ∨ ¬ G.live id
  lits : ∀ b, G.lits b → G'.lits b
  newL : ∀ b, G'.lits b → G.lits b ∨ w.heap.size ≤ b

theorem Step.refl (G : Ghost) (w : World) (H : Heap) : Step G w H G w H :=
  ⟨rfl, rfl, rfl, Nat.le_refl _, rfl, fun _ _ _ h => h, fun _ _ _ => ⟨.inl rfl, fun _ => rfl⟩, fun _ _ _ h => .inl h, fun _ h => .inl h, fun _ h => ⟨h, rfl, .inl rfl⟩, fun _ h => .inl h, fun _ h => h, fun _ h => .inl h⟩
theorem Step.trans {G G' G'' : Ghost} {w w' w'' : World} {H H' H'' : Heap} (h : Step G w H G' w' H') (k : Step G' w' H' G'' w'' H'') : Step G w H G'' w'' H'' where
  os := k.os.trans h.os
  tape := k.tape.trans h.tape
  output := k.output.trans h.output
  size := Nat.le_trans h.size k.size
  base := k.base.trans h.base
  X := fun b i v hx => k.X b i v (h.X b i v hx)
  frame := fun b hb hn => by
    have : b ∉ blocksOf G' H' := fun hm => by
      rcases h.newB b hm with h1 | h1
      · exact hn h1
      · omega
    obtain ⟨k1, k2⟩ := k.frame b (Nat.lt_of_lt_of_le hb h.size) this
    obtain ⟨h1, h2⟩ := h.frame b hb hn
    refine ⟨h1.trans k1, fun hlt => ?_⟩
    rw [k2 fun hl => ?_, h2 hlt]
    rcases h.newL b hl with hl | hl
    · exact hlt hl
    · omega
  newX := fun b i v hx => by
    rcases k.newX b i v hx with h1 | h1 | h1
    · exact h.newX b i v h1
    · exact .inr (.inl (Nat.le_trans h.size h1))
    · rcases h.newB b h1 with h2 | h2
      · exact .inr (.inr h2)
      · exact .inr (.inl h2)
  newB := fun b hb => by
    rcases k.newB b hb with h1 | h1
    · exact h.newB b h1
    · exact .inr (Nat.le_trans h.size h1)
  live := fun id hid => by
    obtain ⟨a1, a2, a3⟩ := h.live id hid
    obtain ⟨b1, b2, b3⟩ := k.live id a1
    refine ⟨b1, b2.trans a2, ?_⟩
    rcases a3 with a3 | a3 <;> rcases b3 with b3 | b3
    · exact .inl (b3.trans a3)
    · rw [a3] at b3
      exact .inr ⟨(h.newI id b3.1).resolve_right (fun hn => hn hid), b3.2⟩
    · rw [b3]; exact .inr a3
    · exact .inr ⟨a3.1, Nat.lt_trans a3.2.1 b3.2.1, b3.2.2.trans a3.2.2⟩
  newI := fun id hid => by
    rcases k.newI id hid with h1 | h1
    · exact h.newI id h1
    · exact .inr fun hl => h1 (h.live id hl).1
  lits := fun b hb => k.lits b (h.lits b hb)
  newL := fun b hb => by
    rcases k.newL b hb with h1 | h1
    · exact h.newL b h1
    · exact .inr (Nat.le_trans h.size h1)

theorem Step.below {G G' : Ghost} {w w' : World} {H H' : Heap} (h : Step G w H G' w' H') (hb : ∀ b, ¬ G.lits b) (hH : blocksOf G H = []) : Below w.heap.size w w' :=
  ⟨h.os, h.tape, h.output, h.size, fun k hk => (h.frame k hk (by simp [hH])).2 (hb k)⟩

/-- the block of a resource is there -/
theorem ResHolds.lt {G : Ghost} {w : World} {r : Nat × Res} {b : Nat} (h : ResHolds G w r) (hb : G.placed r = some b) : b < w.heap.size := by
  obtain ⟨id, r⟩ := r
  cases r with
  | box cells =>
    obtain ⟨_, arr, E, fr, hh, _⟩ := h
    simp only [Ghost.placed, Option.some.injEq] at hb
    subst hb
    exact (Array.getElem?_eq_some_iff.1 hh).1
  | seq rows k =>
    simp only [Ghost.placed] at hb
    split at hb
    · cases hb
    · rename_i hne
      obtain ⟨⟨_, arr, E, fr, hh, _⟩, _⟩ := h hne
      simp only [Option.some.injEq] at hb
      subst hb
      exact (Array.getElem?_eq_some_iff.1 hh).1
  | tok s n =>
    obtain ⟨_, _, h⟩ := h
    simp only [Ghost.placed, Option.map_eq_some_iff] at hb
    obtain ⟨⟨b', off, cap⟩, hb, rfl⟩ := hb
    rw [hb] at h
    obtain ⟨_, _, _, ⟨arr, E, fr, hh, _⟩, _⟩ := h
    exact (Array.getElem?_eq_some_iff.1 hh).1
theorem Holds.lt {G : Ghost} {w : World} {H : Heap} (h : Holds G w H) {b : Nat} (hb : b ∈ blocksOf G H) : b < w.heap.size := by
  obtain ⟨r, hr, hp⟩ := List.mem_filterMap.1 hb
  exact (h.res r hr).lt hp

/-- a value means the same later on: its cells stay, its objects lie where they lay; a row that grew on is longer -/
theorem Sim.mono {G G' : Ghost} (hX : ∀ b i v, G.X b i = some v → G'.X b i = some v)
    (hl : ∀ id, G.live id → G'.live id ∧ G'.loc id = G.loc id ∧ ((G'.tk id = G.tk id) ∨ ((G.tk id).n < (G'.tk id).n ∧ (G'.tk id).s = (G.tk id).s))) {a : AV} {x : Value} (h : Sim G a x) : Sim G' a x := by
  induction h with
  | data a x h => exact .data a x (h.mono hX)
  | tok rows k x hk h hle hz he =>
    obtain ⟨h1, _, h2⟩ := hl k hk
    rcases h2 with h2 | ⟨h2, h3⟩
    · exact .tok rows k x h1 (h.mono hX) (by rw [h2]; exact hle) (by rw [h2]; exact hz) (by rw [h2]; exact he)
    · exact .tok rows k x h1 (h.mono hX) (by omega) (by rw [h3]; exact hz) (by omega)
  | ptr id off hk =>
    obtain ⟨h1, h2, _⟩ := hl id hk
    rw [← h2]; exact .ptr id off h1
  | arr id off n c base hk hn hc hb =>
    obtain ⟨h1, h2, _⟩ := hl id hk
    exact .arr id off n c base h1 hn hc (by rw [h2]; exact hb)
  | fn f cap vs hl' h ih => exact .fn f cap vs hl' ih
  | bnd f cap vs hl' h ih => exact .bnd f cap vs hl' ih
  | agg l vs hl' h ih => exact .agg l vs hl' ih
  | tuple l vs hl' h ih => exact .tuple l vs hl' ih
  | iface t a x h ih => exact .iface t a x ih
theorem Step.sim {G G' : Ghost} {w w' : World} {H H' : Heap} (h : Step G w H G' w' H') {a : AV} {x : Value} (hs : Sim G a x) : Sim G' a x := hs.mono h.X fun id hid => let ⟨a, b, c⟩ := h.live id hid; ⟨a, b, c.imp (fun h => h) And.right⟩

/-- in a slot: a row that was just written out may be named as such -/
def Slot (G : Ghost) (a : AV) (x : Value) : Prop :=
  match a with
  | .list rows .lit => Sim G (.list rows .full) x ∧ ∃ b off, x = .slice (some ⟨b, off, none⟩) rows.length rows.length ∧ G.lits b
  | a => Sim G a x
def AV.down : AV → AV
  | .list rows .lit => .list rows .full
  | a => a
theorem Slot.down {G : Ghost} {a : AV} {x : Value} (h : Slot G a x) : Sim G a.down x := by
  unfold Slot at h; unfold AV.down
  split <;> split at h <;> simp_all
theorem Slot.mono {G G' : Ghost} (hb : ∀ b, G.lits b → G'.lits b) (hm : ∀ a x, Sim G a x → Sim G' a x) {a : AV} {x : Value} (h : Slot G a x) : Slot G' a x := by
  unfold Slot at *
  split
  · simp only at h
    obtain ⟨h1, b, off, h2, h3⟩ := h
    exact ⟨hm _ _ h1, b, off, h2, hb _ h3⟩
  · split at h
    · rename_i h0; exact absurd rfl (h0 _)
    · exact hm _ _ h
theorem Slot.of {G : Ghost} {a : AV} {x : Value} (h : Sim G a x) : Slot G a x := by
  unfold Slot; split
  · cases h with
    | data _ _ h =>
      cases h with
      | nil _ _ _ _ _ hs => rcases hs with h | h <;> cases h
      | list _ _ _ _ _ _ _ _ _ _ hs _ _ _ _ => rcases hs with h | h <;> cases h
  · exact h

theorem blocksOf_append (G : Ghost) (H R : Heap) : blocksOf G (H ++ R) = blocksOf G H ++ blocksOf G R := by simp [blocksOf]
theorem placed_same {G G' : Ghost} {r : Nat × Res} (hl : G'.loc r.1 = G.loc r.1) (ht : G'.tk r.1 = G.tk r.1) : G'.placed r = G.placed r := by
  obtain ⟨id, r⟩ := r
  cases r <;> simp_all [Ghost.placed]

/-- a resource whose block is left alone holds on -/
theorem ResHolds.keep {G G' : Ghost} {w w' : World} {r : Nat × Res} (h : ResHolds G w r) (hl : G'.loc r.1 = G.loc r.1) (ht : G'.tk r.1 = G.tk r.1)
    (hs : ∀ a x, Sim G a x → Sim G' a x) (hb : ∀ b, G.placed r = some b → w'.heap[b]? = w.heap[b]? ∧ ∀ i v, G'.X b i = some v → G.X b i = some v) : ResHolds G' w' r := by
  obtain ⟨id, r⟩ := r
  have hnone : ∀ b, G.placed (id, r) = some b → ∀ i, G.X b i = none → G'.X b i = none := fun b h1 i h2 => by
    cases h3 : G'.X b i with
    | none => rfl
    | some v => rw [(hb b h1).2 i v h3] at h2; cases h2
  cases r with
  | box cells =>
    obtain ⟨h0, arr, E, fr, hh, hsz, hf, hc⟩ := h
    simp only at hl ht
    obtain ⟨k1, k2⟩ := hb _ rfl
    refine ⟨fun i => by rw [hl]; exact hnone _ rfl i (h0 i), arr, E, fr, by rw [hl, k1]; exact hh, hsz, fun i => by rw [hl, frozen_of_block k1]; exact hf i, fun i a ha => hs _ _ (hc i a ha)⟩
  | seq rows k =>
    intro hne
    obtain ⟨⟨h0, arr, E, fr, hh, hsz, hf, hc⟩, hp⟩ := h hne
    simp only at hl ht
    have hpl : G.placed (id, .seq rows k) = some (G.loc id) := if_neg hne
    obtain ⟨k1, k2⟩ := hb _ hpl
    refine ⟨⟨fun i => by rw [hl]; exact hnone _ hpl i (h0 i), arr, E, fr, by rw [hl, k1]; exact hh, hsz, fun i => by rw [hl, frozen_of_block k1]; exact hf i, fun i a ha => hs _ _ (hc i a ha)⟩, hp⟩
  | tok s n =>
    obtain ⟨hs0, h0, h3⟩ := h
    simp only at hl ht
    refine ⟨by rw [ht]; exact hs0, by rw [ht]; exact h0, ?_⟩
    rw [ht]
    cases hbase : (G.tk id).spare with
    | none => rw [hbase] at h3; exact h3
    | some p =>
      obtain ⟨b, off, cap⟩ := p
      rw [hbase] at h3
      obtain ⟨hv, h1, h2, ⟨arr, E, fr, hh, hsz, hf⟩, hx⟩ := h3
      have hp : G.placed (id, .tok s n) = some b := by simp [Ghost.placed, hbase]
      obtain ⟨k1, k2⟩ := hb b hp
      exact ⟨hv, h1, h2, ⟨arr, E, fr, by rw [k1]; exact hh, hsz, fun i hi => by rw [frozen_of_block k1]; exact hf i hi⟩, fun i hi => hnone b hp i (hx i hi)⟩

theorem nodup_app {α : Type} {l r : List α} (h : (l ++ r).Nodup) : l.Nodup ∧ r.Nodup ∧ ∀ a ∈ l, a ∉ r := by
  rw [List.nodup_append] at h
  exact ⟨h.1, h.2.1, fun a ha hr => h.2.2 a ha a hr rfl⟩

theorem Holds.left {G : Ghost} {w : World} {H R : Heap} (h : Holds G w (H ++ R)) : Holds G w H where
  X := h.X
  res := fun r hr => h.res r (List.mem_append_left _ hr)
  ids := (nodup_app (by simpa using h.ids)).1
  live := fun r hr => h.live r (List.mem_append_left _ hr)
  blocks := (nodup_app (by simpa [blocksOf_append] using h.blocks)).1
  lits := fun b hb => let ⟨k1, k2, k3⟩ := h.lits b hb; ⟨k1, k2, fun hm => k3 (by rw [blocksOf_append]; exact List.mem_append_left _ hm)⟩

theorem filterMap_same {α β : Type} {f g : α → Option β} : ∀ {l : List α}, (∀ a ∈ l, f a = g a) → l.filterMap f = l.filterMap g
  | [], _ => rfl
  | a :: l, h => by
    have h1 := h a (by simp)
    have h2 := filterMap_same (l := l) fun b hb => h b (List.mem_cons_of_mem _ hb)
    simp [List.filterMap_cons, h1, h2]

/-- what is beside stays beside -/
theorem Holds.beside {G G' : Ghost} {w w' : World} {H H' R : Heap} (h : Holds G w (H ++ R)) (h' : Holds G' w' H') (st : Step G w H G' w' H') :
    Holds G' w' (H' ++ R) ∧ Step G w (H ++ R) G' w' (H' ++ R) := by
  obtain ⟨i1, i2, i3⟩ := nodup_app (show ((H.map (·.1)) ++ (R.map (·.1))).Nodup by simpa using h.ids)
  obtain ⟨b1, b2, b3⟩ := nodup_app (show (blocksOf G H ++ blocksOf G R).Nodup by simpa [blocksOf_append] using h.blocks)
  have hRlive : ∀ r ∈ R, G.live r.1 := fun r hr => h.live r (List.mem_append_right _ hr)
  have hR : ∀ r ∈ R, G'.loc r.1 = G.loc r.1 ∧ G'.tk r.1 = G.tk r.1 := fun r hr => by
    obtain ⟨_, k2, k3⟩ := st.live r.1 (hRlive r hr)
    refine ⟨k2, k3.resolve_right fun hk => i3 _ hk.1 (List.mem_map_of_mem hr)⟩
  have hRb : blocksOf G' R = blocksOf G R := filterMap_same fun r hr => placed_same (hR r hr).1 (hR r hr).2
  have hbl : ∀ b ∈ blocksOf G R, b < w.heap.size ∧ b ∉ blocksOf G H := fun b hb => by
    refine ⟨h.lt (by rw [blocksOf_append]; exact List.mem_append_right _ hb), fun hm => b3 b hm hb⟩
  refine ⟨⟨h'.X, fun r hr => ?_, ?_, fun r hr => ?_, ?_, fun b hb => ?_⟩, ⟨st.os, st.tape, st.output, st.size, st.base, st.X, fun b hb hn => ?_, fun b i v hx => ?_, fun b hb => ?_, fun id hid => ?_, fun id hid => ?_, st.lits, st.newL⟩⟩
  · rcases List.mem_append.1 hr with hr | hr
    · exact h'.res r hr
    · refine (h.res r (List.mem_append_right _ hr)).keep (hR r hr).1 (hR r hr).2 (fun a x => st.sim) fun b hb => ?_
      obtain ⟨k1, k2⟩ := hbl b (List.mem_filterMap.2 ⟨r, hr, hb⟩)
      refine ⟨(st.frame b k1 k2).2 (fun hl => (h.lits b hl).2.2 (by rw [blocksOf_append]; exact List.mem_append_right _ (List.mem_filterMap.2 ⟨r, hr, hb⟩))), fun i v hx => ?_⟩
      rcases st.newX b i v hx with k3 | k3 | k3
      · exact k3
      · omega
      · exact absurd k3 k2
  · rw [List.map_append, List.nodup_append]
    refine ⟨h'.ids, i2, fun a ha b hb hab => ?_⟩
    subst hab
    rcases st.newI a ha with k | k
    · exact i3 a k hb
    · obtain ⟨r, hr, rfl⟩ := List.mem_map.1 hb
      exact k (hRlive r hr)
  · rcases List.mem_append.1 hr with hr | hr
    · exact h'.live r hr
    · exact (st.live r.1 (hRlive r hr)).1
  · rw [blocksOf_append, List.nodup_append, hRb]
    refine ⟨h'.blocks, b2, fun a ha b hb hab => ?_⟩
    subst hab
    obtain ⟨k1, k2⟩ := hbl a hb
    rcases st.newB a ha with k | k
    · exact k2 k
    · omega
  · obtain ⟨k1, k2, k3⟩ := h'.lits b hb
    refine ⟨k1, k2, ?_⟩
    rw [blocksOf_append, List.mem_append]
    rintro (hm | hm)
    · exact k3 hm
    · rw [hRb] at hm
      rcases st.newL b hb with hl | hl
      · exact (h.lits b hl).2.2 (by rw [blocksOf_append]; exact List.mem_append_right _ hm)
      · have := (hbl b hm).1; omega
  · exact st.frame b hb fun hm => hn (by rw [blocksOf_append]; exact List.mem_append_left _ hm)
  · rcases st.newX b i v hx with k | k | k
    · exact .inl k
    · exact .inr (.inl k)
    · exact .inr (.inr (by rw [blocksOf_append]; exact List.mem_append_left _ k))
  · rw [blocksOf_append] at *
    rcases List.mem_append.1 hb with hb | hb
    · exact (st.newB b hb).imp (List.mem_append_left _) id
    · rw [hRb] at hb; exact .inl (List.mem_append_right _ hb)
  · obtain ⟨k1, k2, k3⟩ := st.live id hid
    exact ⟨k1, k2, k3.imp_right fun k => ⟨by rw [List.map_append]; exact List.mem_append_left _ k.1, k.2⟩⟩
  · rw [List.map_append] at *
    rcases List.mem_append.1 hid with hid | hid
    · exact (st.newI id hid).imp_left (List.mem_append_left _)
    · exact .inl (List.mem_append_right _ hid)

/-- the order of the resources does not matter -/
theorem Holds.perm {G : Ghost} {w : World} {H H' : Heap} (h : Holds G w H) (hp : H.Perm H') : Holds G w H' where
  X := h.X
  res := fun r hr => h.res r (hp.mem_iff.2 hr)
  ids := (hp.map _).nodup_iff.1 h.ids
  live := fun r hr => h.live r (hp.mem_iff.2 hr)
  blocks := (hp.filterMap _).nodup_iff.1 h.blocks
  lits := fun b hb => let ⟨k1, k2, k3⟩ := h.lits b hb; ⟨k1, k2, fun hm => k3 ((hp.filterMap _).mem_iff.2 hm)⟩
theorem Step.perm {G G' : Ghost} {w w' : World} {H H' K K' : Heap} (h : Step G w H G' w' H') (hp : H.Perm K) (hp' : H'.Perm K') : Step G w K G' w' K' where
  os := h.os
  tape := h.tape
  output := h.output
  size := h.size
  base := h.base
  X := h.X
  frame := fun b hb hn => h.frame b hb fun hm => hn ((hp.filterMap _).mem_iff.1 hm)
  newX := fun b i v hx => (h.newX b i v hx).imp_right fun k => k.imp_right fun k => (hp.filterMap _).mem_iff.1 k
  newB := fun b hb => (h.newB b ((hp'.filterMap _).mem_iff.2 hb)).imp_left fun k => (hp.filterMap _).mem_iff.1 k
  live := fun id hid => let ⟨a, b, c⟩ := h.live id hid; ⟨a, b, c.imp_right fun k => ⟨(hp.map _).mem_iff.1 k.1, k.2⟩⟩
  newI := fun id hid => (h.newI id ((hp'.map _).mem_iff.2 hid)).imp_left fun k => (hp.map _).mem_iff.1 k
  lits := h.lits
  newL := h.newL
end Go.Am
