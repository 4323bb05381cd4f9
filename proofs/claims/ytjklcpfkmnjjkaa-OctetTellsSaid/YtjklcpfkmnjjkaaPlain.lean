/- Plain facts on byte strings, without the program: Go's order on strings is a strict total order; small facts on worlds. -/
import Derived.WalkKit
import Derived.WalkSpells
import Derived.WalkLawsBesides
import Derived.Handy
import Derived.BigQuiet
import Derived.BigGuardPart
import Derived.Deep.QuietTactic
import Derived.RegionTactic
import Derived.BigRegion
import Derived.Deep.RegionWith
import Derived.Deep.RegionHeld3
import Derived.Deep.LoopGhost
import Derived.LoopTactic
import Derived.ChangeAlike
import Derived.Outline
import Derived.Lib.Hide
import Derived.Deep.Light
import Derived.Lib.MinMaxS
import Derived.Deep.DeepCutAuto
import Derived.KernelRfl
namespace Go.Proofs.Ytjklcpfkmnjjkaa
open Go.RowKit
set_option linter.unusedSimpArgs false
set_option linter.unusedVariables false

theorem bl_irrefl (a : List UInt8) : Op.bytesLess a a = false := by rw [Proofs.bytesLess_eq]; simp [List.lt_irrefl]
theorem bl_trans {a b c : List UInt8} (h : Op.bytesLess a b = true) (h' : Op.bytesLess b c = true) : Op.bytesLess a c = true := by
  rw [Proofs.bytesLess_eq] at *; simp at *; exact List.lt_trans h h'
theorem bl_asymm {a b : List UInt8} (h : Op.bytesLess a b = true) : Op.bytesLess b a = false := by
  rw [Proofs.bytesLess_eq] at *; simp at *; exact List.le_of_lt h
theorem bl_tri (a b : List UInt8) : Op.bytesLess a b = true ∨ a = b ∨ Op.bytesLess b a = true := by
  rw [Proofs.bytesLess_eq, Proofs.bytesLess_eq]; simp
  by_cases h : a < b
  · exact .inl h
  · by_cases h2 : b < a
    · exact .inr (.inr h2)
    · exact .inr (.inl (List.le_antisymm (List.not_lt.1 h2) (List.not_lt.1 h)))
theorem gtr_eq (a b : List UInt8) : (!Op.bytesLess a b && !(a == b)) = Op.bytesLess b a := by
  rcases bl_tri a b with h | h | h
  · simp [h, bl_asymm h]
  · subst h; simp [bl_irrefl]
  · simp [h, bl_asymm h]; intro e; subst e; rw [bl_irrefl] at h; cases h
theorem leq_eq (a b : List UInt8) : (Op.bytesLess a b || (a == b)) = !Op.bytesLess b a := by
  rw [← gtr_eq a b]; cases Op.bytesLess a b <;> cases (a == b) <;> rfl
attribute [go_sem] leq_eq gtr_eq

theorem ret_bool {a b : Bool} (h : a = b) : Ending.returned (.bool a) = .returned (.bool b) := by rw [h]
theorem ret_int {k : IntKind} {a b : Int} (h : a = b) : Ending.returned (.int k a) = .returned (.int k b) := by rw [h]
theorem bcell {W w1 : World} (hb : Below W.heap.size W w1) : (∀ b o, b < W.heap.size → w1.cell? ⟨b, o, none⟩ = W.cell? ⟨b, o, none⟩) ∧ (∀ b o, b < W.heap.size → w1.frozen? ⟨b, o, none⟩ = W.frozen? ⟨b, o, none⟩) ∧ W.heap.size ≤ w1.heap.size :=
  ⟨fun b o h => hb.cell (p := ⟨b, o, none⟩) h, fun b o h => hb.frozen (p := ⟨b, o, none⟩) h, hb.size⟩
def farCell (w : World) (a : Addr) : Option Value := w.cell? a
def farFrozen (w : World) (a : Addr) : Bool := w.frozen? a
/-- a later world's cells: below the old heap's size they are the old ones -/
theorem belowIf {W w1 : World} (hb : Below W.heap.size W w1) : (∀ b o, w1.cell? ⟨b, o, none⟩ = if b < W.heap.size then W.cell? ⟨b, o, none⟩ else farCell w1 ⟨b, o, none⟩) ∧ (∀ b o, w1.frozen? ⟨b, o, none⟩ = if b < W.heap.size then W.frozen? ⟨b, o, none⟩ else farFrozen w1 ⟨b, o, none⟩) ∧ W.heap.size ≤ w1.heap.size :=
  ⟨fun b o => by split; exact hb.cell (p := ⟨b, o, none⟩) (by assumption); rfl, fun b o => by split; exact hb.frozen (p := ⟨b, o, none⟩) (by assumption); rfl, hb.size⟩
@[go_sem] theorem cell_alloc_total (w : World) (c : Array Value) (t : TypeId) (fr : Nat × Nat) (n i : Nat) : (w.alloc (.cells c t fr)).cell? ⟨n, i, none⟩ = if n < w.heap.size then w.cell? ⟨n, i, none⟩ else if n = w.heap.size then c[i]? else none := by
  split
  · exact World.cell?_alloc_lt _ _ _ (by assumption)
  · split
    · rename_i h; subst h; exact World.cell?_alloc_mark w c t fr i
    · have : (w.alloc (.cells c t fr)).heap[n]? = none := Array.getElem?_eq_none (by rw [World.size_alloc]; omega)
      simp [World.cell?, this]
@[go_sem] theorem frozen_alloc_total (w : World) (c : Array Value) (t : TypeId) (n i : Nat) : (w.alloc (.cells c t)).frozen? ⟨n, i, none⟩ = if n < w.heap.size then w.frozen? ⟨n, i, none⟩ else false := by
  split
  · exact World.frozen?_alloc_past _ n i (by assumption)
  · by_cases h : n = w.heap.size
    · exact World.frozen?_alloc_at c t n i h
    · have : (w.alloc (.cells c t)).heap[n]? = none := Array.getElem?_eq_none (by rw [World.size_alloc]; omega)
      simp [World.frozen?, this]
@[go_sem] theorem cell_set_total (w : World) (v : Value) (n i m j : Nat) : (w.setCell ⟨n, i, none⟩ v).cell? ⟨m, j, none⟩ = if m = n then (if j = i then (w.cell? ⟨n, i, none⟩).map (fun _ => v) else w.cell? ⟨m, j, none⟩) else w.cell? ⟨m, j, none⟩ := by
  by_cases h : m = n
  · subst h
    rw [if_pos rfl]
    by_cases h2 : j = i
    · subst h2
      rw [if_pos rfl]
      cases hc : w.cell? ⟨m, j, none⟩ with
      | some u => exact World.cell?_setCell_same w _ v hc
      | none =>
        unfold World.cell? World.setCell at *
        simp only [Array.getElem?_modify] at *
        cases ho : w.heap[m]? with
        | none => simp [ho]
        | some o => cases o <;> simp_all
    · rw [if_neg h2]; exact World.cell?_setCell_other _ _ _ _ (fun e => h2 (by injection e with _ e2; exact e2.symm))
  · rw [if_neg h]; exact World.cell?_setCell_other _ _ _ _ (fun e => h (by injection e with e1; exact e1.symm))
theorem keepc {B : Nat} {w w' : World} (hb : Below B w w') {p : Addr} {v : Value} (hp : p.block < B) (h : w.cell? p = some v) : w'.cell? p = some v := (hb.cell hp).trans h
theorem keepf {B : Nat} {w w' : World} (hb : Below B w w') {p : Addr} (hp : p.block < B) (h : w.frozen? p = false) : w'.frozen? p = false := (hb.frozen hp).trans h

/-- a later world: below block N it is as w was -/
def WExt (N : Nat) (w : World) : Type := { w' : World // Below N w w' }
instance (N : Nat) (w : World) : Nonempty (WExt N w) := ⟨⟨w, Below.refl _ _⟩⟩
theorem WExt.cell {N : Nat} {w : World} (x : WExt N w) (b o : Nat) (h : b < N) : x.val.cell? ⟨b, o, none⟩ = w.cell? ⟨b, o, none⟩ := x.2.cell (by exact h)
@[go_sem] theorem WExt.cellIf {N : Nat} {w : World} (x : WExt N w) (b o : Nat) : x.val.cell? ⟨b, o, none⟩ = if b < N then w.cell? ⟨b, o, none⟩ else farCell x.val ⟨b, o, none⟩ := by
  split
  · exact x.cell b o (by assumption)
  · rfl
/-- a region that draws its order, whose operations only read, whose callees may make memory: one walk of the lexical order serves every order -/
theorem wp_region_ext {P : Program} {id : Nat} {Q : Exit → Act → World → Prop} {a : Act} {w : World} {l : List Oper} (N : Nat) (hm : P.follows .mixedOrders = true) (hB : Region.lexB .any l.toArray = true)
    (h : wpQuiet P l.toArray (fun w' => ∃ x : WExt N w, w' = x.val) (fun a' => ∀ w', (∃ x : WExt N w, w' = x.val) → Q .normal a' w') l a) : (Code.region id l.toArray true).wp P Q a w :=
  wp_region_quiet (C := fun w' => ∃ x : WExt N w, w' = x.val) hm hB ⟨⟨_, Below.drew (Below.refl _ _)⟩, rfl⟩ (by simpa using h)
theorem quiet_ext {P : Program} {f : FuncId} {args : Array Value} {w : World} {N : Nat} {v : Value} (x : WExt N w) (hN : N ≤ w.heap.size)
    (h : Calls P f args x.val fun e w' => e = .returned v ∧ Below x.val.heap.size x.val w') : Calls P f args x.val fun e w'' => e = .returned v ∧ ∃ y : WExt N w, w'' = y.val :=
  h.mono fun _ w' ⟨he, hb⟩ => ⟨he, ⟨w', x.2.trans (hb.mono (Nat.le_trans hN x.2.size))⟩, rfl⟩

/-- what is kept of a world over a region's operations: below block N it is as W was -/
theorem extS {N : Nat} {W w' : World} (hb : Below N W w') (hz : N ≤ W.heap.size) : (∀ b o, w'.cell? ⟨b, o, none⟩ = if b < N then W.cell? ⟨b, o, none⟩ else farCell w' ⟨b, o, none⟩) ∧ N ≤ w'.heap.size ∧ RowKit.Hid (Below N W w') :=
  ⟨fun b o => by split; exact hb.cell (p := ⟨b, o, none⟩) (by assumption); rfl, Nat.le_trans hz hb.size, hb⟩
end Go.Proofs.Ytjklcpfkmnjjkaa
