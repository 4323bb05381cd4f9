/- The abstract machine's operations that only compute: what they answer, and that the model answers so. -/
import Derived.Test.YtabhfccfohpkaaaAmB
namespace Go.Am
open Go.RowKit
set_option linter.unusedSimpArgs false
set_option linter.unusedVariables false

/-- memory grew: what was there is there -/
structure Grow (G : Ghost) (w : World) (G' : Ghost) (w' : World) : Prop where
  os : w'.os = w.os
  tape : w'.tape = w.tape
  output : w'.output = w.output
  size : w.heap.size ≤ w'.heap.size
  base : G'.base = G.base
  loc : G'.loc = G.loc
  tk : G'.tk = G.tk
  live : G'.live = G.live
  X : ∀ b i v, G.X b i = some v → G'.X b i = some v
  frame : ∀ b, b < w.heap.size → Alike w w' b ∧ (¬ G.lits b → w'.heap[b]? = w.heap[b]?)
  lits : ∀ b, G.lits b → G'.lits b
  newL : ∀ b, G'.lits b → G.lits b ∨ (w.heap.size ≤ b ∧ b < w'.heap.size ∧ G.base ≤ b)
  newX : ∀ b i v, G'.X b i = some v → G.X b i = some v ∨ (w.heap.size ≤ b ∧ w'.cell? ⟨b, i, none⟩ = some v)

theorem Grow.refl (G : Ghost) (w : World) : Grow G w G w := ⟨rfl, rfl, rfl, Nat.le_refl _, rfl, rfl, rfl, rfl, fun _ _ _ h => h, fun _ _ => ⟨.inl rfl, fun _ => rfl⟩, fun _ h => h, fun _ h => .inl h, fun _ _ _ h => .inl h⟩
theorem Grow.trans {G G' G'' : Ghost} {w w' w'' : World} (h : Grow G w G' w') (k : Grow G' w' G'' w'') : Grow G w G'' w'' where
  os := k.os.trans h.os
  tape := k.tape.trans h.tape
  output := k.output.trans h.output
  size := Nat.le_trans h.size k.size
  base := k.base.trans h.base
  loc := k.loc.trans h.loc
  tk := k.tk.trans h.tk
  live := k.live.trans h.live
  X := fun b i v hx => k.X b i v (h.X b i v hx)
  frame := fun b hb => by
    obtain ⟨h1, h2⟩ := h.frame b hb
    obtain ⟨k1, k2⟩ := k.frame b (Nat.lt_of_lt_of_le hb h.size)
    refine ⟨h1.trans k1, fun hlt => ?_⟩
    rw [k2 fun hl => ?_, h2 hlt]
    rcases h.newL b hl with hl | hl
    · exact hlt hl
    · omega
  lits := fun b hb => k.lits b (h.lits b hb)
  newL := fun b hb => by
    rcases k.newL b hb with h1 | ⟨h1, h2, h3⟩
    · rcases h.newL b h1 with h1 | ⟨h1, h2, h3⟩
      · exact .inl h1
      · exact .inr ⟨h1, Nat.lt_of_lt_of_le h2 k.size, h3⟩
    · exact .inr ⟨Nat.le_trans h.size h1, h2, by rw [← h.base]; exact h3⟩
  newX := fun b i v hx => by
    rcases k.newX b i v hx with k1 | ⟨k1, k2⟩
    · rcases h.newX b i v k1 with h1 | ⟨h1, h2⟩
      · exact .inl h1
      · refine .inr ⟨h1, ?_⟩
        have hlt : b < w'.heap.size := by
          rcases Nat.lt_or_ge b w'.heap.size with hlt | hge
          · exact hlt
          · simp [World.cell?, Array.getElem?_eq_none hge] at h2
        exact (k.frame b hlt).1.cell h2
    · exact .inr ⟨Nat.le_trans h.size k1, k2⟩
theorem Grow.sim {G G' : Ghost} {w w' : World} (h : Grow G w G' w') {a : AV} {x : Value} (hs : Sim G a x) : Sim G' a x :=
  hs.mono h.X fun id hid => ⟨by rw [h.live]; exact hid, by rw [h.loc], .inl (by rw [h.tk])⟩
theorem Grow.placed {G G' : Ghost} {w w' : World} (h : Grow G w G' w') (r : Nat × Res) : G'.placed r = G.placed r := placed_same (by rw [h.loc]) (by rw [h.tk])
theorem Grow.blocks {G G' : Ghost} {w w' : World} (h : Grow G w G' w') (H : Heap) : blocksOf G' H = blocksOf G H := filterMap_same fun r _ => h.placed r
theorem Grow.holds {G G' : Ghost} {w w' : World} {H : Heap} (h : Grow G w G' w') (hh : Holds G w H) : Holds G' w' H where
  X := fun b i v hx => by
    rcases h.newX b i v hx with k | ⟨_, k⟩
    · have := hh.X b i v k
      have hlt : b < w.heap.size := by
        rcases Nat.lt_or_ge b w.heap.size with hlt | hge
        · exact hlt
        · simp [World.cell?, Array.getElem?_eq_none hge] at this
      exact (h.frame b hlt).1.cell this
    · exact k
  res := fun r hr => (hh.res r hr).keep (by rw [h.loc]) (by rw [h.tk]) (fun a x => h.sim) fun b hb => by
    have hlt := (hh.res r hr).lt hb
    refine ⟨(h.frame b hlt).2 (fun hl => (hh.lits b hl).2.2 (List.mem_filterMap.2 ⟨r, hr, hb⟩)), fun i v hx => (h.newX b i v hx).resolve_right fun k => by omega⟩
  ids := hh.ids
  live := fun r hr => by rw [h.live]; exact hh.live r hr
  blocks := by rw [h.blocks]; exact hh.blocks
  lits := fun b hb => by
    rw [h.base, h.blocks]
    rcases h.newL b hb with hl | ⟨h1, h2, h3⟩
    · obtain ⟨k1, k2, k3⟩ := hh.lits b hl
      exact ⟨k1, Nat.lt_of_lt_of_le k2 h.size, k3⟩
    · exact ⟨h3, h2, fun hm => by have := hh.lt hm; omega⟩
theorem Grow.step {G G' : Ghost} {w w' : World} (h : Grow G w G' w') (H : Heap) : Step G w H G' w' H where
  os := h.os
  tape := h.tape
  output := h.output
  size := h.size
  base := h.base
  X := h.X
  frame := fun b hb _ => h.frame b hb
  newX := fun b i v hx => (h.newX b i v hx).imp_right fun k => .inl k.1
  newB := fun b hb => by rw [h.blocks] at hb; exact .inl hb
  live := fun id hid => ⟨by rw [h.live]; exact hid, by rw [h.loc], .inl (by rw [h.tk])⟩
  newI := fun _ h => .inl h
  lits := h.lits
  newL := fun b hb => (h.newL b hb).imp_right fun k => k.1
theorem Grow.drew {G G' : Ghost} {w w' : World} (h : Grow G w G' w') (n : Nat) : Grow G w G' { w' with drawn := n } :=
  ⟨h.os, h.tape, h.output, h.size, h.base, h.loc, h.tk, h.live, h.X, h.frame, h.lits, h.newL, h.newX⟩

def findL : Heap → Nat → Option Res
  | [], _ => none
  | (i, r) :: H, id => if i = id then some r else findL H id
theorem findL_mem {H : Heap} {id : Nat} {r : Res} (h : findL H id = some r) : (id, r) ∈ H := by
  induction H with
  | nil => cases h
  | cons x H ih =>
    obtain ⟨i, r'⟩ := x
    unfold findL at h
    split at h
    · rename_i e; subst e; cases h; exact List.mem_cons_self
    · exact List.mem_cons_of_mem _ (ih h)

def abr (b : Bool) (p q : Prop) : Prop := match b with | true => p | false => q
theorem abr_intro {b : Bool} {p q : Prop} (h1 : b = true → p) (h2 : b = false → q) : abr b p q := by
  cases b
  · exact h2 rfl
  · exact h1 rfl

def brow (b : UInt8) : List AV := [.v (.int .u8 b.toNat)]
def isIntK : TK → Bool | .int _ => true | _ => false

/-- two flat values held against one another, or reckoned with -/
def flat2 (op : BinOp) (x y : Value) (K : Value → Prop) : Prop :=
  match x, y with
  | .int k a, .int k' b =>
    match op with
    | .shl => 0 ≤ b ∧ K (.int k (k.wrap (a * 2 ^ (min b.toNat k.bits))))
    | .shr => 0 ≤ b ∧ K (.int k (a.fdiv (2 ^ (min b.toNat k.bits))))
    | .add => if k = k' then K (.int k (k.wrap (a + b))) else False
    | .sub => if k = k' then K (.int k (k.wrap (a - b))) else False
    | .mul => if k = k' then K (.int k (k.wrap (a * b))) else False
    | .quo => if k = k' then b ≠ 0 ∧ K (.int k (k.wrap (a.tdiv b))) else False
    | .rem => if k = k' then b ≠ 0 ∧ K (.int k (a.tmod b)) else False
    | .and => if k = k' then K (.int k (k.wrap (BitVec.ofInt k.bits a &&& BitVec.ofInt k.bits b).toNat)) else False
    | .or => if k = k' then K (.int k (k.wrap (BitVec.ofInt k.bits a ||| BitVec.ofInt k.bits b).toNat)) else False
    | .xor => if k = k' then K (.int k (k.wrap (BitVec.ofInt k.bits a ^^^ BitVec.ofInt k.bits b).toNat)) else False
    | .andNot => if k = k' then K (.int k (k.wrap (BitVec.ofInt k.bits a &&& ~~~(BitVec.ofInt k.bits b)).toNat)) else False
    | .eql => if k = k' then K (.bool (a == b)) else False
    | .neq => if k = k' then K (.bool (a != b)) else False
    | .lss => if k = k' then K (.bool (decide (a < b))) else False
    | .leq => if k = k' then K (.bool (decide (a ≤ b))) else False
    | .gtr => if k = k' then K (.bool (decide (a > b))) else False
    | .geq => if k = k' then K (.bool (decide (a ≥ b))) else False
  | .string a, .string b =>
    match op with
    | .add => (a.size : Int) + b.size ≤ 9223372036854775807 ∧ K (.string (a ++ b))
    | .eql => K (.bool (a.toList == b.toList))
    | .neq => K (.bool !(a.toList == b.toList))
    | .lss => K (.bool (Op.bytesLess a.toList b.toList))
    | .leq => K (.bool (Op.bytesLess a.toList b.toList || a.toList == b.toList))
    | .gtr => K (.bool !(Op.bytesLess a.toList b.toList || a.toList == b.toList))
    | .geq => K (.bool !(Op.bytesLess a.toList b.toList))
    | _ => False
  | .float k a, .float k' b =>
    match op with
    | .eql => if k = k' then K (.bool (k.format.order a b == some .eq)) else False
    | .neq => if k = k' then K (.bool (k.format.order a b != some .eq)) else False
    | _ => False
  | _, _ => False
theorem flat2_ok {P : Program} {op : BinOp} {t : TypeId} {x y : Value} {xo yo : Operand} {K : Value → Prop} (h : flat2 op x y K) :
    ∃ v, K v ∧ ∀ w, (do eqGuard op t xo yo x y; binOp op t x y : Sem Value).run P w = .ok v w := by
  unfold flat2 at h
  split at h
  · split at h
    case h_1 | h_2 =>
      obtain ⟨h1, h2⟩ := h
      refine ⟨_, h2, fun w => ?_⟩
      have h3 := Int.not_lt.2 h1
      simp [eqGuard, binOp, Op.shift, h3, go_sem]
    case h_6 | h_7 =>
      split at h
      case isFalse => exact h.elim
      rename_i e; subst e
      obtain ⟨h1, h2⟩ := h
      exact ⟨_, h2, fun w => by simp [eqGuard, binOp, Op.intDiv, h1, go_sem]⟩
    all_goals first
      | exact h.elim
      | (split at h
         case isFalse => exact h.elim
         rename_i e; subst e
         exact ⟨_, h, fun w => by simp [eqGuard, binOp, Op.intArith, Op.intBits, Op.intCmp, go_sem]⟩)
  · split at h
    case h_1 =>
      obtain ⟨h1, h2⟩ := h
      exact ⟨_, h2, fun w => by simp [eqGuard, binOp, Op.stringOp, h1, go_sem]⟩
    all_goals first
      | exact h.elim
      | exact ⟨_, h, fun w => by simp [eqGuard, binOp, Op.stringOp, go_sem]⟩
  · split at h
    all_goals first
      | exact h.elim
      | (split at h
         case isFalse => exact h.elim
         rename_i e; subst e
         exact ⟨_, h, fun w => by simp [eqGuard, binOp, Op.floatCmp, go_sem]⟩)
  · exact h.elim

/-- the flat value that an abstract one is -/
def AV.flat1 : AV → Option Value
  | .v x => some x
  | .list [] .full => none
  | _ => none
def flatL : List AV → Option (List Value)
  | [] => some []
  | a :: l => match a.flat1, flatL l with
    | some x, some xs => some (x :: xs)
    | _, _ => none
def AV.flat : AV → Option Value
  | .v x => some x
  | .agg l => (flatL l).map fun xs => .agg xs.toArray
  | _ => none
theorem flatL_spec {l : List AV} : ∀ {xs : List Value}, flatL l = some xs → l = xs.map AV.v := by
  induction l with
  | nil => intro xs h; cases h; rfl
  | cons a l ih =>
    intro xs h
    unfold flatL at h
    split at h
    · rename_i x ys h1 h2
      cases h
      rw [List.map_cons, ← ih h2]
      cases a <;> simp [AV.flat1] at h1
      · subst h1; rfl
      · split at h1 <;> simp_all
    · cases h
theorem Sim.flat {G : Ghost} {a : AV} {x y : Value} (h : Sim G a y) (hf : a.flat = some x) : y = x := by
  cases a <;> simp only [AV.flat] at hf <;> try (cases hf; done)
  · cases hf; exact h.v_inv
  · rename_i l
    rw [Option.map_eq_some_iff] at hf
    obtain ⟨xs, h1, rfl⟩ := hf
    have := flatL_spec h1
    subst this
    obtain ⟨vs, rfl, h2, h3⟩ := h.agg_inv
    congr 1
    apply Array.ext
    · simpa using h2.symm
    · intro i h4 h5
      have h6 := h3 i (.v (xs[i]'(by simpa using h5))) (by simp)
      have := h6.v_inv
      simpa [h4] using this

/-- what holds of operands -/
structure Here (P : Program) (L : Heap) (ev raw : Operand → AV) (o : Oper) (G : Ghost) (w : World) (ρ : Operand → Value) : Prop where
  ev : ∀ x ∈ o.op.operands, Sim G (ev x) (ρ x)
  raw : ∀ x ∈ o.op.operands, Slot G (raw x) (ρ x)
  holds : Holds G w L
  base : G.base ≤ w.heap.size
/-- an operation that only computes answers so -/
def QOk (P : Program) (L : Heap) (ev raw : Operand → AV) (o : Oper) (av : AV) : Prop :=
  ∀ G w ρ, Here P L ev raw o G w ρ → ∃ v G' w', (execOp ρ o).run P w = .ok (.value v) w' ∧ Slot G' av v ∧ Grow G w G' w'
theorem QOk.still {P : Program} {L : Heap} {ev raw : Operand → AV} {o : Oper} {av : AV} (h : ∀ G w ρ, Here P L ev raw o G w ρ → ∃ v, (execOp ρ o).run P w = .ok (.value v) w ∧ Sim G av v) : QOk P L ev raw o av :=
  fun G w ρ hh => let ⟨v, h1, h2⟩ := h G w ρ hh; ⟨v, G, w, h1, .of h2, Grow.refl G w⟩
end Go.Am
