/- The abstract machine's operations that only compute: what they answer, and that the model answers so. -/
import Derived.Test.YtabhfccfohpkaaaAmA
import Derived.WalkLawsBesides
import Derived.WalkSpells
namespace Go.Am
open Go.RowKit
set_option linter.unusedSimpArgs false
set_option linter.unusedVariables false

inductive TK where
  | slice (e : TypeId)
  | struct (fs : List (Nat × Nat))
  | array (n : Nat) (e : TypeId)
  | int (k : IntKind)
  | bool
  | string
  | float (k : FloatKind)
  | pointer
  | func
  | iface
  | other
structure TI where
  size : Nat
  bytes : Nat
  zero : Option Value
  kind : TK

def kindOf (P : Program) : TypeDesc → TK
  | .slice e => .slice e
  | .struct fs => .struct (fs.toList.map fun f => (f.offset, P.cellsOf f.type))
  | .array n e => .array n e
  | .int k => .int k
  | .bool => .bool
  | .string => .string
  | .float k => .float k
  | .pointer _ => .pointer
  | .func _ _ _ => .func
  | .interface _ => .iface
  | _ => .other
def tiOf (P : Program) (t : TypeId) : Option TI :=
  match P.info? t, P.underlying t with
  | some i, some d => some ⟨i.size, i.bytes, i.zero, kindOf P d⟩
  | _, _ => none
/-- a table of types says what the program's types are -/
def TOk (P : Program) (TT : TypeId → Option TI) : Prop := ∀ t ti, TT t = some ti → tiOf P t = some ti

structure TIs (P : Program) (t : TypeId) (ti : TI) where
  i : TypeInfo
  d : TypeDesc
  info : P.info? t = some i
  und : P.underlying t = some d
  size : i.size = ti.size
  bytes : i.bytes = ti.bytes
  zero : i.zero = ti.zero
  kind : kindOf P d = ti.kind
theorem TOk.get {P : Program} {TT : TypeId → Option TI} (h : TOk P TT) {t : TypeId} {ti : TI} (ht : TT t = some ti) : Nonempty (TIs P t ti) := by
  have := h t ti ht
  unfold tiOf at this
  split at this
  · rename_i i d hi hd
    simp only [Option.some.injEq] at this
    subst this
    exact ⟨⟨i, d, hi, hd, rfl, rfl, rfl, rfl⟩⟩
  · cases this
theorem TIs.slice {P : Program} {t e : TypeId} {ti : TI} (h : TIs P t ti) (hk : ti.kind = .slice e) : P.underlying t = some (.slice e) := by
  have := h.kind; rw [hk] at this
  rw [h.und]; cases hd : h.d <;> rw [hd] at this <;> simp [kindOf] at this
  subst this; rfl
theorem TIs.array {P : Program} {t e : TypeId} {n : Nat} {ti : TI} (h : TIs P t ti) (hk : ti.kind = .array n e) : P.underlying t = some (.array n e) := by
  have := h.kind; rw [hk] at this
  rw [h.und]; cases hd : h.d <;> rw [hd] at this <;> simp [kindOf] at this
  obtain ⟨rfl, rfl⟩ := this; rfl
theorem TIs.int {P : Program} {t : TypeId} {k : IntKind} {ti : TI} (h : TIs P t ti) (hk : ti.kind = .int k) : P.underlying t = some (.int k) := by
  have := h.kind; rw [hk] at this
  rw [h.und]; cases hd : h.d <;> rw [hd] at this <;> simp [kindOf] at this
  subst this; rfl
theorem TIs.float {P : Program} {t : TypeId} {k : FloatKind} {ti : TI} (h : TIs P t ti) (hk : ti.kind = .float k) : P.underlying t = some (.float k) := by
  have := h.kind; rw [hk] at this
  rw [h.und]; cases hd : h.d <;> rw [hd] at this <;> simp [kindOf] at this
  subst this; rfl
theorem TIs.bool {P : Program} {t : TypeId} {ti : TI} (h : TIs P t ti) (hk : ti.kind = .bool) : P.underlying t = some .bool := by
  have := h.kind; rw [hk] at this
  rw [h.und]; cases hd : h.d <;> rw [hd] at this <;> simp [kindOf] at this
theorem TIs.string {P : Program} {t : TypeId} {ti : TI} (h : TIs P t ti) (hk : ti.kind = .string) : P.underlying t = some .string := by
  have := h.kind; rw [hk] at this
  rw [h.und]; cases hd : h.d <;> rw [hd] at this <;> simp [kindOf] at this
theorem TIs.pointer {P : Program} {t : TypeId} {ti : TI} (h : TIs P t ti) (hk : ti.kind = .pointer) : ∃ e, P.underlying t = some (.pointer e) := by
  have := h.kind; rw [hk] at this
  rw [h.und]; cases hd : h.d <;> rw [hd] at this <;> simp [kindOf] at this
  exact ⟨_, rfl⟩
theorem TIs.func {P : Program} {t : TypeId} {ti : TI} (h : TIs P t ti) (hk : ti.kind = .func) : ∃ a b c, P.underlying t = some (.func a b c) := by
  have := h.kind; rw [hk] at this
  rw [h.und]; cases hd : h.d <;> rw [hd] at this <;> simp [kindOf] at this
  exact ⟨_, _, _, rfl⟩
theorem TIs.struct {P : Program} {t : TypeId} {fs : List (Nat × Nat)} {ti : TI} (h : TIs P t ti) (hk : ti.kind = .struct fs) : ∃ F, P.underlying t = some (.struct F) ∧ F.toList.map (fun f => (f.offset, P.cellsOf f.type)) = fs := by
  have := h.kind; rw [hk] at this
  rw [h.und]; cases hd : h.d <;> rw [hd] at this <;> simp [kindOf] at this
  exact ⟨_, rfl, by simpa using this⟩
theorem TIs.notAgg {P : Program} {t : TypeId} {ti : TI} (h : TIs P t ti) (h1 : ∀ fs, ti.kind ≠ .struct fs) (h2 : ∀ n e, ti.kind ≠ .array n e) : (∀ F, P.underlying t ≠ some (.struct F)) ∧ ∀ n e, P.underlying t ≠ some (.array n e) := by
  have := h.kind
  rw [h.und]
  constructor
  · intro F hF
    simp only [Option.some.injEq] at hF
    rw [hF] at this; simp only [kindOf] at this
    exact h1 _ this.symm
  · intro n e hF
    simp only [Option.some.injEq] at hF
    rw [hF] at this; simp only [kindOf] at this
    exact h2 _ _ this.symm

/-! values and their shapes -/
def AV.one : AV → Bool
  | .v x => x.oneCell'
  | .list _ _ | .ptr _ _ | .arr _ _ _ _ | .cref _ | .fn _ _ | .bnd _ _ | .iface _ _ => true
  | .agg _ | .tuple _ | .dead => false
def AV.cells : AV → List AV
  | .agg l => l
  | a => [a]
def AV.ofCell : Value → AV
  | .slice none 0 0 => .list [] .full
  | x => .v x
def AV.ofValue : Value → AV
  | .agg cs => .agg (cs.toList.map AV.ofCell)
  | x => .ofCell x
/-- as a cell of a row that stays -/
def AV.seal : AV → Option AV
  | .v x => some (.v x)
  | .dead => some .dead
  | .cref l => some (.cref l)
  | .list rows .full => some (.list rows .full)
  | .list rows .lit => some (.list rows .full)
  | .list rows _ => some (.list rows .free)
  | _ => none

theorem Sim.v_inv {G : Ghost} {x y : Value} (h : Sim G (.v x) y) : y = x := by
  cases h with | data _ _ h => cases h; rfl
theorem SimD.free {X : Nat → Nat → Option Value} {rows : List (List AV)} {o : Own} {x : Value} (h : SimD X (.list rows o) x) : SimD X (.list rows .free) x := by
  cases h with
  | nil _ a c hc ho hs => exact .nil _ a c hc (by simp) (.inl rfl)
  | list _ _ b off c s y hn hc ho hs hr hx hS h1 => exact .list rows _ b off c s y hn hc (by simp) (.inl rfl) hr hx hS h1
theorem Sim.list_inv {G : Ghost} {rows : List (List AV)} {o : Own} {x : Value} (h : Sim G (.list rows o) x) : SimD G.X (.list rows .free) x ∧ (o = .full → SimD G.X (.list rows .full) x) := by
  cases h with
  | data _ _ h => exact ⟨h.free, fun e => e ▸ h⟩
  | tok _ k _ hk h hl hz he => exact ⟨h, fun e => by cases e⟩
theorem Sim.tok_inv {G : Ghost} {rows : List (List AV)} {k : Nat} {x : Value} (h : Sim G (.list rows (.tok k)) x) : G.live k ∧ SimD G.X (.list rows .free) x ∧ rows.length ≤ (G.tk k).n ∧ (∀ row ∈ rows, row.length = (G.tk k).s) ∧ (rows.length = (G.tk k).n → x = (G.tk k).val) := by
  cases h with
  | data _ _ h => cases h with
    | nil _ _ _ _ _ hs => rcases hs with h | h <;> cases h
    | list _ _ _ _ _ _ _ _ _ _ hs _ _ _ _ => rcases hs with h | h <;> cases h
  | tok _ _ _ hk h hl hz he => exact ⟨hk, h, hl, hz, he⟩
theorem SimD.slice {X : Nat → Nat → Option Value} {rows : List (List AV)} {o : Own} {x : Value} (h : SimD X (.list rows o) x) : ∃ base c, x = .slice base rows.length c ∧ rows.length ≤ c ∧ c ≤ maxLen ∧ (o = .full → c = rows.length) := by
  cases h with
  | nil _ a c hc ho hs => exact ⟨a, c, rfl, Nat.zero_le _, hc, ho⟩
  | list _ _ b off c s y hn hc ho hs hr hx hS h1 => exact ⟨_, c, rfl, hn, hc, ho⟩
theorem SimD.pos {X : Nat → Nat → Option Value} {rows : List (List AV)} {o : Own} {x : Value} (h : SimD X (.list rows o) x) (hp : rows ≠ []) : ∃ b off c s, ∃ y : Nat → Nat → Value, x = .slice (some ⟨b, off, none⟩) rows.length c ∧ (∀ row ∈ rows, row.length = s) ∧
    (∀ (i : Nat) (row : List AV) (j : Nat) (a : AV), rows[i]? = some row → row[j]? = some a → X b (off + i * s + j) = some (y i j)) ∧ (∀ (i : Nat) (row : List AV) (j : Nat) (a : AV), rows[i]? = some row → row[j]? = some a → SimD X a (y i j)) ∧
    ∀ (i : Nat) (row : List AV) (j : Nat) (a : AV), rows[i]? = some row → row[j]? = some a → (y i j).oneCell' = true := by
  cases h with
  | nil => exact absurd rfl hp
  | list _ _ b off c s y hn hc ho hs hr hx hS h1 => exact ⟨b, off, c, s, y, rfl, hr, hx, hS, h1⟩
theorem Sim.ptr_inv {G : Ghost} {id off : Nat} {x : Value} (h : Sim G (.ptr id off) x) : x = .pointer (some ⟨G.loc id, off, none⟩) ∧ G.live id := by
  cases h with
  | data _ _ h => cases h
  | ptr _ _ hk => exact ⟨rfl, hk⟩
theorem Sim.cref_inv {G : Ghost} {l : List AV} {x : Value} (h : Sim G (.cref l) x) : ∃ b off, ∃ y : Nat → Value, x = .pointer (some ⟨b, off, none⟩) ∧ (∀ j a, l[j]? = some a → G.X b (off + j) = some (y j)) ∧ (∀ j a, l[j]? = some a → SimD G.X a (y j)) ∧ ∀ j a, l[j]? = some a → (y j).oneCell' = true := by
  cases h with
  | data _ _ h => cases h with | cref _ b off y hX hS h1 => exact ⟨b, off, y, rfl, hX, hS, h1⟩
theorem Sim.agg_inv {G : Ghost} {l : List AV} {x : Value} (h : Sim G (.agg l) x) : ∃ vs : Array Value, x = .agg vs ∧ l.length = vs.size ∧ ∀ i a, l[i]? = some a → Sim G a (vs.getD i undef) := by
  cases h with
  | data _ _ h => cases h
  | agg _ vs hl h => exact ⟨vs, rfl, hl, h⟩
theorem Sim.tuple_inv {G : Ghost} {l : List AV} {x : Value} (h : Sim G (.tuple l) x) : ∃ vs : Array Value, x = .tuple vs ∧ l.length = vs.size ∧ ∀ i a, l[i]? = some a → Sim G a (vs.getD i undef) := by
  cases h with
  | data _ _ h => cases h
  | tuple _ vs hl h => exact ⟨vs, rfl, hl, h⟩
theorem Sim.fn_inv {G : Ghost} {f : FuncId} {l : List AV} {x : Value} (h : Sim G (.fn f l) x) : ∃ vs : Array Value, x = .func (.func f) #[] vs ∧ l.length = vs.size ∧ ∀ i a, l[i]? = some a → Sim G a (vs.getD i undef) := by
  cases h with
  | data _ _ h => cases h
  | fn _ _ vs hl h => exact ⟨vs, rfl, hl, h⟩
theorem Sim.bnd_inv {G : Ghost} {f : FuncId} {l : List AV} {x : Value} (h : Sim G (.bnd f l) x) : ∃ vs : Array Value, x = .func (.func f) vs #[] ∧ l.length = vs.size ∧ ∀ i a, l[i]? = some a → Sim G a (vs.getD i undef) := by
  cases h with
  | data _ _ h => cases h
  | bnd _ _ vs hl h => exact ⟨vs, rfl, hl, h⟩
theorem Sim.iface_inv {G : Ghost} {t : TypeId} {a : AV} {x : Value} (h : Sim G (.iface t a) x) : ∃ y, x = .iface t y ∧ Sim G a y := by
  cases h with
  | data _ _ h => cases h
  | iface _ _ y h => exact ⟨y, rfl, h⟩
theorem Sim.arr_inv {G : Ghost} {id off n c : Nat} {x : Value} (h : Sim G (.arr id off n c) x) : ∃ base, x = .slice base n c ∧ G.live id ∧ n ≤ c ∧ c ≤ maxLen ∧ (c ≠ 0 → base = some ⟨G.loc id, off, none⟩) := by
  cases h with
  | data _ _ h => cases h
  | arr _ _ _ c base hk hn hc hb => exact ⟨base, rfl, hk, hn, hc, hb⟩
theorem Sim.one {G : Ghost} {a : AV} {x : Value} (h : Sim G a x) (h1 : a.one = true) : x.oneCell' = true := by
  cases h with
  | data _ _ h => cases h <;> first | exact h1 | rfl | (simp [AV.one] at h1)
  | tok _ _ _ _ h _ _ _ => obtain ⟨_, _, rfl, _⟩ := h.slice; rfl
  | ptr => rfl
  | arr => rfl
  | fn => rfl
  | bnd => rfl
  | agg => simp [AV.one] at h1
  | tuple => simp [AV.one] at h1
  | iface => rfl
theorem Sim.ofCell (G : Ghost) (x : Value) : Sim G (.ofCell x) x := by
  unfold AV.ofCell; split
  · exact .data _ _ (.nil _ _ _ (Nat.zero_le _) (fun _ => rfl) (.inr rfl))
  · exact .data _ _ (.v x)
theorem Sim.ofValue (G : Ghost) (x : Value) : Sim G (.ofValue x) x := by
  unfold AV.ofValue; split
  · rename_i cs
    refine .agg _ _ (by simp) fun i a ha => ?_
    rw [List.getElem?_map, Array.getElem?_toList, Option.map_eq_some_iff] at ha
    obtain ⟨y, hy, rfl⟩ := ha
    have : cs.getD i undef = y := by simp [hy]
    rw [this]; exact .ofCell G y
  · exact .ofCell G x
theorem Sim.seal {G : Ghost} {a s : AV} {x : Value} (h : Sim G a x) (hs : a.seal = some s) : SimD G.X s x := by
  cases a with
  | v y => cases hs; cases h with | data _ _ h => exact h
  | dead => cases hs; exact .dead _
  | cref l => cases hs; cases h with | data _ _ h => exact h
  | list rows o =>
    have h1 := h.list_inv
    cases o <;> cases hs
    · exact h1.1
    · exact h1.2 rfl
    · cases h with
      | data _ _ h => cases h with
        | nil _ _ _ _ _ hs => rcases hs with h | h <;> cases h
        | list _ _ _ _ _ _ _ _ _ _ hs _ _ _ _ => rcases hs with h | h <;> cases h
    · exact h1.1
  | agg l => cases hs
  | tuple l => cases hs
  | ptr id off => cases hs
  | arr id off n c => cases hs
  | fn f l => cases hs
  | bnd f l => cases hs
  | iface t b => cases hs
/-- cells of a value -/
theorem Sim.cells {G : Ghost} {a : AV} {x : Value} (h : Sim G a x) (hd : ∀ l, a ≠ .tuple l) (hdd : a ≠ .dead) : a.cells.length = x.cells.size ∧ (∀ i c, a.cells[i]? = some c → Sim G c (x.cells.getD i undef)) ∨ (∃ y, a = .v y) := by
  cases a with
  | v y => exact .inr ⟨y, rfl⟩
  | agg l =>
    obtain ⟨vs, rfl, h1, h2⟩ := h.agg_inv
    exact .inl ⟨h1, h2⟩
  | tuple l => exact absurd rfl (hd l)
  | dead => exact absurd rfl hdd
  | list rows o =>
    have hx := h
    obtain ⟨_, _, rfl, _⟩ := h.list_inv.1.slice
    refine .inl ⟨rfl, fun i c hc => ?_⟩
    cases i with
    | zero => simp [AV.cells] at hc; subst hc; exact hx
    | succ i => simp [AV.cells] at hc
  | ptr id off =>
    have hx := h
    obtain ⟨rfl, _⟩ := h.ptr_inv
    refine .inl ⟨rfl, fun i c hc => ?_⟩
    cases i with
    | zero => simp [AV.cells] at hc; subst hc; exact hx
    | succ i => simp [AV.cells] at hc
  | arr id off n c =>
    have hx := h
    obtain ⟨_, rfl, _⟩ := h.arr_inv
    refine .inl ⟨rfl, fun i c hc => ?_⟩
    cases i with
    | zero => simp [AV.cells] at hc; subst hc; exact hx
    | succ i => simp [AV.cells] at hc
  | cref l =>
    have hx := h
    obtain ⟨_, _, _, rfl, _⟩ := h.cref_inv
    refine .inl ⟨rfl, fun i c hc => ?_⟩
    cases i with
    | zero => simp [AV.cells] at hc; subst hc; exact hx
    | succ i => simp [AV.cells] at hc
  | fn f l =>
    have hx := h
    obtain ⟨_, rfl, _⟩ := h.fn_inv
    refine .inl ⟨rfl, fun i c hc => ?_⟩
    cases i with
    | zero => simp [AV.cells] at hc; subst hc; exact hx
    | succ i => simp [AV.cells] at hc
  | bnd f l =>
    have hx := h
    obtain ⟨_, rfl, _⟩ := h.bnd_inv
    refine .inl ⟨rfl, fun i c hc => ?_⟩
    cases i with
    | zero => simp [AV.cells] at hc; subst hc; exact hx
    | succ i => simp [AV.cells] at hc
  | iface t b =>
    have hx := h
    obtain ⟨_, rfl, _⟩ := h.iface_inv
    refine .inl ⟨rfl, fun i c hc => ?_⟩
    cases i with
    | zero => simp [AV.cells] at hc; subst hc; exact hx
    | succ i => simp [AV.cells] at hc
end Go.Am
