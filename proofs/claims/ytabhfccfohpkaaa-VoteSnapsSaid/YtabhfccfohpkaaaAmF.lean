/- The abstract machine's operations that make rows and structs that stay. -/
import Derived.Test.YtabhfccfohpkaaaAmE
namespace Go.Am
open Go.RowKit
set_option linter.unusedSimpArgs false
set_option linter.unusedVariables false

/-- a new block whose cells stay -/
def Ghost.sealed (G : Ghost) (b : Nat) (arr : Array Value) (n : Nat) : Ghost := { G with X := fun b' i => if b' = b then (if i < n then arr[i]? else none) else G.X b' i }
theorem grow_alloc {G : Ghost} {w : World} {H : Heap} (hh : Holds G w H) (arr : Array Value) (E : TypeId) (fr : Nat × Nat) (n : Nat) : Grow G w (G.sealed w.heap.size arr n) (w.alloc (.cells arr E fr)) where
  os := rfl
  tape := rfl
  output := rfl
  size := by simp
  base := rfl
  loc := rfl
  tk := rfl
  live := rfl
  X := fun b i v h => by
    have : b ≠ w.heap.size := fun e => by
      subst e
      have := hh.X _ _ _ h
      simp [World.cell?] at this
    simp [Ghost.sealed, this, h]
  frame := fun b hb => by
    have h1 : (w.alloc (.cells arr E fr)).heap[b]? = w.heap[b]? := Below.heap_alloc _ _ _ hb
    exact ⟨.inl h1, fun _ => h1⟩
  lits := fun _ h => h
  newL := fun _ h => .inl h
  newX := fun b i v h => by
    by_cases hb : b = w.heap.size
    · subst hb
      simp only [Ghost.sealed, if_true] at h
      split at h
      · refine .inr ⟨Nat.le_refl _, ?_⟩
        have : (w.alloc (.cells arr E fr)).heap[w.heap.size]? = some (.cells arr E fr) := by
          show (w.heap.push _)[w.heap.size]? = _
          simp
        unfold World.cell?
        rw [this]
        simpa using h
      · cases h
    · left; simpa [Ghost.sealed, hb] using h

/-- and one that is a literal's -/
theorem Grow.lit {G G' : Ghost} {w w' : World} (h : Grow G w G' w') {b : Nat} (h1 : w.heap.size ≤ b) (h2 : b < w'.heap.size) (h3 : G.base ≤ w.heap.size) : Grow G w { G' with lits := fun c => G'.lits c ∨ c = b } w' :=
  ⟨h.os, h.tape, h.output, h.size, h.base, h.loc, h.tk, h.live, h.X, h.frame, fun c hc => .inl (h.lits c hc), fun c hc => by
    rcases hc with hc | rfl
    · exact h.newL c hc
    · exact .inr ⟨h1, h2, Nat.le_trans h3 h1⟩, h.newX⟩

/-- rows of cells, laid one behind the other -/
theorem flat_get {α : Type} {rows : List (List α)} {s : Nat} (hr : ∀ row ∈ rows, row.length = s) {i j : Nat} {row : List α} {a : α} (hi : rows[i]? = some row) (hj : row[j]? = some a) : rows.flatten[i * s + j]? = some a := by
  induction rows generalizing i with
  | nil => simp at hi
  | cons r rows ih =>
    have hrs : r.length = s := hr r (by simp)
    cases i with
    | zero =>
      simp at hi; subst hi
      have hlt : j < r.length := (List.getElem?_eq_some_iff.1 hj).1
      simp [List.getElem?_append_left hlt, hj]
    | succ i =>
      simp at hi
      have := ih (fun x hx => hr x (List.mem_cons_of_mem _ hx)) hi
      have he : (i + 1) * s + j = r.length + (i * s + j) := by rw [hrs, Nat.add_mul]; omega
      rw [he, List.flatten_cons, List.getElem?_append_right (by omega), Nat.add_sub_cancel_left]
      exact this
theorem flatten_length {α : Type} {rows : List (List α)} {s : Nat} (hr : ∀ row ∈ rows, row.length = s) : rows.flatten.length = rows.length * s := by
  induction rows with
  | nil => simp
  | cons r rows ih => simp [ih fun x hx => hr x (List.mem_cons_of_mem _ hx), hr r (by simp), Nat.add_mul]; omega

/-- a new row of cells, sealed, is the rows that were laid into it -/
theorem sealed_list {G : Ghost} {w : World} {H : Heap} (hh : Holds G w H) {arr : Array Value} {rows : List (List AV)} {s c : Nat} {o : Own} (hr : ∀ row ∈ rows, row.length = s) (hn : rows.length ≤ c) (hc : c ≤ maxLen)
    (ho : o = .full → c = rows.length) (hs : o = .free ∨ o = .full)
    (hc1 : ∀ (i : Nat) (a : AV), rows.flatten[i]? = some a → ∃ y, arr[i]? = some y ∧ SimD G.X a y ∧ y.oneCell' = true) :
    SimD (G.sealed w.heap.size arr (rows.length * s)).X (.list rows o) (.slice (some ⟨w.heap.size, 0, none⟩) rows.length c) := by
  have hg := grow_alloc hh arr 0 (0, 0) (rows.length * s)
  have hfl := flatten_length hr
  have key : ∀ i row j a, rows[i]? = some row → row[j]? = some a → ∃ y, arr[i * s + j]? = some y ∧ SimD G.X a y ∧ y.oneCell' = true ∧ i * s + j < rows.length * s := fun i row j a h1 h2 => by
    obtain ⟨y, k1, k2, k3⟩ := hc1 _ a (flat_get hr h1 h2)
    refine ⟨y, k1, k2, k3, ?_⟩
    have := (List.getElem?_eq_some_iff.1 (flat_get hr h1 h2)).1
    omega
  refine .list rows o w.heap.size 0 c s (fun i j => arr.getD (i * s + j) undef) hn hc ho hs hr (fun i row j a h1 h2 => ?_) (fun i row j a h1 h2 => ?_) (fun i row j a h1 h2 => ?_)
  all_goals
    obtain ⟨y, k1, k2, k3, k4⟩ := key i row j a h1 h2
    have k5 : arr.getD (i * s + j) undef = y := by
      have := (Array.getElem?_eq_some_iff.1 k1).1
      simp [k1]
  · rw [k5, ← k1, Nat.zero_add]; simp only [Ghost.sealed, if_true, if_pos k4]
  · rw [k5]; exact k2.mono hg.X
  · rw [k5]; exact k3

section
variable {P : Program} {L : Heap} {ev raw : Operand → AV} {o : Oper}

/-- a slice of a slice -/
theorem SimD.cut {X : Nat → Nat → Option Value} {rows : List (List AV)} {base : Option Addr} {c l h : Nat} {o' : Own} (hs : SimD X (.list rows .free) (.slice base rows.length c)) (hlh : l ≤ h) (hh : h ≤ rows.length) (m : Nat) (hm : h ≤ m) (hmc : m ≤ c) (s : Nat)
    (hrs : ∀ row ∈ rows, row.length = s) (ho : o' = .free ∨ o' = .full) (hf : o' = .full → m = h) :
    SimD X (.list ((rows.take h).drop l) o') (.slice (if m = l then base else base.map (·.add (l * s))) (h - l) (m - l)) := by
  have hlen : ((rows.take h).drop l).length = h - l := by simp; omega
  cases hs with
  | nil _ a _ hc _ _ =>
    simp only [List.length_nil] at hh hlen ⊢
    have : h - l = 0 := by omega
    simp only [List.take_nil, List.drop_nil, this]
    exact .nil _ _ _ (by omega) (fun e => by have := hf e; omega) ho
  | list _ _ b off _ s' y hn hc _ _ hr hX hS h1 =>
    by_cases h0 : (rows.take h).drop l = []
    · rw [h0] at hlen ⊢
      simp only [List.length_nil] at hlen
      rw [← hlen]
      exact .nil _ _ _ (by omega) (fun e => by have := hf e; omega) ho
    · have hpos : 0 < h - l := by rw [← hlen]; exact List.length_pos_iff.2 h0
      have hml : m ≠ l := by omega
      rw [if_neg hml, ← hlen]
      simp only [Option.map_some, add_mk]
      have hrow : ∃ row, row ∈ rows := by
        cases rows with
        | nil => simp at hh; omega
        | cons r _ => exact ⟨r, by simp⟩
      obtain ⟨r0, hr0⟩ := hrow
      have hss : s' = s := (hr r0 hr0).symm.trans (hrs r0 hr0)
      subst hss
      have hget : ∀ i row, ((rows.take h).drop l)[i]? = some row → rows[l + i]? = some row := fun i row hi => (take_get (drop_get hi)).1
      have he : ∀ i j, off + l * s' + i * s' + j = off + (l + i) * s' + j := fun i j => by rw [Nat.add_mul]; omega
      refine .list _ _ b (off + l * s') _ s' (fun i j => y (l + i) j) (by omega) (by omega) (fun e => by have := hf e; omega) ho (fun row hrow => hr row (List.mem_of_mem_take (List.mem_of_mem_drop hrow)))
        (fun i row j a k1 k2 => ?_) (fun i row j a k1 k2 => hS _ _ j a (hget i row k1) k2) (fun i row j a k1 k2 => h1 _ _ j a (hget i row k1) k2)
      rw [he]; exact hX _ _ j a (hget i row k1) k2

/-- an operand that may lack: its number -/
def optNat (ev : Operand → AV) (x : Option Operand) (d : Nat) : Option Nat :=
  match x with
  | none => some d
  | some x => match ev x with
    | .v (.int _ n) => some n.toNat
    | _ => none
def optOk (ev : Operand → AV) (x : Option Operand) : Prop :=
  match x with
  | none => True
  | some x => match ev x with
    | .v (.int _ n) => 0 ≤ n
    | _ => False
theorem sliceBound_run {w : World} {k : IntKind} {n : Int} {y : Nat} {code : BoundsCode} (h0 : 0 ≤ n) (h1 : n.toNat ≤ y) : (Instr.sliceBound (.int k n) y code).run P w = .ok n.toNat w := by
  have : n ≤ (y : Int) := by omega
  simp [Instr.sliceBound, asIntOf, h0, this]
theorem opt_run {G : Ghost} {x : Option Operand} {d r : Nat} {ρ : Operand → Value} (hs : ∀ y, x = some y → Sim G (ev y) (ρ y)) (hn : optNat ev x d = some r) (hok : optOk ev x) :
    (x = none ∧ r = d) ∨ ∃ y k n, x = some y ∧ ρ y = .int k n ∧ 0 ≤ n ∧ r = n.toNat := by
  cases x with
  | none => simp [optNat] at hn; exact .inl ⟨rfl, hn.symm⟩
  | some y =>
    right
    unfold optNat at hn; unfold optOk at hok
    simp only at hn hok
    split at hn
    · rename_i k n he
      simp only [he] at hok
      cases hn
      have h1 := hs y rfl
      rw [he] at h1
      exact ⟨y, k, n, rfl, h1.v_inv, hok, rfl⟩
    · cases hn

theorem q_slice {t e : TypeId} {x : Operand} {lo hi mx : Option Operand} {ti te : TI} {rows : List (List AV)} {own o' : Own} {l h : Nat} (ho : o.op = .slice t x lo hi mx) (ht : TIs P t ti) (hk : ti.kind = .slice e) (hte : TIs P e te)
    (hx : ev x = .list rows own) (hl : optNat ev lo 0 = some l) (hlo : optOk ev lo) (hh' : optNat ev hi rows.length = some h) (hhi : optOk ev hi) (hmo : optOk ev mx) (hlh : l ≤ h) (hhn : h ≤ rows.length)
    (hm : (mx = none ∧ (o' = .full → own = .full ∧ h = rows.length)) ∨ (hi ≠ none ∧ ∃ m, optNat ev mx 0 = some m ∧ mx ≠ none ∧ h ≤ m ∧ m ≤ rows.length ∧ (o' = .full → m = h)))
    (hrs : ∀ row ∈ rows, row.length = te.size) (ho' : o' = .free ∨ o' = .full) : QOk P L ev raw o (.list ((rows.take h).drop l) o') :=
  .still fun G w ρ hh => by
    have h1 := hh.ev x (by rw [ho]; simp [Op.operands])
    rw [hx] at h1
    have hS : ∀ y, (lo = some y ∨ hi = some y ∨ mx = some y) → Sim G (ev y) (ρ y) := fun y hy => hh.ev y (by
      rw [ho]; simp only [Op.operands, Array.mem_append, Option.mem_toArray]
      rcases hy with hy | hy | hy <;> simp [hy])
    have h2 := h1.list_inv
    obtain ⟨base, c, h3, h4, h5, _⟩ := h2.1.slice
    have hfull : own = .full → c = rows.length := fun e => by
      obtain ⟨b', c', h6, _, _, h7⟩ := (h2.2 e).slice
      rw [h3] at h6
      simp only [Value.slice.injEq] at h6
      rw [h6.2.2]; exact h7 rfl
    have hsz : ∀ w, (sizeOf e).run P w = .ok te.size w := fun w => by simp [sizeOf, typeInfo, hte.info, hte.size]
    have hb : ∃ m, h ≤ m ∧ m ≤ c ∧ (o' = .full → m = h) ∧ (Instr.sliceBounds true rows.length c (lo.map ρ) (hi.map ρ) (mx.map ρ)).run P w = .ok (l, h, m) w := by
      have hlo' := opt_run (fun y hy => hS y (.inl hy)) hl hlo
      have hhi' := opt_run (fun y hy => hS y (.inr (.inl hy))) hh' hhi
      rcases hm with ⟨rfl, hmf⟩ | ⟨hne, m, hmm, hmne, hm1, hm2, hmf⟩
      · refine ⟨c, by omega, Nat.le_refl _, fun e => by have := hmf e; rw [hfull this.1, this.2], ?_⟩
        rcases hlo' with ⟨rfl, rfl⟩ | ⟨y, k, n, rfl, hy, hn0, rfl⟩ <;> rcases hhi' with ⟨rfl, rfl⟩ | ⟨y', k', n', rfl, hy', hn0', rfl⟩
        · simp [Instr.sliceBounds]
        · simp [Instr.sliceBounds, hy', sliceBound_run hn0' (show n'.toNat ≤ c by omega)]
        · simp [Instr.sliceBounds, hy, sliceBound_run hn0 hlh]
        · simp [Instr.sliceBounds, hy, hy', sliceBound_run hn0' (show n'.toNat ≤ c by omega), sliceBound_run hn0 hlh]
      · refine ⟨m, hm1, by omega, hmf, ?_⟩
        have hmx' := opt_run (fun y hy => hS y (.inr (.inr hy))) hmm hmo
        rcases hmx' with ⟨rfl, rfl⟩ | ⟨y2, k2, n2, rfl, hy2, hn02, rfl⟩
        · exact absurd rfl hmne
        rcases hhi' with ⟨rfl, rfl⟩ | ⟨y', k', n', rfl, hy', hn0', rfl⟩
        · exact absurd rfl hne
        rcases hlo' with ⟨rfl, rfl⟩ | ⟨y, k, n, rfl, hy, hn0, rfl⟩
        · simp [Instr.sliceBounds, hy', hy2, sliceBound_run hn02 (show n2.toNat ≤ c by omega), sliceBound_run hn0' hm1]
        · simp [Instr.sliceBounds, hy, hy', hy2, sliceBound_run hn02 (show n2.toNat ≤ c by omega), sliceBound_run hn0' hm1, sliceBound_run hn0 hlh]
    obtain ⟨m, hm1, hm2, hm3, hrun⟩ := hb
    have hlen : ((rows.take h).drop l).length = h - l := by simp; omega
    refine ⟨.slice (if m = l then base else base.map (·.add (l * te.size))) (h - l) (m - l), ?_, .data _ _ ?_⟩
    · simp only [execOp, ho, Instr.sliceAt, h3]
      simp [run_underlying (ht.slice hk), Instr.slice, hrun, hsz]
    · have h6 := h2.1
      rw [h3] at h6
      exact h6.cut hlh hhn m hm1 hm2 te.size hrs ho' hm3
/-- a slice of a slice that may be written -/
theorem q_slice_arr {t e : TypeId} {x : Operand} {lo hi mx : Option Operand} {ti te : TI} {id off n c l h m : Nat} (ho : o.op = .slice t x lo hi mx) (ht : TIs P t ti) (hk : ti.kind = .slice e) (hte : TIs P e te)
    (hx : ev x = .arr id off n c) (hl : optNat ev lo 0 = some l) (hlo : optOk ev lo) (hh' : optNat ev hi n = some h) (hhi : optOk ev hi) (hmo : optOk ev mx) (hlh : l ≤ h) (hhm : h ≤ m) (hmc : m ≤ c)
    (hm : (mx = none ∧ m = c) ∨ (hi ≠ none ∧ mx ≠ none ∧ optNat ev mx 0 = some m)) : QOk P L ev raw o (.arr id (off + l * te.size) (h - l) (m - l)) :=
  .still fun G w ρ hh => by
    have h1 := hh.ev x (by rw [ho]; simp [Op.operands])
    rw [hx] at h1
    have hS : ∀ y, (lo = some y ∨ hi = some y ∨ mx = some y) → Sim G (ev y) (ρ y) := fun y hy => hh.ev y (by
      rw [ho]; simp only [Op.operands, Array.mem_append, Option.mem_toArray]
      rcases hy with hy | hy | hy <;> simp [hy])
    obtain ⟨base, h3, h4, h5, h6, h7⟩ := h1.arr_inv
    have hsz : ∀ w, (sizeOf e).run P w = .ok te.size w := fun w => by simp [sizeOf, typeInfo, hte.info, hte.size]
    have hrun : (Instr.sliceBounds true n c (lo.map ρ) (hi.map ρ) (mx.map ρ)).run P w = .ok (l, h, m) w := by
      have hlo' := opt_run (fun y hy => hS y (.inl hy)) hl hlo
      have hhi' := opt_run (fun y hy => hS y (.inr (.inl hy))) hh' hhi
      rcases hm with ⟨rfl, rfl⟩ | ⟨hne, hmne, hmm⟩
      · rcases hlo' with ⟨rfl, rfl⟩ | ⟨y, k, q, rfl, hy, hn0, rfl⟩ <;> rcases hhi' with ⟨rfl, rfl⟩ | ⟨y', k', q', rfl, hy', hn0', rfl⟩
        · simp [Instr.sliceBounds]
        · simp [Instr.sliceBounds, hy', sliceBound_run hn0' hhm]
        · simp [Instr.sliceBounds, hy, sliceBound_run hn0 hlh]
        · simp [Instr.sliceBounds, hy, hy', sliceBound_run hn0' hhm, sliceBound_run hn0 hlh]
      · have hmx' := opt_run (fun y hy => hS y (.inr (.inr hy))) hmm hmo
        rcases hmx' with ⟨rfl, rfl⟩ | ⟨y2, k2, n2, rfl, hy2, hn02, rfl⟩
        · exact absurd rfl hmne
        rcases hhi' with ⟨rfl, rfl⟩ | ⟨y', k', n', rfl, hy', hn0', rfl⟩
        · exact absurd rfl hne
        rcases hlo' with ⟨rfl, rfl⟩ | ⟨y, k, n, rfl, hy, hn0, rfl⟩
        · simp [Instr.sliceBounds, hy', hy2, sliceBound_run hn02 hmc, sliceBound_run hn0' hhm]
        · simp [Instr.sliceBounds, hy, hy', hy2, sliceBound_run hn02 hmc, sliceBound_run hn0' hhm, sliceBound_run hn0 hlh]
    refine ⟨.slice (if m = l then base else base.map (·.add (l * te.size))) (h - l) (m - l), ?_, .arr _ _ _ _ _ h4 (by omega) (by omega) fun hne => ?_⟩
    · simp only [execOp, ho, Instr.sliceAt, h3]
      simp [run_underlying (ht.slice hk), Instr.slice, hrun, hsz]
    · rw [if_neg (by omega), h7 (by omega)]
      simp [add_mk]
theorem q_slice_str {t : TypeId} {x : Operand} {lo hi : Option Operand} {ti : TI} {s : ByteArray} {l h : Nat} (ho : o.op = .slice t x lo hi none) (ht : TIs P t ti) (hk : ti.kind = .string)
    (hx : ev x = .v (.string s)) (hl : optNat ev lo 0 = some l) (hlo : optOk ev lo) (hh' : optNat ev hi s.size = some h) (hhi : optOk ev hi) (hlh : l ≤ h) (hhn : h ≤ s.size) : QOk P L ev raw o (.v (.string (s.extract l h))) :=
  .still fun G w ρ hh => by
    have h1 := hh.ev x (by rw [ho]; simp [Op.operands])
    rw [hx] at h1
    have hS : ∀ y, (lo = some y ∨ hi = some y) → Sim G (ev y) (ρ y) := fun y hy => hh.ev y (by
      rw [ho]; simp only [Op.operands, Array.mem_append, Option.mem_toArray]
      rcases hy with hy | hy <;> simp [hy])
    have hlo' := opt_run (fun y hy => hS y (.inl hy)) hl hlo
    have hhi' := opt_run (fun y hy => hS y (.inr hy)) hh' hhi
    refine ⟨.string (s.extract l h), ?_, .data _ _ (.v _)⟩
    have hrun : (Instr.sliceBounds false s.size s.size (lo.map ρ) (hi.map ρ) none).run P w = .ok (l, h, s.size) w := by
      rcases hlo' with ⟨rfl, rfl⟩ | ⟨y, k, n, rfl, hy, hn0, rfl⟩ <;> rcases hhi' with ⟨rfl, rfl⟩ | ⟨y', k', n', rfl, hy', hn0', rfl⟩
      · simp [Instr.sliceBounds]
      · simp [Instr.sliceBounds, hy', sliceBound_run hn0' hhn]
      · simp [Instr.sliceBounds, hy, sliceBound_run hn0 hlh]
      · simp [Instr.sliceBounds, hy, hy', sliceBound_run hn0' hhn, sliceBound_run hn0 hlh]
    simp only [execOp, ho, Instr.sliceAt, h1.v_inv]
    simp [run_underlying (ht.string hk), Instr.slice, hrun]
end
end Go.Am
