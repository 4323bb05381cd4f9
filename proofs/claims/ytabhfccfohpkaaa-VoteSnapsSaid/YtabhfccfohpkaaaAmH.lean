/- The abstract machine's operations that make rows, convert, and hold pointers against nil. -/
import Derived.Test.YtabhfccfohpkaaaAmG
namespace Go.Am
open Go.RowKit
set_option linter.unusedSimpArgs false
set_option linter.unusedVariables false

/-- rows with some of them laid -/
def layRows (size : Nat) (rows : List (List AV)) : List (Nat × List AV) → Option (List (List AV))
  | [] => some rows
  | (i, l) :: r => if l.length = size ∧ i < rows.length then layRows size (rows.set i l) r else none
theorem flatten_set {size : Nat} : ∀ {rows : List (List AV)} {i : Nat} {l : List AV}, (∀ row ∈ rows, row.length = size) → l.length = size → i < rows.length → (rows.set i l).flatten = putCells rows.flatten (i * size) l
  | [], i, l, _, _, h => by simp at h
  | r :: rows, 0, l, hr, hl, _ => by
    have h1 := hr r (by simp)
    simp [putCells, ← h1.trans hl.symm]
  | r :: rows, i + 1, l, hr, hl, h => by
    have h1 := hr r (by simp)
    have ih := flatten_set (rows := rows) (i := i) (fun x hx => hr x (List.mem_cons_of_mem _ hx)) hl (by simpa using h)
    rw [List.set_cons_succ, List.flatten_cons, ih, List.flatten_cons]
    have he : (i + 1) * size = r.length + i * size := by rw [h1, Nat.add_mul]; omega
    unfold putCells
    rw [he, List.take_append, List.drop_append]
    have e1 : List.take (r.length + i * size) r = r := List.take_of_length_le (by omega)
    have e2 : List.drop (r.length + i * size + l.length) r = [] := List.drop_eq_nil_of_le (by omega)
    rw [e1, e2, show r.length + i * size - r.length = i * size by omega, show r.length + i * size + l.length - r.length = i * size + l.length by omega]
    simp
theorem layRows_fill {size : Nat} : ∀ {p : List (Nat × List AV)} {rows rows' : List (List AV)}, (∀ row ∈ rows, row.length = size) → layRows size rows p = some rows' →
    aFill (fun i => some (i * size, size)) rows.flatten p = some rows'.flatten ∧ (∀ row ∈ rows', row.length = size) ∧ rows'.length = rows.length
  | [], rows, rows', hr, h => by cases h; exact ⟨rfl, hr, rfl⟩
  | (i, l) :: r, rows, rows', hr, h => by
    unfold layRows at h
    split at h
    · rename_i hc
      obtain ⟨h1, h2⟩ := hc
      have hr' : ∀ row ∈ rows.set i l, row.length = size := fun row hrow => by
        rcases List.mem_or_eq_of_mem_set hrow with hm | he
        · exact hr row hm
        · rw [he]; exact h1
      have ih := layRows_fill hr' h
      refine ⟨?_, ih.2.1, by rw [ih.2.2]; simp⟩
      unfold aFill
      have hfl := flatten_length hr
      have hle : i * size + size ≤ rows.flatten.length := by
        rw [hfl]
        have : (i + 1) * size ≤ rows.length * size := Nat.mul_le_mul_right _ h2
        rw [Nat.add_mul] at this; omega
      simp only
      rw [if_pos ⟨h1, hle⟩, ← flatten_set hr h1 h2]
      exact ih.1
    · cases h

theorem zeros_rel (X : Nat → Nat → Option Value) (z : Value) (n : Nat) (h1 : ∀ y ∈ z.cells.toList, y.oneCell' = true) (hz : 0 < z.cells.size) :
    RcQ (Cell X) (List.replicate n (zcells z)).flatten ((Array.range (n * z.cells.size)).map (fun i => z.cells[i % z.cells.size]!)) := by
  have hl : (zcells z).length = z.cells.size := by simp [zcells]
  have hfl := flatten_length (rows := List.replicate n (zcells z)) (s := z.cells.size) (fun row hr => by rw [List.eq_of_mem_replicate hr]; exact hl)
  refine ⟨by rw [hfl]; simp, fun i a ha => ?_⟩
  have hi := (List.getElem?_eq_some_iff.1 ha).1
  rw [hfl, List.length_replicate] at hi
  have hm : i % z.cells.size < z.cells.size := Nat.mod_lt _ hz
  have hdiv : i / z.cells.size < n := Nat.div_lt_of_lt_mul (by rw [Nat.mul_comm]; exact hi)
  have hg := flat_get (rows := List.replicate n (zcells z)) (s := z.cells.size) (i := i / z.cells.size) (j := i % z.cells.size) (row := zcells z) (a := .ofCell (z.cells[i % z.cells.size])) (fun row hr => by rw [List.eq_of_mem_replicate hr]; exact hl)
    (by rw [List.getElem?_replicate, if_pos hdiv]) (by unfold zcells; rw [List.getElem?_map, Array.getElem?_toList, Array.getElem?_eq_getElem hm]; rfl)
  rw [show i / z.cells.size * z.cells.size + i % z.cells.size = i by have := Nat.div_add_mod i z.cells.size; rw [Nat.mul_comm]; omega] at hg
  rw [hg] at ha
  cases ha
  have he : ((Array.range (n * z.cells.size)).map (fun i => z.cells[i % z.cells.size]!)).getD i undef = z.cells[i % z.cells.size] := by
    have : i < n * z.cells.size := hi
    simp [this, hm]
  rw [he]
  exact ⟨.ofCell X _, h1 _ (by simp)⟩

section
variable {P : Program} {L : Heap} {ev raw : Operand → AV} {o : Oper}

theorem slot_lit {G : Ghost} {rows : List (List AV)} {b : Nat} {x : Value} (h : SimD G.X (.list rows .full) x) (hx : x = .slice (some ⟨b, 0, none⟩) rows.length rows.length) (hb : G.lits b) : Slot G (.list rows .lit) x := by
  unfold Slot; exact ⟨.data _ _ h, b, 0, hx, hb⟩

theorem q_buildSlice {t e : TypeId} {len : Nat} {parts : Array (Nat × Operand)} {ti te : TI} {z : Value} {p : List (Nat × List AV)} {rows : List (List AV)} (ho : o.op = .buildSlice t len parts) (ht : TIs P t ti) (hk : ti.kind = .slice e) (hte : TIs P e te) (hz : te.zero = some z)
    (hzs : z.cells.size = te.size) (hz1 : ∀ y ∈ z.cells.toList, y.oneCell' = true) (hs0 : 0 < te.size) (hsm : len * te.size ≤ 16777216) (hp : sealParts ev parts.toList = some p) (hl : layRows te.size (List.replicate len (zcells z)) p = some rows) : QOk P L ev raw o (.list rows .lit) := by
  intro G w ρ hh
  have hbs := hh.base
  have hs := part_ops (parts := parts) hh (by rw [ho]; simp [Op.operands])
  have h1 := sealParts_rel hp hs
  have hzr := zeros_rel G.X z len hz1 (by omega)
  have hzlen : ∀ row ∈ List.replicate len (zcells z), row.length = te.size := fun row hr => by rw [List.eq_of_mem_replicate hr]; simp [zcells]; omega
  obtain ⟨k1, k2, k3⟩ := layRows_fill hzlen hl
  rw [hzs] at hzr
  obtain ⟨arr, h2, h3⟩ := fill_rel h1 hzr k1
  have hrl : rows.length = len := by rw [k3]; simp
  have hfl := flatten_length k2
  have hsd := sealed_list (o := .full) hh.holds (arr := arr) k2 (Nat.le_refl _) (by rw [hrl]; unfold maxLen; have : len ≤ len * te.size := Nat.le_mul_of_pos_right _ hs0; omega) (fun _ => rfl) (.inr rfl) (fun i a ha => by
    have hi := (List.getElem?_eq_some_iff.1 ha).1
    have := h3.2 i a ha
    have hsz : i < arr.size := by rw [← h3.1]; exact hi
    exact ⟨arr.getD i undef, by simp [hsz], this.1, this.2⟩)
  have hg := grow_alloc hh.holds arr e (0, 0) (rows.length * te.size)
  refine ⟨.slice (some ⟨w.heap.size, 0, none⟩) rows.length rows.length, { G.sealed w.heap.size arr (rows.length * te.size) with lits := fun c => (G.sealed w.heap.size arr (rows.length * te.size)).lits c ∨ c = w.heap.size }, _, ?_, slot_lit (b := w.heap.size) hsd rfl (Or.inr rfl), hg.lit (Nat.le_refl _) (by simp) hbs⟩
  have hz' : te.zero = hte.i.zero := hte.zero.symm
  have hpm : (parts.map fun x => (x.1, ρ x.2)).toList = parts.toList.map fun q => (q.1, ρ q.2) := by simp
  have hb : (Instr.buildSlice t len (parts.map fun (i, x) => (i, ρ x))).run P w = .ok (.slice (some ⟨w.heap.size, 0, none⟩) len len) (w.alloc (.cells arr e)) := by
    unfold Instr.buildSlice
    have hsz : (sizeOf e).run P w = .ok te.size w := by simp [sizeOf, typeInfo, hte.info, hte.size]
    have hzv : (zeroValue e).run P w = .ok z w := by simp [zeroValue, typeInfo, hte.info, hte.zero, hz]
    rw [Sem.run_bind, run_underlying (ht.slice hk)]
    simp only [Result.andThen]
    rw [Sem.run_bind, hsz]
    simp only [Result.andThen]
    rw [if_neg (by omega)]
    by_cases h0 : len * te.size = 0
    · have hl0 : len = 0 := by
        rcases Nat.mul_eq_zero.1 h0 with h | h
        · exact h
        · omega
      subst hl0
      simp only [Nat.zero_mul] at h2
      have hr0 : rows = [] := List.length_eq_zero_iff.1 hrl
      rw [if_pos h0]
      rw [Sem.run_bind, Sem.run_pure]
      simp only [Result.andThen, Nat.zero_mul]
      have : (Array.map (fun x => (#[] : Array Value)[x % (#[] : Array Value).size]!) (Array.range 0)) = Array.map (fun i => z.cells[i % te.size]!) (Array.range 0) := by simp
      rw [this, hpm, h2]
      rfl
    · rw [if_neg h0]
      rw [Sem.run_bind, hzv]
      simp only [Result.andThen]
      rw [Sem.run_bind, Sem.run_pure]
      simp only [Result.andThen]
      rw [hzs, hpm, h2]
      rfl
  simp only [execOp, ho]
  rw [Sem.run_bind, hb, hrl]
  rfl

theorem q_convert_int {s t : TypeId} {x : Operand} {ti : TI} {k k' : IntKind} {n : Int} (ho : o.op = .convert s t x) (hs : (P.underlying s).isSome = true) (ht : TIs P t ti) (hk : ti.kind = .int k') (hx : ev x = .v (.int k n)) : QOk P L ev raw o (.v (.int k' (k'.wrap n))) :=
  .still fun G w ρ hh => by
    have h1 := hh.ev x (by rw [ho]; simp [Op.operands])
    rw [hx] at h1
    obtain ⟨d, hd⟩ := Option.isSome_iff_exists.1 hs
    refine ⟨.int k' (k'.wrap n), ?_, .data _ _ (.v _)⟩
    simp only [execOp, ho, h1.v_inv]
    simp [convert, run_underlying hd, run_underlying (ht.int hk), Conv.intToInt]
theorem q_convert_float {s t : TypeId} {x : Operand} {ti : TI} {k : IntKind} {k' : FloatKind} {n : Int} (ho : o.op = .convert s t x) (hs : (P.underlying s).isSome = true) (ht : TIs P t ti) (hk : ti.kind = .float k') (hx : ev x = .v (.int k n)) : QOk P L ev raw o (.v (.float k' (k'.nearest n))) :=
  .still fun G w ρ hh => by
    have h1 := hh.ev x (by rw [ho]; simp [Op.operands])
    rw [hx] at h1
    obtain ⟨d, hd⟩ := Option.isSome_iff_exists.1 hs
    refine ⟨.float k' (k'.nearest n), ?_, .data _ _ (.v _)⟩
    simp only [execOp, ho, h1.v_inv]
    simp [convert, run_underlying hd, run_underlying (ht.float hk), Conv.intToFloat]
theorem q_convert_str {s t : TypeId} {x : Operand} {ti : TI} {b : ByteArray} (ho : o.op = .convert s t x) (hs : (P.underlying s).isSome = true) (ht : TIs P t ti) (hk : ti.kind = .string) (hx : ev x = .v (.string b)) : QOk P L ev raw o (.v (.string b)) :=
  .still fun G w ρ hh => by
    have h1 := hh.ev x (by rw [ho]; simp [Op.operands])
    rw [hx] at h1
    obtain ⟨d, hd⟩ := Option.isSome_iff_exists.1 hs
    refine ⟨.string b, ?_, .data _ _ (.v _)⟩
    simp only [execOp, ho, h1.v_inv]
    simp [convert, run_underlying hd, run_underlying (ht.string hk)]
theorem q_convert_bytes {s t e : TypeId} {x : Operand} {si ti te : TI} {l : List UInt8} {own : Own} (ho : o.op = .convert s t x) (hs : TIs P s si) (hks : si.kind = .slice e) (hte : TIs P e te) (hke : te.kind = .int .u8) (ht : TIs P t ti) (hk : ti.kind = .string)
    (hx : ev x = .list (l.map brow) own) : QOk P L ev raw o (.v (.string ⟨l.toArray⟩)) :=
  .still fun G w ρ hh => by
    have h1 := hh.ev x (by rw [ho]; simp [Op.operands])
    rw [hx] at h1
    refine ⟨.string ⟨l.toArray⟩, ?_, .data _ _ (.v _)⟩
    have h2 := h1.list_inv.1
    generalize hρ : ρ x = xv at h1 h2
    have hc : (convert s t xv).run P w = .ok (.string ⟨l.toArray⟩) w := by
      cases hl : l with
      | nil =>
        subst hl
        obtain ⟨base, c, rfl, _⟩ := h2.slice
        simp only [List.map_nil, List.length_nil]
        cases base with
        | none => exact run_convert_bytes_nil w s e (hs.slice hks) (hte.int hke) 0 c t (ht.string hk)
        | some a => exact run_convert_bytes_back w s t e a c [] (hs.slice hks) (hte.int hke) (ht.string hk) (fun j hj => by simp at hj)
      | cons b0 l0 =>
        rw [← hl]
        obtain ⟨b, off, c, s', y, rfl, hr, hX, hS, h1'⟩ := h2.pos (by simp [hl])
        · have hs1 : s' = 1 := by
            have := hr (brow b0) (by rw [hl]; simp)
            simpa [brow] using this.symm
          subst hs1
          rw [List.length_map]
          refine run_convert_bytes_back w s t e _ c l (hs.slice hks) (hte.int hke) (ht.string hk) fun j hj => ?_
          have k1 : (l.map brow)[j]? = some (brow l[j]) := by simp [hj]
          have k2 := hX j _ 0 _ k1 (by simp [brow]; rfl)
          have k3 := hS j _ 0 _ k1 (by simp [brow]; rfl)
          have k4 := hh.holds.X _ _ _ k2
          rw [add_mk]
          have k5 := (Sim.data (G := G) _ _ k3).v_inv
          rw [k5] at k4
          simpa using k4
    simp only [execOp, ho, hρ]
    rw [Sem.run_bind, hc]
    rfl
theorem q_convert_toBytes {s t e : TypeId} {x : Operand} {si ti te : TI} {b : ByteArray} (ho : o.op = .convert s t x) (hs : TIs P s si) (hks : si.kind = .string) (hte : TIs P e te) (hke : te.kind = .int .u8) (ht : TIs P t ti) (hk : ti.kind = .slice e)
    (hx : ev x = .v (.string b)) (hb : b.size ≤ 4611686018427387904) : QOk P L ev raw o (.list (b.data.toList.map brow) .free) := fun G w ρ hh => by
  have h1 := hh.ev x (by rw [ho]; simp [Op.operands])
  rw [hx] at h1
  have hr := run_bytes_of_string (P := P) w s t e b (hs.string hks) (ht.slice hk) (hte.int hke)
  have hcap := grownCap_ge w b.size 0 e
  have hcap2 := grownCap_le_maxLen w b.size 0 e (by unfold maxLen; omega)
  have hlen : (b.data.toList.map brow).length = b.size := by simp
  generalize hcc : grownCap w b.size 0 e = cap at hr hcap hcap2
  have hrow : ∀ row ∈ b.data.toList.map brow, row.length = 1 := fun row hm => by
    obtain ⟨x, _, rfl⟩ := List.mem_map.1 hm; rfl
  have hflat : (b.data.toList.map brow).flatten = b.data.toList.map fun c => AV.v (.int .u8 c.toNat) := by
    generalize b.data.toList = l
    induction l with
    | nil => rfl
    | cons a l ih => simp [ih, brow]
  have hh' : Holds G w.drew L := ⟨hh.holds.X, hh.holds.res, hh.holds.ids, hh.holds.live, hh.holds.blocks, hh.holds.lits⟩
  have hsd := sealed_list (o := .free) hh' (arr := bytesRow b cap) (c := cap) hrow (by rw [hlen]; exact hcap) hcap2 (by simp) (.inl rfl) (fun i a ha => by
    rw [hflat] at ha
    rw [List.getElem?_map, Option.map_eq_some_iff] at ha
    obtain ⟨c, hc, rfl⟩ := ha
    rw [Array.getElem?_toList] at hc
    have hi := (Array.getElem?_eq_some_iff.1 hc).1
    refine ⟨.int .u8 c.toNat, ?_, .v _, rfl⟩
    unfold bytesRow
    rw [Array.getElem?_append_left (by simpa using hi)]
    simp [hc])
  have hg := grow_alloc hh' (bytesRow b cap) e ((bytesRow b cap).size, (bytesRow b cap).size + 1) ((b.data.toList.map brow).length * 1)
  refine ⟨_, _, _, ?_, .of (.data _ _ hsd), ⟨hg.os, hg.tape, hg.output, hg.size, hg.base, hg.loc, hg.tk, hg.live, hg.X, hg.frame, hg.lits, hg.newL, hg.newX⟩⟩
  simp only [execOp, ho, h1.v_inv]
  rw [Sem.run_bind, hr, hlen]
  rfl
end
end Go.Am
