/- The abstract machine's operations that read memory, or make rows that stay. -/
import Derived.Test.YtabhfccfohpkaaaAmD
import Derived.Laws.Cells
namespace Go.Am
open Go.RowKit
set_option linter.unusedSimpArgs false
set_option linter.unusedVariables false

theorem add_mk (b off n : Nat) : (⟨b, off, none⟩ : Addr).add n = ⟨b, off + n, none⟩ := by unfold Addr.add; split <;> simp_all
theorem box_cell {G : Ghost} {w : World} {id : Nat} {cells : List AV} (h : ResHolds G w (id, .box cells)) {i : Nat} {a : AV} (ha : cells[i]? = some a) : ∃ x, w.cell? ⟨G.loc id, i, none⟩ = some x ∧ Sim G a x ∧ w.frozen? ⟨G.loc id, i, none⟩ = false := by
  obtain ⟨_, arr, E, fr, hh, hsz, hf, hc⟩ := h
  have hi : i < arr.size := Nat.lt_of_lt_of_le (List.getElem?_eq_some_iff.1 ha).1 hsz
  have h1 := hc i a ha
  have h2 : arr.getD i undef = arr[i] := by simp [hi]
  rw [h2] at h1
  exact ⟨arr[i], by simp [World.cell?, hh, hi], h1, hf i⟩

/-- the cells behind an address, one by one -/
theorem cells_run {P : Program} {w : World} {b off n : Nat} {y : Nat → Value} (h : ∀ j, j < n → w.cell? ⟨b, off + j, none⟩ = some (y j)) : (loadCells ⟨b, off, none⟩ n).run P w = .ok ((List.range n).map y).toArray w :=
  run_loadCells w _ n y fun j hj => by rw [add_mk]; exact h j hj

section
variable {P : Program} {L : Heap} {ev raw : Operand → AV} {o : Oper}

theorem loadAt_one {t : TypeId} {ti : TI} {w : World} {b off : Nat} {x : Value} (ht : TIs P t ti) (hk : isAggK ti.kind = false) (hc : w.cell? ⟨b, off, none⟩ = some x) :
    (Instr.loadAt t (.pointer (some ⟨b, off, none⟩))).run P w = .ok x w := by
  unfold Instr.loadAt
  have h1 : (Instr.sureAddr (.pointer (some ⟨b, off, none⟩))).run P w = .ok ⟨b, off, none⟩ w := rfl
  rw [Sem.run_bind, h1]
  simp only [Result.andThen]
  unfold loadVar
  rw [Sem.run_bind, kindAgg ht w]
  rw [hk]
  simp [Result.andThen, hc]
theorem loadAt_agg {t : TypeId} {ti : TI} {w : World} {b off : Nat} {y : Nat → Value} (ht : TIs P t ti) (hk : isAggK ti.kind = true) (hc : ∀ j, j < ti.size → w.cell? ⟨b, off + j, none⟩ = some (y j)) :
    (Instr.loadAt t (.pointer (some ⟨b, off, none⟩))).run P w = .ok (.agg ((List.range ti.size).map y).toArray) w := by
  unfold Instr.loadAt
  have h1 : (Instr.sureAddr (.pointer (some ⟨b, off, none⟩))).run P w = .ok ⟨b, off, none⟩ w := rfl
  rw [Sem.run_bind, h1]
  simp only [Result.andThen]
  unfold loadVar
  rw [Sem.run_bind, kindAgg ht w]
  have h2 : (sizeOf t).run P w = .ok ti.size w := by simp [sizeOf, typeInfo, ht.info, ht.size]
  rw [hk]
  simp only [Result.andThen, if_true]
  rw [Sem.run_bind, h2]
  simp only [Result.andThen]
  rw [Sem.run_bind, cells_run hc]
  rfl

theorem range_getD (n : Nat) (y : Nat → Value) {i : Nat} (h : i < n) : ((List.range n).map y).toArray.getD i undef = y i := by simp [h]

/-- what stands behind an address -/
def aload (L : Heap) (ti : TI) : AV → Option AV
  | .ptr id off => match findL L id with
    | some (.box cells) =>
      if isAggK ti.kind then (if off + ti.size ≤ cells.length then some (.agg ((cells.drop off).take ti.size)) else none)
      else cells[off]?
    | some (.seq rows k) =>
      if isAggK ti.kind then (if off + ti.size ≤ (seqC rows k).length then some (.agg (((seqC rows k).drop off).take ti.size)) else none)
      else (seqC rows k)[off]?
    | _ => none
  | .cref cells =>
    if isAggK ti.kind then (if ti.size ≤ cells.length then some (.agg (cells.take ti.size)) else none)
    else cells[0]?
  | _ => none

theorem take_get {α : Type} {l : List α} {n i : Nat} {a : α} (h : (l.take n)[i]? = some a) : l[i]? = some a ∧ i < n := by
  rw [List.getElem?_take] at h
  split at h
  · exact ⟨h, by assumption⟩
  · cases h

theorem load_run {G : Ghost} {w : World} {t : TypeId} {x : Value} {ax : AV} {ti : TI} {c : AV} (h1 : Sim G ax x) (hh : Holds G w L) (ht : TIs P t ti) (h : aload L ti ax = some c) : ∃ v ad, x = .pointer (some ad) ∧ (Instr.loadAt t x).run P w = .ok v w ∧ Sim G c v := by
    unfold aload at h
    split at h
    · rename_i id off
      obtain ⟨hx1, hlive⟩ := h1.ptr_inv
      split at h
      · rename_i cells hf
        have hres := hh.res _ (findL_mem hf)
        split at h
        · rename_i hk
          split at h
          · rename_i hle
            cases h
            have hy : ∀ j, ∃ y, j < ti.size → w.cell? ⟨G.loc id, off + j, none⟩ = some y ∧ ∀ a, cells[off + j]? = some a → Sim G a y := fun j => by
              by_cases hj : j < ti.size
              · have : cells[off + j]? = some (cells[off + j]'(by omega)) := List.getElem?_eq_getElem _
                obtain ⟨y, k1, k2, _⟩ := box_cell hres this
                exact ⟨y, fun _ => ⟨k1, fun a ha => by rw [this] at ha; cases ha; exact k2⟩⟩
              · exact ⟨undef, fun hn => absurd hn hj⟩
            refine ⟨_, _, hx1, (by rw [hx1]; exact loadAt_agg ht hk (y := fun j => (hy j).choose) fun j hj => ((hy j).choose_spec hj).1), .agg _ _ (by simp; omega) fun i a ha => ?_⟩
            obtain ⟨h2, h3⟩ := take_get ha
            rw [range_getD _ _ h3]
            exact ((hy i).choose_spec h3).2 a (by rw [List.getElem?_drop] at h2; exact h2)
          · cases h
        · rename_i hk
          obtain ⟨y, k1, k2, _⟩ := box_cell hres h
          exact ⟨y, _, hx1, (by rw [hx1]; exact loadAt_one ht (by simpa using hk) k1), k2⟩
      · rename_i rows k hf
        have hres : ∀ {i a}, (seqC rows k)[i]? = some a → ResHolds G w (id, .box (seqC rows k)) := fun hi => (hh.res _ (findL_mem hf) (seqC_ne hi)).1
        generalize seqC rows k = cells at *
        split at h
        · rename_i hk
          split at h
          · rename_i hle
            cases h
            have hy : ∀ j, ∃ y, j < ti.size → w.cell? ⟨G.loc id, off + j, none⟩ = some y ∧ ∀ a, cells[off + j]? = some a → Sim G a y := fun j => by
              by_cases hj : j < ti.size
              · have : cells[off + j]? = some (cells[off + j]'(by omega)) := List.getElem?_eq_getElem _
                obtain ⟨y, k1, k2, _⟩ := box_cell (hres this) this
                exact ⟨y, fun _ => ⟨k1, fun a ha => by rw [this] at ha; cases ha; exact k2⟩⟩
              · exact ⟨undef, fun hn => absurd hn hj⟩
            refine ⟨_, _, hx1, (by rw [hx1]; exact loadAt_agg ht hk (y := fun j => (hy j).choose) fun j hj => ((hy j).choose_spec hj).1), .agg _ _ (by simp; omega) fun i a ha => ?_⟩
            obtain ⟨h2, h3⟩ := take_get ha
            rw [range_getD _ _ h3]
            exact ((hy i).choose_spec h3).2 a (by rw [List.getElem?_drop] at h2; exact h2)
          · cases h
        · rename_i hk
          obtain ⟨y, k1, k2, _⟩ := box_cell (hres h) h
          exact ⟨y, _, hx1, (by rw [hx1]; exact loadAt_one ht (by simpa using hk) k1), k2⟩
      · cases h
    · rename_i cells
      obtain ⟨b, off, y, hx1, hX, hS, h1'⟩ := h1.cref_inv
      split at h
      · rename_i hk
        split at h
        · rename_i hle
          cases h
          refine ⟨_, _, hx1, (by rw [hx1]; exact loadAt_agg ht hk (y := y) fun j hj => hh.X _ _ _ (hX j _ (List.getElem?_eq_getElem (by omega)))), .agg _ _ (by simp; omega) fun i a ha => ?_⟩
          obtain ⟨h2, h3⟩ := take_get ha
          rw [range_getD _ _ h3]
          exact .data _ _ (hS i a h2)
        · cases h
      · rename_i hk
        exact ⟨y 0, _, hx1, (by rw [hx1]; exact loadAt_one ht (by simpa using hk) (hh.X _ _ _ (by simpa using hX 0 c h))), .data _ _ (hS 0 c h)⟩
    · cases h

theorem q_load {t : TypeId} {x : Operand} {ti : TI} {c : AV} (ho : o.op = .load t x) (ht : TIs P t ti) (h : aload L ti (ev x) = some c) : QOk P L ev raw o c :=
  .still fun G w ρ hh => by
    obtain ⟨v, ad, _, h2, h3⟩ := load_run (hh.ev x (by rw [ho]; simp [Op.operands])) hh.holds ht h
    refine ⟨v, ?_, h3⟩
    simp only [execOp, ho]
    rw [Sem.run_bind, h2]; rfl

theorem drop_get {α : Type} {l : List α} {n i : Nat} {a : α} (h : (l.drop n)[i]? = some a) : l[n + i]? = some a := by rw [List.getElem?_drop] at h; exact h
theorem cref_drop {G : Ghost} {cells : List AV} {b off : Nat} {y : Nat → Value} (hX : ∀ j a, cells[j]? = some a → G.X b (off + j) = some (y j)) (hS : ∀ j a, cells[j]? = some a → SimD G.X a (y j))
    (h1 : ∀ j a, cells[j]? = some a → (y j).oneCell' = true) (n : Nat) : Sim G (.cref (cells.drop n)) (.pointer (some ⟨b, off + n, none⟩)) :=
  .data _ _ (.cref _ b (off + n) (fun j => y (n + j)) (fun j a h => by rw [Nat.add_assoc]; exact hX _ a (drop_get h)) (fun j a h => hS _ a (drop_get h)) (fun j a h => h1 _ a (drop_get h)))

/-- a field's place, an element's place -/
def amove (n : Nat) : AV → Option AV
  | .ptr id off => some (.ptr id (off + n))
  | .cref cells => some (.cref (cells.drop n))
  | _ => none
theorem amove_sim {G : Ghost} {n : Nat} {a c : AV} {x : Value} (h : Sim G a x) (hc : amove n a = some c) : ∃ b off, x = .pointer (some ⟨b, off, none⟩) ∧ Sim G c (.pointer (some ⟨b, off + n, none⟩)) := by
  unfold amove at hc
  split at hc
  · cases hc
    obtain ⟨rfl, hl⟩ := h.ptr_inv
    exact ⟨_, _, rfl, .ptr _ _ hl⟩
  · cases hc
    obtain ⟨b, off, y, rfl, hX, hS, h1⟩ := h.cref_inv
    exact ⟨b, off, rfl, cref_drop hX hS h1 n⟩
  · cases hc

theorem q_fieldAddr {s : TypeId} {x : Operand} {f off sz : Nat} {ti : TI} {fs : List (Nat × Nat)} {c : AV} (ho : o.op = .fieldAddr s x f) (ht : TIs P s ti) (hk : ti.kind = .struct fs) (hf : fs[f]? = some (off, sz)) (hz : sz ≠ 0)
    (h : amove off (ev x) = some c) : QOk P L ev raw o c :=
  .still fun G w ρ hh => by
    have h1 := hh.ev x (by rw [ho]; simp [Op.operands])
    obtain ⟨b, off', h2, h3⟩ := amove_sim h1 h
    obtain ⟨F, hF, hFs⟩ := ht.struct hk
    rw [← hFs, List.getElem?_map, Option.map_eq_some_iff] at hf
    obtain ⟨fd, hfd, hfe⟩ := hf
    simp only [Prod.mk.injEq] at hfe
    obtain ⟨rfl, rfl⟩ := hfe
    rw [Array.getElem?_toList] at hfd
    refine ⟨_, ?_, h3⟩
    have hcz : ∃ i, P.info? fd.type = some i ∧ i.size ≠ 0 := by
      unfold Program.cellsOf at hz
      cases hi : P.info? fd.type with
      | none => simp [hi] at hz
      | some i => exact ⟨i, rfl, by simpa [hi] using hz⟩
    obtain ⟨i, hi, hi0⟩ := hcz
    simp only [execOp, ho, Instr.fieldAt, h2]
    rw [Sem.run_bind, Sem.run_bind, run_underlying hF]
    simp [hfd, Instr.sureAddr, fieldPlace, sizeOf, typeInfo, hi, hi0, add_mk]

theorem q_indexAddr_list {t e : TypeId} {x ix : Operand} {ti te : TI} {rows : List (List AV)} {own : Own} {k : IntKind} {n : Int} {row : List AV} (ho : o.op = .indexAddr t x ix) (ht : TIs P t ti) (hk : ti.kind = .slice e) (hte : TIs P e te)
    (hx : ev x = .list rows own) (hi : ev ix = .v (.int k n)) (h0 : 0 ≤ n) (hr : rows[n.toNat]? = some row) (hs : row.length = te.size) : QOk P L ev raw o (.cref row) :=
  .still fun G w ρ hh => by
    have h1 := hh.ev x (by rw [ho]; simp [Op.operands])
    have h2 := hh.ev ix (by rw [ho]; simp [Op.operands])
    rw [hx] at h1; rw [hi] at h2
    have h3 := h2.v_inv
    have hlt : n.toNat < rows.length := (List.getElem?_eq_some_iff.1 hr).1
    have h4 := h1.list_inv.1
    generalize hρ : ρ x = xv at h1 h4
    cases h4 with
    | nil _ a c hc _ _ => simp at hlt
    | list _ _ b off c s y hn hc _ _ hrow hX hS h1' =>
      have hse : s = te.size := by rw [← hs]; exact (hrow row (List.mem_of_getElem? hr)).symm
      subst hse
      refine ⟨.pointer (some ⟨b, off + n.toNat * te.size, none⟩), ?_, .data _ _ (.cref row b _ (fun j => y n.toNat j) (fun j a ha => hX _ _ j a hr ha) (fun j a ha => hS _ _ j a hr ha) (fun j a ha => h1' _ _ j a hr ha))⟩
      have hlt' : n < (rows.length : Int) := by omega
      simp only [execOp, ho, Instr.indexAt, h3, hρ]
      simp [asIntOf, run_underlying (ht.slice hk), h0, hlt', sizeOf, typeInfo, hte.info, hte.size, add_mk]
theorem q_indexAddr_arr {t e : TypeId} {x ix : Operand} {ti te : TI} {id off m c : Nat} {k : IntKind} {n : Int} (ho : o.op = .indexAddr t x ix) (ht : TIs P t ti) (hk : ti.kind = .slice e) (hte : TIs P e te)
    (hx : ev x = .arr id off m c) (hi : ev ix = .v (.int k n)) (h0 : 0 ≤ n) (hr : n < m) : QOk P L ev raw o (.ptr id (off + n.toNat * te.size)) :=
  .still fun G w ρ hh => by
    have h1 := hh.ev x (by rw [ho]; simp [Op.operands])
    have h2 := hh.ev ix (by rw [ho]; simp [Op.operands])
    rw [hx] at h1; rw [hi] at h2
    have h3 := h2.v_inv
    obtain ⟨base, h4, h5, h6, _, h7⟩ := h1.arr_inv
    obtain rfl := h7 (by omega)
    refine ⟨.pointer (some ⟨G.loc id, off + n.toNat * te.size, none⟩), ?_, .ptr id _ h5⟩
    simp only [execOp, ho, Instr.indexAt, h3, h4]
    simp [asIntOf, run_underlying (ht.slice hk), h0, hr, sizeOf, typeInfo, hte.info, hte.size, add_mk]
theorem q_indexAddr_array {t e : TypeId} {x ix : Operand} {ti te : TI} {len : Nat} {k : IntKind} {n : Int} {c : AV} (ho : o.op = .indexAddr t x ix) (ht : TIs P t ti) (hk : ti.kind = .array len e) (hte : TIs P e te)
    (hi : ev ix = .v (.int k n)) (h0 : 0 ≤ n) (h1 : n < len) (hc : amove (n.toNat * te.size) (ev x) = some c) : QOk P L ev raw o c :=
  .still fun G w ρ hh => by
    have h2 := hh.ev x (by rw [ho]; simp [Op.operands])
    have h3 := hh.ev ix (by rw [ho]; simp [Op.operands])
    rw [hi] at h3
    obtain ⟨b, off, h4, h5⟩ := amove_sim h2 hc
    refine ⟨_, ?_, h5⟩
    simp only [execOp, ho, Instr.indexAt, h3.v_inv, h4]
    simp [asIntOf, run_underlying (ht.array hk), h0, h1, Instr.sureAddr, sizeOf, typeInfo, hte.info, hte.size, add_mk]
end
end Go.Am
