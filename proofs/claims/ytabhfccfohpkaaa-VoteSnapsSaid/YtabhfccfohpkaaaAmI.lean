/- What an operation that only computes answers, as one formula. -/
import Derived.Test.YtabhfccfohpkaaaAmH
import Derived.IntWalk
namespace Go.Am
open Go.RowKit
set_option linter.unusedSimpArgs false
set_option linter.unusedVariables false

section
variable {P : Program} {L : Heap} {ev raw : Operand → AV} {o : Oper}

theorem equal_bool {t : TypeId} (h : P.underlying t = some .bool) (a b : Bool) (w : World) : (Op.equal t (.bool a) (.bool b)).run P w = .ok (a == b) w := by
  have : ∀ d, (Op.equalIn (d + 1) t (.bool a) (.bool b)).run P w = .ok (a == b) w := fun d => by simp [Op.equalIn, run_underlying h]
  exact this 9999
theorem equal_fn {t : TypeId} {A B : Array TypeId} {c : Bool} (h : P.underlying t = some (.func A B c)) (f : Fn) (x y : Array Value) (w : World) : (Op.equal t (.func f x y) .nilFunc).run P w = .ok false w := by
  have : ∀ d, (Op.equalIn (d + 1) t (.func f x y) .nilFunc).run P w = .ok false w := fun d => by simp [Op.equalIn, run_underlying h]
  exact this 9999
theorem q_nilcmp {op : BinOp} {t t' : TypeId} {x y : Operand} {ti : TI} {ax ay : AV} {r : Bool} (ho : o.op = .binOp op t x y t') (ht : TIs P t ti) (hx : ev x = ax) (hy : ev y = ay) (hop : (op = .eql ∧ r = false) ∨ (op = .neq ∧ r = true))
    (h : (ti.kind = .pointer ∧ ((∃ i j, ax = .ptr i j) ∨ ∃ l, ax = .cref l) ∧ ay = .v (.pointer none)) ∨ (ti.kind = .func ∧ (∃ f l, ax = .fn f l ∨ ax = .bnd f l) ∧ ay = .v .nilFunc)) : QOk P L ev raw o (.v (.bool r)) :=
  .still fun G w ρ hh => by
    have h1 := hh.ev x (by rw [ho]; simp [Op.operands])
    have h2 := hh.ev y (by rw [ho]; simp [Op.operands])
    rw [hx] at h1; rw [hy] at h2
    refine ⟨.bool r, ?_, .data _ _ (.v _)⟩
    rcases h with ⟨hk, hp, rfl⟩ | ⟨hk, ⟨f, l, hax⟩, rfl⟩
    · have h3 := h2.v_inv
      have h4 : ∃ a, ρ x = .pointer (some a) := by
        rcases hp with ⟨i, j, rfl⟩ | ⟨l, rfl⟩
        · exact ⟨_, h1.ptr_inv.1⟩
        · obtain ⟨_, _, _, h5, _⟩ := h1.cref_inv; exact ⟨_, h5⟩
      obtain ⟨a, h4⟩ := h4
      obtain ⟨e, he⟩ := ht.pointer hk
      have he' : P.underlying t = some (.pointer (P.pointee t)) := by unfold Program.pointee; rw [he]
      simp only [execOp, ho, h3, h4]
      rcases hop with ⟨rfl, rfl⟩ | ⟨rfl, rfl⟩
      · simp [eqGuard, run_eql_pointer_nil w t _ he']
      · simp [eqGuard, run_neq_pointer_nil w t _ he']
    · have h3 := h2.v_inv
      obtain ⟨us, vs, h4⟩ : ∃ us vs, ρ x = .func (.func f) us vs := by
        rcases hax with rfl | rfl
        · obtain ⟨vs, h4, _⟩ := h1.fn_inv; exact ⟨_, _, h4⟩
        · obtain ⟨vs, h4, _⟩ := h1.bnd_inv; exact ⟨_, _, h4⟩
      obtain ⟨a, b, c, he⟩ := ht.func hk
      simp only [execOp, ho, h3, h4]
      rcases hop with ⟨rfl, rfl⟩ | ⟨rfl, rfl⟩
      · simp [eqGuard, binOp, equal_fn he]
      · simp [eqGuard, binOp, equal_fn he]
theorem q_boolcmp {op : BinOp} {t t' : TypeId} {x y : Operand} {ti : TI} {a b r : Bool} (ho : o.op = .binOp op t x y t') (ht : TIs P t ti) (hk : ti.kind = .bool) (hx : ev x = .v (.bool a)) (hy : ev y = .v (.bool b)) (hop : (op = .eql ∧ r = (a == b)) ∨ (op = .neq ∧ r = !(a == b))) : QOk P L ev raw o (.v (.bool r)) :=
  .still fun G w ρ hh => by
    have h1 := hh.ev x (by rw [ho]; simp [Op.operands])
    have h2 := hh.ev y (by rw [ho]; simp [Op.operands])
    rw [hx] at h1; rw [hy] at h2
    refine ⟨.bool r, ?_, .data _ _ (.v _)⟩
    simp only [execOp, ho, h1.v_inv, h2.v_inv]
    rcases hop with ⟨rfl, rfl⟩ | ⟨rfl, rfl⟩
    · simp [eqGuard, binOp, equal_bool (ht.bool hk)]
    · simp [eqGuard, binOp, equal_bool (ht.bool hk)]
theorem q_convert_lit {s e : TypeId} {x : Operand} {si te : TI} {rows : List (List AV)} (ho : o.op = .convert s s x) (hs : TIs P s si) (hks : si.kind = .slice e) (hte : TIs P e te) (hke : te.kind = .int .u8) (hx : raw x = .list rows .lit) : QOk P L ev raw o (.list rows .full) := fun G w ρ hh => by
  have h1 := hh.raw x (by rw [ho]; simp [Op.operands])
  rw [hx] at h1
  unfold Slot at h1
  simp only at h1
  obtain ⟨h2, b, off, h3, h4⟩ := h1
  have hden : (convert s s (.slice (some ⟨b, off, none⟩) rows.length rows.length)).run P w = (do markStringish ⟨b, off, none⟩; pure (Value.slice (some ⟨b, off, none⟩) rows.length rows.length) : Sem Value).run P w := by
    simp [convert, run_underlying (hs.slice hks), run_underlying (hte.int hke)]
  simp only [execOp, ho, h3]
  rw [Sem.run_bind, hden]
  cases hsh : w.shape? b with
  | none =>
    refine ⟨.slice (some ⟨b, off, none⟩) rows.length rows.length, G, w, ?_, .of (by rw [← h3]; exact h2), Grow.refl G w⟩
    simp [markStringish, hsh]
  | some en =>
    obtain ⟨E, n⟩ := en
    have hb : ∃ arr fr, w.heap[b]? = some (.cells arr E fr) ∧ arr.size = n := by
      unfold World.shape? at hsh
      split at hsh
      · rename_i arr E' fr hh'
        cases hsh; exact ⟨arr, fr, hh', rfl⟩
      · cases hsh
    obtain ⟨arr, fr, hb, hn⟩ := hb
    have hblk : b < w.heap.size := (Array.getElem?_eq_some_iff.1 hb).1
    have hgrow : Grow G w G (w.freeze ⟨b, n, none⟩ 1) := by
      have hfz : (w.freeze ⟨b, n, none⟩ 1).heap = w.heap.modify b fun
          | .cells c elem (lo, hi) => .cells c elem (if lo == hi then (n, n + 1) else (min lo n, max hi (n + 1)))
          | o => o := by
        unfold World.freeze; rw [if_neg (by decide)]; rfl
      have hos : (w.freeze ⟨b, n, none⟩ 1).os = w.os ∧ (w.freeze ⟨b, n, none⟩ 1).tape = w.tape ∧ (w.freeze ⟨b, n, none⟩ 1).output = w.output := by unfold World.freeze; rw [if_neg (by decide)]; exact ⟨rfl, rfl, rfl⟩
      refine ⟨hos.1, hos.2.1, hos.2.2, by rw [hfz]; simp, rfl, rfl, rfl, rfl, fun _ _ _ h => h, fun b' hb' => ?_, fun _ h => h, fun _ h => .inl h, fun _ _ _ h => .inl h⟩
      by_cases hbb : b' = b
      · subst hbb
        refine ⟨.inr ⟨arr, E, fr, if fr.1 == fr.2 then (n, n + 1) else (min fr.1 n, max fr.2 (n + 1)), hb, ?_⟩, fun hlt => absurd h4 hlt⟩
        rw [hfz, Array.getElem?_modify, if_pos rfl, hb]
        obtain ⟨lo, hi⟩ := fr; rfl
      · have : (w.freeze ⟨b, n, none⟩ 1).heap[b']? = w.heap[b']? := by rw [hfz, Array.getElem?_modify, if_neg (Ne.symm hbb)]
        exact ⟨.inl this, fun _ => this⟩
    refine ⟨.slice (some ⟨b, off, none⟩) rows.length rows.length, G, w.freeze ⟨b, n, none⟩ 1, ?_, .of (by rw [← h3]; exact h2), hgrow⟩
    simp [markStringish, hsh]
theorem q_minmax {c : Call} {x y : Operand} {k : IntKind} {a b r : Int} (ho : o.op = .call c) (ha : c.args = #[x, y]) (hx : ev x = .v (.int k a)) (hy : ev y = .v (.int k b))
    (h : (c.callee = .builtin .min ∧ r = if b < a then b else a) ∨ (c.callee = .builtin .max ∧ r = if b > a then b else a)) : QOk P L ev raw o (.v (.int k r)) :=
  .still fun G w ρ hh => by
    have h1 := hh.ev x (by rw [ho]; rcases h with ⟨h, _⟩ | ⟨h, _⟩ <;> simp [Op.operands, Call.operands, h, ha])
    have h2 := hh.ev y (by rw [ho]; rcases h with ⟨h, _⟩ | ⟨h, _⟩ <;> simp [Op.operands, Call.operands, h, ha])
    rw [hx] at h1; rw [hy] at h2
    refine ⟨.int k r, ?_, .data _ _ (.v _)⟩
    rcases h with ⟨hc, rfl⟩ | ⟨hc, rfl⟩
    · simp [execOp, ho, resolve, hc, ha, invoke, builtin, Builtin.min_, Builtin.min2, h1.v_inv, h2.v_inv]
    · simp [execOp, ho, resolve, hc, ha, invoke, builtin, Builtin.max_, Builtin.max2, h1.v_inv, h2.v_inv]
theorem q_max_str {c : Call} {x y : Operand} {a b : ByteArray} (ho : o.op = .call c) (ha : c.args = #[x, y]) (hx : ev x = .v (.string a)) (hy : ev y = .v (.string b)) (hc : c.callee = .builtin .max) :
    QOk P L ev raw o (.v (.string (bif !(Op.bytesLess a.toList b.toList) then a else b))) :=
  .still fun G w ρ hh => by
    have h1 := hh.ev x (by rw [ho]; simp [Op.operands, Call.operands, hc, ha])
    have h2 := hh.ev y (by rw [ho]; simp [Op.operands, Call.operands, hc, ha])
    rw [hx] at h1; rw [hy] at h2
    refine ⟨.string _, ?_, .data _ _ (.v _)⟩
    cases hb : Op.bytesLess a.toList b.toList <;> simp [execOp, ho, resolve, hc, ha, invoke, builtin, Builtin.max_, Builtin.max2, h1.v_inv, h2.v_inv, Op.stringOp, asBool, hb]
theorem q_makeSlice {t e : TypeId} {x y : Operand} {ti te : TI} {z : Value} {n : Int} (ho : o.op = .makeSlice t x y) (ht : TIs P t ti) (hk : ti.kind = .slice e) (hte : TIs P e te) (hz : te.zero = some z)
    (hzs : z.cells.size = te.size) (hz1 : ∀ y ∈ z.cells.toList, y.oneCell' = true) (hs0 : 0 < te.size) (hx : ev x = .v (.int .i64 n)) (hy : ev y = .v (.int .i64 n)) (h0 : 0 ≤ n) (hn : n ≤ 140737488355328) (hby : te.bytes * n ≤ 140737488355328) :
    QOk P L ev raw o (.list (List.replicate n.toNat (zcells z)) .full) := fun G w ρ hh => by
  have h1 := hh.ev x (by rw [ho]; simp [Op.operands])
  rw [hx] at h1
  have h2 := h1.v_inv
  have h2' := hh.ev y (by rw [ho]; simp [Op.operands])
  rw [hy] at h2'
  replace h2' := h2'.v_inv
  have hzr := zeros_rel G.X z n.toNat hz1 (by omega)
  rw [hzs] at hzr
  have hzlen : ∀ row ∈ List.replicate n.toNat (zcells z), row.length = te.size := fun row hr => by rw [List.eq_of_mem_replicate hr]; simp [zcells]; omega
  have hsd := sealed_list (o := .full) hh.holds (arr := (Array.range (n.toNat * te.size)).map (fun i => z.cells[i % te.size]!)) hzlen (Nat.le_refl _) (by simp; unfold maxLen; omega) (fun _ => rfl) (.inr rfl) (fun i a ha => by
    have hi := (List.getElem?_eq_some_iff.1 ha).1
    have h3 := hzr.2 i a ha
    have hsz := hzr.1
    refine ⟨_, ?_, h3.1, h3.2⟩
    generalize hA : (Array.range (n.toNat * te.size)).map (fun i => z.cells[i % te.size]!) = A at hsz
    rw [hA] at h3
    have hiA : i < A.size := by rw [← hsz]; exact hi
    rw [Array.getElem?_eq_getElem hiA]
    simp [hiA])
  have hg := grow_alloc hh.holds ((Array.range (n.toNat * te.size)).map (fun i => z.cells[i % te.size]!)) e (0, 0) ((List.replicate n.toNat (zcells z)).length * te.size)
  refine ⟨_, _, _, ?_, .of (.data _ _ hsd), hg⟩
  have hw : IntKind.i64.wrap n = n := IntWalk.i64_in n (by omega)
  have hsz : ∀ w, (sizeOf e).run P w = .ok te.size w := fun w => by simp [sizeOf, typeInfo, hte.info, hte.size]
  have hzv : ∀ w, (zeroValue e).run P w = .ok z w := fun w => by simp [zeroValue, typeInfo, hte.info, hte.zero, hz]
  have hti : ∀ w, (typeInfo e).run P w = .ok hte.i w := fun w => by simp [typeInfo, hte.info]
  have hm : (Instr.makeSlice t (.int .i64 n) (.int .i64 n)).run P w = .ok (.slice (some ⟨w.heap.size, 0, none⟩) n.toNat n.toNat) (w.alloc (.cells ((Array.range (n.toNat * te.size)).map (fun i => z.cells[i % te.size]!)) e)) := by
    unfold Instr.makeSlice
    rw [Sem.run_bind, run_underlying (ht.slice hk)]
    simp only [Result.andThen]
    have hai : (asInt (.int .i64 n)).run P w = .ok n w := rfl
    rw [Sem.run_bind, hai]
    simp only [Result.andThen]
    rw [Sem.run_bind, hai]
    simp only [Result.andThen]
    rw [Sem.run_bind, hti]
    simp only [Result.andThen, hw, hte.bytes]
    have hc : (decide (n < 0) || decide ((te.bytes : Int) * n > 2 ^ 48)) = false := by simp; omega
    have hc2 : ((decide (n < 0) || decide ((te.bytes : Int) * n > 2 ^ 48)) || decide (n < 0) || decide (n > n)) = false := by rw [hc]; simp; omega
    simp only [hc2]
    rw [if_neg (by simp)]
    have hroom : (askRoom (n.toNat * te.bytes)).run P w = .ok () w := by
      unfold askRoom
      have hle : (n.toNat * te.bytes : Int) ≤ 140737488355328 := by
        have : ((n.toNat : Int)) = n := Int.toNat_of_nonneg h0
        rw [this, Int.mul_comm]; exact hby
      rw [if_neg (by unfold roomBytes; omega)]
      rfl
    rw [Sem.run_bind, hroom]
    simp only [Result.andThen]
    rw [Sem.run_bind, hsz]
    simp only [Result.andThen]
    by_cases hnz : n.toNat * te.size = 0
    · rw [if_pos hnz, Sem.run_bind, Sem.run_pure]
      simp only [Result.andThen, hnz]
      have : (Array.map (fun x => (#[] : Array Value)[x % (#[] : Array Value).size]!) (Array.range 0)) = Array.map (fun i => z.cells[i % te.size]!) (Array.range 0) := by simp
      rw [this]; rfl
    · rw [if_neg hnz, Sem.run_bind, hzv]
      simp only [Result.andThen]
      rw [Sem.run_bind, Sem.run_pure]
      simp only [Result.andThen]
      rw [hzs]; rfl
  simp only [execOp, ho, h2, h2']
  rw [Sem.run_bind, hm, List.length_replicate]
  rfl
end
end Go.Am
