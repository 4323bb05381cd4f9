/- The abstract machine's operations that only compute, one by one. -/
import Derived.Test.YtabhfccfohpkaaaAmC
namespace Go.Am
open Go.RowKit
set_option linter.unusedSimpArgs false
set_option linter.unusedVariables false

def acells : AV → Option (List AV)
  | .agg l => some l
  | a => if a.one then some [a] else none
theorem oneCell_cells {x : Value} (h : x.oneCell' = true) : x.cells = #[x] := by
  cases x <;> first | rfl | (simp [Value.oneCell'] at h)
theorem acells_sim {G : Ghost} {a : AV} {x : Value} {l : List AV} (h : Sim G a x) (hc : acells a = some l) : l.length = x.cells.size ∧ ∀ i c, l[i]? = some c → Sim G c (x.cells.getD i undef) := by
  unfold acells at hc
  split at hc
  · cases hc
    obtain ⟨vs, rfl, h1, h2⟩ := h.agg_inv
    exact ⟨h1, h2⟩
  · split at hc
    · rename_i h1
      cases hc
      have h2 := h.one h1
      rw [oneCell_cells h2]
      refine ⟨rfl, fun i c hi => ?_⟩
      cases i with
      | zero => simp at hi; subst hi; exact h
      | succ i => simp at hi
    · cases hc
def isAggK : TK → Bool | .struct _ => true | .array _ _ => true | _ => false
theorem kindAgg {P : Program} {t : TypeId} {ti : TI} (h : TIs P t ti) (w : World) :
    (isAgg t).run P w = .ok (isAggK ti.kind) w := by
  have hk := h.kind
  unfold isAgg
  rw [Sem.run_bind, run_underlying h.und]
  cases hd : h.d <;> rw [hd] at hk <;> simp [kindOf] at hk <;> rw [← hk] <;> rfl

section
variable {P : Program} {L : Heap} {ev raw : Operand → AV} {o : Oper}

theorem q_move {x : Operand} (ho : o.op = .move x ∨ o.op = .assign x) : QOk P L ev raw o (ev x) :=
  .still fun G w ρ hh => by
    have h1 := hh.ev x (by rcases ho with ho | ho <;> rw [ho] <;> simp [Op.operands])
    exact ⟨_, by rcases ho with ho | ho <;> simp [execOp, ho, go_sem], h1⟩
theorem q_pick {c x y : Operand} {b : Bool} (ho : o.op = .pick c x y) (hc : ev c = .v (.bool b)) : QOk P L ev raw o (bif b then ev x else ev y) :=
  .still fun G w ρ hh => by
    have h1 := hh.ev c (by rw [ho]; simp [Op.operands])
    have h2 := hh.ev x (by rw [ho]; simp [Op.operands])
    have h3 := hh.ev y (by rw [ho]; simp [Op.operands])
    rw [hc] at h1
    have h4 := h1.v_inv
    cases b
    · exact ⟨_, by simp [execOp, ho, h4, asBool, go_sem], h3⟩
    · exact ⟨_, by simp [execOp, ho, h4, asBool, go_sem], h2⟩
theorem q_nilCheck {x : Operand} (ho : o.op = .nilCheck x) (hx : (∃ i j, ev x = .ptr i j) ∨ (∃ l, ev x = .cref l) ∨ ∃ f l, ev x = .fn f l) : QOk P L ev raw o (ev x) :=
  .still fun G w ρ hh => by
    have h1 := hh.ev x (by rw [ho]; simp [Op.operands])
    rcases hx with ⟨i, j, hx⟩ | ⟨l, hx⟩ | ⟨f, l, hx⟩
    · have h2 := h1; rw [hx] at h2; obtain ⟨h3, _⟩ := h2.ptr_inv
      exact ⟨_, by simp [execOp, ho, h3, go_sem]; rfl, by rw [h3] at h1; exact h1⟩
    · have h2 := h1; rw [hx] at h2; obtain ⟨_, _, _, h3, _⟩ := h2.cref_inv
      exact ⟨_, by simp [execOp, ho, h3, go_sem]; rfl, by rw [h3] at h1; exact h1⟩
    · have h2 := h1; rw [hx] at h2; obtain ⟨_, h3, _⟩ := h2.fn_inv
      exact ⟨_, by simp [execOp, ho, h3, go_sem]; rfl, by rw [h3] at h1; exact h1⟩
theorem q_bin {op : BinOp} {t t' : TypeId} {x y : Operand} {vx vy : Value} {K : Value → Prop} (ho : o.op = .binOp op t x y t') (hx : ev x = .v vx) (hy : ev y = .v vy) (h : flat2 op vx vy K) : ∃ v, K v ∧ QOk P L ev raw o (.v v) := by
  obtain ⟨v, hK, hv⟩ := flat2_ok (P := P) (t := t) (xo := x) (yo := y) h
  refine ⟨v, hK, .still fun G w ρ hh => ⟨v, ?_, .data _ _ (.v v)⟩⟩
  have h1 := hh.ev x (by rw [ho]; simp [Op.operands])
  have h2 := hh.ev y (by rw [ho]; simp [Op.operands])
  rw [hx] at h1; rw [hy] at h2
  have h3 := h1.v_inv
  have h4 := h2.v_inv
  simp only [execOp, ho, h3, h4]
  rw [Sem.run_bind, hv w]; rfl
/-- an operation on flat values, by its run -/
theorem q_flat {v : Value} (ρ0 : Operand → Value) (hs : ∀ cs b, o.op ≠ .select cs b) (h : ∀ x ∈ o.op.operands, (ev x).flat = some (ρ0 x)) (hr : ∀ w, (execOp ρ0 o).run P w = .ok (.value v) w) : QOk P L ev raw o (.ofValue v) :=
  .still fun G w ρ hh => ⟨v, by
    rw [execOp_congr o hs (ρ' := ρ0) fun x hx => (hh.ev x hx).flat (h x hx)]; exact hr w, .ofValue G v⟩
theorem q_not {x : Operand} {t : TypeId} {b : Bool} (ho : o.op = .unOp .not t x) (hx : ev x = .v (.bool b)) : QOk P L ev raw o (.v (.bool !b)) :=
  .still fun G w ρ hh => by
    have h1 := hh.ev x (by rw [ho]; simp [Op.operands])
    rw [hx] at h1
    exact ⟨.bool !b, by simp [execOp, ho, h1.v_inv, Op.unary, go_sem], .data _ _ (.v _)⟩
theorem q_neg {x : Operand} {t : TypeId} {k : IntKind} {n : Int} (ho : o.op = .unOp .neg t x) (hx : ev x = .v (.int k n)) : QOk P L ev raw o (.v (.int k (k.wrap (0 - n)))) :=
  .still fun G w ρ hh => by
    have h1 := hh.ev x (by rw [ho]; simp [Op.operands])
    rw [hx] at h1
    exact ⟨.int k (k.wrap (0 - n)), by simp [execOp, ho, h1.v_inv, Op.unary, Op.intArith, go_sem], .data _ _ (.v _)⟩
theorem q_inv {x : Operand} {t : TypeId} {k : IntKind} {n : Int} (ho : o.op = .unOp .xor t x) (hx : ev x = .v (.int k n)) : QOk P L ev raw o (.v (.int k (k.wrap (BitVec.ofInt k.bits (if k.signed then -1 else k.max) ^^^ BitVec.ofInt k.bits n).toNat))) :=
  .still fun G w ρ hh => by
    have h1 := hh.ev x (by rw [ho]; simp [Op.operands])
    rw [hx] at h1
    exact ⟨.int k (k.wrap (BitVec.ofInt k.bits (if k.signed then -1 else k.max) ^^^ BitVec.ofInt k.bits n).toNat), by simp [execOp, ho, h1.v_inv, Op.unary, Op.intBits, go_sem], .data _ _ (.v _)⟩
theorem q_makeFunc {f : FuncId} {cap : Array Operand} (ho : o.op = .makeFunc (.func f) #[] cap) : QOk P L ev raw o (.fn f (cap.toList.map ev)) :=
  .still fun G w ρ hh => by
    refine ⟨.func (.func f) #[] (cap.map ρ), by simp [execOp, ho, Instr.makeFunc, go_sem], .fn _ _ _ (by simp) fun i x hi => ?_⟩
    rw [List.getElem?_map, Array.getElem?_toList, Option.map_eq_some_iff] at hi
    obtain ⟨y, hy, rfl⟩ := hi
    have h1 := hh.ev y (by rw [ho]; simp [Op.operands]; exact Array.mem_of_getElem? hy)
    have : (cap.map ρ).getD i undef = ρ y := by simp [hy]
    rw [this]; exact h1
theorem q_makeBnd {f : FuncId} {cap : Array Operand} (ho : o.op = .makeFunc (.func f) cap #[]) : QOk P L ev raw o (.bnd f (cap.toList.map ev)) :=
  .still fun G w ρ hh => by
    refine ⟨.func (.func f) (cap.map ρ) #[], by simp [execOp, ho, Instr.makeFunc, go_sem], .bnd _ _ _ (by simp) fun i x hi => ?_⟩
    rw [List.getElem?_map, Array.getElem?_toList, Option.map_eq_some_iff] at hi
    obtain ⟨y, hy, rfl⟩ := hi
    have h1 := hh.ev y (by rw [ho]; simp [Op.operands]; exact Array.mem_of_getElem? hy)
    have : (cap.map ρ).getD i undef = ρ y := by simp [hy]
    rw [this]; exact h1
theorem q_extract {x : Operand} {i : Nat} {l : List AV} {c : AV} (ho : o.op = .extract x i) (hx : ev x = .tuple l) (hc : l[i]? = some c) : QOk P L ev raw o c :=
  .still fun G w ρ hh => by
    have h1 := hh.ev x (by rw [ho]; simp [Op.operands])
    rw [hx] at h1
    obtain ⟨vs, h2, h3, h4⟩ := h1.tuple_inv
    have h5 := h4 i c hc
    have h6 : i < vs.size := by rw [← h3]; exact (List.getElem?_eq_some_iff.1 hc).1
    have h7 : vs[i]? = some vs[i] := by simp [h6]
    have h8 : vs.getD i undef = vs[i] := by simp [h6]
    rw [h8] at h5
    exact ⟨vs[i], by simp [execOp, ho, h2, Instr.extract, h6, go_sem], h5⟩
theorem q_iface {x : Operand} {t : TypeId} {ti : TI} (ho : o.op = .makeInterface t x) (ht : TIs P t ti) (hk : ti.kind ≠ .iface) : QOk P L ev raw o (.iface t (ev x)) :=
  .still fun G w ρ hh => by
    have h1 := hh.ev x (by rw [ho]; simp [Op.operands])
    refine ⟨_, ?_, .iface t _ _ h1⟩
    have hk' := ht.kind
    simp only [execOp, ho, Instr.makeInterface]
    rw [Sem.run_bind, Sem.run_bind, run_underlying ht.und]
    cases hd : ht.d <;> rw [hd] at hk' <;> first | rfl | (simp [kindOf] at hk'; exact absurd hk'.symm hk)
theorem q_len_arr {t e : TypeId} {x : Operand} {c : Call} {ti : TI} {id off n cp : Nat} (ho : o.op = .call c) (hc : c.callee = .builtin .len) (ha : c.args = #[x]) (hty : c.argTypes = #[t]) (ht : TIs P t ti) (hk : ti.kind = .slice e) (hx : ev x = .arr id off n cp) : QOk P L ev raw o (.v (.int .i64 n)) :=
  .still fun G w ρ hh => by
    have h1 := hh.ev x (by rw [ho]; simp [Op.operands, Call.operands, hc, ha])
    rw [hx] at h1
    obtain ⟨cc, h2, _⟩ := h1.arr_inv
    refine ⟨.int .i64 n, ?_, .data _ _ (.v _)⟩
    simp [execOp, ho, resolve, hc, ha, hty, invoke, builtin, Builtin.len_, h2, run_underlying (ht.slice hk), goInt, go_sem]
theorem q_cap_arr {t e : TypeId} {x : Operand} {c : Call} {ti : TI} {id off n cp : Nat} (ho : o.op = .call c) (hc : c.callee = .builtin .cap) (ha : c.args = #[x]) (hty : c.argTypes = #[t]) (ht : TIs P t ti) (hk : ti.kind = .slice e) (hx : ev x = .arr id off n cp) : QOk P L ev raw o (.v (.int .i64 cp)) :=
  .still fun G w ρ hh => by
    have h1 := hh.ev x (by rw [ho]; simp [Op.operands, Call.operands, hc, ha])
    rw [hx] at h1
    obtain ⟨cc, h2, _⟩ := h1.arr_inv
    refine ⟨.int .i64 cp, ?_, .data _ _ (.v _)⟩
    simp [execOp, ho, resolve, hc, ha, hty, invoke, builtin, Builtin.cap_, h2, run_underlying (ht.slice hk), goInt, go_sem]
theorem q_len {t : TypeId} {x : Operand} {c : Call} {ti : TI} {n : Nat} (ho : o.op = .call c) (hc : c.callee = .builtin .len) (ha : c.args = #[x]) (hty : c.argTypes = #[t]) (ht : TIs P t ti)
    (h : (∃ e rows own, ti.kind = .slice e ∧ ev x = .list rows own ∧ n = rows.length) ∨ (∃ s, ti.kind = .string ∧ ev x = .v (.string s) ∧ n = s.size) ∨ ∃ e, ti.kind = .array n e) : QOk P L ev raw o (.v (.int .i64 n)) :=
  .still fun G w ρ hh => by
    have h1 := hh.ev x (by rw [ho]; simp [Op.operands, Call.operands, hc, ha])
    refine ⟨.int .i64 n, ?_, .data _ _ (.v _)⟩
    rcases h with ⟨e, rows, own, hk, hx, rfl⟩ | ⟨s, hk, hx, rfl⟩ | ⟨e, hk⟩
    · rw [hx] at h1
      obtain ⟨base, cc, h2, _⟩ := h1.list_inv.1.slice
      simp [execOp, ho, resolve, hc, ha, hty, invoke, builtin, Builtin.len_, h2, run_underlying (ht.slice hk), goInt, go_sem]
    · rw [hx] at h1
      simp [execOp, ho, resolve, hc, ha, hty, invoke, builtin, Builtin.len_, h1.v_inv, run_underlying (ht.string hk), goInt, go_sem]
    · simp [execOp, ho, resolve, hc, ha, hty, invoke, builtin, Builtin.len_, run_underlying (ht.array hk), goInt, go_sem]
end
end Go.Am
