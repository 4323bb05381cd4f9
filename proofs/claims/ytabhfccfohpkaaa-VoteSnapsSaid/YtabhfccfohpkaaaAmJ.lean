/- What an operation that only computes answers, as one formula. -/
import Derived.Test.YtabhfccfohpkaaaAmI
namespace Go.Am
open Go.RowKit
set_option linter.unusedSimpArgs false
set_option linter.unusedVariables false

abbrev Types := TypeId → Option TI
def zok (ti : TI) (z : Value) : Bool := z.cells.size == ti.size && (z.cells.toList.all (·.oneCell') && decide (0 < ti.size))
theorem zok_spec {ti : TI} {z : Value} (h : zok ti z = true) : z.cells.size = ti.size ∧ (∀ y ∈ z.cells.toList, y.oneCell' = true) ∧ 0 < ti.size := by
  simp only [zok, Bool.and_eq_true, beq_iff_eq, List.all_eq_true, decide_eq_true_eq] at h
  exact ⟨h.1, h.2.1, h.2.2⟩
def cov (op : BinOp) (a b : Value) : Bool :=
  match a, b with
  | .int _ _, .int _ _ => true
  | .string _, .string _ => true
  | .float _ _, .float _ _ => match op with | .eql | .neq => true | _ => false
  | _, _ => false
def kindT (TT : Types) (t : TypeId) : TK := match TT t with | some ti => ti.kind | none => .other
def isPtrA : AV → Bool | .ptr _ _ => true | .cref _ => true | _ => false
def isFnA : AV → Bool | .fn _ _ => true | .bnd _ _ => true | _ => false
def fallB (P : Program) (op : BinOp) (t : TypeId) (x y : Operand) (a b : Option Value) (K : AV → Prop) : Prop :=
  match a, b with
  | some a, some b => ∃ v, (∀ w, (do eqGuard op t x y a b; binOp op t a b : Sem Value).run P w = .ok v w) ∧ K (.ofValue v)
  | _, _ => False
def eqRes (op : BinOp) (r : Bool) (K : AV → Prop) : Prop :=
  match op with
  | .eql => K (.v (.bool r))
  | .neq => K (.v (.bool !r))
  | _ => False
def bothBool : AV → AV → Option (Bool × Bool) | .v (.bool a), .v (.bool b) => some (a, b) | _, _ => none
def nilP : AV → Bool | .v (.pointer none) => true | _ => false
def nilF : AV → Bool | .v .nilFunc => true | _ => false
/-- two values held against one another, or reckoned with -/
def abin (P : Program) (TT : Types) (op : BinOp) (t : TypeId) (x y : Operand) (a b : AV) (K : AV → Prop) : Prop :=
  match kindT TT t with
  | .bool => match bothBool a b with
    | some p => eqRes op (p.1 == p.2) K
    | none => False
  | .pointer => match isPtrA a && nilP b with
    | true => eqRes op false K
    | false => fallB P op t x y a.flat b.flat K
  | .func => match isFnA a && nilF b with
    | true => eqRes op false K
    | false => fallB P op t x y a.flat b.flat K
  | .iface => match a, b with
    | .iface t1 (.ptr i j), .iface t2 (.ptr i' j') => (i = i' ∧ j = j' ∧ t1 = t2) ∧ ∃ r, (∀ (c : Nat) (w : World), (binOp op t (.iface t1 (.pointer (some ⟨c, j, none⟩))) (.iface t1 (.pointer (some ⟨c, j, none⟩))) : Sem Value).run P w = .ok (.bool r) w) ∧ K (.v (.bool r))
    | .iface t1 _, .v v => ∃ r, (∀ (u : Value) (w : World), (binOp op t (.iface t1 u) v : Sem Value).run P w = .ok (.bool r) w) ∧ K (.v (.bool r))
    | a, b => fallB P op t x y a.flat b.flat K
  | _ => match a, b with
    | .v a, .v b => match cov op a b with
      | true => flat2 op a b fun r => K (.v r)
      | false => fallB P op t x y (some a) (some b) K
    | a, b => fallB P op t x y a.flat b.flat K

def opt2 {α β : Type} (a : Option α) (b : Option β) (K : α → β → Prop) : Prop := match a, b with | some a, some b => K a b | _, _ => False
def opt1 {α : Type} (a : Option α) (K : α → Prop) : Prop := match a with | some a => K a | none => False
def orFull (b : Bool) : Own := match b with | true => .full | false => .free
def isNone {α : Type} : Option α → Bool | none => true | some _ => false
def isFull : Own → Bool | .full => true | _ => false

def aq (P : Program) (TT : Types) (L : Heap) (ev raw : Operand → AV) (o : Oper) (K : AV → Prop) : Prop :=
  match o.op with
  | .move x => K (ev x)
  | .assign x => K (ev x)
  | .pick c a b => match ev c with | .v (.bool g) => abr g (K (ev a)) (K (ev b)) | _ => False
  | .nilCheck x => match ev x with | .ptr i j => K (.ptr i j) | .cref l => K (.cref l) | .fn f l => K (.fn f l) | _ => False
  | .binOp op t x y _ => abin P TT op t x y (ev x) (ev y) K
  | .unOp op _ x => match op, ev x with | .not, .v (.bool b) => K (.v (.bool !b)) | .neg, .v (.int k n) => K (.v (.int k (k.wrap (0 - n)))) | .xor, .v (.int k n) => K (.v (.int k (k.wrap (BitVec.ofInt k.bits (if k.signed then -1 else k.max) ^^^ BitVec.ofInt k.bits n).toNat))) | _, _ => False
  | .convert s t x => opt2 (TT s) (TT t) fun si ti =>
    match ti.kind, ev x, raw x with
    | .int k', .v (.int _ n), _ => K (.v (.int k' (k'.wrap n)))
    | .float k', .v (.int _ n), _ => K (.v (.float k' (k'.nearest n)))
    | .string, .v (.string b), _ => K (.v (.string b))
    | .string, .list rows _, _ => match si.kind with
      | .slice e => opt1 (TT e) fun te => match te.kind with | .int .u8 => ∃ l : List UInt8, rows = l.map brow ∧ K (.v (.string ⟨l.toArray⟩)) | _ => False
      | _ => False
    | .slice e, .v (.string b), _ => opt1 (TT e) fun te => match si.kind, te.kind with | .string, .int .u8 => b.size ≤ 4611686018427387904 ∧ K (.list (b.data.toList.map brow) .free) | _, _ => False
    | .slice e, _, .list rows .lit => opt1 (TT e) fun te => match te.kind with | .int .u8 => if s = t then K (.list rows .full) else False | _ => False
    | _, _, _ => False
  | .makeFunc fn first cap => match fn with | .func f => if first.size = 0 then K (.fn f (cap.toList.map ev)) else if cap.size = 0 then K (.bnd f (first.toList.map ev)) else False | _ => False
  | .extract x i => match ev x with | .tuple l => opt1 l[i]? K | _ => False
  | .makeInterface t x => opt1 (TT t) fun ti => match ti.kind with | .iface => False | _ => K (.iface t (ev x))
  | .fieldAddr s x f => match kindT TT s with
    | .struct fs => opt1 fs[f]? fun p => match p.2 with | 0 => False | _ + 1 => opt1 (amove p.1 (ev x)) K
    | _ => False
  | .load t x => opt1 (TT t) fun ti => opt1 (aload L ti (ev x)) K
  | .indexAddr t x ix => match kindT TT t with
    | .slice e => opt1 (TT e) fun te => match ev x, ev ix with
      | .list rows _, .v (.int _ n) => 0 ≤ n ∧ ∃ row, rows[n.toNat]? = some row ∧ row.length = te.size ∧ K (.cref row)
      | .arr id off m _, .v (.int _ n) => 0 ≤ n ∧ n < m ∧ K (.ptr id (off + n.toNat * te.size))
      | _, _ => False
    | .array len e => opt1 (TT e) fun te => match ev ix with
      | .v (.int _ n) => 0 ≤ n ∧ n < len ∧ opt1 (amove (n.toNat * te.size) (ev x)) K
      | _ => False
    | _ => False
  | .slice t x lo hi mx => match kindT TT t, ev x with
    | .string, .v (.string s) => if isNone mx then opt2 (optNat ev lo 0) (optNat ev hi s.size) fun l h => optOk ev lo ∧ optOk ev hi ∧ l ≤ h ∧ h ≤ s.size ∧ K (.v (.string (s.extract l h))) else False
    | .slice e, .list rows own => opt1 (TT e) fun te => opt2 (optNat ev lo 0) (optNat ev hi rows.length) fun l h =>
      if isNone mx then optOk ev lo ∧ optOk ev hi ∧ l ≤ h ∧ h ≤ rows.length ∧ (∀ row ∈ rows, row.length = te.size) ∧ K (.list ((rows.take h).drop l) (orFull (isNone hi && isFull own)))
      else if isNone hi then False else opt1 (optNat ev mx 0) fun m => optOk ev lo ∧ optOk ev hi ∧ optOk ev mx ∧ l ≤ h ∧ h ≤ m ∧ m ≤ rows.length ∧ (∀ row ∈ rows, row.length = te.size) ∧ K (.list ((rows.take h).drop l) (orFull (Nat.beq h m)))
    | .slice e, .arr id off n c => opt1 (TT e) fun te => opt2 (optNat ev lo 0) (optNat ev hi n) fun l h =>
      if isNone mx then optOk ev lo ∧ optOk ev hi ∧ l ≤ h ∧ h ≤ c ∧ K (.arr id (off + l * te.size) (h - l) (c - l))
      else if isNone hi then False else opt1 (optNat ev mx 0) fun m => optOk ev lo ∧ optOk ev hi ∧ optOk ev mx ∧ l ≤ h ∧ h ≤ m ∧ m ≤ c ∧ K (.arr id (off + l * te.size) (h - l) (m - l))
    | _, _ => False
  | .build t parts => opt1 (TT t) fun ti => match ti.kind with
    | .struct fs => opt2 ti.zero (partCells ev parts.toList) fun z p => if fs.all (fun f => !Nat.beq f.2 0) then opt1 (aFill (fun i => fs[i]?) (zcells z) p) fun cells => K (.agg cells) else False
    | _ => False
  | .buildSlice t len parts => match kindT TT t with
    | .slice e => opt1 (TT e) fun te => opt2 te.zero (sealParts ev parts.toList) fun z p => if zok te z && decide (len * te.size ≤ 16777216) then opt1 (layRows te.size (List.replicate len (zcells z)) p) fun rows => K (.list rows .lit) else False
    | _ => False
  | .makeSlice t x y => match kindT TT t, ev x, ev y with
    | .slice e, .v (.int .i64 n), .v (.int .i64 m) => opt1 (TT e) fun te => opt1 te.zero fun z => if zok te z then n = m ∧ 0 ≤ n ∧ n ≤ 140737488355328 ∧ te.bytes * n ≤ 140737488355328 ∧ K (.list (List.replicate n.toNat (zcells z)) .full) else False
    | _, _, _ => False
  | .call c => match c.callee, c.args.toList with
    | .builtin .len, [x] => match c.argTypes.toList with
      | [t] => match kindT TT t, ev x with
        | .slice _, .list rows _ => K (.v (.int .i64 rows.length))
        | .slice _, .arr _ _ m _ => K (.v (.int .i64 m))
        | .string, .v (.string s) => K (.v (.int .i64 s.size))
        | .array n _, _ => K (.v (.int .i64 n))
        | _, _ => False
      | _ => False
    | .builtin .cap, [x] => match c.argTypes.toList with
      | [t] => match kindT TT t, ev x with
        | .slice _, .arr _ _ _ cp => K (.v (.int .i64 cp))
        | _, _ => False
      | _ => False
    | .builtin .min, [x, y] => match ev x, ev y with
      | .v (.int k a), .v (.int k' b) => if k = k' then K (.v (.int k (if b < a then b else a))) else False
      | _, _ => False
    | .builtin .max, [x, y] => match ev x, ev y with
      | .v (.int k a), .v (.int k' b) => if k = k' then K (.v (.int k (if b > a then b else a))) else False
      | .v (.string a), .v (.string b) => K (.v (.string (bif !(Op.bytesLess a.toList b.toList) then a else b)))
      | _, _ => False
    | _, _ => False
  | _ => False

theorem opt1_some {α : Type} {a : Option α} {K : α → Prop} (h : opt1 a K) : ∃ x, a = some x ∧ K x := by
  unfold opt1 at h; split at h
  · exact ⟨_, rfl, h⟩
  · exact h.elim
theorem opt2_some {α β : Type} {a : Option α} {b : Option β} {K : α → β → Prop} (h : opt2 a b K) : ∃ x y, a = some x ∧ b = some y ∧ K x y := by
  unfold opt2 at h; split at h
  · exact ⟨_, _, rfl, rfl, h⟩
  · exact h.elim
theorem kindT_some {TT : Types} {t : TypeId} {k : TK} (h : kindT TT t = k) (hk : k ≠ .other) : ∃ ti, TT t = some ti ∧ ti.kind = k := by
  unfold kindT at h; split at h
  · exact ⟨_, by assumption, h⟩
  · exact absurd h.symm hk
theorem args1 {c : Call} {x : Operand} (h : c.args.toList = [x]) : c.args = #[x] := by
  have := congrArg List.toArray h; simpa using this
theorem args2 {c : Call} {x y : Operand} (h : c.args.toList = [x, y]) : c.args = #[x, y] := by
  have := congrArg List.toArray h; simpa using this
theorem tys1 {c : Call} {x : TypeId} (h : c.argTypes.toList = [x]) : c.argTypes = #[x] := by
  have := congrArg List.toArray h; simpa using this

section
variable {P : Program} {TT : Types} {L : Heap} {ev raw : Operand → AV} {o : Oper} {K : AV → Prop}

theorem q_fall {op : BinOp} {t t' : TypeId} {x y : Operand} {a b v : Value} (ho : o.op = .binOp op t x y t') (hx : (ev x).flat = some a) (hy : (ev y).flat = some b) (hr : ∀ w, (do eqGuard op t x y a b; binOp op t a b : Sem Value).run P w = .ok v w) : QOk P L ev raw o (.ofValue v) :=
  .still fun G w ρ hh => by
    have h1 := (hh.ev x (by rw [ho]; simp [Op.operands])).flat hx
    have h2 := (hh.ev y (by rw [ho]; simp [Op.operands])).flat hy
    refine ⟨v, ?_, .ofValue G v⟩
    simp only [execOp, ho, h1, h2]
    rw [Sem.run_bind, hr w]; rfl
theorem fallB_ok {op : BinOp} {t t' : TypeId} {x y : Operand} (ho : o.op = .binOp op t x y t') {a b : Option Value} (ha : (ev x).flat = a) (hb : (ev y).flat = b) (h : fallB P op t x y a b K) : ∃ av, K av ∧ QOk P L ev raw o av := by
  unfold fallB at h
  split at h
  · obtain ⟨v, h1, h2⟩ := h
    exact ⟨_, h2, q_fall ho ha hb h1⟩
  · exact h.elim
theorem eqRes_ok {op : BinOp} {r : Bool} (h : eqRes op r K) : ∃ r', K (.v (.bool r')) ∧ ((op = .eql ∧ r' = r) ∨ (op = .neq ∧ r' = !r)) := by
  unfold eqRes at h
  split at h
  · exact ⟨_, h, .inl ⟨rfl, rfl⟩⟩
  · exact ⟨_, h, .inr ⟨rfl, rfl⟩⟩
  · exact h.elim
theorem abin_ok (hT : TOk P TT) {op : BinOp} {t t' : TypeId} {x y : Operand} (ho : o.op = .binOp op t x y t') (h : abin P TT op t x y (ev x) (ev y) K) : ∃ av, K av ∧ QOk P L ev raw o av := by
  have hp : ∀ a, isPtrA a = true → (∃ i j, a = .ptr i j) ∨ ∃ l, a = .cref l := fun a ha => by
    cases a <;> simp [isPtrA] at ha
    · exact .inl ⟨_, _, rfl⟩
    · exact .inr ⟨_, rfl⟩
  have hf : ∀ a, isFnA a = true → ∃ f l, a = .fn f l ∨ a = .bnd f l := fun a ha => by
    cases a <;> simp [isFnA] at ha
    · exact ⟨_, _, .inl rfl⟩
    · exact ⟨_, _, .inr rfl⟩
  have hnp : ∀ a, nilP a = true → a = .v (.pointer none) := fun a ha => by unfold nilP at ha; split at ha <;> first | rfl | cases ha
  have hnf : ∀ a, nilF a = true → a = .v .nilFunc := fun a ha => by unfold nilF at ha; split at ha <;> first | rfl | cases ha
  unfold abin at h
  split at h
  · rename_i hk
    obtain ⟨ti, h1, h2⟩ := kindT_some hk (by simp)
    obtain ⟨hti⟩ := hT.get h1
    split at h
    · rename_i p hb
      obtain ⟨r, h3, h4⟩ := eqRes_ok h
      have hxy : ev x = .v (.bool p.1) ∧ ev y = .v (.bool p.2) := by
        unfold bothBool at hb; split at hb
        · rename_i a b hx hy; cases hb; exact ⟨hx, hy⟩
        · cases hb
      exact ⟨_, h3, q_boolcmp ho hti h2 hxy.1 hxy.2 h4⟩
    · exact h.elim
  · rename_i hk
    obtain ⟨ti, h1, h2⟩ := kindT_some hk (by simp)
    obtain ⟨hti⟩ := hT.get h1
    split at h
    · rename_i hb
      rw [Bool.and_eq_true] at hb
      obtain ⟨r, h3, h4⟩ := eqRes_ok h
      exact ⟨_, h3, q_nilcmp ho hti rfl (hnp _ hb.2) h4 (.inl ⟨h2, hp _ hb.1, rfl⟩)⟩
    · exact fallB_ok ho rfl rfl h
  · rename_i hk
    obtain ⟨ti, h1, h2⟩ := kindT_some hk (by simp)
    obtain ⟨hti⟩ := hT.get h1
    split at h
    · rename_i hb
      rw [Bool.and_eq_true] at hb
      obtain ⟨r, h3, h4⟩ := eqRes_ok h
      exact ⟨_, h3, q_nilcmp ho hti rfl (hnf _ hb.2) h4 (.inr ⟨h2, hf _ hb.1, rfl⟩)⟩
    · exact fallB_ok ho rfl rfl h
  · split at h
    · rename_i t1 i j t2 i' j' hx hy
      obtain ⟨⟨rfl, rfl, rfl⟩, r, h1, h2⟩ := h
      refine ⟨_, h2, .still fun G w ρ hh => ?_⟩
      have e1 := hh.ev x (by rw [ho]; simp [Op.operands])
      have e2 := hh.ev y (by rw [ho]; simp [Op.operands])
      rw [hx] at e1; rw [hy] at e2
      obtain ⟨u1, f1, g1⟩ := e1.iface_inv
      obtain ⟨u2, f2, g2⟩ := e2.iface_inv
      have k1 := g1.ptr_inv.1
      have k2 := g2.ptr_inv.1
      subst k1; subst k2
      refine ⟨.bool r, ?_, .data _ _ (.v _)⟩
      simp only [execOp, ho, f1, f2]
      have := h1 (G.loc i) w
      simp [eqGuard, this, Sem.run_bind, Result.andThen]
    · rename_i t1 z v hx hy
      obtain ⟨r, h1, h2⟩ := h
      refine ⟨_, h2, .still fun G w ρ hh => ?_⟩
      have e1 := hh.ev x (by rw [ho]; simp [Op.operands])
      have e2 := hh.ev y (by rw [ho]; simp [Op.operands])
      rw [hx] at e1; rw [hy] at e2
      obtain ⟨u1, f1, g1⟩ := e1.iface_inv
      refine ⟨.bool r, ?_, .data _ _ (.v _)⟩
      simp only [execOp, ho, f1, e2.v_inv]
      have := h1 u1 w
      simp [eqGuard, this, Sem.run_bind, Result.andThen]
    · exact fallB_ok ho rfl rfl h
  · split at h
    · rename_i a b hx hy
      split at h
      · obtain ⟨v, h1, h2⟩ := q_bin (P := P) (L := L) (raw := raw) ho hx hy h
        exact ⟨_, h1, h2⟩
      · exact fallB_ok ho (by rw [hx]; rfl) (by rw [hy]; rfl) h
    · exact fallB_ok ho rfl rfl h
end
end Go.Am
