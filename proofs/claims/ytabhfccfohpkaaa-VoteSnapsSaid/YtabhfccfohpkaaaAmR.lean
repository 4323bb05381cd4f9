/- The walk, step by step. -/
import Derived.Test.YtabhfccfohpkaaaAmQ
namespace Go.Am
open Go.RowKit
set_option linter.unusedSimpArgs false
set_option linter.unusedVariables false

def forceRows : List (List AV) → (List (List AV) → Prop) → Prop
  | [], k => k []
  | a :: l, k => forceA a fun a' => forceRows l fun l' => k (a' :: l')
theorem forceRows_eq : ∀ (l : List (List AV)) (k : List (List AV) → Prop), forceRows l k = k l
  | [], k => rfl
  | a :: l, k => by unfold forceRows; rw [forceA_eq, forceRows_eq l]
/-- cells, their heads written out -/
def hdV : AV → (AV → Prop) → Prop
  | .v x, K => K (.v x)
  | .list r o, K => K (.list r o)
  | .agg l, K => K (.agg l)
  | .tuple l, K => K (.tuple l)
  | .ptr i j, K => K (.ptr i j)
  | .arr i o j c, K => K (.arr i o j c)
  | .cref l, K => K (.cref l)
  | .fn f l, K => K (.fn f l)
  | .bnd f l, K => K (.bnd f l)
  | .iface t x, K => K (.iface t x)
  | .dead, K => K .dead
theorem hdV_eq (x : AV) (K : AV → Prop) : hdV x K = K x := by cases x <;> rfl
def forceE : List AV → (List AV → Prop) → Prop
  | [], k => k []
  | a :: l, k => hdV a fun a' => forceE l fun l' => k (a' :: l')
theorem forceE_eq : ∀ (l : List AV) (k : List AV → Prop), forceE l k = k l
  | [], k => rfl
  | a :: l, k => by unfold forceE; rw [hdV_eq, forceE_eq l]
/-- a value, its head written out -/
def fv : AV → (AV → Prop) → Prop
  | .v x, K => K (.v x)
  | .list r .lit, K => forceRows r fun r' => K (.list r' .lit)
  | .list r .free, K => K (.list r .free)
  | .list r .full, K => K (.list r .full)
  | .list r (.tok k), K => K (.list r (.tok k))
  | .agg l, K => forceE l fun l' => K (.agg l')
  | .tuple l, K => forceA l fun l' => K (.tuple l')
  | .ptr i j, K => K (.ptr i j)
  | .arr i o j c, K => K (.arr i o j c)
  | .cref l, K => forceA l fun l' => K (.cref l')
  | .fn f l, K => forceA l fun l' => K (.fn f l')
  | .bnd f l, K => forceA l fun l' => K (.bnd f l')
  | .iface t x, K => K (.iface t x)
  | .dead, K => K .dead
theorem fv_eq (x : AV) (K : AV → Prop) : fv x K = K x := by
  cases x <;> try (simp [fv, forceA_eq, forceE_eq]; done)
  rename_i r o; cases o <;> simp [fv, forceRows_eq]

def forceV : List AV → (List AV → Prop) → Prop
  | [], k => k []
  | a :: l, k => fv a fun a' => forceV l fun l' => k (a' :: l')
theorem forceV_eq : ∀ (l : List AV) (k : List AV → Prop), forceV l k = k l
  | [], k => rfl
  | a :: l, k => by unfold forceV; rw [fv_eq, forceV_eq l]
/-- a heap, with all its values' heads written out -/
def forceHv : Heap → (Heap → Prop) → Prop
  | [], k => k []
  | (i, .box l) :: H, k => forceV l fun l' => forceHv H fun H' => k ((i, .box l') :: H')
  | (i, .tok a b) :: H, k => forceHv H fun H' => k ((i, .tok a b) :: H')
  | (i, .seq a b) :: H, k => forceHv H fun H' => k ((i, .seq a b) :: H')
theorem forceHv_eq : ∀ (H : Heap) (k : Heap → Prop), forceHv H k = k H
  | [], k => rfl
  | (i, .box l) :: H, k => by unfold forceHv; rw [forceV_eq, forceHv_eq H]
  | (i, .tok a b) :: H, k => by unfold forceHv; rw [forceHv_eq H]
  | (i, .seq a b) :: H, k => by unfold forceHv; rw [forceHv_eq H]

theorem qAnd5 {X : (AV → Prop) → Prop} {p1 p2 p3 p4 p5 : Prop} {av : AV} (h : ∀ K : AV → Prop, (p1 ∧ p2 ∧ p3 ∧ p4 ∧ p5 ∧ K av) → X K) : ∀ K : AV → Prop, (p1 ∧ p2 ∧ p3 ∧ p4 ∧ p5) ∧ K av → X K := fun K ⟨⟨a, b, c, d, e⟩, f⟩ => h K ⟨a, b, c, d, e, f⟩
theorem qAnd4 {X : (AV → Prop) → Prop} {p1 p2 p3 p4 : Prop} {av : AV} (h : ∀ K : AV → Prop, (p1 ∧ p2 ∧ p3 ∧ p4 ∧ K av) → X K) : ∀ K : AV → Prop, (p1 ∧ p2 ∧ p3 ∧ p4) ∧ K av → X K := fun K ⟨⟨a, b, c, d⟩, f⟩ => h K ⟨a, b, c, d, f⟩
theorem qAnd2 {X : (AV → Prop) → Prop} {p1 p2 : Prop} {av : AV} (h : ∀ K : AV → Prop, (p1 ∧ p2 ∧ K av) → X K) : ∀ K : AV → Prop, (p1 ∧ p2) ∧ K av → X K := fun K ⟨⟨a, b⟩, c⟩ => h K ⟨a, b, c⟩
theorem qIx {X : (AV → Prop) → Prop} {n : Int} {m : Nat} {rows : List (List AV)} {row : List AV} (h : ∀ K : AV → Prop, (0 ≤ n ∧ ∃ row, rows[n.toNat]? = some row ∧ row.length = m ∧ fv (.cref row) K) → X K) : ∀ K : AV → Prop, (0 ≤ n ∧ rows[n.toNat]? = some row ∧ row.length = m) ∧ K (.cref row) → X K :=
  fun K ⟨⟨a, b, c⟩, d⟩ => h K ⟨a, row, b, c, by rw [fv_eq]; exact d⟩
theorem qStr {X : (AV → Prop) → Prop} {rows : List (List AV)} {l : List UInt8} (h : ∀ K : AV → Prop, (∃ l : List UInt8, rows = l.map brow ∧ K (.v (.string ⟨l.toArray⟩))) → X K) : ∀ K : AV → Prop, rows = l.map brow ∧ K (.v (.string ⟨l.toArray⟩)) → X K := fun K ⟨a, b⟩ => h K ⟨l, a, b⟩

theorem qFall {P : Program} {X : (AV → Prop) → Prop} {op : BinOp} {t : TypeId} {x y : Operand} {a b : Value} (r : Bool) (h : ∀ K : AV → Prop, fallB P op t x y (some a) (some b) (fun z => fv z K) → X K) (hv : ∀ w, (do eqGuard op t x y a b; binOp op t a b : Sem Value).run P w = .ok (.bool r) w) : ∀ K : AV → Prop, K (.v (.bool r)) → X K :=
  fun K hk => h K ⟨.bool r, hv, by show fv (.v (.bool r)) K; rw [fv_eq]; exact hk⟩
/-- an interface's value held against a flat one, and two of the same pointer -/
theorem qIfN {P : Program} {X : (AV → Prop) → Prop} {op : BinOp} {t t1 : TypeId} {v : Value} (r : Bool) (h : ∀ K : AV → Prop, (∃ r, (∀ (u : Value) (w : World), (binOp op t (.iface t1 u) v : Sem Value).run P w = .ok (.bool r) w) ∧ fv (.v (.bool r)) K) → X K) (hv : ∀ (u : Value) (w : World), (binOp op t (.iface t1 u) v : Sem Value).run P w = .ok (.bool r) w) : ∀ K : AV → Prop, K (.v (.bool r)) → X K :=
  fun K hk => h K ⟨r, hv, by rw [fv_eq]; exact hk⟩
theorem qIfP {P : Program} {X : (AV → Prop) → Prop} {op : BinOp} {t t1 : TypeId} {i j : Nat} (r : Bool) (h : ∀ K : AV → Prop, ((i = i ∧ j = j ∧ t1 = t1) ∧ ∃ r, (∀ (c : Nat) (w : World), (binOp op t (.iface t1 (.pointer (some ⟨c, j, none⟩))) (.iface t1 (.pointer (some ⟨c, j, none⟩))) : Sem Value).run P w = .ok (.bool r) w) ∧ fv (.v (.bool r)) K) → X K)
    (hv : ∀ (c : Nat) (w : World), (binOp op t (.iface t1 (.pointer (some ⟨c, j, none⟩))) (.iface t1 (.pointer (some ⟨c, j, none⟩))) : Sem Value).run P w = .ok (.bool r) w) : ∀ K : AV → Prop, K (.v (.bool r)) → X K :=
  fun K hk => h K ⟨⟨rfl, rfl, rfl⟩, r, hv, by rw [fv_eq]; exact hk⟩
section
variable {P : Program} {TT : Types} {D : Dr} {all rest : List Oper} {o : Oper} {s s' : List AV} {L L' L'' : Heap} {n n' : Nat} {K : Kn} {KP : AV → Kn} {av : AV} {Kk : Kc}

def opK (P : Program) (TT : Types) (all rest : List Oper) (s : List AV) (d : Option Nat) (K : Kn) (KP : AV → Kn) : AV → Heap → Nat → Prop := fun av L' n' => putD s d av fun s' => forceH L' fun L'' => aops P TT all rest s' L'' n' K KP
def opP (s : List AV) (KP : AV → Kn) : AV → Heap → Nat → Prop := fun x L' n' => KP x s L' n'
theorem o_nil (h : K s L n) : aops P TT all [] s L n K KP := h
theorem o_op (hg : o.guard = none) (h : aop P TT o s L n (opK P TT all rest s o.dst K KP) (opP s KP)) : aops P TT all (o :: rest) s L n K KP := by
  unfold aops guarded; rw [hg]; exact h
/-- one that is wanted only if a slot says so -/
theorem o_guard {j d : Nat} {want b : Bool} (hg : o.guard = some (j, want)) (hd : (all[j]?).bind (·.dst) = some d) (hb : getA s d = .v (.bool b)) (hyes : b = want → aop P TT o s L n (opK P TT all rest s o.dst K KP) (opP s KP))
    (hno : b = !want → putD s o.dst (.v (.tuple #[])) fun s' => aops P TT all rest s' L n K KP) : aops P TT all (o :: rest) s L n K KP := by
  unfold aops guarded
  rw [hg]
  simp only [hd, hb]
  cases want <;> cases b
  · exact hyes rfl
  · exact hno rfl
  · exact hno rfl
  · exact hyes rfl
theorem o_no {j d : Nat} {want : Bool} (hg : o.guard = some (j, want)) (hd : (all[j]?).bind (·.dst) = some d) (hb : getA s d = .v (.bool (!want))) (hs : ∀ k : List AV → Prop, k s' → putD s o.dst (.v (.tuple #[])) k) (h : aops P TT all rest s' L n K KP) : aops P TT all (o :: rest) s L n K KP :=
  o_guard hg hd hb (fun e => by cases want <;> cases e) fun _ => hs _ h
theorem o_not {j d : Nat} {want : Bool} {vs : Array Value} (hg : o.guard = some (j, want)) (hd : (all[j]?).bind (·.dst) = some d) (hb : getA s d = .v (.tuple vs)) (hs : ∀ k : List AV → Prop, k s' → putD s o.dst (.v (.tuple #[])) k) (h : aops P TT all rest s' L n K KP) : aops P TT all (o :: rest) s L n K KP := by
  unfold aops guarded
  rw [hg]
  simp only [hd, hb]
  exact hs _ h
theorem o_yes {j d : Nat} {want : Bool} (hg : o.guard = some (j, want)) (hd : (all[j]?).bind (·.dst) = some d) (hb : getA s d = .v (.bool want)) (h : aop P TT o s L n (opK P TT all rest s o.dst K KP) (opP s KP)) : aops P TT all (o :: rest) s L n K KP :=
  o_guard hg hd hb (fun _ => h) fun e => by cases want <;> cases e
theorem k_op (hs : ∀ k : List AV → Prop, k s' → putD s o.dst av k) (hL : ∀ k : Heap → Prop, k L'' → forceH L' k) (h : aops P TT all rest s' L'' n' K KP) : opK P TT all rest s o.dst K KP av L' n' :=
  hs _ (hL _ h)
theorem k_op' {d : Option Nat} (hs : ∀ k : List AV → Prop, k s' → putD s d av k) (h : aops P TT all rest s' L n K KP) : opK P TT all rest s d K KP av L n := by
  refine hs _ ?_
  rw [forceH_eq]; exact h
theorem k_opc {d : Option Nat} {x : AV} (hx : ∀ k : AV → Prop, k av → fv x k) (hs : ∀ k : List AV → Prop, k s' → putD s d av k) (hL : ∀ k : Heap → Prop, k L'' → forceH L' k) (h : aops P TT all rest s' L'' n' K KP) : opK P TT all rest s d K KP x L' n' := by
  have e : x = av := by
    have := hx (fun y => y = av) rfl
    rwa [fv_eq] at this
  subst e
  exact hs _ (hL _ h)
theorem k_as (y : AV) {d : Option Nat} (he : av = y) (h : opK P TT all rest s d K KP y L n) : opK P TT all rest s d K KP av L n := he ▸ h
theorem k_asH (L' : Heap) {d : Option Nat} (he : L = L') (h : opK P TT all rest s d K KP av L' n) : opK P TT all rest s d K KP av L n := he ▸ h
theorem a_q {K KP : AV → Heap → Nat → Prop} (hk : opKind o = .quiet) (h : aq P TT L (ev s) (raw s) o fun av => K av L n) : aop P TT o s L n K KP := by
  unfold aop; rw [hk]; exact .inl h
/-- floats together -/
theorem a_fadd {K KP : AV → Heap → Nat → Prop} {t t' : TypeId} {x y : Operand} {a b : Nat} (ho : o.op = .binOp .add t x y t') (hk : opKind o = .quiet) (hx : ev s x = .v (.float .f64 a)) (hy : ev s y = .v (.float .f64 b)) (h : ∀ r, (match FloatKind.f64.format.add a b with | some r0 => r = r0 | none => nanR r) → K (.v (.float .f64 r)) L n) : aop P TT o s L n K KP := by
  unfold aop; rw [hk]
  refine .inr (.inl ?_)
  unfold afl
  rw [ho]
  simp only [hx, hy]
  exact h
/-- a list written out, as an object -/
theorem a_buildO {K KP : AV → Heap → Nat → Prop} {t e : TypeId} {len : Nat} {parts : Array (Nat × Operand)} {te : TI} {z : Value} {p : List (Nat × List AV)} {cells : List AV} (ho : o.op = .buildSlice t len parts) (hk : opKind o = .quiet) (hkt : kindT TT t = .slice e) (hte : TT e = some te) (hz : te.zero = some z) (hp : partCells (ev s) parts.toList = some p)
    (hzk : (zok te z && decide (0 < len ∧ len * te.size ≤ 16777216)) = true) (hf : aFill (fun i => some (i * te.size, te.size)) (List.replicate len (zcells z)).flatten p = some cells) (h : K (.arr n 0 len len) ((n, .box cells) :: L) (n + 1)) : aop P TT o s L n K KP := by
  unfold aop; rw [hk]
  refine .inr (.inr ?_)
  unfold abuildO
  rw [ho]
  simp only [hkt, hte, hz, hp, opt1, opt2, hzk, hf, if_pos]
  exact h
/-- what an operation that only computes answers -/
theorem a_q1 {K KP : AV → Heap → Nat → Prop} (hk : opKind o = .quiet) (hC : ∀ K : AV → Prop, K av → aq P TT L (ev s) (raw s) o fun x => fv x K) (h : K av L n) : aop P TT o s L n K KP := by
  refine a_q hk ?_
  have := hC (fun av => K av L n) h
  simpa only [fv_eq] using this
theorem a_qC {C : (AV → Prop) → Prop} {K KP : AV → Heap → Nat → Prop} (hk : opKind o = .quiet) (hC : ∀ K : AV → Prop, C K → aq P TT L (ev s) (raw s) o fun x => fv x K) (h : C fun av => K av L n) : aop P TT o s L n K KP := by
  refine a_q hk ?_
  have := hC (fun av => K av L n) h
  simpa only [fv_eq] using this
theorem a_qS {p : Prop} {K KP : AV → Heap → Nat → Prop} (hk : opKind o = .quiet) (hC : ∀ K : AV → Prop, p ∧ K av → aq P TT L (ev s) (raw s) o fun x => fv x K) (hp : p) (h : K av L n) : aop P TT o s L n K KP := by
  refine a_q hk ?_
  have := hC (fun av => K av L n) ⟨hp, h⟩
  simpa only [fv_eq] using this
theorem a_e {C : (AV → Heap → Nat → Prop) → Prop} {K KP : AV → Heap → Nat → Prop} (hC : ∀ K : AV → Heap → Nat → Prop, C K → aop P TT o s L n K KP) (h : C K) : aop P TT o s L n K KP := hC K h
theorem a_box {K KP : AV → Heap → Nat → Prop} {t : TypeId} {x : Operand} {l : List AV} (ho : o.op = .box t x) (hl : ∀ k : List AV → Prop, k l → opt1 (acells (ev s x)) fun l => forceV l k) (h : K (.ptr n 0) ((n, .box l) :: L) (n + 1)) : aop P TT o s L n K KP := by
  unfold aop opKind; simp only [ho]
  have := hl (fun l => K (.ptr n 0) ((n, .box l) :: L) (n + 1)) h
  simpa only [forceV_eq] using this
theorem a_alloc {K KP : AV → Heap → Nat → Prop} {t : TypeId} {l : List AV} (ho : o.op = .alloc t) (hl : ∀ k : List AV → Prop, k l → opt1 (TT t) fun ti => opt1 ti.zero fun z => forceV (zcells z) k) (h : K (.ptr n 0) ((n, .box l) :: L) (n + 1)) : aop P TT o s L n K KP := by
  unfold aop opKind; simp only [ho]
  have := hl (fun l => K (.ptr n 0) ((n, .box l) :: L) (n + 1)) h
  simpa only [forceV_eq] using this
theorem a_storev {K KP : AV → Heap → Nat → Prop} {t : TypeId} {x y : Operand} (ho : o.op = .store t x y) (hL : ∀ k : Heap → Prop, k L' → astore TT s L t x y fun L' => forceHv L' k) (h : K .dead L' n) : aop P TT o s L n K KP := by
  unfold aop opKind; simp only [ho]
  have := hL (fun L' => K .dead L' n) h
  exact .inl (by simpa only [forceHv_eq] using this)
theorem a_store {K KP : AV → Heap → Nat → Prop} {t : TypeId} {x y : Operand} (ho : o.op = .store t x y) (hL : ∀ k : Heap → Prop, k L' → astore TT s L t x y fun L' => forceH L' k) (h : K .dead L' n) : aop P TT o s L n K KP := by
  unfold aop opKind; simp only [ho]
  have := hL (fun L' => K .dead L' n) h
  exact .inl (by simpa only [forceH_eq] using this)
theorem a_append {K KP : AV → Heap → Nat → Prop} {c : Call} {C : (AV → Heap → Nat → Prop) → Prop} (ho : o.op = .call c) (hc : c.callee = .builtin .append) (hC : ∀ K : AV → Heap → Nat → Prop, C K → aappend TT s L n c fun x L' n' => forceH L' fun L' => K x L' n') (h : C K) : aop P TT o s L n K KP := by
  unfold aop opKind; simp only [ho, hc]
  have := hC K h
  exact .inl (by simpa only [forceH_eq] using this)
/-- a value handed on as it is -/
theorem a_move {K KP : AV → Heap → Nat → Prop} {x : Operand} (ho : o.op = .move x) (hx : ev s x = av) (h : K av L n) : aop P TT o s L n K KP := by
  unfold aop opKind; simp only [ho]; unfold aq; simp only [ho]; rw [hx]; exact .inl h
/-- a load out of a heap of which only this object is known -/
theorem a_loadAt {K KP : AV → Heap → Nat → Prop} {t : TypeId} {x : Operand} {ti : TI} {id off : Nat} {cells : List AV} (ho : o.op = .load t x) (ht : TT t = some ti) (hx : ev s x = .ptr id off) (hf : findL L id = some (.box cells)) (hk : isAggK ti.kind = false) (hc : cells[off]? = some av) (h : K av L n) : aop P TT o s L n K KP := by
  unfold aop opKind; simp only [ho]; unfold aq; simp only [ho]; rw [ht, hx]
  simp only [opt1, aload, hf, hk, hc, Bool.false_eq_true, if_false]
  exact .inl h
theorem a_storeAt {K KP : AV → Heap → Nat → Prop} {t : TypeId} {x y : Operand} {ti : TI} {id off : Nat} {cells l cells' : List AV} (ho : o.op = .store t x y) (ht : TT t = some ti) (hx : ev s x = .ptr id off) (hf : findL L id = some (.box cells)) (hl : acells (ev s y) = some l)
    (hk : (l.all AV.one && (Nat.beq l.length ti.size && Nat.ble (off + l.length) cells.length)) = true) (hp : putCells cells off l = cells') (h : K .dead (setL L id (.box cells')) n) : aop P TT o s L n K KP := by
  subst hp
  unfold aop opKind; simp only [ho]; unfold astore; rw [ht, hx]
  simp only [opt1, hf, hl, hk, if_true]
  exact .inl h
theorem a_nilq {K KP : AV → Heap → Nat → Prop} {op : BinOp} {t t' : TypeId} {x : Operand} {e : TypeId} {rows : List (List AV)} {own : Own} {bt bf : AV} (ho : o.op = .binOp op t x (.const (.slice none 0 0)) t') (hk : kindT TT t = .slice e) (hx : ev s x = .list rows own)
    (ht : ∀ K : AV → Prop, K bt → eqRes op true K) (hf : ∀ K : AV → Prop, K bf → eqRes op false K) (h1 : rows = [] → K bt L n) (h2 : K bf L n) : aop P TT o s L n K KP := by
  unfold aop opKind; simp only [ho, isNilS]
  rw [hk, hx]
  exact ⟨fun e => ht _ (h1 e), hf _ h2⟩
theorem a_append_tok {K KP : AV → Heap → Nat → Prop} {c : Call} {x y : Operand} {t tx e e2 : TypeId} {te : TI} {z : Value} {rows rows2 : List (List AV)} {own2 : Own} {k sz m B : Nat} (ho : o.op = .call c) (hk : opKind o = .append) (ha : c.args.toList = [x, y]) (hty : c.argTypes.toList = [t, tx])
    (hkt : kindT TT t = .slice e) (hkx : kindT TT tx = .slice e2) (hte : TT e = some te) (hz : te.zero = some z) (hzk : zok te z = true) (hx : ev s x = .list rows (.tok k)) (hy : ev s y = .list rows2 own2) (hf : findL L k = some (.tok sz m)) (hsz : sz = te.size) (hB : te.bytes = B) (hm : m = rows.length)
    (hL : ∀ q : Heap → Prop, q L' → forceH (setL L k (.tok te.size (rows.length + rows2.length))) q)
    (hr : ∀ row ∈ rows2, row.length = te.size) (hroom : (rows.length + rows2.length) * B ≤ 140737488355328 ∧ rows.length + rows2.length ≤ 4611686018427387904) (h : K (.list (rows ++ rows2) (.tok k)) L' n) : aop P TT o s L n K KP := by
  unfold aop; rw [hk]; simp only [ho]
  refine .inl ?_
  unfold aappend
  rw [ha, hty]
  simp only [hkt, hkx, hte, hz, hx, hy, hzk, opt1, if_pos, hf]
  have := hL (fun L' => K (.list (rows ++ rows2) (.tok k)) L' n) h
  rw [forceH_eq] at this
  subst hB
  exact ⟨hr, hroom.1, hroom.2, hsz, hm, this⟩
theorem a_append_full {K KP : AV → Heap → Nat → Prop} {c : Call} {x y : Operand} {t tx e e2 : TypeId} {te : TI} {z : Value} {rows rows2 : List (List AV)} {own2 : Own} {B : Nat} (ho : o.op = .call c) (hk : opKind o = .append) (ha : c.args.toList = [x, y]) (hty : c.argTypes.toList = [t, tx])
    (hkt : kindT TT t = .slice e) (hkx : kindT TT tx = .slice e2) (hte : TT e = some te) (hz : te.zero = some z) (hzk : zok te z = true) (hx : ev s x = .list rows .full) (hy : ev s y = .list rows2 own2) (hB : te.bytes = B)
    (hr1 : ∀ row ∈ rows, row.length = te.size) (hr : ∀ row ∈ rows2, row.length = te.size) (hroom : (rows.length + rows2.length) * B ≤ 140737488355328 ∧ rows.length + rows2.length ≤ 4611686018427387904) (h : K (.list (rows ++ rows2) (.tok n)) ((n, .tok te.size (rows.length + rows2.length)) :: L) (n + 1)) : aop P TT o s L n K KP := by
  unfold aop; rw [hk]; simp only [ho]
  refine .inl ?_
  unfold aappend
  rw [ha, hty]
  simp only [hkt, hkx, hte, hz, hx, hy, hzk, opt1, if_pos]
  subst hB
  exact ⟨hr, hroom.1, hroom.2, hr1, h⟩
/-- the first elements of what is appended or copied -/
theorem asrc_list {L : Heap} {sz : Nat} {y : AV} {rows : List (List AV)} {own : Own} {K : Nat → List AV → Prop} (hy : y = .list rows own) (hr : ∀ row ∈ rows, row.length = sz) (h : K rows.length rows.flatten) : asrc L sz (fun m => m) y K := by
  subst hy
  refine ⟨hr, Nat.le_refl _, ?_⟩
  rw [← flatten_length hr, List.take_length]; exact h
theorem asrc_arr {L : Heap} {sz : Nat} {y : AV} {lim : Nat → Nat} {id off m cp : Nat} {cells cs : List AV} {K : Nat → List AV → Prop} (hy : y = .arr id off m cp) (hf : findL L id = some (.box cells)) (h0 : lim m ≤ m) (h1 : off + lim m * sz ≤ cells.length)
    (hcs : (cells.drop off).take (lim m * sz) = cs) (h2 : cs.all AV.one = true) (h : K m cs) : asrc L sz lim y K := by
  subst hy; subst hcs
  unfold asrc
  simp only [hf]
  exact ⟨h0, h1, h2, h⟩
/-- append to a slice that may be written -/
theorem a_app_arr {K KP : AV → Heap → Nat → Prop} {c : Call} {x y : Operand} {t tx e e2 : TypeId} {te : TI} {z : Value} {id off nn cp m : Nat} {cs : List AV} (ho : o.op = .call c) (hk : opKind o = .append) (ha : c.args.toList = [x, y]) (hty : c.argTypes.toList = [t, tx])
    (hkt : kindT TT t = .slice e) (hkx : kindT TT tx = .slice e2) (hte : TT e = some te) (hz : te.zero = some z) (hzk : zok te z = true) (hx : ev s x = .arr id off nn cp) (hy : ∀ K : Nat → List AV → Prop, K m cs → asrc L te.size (fun m => m) (ev s y) K)
    (hroom : (nn + m) * te.bytes ≤ 140737488355328 ∧ nn + m ≤ 4611686018427387904)
    (hin : nn + m ≤ cp → ∃ cells, findL L id = some (.box cells) ∧ off + (nn + m) * te.size ≤ cells.length ∧ K (.arr id off (nn + m) cp) (setL L id (.box (putCells cells (off + nn * te.size) cs))) n)
    (hnew : cp < nn + m → ∃ olds, aolds L te.size (.arr id off nn cp) olds nn cp ∧ ∀ cp', nn + m ≤ cp' → cp' ≤ maxLen → K (.arr n 0 (nn + m) cp') ((n, .box (olds ++ cs ++ List.replicate ((cp' - (nn + m)) * te.size) .dead)) :: L) (n + 1)) : aop P TT o s L n K KP := by
  unfold aop; rw [hk]; simp only [ho]
  refine .inr (.inl ?_)
  unfold aappendA
  rw [ha, hty]
  simp only [hkt, hkx, hte, hz, hzk, opt1, if_pos]
  refine hy _ ⟨nn, cp, hroom.1, hroom.2, fun h => ?_, fun h => ?_⟩
  · obtain ⟨cells, h1, h2, h3⟩ := hin h
    exact ⟨id, off, cells, hx, h1, h2, h3⟩
  · rw [hx]; exact hnew h
/-- .. to nothing -/
theorem a_app_nil {K KP : AV → Heap → Nat → Prop} {c : Call} {x y : Operand} {t tx e e2 : TypeId} {te : TI} {z : Value} {m : Nat} {cs : List AV} (ho : o.op = .call c) (hk : opKind o = .append) (ha : c.args.toList = [x, y]) (hty : c.argTypes.toList = [t, tx])
    (hkt : kindT TT t = .slice e) (hkx : kindT TT tx = .slice e2) (hte : TT e = some te) (hz : te.zero = some z) (hzk : zok te z = true) (hx : ev s x = .list [] .full) (hy : ∀ K : Nat → List AV → Prop, K m cs → asrc L te.size (fun m => m) (ev s y) K)
    (h0 : 0 < m) (hroom : m * te.bytes ≤ 140737488355328 ∧ m ≤ 4611686018427387904)
    (h : ∀ cp', m ≤ cp' → cp' ≤ maxLen → K (.arr n 0 m cp') ((n, .box (cs ++ List.replicate ((cp' - m) * te.size) .dead)) :: L) (n + 1)) : aop P TT o s L n K KP := by
  unfold aop; rw [hk]; simp only [ho]
  refine .inr (.inl ?_)
  unfold aappendA
  rw [ha, hty]
  simp only [hkt, hkx, hte, hz, hzk, opt1, if_pos]
  refine hy _ ⟨0, 0, by rw [Nat.zero_add]; exact hroom.1, by rw [Nat.zero_add]; exact hroom.2, fun h => by omega, fun _ => ⟨[], ?_, fun cp' h1 h2 => ?_⟩⟩
  · rw [hx]; exact ⟨rfl, rfl, rfl⟩
  · rw [Nat.zero_add] at h1 ⊢
    exact h cp' h1 h2
/-- .. so many zero values, where there is no room -/
theorem a_app_zeros {K KP : AV → Heap → Nat → Prop} {c : Call} {x y : Operand} {t tx e : TypeId} {te : TI} {z : Value} {kn : IntKind} {q : Int} {id off nn cp m : Nat} {olds : List AV} (ho : o.op = .call c) (hk : opKind o = .append) (ha : c.args.toList = [x, y]) (hty : c.argTypes.toList = [t, tx])
    (hkt : kindT TT t = .slice e) (hkx : kindT TT tx = .int kn) (hte : TT e = some te) (hz : te.zero = some z) (hzk : zok te z = true) (hx : ev s x = .arr id off nn cp) {k' : IntKind} (hy : ev s y = .v (.int k' q)) (hq : q = (m : Int)) (h0 : 0 < m) (h1 : cp < nn + m)
    (hroom : (nn + m) * te.bytes ≤ 140737488355328 ∧ nn + m ≤ 4611686018427387904) (hol : aolds L te.size (.arr id off nn cp) olds nn cp) {rows0 : List (List AV)} (h0r : olds = rows0.flatten) (hpr : ∀ a ∈ rows0.flatten, a.pure = true)
    (h : ∀ cp', nn + m ≤ cp' → cp' ≤ maxLen → K (.arr n 0 (nn + m) cp') ((n, .seq rows0 ((cp' - nn) * te.size)) :: L) (n + 1)) : aop P TT o s L n K KP := by
  subst hq
  unfold aop; rw [hk]; simp only [ho]
  refine .inr (.inl ?_)
  unfold aappendA
  rw [ha, hty]
  simp only [hkt, hkx, hte, hz, hzk, opt1, if_pos]
  exact ⟨k', m, nn, cp, olds, hy, h0, h1, hroom.1, hroom.2, by rw [hx]; exact hol, rows0, h0r, hpr, h⟩
theorem a_copy {K KP : AV → Heap → Nat → Prop} {c : Call} {x y : Operand} {t tx e : TypeId} {te : TI} {id off nn cp m : Nat} {cells cs : List AV} (ho : o.op = .call c) (hk : opKind o = .mem) (hc : c.callee = .builtin .copy) (ha : c.args.toList = [x, y]) (hty : c.argTypes.toList = [t, tx])
    (hkt : kindT TT t = .slice e) (hte : TT e = some te) (hx : ev s x = .arr id off nn cp) (hf : findL L id = some (.box cells)) (hy : ∀ K : Nat → List AV → Prop, K m cs → asrc L te.size (fun m => Nat.min m nn) (ev s y) K) (hle : off + Nat.min m nn * te.size ≤ cells.length)
    (h : K (.v (.int .i64 (Nat.min m nn : Nat))) (setL L id (.box (putCells cells off cs))) n) : aop P TT o s L n K KP := by
  unfold aop; rw [hk]; simp only [ho]
  unfold amem
  simp only [hc, ha, hty, hkt, hx, hte, opt1]
  exact hy _ (.inl ⟨cells, hf, hle, h⟩)
theorem a_clear {K KP : AV → Heap → Nat → Prop} {c : Call} {x : Operand} {t e : TypeId} {te : TI} {z : Value} {id off nn cp : Nat} {cells : List AV} (ho : o.op = .call c) (hk : opKind o = .mem) (hc : c.callee = .builtin .clear) (ha : c.args.toList = [x]) (hty : c.argTypes.toList = [t])
    (hkt : kindT TT t = .slice e) (hte : TT e = some te) (hz : te.zero = some z) (hzk : zok te z = true) (hx : ev s x = .arr id off nn cp) (hf : findL L id = some (.box cells)) (hle : off + nn * te.size ≤ cells.length)
    (h : K (.tuple []) (setL L id (.box (putCells cells off (List.replicate (nn * te.size) .dead)))) n) : aop P TT o s L n K KP := by
  unfold aop; rw [hk]; simp only [ho]
  unfold amem
  simp only [hc, ha, hty, hkt, hx, hte, hz, hzk, opt1, if_pos]
  exact .inl ⟨cells, hf, hle, h⟩
/-- rows that may lie in a list that may be written -/
structure RowsOk (sz : Nat) (rows : List (List AV)) : Prop where
  len : ∀ row ∈ rows, row.length = sz
  one : rows.flatten.all AV.one = true
  pure : ∀ a ∈ rows.flatten, a.pure = true
theorem RowsOk.of {sz : Nat} {rows : List (List AV)} (h : ∀ row ∈ rows, row.length = sz ∧ row.all AV.one = true ∧ row.all AV.pure = true) : RowsOk sz rows := by
  refine ⟨fun row hr => (h row hr).1, ?_, fun a ha => ?_⟩
  · rw [List.all_eq_true]
    intro a ha
    obtain ⟨row, hr, hm⟩ := List.mem_flatten.1 ha
    exact List.all_eq_true.1 (h row hr).2.1 a hm
  · obtain ⟨row, hr, hm⟩ := List.mem_flatten.1 ha
    exact List.all_eq_true.1 (h row hr).2.2 a hm
theorem RowsOk.row {sz : Nat} {rows : List (List AV)} (h : RowsOk sz rows) {row : List AV} (hr : row ∈ rows) : row.length = sz ∧ row.all AV.one = true ∧ row.all AV.pure = true :=
  ⟨h.len row hr, List.all_eq_true.2 fun a ha => List.all_eq_true.1 h.one a (List.mem_flatten.2 ⟨row, hr, ha⟩), List.all_eq_true.2 fun a ha => h.pure a (List.mem_flatten.2 ⟨row, hr, ha⟩)⟩
theorem RowsOk.map {α : Type} {sz : Nat} {f : α → List AV} (h : ∀ x, (f x).length = sz ∧ (f x).all AV.one = true ∧ (f x).all AV.pure = true) (l : List α) : RowsOk sz (l.map f) :=
  .of fun row hr => by
    obtain ⟨x, _, rfl⟩ := List.mem_map.1 hr
    exact h x
theorem RowsOk.app {sz : Nat} {r1 r2 : List (List AV)} (h1 : RowsOk sz r1) (h2 : RowsOk sz r2) : RowsOk sz (r1 ++ r2) :=
  .of fun row hr => (List.mem_append.1 hr).elim h1.row h2.row
theorem RowsOk.one1 {sz : Nat} {row : List AV} (h : row.length = sz ∧ row.all AV.one = true ∧ row.all AV.pure = true) : RowsOk sz [row] :=
  .of fun r hr => by rw [List.mem_singleton.1 hr]; exact h
theorem RowsOk.sub {sz : Nat} {r1 r2 : List (List AV)} (h : RowsOk sz r1) (hs : ∀ row ∈ r2, row ∈ r1) : RowsOk sz r2 := .of fun row hr => h.row (hs row hr)
def takeO : Heap → Nat → (Res → Heap → Prop) → Prop
  | [], _, _ => False
  | (i, r) :: H, id, k => match Nat.beq i id with
    | true => k r H
    | false => takeO H id fun r' H' => k r' ((i, r) :: H')
theorem takeO_perm : ∀ (L : Heap) (id : Nat) (k : Res → Heap → Prop), takeO L id k → ∃ r L0, k r L0 ∧ L.Perm ((id, r) :: L0)
  | [], _, _, h => h.elim
  | (i, r) :: H, id, k, h => by
    unfold takeO at h
    split at h
    · rename_i hb
      obtain rfl := Nat.eq_of_beq_eq_true hb
      exact ⟨r, H, h, .refl _⟩
    · obtain ⟨r', L0, h1, h2⟩ := takeO_perm H id _ h
      exact ⟨r', _, h1, (h2.cons _).trans (.swap _ _ _)⟩
theorem takeO_at {L L0 : Heap} {id : Nat} {r : Res} (h : ∀ k : Res → Heap → Prop, k r L0 → takeO L id k) : L.Perm ((id, r) :: L0) := by
  obtain ⟨r', L1, ⟨rfl, rfl⟩, h2⟩ := takeO_perm L id (fun r' L1 => r' = r ∧ L1 = L0) (h _ ⟨rfl, rfl⟩)
  exact h2
/-- append to a list that may be written -/
theorem a_appS {K KP : AV → Heap → Nat → Prop} {c : Call} {x y : Operand} {t tx e e2 : TypeId} {te : TI} {z : Value} {id nn cp k sz B : Nat} {rows rows2 rows3 : List (List AV)} {own : Own} {L0 : Heap} {m2 : Nat} (ho : o.op = .call c) (hk : opKind o = .append) (ha : c.args.toList = [x, y]) (hty : c.argTypes.toList = [t, tx])
    (hkt : kindT TT t = .slice e) (hkx : kindT TT tx = .slice e2) (hte : TT e = some te) (hz : te.zero = some z) (hzk : zok te z = true) (hx : ev s x = .arr id 0 nn cp) (hy : ev s y = .list rows2 own) (ht : ∀ k' : Res → Heap → Prop, k' (.seq rows k) L0 → takeO L id k') (hsz : te.size = sz) (hB : te.bytes = B)
    (hR : RowsOk sz rows) (hR2 : RowsOk sz rows2) (hn : rows.length = nn) (hkk : k = (cp - nn) * sz) (hroom : (nn + rows2.length) * B ≤ 140737488355328 ∧ nn + rows2.length ≤ 4611686018427387904 ∧ 0 < nn + rows2.length)
    (hm2 : nn + rows2.length = m2) (h3 : rows ++ rows2 = rows3) (h : ∀ cp', m2 ≤ cp' → cp' ≤ maxLen → K (.arr n 0 m2 cp') ((n, .seq rows3 ((cp' - m2) * sz)) :: L0) (n + 1)) : aop P TT o s L n K KP := by
  subst hsz; subst hB; subst hm2; subst h3
  unfold aop; rw [hk]; simp only [ho]
  refine .inr (.inr ?_)
  unfold aappendS
  rw [ha, hty]
  simp only [hkt, hkx, hte, hz, hzk, opt1, if_pos]
  exact asrc_list hy hR2.len ⟨rows2, rfl, rfl, hR2.len, hR2.pure, .inl ⟨id, nn, cp, rows, k, L0, hx, takeO_at ht, hR.len, hn, hkk, hR.one, hroom.1, hroom.2.1, hroom.2.2, h⟩⟩
/-- .. to nothing -/
theorem a_appS0 {K KP : AV → Heap → Nat → Prop} {c : Call} {x y : Operand} {t tx e e2 : TypeId} {te : TI} {z : Value} {sz B m2 : Nat} {rows2 : List (List AV)} {own : Own} (ho : o.op = .call c) (hk : opKind o = .append) (ha : c.args.toList = [x, y]) (hty : c.argTypes.toList = [t, tx])
    (hkt : kindT TT t = .slice e) (hkx : kindT TT tx = .slice e2) (hte : TT e = some te) (hz : te.zero = some z) (hzk : zok te z = true) (hx : ev s x = .list [] .full ∨ ∃ id off, ev s x = .arr id off 0 0) (hy : ev s y = .list rows2 own) (hsz : te.size = sz) (hB : te.bytes = B)
    (hR2 : RowsOk sz rows2) (h0 : 0 < rows2.length) (hroom : rows2.length * B ≤ 140737488355328 ∧ rows2.length ≤ 4611686018427387904)
    (hm2 : rows2.length = m2) (h : ∀ cp', m2 ≤ cp' → cp' ≤ maxLen → K (.arr n 0 m2 cp') ((n, .seq rows2 ((cp' - m2) * sz)) :: L) (n + 1)) : aop P TT o s L n K KP := by
  subst hsz; subst hB; subst hm2
  unfold aop; rw [hk]; simp only [ho]
  refine .inr (.inr ?_)
  unfold aappendS
  rw [ha, hty]
  simp only [hkt, hkx, hte, hz, hzk, opt1, if_pos]
  exact asrc_list hy hR2.len ⟨rows2, rfl, rfl, hR2.len, hR2.pure, .inr ⟨h0, hx, hroom.1, hroom.2, h⟩⟩
/-- copy into a list that may be written -/
theorem a_copyS {K KP : AV → Heap → Nat → Prop} {c : Call} {x y : Operand} {t tx e : TypeId} {te : TI} {id off nn cp m k k' : Nat} {cs : List AV} {rows rows' : List (List AV)} {L0 : Heap} (ho : o.op = .call c) (hk : opKind o = .mem) (hc : c.callee = .builtin .copy) (ha : c.args.toList = [x, y]) (hty : c.argTypes.toList = [t, tx])
    (hkt : kindT TT t = .slice e) (hte : TT e = some te) (hx : ev s x = .arr id off nn cp) (hta : ∀ k' : Res → Heap → Prop, k' (.seq rows k) L0 → takeO L id k') (hy : ∀ K : Nat → List AV → Prop, K m cs → asrc L te.size (fun m => Nat.min m nn) (ev s y) K) (hne : rows.length + k ≠ 0) (hle : off + Nat.min m nn * te.size ≤ (seqC rows k).length)
    (hput : putCells (seqC rows k) off cs = seqC rows' k') (hpure : ∀ a ∈ rows'.flatten, a.pure = true) (h : K (.v (.int .i64 (Nat.min m nn : Nat))) ((id, .seq rows' k') :: L0) n) : aop P TT o s L n K KP := by
  unfold aop; rw [hk]; simp only [ho]
  unfold amem
  simp only [hc, ha, hty, hkt, hx, hte, opt1]
  exact hy _ (.inr ⟨rows, k, L0, rows', k', takeO_at hta, hne, hle, hput, hpure, h⟩)
theorem a_clearS {K KP : AV → Heap → Nat → Prop} {c : Call} {x : Operand} {t e : TypeId} {te : TI} {z : Value} {id off nn cp k k' : Nat} {rows rows' : List (List AV)} {L0 : Heap} (ho : o.op = .call c) (hk : opKind o = .mem) (hc : c.callee = .builtin .clear) (ha : c.args.toList = [x]) (hty : c.argTypes.toList = [t])
    (hkt : kindT TT t = .slice e) (hte : TT e = some te) (hz : te.zero = some z) (hzk : zok te z = true) (hx : ev s x = .arr id off nn cp) (hta : ∀ k' : Res → Heap → Prop, k' (.seq rows k) L0 → takeO L id k') (hne : rows.length + k ≠ 0) (hle : off + nn * te.size ≤ (seqC rows k).length)
    (hput : putCells (seqC rows k) off (List.replicate (nn * te.size) .dead) = seqC rows' k') (hpure : ∀ a ∈ rows'.flatten, a.pure = true) (h : K (.tuple []) ((id, .seq rows' k') :: L0) n) : aop P TT o s L n K KP := by
  unfold aop; rw [hk]; simp only [ho]
  unfold amem
  simp only [hc, ha, hty, hkt, hx, hte, hz, hzk, opt1, if_pos]
  exact .inr ⟨rows, k, L0, rows', k', takeO_at hta, hne, hle, hput, hpure, h⟩
theorem flat_at {rows : List (List AV)} {sz i j : Nat} {row : List AV} {a : AV} (hl : ∀ row ∈ rows, row.length = sz) (hi : rows[i]? = some row) (hj : row[j]? = some a) (k : Nat) : (seqC rows k)[i * sz + j]? = some a := by
  unfold seqC
  have := flat_get hl hi hj
  rw [List.getElem?_append_left (List.getElem?_eq_some_iff.1 this).1]
  exact this
/-- a load out of a list that may be written -/
theorem a_loadSeq {K KP : AV → Heap → Nat → Prop} {t : TypeId} {x : Operand} {ti : TI} {id off sz i j k : Nat} {rows : List (List AV)} {row : List AV} (ho : o.op = .load t x) (ht : TT t = some ti) (hx : ev s x = .ptr id off) (hf : findL L id = some (.seq rows k)) (hk : isAggK ti.kind = false)
    (hl : RowsOk sz rows) (hi : rows[i]? = some row) (hj : row[j]? = some av) (hoff : off = i * sz + j) (h : K av L n) : aop P TT o s L n K KP := by
  subst hoff
  unfold aop opKind; simp only [ho]; unfold aq; simp only [ho]; rw [ht, hx]
  simp only [opt1, aload, hf, hk, flat_at hl.len hi hj, Bool.false_eq_true, if_false]
  exact .inl h
theorem flat_cut {rows : List (List AV)} {sz i j m : Nat} {row : List AV} (hl : ∀ row ∈ rows, row.length = sz) (hi : rows[i]? = some row) (hj : j + m ≤ sz) (k : Nat) : i * sz + j + m ≤ (seqC rows k).length ∧ ((seqC rows k).drop (i * sz + j)).take m = (row.drop j).take m := by
  have hrow := hl row (List.mem_of_getElem? hi)
  have hlt := (List.getElem?_eq_some_iff.1 hi).1
  have hfl := flatten_length hl
  have hle : i * sz + sz ≤ rows.flatten.length := by
    rw [hfl, ← Nat.succ_mul]; exact Nat.mul_le_mul_right _ hlt
  refine ⟨by unfold seqC; rw [List.length_append]; omega, ?_⟩
  apply List.ext_getElem?
  intro q
  rw [List.getElem?_take, List.getElem?_take]
  split
  · rename_i hq
    rw [List.getElem?_drop, List.getElem?_drop]
    have h1 : row[j + q]? = some (row[j + q]'(by omega)) := List.getElem?_eq_getElem _
    rw [h1, Nat.add_assoc]
    exact flat_at hl hi h1 k
  · rfl
theorem a_loadSeqA {K KP : AV → Heap → Nat → Prop} {t : TypeId} {x : Operand} {ti : TI} {id off sz i j k : Nat} {rows : List (List AV)} {row cells : List AV} (ho : o.op = .load t x) (ht : TT t = some ti) (hx : ev s x = .ptr id off) (hf : findL L id = some (.seq rows k)) (hk : isAggK ti.kind = true)
    (hl : RowsOk sz rows) (hi : rows[i]? = some row) (hj : j + ti.size ≤ sz) (hc : (row.drop j).take ti.size = cells) (hoff : off = i * sz + j) (h : K (.agg cells) L n) : aop P TT o s L n K KP := by
  subst hoff; subst hc
  obtain ⟨h1, h2⟩ := flat_cut hl.len hi hj k
  unfold aop opKind; simp only [ho]; unfold aq; simp only [ho]; rw [ht, hx]
  simp only [opt1, aload, hf, hk, if_pos h1, if_true, h2]
  exact .inl h
theorem flat_put {rows : List (List AV)} {sz i j : Nat} {row l : List AV} (hl : ∀ row ∈ rows, row.length = sz) (hi : rows[i]? = some row) (hj : j + l.length ≤ sz) (k : Nat) : putCells (seqC rows k) (i * sz + j) l = seqC (rows.set i (putCells row j l)) k := by
  have hrow := hl row (List.mem_of_getElem? hi)
  have hlt := (List.getElem?_eq_some_iff.1 hi).1
  induction rows generalizing i with
  | nil => simp at hlt
  | cons r rows ih =>
    have hr : r.length = sz := hl r (by simp)
    cases i with
    | zero =>
      simp only [List.getElem?_cons_zero, Option.some.injEq] at hi
      subst hi
      unfold putCells seqC
      simp only [List.set_cons_zero, List.flatten_cons, Nat.zero_mul, Nat.zero_add, List.append_assoc]
      rw [List.take_append_of_le_length (by omega), List.drop_append_of_le_length (by omega)]
    | succ i =>
      have h1 := ih (i := i) (fun row hm => hl row (List.mem_cons_of_mem _ hm)) (by simpa using hi) (by simpa using hlt)
      unfold putCells seqC at h1 ⊢
      simp only [List.set_cons_succ, List.flatten_cons, List.append_assoc]
      have e : (i + 1) * sz + j = r.length + (i * sz + j) := by rw [hr, Nat.succ_mul]; omega
      rw [e, Nat.add_assoc, List.take_length_add_append, List.drop_length_add_append, List.append_assoc, h1]
/-- a store into a list that may be written -/
theorem a_storeSeq {K KP : AV → Heap → Nat → Prop} {t : TypeId} {x y : Operand} {ti : TI} {id off sz i j k : Nat} {rows : List (List AV)} {row row' l : List AV} {L0 : Heap} (ho : o.op = .store t x y) (ht : TT t = some ti) (hx : ev s x = .ptr id off) (hta : ∀ k' : Res → Heap → Prop, k' (.seq rows k) L0 → takeO L id k') (hl : acells (ev s y) = some l)
    (hlo : (l.all AV.one && (l.all AV.pure && (Nat.beq l.length ti.size && Nat.blt 0 l.length))) = true) (hR : RowsOk sz rows) (hi : rows[i]? = some row) (hj : j + l.length ≤ sz) (hrow : putCells row j l = row') (hoff : off = i * sz + j) (h : K .dead ((id, .seq (rows.set i row') k) :: L0) n) : aop P TT o s L n K KP := by
  subst hoff; subst hrow
  simp only [Bool.and_eq_true] at hlo
  obtain ⟨l1, l2, l3, l4⟩ := hlo
  have hlt := (List.getElem?_eq_some_iff.1 hi).1
  have hfl := flatten_length hR.len
  have hle : i * sz + sz ≤ rows.flatten.length := by
    rw [hfl, ← Nat.succ_mul]; exact Nat.mul_le_mul_right _ hlt
  have hrm := hR.row (List.mem_of_getElem? hi)
  unfold aop opKind; simp only [ho]
  refine .inr ?_
  unfold astoreS
  rw [ht]
  refine ⟨id, i * sz + j, rows, k, L0, l, _, hx, takeO_at hta, hl, l1, Nat.eq_of_beq_eq_true l3, Nat.le_of_ble_eq_true l4, by unfold seqC; rw [List.length_append]; omega, flat_put hR.len hi hj k, fun a ha => ?_, h⟩
  obtain ⟨r, hr, hm⟩ := List.mem_flatten.1 ha
  rcases List.mem_or_eq_of_mem_set hr with hr | rfl
  · exact hR.pure a (List.mem_flatten.2 ⟨r, hr, hm⟩)
  · unfold putCells at hm
    rcases List.mem_append.1 hm with hm | hm
    · exact List.all_eq_true.1 hrm.2.2 a (List.mem_of_mem_take hm)
    · rcases List.mem_append.1 hm with hm | hm
      · exact List.all_eq_true.1 l2 a hm
      · exact List.all_eq_true.1 hrm.2.2 a (List.mem_of_mem_drop hm)
theorem RowsOk.set {sz i j : Nat} {rows : List (List AV)} {row l : List AV} (h : RowsOk sz rows) (hi : rows[i]? = some row) (hj : j + l.length ≤ sz) (hl : (l.all AV.one && l.all AV.pure) = true) : RowsOk sz (rows.set i (putCells row j l)) :=
  .of fun r hr => by
    rw [Bool.and_eq_true] at hl
    rcases List.mem_or_eq_of_mem_set hr with hr | rfl
    · exact h.row hr
    · obtain ⟨h1, h2, h3⟩ := h.row (List.mem_of_getElem? hi)
      have hp : ∀ a ∈ putCells row j l, a ∈ row ∨ a ∈ l := fun a hm => by
        unfold putCells at hm
        rcases List.mem_append.1 hm with hm | hm
        · exact .inl (List.mem_of_mem_take hm)
        · rcases List.mem_append.1 hm with hm | hm
          · exact .inr hm
          · exact .inl (List.mem_of_mem_drop hm)
      refine ⟨by rw [put_len (by omega)]; exact h1, List.all_eq_true.2 fun a ha => ?_, List.all_eq_true.2 fun a ha => ?_⟩
      · exact (hp a ha).elim (List.all_eq_true.1 h2 a) (List.all_eq_true.1 hl.1 a)
      · exact (hp a ha).elim (List.all_eq_true.1 h3 a) (List.all_eq_true.1 hl.2 a)
theorem a_panic {K KP : AV → Heap → Nat → Prop} {x : Operand} {t : TypeId} {y : AV} (ho : o.op = .panic x) (hx : ev s x = .iface t y) (h : KP (.iface t y) L n) : aop P TT o s L n K KP := by
  unfold aop opKind; simp only [ho]; rw [hx]; exact h
theorem a_call {K KP : AV → Heap → Nat → Prop} {c : Call} {x : Operand} {f : FuncId} {cap : List AV} {args : List AV} (ho : o.op = .call c) (hk : opKind o = .call) (hc : c.callee = .value x) (hx : ev s x = .fn f cap) (ha : ∀ k : List AV → Prop, k args → forceA (c.args.toList.map (ev s) ++ cap) k)
    (h : acall P f args L n K KP) : aop P TT o s L n K KP := by
  unfold aop; rw [hk]; simp only [ho, hc, hx]
  have := ha (fun args => acall P f args L n K KP) h
  rwa [forceA_eq] at this

theorem a_callB {K KP : AV → Heap → Nat → Prop} {c : Call} {x : Operand} {f : FuncId} {fst : List AV} {args : List AV} (ho : o.op = .call c) (hk : opKind o = .call) (hc : c.callee = .value x) (hx : ev s x = .bnd f fst) (ha : fst ++ c.args.toList.map (ev s) = args)
    (h : acall P f args L n K KP) : aop P TT o s L n K KP := by
  subst ha
  unfold aop; rw [hk]; simp only [ho, hc, hx]; exact h
theorem a_callS {K KP : AV → Heap → Nat → Prop} {c : Call} {x : Operand} {f : FuncId} {cap : List AV} {args : List AV} (ho : o.op = .call c) (hk : opKind o = .call) (hc : c.callee = .value x) (hx : ev s x = .fn f cap) (ha : c.args.toList.map (ev s) ++ cap = args)
    (h : acall P f args L n K KP) : aop P TT o s L n K KP := by
  subst ha
  unfold aop; rw [hk]; simp only [ho, hc, hx]; exact h
/-- a call by its contract, whose objects are these -/
theorem by_contract {f : FuncId} {args args0 : List AV} {k top : Nat} {H0 rest : Heap} {R : AOut → Heap → Prop} {K KP : AV → Heap → Nat → Prop} (ids : List Nat) (hC : ACalls P f k top args0 H0 R) (hids : (Nat.beq ids.length k && (ids.all (fun i => Nat.blt i n) && Nat.ble k top)) = true) (hnd : ids.Nodup)
    (hargs : LeL args (AV.renL (rn ids n) args0)) (hperm : L.Perm (renH (rn ids n) H0 ++ rest))
    (hret : ∀ x H', R (.ret x) H' → K (x.ren (rn ids n)) (renH (rn ids n) H' ++ rest) (n + (top - k))) (hpanic : ∀ x H', R (.panic x) H' → KP (x.ren (rn ids n)) (renH (rn ids n) H' ++ rest) (n + (top - k))) : acall P f args L n K KP := by
  simp only [Bool.and_eq_true, List.all_eq_true] at hids
  obtain ⟨h1, h2, h3⟩ := hids
  refine ⟨k, top, args0, H0, R, ids, rest, hC, ⟨Nat.eq_of_beq_eq_true h1, hnd, fun i hi => ?_, Nat.le_of_ble_eq_true h3, hargs, hperm⟩, fun out H' hR => ?_⟩
  · have := h2 i hi; exact Nat.le_of_ble_eq_true this
  · cases out with
    | ret x => exact hret x H' hR
    | panic x => exact hpanic x H' hR

/-- these objects, in this order, and the rest -/
def pickH (i : Nat) : Heap → (Res → Heap → Prop) → Prop
  | [], _ => False
  | (j, r) :: L, k => match Nat.beq j i with
    | true => k r L
    | false => pickH i L fun r' L' => k r' ((j, r) :: L')
def takeH : List Nat → Heap → (Heap → Heap → Prop) → Prop
  | [], L, k => k [] L
  | i :: is, L, k => pickH i L fun r L' => takeH is L' fun a b => k ((i, r) :: a) b
theorem pickH_spec {i : Nat} : ∀ {L : Heap} {k : Res → Heap → Prop}, pickH i L k → ∃ r L', L.Perm ((i, r) :: L') ∧ k r L'
  | [], _, h => h.elim
  | (j, r) :: L, k, h => by
    unfold pickH at h
    split at h
    · rename_i he
      have := Nat.eq_of_beq_eq_true he
      subst this
      exact ⟨r, L, .refl _, h⟩
    · obtain ⟨r', L', h1, h2⟩ := pickH_spec h
      exact ⟨r', _, (h1.cons _).trans (.swap _ _ _), h2⟩
theorem takeH_spec : ∀ {is : List Nat} {L : Heap} {k : Heap → Heap → Prop}, takeH is L k → ∃ a b, L.Perm (a ++ b) ∧ k a b
  | [], L, k, h => ⟨[], L, .refl _, h⟩
  | i :: is, L, k, h => by
    obtain ⟨r, L', h1, h2⟩ := pickH_spec h
    obtain ⟨a, b, h3, h4⟩ := takeH_spec h2
    exact ⟨_, b, h1.trans (h3.cons _), h4⟩
theorem takeH_to {is : List Nat} {L A R : Heap} (h : ∀ k : Heap → Heap → Prop, k A R → takeH is L k) : L.Perm (A ++ R) := by
  obtain ⟨a, b, h1, h2, h3⟩ := takeH_spec (h (fun a b => a = A ∧ b = R) ⟨rfl, rfl⟩)
  subst h2; subst h3; exact h1
def nodupB : List Nat → Bool
  | [] => true
  | a :: l => !(l.any (Nat.beq a)) && nodupB l
theorem nodupB_spec : ∀ {l : List Nat}, nodupB l = true → l.Nodup
  | [], _ => .nil
  | a :: l, h => by
    unfold nodupB at h
    simp only [Bool.and_eq_true, Bool.not_eq_true', List.any_eq_false] at h
    refine List.nodup_cons.2 ⟨fun hm => h.1 a hm (Nat.beq_refl a), nodupB_spec h.2⟩
def keysH : Heap → List Nat
  | [] => []
  | (i, _) :: H => i :: keysH H
/-- a call by its contract: the caller names the objects that he hands in -/
theorem by_c {f : FuncId} {args args0 : List AV} {k top n' : Nat} {H0 H1 rest : Heap} {R : AOut → Heap → Prop} {K KP : AV → Heap → Nat → Prop} (ids : List Nat) (hC : ACalls P f k top args0 H0 R) (hids : (Nat.beq ids.length k && (ids.all (fun i => Nat.blt i n) && (Nat.ble k top && nodupB ids))) = true)
    (hargs : LeL args (AV.renL (rn ids n) args0)) (ht : ∀ k : Heap → Heap → Prop, k H1 rest → takeH (keysH (renH (rn ids n) H0)) L k) (heq : H1 = renH (rn ids n) H0) (hn : n + (top - k) = n')
    (hret : ∀ x H', R (.ret x) H' → K (x.ren (rn ids n)) (renH (rn ids n) H' ++ rest) n') (hpanic : ∀ x H', R (.panic x) H' → KP (x.ren (rn ids n)) (renH (rn ids n) H' ++ rest) n') : acall P f args L n K KP := by
  simp only [Bool.and_eq_true] at hids
  obtain ⟨h1, h2, h3, h4⟩ := hids
  subst hn
  exact by_contract ids hC (by simp only [Bool.and_eq_true]; exact ⟨h1, h2, h3⟩) (nodupB_spec h4) hargs (by rw [← heq]; exact takeH_to ht) hret hpanic

def seqK (P : Program) (TT : Types) (D : Dr) (y : Code) (K : Kc) : Kc := fun e s L n => match e with
  | .normal => ∃ τ : ASt, SeqTo D.low ⟨s, L, n⟩ τ ∧ acode P TT D y τ.slots τ.L τ.next K
  | e => K e s L n
def blockK (id : Nat) (K : Kc) : Kc := fun e s L n => match e with
  | .exit i => match Nat.beq i id with
    | true => K .normal s L n
    | false => K (.exit i) s L n
  | e => K e s L n
def panK (K : Kc) : AV → Kn := fun x => K (.panic x)
theorem c_skip (h : Kk .normal s L n) : acode P TT D .skip s L n Kk := h
theorem c_region {id : Nat} {l : List Oper} (h : aops P TT l l s L n (Kk .normal) (panK Kk)) : acode P TT D (.region id l.toArray false) s L n Kk := h
theorem c_draw {d : Nat → List Oper → List AV → Heap → Nat → Kc → Prop} {low : Nat → Prop} {id : Nat} {l : List Oper} (h : d id l s L n Kk) : acode P TT ⟨d, low⟩ (.region id l.toArray true) s L n Kk := h
theorem c_seq {x y : Code} (h : acode P TT D x s L n (seqK P TT D y Kk)) : acode P TT D (.seq x y) s L n Kk := h
theorem c_block {id : Nat} {x : Code} (h : acode P TT D x s L n (blockK id Kk)) : acode P TT D (.block id x) s L n Kk := h
theorem c_exit {id : Nat} (h : Kk (.exit id) s L n) : acode P TT D (.exit id) s L n Kk := h
theorem c_ret (h : Kk .ret s L n) : acode P TT D .ret s L n Kk := h
theorem c_cond {c : Operand} {x y : Code} {b : Bool} (hc : ev s c = .v (.bool b)) (h1 : b = true → acode P TT D x s L n Kk) (h2 : b = false → acode P TT D y s L n Kk) : acode P TT D (.cond c x y) s L n Kk := by
  unfold acode; rw [hc]; exact abr_intro h1 h2
theorem c_true {c : Operand} {x y : Code} (hc : ev s c = .v (.bool true)) (h : acode P TT D x s L n Kk) : acode P TT D (.cond c x y) s L n Kk := by
  unfold acode; rw [hc]; exact h
theorem c_false {c : Operand} {x y : Code} (hc : ev s c = .v (.bool false)) (h : acode P TT D y s L n Kk) : acode P TT D (.cond c x y) s L n Kk := by
  unfold acode; rw [hc]; exact h
theorem k_seq {y : Code} (h : acode P TT D y s L n Kk) : seqK P TT D y Kk .normal s L n := ⟨⟨s, L, n⟩, .inl (Conv.refl _), h⟩
/-- turned first -/
theorem k_seq_to {y : Code} (τ : ASt) (hc : Conv ⟨s, L, n⟩ τ) (h : acode P TT D y τ.slots τ.L τ.next Kk) : seqK P TT D y Kk .normal s L n := ⟨τ, .inl hc, h⟩
theorem k_seq_ret {y : Code} (h : Kk .ret s L n) : seqK P TT D y Kk .ret s L n := h
theorem k_seq_exit {y : Code} {i : Nat} (h : Kk (.exit i) s L n) : seqK P TT D y Kk (.exit i) s L n := h
theorem k_seq_pan {y : Code} {x : AV} (h : Kk (.panic x) s L n) : seqK P TT D y Kk (.panic x) s L n := h
theorem k_block {id : Nat} (h : Kk .normal s L n) : blockK id Kk .normal s L n := h
theorem k_block_ret {id : Nat} (h : Kk .ret s L n) : blockK id Kk .ret s L n := h
theorem k_block_pan {id : Nat} {x : AV} (h : Kk (.panic x) s L n) : blockK id Kk (.panic x) s L n := h
theorem k_block_here {id i : Nat} (hi : Nat.beq i id = true) (h : Kk .normal s L n) : blockK id Kk (.exit i) s L n := by unfold blockK; simp only; rw [hi]; exact h
theorem k_block_on {id i : Nat} (hi : Nat.beq i id = false) (h : Kk (.exit i) s L n) : blockK id Kk (.exit i) s L n := by unfold blockK; simp only; rw [hi]; exact h
theorem k_pan {x : AV} (h : Kk (.panic x) s L n) : panK Kk x s L n := h
theorem k_opP {x : AV} (h : KP x s L n) : opP s KP x L n := h

/-- the end of a walk, the state turned first -/
theorem e_ret_to {res : List ResultVar} {top : Nat} {R : AOut → Heap → Prop} {l : List AV} {H' rest : Heap} {τ : ASt} (hc : Conv ⟨s, L, n⟩ τ) (hres : aresults TT τ.slots τ.L res = some l) (hR : R (.ret (aout l)) H') (hp : τ.L.Perm (H' ++ rest)) (hn : τ.next ≤ top) : aend P TT res top R .ret s L n :=
  ⟨τ, hc, by rw [hres]; exact ⟨H', rest, hR, hp, hn⟩⟩
/-- the end of a walk, where nothing is turned -/
theorem e_ret {res : List ResultVar} {top : Nat} {R : AOut → Heap → Prop} {l : List AV} {H' rest : Heap} (hres : aresults TT s L res = some l) (hR : R (.ret (aout l)) H') (hp : L.Perm (H' ++ rest)) (hn : n ≤ top) : aend P TT res top R .ret s L n :=
  ⟨⟨s, L, n⟩, Conv.refl _, by rw [hres]; exact ⟨H', rest, hR, hp, hn⟩⟩
theorem e_end {res : List ResultVar} {top : Nat} {R : AOut → Heap → Prop} (h : aend P TT res top R .ret s L n) : aend P TT res top R .normal s L n := h
theorem e_pan {res : List ResultVar} {top : Nat} {R : AOut → Heap → Prop} {x : AV} {H' rest : Heap} (hR : R (.panic x) H') (hp : L.Perm (H' ++ rest)) (hn : n ≤ top) : aend P TT res top R (.panic x) s L n := ⟨H', rest, hR, hp, hn⟩

/-! what a goal is -/
theorem is_aop {K KP : AV → Heap → Nat → Prop} (h : aop P TT o s L n K KP) : aop P TT o s L n K KP := h
theorem is_opK {d : Option Nat} (h : opK P TT all rest s d K KP av L n) : opK P TT all rest s d K KP av L n := h
theorem is_aops (h : aops P TT all (o :: rest) s L n K KP) : aops P TT all (o :: rest) s L n K KP := h
theorem is_cond {c : Operand} {x y : Code} (h : acode P TT D (.cond c x y) s L n Kk) : acode P TT D (.cond c x y) s L n Kk := h
theorem is_blockx {id i : Nat} (h : blockK id Kk (.exit i) s L n) : blockK id Kk (.exit i) s L n := h
/-- a guard that is not known: both ways -/
theorem o_split {j d : Nat} {want b : Bool} (hg : o.guard = some (j, want)) (hd : (all[j]?).bind (·.dst) = some d) (hb : getA s d = .v (.bool b)) (h1 : b = true → aops P TT all (o :: rest) s L n K KP) (h2 : b = false → aops P TT all (o :: rest) s L n K KP) : aops P TT all (o :: rest) s L n K KP := by
  cases b
  · exact h2 rfl
  · exact h1 rfl
theorem a_pick {K KP : AV → Heap → Nat → Prop} {c x y : Operand} {b : Bool} (ho : o.op = .pick c x y) (hc : ev s c = .v (.bool b)) (h1 : b = true → aop P TT o s L n K KP) (h2 : b = false → aop P TT o s L n K KP) : aop P TT o s L n K KP := by
  cases b
  · exact h2 rfl
  · exact h1 rfl
/-- the beginning, the slots written out -/
theorem c_start {c : Code} (hs : ∀ k : List AV → Prop, k s' → forceA s k) (h : acode P TT D c s' L n Kk) : acode P TT D c s L n Kk := by
  have := hs (fun s => acode P TT D c s L n Kk) h
  rwa [forceA_eq] at this
/-- the state written out -/
theorem c_turn {c : Code} (hs : ∀ k : List AV → Prop, k s' → forceA s k) (hL : ∀ k : Heap → Prop, k L' → forceH L k) (hn : n = n') (h : acode P TT D c s' L' n' Kk) : acode P TT D c s L n Kk := by
  subst hn
  have h1 := hL (fun L => acode P TT D c s' L n Kk) h
  rw [forceH_eq] at h1
  have := hs (fun s => acode P TT D c s L n Kk) h1
  rwa [forceA_eq] at this
/-- what follows is walked once, for all the ways that lead to it (k_seq_to with what hx hands in) -/
theorem c_cut {α : Type} {x y : Code} (S : α → ASt) (C : α → Prop) (hy : ∀ a, C a → acode P TT D y (S a).slots (S a).L (S a).next Kk) (hx : (∀ a, C a → acode P TT D y (S a).slots (S a).L (S a).next Kk) → acode P TT D x s L n (seqK P TT D y Kk)) : acode P TT D (.seq x y) s L n Kk := c_seq (hx hy)

/-! states that say less -/
theorem Conv.drop {s : List AV} {H rest : Heap} {n n' : Nat} (hp : L.Perm (H ++ rest)) (hn : n ≤ n') : Conv ⟨s, L, n⟩ ⟨s, H, n'⟩ := fun B G a w hr =>
  ⟨G, hr.size, hr.slots, hr.defers, (hr.holds.perm hp).left, hr.step.sub hp, fun id hid => Nat.lt_of_lt_of_le (hr.next id hid) hn, hr.base, Nat.le_trans hr.low hn, hr.old⟩
/-- slots that say less -/
def lessS : List AV → List AV → Prop
  | [], [] => True
  | a :: s, b :: t => (b = .dead ∨ b = a) ∧ lessS s t
  | _, _ => False
theorem lessS_len : ∀ {s t : List AV}, lessS s t → s.length = t.length
  | [], [], _ => rfl
  | a :: s, b :: t, h => by simp [lessS_len h.2]
  | [], _ :: _, h => h.elim
  | _ :: _, [], h => h.elim
theorem lessS_get : ∀ {s t : List AV}, lessS s t → ∀ i, getA t i = .dead ∨ getA t i = getA s i
  | [], [], _, _ => .inl rfl
  | a :: s, b :: t, h, 0 => h.1
  | a :: s, b :: t, h, i + 1 => lessS_get h.2 i
  | [], _ :: _, h, _ => h.elim
  | _ :: _, [], h, _ => h.elim
theorem Conv.less {s t : List AV} (h : lessS s t) : Conv ⟨s, L, n⟩ ⟨t, L, n⟩ := fun B G a w hr =>
  ⟨G, by rw [hr.size]; exact lessS_len h, fun i hi => by
    show Slot G (getA t i) _
    rcases lessS_get h i with e | e
    · rw [e]; exact .of (.data _ _ (.dead _))
    · rw [e]; exact hr.slots i hi, hr.defers, hr.holds, hr.step, hr.next, hr.base, hr.low, hr.old⟩

/-- a loop, by what its rounds keep -/
theorem c_loop {x : Code} {α : Type} (S : α → ASt) (C : α → Prop) (μ : α → Nat) {a : α} (ha : C a) (hc : Conv ⟨s, L, n⟩ (S a)) (hround : ∀ a, C a → acode P TT D x (S a).slots (S a).L (S a).next fun e s' L' n' => match e with
    | .normal => ∃ b, C b ∧ μ b < μ a ∧ LoopTo D.low (S a).next ⟨s', L', n'⟩ (S b)
    | e => Kk e s' L' n') : acode P TT D (.loop x) s L n Kk := ⟨α, S, C, μ, ⟨a, ha, hc⟩, hround⟩
def loopK (low : Nat → Prop) {α : Type} (S : α → ASt) (C : α → Prop) (μ : α → Nat) (a : α) (K : Kc) : Kc := fun e s' L' n' => match e with
    | .normal => ∃ b, C b ∧ μ b < μ a ∧ LoopTo low (S a).next ⟨s', L', n'⟩ (S b)
    | e => K e s' L' n'
theorem c_loop' {x : Code} {α : Type} (S : α → ASt) (C : α → Prop) (μ : α → Nat) {a : α} (ha : C a) (hc : Conv ⟨s, L, n⟩ (S a)) (hround : ∀ a, C a → acode P TT D x (S a).slots (S a).L (S a).next (loopK D.low S C μ a Kk)) : acode P TT D (.loop x) s L n Kk := c_loop S C μ ha hc hround
theorem c_loop2 {x : Code} {α β : Type} (S : α → β → ASt) (C : α → β → Prop) (μ : α → β → Nat) (a : α) (b : β) (ha : C a b) (hc : Conv ⟨s, L, n⟩ (S a b)) (hround : ∀ a b, C a b → acode P TT D x (S a b).slots (S a b).L (S a b).next (loopK D.low (fun p : α × β => S p.1 p.2) (fun p => C p.1 p.2) (fun p => μ p.1 p.2) (a, b) Kk)) : acode P TT D (.loop x) s L n Kk :=
  c_loop' (fun p : α × β => S p.1 p.2) (fun p => C p.1 p.2) (fun p => μ p.1 p.2) (a := (a, b)) ha hc fun p h => hround p.1 p.2 h
theorem k_loop_ret {low : Nat → Prop} {α : Type} {S : α → ASt} {C : α → Prop} {μ : α → Nat} {a : α} (h : Kk .ret s L n) : loopK low S C μ a Kk .ret s L n := h
theorem k_loop_exit {low : Nat → Prop} {α : Type} {S : α → ASt} {C : α → Prop} {μ : α → Nat} {a : α} {i : Nat} (h : Kk (.exit i) s L n) : loopK low S C μ a Kk (.exit i) s L n := h
theorem k_loop_pan {low : Nat → Prop} {α : Type} {S : α → ASt} {C : α → Prop} {μ : α → Nat} {a : α} {x : AV} (h : Kk (.panic x) s L n) : loopK low S C μ a Kk (.panic x) s L n := h
theorem k_loop {low : Nat → Prop} {α : Type} {S : α → ASt} {C : α → Prop} {μ : α → Nat} {a : α} (b : α) (hb : C b) (hm : μ b < μ a) (hc : Conv ⟨s, L, n⟩ (S b)) : loopK low S C μ a Kk .normal s L n := ⟨b, hb, hm, .inl (hc.toN _)⟩
/-- new objects are called as those at the head were -/
theorem k_loopR {low : Nat → Prop} {α : Type} {S : α → ASt} {C : α → Prop} {μ : α → Nat} {a : α} (b : α) (ids : List Nat) (hb : C b) (hm : μ b < μ a) (hc : Conv ⟨s, L, n⟩ ⟨AV.renL (rn ids n') (S b).slots, renH (rn ids n') (S b).L, n'⟩) (hM : ids.length = (S b).next := by rfl) (hnd : ids.Nodup := by decide) (hlt : ∀ i ∈ ids, i < n' := by decide) (hN : ∀ i, i < (S a).next → ids[i]? = some i := by decide) : loopK low S C μ a Kk .normal s L n := ⟨b, hb, hm, .inl ((ConvN.ren ids hnd hlt hN hM).after hc)⟩
/-- .. and those that came since the walk began, too -/
theorem k_loopL {low : Nat → Prop} {α : Type} {S : α → ASt} {C : α → Prop} {μ : α → Nat} {a : α} (b : α) (N : Nat) (ids : List Nat) (hb : C b) (hm : μ b < μ a) (hlow : low N) (hc : Conv ⟨s, L, n⟩ ⟨AV.renL (rn ids n') (S b).slots, renH (rn ids n') (S b).L, n'⟩) (hM : ids.length = (S b).next := by rfl) (hnd : ids.Nodup := by decide) (hlt : ∀ i ∈ ids, i < n' := by decide) (hN : ∀ i, i < N → ids[i]? = some i := by decide) : loopK low S C μ a Kk .normal s L n := ⟨b, hb, hm, .inr ⟨N, hlow, (ConvN.ren ids hnd hlt hN hM).after hc⟩⟩
end
end Go.Am
