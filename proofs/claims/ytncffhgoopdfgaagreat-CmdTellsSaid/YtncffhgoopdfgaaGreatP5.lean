/- Part 5 of what the laws CmdTells rest on: AmR, AmS, AmU, AmV. -/
import Derived.Test.YtncffhgoopdfgaaGreatP4
import Derived.Orders
set_option linter.unusedSimpArgs false
set_option linter.unusedVariables false
namespace Go.Am
open Go.RowKit
def forceRows : List (List AV) → (List (List AV) → Prop) → Prop
 | [], k => k []
 | a :: l, k => forceA a fun a' => forceRows l fun l' => k (a' :: l')
theorem forceRows_eq : ∀ (l : List (List AV)) (k : List (List AV) → Prop), forceRows l k = k l
 | [], k => rfl
 | a :: l, k => by unfold forceRows; rw [forceA_eq, forceRows_eq l]
def hdV : AV → (AV → Prop) → Prop
 | .v x, K => K (.v x)
 | .list r o, K => K (.list r o)
 | .agg l, K => K (.agg l)
 | .tuple l, K => K (.tuple l)
 | .ptr i j, K => K (.ptr i j)
 | .arr i o j c, K => K (.arr i o j c)
 | .cref l, K => K (.cref l)
 | .fn f l, K => K (.fn f l)
 | .bnd f l, K => K (.bnd f l)
 | .iface t x, K => K (.iface t x)
 | .dead, K => K .dead
theorem hdV_eq (x : AV) (K : AV → Prop) : hdV x K = K x := by cases x <;> rfl
def forceE : List AV → (List AV → Prop) → Prop
 | [], k => k []
 | a :: l, k => hdV a fun a' => forceE l fun l' => k (a' :: l')
theorem forceE_eq : ∀ (l : List AV) (k : List AV → Prop), forceE l k = k l
 | [], k => rfl
 | a :: l, k => by unfold forceE; rw [hdV_eq, forceE_eq l]
def fv : AV → (AV → Prop) → Prop
 | .v x, K => K (.v x)
 | .list r .lit, K => forceRows r fun r' => K (.list r' .lit)
 | .list r .free, K => K (.list r .free)
 | .list r .full, K => K (.list r .full)
 | .list r (.tok k), K => K (.list r (.tok k))
 | .agg l, K => forceE l fun l' => K (.agg l')
 | .tuple l, K => forceA l fun l' => K (.tuple l')
 | .ptr i j, K => K (.ptr i j)
 | .arr i o j c, K => K (.arr i o j c)
 | .cref l, K => forceA l fun l' => K (.cref l')
 | .fn f l, K => forceA l fun l' => K (.fn f l')
 | .bnd f l, K => forceA l fun l' => K (.bnd f l')
 | .iface t x, K => K (.iface t x)
 | .dead, K => K .dead
theorem fv_eq (x : AV) (K : AV → Prop) : fv x K = K x := by
 cases x <;> try (simp [fv, forceA_eq, forceE_eq]; done)
 rename_i r o; cases o <;> simp [fv, forceRows_eq]
def forceV : List AV → (List AV → Prop) → Prop
 | [], k => k []
 | a :: l, k => fv a fun a' => forceV l fun l' => k (a' :: l')
theorem forceV_eq : ∀ (l : List AV) (k : List AV → Prop), forceV l k = k l
 | [], k => rfl
 | a :: l, k => by unfold forceV; rw [fv_eq, forceV_eq l]
def forceHv : Heap → (Heap → Prop) → Prop
 | [], k => k []
 | (i, .box l) :: H, k => forceV l fun l' => forceHv H fun H' => k ((i, .box l') :: H')
 | (i, .tok a b) :: H, k => forceHv H fun H' => k ((i, .tok a b) :: H')
 | (i, .seq a b) :: H, k => forceHv H fun H' => k ((i, .seq a b) :: H')
theorem forceHv_eq : ∀ (H : Heap) (k : Heap → Prop), forceHv H k = k H
 | [], k => rfl
 | (i, .box l) :: H, k => by unfold forceHv; rw [forceV_eq, forceHv_eq H]
 | (i, .tok a b) :: H, k => by unfold forceHv; rw [forceHv_eq H]
 | (i, .seq a b) :: H, k => by unfold forceHv; rw [forceHv_eq H]
theorem qAnd5 {X : (AV → Prop) → Prop} {p1 p2 p3 p4 p5 : Prop} {av : AV} (h : ∀ K : AV → Prop, (p1 ∧ p2 ∧ p3 ∧ p4 ∧ p5 ∧ K av) → X K) : ∀ K : AV → Prop, (p1 ∧ p2 ∧ p3 ∧ p4 ∧ p5) ∧ K av → X K := fun K ⟨⟨a, b, c, d, e⟩, f⟩ => h K ⟨a, b, c, d, e, f⟩
theorem qAnd4 {X : (AV → Prop) → Prop} {p1 p2 p3 p4 : Prop} {av : AV} (h : ∀ K : AV → Prop, (p1 ∧ p2 ∧ p3 ∧ p4 ∧ K av) → X K) : ∀ K : AV → Prop, (p1 ∧ p2 ∧ p3 ∧ p4) ∧ K av → X K := fun K ⟨⟨a, b, c, d⟩, f⟩ => h K ⟨a, b, c, d, f⟩
theorem qAnd2 {X : (AV → Prop) → Prop} {p1 p2 : Prop} {av : AV} (h : ∀ K : AV → Prop, (p1 ∧ p2 ∧ K av) → X K) : ∀ K : AV → Prop, (p1 ∧ p2) ∧ K av → X K := fun K ⟨⟨a, b⟩, c⟩ => h K ⟨a, b, c⟩
theorem qIx {X : (AV → Prop) → Prop} {n : Int} {m : Nat} {rows : List (List AV)} {row : List AV} (h : ∀ K : AV → Prop, (0 ≤ n ∧ ∃ row, rows[n.toNat]? = some row ∧ row.length = m ∧ fv (.cref row) K) → X K) : ∀ K : AV → Prop, (0 ≤ n ∧ rows[n.toNat]? = some row ∧ row.length = m) ∧ K (.cref row) → X K :=
 fun K ⟨⟨a, b, c⟩, d⟩ => h K ⟨a, row, b, c, by rw [fv_eq]; exact d⟩
theorem qStr {X : (AV → Prop) → Prop} {rows : List (List AV)} {l : List UInt8} (h : ∀ K : AV → Prop, (∃ l : List UInt8, rows = l.map brow ∧ K (.v (.string ⟨l.toArray⟩))) → X K) : ∀ K : AV → Prop, rows = l.map brow ∧ K (.v (.string ⟨l.toArray⟩)) → X K := fun K ⟨a, b⟩ => h K ⟨l, a, b⟩
theorem qFall {P : Program} {X : (AV → Prop) → Prop} {op : BinOp} {t : TypeId} {x y : Operand} {a b : Value} (r : Bool) (h : ∀ K : AV → Prop, fallB P op t x y (some a) (some b) (fun z => fv z K) → X K) (hv : ∀ w, (do eqGuard op t x y a b; binOp op t a b : Sem Value).run P w = .ok (.bool r) w) : ∀ K : AV → Prop, K (.v (.bool r)) → X K :=
 fun K hk => h K ⟨.bool r, hv, by show fv (.v (.bool r)) K; rw [fv_eq]; exact hk⟩
theorem qIfN {P : Program} {X : (AV → Prop) → Prop} {op : BinOp} {t t1 : TypeId} {v : Value} (r : Bool) (h : ∀ K : AV → Prop, (∃ r, (∀ (u : Value) (w : World), (binOp op t (.iface t1 u) v : Sem Value).run P w = .ok (.bool r) w) ∧ fv (.v (.bool r)) K) → X K) (hv : ∀ (u : Value) (w : World), (binOp op t (.iface t1 u) v : Sem Value).run P w = .ok (.bool r) w) : ∀ K : AV → Prop, K (.v (.bool r)) → X K :=
 fun K hk => h K ⟨r, hv, by rw [fv_eq]; exact hk⟩
theorem qIfP {P : Program} {X : (AV → Prop) → Prop} {op : BinOp} {t t1 : TypeId} {i j : Nat} (r : Bool) (h : ∀ K : AV → Prop, ((i = i ∧ j = j ∧ t1 = t1) ∧ ∃ r, (∀ (c : Nat) (w : World), (binOp op t (.iface t1 (.pointer (some ⟨c, j, none⟩))) (.iface t1 (.pointer (some ⟨c, j, none⟩))) : Sem Value).run P w = .ok (.bool r) w) ∧ fv (.v (.bool r)) K) → X K)
  (hv : ∀ (c : Nat) (w : World), (binOp op t (.iface t1 (.pointer (some ⟨c, j, none⟩))) (.iface t1 (.pointer (some ⟨c, j, none⟩))) : Sem Value).run P w = .ok (.bool r) w) : ∀ K : AV → Prop, K (.v (.bool r)) → X K :=
 fun K hk => h K ⟨⟨rfl, rfl, rfl⟩, r, hv, by rw [fv_eq]; exact hk⟩
section
variable {P : Program} {TT : Types} {D : Dr} {all rest : List Oper} {o : Oper} {s s' : List AV} {L L' L'' : Heap} {n n' : Nat} {K : Kn} {KP : AV → Kn} {av : AV} {Kk : Kc}
def opK (P : Program) (TT : Types) (all rest : List Oper) (s : List AV) (d : Option Nat) (K : Kn) (KP : AV → Kn) : AV → Heap → Nat → Prop := fun av L' n' => putD s d av fun s' => forceH L' fun L'' => aops P TT all rest s' L'' n' K KP
def opP (s : List AV) (KP : AV → Kn) : AV → Heap → Nat → Prop := fun x L' n' => KP x s L' n'
theorem o_nil (h : K s L n) : aops P TT all [] s L n K KP := h
theorem o_op (hg : o.guard = none) (h : aop P TT o s L n (opK P TT all rest s o.dst K KP) (opP s KP)) : aops P TT all (o :: rest) s L n K KP := by
 unfold aops guarded; rw [hg]; exact h
theorem o_guard {j d : Nat} {want b : Bool} (hg : o.guard = some (j, want)) (hd : (all[j]?).bind (·.dst) = some d) (hb : getA s d = .v (.bool b)) (hyes : b = want → aop P TT o s L n (opK P TT all rest s o.dst K KP) (opP s KP))
  (hno : b = !want → putD s o.dst (.v (.tuple #[])) fun s' => aops P TT all rest s' L n K KP) : aops P TT all (o :: rest) s L n K KP := by
 unfold aops guarded
 rw [hg]
 simp only [hd, hb]
 cases want <;> cases b
 ·exact hyes rfl
 ·exact hno rfl
 ·exact hno rfl
 ·exact hyes rfl
theorem o_no {j d : Nat} {want : Bool} (hg : o.guard = some (j, want)) (hd : (all[j]?).bind (·.dst) = some d) (hb : getA s d = .v (.bool (!want))) (hs : ∀ k : List AV → Prop, k s' → putD s o.dst (.v (.tuple #[])) k) (h : aops P TT all rest s' L n K KP) : aops P TT all (o :: rest) s L n K KP :=
 o_guard hg hd hb (fun e => by cases want <;> cases e) fun _ => hs _ h
theorem o_not {j d : Nat} {want : Bool} {vs : Array Value} (hg : o.guard = some (j, want)) (hd : (all[j]?).bind (·.dst) = some d) (hb : getA s d = .v (.tuple vs)) (hs : ∀ k : List AV → Prop, k s' → putD s o.dst (.v (.tuple #[])) k) (h : aops P TT all rest s' L n K KP) : aops P TT all (o :: rest) s L n K KP := by
 unfold aops guarded
 rw [hg]
 simp only [hd, hb]
 exact hs _ h
theorem o_yes {j d : Nat} {want : Bool} (hg : o.guard = some (j, want)) (hd : (all[j]?).bind (·.dst) = some d) (hb : getA s d = .v (.bool want)) (h : aop P TT o s L n (opK P TT all rest s o.dst K KP) (opP s KP)) : aops P TT all (o :: rest) s L n K KP :=
 o_guard hg hd hb (fun _ => h) fun e => by cases want <;> cases e
theorem k_op' {d : Option Nat} (hs : ∀ k : List AV → Prop, k s' → putD s d av k) (h : aops P TT all rest s' L n K KP) : opK P TT all rest s d K KP av L n := by
 refine hs _ ?_
 rw [forceH_eq]; exact h
theorem k_opc {d : Option Nat} {x : AV} (hx : ∀ k : AV → Prop, k av → fv x k) (hs : ∀ k : List AV → Prop, k s' → putD s d av k) (hL : ∀ k : Heap → Prop, k L'' → forceH L' k) (h : aops P TT all rest s' L'' n' K KP) : opK P TT all rest s d K KP x L' n' := by
 have e : x = av := by
  have := hx (fun y => y = av) rfl
  rwa [fv_eq] at this
 subst e
 exact hs _ (hL _ h)
theorem k_as (y : AV) {d : Option Nat} (he : av = y) (h : opK P TT all rest s d K KP y L n) : opK P TT all rest s d K KP av L n := he ▸ h
theorem a_q {K KP : AV → Heap → Nat → Prop} (hk : opKind o = .quiet) (h : aq P TT L (ev s) (raw s) o fun av => K av L n) : aop P TT o s L n K KP := by
 unfold aop; rw [hk]; exact .inl h
theorem a_known {K KP : AV → Heap → Nat → Prop} (hk : opKind o = .quiet) (hq : QOk P L (ev s) (raw s) o av) (h : K av L n) : aop P TT o s L n K KP := by
 unfold aop; rw [hk]; exact .inr (.inr (.inr ⟨av, hq, h⟩))
theorem a_buildO {K KP : AV → Heap → Nat → Prop} {t e : TypeId} {len : Nat} {parts : Array (Nat × Operand)} {te : TI} {z : Value} {p : List (Nat × List AV)} {cells : List AV} (ho : o.op = .buildSlice t len parts) (hk : opKind o = .quiet) (hkt : kindT TT t = .slice e) (hte : TT e = some te) (hz : te.zero = some z) (hp : partCells (ev s) parts.toList = some p)
  (hzk : (zok te z && decide (0 < len ∧ len * te.size ≤ 16777216)) = true) (hf : aFill (fun i => some (i * te.size, te.size)) (List.replicate len (zcells z)).flatten p = some cells) (h : K (.arr n 0 len len) ((n, .box cells) :: L) (n + 1)) : aop P TT o s L n K KP := by
 unfold aop; rw [hk]
 refine .inr (.inr (.inl ?_))
 unfold abuildO
 rw [ho]
 simp only [hkt, hte, hz, hp, opt1, opt2, hzk, hf, if_pos]
 exact h
theorem a_q1 {K KP : AV → Heap → Nat → Prop} (hk : opKind o = .quiet) (hC : ∀ K : AV → Prop, K av → aq P TT L (ev s) (raw s) o fun x => fv x K) (h : K av L n) : aop P TT o s L n K KP := by
 refine a_q hk ?_
 have := hC (fun av => K av L n) h
 simpa only [fv_eq] using this
theorem a_qS {p : Prop} {K KP : AV → Heap → Nat → Prop} (hk : opKind o = .quiet) (hC : ∀ K : AV → Prop, p ∧ K av → aq P TT L (ev s) (raw s) o fun x => fv x K) (hp : p) (h : K av L n) : aop P TT o s L n K KP := by
 refine a_q hk ?_
 have := hC (fun av => K av L n) ⟨hp, h⟩
 simpa only [fv_eq] using this
theorem a_box {K KP : AV → Heap → Nat → Prop} {t : TypeId} {x : Operand} {l : List AV} (ho : o.op = .box t x) (hl : ∀ k : List AV → Prop, k l → opt1 (acells (ev s x)) fun l => forceV l k) (h : K (.ptr n 0) ((n, .box l) :: L) (n + 1)) : aop P TT o s L n K KP := by
 unfold aop opKind; simp only [ho]
 have := hl (fun l => K (.ptr n 0) ((n, .box l) :: L) (n + 1)) h
 simpa only [forceV_eq] using this
theorem a_alloc {K KP : AV → Heap → Nat → Prop} {t : TypeId} {l : List AV} (ho : o.op = .alloc t) (hl : ∀ k : List AV → Prop, k l → opt1 (TT t) fun ti => opt1 ti.zero fun z => forceV (zcells z) k) (h : K (.ptr n 0) ((n, .box l) :: L) (n + 1)) : aop P TT o s L n K KP := by
 unfold aop opKind; simp only [ho]
 have := hl (fun l => K (.ptr n 0) ((n, .box l) :: L) (n + 1)) h
 simpa only [forceV_eq] using this
theorem a_storev {K KP : AV → Heap → Nat → Prop} {t : TypeId} {x y : Operand} (ho : o.op = .store t x y) (hL : ∀ k : Heap → Prop, k L' → astore TT s L t x y fun L' => forceHv L' k) (h : K .dead L' n) : aop P TT o s L n K KP := by
 unfold aop opKind; simp only [ho]
 have := hL (fun L' => K .dead L' n) h
 exact .inl (by simpa only [forceHv_eq] using this)
theorem a_move {K KP : AV → Heap → Nat → Prop} {x : Operand} (ho : o.op = .move x) (hx : ev s x = av) (h : K av L n) : aop P TT o s L n K KP := by
 unfold aop opKind; simp only [ho]; unfold aq; simp only [ho]; rw [hx]; exact .inl h
theorem a_loadAt {K KP : AV → Heap → Nat → Prop} {t : TypeId} {x : Operand} {ti : TI} {id off : Nat} {cells : List AV} (ho : o.op = .load t x) (ht : TT t = some ti) (hx : ev s x = .ptr id off) (hf : findL L id = some (.box cells)) (hk : isAggK ti.kind = false) (hc : cells[off]? = some av) (h : K av L n) : aop P TT o s L n K KP := by
 unfold aop opKind; simp only [ho]; unfold aq; simp only [ho]; rw [ht, hx]
 simp only [opt1, aload, hf, hk, hc, Bool.false_eq_true, if_false]
 exact .inl h
theorem a_storeAt {K KP : AV → Heap → Nat → Prop} {t : TypeId} {x y : Operand} {ti : TI} {id off : Nat} {cells l cells' : List AV} (ho : o.op = .store t x y) (ht : TT t = some ti) (hx : ev s x = .ptr id off) (hf : findL L id = some (.box cells)) (hl : acells (ev s y) = some l)
  (hk : (l.all AV.one && (Nat.beq l.length ti.size && Nat.ble (off + l.length) cells.length)) = true) (hp : putCells cells off l = cells') (h : K .dead (setL L id (.box cells')) n) : aop P TT o s L n K KP := by
 subst hp
 unfold aop opKind; simp only [ho]; unfold astore; rw [ht, hx]
 simp only [opt1, hf, hl, hk, if_true]
 exact .inl h
theorem a_nilq {K KP : AV → Heap → Nat → Prop} {op : BinOp} {t t' : TypeId} {x : Operand} {e : TypeId} {rows : List (List AV)} {own : Own} {bt bf : AV} (ho : o.op = .binOp op t x (.const (.slice none 0 0)) t') (hk : kindT TT t = .slice e) (hx : ev s x = .list rows own)
  (ht : ∀ K : AV → Prop, K bt → eqRes op true K) (hf : ∀ K : AV → Prop, K bf → eqRes op false K) (h1 : rows = [] → K bt L n) (h2 : K bf L n) : aop P TT o s L n K KP := by
 unfold aop opKind; simp only [ho, isNilS]
 rw [hk, hx]
 exact ⟨fun e => ht _ (h1 e), hf _ h2⟩
theorem a_append_tok {K KP : AV → Heap → Nat → Prop} {c : Call} {x y : Operand} {t tx e e2 : TypeId} {te : TI} {z : Value} {rows rows2 : List (List AV)} {own2 : Own} {k sz m B : Nat} (ho : o.op = .call c) (hk : opKind o = .append) (ha : c.args.toList = [x, y]) (hty : c.argTypes.toList = [t, tx])
  (hkt : kindT TT t = .slice e) (hkx : kindT TT tx = .slice e2) (hte : TT e = some te) (hz : te.zero = some z) (hzk : zok te z = true) (hx : ev s x = .list rows (.tok k)) (hy : ev s y = .list rows2 own2) (hf : findL L k = some (.tok sz m)) (hsz : sz = te.size) (hB : te.bytes = B) (hm : m = rows.length)
  (hL : ∀ q : Heap → Prop, q L' → forceH (setL L k (.tok te.size (rows.length + rows2.length))) q)
  (hr : ∀ row ∈ rows2, row.length = te.size) (hroom : (rows.length + rows2.length) * B ≤ 140737488355328 ∧ rows.length + rows2.length ≤ 4611686018427387904) (h : K (.list (rows ++ rows2) (.tok k)) L' n) : aop P TT o s L n K KP := by
 unfold aop; rw [hk]; simp only [ho]
 refine .inl ?_
 unfold aappend
 rw [ha, hty]
 simp only [hkt, hkx, hte, hz, hx, hy, hzk, opt1, if_pos, hf]
 have := hL (fun L' => K (.list (rows ++ rows2) (.tok k)) L' n) h
 rw [forceH_eq] at this
 subst hB
 exact ⟨hr, hroom.1, hroom.2, hsz, hm, this⟩
theorem a_append_full {K KP : AV → Heap → Nat → Prop} {c : Call} {x y : Operand} {t tx e e2 : TypeId} {te : TI} {z : Value} {rows rows2 : List (List AV)} {own2 : Own} {B : Nat} (ho : o.op = .call c) (hk : opKind o = .append) (ha : c.args.toList = [x, y]) (hty : c.argTypes.toList = [t, tx])
  (hkt : kindT TT t = .slice e) (hkx : kindT TT tx = .slice e2) (hte : TT e = some te) (hz : te.zero = some z) (hzk : zok te z = true) (hx : ev s x = .list rows .full) (hy : ev s y = .list rows2 own2) (hB : te.bytes = B)
  (hr1 : ∀ row ∈ rows, row.length = te.size) (hr : ∀ row ∈ rows2, row.length = te.size) (hroom : (rows.length + rows2.length) * B ≤ 140737488355328 ∧ rows.length + rows2.length ≤ 4611686018427387904) (h : K (.list (rows ++ rows2) (.tok n)) ((n, .tok te.size (rows.length + rows2.length)) :: L) (n + 1)) : aop P TT o s L n K KP := by
 unfold aop; rw [hk]; simp only [ho]
 refine .inl ?_
 unfold aappend
 rw [ha, hty]
 simp only [hkt, hkx, hte, hz, hx, hy, hzk, opt1, if_pos]
 subst hB
 exact ⟨hr, hroom.1, hroom.2, hr1, h⟩
theorem asrc_list {L : Heap} {sz : Nat} {y : AV} {rows : List (List AV)} {own : Own} {K : Nat → List AV → Prop} (hy : y = .list rows own) (hr : ∀ row ∈ rows, row.length = sz) (h : K rows.length rows.flatten) : asrc L sz (fun m => m) y K := by
 subst hy
 refine ⟨hr, Nat.le_refl _, ?_⟩
 rw [← flatten_length hr, List.take_length]; exact h
structure RowsOk (sz : Nat) (rows : List (List AV)) : Prop where
 len : ∀ row ∈ rows, row.length = sz
 one : rows.flatten.all AV.one = true
 pure : ∀ a ∈ rows.flatten, a.pure = true
theorem RowsOk.of {sz : Nat} {rows : List (List AV)} (h : ∀ row ∈ rows, row.length = sz ∧ row.all AV.one = true ∧ row.all AV.pure = true) : RowsOk sz rows := by
 refine ⟨fun row hr => (h row hr).1, ?_, fun a ha => ?_⟩
 ·rw [List.all_eq_true]
  intro a ha
  obtain ⟨row, hr, hm⟩ := List.mem_flatten.1 ha
  exact List.all_eq_true.1 (h row hr).2.1 a hm
 ·obtain ⟨row, hr, hm⟩ := List.mem_flatten.1 ha
  exact List.all_eq_true.1 (h row hr).2.2 a hm
theorem RowsOk.row {sz : Nat} {rows : List (List AV)} (h : RowsOk sz rows) {row : List AV} (hr : row ∈ rows) : row.length = sz ∧ row.all AV.one = true ∧ row.all AV.pure = true :=
 ⟨h.len row hr, List.all_eq_true.2 fun a ha => List.all_eq_true.1 h.one a (List.mem_flatten.2 ⟨row, hr, ha⟩), List.all_eq_true.2 fun a ha => h.pure a (List.mem_flatten.2 ⟨row, hr, ha⟩)⟩
theorem RowsOk.map {α : Type} {sz : Nat} {f : α → List AV} (h : ∀ x, (f x).length = sz ∧ (f x).all AV.one = true ∧ (f x).all AV.pure = true) (l : List α) : RowsOk sz (l.map f) :=
 .of fun row hr => by
  obtain ⟨x, _, rfl⟩ := List.mem_map.1 hr
  exact h x
def takeO : Heap → Nat → (Res → Heap → Prop) → Prop
 | [], _, _ => False
 | (i, r) :: H, id, k => match Nat.beq i id with
  | true => k r H
  | false => takeO H id fun r' H' => k r' ((i, r) :: H')
theorem takeO_perm : ∀ (L : Heap) (id : Nat) (k : Res → Heap → Prop), takeO L id k → ∃ r L0, k r L0 ∧ L.Perm ((id, r) :: L0)
 | [], _, _, h => h.elim
 | (i, r) :: H, id, k, h => by
  unfold takeO at h
  split at h
  ·rename_i hb
   obtain rfl := Nat.eq_of_beq_eq_true hb
   exact ⟨r, H, h, .refl _⟩
  ·obtain ⟨r', L0, h1, h2⟩ := takeO_perm H id _ h
   exact ⟨r', _, h1, (h2.cons _).trans (.swap _ _ _)⟩
theorem takeO_at {L L0 : Heap} {id : Nat} {r : Res} (h : ∀ k : Res → Heap → Prop, k r L0 → takeO L id k) : L.Perm ((id, r) :: L0) := by
 obtain ⟨r', L1, ⟨rfl, rfl⟩, h2⟩ := takeO_perm L id (fun r' L1 => r' = r ∧ L1 = L0) (h _ ⟨rfl, rfl⟩)
 exact h2
theorem a_appS {K KP : AV → Heap → Nat → Prop} {c : Call} {x y : Operand} {t tx e e2 : TypeId} {te : TI} {z : Value} {id nn cp k sz B : Nat} {rows rows2 rows3 : List (List AV)} {own : Own} {L0 : Heap} {m2 : Nat} (ho : o.op = .call c) (hk : opKind o = .append) (ha : c.args.toList = [x, y]) (hty : c.argTypes.toList = [t, tx])
  (hkt : kindT TT t = .slice e) (hkx : kindT TT tx = .slice e2) (hte : TT e = some te) (hz : te.zero = some z) (hzk : zok te z = true) (hx : ev s x = .arr id 0 nn cp) (hy : ev s y = .list rows2 own) (ht : ∀ k' : Res → Heap → Prop, k' (.seq rows k) L0 → takeO L id k') (hsz : te.size = sz) (hB : te.bytes = B)
  (hR : RowsOk sz rows) (hR2 : RowsOk sz rows2) (hn : rows.length = nn) (hkk : k = (cp - nn) * sz) (hroom : (nn + rows2.length) * B ≤ 140737488355328 ∧ nn + rows2.length ≤ 4611686018427387904 ∧ 0 < nn + rows2.length)
  (hm2 : nn + rows2.length = m2) (h3 : rows ++ rows2 = rows3) (h : ∀ cp', m2 ≤ cp' → cp' ≤ maxLen → K (.arr n 0 m2 cp') ((n, .seq rows3 ((cp' - m2) * sz)) :: L0) (n + 1)) : aop P TT o s L n K KP := by
 subst hsz; subst hB; subst hm2; subst h3
 unfold aop; rw [hk]; simp only [ho]
 refine .inr (.inr ?_)
 unfold aappendS
 rw [ha, hty]
 simp only [hkt, hkx, hte, hz, hzk, opt1, if_pos]
 exact asrc_list hy hR2.len ⟨rows2, rfl, rfl, hR2.len, hR2.pure, .inl ⟨id, nn, cp, rows, k, L0, hx, takeO_at ht, hR.len, hn, hkk, hR.one, .inl hroom.1, hroom.2.1, hroom.2.2, h⟩⟩
theorem a_appSb {K KP : AV → Heap → Nat → Prop} {c : Call} {x y : Operand} {t tx e e2 : TypeId} {te : TI} {z : Value} {id nn cp k sz B : Nat} {rows rows2 rows3 : List (List AV)} {own : Own} {L0 : Heap} {m2 : Nat} (ho : o.op = .call c) (hk : opKind o = .append) (ha : c.args.toList = [x, y]) (hty : c.argTypes.toList = [t, tx])
  (hkt : kindT TT t = .slice e) (hkx : kindT TT tx = .slice e2) (hte : TT e = some te) (hz : te.zero = some z) (hzk : zok te z = true) (hx : ev s x = .arr id 0 nn cp) (hy : ev s y = .list rows2 own) (ht : ∀ k' : Res → Heap → Prop, k' (.seq rows k) L0 → takeO L id k') (hsz : te.size = sz) (hB : te.bytes = B)
  (hR : RowsOk sz rows) (hR2 : RowsOk sz rows2) (hn : rows.length = nn) (hkk : k = (cp - nn) * sz) (hroom : bigB (nn + rows2.length) B ∧ nn + rows2.length ≤ 4611686018427387904 ∧ 0 < nn + rows2.length)
  (hm2 : nn + rows2.length = m2) (h3 : rows ++ rows2 = rows3) (h : ∀ cp', m2 ≤ cp' → cp' ≤ maxLen → K (.arr n 0 m2 cp') ((n, .seq rows3 ((cp' - m2) * sz)) :: L0) (n + 1)) : aop P TT o s L n K KP := by
 subst hsz; subst hB; subst hm2; subst h3
 unfold aop; rw [hk]; simp only [ho]
 refine .inr (.inr ?_)
 unfold aappendS
 rw [ha, hty]
 simp only [hkt, hkx, hte, hz, hzk, opt1, if_pos]
 exact asrc_list hy hR2.len ⟨rows2, rfl, rfl, hR2.len, hR2.pure, .inl ⟨id, nn, cp, rows, k, L0, hx, takeO_at ht, hR.len, hn, hkk, hR.one, hroom.1, hroom.2.1, hroom.2.2, h⟩⟩
theorem a_appS0 {K KP : AV → Heap → Nat → Prop} {c : Call} {x y : Operand} {t tx e e2 : TypeId} {te : TI} {z : Value} {sz B m2 : Nat} {rows2 : List (List AV)} {own : Own} (ho : o.op = .call c) (hk : opKind o = .append) (ha : c.args.toList = [x, y]) (hty : c.argTypes.toList = [t, tx])
  (hkt : kindT TT t = .slice e) (hkx : kindT TT tx = .slice e2) (hte : TT e = some te) (hz : te.zero = some z) (hzk : zok te z = true) (hx : ev s x = .list [] .full ∨ ∃ id off, ev s x = .arr id off 0 0) (hy : ev s y = .list rows2 own) (hsz : te.size = sz) (hB : te.bytes = B)
  (hR2 : RowsOk sz rows2) (h0 : 0 < rows2.length ∨ True) (hroom : rows2.length * B ≤ 140737488355328 ∧ rows2.length ≤ 4611686018427387904)
  (hm2 : rows2.length = m2) (h : ∀ cp', m2 ≤ cp' → cp' ≤ maxLen → K (.arr n 0 m2 cp') ((n, .seq rows2 ((cp' - m2) * sz)) :: L) (n + 1)) : aop P TT o s L n K KP := by
 subst hsz; subst hB; subst hm2
 unfold aop; rw [hk]; simp only [ho]
 refine .inr (.inr ?_)
 unfold aappendS
 rw [ha, hty]
 simp only [hkt, hkx, hte, hz, hzk, opt1, if_pos]
 exact asrc_list hy hR2.len ⟨rows2, rfl, rfl, hR2.len, hR2.pure, .inr ⟨hx, hroom.1, hroom.2, h⟩⟩
theorem flat_at {rows : List (List AV)} {sz i j : Nat} {row : List AV} {a : AV} (hl : ∀ row ∈ rows, row.length = sz) (hi : rows[i]? = some row) (hj : row[j]? = some a) (k : Nat) : (seqC rows k)[i * sz + j]? = some a := by
 unfold seqC
 have := flat_get hl hi hj
 rw [List.getElem?_append_left (List.getElem?_eq_some_iff.1 this).1]
 exact this
theorem a_loadSeq {K KP : AV → Heap → Nat → Prop} {t : TypeId} {x : Operand} {ti : TI} {id off sz i j k : Nat} {rows : List (List AV)} {row : List AV} (ho : o.op = .load t x) (ht : TT t = some ti) (hx : ev s x = .ptr id off) (hf : findL L id = some (.seq rows k)) (hk : isAggK ti.kind = false)
  (hl : RowsOk sz rows) (hi : rows[i]? = some row) (hj : row[j]? = some av) (hoff : off = i * sz + j) (h : K av L n) : aop P TT o s L n K KP := by
 subst hoff
 unfold aop opKind; simp only [ho]; unfold aq; simp only [ho]; rw [ht, hx]
 simp only [opt1, aload, hf, hk, flat_at hl.len hi hj, Bool.false_eq_true, if_false]
 exact .inl h
theorem flat_put {rows : List (List AV)} {sz i j : Nat} {row l : List AV} (hl : ∀ row ∈ rows, row.length = sz) (hi : rows[i]? = some row) (hj : j + l.length ≤ sz) (k : Nat) : putCells (seqC rows k) (i * sz + j) l = seqC (rows.set i (putCells row j l)) k := by
 have hrow := hl row (List.mem_of_getElem? hi)
 have hlt := (List.getElem?_eq_some_iff.1 hi).1
 induction rows generalizing i with
 | nil => simp at hlt
 | cons r rows ih =>
  have hr : r.length = sz := hl r (by simp)
  cases i with
  | zero =>
   simp only [List.getElem?_cons_zero, Option.some.injEq] at hi
   subst hi
   unfold putCells seqC
   simp only [List.set_cons_zero, List.flatten_cons, Nat.zero_mul, Nat.zero_add, List.append_assoc]
   rw [List.take_append_of_le_length (by omega), List.drop_append_of_le_length (by omega)]
  | succ i =>
   have h1 := ih (i := i) (fun row hm => hl row (List.mem_cons_of_mem _ hm)) (by simpa using hi) (by simpa using hlt)
   unfold putCells seqC at h1 ⊢
   simp only [List.set_cons_succ, List.flatten_cons, List.append_assoc]
   have e : (i + 1) * sz + j = r.length + (i * sz + j) := by rw [hr, Nat.succ_mul]; omega
   rw [e, Nat.add_assoc, List.take_length_add_append, List.drop_length_add_append, List.append_assoc, h1]
theorem a_storeSeq {K KP : AV → Heap → Nat → Prop} {t : TypeId} {x y : Operand} {ti : TI} {id off sz i j k : Nat} {rows : List (List AV)} {row row' l : List AV} {L0 : Heap} (ho : o.op = .store t x y) (ht : TT t = some ti) (hx : ev s x = .ptr id off) (hta : ∀ k' : Res → Heap → Prop, k' (.seq rows k) L0 → takeO L id k') (hl : acells (ev s y) = some l)
  (hlo : (l.all AV.one && (l.all AV.pure && (Nat.beq l.length ti.size && Nat.blt 0 l.length))) = true) (hR : RowsOk sz rows) (hi : rows[i]? = some row) (hj : j + l.length ≤ sz) (hrow : putCells row j l = row') (hoff : off = i * sz + j) (h : K .dead ((id, .seq (rows.set i row') k) :: L0) n) : aop P TT o s L n K KP := by
 subst hoff; subst hrow
 simp only [Bool.and_eq_true] at hlo
 obtain ⟨l1, l2, l3, l4⟩ := hlo
 have hlt := (List.getElem?_eq_some_iff.1 hi).1
 have hfl := flatten_length hR.len
 have hle : i * sz + sz ≤ rows.flatten.length := by
  rw [hfl, ← Nat.succ_mul]; exact Nat.mul_le_mul_right _ hlt
 have hrm := hR.row (List.mem_of_getElem? hi)
 unfold aop opKind; simp only [ho]
 refine .inr ?_
 unfold astoreS
 rw [ht]
 refine ⟨id, i * sz + j, rows, k, L0, l, _, hx, takeO_at hta, hl, l1, Nat.eq_of_beq_eq_true l3, Nat.le_of_ble_eq_true l4, by unfold seqC; rw [List.length_append]; omega, flat_put hR.len hi hj k, fun a ha => ?_, h⟩
 obtain ⟨r, hr, hm⟩ := List.mem_flatten.1 ha
 rcases List.mem_or_eq_of_mem_set hr with hr | rfl
 ·exact hR.pure a (List.mem_flatten.2 ⟨r, hr, hm⟩)
 ·unfold putCells at hm
  rcases List.mem_append.1 hm with hm | hm
  ·exact List.all_eq_true.1 hrm.2.2 a (List.mem_of_mem_take hm)
  ·rcases List.mem_append.1 hm with hm | hm
   ·exact List.all_eq_true.1 l2 a hm
   ·exact List.all_eq_true.1 hrm.2.2 a (List.mem_of_mem_drop hm)
theorem a_panic {K KP : AV → Heap → Nat → Prop} {x : Operand} {t : TypeId} {y : AV} (ho : o.op = .panic x) (hx : ev s x = .iface t y) (h : KP (.iface t y) L n) : aop P TT o s L n K KP := by
 unfold aop opKind; simp only [ho]; rw [hx]; exact h
theorem a_call {K KP : AV → Heap → Nat → Prop} {c : Call} {x : Operand} {f : FuncId} {cap : List AV} {args : List AV} (ho : o.op = .call c) (hk : opKind o = .call) (hc : c.callee = .value x) (hx : ev s x = .fn f cap) (ha : ∀ k : List AV → Prop, k args → forceA (c.args.toList.map (ev s) ++ cap) k)
  (h : acall P f args L n K KP) : aop P TT o s L n K KP := by
 unfold aop; rw [hk]; simp only [ho, hc, hx]
 have := ha (fun args => acall P f args L n K KP) h
 rwa [forceA_eq] at this
theorem a_callS {K KP : AV → Heap → Nat → Prop} {c : Call} {x : Operand} {f : FuncId} {cap : List AV} {args : List AV} (ho : o.op = .call c) (hk : opKind o = .call) (hc : c.callee = .value x) (hx : ev s x = .fn f cap) (ha : c.args.toList.map (ev s) ++ cap = args)
  (h : acall P f args L n K KP) : aop P TT o s L n K KP := by
 subst ha
 unfold aop; rw [hk]; simp only [ho, hc, hx]; exact h
theorem by_contract {f : FuncId} {args args0 : List AV} {k top : Nat} {H0 rest : Heap} {R : AOut → Heap → Prop} {K KP : AV → Heap → Nat → Prop} (ids : List Nat) (hC : ACalls P f k top args0 H0 R) (hids : (Nat.beq ids.length k && (ids.all (fun i => Nat.blt i n) && Nat.ble k top)) = true) (hnd : ids.Nodup)
  (hargs : LeL args (AV.renL (rn ids n) args0)) (hperm : L.Perm (renH (rn ids n) H0 ++ rest))
  (hret : ∀ x H', R (.ret x) H' → K (x.ren (rn ids n)) (renH (rn ids n) H' ++ rest) (n + (top - k))) (hpanic : ∀ x H', R (.panic x) H' → KP (x.ren (rn ids n)) (renH (rn ids n) H' ++ rest) (n + (top - k))) : acall P f args L n K KP := by
 simp only [Bool.and_eq_true, List.all_eq_true] at hids
 obtain ⟨h1, h2, h3⟩ := hids
 refine ⟨k, top, args0, H0, R, ids, rest, hC, ⟨Nat.eq_of_beq_eq_true h1, hnd, fun i hi => ?_, Nat.le_of_ble_eq_true h3, hargs, hperm⟩, fun out H' hR => ?_⟩
 ·have := h2 i hi; exact Nat.le_of_ble_eq_true this
 ·cases out with
  | ret x => exact hret x H' hR
  | panic x => exact hpanic x H' hR
def pickH (i : Nat) : Heap → (Res → Heap → Prop) → Prop
 | [], _ => False
 | (j, r) :: L, k => match Nat.beq j i with
  | true => k r L
  | false => pickH i L fun r' L' => k r' ((j, r) :: L')
def takeH : List Nat → Heap → (Heap → Heap → Prop) → Prop
 | [], L, k => k [] L
 | i :: is, L, k => pickH i L fun r L' => takeH is L' fun a b => k ((i, r) :: a) b
theorem pickH_spec {i : Nat} : ∀ {L : Heap} {k : Res → Heap → Prop}, pickH i L k → ∃ r L', L.Perm ((i, r) :: L') ∧ k r L'
 | [], _, h => h.elim
 | (j, r) :: L, k, h => by
  unfold pickH at h
  split at h
  ·rename_i he
   have := Nat.eq_of_beq_eq_true he
   subst this
   exact ⟨r, L, .refl _, h⟩
  ·obtain ⟨r', L', h1, h2⟩ := pickH_spec h
   exact ⟨r', _, (h1.cons _).trans (.swap _ _ _), h2⟩
theorem takeH_spec : ∀ {is : List Nat} {L : Heap} {k : Heap → Heap → Prop}, takeH is L k → ∃ a b, L.Perm (a ++ b) ∧ k a b
 | [], L, k, h => ⟨[], L, .refl _, h⟩
 | i :: is, L, k, h => by
  obtain ⟨r, L', h1, h2⟩ := pickH_spec h
  obtain ⟨a, b, h3, h4⟩ := takeH_spec h2
  exact ⟨_, b, h1.trans (h3.cons _), h4⟩
theorem takeH_to {is : List Nat} {L A R : Heap} (h : ∀ k : Heap → Heap → Prop, k A R → takeH is L k) : L.Perm (A ++ R) := by
 obtain ⟨a, b, h1, h2, h3⟩ := takeH_spec (h (fun a b => a = A ∧ b = R) ⟨rfl, rfl⟩)
 subst h2; subst h3; exact h1
def nodupB : List Nat → Bool
 | [] => true
 | a :: l => !(l.any (Nat.beq a)) && nodupB l
theorem nodupB_spec : ∀ {l : List Nat}, nodupB l = true → l.Nodup
 | [], _ => .nil
 | a :: l, h => by
  unfold nodupB at h
  simp only [Bool.and_eq_true, Bool.not_eq_true', List.any_eq_false] at h
  refine List.nodup_cons.2 ⟨fun hm => h.1 a hm (Nat.beq_refl a), nodupB_spec h.2⟩
def keysH : Heap → List Nat
 | [] => []
 | (i, _) :: H => i :: keysH H
theorem by_c {f : FuncId} {args args0 : List AV} {k top n' : Nat} {H0 H1 rest : Heap} {R : AOut → Heap → Prop} {K KP : AV → Heap → Nat → Prop} (ids : List Nat) (hC : ACalls P f k top args0 H0 R) (hids : (Nat.beq ids.length k && (ids.all (fun i => Nat.blt i n) && (Nat.ble k top && nodupB ids))) = true)
  (hargs : LeL args (AV.renL (rn ids n) args0)) (ht : ∀ k : Heap → Heap → Prop, k H1 rest → takeH (keysH (renH (rn ids n) H0)) L k) (heq : H1 = renH (rn ids n) H0) (hn : n + (top - k) = n')
  (hret : ∀ x H', R (.ret x) H' → K (x.ren (rn ids n)) (renH (rn ids n) H' ++ rest) n') (hpanic : ∀ x H', R (.panic x) H' → KP (x.ren (rn ids n)) (renH (rn ids n) H' ++ rest) n') : acall P f args L n K KP := by
 simp only [Bool.and_eq_true] at hids
 obtain ⟨h1, h2, h3, h4⟩ := hids
 subst hn
 exact by_contract ids hC (by simp only [Bool.and_eq_true]; exact ⟨h1, h2, h3⟩) (nodupB_spec h4) hargs (by rw [← heq]; exact takeH_to ht) hret hpanic
def seqK (P : Program) (TT : Types) (D : Dr) (y : Code) (K : Kc) : Kc := fun e s L n => match e with
 | .normal => ∃ τ : ASt, SeqTo D.low ⟨s, L, n⟩ τ ∧ acode P TT D y τ.slots τ.L τ.next K
 | e => K e s L n
def blockK (id : Nat) (K : Kc) : Kc := fun e s L n => match e with
 | .exit i => match Nat.beq i id with
  | true => K .normal s L n
  | false => K (.exit i) s L n
 | e => K e s L n
def panK (K : Kc) : AV → Kn := fun x => K (.panic x)
theorem c_skip (h : Kk .normal s L n) : acode P TT D .skip s L n Kk := h
theorem c_region {id : Nat} {l : List Oper} (h : aops P TT l l s L n (Kk .normal) (panK Kk)) : acode P TT D (.region id l.toArray false) s L n Kk := h
theorem c_draw {d : Nat → List Oper → List AV → Heap → Nat → Kc → Prop} {low : Nat → Prop} {id : Nat} {l : List Oper} (h : d id l s L n Kk) : acode P TT ⟨d, low⟩ (.region id l.toArray true) s L n Kk := h
theorem c_seq {x y : Code} (h : acode P TT D x s L n (seqK P TT D y Kk)) : acode P TT D (.seq x y) s L n Kk := h
theorem c_block {id : Nat} {x : Code} (h : acode P TT D x s L n (blockK id Kk)) : acode P TT D (.block id x) s L n Kk := h
theorem c_exit {id : Nat} (h : Kk (.exit id) s L n) : acode P TT D (.exit id) s L n Kk := h
theorem c_ret (h : Kk .ret s L n) : acode P TT D .ret s L n Kk := h
theorem zE {c : Operand} {x y : Code} {b : Bool} (hc : ev s c = .v (.bool b)) (h1 : b = true → acode P TT D x s L n Kk) (h2 : b = false → acode P TT D y s L n Kk) : acode P TT D (.cond c x y) s L n Kk := by
 unfold acode; rw [hc]; exact abr_intro h1 h2
theorem c_true {c : Operand} {x y : Code} (hc : ev s c = .v (.bool true)) (h : acode P TT D x s L n Kk) : acode P TT D (.cond c x y) s L n Kk := by
 unfold acode; rw [hc]; exact h
theorem c_false {c : Operand} {x y : Code} (hc : ev s c = .v (.bool false)) (h : acode P TT D y s L n Kk) : acode P TT D (.cond c x y) s L n Kk := by
 unfold acode; rw [hc]; exact h
theorem k_seq {y : Code} (h : acode P TT D y s L n Kk) : seqK P TT D y Kk .normal s L n := ⟨⟨s, L, n⟩, .inl (Conv.refl _), h⟩
theorem k_seq_to {y : Code} (τ : ASt) (hc : Conv ⟨s, L, n⟩ τ) (h : acode P TT D y τ.slots τ.L τ.next Kk) : seqK P TT D y Kk .normal s L n := ⟨τ, .inl hc, h⟩
theorem k_seq_ret {y : Code} (h : Kk .ret s L n) : seqK P TT D y Kk .ret s L n := h
theorem k_seq_exit {y : Code} {i : Nat} (h : Kk (.exit i) s L n) : seqK P TT D y Kk (.exit i) s L n := h
theorem k_seq_pan {y : Code} {x : AV} (h : Kk (.panic x) s L n) : seqK P TT D y Kk (.panic x) s L n := h
theorem k_block {id : Nat} (h : Kk .normal s L n) : blockK id Kk .normal s L n := h
theorem k_block_ret {id : Nat} (h : Kk .ret s L n) : blockK id Kk .ret s L n := h
theorem k_block_pan {id : Nat} {x : AV} (h : Kk (.panic x) s L n) : blockK id Kk (.panic x) s L n := h
theorem k_block_here {id i : Nat} (hi : Nat.beq i id = true) (h : Kk .normal s L n) : blockK id Kk (.exit i) s L n := by unfold blockK; simp only; rw [hi]; exact h
theorem k_pan {x : AV} (h : Kk (.panic x) s L n) : panK Kk x s L n := h
theorem k_opP {x : AV} (h : KP x s L n) : opP s KP x L n := h
theorem e_ret_to {res : List ResultVar} {top : Nat} {R : AOut → Heap → Prop} {l : List AV} {H' rest : Heap} {τ : ASt} (hc : Conv ⟨s, L, n⟩ τ) (hres : aresults TT τ.slots τ.L res = some l) (hR : R (.ret (aout l)) H') (hp : τ.L.Perm (H' ++ rest)) (hn : τ.next ≤ top) : aend P TT res top R .ret s L n :=
 ⟨τ, hc, by rw [hres]; exact ⟨H', rest, hR, hp, hn⟩⟩
theorem e_ret {res : List ResultVar} {top : Nat} {R : AOut → Heap → Prop} {l : List AV} {H' rest : Heap} (hres : aresults TT s L res = some l) (hR : R (.ret (aout l)) H') (hp : L.Perm (H' ++ rest)) (hn : n ≤ top) : aend P TT res top R .ret s L n :=
 ⟨⟨s, L, n⟩, Conv.refl _, by rw [hres]; exact ⟨H', rest, hR, hp, hn⟩⟩
theorem e_end {res : List ResultVar} {top : Nat} {R : AOut → Heap → Prop} (h : aend P TT res top R .ret s L n) : aend P TT res top R .normal s L n := h
theorem e_pan {res : List ResultVar} {top : Nat} {R : AOut → Heap → Prop} {x : AV} {H' rest : Heap} (hR : R (.panic x) H') (hp : L.Perm (H' ++ rest)) (hn : n ≤ top) : aend P TT res top R (.panic x) s L n := ⟨H', rest, hR, hp, hn⟩
/-! what a goal is -/
theorem zC {K KP : AV → Heap → Nat → Prop} (h : aop P TT o s L n K KP) : aop P TT o s L n K KP := h
theorem is_opK {d : Option Nat} (h : opK P TT all rest s d K KP av L n) : opK P TT all rest s d K KP av L n := h
theorem zA (h : aops P TT all (o :: rest) s L n K KP) : aops P TT all (o :: rest) s L n K KP := h
theorem zB {c : Operand} {x y : Code} (h : acode P TT D (.cond c x y) s L n Kk) : acode P TT D (.cond c x y) s L n Kk := h
theorem is_blockx {id i : Nat} (h : blockK id Kk (.exit i) s L n) : blockK id Kk (.exit i) s L n := h
theorem zD {j d : Nat} {want b : Bool} (hg : o.guard = some (j, want)) (hd : (all[j]?).bind (·.dst) = some d) (hb : getA s d = .v (.bool b)) (h1 : b = true → aops P TT all (o :: rest) s L n K KP) (h2 : b = false → aops P TT all (o :: rest) s L n K KP) : aops P TT all (o :: rest) s L n K KP := by
 cases b
 ·exact h2 rfl
 ·exact h1 rfl
theorem c_start {c : Code} (hs : ∀ k : List AV → Prop, k s' → forceA s k) (h : acode P TT D c s' L n Kk) : acode P TT D c s L n Kk := by
 have := hs (fun s => acode P TT D c s L n Kk) h
 rwa [forceA_eq] at this
theorem c_turn {c : Code} (hs : ∀ k : List AV → Prop, k s' → forceA s k) (hL : ∀ k : Heap → Prop, k L' → forceH L k) (hn : n = n') (h : acode P TT D c s' L' n' Kk) : acode P TT D c s L n Kk := by
 subst hn
 have h1 := hL (fun L => acode P TT D c s' L n Kk) h
 rw [forceH_eq] at h1
 have := hs (fun s => acode P TT D c s L n Kk) h1
 rwa [forceA_eq] at this
/-! states that say less -/
theorem Conv.drop {s : List AV} {H rest : Heap} {n n' : Nat} (hp : L.Perm (H ++ rest)) (hn : n ≤ n') : Conv ⟨s, L, n⟩ ⟨s, H, n'⟩ := fun B G a w hr =>
 ⟨G, hr.size, hr.slots, hr.defers, (hr.holds.perm hp).left, hr.step.sub hp, fun id hid => Nat.lt_of_lt_of_le (hr.next id hid) hn, hr.base, Nat.le_trans hr.low hn, hr.old⟩
theorem c_loop {x : Code} {α : Type} (S : α → ASt) (C : α → Prop) (μ : α → Nat) {a : α} (ha : C a) (hc : Conv ⟨s, L, n⟩ (S a)) (hround : ∀ a, C a → acode P TT D x (S a).slots (S a).L (S a).next fun e s' L' n' => match e with
  | .normal => ∃ b, C b ∧ μ b < μ a ∧ LoopTo D.low (S a).next ⟨s', L', n'⟩ (S b)
  | e => Kk e s' L' n') : acode P TT D (.loop x) s L n Kk := ⟨α, S, C, μ, ⟨a, ha, hc⟩, hround⟩
def loopK (low : Nat → Prop) {α : Type} (S : α → ASt) (C : α → Prop) (μ : α → Nat) (a : α) (K : Kc) : Kc := fun e s' L' n' => match e with
  | .normal => ∃ b, C b ∧ μ b < μ a ∧ LoopTo low (S a).next ⟨s', L', n'⟩ (S b)
  | e => K e s' L' n'
theorem c_loop' {x : Code} {α : Type} (S : α → ASt) (C : α → Prop) (μ : α → Nat) {a : α} (ha : C a) (hc : Conv ⟨s, L, n⟩ (S a)) (hround : ∀ a, C a → acode P TT D x (S a).slots (S a).L (S a).next (loopK D.low S C μ a Kk)) : acode P TT D (.loop x) s L n Kk := c_loop S C μ ha hc hround
theorem c_loop2 {x : Code} {α β : Type} (S : α → β → ASt) (C : α → β → Prop) (μ : α → β → Nat) (a : α) (b : β) (ha : C a b) (hc : Conv ⟨s, L, n⟩ (S a b)) (hround : ∀ a b, C a b → acode P TT D x (S a b).slots (S a b).L (S a b).next (loopK D.low (fun p : α × β => S p.1 p.2) (fun p => C p.1 p.2) (fun p => μ p.1 p.2) (a, b) Kk)) : acode P TT D (.loop x) s L n Kk :=
 c_loop' (fun p : α × β => S p.1 p.2) (fun p => C p.1 p.2) (fun p => μ p.1 p.2) (a := (a, b)) ha hc fun p h => hround p.1 p.2 h
theorem k_loop_ret {low : Nat → Prop} {α : Type} {S : α → ASt} {C : α → Prop} {μ : α → Nat} {a : α} (h : Kk .ret s L n) : loopK low S C μ a Kk .ret s L n := h
theorem k_loop_exit {low : Nat → Prop} {α : Type} {S : α → ASt} {C : α → Prop} {μ : α → Nat} {a : α} {i : Nat} (h : Kk (.exit i) s L n) : loopK low S C μ a Kk (.exit i) s L n := h
theorem k_loop_pan {low : Nat → Prop} {α : Type} {S : α → ASt} {C : α → Prop} {μ : α → Nat} {a : α} {x : AV} (h : Kk (.panic x) s L n) : loopK low S C μ a Kk (.panic x) s L n := h
theorem k_loop {low : Nat → Prop} {α : Type} {S : α → ASt} {C : α → Prop} {μ : α → Nat} {a : α} (b : α) (hb : C b) (hm : μ b < μ a) (hc : Conv ⟨s, L, n⟩ (S b)) : loopK low S C μ a Kk .normal s L n := ⟨b, hb, hm, .inl (hc.toN _)⟩
theorem k_loopL {low : Nat → Prop} {α : Type} {S : α → ASt} {C : α → Prop} {μ : α → Nat} {a : α} (b : α) (N : Nat) (ids : List Nat) (hb : C b) (hm : μ b < μ a) (hlow : low N) (hc : Conv ⟨s, L, n⟩ ⟨AV.renL (rn ids n') (S b).slots, renH (rn ids n') (S b).L, n'⟩) (hM : ids.length = (S b).next := by rfl) (hnd : ids.Nodup := by decide) (hlt : ∀ i ∈ ids, i < n' := by decide) (hN : ∀ i, i < N → ids[i]? = some i := by decide) : loopK low S C μ a Kk .normal s L n := ⟨b, hb, hm, .inr ⟨N, hlow, (ConvN.ren ids hnd hlt hN hM).after hc⟩⟩
end
end Go.Am
namespace Go.Am
open Go.RowKit
def edgesOf (o : Oper) : List Nat := o.after.toList.filterMap fun e => if Region.binds .any e then some e.on else none
def memB (i : Nat) : List Nat → Bool
 | [] => false
 | j :: l => Nat.beq i j || memB i l
theorem memB_iff {i : Nat} {l : List Nat} : memB i l = true ↔ i ∈ l := by
 induction l with
 | nil => simp [memB]
 | cons j l ih => simp only [memB, Bool.or_eq_true, ih, List.mem_cons]; exact or_congr_left ⟨Nat.eq_of_beq_eq_true, fun h => by subst h; exact Nat.beq_refl i⟩
def addN : List Nat → List Nat → List Nat
 | [], a => a
 | i :: l, a => match memB i a with
  | true => addN l a
  | false => addN l (i :: a)
theorem addN_mem {i : Nat} : ∀ (l a : List Nat), i ∈ addN l a → i ∈ l ∨ i ∈ a
 | [], a, h => .inr h
 | j :: l, a, h => by
  unfold addN at h
  split at h
  ·exact (addN_mem l a h).imp_left (List.mem_cons_of_mem _)
  ·rcases addN_mem l (j :: a) h with h | h
   ·exact .inl (List.mem_cons_of_mem _ h)
   ·rcases List.mem_cons.1 h with rfl | h
    ·exact .inl List.mem_cons_self
    ·exact .inr h
def presGo : List (List Nat) → List Oper → List (List Nat)
 | acc, [] => acc
 | acc, o :: r => presGo (acc ++ [addN (edgesOf o ++ (edgesOf o).flatMap fun i => acc.getD i []) []]) r
def pres (all : List Oper) : List (List Nat) := presGo [] all
def isAl (o : Oper) : Bool := match o.op with | .alloc _ => true | _ => false
def isE (o : Oper) : Bool := match opKind o with | .quiet => (match o.op with | .assign _ => true | _ => false) | .alloc => false | _ => true
def looks (all : List Oper) (o : Oper) : List Nat :=
 (o.op.operands.toList.filterMap fun | .tmp t => some t | _ => none) ++ (match o.guard with | some (g, _) => ((all[g]?).bind (·.dst)).toList | none => [])
def okD (all : List Oper) : Bool :=
 let pr := pres all
 ((List.range all.length).all fun j => match all[j]? with
  | some oj => (edgesOf oj).all (fun i => Nat.blt i j) && ((match oj.dst with | some d => !(memB d (looks all oj)) | none => isE oj) && (List.range all.length).all fun i => Nat.beq i j || match all[i]? with
   | some oi => match oi.dst with
    | some d => !(memB d oj.dst.toList) && (!(memB d (looks all oj)) || (memB i (pr.getD j []) || (isE oi && memB j (pr.getD i []))))
    | none => true
   | none => true)
  | none => true) &&
 all.all fun o => (!(isAl o) || (o.guard.isNone && o.dst.isSome)) && (match o.op with | .select _ _ => false | _ => true)
def allocObj (TT : Types) (s : List AV) (o : Oper) : Option (Nat × Res) :=
 match o.op, o.dst with
 | .alloc t, some d => match TT t, getA s d with
  | some ti, .ptr id 0 => match ti.zero with
   | some z => some (id, .box (zcells z))
   | none => none
  | _, _ => none
 | _, _ => none
def isNoneB {α : Type} : Option α → Bool | none => true | some _ => false
def availB (pr : List (List Nat)) (E S : List Nat) (j : Nat) : Bool := (pr.getD j []).all fun i => memB i E || memB i S
def isLd (o : Oper) : Bool := match o.op with | .load _ _ => true | _ => false
def Known (P : Program) (L : Heap) (s : List AV) (o : Oper) (av : AV) : Prop := match isLd o with | true => QOk P L (ev s) (raw s) o av | false => QOk P [] (ev s) (raw s) o av
def aqx (P : Program) (TT : Types) (L : Heap) (s : List AV) (o : Oper) (K : AV → Prop) : Prop := aq P TT L (ev s) (raw s) o K ∨ ∃ av, Known P L s o av ∧ K av
def evGo (P : Program) (TT : Types) (all : List Oper) (pr : List (List Nat)) (S : List Nat) (L : Heap) : List Nat → List Nat → List AV → Nat → (List Nat → List AV → Nat → Prop) → Prop
 | [], E, s, n, k => k E s n
 | j :: js, E, s, n, k => match all[j]? with
  | none => evGo P TT all pr S L js E s n k
  | some o => match isE o || (memB j E || !(availB pr E S j)) with
   | true => evGo P TT all pr S L js E s n k
   | false => match isAl o with
    | true => putD s o.dst (.ptr n 0) fun s' => match isNoneB (allocObj TT s' o) with | true => False | false => evGo P TT all pr S L js (j :: E) s' (n + 1) k
    | false => guarded all s o (aqx P TT L s o fun av => fv av fun av => putD s o.dst av fun s' => evGo P TT all pr S L js (j :: E) s' n k)
      (putD s o.dst (.v (.tuple #[])) fun s' => evGo P TT all pr S L js (j :: E) s' n k)
def satB (all : List Oper) (pr : List (List Nat)) (E S : List Nat) : Bool :=
 (List.range all.length).all fun j => match all[j]? with
  | some o => isE o || (memB j E || !(availB pr E S j))
  | none => true
def flush (TT : Types) (all : List Oper) (s : List AV) : List Nat → Heap → (Heap → Prop) → Prop
 | [], L, k => k L
 | j :: js, L, k => match all[j]? with
  | some o => opt1 (allocObj TT s o) fun r => flush TT all s js (r :: L) k
  | none => False
def allocsOf (all : List Oper) (FL : List Nat) (f : Nat → Bool) : List Nat :=
 (List.range all.length).filter fun j => match all[j]? with | some o => isAl o && (!(memB j FL) && f j) | none => false
def effsOf (all : List Oper) (S : List Nat) (f : Nat → Bool) : List Nat :=
 (List.range all.length).filter fun j => match all[j]? with | some o => isE o && (!(memB j S) && f j) | none => false
def rechk (TT : Types) (all : List Oper) (pe E : List Nat) (s : List AV) (L : Heap) : List Nat → Prop → Prop
 | [], k => k
 | j :: js, k => match all[j]? with
  | some o => match o.op, memB j E && !(memB j pe) with
   | .load t x, true => guarded all s o (opt1 o.dst fun d => opt1 (TT t) fun ti => aload L ti (ev s x) = some (getA s d)) True ∧ rechk TT all pe E s L js k
   | _, _ => rechk TT all pe E s L js k
  | none => rechk TT all pe E s L js k
def allK : List Nat → (Nat → Prop) → Prop
 | [], _ => False
 | [e], f => f e
 | e :: es, f => f e ∧ allK es f
theorem allK_mem {l : List Nat} {f : Nat → Prop} (h : allK l f) : ∀ e ∈ l, f e := by
 induction l with
 | nil => exact h.elim
 | cons a l ih =>
  cases l with
  | nil => intro e he; simp at he; subst he; exact h
  | cons b l =>
   intro e he
   rcases List.mem_cons.1 he with rfl | he
   ·exact h.1
   ·exact ih h.2 e he
def killA (all : List Oper) (s : List AV) : List AV := all.foldl (fun s o => putS s o.dst .dead) s
def dr (P : Program) (TT : Types) (all : List Oper) (pr : List (List Nat)) (K : Kn) (KP : AV → Kn) : Nat → List Nat → List Nat → List Nat → List AV → Heap → Nat → Prop
 | fuel, E, S, FL, s, L, n => evGo P TT all pr S L (List.range all.length) E s n fun E s n => match satB all pr E S with
  | false => False
  | true => match effsOf all S (fun _ => true) with
   | [] => flush TT all s (allocsOf all FL fun _ => true) L fun L' => forceH L' fun L'' => K s L'' n
   | _ :: _ => match fuel with
    | 0 => False
    | fuel + 1 => allK (effsOf all S (availB pr E S)) fun e => match all[e]? with
     | none => False
     | some o => flush TT all s (allocsOf all FL fun j => memB j (pr.getD e [])) L fun L1 =>
      guarded all s o (aop P TT o s L1 n (fun av L2 n2 => putD s o.dst av fun s2 => forceH L2 fun L3 => rechk TT all (pr.getD e []) E s2 L3 (List.range all.length)
        (dr P TT all pr K KP fuel E (e :: S) (allocsOf all FL (fun j => memB j (pr.getD e [])) ++ FL) s2 L3 n2)) (fun x L2 n2 => KP x (killA all s) L2 n2))
       (putD s o.dst (.v (.tuple #[])) fun s2 => dr P TT all pr K KP fuel E (e :: S) (allocsOf all FL (fun j => memB j (pr.getD e [])) ++ FL) s2 L1 n)
def draw (P : Program) (TT : Types) : Nat → List Oper → List AV → Heap → Nat → Kc → Prop := fun _ all s L n K =>
 match okD all with
 | true => dr P TT all (pres all) (K .normal) (fun x => K (.panic x)) all.length [] [] [] s L n
 | false => False
/-! what the closure of the edges says -/
section
variable {all : List Oper} {D : Nat → Prop}
theorem presGo_spec (hcl : ∀ j o, all[j]? = some o → D j → ∀ i ∈ edgesOf o, D i) : ∀ (r done : List Oper) (acc : List (List Nat)), done ++ r = all → acc.length = done.length →
  (∀ j o, all[j]? = some o → (∀ i ∈ edgesOf o, D i) → ∀ i ∈ acc.getD j [], D i) → ∀ j o, all[j]? = some o → (∀ i ∈ edgesOf o, D i) → ∀ i ∈ (presGo acc r).getD j [], D i
 | [], done, acc, _, _, h => h
 | o :: r, done, acc, hall, hlen, h => by
  unfold presGo
  refine presGo_spec hcl r (done ++ [o]) _ (by simpa using hall) (by simp [hlen]) fun j oj hj he i hi => ?_
  rcases Nat.lt_trichotomy j acc.length with hlt | heq | hgt
  ·rw [List.getD_eq_getElem?_getD, List.getElem?_append_left hlt, ← List.getD_eq_getElem?_getD] at hi
   exact h j oj hj he i hi
  ·subst heq
   rw [List.getD_eq_getElem?_getD, List.getElem?_append_right (Nat.le_refl _)] at hi
   simp only [Nat.sub_self, List.getElem?_cons_zero, Option.getD_some] at hi
   replace hi := (addN_mem _ _ hi).resolve_right (by simp)
   simp only [List.mem_append, List.mem_flatMap] at hi
   have hoj : oj = o := by
    rw [← hall, hlen, List.getElem?_append_right (Nat.le_refl _)] at hj
    simpa using hj.symm
   subst hoj
   rcases hi with hi | ⟨e, he1, he2⟩
   ·exact he i hi
   ·have hD := he e he1
    cases hg : all[e]? with
    | none =>
     have : acc.getD e [] = [] := by
      have h1 := List.getElem?_eq_none_iff.1 hg
      have h2 : done.length ≤ all.length := by rw [← hall]; simp
      rw [List.getD_eq_getElem?_getD, List.getElem?_eq_none (by omega)]; rfl
     rw [this] at he2; cases he2
    | some oe => exact h e oe hg (hcl e oe hg hD) i he2
  ·rw [List.getD_eq_getElem?_getD, List.getElem?_eq_none (by simp; omega)] at hi
   cases hi
theorem pres_spec (hcl : ∀ j o, all[j]? = some o → D j → ∀ i ∈ edgesOf o, D i) {j : Nat} {o : Oper} (hj : all[j]? = some o) (he : ∀ i ∈ edgesOf o, D i) : ∀ i ∈ (pres all).getD j [], D i :=
 presGo_spec hcl all [] [] rfl rfl (fun j o _ _ i hi => by cases hi) j o hj he
end
structure OkD (all : List Oper) : Prop where
 back : ∀ (j : Nat) (o : Oper), all[j]? = some o → ∀ i ∈ edgesOf o, i < j
 dst : ∀ (i j : Nat) (oi oj : Oper) (d : Nat), i ≠ j → all[i]? = some oi → all[j]? = some oj → oi.dst = some d → oj.dst ≠ some d
 own : ∀ (j : Nat) (o : Oper), all[j]? = some o → isE o = false → ∃ d, o.dst = some d ∧ d ∉ looks all o
 own2 : ∀ (j : Nat) (o : Oper) (d : Nat), all[j]? = some o → o.dst = some d → d ∉ looks all o
 looks : ∀ (i j : Nat) (oi oj : Oper) (d : Nat), i ≠ j → all[i]? = some oi → all[j]? = some oj → oi.dst = some d → d ∈ looks all oj → i ∈ (pres all).getD j [] ∨ (isE oi = true ∧ j ∈ (pres all).getD i [])
 alloc : ∀ (j : Nat) (o : Oper), all[j]? = some o → isAl o = true → o.guard = none ∧ ∃ d, o.dst = some d
 sel : ∀ (j : Nat) (o : Oper) (cs : Array SelectCase) (b : Bool), all[j]? = some o → o.op ≠ .select cs b
theorem okD_spec {all : List Oper} (h : okD all = true) : OkD all := by
 unfold okD at h
 simp only [Bool.and_eq_true, List.all_eq_true, List.mem_range] at h
 obtain ⟨h1, h2⟩ := h
 have hlt : ∀ {j : Nat} {o : Oper}, all[j]? = some o → j < all.length := fun hj => (List.getElem?_eq_some_iff.1 hj).1
 have hj1 : ∀ (j : Nat) (o : Oper), all[j]? = some o → (∀ i ∈ edgesOf o, i < j) ∧ ((isE o = false → ∃ d, o.dst = some d ∧ d ∉ Am.looks all o) ∧ ∀ d, o.dst = some d → d ∉ Am.looks all o) ∧ ∀ (i : Nat) (oi : Oper) (d : Nat), i ≠ j → all[i]? = some oi → oi.dst = some d → o.dst ≠ some d ∧ (d ∈ Am.looks all o → i ∈ (pres all).getD j [] ∨ (isE oi = true ∧ j ∈ (pres all).getD i [])) := fun j o hj => by
  have k := h1 j (hlt hj)
  rw [hj] at k
  simp only [Bool.and_eq_true, List.all_eq_true, List.mem_range] at k
  have hdl : ∀ d, o.dst = some d → d ∉ Am.looks all o := fun d hd hm => by
   have k1 := k.2.1
   rw [hd] at k1
   simp only [Bool.not_eq_true'] at k1
   rw [memB_iff.2 hm] at k1; cases k1
  refine ⟨fun i hi => Nat.le_of_ble_eq_true (k.1 i hi), ⟨fun he => ?_, hdl⟩, fun i oi d hne hoi hd => ?_⟩
  ·cases hd : o.dst with
   | none =>
    have k1 := k.2.1
    rw [hd] at k1
    simp only [he] at k1; cases k1
   | some d => exact ⟨d, rfl, hdl d hd⟩
  have k2 := k.2.2 i (hlt hoi)
  rw [hoi] at k2
  simp only [Bool.or_eq_true, hd, Bool.and_eq_true, Bool.not_eq_true'] at k2
  rcases k2 with k2 | ⟨k2, k3⟩
  ·exact absurd (Nat.eq_of_beq_eq_true k2) hne
  ·refine ⟨fun e => ?_, fun hm => ?_⟩
   ·rw [e] at k2
    have : memB d (some d).toList = true := memB_iff.2 (by simp)
    rw [this] at k2; cases k2
   ·rcases k3 with k3 | k3
    ·rw [memB_iff.2 hm] at k3; cases k3
    ·rcases k3 with k3 | ⟨k3, k4⟩
     ·exact .inl (memB_iff.1 k3)
     ·exact .inr ⟨k3, memB_iff.1 k4⟩
 have hall : ∀ (j : Nat) (o : Oper), all[j]? = some o → ((isAl o = false ∨ (o.guard.isNone = true ∧ o.dst.isSome = true)) ∧ ∀ (cs : Array SelectCase) (b : Bool), o.op ≠ .select cs b) := fun j o hj => by
  have k := h2 o (List.mem_of_getElem? hj)
  simp only [Bool.or_eq_true, Bool.not_eq_true', Bool.and_eq_true] at k
  refine ⟨k.1, fun cs b e => ?_⟩
  have k2 := k.2
  rw [e] at k2; cases k2
 refine ⟨fun j o hj => (hj1 j o hj).1, fun i j oi oj d hne hi hj hd => ((hj1 j oj hj).2.2 i oi d hne hi hd).1, fun j o hj => (hj1 j o hj).2.1.1, fun j o d hj => (hj1 j o hj).2.1.2 d, fun i j oi oj d hne hi hj hd => ((hj1 j oj hj).2.2 i oi d hne hi hd).2, fun j o hj ha => ?_, fun j o cs b hj => (hall j o hj).2 cs b⟩
 rcases (hall j o hj).1 with h | ⟨k1, k2⟩
 ·rw [ha] at h; cases h
 ·exact ⟨Option.isNone_iff_eq_none.1 k1, Option.isSome_iff_exists.1 k2⟩
end Go.Am
namespace Go.Am
open Go.RowKit
theorem aq_indep {P : Program} {TT : Types} {L L' : Heap} {ev raw : Operand → AV} {o : Oper} {K : AV → Prop} (h : isLd o = false) (hq : aq P TT L ev raw o K) : aq P TT L' ev raw o K := by
 unfold aq at hq ⊢
 unfold isLd at h
 split at h
 ·cases h
 ·cases ho : o.op <;> rw [ho] at hq <;> first | exact hq | skip
  rename_i hno _ _
  exact absurd ho (hno _ _)
theorem QOk.any {P : Program} {L : Heap} {ev raw : Operand → AV} {o : Oper} {av : AV} (h : QOk P [] ev raw o av) : QOk P L ev raw o av := fun G w ρ hh =>
 h G w ρ ⟨hh.ev, hh.raw, Holds.left (H := []) (R := L) hh.holds, hh.base⟩
theorem QOk.congr {P : Program} {L : Heap} {ev raw ev' raw' : Operand → AV} {o : Oper} {av : AV} (h : QOk P L ev raw o av) (he : ∀ x ∈ o.op.operands, ev' x = ev x) (hr : ∀ x ∈ o.op.operands, raw' x = raw x) : QOk P L ev' raw' o av := fun G w ρ hh =>
 h G w ρ ⟨fun x hx => by rw [← he x hx]; exact hh.ev x hx, fun x hx => by rw [← hr x hx]; exact hh.raw x hx, hh.holds, hh.base⟩
theorem Known.ok {P : Program} {L : Heap} {s : List AV} {o : Oper} {av : AV} (h : Known P L s o av) : QOk P L (ev s) (raw s) o av := by
 unfold Known at h; split at h
 ·exact h
 ·exact h.any
theorem known_of {P : Program} {TT : Types} (hT : TOk P TT) {L : Heap} {s : List AV} {o : Oper} {K : AV → Prop} (h : aq P TT L (ev s) (raw s) o K) : ∃ av, K av ∧ Known P L s o av := by
 unfold Known
 cases hl : isLd o
 ·exact aq_ok hT (aq_indep (L' := []) hl h)
 ·exact aq_ok hT h
theorem known_ofx {P : Program} {TT : Types} (hT : TOk P TT) {L : Heap} {s : List AV} {o : Oper} {K : AV → Prop} (h : aqx P TT L s o K) : ∃ av, K av ∧ Known P L s o av := by
 rcases h with h | ⟨av, h1, h2⟩
 ·exact known_of hT h
 ·exact ⟨av, h2, h1⟩
theorem guarded_cases {all : List Oper} {s : List AV} {o : Oper} {Y N : Prop} (h : guarded all s o Y N) : (Y ∧ ∀ Y' N' : Prop, Y' → guarded all s o Y' N') ∨ (N ∧ ∀ Y' N' : Prop, N' → guarded all s o Y' N') := by
 unfold guarded at h ⊢
 cases hg : o.guard with
 | none => simp only [hg] at h ⊢; exact .inl ⟨h, fun _ _ h => h⟩
 | some p =>
  obtain ⟨j, want⟩ := p
  simp only [hg] at h ⊢
  cases hd : (all[j]?).bind (·.dst) with
  | none => simp only [hd] at h
  | some d =>
   simp only [hd] at h ⊢
   generalize getA s d = x at h ⊢
   cases x with
   | v y =>
    cases y with
    | bool b =>
     cases want <;> cases b <;> simp only [abr] at h ⊢
     ·exact .inl ⟨h, fun _ _ h => h⟩
     ·exact .inr ⟨h, fun _ _ h => h⟩
     ·exact .inr ⟨h, fun _ _ h => h⟩
     ·exact .inl ⟨h, fun _ _ h => h⟩
    | tuple vs => exact .inr ⟨h, fun _ _ h => h⟩
    | _ => exact h.elim
   | _ => exact h.elim
theorem guarded_congr {all : List Oper} {s s' : List AV} {o : Oper} {Y N : Prop} (hs : ∀ t ∈ looks all o, getA s' t = getA s t) (h : guarded all s o Y N) : guarded all s' o Y N := by
 unfold guarded at h ⊢
 split at h
 ·rename_i h0; exact h
 ·rename_i j want h0
  split at h
  ·rename_i d hd
   have : getA s' d = getA s d := hs d (by unfold looks; rw [h0]; simp [hd])
   rw [this]; exact h
  ·exact h
theorem guarded_mono {all : List Oper} {s : List AV} {o : Oper} {Y N Y' N' : Prop} (h : guarded all s o Y N) (hy : Y → Y') (hn : N → N') : guarded all s o Y' N' := by
 rcases guarded_cases h with ⟨h1, h2⟩ | ⟨h1, h2⟩
 ·exact h2 _ _ (hy h1)
 ·exact h2 _ _ (hn h1)
theorem guarded_and {all : List Oper} {s : List AV} {o : Oper} {Y N Y' N' : Prop} (h : guarded all s o Y N) (k : guarded all s o Y' N') : guarded all s o (Y ∧ Y') (N ∧ N') := by
 unfold guarded at h k ⊢
 cases hg : o.guard with
 | none => simp only [hg] at h k ⊢; exact ⟨h, k⟩
 | some p =>
  obtain ⟨j, want⟩ := p
  simp only [hg] at h k ⊢
  cases hd : (all[j]?).bind (·.dst) with
  | none => simp only [hd] at h
  | some d =>
   simp only [hd] at h k ⊢
   generalize getA s d = x at h k ⊢
   cases x with
   | v y =>
    cases y with
    | bool b => cases want <;> cases b <;> simp only [abr] at h k ⊢ <;> exact ⟨h, k⟩
    | tuple vs => exact ⟨h, k⟩
    | _ => exact h.elim
   | _ => exact h.elim
theorem Known.indep {P : Program} {L L' : Heap} {s : List AV} {o : Oper} {av : AV} (hl : isLd o = false) (h : Known P L s o av) : Known P L' s o av := by
 unfold Known at h ⊢; rw [hl] at h ⊢; exact h
theorem Known.sub {P : Program} {L L1 X : Heap} {s : List AV} {o : Oper} {av : AV} (hp : L1.Perm (L ++ X)) (h : Known P L s o av) : Known P L1 s o av := by
 unfold Known at h ⊢
 split at h
 ·exact fun G w ρ hh => h G w ρ ⟨hh.ev, hh.raw, (hh.holds.perm hp).left, hh.base⟩
 ·exact h
theorem ops_looks {all : List Oper} {o : Oper} {t : Nat} (h : .tmp t ∈ o.op.operands) : t ∈ looks all o := by
 unfold looks
 refine List.mem_append_left _ (List.mem_filterMap.2 ⟨.tmp t, by simpa using h, rfl⟩)
theorem ev_congr {s s' : List AV} {x : Operand} (h : ∀ t, x = .tmp t → getA s' t = getA s t) : ev s' x = ev s x ∧ raw s' x = raw s x := by
 cases x with
 | tmp t => simp only [ev, raw]; rw [h t rfl]; exact ⟨rfl, rfl⟩
 | const v => exact ⟨rfl, rfl⟩
 | func f => exact ⟨rfl, rfl⟩
 | global g => exact ⟨rfl, rfl⟩
theorem Known.congr {P : Program} {L : Heap} {s s' : List AV} {all : List Oper} {o : Oper} {av : AV} (h : Known P L s o av) (hs : ∀ t ∈ looks all o, getA s' t = getA s t) : Known P L s' o av := by
 have he : ∀ x ∈ o.op.operands, ev s' x = ev s x ∧ raw s' x = raw s x := fun x hx => ev_congr fun t ht => hs t (ops_looks (ht ▸ hx))
 unfold Known at h ⊢
 split at h
 ·exact h.congr (fun x hx => (he x hx).1) fun x hx => (he x hx).2
 ·exact h.congr (fun x hx => (he x hx).1) fun x hx => (he x hx).2
theorem allocObj_congr {TT : Types} {s s' : List AV} {o : Oper} (h : ∀ d, o.dst = some d → getA s' d = getA s d) : allocObj TT s' o = allocObj TT s o := by
 unfold allocObj
 cases hd : o.dst with
 | none => cases o.op <;> rfl
 | some d =>
  have e := h d hd
  cases o.op <;> simp only [e]
theorem isNoneB_false {α : Type} {x : Option α} (h : isNoneB x = false) : ∃ r, x = some r := by cases x <;> simp [isNoneB] at h; exact ⟨_, rfl⟩
def Lst (listed : Array Bool) (j : Nat) : Prop := listed.getD j false = true
def Undone (all : List Oper) (listed : Array Bool) : Nat → Prop := fun t => ∃ (j : Nat) (o : Oper), all[j]? = some o ∧ ¬ Lst listed j ∧ o.dst = some t ∧ isE o = false
def objAt (TT : Types) (all : List Oper) (s : List AV) (j : Nat) : Option (Nat × Res) := match all[j]? with | some o => allocObj TT s o | none => none
def pendL (TT : Types) (all : List Oper) (s : List AV) (FL : List Nat) (f : Nat → Bool) : Heap := (allocsOf all FL f).filterMap (objAt TT all s)
structure DI (P : Program) (TT : Types) (B : Base) (all : List Oper) (listed : Array Bool) (E S FL : List Nat) (s : List AV) (L : Heap) (n : Nat) (G : Ghost) (a : Act) (w : World) : Prop where
 size : listed.size = all.length
 closed : ∀ (j : Nat) (o : Oper), all[j]? = some o → Lst listed j → ∀ i ∈ edgesOf o, Lst listed i
 eff : ∀ (j : Nat) (o : Oper), all[j]? = some o → isE o = true → (Lst listed j ↔ j ∈ S)
 Sin : ∀ j ∈ S, ∃ o, all[j]? = some o ∧ isE o = true
 Eav : ∀ j ∈ E, ∃ o, all[j]? = some o ∧ isE o = false ∧ availB (pres all) E S j = true
 Ein : ∀ (j : Nat) (o : Oper), all[j]? = some o → isE o = false → Lst listed j → j ∈ E
 rel : Rel B (Undone all listed) G ⟨s, L ++ pendL TT all s FL (fun j => listed.getD j false), n⟩ a w
 quiet : ∀ j ∈ E, ∀ o, all[j]? = some o → isAl o = false → ¬ Lst listed j → guarded all s o (∃ av, Known P L s o av ∧ ∀ d, o.dst = some d → d < s.length → getA s d = av) (∀ d, o.dst = some d → d < s.length → getA s d = .v (.tuple #[]))
 alloc : ∀ j ∈ E, ∀ o, all[j]? = some o → isAl o = true → ∃ r, allocObj TT s o = some r ∧ r.1 < n ∧ B.k ≤ r.1 ∧ (¬ Lst listed j → ¬ G.live r.1)
 inj : ∀ i ∈ E, ∀ j ∈ E, i ≠ j → ∀ oi oj ri rj, all[i]? = some oi → all[j]? = some oj → isAl oi = true → isAl oj = true → allocObj TT s oi = some ri → allocObj TT s oj = some rj → ri.1 ≠ rj.1
section
variable {P : Program} {TT : Types} {B : Base} {all : List Oper} {listed : Array Bool} {E S FL : List Nat} {s : List AV} {L : Heap} {n : Nat} {G : Ghost} {a : Act} {w : World}
theorem alloc_noE {o : Oper} (h : isAl o = true) : isE o = false := by
 unfold isAl at h; unfold isE opKind
 split at h
 ·rename_i t ho; rw [ho]
 ·cases h
theorem not_looked (hk : OkD all) {i j : Nat} {oi oj : Oper} {d : Nat} (hi : all[i]? = some oi) (hj : all[j]? = some oj) (hd : oi.dst = some d) (hne : i ≠ j) (hp : i ∉ (pres all).getD j []) (hq : isE oi = true → j ∉ (pres all).getD i []) : d ∉ looks all oj :=
 fun hm => (hk.looks i j oi oj d hne hi hj hd hm).elim hp fun h => hq h.1 h.2
theorem DI.pre (h : DI P TT B all listed E S FL s L n G a w) {j : Nat} (hj : j ∈ E) : ∀ i ∈ (pres all).getD j [], i ∈ E ∨ i ∈ S := fun i hi => by
 obtain ⟨o, _, _, h3⟩ := h.Eav j hj
 unfold availB at h3
 have := List.all_eq_true.1 h3 i hi
 rw [Bool.or_eq_true, memB_iff, memB_iff] at this
 exact this
theorem availB_mono {pr : List (List Nat)} {E E' S S' : List Nat} {j : Nat} (h : availB pr E S j = true) (he : ∀ i ∈ E, i ∈ E') (hs : ∀ i ∈ S, i ∈ S') : availB pr E' S' j = true := by
 unfold availB at h ⊢
 refine List.all_eq_true.2 fun i hi => ?_
 have := List.all_eq_true.1 h i hi
 rw [Bool.or_eq_true, memB_iff, memB_iff] at this ⊢
 exact this.imp (he i) (hs i)
theorem pendL_congr {s s' : List AV} {f : Nat → Bool} (h : ∀ (j : Nat) (o : Oper), all[j]? = some o → isAl o = true → f j = true → allocObj TT s' o = allocObj TT s o) : pendL TT all s' FL f = pendL TT all s FL f := by
 unfold pendL allocsOf
 refine filterMap_same fun j hj => ?_
 have h1 := (List.mem_filter.1 hj).2
 unfold objAt
 cases ho : all[j]? with
 | none => rfl
 | some o =>
  rw [ho] at h1
  simp only [Bool.and_eq_true] at h1
  exact h j o ho h1.1 h1.2.2
theorem DI.more (hk : OkD all) (h : DI P TT B all listed E S FL s L n G a w) {j d : Nat} {o : Oper} (hj : all[j]? = some o) (he : isE o = false) (hjE : j ∉ E) (hav : availB (pres all) E S j = true) (hd : o.dst = some d) {x : AV} {n' : Nat} (hn : n ≤ n')
  (hq : isAl o = false → guarded all (setA s d x) o (∃ av, Known P L (setA s d x) o av ∧ ∀ e, o.dst = some e → e < (setA s d x).length → getA (setA s d x) e = av) (∀ e, o.dst = some e → e < (setA s d x).length → getA (setA s d x) e = .v (.tuple #[])))
  (ha : isAl o = true → ∃ r, allocObj TT (setA s d x) o = some r ∧ r.1 = n ∧ r.1 < n') : DI P TT B all listed (j :: E) S FL (setA s d x) L n' G a w := by
 have hnl : ¬ Lst listed j := fun hl => hjE (h.Ein j o hj he hl)
 have hne : ∀ t, t ≠ d → getA (setA s d x) t = getA s t := fun t ht => by rw [getA_setA, if_neg (by rintro ⟨rfl, _⟩; exact ht rfl)]
 have hlen : (setA s d x).length = s.length := by rw [setA_eq]; simp
 have hold : ∀ i ∈ E, ∀ oi, all[i]? = some oi → (∀ t ∈ looks all oi, getA (setA s d x) t = getA s t) ∧ ∀ e, oi.dst = some e → getA (setA s d x) e = getA s e := fun i hi oi hoi => by
  have hij : j ≠ i := fun e => hjE (e ▸ hi)
  refine ⟨fun t ht => hne t fun e => ?_, fun e hde => hne e fun ee => ?_⟩
  ·subst e
   refine not_looked hk hj hoi hd hij (fun hm => ?_) (fun h1 => by rw [he] at h1; cases h1) ht
   rcases h.pre hi j hm with h1 | h1
   ·exact hjE h1
   ·obtain ⟨o', h2, h3⟩ := h.Sin j h1
    rw [hj] at h2; cases h2; rw [he] at h3; cases h3
  ·subst ee
   exact hk.dst j i o oi e hij hj hoi hd hde
 have hpend : pendL TT all (setA s d x) FL (fun j => listed.getD j false) = pendL TT all s FL (fun j => listed.getD j false) := pendL_congr fun i oi hoi hal hl => by
  have hiE := h.Ein i oi hoi (alloc_noE hal) hl
  exact allocObj_congr fun e hde => (hold i hiE oi hoi).2 e hde
 refine ⟨h.size, h.closed, h.eff, h.Sin, fun i hi => ?_, fun i oi hoi hie hl => List.mem_cons_of_mem _ (h.Ein i oi hoi hie hl), ?_, fun i hi oi hoi hal hl => ?_, fun i hi oi hoi hal => ?_, ?_⟩
 ·rcases List.mem_cons.1 hi with rfl | hi
  ·exact ⟨o, hj, he, availB_mono hav (fun _ h => List.mem_cons_of_mem _ h) fun _ h => h⟩
  ·obtain ⟨oi, h1, h2, h3⟩ := h.Eav i hi
   exact ⟨oi, h1, h2, availB_mono h3 (fun _ h => List.mem_cons_of_mem _ h) fun _ h => h⟩
 ·rw [hpend]
  refine ⟨by rw [h.rel.size]; exact hlen.symm, fun t ht => ?_, h.rel.defers, h.rel.holds, h.rel.step, fun id hid => Nat.lt_of_lt_of_le (h.rel.next id hid) hn, h.rel.base, Nat.le_trans h.rel.low hn, h.rel.old⟩
  show Slot G (getA (setA s d x) t) _
  rw [hne t fun e => ht ⟨j, o, hj, hnl, e ▸ hd, he⟩]
  exact h.rel.slots t ht
 ·rcases List.mem_cons.1 hi with rfl | hi
  ·rw [hj] at hoi; cases hoi; exact hq hal
  ·obtain ⟨h1, h2⟩ := hold i hi oi hoi
   refine guarded_congr h1 (guarded_mono (h.quiet i hi oi hoi hal hl) (fun ⟨av, k1, k2⟩ => ⟨av, k1.congr h1, fun e hde hlt => ?_⟩) fun k e hde hlt => ?_)
   ·rw [h2 e hde]; exact k2 e hde (by rw [← hlen]; exact hlt)
   ·rw [h2 e hde]; exact k e hde (by rw [← hlen]; exact hlt)
 ·rcases List.mem_cons.1 hi with rfl | hi
  ·rw [hj] at hoi; cases hoi
   obtain ⟨r, k1, k2, k3⟩ := ha hal
   exact ⟨r, k1, k3, by rw [k2]; exact h.rel.low, fun _ hl => by have := h.rel.next _ hl; simp only at this; omega⟩
  ·obtain ⟨r, k1, k2, k3⟩ := h.alloc i hi oi hoi hal
   exact ⟨r, by rw [allocObj_congr (hold i hi oi hoi).2]; exact k1, Nat.lt_of_lt_of_le k2 hn, k3⟩
 ·intro i hm i' hm' hii oi oj ri rj hoi hoj hai haj hri hrj
  rcases List.mem_cons.1 hm with rfl | hi <;> rcases List.mem_cons.1 hm' with rfl | hi'
  ·exact absurd rfl hii
  ·rw [hj] at hoi; cases hoi
   obtain ⟨r, k1, k2, k3⟩ := ha hai
   rw [k1] at hri; cases hri
   rw [allocObj_congr (hold i' hi' oj hoj).2] at hrj
   obtain ⟨r', m1, m2, _⟩ := h.alloc i' hi' oj hoj haj
   rw [m1] at hrj; cases hrj
   omega
  ·rw [hj] at hoj; cases hoj
   obtain ⟨r, k1, k2, k3⟩ := ha haj
   rw [k1] at hrj; cases hrj
   rw [allocObj_congr (hold i hi oi hoi).2] at hri
   obtain ⟨r', m1, m2, _⟩ := h.alloc i hi oi hoi hai
   rw [m1] at hri; cases hri
   omega
  ·rw [allocObj_congr (hold i hi oi hoi).2] at hri
   rw [allocObj_congr (hold i' hi' oj hoj).2] at hrj
   exact h.inj i hi i' hi' hii oi oj ri rj hoi hoj hai haj hri hrj
theorem evGo_sound (hT : TOk P TT) (hk : OkD all) {k : List Nat → List AV → Nat → Prop} {X : Prop} : ∀ (js E : List Nat) (s : List AV) (n : Nat), evGo P TT all (pres all) S L js E s n k → DI P TT B all listed E S FL s L n G a w →
  (∀ E' s' n', k E' s' n' → DI P TT B all listed E' S FL s' L n' G a w → X) → X
 | [], E, s, n, h, hi, hX => hX E s n h hi
 | j :: js, E, s, n, h, hi, hX => by
  unfold evGo at h
  split at h
  ·exact evGo_sound hT hk js E s n h hi hX
  ·rename_i o hj
   split at h
   ·exact evGo_sound hT hk js E s n h hi hX
   ·rename_i hc
    simp only [Bool.or_eq_false_iff, Bool.not_eq_false'] at hc
    obtain ⟨c1, c2, c3⟩ := hc
    have hjE : j ∉ E := fun hm => by rw [memB_iff.2 hm] at c2; cases c2
    obtain ⟨d, hd, hown⟩ := hk.own j o hj c1
    have hne : ∀ x, ∀ t ∈ looks all o, getA (setA s d x) t = getA s t := fun x t ht => by rw [getA_setA, if_neg (by rintro ⟨rfl, _⟩; exact hown ht)]
    split at h
    ·rename_i hal
     rw [putD_eq, hd] at h
     simp only [putS] at h
     split at h
     ·exact h.elim
     ·rename_i hob
      obtain ⟨r, hr⟩ := isNoneB_false hob
      have hr1 : r.1 = n := by
       unfold allocObj at hr
       rw [hd] at hr
       split at hr
       ·rename_i t d' ho hdd
        cases hdd
        split at hr
        ·rename_i ti id hti hg
         rw [getA_setA] at hg
         split at hr
         ·cases hr
          split at hg
          ·cases hg; rfl
          ·rename_i hlt
           have : getA s d = .dead := by rw [getA_eq, List.getD, List.getElem?_eq_none (by simpa using hlt)]; rfl
           rw [this] at hg; cases hg
         ·cases hr
        ·cases hr
       ·cases hr
      exact evGo_sound hT hk js _ _ _ h (hi.more hk hj c1 hjE c3 hd (Nat.le_succ n) (fun hna => by rw [hal] at hna; cases hna) fun _ => ⟨r, hr, hr1, by omega⟩) hX
    ·rename_i hal
     rcases guarded_cases h with ⟨h1, h2⟩ | ⟨h1, h2⟩
     ·obtain ⟨av, k1, k2⟩ := known_ofx hT h1
      rw [fv_eq, putD_eq, hd] at k1
      refine evGo_sound hT hk js _ _ _ k1 (hi.more hk hj c1 hjE c3 hd (Nat.le_refl n) (fun _ => guarded_congr (hne av) (h2 _ _ ⟨av, k2.congr (hne av), fun e hde hlt => ?_⟩)) fun hna => by rw [hal] at hna; cases hna) hX
      rw [hd] at hde; cases hde
      have hlt' : d < s.length := by rw [setA_eq] at hlt; simpa using hlt
      rw [getA_setA, if_pos ⟨rfl, hlt'⟩]
     ·rw [putD_eq, hd] at h1
      refine evGo_sound hT hk js _ _ _ h1 (hi.more hk hj c1 hjE c3 hd (Nat.le_refl n) (fun _ => guarded_congr (hne _) (h2 _ _ fun e hde hlt => ?_)) fun hna => by rw [hal] at hna; cases hna) hX
      rw [hd] at hde; cases hde
      have hlt' : d < s.length := by rw [setA_eq] at hlt; simpa using hlt
      rw [getA_setA, if_pos ⟨rfl, hlt'⟩]
end
end Go.Am
namespace Go.Am
open Go.RowKit
theorem part_perm {α : Type} (p q : α → Bool) : ∀ l : List α, (l.filter p).Perm (l.filter (fun x => p x && q x) ++ l.filter (fun x => p x && !(q x)))
 | [] => .refl _
 | x :: l => by
  have ih := part_perm p q l
  cases hp : p x <;> cases hq : q x <;> simp only [List.filter_cons, hp, hq, Bool.true_and, Bool.false_and, Bool.not_true, Bool.not_false, if_true, Bool.false_eq_true, if_false]
  ·exact ih
  ·exact ih
  ·exact (ih.cons x).trans List.perm_middle.symm
  ·exact ih.cons x
theorem one_perm {p : Nat → Bool} {j : Nat} : ∀ {l : List Nat}, l.Nodup → j ∈ l → p j = false → (l.filter (fun x => p x || x == j)).Perm (j :: l.filter p)
 | [], _, h, _ => by cases h
 | x :: l, hn, hm, hp => by
  obtain ⟨n1, n2⟩ := List.nodup_cons.1 hn
  by_cases hx : x = j
  ·subst hx
   simp only [List.filter_cons, hp, beq_self_eq_true, Bool.or_true, if_true, Bool.false_eq_true, if_false]
   have : l.filter (fun y => p y || y == x) = l.filter p := List.filter_congr fun y hy => by
    have : (y == x) = false := by simp; rintro rfl; exact n1 hy
    rw [this, Bool.or_false]
   rw [this]
  ·have hm' : j ∈ l := (List.mem_cons.1 hm).resolve_left (Ne.symm hx)
   have ih := one_perm n2 hm' hp
   have hxj : (x == j) = false := by simpa using hx
   cases hpx : p x <;> simp only [List.filter_cons, hpx, hxj, Bool.or_false, if_true, Bool.false_eq_true, if_false]
   ·exact ih
   ·exact (ih.cons x).trans (.swap _ _ _)
theorem flush_spec {TT : Types} {all : List Oper} {s : List AV} {k : Heap → Prop} : ∀ (js : List Nat) (L : Heap), flush TT all s js L k → ∃ L', L'.Perm (js.filterMap (objAt TT all s) ++ L) ∧ k L'
 | [], L, h => ⟨L, .refl _, h⟩
 | j :: js, L, h => by
  unfold flush at h
  split at h
  ·rename_i o hj
   obtain ⟨r, hr, h1⟩ := opt1_some h
   obtain ⟨L', h2, h3⟩ := flush_spec js _ h1
   refine ⟨L', ?_, h3⟩
   have : objAt TT all s j = some r := by unfold objAt; rw [hj]; exact hr
   rw [List.filterMap_cons, this]
   exact h2.trans List.perm_middle
  ·exact h.elim
theorem lst_set {listed : Array Bool} {i j : Nat} (hi : i < listed.size) : Lst (listed.setIfInBounds i true) j ↔ (Lst listed j ∨ j = i) := by
 unfold Lst
 by_cases h : i = j
 ·subst h
  simp [hi]
 ·simp only [Array.getD_eq_getD_getElem?, Array.getElem?_setIfInBounds, if_neg h]
  constructor
  ·exact .inl
  ·rintro (h1 | h1)
   ·exact h1
   ·exact absurd h1.symm h
theorem lst_set_b {listed : Array Bool} {i j : Nat} (hi : i < listed.size) : (listed.setIfInBounds i true).getD j false = (listed.getD j false || j == i) := by
 have := lst_set (j := j) hi
 unfold Lst at this
 cases h1 : (listed.setIfInBounds i true).getD j false <;> cases h2 : listed.getD j false <;> cases h3 : (j == i) <;> simp_all
section
variable {P : Program} {TT : Types} {B : Base} {all : List Oper} {listed : Array Bool} {E S FL : List Nat} {s : List AV} {L : Heap} {n : Nat} {G : Ghost} {a : Act} {w : World}
theorem Rel.fill {U : Nat → Prop} {σ : ASt} (h : Rel B U G σ a w) {d : Nat} {v : Value} (hx : d < σ.slots.length → Slot G (getA σ.slots d) v) : Rel B (fun t => U t ∧ d ≠ t) G σ (a.put (some d) v) w := by
 refine ⟨by simp [Act.put, h.size], fun t ht => ?_, h.defers, h.holds, h.step, h.next, h.base, h.low, h.old⟩
 simp only [Act.put]
 by_cases hd : d = t
 ·subst hd
  by_cases hl : d < σ.slots.length
  ·have hl' : d < a.tmps.size := by rw [h.size]; exact hl
   simp only [Array.getD_eq_getD_getElem?, Array.getElem?_setIfInBounds, if_pos hl', if_true, Option.getD_some]
   exact hx hl
  ·have : getA σ.slots d = .dead := by rw [getA_eq, List.getD, List.getElem?_eq_none (Nat.not_lt.1 hl)]; rfl
   rw [this]
   exact .of (.data _ _ (.dead _))
 ·have : (a.tmps.setIfInBounds d v).getD t undef = a.tmps.getD t undef := by
   simp only [Array.getD_eq_getD_getElem?, Array.getElem?_setIfInBounds, if_neg hd]
  rw [this]
  exact h.slots t fun hu => ht ⟨hu, hd⟩
theorem range_mem {j : Nat} {o : Oper} (h : all[j]? = some o) : j ∈ List.range all.length := List.mem_range.2 (List.getElem?_eq_some_iff.1 h).1
theorem pend_part {lf f : Nat → Bool} (h : ∀ j, f j = true → lf j = true) : (pendL TT all s FL lf).Perm ((allocsOf all FL f).filterMap (objAt TT all s) ++ pendL TT all s (allocsOf all FL f ++ FL) lf) := by
 unfold pendL
 rw [← List.filterMap_append]
 refine List.Perm.filterMap _ ?_
 have h1 := part_perm (fun j => match all[j]? with | some o => isAl o && (!(memB j FL) && lf j) | none => false) f (List.range all.length)
 have e1 : (List.range all.length).filter (fun x => (match all[x]? with | some o => isAl o && (!(memB x FL) && lf x) | none => false) && f x) = allocsOf all FL f := by
  unfold allocsOf
  refine List.filter_congr fun x _ => ?_
  cases all[x]? with
  | none => rfl
  | some o =>
   simp only
   cases hf : f x
   ·simp
   ·rw [h x hf]; simp
 have e2 : (List.range all.length).filter (fun x => (match all[x]? with | some o => isAl o && (!(memB x FL) && lf x) | none => false) && !(f x)) = allocsOf all (allocsOf all FL f ++ FL) lf := by
  show _ = (List.range all.length).filter _
  refine List.filter_congr fun x hx => ?_
  cases ho : all[x]? with
  | none => rfl
  | some o =>
   simp only
   have hm : memB x (allocsOf all FL f ++ FL) = ((isAl o && (!(memB x FL) && f x)) || memB x FL) := by
    rw [Bool.eq_iff_iff, memB_iff, List.mem_append, Bool.or_eq_true, memB_iff]
    refine or_congr_left ?_
    unfold allocsOf
    rw [List.mem_filter, ho]
    simp only [hx, true_and]
   rw [hm]
   cases isAl o <;> cases memB x FL <;> cases f x <;> cases lf x <;> rfl
 rw [e1, e2] at h1
 exact h1
theorem pend_same {i : Nat} {o : Oper} (hi : all[i]? = some o) (hal : isAl o = false) (hsz : i < listed.size) : pendL TT all s FL (fun j => (listed.setIfInBounds i true).getD j false) = pendL TT all s FL (fun j => listed.getD j false) := by
 unfold pendL allocsOf
 congr 1
 refine List.filter_congr fun x _ => ?_
 cases ho : all[x]? with
 | none => rfl
 | some o' =>
  simp only
  by_cases hx : x = i
  ·subst hx; rw [hi] at ho; cases ho; rw [hal]; simp
  ·rw [lst_set_b hsz]
   have : (x == i) = false := by simpa using hx
   rw [this, Bool.or_false]
theorem pend_more {i : Nat} {o : Oper} {r : Nat × Res} (hi : all[i]? = some o) (hal : isAl o = true) (hsz : i < listed.size) (hnl : ¬ Lst listed i) (hFL : i ∉ FL) (hr : allocObj TT s o = some r) :
  (pendL TT all s FL (fun j => (listed.setIfInBounds i true).getD j false)).Perm (r :: pendL TT all s FL (fun j => listed.getD j false)) := by
 unfold pendL
 have hob : objAt TT all s i = some r := by unfold objAt; rw [hi]; exact hr
 have e : r :: (allocsOf all FL (fun j => listed.getD j false)).filterMap (objAt TT all s) = (i :: allocsOf all FL (fun j => listed.getD j false)).filterMap (objAt TT all s) := by rw [List.filterMap_cons, hob]
 rw [e]
 refine List.Perm.filterMap _ ?_
 have hF : memB i FL = false := by
  cases h : memB i FL
  ·rfl
  ·exact absurd (memB_iff.1 h) hFL
 have hL : listed.getD i false = false := by
  cases h : listed.getD i false
  ·rfl
  ·exact absurd h hnl
 have h1 := one_perm (p := fun j => match all[j]? with | some o => isAl o && (!(memB j FL) && listed.getD j false) | none => false) (j := i) (List.nodup_range (n := all.length)) (range_mem hi) (by simp only [hi, hL]; simp)
 unfold allocsOf
 refine .trans (.of_eq ?_) h1
 refine List.filter_congr fun x _ => ?_
 have hb := lst_set_b (j := x) hsz
 by_cases hx : x = i
 ·subst hx; simp only [hi, hal, hF, hb]; simp
 ·have : (x == i) = false := by simpa using hx
  rw [this, Bool.or_false] at hb
  simp only [hb, this, Bool.or_false]
  try (cases all[x]? <;> rfl)
theorem killA_get : ∀ (l : List Oper) (s : List AV) (t : Nat), getA (l.foldl (fun s o => putS s o.dst .dead) s) t = .dead ∨ (getA (l.foldl (fun s o => putS s o.dst .dead) s) t = getA s t ∧ ∀ o ∈ l, o.dst ≠ some t)
 | [], s, t => .inr ⟨rfl, fun o h => by cases h⟩
 | o :: l, s, t => by
  simp only [List.foldl_cons]
  rcases killA_get l (putS s o.dst .dead) t with h | ⟨h1, h2⟩
  ·exact .inl h
  ·cases hd : o.dst with
   | none =>
    rw [hd] at h1
    exact .inr ⟨h1, List.forall_mem_cons.2 ⟨by rw [hd]; simp, h2⟩⟩
   | some d =>
    rw [hd] at h1
    have h1' : _ = getA (setA s d .dead) t := h1
    rw [getA_setA] at h1'
    by_cases hdt : d = t
    ·subst hdt
     left
     rw [h1']
     split
     ·rfl
     ·rename_i hlt
      rw [getA_eq, List.getD, List.getElem?_eq_none (by simpa using hlt)]; rfl
    ·rw [if_neg (by simp [hdt])] at h1'
     exact .inr ⟨h1', List.forall_mem_cons.2 ⟨by rw [hd]; simpa using hdt, h2⟩⟩
theorem killA_len (all : List Oper) : ∀ s : List AV, (killA all s).length = s.length := by
 unfold killA
 induction all with
 | nil => intro s; rfl
 | cons o l ih =>
  intro s
  simp only [List.foldl_cons]
  rw [ih]
  cases o.dst <;> simp [putS, setA_eq]
theorem DI.done (hk : OkD all) (h : DI P TT B all listed E S FL s L n G a w) {i : Nat} {o : Oper} (hi : all[i]? = some o) (hedge : ∀ j ∈ edgesOf o, Lst listed j) : ∀ (j : Nat) (oj : Oper), all[j]? = some oj → Lst (listed.setIfInBounds i true) j → ∀ x ∈ edgesOf oj, Lst (listed.setIfInBounds i true) x := by
 have hsz : i < listed.size := by rw [h.size]; exact (List.getElem?_eq_some_iff.1 hi).1
 intro j oj hj hl x hx
 rw [lst_set hsz] at hl ⊢
 rcases hl with hl | rfl
 ·exact .inl (h.closed j oj hj hl x hx)
 ·rw [hi] at hj; cases hj
  exact .inl (hedge x hx)
theorem DI.preL (h : DI P TT B all listed E S FL s L n G a w) {i : Nat} {o : Oper} (hi : all[i]? = some o) (hedge : ∀ j ∈ edgesOf o, Lst listed j) : ∀ j ∈ (pres all).getD i [], Lst listed j :=
 pres_spec (D := Lst listed) h.closed hi hedge
end
end Go.Am
