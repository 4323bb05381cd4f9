/- Part 9 of what the laws CmdBack rest on: AmOp, Vd, RxC, RxD, ChA, ChB, ChC, Vi, RyA, OcR, RyC, Vj, RyD, RyB, RyE, RyF, CtA, ChD, ChG, CtB. -/
import Derived.Test.YtncffhgoopdfgaaP8
import Derived.ChangeSlices
import Derived.ShutString
set_option linter.unusedSimpArgs false
set_option linter.unusedVariables false
namespace Go.Am
open Go.RowKit Go.ChangeShapes Go.WideShapes
def cellsX (w : World) : Nat → Nat → Option Value := fun b i => w.cell? ⟨b, i, none⟩
def RowSim (X : Nat → Nat → Option Value) (row : List AV) (cs : List Value) : Prop :=
 row.length = cs.length ∧ ∀ (j : Nat) a y, row[j]? = some a → cs[j]? = some y → SimD X a y ∧ y.oneCell' = true
section
variable {H : Type} (enc : TypeId × Value → H) (P : Program) (w : World) (base : Nat) (sp : Nat → Bool) (held : Bool)
def Opn (t : TypeId) (R : List AV → Prop) : Prop := ∀ fuel cs x, DataW.trod enc P w base sp held fuel t cs = some x → ∃ row, RowSim (cellsX w) row cs ∧ R row
end
section
variable {H : Type} {enc : TypeId × Value → H} {P : Program} {w : World} {base : Nat} {sp : Nat → Bool} {held : Bool}
theorem RowSim.one {X : Nat → Nat → Option Value} {a : AV} {y : Value} (h : SimD X a y) (h1 : y.oneCell' = true) : RowSim X [a] [y] :=
 ⟨rfl, fun j b z hb hz => by
  cases j with
  | zero => simp at hb hz; subst hb; subst hz; exact ⟨h, h1⟩
  | succ j => simp at hb⟩
theorem RowSim.app {X : Nat → Nat → Option Value} {r s : List AV} {c d : List Value} (h : RowSim X r c) (k : RowSim X s d) : RowSim X (r ++ s) (c ++ d) :=
 ⟨by simp [h.1, k.1], fun j a y ha hy => by
  rw [List.getElem?_append] at ha hy
  rw [h.1] at ha
  split at ha
  ·rw [if_pos (by assumption)] at hy; exact h.2 j a y ha hy
  ·rw [if_neg (by assumption)] at hy; exact k.2 _ a y ha hy⟩
theorem opn_int {t : TypeId} {k : IntKind} (ht : P.underlying t = some (.int k)) : Opn enc P w base sp held t fun row => ∃ n, row = [.v (.int k n)] ∧ k.min ≤ n ∧ n ≤ k.max := fun fuel cs x h => by
 obtain ⟨n, rfl, _, hw⟩ := DataW.trod_int ht h
 simp only [Lit.wf, Bool.and_eq_true, decide_eq_true_eq] at hw
 exact ⟨_, .one (.v _) rfl, n, rfl, hw⟩
theorem opn_bool {t : TypeId} (ht : P.underlying t = some .bool) : Opn enc P w base sp held t fun row => ∃ b, row = [.v (.bool b)] := fun fuel cs x h => by
 obtain ⟨b, rfl, _⟩ := DataW.trod_bool ht h
 exact ⟨_, .one (.v _) rfl, b, rfl⟩
theorem opn_float {t : TypeId} (ht : P.underlying t = some (.float .f64)) : Opn enc P w base sp held t fun row => ∃ b, row = [.v (.float .f64 b)] ∧ b < 18446744073709551616 := fun fuel cs x h => by
 cases fuel with
 | zero => simp [DataW.trod] at h
 | succ n =>
  unfold DataW.trod at h
  rw [ht] at h
  match cs, h with
  | [.float k' b], h =>
   simp only at h
   split at h
   ·rename_i hw
    obtain ⟨rfl, hw⟩ := hw
    simp only [Lit.wf, decide_eq_true_eq] at hw
    exact ⟨_, .one (.v _) rfl, b, rfl, hw⟩
   ·cases h
theorem cells_get {a : Addr} {n : Nat} {cs : List Value} (h : w.cells? base a n = some cs) : cs.length = n ∧ ∀ j, j < n → w.cell? (a.add j) = cs[j]? := by
 unfold World.cells? at h
 split at h
 ·have h1 := mapM_some_length h
  refine ⟨by simpa using h1, fun j hj => ?_⟩
  have h2 := mapM_some_get h j j (by simp [hj])
  exact h2
 ·cases h
theorem cell_spot {a : Addr} {v : Value} (h : w.cell? a = some v) : a.spot = none := by
 unfold World.cell? at h
 split at h
 ·split at h
  ·cases h
  ·rename_i h1; simpa using h1
 ·cases h
theorem add_at {a : Addr} (h : a.spot = none) (n : Nat) : a.add n = ⟨a.block, a.off + n, none⟩ := by
 obtain ⟨b, o, s⟩ := a
 simp only at h
 subst h
 unfold Addr.add
 split
 ·rename_i h0; subst h0; rfl
 ·rfl
theorem opn_slice {t e : TypeId} {s : Nat} {R : List AV → Prop} (ht : P.underlying t = some (.slice e)) (hs : P.cellsOf e = s) (h0 : 0 < s) (he : Opn enc P w base sp held e R) :
  Opn enc P w base sp held t fun row => ∃ rows, row = [.list rows .free] ∧ rows.length ≤ maxLen ∧ ∀ r ∈ rows, R r ∧ r.length = s := fun fuel cs x h => by
 rcases DataW.trod_slice ht h with ⟨rfl, _⟩ | ⟨a, len, cap, elems, rest, n, _, rfl, _, hb, hl, hm, hlen, hel, _, _⟩
 ·exact ⟨_, .one (.nil .free none 0 (Nat.zero_le _) (fun h => by cases h) (.inl rfl)) rfl, [], rfl, Nat.zero_le _, fun r hr => (List.not_mem_nil hr).elim⟩
 subst hs
 have each : ∀ i, i < len → ∃ row cs', RowSim (cellsX w) row cs' ∧ R row ∧ cs'.length = P.cellsOf e ∧ ∀ j, j < P.cellsOf e → w.cell? ((a.add (i * P.cellsOf e)).add j) = cs'[j]? := fun i hi => by
  have h1 := hel i hi
  have hi' : i < elems.length := by omega
  rw [List.getElem?_eq_getElem hi', Option.bind_eq_some_iff] at h1
  obtain ⟨cs', hcs, hy⟩ := h1
  obtain ⟨row, k1, k2⟩ := he _ _ _ hy
  obtain ⟨k3, k4⟩ := cells_get hcs
  exact ⟨row, cs', k1, k2, k3, k4⟩
 rcases Nat.eq_zero_or_pos len with rfl | hpos
 ·exact ⟨_, .one (.nil .free (some a) cap hm (fun h => by cases h) (.inl rfl)) rfl, [], rfl, Nat.zero_le _, fun r hr => (List.not_mem_nil hr).elim⟩
 have hspot : a.spot = none := by
  obtain ⟨row, cs', k1, k2, k3, k4⟩ := each 0 hpos
  have h2 := k4 0 h0
  have : cs'[0]? = some cs'[0] := List.getElem?_eq_getElem (by omega)
  rw [this] at h2
  have e : ((a.add (0 * P.cellsOf e)).add 0) = a := by simp [Addr.add]
  rw [e] at h2
  exact cell_spot h2
 have hex : ∀ m, m ≤ len → ∃ rows : List (List AV), rows.length = m ∧ (∀ r ∈ rows, R r ∧ r.length = P.cellsOf e) ∧ ∀ i row, rows[i]? = some row → ∃ cs', RowSim (cellsX w) row cs' ∧ cs'.length = P.cellsOf e ∧ ∀ j, j < P.cellsOf e → w.cell? ((a.add (i * P.cellsOf e)).add j) = cs'[j]? := by
  intro m
  induction m with
  | zero => intro _; exact ⟨[], rfl, fun r hr => (List.not_mem_nil hr).elim, fun i row h => by simp at h⟩
  | succ m ih =>
   intro hm'
   obtain ⟨rows, r1, r2, r3⟩ := ih (by omega)
   obtain ⟨row, cs', k1, k2, k3, k4⟩ := each m (by omega)
   refine ⟨rows ++ [row], by simp [r1], fun r hr => ?_, fun i row' h => ?_⟩
   ·rcases List.mem_append.1 hr with hr | hr
    ·exact r2 r hr
    ·obtain rfl := List.mem_singleton.1 hr
     exact ⟨k2, by rw [k1.1, k3]⟩
   ·rw [List.getElem?_append] at h
    split at h
    ·exact r3 i row' h
    ·rename_i hge
     have hi : i = m := by
      have := (List.getElem?_eq_some_iff.1 h).1
      simp at this; omega
     subst hi
     rw [r1, Nat.sub_self] at h
     simp at h
     subst h
     exact ⟨cs', k1, k3, k4⟩
 obtain ⟨rows, r1, r2, r3⟩ := hex len (Nat.le_refl _)
 obtain ⟨b, off, sp'⟩ := a
 simp only at hspot
 subst hspot
 refine ⟨_, .one (?_ : SimD (cellsX w) (.list rows .free) _) rfl, rows, rfl, by rw [r1]; exact Nat.le_trans hl hm, r2⟩
 have key : ∀ i row j av, rows[i]? = some row → row[j]? = some av → ∃ y, cellsX w b (off + i * P.cellsOf e + j) = some y ∧ SimD (cellsX w) av y ∧ y.oneCell' = true := fun i row j av h1 h2 => by
  obtain ⟨cs', k1, k3, k4⟩ := r3 i row h1
  have hj : j < P.cellsOf e := by
   have := (List.getElem?_eq_some_iff.1 h2).1
   rw [k1.1, k3] at this; exact this
  have hj' : j < cs'.length := by omega
  have h4 := k4 j hj
  rw [List.getElem?_eq_getElem hj'] at h4
  obtain ⟨m1, m2⟩ := k1.2 j av cs'[j] h2 (List.getElem?_eq_getElem hj')
  refine ⟨cs'[j], ?_, m1, m2⟩
  rw [add_at (a := ⟨b, off, none⟩) rfl, add_at rfl] at h4
  exact h4
 have := SimD.list (X := cellsX w) rows .free b off cap (P.cellsOf e) (fun i j => (cellsX w b (off + i * P.cellsOf e + j)).getD undef) (by omega) hm (fun h => by cases h) (.inl rfl) (fun r hr => (r2 r hr).2)
  (fun i row j av h1 h2 => by obtain ⟨y, e1, _⟩ := key i row j av h1 h2; rw [e1]; rfl) (fun i row j av h1 h2 => by obtain ⟨y, e1, e2, _⟩ := key i row j av h1 h2; rw [e1]; exact e2) (fun i row j av h1 h2 => by obtain ⟨y, e1, _, e3⟩ := key i row j av h1 h2; rw [e1]; exact e3)
 rw [r1] at this
 exact this
theorem Opn.mono {t : TypeId} {R R' : List AV → Prop} (h : Opn enc P w base sp held t R) (hr : ∀ row, R row → R' row) : Opn enc P w base sp held t R' := fun fuel cs x hx => let ⟨row, h1, h2⟩ := h fuel cs x hx; ⟨row, h1, hr row h2⟩
def AllR : List (List AV → Prop) → List AV → Prop
 | [], row => row = []
 | R :: Rs, row => ∃ r r', row = r ++ r' ∧ R r ∧ AllR Rs r'
def OpnAll (enc : TypeId × Value → H) (P : Program) (w : World) (base : Nat) (sp : Nat → Bool) (held : Bool) : Nat → List Field → List (List AV → Prop) → Nat → Prop
 | off, [], [], total => off = total
 | off, f :: fs, R :: Rs, total => f.offset = off ∧ Opn enc P w base sp held f.type R ∧ OpnAll enc P w base sp held (off + P.cellsOf f.type) fs Rs total
 | _, _, _, _ => False
theorem opn_fields : ∀ (fs : List Field) (Rs : List (List AV → Prop)) (off total n : Nat) (cs : List Value) (xs : List (DataW H × List MemPlace)), OpnAll enc P w base sp held off fs Rs total → cs.length = total →
  (∀ (i : Nat) (f : Field), fs[i]? = some f → ∃ x, DataW.trod enc P w base sp held n f.type ((cs.drop f.offset).take (P.cellsOf f.type)) = some x) → off ≤ total → ∃ row, RowSim (cellsX w) row (cs.drop off) ∧ AllR Rs row
 | [], [], off, total, n, cs, xs, h, hl, hx, ho => by
  have : off = total := h
  subst this
  refine ⟨[], ⟨by simp [hl], fun j a y h => by simp at h⟩, rfl⟩
 | f :: fs, R :: Rs, off, total, n, cs, xs, h, hl, hx, ho => by
  obtain ⟨rfl, h1, h2⟩ := h
  obtain ⟨x, hx0⟩ := hx 0 f rfl
  obtain ⟨r, k1, k2⟩ := h1 _ _ _ hx0
  have hle : f.offset + P.cellsOf f.type ≤ total := by
   have : ∀ (fs : List Field) (Rs : List (List AV → Prop)) (off total : Nat), OpnAll enc P w base sp held off fs Rs total → off ≤ total := by
    intro fs
    induction fs with
    | nil => intro Rs off total h; cases Rs with
     | nil => exact Nat.le_of_eq h
     | cons _ _ => exact h.elim
    | cons g gs ih => intro Rs off total h; cases Rs with
     | nil => exact h.elim
     | cons R Rs => exact Nat.le_trans (Nat.le_add_right _ _) (ih _ _ _ h.2.2)
   exact this _ _ _ _ h2
  obtain ⟨r', m1, m2⟩ := opn_fields fs Rs _ total n cs xs h2 hl (fun i g hg => hx (i + 1) g (by simpa using hg)) hle
  refine ⟨r ++ r', ?_, r, r', rfl, k2, m2⟩
  have e : cs.drop f.offset = (cs.drop f.offset).take (P.cellsOf f.type) ++ cs.drop (f.offset + P.cellsOf f.type) := by
   rw [← List.drop_drop, List.take_append_drop]
  rw [e]
  exact k1.app m1
 | [], _ :: _, _, _, _, _, _, h, _, _, _ => h.elim
 | _ :: _, [], _, _, _, _, _, h, _, _, _ => h.elim
theorem opn_struct {t : TypeId} {fs : Array Field} {Rs : List (List AV → Prop)} (ht : P.underlying t = some (.struct fs)) (h : OpnAll enc P w base sp held 0 fs.toList Rs (P.cellsOf t)) : Opn enc P w base sp held t (AllR Rs) := fun fuel cs x hx => by
 obtain ⟨xs, n, _, _, h1, h2, h3⟩ := DataW.trod_struct ht hx
 exact opn_fields fs.toList Rs 0 (P.cellsOf t) n cs xs h h1 (fun i f hf => by
  rw [Array.getElem?_toList] at hf
  have := h3 i f hf
  have hi : i < xs.length := by rw [h2]; exact (Array.getElem?_eq_some_iff.1 hf).1
  rw [List.getElem?_eq_getElem hi] at this
  exact ⟨_, this⟩) (Nat.zero_le _)
theorem listOf {α : Type} {f : α → List AV} {Q : α → Prop} : ∀ {rows : List (List AV)}, (∀ r ∈ rows, ∃ a, Q a ∧ r = f a) → ∃ l : List α, (∀ a ∈ l, Q a) ∧ rows = l.map f
 | [], _ => ⟨[], fun a ha => (List.not_mem_nil ha).elim, rfl⟩
 | r :: rows, h => by
  obtain ⟨a, ha, rfl⟩ := h r (by simp)
  obtain ⟨l, hl, rfl⟩ := listOf (rows := rows) fun r hr => h r (List.mem_cons_of_mem _ hr)
  exact ⟨a :: l, fun b hb => by rcases List.mem_cons.1 hb with rfl | hb; exact ha; exact hl b hb, rfl⟩
theorem opn_bytes {t e : TypeId} (ht : P.underlying t = some (.slice e)) (he : P.underlying e = some (.int .u8)) (hc : P.cellsOf e = 1) : Opn enc P w base sp held t fun row => ∃ l : List UInt8, row = [.list (l.map brow) .free] ∧ l.length ≤ maxLen :=
 (opn_slice ht hc (by decide) (opn_int he)).mono fun row ⟨rows, h1, h2, h3⟩ => by
  obtain ⟨l, _, rfl⟩ := listOf (f := brow) (Q := fun _ => True) fun r hr => by
   obtain ⟨⟨n, rfl, h4, h5⟩, _⟩ := h3 r hr
   have h4' : 0 ≤ n := h4
   have h5' : n ≤ 255 := h5
   refine ⟨UInt8.ofNat n.toNat, trivial, ?_⟩
   unfold brow
   rw [UInt8.toNat_ofNat']
   congr 3
   omega
  exact ⟨l, h1, by simpa using h2⟩
theorem Opn.arg {t : TypeId} {v : Value} {d : DataW H} {ps : List MemPlace} {R : List AV → Prop} (h : Opn enc P w base sp held t R) (hd : DataW.Trod enc P w base sp held t v d ps) (hv : v.cells = #[v]) : ∃ a, R [a] ∧ SimD (cellsX w) a v := by
 obtain ⟨fuel, hf⟩ := hd
 obtain ⟨row, h1, h2⟩ := h _ _ _ hf
 rw [hv] at h1
 have hl : row.length = 1 := h1.1
 obtain ⟨a, rfl⟩ := List.length_eq_one_iff.1 hl
 exact ⟨a, h2, (h1.2 0 a v rfl rfl).1⟩
end
end Go.Am
namespace Go.Am
section
variable {H : Type} {enc : TypeId × Value → H} {P : Program} {w : World} {base : Nat} {sp : Nat → Bool} {held : Bool}
theorem Opn.argS {t : TypeId} {cs : Array Value} {d : DataW H} {ps : List MemPlace} {R : List AV → Prop} (h : Opn enc P w base sp held t R) (hd : DataW.Trod enc P w base sp held t (.agg cs) d ps) : ∃ row, R row ∧ RowSim (cellsX w) row cs.toList := by
 obtain ⟨fuel, hf⟩ := hd
 obtain ⟨row, h1, h2⟩ := h _ _ _ hf
 exact ⟨row, h2, h1⟩
theorem RowSim.agg {G : Ghost} {row : List AV} {cs : Array Value} (h : RowSim G.X row cs.toList) : Sim G (.agg row) (.agg cs) :=
 .agg _ _ (by have := h.1; simpa using this) fun i a ha => by
  have hi : i < cs.size := by
   have := (List.getElem?_eq_some_iff.1 ha).1
   have h1 := h.1
   simp at h1; omega
  have : cs.getD i undef = cs[i] := by simp [hi]
  rw [this]
  exact .data _ _ (h.2 i a cs[i] ha (by simp [hi])).1
end
end Go.Am
namespace Go.Proofs.Ytncffhgoopdfgaa
open Go.Am
section
variable {H : Type} {enc : TypeId × Value → H} {w : World} {base : Nat} {sp : Nat → Bool} {held : Bool}
theorem opnBytes : Opn enc Try.prog w base sp held 23 fun row => ∃ l : List UInt8, row = [.list (l.map brow) .free] ∧ l.length ≤ maxLen := opn_bytes Try.underlying23 Try.underlying5 (by kernel_rfl)
def dvrow (tx : Bool) (n : Int) (x : Nat) (b : List UInt8) : List AV := [.v (.bool tx), .v (.int .i64 n), .v (.float .f64 x), .list (b.map brow) .free]
theorem opnV : Opn enc Try.prog w base sp held 25 fun row => ∃ tx n x b, ((-9223372036854775808 ≤ n ∧ n ≤ 9223372036854775807) ∧ x < 18446744073709551616) ∧ row = dvrow tx n x b :=
 (opn_struct Try.underlying25 (Rs := [fun row => ∃ b, row = [.v (.bool b)], fun row => ∃ n, row = [.v (.int .i64 n)] ∧ IntKind.i64.min ≤ n ∧ n ≤ IntKind.i64.max, fun row => ∃ b, row = [.v (.float .f64 b)] ∧ b < 18446744073709551616, fun row => ∃ l : List UInt8, row = [.list (l.map brow) .free] ∧ l.length ≤ maxLen])
  ⟨rfl, opn_bool Try.underlying4, by kernel_rfl, opn_int Try.underlying3, by kernel_rfl, opn_float Try.underlying22, by kernel_rfl, opnBytes, (show (_ : Nat) = _ by kernel_rfl)⟩).mono
  fun row hrow => by
   obtain ⟨_, _, e0, ⟨tx, rfl⟩, _, _, e1, ⟨n, rfl, h1, h2⟩, _, _, e2, ⟨x, rfl, hx⟩, _, _, e3, ⟨l, rfl, _⟩, e4⟩ := hrow
   refine ⟨tx, n, x, l, ⟨⟨h1, h2⟩, hx⟩, ?_⟩
   rw [e0, e1, e2, e3, e4]
   rfl
end
end Go.Proofs.Ytncffhgoopdfgaa
namespace Go.Proofs.Ytncffhgoopdfgaa
open Go.Am
set_option maxRecDepth 100000
def okV (v : Va) : Prop := v.b.length < 1073741824 ∧ v.n < 18446744073709551616 ∧ vRt v = true
theorem VOk.ok {v : Va} (h : VOk v) : okV v := by
 unfold okV vRt
 rcases h with ⟨h1, h2, h3⟩ | ⟨h1, h2, h3⟩
 ·rw [h1, h2]; exact ⟨by omega, by decide, by simp; omega⟩
 ·rw [h1, h2]; exact ⟨by decide, h3, by simp⟩
structure Dv where
 tx : Bool
 n : Int
 x : Nat
 b : List UInt8
def dvr (a : Dv) : List AV := dvrow a.tx a.n a.x a.b
def DvOk (a : Dv) : Prop := (-9223372036854775808 ≤ a.n ∧ a.n ≤ 9223372036854775807) ∧ a.x < 18446744073709551616
theorem dvmade_c (a : Dv) (h : DvOk a) : ACalls Try.prog 29 0 10 [.agg (dvr a)] [] (fun out H' => ∃ v, okV v ∧ out = .ret (vav v) ∧ H' = []) :=
 (vmade_c a.tx a.n a.x a.b h.1.1 h.1.2 h.2).mono fun out H' ⟨v, h1, h2, h3⟩ => ⟨v, h1.ok, h2, h3⟩
end Go.Proofs.Ytncffhgoopdfgaa
namespace Go.Proofs.Ytncffhgoopdfgaa
open Go.Am
set_option maxRecDepth 100000
end Go.Proofs.Ytncffhgoopdfgaa
namespace Go.Proofs.Ytncffhgoopdfgaa
open Go.Am
set_option maxRecDepth 100000
structure Ch where
 k : Int
 c : ByteArray
 t : Int
 v : Va
def chrow (x : Ch) : List AV := [.v (.int .i64 x.k), .v (.string x.c), .v (.int .i64 x.t)] ++ vrowV x.v
def rightC (x : Ch) : Int := if x.k < 1 ∨ 5 < x.k then 24 else if x.k = 4 then 0 else if nmB x.c = false then 1 else if x.k = 3 then 0 else if tmOk x.t = false then 1 else if x.k = 2 then 0 else if vRt x.v = false then 1 else if x.k = 5 ∧ x.v.kind ≠ 2 then 24 else 0
def ChSz (x : Ch) : Prop := x.v.b.length < 1073741824 ∧ x.v.n < 18446744073709551616
theorem chx {l : List Ch} {i : Nat} {t : Ch} (h : l[i]? = some t) : 0 ≤ (i : Int) ∧ (l.map chrow)[(i : Int).toNat]? = some (chrow t) ∧ (chrow t).length = 6 := ⟨Int.natCast_nonneg _, by rw [Int.toNat_natCast, List.getElem?_map, h]; rfl, rfl⟩
end Go.Proofs.Ytncffhgoopdfgaa
namespace Go.Proofs.Ytncffhgoopdfgaa
open Go.Am
set_option maxRecDepth 100000
structure Cw where
 k : Int
 c : Int
 t : Int
 v : Dv
def cwrow (a : Cw) : List AV := [.v (.int .i64 a.k), .v (.int .i64 a.c), .v (.int .i64 a.t)] ++ dvr a.v
structure CwOk (a : Cw) : Prop where
 k : -9223372036854775808 ≤ a.k ∧ a.k ≤ 9223372036854775807
 c : -9223372036854775808 ≤ a.c ∧ a.c ≤ 9223372036854775807
 t : -9223372036854775808 ≤ a.t ∧ a.t ≤ 9223372036854775807
 v : DvOk a.v
theorem colL_nm {s : ByteArray} (h : s ∈ colL) : nmB s = true := by
 unfold colL at h
 simp only [List.mem_cons, List.not_mem_nil, or_false] at h
 rcases h with rfl | rfl | rfl | rfl | rfl <;> decide
def ChOk (x : Ch) : Prop := ChSz x ∧ rightC x = 0
set_option maxHeartbeats 3200000 in
theorem chmade_c (a : Cw) (h : CwOk a) : ACalls Try.prog 57 0 100 [.agg (cwrow a)] [] (fun out H' => ∃ x, ChOk x ∧ out = .ret (.agg (chrow x)) ∧ H' = []) := by
 have w1 := wthn_c a.k 0 1048576 h.k.1 h.k.2 (by decide) (by decide) (by decide) (by decide)
 have w2 := wthn_c a.t 0 30 h.t.1 h.t.2 (by decide) (by decide) (by decide) (by decide)
 have b1 := wthn_bd a.k 0 1048576 (by decide)
 have b2 := wthn_bd a.t 0 30 (by decide)
 generalize wthn a.k 0 1048576 = k0 at *
 generalize wthn a.t 0 30 = t at *
 have hk5 := Int.tmod_lt_of_pos k0 (show (0 : Int) < 5 by decide)
 have hk0 : 0 ≤ k0.tmod 5 := Int.tmod_nonneg _ b1.1
 have hw : IntKind.i64.wrap (1 + k0.tmod 5) = 1 + k0.tmod 5 := z64 (by omega) (by omega)
 have hft := flt_c a.v.n a.v.x h.v.1.1 h.v.1.2 h.v.2
 refine no_implicit_lambda% (acalls_of tok dok (f := 57) ⟨Try.func57, rfl, by kernel_rfl⟩ ?_); refine no_implicit_lambda% (c_start (fun _ h => h) ?_)
 repeat' (first | (refine no_implicit_lambda% (zH ?_)) | (refine no_implicit_lambda% (spl (fun hc => ?_) (fun hc => ?_)) <;> first | exact zG hc | skip) | (refine no_implicit_lambda% (ans ?_)) | (with_reducible first | exact zI | exact zJ) | (refine no_implicit_lambda% (cal [] (w1) ?_ ?_)) | fail)
 (refine no_implicit_lambda% (cal [] (keepcol_c a.c h.c.1 h.c.2) ?_ ?_))
 ·intro xx H' hh
  obtain ⟨s, hs, h', rfl⟩ := hh
  cases h'
  first | (refine no_implicit_lambda% (akc ?_)) | (refine no_implicit_lambda% (aec ?_))
  have hsn := colL_nm hs
  repeat' (first | (refine no_implicit_lambda% (zH ?_)) | (refine no_implicit_lambda% (spl (fun hc => ?_) (fun hc => ?_)) <;> first | exact zG hc | skip) | (refine no_implicit_lambda% (ans ?_)) | (with_reducible first | exact zI | exact zJ) | (refine no_implicit_lambda% (cal [] (w2) ?_ ?_)) | fail)
  (refine no_implicit_lambda% (cal [] (dvmade_c a.v h.v) ?_ ?_))
  ·intro xx H' hh
   obtain ⟨v, hv, h', rfl⟩ := hh
   cases h'
   first | (refine no_implicit_lambda% (akc ?_)) | (refine no_implicit_lambda% (aec ?_))
   have hk : 1 ≤ IntKind.i64.wrap (1 + k0.tmod 5) ∧ IntKind.i64.wrap (1 + k0.tmod 5) ≤ 5 := by omega
   generalize IntKind.i64.wrap (1 + k0.tmod 5) = kk at *
   have htk : tmOk t = true := decide_eq_true (by omega)
   repeat' (first | (refine no_implicit_lambda% (zH ?_)) | (refine no_implicit_lambda% (spl (fun hc => ?_) (fun hc => ?_)) <;> first | exact zG hc | skip) | (refine no_implicit_lambda% (ans ?_)) | (with_reducible first | exact zI | exact zJ))
   ·(refine no_implicit_lambda% (cal [] (hft) ?_ ?_))
    ·intro xx H' hh
     obtain ⟨fb, hfb, h', rfl⟩ := hh
     cases h'
     first | (refine no_implicit_lambda% (akc ?_)) | (refine no_implicit_lambda% (aec ?_))
     repeat' (first | (refine no_implicit_lambda% (zH ?_)) | (refine no_implicit_lambda% (spl (fun hc => ?_) (fun hc => ?_)) <;> first | exact zG hc | skip) | (refine no_implicit_lambda% (ans ?_)) | (with_reducible first | exact zI | exact zJ))
     have hk5 : kk = 5 := by simpa using hc
     subst hk5
     refine e_ret_to (H' := []) (rest := _) (Conv.toT (τ := ⟨_, [(1, .box (chrow ⟨5, s, t, ⟨2, [], fb⟩⟩))], _⟩) (.refl _) ?_ (Nat.le_refl _)) rfl ⟨⟨5, s, t, ⟨2, [], fb⟩⟩, ⟨?_, ?_⟩, rfl, rfl⟩ (.of_eq rfl) (LE0 rfl)
     ·exact wkh
     ·exact ⟨show 0 < 1073741824 by decide, hfb⟩
     ·unfold rightC; rw [hsn, htk]; rfl
    ·intro xx H' hh
     obtain ⟨_, _, h', _⟩ := hh
     cases h'
   ·have hk5 : kk = 2 := by simpa using hc
    subst hk5
    refine e_ret_to (H' := []) (rest := _) (Conv.toT (τ := ⟨_, [(1, .box (chrow ⟨2, s, t, ⟨0, [], 0⟩⟩))], _⟩) (.refl _) ?_ (Nat.le_refl _)) rfl ⟨⟨2, s, t, ⟨0, [], 0⟩⟩, ⟨?_, ?_⟩, rfl, rfl⟩ (.of_eq rfl) (LE0 rfl)
    ·exact wkh
    ·exact ⟨show 0 < 1073741824 by decide, show 0 < 18446744073709551616 by decide⟩
    ·unfold rightC; rw [hsn, htk]; rfl
   ·have hk5 : kk = 3 := by simpa using hc
    subst hk5
    refine e_ret_to (H' := []) (rest := _) (Conv.toT (τ := ⟨_, [(1, .box (chrow ⟨3, s, 0, ⟨0, [], 0⟩⟩))], _⟩) (.refl _) ?_ (Nat.le_refl _)) rfl ⟨⟨3, s, 0, ⟨0, [], 0⟩⟩, ⟨?_, ?_⟩, rfl, rfl⟩ (.of_eq rfl) (LE0 rfl)
    ·exact wkh
    ·exact ⟨show 0 < 1073741824 by decide, show 0 < 18446744073709551616 by decide⟩
    ·unfold rightC; rw [hsn]; rfl
   ·have hk5 : kk = 4 := by simpa using hc
    subst hk5
    refine e_ret_to (H' := []) (rest := _) (Conv.toT (τ := ⟨_, [(1, .box (chrow ⟨4, ByteArray.empty, 0, ⟨0, [], 0⟩⟩))], _⟩) (.refl _) ?_ (Nat.le_refl _)) rfl ⟨⟨4, ByteArray.empty, 0, ⟨0, [], 0⟩⟩, ⟨?_, ?_⟩, rfl, rfl⟩ (.of_eq rfl) (LE0 rfl)
    ·exact wkh
    ·exact ⟨show 0 < 1073741824 by decide, show 0 < 18446744073709551616 by decide⟩
    ·rfl
   ·have hk5 : kk = 1 := by
     simp only [beq_eq_false_iff_ne] at *
     omega
    subst hk5
    refine e_ret_to (H' := []) (rest := _) (Conv.toT (τ := ⟨_, [(1, .box (chrow ⟨1, s, t, v⟩))], _⟩) (.refl _) ?_ (Nat.le_refl _)) rfl ⟨⟨1, s, t, v⟩, ⟨?_, ?_⟩, rfl, rfl⟩ (.of_eq rfl) (LE0 rfl)
    ·exact wkh
    ·exact ⟨hv.1, hv.2.1⟩
    ·unfold rightC; rw [hsn, htk, hv.2.2]; rfl
  ·intro xx H' hh
   obtain ⟨_, _, h', _⟩ := hh
   cases h'
 ·intro xx H' hh
  obtain ⟨_, _, h', _⟩ := hh
  cases h'
end Go.Proofs.Ytncffhgoopdfgaa
namespace Go.Proofs.Ytncffhgoopdfgaa
open Go.Am
set_option maxRecDepth 100000
def askC (k : Int) : Bool × Bool × Bool × Bool := if k = 1 ∨ k = 5 then (true, true, true, true) else if k = 2 then (true, true, false, true) else if k = 3 then (true, false, false, true) else if k = 4 then (false, false, false, true) else (false, false, false, false)
theorem asks_c (k : Int) : ACalls Try.prog 95 0 0 [.v (.int .i64 k)] [] (fun out H' => out = .ret (.tuple [.v (.bool (askC k).1), .v (.bool (askC k).2.1), .v (.bool (askC k).2.2.1), .v (.bool (askC k).2.2.2)]) ∧ H' = []) := by
 have hk : k = 1 ∨ k = 2 ∨ k = 3 ∨ k = 4 ∨ k = 5 ∨ (k < 1 ∨ 5 < k) := by omega
 rcases hk with hk | hk | hk | hk | hk | hk
 all_goals
  have ha : askC k = askC k := rfl
  conv at ha => rhs; unfold askC
  first
   | rw [if_pos (by omega)] at ha
   | rw [if_neg (by omega), if_pos (by omega)] at ha
   | rw [if_neg (by omega), if_neg (by omega), if_pos (by omega)] at ha
   | rw [if_neg (by omega), if_neg (by omega), if_neg (by omega), if_pos (by omega)] at ha
   | rw [if_neg (by omega), if_neg (by omega), if_neg (by omega), if_neg (by omega)] at ha
  rw [ha]
  refine no_implicit_lambda% (acalls_of tok dok (f := 95) ⟨Try.func95, rfl, by kernel_rfl⟩ ?_); refine no_implicit_lambda% (c_start (fun _ h => h) ?_)
  repeat' (first | (refine no_implicit_lambda% (zH ?_)) | (refine no_implicit_lambda% (spl (fun hc => ?_) (fun hc => ?_)) <;> first | exact zG hc | skip) | (refine no_implicit_lambda% (ans ?_)) | (with_reducible first | exact zI | exact zJ))
  all_goals exact e_ret (H' := []) (rest := _) rfl ⟨rfl, rfl⟩ permT (LE0 rfl)
set_option maxHeartbeats 6400000 in
theorem right5_c (x : Ch) : ACalls Try.prog 58 0 50 [.agg (chrow x)] [] (fun out H' => out = .ret (.v (.int .i64 (rightC x))) ∧ H' = []) := by
 have h1 := name_c x.c
 have h2 : ACalls Try.prog 96 0 10 [vav x.v] [] (fun out H' => out = .ret (.v (.bool (vRt x.v))) ∧ H' = []) := vright_c x.v
 have h0 := asks_c x.k
 have hk : x.k = 1 ∨ x.k = 2 ∨ x.k = 3 ∨ x.k = 4 ∨ x.k = 5 ∨ (x.k < 1 ∨ 5 < x.k) := by omega
 rcases hk with hk | hk | hk | hk | hk | hk
 all_goals
  have ha : askC x.k = askC x.k := rfl
  conv at ha => rhs; unfold askC
  first
   | rw [if_pos (by omega)] at ha
   | rw [if_neg (by omega), if_pos (by omega)] at ha
   | rw [if_neg (by omega), if_neg (by omega), if_pos (by omega)] at ha
   | rw [if_neg (by omega), if_neg (by omega), if_neg (by omega), if_pos (by omega)] at ha
   | rw [if_neg (by omega), if_neg (by omega), if_neg (by omega), if_neg (by omega)] at ha
  rw [ha] at h0
  dsimp only at h0
  refine no_implicit_lambda% (acalls_of tok dok (f := 58) ⟨Try.func58, rfl, by kernel_rfl⟩ ?_); refine no_implicit_lambda% (c_start (fun _ h => h) ?_)
  repeat' (first | (refine no_implicit_lambda% (zH ?_)) | (refine no_implicit_lambda% (spl (fun hc => ?_) (fun hc => ?_)) <;> first | exact zG hc | skip) | (refine no_implicit_lambda% (ans ?_)) | (with_reducible first | exact zI | exact zJ) | (refine no_implicit_lambda% (cal [] (h0) ?_ ?_)) | (refine no_implicit_lambda% (cal [] (h1) ?_ ?_)) | (refine no_implicit_lambda% (cal [] (h2) ?_ ?_)) | fail)
  all_goals
   refine e_ret (H' := []) (rest := _) rfl ⟨congrArg (fun z => AOut.ret (.v (.int .i64 z))) ?_, rfl⟩ permT (LE0 rfl)
   clear h0 h1 h2 ha
   unfold rightC tmOk
   simp only [decide_eq_true_eq, decide_eq_false_iff_not, beq_iff_eq, beq_eq_false_iff_ne, bne_iff_ne, bne_eq_false_iff_eq, Bool.not_eq_true', Bool.not_eq_false', ne_eq] at *
   repeat' split
   all_goals first | rfl | (exfalso; omega) | (exfalso; simp_all; done) | (exfalso; simp_all; omega)
end Go.Proofs.Ytncffhgoopdfgaa
namespace Go.Proofs.Ytncffhgoopdfgaa
open Go.Am
set_option maxRecDepth 100000
def encA (v : Va) : List UInt8 := if v.kind = 1 then 1 :: (be v.b.length 4 ++ v.b) else if v.kind = 2 then 2 :: be (canonB v.n) 8 else [0]
theorem k_ne {k c : Int} (h : ¬ k = c) : (k == c) = false := by simpa using h
theorem putA_w (v : Va) (hb : v.kind = 1 → v.b.length ≤ 20) (hn : v.n < 18446744073709551616) (l : List UInt8) (hl : l.length < 100000000) : ACalls Try.prog 110 2 10 [.ptr 0 0, vav v] (wr l) (fun out H' => out = .ret (.tuple []) ∧ H' = wr (l ++ encA v)) := by
 obtain ⟨kd, b, n⟩ := v
 simp only at hb hn
 by_cases h1 : kd = 1
 ·subst h1
  replace hb := hb rfl
  have ee : l ++ encA ⟨1, b, n⟩ = l ++ [1] ++ (be b.length 4 ++ b) := by simp [encA]
  rw [ee]
  have hT := text_c (l ++ [1]) b (by omega) (by simp; omega)
  rw [if_pos (show b.length ≤ 1048576 by omega)] at hT
  refine no_implicit_lambda% (acalls_of tok dok (f := 110) ⟨Try.func110, rfl, by kernel_rfl⟩ ?_); refine no_implicit_lambda% (c_start (fun _ h => h) ?_)
  refine no_implicit_lambda% (awd ?_)
  refine no_implicit_lambda% (cal [0, 1] (byte_c l 1 (by omega)) ?_ ?_)
  ·refine no_implicit_lambda% (ret1 ?_); first | (refine no_implicit_lambda% (akc ?_)) | (refine no_implicit_lambda% (aec ?_))
   refine no_implicit_lambda% (awd ?_)
   refine no_implicit_lambda% (cal [0, 1] (hT) ?_ ?_)
   ·refine no_implicit_lambda% (ret1 ?_); first | (refine no_implicit_lambda% (akc ?_)) | (refine no_implicit_lambda% (aec ?_))
    refine no_implicit_lambda% (awd ?_)
    exact e_ret (H' := wr (l ++ [1] ++ (be b.length 4 ++ b))) (rest := _) rfl ⟨rfl, rfl⟩ (.of_eq rfl) (LE0 rfl)
   ·first | (exact zI) | (exact zJ)
  ·first | (exact zI) | (exact zJ)
 ·by_cases h2 : kd = 2
  ·subst h2
   have ee : l ++ encA ⟨2, b, n⟩ = l ++ [2] ++ be (canonB n) 8 := by simp [encA]
   rw [ee]
   refine no_implicit_lambda% (acalls_of tok dok (f := 110) ⟨Try.func110, rfl, by kernel_rfl⟩ ?_); refine no_implicit_lambda% (c_start (fun _ h => h) ?_)
   refine no_implicit_lambda% (awd ?_)
   refine no_implicit_lambda% (cal [0, 1] (byte_c l 2 (by omega)) ?_ ?_)
   ·refine no_implicit_lambda% (ret1 ?_); first | (refine no_implicit_lambda% (akc ?_)) | (refine no_implicit_lambda% (aec ?_))
    refine no_implicit_lambda% (awd ?_)
    refine no_implicit_lambda% (cal [0, 1] (float_c (l ++ [2]) n hn (by simp; omega)) ?_ ?_)
    ·refine no_implicit_lambda% (ret1 ?_); first | (refine no_implicit_lambda% (akc ?_)) | (refine no_implicit_lambda% (aec ?_))
     refine no_implicit_lambda% (awd ?_)
     exact e_ret (H' := wr (l ++ [2] ++ be (canonB n) 8)) (rest := _) rfl ⟨rfl, rfl⟩ (.of_eq rfl) (LE0 rfl)
    ·first | (exact zI) | (exact zJ)
   ·first | (exact zI) | (exact zJ)
  ·have ee : l ++ encA ⟨kd, b, n⟩ = l ++ [0] := by simp [encA, h1, h2]
   rw [ee]
   have e1 := k_ne h1
   have e2 := k_ne h2
   refine no_implicit_lambda% (acalls_of tok dok (f := 110) ⟨Try.func110, rfl, by kernel_rfl⟩ ?_); refine no_implicit_lambda% (c_start (fun _ h => h) ?_)
   repeat' (first | (refine no_implicit_lambda% (zH ?_)) | (((with_reducible refine no_implicit_lambda% (zA ?_)); refine no_implicit_lambda% (zD rfl rfl rfl (fun hc => ?_) (fun hc => ?_)) <;> rw [hc])) | (((with_reducible refine no_implicit_lambda% (zB ?_)); refine no_implicit_lambda% (zE rfl (fun hc => ?_) (fun hc => ?_)))) | (((with_reducible refine no_implicit_lambda% (zC ?_)); refine no_implicit_lambda% (zF rfl rfl (fun hc => ?_) (fun hc => ?_)) <;> rw [hc])) | fail)
   ·rw [e1] at hc; cases hc
   ·rw [e2] at hc; cases hc
   ·refine no_implicit_lambda% (cal [0, 1] (byte_c l 0 (by omega)) ?_ ?_)
    ·refine no_implicit_lambda% (ret1 ?_); first | (refine no_implicit_lambda% (akc ?_)) | (refine no_implicit_lambda% (aec ?_))
     refine no_implicit_lambda% (awd ?_)
     exact e_ret (H' := wr (l ++ [0])) (rest := _) rfl ⟨rfl, rfl⟩ (.of_eq rfl) (LE0 rfl)
    ·first | (exact zI) | (exact zJ)
def GV (b : List UInt8) (v : Va) (r : List UInt8) : Prop :=
 1 ≤ b.length ∧ ((ubn (b.take 1) 0 = 1 ∧ tOk (b.drop 1) 16 ∧ v = ⟨1, ((b.drop 1).drop 4).take (ubn ((b.drop 1).take 4) 0), 0⟩ ∧ r = ((b.drop 1).drop 4).drop (ubn ((b.drop 1).take 4) 0)) ∨
  (ubn (b.take 1) 0 = 2 ∧ fOk (b.drop 1) ∧ v = ⟨2, [], ubn ((b.drop 1).take 8) 0⟩ ∧ r = (b.drop 1).drop 8))
theorem GV.fn {b : List UInt8} {v v' : Va} {r r' : List UInt8} (h : GV b v r) (h' : GV b v' r') : v = v' ∧ r = r' := by
 obtain ⟨_, ⟨h1, _, rfl, rfl⟩ | ⟨h1, _, rfl, rfl⟩⟩ := h <;> obtain ⟨_, ⟨h2, _, rfl, rfl⟩ | ⟨h2, _, rfl, rfl⟩⟩ := h'
 ·exact ⟨rfl, rfl⟩
 ·omega
 ·omega
 ·exact ⟨rfl, rfl⟩
theorem GV.n {b : List UInt8} {v : Va} {r : List UInt8} (h : GV b v r) : v.n < 18446744073709551616 := by
 obtain ⟨_, ⟨h1, _, rfl, rfl⟩ | ⟨h1, _, rfl, rfl⟩⟩ := h
 ·show 0 < _; decide
 ·exact ubn_take _ 8
theorem getA_c (b : List UInt8) (hb : b.length < 281474976710656) : ACalls Try.prog 132 1 20 [.ptr 0 0] (rd b) (fun out H' => (∃ v r, GV b v r ∧ out = .ret (vav v) ∧ H' = rd r) ∨ ((∀ v r, ¬ GV b v r) ∧ out = gone ∧ H' = [])) := by
 have hC := rByte_c b (by omega)
 have hT := rText_c (b.drop 1) 16 (by simp; omega)
 have hF := rFloat_c (b.drop 1) (by simp; omega)
 have g1 : tOk (b.drop 1) 16 → 1 ≤ b.length → ubn (b.take 1) 0 = 1 → GV b ⟨1, ((b.drop 1).drop 4).take (ubn ((b.drop 1).take 4) 0), 0⟩ (((b.drop 1).drop 4).drop (ubn ((b.drop 1).take 4) 0)) := fun h1 h2 h3 => ⟨h2, .inl ⟨h3, h1, rfl, rfl⟩⟩
 have g2 : fOk (b.drop 1) → 1 ≤ b.length → ubn (b.take 1) 0 = 2 → GV b ⟨2, [], ubn ((b.drop 1).take 8) 0⟩ ((b.drop 1).drop 8) := fun h1 h2 h3 => ⟨h2, .inr ⟨h3, h1, rfl, rfl⟩⟩
 have n1 : ¬ tOk (b.drop 1) 16 → ubn (b.take 1) 0 = 1 → ∀ v r, ¬ GV b v r := fun h1 h2 v r h => by
  obtain ⟨_, ⟨_, h4, _⟩ | ⟨h4, _⟩⟩ := h
  ·exact h1 h4
  ·omega
 have n2 : ¬ fOk (b.drop 1) → ubn (b.take 1) 0 = 2 → ∀ v r, ¬ GV b v r := fun h1 h2 v r h => by
  obtain ⟨_, ⟨h4, _⟩ | ⟨_, h4, _⟩⟩ := h
  ·omega
  ·exact h1 h4
 have n3 : ¬ ubn (b.take 1) 0 = 1 → ¬ ubn (b.take 1) 0 = 2 → ∀ v r, ¬ GV b v r := fun h1 h2 v r h => by
  obtain ⟨_, ⟨h4, _⟩ | ⟨h4, _⟩⟩ := h <;> omega
 have n0 : b.length < 1 → ∀ v r, ¬ GV b v r := fun h1 v r h => by
  have := h.1; omega
 have hk := ubn_take b 1
 generalize ubn (b.take 1) 0 = k at *
 generalize ((b.drop 1).drop 4).take (ubn ((b.drop 1).take 4) 0) = tx at *
 generalize ((b.drop 1).drop 4).drop (ubn ((b.drop 1).take 4) 0) = r1 at *
 generalize ubn ((b.drop 1).take 8) 0 = x at *
 generalize (b.drop 1).drop 8 = r2 at *
 have hkk : IntKind.i64.wrap (k : Int) = (k : Int) := by rw [IntKind.wrap_i64]; omega
 refine no_implicit_lambda% (acalls_of tok dok (f := 132) ⟨Try.func132, rfl, by kernel_rfl⟩ ?_); refine no_implicit_lambda% (c_start (fun _ h => h) ?_)
 refine no_implicit_lambda% (awd ?_)
 refine no_implicit_lambda% (cal [0] (hC) ?_ ?_)
 ·intro x H' h; rcases h with ⟨hg, h1, h2⟩ | ⟨hg, h1, h2⟩ <;> first | (cases h1; done) | (cases h1; subst h2)
  first | (refine no_implicit_lambda% (akc ?_)) | (refine no_implicit_lambda% (aec ?_))
  refine no_implicit_lambda% (awd ?_)
  rw [hkk]
  repeat' (first | (refine no_implicit_lambda% (zH ?_)) | (((with_reducible refine no_implicit_lambda% (zA ?_)); refine no_implicit_lambda% (zD rfl rfl rfl (fun hc => ?_) (fun hc => ?_)) <;> rw [hc])) | (((with_reducible refine no_implicit_lambda% (zB ?_)); refine no_implicit_lambda% (zE rfl (fun hc => ?_) (fun hc => ?_)))) | (((with_reducible refine no_implicit_lambda% (zC ?_)); refine no_implicit_lambda% (zF rfl rfl (fun hc => ?_) (fun hc => ?_)) <;> rw [hc])) | fail)
  ·obtain rfl : k = 1 := by simp at hc; omega
   refine no_implicit_lambda% (cal [0] (hT) ?_ ?_)
   ·intro x H' h; rcases h with ⟨hg, h1, h2⟩ | ⟨hg, h1, h2⟩ <;> first | (cases h1; done) | (cases h1; subst h2)
    first | (refine no_implicit_lambda% (akc ?_)) | (refine no_implicit_lambda% (aec ?_))
    refine no_implicit_lambda% (awd ?_)
    exact e_ret (H' := rd r1) (rest := _) rfl (.inl ⟨_, _, g1 hg (by assumption) rfl, rfl, rfl⟩) (.of_eq rfl) (LE0 rfl)
   ·intro x H' h; rcases h with ⟨hg, h1, h2⟩ | ⟨hg, h1, h2⟩ <;> first | (cases h1; done) | (cases h1; subst h2)
    refine no_implicit_lambda% (awd ?_)
    exact e_pan (H' := []) (rest := _) (.inr ⟨n1 hg rfl, rfl, rfl⟩) (.refl _) (LE0 rfl)
  ·obtain rfl : k = 2 := by simp at hc; omega
   refine no_implicit_lambda% (cal [0] (hF) ?_ ?_)
   ·intro x H' h; rcases h with ⟨hg, h1, h2⟩ | ⟨hg, h1, h2⟩ <;> first | (cases h1; done) | (cases h1; subst h2)
    first | (refine no_implicit_lambda% (akc ?_)) | (refine no_implicit_lambda% (aec ?_))
    refine no_implicit_lambda% (awd ?_)
    exact e_ret_to (H' := rd r2) (rest := _) (.wk (.refl _) (.cons (.refl _) (.cons (.refl _) (.cons (.box _ (.cons (.refl _) (.cons (.free _ _) (.cons (.refl _) .nil)))) (.refl _))))) rfl (.inl ⟨_, _, g2 hg (by assumption) rfl, rfl, rfl⟩) (.of_eq rfl) (LE0 rfl)
   ·intro x H' h; rcases h with ⟨hg, h1, h2⟩ | ⟨hg, h1, h2⟩ <;> first | (cases h1; done) | (cases h1; subst h2)
    refine no_implicit_lambda% (awd ?_)
    exact e_pan (H' := []) (rest := _) (.inr ⟨n2 hg rfl, rfl, rfl⟩) (.refl _) (LE0 rfl)
  ·rename_i hc1
   refine no_implicit_lambda% (cal [0] (fail_c (b.drop 1)) ?_ ?_)
   ·first | (exact zI) | (exact zJ)
   ·intro xx H' hh
    obtain ⟨h1, rfl⟩ := hh
    cases h1
    refine no_implicit_lambda% (awd ?_)
    exact e_pan (H' := []) (rest := _) (.inr ⟨n3 (by simp at hc1; omega) (by simp at hc; omega), rfl, rfl⟩) (.refl _) (LE0 rfl)
 ·intro x H' h; rcases h with ⟨hg, h1, h2⟩ | ⟨hg, h1, h2⟩ <;> first | (cases h1; done) | (cases h1; subst h2)
  refine no_implicit_lambda% (awd ?_)
  exact e_pan (H' := []) (rest := _) (.inr ⟨n0 hg, rfl, rfl⟩) (.refl _) (LE0 rfl)
end Go.Proofs.Ytncffhgoopdfgaa
namespace Go.Proofs.Ytncffhgoopdfgaa
open Go.Am
set_option maxRecDepth 100000
theorem canV_n (v : Va) (h : v.n < 18446744073709551616) : (canV v).n < 18446744073709551616 := by
 unfold canV
 repeat' split
 all_goals first | exact canonB_lt h | (show (0 : Nat) < 18446744073709551616; decide) | exact h
theorem flat_len {α : Type} (f : α → List UInt8) (k : Nat) : ∀ l : List α, (∀ x ∈ l, (f x).length ≤ k) → (l.flatMap f).length ≤ l.length * k
 | [], _ => Nat.zero_le _
 | x :: l, h => by
  have h1 := flat_len f k l fun y hy => h y (List.mem_cons_of_mem _ hy)
  have h2 := h x (by simp)
  rw [List.flatMap_cons, List.length_append, List.length_cons, Nat.add_mul]
  omega
theorem u8len (x : Nat) : IntKind.u8.wrap (x : Int) = ((UInt8.ofNat x).toNat : Int) := by
 rw [IntKind.wrap_u8]
 simp
end Go.Proofs.Ytncffhgoopdfgaa
namespace Go.Proofs.Ytncffhgoopdfgaa
open Go.Am
set_option maxRecDepth 100000
def pB (l : List UInt8) : Option (Nat × List UInt8) := if 1 ≤ l.length then some (ubn (l.take 1) 0, l.drop 1) else none
def pN (l : List UInt8) : Option (Nat × List UInt8) := if 4 ≤ l.length then some (ubn (l.take 4) 0, l.drop 4) else none
instance (l : List UInt8) (m : Int) : Decidable (tOk l m) := by unfold tOk; infer_instance
def pT (l : List UInt8) : Option (List UInt8 × List UInt8) := if tOk l 1048576 then some ((l.drop 4).take (ubn (l.take 4) 0), (l.drop 4).drop (ubn (l.take 4) 0)) else none
def bnd {α β : Type} (o : Option (α × List UInt8)) (q : α → List UInt8 → Option β) : Option β := match o with
 | some (a, r) => q a r
 | none => none
theorem bnd_some {α β : Type} (a : α) (r : List UInt8) (q : α → List UInt8 → Option β) : bnd (some (a, r)) q = q a r := rfl
def Mono {α : Type} (p : List UInt8 → Option (α × List UInt8)) : Prop := ∀ l x r y, p l = some (x, r) → p (l ++ y) = some (x, r ++ y)
theorem Mono.bnd {α β : Type} {p : List UInt8 → Option (α × List UInt8)} {q : α → List UInt8 → Option (β × List UInt8)} (hp : Mono p) (hq : ∀ a, Mono (q a)) : Mono fun l => @Go.Proofs.Ytncffhgoopdfgaa.bnd α (β × List UInt8) (p l) q := fun l x r y h => by
 simp only at h ⊢
 cases e : p l with
 | none => rw [e] at h; cases h
 | some a =>
  obtain ⟨a, r1⟩ := a
  rw [e] at h
  rw [hp l a r1 y e]
  exact hq a r1 x r y h
theorem Mono.ret {α : Type} (a : α) : Mono fun l => some (a, l) := fun l x r y h => by
 simp only [Option.some.injEq, Prod.mk.injEq] at h ⊢
 exact ⟨h.1, by rw [h.2]⟩
theorem pB_mono : Mono pB := fun l x r y h => by
 unfold pB at *
 split at h
 ·rename_i hl
  simp only [Option.some.injEq, Prod.mk.injEq] at h
  rw [if_pos (by rw [List.length_append]; omega), List.take_append_of_le_length hl, List.drop_append_of_le_length hl, h.1, h.2]
 ·cases h
theorem pN_mono : Mono pN := fun l x r y h => by
 unfold pN at *
 split at h
 ·rename_i hl
  simp only [Option.some.injEq, Prod.mk.injEq] at h
  rw [if_pos (by rw [List.length_append]; omega), List.take_append_of_le_length hl, List.drop_append_of_le_length hl, h.1, h.2]
 ·cases h
theorem pT_mono : Mono pT := fun l x r y h => by
 unfold pT at *
 split at h
 ·rename_i hl
  obtain ⟨h1, h2, h3, h4⟩ := hl
  simp only [Option.some.injEq, Prod.mk.injEq] at h
  have e1 : (l ++ y).take 4 = l.take 4 := List.take_append_of_le_length h1
  have e2 : (l ++ y).drop 4 = l.drop 4 ++ y := List.drop_append_of_le_length h1
  have ht : tOk (l ++ y) 1048576 := ⟨by rw [List.length_append]; omega, by rw [e1]; exact h2, by rw [e1]; exact h3, by rw [e1, e2, List.length_append]; omega⟩
  rw [if_pos ht, e1, e2, List.take_append_of_le_length h4, List.drop_append_of_le_length h4, h.1, h.2]
 ·cases h
theorem pB_enc {x : Nat} (h : x < 256) (r : List UInt8) : pB ([UInt8.ofNat x] ++ r) = some (x, r) := by
 unfold pB
 rw [if_pos (by simp)]
 have : ubn (([UInt8.ofNat x] ++ r).take 1) 0 = x := by
  simp [ubn]
  omega
 rw [this]; rfl
theorem pN_enc {x : Nat} (h : x < 4294967296) (r : List UInt8) : pN (be x 4 ++ r) = some (x, r) := by
 unfold pN
 rw [if_pos (by simp [be_len]), back_be _ 4 _ (by omega), drop_be]
theorem pT_enc {b : List UInt8} (h : b.length ≤ 1048576) (r : List UInt8) : pT (be b.length 4 ++ b ++ r) = some (b, r) := by
 unfold pT
 rw [List.append_assoc]
 have hf : tOk (be b.length 4 ++ (b ++ r)) 1048576 := by
  refine ⟨by simp [be_len], ?_, fun h => ?_, ?_⟩
  ·rw [back_be _ 4 _ (by omega)]; omega
  ·rw [back_be _ 4 _ (by omega)]; omega
  ·rw [back_be _ 4 _ (by omega), drop_be]; simp
 rw [if_pos hf, back_be _ 4 _ (by omega), drop_be, List.take_append_of_le_length (Nat.le_refl _), List.take_length, List.drop_append_of_le_length (Nat.le_refl _), List.drop_length, List.nil_append]
theorem rB_c (l : List UInt8) (h : l.length < 281474976710656) : ACalls Try.prog 51 1 2 [.ptr 0 0] (rd l) (fun out H' => (∃ x r, pB l = some (x, r) ∧ (x < 256 ∧ r.length ≤ l.length) ∧ out = .ret (.v (.int .u8 (x : Int))) ∧ H' = rd r) ∨ (pB l = none ∧ out = gone ∧ H' = [])) :=
 (rByte_c l h).mono fun o H' hh => by
  unfold pB
  rcases hh with ⟨h1, h2, h3⟩ | ⟨h1, h2, h3⟩
  ·refine .inl ⟨_, _, if_pos h1, ⟨?_, ?_⟩, h2, h3⟩
   ·have := ubn_take l 1; omega
   ·rw [List.length_drop]; omega
  ·exact .inr ⟨if_neg (by omega), h2, h3⟩
theorem rN_c (l : List UInt8) (h : l.length < 281474976710656) : ACalls Try.prog 52 1 2 [.ptr 0 0] (rd l) (fun out H' => (∃ x r, pN l = some (x, r) ∧ (x < 4294967296 ∧ r.length ≤ l.length) ∧ out = .ret (.v (.int .u32 (x : Int))) ∧ H' = rd r) ∨ (pN l = none ∧ out = gone ∧ H' = [])) :=
 (rNum_c l h).mono fun o H' hh => by
  unfold pN
  rcases hh with ⟨h1, h2, h3⟩ | ⟨h1, h2, h3⟩
  ·refine .inl ⟨_, _, if_pos h1, ⟨?_, ?_⟩, h2, h3⟩
   ·have := ubn_take l 4; omega
   ·rw [List.length_drop]; omega
  ·exact .inr ⟨if_neg (by omega), h2, h3⟩
theorem rT_c (l : List UInt8) (h : l.length < 281474976710656) : ACalls Try.prog 53 1 3 [.ptr 0 0, .v (.int .i64 1048576)] (rd l) (fun out H' => (∃ x r, pT l = some (x, r) ∧ (x.length ≤ 1048576 ∧ r.length ≤ l.length) ∧ out = .ret (.list (x.map brow) .free) ∧ H' = rd r) ∨ (pT l = none ∧ out = gone ∧ H' = [])) :=
 (rText_c l 1048576 h).mono fun o H' hh => by
  unfold pT
  rcases hh with ⟨h1, h2, h3⟩ | ⟨h1, h2, h3⟩
  ·refine .inl ⟨_, _, if_pos h1, ⟨?_, ?_⟩, h2, h3⟩
   ·obtain ⟨_, h4, _⟩ := h1
    rw [List.length_take]; omega
   ·rw [List.length_drop, List.length_drop]; omega
  ·exact .inr ⟨if_neg h1, h2, h3⟩
end Go.Proofs.Ytncffhgoopdfgaa
namespace Go.Proofs.Ytncffhgoopdfgaa
open Go.Am
set_option maxRecDepth 100000
def pL (l : List UInt8) : Option (Nat × List UInt8) := if 8 ≤ l.length then some (ubn (l.take 8) 0, l.drop 8) else none
def pX (l : List UInt8) : Option (List UInt8 × List UInt8) := if tOk l 16 then some ((l.drop 4).take (ubn (l.take 4) 0), (l.drop 4).drop (ubn (l.take 4) 0)) else none
open Classical in
noncomputable def pV (l : List UInt8) : Option (Va × List UInt8) := if h : ∃ p : Va × List UInt8, GV l p.1 p.2 then some h.choose else none
theorem pV_some {l : List UInt8} {v : Va} {r : List UInt8} (h : GV l v r) : pV l = some (v, r) := by
 unfold pV
 have hx : ∃ p : Va × List UInt8, GV l p.1 p.2 := ⟨(v, r), h⟩
 rw [dif_pos hx]
 obtain ⟨h1, h2⟩ := GV.fn hx.choose_spec h
 rw [← h1, ← h2]
theorem pV_none {l : List UInt8} (h : ∀ v r, ¬ GV l v r) : pV l = none := by
 unfold pV
 rw [dif_neg (fun ⟨p, hp⟩ => h _ _ hp)]
theorem bnd_assoc {α β γ : Type} (p : Option (α × List UInt8)) (f : α → List UInt8 → Option (β × List UInt8)) (g : β → List UInt8 → Option γ) : bnd (bnd p f) g = bnd p fun a r => bnd (f a r) g := by
 cases p <;> rfl
theorem rL_c (l : List UInt8) (h : l.length < 281474976710656) : ACalls Try.prog 133 1 2 [.ptr 0 0] (rd l) (fun out H' => (∃ x r, pL l = some (x, r) ∧ (x < 18446744073709551616 ∧ r.length ≤ l.length) ∧ out = .ret (.v (.int .u64 (x : Int))) ∧ H' = rd r) ∨ (pL l = none ∧ out = gone ∧ H' = [])) :=
 (rLong_c l h).mono fun o H' hh => by
  unfold pL
  rcases hh with ⟨h1, h2, h3⟩ | ⟨h1, h2, h3⟩
  ·refine .inl ⟨_, _, if_pos h1, ⟨?_, ?_⟩, h2, h3⟩
   ·have := ubn_take l 8; omega
   ·rw [List.length_drop]; omega
  ·exact .inr ⟨if_neg (by omega), h2, h3⟩
theorem rX_c (l : List UInt8) (h : l.length < 281474976710656) : ACalls Try.prog 53 1 3 [.ptr 0 0, .v (.int .i64 16)] (rd l) (fun out H' => (∃ x r, pX l = some (x, r) ∧ (x.length ≤ 16 ∧ r.length ≤ l.length) ∧ out = .ret (.list (x.map brow) .free) ∧ H' = rd r) ∨ (pX l = none ∧ out = gone ∧ H' = [])) :=
 (rText_c l 16 h).mono fun o H' hh => by
  unfold pX
  rcases hh with ⟨h1, h2, h3⟩ | ⟨h1, h2, h3⟩
  ·refine .inl ⟨_, _, if_pos h1, ⟨?_, ?_⟩, h2, h3⟩
   ·have := h1.2.2.1 (by decide)
    rw [List.length_take]; omega
   ·simp only [List.length_drop]; omega
  ·exact .inr ⟨if_neg h1, h2, h3⟩
theorem GV.len {b : List UInt8} {v : Va} {r : List UInt8} (h : GV b v r) : v.b.length ≤ 16 ∧ r.length ≤ b.length := by
 obtain ⟨_, ⟨h1, h2, rfl, rfl⟩ | ⟨h1, _, rfl, rfl⟩⟩ := h
 ·have := h2.2.2.1 (by decide)
  refine ⟨?_, ?_⟩
  ·show List.length (List.take _ _) ≤ 16
   rw [List.length_take]; omega
  ·simp only [List.length_drop]; omega
 ·refine ⟨Nat.zero_le _, ?_⟩
  simp only [List.length_drop]; omega
theorem rV_c (l : List UInt8) (h : l.length < 281474976710656) : ACalls Try.prog 132 1 20 [.ptr 0 0] (rd l) (fun out H' => (∃ v r, pV l = some (v, r) ∧ ((v.b.length ≤ 16 ∧ v.n < 18446744073709551616) ∧ r.length ≤ l.length) ∧ out = .ret (vav v) ∧ H' = rd r) ∨ (pV l = none ∧ out = gone ∧ H' = [])) :=
 (getA_c l h).mono fun o H' hh => by
  rcases hh with ⟨v, r, hg, h2, h3⟩ | ⟨h1, h2, h3⟩
  ·exact .inl ⟨v, r, pV_some hg, ⟨⟨hg.len.1, hg.n⟩, hg.len.2⟩, h2, h3⟩
  ·exact .inr ⟨pV_none h1, h2, h3⟩
end Go.Proofs.Ytncffhgoopdfgaa
namespace Go.Proofs.Ytncffhgoopdfgaa
open Go.Am
set_option maxRecDepth 100000
end Go.Proofs.Ytncffhgoopdfgaa
namespace Go.Proofs.Ytncffhgoopdfgaa
open Go.Am
set_option maxRecDepth 100000
end Go.Proofs.Ytncffhgoopdfgaa
namespace Go.Proofs.Ytncffhgoopdfgaa
open Go.Am
set_option maxRecDepth 100000
end Go.Proofs.Ytncffhgoopdfgaa
namespace Go.Proofs.Ytncffhgoopdfgaa
open Go.Am
set_option maxRecDepth 100000
theorem bnd_inv {α β : Type} {p : Option (α × List UInt8)} {q : α → List UInt8 → Option β} (h : ∀ a r, p = some (a, r) → q a r = none) : bnd p q = none := by
 cases p with
 | none => rfl
 | some a => exact h a.1 a.2 rfl
end Go.Proofs.Ytncffhgoopdfgaa
namespace Go.Proofs.Ytncffhgoopdfgaa
open Go.Am
set_option maxRecDepth 100000
end Go.Proofs.Ytncffhgoopdfgaa
namespace Go.Proofs.Ytncffhgoopdfgaa
open Go.Am
set_option maxRecDepth 100000
def encT (c : ByteArray) : List UInt8 := be c.data.toList.length 4 ++ c.data.toList
def encCh (x : Ch) : List UInt8 := if x.k = 4 then [4] else if x.k = 3 then [3] ++ encT x.c else if x.k = 2 then [2] ++ encT x.c ++ be x.t.toNat 8 else [UInt8.ofNat x.k.toNat] ++ encT x.c ++ be x.t.toNat 8 ++ encA x.v
theorem rightC_inv {x : Ch} (h : rightC x = 0) : (1 ≤ x.k ∧ x.k ≤ 5) ∧ (x.k ≠ 4 → nmB x.c = true) ∧ ((x.k = 1 ∨ x.k = 2 ∨ x.k = 5) → tmOk x.t = true) ∧ ((x.k = 1 ∨ x.k = 5) → vRt x.v = true) ∧ (x.k = 5 → x.v.kind = 2) := by
 unfold rightC at h
 by_cases h1 : x.k < 1 ∨ 5 < x.k
 ·rw [if_pos h1] at h; cases h
 rw [if_neg h1] at h
 refine ⟨by omega, ?_⟩
 by_cases h4 : x.k = 4
 ·exact ⟨fun h => absurd h4 h, fun h => by omega, fun h => by omega, fun h => by omega⟩
 rw [if_neg h4] at h
 rcases hn : nmB x.c with _ | _
 ·rw [if_pos hn] at h; cases h
 rw [hn, if_neg (by simp)] at h
 refine ⟨fun _ => rfl, ?_⟩
 by_cases h3 : x.k = 3
 ·exact ⟨fun h => by omega, fun h => by omega, fun h => by omega⟩
 rw [if_neg h3] at h
 rcases ht : tmOk x.t with _ | _
 ·rw [if_pos ht] at h; cases h
 rw [ht, if_neg (by simp)] at h
 refine ⟨fun _ => rfl, ?_⟩
 by_cases h2 : x.k = 2
 ·exact ⟨fun h => by omega, fun h => by omega⟩
 rw [if_neg h2] at h
 rcases hv : vRt x.v with _ | _
 ·rw [if_pos hv] at h; cases h
 rw [hv, if_neg (by simp)] at h
 refine ⟨fun _ => rfl, fun h5 => ?_⟩
 by_cases hk : x.v.kind = 2
 ·exact hk
 ·rw [if_pos ⟨h5, hk⟩] at h; cases h
theorem nmB_len {c : ByteArray} (h : nmB c = true) : 1 ≤ c.data.toList.length ∧ c.data.toList.length ≤ 16 := by
 unfold nmB at h
 have h3 := of_decide_eq_true h
 have h4 : c.data.toList.length = c.size := rfl
 omega
theorem vRt_len {v : Va} (h : vRt v = true) (h1 : v.kind = 1) : v.b.length ≤ 20 := by
 unfold vRt at h
 rw [h1] at h
 simp at h
 omega
theorem encT_len (c : ByteArray) : (encT c).length = 4 + c.data.toList.length := by unfold encT; rw [List.length_append, be_len]
theorem encA_lw {v : Va} (h : v.kind = 1 → v.b.length ≤ 20) : (encA v).length ≤ 25 := by
 unfold encA
 split
 ·have := h (by assumption); simp [be_len]; omega
 ·split
  ·simp [be_len]
  ·simp
theorem encCh_len {x : Ch} (h : rightC x = 0) : 1 ≤ (encCh x).length ∧ (encCh x).length ≤ 54 := by
 obtain ⟨h1, h2, h3, h4, h5⟩ := rightC_inv h
 unfold encCh
 repeat' split
 ·exact ⟨Nat.le_refl _, by simp⟩
 ·have := nmB_len (h2 (by omega))
  simp only [List.length_append, encT_len, List.length_singleton]; omega
 ·have := nmB_len (h2 (by omega))
  simp only [List.length_append, encT_len, List.length_singleton, be_len]; omega
 ·have := nmB_len (h2 (by omega))
  have := encA_lw (vRt_len (h4 (by omega)))
  simp only [List.length_append, encT_len, List.length_singleton, be_len]; omega
set_option maxHeartbeats 6400000 in
theorem write5_c (x : Ch) (l : List UInt8) (hx : rightC x = 0) (hn : x.v.n < 18446744073709551616) (hl : l.length < 10000000) : ACalls Try.prog 79 2 200 [.ptr 0 0, .agg (chrow x)] (wr l) (fun out H' => out = .ret (.tuple []) ∧ H' = wr (l ++ encCh x)) := by
 obtain ⟨h1, h2, h3, h4, h5⟩ := rightC_inv hx
 have h0 := asks_c x.k
 obtain ⟨k, c, t, v⟩ := x
 dsimp only at *
 have hk : k = 1 ∨ k = 5 ∨ k = 2 ∨ k = 3 ∨ k = 4 := by omega
 rcases hk with rfl | rfl | rfl | rfl | rfl
 ·(have hc16 := nmB_len (h2 (by decide)); have hb := byte_c l 1 (by omega); have ht := text_c (l ++ [1]) c.data.toList (by omega) (by simp; omega); rw [if_pos (by omega)] at ht)
  (have ht0 := h3 (by decide); unfold tmOk at ht0; have htt := of_decide_eq_true ht0)
  (have hl8 := long_c (l ++ [1] ++ encT c) t.toNat (by omega) (by simp only [List.length_append, encT_len, List.length_singleton]; omega))
  (have hv20 := vRt_len (h4 (by decide)); have hpa := putA_w v hv20 hn (l ++ [1] ++ encT c ++ be t.toNat 8) (by simp only [List.length_append, encT_len, List.length_singleton, be_len]; omega))
  have he : l ++ encCh ⟨1, c, t, v⟩ = l ++ [1] ++ encT c ++ be t.toNat 8 ++ encA v := by show l ++ ([1] ++ encT c ++ be t.toNat 8 ++ encA v) = _; simp only [List.append_assoc]
  rw [he]
  refine no_implicit_lambda% (acalls_of tok dok (f := 79) ⟨Try.func79, rfl, by kernel_rfl⟩ ?_); refine no_implicit_lambda% (c_start (fun _ h => h) ?_)
  repeat' (first | (refine no_implicit_lambda% (zH ?_)) | (refine no_implicit_lambda% (spl (fun hc => ?_) (fun hc => ?_)) <;> first | exact zG hc | skip) | (refine no_implicit_lambda% (ans ?_)) | (with_reducible first | exact zI | exact zJ) | (refine no_implicit_lambda% (cal [] (h0) ?_ ?_)) | (refine no_implicit_lambda% (cal [0, 1] (hb) ?_ ?_)) | fail)
  refine no_implicit_lambda% (aqs ?_ ?_)
  ·show c.data.toList.length ≤ 4611686018427387904
   omega
  repeat' (first | (refine no_implicit_lambda% (zH ?_)) | (refine no_implicit_lambda% (spl (fun hc => ?_) (fun hc => ?_)) <;> first | exact zG hc | skip) | (refine no_implicit_lambda% (ans ?_)) | (with_reducible first | exact zI | exact zJ) | (refine no_implicit_lambda% (cal [0, 1] (ht) ?_ ?_)) | fail)
  (rw [show IntKind.u64.wrap t = (t.toNat : Int) by rw [IntKind.wrap_u64]; omega])
  repeat' (first | (refine no_implicit_lambda% (zH ?_)) | (refine no_implicit_lambda% (spl (fun hc => ?_) (fun hc => ?_)) <;> first | exact zG hc | skip) | (refine no_implicit_lambda% (ans ?_)) | (with_reducible first | exact zI | exact zJ) | (refine no_implicit_lambda% (cal [0, 1] (hl8) ?_ ?_)) | (refine no_implicit_lambda% (cal [0, 1] (hpa) ?_ ?_)) | fail)
  exact e_ret (H' := wr (l ++ [1] ++ encT c ++ be t.toNat 8 ++ encA v)) (rest := _) rfl ⟨rfl, rfl⟩ permT (LE0 rfl)
 ·(have hc16 := nmB_len (h2 (by decide)); have hb := byte_c l 5 (by omega); have ht := text_c (l ++ [5]) c.data.toList (by omega) (by simp; omega); rw [if_pos (by omega)] at ht)
  (have ht0 := h3 (by decide); unfold tmOk at ht0; have htt := of_decide_eq_true ht0)
  (have hl8 := long_c (l ++ [5] ++ encT c) t.toNat (by omega) (by simp only [List.length_append, encT_len, List.length_singleton]; omega))
  (have hv20 := vRt_len (h4 (by decide)); have hpa := putA_w v hv20 hn (l ++ [5] ++ encT c ++ be t.toNat 8) (by simp only [List.length_append, encT_len, List.length_singleton, be_len]; omega))
  have he : l ++ encCh ⟨5, c, t, v⟩ = l ++ [5] ++ encT c ++ be t.toNat 8 ++ encA v := by show l ++ ([5] ++ encT c ++ be t.toNat 8 ++ encA v) = _; simp only [List.append_assoc]
  rw [he]
  refine no_implicit_lambda% (acalls_of tok dok (f := 79) ⟨Try.func79, rfl, by kernel_rfl⟩ ?_); refine no_implicit_lambda% (c_start (fun _ h => h) ?_)
  repeat' (first | (refine no_implicit_lambda% (zH ?_)) | (refine no_implicit_lambda% (spl (fun hc => ?_) (fun hc => ?_)) <;> first | exact zG hc | skip) | (refine no_implicit_lambda% (ans ?_)) | (with_reducible first | exact zI | exact zJ) | (refine no_implicit_lambda% (cal [] (h0) ?_ ?_)) | (refine no_implicit_lambda% (cal [0, 1] (hb) ?_ ?_)) | fail)
  refine no_implicit_lambda% (aqs ?_ ?_)
  ·show c.data.toList.length ≤ 4611686018427387904
   omega
  repeat' (first | (refine no_implicit_lambda% (zH ?_)) | (refine no_implicit_lambda% (spl (fun hc => ?_) (fun hc => ?_)) <;> first | exact zG hc | skip) | (refine no_implicit_lambda% (ans ?_)) | (with_reducible first | exact zI | exact zJ) | (refine no_implicit_lambda% (cal [0, 1] (ht) ?_ ?_)) | fail)
  (rw [show IntKind.u64.wrap t = (t.toNat : Int) by rw [IntKind.wrap_u64]; omega])
  repeat' (first | (refine no_implicit_lambda% (zH ?_)) | (refine no_implicit_lambda% (spl (fun hc => ?_) (fun hc => ?_)) <;> first | exact zG hc | skip) | (refine no_implicit_lambda% (ans ?_)) | (with_reducible first | exact zI | exact zJ) | (refine no_implicit_lambda% (cal [0, 1] (hl8) ?_ ?_)) | (refine no_implicit_lambda% (cal [0, 1] (hpa) ?_ ?_)) | fail)
  exact e_ret (H' := wr (l ++ [5] ++ encT c ++ be t.toNat 8 ++ encA v)) (rest := _) rfl ⟨rfl, rfl⟩ permT (LE0 rfl)
 ·(have hc16 := nmB_len (h2 (by decide)); have hb := byte_c l 2 (by omega); have ht := text_c (l ++ [2]) c.data.toList (by omega) (by simp; omega); rw [if_pos (by omega)] at ht)
  (have ht0 := h3 (by decide); unfold tmOk at ht0; have htt := of_decide_eq_true ht0)
  (have hl8 := long_c (l ++ [2] ++ encT c) t.toNat (by omega) (by simp only [List.length_append, encT_len, List.length_singleton]; omega))
  have he : l ++ encCh ⟨2, c, t, v⟩ = l ++ [2] ++ encT c ++ be t.toNat 8 := by show l ++ ([2] ++ encT c ++ be t.toNat 8) = _; simp only [List.append_assoc]
  rw [he]
  refine no_implicit_lambda% (acalls_of tok dok (f := 79) ⟨Try.func79, rfl, by kernel_rfl⟩ ?_); refine no_implicit_lambda% (c_start (fun _ h => h) ?_)
  repeat' (first | (refine no_implicit_lambda% (zH ?_)) | (refine no_implicit_lambda% (spl (fun hc => ?_) (fun hc => ?_)) <;> first | exact zG hc | skip) | (refine no_implicit_lambda% (ans ?_)) | (with_reducible first | exact zI | exact zJ) | (refine no_implicit_lambda% (cal [] (h0) ?_ ?_)) | (refine no_implicit_lambda% (cal [0, 1] (hb) ?_ ?_)) | fail)
  refine no_implicit_lambda% (aqs ?_ ?_)
  ·show c.data.toList.length ≤ 4611686018427387904
   omega
  repeat' (first | (refine no_implicit_lambda% (zH ?_)) | (refine no_implicit_lambda% (spl (fun hc => ?_) (fun hc => ?_)) <;> first | exact zG hc | skip) | (refine no_implicit_lambda% (ans ?_)) | (with_reducible first | exact zI | exact zJ) | (refine no_implicit_lambda% (cal [0, 1] (ht) ?_ ?_)) | fail)
  (rw [show IntKind.u64.wrap t = (t.toNat : Int) by rw [IntKind.wrap_u64]; omega])
  repeat' (first | (refine no_implicit_lambda% (zH ?_)) | (refine no_implicit_lambda% (spl (fun hc => ?_) (fun hc => ?_)) <;> first | exact zG hc | skip) | (refine no_implicit_lambda% (ans ?_)) | (with_reducible first | exact zI | exact zJ) | (refine no_implicit_lambda% (cal [0, 1] (hl8) ?_ ?_)) | fail)
  exact e_ret (H' := wr (l ++ [2] ++ encT c ++ be t.toNat 8)) (rest := _) rfl ⟨rfl, rfl⟩ permT (LE0 rfl)
 ·(have hc16 := nmB_len (h2 (by decide)); have hb := byte_c l 3 (by omega); have ht := text_c (l ++ [3]) c.data.toList (by omega) (by simp; omega); rw [if_pos (by omega)] at ht)
  have he : l ++ encCh ⟨3, c, t, v⟩ = l ++ [3] ++ encT c := by show l ++ ([3] ++ encT c) = _; simp only [List.append_assoc]
  rw [he]
  refine no_implicit_lambda% (acalls_of tok dok (f := 79) ⟨Try.func79, rfl, by kernel_rfl⟩ ?_); refine no_implicit_lambda% (c_start (fun _ h => h) ?_)
  repeat' (first | (refine no_implicit_lambda% (zH ?_)) | (refine no_implicit_lambda% (spl (fun hc => ?_) (fun hc => ?_)) <;> first | exact zG hc | skip) | (refine no_implicit_lambda% (ans ?_)) | (with_reducible first | exact zI | exact zJ) | (refine no_implicit_lambda% (cal [] (h0) ?_ ?_)) | (refine no_implicit_lambda% (cal [0, 1] (hb) ?_ ?_)) | fail)
  refine no_implicit_lambda% (aqs ?_ ?_)
  ·show c.data.toList.length ≤ 4611686018427387904
   omega
  repeat' (first | (refine no_implicit_lambda% (zH ?_)) | (refine no_implicit_lambda% (spl (fun hc => ?_) (fun hc => ?_)) <;> first | exact zG hc | skip) | (refine no_implicit_lambda% (ans ?_)) | (with_reducible first | exact zI | exact zJ) | (refine no_implicit_lambda% (cal [0, 1] (ht) ?_ ?_)) | fail)
  exact e_ret (H' := wr (l ++ [3] ++ encT c)) (rest := _) rfl ⟨rfl, rfl⟩ permT (LE0 rfl)
 ·have hb := byte_c l 4 (by omega)
  refine no_implicit_lambda% (acalls_of tok dok (f := 79) ⟨Try.func79, rfl, by kernel_rfl⟩ ?_); refine no_implicit_lambda% (c_start (fun _ h => h) ?_)
  repeat' (first | (refine no_implicit_lambda% (zH ?_)) | (refine no_implicit_lambda% (spl (fun hc => ?_) (fun hc => ?_)) <;> first | exact zG hc | skip) | (refine no_implicit_lambda% (ans ?_)) | (with_reducible first | exact zI | exact zJ) | (refine no_implicit_lambda% (cal [] (h0) ?_ ?_)) | (refine no_implicit_lambda% (cal [0, 1] (hb) ?_ ?_)) | fail)
  exact e_ret (H' := wr (l ++ [4])) (rest := _) rfl ⟨rfl, rfl⟩ permT (LE0 rfl)
end Go.Proofs.Ytncffhgoopdfgaa
namespace Go.Proofs.Ytncffhgoopdfgaa
open Go.Am
set_option maxRecDepth 100000
end Go.Proofs.Ytncffhgoopdfgaa
namespace Go.Proofs.Ytncffhgoopdfgaa
open Go.Am
set_option maxRecDepth 100000
structure Cd where
 has : Bool
 want : Bool
 c : ByteArray
 v : Va
def cdrow (d : Cd) : List AV := [.v (.bool d.has), .v (.bool d.want), .v (.string d.c)] ++ vrowV d.v
end Go.Proofs.Ytncffhgoopdfgaa
namespace Go.Proofs.Ytncffhgoopdfgaa
open Go.Am
set_option maxRecDepth 100000
def rcB (d : Cd) : Bool := !d.has || nmB d.c && (!d.want || vRt d.v)
def encD (d : Cd) : List UInt8 := if d.has then (if d.want then [2] ++ encT d.c ++ encA d.v else [1] ++ encT d.c) else [0]
theorem encD_len {d : Cd} (h : rcB d = true) : (encD d).length ≤ 46 := by
 obtain ⟨has, want, c, v⟩ := d
 unfold rcB at h
 unfold encD
 dsimp only at *
 cases has
 ·simp
 ·cases want
  ·simp at h
   have := nmB_len h
   simp only [if_true, Bool.false_eq_true, if_false, List.length_append, encT_len, List.length_singleton]; omega
  ·simp at h
   have := nmB_len h.1
   have := encA_lw (vRt_len h.2)
   simp only [if_true, List.length_append, encT_len, List.length_singleton]; omega
set_option maxHeartbeats 6400000 in
theorem wcond_c (d : Cd) (l : List UInt8) (hd : rcB d = true) (hn : d.v.n < 18446744073709551616) (hl : l.length < 10000000) : ACalls Try.prog 78 2 200 [.ptr 0 0, .agg (cdrow d)] (wr l) (fun out H' => out = .ret (.tuple []) ∧ H' = wr (l ++ encD d)) := by
 obtain ⟨has, want, c, v⟩ := d
 unfold rcB at hd
 dsimp only at *
 cases has
 ·have hb := byte_c l 0 (by omega)
  refine no_implicit_lambda% (acalls_of tok dok (f := 78) ⟨Try.func78, rfl, by kernel_rfl⟩ ?_); refine no_implicit_lambda% (c_start (fun _ h => h) ?_)
  repeat' (first | (refine no_implicit_lambda% (zH ?_)) | (refine no_implicit_lambda% (spl (fun hc => ?_) (fun hc => ?_)) <;> first | exact zG hc | skip) | (refine no_implicit_lambda% (ans ?_)) | (with_reducible first | exact zI | exact zJ) | (refine no_implicit_lambda% (cal [0, 1] (hb) ?_ ?_)) | fail)
  exact e_ret (H' := wr (l ++ [0])) (rest := _) rfl ⟨rfl, rfl⟩ permT (LE0 rfl)
 ·cases want
  ·simp at hd
   have hc16 := nmB_len hd
   have hb := byte_c l 1 (by omega)
   have ht := text_c (l ++ [1]) c.data.toList (by omega) (by simp; omega)
   rw [if_pos (by omega)] at ht
   have he : l ++ encD ⟨true, false, c, v⟩ = l ++ [1] ++ encT c := by show l ++ ([1] ++ encT c) = _; simp only [List.append_assoc]
   rw [he]
   refine no_implicit_lambda% (acalls_of tok dok (f := 78) ⟨Try.func78, rfl, by kernel_rfl⟩ ?_); refine no_implicit_lambda% (c_start (fun _ h => h) ?_)
   repeat' (first | (refine no_implicit_lambda% (zH ?_)) | (refine no_implicit_lambda% (spl (fun hc => ?_) (fun hc => ?_)) <;> first | exact zG hc | skip) | (refine no_implicit_lambda% (ans ?_)) | (with_reducible first | exact zI | exact zJ) | (refine no_implicit_lambda% (cal [0, 1] (hb) ?_ ?_)) | fail)
   refine no_implicit_lambda% (aqs ?_ ?_)
   ·show c.data.toList.length ≤ 4611686018427387904
    omega
   repeat' (first | (refine no_implicit_lambda% (zH ?_)) | (refine no_implicit_lambda% (spl (fun hc => ?_) (fun hc => ?_)) <;> first | exact zG hc | skip) | (refine no_implicit_lambda% (ans ?_)) | (with_reducible first | exact zI | exact zJ) | (refine no_implicit_lambda% (cal [0, 1] (ht) ?_ ?_)) | fail)
   exact e_ret (H' := wr (l ++ [1] ++ encT c)) (rest := _) rfl ⟨rfl, rfl⟩ permT (LE0 rfl)
  ·simp at hd
   have hc16 := nmB_len hd.1
   have hv20 := vRt_len hd.2
   have hb := byte_c l 2 (by omega)
   have ht := text_c (l ++ [2]) c.data.toList (by omega) (by simp; omega)
   rw [if_pos (by omega)] at ht
   have hpa := putA_w v hv20 hn (l ++ [2] ++ encT c) (by simp only [List.length_append, encT_len, List.length_singleton]; omega)
   have he : l ++ encD ⟨true, true, c, v⟩ = l ++ [2] ++ encT c ++ encA v := by show l ++ ([2] ++ encT c ++ encA v) = _; simp only [List.append_assoc]
   rw [he]
   refine no_implicit_lambda% (acalls_of tok dok (f := 78) ⟨Try.func78, rfl, by kernel_rfl⟩ ?_); refine no_implicit_lambda% (c_start (fun _ h => h) ?_)
   repeat' (first | (refine no_implicit_lambda% (zH ?_)) | (refine no_implicit_lambda% (spl (fun hc => ?_) (fun hc => ?_)) <;> first | exact zG hc | skip) | (refine no_implicit_lambda% (ans ?_)) | (with_reducible first | exact zI | exact zJ) | (refine no_implicit_lambda% (cal [0, 1] (hb) ?_ ?_)) | fail)
   refine no_implicit_lambda% (aqs ?_ ?_)
   ·show c.data.toList.length ≤ 4611686018427387904
    omega
   repeat' (first | (refine no_implicit_lambda% (zH ?_)) | (refine no_implicit_lambda% (spl (fun hc => ?_) (fun hc => ?_)) <;> first | exact zG hc | skip) | (refine no_implicit_lambda% (ans ?_)) | (with_reducible first | exact zI | exact zJ) | (refine no_implicit_lambda% (cal [0, 1] (ht) ?_ ?_)) | (refine no_implicit_lambda% (cal [0, 1] (hpa) ?_ ?_)) | fail)
   exact e_ret (H' := wr (l ++ [2] ++ encT c ++ encA v)) (rest := _) rfl ⟨rfl, rfl⟩ permT (LE0 rfl)
end Go.Proofs.Ytncffhgoopdfgaa
