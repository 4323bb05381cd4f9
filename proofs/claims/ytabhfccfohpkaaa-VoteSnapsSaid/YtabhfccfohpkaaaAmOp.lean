/- Arguments, opened as abstract values. -/
import Derived.Test.YtabhfccfohpkaaaAmZ
import Derived.ChangeSlices
import Derived.ShutString
namespace Go.Am
open Go.RowKit Go.ChangeShapes Go.WideShapes
set_option linter.unusedSimpArgs false
set_option linter.unusedVariables false

def cellsX (w : World) : Nat → Nat → Option Value := fun b i => w.cell? ⟨b, i, none⟩
/-- a row of cells and what is known of it -/
def RowSim (X : Nat → Nat → Option Value) (row : List AV) (cs : List Value) : Prop :=
  row.length = cs.length ∧ ∀ (j : Nat) a y, row[j]? = some a → cs[j]? = some y → SimD X a y ∧ y.oneCell' = true
section
variable {H : Type} (enc : TypeId × Value → H) (P : Program) (w : World) (base : Nat) (sp : Nat → Bool) (held : Bool)
/-- every reading of this type's cells is a row of this kind -/
def Opn (t : TypeId) (R : List AV → Prop) : Prop := ∀ fuel cs x, DataW.trod enc P w base sp held fuel t cs = some x → ∃ row, RowSim (cellsX w) row cs ∧ R row
end
section
variable {H : Type} {enc : TypeId × Value → H} {P : Program} {w : World} {base : Nat} {sp : Nat → Bool} {held : Bool}
theorem RowSim.one {X : Nat → Nat → Option Value} {a : AV} {y : Value} (h : SimD X a y) (h1 : y.oneCell' = true) : RowSim X [a] [y] :=
  ⟨rfl, fun j b z hb hz => by
    cases j with
    | zero => simp at hb hz; subst hb; subst hz; exact ⟨h, h1⟩
    | succ j => simp at hb⟩
theorem RowSim.app {X : Nat → Nat → Option Value} {r s : List AV} {c d : List Value} (h : RowSim X r c) (k : RowSim X s d) : RowSim X (r ++ s) (c ++ d) :=
  ⟨by simp [h.1, k.1], fun j a y ha hy => by
    rw [List.getElem?_append] at ha hy
    rw [h.1] at ha
    split at ha
    · rw [if_pos (by assumption)] at hy; exact h.2 j a y ha hy
    · rw [if_neg (by assumption)] at hy; exact k.2 _ a y ha hy⟩
theorem opn_int {t : TypeId} {k : IntKind} (ht : P.underlying t = some (.int k)) : Opn enc P w base sp held t fun row => ∃ n, row = [.v (.int k n)] ∧ k.min ≤ n ∧ n ≤ k.max := fun fuel cs x h => by
  obtain ⟨n, rfl, _, hw⟩ := DataW.trod_int ht h
  simp only [Lit.wf, Bool.and_eq_true, decide_eq_true_eq] at hw
  exact ⟨_, .one (.v _) rfl, n, rfl, hw⟩
theorem opn_bool {t : TypeId} (ht : P.underlying t = some .bool) : Opn enc P w base sp held t fun row => ∃ b, row = [.v (.bool b)] := fun fuel cs x h => by
  obtain ⟨b, rfl, _⟩ := DataW.trod_bool ht h
  exact ⟨_, .one (.v _) rfl, b, rfl⟩
theorem opn_string {t : TypeId} (ht : P.underlying t = some .string) : Opn enc P w base sp held t fun row => ∃ s : ByteArray, row = [.v (.string s)] ∧ s.size ≤ maxLen := fun fuel cs x h => by
  obtain ⟨s, rfl, _, hs⟩ := DataW.trod_string ht h
  exact ⟨_, .one (.v _) rfl, s, rfl, hs⟩
theorem opn_float {t : TypeId} (ht : P.underlying t = some (.float .f64)) : Opn enc P w base sp held t fun row => ∃ b, row = [.v (.float .f64 b)] ∧ b < 18446744073709551616 := fun fuel cs x h => by
  cases fuel with
  | zero => simp [DataW.trod] at h
  | succ n =>
    unfold DataW.trod at h
    rw [ht] at h
    match cs, h with
    | [.float k' b], h =>
      simp only at h
      split at h
      · rename_i hw
        obtain ⟨rfl, hw⟩ := hw
        simp only [Lit.wf, decide_eq_true_eq] at hw
        exact ⟨_, .one (.v _) rfl, b, rfl, hw⟩
      · cases h
theorem cells_get {a : Addr} {n : Nat} {cs : List Value} (h : w.cells? base a n = some cs) : cs.length = n ∧ ∀ j, j < n → w.cell? (a.add j) = cs[j]? := by
  unfold World.cells? at h
  split at h
  · have h1 := mapM_some_length h
    refine ⟨by simpa using h1, fun j hj => ?_⟩
    have h2 := mapM_some_get h j j (by simp [hj])
    exact h2
  · cases h
theorem cell_spot {a : Addr} {v : Value} (h : w.cell? a = some v) : a.spot = none := by
  unfold World.cell? at h
  split at h
  · split at h
    · cases h
    · rename_i h1; simpa using h1
  · cases h
theorem add_at {a : Addr} (h : a.spot = none) (n : Nat) : a.add n = ⟨a.block, a.off + n, none⟩ := by
  obtain ⟨b, o, s⟩ := a
  simp only at h
  subst h
  unfold Addr.add
  split
  · rename_i h0; subst h0; rfl
  · rfl
theorem opn_slice {t e : TypeId} {s : Nat} {R : List AV → Prop} (ht : P.underlying t = some (.slice e)) (hs : P.cellsOf e = s) (h0 : 0 < s) (he : Opn enc P w base sp held e R) :
    Opn enc P w base sp held t fun row => ∃ rows, row = [.list rows .free] ∧ rows.length ≤ maxLen ∧ ∀ r ∈ rows, R r ∧ r.length = s := fun fuel cs x h => by
  rcases DataW.trod_slice ht h with ⟨rfl, _⟩ | ⟨a, len, cap, elems, rest, n, _, rfl, _, hb, hl, hm, hlen, hel, _, _⟩
  · exact ⟨_, .one (.nil .free none 0 (Nat.zero_le _) (fun h => by cases h) (.inl rfl)) rfl, [], rfl, Nat.zero_le _, fun r hr => (List.not_mem_nil hr).elim⟩
  subst hs
  have each : ∀ i, i < len → ∃ row cs', RowSim (cellsX w) row cs' ∧ R row ∧ cs'.length = P.cellsOf e ∧ ∀ j, j < P.cellsOf e → w.cell? ((a.add (i * P.cellsOf e)).add j) = cs'[j]? := fun i hi => by
    have h1 := hel i hi
    have hi' : i < elems.length := by omega
    rw [List.getElem?_eq_getElem hi', Option.bind_eq_some_iff] at h1
    obtain ⟨cs', hcs, hy⟩ := h1
    obtain ⟨row, k1, k2⟩ := he _ _ _ hy
    obtain ⟨k3, k4⟩ := cells_get hcs
    exact ⟨row, cs', k1, k2, k3, k4⟩
  rcases Nat.eq_zero_or_pos len with rfl | hpos
  · exact ⟨_, .one (.nil .free (some a) cap hm (fun h => by cases h) (.inl rfl)) rfl, [], rfl, Nat.zero_le _, fun r hr => (List.not_mem_nil hr).elim⟩
  have hspot : a.spot = none := by
    obtain ⟨row, cs', k1, k2, k3, k4⟩ := each 0 hpos
    have h2 := k4 0 h0
    have : cs'[0]? = some cs'[0] := List.getElem?_eq_getElem (by omega)
    rw [this] at h2
    have e : ((a.add (0 * P.cellsOf e)).add 0) = a := by simp [Addr.add]
    rw [e] at h2
    exact cell_spot h2
  -- the rows
  have hex : ∀ m, m ≤ len → ∃ rows : List (List AV), rows.length = m ∧ (∀ r ∈ rows, R r ∧ r.length = P.cellsOf e) ∧ ∀ i row, rows[i]? = some row → ∃ cs', RowSim (cellsX w) row cs' ∧ cs'.length = P.cellsOf e ∧ ∀ j, j < P.cellsOf e → w.cell? ((a.add (i * P.cellsOf e)).add j) = cs'[j]? := by
    intro m
    induction m with
    | zero => intro _; exact ⟨[], rfl, fun r hr => (List.not_mem_nil hr).elim, fun i row h => by simp at h⟩
    | succ m ih =>
      intro hm'
      obtain ⟨rows, r1, r2, r3⟩ := ih (by omega)
      obtain ⟨row, cs', k1, k2, k3, k4⟩ := each m (by omega)
      refine ⟨rows ++ [row], by simp [r1], fun r hr => ?_, fun i row' h => ?_⟩
      · rcases List.mem_append.1 hr with hr | hr
        · exact r2 r hr
        · obtain rfl := List.mem_singleton.1 hr
          exact ⟨k2, by rw [k1.1, k3]⟩
      · rw [List.getElem?_append] at h
        split at h
        · exact r3 i row' h
        · rename_i hge
          have hi : i = m := by
            have := (List.getElem?_eq_some_iff.1 h).1
            simp at this; omega
          subst hi
          rw [r1, Nat.sub_self] at h
          simp at h
          subst h
          exact ⟨cs', k1, k3, k4⟩
  obtain ⟨rows, r1, r2, r3⟩ := hex len (Nat.le_refl _)
  obtain ⟨b, off, sp'⟩ := a
  simp only at hspot
  subst hspot
  refine ⟨_, .one (?_ : SimD (cellsX w) (.list rows .free) _) rfl, rows, rfl, by rw [r1]; exact Nat.le_trans hl hm, r2⟩
  have key : ∀ i row j av, rows[i]? = some row → row[j]? = some av → ∃ y, cellsX w b (off + i * P.cellsOf e + j) = some y ∧ SimD (cellsX w) av y ∧ y.oneCell' = true := fun i row j av h1 h2 => by
    obtain ⟨cs', k1, k3, k4⟩ := r3 i row h1
    have hj : j < P.cellsOf e := by
      have := (List.getElem?_eq_some_iff.1 h2).1
      rw [k1.1, k3] at this; exact this
    have hj' : j < cs'.length := by omega
    have h4 := k4 j hj
    rw [List.getElem?_eq_getElem hj'] at h4
    obtain ⟨m1, m2⟩ := k1.2 j av cs'[j] h2 (List.getElem?_eq_getElem hj')
    refine ⟨cs'[j], ?_, m1, m2⟩
    rw [add_at (a := ⟨b, off, none⟩) rfl, add_at rfl] at h4
    exact h4
  have := SimD.list (X := cellsX w) rows .free b off cap (P.cellsOf e) (fun i j => (cellsX w b (off + i * P.cellsOf e + j)).getD undef) (by omega) hm (fun h => by cases h) (.inl rfl) (fun r hr => (r2 r hr).2)
    (fun i row j av h1 h2 => by obtain ⟨y, e1, _⟩ := key i row j av h1 h2; rw [e1]; rfl) (fun i row j av h1 h2 => by obtain ⟨y, e1, e2, _⟩ := key i row j av h1 h2; rw [e1]; exact e2) (fun i row j av h1 h2 => by obtain ⟨y, e1, _, e3⟩ := key i row j av h1 h2; rw [e1]; exact e3)
  rw [r1] at this
  exact this
theorem Opn.mono {t : TypeId} {R R' : List AV → Prop} (h : Opn enc P w base sp held t R) (hr : ∀ row, R row → R' row) : Opn enc P w base sp held t R' := fun fuel cs x hx => let ⟨row, h1, h2⟩ := h fuel cs x hx; ⟨row, h1, hr row h2⟩
/-- the fields of a struct, one behind the other -/
def AllR : List (List AV → Prop) → List AV → Prop
  | [], row => row = []
  | R :: Rs, row => ∃ r r', row = r ++ r' ∧ R r ∧ AllR Rs r'
def OpnAll (enc : TypeId × Value → H) (P : Program) (w : World) (base : Nat) (sp : Nat → Bool) (held : Bool) : Nat → List Field → List (List AV → Prop) → Nat → Prop
  | off, [], [], total => off = total
  | off, f :: fs, R :: Rs, total => f.offset = off ∧ Opn enc P w base sp held f.type R ∧ OpnAll enc P w base sp held (off + P.cellsOf f.type) fs Rs total
  | _, _, _, _ => False
theorem opn_fields : ∀ (fs : List Field) (Rs : List (List AV → Prop)) (off total n : Nat) (cs : List Value) (xs : List (DataW H × List MemPlace)), OpnAll enc P w base sp held off fs Rs total → cs.length = total →
    (∀ (i : Nat) (f : Field), fs[i]? = some f → ∃ x, DataW.trod enc P w base sp held n f.type ((cs.drop f.offset).take (P.cellsOf f.type)) = some x) → off ≤ total → ∃ row, RowSim (cellsX w) row (cs.drop off) ∧ AllR Rs row
  | [], [], off, total, n, cs, xs, h, hl, hx, ho => by
    have : off = total := h
    subst this
    refine ⟨[], ⟨by simp [hl], fun j a y h => by simp at h⟩, rfl⟩
  | f :: fs, R :: Rs, off, total, n, cs, xs, h, hl, hx, ho => by
    obtain ⟨rfl, h1, h2⟩ := h
    obtain ⟨x, hx0⟩ := hx 0 f rfl
    obtain ⟨r, k1, k2⟩ := h1 _ _ _ hx0
    have hle : f.offset + P.cellsOf f.type ≤ total := by
      have : ∀ (fs : List Field) (Rs : List (List AV → Prop)) (off total : Nat), OpnAll enc P w base sp held off fs Rs total → off ≤ total := by
        intro fs
        induction fs with
        | nil => intro Rs off total h; cases Rs with
          | nil => exact Nat.le_of_eq h
          | cons _ _ => exact h.elim
        | cons g gs ih => intro Rs off total h; cases Rs with
          | nil => exact h.elim
          | cons R Rs => exact Nat.le_trans (Nat.le_add_right _ _) (ih _ _ _ h.2.2)
      exact this _ _ _ _ h2
    obtain ⟨r', m1, m2⟩ := opn_fields fs Rs _ total n cs xs h2 hl (fun i g hg => hx (i + 1) g (by simpa using hg)) hle
    refine ⟨r ++ r', ?_, r, r', rfl, k2, m2⟩
    have e : cs.drop f.offset = (cs.drop f.offset).take (P.cellsOf f.type) ++ cs.drop (f.offset + P.cellsOf f.type) := by
      rw [← List.drop_drop, List.take_append_drop]
    rw [e]
    exact k1.app m1
  | [], _ :: _, _, _, _, _, _, h, _, _, _ => h.elim
  | _ :: _, [], _, _, _, _, _, h, _, _, _ => h.elim
theorem opn_struct {t : TypeId} {fs : Array Field} {Rs : List (List AV → Prop)} (ht : P.underlying t = some (.struct fs)) (h : OpnAll enc P w base sp held 0 fs.toList Rs (P.cellsOf t)) : Opn enc P w base sp held t (AllR Rs) := fun fuel cs x hx => by
  obtain ⟨xs, n, _, _, h1, h2, h3⟩ := DataW.trod_struct ht hx
  exact opn_fields fs.toList Rs 0 (P.cellsOf t) n cs xs h h1 (fun i f hf => by
    rw [Array.getElem?_toList] at hf
    have := h3 i f hf
    have hi : i < xs.length := by rw [h2]; exact (Array.getElem?_eq_some_iff.1 hf).1
    rw [List.getElem?_eq_getElem hi] at this
    exact ⟨_, this⟩) (Nat.zero_le _)
/-- a slice of rows, as a list -/
theorem listOf {α : Type} {f : α → List AV} {Q : α → Prop} : ∀ {rows : List (List AV)}, (∀ r ∈ rows, ∃ a, Q a ∧ r = f a) → ∃ l : List α, (∀ a ∈ l, Q a) ∧ rows = l.map f
  | [], _ => ⟨[], fun a ha => (List.not_mem_nil ha).elim, rfl⟩
  | r :: rows, h => by
    obtain ⟨a, ha, rfl⟩ := h r (by simp)
    obtain ⟨l, hl, rfl⟩ := listOf (rows := rows) fun r hr => h r (List.mem_cons_of_mem _ hr)
    exact ⟨a :: l, fun b hb => by rcases List.mem_cons.1 hb with rfl | hb; exact ha; exact hl b hb, rfl⟩
/-- octets -/
theorem opn_bytes {t e : TypeId} (ht : P.underlying t = some (.slice e)) (he : P.underlying e = some (.int .u8)) (hc : P.cellsOf e = 1) : Opn enc P w base sp held t fun row => ∃ l : List UInt8, row = [.list (l.map brow) .free] ∧ l.length ≤ maxLen :=
  (opn_slice ht hc (by decide) (opn_int he)).mono fun row ⟨rows, h1, h2, h3⟩ => by
    obtain ⟨l, _, rfl⟩ := listOf (f := brow) (Q := fun _ => True) fun r hr => by
      obtain ⟨⟨n, rfl, h4, h5⟩, _⟩ := h3 r hr
      have h4' : 0 ≤ n := h4
      have h5' : n ≤ 255 := h5
      refine ⟨UInt8.ofNat n.toNat, trivial, ?_⟩
      unfold brow
      rw [UInt8.toNat_ofNat']
      congr 3
      omega
    exact ⟨l, h1, by simpa using h2⟩
/-- a value of one cell, as an argument -/
theorem Opn.arg {t : TypeId} {v : Value} {d : DataW H} {ps : List MemPlace} {R : List AV → Prop} (h : Opn enc P w base sp held t R) (hd : DataW.Trod enc P w base sp held t v d ps) (hv : v.cells = #[v]) : ∃ a, R [a] ∧ SimD (cellsX w) a v := by
  obtain ⟨fuel, hf⟩ := hd
  obtain ⟨row, h1, h2⟩ := h _ _ _ hf
  rw [hv] at h1
  have hl : row.length = 1 := h1.1
  obtain ⟨a, rfl⟩ := List.length_eq_one_iff.1 hl
  exact ⟨a, h2, (h1.2 0 a v rfl rfl).1⟩
end
end Go.Am
