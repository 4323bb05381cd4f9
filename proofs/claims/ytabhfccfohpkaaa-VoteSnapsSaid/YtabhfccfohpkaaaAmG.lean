/- The abstract machine's operations that build structs and rows, convert, and hold pointers against nil. -/
import Derived.Test.YtabhfccfohpkaaaAmF
import Derived.Laws.IdiomStrings
import Derived.Laws.BytesArg
import Derived.Laws.Pointers
import Derived.Lib.SlBytesConst
namespace Go.Am
open Go.RowKit
set_option linter.unusedSimpArgs false
set_option linter.unusedVariables false

/-- cells against cells -/
def RcQ (Q : AV → Value → Prop) (l : List AV) (arr : Array Value) : Prop := l.length = arr.size ∧ ∀ i a, l[i]? = some a → Q a (arr.getD i undef)
def putCells (cells : List AV) (off : Nat) (new : List AV) : List AV := cells.take off ++ (new ++ cells.drop (off + new.length))
theorem put_len {cells new : List AV} {off : Nat} (h : off + new.length ≤ cells.length) : (putCells cells off new).length = cells.length := by simp [putCells]; omega
theorem put_get {cells new : List AV} {off i : Nat} {a : AV} (h : off + new.length ≤ cells.length) (ha : (putCells cells off new)[i]? = some a) :
    (off ≤ i ∧ i < off + new.length ∧ new[i - off]? = some a) ∨ ((i < off ∨ off + new.length ≤ i) ∧ cells[i]? = some a) := by
  unfold putCells at ha
  rw [List.getElem?_append] at ha
  have ht : (cells.take off).length = off := by simp; omega
  rw [ht] at ha
  split at ha
  · rename_i hi
    exact .inr ⟨.inl hi, (take_get ha).1⟩
  · rename_i hi
    rw [List.getElem?_append] at ha
    split at ha
    · rename_i h2
      exact .inl ⟨by omega, by omega, ha⟩
    · rename_i h2
      have := drop_get ha
      rw [show off + new.length + (i - off - new.length) = i by omega] at this
      exact .inr ⟨.inr (by omega), this⟩
theorem foldl_zip_get (off : Nat) : ∀ (vs : List Value) (k : Nat) (arr : Array Value), off + k + vs.length ≤ arr.size →
    ((vs.zipIdx k).foldl (fun cs p => cs.setIfInBounds (off + p.2) p.1) arr).size = arr.size ∧
    ∀ i, ((vs.zipIdx k).foldl (fun cs p => cs.setIfInBounds (off + p.2) p.1) arr).getD i undef = if off + k ≤ i ∧ i < off + k + vs.length then vs.getD (i - (off + k)) undef else arr.getD i undef
  | [], k, arr, _ => ⟨rfl, fun i => by simp; omega⟩
  | v :: vs, k, arr, h => by
    simp only [List.length_cons] at h
    have ih := foldl_zip_get off vs (k + 1) (arr.setIfInBounds (off + k) v) (by simp; omega)
    simp only [List.zipIdx_cons, List.foldl_cons]
    refine ⟨by rw [ih.1]; simp, fun i => ?_⟩
    rw [ih.2 i]
    by_cases h1 : off + (k + 1) ≤ i ∧ i < off + (k + 1) + vs.length
    · rw [if_pos h1, if_pos (by simp; omega)]
      rw [show i - (off + k) = (i - (off + (k + 1))) + 1 by omega]
      simp
    · rw [if_neg h1]
      by_cases h2 : i = off + k
      · subst h2
        rw [if_pos (by simp)]
        have : off + k < arr.size := by omega
        simp [this]
      · rw [if_neg (by simp; omega)]
        simp [Array.getElem?_setIfInBounds, Ne.symm h2]
/-- parts against parts -/
def Parts (Q : AV → Value → Prop) : List (Nat × List AV) → List (Nat × Value) → Prop
  | [], [] => True
  | (i, l) :: p, (j, v) :: q => i = j ∧ RcQ Q l v.cells ∧ Parts Q p q
  | _, _ => False
def aFill (place : Nat → Option (Nat × Nat)) (cells : List AV) : List (Nat × List AV) → Option (List AV)
  | [] => some cells
  | (i, l) :: rest => match place i with
    | some (off, size) => if l.length = size ∧ off + size ≤ cells.length then aFill place (putCells cells off l) rest else none
    | none => none
theorem fill_rel {Q : AV → Value → Prop} {place : Nat → Option (Nat × Nat)} : ∀ {pa : List (Nat × List AV)} {pv : List (Nat × Value)} {cells cells' : List AV} {arr : Array Value}, Parts Q pa pv → RcQ Q cells arr → aFill place cells pa = some cells' →
    ∃ arr', Instr.fill place arr pv = some arr' ∧ RcQ Q cells' arr'
  | [], [], cells, cells', arr, _, hr, h => by cases h; exact ⟨arr, rfl, hr⟩
  | [], _ :: _, _, _, _, hp, _, _ => hp.elim
  | _ :: _, [], _, _, _, hp, _, _ => hp.elim
  | (i, l) :: pa, (j, v) :: pv, cells, cells', arr, hp, hr, h => by
    obtain ⟨rfl, hl, hp⟩ := hp
    unfold aFill at h
    cases hpl : place i with
    | none => rw [hpl] at h; cases h
    | some os =>
      obtain ⟨off, size⟩ := os
      rw [hpl] at h
      simp only at h
      split at h
      · rename_i hc
        obtain ⟨h1, h2⟩ := hc
        have hvs : v.cells.size = size := by rw [← hl.1]; exact h1
        have hle : off + l.length ≤ cells.length := by omega
        have hfold := foldl_zip_get off v.cells.toList 0 arr (by have := hr.1; simp; omega)
        have hr' : RcQ Q (putCells cells off l) (v.cells.zipIdx.foldl (fun cs (c, j) => cs.setIfInBounds (off + j) c) arr) := by
          have he : v.cells.zipIdx.foldl (fun cs (c, j) => cs.setIfInBounds (off + j) c) arr = (v.cells.toList.zipIdx 0).foldl (fun cs p => cs.setIfInBounds (off + p.2) p.1) arr := by
            rw [← Array.foldl_toList]; simp [Array.toList_zipIdx]
          rw [he]
          refine ⟨by rw [put_len hle, hr.1, hfold.1], fun i a ha => ?_⟩
          rw [hfold.2 i]
          rcases put_get hle ha with ⟨k1, k2, k3⟩ | ⟨k1, k2⟩
          · rw [if_pos (by have := hl.1; simp; omega)]
            have := hl.2 _ _ k3
            simpa using this
          · rw [if_neg (by have := hl.1; simp; omega)]
            exact hr.2 i a k2
        obtain ⟨arr', k1, k2⟩ := fill_rel hp hr' h
        refine ⟨arr', ?_, k2⟩
        unfold Instr.fill
        rw [hpl]
        simp only
        rw [if_neg (by simp only [Bool.or_eq_true, decide_eq_true_eq]; have := hr.1; omega)]
        exact k1
      · cases h

/-- all parts of a literal as cells -/
def partCells (ev : Operand → AV) : List (Nat × Operand) → Option (List (Nat × List AV))
  | [] => some []
  | (i, x) :: r => match acells (ev x), partCells ev r with
    | some l, some p => some ((i, l) :: p)
    | _, _ => none
def sealL : List AV → Option (List AV)
  | [] => some []
  | a :: r => match a.seal, sealL r with
    | some s, some l => if s.one then some (s :: l) else none
    | _, _ => none
def sealParts (ev : Operand → AV) : List (Nat × Operand) → Option (List (Nat × List AV))
  | [] => some []
  | (i, x) :: r => match (acells (ev x)).bind sealL, sealParts ev r with
    | some l, some p => some ((i, l) :: p)
    | _, _ => none
/-- a cell that stays -/
def Cell (X : Nat → Nat → Option Value) (a : AV) (y : Value) : Prop := SimD X a y ∧ y.oneCell' = true
theorem sealL_sim {G : Ghost} {l s : List AV} : ∀ {f : Nat → Value}, sealL l = some s → (∀ i a, l[i]? = some a → Sim G a (f i)) → s.length = l.length ∧ ∀ i a, s[i]? = some a → Cell G.X a (f i) := by
  induction l generalizing s with
  | nil => intro f h _; cases h; exact ⟨rfl, fun i a h => by simp at h⟩
  | cons x l ih =>
    intro f h hs
    unfold sealL at h
    split at h
    · rename_i sx ls h1 h2
      split at h
      · rename_i hone
        cases h
        have k := ih (f := fun i => f (i + 1)) h2 (fun i a ha => hs (i + 1) a (by simpa using ha))
        have hx : SimD G.X sx (f 0) := Sim.seal (hs 0 x (by simp)) h1
        refine ⟨by simp [k.1], fun i a ha => ?_⟩
        cases i with
        | zero => simp at ha; subst ha; exact ⟨hx, Sim.one (.data _ _ hx) hone⟩
        | succ i => exact k.2 i a (by simpa using ha)
      · cases h
    · cases h
theorem partCells_rel {G : Ghost} {ev ρ'} {ρ : Operand → Value} (hρ : ρ' = ρ) : ∀ {parts : List (Nat × Operand)} {p : List (Nat × List AV)}, partCells ev parts = some p → (∀ x ∈ parts.map (·.2), Sim G (ev x) (ρ x)) → Parts (Sim G) p (parts.map fun q => (q.1, ρ' q.2)) := by
  subst hρ
  intro parts
  induction parts with
  | nil => intro p h _; cases h; trivial
  | cons q r ih =>
    obtain ⟨i, x⟩ := q
    intro p h hs
    unfold partCells at h
    split at h
    · rename_i l p' h1 h2
      cases h
      have := acells_sim (hs x (by simp)) h1
      exact ⟨rfl, ⟨this.1, this.2⟩, ih h2 fun y hy => hs y (by simp at hy ⊢; exact .inr hy)⟩
    · cases h
theorem sealParts_rel {G : Ghost} {ev : Operand → AV} {ρ : Operand → Value} : ∀ {parts : List (Nat × Operand)} {p : List (Nat × List AV)}, sealParts ev parts = some p → (∀ x ∈ parts.map (·.2), Sim G (ev x) (ρ x)) → Parts (Cell G.X) p (parts.map fun q => (q.1, ρ q.2)) := by
  intro parts
  induction parts with
  | nil => intro p h _; cases h; trivial
  | cons q r ih =>
    obtain ⟨i, x⟩ := q
    intro p h hs
    unfold sealParts at h
    split at h
    · rename_i l p' h1 h2
      cases h
      rw [Option.bind_eq_some_iff] at h1
      obtain ⟨l0, h3, h4⟩ := h1
      have k1 := acells_sim (hs x (by simp)) h3
      have k2 := sealL_sim (f := fun i => (ρ x).cells.getD i undef) h4 k1.2
      exact ⟨rfl, ⟨by rw [k2.1, k1.1], k2.2⟩, ih h2 fun y hy => hs y (by simp at hy ⊢; exact .inr hy)⟩
    · cases h
def zcells (z : Value) : List AV := z.cells.toList.map AV.ofCell
theorem zcells_rel (G : Ghost) (z : Value) : RcQ (Sim G) (zcells z) z.cells := by
  refine ⟨by simp [zcells], fun i a ha => ?_⟩
  unfold zcells at ha
  rw [List.getElem?_map, Array.getElem?_toList, Option.map_eq_some_iff] at ha
  obtain ⟨y, hy, rfl⟩ := ha
  have : z.cells.getD i undef = y := by simp [hy]
  rw [this]; exact .ofCell G y
theorem SimD.ofCell (X : Nat → Nat → Option Value) (x : Value) : SimD X (.ofCell x) x := by
  unfold AV.ofCell; split
  · exact .nil _ _ _ (Nat.zero_le _) (fun _ => rfl) (.inr rfl)
  · exact .v x

section
variable {P : Program} {L : Heap} {ev raw : Operand → AV} {o : Oper}

theorem part_ops {parts : Array (Nat × Operand)} {G : Ghost} {w : World} {ρ : Operand → Value} (hh : Here P L ev raw o G w ρ) (ho : ∀ x ∈ parts.toList.map (·.2), x ∈ o.op.operands) : ∀ x ∈ parts.toList.map (·.2), Sim G (ev x) (ρ x) :=
  fun x hx => hh.ev x (ho x hx)

theorem mapM_places {w : World} : ∀ (F : List Field), (∀ f ∈ F, (P.info? f.type).isSome = true) →
    (F.mapM (m := Sem) fun f => do pure (f.offset, ← sizeOf f.type)).run P w = .ok (F.map fun f => (f.offset, P.cellsOf f.type)) w
  | [], _ => rfl
  | f :: F, h => by
    have h1 := h f (by simp)
    have ih := mapM_places (w := w) F fun g hg => h g (List.mem_cons_of_mem _ hg)
    cases hi : P.info? f.type with
    | none => simp [hi] at h1
    | some i =>
      have hsz : (sizeOf f.type).run P w = .ok (P.cellsOf f.type) w := by simp [sizeOf, typeInfo, hi, Program.cellsOf]
      rw [List.mapM_cons, Sem.run_bind, Sem.run_bind, hsz]
      simp only [Result.andThen, Sem.run_pure]
      rw [Sem.run_bind, ih]
      rfl

theorem q_build_struct {t : TypeId} {parts : Array (Nat × Operand)} {ti : TI} {fs : List (Nat × Nat)} {z : Value} {p : List (Nat × List AV)} {cells : List AV} (ho : o.op = .build t parts) (ht : TIs P t ti) (hk : ti.kind = .struct fs) (hz : ti.zero = some z)
    (hfs : ∀ f ∈ fs, f.2 ≠ 0) (hp : partCells ev parts.toList = some p) (hf : aFill (fun i => fs[i]?) (zcells z) p = some cells) : QOk P L ev raw o (.agg cells) :=
  .still fun G w ρ hh => by
    have hs := part_ops (parts := parts) hh (by rw [ho]; simp [Op.operands])
    have h1 := partCells_rel (ρ := ρ) rfl hp hs
    obtain ⟨F, hF, hFs⟩ := ht.struct hk
    obtain ⟨arr, h2, h3⟩ := fill_rel h1 (zcells_rel G z) hf
    refine ⟨.agg arr, ?_, .agg _ _ h3.1 h3.2⟩
    have hm : (F.mapM (m := Sem) fun f => do pure (f.offset, ← sizeOf f.type)).run P w = .ok (F.map fun f => (f.offset, P.cellsOf f.type)) w := by
      rw [Array.mapM_eq_mapM_toList, Sem.run_map, mapM_places]
      · simp only [Result.andThen, ← List.map_toArray]
      · intro f hf'
        have := hfs (f.offset, P.cellsOf f.type) (by rw [← hFs]; exact List.mem_map_of_mem hf')
        unfold Program.cellsOf at this
        cases hi : P.info? f.type with
        | none => simp [hi] at this
        | some i => rfl
    have hpl : (fun i : Nat => (F.map fun f => (f.offset, P.cellsOf f.type))[i]?) = fun i : Nat => fs[i]? := by
      funext i
      rw [← hFs, ← Array.getElem?_toList]; simp
    have hz' : ht.i.zero = some z := by rw [ht.zero]; exact hz
    have hpm : (parts.map fun x => (x.1, ρ x.2)).toList = parts.toList.map fun q => (q.1, ρ q.2) := by simp
    have hz'' : (zeroValue t).run P w = .ok z w := by simp [zeroValue, typeInfo, ht.info, hz']
    have hb : (Instr.build t (parts.map fun (i, x) => (i, ρ x))).run P w = .ok (.agg arr) w := by
      unfold Instr.build
      rw [Sem.run_bind, hz'']
      simp only [Result.andThen]
      rw [Sem.run_bind, run_underlying hF]
      simp only [Result.andThen]
      rw [Sem.run_bind, hm]
      simp only [Result.andThen]
      rw [hpl, hpm, h2]
      rfl
    simp only [execOp, ho]
    rw [Sem.run_bind, hb]
    rfl
end
end Go.Am
