/- Part 2 of what the laws CmdTells rest on: AmG, AmH, AmI, AmJ, AmK, AmL. -/
import Derived.Test.YtncffhgoopdfgaaGreatP1
import Derived.Laws.IdiomStrings
import Derived.Laws.BytesArg
import Derived.Laws.Pointers
import Derived.Lib.SlBytesConst
import Derived.IntWalk
import Derived.Deep.AppendSrc
import Derived.Deep.Upon
import Derived.Room.Entries
set_option linter.unusedSimpArgs false
set_option linter.unusedVariables false
namespace Go.Am
open Go.RowKit
def RcQ (Q : AV → Value → Prop) (l : List AV) (arr : Array Value) : Prop := l.length = arr.size ∧ ∀ i a, l[i]? = some a → Q a (arr.getD i undef)
def putCells (cells : List AV) (off : Nat) (new : List AV) : List AV := cells.take off ++ (new ++ cells.drop (off + new.length))
theorem put_len {cells new : List AV} {off : Nat} (h : off + new.length ≤ cells.length) : (putCells cells off new).length = cells.length := by simp [putCells]; omega
theorem put_get {cells new : List AV} {off i : Nat} {a : AV} (h : off + new.length ≤ cells.length) (ha : (putCells cells off new)[i]? = some a) :
  (off ≤ i ∧ i < off + new.length ∧ new[i - off]? = some a) ∨ ((i < off ∨ off + new.length ≤ i) ∧ cells[i]? = some a) := by
 unfold putCells at ha
 rw [List.getElem?_append] at ha
 have ht : (cells.take off).length = off := by simp; omega
 rw [ht] at ha
 split at ha
 ·rename_i hi
  exact .inr ⟨.inl hi, (take_get ha).1⟩
 ·rename_i hi
  rw [List.getElem?_append] at ha
  split at ha
  ·rename_i h2
   exact .inl ⟨by omega, by omega, ha⟩
  ·rename_i h2
   have := drop_get ha
   rw [show off + new.length + (i - off - new.length) = i by omega] at this
   exact .inr ⟨.inr (by omega), this⟩
theorem foldl_zip_get (off : Nat) : ∀ (vs : List Value) (k : Nat) (arr : Array Value), off + k + vs.length ≤ arr.size →
  ((vs.zipIdx k).foldl (fun cs p => cs.setIfInBounds (off + p.2) p.1) arr).size = arr.size ∧
  ∀ i, ((vs.zipIdx k).foldl (fun cs p => cs.setIfInBounds (off + p.2) p.1) arr).getD i undef = if off + k ≤ i ∧ i < off + k + vs.length then vs.getD (i - (off + k)) undef else arr.getD i undef
 | [], k, arr, _ => ⟨rfl, fun i => by simp; omega⟩
 | v :: vs, k, arr, h => by
  simp only [List.length_cons] at h
  have ih := foldl_zip_get off vs (k + 1) (arr.setIfInBounds (off + k) v) (by simp; omega)
  simp only [List.zipIdx_cons, List.foldl_cons]
  refine ⟨by rw [ih.1]; simp, fun i => ?_⟩
  rw [ih.2 i]
  by_cases h1 : off + (k + 1) ≤ i ∧ i < off + (k + 1) + vs.length
  ·rw [if_pos h1, if_pos (by simp; omega)]
   rw [show i - (off + k) = (i - (off + (k + 1))) + 1 by omega]
   simp
  ·rw [if_neg h1]
   by_cases h2 : i = off + k
   ·subst h2
    rw [if_pos (by simp)]
    have : off + k < arr.size := by omega
    simp [this]
   ·rw [if_neg (by simp; omega)]
    simp [Array.getElem?_setIfInBounds, Ne.symm h2]
def Parts (Q : AV → Value → Prop) : List (Nat × List AV) → List (Nat × Value) → Prop
 | [], [] => True
 | (i, l) :: p, (j, v) :: q => i = j ∧ RcQ Q l v.cells ∧ Parts Q p q
 | _, _ => False
def aFill (place : Nat → Option (Nat × Nat)) (cells : List AV) : List (Nat × List AV) → Option (List AV)
 | [] => some cells
 | (i, l) :: rest => match place i with
  | some (off, size) => if l.length = size ∧ off + size ≤ cells.length then aFill place (putCells cells off l) rest else none
  | none => none
theorem fill_rel {Q : AV → Value → Prop} {place : Nat → Option (Nat × Nat)} : ∀ {pa : List (Nat × List AV)} {pv : List (Nat × Value)} {cells cells' : List AV} {arr : Array Value}, Parts Q pa pv → RcQ Q cells arr → aFill place cells pa = some cells' →
  ∃ arr', Instr.fill place arr pv = some arr' ∧ RcQ Q cells' arr'
 | [], [], cells, cells', arr, _, hr, h => by cases h; exact ⟨arr, rfl, hr⟩
 | [], _ :: _, _, _, _, hp, _, _ => hp.elim
 | _ :: _, [], _, _, _, hp, _, _ => hp.elim
 | (i, l) :: pa, (j, v) :: pv, cells, cells', arr, hp, hr, h => by
  obtain ⟨rfl, hl, hp⟩ := hp
  unfold aFill at h
  cases hpl : place i with
  | none => rw [hpl] at h; cases h
  | some os =>
   obtain ⟨off, size⟩ := os
   rw [hpl] at h
   simp only at h
   split at h
   ·rename_i hc
    obtain ⟨h1, h2⟩ := hc
    have hvs : v.cells.size = size := by rw [← hl.1]; exact h1
    have hle : off + l.length ≤ cells.length := by omega
    have hfold := foldl_zip_get off v.cells.toList 0 arr (by have := hr.1; simp; omega)
    have hr' : RcQ Q (putCells cells off l) (v.cells.zipIdx.foldl (fun cs (c, j) => cs.setIfInBounds (off + j) c) arr) := by
     have he : v.cells.zipIdx.foldl (fun cs (c, j) => cs.setIfInBounds (off + j) c) arr = (v.cells.toList.zipIdx 0).foldl (fun cs p => cs.setIfInBounds (off + p.2) p.1) arr := by
      rw [← Array.foldl_toList]; simp [Array.toList_zipIdx]
     rw [he]
     refine ⟨by rw [put_len hle, hr.1, hfold.1], fun i a ha => ?_⟩
     rw [hfold.2 i]
     rcases put_get hle ha with ⟨k1, k2, k3⟩ | ⟨k1, k2⟩
     ·rw [if_pos (by have := hl.1; simp; omega)]
      have := hl.2 _ _ k3
      simpa using this
     ·rw [if_neg (by have := hl.1; simp; omega)]
      exact hr.2 i a k2
    obtain ⟨arr', k1, k2⟩ := fill_rel hp hr' h
    refine ⟨arr', ?_, k2⟩
    unfold Instr.fill
    rw [hpl]
    simp only
    rw [if_neg (by simp only [Bool.or_eq_true, decide_eq_true_eq]; have := hr.1; omega)]
    exact k1
   ·cases h
def partCells (ev : Operand → AV) : List (Nat × Operand) → Option (List (Nat × List AV))
 | [] => some []
 | (i, x) :: r => match acells (ev x), partCells ev r with
  | some l, some p => some ((i, l) :: p)
  | _, _ => none
def sealL : List AV → Option (List AV)
 | [] => some []
 | a :: r => match a.seal, sealL r with
  | some s, some l => if s.one then some (s :: l) else none
  | _, _ => none
def sealParts (ev : Operand → AV) : List (Nat × Operand) → Option (List (Nat × List AV))
 | [] => some []
 | (i, x) :: r => match (acells (ev x)).bind sealL, sealParts ev r with
  | some l, some p => some ((i, l) :: p)
  | _, _ => none
def Cell (X : Nat → Nat → Option Value) (a : AV) (y : Value) : Prop := SimD X a y ∧ y.oneCell' = true
theorem sealL_sim {G : Ghost} {l s : List AV} : ∀ {f : Nat → Value}, sealL l = some s → (∀ i a, l[i]? = some a → Sim G a (f i)) → s.length = l.length ∧ ∀ i a, s[i]? = some a → Cell G.X a (f i) := by
 induction l generalizing s with
 | nil => intro f h _; cases h; exact ⟨rfl, fun i a h => by simp at h⟩
 | cons x l ih =>
  intro f h hs
  unfold sealL at h
  split at h
  ·rename_i sx ls h1 h2
   split at h
   ·rename_i hone
    cases h
    have k := ih (f := fun i => f (i + 1)) h2 (fun i a ha => hs (i + 1) a (by simpa using ha))
    have hx : SimD G.X sx (f 0) := Sim.seal (hs 0 x (by simp)) h1
    refine ⟨by simp [k.1], fun i a ha => ?_⟩
    cases i with
    | zero => simp at ha; subst ha; exact ⟨hx, Sim.one (.data _ _ hx) hone⟩
    | succ i => exact k.2 i a (by simpa using ha)
   ·cases h
  ·cases h
theorem partCells_rel {G : Ghost} {ev ρ'} {ρ : Operand → Value} (hρ : ρ' = ρ) : ∀ {parts : List (Nat × Operand)} {p : List (Nat × List AV)}, partCells ev parts = some p → (∀ x ∈ parts.map (·.2), Sim G (ev x) (ρ x)) → Parts (Sim G) p (parts.map fun q => (q.1, ρ' q.2)) := by
 subst hρ
 intro parts
 induction parts with
 | nil => intro p h _; cases h; trivial
 | cons q r ih =>
  obtain ⟨i, x⟩ := q
  intro p h hs
  unfold partCells at h
  split at h
  ·rename_i l p' h1 h2
   cases h
   have := acells_sim (hs x (by simp)) h1
   exact ⟨rfl, ⟨this.1, this.2⟩, ih h2 fun y hy => hs y (by simp at hy ⊢; exact .inr hy)⟩
  ·cases h
theorem sealParts_rel {G : Ghost} {ev : Operand → AV} {ρ : Operand → Value} : ∀ {parts : List (Nat × Operand)} {p : List (Nat × List AV)}, sealParts ev parts = some p → (∀ x ∈ parts.map (·.2), Sim G (ev x) (ρ x)) → Parts (Cell G.X) p (parts.map fun q => (q.1, ρ q.2)) := by
 intro parts
 induction parts with
 | nil => intro p h _; cases h; trivial
 | cons q r ih =>
  obtain ⟨i, x⟩ := q
  intro p h hs
  unfold sealParts at h
  split at h
  ·rename_i l p' h1 h2
   cases h
   rw [Option.bind_eq_some_iff] at h1
   obtain ⟨l0, h3, h4⟩ := h1
   have k1 := acells_sim (hs x (by simp)) h3
   have k2 := sealL_sim (f := fun i => (ρ x).cells.getD i undef) h4 k1.2
   exact ⟨rfl, ⟨by rw [k2.1, k1.1], k2.2⟩, ih h2 fun y hy => hs y (by simp at hy ⊢; exact .inr hy)⟩
  ·cases h
def zcells (z : Value) : List AV := z.cells.toList.map AV.ofCell
theorem zcells_rel (G : Ghost) (z : Value) : RcQ (Sim G) (zcells z) z.cells := by
 refine ⟨by simp [zcells], fun i a ha => ?_⟩
 unfold zcells at ha
 rw [List.getElem?_map, Array.getElem?_toList, Option.map_eq_some_iff] at ha
 obtain ⟨y, hy, rfl⟩ := ha
 have : z.cells.getD i undef = y := by simp [hy]
 rw [this]; exact .ofCell G y
theorem SimD.ofCell (X : Nat → Nat → Option Value) (x : Value) : SimD X (.ofCell x) x := by
 unfold AV.ofCell; split
 ·exact .nil _ _ _ (Nat.zero_le _) (fun _ => rfl) (.inr rfl)
 ·exact .v x
section
variable {P : Program} {L : Heap} {ev raw : Operand → AV} {o : Oper}
theorem part_ops {parts : Array (Nat × Operand)} {G : Ghost} {w : World} {ρ : Operand → Value} (hh : Here P L ev raw o G w ρ) (ho : ∀ x ∈ parts.toList.map (·.2), x ∈ o.op.operands) : ∀ x ∈ parts.toList.map (·.2), Sim G (ev x) (ρ x) :=
 fun x hx => hh.ev x (ho x hx)
theorem mapM_places {w : World} : ∀ (F : List Field), (∀ f ∈ F, (P.info? f.type).isSome = true) →
  (F.mapM (m := Sem) fun f => do pure (f.offset, ← sizeOf f.type)).run P w = .ok (F.map fun f => (f.offset, P.cellsOf f.type)) w
 | [], _ => rfl
 | f :: F, h => by
  have h1 := h f (by simp)
  have ih := mapM_places (w := w) F fun g hg => h g (List.mem_cons_of_mem _ hg)
  cases hi : P.info? f.type with
  | none => simp [hi] at h1
  | some i =>
   have hsz : (sizeOf f.type).run P w = .ok (P.cellsOf f.type) w := by simp [sizeOf, typeInfo, hi, Program.cellsOf]
   rw [List.mapM_cons, Sem.run_bind, Sem.run_bind, hsz]
   simp only [Result.andThen, Sem.run_pure]
   rw [Sem.run_bind, ih]
   rfl
theorem q_build_struct {t : TypeId} {parts : Array (Nat × Operand)} {ti : TI} {fs : List (Nat × Nat)} {z : Value} {p : List (Nat × List AV)} {cells : List AV} (ho : o.op = .build t parts) (ht : TIs P t ti) (hk : ti.kind = .struct fs) (hz : ti.zero = some z)
  (hfs : ∀ f ∈ fs, f.2 ≠ 0) (hp : partCells ev parts.toList = some p) (hf : aFill (fun i => fs[i]?) (zcells z) p = some cells) : QOk P L ev raw o (.agg cells) :=
 .still fun G w ρ hh => by
  have hs := part_ops (parts := parts) hh (by rw [ho]; simp [Op.operands])
  have h1 := partCells_rel (ρ := ρ) rfl hp hs
  obtain ⟨F, hF, hFs⟩ := ht.struct hk
  obtain ⟨arr, h2, h3⟩ := fill_rel h1 (zcells_rel G z) hf
  refine ⟨.agg arr, ?_, .agg _ _ h3.1 h3.2⟩
  have hm : (F.mapM (m := Sem) fun f => do pure (f.offset, ← sizeOf f.type)).run P w = .ok (F.map fun f => (f.offset, P.cellsOf f.type)) w := by
   rw [Array.mapM_eq_mapM_toList, Sem.run_map, mapM_places]
   ·simp only [Result.andThen, ← List.map_toArray]
   ·intro f hf'
    have := hfs (f.offset, P.cellsOf f.type) (by rw [← hFs]; exact List.mem_map_of_mem hf')
    unfold Program.cellsOf at this
    cases hi : P.info? f.type with
    | none => simp [hi] at this
    | some i => rfl
  have hpl : (fun i : Nat => (F.map fun f => (f.offset, P.cellsOf f.type))[i]?) = fun i : Nat => fs[i]? := by
   funext i
   rw [← hFs, ← Array.getElem?_toList]; simp
  have hz' : ht.i.zero = some z := by rw [ht.zero]; exact hz
  have hpm : (parts.map fun x => (x.1, ρ x.2)).toList = parts.toList.map fun q => (q.1, ρ q.2) := by simp
  have hz'' : (zeroValue t).run P w = .ok z w := by simp [zeroValue, typeInfo, ht.info, hz']
  have hb : (Instr.build t (parts.map fun (i, x) => (i, ρ x))).run P w = .ok (.agg arr) w := by
   unfold Instr.build
   rw [Sem.run_bind, hz'']
   simp only [Result.andThen]
   rw [Sem.run_bind, run_underlying hF]
   simp only [Result.andThen]
   rw [Sem.run_bind, hm]
   simp only [Result.andThen]
   rw [hpl, hpm, h2]
   rfl
  simp only [execOp, ho]
  rw [Sem.run_bind, hb]
  rfl
end
end Go.Am
namespace Go.Am
open Go.RowKit
def layRows (size : Nat) (rows : List (List AV)) : List (Nat × List AV) → Option (List (List AV))
 | [] => some rows
 | (i, l) :: r => if l.length = size ∧ i < rows.length then layRows size (rows.set i l) r else none
theorem flatten_set {size : Nat} : ∀ {rows : List (List AV)} {i : Nat} {l : List AV}, (∀ row ∈ rows, row.length = size) → l.length = size → i < rows.length → (rows.set i l).flatten = putCells rows.flatten (i * size) l
 | [], i, l, _, _, h => by simp at h
 | r :: rows, 0, l, hr, hl, _ => by
  have h1 := hr r (by simp)
  simp [putCells, ← h1.trans hl.symm]
 | r :: rows, i + 1, l, hr, hl, h => by
  have h1 := hr r (by simp)
  have ih := flatten_set (rows := rows) (i := i) (fun x hx => hr x (List.mem_cons_of_mem _ hx)) hl (by simpa using h)
  rw [List.set_cons_succ, List.flatten_cons, ih, List.flatten_cons]
  have he : (i + 1) * size = r.length + i * size := by rw [h1, Nat.add_mul]; omega
  unfold putCells
  rw [he, List.take_append, List.drop_append]
  have e1 : List.take (r.length + i * size) r = r := List.take_of_length_le (by omega)
  have e2 : List.drop (r.length + i * size + l.length) r = [] := List.drop_eq_nil_of_le (by omega)
  rw [e1, e2, show r.length + i * size - r.length = i * size by omega, show r.length + i * size + l.length - r.length = i * size + l.length by omega]
  simp
theorem layRows_fill {size : Nat} : ∀ {p : List (Nat × List AV)} {rows rows' : List (List AV)}, (∀ row ∈ rows, row.length = size) → layRows size rows p = some rows' →
  aFill (fun i => some (i * size, size)) rows.flatten p = some rows'.flatten ∧ (∀ row ∈ rows', row.length = size) ∧ rows'.length = rows.length
 | [], rows, rows', hr, h => by cases h; exact ⟨rfl, hr, rfl⟩
 | (i, l) :: r, rows, rows', hr, h => by
  unfold layRows at h
  split at h
  ·rename_i hc
   obtain ⟨h1, h2⟩ := hc
   have hr' : ∀ row ∈ rows.set i l, row.length = size := fun row hrow => by
    rcases List.mem_or_eq_of_mem_set hrow with hm | he
    ·exact hr row hm
    ·rw [he]; exact h1
   have ih := layRows_fill hr' h
   refine ⟨?_, ih.2.1, by rw [ih.2.2]; simp⟩
   unfold aFill
   have hfl := flatten_length hr
   have hle : i * size + size ≤ rows.flatten.length := by
    rw [hfl]
    have : (i + 1) * size ≤ rows.length * size := Nat.mul_le_mul_right _ h2
    rw [Nat.add_mul] at this; omega
   simp only
   rw [if_pos ⟨h1, hle⟩, ← flatten_set hr h1 h2]
   exact ih.1
  ·cases h
theorem zeros_rel (X : Nat → Nat → Option Value) (z : Value) (n : Nat) (h1 : ∀ y ∈ z.cells.toList, y.oneCell' = true) (hz : 0 < z.cells.size) :
  RcQ (Cell X) (List.replicate n (zcells z)).flatten ((Array.range (n * z.cells.size)).map (fun i => z.cells[i % z.cells.size]!)) := by
 have hl : (zcells z).length = z.cells.size := by simp [zcells]
 have hfl := flatten_length (rows := List.replicate n (zcells z)) (s := z.cells.size) (fun row hr => by rw [List.eq_of_mem_replicate hr]; exact hl)
 refine ⟨by rw [hfl]; simp, fun i a ha => ?_⟩
 have hi := (List.getElem?_eq_some_iff.1 ha).1
 rw [hfl, List.length_replicate] at hi
 have hm : i % z.cells.size < z.cells.size := Nat.mod_lt _ hz
 have hdiv : i / z.cells.size < n := Nat.div_lt_of_lt_mul (by rw [Nat.mul_comm]; exact hi)
 have hg := flat_get (rows := List.replicate n (zcells z)) (s := z.cells.size) (i := i / z.cells.size) (j := i % z.cells.size) (row := zcells z) (a := .ofCell (z.cells[i % z.cells.size])) (fun row hr => by rw [List.eq_of_mem_replicate hr]; exact hl)
  (by rw [List.getElem?_replicate, if_pos hdiv]) (by unfold zcells; rw [List.getElem?_map, Array.getElem?_toList, Array.getElem?_eq_getElem hm]; rfl)
 rw [show i / z.cells.size * z.cells.size + i % z.cells.size = i by have := Nat.div_add_mod i z.cells.size; rw [Nat.mul_comm]; omega] at hg
 rw [hg] at ha
 cases ha
 have he : ((Array.range (n * z.cells.size)).map (fun i => z.cells[i % z.cells.size]!)).getD i undef = z.cells[i % z.cells.size] := by
  have : i < n * z.cells.size := hi
  simp [this, hm]
 rw [he]
 exact ⟨.ofCell X _, h1 _ (by simp)⟩
section
variable {P : Program} {L : Heap} {ev raw : Operand → AV} {o : Oper}
theorem slot_lit {G : Ghost} {rows : List (List AV)} {b : Nat} {x : Value} (h : SimD G.X (.list rows .full) x) (hx : x = .slice (some ⟨b, 0, none⟩) rows.length rows.length) (hb : G.lits b) : Slot G (.list rows .lit) x := by
 unfold Slot; exact ⟨.data _ _ h, b, 0, hx, hb⟩
theorem q_buildSlice {t e : TypeId} {len : Nat} {parts : Array (Nat × Operand)} {ti te : TI} {z : Value} {p : List (Nat × List AV)} {rows : List (List AV)} (ho : o.op = .buildSlice t len parts) (ht : TIs P t ti) (hk : ti.kind = .slice e) (hte : TIs P e te) (hz : te.zero = some z)
  (hzs : z.cells.size = te.size) (hz1 : ∀ y ∈ z.cells.toList, y.oneCell' = true) (hs0 : 0 < te.size) (hsm : len * te.size ≤ 16777216) (hp : sealParts ev parts.toList = some p) (hl : layRows te.size (List.replicate len (zcells z)) p = some rows) : QOk P L ev raw o (.list rows .lit) := by
 intro G w ρ hh
 have hbs := hh.base
 have hs := part_ops (parts := parts) hh (by rw [ho]; simp [Op.operands])
 have h1 := sealParts_rel hp hs
 have hzr := zeros_rel G.X z len hz1 (by omega)
 have hzlen : ∀ row ∈ List.replicate len (zcells z), row.length = te.size := fun row hr => by rw [List.eq_of_mem_replicate hr]; simp [zcells]; omega
 obtain ⟨k1, k2, k3⟩ := layRows_fill hzlen hl
 rw [hzs] at hzr
 obtain ⟨arr, h2, h3⟩ := fill_rel h1 hzr k1
 have hrl : rows.length = len := by rw [k3]; simp
 have hfl := flatten_length k2
 have hsd := sealed_list (o := .full) hh.holds (arr := arr) k2 (Nat.le_refl _) (by rw [hrl]; unfold maxLen; have : len ≤ len * te.size := Nat.le_mul_of_pos_right _ hs0; omega) (fun _ => rfl) (.inr rfl) (fun i a ha => by
  have hi := (List.getElem?_eq_some_iff.1 ha).1
  have := h3.2 i a ha
  have hsz : i < arr.size := by rw [← h3.1]; exact hi
  exact ⟨arr.getD i undef, by simp [hsz], this.1, this.2⟩)
 have hg := grow_alloc hh.holds arr e (0, 0) (rows.length * te.size)
 refine ⟨.slice (some ⟨w.heap.size, 0, none⟩) rows.length rows.length, { G.sealed w.heap.size arr (rows.length * te.size) with lits := fun c => (G.sealed w.heap.size arr (rows.length * te.size)).lits c ∨ c = w.heap.size }, _, ?_, slot_lit (b := w.heap.size) hsd rfl (Or.inr rfl), hg.lit (Nat.le_refl _) (by simp) hbs⟩
 have hz' : te.zero = hte.i.zero := hte.zero.symm
 have hpm : (parts.map fun x => (x.1, ρ x.2)).toList = parts.toList.map fun q => (q.1, ρ q.2) := by simp
 have hb : (Instr.buildSlice t len (parts.map fun (i, x) => (i, ρ x))).run P w = .ok (.slice (some ⟨w.heap.size, 0, none⟩) len len) (w.alloc (.cells arr e)) := by
  unfold Instr.buildSlice
  have hsz : (sizeOf e).run P w = .ok te.size w := by simp [sizeOf, typeInfo, hte.info, hte.size]
  have hzv : (zeroValue e).run P w = .ok z w := by simp [zeroValue, typeInfo, hte.info, hte.zero, hz]
  rw [Sem.run_bind, run_underlying (ht.slice hk)]
  simp only [Result.andThen]
  rw [Sem.run_bind, hsz]
  simp only [Result.andThen]
  rw [if_neg (by omega)]
  by_cases h0 : len * te.size = 0
  ·have hl0 : len = 0 := by
    rcases Nat.mul_eq_zero.1 h0 with h | h
    ·exact h
    ·omega
   subst hl0
   simp only [Nat.zero_mul] at h2
   have hr0 : rows = [] := List.length_eq_zero_iff.1 hrl
   rw [if_pos h0]
   rw [Sem.run_bind, Sem.run_pure]
   simp only [Result.andThen, Nat.zero_mul]
   have : (Array.map (fun x => (#[] : Array Value)[x % (#[] : Array Value).size]!) (Array.range 0)) = Array.map (fun i => z.cells[i % te.size]!) (Array.range 0) := by simp
   rw [this, hpm, h2]
   rfl
  ·rw [if_neg h0]
   rw [Sem.run_bind, hzv]
   simp only [Result.andThen]
   rw [Sem.run_bind, Sem.run_pure]
   simp only [Result.andThen]
   rw [hzs, hpm, h2]
   rfl
 simp only [execOp, ho]
 rw [Sem.run_bind, hb, hrl]
 rfl
theorem q_convert_int {s t : TypeId} {x : Operand} {ti : TI} {k k' : IntKind} {n : Int} (ho : o.op = .convert s t x) (hs : (P.underlying s).isSome = true) (ht : TIs P t ti) (hk : ti.kind = .int k') (hx : ev x = .v (.int k n)) : QOk P L ev raw o (.v (.int k' (k'.wrap n))) :=
 .still fun G w ρ hh => by
  have h1 := hh.ev x (by rw [ho]; simp [Op.operands])
  rw [hx] at h1
  obtain ⟨d, hd⟩ := Option.isSome_iff_exists.1 hs
  refine ⟨.int k' (k'.wrap n), ?_, .data _ _ (.v _)⟩
  simp only [execOp, ho, h1.v_inv]
  simp [convert, run_underlying hd, run_underlying (ht.int hk), Conv.intToInt]
theorem q_convert_float {s t : TypeId} {x : Operand} {ti : TI} {k : IntKind} {k' : FloatKind} {n : Int} (ho : o.op = .convert s t x) (hs : (P.underlying s).isSome = true) (ht : TIs P t ti) (hk : ti.kind = .float k') (hx : ev x = .v (.int k n)) : QOk P L ev raw o (.v (.float k' (k'.nearest n))) :=
 .still fun G w ρ hh => by
  have h1 := hh.ev x (by rw [ho]; simp [Op.operands])
  rw [hx] at h1
  obtain ⟨d, hd⟩ := Option.isSome_iff_exists.1 hs
  refine ⟨.float k' (k'.nearest n), ?_, .data _ _ (.v _)⟩
  simp only [execOp, ho, h1.v_inv]
  simp [convert, run_underlying hd, run_underlying (ht.float hk), Conv.intToFloat]
theorem q_convert_str {s t : TypeId} {x : Operand} {ti : TI} {b : ByteArray} (ho : o.op = .convert s t x) (hs : (P.underlying s).isSome = true) (ht : TIs P t ti) (hk : ti.kind = .string) (hx : ev x = .v (.string b)) : QOk P L ev raw o (.v (.string b)) :=
 .still fun G w ρ hh => by
  have h1 := hh.ev x (by rw [ho]; simp [Op.operands])
  rw [hx] at h1
  obtain ⟨d, hd⟩ := Option.isSome_iff_exists.1 hs
  refine ⟨.string b, ?_, .data _ _ (.v _)⟩
  simp only [execOp, ho, h1.v_inv]
  simp [convert, run_underlying hd, run_underlying (ht.string hk)]
theorem q_convert_bytes {s t e : TypeId} {x : Operand} {si ti te : TI} {l : List UInt8} {own : Own} (ho : o.op = .convert s t x) (hs : TIs P s si) (hks : si.kind = .slice e) (hte : TIs P e te) (hke : te.kind = .int .u8) (ht : TIs P t ti) (hk : ti.kind = .string)
  (hx : ev x = .list (l.map brow) own) : QOk P L ev raw o (.v (.string ⟨l.toArray⟩)) :=
 .still fun G w ρ hh => by
  have h1 := hh.ev x (by rw [ho]; simp [Op.operands])
  rw [hx] at h1
  refine ⟨.string ⟨l.toArray⟩, ?_, .data _ _ (.v _)⟩
  have h2 := h1.list_inv.1
  generalize hρ : ρ x = xv at h1 h2
  have hc : (convert s t xv).run P w = .ok (.string ⟨l.toArray⟩) w := by
   cases hl : l with
   | nil =>
    subst hl
    obtain ⟨base, c, rfl, _⟩ := h2.slice
    simp only [List.map_nil, List.length_nil]
    cases base with
    | none => exact run_convert_bytes_nil w s e (hs.slice hks) (hte.int hke) 0 c t (ht.string hk)
    | some a => exact run_convert_bytes_back w s t e a c [] (hs.slice hks) (hte.int hke) (ht.string hk) (fun j hj => by simp at hj)
   | cons b0 l0 =>
    rw [← hl]
    obtain ⟨b, off, c, s', y, rfl, hr, hX, hS, h1'⟩ := h2.pos (by simp [hl])
    ·have hs1 : s' = 1 := by
      have := hr (brow b0) (by rw [hl]; simp)
      simpa [brow] using this.symm
     subst hs1
     rw [List.length_map]
     refine run_convert_bytes_back w s t e _ c l (hs.slice hks) (hte.int hke) (ht.string hk) fun j hj => ?_
     have k1 : (l.map brow)[j]? = some (brow l[j]) := by simp [hj]
     have k2 := hX j _ 0 _ k1 (by simp [brow]; rfl)
     have k3 := hS j _ 0 _ k1 (by simp [brow]; rfl)
     have k4 := hh.holds.X _ _ _ k2
     rw [add_mk]
     have k5 := (Sim.data (G := G) _ _ k3).v_inv
     rw [k5] at k4
     simpa using k4
  simp only [execOp, ho, hρ]
  rw [Sem.run_bind, hc]
  rfl
theorem q_convert_toBytes {s t e : TypeId} {x : Operand} {si ti te : TI} {b : ByteArray} (ho : o.op = .convert s t x) (hs : TIs P s si) (hks : si.kind = .string) (hte : TIs P e te) (hke : te.kind = .int .u8) (ht : TIs P t ti) (hk : ti.kind = .slice e)
  (hx : ev x = .v (.string b)) (hb : b.size ≤ 4611686018427387904) : QOk P L ev raw o (.list (b.data.toList.map brow) .free) := fun G w ρ hh => by
 have h1 := hh.ev x (by rw [ho]; simp [Op.operands])
 rw [hx] at h1
 have hr := run_bytes_of_string (P := P) w s t e b (hs.string hks) (ht.slice hk) (hte.int hke)
 have hcap := grownCap_ge w b.size 0 e
 have hcap2 := grownCap_le_maxLen w b.size 0 e (by unfold maxLen; omega)
 have hlen : (b.data.toList.map brow).length = b.size := by simp
 generalize hcc : grownCap w b.size 0 e = cap at hr hcap hcap2
 have hrow : ∀ row ∈ b.data.toList.map brow, row.length = 1 := fun row hm => by
  obtain ⟨x, _, rfl⟩ := List.mem_map.1 hm; rfl
 have hflat : (b.data.toList.map brow).flatten = b.data.toList.map fun c => AV.v (.int .u8 c.toNat) := by
  generalize b.data.toList = l
  induction l with
  | nil => rfl
  | cons a l ih => simp [ih, brow]
 have hh' : Holds G w.drew L := ⟨hh.holds.X, hh.holds.res, hh.holds.ids, hh.holds.live, hh.holds.blocks, hh.holds.lits⟩
 have hsd := sealed_list (o := .free) hh' (arr := bytesRow b cap) (c := cap) hrow (by rw [hlen]; exact hcap) hcap2 (by simp) (.inl rfl) (fun i a ha => by
  rw [hflat] at ha
  rw [List.getElem?_map, Option.map_eq_some_iff] at ha
  obtain ⟨c, hc, rfl⟩ := ha
  rw [Array.getElem?_toList] at hc
  have hi := (Array.getElem?_eq_some_iff.1 hc).1
  refine ⟨.int .u8 c.toNat, ?_, .v _, rfl⟩
  unfold bytesRow
  rw [Array.getElem?_append_left (by simpa using hi)]
  simp [hc])
 have hg := grow_alloc hh' (bytesRow b cap) e ((bytesRow b cap).size, (bytesRow b cap).size + 1) ((b.data.toList.map brow).length * 1)
 refine ⟨_, _, _, ?_, .of (.data _ _ hsd), ⟨hg.os, hg.tape, hg.output, hg.size, hg.base, hg.loc, hg.tk, hg.live, hg.X, hg.frame, hg.lits, hg.newL, hg.newX⟩⟩
 simp only [execOp, ho, h1.v_inv]
 rw [Sem.run_bind, hr, hlen]
 rfl
end
end Go.Am
namespace Go.Am
open Go.RowKit
section
variable {P : Program} {L : Heap} {ev raw : Operand → AV} {o : Oper}
theorem equal_bool {t : TypeId} (h : P.underlying t = some .bool) (a b : Bool) (w : World) : (Op.equal t (.bool a) (.bool b)).run P w = .ok (a == b) w := by
 have : ∀ d, (Op.equalIn (d + 1) t (.bool a) (.bool b)).run P w = .ok (a == b) w := fun d => by simp [Op.equalIn, run_underlying h]
 exact this 9999
theorem equal_fn {t : TypeId} {A B : Array TypeId} {c : Bool} (h : P.underlying t = some (.func A B c)) (f : Fn) (x y : Array Value) (w : World) : (Op.equal t (.func f x y) .nilFunc).run P w = .ok false w := by
 have : ∀ d, (Op.equalIn (d + 1) t (.func f x y) .nilFunc).run P w = .ok false w := fun d => by simp [Op.equalIn, run_underlying h]
 exact this 9999
theorem q_nilcmp {op : BinOp} {t t' : TypeId} {x y : Operand} {ti : TI} {ax ay : AV} {r : Bool} (ho : o.op = .binOp op t x y t') (ht : TIs P t ti) (hx : ev x = ax) (hy : ev y = ay) (hop : (op = .eql ∧ r = false) ∨ (op = .neq ∧ r = true))
  (h : (ti.kind = .pointer ∧ ((∃ i j, ax = .ptr i j) ∨ ∃ l, ax = .cref l) ∧ ay = .v (.pointer none)) ∨ (ti.kind = .func ∧ (∃ f l, ax = .fn f l ∨ ax = .bnd f l) ∧ ay = .v .nilFunc)) : QOk P L ev raw o (.v (.bool r)) :=
 .still fun G w ρ hh => by
  have h1 := hh.ev x (by rw [ho]; simp [Op.operands])
  have h2 := hh.ev y (by rw [ho]; simp [Op.operands])
  rw [hx] at h1; rw [hy] at h2
  refine ⟨.bool r, ?_, .data _ _ (.v _)⟩
  rcases h with ⟨hk, hp, rfl⟩ | ⟨hk, ⟨f, l, hax⟩, rfl⟩
  ·have h3 := h2.v_inv
   have h4 : ∃ a, ρ x = .pointer (some a) := by
    rcases hp with ⟨i, j, rfl⟩ | ⟨l, rfl⟩
    ·exact ⟨_, h1.ptr_inv.1⟩
    ·obtain ⟨_, _, _, h5, _⟩ := h1.cref_inv; exact ⟨_, h5⟩
   obtain ⟨a, h4⟩ := h4
   obtain ⟨e, he⟩ := ht.pointer hk
   have he' : P.underlying t = some (.pointer (P.pointee t)) := by unfold Program.pointee; rw [he]
   simp only [execOp, ho, h3, h4]
   rcases hop with ⟨rfl, rfl⟩ | ⟨rfl, rfl⟩
   ·simp [eqGuard, run_eql_pointer_nil w t _ he']
   ·simp [eqGuard, run_neq_pointer_nil w t _ he']
  ·have h3 := h2.v_inv
   obtain ⟨us, vs, h4⟩ : ∃ us vs, ρ x = .func (.func f) us vs := by
    rcases hax with rfl | rfl
    ·obtain ⟨vs, h4, _⟩ := h1.fn_inv; exact ⟨_, _, h4⟩
    ·obtain ⟨vs, h4, _⟩ := h1.bnd_inv; exact ⟨_, _, h4⟩
   obtain ⟨a, b, c, he⟩ := ht.func hk
   simp only [execOp, ho, h3, h4]
   rcases hop with ⟨rfl, rfl⟩ | ⟨rfl, rfl⟩
   ·simp [eqGuard, binOp, equal_fn he]
   ·simp [eqGuard, binOp, equal_fn he]
theorem q_boolcmp {op : BinOp} {t t' : TypeId} {x y : Operand} {ti : TI} {a b r : Bool} (ho : o.op = .binOp op t x y t') (ht : TIs P t ti) (hk : ti.kind = .bool) (hx : ev x = .v (.bool a)) (hy : ev y = .v (.bool b)) (hop : (op = .eql ∧ r = (a == b)) ∨ (op = .neq ∧ r = !(a == b))) : QOk P L ev raw o (.v (.bool r)) :=
 .still fun G w ρ hh => by
  have h1 := hh.ev x (by rw [ho]; simp [Op.operands])
  have h2 := hh.ev y (by rw [ho]; simp [Op.operands])
  rw [hx] at h1; rw [hy] at h2
  refine ⟨.bool r, ?_, .data _ _ (.v _)⟩
  simp only [execOp, ho, h1.v_inv, h2.v_inv]
  rcases hop with ⟨rfl, rfl⟩ | ⟨rfl, rfl⟩
  ·simp [eqGuard, binOp, equal_bool (ht.bool hk)]
  ·simp [eqGuard, binOp, equal_bool (ht.bool hk)]
theorem q_convert_lit {s e : TypeId} {x : Operand} {si te : TI} {rows : List (List AV)} (ho : o.op = .convert s s x) (hs : TIs P s si) (hks : si.kind = .slice e) (hte : TIs P e te) (hke : te.kind = .int .u8) (hx : raw x = .list rows .lit) : QOk P L ev raw o (.list rows .full) := fun G w ρ hh => by
 have h1 := hh.raw x (by rw [ho]; simp [Op.operands])
 rw [hx] at h1
 unfold Slot at h1
 simp only at h1
 obtain ⟨h2, b, off, h3, h4⟩ := h1
 have hden : (convert s s (.slice (some ⟨b, off, none⟩) rows.length rows.length)).run P w = (do markStringish ⟨b, off, none⟩; pure (Value.slice (some ⟨b, off, none⟩) rows.length rows.length) : Sem Value).run P w := by
  simp [convert, run_underlying (hs.slice hks), run_underlying (hte.int hke)]
 simp only [execOp, ho, h3]
 rw [Sem.run_bind, hden]
 cases hsh : w.shape? b with
 | none =>
  refine ⟨.slice (some ⟨b, off, none⟩) rows.length rows.length, G, w, ?_, .of (by rw [← h3]; exact h2), Grow.refl G w⟩
  simp [markStringish, hsh]
 | some en =>
  obtain ⟨E, n⟩ := en
  have hb : ∃ arr fr, w.heap[b]? = some (.cells arr E fr) ∧ arr.size = n := by
   unfold World.shape? at hsh
   split at hsh
   ·rename_i arr E' fr hh'
    cases hsh; exact ⟨arr, fr, hh', rfl⟩
   ·cases hsh
  obtain ⟨arr, fr, hb, hn⟩ := hb
  have hblk : b < w.heap.size := (Array.getElem?_eq_some_iff.1 hb).1
  have hgrow : Grow G w G (w.freeze ⟨b, n, none⟩ 1) := by
   have hfz : (w.freeze ⟨b, n, none⟩ 1).heap = w.heap.modify b fun
     | .cells c elem (lo, hi) => .cells c elem (if lo == hi then (n, n + 1) else (min lo n, max hi (n + 1)))
     | o => o := by
    unfold World.freeze; rw [if_neg (by decide)]; rfl
   have hos : (w.freeze ⟨b, n, none⟩ 1).os = w.os ∧ (w.freeze ⟨b, n, none⟩ 1).tape = w.tape ∧ (w.freeze ⟨b, n, none⟩ 1).output = w.output := by unfold World.freeze; rw [if_neg (by decide)]; exact ⟨rfl, rfl, rfl⟩
   refine ⟨hos.1, hos.2.1, hos.2.2, by rw [hfz]; simp, rfl, rfl, rfl, rfl, fun _ _ _ h => h, fun b' hb' => ?_, fun _ h => h, fun _ h => .inl h, fun _ _ _ h => .inl h⟩
   by_cases hbb : b' = b
   ·subst hbb
    refine ⟨.inr ⟨arr, E, fr, if fr.1 == fr.2 then (n, n + 1) else (min fr.1 n, max fr.2 (n + 1)), hb, ?_⟩, fun hlt => absurd h4 hlt⟩
    rw [hfz, Array.getElem?_modify, if_pos rfl, hb]
    obtain ⟨lo, hi⟩ := fr; rfl
   ·have : (w.freeze ⟨b, n, none⟩ 1).heap[b']? = w.heap[b']? := by rw [hfz, Array.getElem?_modify, if_neg (Ne.symm hbb)]
    exact ⟨.inl this, fun _ => this⟩
  refine ⟨.slice (some ⟨b, off, none⟩) rows.length rows.length, G, w.freeze ⟨b, n, none⟩ 1, ?_, .of (by rw [← h3]; exact h2), hgrow⟩
  simp [markStringish, hsh]
theorem q_minmax {c : Call} {x y : Operand} {k : IntKind} {a b r : Int} (ho : o.op = .call c) (ha : c.args = #[x, y]) (hx : ev x = .v (.int k a)) (hy : ev y = .v (.int k b))
  (h : (c.callee = .builtin .min ∧ r = if b < a then b else a) ∨ (c.callee = .builtin .max ∧ r = if b > a then b else a)) : QOk P L ev raw o (.v (.int k r)) :=
 .still fun G w ρ hh => by
  have h1 := hh.ev x (by rw [ho]; rcases h with ⟨h, _⟩ | ⟨h, _⟩ <;> simp [Op.operands, Call.operands, h, ha])
  have h2 := hh.ev y (by rw [ho]; rcases h with ⟨h, _⟩ | ⟨h, _⟩ <;> simp [Op.operands, Call.operands, h, ha])
  rw [hx] at h1; rw [hy] at h2
  refine ⟨.int k r, ?_, .data _ _ (.v _)⟩
  rcases h with ⟨hc, rfl⟩ | ⟨hc, rfl⟩
  ·simp [execOp, ho, resolve, hc, ha, invoke, builtin, Builtin.min_, Builtin.min2, h1.v_inv, h2.v_inv]
  ·simp [execOp, ho, resolve, hc, ha, invoke, builtin, Builtin.max_, Builtin.max2, h1.v_inv, h2.v_inv]
theorem q_max_str {c : Call} {x y : Operand} {a b : ByteArray} (ho : o.op = .call c) (ha : c.args = #[x, y]) (hx : ev x = .v (.string a)) (hy : ev y = .v (.string b)) (hc : c.callee = .builtin .max) :
  QOk P L ev raw o (.v (.string (bif !(Op.bytesLess a.toList b.toList) then a else b))) :=
 .still fun G w ρ hh => by
  have h1 := hh.ev x (by rw [ho]; simp [Op.operands, Call.operands, hc, ha])
  have h2 := hh.ev y (by rw [ho]; simp [Op.operands, Call.operands, hc, ha])
  rw [hx] at h1; rw [hy] at h2
  refine ⟨.string _, ?_, .data _ _ (.v _)⟩
  cases hb : Op.bytesLess a.toList b.toList <;> simp [execOp, ho, resolve, hc, ha, invoke, builtin, Builtin.max_, Builtin.max2, h1.v_inv, h2.v_inv, Op.stringOp, asBool, hb]
theorem q_makeSlice {t e : TypeId} {x y : Operand} {ti te : TI} {z : Value} {n : Int} (ho : o.op = .makeSlice t x y) (ht : TIs P t ti) (hk : ti.kind = .slice e) (hte : TIs P e te) (hz : te.zero = some z)
  (hzs : z.cells.size = te.size) (hz1 : ∀ y ∈ z.cells.toList, y.oneCell' = true) (hs0 : 0 < te.size) (hx : ev x = .v (.int .i64 n)) (hy : ev y = .v (.int .i64 n)) (h0 : 0 ≤ n) (hn : n ≤ 140737488355328) (hby : te.bytes * n ≤ 140737488355328) :
  QOk P L ev raw o (.list (List.replicate n.toNat (zcells z)) .full) := fun G w ρ hh => by
 have h1 := hh.ev x (by rw [ho]; simp [Op.operands])
 rw [hx] at h1
 have h2 := h1.v_inv
 have h2' := hh.ev y (by rw [ho]; simp [Op.operands])
 rw [hy] at h2'
 replace h2' := h2'.v_inv
 have hzr := zeros_rel G.X z n.toNat hz1 (by omega)
 rw [hzs] at hzr
 have hzlen : ∀ row ∈ List.replicate n.toNat (zcells z), row.length = te.size := fun row hr => by rw [List.eq_of_mem_replicate hr]; simp [zcells]; omega
 have hsd := sealed_list (o := .full) hh.holds (arr := (Array.range (n.toNat * te.size)).map (fun i => z.cells[i % te.size]!)) hzlen (Nat.le_refl _) (by simp; unfold maxLen; omega) (fun _ => rfl) (.inr rfl) (fun i a ha => by
  have hi := (List.getElem?_eq_some_iff.1 ha).1
  have h3 := hzr.2 i a ha
  have hsz := hzr.1
  refine ⟨_, ?_, h3.1, h3.2⟩
  generalize hA : (Array.range (n.toNat * te.size)).map (fun i => z.cells[i % te.size]!) = A at hsz
  rw [hA] at h3
  have hiA : i < A.size := by rw [← hsz]; exact hi
  rw [Array.getElem?_eq_getElem hiA]
  simp [hiA])
 have hg := grow_alloc hh.holds ((Array.range (n.toNat * te.size)).map (fun i => z.cells[i % te.size]!)) e (0, 0) ((List.replicate n.toNat (zcells z)).length * te.size)
 refine ⟨_, _, _, ?_, .of (.data _ _ hsd), hg⟩
 have hw : IntKind.i64.wrap n = n := IntWalk.i64_in n (by omega)
 have hsz : ∀ w, (sizeOf e).run P w = .ok te.size w := fun w => by simp [sizeOf, typeInfo, hte.info, hte.size]
 have hzv : ∀ w, (zeroValue e).run P w = .ok z w := fun w => by simp [zeroValue, typeInfo, hte.info, hte.zero, hz]
 have hti : ∀ w, (typeInfo e).run P w = .ok hte.i w := fun w => by simp [typeInfo, hte.info]
 have hm : (Instr.makeSlice t (.int .i64 n) (.int .i64 n)).run P w = .ok (.slice (some ⟨w.heap.size, 0, none⟩) n.toNat n.toNat) (w.alloc (.cells ((Array.range (n.toNat * te.size)).map (fun i => z.cells[i % te.size]!)) e)) := by
  unfold Instr.makeSlice
  rw [Sem.run_bind, run_underlying (ht.slice hk)]
  simp only [Result.andThen]
  have hai : (asInt (.int .i64 n)).run P w = .ok n w := rfl
  rw [Sem.run_bind, hai]
  simp only [Result.andThen]
  rw [Sem.run_bind, hai]
  simp only [Result.andThen]
  rw [Sem.run_bind, hti]
  simp only [Result.andThen, hw, hte.bytes]
  have hc : (decide (n < 0) || decide ((te.bytes : Int) * n > 2 ^ 48)) = false := by simp; omega
  have hc2 : ((decide (n < 0) || decide ((te.bytes : Int) * n > 2 ^ 48)) || decide (n < 0) || decide (n > n)) = false := by rw [hc]; simp; omega
  simp only [hc2]
  rw [if_neg (by simp)]
  have hroom : (askRoom (n.toNat * te.bytes)).run P w = .ok () w := by
   unfold askRoom
   have hle : (n.toNat * te.bytes : Int) ≤ 140737488355328 := by
    have : ((n.toNat : Int)) = n := Int.toNat_of_nonneg h0
    rw [this, Int.mul_comm]; exact hby
   rw [if_neg (by unfold roomBytes; omega)]
   rfl
  rw [Sem.run_bind, hroom]
  simp only [Result.andThen]
  rw [Sem.run_bind, hsz]
  simp only [Result.andThen]
  by_cases hnz : n.toNat * te.size = 0
  ·rw [if_pos hnz, Sem.run_bind, Sem.run_pure]
   simp only [Result.andThen, hnz]
   have : (Array.map (fun x => (#[] : Array Value)[x % (#[] : Array Value).size]!) (Array.range 0)) = Array.map (fun i => z.cells[i % te.size]!) (Array.range 0) := by simp
   rw [this]; rfl
  ·rw [if_neg hnz, Sem.run_bind, hzv]
   simp only [Result.andThen]
   rw [Sem.run_bind, Sem.run_pure]
   simp only [Result.andThen]
   rw [hzs]; rfl
 simp only [execOp, ho, h2, h2']
 rw [Sem.run_bind, hm, List.length_replicate]
 rfl
end
end Go.Am
namespace Go.Am
open Go.RowKit
abbrev Types := TypeId → Option TI
def zok (ti : TI) (z : Value) : Bool := z.cells.size == ti.size && (z.cells.toList.all (·.oneCell') && decide (0 < ti.size))
theorem zok_spec {ti : TI} {z : Value} (h : zok ti z = true) : z.cells.size = ti.size ∧ (∀ y ∈ z.cells.toList, y.oneCell' = true) ∧ 0 < ti.size := by
 simp only [zok, Bool.and_eq_true, beq_iff_eq, List.all_eq_true, decide_eq_true_eq] at h
 exact ⟨h.1, h.2.1, h.2.2⟩
def cov (op : BinOp) (a b : Value) : Bool :=
 match a, b with
 | .int _ _, .int _ _ => true
 | .string _, .string _ => true
 | .float _ _, .float _ _ => match op with | .eql | .neq => true | _ => false
 | _, _ => false
def kindT (TT : Types) (t : TypeId) : TK := match TT t with | some ti => ti.kind | none => .other
def isPtrA : AV → Bool | .ptr _ _ => true | .cref _ => true | _ => false
def isFnA : AV → Bool | .fn _ _ => true | .bnd _ _ => true | _ => false
def fallB (P : Program) (op : BinOp) (t : TypeId) (x y : Operand) (a b : Option Value) (K : AV → Prop) : Prop :=
 match a, b with
 | some a, some b => ∃ v, (∀ w, (do eqGuard op t x y a b; binOp op t a b : Sem Value).run P w = .ok v w) ∧ K (.ofValue v)
 | _, _ => False
def eqRes (op : BinOp) (r : Bool) (K : AV → Prop) : Prop :=
 match op with
 | .eql => K (.v (.bool r))
 | .neq => K (.v (.bool !r))
 | _ => False
def bothBool : AV → AV → Option (Bool × Bool) | .v (.bool a), .v (.bool b) => some (a, b) | _, _ => none
def nilP : AV → Bool | .v (.pointer none) => true | _ => false
def nilF : AV → Bool | .v .nilFunc => true | _ => false
def abin (P : Program) (TT : Types) (op : BinOp) (t : TypeId) (x y : Operand) (a b : AV) (K : AV → Prop) : Prop :=
 match kindT TT t with
 | .bool => match bothBool a b with
  | some p => eqRes op (p.1 == p.2) K
  | none => False
 | .pointer => match isPtrA a && nilP b with
  | true => eqRes op false K
  | false => fallB P op t x y a.flat b.flat K
 | .func => match isFnA a && nilF b with
  | true => eqRes op false K
  | false => fallB P op t x y a.flat b.flat K
 | .iface => match a, b with
  | .iface t1 (.ptr i j), .iface t2 (.ptr i' j') => (i = i' ∧ j = j' ∧ t1 = t2) ∧ ∃ r, (∀ (c : Nat) (w : World), (binOp op t (.iface t1 (.pointer (some ⟨c, j, none⟩))) (.iface t1 (.pointer (some ⟨c, j, none⟩))) : Sem Value).run P w = .ok (.bool r) w) ∧ K (.v (.bool r))
  | .iface t1 _, .v v => ∃ r, (∀ (u : Value) (w : World), (binOp op t (.iface t1 u) v : Sem Value).run P w = .ok (.bool r) w) ∧ K (.v (.bool r))
  | a, b => fallB P op t x y a.flat b.flat K
 | _ => match a, b with
  | .v a, .v b => match cov op a b with
   | true => flat2 op a b fun r => K (.v r)
   | false => fallB P op t x y (some a) (some b) K
  | a, b => fallB P op t x y a.flat b.flat K
def opt2 {α β : Type} (a : Option α) (b : Option β) (K : α → β → Prop) : Prop := match a, b with | some a, some b => K a b | _, _ => False
def opt1 {α : Type} (a : Option α) (K : α → Prop) : Prop := match a with | some a => K a | none => False
def orFull (b : Bool) : Own := match b with | true => .full | false => .free
def isNone {α : Type} : Option α → Bool | none => true | some _ => false
def isFull : Own → Bool | .full => true | _ => false
def aq (P : Program) (TT : Types) (L : Heap) (ev raw : Operand → AV) (o : Oper) (K : AV → Prop) : Prop :=
 match o.op with
 | .move x => K (ev x)
 | .assign x => K (ev x)
 | .pick c a b => match ev c with | .v (.bool g) => abr g (K (ev a)) (K (ev b)) | _ => False
 | .nilCheck x => match ev x with | .ptr i j => K (.ptr i j) | .cref l => K (.cref l) | .fn f l => K (.fn f l) | _ => False
 | .binOp op t x y _ => abin P TT op t x y (ev x) (ev y) K
 | .unOp op _ x => match op, ev x with | .not, .v (.bool b) => K (.v (.bool !b)) | .neg, .v (.int k n) => K (.v (.int k (k.wrap (0 - n)))) | .xor, .v (.int k n) => K (.v (.int k (k.wrap (BitVec.ofInt k.bits (if k.signed then -1 else k.max) ^^^ BitVec.ofInt k.bits n).toNat))) | _, _ => False
 | .convert s t x => opt2 (TT s) (TT t) fun si ti =>
  match ti.kind, ev x, raw x with
  | .int k', .v (.int _ n), _ => K (.v (.int k' (k'.wrap n)))
  | .float k', .v (.int _ n), _ => K (.v (.float k' (k'.nearest n)))
  | .string, .v (.string b), _ => K (.v (.string b))
  | .string, .list rows _, _ => match si.kind with
   | .slice e => opt1 (TT e) fun te => match te.kind with | .int .u8 => ∃ l : List UInt8, rows = l.map brow ∧ K (.v (.string ⟨l.toArray⟩)) | _ => False
   | _ => False
  | .slice e, .v (.string b), _ => opt1 (TT e) fun te => match si.kind, te.kind with | .string, .int .u8 => b.size ≤ 4611686018427387904 ∧ K (.list (b.data.toList.map brow) .free) | _, _ => False
  | .slice e, _, .list rows .lit => opt1 (TT e) fun te => match te.kind with | .int .u8 => if s = t then K (.list rows .full) else False | _ => False
  | _, _, _ => False
 | .makeFunc fn first cap => match fn with | .func f => if first.size = 0 then K (.fn f (cap.toList.map ev)) else if cap.size = 0 then K (.bnd f (first.toList.map ev)) else False | _ => False
 | .extract x i => match ev x with | .tuple l => opt1 l[i]? K | _ => False
 | .makeInterface t x => opt1 (TT t) fun ti => match ti.kind with | .iface => False | _ => K (.iface t (ev x))
 | .fieldAddr s x f => match kindT TT s with
  | .struct fs => opt1 fs[f]? fun p => match p.2 with | 0 => False | _ + 1 => opt1 (amove p.1 (ev x)) K
  | _ => False
 | .load t x => opt1 (TT t) fun ti => opt1 (aload L ti (ev x)) K
 | .indexAddr t x ix => match kindT TT t with
  | .slice e => opt1 (TT e) fun te => match ev x, ev ix with
   | .list rows _, .v (.int _ n) => 0 ≤ n ∧ ∃ row, rows[n.toNat]? = some row ∧ row.length = te.size ∧ K (.cref row)
   | .arr id off m _, .v (.int _ n) => 0 ≤ n ∧ n < m ∧ K (.ptr id (off + n.toNat * te.size))
   | _, _ => False
  | .array len e => opt1 (TT e) fun te => match ev ix with
   | .v (.int _ n) => 0 ≤ n ∧ n < len ∧ opt1 (amove (n.toNat * te.size) (ev x)) K
   | _ => False
  | _ => False
 | .slice t x lo hi mx => match kindT TT t, ev x with
  | .string, .v (.string s) => if isNone mx then opt2 (optNat ev lo 0) (optNat ev hi s.size) fun l h => optOk ev lo ∧ optOk ev hi ∧ l ≤ h ∧ h ≤ s.size ∧ K (.v (.string (s.extract l h))) else False
  | .slice e, .list rows own => opt1 (TT e) fun te => opt2 (optNat ev lo 0) (optNat ev hi rows.length) fun l h =>
   if isNone mx then optOk ev lo ∧ optOk ev hi ∧ l ≤ h ∧ h ≤ rows.length ∧ (∀ row ∈ rows, row.length = te.size) ∧ K (.list ((rows.take h).drop l) (orFull (isNone hi && isFull own)))
   else if isNone hi then False else opt1 (optNat ev mx 0) fun m => optOk ev lo ∧ optOk ev hi ∧ optOk ev mx ∧ l ≤ h ∧ h ≤ m ∧ m ≤ rows.length ∧ (∀ row ∈ rows, row.length = te.size) ∧ K (.list ((rows.take h).drop l) (orFull (Nat.beq h m)))
  | .slice e, .arr id off n c => opt1 (TT e) fun te => opt2 (optNat ev lo 0) (optNat ev hi n) fun l h =>
   if isNone mx then optOk ev lo ∧ optOk ev hi ∧ l ≤ h ∧ h ≤ c ∧ K (.arr id (off + l * te.size) (h - l) (c - l))
   else if isNone hi then False else opt1 (optNat ev mx 0) fun m => optOk ev lo ∧ optOk ev hi ∧ optOk ev mx ∧ l ≤ h ∧ h ≤ m ∧ m ≤ c ∧ K (.arr id (off + l * te.size) (h - l) (m - l))
  | _, _ => False
 | .build t parts => opt1 (TT t) fun ti => match ti.kind with
  | .struct fs => opt2 ti.zero (partCells ev parts.toList) fun z p => if fs.all (fun f => !Nat.beq f.2 0) then opt1 (aFill (fun i => fs[i]?) (zcells z) p) fun cells => K (.agg cells) else False
  | _ => False
 | .buildSlice t len parts => match kindT TT t with
  | .slice e => opt1 (TT e) fun te => opt2 te.zero (sealParts ev parts.toList) fun z p => if zok te z && decide (len * te.size ≤ 16777216) then opt1 (layRows te.size (List.replicate len (zcells z)) p) fun rows => K (.list rows .lit) else False
  | _ => False
 | .makeSlice t x y => match kindT TT t, ev x, ev y with
  | .slice e, .v (.int .i64 n), .v (.int .i64 m) => opt1 (TT e) fun te => opt1 te.zero fun z => if zok te z then n = m ∧ 0 ≤ n ∧ n ≤ 140737488355328 ∧ te.bytes * n ≤ 140737488355328 ∧ K (.list (List.replicate n.toNat (zcells z)) .full) else False
  | _, _, _ => False
 | .call c => match c.callee, c.args.toList with
  | .builtin .len, [x] => match c.argTypes.toList with
   | [t] => match kindT TT t, ev x with
    | .slice _, .list rows _ => K (.v (.int .i64 rows.length))
    | .slice _, .arr _ _ m _ => K (.v (.int .i64 m))
    | .string, .v (.string s) => K (.v (.int .i64 s.size))
    | .array n _, _ => K (.v (.int .i64 n))
    | _, _ => False
   | _ => False
  | .builtin .cap, [x] => match c.argTypes.toList with
   | [t] => match kindT TT t, ev x with
    | .slice _, .arr _ _ _ cp => K (.v (.int .i64 cp))
    | _, _ => False
   | _ => False
  | .builtin .min, [x, y] => match ev x, ev y with
   | .v (.int k a), .v (.int k' b) => if k = k' then K (.v (.int k (if b < a then b else a))) else False
   | _, _ => False
  | .builtin .max, [x, y] => match ev x, ev y with
   | .v (.int k a), .v (.int k' b) => if k = k' then K (.v (.int k (if b > a then b else a))) else False
   | .v (.string a), .v (.string b) => K (.v (.string (bif !(Op.bytesLess a.toList b.toList) then a else b)))
   | _, _ => False
  | _, _ => False
 | _ => False
theorem opt1_some {α : Type} {a : Option α} {K : α → Prop} (h : opt1 a K) : ∃ x, a = some x ∧ K x := by
 unfold opt1 at h; split at h
 ·exact ⟨_, rfl, h⟩
 ·exact h.elim
theorem opt2_some {α β : Type} {a : Option α} {b : Option β} {K : α → β → Prop} (h : opt2 a b K) : ∃ x y, a = some x ∧ b = some y ∧ K x y := by
 unfold opt2 at h; split at h
 ·exact ⟨_, _, rfl, rfl, h⟩
 ·exact h.elim
theorem kindT_some {TT : Types} {t : TypeId} {k : TK} (h : kindT TT t = k) (hk : k ≠ .other) : ∃ ti, TT t = some ti ∧ ti.kind = k := by
 unfold kindT at h; split at h
 ·exact ⟨_, by assumption, h⟩
 ·exact absurd h.symm hk
theorem args1 {c : Call} {x : Operand} (h : c.args.toList = [x]) : c.args = #[x] := by
 have := congrArg List.toArray h; simpa using this
theorem args2 {c : Call} {x y : Operand} (h : c.args.toList = [x, y]) : c.args = #[x, y] := by
 have := congrArg List.toArray h; simpa using this
theorem tys1 {c : Call} {x : TypeId} (h : c.argTypes.toList = [x]) : c.argTypes = #[x] := by
 have := congrArg List.toArray h; simpa using this
section
variable {P : Program} {TT : Types} {L : Heap} {ev raw : Operand → AV} {o : Oper} {K : AV → Prop}
theorem q_fall {op : BinOp} {t t' : TypeId} {x y : Operand} {a b v : Value} (ho : o.op = .binOp op t x y t') (hx : (ev x).flat = some a) (hy : (ev y).flat = some b) (hr : ∀ w, (do eqGuard op t x y a b; binOp op t a b : Sem Value).run P w = .ok v w) : QOk P L ev raw o (.ofValue v) :=
 .still fun G w ρ hh => by
  have h1 := (hh.ev x (by rw [ho]; simp [Op.operands])).flat hx
  have h2 := (hh.ev y (by rw [ho]; simp [Op.operands])).flat hy
  refine ⟨v, ?_, .ofValue G v⟩
  simp only [execOp, ho, h1, h2]
  rw [Sem.run_bind, hr w]; rfl
theorem fallB_ok {op : BinOp} {t t' : TypeId} {x y : Operand} (ho : o.op = .binOp op t x y t') {a b : Option Value} (ha : (ev x).flat = a) (hb : (ev y).flat = b) (h : fallB P op t x y a b K) : ∃ av, K av ∧ QOk P L ev raw o av := by
 unfold fallB at h
 split at h
 ·obtain ⟨v, h1, h2⟩ := h
  exact ⟨_, h2, q_fall ho ha hb h1⟩
 ·exact h.elim
theorem eqRes_ok {op : BinOp} {r : Bool} (h : eqRes op r K) : ∃ r', K (.v (.bool r')) ∧ ((op = .eql ∧ r' = r) ∨ (op = .neq ∧ r' = !r)) := by
 unfold eqRes at h
 split at h
 ·exact ⟨_, h, .inl ⟨rfl, rfl⟩⟩
 ·exact ⟨_, h, .inr ⟨rfl, rfl⟩⟩
 ·exact h.elim
theorem abin_ok (hT : TOk P TT) {op : BinOp} {t t' : TypeId} {x y : Operand} (ho : o.op = .binOp op t x y t') (h : abin P TT op t x y (ev x) (ev y) K) : ∃ av, K av ∧ QOk P L ev raw o av := by
 have hp : ∀ a, isPtrA a = true → (∃ i j, a = .ptr i j) ∨ ∃ l, a = .cref l := fun a ha => by
  cases a <;> simp [isPtrA] at ha
  ·exact .inl ⟨_, _, rfl⟩
  ·exact .inr ⟨_, rfl⟩
 have hf : ∀ a, isFnA a = true → ∃ f l, a = .fn f l ∨ a = .bnd f l := fun a ha => by
  cases a <;> simp [isFnA] at ha
  ·exact ⟨_, _, .inl rfl⟩
  ·exact ⟨_, _, .inr rfl⟩
 have hnp : ∀ a, nilP a = true → a = .v (.pointer none) := fun a ha => by unfold nilP at ha; split at ha <;> first | rfl | cases ha
 have hnf : ∀ a, nilF a = true → a = .v .nilFunc := fun a ha => by unfold nilF at ha; split at ha <;> first | rfl | cases ha
 unfold abin at h
 split at h
 ·rename_i hk
  obtain ⟨ti, h1, h2⟩ := kindT_some hk (by simp)
  obtain ⟨hti⟩ := hT.get h1
  split at h
  ·rename_i p hb
   obtain ⟨r, h3, h4⟩ := eqRes_ok h
   have hxy : ev x = .v (.bool p.1) ∧ ev y = .v (.bool p.2) := by
    unfold bothBool at hb; split at hb
    ·rename_i a b hx hy; cases hb; exact ⟨hx, hy⟩
    ·cases hb
   exact ⟨_, h3, q_boolcmp ho hti h2 hxy.1 hxy.2 h4⟩
  ·exact h.elim
 ·rename_i hk
  obtain ⟨ti, h1, h2⟩ := kindT_some hk (by simp)
  obtain ⟨hti⟩ := hT.get h1
  split at h
  ·rename_i hb
   rw [Bool.and_eq_true] at hb
   obtain ⟨r, h3, h4⟩ := eqRes_ok h
   exact ⟨_, h3, q_nilcmp ho hti rfl (hnp _ hb.2) h4 (.inl ⟨h2, hp _ hb.1, rfl⟩)⟩
  ·exact fallB_ok ho rfl rfl h
 ·rename_i hk
  obtain ⟨ti, h1, h2⟩ := kindT_some hk (by simp)
  obtain ⟨hti⟩ := hT.get h1
  split at h
  ·rename_i hb
   rw [Bool.and_eq_true] at hb
   obtain ⟨r, h3, h4⟩ := eqRes_ok h
   exact ⟨_, h3, q_nilcmp ho hti rfl (hnf _ hb.2) h4 (.inr ⟨h2, hf _ hb.1, rfl⟩)⟩
  ·exact fallB_ok ho rfl rfl h
 ·split at h
  ·rename_i t1 i j t2 i' j' hx hy
   obtain ⟨⟨rfl, rfl, rfl⟩, r, h1, h2⟩ := h
   refine ⟨_, h2, .still fun G w ρ hh => ?_⟩
   have e1 := hh.ev x (by rw [ho]; simp [Op.operands])
   have e2 := hh.ev y (by rw [ho]; simp [Op.operands])
   rw [hx] at e1; rw [hy] at e2
   obtain ⟨u1, f1, g1⟩ := e1.iface_inv
   obtain ⟨u2, f2, g2⟩ := e2.iface_inv
   have k1 := g1.ptr_inv.1
   have k2 := g2.ptr_inv.1
   subst k1; subst k2
   refine ⟨.bool r, ?_, .data _ _ (.v _)⟩
   simp only [execOp, ho, f1, f2]
   have := h1 (G.loc i) w
   simp [eqGuard, this, Sem.run_bind, Result.andThen]
  ·rename_i t1 z v hx hy
   obtain ⟨r, h1, h2⟩ := h
   refine ⟨_, h2, .still fun G w ρ hh => ?_⟩
   have e1 := hh.ev x (by rw [ho]; simp [Op.operands])
   have e2 := hh.ev y (by rw [ho]; simp [Op.operands])
   rw [hx] at e1; rw [hy] at e2
   obtain ⟨u1, f1, g1⟩ := e1.iface_inv
   refine ⟨.bool r, ?_, .data _ _ (.v _)⟩
   simp only [execOp, ho, f1, e2.v_inv]
   have := h1 u1 w
   simp [eqGuard, this, Sem.run_bind, Result.andThen]
  ·exact fallB_ok ho rfl rfl h
 ·split at h
  ·rename_i a b hx hy
   split at h
   ·obtain ⟨v, h1, h2⟩ := q_bin (P := P) (L := L) (raw := raw) ho hx hy h
    exact ⟨_, h1, h2⟩
   ·exact fallB_ok ho (by rw [hx]; rfl) (by rw [hy]; rfl) h
  ·exact fallB_ok ho rfl rfl h
end
end Go.Am
namespace Go.Am
open Go.RowKit
section
variable {P : Program} {TT : Types} {L : Heap} {ev raw : Operand → AV} {o : Oper} {K : AV → Prop}
theorem isNone_true {α : Type} {x : Option α} (h : isNone x = true) : x = none := by cases x <;> simp_all [isNone]
theorem isNone_false {α : Type} {x : Option α} (h : ¬ isNone x = true) : x ≠ none := by cases x <;> simp_all [isNone]
theorem isFull_true {x : Own} (h : isFull x = true) : x = .full := by cases x <;> simp_all [isFull]
theorem orFull_or (b : Bool) : orFull b = .free ∨ orFull b = .full := by cases b <;> simp [orFull]
theorem orFull_full {b : Bool} (h : orFull b = .full) : b = true := by cases b <;> simp_all [orFull]
theorem aq_ok (hT : TOk P TT) (h : aq P TT L ev raw o K) : ∃ av, K av ∧ QOk P L ev raw o av := by
 unfold aq at h
 split at h
 ·rename_i x ho
  exact ⟨_, h, q_move (.inl ho)⟩
 ·rename_i x ho
  exact ⟨_, h, q_move (.inr ho)⟩
 ·rename_i c x y ho
  split at h
  ·rename_i g hc
   refine ⟨_, ?_, q_pick ho hc⟩
   cases g <;> exact h
  ·exact h.elim
 ·rename_i x ho
  split at h
  ·rename_i i j hx; exact ⟨_, h, by rw [← hx]; exact q_nilCheck ho (.inl ⟨i, j, hx⟩)⟩
  ·rename_i l hx; exact ⟨_, h, by rw [← hx]; exact q_nilCheck ho (.inr (.inl ⟨l, hx⟩))⟩
  ·rename_i f l hx; exact ⟨_, h, by rw [← hx]; exact q_nilCheck ho (.inr (.inr ⟨f, l, hx⟩))⟩
  ·exact h.elim
 ·rename_i op t x y t' ho
  exact abin_ok hT ho h
 ·rename_i op t x ho
  split at h
  ·rename_i b hx; exact ⟨_, h, q_not ho hx⟩
  ·rename_i k n hx; exact ⟨_, h, q_neg ho hx⟩
  ·rename_i k n hx; exact ⟨_, h, q_inv ho hx⟩
  ·exact h.elim
 ·rename_i s t x ho
  replace h := opt2_some h
  obtain ⟨si, ti, hs, ht, h⟩ := h
  obtain ⟨hsi⟩ := hT.get hs
  obtain ⟨hti⟩ := hT.get ht
  have hsome : (P.underlying s).isSome = true := by rw [hsi.und]; rfl
  split at h
  ·rename_i k' k n hk hx
   exact ⟨_, h, q_convert_int ho hsome hti hk hx⟩
  ·rename_i k' k n hk hx
   exact ⟨_, h, q_convert_float ho hsome hti hk hx⟩
  ·rename_i b hk hx
   exact ⟨_, h, q_convert_str ho hsome hti hk hx⟩
  ·rename_i rows own hk hx
   split at h
   ·rename_i e hks
    replace h := opt1_some h
    obtain ⟨te, he, h⟩ := h
    obtain ⟨hte⟩ := hT.get he
    split at h
    ·rename_i hke
     obtain ⟨l, rfl, h⟩ := h
     exact ⟨_, h, q_convert_bytes ho hsi hks hte hke hti hk hx⟩
    ·exact h.elim
   ·exact h.elim
  ·rename_i e b hk hx
   replace h := opt1_some h
   obtain ⟨te, he, h⟩ := h
   obtain ⟨hte⟩ := hT.get he
   split at h
   ·rename_i hks hke
    exact ⟨_, h.2, q_convert_toBytes ho hsi hks hte hke hti hk hx h.1⟩
   ·exact h.elim
  ·rename_i e _ rows hk hx _
   replace h := opt1_some h
   obtain ⟨te, he, h⟩ := h
   obtain ⟨hte⟩ := hT.get he
   split at h
   ·rename_i hke
    split at h
    ·rename_i hst
     subst hst
     exact ⟨_, h, q_convert_lit ho hti hk hte hke hx⟩
    ·exact h.elim
   ·exact h.elim
  ·exact h.elim
 ·rename_i fn first cap ho
  split at h
  ·split at h
   ·rename_i f hz
    have : first = #[] := Array.eq_empty_of_size_eq_zero hz
    subst this
    exact ⟨_, h, q_makeFunc ho⟩
   ·split at h
    ·rename_i hz
     have : cap = #[] := Array.eq_empty_of_size_eq_zero hz
     subst this
     exact ⟨_, h, q_makeBnd ho⟩
    ·exact h.elim
  ·exact h.elim
 ·rename_i x i ho
  split at h
  ·rename_i l hx
   replace h := opt1_some h
   obtain ⟨c, hc, h⟩ := h
   exact ⟨_, h, q_extract ho hx hc⟩
  ·exact h.elim
 ·rename_i t x ho
  replace h := opt1_some h
  obtain ⟨ti, ht, h⟩ := h
  obtain ⟨hti⟩ := hT.get ht
  split at h
  ·exact h.elim
  ·rename_i hk
   exact ⟨_, h, q_iface ho hti hk⟩
 ·rename_i s x f ho
  split at h
  ·rename_i fs hk
   obtain ⟨ti, ht, hk⟩ := kindT_some hk (by simp)
   obtain ⟨hti⟩ := hT.get ht
   replace h := opt1_some h
   obtain ⟨p, hp, h⟩ := h
   obtain ⟨off, sz⟩ := p
   split at h
   ·exact h.elim
   ·rename_i hsz
    simp only at hsz
    replace h := opt1_some h
    obtain ⟨c, hc, h⟩ := h
    exact ⟨_, h, q_fieldAddr ho hti hk hp (by omega) hc⟩
  ·exact h.elim
 ·rename_i t x ho
  replace h := opt1_some h
  obtain ⟨ti, ht, h⟩ := h
  obtain ⟨hti⟩ := hT.get ht
  replace h := opt1_some h
  obtain ⟨c, hc, h⟩ := h
  exact ⟨_, h, q_load ho hti hc⟩
 ·rename_i t x ix ho
  split at h
  ·rename_i e hk
   obtain ⟨ti, ht, hk⟩ := kindT_some hk (by simp)
   obtain ⟨hti⟩ := hT.get ht
   replace h := opt1_some h
   obtain ⟨te, he, h⟩ := h
   obtain ⟨hte⟩ := hT.get he
   split at h
   ·rename_i rows own k n hx hi
    obtain ⟨h0, row, hr, hs, h⟩ := h
    exact ⟨_, h, q_indexAddr_list ho hti hk hte hx hi h0 hr hs⟩
   ·rename_i id m k n hx hi
    obtain ⟨h0, h1, h⟩ := h
    exact ⟨_, h, q_indexAddr_arr ho hti hk hte hx hi h0 h1⟩
   ·exact h.elim
  ·rename_i len e hk
   obtain ⟨ti, ht, hk⟩ := kindT_some hk (by simp)
   obtain ⟨hti⟩ := hT.get ht
   replace h := opt1_some h
   obtain ⟨te, he, h⟩ := h
   obtain ⟨hte⟩ := hT.get he
   split at h
   ·rename_i k n hi
    obtain ⟨h0, h1, h⟩ := h
    replace h := opt1_some h
    obtain ⟨c, hc, h⟩ := h
    exact ⟨_, h, q_indexAddr_array ho hti hk hte hi h0 h1 hc⟩
   ·exact h.elim
  ·exact h.elim
 ·rename_i t x lo hi mx ho
  split at h
  ·rename_i s hk hx
   obtain ⟨ti, ht, hk⟩ := kindT_some hk (by simp)
   obtain ⟨hti⟩ := hT.get ht
   split at h
   ·rename_i hmx
    have := isNone_true hmx
    subst this
    replace h := opt2_some h
    obtain ⟨l, hh, h1, h2, h3, h4, h5, h6, h⟩ := h
    exact ⟨_, h, q_slice_str ho hti hk hx h1 h3 h2 h4 h5 h6⟩
   ·exact h.elim
  ·rename_i e rows own hk hx
   obtain ⟨ti, ht, hk⟩ := kindT_some hk (by simp)
   obtain ⟨hti⟩ := hT.get ht
   replace h := opt1_some h
   obtain ⟨te, he, h⟩ := h
   obtain ⟨hte⟩ := hT.get he
   replace h := opt2_some h
   obtain ⟨l, hh, h1, h2, h⟩ := h
   split at h
   ·rename_i hmx
    have := isNone_true hmx
    subst this
    obtain ⟨h3, h4, h5, h6, h7, h⟩ := h
    refine ⟨_, h, q_slice ho hti hk hte hx h1 h3 h2 h4 trivial h5 h6 (.inl ⟨rfl, fun hf => ?_⟩) h7 (orFull_or _)⟩
    have := orFull_full hf
    rw [Bool.and_eq_true] at this
    have hn := isNone_true this.1
    subst hn
    refine ⟨isFull_true this.2, ?_⟩
    simp [optNat] at h2; exact h2.symm
   ·rename_i hmx
    split at h
    ·exact h.elim
    ·rename_i hhi
     replace h := opt1_some h
     obtain ⟨m, hm, h3, h4, h5, h6, h7, h8, h9, h⟩ := h
     refine ⟨_, h, q_slice ho hti hk hte hx h1 h3 h2 h4 h5 h6 (by omega) (.inr ⟨isNone_false hhi, m, hm, isNone_false hmx, h7, h8, fun hf => ?_⟩) h9 (orFull_or _)⟩
     have := orFull_full hf
     exact (Nat.eq_of_beq_eq_true this).symm
  ·rename_i e id off n c hk hx
   obtain ⟨ti, ht, hk⟩ := kindT_some hk (by simp)
   obtain ⟨hti⟩ := hT.get ht
   replace h := opt1_some h
   obtain ⟨te, he, h⟩ := h
   obtain ⟨hte⟩ := hT.get he
   replace h := opt2_some h
   obtain ⟨l, hh, h1, h2, h⟩ := h
   split at h
   ·rename_i hmx
    have := isNone_true hmx
    subst this
    obtain ⟨h3, h4, h5, h6, h⟩ := h
    exact ⟨_, h, q_slice_arr ho hti hk hte hx h1 h3 h2 h4 trivial h5 h6 (Nat.le_refl _) (.inl ⟨rfl, rfl⟩)⟩
   ·rename_i hmx
    split at h
    ·exact h.elim
    ·rename_i hhi
     replace h := opt1_some h
     obtain ⟨m, hm, h3, h4, h5, h6, h7, h8, h⟩ := h
     exact ⟨_, h, q_slice_arr ho hti hk hte hx h1 h3 h2 h4 h5 h6 h7 h8 (.inr ⟨isNone_false hhi, isNone_false hmx, hm⟩)⟩
  ·exact h.elim
 ·rename_i t parts ho
  replace h := opt1_some h
  obtain ⟨ti, ht, h⟩ := h
  obtain ⟨hti⟩ := hT.get ht
  split at h
  ·rename_i fs hk
   replace h := opt2_some h
   obtain ⟨z, p, hz, hp, h⟩ := h
   split at h
   ·rename_i hfs
    replace h := opt1_some h
    obtain ⟨cells, hc, h⟩ := h
    refine ⟨_, h, q_build_struct ho hti hk hz (fun f hf => ?_) hp hc⟩
    have := List.all_eq_true.1 hfs f hf
    intro h0; rw [h0] at this; simp at this
   ·exact h.elim
  ·exact h.elim
 ·rename_i t len parts ho
  split at h
  ·rename_i e hk
   obtain ⟨ti, ht, hk⟩ := kindT_some hk (by simp)
   obtain ⟨hti⟩ := hT.get ht
   replace h := opt1_some h
   obtain ⟨te, he, h⟩ := h
   obtain ⟨hte⟩ := hT.get he
   replace h := opt2_some h
   obtain ⟨z, p, hz, hp, h⟩ := h
   split at h
   ·rename_i hc
    rw [Bool.and_eq_true, decide_eq_true_eq] at hc
    obtain ⟨z1, z2, z3⟩ := zok_spec hc.1
    replace h := opt1_some h
    obtain ⟨rows, hr, h⟩ := h
    exact ⟨_, h, q_buildSlice ho hti hk hte hz z1 z2 z3 hc.2 hp hr⟩
   ·exact h.elim
  ·exact h.elim
 ·rename_i t x y ho
  split at h
  ·rename_i e n m hk hx hy
   obtain ⟨ti, ht, hk⟩ := kindT_some hk (by simp)
   obtain ⟨hti⟩ := hT.get ht
   replace h := opt1_some h
   obtain ⟨te, he, h⟩ := h
   obtain ⟨hte⟩ := hT.get he
   replace h := opt1_some h
   obtain ⟨z, hz, h⟩ := h
   split at h
   ·rename_i hc
    obtain ⟨z1, z2, z3⟩ := zok_spec hc
    obtain ⟨rfl, h0, h1, h2, h⟩ := h
    exact ⟨_, h, q_makeSlice ho hti hk hte hz z1 z2 z3 hx hy h0 h1 h2⟩
   ·exact h.elim
  ·exact h.elim
 ·rename_i c ho
  split at h
  ·rename_i x hc ha
   have ha := args1 ha
   split at h
   ·rename_i t hty
    have hty := tys1 hty
    split at h
    ·rename_i e rows own hk hx
     obtain ⟨ti, ht, hk⟩ := kindT_some hk (by simp)
     obtain ⟨hti⟩ := hT.get ht
     exact ⟨_, h, q_len ho hc ha hty hti (.inl ⟨e, rows, own, hk, hx, rfl⟩)⟩
    ·rename_i e id off m cp hk hx
     obtain ⟨ti, ht, hk⟩ := kindT_some hk (by simp)
     obtain ⟨hti⟩ := hT.get ht
     exact ⟨_, h, q_len_arr ho hc ha hty hti hk hx⟩
    ·rename_i s hk hx
     obtain ⟨ti, ht, hk⟩ := kindT_some hk (by simp)
     obtain ⟨hti⟩ := hT.get ht
     exact ⟨_, h, q_len ho hc ha hty hti (.inr (.inl ⟨s, hk, hx, rfl⟩))⟩
    ·rename_i n e hk
     obtain ⟨ti, ht, hk⟩ := kindT_some hk (by simp)
     obtain ⟨hti⟩ := hT.get ht
     exact ⟨_, h, q_len ho hc ha hty hti (.inr (.inr ⟨e, hk⟩))⟩
    ·exact h.elim
   ·exact h.elim
  ·rename_i x hc ha
   have ha := args1 ha
   split at h
   ·rename_i t hty
    have hty := tys1 hty
    split at h
    ·rename_i e id off m cp hk hx
     obtain ⟨ti, ht, hk⟩ := kindT_some hk (by simp)
     obtain ⟨hti⟩ := hT.get ht
     exact ⟨_, h, q_cap_arr ho hc ha hty hti hk hx⟩
    ·exact h.elim
   ·exact h.elim
  ·rename_i x y hc ha
   have ha := args2 ha
   split at h
   ·rename_i k a k' b hx hy
    split at h
    ·rename_i hkk
     subst hkk
     exact ⟨_, h, q_minmax ho ha hx hy (.inl ⟨hc, rfl⟩)⟩
    ·exact h.elim
   ·exact h.elim
  ·rename_i x y hc ha
   have ha := args2 ha
   split at h
   ·rename_i k a k' b hx hy
    split at h
    ·rename_i hkk
     subst hkk
     exact ⟨_, h, q_minmax ho ha hx hy (.inr ⟨hc, rfl⟩)⟩
    ·exact h.elim
   ·rename_i a b hx hy
    exact ⟨_, h, q_max_str ho ha hx hy hc⟩
   ·exact h.elim
  ·exact h.elim
 ·exact h.elim
end
end Go.Am
namespace Go.Am
open Go.RowKit
theorem setCells_heap (b : Nat) : ∀ (vs : List Value) (o : Nat) (w : World) (arr : Array Value) (E : TypeId) (fr : Nat × Nat), w.heap[b]? = some (.cells arr E fr) → o + vs.length ≤ arr.size →
  ∃ arr', (w.setCells b o vs).heap[b]? = some (.cells arr' E fr) ∧ arr'.size = arr.size ∧ ∀ i, arr'.getD i undef = if o ≤ i ∧ i < o + vs.length then vs.getD (i - o) undef else arr.getD i undef
 | [], o, w, arr, E, fr, h, _ => ⟨arr, h, rfl, fun i => by simp; omega⟩
 | v :: vs, o, w, arr, E, fr, h, hle => by
  simp only [List.length_cons] at hle
  have h1 : (w.setCell ⟨b, o, none⟩ v).heap[b]? = some (.cells (arr.setIfInBounds o v) E fr) := by
   simp [World.setCell, Array.getElem?_modify, h]
  obtain ⟨arr', k1, k2, k3⟩ := setCells_heap b vs (o + 1) (w.setCell ⟨b, o, none⟩ v) _ E fr h1 (by simp; omega)
  refine ⟨arr', k1, by rw [k2]; simp, fun i => ?_⟩
  rw [k3 i]
  by_cases c1 : o + 1 ≤ i ∧ i < o + 1 + vs.length
  ·rw [if_pos c1, if_pos (by simp; omega), show i - o = (i - (o + 1)) + 1 by omega]; simp
  ·rw [if_neg c1]
   by_cases c2 : i = o
   ·subst c2
    rw [if_pos (by simp)]
    have : i < arr.size := by omega
    simp [this]
   ·rw [if_neg (by simp; omega)]
    simp [Array.getElem?_setIfInBounds, Ne.symm c2]
theorem setCells_other (b : Nat) : ∀ (vs : List Value) (o : Nat) (w : World), (w.setCells b o vs).os = w.os ∧ (w.setCells b o vs).tape = w.tape ∧ (w.setCells b o vs).output = w.output ∧ (w.setCells b o vs).heap.size = w.heap.size ∧ ∀ b', b' ≠ b → (w.setCells b o vs).heap[b']? = w.heap[b']?
 | [], _, _ => ⟨rfl, rfl, rfl, rfl, fun _ _ => rfl⟩
 | v :: vs, o, w => by
  obtain ⟨h1, h2, h3, h4, h5⟩ := setCells_other b vs (o + 1) (w.setCell ⟨b, o, none⟩ v)
  refine ⟨h1, h2, h3, by rw [World.setCells, h4]; simp [World.setCell], fun b' hb' => ?_⟩
  rw [World.setCells, h5 b' hb']
  simp [World.setCell, Array.getElem?_modify, Ne.symm hb']
def setL : Heap → Nat → Res → Heap
 | [], _, _ => []
 | (i, r) :: H, id, r' => if i = id then (i, r') :: H else (i, r) :: setL H id r'
theorem findL_perm {L : Heap} {id : Nat} {r : Res} (h : findL L id = some r) : ∃ L0, L.Perm ((id, r) :: L0) ∧ ∀ r', (setL L id r').Perm ((id, r') :: L0) := by
 induction L with
 | nil => cases h
 | cons x L ih =>
  obtain ⟨i, r0⟩ := x
  unfold findL at h
  split at h
  ·rename_i e; subst e; cases h
   exact ⟨L, .refl _, fun r' => by simp [setL]⟩
  ·rename_i e
   obtain ⟨L0, h1, h2⟩ := ih h
   refine ⟨(i, r0) :: L0, (h1.cons _).trans (.swap _ _ _), fun r' => ?_⟩
   unfold setL
   rw [if_neg e]
   exact ((h2 r').cons _).trans (.swap _ _ _)
theorem within {G G' : Ghost} {w w' : World} {L : Heap} {id : Nat} {r r' : Res} (hh : Holds G w L) (hf : findL L id = some r) (h : Holds G w [(id, r)] → Holds G' w' [(id, r')] ∧ Step G w [(id, r)] G' w' [(id, r')]) :
  Holds G' w' (setL L id r') ∧ Step G w L G' w' (setL L id r') := by
 obtain ⟨L0, h1, h2⟩ := findL_perm hf
 have h3 : Holds G w ([(id, r)] ++ L0) := hh.perm h1
 obtain ⟨k1, k2⟩ := h h3.left
 obtain ⟨m1, m2⟩ := h3.beside k1 k2
 exact ⟨m1.perm (h2 r').symm, m2.perm h1.symm (h2 r').symm⟩
theorem with_new {G G' : Ghost} {w w' : World} {L : Heap} {r : Nat × Res} (hh : Holds G w L) (h : Holds G w [] → Holds G' w' [r] ∧ Step G w [] G' w' [r]) : Holds G' w' (r :: L) ∧ Step G w L G' w' (r :: L) := by
 have h3 : Holds G w ([] ++ L) := hh
 obtain ⟨k1, k2⟩ := h h3.left
 exact h3.beside k1 k2
theorem store_list {G : Ghost} {w : World} {id off : Nat} {cells l : List AV} {vs : List Value} (h : Holds G w [(id, .box cells)]) (hl : l.length = vs.length ∧ ∀ i c, l[i]? = some c → Sim G c (vs.getD i undef)) (hle : off + l.length ≤ cells.length) :
  Holds G (w.setCells (G.loc id) off vs) [(id, .box (putCells cells off l))] ∧ Step G w [(id, .box cells)] G (w.setCells (G.loc id) off vs) [(id, .box (putCells cells off l))] := by
 obtain ⟨h0, arr, E, fr, hh, hsz, hf, hc⟩ := h.res _ (List.mem_singleton.2 rfl)
 obtain ⟨arr', k1, k2, k3⟩ := setCells_heap (G.loc id) vs off w arr E fr hh (by have := hl.1; omega)
 obtain ⟨o1, o2, o3, o4, o5⟩ := setCells_other (G.loc id) vs off w
 have hb : ∀ H, blocksOf G [(id, .box H)] = [G.loc id] := fun H => rfl
 have hX : ∀ b i v, G.X b i = some v → b ≠ G.loc id := fun b i v hx e => by subst e; rw [h0 i] at hx; cases hx
 refine ⟨⟨fun b i v hx => ?_, fun r hr => ?_, by simp, fun r hr => ?_, by simp [hb], fun b hb' => ?_⟩, ⟨o1, o2, o3, by rw [o4]; exact Nat.le_refl _, rfl, fun _ _ _ h => h, fun b hlt hn => ?_, fun _ _ _ h => .inl h, fun b hb' => .inl (by simpa [hb] using hb'), fun i hi => ⟨hi, rfl, .inl rfl⟩, fun i hi => .inl (by simpa using hi), fun _ h => h, fun _ h => .inl h⟩⟩
 ·have := h.X b i v hx
  rw [← this]
  simp [World.cell?, o5 b (hX b i v hx)]
 ·obtain rfl := List.mem_singleton.1 hr
  refine ⟨h0, arr', E, fr, k1, by rw [k2, put_len hle]; exact hsz, fun i => ?_, fun i a ha => ?_⟩
  ·have := hf i
   simp only [World.frozen?, hh] at this
   simp only [World.frozen?, k1]; exact this
  ·rw [k3 i]
   rcases put_get hle ha with ⟨p1, p2, p3⟩ | ⟨p1, p2⟩
   ·rw [if_pos (by have := hl.1; omega)]
    have := hl.2 _ _ p3
    simpa using this
   ·rw [if_neg (by have := hl.1; omega)]
    exact hc i a p2
 ·obtain rfl := List.mem_singleton.1 hr
  exact h.live (id, .box cells) (by simp)
 ·obtain ⟨q1, q2, q3⟩ := h.lits b hb'
  exact ⟨q1, by rw [o4]; exact q2, q3⟩
 ·have hne : b ≠ G.loc id := fun e => hn (by rw [hb]; simp [e])
  exact ⟨.inl (o5 b hne), fun _ => o5 b hne⟩
theorem store_box {G : Ghost} {w : World} {id off : Nat} {cells l : List AV} {x : Value} (h : Holds G w [(id, .box cells)]) (hl : l.length = x.cells.size ∧ ∀ i c, l[i]? = some c → Sim G c (x.cells.getD i undef)) (hle : off + l.length ≤ cells.length) :
  Holds G (w.setCells (G.loc id) off x.cells.toList) [(id, .box (putCells cells off l))] ∧ Step G w [(id, .box cells)] G (w.setCells (G.loc id) off x.cells.toList) [(id, .box (putCells cells off l))] :=
 store_list h ⟨by rw [hl.1]; simp, fun i c hc => by have := hl.2 i c hc; simpa using this⟩ hle
def Ghost.boxed (G : Ghost) (id b : Nat) : Ghost := { G with loc := fun i => if i = id then b else G.loc i, live := fun i => G.live i ∨ i = id }
theorem new_box {G : Ghost} {w : World} {id : Nat} {l : List AV} {arr : Array Value} (E : TypeId) (h : Holds G w []) (hid : ¬ G.live id) (hl : l.length ≤ arr.size ∧ ∀ i a, l[i]? = some a → Sim G a (arr.getD i undef)) :
  Holds (G.boxed id w.heap.size) (w.alloc (.cells arr E)) [(id, .box l)] ∧ Step G w [] (G.boxed id w.heap.size) (w.alloc (.cells arr E)) [(id, .box l)] := by
 have hloc : (G.boxed id w.heap.size).loc id = w.heap.size := by simp [Ghost.boxed]
 have hb : blocksOf (G.boxed id w.heap.size) [(id, .box l)] = [w.heap.size] := by simp [blocksOf, Ghost.placed, hloc]
 have hX : ∀ b i v, G.X b i = some v → b < w.heap.size := fun b i v hx => by
  have := h.X b i v hx
  rcases Nat.lt_or_ge b w.heap.size with hlt | hge
  ·exact hlt
  ·simp [World.cell?, Array.getElem?_eq_none hge] at this
 have hnew : (w.alloc (.cells arr E)).heap[w.heap.size]? = some (.cells arr E) := by
  show (w.heap.push _)[w.heap.size]? = _
  simp
 have hold : ∀ b, b < w.heap.size → (w.alloc (.cells arr E)).heap[b]? = w.heap[b]? := fun b hb => Below.heap_alloc _ _ _ hb
 have hlive : ∀ i, G.live i → (G.boxed id w.heap.size).live i ∧ (G.boxed id w.heap.size).loc i = G.loc i ∧ (G.boxed id w.heap.size).tk i = G.tk i := fun i hi => by
  have : i ≠ id := fun e => hid (e ▸ hi)
  exact ⟨.inl hi, by simp [Ghost.boxed, this], rfl⟩
 have hst : Step G w [] (G.boxed id w.heap.size) (w.alloc (.cells arr E)) [(id, .box l)] :=
  ⟨rfl, rfl, rfl, by simp, rfl, fun _ _ _ h => h, fun b hlt _ => ⟨.inl (hold b hlt), fun _ => hold b hlt⟩, fun _ _ _ h => .inl h, fun b hb' => by rw [hb] at hb'; simp at hb'; exact .inr (by omega),
   fun i hi => let ⟨a, b, c⟩ := hlive i hi; ⟨a, b, .inl c⟩, fun i hi => .inr (by simp at hi; subst hi; exact hid), fun _ h => h, fun _ h => .inl h⟩
 refine ⟨⟨fun b i v hx => ?_, fun r hr => ?_, by simp, fun r hr => ?_, by rw [hb]; simp, fun b hb' => ?_⟩, hst⟩
 ·have := h.X b i v hx
  rw [← this]
  simp [World.cell?, hold b (hX b i v hx)]
 ·obtain rfl := List.mem_singleton.1 hr
  refine ⟨fun i => ?_, arr, E, (0, 0), by rw [hloc]; exact hnew, hl.1, fun i => by rw [hloc]; simp only [World.frozen?, hnew]; simp, fun i a ha => hst.sim (hl.2 i a ha)⟩
  ·rw [hloc]
   cases hx : G.X w.heap.size i with
   | none => exact hx
   | some v => have := hX _ _ _ hx; omega
 ·obtain rfl := List.mem_singleton.1 hr
  exact .inr rfl
 ·obtain ⟨q1, q2, q3⟩ := h.lits b hb'
  refine ⟨q1, by simp; omega, ?_⟩
  rw [hb]; simp; omega
def EOk (P : Program) (L : Heap) (ev raw : Operand → AV) (o : Oper) (av : AV) (L' : Heap) (new : Nat → Prop) : Prop :=
 ∀ G w ρ, Here P L ev raw o G w ρ → (∀ id, new id → ¬ G.live id) → ∃ v G' w', ((execOp ρ o).run P w = .ok (.value v) w' ∨ ((execOp ρ o).run P w = .ok .skip w' ∧ v = undef)) ∧ Sim G' av v ∧ Holds G' w' L' ∧ Step G w L G' w' L' ∧ ∀ id, G'.live id → G.live id ∨ new id
section
variable {P : Program} {L : Heap} {ev raw : Operand → AV} {o : Oper}
theorem e_store {t : TypeId} {x y : Operand} {ti : TI} {id off : Nat} {cells l : List AV} (ho : o.op = .store t x y) (ht : TIs P t ti) (hx : ev x = .ptr id off) (hf : findL L id = some (.box cells)) (hl : acells (ev y) = some l) (hone : l.all AV.one = true)
  (hs : l.length = ti.size) (hle : off + l.length ≤ cells.length) : EOk P L ev raw o .dead (setL L id (.box (putCells cells off l))) fun _ => False := fun G w ρ hh _ => by
 have h1 := hh.ev x (by rw [ho]; simp [Op.operands])
 have h2 := hh.ev y (by rw [ho]; simp [Op.operands])
 rw [hx] at h1
 obtain ⟨h3, _⟩ := h1.ptr_inv
 have h4 := acells_sim h2 hl
 obtain ⟨k1, k2⟩ := within hh.holds hf fun h => store_box h h4 hle
 refine ⟨undef, G, _, .inr ⟨?_, rfl⟩, .data _ _ (.dead _), k1, k2, fun _ h => .inl h⟩
 obtain ⟨_, arr, E, fr, hb, hsz, hfz, hc⟩ := hh.holds.res _ (findL_mem hf)
 have hcells : (ρ y).cells.size = ti.size := by rw [← h4.1]; exact hs
 have hst := run_storeCells_cells (P := P) (G.loc id) off (ρ y).cells.toList 0 w (fun j hj => by
   have : off + 0 + j < arr.size := by have := h4.1; simp at hj; omega
   simp [World.cell?, hb]; omega) (fun j hj => hfz _) (fun v hv => by
   obtain ⟨i, hi⟩ := List.getElem?_of_mem hv
   have hi' : i < l.length := by
    have := (List.getElem?_eq_some_iff.1 hi).1
    rw [h4.1]; simpa using this
   have h5 := h4.2 i l[i] (List.getElem?_eq_getElem hi')
   have h6 : (ρ y).cells.getD i undef = v := by
    rw [Array.getElem?_toList] at hi
    simp [hi]
   rw [h6] at h5
   exact h5.one (List.all_eq_true.1 hone _ (List.getElem_mem hi')))
 have hsv : (Instr.storeAt t (ρ x) (ρ y)).run P w = .ok () (w.setCells (G.loc id) off (ρ y).cells.toList) := by
  rw [h3]
  unfold Instr.storeAt
  have h5 : (Instr.sureAddr (.pointer (some ⟨G.loc id, off, none⟩))).run P w = .ok ⟨G.loc id, off, none⟩ w := rfl
  have hszr : (sizeOf t).run P w = .ok ti.size w := by simp [sizeOf, typeInfo, ht.info, ht.size]
  rw [Sem.run_bind, h5]
  simp only [Result.andThen]
  unfold storeVar
  rw [Sem.run_bind, hszr]
  simp only [Result.andThen]
  rw [if_neg (by simp [hcells])]
  simpa using hst
 simp only [execOp, ho]
 rw [Sem.run_bind, hsv]
 rfl
theorem e_box {t : TypeId} {x : Operand} {id : Nat} {l : List AV} (ho : o.op = .box t x) (hl : acells (ev x) = some l) : EOk P L ev raw o (.ptr id 0) ((id, .box l) :: L) fun i => i = id := fun G w ρ hh hn => by
 have h2 := hh.ev x (by rw [ho]; simp [Op.operands])
 have h4 := acells_sim h2 hl
 obtain ⟨k1, k2⟩ := with_new hh.holds fun h => new_box (id := id) t h (hn id rfl) ⟨Nat.le_of_eq h4.1, h4.2⟩
 refine ⟨.pointer (some ⟨w.heap.size, 0, none⟩), _, _, .inl ?_, ?_, k1, k2, fun i hi => hi⟩
 ·simp only [execOp, ho]; rfl
 ·have : (G.boxed id w.heap.size).loc id = w.heap.size := by simp [Ghost.boxed]
  have h5 := Sim.ptr (G := G.boxed id w.heap.size) id 0 (.inr rfl)
  rw [this] at h5; exact h5
theorem e_alloc {t : TypeId} {ti : TI} {z : Value} {id : Nat} (ho : o.op = .alloc t) (ht : TIs P t ti) (hz : ti.zero = some z) : EOk P L ev raw o (.ptr id 0) ((id, .box (zcells z)) :: L) fun i => i = id := fun G w ρ hh hn => by
 obtain ⟨k1, k2⟩ := with_new hh.holds fun h => new_box (id := id) t h (hn id rfl) ⟨Nat.le_of_eq (zcells_rel G z).1, (zcells_rel G z).2⟩
 refine ⟨.pointer (some ⟨w.heap.size, 0, none⟩), _, _, .inl ?_, ?_, k1, k2, fun i hi => hi⟩
 ·have hzv : (zeroValue t).run P w = .ok z w := by simp [zeroValue, typeInfo, ht.info, ht.zero, hz]
  simp only [execOp, ho, Instr.alloc]
  rw [Sem.run_bind, Sem.run_bind, hzv]
  rfl
 ·have : (G.boxed id w.heap.size).loc id = w.heap.size := by simp [Ghost.boxed]
  have h5 := Sim.ptr (G := G.boxed id w.heap.size) id 0 (.inr rfl)
  rw [this] at h5; exact h5
theorem e_buildObj {t e : TypeId} {len id : Nat} {parts : Array (Nat × Operand)} {ti te : TI} {z : Value} {p : List (Nat × List AV)} {cells : List AV} (ho : o.op = .buildSlice t len parts) (ht : TIs P t ti) (hk : ti.kind = .slice e) (hte : TIs P e te) (hz : te.zero = some z)
  (hzs : z.cells.size = te.size) (hz1 : ∀ y ∈ z.cells.toList, y.oneCell' = true) (hs0 : 0 < te.size) (hl0 : 0 < len) (hsm : len * te.size ≤ 16777216) (hp : partCells ev parts.toList = some p) (hl : aFill (fun i => some (i * te.size, te.size)) (List.replicate len (zcells z)).flatten p = some cells) :
  EOk P L ev raw o (.arr id 0 len len) ((id, .box cells) :: L) fun i => i = id := fun G w ρ hh hn => by
 have hs := part_ops (parts := parts) hh (by rw [ho]; simp [Op.operands])
 have h1 := partCells_rel (ρ' := ρ) rfl hp hs
 have hzr0 := zeros_rel G.X z len hz1 (by omega)
 have hzr : RcQ (Sim G) (List.replicate len (zcells z)).flatten ((Array.range (len * z.cells.size)).map (fun i => z.cells[i % z.cells.size]!)) := ⟨hzr0.1, fun i a ha => .data _ _ (hzr0.2 i a ha).1⟩
 rw [hzs] at hzr
 obtain ⟨arr, h2, h3⟩ := fill_rel h1 hzr hl
 obtain ⟨k1, k2⟩ := with_new hh.holds fun h => new_box (id := id) (arr := arr) e h (hn id rfl) ⟨Nat.le_of_eq h3.1, h3.2⟩
 refine ⟨.slice (some ⟨w.heap.size, 0, none⟩) len len, _, _, .inl ?_, ?_, k1, k2, fun i hi => hi⟩
 ·have hpm : (parts.map fun x => (x.1, ρ x.2)).toList = parts.toList.map fun q => (q.1, ρ q.2) := by simp
  have hb : (Instr.buildSlice t len (parts.map fun (i, x) => (i, ρ x))).run P w = .ok (.slice (some ⟨w.heap.size, 0, none⟩) len len) (w.alloc (.cells arr e)) := by
   unfold Instr.buildSlice
   have hsz : (sizeOf e).run P w = .ok te.size w := by simp [sizeOf, typeInfo, hte.info, hte.size]
   have hzv : (zeroValue e).run P w = .ok z w := by simp [zeroValue, typeInfo, hte.info, hte.zero, hz]
   rw [Sem.run_bind, run_underlying (ht.slice hk)]
   simp only [Result.andThen]
   rw [Sem.run_bind, hsz]
   simp only [Result.andThen]
   rw [if_neg (by omega)]
   have h0 : ¬ len * te.size = 0 := fun h => by
    rcases Nat.mul_eq_zero.1 h with h | h <;> omega
   rw [if_neg h0]
   rw [Sem.run_bind, hzv]
   simp only [Result.andThen]
   rw [Sem.run_bind, Sem.run_pure]
   simp only [Result.andThen]
   rw [hzs, hpm, h2]
   rfl
  simp only [execOp, ho]
  rw [Sem.run_bind, hb]
  rfl
 ·have hloc : (G.boxed id w.heap.size).loc id = w.heap.size := by simp [Ghost.boxed]
  have hle : len ≤ maxLen := by unfold maxLen; have : len ≤ len * te.size := Nat.le_mul_of_pos_right _ hs0; omega
  exact .arr id 0 len len _ (.inr rfl) (Nat.le_refl _) hle fun _ => by rw [hloc]
theorem e_makeObj {t e : TypeId} {id n : Nat} {x y : Operand} {ti te : TI} {z : Value} (ho : o.op = .makeSlice t x y) (ht : TIs P t ti) (hk : ti.kind = .slice e) (hte : TIs P e te) (hz : te.zero = some z)
  (hzs : z.cells.size = te.size) (hz1 : ∀ y ∈ z.cells.toList, y.oneCell' = true) (hs0 : 0 < te.size) (hx : ev x = .v (.int .i64 n)) (hy : ev y = .v (.int .i64 n)) (h0 : 0 < n) (hn : n ≤ 16777216) (hby : te.bytes * n ≤ 140737488355328) :
  EOk P L ev raw o (.arr id 0 n n) ((id, .box (List.replicate n (zcells z)).flatten) :: L) fun i => i = id := fun G w ρ hh hn' => by
 have h1 := hh.ev x (by rw [ho]; simp [Op.operands])
 rw [hx] at h1
 have h2 := h1.v_inv
 have h2' := hh.ev y (by rw [ho]; simp [Op.operands])
 rw [hy] at h2'
 replace h2' := h2'.v_inv
 have hzr0 := zeros_rel G.X z n hz1 (by omega)
 have hzr : RcQ (Sim G) (List.replicate n (zcells z)).flatten ((Array.range (n * z.cells.size)).map (fun i => z.cells[i % z.cells.size]!)) := ⟨hzr0.1, fun i a ha => .data _ _ (hzr0.2 i a ha).1⟩
 rw [hzs] at hzr
 obtain ⟨k1, k2⟩ := with_new hh.holds fun h => new_box (id := id) (arr := (Array.range (n * te.size)).map (fun i => z.cells[i % te.size]!)) e h (hn' id rfl) ⟨Nat.le_of_eq hzr.1, hzr.2⟩
 refine ⟨.slice (some ⟨w.heap.size, 0, none⟩) n n, _, _, .inl ?_, ?_, k1, k2, fun i hi => hi⟩
 ·have hw : IntKind.i64.wrap (n : Int) = n := IntWalk.i64_in n (by omega)
  have hsz : ∀ w, (sizeOf e).run P w = .ok te.size w := fun w => by simp [sizeOf, typeInfo, hte.info, hte.size]
  have hzv : ∀ w, (zeroValue e).run P w = .ok z w := fun w => by simp [zeroValue, typeInfo, hte.info, hte.zero, hz]
  have hti : ∀ w, (typeInfo e).run P w = .ok hte.i w := fun w => by simp [typeInfo, hte.info]
  have hm : (Instr.makeSlice t (.int .i64 n) (.int .i64 n)).run P w = .ok (.slice (some ⟨w.heap.size, 0, none⟩) n n) (w.alloc (.cells ((Array.range (n * te.size)).map (fun i => z.cells[i % te.size]!)) e)) := by
   unfold Instr.makeSlice
   rw [Sem.run_bind, run_underlying (ht.slice hk)]
   simp only [Result.andThen]
   have hai : (asInt (.int .i64 n)).run P w = .ok (n : Int) w := rfl
   rw [Sem.run_bind, hai]
   simp only [Result.andThen]
   rw [Sem.run_bind, hai]
   simp only [Result.andThen]
   rw [Sem.run_bind, hti]
   simp only [Result.andThen, hw, hte.bytes]
   have hby' : (te.bytes : Int) * n ≤ 140737488355328 := by
    have h9 := Int.ofNat_le.2 hby
    rw [Int.natCast_mul] at h9
    exact h9
   have hc : (decide ((n : Int) < 0) || decide ((te.bytes : Int) * n > 2 ^ 48)) = false := by simp; omega
   have hc2 : ((decide ((n : Int) < 0) || decide ((te.bytes : Int) * n > 2 ^ 48)) || decide ((n : Int) < 0) || decide ((n : Int) > n)) = false := by rw [hc]; simp
   simp only [hc2]
   rw [if_neg (by simp)]
   have hroom : (askRoom ((n : Int).toNat * te.bytes)).run P w = .ok () w := by
    unfold askRoom
    have hle : (((n : Int).toNat * te.bytes : Nat) : Int) ≤ 140737488355328 := by
     rw [Int.toNat_natCast, Nat.mul_comm]; exact Int.ofNat_le.2 hby
    rw [if_neg (by unfold roomBytes; omega)]
    rfl
   rw [Sem.run_bind, hroom]
   simp only [Result.andThen]
   rw [Sem.run_bind, hsz]
   simp only [Result.andThen, Int.toNat_natCast]
   have hnz : ¬ n * te.size = 0 := fun h => by
    rcases Nat.mul_eq_zero.1 h with h | h <;> omega
   rw [if_neg hnz, Sem.run_bind, hzv]
   simp only [Result.andThen]
   rw [Sem.run_bind, Sem.run_pure]
   simp only [Result.andThen]
   rw [hzs]; rfl
  simp only [execOp, ho, h2, h2']
  rw [Sem.run_bind, hm]
  rfl
 ·have hloc : (G.boxed id w.heap.size).loc id = w.heap.size := by simp [Ghost.boxed]
  have hle : n ≤ maxLen := by unfold maxLen; omega
  exact .arr id 0 n n _ (.inr rfl) (Nat.le_refl _) hle fun _ => by rw [hloc]
end
end Go.Am
