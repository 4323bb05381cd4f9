/- Part 3 of what the laws RowsBytes rest on: AmS, AmU, AmV, AmW, AmSm, AmY, AmZ, AmT, AmTc, OcA, Wn, Va. -/
import Derived.Test.YtjepgbpcpcahgaaGreatP2
import Derived.Orders
import Derived.KernelRfl
import Derived.Laws.Externs
import Derived.Lib.BytesEntry
import Derived.Lib.Bytealg
set_option linter.unusedSimpArgs false
set_option linter.unusedVariables false
namespace Go.Am
open Go.RowKit
def edgesOf (o : Oper) : List Nat := o.after.toList.filterMap fun e => if Region.binds .any e then some e.on else none
def memB (i : Nat) : List Nat → Bool
 | [] => false
 | j :: l => Nat.beq i j || memB i l
theorem memB_iff {i : Nat} {l : List Nat} : memB i l = true ↔ i ∈ l := by
 induction l with
 | nil => simp [memB]
 | cons j l ih => simp only [memB, Bool.or_eq_true, ih, List.mem_cons]; exact or_congr_left ⟨Nat.eq_of_beq_eq_true, fun h => by subst h; exact Nat.beq_refl i⟩
def addN : List Nat → List Nat → List Nat
 | [], a => a
 | i :: l, a => match memB i a with
  | true => addN l a
  | false => addN l (i :: a)
theorem addN_mem {i : Nat} : ∀ (l a : List Nat), i ∈ addN l a → i ∈ l ∨ i ∈ a
 | [], a, h => .inr h
 | j :: l, a, h => by
  unfold addN at h
  split at h
  ·exact (addN_mem l a h).imp_left (List.mem_cons_of_mem _)
  ·rcases addN_mem l (j :: a) h with h | h
   ·exact .inl (List.mem_cons_of_mem _ h)
   ·rcases List.mem_cons.1 h with rfl | h
    ·exact .inl List.mem_cons_self
    ·exact .inr h
def presGo : List (List Nat) → List Oper → List (List Nat)
 | acc, [] => acc
 | acc, o :: r => presGo (acc ++ [addN (edgesOf o ++ (edgesOf o).flatMap fun i => acc.getD i []) []]) r
def pres (all : List Oper) : List (List Nat) := presGo [] all
def isAl (o : Oper) : Bool := match o.op with | .alloc _ => true | _ => false
def isE (o : Oper) : Bool := match opKind o with | .quiet => (match o.op with | .assign _ => true | _ => false) | .alloc => false | _ => true
def looks (all : List Oper) (o : Oper) : List Nat :=
 (o.op.operands.toList.filterMap fun | .tmp t => some t | _ => none) ++ (match o.guard with | some (g, _) => ((all[g]?).bind (·.dst)).toList | none => [])
def okD (all : List Oper) : Bool :=
 let pr := pres all
 ((List.range all.length).all fun j => match all[j]? with
  | some oj => (edgesOf oj).all (fun i => Nat.blt i j) && ((match oj.dst with | some d => !(memB d (looks all oj)) | none => isE oj) && (List.range all.length).all fun i => Nat.beq i j || match all[i]? with
   | some oi => match oi.dst with
    | some d => !(memB d oj.dst.toList) && (!(memB d (looks all oj)) || (memB i (pr.getD j []) || (isE oi && memB j (pr.getD i []))))
    | none => true
   | none => true)
  | none => true) &&
 all.all fun o => (!(isAl o) || (o.guard.isNone && o.dst.isSome)) && (match o.op with | .select _ _ => false | _ => true)
def allocObj (TT : Types) (s : List AV) (o : Oper) : Option (Nat × Res) :=
 match o.op, o.dst with
 | .alloc t, some d => match TT t, getA s d with
  | some ti, .ptr id 0 => match ti.zero with
   | some z => some (id, .box (zcells z))
   | none => none
  | _, _ => none
 | _, _ => none
def isNoneB {α : Type} : Option α → Bool | none => true | some _ => false
def availB (pr : List (List Nat)) (E S : List Nat) (j : Nat) : Bool := (pr.getD j []).all fun i => memB i E || memB i S
def isLd (o : Oper) : Bool := match o.op with | .load _ _ => true | _ => false
def Known (P : Program) (L : Heap) (s : List AV) (o : Oper) (av : AV) : Prop := match isLd o with | true => QOk P L (ev s) (raw s) o av | false => QOk P [] (ev s) (raw s) o av
def aqx (P : Program) (TT : Types) (L : Heap) (s : List AV) (o : Oper) (K : AV → Prop) : Prop := aq P TT L (ev s) (raw s) o K ∨ ∃ av, Known P L s o av ∧ K av
def evGo (P : Program) (TT : Types) (all : List Oper) (pr : List (List Nat)) (S : List Nat) (L : Heap) : List Nat → List Nat → List AV → Nat → (List Nat → List AV → Nat → Prop) → Prop
 | [], E, s, n, k => k E s n
 | j :: js, E, s, n, k => match all[j]? with
  | none => evGo P TT all pr S L js E s n k
  | some o => match isE o || (memB j E || !(availB pr E S j)) with
   | true => evGo P TT all pr S L js E s n k
   | false => match isAl o with
    | true => putD s o.dst (.ptr n 0) fun s' => match isNoneB (allocObj TT s' o) with | true => False | false => evGo P TT all pr S L js (j :: E) s' (n + 1) k
    | false => guarded all s o (aqx P TT L s o fun av => fv av fun av => putD s o.dst av fun s' => evGo P TT all pr S L js (j :: E) s' n k)
      (putD s o.dst (.v (.tuple #[])) fun s' => evGo P TT all pr S L js (j :: E) s' n k)
def satB (all : List Oper) (pr : List (List Nat)) (E S : List Nat) : Bool :=
 (List.range all.length).all fun j => match all[j]? with
  | some o => isE o || (memB j E || !(availB pr E S j))
  | none => true
def flush (TT : Types) (all : List Oper) (s : List AV) : List Nat → Heap → (Heap → Prop) → Prop
 | [], L, k => k L
 | j :: js, L, k => match all[j]? with
  | some o => opt1 (allocObj TT s o) fun r => flush TT all s js (r :: L) k
  | none => False
def allocsOf (all : List Oper) (FL : List Nat) (f : Nat → Bool) : List Nat :=
 (List.range all.length).filter fun j => match all[j]? with | some o => isAl o && (!(memB j FL) && f j) | none => false
def effsOf (all : List Oper) (S : List Nat) (f : Nat → Bool) : List Nat :=
 (List.range all.length).filter fun j => match all[j]? with | some o => isE o && (!(memB j S) && f j) | none => false
def rechk (TT : Types) (all : List Oper) (pe E : List Nat) (s : List AV) (L : Heap) : List Nat → Prop → Prop
 | [], k => k
 | j :: js, k => match all[j]? with
  | some o => match o.op, memB j E && !(memB j pe) with
   | .load t x, true => guarded all s o (opt1 o.dst fun d => opt1 (TT t) fun ti => aload L ti (ev s x) = some (getA s d)) True ∧ rechk TT all pe E s L js k
   | _, _ => rechk TT all pe E s L js k
  | none => rechk TT all pe E s L js k
def allK : List Nat → (Nat → Prop) → Prop
 | [], _ => False
 | [e], f => f e
 | e :: es, f => f e ∧ allK es f
theorem allK_mem {l : List Nat} {f : Nat → Prop} (h : allK l f) : ∀ e ∈ l, f e := by
 induction l with
 | nil => exact h.elim
 | cons a l ih =>
  cases l with
  | nil => intro e he; simp at he; subst he; exact h
  | cons b l =>
   intro e he
   rcases List.mem_cons.1 he with rfl | he
   ·exact h.1
   ·exact ih h.2 e he
def killA (all : List Oper) (s : List AV) : List AV := all.foldl (fun s o => putS s o.dst .dead) s
def dr (P : Program) (TT : Types) (all : List Oper) (pr : List (List Nat)) (K : Kn) (KP : AV → Kn) : Nat → List Nat → List Nat → List Nat → List AV → Heap → Nat → Prop
 | fuel, E, S, FL, s, L, n => evGo P TT all pr S L (List.range all.length) E s n fun E s n => match satB all pr E S with
  | false => False
  | true => match effsOf all S (fun _ => true) with
   | [] => flush TT all s (allocsOf all FL fun _ => true) L fun L' => forceH L' fun L'' => K s L'' n
   | _ :: _ => match fuel with
    | 0 => False
    | fuel + 1 => allK (effsOf all S (availB pr E S)) fun e => match all[e]? with
     | none => False
     | some o => flush TT all s (allocsOf all FL fun j => memB j (pr.getD e [])) L fun L1 =>
      guarded all s o (aop P TT o s L1 n (fun av L2 n2 => putD s o.dst av fun s2 => forceH L2 fun L3 => rechk TT all (pr.getD e []) E s2 L3 (List.range all.length)
        (dr P TT all pr K KP fuel E (e :: S) (allocsOf all FL (fun j => memB j (pr.getD e [])) ++ FL) s2 L3 n2)) (fun x L2 n2 => KP x (killA all s) L2 n2))
       (putD s o.dst (.v (.tuple #[])) fun s2 => dr P TT all pr K KP fuel E (e :: S) (allocsOf all FL (fun j => memB j (pr.getD e [])) ++ FL) s2 L1 n)
def draw (P : Program) (TT : Types) : Nat → List Oper → List AV → Heap → Nat → Kc → Prop := fun _ all s L n K =>
 match okD all with
 | true => dr P TT all (pres all) (K .normal) (fun x => K (.panic x)) all.length [] [] [] s L n
 | false => False
/-! what the closure of the edges says -/
section
variable {all : List Oper} {D : Nat → Prop}
theorem presGo_spec (hcl : ∀ j o, all[j]? = some o → D j → ∀ i ∈ edgesOf o, D i) : ∀ (r done : List Oper) (acc : List (List Nat)), done ++ r = all → acc.length = done.length →
  (∀ j o, all[j]? = some o → (∀ i ∈ edgesOf o, D i) → ∀ i ∈ acc.getD j [], D i) → ∀ j o, all[j]? = some o → (∀ i ∈ edgesOf o, D i) → ∀ i ∈ (presGo acc r).getD j [], D i
 | [], done, acc, _, _, h => h
 | o :: r, done, acc, hall, hlen, h => by
  unfold presGo
  refine presGo_spec hcl r (done ++ [o]) _ (by simpa using hall) (by simp [hlen]) fun j oj hj he i hi => ?_
  rcases Nat.lt_trichotomy j acc.length with hlt | heq | hgt
  ·rw [List.getD_eq_getElem?_getD, List.getElem?_append_left hlt, ← List.getD_eq_getElem?_getD] at hi
   exact h j oj hj he i hi
  ·subst heq
   rw [List.getD_eq_getElem?_getD, List.getElem?_append_right (Nat.le_refl _)] at hi
   simp only [Nat.sub_self, List.getElem?_cons_zero, Option.getD_some] at hi
   replace hi := (addN_mem _ _ hi).resolve_right (by simp)
   simp only [List.mem_append, List.mem_flatMap] at hi
   have hoj : oj = o := by
    rw [← hall, hlen, List.getElem?_append_right (Nat.le_refl _)] at hj
    simpa using hj.symm
   subst hoj
   rcases hi with hi | ⟨e, he1, he2⟩
   ·exact he i hi
   ·have hD := he e he1
    cases hg : all[e]? with
    | none =>
     have : acc.getD e [] = [] := by
      have h1 := List.getElem?_eq_none_iff.1 hg
      have h2 : done.length ≤ all.length := by rw [← hall]; simp
      rw [List.getD_eq_getElem?_getD, List.getElem?_eq_none (by omega)]; rfl
     rw [this] at he2; cases he2
    | some oe => exact h e oe hg (hcl e oe hg hD) i he2
  ·rw [List.getD_eq_getElem?_getD, List.getElem?_eq_none (by simp; omega)] at hi
   cases hi
theorem pres_spec (hcl : ∀ j o, all[j]? = some o → D j → ∀ i ∈ edgesOf o, D i) {j : Nat} {o : Oper} (hj : all[j]? = some o) (he : ∀ i ∈ edgesOf o, D i) : ∀ i ∈ (pres all).getD j [], D i :=
 presGo_spec hcl all [] [] rfl rfl (fun j o _ _ i hi => by cases hi) j o hj he
end
structure OkD (all : List Oper) : Prop where
 back : ∀ (j : Nat) (o : Oper), all[j]? = some o → ∀ i ∈ edgesOf o, i < j
 dst : ∀ (i j : Nat) (oi oj : Oper) (d : Nat), i ≠ j → all[i]? = some oi → all[j]? = some oj → oi.dst = some d → oj.dst ≠ some d
 own : ∀ (j : Nat) (o : Oper), all[j]? = some o → isE o = false → ∃ d, o.dst = some d ∧ d ∉ looks all o
 own2 : ∀ (j : Nat) (o : Oper) (d : Nat), all[j]? = some o → o.dst = some d → d ∉ looks all o
 looks : ∀ (i j : Nat) (oi oj : Oper) (d : Nat), i ≠ j → all[i]? = some oi → all[j]? = some oj → oi.dst = some d → d ∈ looks all oj → i ∈ (pres all).getD j [] ∨ (isE oi = true ∧ j ∈ (pres all).getD i [])
 alloc : ∀ (j : Nat) (o : Oper), all[j]? = some o → isAl o = true → o.guard = none ∧ ∃ d, o.dst = some d
 sel : ∀ (j : Nat) (o : Oper) (cs : Array SelectCase) (b : Bool), all[j]? = some o → o.op ≠ .select cs b
theorem okD_spec {all : List Oper} (h : okD all = true) : OkD all := by
 unfold okD at h
 simp only [Bool.and_eq_true, List.all_eq_true, List.mem_range] at h
 obtain ⟨h1, h2⟩ := h
 have hlt : ∀ {j : Nat} {o : Oper}, all[j]? = some o → j < all.length := fun hj => (List.getElem?_eq_some_iff.1 hj).1
 have hj1 : ∀ (j : Nat) (o : Oper), all[j]? = some o → (∀ i ∈ edgesOf o, i < j) ∧ ((isE o = false → ∃ d, o.dst = some d ∧ d ∉ Am.looks all o) ∧ ∀ d, o.dst = some d → d ∉ Am.looks all o) ∧ ∀ (i : Nat) (oi : Oper) (d : Nat), i ≠ j → all[i]? = some oi → oi.dst = some d → o.dst ≠ some d ∧ (d ∈ Am.looks all o → i ∈ (pres all).getD j [] ∨ (isE oi = true ∧ j ∈ (pres all).getD i [])) := fun j o hj => by
  have k := h1 j (hlt hj)
  rw [hj] at k
  simp only [Bool.and_eq_true, List.all_eq_true, List.mem_range] at k
  have hdl : ∀ d, o.dst = some d → d ∉ Am.looks all o := fun d hd hm => by
   have k1 := k.2.1
   rw [hd] at k1
   simp only [Bool.not_eq_true'] at k1
   rw [memB_iff.2 hm] at k1; cases k1
  refine ⟨fun i hi => Nat.le_of_ble_eq_true (k.1 i hi), ⟨fun he => ?_, hdl⟩, fun i oi d hne hoi hd => ?_⟩
  ·cases hd : o.dst with
   | none =>
    have k1 := k.2.1
    rw [hd] at k1
    simp only [he] at k1; cases k1
   | some d => exact ⟨d, rfl, hdl d hd⟩
  have k2 := k.2.2 i (hlt hoi)
  rw [hoi] at k2
  simp only [Bool.or_eq_true, hd, Bool.and_eq_true, Bool.not_eq_true'] at k2
  rcases k2 with k2 | ⟨k2, k3⟩
  ·exact absurd (Nat.eq_of_beq_eq_true k2) hne
  ·refine ⟨fun e => ?_, fun hm => ?_⟩
   ·rw [e] at k2
    have : memB d (some d).toList = true := memB_iff.2 (by simp)
    rw [this] at k2; cases k2
   ·rcases k3 with k3 | k3
    ·rw [memB_iff.2 hm] at k3; cases k3
    ·rcases k3 with k3 | ⟨k3, k4⟩
     ·exact .inl (memB_iff.1 k3)
     ·exact .inr ⟨k3, memB_iff.1 k4⟩
 have hall : ∀ (j : Nat) (o : Oper), all[j]? = some o → ((isAl o = false ∨ (o.guard.isNone = true ∧ o.dst.isSome = true)) ∧ ∀ (cs : Array SelectCase) (b : Bool), o.op ≠ .select cs b) := fun j o hj => by
  have k := h2 o (List.mem_of_getElem? hj)
  simp only [Bool.or_eq_true, Bool.not_eq_true', Bool.and_eq_true] at k
  refine ⟨k.1, fun cs b e => ?_⟩
  have k2 := k.2
  rw [e] at k2; cases k2
 refine ⟨fun j o hj => (hj1 j o hj).1, fun i j oi oj d hne hi hj hd => ((hj1 j oj hj).2.2 i oi d hne hi hd).1, fun j o hj => (hj1 j o hj).2.1.1, fun j o d hj => (hj1 j o hj).2.1.2 d, fun i j oi oj d hne hi hj hd => ((hj1 j oj hj).2.2 i oi d hne hi hd).2, fun j o hj ha => ?_, fun j o cs b hj => (hall j o hj).2 cs b⟩
 rcases (hall j o hj).1 with h | ⟨k1, k2⟩
 ·rw [ha] at h; cases h
 ·exact ⟨Option.isNone_iff_eq_none.1 k1, Option.isSome_iff_exists.1 k2⟩
end Go.Am
namespace Go.Am
open Go.RowKit
theorem aq_indep {P : Program} {TT : Types} {L L' : Heap} {ev raw : Operand → AV} {o : Oper} {K : AV → Prop} (h : isLd o = false) (hq : aq P TT L ev raw o K) : aq P TT L' ev raw o K := by
 unfold aq at hq ⊢
 unfold isLd at h
 split at h
 ·cases h
 ·cases ho : o.op <;> rw [ho] at hq <;> first | exact hq | skip
  rename_i hno _ _
  exact absurd ho (hno _ _)
theorem QOk.any {P : Program} {L : Heap} {ev raw : Operand → AV} {o : Oper} {av : AV} (h : QOk P [] ev raw o av) : QOk P L ev raw o av := fun G w ρ hh =>
 h G w ρ ⟨hh.ev, hh.raw, Holds.left (H := []) (R := L) hh.holds, hh.base⟩
theorem QOk.congr {P : Program} {L : Heap} {ev raw ev' raw' : Operand → AV} {o : Oper} {av : AV} (h : QOk P L ev raw o av) (he : ∀ x ∈ o.op.operands, ev' x = ev x) (hr : ∀ x ∈ o.op.operands, raw' x = raw x) : QOk P L ev' raw' o av := fun G w ρ hh =>
 h G w ρ ⟨fun x hx => by rw [← he x hx]; exact hh.ev x hx, fun x hx => by rw [← hr x hx]; exact hh.raw x hx, hh.holds, hh.base⟩
theorem Known.ok {P : Program} {L : Heap} {s : List AV} {o : Oper} {av : AV} (h : Known P L s o av) : QOk P L (ev s) (raw s) o av := by
 unfold Known at h; split at h
 ·exact h
 ·exact h.any
theorem known_of {P : Program} {TT : Types} (hT : TOk P TT) {L : Heap} {s : List AV} {o : Oper} {K : AV → Prop} (h : aq P TT L (ev s) (raw s) o K) : ∃ av, K av ∧ Known P L s o av := by
 unfold Known
 cases hl : isLd o
 ·exact aq_ok hT (aq_indep (L' := []) hl h)
 ·exact aq_ok hT h
theorem known_ofx {P : Program} {TT : Types} (hT : TOk P TT) {L : Heap} {s : List AV} {o : Oper} {K : AV → Prop} (h : aqx P TT L s o K) : ∃ av, K av ∧ Known P L s o av := by
 rcases h with h | ⟨av, h1, h2⟩
 ·exact known_of hT h
 ·exact ⟨av, h2, h1⟩
theorem guarded_cases {all : List Oper} {s : List AV} {o : Oper} {Y N : Prop} (h : guarded all s o Y N) : (Y ∧ ∀ Y' N' : Prop, Y' → guarded all s o Y' N') ∨ (N ∧ ∀ Y' N' : Prop, N' → guarded all s o Y' N') := by
 unfold guarded at h ⊢
 cases hg : o.guard with
 | none => simp only [hg] at h ⊢; exact .inl ⟨h, fun _ _ h => h⟩
 | some p =>
  obtain ⟨j, want⟩ := p
  simp only [hg] at h ⊢
  cases hd : (all[j]?).bind (·.dst) with
  | none => simp only [hd] at h
  | some d =>
   simp only [hd] at h ⊢
   generalize getA s d = x at h ⊢
   cases x with
   | v y =>
    cases y with
    | bool b =>
     cases want <;> cases b <;> simp only [abr] at h ⊢
     ·exact .inl ⟨h, fun _ _ h => h⟩
     ·exact .inr ⟨h, fun _ _ h => h⟩
     ·exact .inr ⟨h, fun _ _ h => h⟩
     ·exact .inl ⟨h, fun _ _ h => h⟩
    | tuple vs => exact .inr ⟨h, fun _ _ h => h⟩
    | _ => exact h.elim
   | _ => exact h.elim
theorem guarded_congr {all : List Oper} {s s' : List AV} {o : Oper} {Y N : Prop} (hs : ∀ t ∈ looks all o, getA s' t = getA s t) (h : guarded all s o Y N) : guarded all s' o Y N := by
 unfold guarded at h ⊢
 split at h
 ·rename_i h0; exact h
 ·rename_i j want h0
  split at h
  ·rename_i d hd
   have : getA s' d = getA s d := hs d (by unfold looks; rw [h0]; simp [hd])
   rw [this]; exact h
  ·exact h
theorem guarded_mono {all : List Oper} {s : List AV} {o : Oper} {Y N Y' N' : Prop} (h : guarded all s o Y N) (hy : Y → Y') (hn : N → N') : guarded all s o Y' N' := by
 rcases guarded_cases h with ⟨h1, h2⟩ | ⟨h1, h2⟩
 ·exact h2 _ _ (hy h1)
 ·exact h2 _ _ (hn h1)
theorem guarded_and {all : List Oper} {s : List AV} {o : Oper} {Y N Y' N' : Prop} (h : guarded all s o Y N) (k : guarded all s o Y' N') : guarded all s o (Y ∧ Y') (N ∧ N') := by
 unfold guarded at h k ⊢
 cases hg : o.guard with
 | none => simp only [hg] at h k ⊢; exact ⟨h, k⟩
 | some p =>
  obtain ⟨j, want⟩ := p
  simp only [hg] at h k ⊢
  cases hd : (all[j]?).bind (·.dst) with
  | none => simp only [hd] at h
  | some d =>
   simp only [hd] at h k ⊢
   generalize getA s d = x at h k ⊢
   cases x with
   | v y =>
    cases y with
    | bool b => cases want <;> cases b <;> simp only [abr] at h k ⊢ <;> exact ⟨h, k⟩
    | tuple vs => exact ⟨h, k⟩
    | _ => exact h.elim
   | _ => exact h.elim
theorem Known.indep {P : Program} {L L' : Heap} {s : List AV} {o : Oper} {av : AV} (hl : isLd o = false) (h : Known P L s o av) : Known P L' s o av := by
 unfold Known at h ⊢; rw [hl] at h ⊢; exact h
theorem Known.sub {P : Program} {L L1 X : Heap} {s : List AV} {o : Oper} {av : AV} (hp : L1.Perm (L ++ X)) (h : Known P L s o av) : Known P L1 s o av := by
 unfold Known at h ⊢
 split at h
 ·exact fun G w ρ hh => h G w ρ ⟨hh.ev, hh.raw, (hh.holds.perm hp).left, hh.base⟩
 ·exact h
theorem ops_looks {all : List Oper} {o : Oper} {t : Nat} (h : .tmp t ∈ o.op.operands) : t ∈ looks all o := by
 unfold looks
 refine List.mem_append_left _ (List.mem_filterMap.2 ⟨.tmp t, by simpa using h, rfl⟩)
theorem ev_congr {s s' : List AV} {x : Operand} (h : ∀ t, x = .tmp t → getA s' t = getA s t) : ev s' x = ev s x ∧ raw s' x = raw s x := by
 cases x with
 | tmp t => simp only [ev, raw]; rw [h t rfl]; exact ⟨rfl, rfl⟩
 | const v => exact ⟨rfl, rfl⟩
 | func f => exact ⟨rfl, rfl⟩
 | global g => exact ⟨rfl, rfl⟩
theorem Known.congr {P : Program} {L : Heap} {s s' : List AV} {all : List Oper} {o : Oper} {av : AV} (h : Known P L s o av) (hs : ∀ t ∈ looks all o, getA s' t = getA s t) : Known P L s' o av := by
 have he : ∀ x ∈ o.op.operands, ev s' x = ev s x ∧ raw s' x = raw s x := fun x hx => ev_congr fun t ht => hs t (ops_looks (ht ▸ hx))
 unfold Known at h ⊢
 split at h
 ·exact h.congr (fun x hx => (he x hx).1) fun x hx => (he x hx).2
 ·exact h.congr (fun x hx => (he x hx).1) fun x hx => (he x hx).2
theorem allocObj_congr {TT : Types} {s s' : List AV} {o : Oper} (h : ∀ d, o.dst = some d → getA s' d = getA s d) : allocObj TT s' o = allocObj TT s o := by
 unfold allocObj
 cases hd : o.dst with
 | none => cases o.op <;> rfl
 | some d =>
  have e := h d hd
  cases o.op <;> simp only [e]
theorem isNoneB_false {α : Type} {x : Option α} (h : isNoneB x = false) : ∃ r, x = some r := by cases x <;> simp [isNoneB] at h; exact ⟨_, rfl⟩
def Lst (listed : Array Bool) (j : Nat) : Prop := listed.getD j false = true
def Undone (all : List Oper) (listed : Array Bool) : Nat → Prop := fun t => ∃ (j : Nat) (o : Oper), all[j]? = some o ∧ ¬ Lst listed j ∧ o.dst = some t ∧ isE o = false
def objAt (TT : Types) (all : List Oper) (s : List AV) (j : Nat) : Option (Nat × Res) := match all[j]? with | some o => allocObj TT s o | none => none
def pendL (TT : Types) (all : List Oper) (s : List AV) (FL : List Nat) (f : Nat → Bool) : Heap := (allocsOf all FL f).filterMap (objAt TT all s)
structure DI (P : Program) (TT : Types) (B : Base) (all : List Oper) (listed : Array Bool) (E S FL : List Nat) (s : List AV) (L : Heap) (n : Nat) (G : Ghost) (a : Act) (w : World) : Prop where
 size : listed.size = all.length
 closed : ∀ (j : Nat) (o : Oper), all[j]? = some o → Lst listed j → ∀ i ∈ edgesOf o, Lst listed i
 eff : ∀ (j : Nat) (o : Oper), all[j]? = some o → isE o = true → (Lst listed j ↔ j ∈ S)
 Sin : ∀ j ∈ S, ∃ o, all[j]? = some o ∧ isE o = true
 Eav : ∀ j ∈ E, ∃ o, all[j]? = some o ∧ isE o = false ∧ availB (pres all) E S j = true
 Ein : ∀ (j : Nat) (o : Oper), all[j]? = some o → isE o = false → Lst listed j → j ∈ E
 rel : Rel B (Undone all listed) G ⟨s, L ++ pendL TT all s FL (fun j => listed.getD j false), n⟩ a w
 quiet : ∀ j ∈ E, ∀ o, all[j]? = some o → isAl o = false → ¬ Lst listed j → guarded all s o (∃ av, Known P L s o av ∧ ∀ d, o.dst = some d → d < s.length → getA s d = av) (∀ d, o.dst = some d → d < s.length → getA s d = .v (.tuple #[]))
 alloc : ∀ j ∈ E, ∀ o, all[j]? = some o → isAl o = true → ∃ r, allocObj TT s o = some r ∧ r.1 < n ∧ B.k ≤ r.1 ∧ (¬ Lst listed j → ¬ G.live r.1)
 inj : ∀ i ∈ E, ∀ j ∈ E, i ≠ j → ∀ oi oj ri rj, all[i]? = some oi → all[j]? = some oj → isAl oi = true → isAl oj = true → allocObj TT s oi = some ri → allocObj TT s oj = some rj → ri.1 ≠ rj.1
section
variable {P : Program} {TT : Types} {B : Base} {all : List Oper} {listed : Array Bool} {E S FL : List Nat} {s : List AV} {L : Heap} {n : Nat} {G : Ghost} {a : Act} {w : World}
theorem alloc_noE {o : Oper} (h : isAl o = true) : isE o = false := by
 unfold isAl at h; unfold isE opKind
 split at h
 ·rename_i t ho; rw [ho]
 ·cases h
theorem not_looked (hk : OkD all) {i j : Nat} {oi oj : Oper} {d : Nat} (hi : all[i]? = some oi) (hj : all[j]? = some oj) (hd : oi.dst = some d) (hne : i ≠ j) (hp : i ∉ (pres all).getD j []) (hq : isE oi = true → j ∉ (pres all).getD i []) : d ∉ looks all oj :=
 fun hm => (hk.looks i j oi oj d hne hi hj hd hm).elim hp fun h => hq h.1 h.2
theorem DI.pre (h : DI P TT B all listed E S FL s L n G a w) {j : Nat} (hj : j ∈ E) : ∀ i ∈ (pres all).getD j [], i ∈ E ∨ i ∈ S := fun i hi => by
 obtain ⟨o, _, _, h3⟩ := h.Eav j hj
 unfold availB at h3
 have := List.all_eq_true.1 h3 i hi
 rw [Bool.or_eq_true, memB_iff, memB_iff] at this
 exact this
theorem availB_mono {pr : List (List Nat)} {E E' S S' : List Nat} {j : Nat} (h : availB pr E S j = true) (he : ∀ i ∈ E, i ∈ E') (hs : ∀ i ∈ S, i ∈ S') : availB pr E' S' j = true := by
 unfold availB at h ⊢
 refine List.all_eq_true.2 fun i hi => ?_
 have := List.all_eq_true.1 h i hi
 rw [Bool.or_eq_true, memB_iff, memB_iff] at this ⊢
 exact this.imp (he i) (hs i)
theorem pendL_congr {s s' : List AV} {f : Nat → Bool} (h : ∀ (j : Nat) (o : Oper), all[j]? = some o → isAl o = true → f j = true → allocObj TT s' o = allocObj TT s o) : pendL TT all s' FL f = pendL TT all s FL f := by
 unfold pendL allocsOf
 refine filterMap_same fun j hj => ?_
 have h1 := (List.mem_filter.1 hj).2
 unfold objAt
 cases ho : all[j]? with
 | none => rfl
 | some o =>
  rw [ho] at h1
  simp only [Bool.and_eq_true] at h1
  exact h j o ho h1.1 h1.2.2
theorem DI.more (hk : OkD all) (h : DI P TT B all listed E S FL s L n G a w) {j d : Nat} {o : Oper} (hj : all[j]? = some o) (he : isE o = false) (hjE : j ∉ E) (hav : availB (pres all) E S j = true) (hd : o.dst = some d) {x : AV} {n' : Nat} (hn : n ≤ n')
  (hq : isAl o = false → guarded all (setA s d x) o (∃ av, Known P L (setA s d x) o av ∧ ∀ e, o.dst = some e → e < (setA s d x).length → getA (setA s d x) e = av) (∀ e, o.dst = some e → e < (setA s d x).length → getA (setA s d x) e = .v (.tuple #[])))
  (ha : isAl o = true → ∃ r, allocObj TT (setA s d x) o = some r ∧ r.1 = n ∧ r.1 < n') : DI P TT B all listed (j :: E) S FL (setA s d x) L n' G a w := by
 have hnl : ¬ Lst listed j := fun hl => hjE (h.Ein j o hj he hl)
 have hne : ∀ t, t ≠ d → getA (setA s d x) t = getA s t := fun t ht => by rw [getA_setA, if_neg (by rintro ⟨rfl, _⟩; exact ht rfl)]
 have hlen : (setA s d x).length = s.length := by rw [setA_eq]; simp
 have hold : ∀ i ∈ E, ∀ oi, all[i]? = some oi → (∀ t ∈ looks all oi, getA (setA s d x) t = getA s t) ∧ ∀ e, oi.dst = some e → getA (setA s d x) e = getA s e := fun i hi oi hoi => by
  have hij : j ≠ i := fun e => hjE (e ▸ hi)
  refine ⟨fun t ht => hne t fun e => ?_, fun e hde => hne e fun ee => ?_⟩
  ·subst e
   refine not_looked hk hj hoi hd hij (fun hm => ?_) (fun h1 => by rw [he] at h1; cases h1) ht
   rcases h.pre hi j hm with h1 | h1
   ·exact hjE h1
   ·obtain ⟨o', h2, h3⟩ := h.Sin j h1
    rw [hj] at h2; cases h2; rw [he] at h3; cases h3
  ·subst ee
   exact hk.dst j i o oi e hij hj hoi hd hde
 have hpend : pendL TT all (setA s d x) FL (fun j => listed.getD j false) = pendL TT all s FL (fun j => listed.getD j false) := pendL_congr fun i oi hoi hal hl => by
  have hiE := h.Ein i oi hoi (alloc_noE hal) hl
  exact allocObj_congr fun e hde => (hold i hiE oi hoi).2 e hde
 refine ⟨h.size, h.closed, h.eff, h.Sin, fun i hi => ?_, fun i oi hoi hie hl => List.mem_cons_of_mem _ (h.Ein i oi hoi hie hl), ?_, fun i hi oi hoi hal hl => ?_, fun i hi oi hoi hal => ?_, ?_⟩
 ·rcases List.mem_cons.1 hi with rfl | hi
  ·exact ⟨o, hj, he, availB_mono hav (fun _ h => List.mem_cons_of_mem _ h) fun _ h => h⟩
  ·obtain ⟨oi, h1, h2, h3⟩ := h.Eav i hi
   exact ⟨oi, h1, h2, availB_mono h3 (fun _ h => List.mem_cons_of_mem _ h) fun _ h => h⟩
 ·rw [hpend]
  refine ⟨by rw [h.rel.size]; exact hlen.symm, fun t ht => ?_, h.rel.defers, h.rel.holds, h.rel.step, fun id hid => Nat.lt_of_lt_of_le (h.rel.next id hid) hn, h.rel.base, Nat.le_trans h.rel.low hn, h.rel.old⟩
  show Slot G (getA (setA s d x) t) _
  rw [hne t fun e => ht ⟨j, o, hj, hnl, e ▸ hd, he⟩]
  exact h.rel.slots t ht
 ·rcases List.mem_cons.1 hi with rfl | hi
  ·rw [hj] at hoi; cases hoi; exact hq hal
  ·obtain ⟨h1, h2⟩ := hold i hi oi hoi
   refine guarded_congr h1 (guarded_mono (h.quiet i hi oi hoi hal hl) (fun ⟨av, k1, k2⟩ => ⟨av, k1.congr h1, fun e hde hlt => ?_⟩) fun k e hde hlt => ?_)
   ·rw [h2 e hde]; exact k2 e hde (by rw [← hlen]; exact hlt)
   ·rw [h2 e hde]; exact k e hde (by rw [← hlen]; exact hlt)
 ·rcases List.mem_cons.1 hi with rfl | hi
  ·rw [hj] at hoi; cases hoi
   obtain ⟨r, k1, k2, k3⟩ := ha hal
   exact ⟨r, k1, k3, by rw [k2]; exact h.rel.low, fun _ hl => by have := h.rel.next _ hl; simp only at this; omega⟩
  ·obtain ⟨r, k1, k2, k3⟩ := h.alloc i hi oi hoi hal
   exact ⟨r, by rw [allocObj_congr (hold i hi oi hoi).2]; exact k1, Nat.lt_of_lt_of_le k2 hn, k3⟩
 ·intro i hm i' hm' hii oi oj ri rj hoi hoj hai haj hri hrj
  rcases List.mem_cons.1 hm with rfl | hi <;> rcases List.mem_cons.1 hm' with rfl | hi'
  ·exact absurd rfl hii
  ·rw [hj] at hoi; cases hoi
   obtain ⟨r, k1, k2, k3⟩ := ha hai
   rw [k1] at hri; cases hri
   rw [allocObj_congr (hold i' hi' oj hoj).2] at hrj
   obtain ⟨r', m1, m2, _⟩ := h.alloc i' hi' oj hoj haj
   rw [m1] at hrj; cases hrj
   omega
  ·rw [hj] at hoj; cases hoj
   obtain ⟨r, k1, k2, k3⟩ := ha haj
   rw [k1] at hrj; cases hrj
   rw [allocObj_congr (hold i hi oi hoi).2] at hri
   obtain ⟨r', m1, m2, _⟩ := h.alloc i hi oi hoi hai
   rw [m1] at hri; cases hri
   omega
  ·rw [allocObj_congr (hold i hi oi hoi).2] at hri
   rw [allocObj_congr (hold i' hi' oj hoj).2] at hrj
   exact h.inj i hi i' hi' hii oi oj ri rj hoi hoj hai haj hri hrj
theorem evGo_sound (hT : TOk P TT) (hk : OkD all) {k : List Nat → List AV → Nat → Prop} {X : Prop} : ∀ (js E : List Nat) (s : List AV) (n : Nat), evGo P TT all (pres all) S L js E s n k → DI P TT B all listed E S FL s L n G a w →
  (∀ E' s' n', k E' s' n' → DI P TT B all listed E' S FL s' L n' G a w → X) → X
 | [], E, s, n, h, hi, hX => hX E s n h hi
 | j :: js, E, s, n, h, hi, hX => by
  unfold evGo at h
  split at h
  ·exact evGo_sound hT hk js E s n h hi hX
  ·rename_i o hj
   split at h
   ·exact evGo_sound hT hk js E s n h hi hX
   ·rename_i hc
    simp only [Bool.or_eq_false_iff, Bool.not_eq_false'] at hc
    obtain ⟨c1, c2, c3⟩ := hc
    have hjE : j ∉ E := fun hm => by rw [memB_iff.2 hm] at c2; cases c2
    obtain ⟨d, hd, hown⟩ := hk.own j o hj c1
    have hne : ∀ x, ∀ t ∈ looks all o, getA (setA s d x) t = getA s t := fun x t ht => by rw [getA_setA, if_neg (by rintro ⟨rfl, _⟩; exact hown ht)]
    split at h
    ·rename_i hal
     rw [putD_eq, hd] at h
     simp only [putS] at h
     split at h
     ·exact h.elim
     ·rename_i hob
      obtain ⟨r, hr⟩ := isNoneB_false hob
      have hr1 : r.1 = n := by
       unfold allocObj at hr
       rw [hd] at hr
       split at hr
       ·rename_i t d' ho hdd
        cases hdd
        split at hr
        ·rename_i ti id hti hg
         rw [getA_setA] at hg
         split at hr
         ·cases hr
          split at hg
          ·cases hg; rfl
          ·rename_i hlt
           have : getA s d = .dead := by rw [getA_eq, List.getD, List.getElem?_eq_none (by simpa using hlt)]; rfl
           rw [this] at hg; cases hg
         ·cases hr
        ·cases hr
       ·cases hr
      exact evGo_sound hT hk js _ _ _ h (hi.more hk hj c1 hjE c3 hd (Nat.le_succ n) (fun hna => by rw [hal] at hna; cases hna) fun _ => ⟨r, hr, hr1, by omega⟩) hX
    ·rename_i hal
     rcases guarded_cases h with ⟨h1, h2⟩ | ⟨h1, h2⟩
     ·obtain ⟨av, k1, k2⟩ := known_ofx hT h1
      rw [fv_eq, putD_eq, hd] at k1
      refine evGo_sound hT hk js _ _ _ k1 (hi.more hk hj c1 hjE c3 hd (Nat.le_refl n) (fun _ => guarded_congr (hne av) (h2 _ _ ⟨av, k2.congr (hne av), fun e hde hlt => ?_⟩)) fun hna => by rw [hal] at hna; cases hna) hX
      rw [hd] at hde; cases hde
      have hlt' : d < s.length := by rw [setA_eq] at hlt; simpa using hlt
      rw [getA_setA, if_pos ⟨rfl, hlt'⟩]
     ·rw [putD_eq, hd] at h1
      refine evGo_sound hT hk js _ _ _ h1 (hi.more hk hj c1 hjE c3 hd (Nat.le_refl n) (fun _ => guarded_congr (hne _) (h2 _ _ fun e hde hlt => ?_)) fun hna => by rw [hal] at hna; cases hna) hX
      rw [hd] at hde; cases hde
      have hlt' : d < s.length := by rw [setA_eq] at hlt; simpa using hlt
      rw [getA_setA, if_pos ⟨rfl, hlt'⟩]
end
end Go.Am
namespace Go.Am
open Go.RowKit
theorem part_perm {α : Type} (p q : α → Bool) : ∀ l : List α, (l.filter p).Perm (l.filter (fun x => p x && q x) ++ l.filter (fun x => p x && !(q x)))
 | [] => .refl _
 | x :: l => by
  have ih := part_perm p q l
  cases hp : p x <;> cases hq : q x <;> simp only [List.filter_cons, hp, hq, Bool.true_and, Bool.false_and, Bool.not_true, Bool.not_false, if_true, Bool.false_eq_true, if_false]
  ·exact ih
  ·exact ih
  ·exact (ih.cons x).trans List.perm_middle.symm
  ·exact ih.cons x
theorem one_perm {p : Nat → Bool} {j : Nat} : ∀ {l : List Nat}, l.Nodup → j ∈ l → p j = false → (l.filter (fun x => p x || x == j)).Perm (j :: l.filter p)
 | [], _, h, _ => by cases h
 | x :: l, hn, hm, hp => by
  obtain ⟨n1, n2⟩ := List.nodup_cons.1 hn
  by_cases hx : x = j
  ·subst hx
   simp only [List.filter_cons, hp, beq_self_eq_true, Bool.or_true, if_true, Bool.false_eq_true, if_false]
   have : l.filter (fun y => p y || y == x) = l.filter p := List.filter_congr fun y hy => by
    have : (y == x) = false := by simp; rintro rfl; exact n1 hy
    rw [this, Bool.or_false]
   rw [this]
  ·have hm' : j ∈ l := (List.mem_cons.1 hm).resolve_left (Ne.symm hx)
   have ih := one_perm n2 hm' hp
   have hxj : (x == j) = false := by simpa using hx
   cases hpx : p x <;> simp only [List.filter_cons, hpx, hxj, Bool.or_false, if_true, Bool.false_eq_true, if_false]
   ·exact ih
   ·exact (ih.cons x).trans (.swap _ _ _)
theorem flush_spec {TT : Types} {all : List Oper} {s : List AV} {k : Heap → Prop} : ∀ (js : List Nat) (L : Heap), flush TT all s js L k → ∃ L', L'.Perm (js.filterMap (objAt TT all s) ++ L) ∧ k L'
 | [], L, h => ⟨L, .refl _, h⟩
 | j :: js, L, h => by
  unfold flush at h
  split at h
  ·rename_i o hj
   obtain ⟨r, hr, h1⟩ := opt1_some h
   obtain ⟨L', h2, h3⟩ := flush_spec js _ h1
   refine ⟨L', ?_, h3⟩
   have : objAt TT all s j = some r := by unfold objAt; rw [hj]; exact hr
   rw [List.filterMap_cons, this]
   exact h2.trans List.perm_middle
  ·exact h.elim
theorem lst_set {listed : Array Bool} {i j : Nat} (hi : i < listed.size) : Lst (listed.setIfInBounds i true) j ↔ (Lst listed j ∨ j = i) := by
 unfold Lst
 by_cases h : i = j
 ·subst h
  simp [hi]
 ·simp only [Array.getD_eq_getD_getElem?, Array.getElem?_setIfInBounds, if_neg h]
  constructor
  ·exact .inl
  ·rintro (h1 | h1)
   ·exact h1
   ·exact absurd h1.symm h
theorem lst_set_b {listed : Array Bool} {i j : Nat} (hi : i < listed.size) : (listed.setIfInBounds i true).getD j false = (listed.getD j false || j == i) := by
 have := lst_set (j := j) hi
 unfold Lst at this
 cases h1 : (listed.setIfInBounds i true).getD j false <;> cases h2 : listed.getD j false <;> cases h3 : (j == i) <;> simp_all
section
variable {P : Program} {TT : Types} {B : Base} {all : List Oper} {listed : Array Bool} {E S FL : List Nat} {s : List AV} {L : Heap} {n : Nat} {G : Ghost} {a : Act} {w : World}
theorem Rel.fill {U : Nat → Prop} {σ : ASt} (h : Rel B U G σ a w) {d : Nat} {v : Value} (hx : d < σ.slots.length → Slot G (getA σ.slots d) v) : Rel B (fun t => U t ∧ d ≠ t) G σ (a.put (some d) v) w := by
 refine ⟨by simp [Act.put, h.size], fun t ht => ?_, h.defers, h.holds, h.step, h.next, h.base, h.low, h.old⟩
 simp only [Act.put]
 by_cases hd : d = t
 ·subst hd
  by_cases hl : d < σ.slots.length
  ·have hl' : d < a.tmps.size := by rw [h.size]; exact hl
   simp only [Array.getD_eq_getD_getElem?, Array.getElem?_setIfInBounds, if_pos hl', if_true, Option.getD_some]
   exact hx hl
  ·have : getA σ.slots d = .dead := by rw [getA_eq, List.getD, List.getElem?_eq_none (Nat.not_lt.1 hl)]; rfl
   rw [this]
   exact .of (.data _ _ (.dead _))
 ·have : (a.tmps.setIfInBounds d v).getD t undef = a.tmps.getD t undef := by
   simp only [Array.getD_eq_getD_getElem?, Array.getElem?_setIfInBounds, if_neg hd]
  rw [this]
  exact h.slots t fun hu => ht ⟨hu, hd⟩
theorem range_mem {j : Nat} {o : Oper} (h : all[j]? = some o) : j ∈ List.range all.length := List.mem_range.2 (List.getElem?_eq_some_iff.1 h).1
theorem pend_part {lf f : Nat → Bool} (h : ∀ j, f j = true → lf j = true) : (pendL TT all s FL lf).Perm ((allocsOf all FL f).filterMap (objAt TT all s) ++ pendL TT all s (allocsOf all FL f ++ FL) lf) := by
 unfold pendL
 rw [← List.filterMap_append]
 refine List.Perm.filterMap _ ?_
 have h1 := part_perm (fun j => match all[j]? with | some o => isAl o && (!(memB j FL) && lf j) | none => false) f (List.range all.length)
 have e1 : (List.range all.length).filter (fun x => (match all[x]? with | some o => isAl o && (!(memB x FL) && lf x) | none => false) && f x) = allocsOf all FL f := by
  unfold allocsOf
  refine List.filter_congr fun x _ => ?_
  cases all[x]? with
  | none => rfl
  | some o =>
   simp only
   cases hf : f x
   ·simp
   ·rw [h x hf]; simp
 have e2 : (List.range all.length).filter (fun x => (match all[x]? with | some o => isAl o && (!(memB x FL) && lf x) | none => false) && !(f x)) = allocsOf all (allocsOf all FL f ++ FL) lf := by
  show _ = (List.range all.length).filter _
  refine List.filter_congr fun x hx => ?_
  cases ho : all[x]? with
  | none => rfl
  | some o =>
   simp only
   have hm : memB x (allocsOf all FL f ++ FL) = ((isAl o && (!(memB x FL) && f x)) || memB x FL) := by
    rw [Bool.eq_iff_iff, memB_iff, List.mem_append, Bool.or_eq_true, memB_iff]
    refine or_congr_left ?_
    unfold allocsOf
    rw [List.mem_filter, ho]
    simp only [hx, true_and]
   rw [hm]
   cases isAl o <;> cases memB x FL <;> cases f x <;> cases lf x <;> rfl
 rw [e1, e2] at h1
 exact h1
theorem pend_same {i : Nat} {o : Oper} (hi : all[i]? = some o) (hal : isAl o = false) (hsz : i < listed.size) : pendL TT all s FL (fun j => (listed.setIfInBounds i true).getD j false) = pendL TT all s FL (fun j => listed.getD j false) := by
 unfold pendL allocsOf
 congr 1
 refine List.filter_congr fun x _ => ?_
 cases ho : all[x]? with
 | none => rfl
 | some o' =>
  simp only
  by_cases hx : x = i
  ·subst hx; rw [hi] at ho; cases ho; rw [hal]; simp
  ·rw [lst_set_b hsz]
   have : (x == i) = false := by simpa using hx
   rw [this, Bool.or_false]
theorem pend_more {i : Nat} {o : Oper} {r : Nat × Res} (hi : all[i]? = some o) (hal : isAl o = true) (hsz : i < listed.size) (hnl : ¬ Lst listed i) (hFL : i ∉ FL) (hr : allocObj TT s o = some r) :
  (pendL TT all s FL (fun j => (listed.setIfInBounds i true).getD j false)).Perm (r :: pendL TT all s FL (fun j => listed.getD j false)) := by
 unfold pendL
 have hob : objAt TT all s i = some r := by unfold objAt; rw [hi]; exact hr
 have e : r :: (allocsOf all FL (fun j => listed.getD j false)).filterMap (objAt TT all s) = (i :: allocsOf all FL (fun j => listed.getD j false)).filterMap (objAt TT all s) := by rw [List.filterMap_cons, hob]
 rw [e]
 refine List.Perm.filterMap _ ?_
 have hF : memB i FL = false := by
  cases h : memB i FL
  ·rfl
  ·exact absurd (memB_iff.1 h) hFL
 have hL : listed.getD i false = false := by
  cases h : listed.getD i false
  ·rfl
  ·exact absurd h hnl
 have h1 := one_perm (p := fun j => match all[j]? with | some o => isAl o && (!(memB j FL) && listed.getD j false) | none => false) (j := i) (List.nodup_range (n := all.length)) (range_mem hi) (by simp only [hi, hL]; simp)
 unfold allocsOf
 refine .trans (.of_eq ?_) h1
 refine List.filter_congr fun x _ => ?_
 have hb := lst_set_b (j := x) hsz
 by_cases hx : x = i
 ·subst hx; simp only [hi, hal, hF, hb]; simp
 ·have : (x == i) = false := by simpa using hx
  rw [this, Bool.or_false] at hb
  simp only [hb, this, Bool.or_false]
  try (cases all[x]? <;> rfl)
theorem killA_get : ∀ (l : List Oper) (s : List AV) (t : Nat), getA (l.foldl (fun s o => putS s o.dst .dead) s) t = .dead ∨ (getA (l.foldl (fun s o => putS s o.dst .dead) s) t = getA s t ∧ ∀ o ∈ l, o.dst ≠ some t)
 | [], s, t => .inr ⟨rfl, fun o h => by cases h⟩
 | o :: l, s, t => by
  simp only [List.foldl_cons]
  rcases killA_get l (putS s o.dst .dead) t with h | ⟨h1, h2⟩
  ·exact .inl h
  ·cases hd : o.dst with
   | none =>
    rw [hd] at h1
    exact .inr ⟨h1, List.forall_mem_cons.2 ⟨by rw [hd]; simp, h2⟩⟩
   | some d =>
    rw [hd] at h1
    have h1' : _ = getA (setA s d .dead) t := h1
    rw [getA_setA] at h1'
    by_cases hdt : d = t
    ·subst hdt
     left
     rw [h1']
     split
     ·rfl
     ·rename_i hlt
      rw [getA_eq, List.getD, List.getElem?_eq_none (by simpa using hlt)]; rfl
    ·rw [if_neg (by simp [hdt])] at h1'
     exact .inr ⟨h1', List.forall_mem_cons.2 ⟨by rw [hd]; simpa using hdt, h2⟩⟩
theorem killA_len (all : List Oper) : ∀ s : List AV, (killA all s).length = s.length := by
 unfold killA
 induction all with
 | nil => intro s; rfl
 | cons o l ih =>
  intro s
  simp only [List.foldl_cons]
  rw [ih]
  cases o.dst <;> simp [putS, setA_eq]
theorem DI.done (hk : OkD all) (h : DI P TT B all listed E S FL s L n G a w) {i : Nat} {o : Oper} (hi : all[i]? = some o) (hedge : ∀ j ∈ edgesOf o, Lst listed j) : ∀ (j : Nat) (oj : Oper), all[j]? = some oj → Lst (listed.setIfInBounds i true) j → ∀ x ∈ edgesOf oj, Lst (listed.setIfInBounds i true) x := by
 have hsz : i < listed.size := by rw [h.size]; exact (List.getElem?_eq_some_iff.1 hi).1
 intro j oj hj hl x hx
 rw [lst_set hsz] at hl ⊢
 rcases hl with hl | rfl
 ·exact .inl (h.closed j oj hj hl x hx)
 ·rw [hi] at hj; cases hj
  exact .inl (hedge x hx)
theorem DI.preL (h : DI P TT B all listed E S FL s L n G a w) {i : Nat} {o : Oper} (hi : all[i]? = some o) (hedge : ∀ j ∈ edgesOf o, Lst listed j) : ∀ j ∈ (pres all).getD i [], Lst listed j :=
 pres_spec (D := Lst listed) h.closed hi hedge
end
end Go.Am
namespace Go.Am
open Go.RowKit
def drB (P : Program) (TT : Types) (all : List Oper) (pr : List (List Nat)) (K : Kn) (KP : AV → Kn) (fuel : Nat) (S FL : List Nat) (L : Heap) : List Nat → List AV → Nat → Prop := fun E s n => match satB all pr E S with
  | false => False
  | true => match effsOf all S (fun _ => true) with
   | [] => flush TT all s (allocsOf all FL fun _ => true) L fun L' => forceH L' fun L'' => K s L'' n
   | _ :: _ => match fuel with
    | 0 => False
    | fuel + 1 => allK (effsOf all S (availB pr E S)) fun e => match all[e]? with
     | none => False
     | some o => flush TT all s (allocsOf all FL fun j => memB j (pr.getD e [])) L fun L1 =>
      guarded all s o (aop P TT o s L1 n (fun av L2 n2 => putD s o.dst av fun s2 => forceH L2 fun L3 => rechk TT all (pr.getD e []) E s2 L3 (List.range all.length)
        (dr P TT all pr K KP fuel E (e :: S) (allocsOf all FL (fun j => memB j (pr.getD e [])) ++ FL) s2 L3 n2)) (fun x L2 n2 => KP x (killA all s) L2 n2))
       (putD s o.dst (.v (.tuple #[])) fun s2 => dr P TT all pr K KP fuel E (e :: S) (allocsOf all FL (fun j => memB j (pr.getD e [])) ++ FL) s2 L1 n)
theorem dr_eq {P : Program} {TT : Types} {all : List Oper} {pr : List (List Nat)} {K : Kn} {KP : AV → Kn} (fuel : Nat) (E S FL : List Nat) (s : List AV) (L : Heap) (n : Nat) :
  dr P TT all pr K KP fuel E S FL s L n = evGo P TT all pr S L (List.range all.length) E s n (drB P TT all pr K KP fuel S FL L) := by
 cases fuel <;> (unfold dr; rfl)
section
variable {P : Program} {TT : Types} {B : Base} {listed : Array Bool} {E S FL : List Nat} {s : List AV} {L : Heap} {n : Nat} {G : Ghost} {a : Act} {w : World} {ops : Array Oper}
theorem mem_ready' {j : Nat} (hsz : listed.size = ops.toList.length) : j ∈ Region.ready .any ops listed ↔ ∃ o, ops.toList[j]? = some o ∧ ¬ Lst listed j ∧ ∀ i ∈ edgesOf o, Lst listed i := by
 rw [mem_ready]
 have hg : ∀ {o : Oper}, ops.toList[j]? = some o → (listed.getD j true = listed.getD j false) := fun ho => by
  have : j < listed.size := by rw [hsz]; exact (List.getElem?_eq_some_iff.1 ho).1
  simp [this]
 constructor
 ·rintro ⟨h1, o, h2, h3⟩
  have ho : ops.toList[j]? = some o := by rw [Array.getElem?_toList]; exact h2
  refine ⟨o, ho, fun hl => ?_, fun i hi => ?_⟩
  ·unfold Lst at hl; rw [hg ho, hl] at h1; cases h1
  ·unfold edgesOf at hi
   obtain ⟨e, he, hx⟩ := List.mem_filterMap.1 hi
   split at hx
   ·rename_i hb
    cases hx
    exact h3 e (by simpa using he) hb
   ·cases hx
 ·rintro ⟨o, ho, h1, h2⟩
  refine ⟨?_, o, by rw [← Array.getElem?_toList]; exact ho, fun e he hb => h2 e.on (List.mem_filterMap.2 ⟨e, by simpa using he, by rw [if_pos hb]⟩)⟩
  rw [hg ho]
  cases hx : listed.getD j false
  ·rfl
  ·exact absurd hx h1
theorem all_done (hk : OkD ops.toList) (hsz : listed.size = ops.toList.length) (h : Region.ready .any ops listed = []) : ∀ j (o : Oper), ops.toList[j]? = some o → Lst listed j := by
 intro j
 induction j using Nat.strongRecOn with
 | _ j ih =>
  intro o ho
  refine Classical.byContradiction fun hl => ?_
  have : j ∈ Region.ready .any ops listed := (mem_ready' hsz).2 ⟨o, ho, hl, fun i hi => by
   have hlt := hk.back j o ho i hi
   have hil : i < ops.toList.length := Nat.lt_trans hlt (List.getElem?_eq_some_iff.1 ho).1
   exact ih i hlt _ (List.getElem?_eq_getElem hil)⟩
  rw [h] at this; cases this
theorem rechk_spec {TT : Types} {all : List Oper} {pe E : List Nat} {k : Prop} : ∀ (js : List Nat), rechk TT all pe E s L js k → k ∧ ∀ j ∈ js, ∀ o t x, all[j]? = some o → o.op = .load t x → j ∈ E → j ∉ pe → guarded all s o (opt1 o.dst fun d => opt1 (TT t) fun ti => aload L ti (ev s x) = some (getA s d)) True
 | [], h => ⟨h, fun j hj => by cases hj⟩
 | j :: js, h => by
  unfold rechk at h
  split at h
  ·rename_i o hj
   split at h
   ·rename_i t x ho hb
    obtain ⟨h1, h2⟩ := h
    obtain ⟨k1, k2⟩ := rechk_spec js h2
    refine ⟨k1, fun i hi => ?_⟩
    rcases List.mem_cons.1 hi with rfl | hi
    ·intro o' t' x' ho' hop _ _
     rw [hj] at ho'; cases ho'
     rw [ho] at hop; cases hop
     exact h1
    ·exact k2 i hi
   ·rename_i hno
    obtain ⟨k1, k2⟩ := rechk_spec js h
    refine ⟨k1, fun i hi => ?_⟩
    rcases List.mem_cons.1 hi with rfl | hi
    ·intro o' t' x' ho' hop hE hpe
     rw [hj] at ho'; cases ho'
     refine absurd ?_ (hno t' x' hop)
     rw [Bool.and_eq_true, memB_iff, Bool.not_eq_true']
     refine ⟨hE, ?_⟩
     cases hm : memB i pe
     ·rfl
     ·exact absurd (memB_iff.1 hm) hpe
    ·exact k2 i hi
  ·rename_i hj
   obtain ⟨k1, k2⟩ := rechk_spec js h
   refine ⟨k1, fun i hi => ?_⟩
   rcases List.mem_cons.1 hi with rfl | hi
   ·intro o' t' x' ho'; rw [hj] at ho'; cases ho'
   ·exact k2 i hi
theorem left_fewer {i : Nat} {o : Oper} {g : Nat} (hi : ops.toList[i]? = some o) (hsz : listed.size = ops.toList.length) (hl : ¬ Lst listed i) (hg : ((List.range ops.toList.length).filter fun j => !(listed.getD j false)).length ≤ g + 1) :
  ((List.range ops.toList.length).filter fun j => !((listed.setIfInBounds i true).getD j false)).length ≤ g := by
 have hs : i < listed.size := by rw [hsz]; exact (List.getElem?_eq_some_iff.1 hi).1
 have h1 := one_perm (p := fun j => !((listed.setIfInBounds i true).getD j false)) (List.nodup_range (n := ops.toList.length)) (range_mem hi) (by simp only [lst_set_b hs]; simp)
 have h2 : (List.range ops.toList.length).filter (fun x => !((listed.setIfInBounds i true).getD x false) || x == i) = (List.range ops.toList.length).filter fun j => !(listed.getD j false) := List.filter_congr fun x _ => by
  simp only [lst_set_b hs]
  have hl' : listed.getD i false = false := by
   cases h : listed.getD i false
   ·rfl
   ·exact absurd h hl
  by_cases hx : x = i
  ·subst hx; simp only [hl']; simp
  ·have : (x == i) = false := by simpa using hx
   simp only [this]; cases listed.getD x false <;> rfl
 rw [h2] at h1
 have := h1.length_eq
 simp only [List.length_cons] at this
 omega
theorem allocObj_inv {o : Oper} {r : Nat × Res} (h : allocObj TT s o = some r) : ∃ t d ti z, o.op = .alloc t ∧ o.dst = some d ∧ TT t = some ti ∧ getA s d = .ptr r.1 0 ∧ ti.zero = some z ∧ r.2 = .box (zcells z) := by
 unfold allocObj at h
 split at h
 ·rename_i t d ho hd
  split at h
  ·rename_i ti id hti hg
   split at h
   ·rename_i z hz
    cases h
    exact ⟨t, d, ti, z, ho, hd, hti, hg, hz, rfl⟩
   ·cases h
  ·cases h
 ·cases h
theorem isE_noAl {o : Oper} (h : isE o = true) : isAl o = false := by
 cases ha : isAl o
 ·rfl
 ·rw [alloc_noE ha] at h; cases h
theorem DI.effect {all : List Oper} (hT : TOk P TT) (hk : OkD all) (h : DI P TT B all listed E S FL s L n G a w) {i : Nat} {o : Oper} (hi : all[i]? = some o) (he : isE o = true) (hnl : ¬ Lst listed i) (hedge : ∀ j ∈ edgesOf o, Lst listed j) {x : AV} {v : Value} {L2 : Heap} {n2 : Nat} {G' : Ghost} {w' : World}
  (hn : n ≤ n2) (hr : Rel B (Undone all listed) G' ⟨s, L2 ++ pendL TT all s FL (fun j => listed.getD j false), n2⟩ a w') (hx : Slot G' x v) (hlive : ∀ id, G'.live id → G.live id ∨ n ≤ id)
  (hload : ∀ j ∈ E, ∀ oj t y, all[j]? = some oj → oj.op = .load t y → ¬ Lst listed j → j ∉ (pres all).getD i [] → guarded all (putS s o.dst x) oj (opt1 oj.dst fun d => opt1 (TT t) fun ti => aload L2 ti (ev (putS s o.dst x) y) = some (getA (putS s o.dst x) d)) True ∨ L2 = L) :
  DI P TT B all (listed.setIfInBounds i true) E (i :: S) FL (putS s o.dst x) L2 n2 G' (a.put o.dst v) w' := by
 have hsz : i < listed.size := by rw [h.size]; exact (List.getElem?_eq_some_iff.1 hi).1
 have hset : ∀ j, Lst (listed.setIfInBounds i true) j ↔ (Lst listed j ∨ j = i) := fun j => lst_set hsz
 have hiS : i ∉ S := fun hm => hnl ((h.eff i o hi he).2 hm)
 have hiE : i ∉ E := fun hm => by
  obtain ⟨o', h1, h2, _⟩ := h.Eav i hm
  rw [hi] at h1; cases h1; rw [he] at h2; cases h2
 have hlen : (putS s o.dst x).length = s.length := by cases o.dst <;> simp [putS, setA_eq]
 have hput : ∀ t, o.dst ≠ some t → getA (putS s o.dst x) t = getA s t := fun t ht => by
  cases hd : o.dst with
  | none => rfl
  | some d => simp only [putS]; rw [getA_setA, if_neg (by rintro ⟨rfl, _⟩; exact ht hd)]
 have hold : ∀ j ∈ E, ∀ oj, all[j]? = some oj → (¬ Lst listed j → ∀ t ∈ looks all oj, getA (putS s o.dst x) t = getA s t) ∧ ∀ e, oj.dst = some e → getA (putS s o.dst x) e = getA s e := fun j hj oj hoj => by
  have hij : i ≠ j := fun e => hiE (e ▸ hj)
  refine ⟨fun hlj t ht => hput t fun e => ?_, fun e hde => hput e fun ee => hk.dst i j o oj e hij hi hoj ee hde⟩
  refine not_looked hk hi hoj e hij (fun hm => ?_) (fun _ hm => hlj (h.preL hi hedge j hm)) ht
  rcases h.pre hj i hm with h1 | h1
  ·exact hiE h1
  ·exact hiS h1
 have hpend : pendL TT all (putS s o.dst x) FL (fun j => (listed.setIfInBounds i true).getD j false) = pendL TT all s FL (fun j => listed.getD j false) := by
  rw [pend_same hi (isE_noAl he) hsz]
  exact pendL_congr fun j oj hoj hal hl => allocObj_congr fun e hde => (hold j (h.Ein j oj hoj (alloc_noE hal) hl) oj hoj).2 e hde
 refine ⟨by simp [h.size], h.done hk hi hedge, fun j oj hj hje => ?_, fun j hj => ?_, fun j hj => ?_, fun j oj hj hje hl => ?_, ?_, fun j hj oj hoj hal hl => ?_, fun j hj oj hoj hal => ?_, fun j hj j' hj' hne oj oj' rj rj' h1 h2 h3 h4 h5 h6 => ?_⟩
 ·rw [hset, h.eff j oj hj hje, List.mem_cons]
  exact or_comm
 ·rcases List.mem_cons.1 hj with rfl | hj
  ·exact ⟨o, hi, he⟩
  ·exact h.Sin j hj
 ·obtain ⟨oj, h1, h2, h3⟩ := h.Eav j hj
  exact ⟨oj, h1, h2, availB_mono h3 (fun _ h => h) fun _ h => List.mem_cons_of_mem _ h⟩
 ·rcases (hset j).1 hl with hl | rfl
  ·exact h.Ein j oj hj hje hl
  ·rw [hi] at hj; cases hj; rw [he] at hje; cases hje
 ·rw [hpend]
  refine (hr.put o.dst hx).weakU fun t ⟨⟨j, oj, hj, hl, hd, hqq⟩, hne⟩ => ⟨j, oj, hj, fun hl' => ?_, hd, hqq⟩
  rcases (hset j).1 hl' with hl' | rfl
  ·exact hl hl'
  ·rw [hi] at hj; cases hj; exact hne hd
 ·have hl0 : ¬ Lst listed j := fun h0 => hl ((hset j).2 (.inl h0))
  obtain ⟨h1, h2⟩ := hold j hj oj hoj
  replace h1 := h1 hl0
  have hq := h.quiet j hj oj hoj hal hl0
  have hno : ∀ {d : Nat}, oj.dst = some d → d < (putS s o.dst x).length → (∀ e, oj.dst = some e → e < s.length → getA s e = .v (.tuple #[])) → getA (putS s o.dst x) d = .v (.tuple #[]) := fun hd hlt hh => by rw [h2 _ hd]; exact hh _ hd (by rw [← hlen]; exact hlt)
  cases hld : isLd oj with
  | false =>
   refine guarded_congr h1 (guarded_mono hq (fun ⟨av, k1, k2⟩ => ⟨av, (k1.indep hld).congr h1, fun e hde hlt => ?_⟩) fun k e hde hlt => hno hde hlt k)
   rw [h2 e hde]; exact k2 e hde (by rw [← hlen]; exact hlt)
  | true =>
   obtain ⟨t, y, hop⟩ : ∃ t y, oj.op = .load t y := by
    unfold isLd at hld; split at hld
    ·exact ⟨_, _, by assumption⟩
    ·cases hld
   rcases hload j hj oj t y hoj hop hl0 (fun hm => hl0 (h.preL hi hedge j hm)) with hld2 | rfl
   ·refine guarded_mono (guarded_and (guarded_congr h1 hq) hld2) (fun ⟨_, k⟩ => ?_) fun ⟨k, _⟩ e hde hlt => hno hde hlt k
    obtain ⟨d, hd, k⟩ := opt1_some k
    obtain ⟨ti, hti, k⟩ := opt1_some k
    obtain ⟨hti'⟩ := hT.get hti
    refine ⟨_, by unfold Known; rw [hld]; exact q_load hop hti' k, fun e hde _ => ?_⟩
    rw [hd] at hde; cases hde; rfl
   ·refine guarded_congr h1 (guarded_mono hq (fun ⟨av, k1, k2⟩ => ⟨av, k1.congr h1, fun e hde hlt => ?_⟩) fun k e hde hlt => hno hde hlt k)
    rw [h2 e hde]; exact k2 e hde (by rw [← hlen]; exact hlt)
 ·obtain ⟨r, k1, k2, k3, k4⟩ := h.alloc j hj oj hoj hal
  refine ⟨r, by rw [allocObj_congr (hold j hj oj hoj).2]; exact k1, Nat.lt_of_lt_of_le k2 hn, k3, fun hl hlv => ?_⟩
  rcases hlive _ hlv with h0 | h0
  ·exact k4 (fun h' => hl ((hset j).2 (.inl h'))) h0
  ·omega
 ·rw [allocObj_congr (hold j hj oj h1).2] at h5
  rw [allocObj_congr (hold j' hj' oj' h2).2] at h6
  exact h.inj j hj j' hj' hne oj oj' rj rj' h1 h2 h3 h4 h5 h6
theorem dr_sound (hT : TOk P TT) (hk : OkD ops.toList) {Kk : Kc} : ∀ (g : Nat) (listed : Array Bool) (E S FL : List Nat) (s : List AV) (L : Heap) (n : Nat) (G : Ghost) (a : Act) (w : World) (fuel : Nat),
  ((List.range ops.toList.length).filter fun j => !(listed.getD j false)).length ≤ g → DI P TT B ops.toList listed E S FL s L n G a w → (∀ j ∈ FL, Lst listed j) → drB P TT ops.toList (pres ops.toList) (Kk .normal) (fun x => Kk (.panic x)) fuel S FL L E s n →
  wpAny P .any ops (Post B Kk) g listed a w := by
 have fin : ∀ (listed : Array Bool) (E S FL : List Nat) (s : List AV) (L : Heap) (n : Nat) (G : Ghost) (a : Act) (w : World) (fuel : Nat), DI P TT B ops.toList listed E S FL s L n G a w → drB P TT ops.toList (pres ops.toList) (Kk .normal) (fun x => Kk (.panic x)) fuel S FL L E s n →
   Region.ready .any ops listed = [] → Post B Kk .normal a w := by
  intro listed E S FL s L n G a w fuel h hb hr
  have hall := all_done hk h.size hr
  unfold drB at hb
  split at hb
  ·exact hb.elim
  ·split at hb
   ·obtain ⟨L', h1, h2⟩ := flush_spec _ _ hb
    rw [forceH_eq] at h2
    refine ⟨.normal, s, L', n, G, h2, trivial, ?_⟩
    have e1 : pendL TT ops.toList s FL (fun j => listed.getD j false) = (allocsOf ops.toList FL fun _ => true).filterMap (objAt TT ops.toList s) := by
     unfold pendL allocsOf
     congr 1
     refine List.filter_congr fun x hx => ?_
     cases ho : ops.toList[x]? with
     | none => rfl
     | some o =>
      have : listed.getD x false = true := hall x o ho
      simp only [this]
    have hp : L'.Perm (L ++ pendL TT ops.toList s FL (fun j => listed.getD j false)) := by rw [e1]; exact h1.trans List.perm_append_comm
    have hr := h.rel
    exact ⟨hr.size, fun t _ => hr.slots t fun ⟨j, o, hj, hl, _⟩ => hl (hall j o hj), hr.defers, hr.holds.perm hp.symm, hr.step.perm (.refl _) hp.symm, hr.next, hr.base, hr.low, hr.old⟩
   ·rename_i e es hes
    have : e ∈ effsOf ops.toList S (fun _ => true) := by rw [hes]; exact List.mem_cons_self
    unfold effsOf at this
    have h2 := (List.mem_filter.1 this).2
    split at h2
    ·rename_i o ho
     simp only [Bool.and_eq_true, Bool.not_eq_true', Bool.and_true] at h2
     have := (h.eff e o ho h2.1).1 (hall e o ho)
     rw [memB_iff.2 this] at h2; cases h2.2
    ·cases h2
 intro g
 induction g with
 | zero =>
  intro listed E S FL s L n G a w fuel hg h hFL hb
  have hr : Region.ready .any ops listed = [] := by
   cases hrd : Region.ready .any ops listed with
   | nil => rfl
   | cons i is =>
    obtain ⟨o, ho, hl, _⟩ := (mem_ready' h.size).1 (by rw [hrd]; exact List.mem_cons_self : i ∈ Region.ready .any ops listed)
    have : i ∈ (List.range ops.toList.length).filter fun j => !(listed.getD j false) := List.mem_filter.2 ⟨range_mem ho, by
     cases hx : listed.getD i false
     ·rfl
     ·exact absurd hx hl⟩
    rw [List.length_eq_zero_iff.1 (Nat.le_zero.1 hg)] at this
    cases this
  exact ⟨hr, fin _ _ _ _ _ _ _ _ _ _ _ h hb hr⟩
 | succ g ih =>
  intro listed E S FL s L n G a w fuel hg h hFL hb
  refine ⟨fin _ _ _ _ _ _ _ _ _ _ _ h hb, fun i hi => ?_⟩
  obtain ⟨o, ho, hnl, hedge⟩ := (mem_ready' h.size).1 hi
  have hopi : ops[i]? = some o := by rw [← Array.getElem?_toList]; exact ho
  have hsz : i < listed.size := by rw [h.size]; exact (List.getElem?_eq_some_iff.1 ho).1
  have hpre := h.preL ho hedge
  have hfew := left_fewer ho h.size hnl hg
  have hclosed' := h.done hk ho hedge
  have hset : ∀ j, Lst (listed.setIfInBounds i true) j ↔ (Lst listed j ∨ j = i) := fun j => lst_set hsz
  -- what is looked at is there
  have hlook : ∀ t ∈ looks ops.toList o, ∀ (j : Nat) (oj : Oper), j ≠ i → ops.toList[j]? = some oj → ¬ Lst listed j → isE oj = false → oj.dst ≠ some t := fun t ht j oj hne hj hl hqq hd => (hk.looks j i oj o t hne hj ho hd ht).elim (fun h1 => hl (hpre j h1)) fun h1 => by rw [hqq] at h1; cases h1.1
  have hsat : satB ops.toList (pres ops.toList) E S = true := by
   unfold drB at hb
   split at hb
   ·exact hb.elim
   ·assumption
  have havail : availB (pres ops.toList) E S i = true := by
   unfold availB
   refine List.all_eq_true.2 fun j hj => ?_
   rw [Bool.or_eq_true, memB_iff, memB_iff]
   have hl := hpre j hj
   have hjlt : j < ops.toList.length := by
    rw [← h.size]
    unfold Lst at hl
    rw [Array.getD_eq_getD_getElem?] at hl
    cases hx : listed[j]? with
    | none => rw [hx] at hl; cases hl
    | some b => exact (Array.getElem?_eq_some_iff.1 hx).1
   have hoj := List.getElem?_eq_getElem hjlt
   cases he : isE ops.toList[j] with
   | true => exact .inr ((h.eff j _ hoj he).1 hl)
   | false => exact .inl (h.Ein j _ hoj he hl)
  have hiE : isE o = false → i ∈ E := fun he => by
   unfold satB at hsat
   have h1 := List.all_eq_true.1 hsat i (range_mem ho)
   rw [ho] at h1
   simp only [he, havail, Bool.not_true, Bool.or_false, Bool.false_or] at h1
   exact memB_iff.1 h1
  have hU : ∀ t ∈ looks ops.toList o, ¬ Undone ops.toList listed t := fun t ht ⟨j, oj, hj, hl, hd, hqq⟩ => by
   by_cases hji : j = i
   ·subst hji; rw [ho] at hj; cases hj; exact hk.own2 j o t ho hd ht
   ·exact hlook t ht j oj hji hj hl hqq hd
  have hUo : ∀ t, .tmp t ∈ o.op.operands → ¬ Undone ops.toList listed t := fun t ht => hU t (ops_looks ht)
  have hUg : ∀ j b d, o.guard = some (j, b) → (ops[j]?).bind (·.dst) = some d → ¬ Undone ops.toList listed d := fun j b d hg hd => hU d (by
   unfold looks; rw [hg]
   simp only [Array.getElem?_toList, hd, Option.toList_some]
   exact List.mem_append_right _ (List.mem_singleton.2 rfl))
  unfold wpOp
  rw [hopi]
  simp only
  cases he : isE o with
  | false =>
   have hmE := hiE he
   obtain ⟨d, hd, hown⟩ := hk.own i o ho he
   have hFLi : i ∉ FL := fun hm => hnl (hFL i hm)
   have hFL' : ∀ j ∈ FL, Lst (listed.setIfInBounds i true) j := fun j hj => (hset j).2 (.inl (hFL j hj))
   have hweak : ∀ t, (Undone ops.toList listed t ∧ d ≠ t) → Undone ops.toList (listed.setIfInBounds i true) t := fun t ⟨⟨j, oj, hj, hl, hdj, hqq⟩, hne⟩ => ⟨j, oj, hj, fun hl' => by
    rcases (hset j).1 hl' with hl' | rfl
    ·exact hl hl'
    ·rw [ho] at hj; cases hj; rw [hd] at hdj; cases hdj; exact hne rfl, hdj, hqq⟩
   have hmk : ∀ (G' : Ghost) (a' : Act) (w' : World), Rel B (Undone ops.toList (listed.setIfInBounds i true)) G' ⟨s, L ++ pendL TT ops.toList s FL (fun j => (listed.setIfInBounds i true).getD j false), n⟩ a' w' → (∀ j ∈ E, ∀ oj, ops.toList[j]? = some oj → isAl oj = true → ¬ Lst (listed.setIfInBounds i true) j → ∀ r, allocObj TT s oj = some r → ¬ G'.live r.1) →
     DI P TT B ops.toList (listed.setIfInBounds i true) E S FL s L n G' a' w' := fun G' a' w' hrel hal =>
    ⟨by simp [h.size], hclosed', fun j oj hj hje => by
      rw [hset, h.eff j oj hj hje]
      exact ⟨fun hh => hh.resolve_right (fun e => by subst e; rw [ho] at hj; cases hj; rw [he] at hje; cases hje), .inl⟩,
     h.Sin, h.Eav, fun j oj hj hje hl => by
      rcases (hset j).1 hl with hl | rfl
      ·exact h.Ein j oj hj hje hl
      ·exact hmE, hrel, fun j hj oj hoj hna hl => h.quiet j hj oj hoj hna fun h0 => hl ((hset j).2 (.inl h0)),
     fun j hj oj hoj hna => by
      obtain ⟨r, k1, k2, k3, _⟩ := h.alloc j hj oj hoj hna
      exact ⟨r, k1, k2, k3, fun hl => hal j hj oj hoj hna hl r k1⟩, h.inj⟩
   cases hal : isAl o with
   | false =>
    have hpd := pend_same (TT := TT) (s := s) (FL := FL) ho hal hsz
    rcases guarded_sound h.rel hUg (h.quiet i hmE o ho hal hnl) with ⟨hw, av, kn, hav⟩ | ⟨hw, hun⟩
    ·rw [if_pos hw]
     left
     have hh := h.rel.here (P := P) hUo
     obtain ⟨v, G', w', r1, r2, r3⟩ := kn.ok G w a.eval ⟨hh.ev, hh.raw, hh.holds.left, hh.base⟩
     unfold Oper.wp
     rw [r1, Oper.upon_value]
     have hr' : Rel B (Undone ops.toList listed) G' ⟨s, L ++ pendL TT ops.toList s FL (fun j => listed.getD j false), n⟩ a w' :=
      h.rel.stepped (r3.holds h.rel.holds) (r3.step _) (Nat.le_refl _) fun id hid => by rw [r3.live] at hid; exact ⟨h.rel.next id hid, .inl hid⟩
     rw [hd]
     refine ih _ E S FL s L n G' _ w' fuel hfew (hmk G' _ w' ?_ fun j hj oj hoj hna hl r hr hlv => ?_) hFL' hb
     ·rw [hpd]
      exact (hr'.fill fun hlt => by rw [hav d hd hlt]; exact r2).weakU hweak
     ·rw [r3.live] at hlv
      obtain ⟨r', k1, _, _, k4⟩ := h.alloc j hj oj hoj hna
      rw [k1] at hr; cases hr
      exact k4 (fun h0 => hl ((hset j).2 (.inl h0))) hlv
    ·rw [if_neg (by simp [hw]), hd]
     refine ih _ E S FL s L n G _ w fuel hfew (hmk G _ w ?_ fun j hj oj hoj hna hl r hr hlv => ?_) hFL' hb
     ·rw [hpd]
      exact (h.rel.fill fun hlt => by rw [hun d hd hlt]; exact .of (.data _ _ (.v undef))).weakU hweak
     ·obtain ⟨r', k1, _, _, k4⟩ := h.alloc j hj oj hoj hna
      rw [k1] at hr; cases hr
      exact k4 (fun h0 => hl ((hset j).2 (.inl h0))) hlv
   | true =>
    obtain ⟨hg, _⟩ := hk.alloc i o ho hal
    obtain ⟨r, hr, hrn, hrk, hrl⟩ := h.alloc i hmE o ho hal
    obtain ⟨t, d', ti, z, hop, hd', hti, hgd, hz, hr2⟩ := allocObj_inv hr
    rw [hd] at hd'; cases hd'
    obtain ⟨hti'⟩ := hT.get hti
    rw [if_pos (by simp [Region.wanted, hg])]
    left
    have hh := h.rel.here (P := P) hUo
    obtain ⟨v, G', w', r1, r2, r3, r4, r5⟩ := e_alloc (id := r.1) hop hti' hz G w a.eval hh (fun id hid => by subst hid; exact hrl hnl)
    have hre : (r.1, Res.box (zcells z)) = r := by rw [← hr2]
    rw [hre] at r3 r4
    have hpm := pend_more (TT := TT) (s := s) (FL := FL) ho hal hsz hnl hFLi hr
    have hperm : (r :: (L ++ pendL TT ops.toList s FL (fun j => listed.getD j false))).Perm (L ++ pendL TT ops.toList s FL (fun j => (listed.setIfInBounds i true).getD j false)) :=
     (List.perm_middle (a := r) (l₁ := L)).symm.trans ((hpm.symm).append_left L)
    have hr' : Rel B (Undone ops.toList listed) G' ⟨s, L ++ pendL TT ops.toList s FL (fun j => (listed.setIfInBounds i true).getD j false), n⟩ a w' :=
     ⟨h.rel.size, fun t ht => (h.rel.slots t ht).mono r4.lits fun _ _ => r4.sim, h.rel.defers, r3.perm hperm, h.rel.step.trans (r4.perm (.refl _) hperm), fun id hid => by
      rcases r5 id hid with h0 | h0
      ·exact h.rel.next id h0
      ·subst h0; exact hrn, by rw [r4.base]; exact Nat.le_trans h.rel.base r4.size, h.rel.low, fun id hid => by
      rcases r5 id hid with h0 | h0
      ·exact h.rel.old id h0
      ·subst h0; exact .inr hrk⟩
    have key : wpAny P .any ops (Post B Kk) g (listed.setIfInBounds i true) (a.put o.dst v) w' := by
     rw [hd]
     refine ih _ E S FL s L n G' _ w' fuel hfew (hmk G' _ w' ((hr'.fill fun _ => by
      show Slot G' (getA s d) v
      rw [hgd]; exact .of r2).weakU hweak) fun j hj oj hoj hna hl rj hrj hlv => ?_) hFL' hb
     obtain ⟨r', k1, _, _, k4⟩ := h.alloc j hj oj hoj hna
     rw [k1] at hrj; cases hrj
     rcases r5 _ hlv with h0 | h0
     ·exact k4 (fun h0 => hl ((hset j).2 (.inl h0))) h0
     ·exact h.inj j hj i hmE (fun e => hl ((hset j).2 (.inr e))) oj o _ r hoj ho hna hal k1 hr h0
    unfold Oper.wp
    rcases r1 with r1 | ⟨r1, rfl⟩
    ·rw [r1, Oper.upon_value]; exact key
    ·rw [r1, Oper.upon_skip]; exact key
  | true =>
   have hiS : i ∉ S := fun hm => hnl ((h.eff i o ho he).2 hm)
   have hSb : memB i S = false := by
    cases hm : memB i S
    ·rfl
    ·exact absurd (memB_iff.1 hm) hiS
   have hmem : i ∈ effsOf ops.toList S (fun _ => true) := List.mem_filter.2 ⟨range_mem ho, by rw [ho]; simp only [he, hSb]; rfl⟩
   have hmem2 : i ∈ effsOf ops.toList S (availB (pres ops.toList) E S) := List.mem_filter.2 ⟨range_mem ho, by rw [ho]; simp only [he, hSb, havail]; rfl⟩
   unfold drB at hb
   rw [hsat] at hb
   simp only at hb
   split at hb
   ·rename_i h0; rw [h0] at hmem; cases hmem
   ·cases fuel with
    | zero => exact hb.elim
    | succ fuel =>
     simp only at hb
     have hb1 := allK_mem hb i hmem2
     simp only [ho] at hb1
     obtain ⟨L1, hL1, hb2⟩ := flush_spec _ _ hb1
     have hpart := pend_part (TT := TT) (all := ops.toList) (s := s) (FL := FL) (lf := fun j => listed.getD j false) (f := fun j => memB j ((pres ops.toList).getD i [])) fun j hj => hpre j (memB_iff.1 hj)
     generalize hA : allocsOf ops.toList FL (fun j => memB j ((pres ops.toList).getD i [])) = A at hL1 hb2 hpart
     have hFL1 : ∀ j ∈ A ++ FL, Lst listed j := fun j hj => by
      rcases List.mem_append.1 hj with hj | hj
      ·rw [← hA] at hj
       have h1 := (List.mem_filter.1 hj).2
       split at h1
       ·simp only [Bool.and_eq_true] at h1
        exact hpre j (memB_iff.1 h1.2.2)
       ·cases h1
      ·exact hFL j hj
     have hFL1' : ∀ j ∈ A ++ FL, Lst (listed.setIfInBounds i true) j := fun j hj => (hset j).2 (.inl (hFL1 j hj))
     have hperm : (L ++ pendL TT ops.toList s FL (fun j => listed.getD j false)).Perm (L1 ++ pendL TT ops.toList s (A ++ FL) (fun j => listed.getD j false)) := by
      refine (hpart.append_left L).trans ?_
      rw [← List.append_assoc]
      exact (List.perm_append_comm.trans hL1.symm).append_right _
     have hr := h.rel
     have hrel1 : Rel B (Undone ops.toList listed) G ⟨s, L1 ++ pendL TT ops.toList s (A ++ FL) (fun j => listed.getD j false), n⟩ a w :=
      ⟨hr.size, hr.slots, hr.defers, hr.holds.perm hperm, hr.step.perm (.refl _) hperm, hr.next, hr.base, hr.low, hr.old⟩
     have hsub : L1.Perm (L ++ A.filterMap (objAt TT ops.toList s)) := hL1.trans List.perm_append_comm
     have h1 : DI P TT B ops.toList listed E S (A ++ FL) s L1 n G a w := ⟨h.size, h.closed, h.eff, h.Sin, h.Eav, h.Ein, hrel1,
      fun j hj oj hoj hna hl => guarded_mono (h.quiet j hj oj hoj hna hl) (fun ⟨av, q1, q2⟩ => ⟨av, q1.sub hsub, q2⟩) (fun q => q), h.alloc, h.inj⟩
     rcases guarded_sound hrel1 hUg hb2 with ⟨hw, hop⟩ | ⟨hw, hskip⟩
     ·rw [if_pos hw]
      left
      have hB : Rel ⟨G, w, L1, n, B.D⟩ (Undone ops.toList listed) G ⟨s, L1, n⟩ a w := ⟨hr.size, hr.slots, hr.defers, hrel1.holds.left, Step.refl _ _ _, hr.next, hr.base, Nat.le_refl _, fun id hid => .inl hid⟩
      have conv : ∀ (G' : Ghost) (w' : World) (L2 : Heap) (n2 : Nat), n ≤ n2 → Rel ⟨G, w, L1, n, B.D⟩ (Undone ops.toList listed) G' ⟨s, L2, n2⟩ a w' → Rel B (Undone ops.toList listed) G' ⟨s, L2 ++ pendL TT ops.toList s (A ++ FL) (fun j => listed.getD j false), n2⟩ a w' := fun G' w' L2 n2 k3 k4 => by
       obtain ⟨m1, m2⟩ := hrel1.holds.beside k4.holds k4.step
       exact ⟨k4.size, k4.slots, k4.defers, m1, hrel1.step.trans m2, k4.next, k4.base, Nat.le_trans hr.low k3, fun id hid => (k4.old id hid).elim (hr.old id) fun h => .inr (Nat.le_trans hr.low h)⟩
      refine aop_sound hT hB hUo hop ⟨fun av L2 n2 v G' w' k1 k2 k3 k4 => ?_, fun x L2 n2 v G' w' k1 k2 k3 k4 => ?_⟩
      ·simp only [putD_eq, forceH_eq] at k1
       obtain ⟨kd, kr⟩ := rechk_spec _ k1
       rw [dr_eq] at kd
       have hD := DI.effect hT hk h1 ho he hnl hedge k3 (conv G' w' L2 n2 k3 k4) k2 (fun id hid => k4.old id hid) fun j hj oj t y hoj hop hl hpe => .inl (kr j (range_mem hoj) oj t y hoj hop hj hpe)
       exact evGo_sound hT hk _ _ _ _ kd hD fun E' s' n' hb' hi' => ih _ E' (i :: S) (A ++ FL) s' L2 n' G' _ w' fuel hfew hi' hFL1' hb'
      ·have hc := conv G' w' L2 n2 k3 k4
       refine ⟨.panic x, killA ops.toList s, L2, n2, G', k1, ⟨v, rfl, k2⟩, ?_⟩
       refine ⟨by rw [hc.size]; exact (killA_len _ _).symm, fun t _ => ?_, hc.defers, hc.holds.left, hc.step.sub (.refl _), hc.next, hc.base, hc.low, hc.old⟩
       show Slot G' (getA (killA ops.toList s) t) _
       rcases killA_get ops.toList s t with q | ⟨q1, q2⟩
       ·have : getA (killA ops.toList s) t = .dead := q
        rw [this]; exact .of (.data _ _ (.dead _))
       ·have : getA (killA ops.toList s) t = getA s t := q1
        rw [this]
        exact hc.slots t fun ⟨j, oj, hj, _, hd⟩ => q2 oj (List.mem_of_getElem? hj) hd.1
     ·rw [if_neg (by simp [hw])]
      rw [putD_eq, dr_eq] at hskip
      have hD := DI.effect hT hk h1 ho he hnl hedge (x := .v (.tuple #[])) (v := undef) (Nat.le_refl n) hrel1 (.of (.data _ _ (.v undef))) (fun id hid => .inl hid) fun j hj oj t y hoj hop hl hpe => .inr rfl
      exact evGo_sound hT hk _ _ _ _ hskip hD fun E' s' n' hb' hi' => ih _ E' (i :: S) (A ++ FL) s' L1 n' G _ w fuel hfew hi' hFL1' hb'
theorem draw_ok (hT : TOk P TT) (hm : P.follows .mixedOrders = true) : DOk P (draw P TT) := by
 intro B id ops s L n K G a w h hr
 unfold draw at h
 split at h
 ·rename_i hok
  have hk := okD_spec hok
  rw [dr_eq] at h
  refine wp_region_any hm ?_
  have hlst : ∀ j, ¬ Lst (Array.replicate ops.size false) j := fun j hl => by
   unfold Lst at hl
   rw [Array.getD_eq_getD_getElem?, Array.getElem?_replicate] at hl
   split at hl <;> cases hl
  have hp : pendL TT ops.toList s [] (fun j => (Array.replicate ops.size false).getD j false) = [] := by
   unfold pendL allocsOf
   rw [List.filter_eq_nil_iff.2]
   ·rfl
   ·intro j _
    have : (Array.replicate ops.size false).getD j false = false := by
     cases hx : (Array.replicate ops.size false).getD j false
     ·rfl
     ·exact absurd hx (hlst j)
    simp only [this]
    split <;> simp
  have hi : DI P TT B ops.toList (Array.replicate ops.size false) [] [] [] s L n G a { w with drawn := w.drawn + 1 } := by
   refine ⟨by simp, fun j o _ hl => absurd hl (hlst j), fun j o _ _ => ⟨fun hl => absurd hl (hlst j), (fun h => by cases h)⟩, (fun j h => by cases h), (fun j h => by cases h), fun j o _ _ hl => absurd hl (hlst j), ?_, (fun j h => by cases h), (fun j h => by cases h), (fun j h => by cases h)⟩
   rw [hp, List.append_nil]
   exact ⟨hr.size, fun t _ => hr.slots t fun h => h, hr.defers, ⟨hr.holds.X, hr.holds.res, hr.holds.ids, hr.holds.live, hr.holds.blocks, hr.holds.lits⟩,
    ⟨hr.step.os, hr.step.tape, hr.step.output, hr.step.size, hr.step.base, hr.step.X, hr.step.frame, hr.step.newX, hr.step.newB, hr.step.live, hr.step.newI, hr.step.lits, hr.step.newL⟩, hr.next, hr.base, hr.low, hr.old⟩
  refine evGo_sound hT hk _ _ _ _ h hi fun E' s' n' hb hi' => ?_
  refine dr_sound hT hk ops.size _ E' [] [] s' L n' G a _ _ ?_ hi' (fun j h => by cases h) hb
  refine Nat.le_trans (List.length_filter_le _ _) ?_
  simp
 ·exact h.elim
end
end Go.Am
namespace Go.Am
open Go.RowKit
def inM (m i : Nat) : Bool := Nat.beq (Nat.mod (Nat.shiftRight m i) 2) 1
def addM (m i : Nat) : Nat := Nat.lor m (Nat.shiftLeft 1 i)
def avM (pm E S : Nat) : Bool := Nat.beq (Nat.land pm (Nat.lor E S)) pm
theorem inM_eq (m i : Nat) : inM m i = m.testBit i := by
 unfold inM
 rw [Nat.testBit_eq_decide_div_mod_eq]
 rw [show Nat.shiftRight m i = m / 2 ^ i from Nat.shiftRight_eq_div_pow m i]
 by_cases h : m / 2 ^ i % 2 = 1
 ·rw [decide_eq_true h]
  rw [Nat.beq_eq]; exact h
 ·rw [decide_eq_false h]
  exact Bool.eq_false_iff.2 fun h2 => h (Nat.eq_of_beq_eq_true h2)
theorem addM_in (m j i : Nat) : inM (addM m j) i = (inM m i || Nat.beq i j) := by
 rw [inM_eq, inM_eq]
 unfold addM
 rw [show Nat.lor m (Nat.shiftLeft 1 j) = m ||| 1 <<< j from rfl, Nat.testBit_or, Nat.one_shiftLeft, Nat.testBit_two_pow]
 congr 1
 by_cases h : j = i
 ·subst h; simp
 ·rw [decide_eq_false h]
  exact (Bool.eq_false_iff.2 fun h2 => h (Nat.eq_of_beq_eq_true h2).symm).symm
def Rep (l : List Nat) (m : Nat) : Prop := ∀ i, memB i l = inM m i
theorem Rep.nil : Rep [] 0 := fun i => by rw [inM_eq]; simp [memB]
theorem Rep.cons {l : List Nat} {m j : Nat} (h : Rep l m) : Rep (j :: l) (addM m j) := fun i => by
 rw [addM_in, ← h i, Bool.or_comm]; rfl
def addL : List Nat → Nat → Nat
 | [], m => m
 | j :: l, m => addM (addL l m) j
theorem Rep.append {l : List Nat} {m : Nat} (h : Rep l m) : ∀ a : List Nat, Rep (a ++ l) (addL a m)
 | [] => h
 | j :: a => (Rep.append h a).cons
theorem land_all (p q : Nat) : Nat.beq (Nat.land p q) p = true ↔ ∀ i, p.testBit i = true → q.testBit i = true := by
 constructor
 ·intro h i hi
  have h1 : p &&& q = p := Nat.eq_of_beq_eq_true h
  have h2 : (p &&& q).testBit i = true := by rw [h1]; exact hi
  rw [Nat.testBit_and, Bool.and_eq_true] at h2
  exact h2.2
 ·intro h
  have h1 : p &&& q = p := Nat.eq_of_testBit_eq fun i => by
   rw [Nat.testBit_and]
   cases hp : p.testBit i with
   | false => rfl
   | true => rw [h i hp]; rfl
  rw [Nat.beq_eq]; exact h1
def RepP (pr : List (List Nat)) (pm : List Nat) : Prop := ∀ j, Rep (pr.getD j []) (pm.getD j 0)
theorem avail_eq {pr : List (List Nat)} {pm E S : List Nat} {em sm : Nat} (hp : RepP pr pm) (hE : Rep E em) (hS : Rep S sm) (j : Nat) : availB pr E S j = avM (pm.getD j 0) em sm := by
 unfold availB avM
 refine Bool.eq_iff_iff.2 ?_
 rw [land_all, List.all_eq_true]
 have h0 : ∀ i, i ∈ pr.getD j [] ↔ (pm.getD j 0).testBit i = true := fun i => by rw [← memB_iff, hp j i, inM_eq]
 have h1 : ∀ i, (memB i E || memB i S) = (Nat.lor em sm).testBit i := fun i => by
  rw [hE i, hS i, inM_eq, inM_eq]
  exact (Nat.testBit_or em sm i).symm
 constructor
 ·intro h i hi
  rw [← h1]; exact h i ((h0 i).2 hi)
 ·intro h i hi
  rw [h1]; exact h i ((h0 i).1 hi)
def orL : List Nat → List Nat → Nat → Nat
 | [], _, m => m
 | i :: l, acc, m => orL l acc (Nat.lor (addM m i) (acc.getD i 0))
def presM : List Nat → List Oper → List Nat
 | acc, [] => acc
 | acc, o :: r => presM (acc ++ [orL (edgesOf o) acc 0]) r
theorem addN_memB (l : List Nat) : ∀ (a : List Nat) (i : Nat), memB i (addN l a) = (memB i l || memB i a) := by
 induction l with
 | nil => intro a i; rfl
 | cons j l ih =>
  intro a i
  unfold addN
  split
  ·rename_i h
   rw [ih]
   show _ = ((Nat.beq i j || memB i l) || memB i a)
   by_cases e : i = j
   ·subst e; rw [h]; simp
   ·have : Nat.beq i j = false := Bool.eq_false_iff.2 fun h2 => e (Nat.eq_of_beq_eq_true h2)
    rw [this]; simp
  ·rw [ih]
   show (memB i l || (Nat.beq i j || memB i a)) = ((Nat.beq i j || memB i l) || memB i a)
   cases Nat.beq i j <;> cases memB i l <;> simp
theorem memB_append (i : Nat) : ∀ (a b : List Nat), memB i (a ++ b) = (memB i a || memB i b)
 | [], b => rfl
 | x :: a, b => by show (Nat.beq i x || memB i (a ++ b)) = _; rw [memB_append i a b, ← Bool.or_assoc]; rfl
theorem orL_in {acc : List (List Nat)} {am : List Nat} (h : RepP acc am) (i : Nat) : ∀ (l : List Nat) (m : Nat), inM (orL l am m) i = (inM m i || (memB i l || memB i (l.flatMap fun j => acc.getD j [])))
 | [], m => by simp [orL, memB]
 | j :: l, m => by
  unfold orL
  rw [orL_in h i l, List.flatMap_cons, memB_append]
  have e : inM (Nat.lor (addM m j) (am.getD j 0)) i = ((inM m i || Nat.beq i j) || memB i (acc.getD j [])) := by
   rw [inM_eq, show Nat.lor (addM m j) (am.getD j 0) = addM m j ||| am.getD j 0 from rfl, Nat.testBit_or, ← inM_eq, ← inM_eq, addM_in, h j i]
  rw [e]
  show _ = (inM m i || ((Nat.beq i j || memB i l) || _))
  cases inM m i <;> cases Nat.beq i j <;> cases memB i l <;> cases memB i (acc.getD j []) <;> simp
theorem presM_rep : ∀ (r : List Oper) (acc : List (List Nat)) (am : List Nat), acc.length = am.length → RepP acc am → RepP (presGo acc r) (presM am r)
 | [], acc, am, _, h => h
 | o :: r, acc, am, hl, h => by
  unfold presGo presM
  refine presM_rep r _ _ (by simp [hl]) fun j => ?_
  rw [List.getD_eq_getElem?_getD, List.getD_eq_getElem?_getD]
  rcases Nat.lt_trichotomy j acc.length with hj | hj | hj
  ·rw [List.getElem?_append_left hj, List.getElem?_append_left (by omega), ← List.getD_eq_getElem?_getD, ← List.getD_eq_getElem?_getD]
   exact h j
  ·subst hj
   rw [List.getElem?_append_right (Nat.le_refl _), List.getElem?_append_right (by omega)]
   simp only [Nat.sub_self, hl, List.getElem?_cons_zero, Option.getD_some]
   intro i
   rw [addN_memB, memB_append, orL_in h]
   have z : inM 0 i = false := by rw [inM_eq]; simp
   rw [z]
   simp [memB]
  ·rw [List.getElem?_append_right (by omega), List.getElem?_append_right (by omega)]
   have e1 : ([addN (edgesOf o ++ (edgesOf o).flatMap fun i => acc.getD i []) []] : List (List Nat))[j - acc.length]? = none := List.getElem?_eq_none (by simp; omega)
   have e2 : ([orL (edgesOf o) am 0] : List Nat)[j - am.length]? = none := List.getElem?_eq_none (by simp; omega)
   rw [e1, e2]
   exact Rep.nil
theorem pres_rep (all : List Oper) : RepP (pres all) (presM [] all) := presM_rep all [] [] rfl fun j => by simp [Rep, memB, inM_eq]
/-! the walk by masks -/
def evGoM (P : Program) (TT : Types) (all : List Oper) (pr : List Nat) (S : Nat) (L : Heap) : List Nat → Nat → List AV → Nat → (Nat → List AV → Nat → Prop) → Prop
 | [], E, s, n, k => k E s n
 | j :: js, E, s, n, k => match all[j]? with
  | none => evGoM P TT all pr S L js E s n k
  | some o => match isE o || (inM E j || !(avM (pr.getD j 0) E S)) with
   | true => evGoM P TT all pr S L js E s n k
   | false => match isAl o with
    | true => putD s o.dst (.ptr n 0) fun s' => match isNoneB (allocObj TT s' o) with | true => False | false => evGoM P TT all pr S L js (addM E j) s' (n + 1) k
    | false => guarded all s o (aqx P TT L s o fun av => fv av fun av => putD s o.dst av fun s' => evGoM P TT all pr S L js (addM E j) s' n k)
      (putD s o.dst (.v (.tuple #[])) fun s' => evGoM P TT all pr S L js (addM E j) s' n k)
def satBM (all : List Oper) (pr : List Nat) (E S : Nat) : Bool :=
 (List.range all.length).all fun j => match all[j]? with
  | some o => isE o || (inM E j || !(avM (pr.getD j 0) E S))
  | none => true
def allocsOfM (all : List Oper) (FL : Nat) (f : Nat → Bool) : List Nat :=
 (List.range all.length).filter fun j => match all[j]? with | some o => isAl o && (!(inM FL j) && f j) | none => false
def effsOfM (all : List Oper) (S : Nat) (f : Nat → Bool) : List Nat :=
 (List.range all.length).filter fun j => match all[j]? with | some o => isE o && (!(inM S j) && f j) | none => false
def rechkM (TT : Types) (all : List Oper) (pe E : Nat) (s : List AV) (L : Heap) : List Nat → Prop → Prop
 | [], k => k
 | j :: js, k => match all[j]? with
  | some o => match o.op, inM E j && !(inM pe j) with
   | .load t x, true => guarded all s o (opt1 o.dst fun d => opt1 (TT t) fun ti => aload L ti (ev s x) = some (getA s d)) True ∧ rechkM TT all pe E s L js k
   | _, _ => rechkM TT all pe E s L js k
  | none => rechkM TT all pe E s L js k
def drM (P : Program) (TT : Types) (all : List Oper) (pr : List Nat) (K : Kn) (KP : AV → Kn) : Nat → Nat → Nat → Nat → List AV → Heap → Nat → Prop
 | fuel, E, S, FL, s, L, n => evGoM P TT all pr S L (List.range all.length) E s n fun E s n => match satBM all pr E S with
  | false => False
  | true => match effsOfM all S (fun _ => true) with
   | [] => flush TT all s (allocsOfM all FL fun _ => true) L fun L' => forceH L' fun L'' => K s L'' n
   | _ :: _ => match fuel with
    | 0 => False
    | fuel + 1 => allK (effsOfM all S (fun j => avM (pr.getD j 0) E S)) fun e => match all[e]? with
     | none => False
     | some o => flush TT all s (allocsOfM all FL fun j => inM (pr.getD e 0) j) L fun L1 =>
      guarded all s o (aop P TT o s L1 n (fun av L2 n2 => putD s o.dst av fun s2 => forceH L2 fun L3 => rechkM TT all (pr.getD e 0) E s2 L3 (List.range all.length)
        (drM P TT all pr K KP fuel E (addM S e) (addL (allocsOfM all FL (fun j => inM (pr.getD e 0) j)) FL) s2 L3 n2)) (fun x L2 n2 => KP x (killA all s) L2 n2))
       (putD s o.dst (.v (.tuple #[])) fun s2 => drM P TT all pr K KP fuel E (addM S e) (addL (allocsOfM all FL (fun j => inM (pr.getD e 0) j)) FL) s2 L1 n)
section
variable {P : Program} {TT : Types} {all : List Oper} {pr : List (List Nat)} {pm : List Nat}
theorem evGoM_eq (hp : RepP pr pm) {S : List Nat} {sm : Nat} (hS : Rep S sm) {L : Heap} {k : List Nat → List AV → Nat → Prop} {km : Nat → List AV → Nat → Prop} (hk : ∀ E em s n, Rep E em → k E s n = km em s n) :
  ∀ (js E : List Nat) (em : Nat) (s : List AV) (n : Nat), Rep E em → evGo P TT all pr S L js E s n k = evGoM P TT all pm sm L js em s n km
 | [], E, em, s, n, hE => hk E em s n hE
 | j :: js, E, em, s, n, hE => by
  have h1 := fun s n => evGoM_eq hp hS (L := L) hk js (j :: E) (addM em j) s n hE.cons
  have h0 := evGoM_eq hp hS (L := L) hk js E em s n hE
  unfold evGo evGoM
  rw [hE j, avail_eq hp hE hS j]
  simp only [h1, h0]
  try rfl
theorem satBM_eq (hp : RepP pr pm) {E S : List Nat} {em sm : Nat} (hE : Rep E em) (hS : Rep S sm) : satB all pr E S = satBM all pm em sm := by
 unfold satB satBM
 congr 1
 funext j
 rw [hE j, avail_eq hp hE hS j]
 try rfl
theorem allocsM_eq {FL : List Nat} {fm : Nat} (h : Rep FL fm) (f : Nat → Bool) : allocsOf all FL f = allocsOfM all fm f := by
 unfold allocsOf allocsOfM
 congr 1
 funext j
 rw [h j]
 try rfl
theorem effsM_eq {S : List Nat} {sm : Nat} (h : Rep S sm) (f : Nat → Bool) : effsOf all S f = effsOfM all sm f := by
 unfold effsOf effsOfM
 congr 1
 funext j
 rw [h j]
 try rfl
theorem rechkM_eq {pe E : List Nat} {pem em : Nat} (h1 : Rep pe pem) (h2 : Rep E em) {s : List AV} {L : Heap} {k : Prop} : ∀ js : List Nat, rechk TT all pe E s L js k = rechkM TT all pem em s L js k
 | [] => rfl
 | j :: js => by
  have ih := rechkM_eq h1 h2 (s := s) (L := L) (k := k) js
  unfold rechk rechkM
  rw [h1 j, h2 j]
  simp only [ih]
  try rfl
theorem drM_eq (hp : RepP pr pm) {K : Kn} {KP : AV → Kn} : ∀ (fuel : Nat) {E S FL : List Nat} {em sm fm : Nat} (s : List AV) (L : Heap) (n : Nat), Rep E em → Rep S sm → Rep FL fm → dr P TT all pr K KP fuel E S FL s L n = drM P TT all pm K KP fuel em sm fm s L n := by
 intro fuel
 induction fuel with
 | zero =>
  intro E S FL em sm fm s L n hE hS hF
  unfold dr drM
  refine evGoM_eq hp hS (fun E em s n hE => ?_) _ _ _ _ _ hE
  rw [satBM_eq hp hE hS, effsM_eq hS, allocsM_eq hF]
  try rfl
 | succ fuel ih =>
  intro E S FL em sm fm s L n hE hS hF
  unfold dr drM
  refine evGoM_eq hp hS (fun E em s n hE => ?_) _ _ _ _ _ hE
  have e1 : availB pr E S = fun j => avM (pm.getD j 0) em sm := funext fun j => avail_eq hp hE hS j
  have e2 : ∀ e, (fun j => memB j (pr.getD e [])) = fun j => inM (pm.getD e 0) j := fun e => funext fun j => hp e j
  have e3 : ∀ e s2 L3 n2, dr P TT all pr K KP fuel E (e :: S) (allocsOfM all fm (fun j => inM (pm.getD e 0) j) ++ FL) s2 L3 n2 = drM P TT all pm K KP fuel em (addM sm e) (addL (allocsOfM all fm (fun j => inM (pm.getD e 0) j)) fm) s2 L3 n2 := fun e s2 L3 n2 => ih s2 L3 n2 hE hS.cons (hF.append _)
  have e4 : ∀ e s2 L3 k, rechk TT all (pr.getD e []) E s2 L3 (List.range all.length) k = rechkM TT all (pm.getD e 0) em s2 L3 (List.range all.length) k := fun e s2 L3 k => rechkM_eq (hp e) hE _
  rw [satBM_eq hp hE hS, effsM_eq hS, effsM_eq hS, e1, allocsM_eq hF]
  simp only [allocsM_eq hF, e2, e3, e4]
  try rfl
theorem drawM {id : Nat} {s : List AV} {L : Heap} {n : Nat} {Kk : Kc} (hok : okD all = true) (h : drM P TT all (presM [] all) (Kk .normal) (fun x => Kk (.panic x)) all.length 0 0 0 s L n) : draw P TT id all s L n Kk := by
 unfold draw
 rw [hok]
 show dr P TT all (pres all) (Kk .normal) (fun x => Kk (.panic x)) all.length [] [] [] s L n
 rw [drM_eq (pres_rep all) all.length s L n Rep.nil Rep.nil Rep.nil]
 exact h
end
end Go.Am
namespace Go.Am
open Go.RowKit
def forceN : List Nat → (List Nat → Prop) → Prop
 | [], k => k []
 | a :: l, k => forceN l fun l' => k (a :: l')
theorem forceN_eq : ∀ (l : List Nat) (k : List Nat → Prop), forceN l k = k l
 | [], k => rfl
 | a :: l, k => forceN_eq l _
theorem forceN_to {l l' : List Nat} (h : ∀ k : List Nat → Prop, k l' → forceN l k) : l = l' := by
 have := h (fun x => x = l') rfl
 rwa [forceN_eq] at this
def forceNat (n : Nat) (k : Nat → Prop) : Prop := match n with
 | 0 => k 0
 | m + 1 => k (m + 1)
theorem forceNat_eq (n : Nat) (k : Nat → Prop) : forceNat n k = k n := by cases n <;> rfl
theorem forceNat_to {n n' : Nat} (h : ∀ k : Nat → Prop, k n' → forceNat n k) : n = n' := by
 have := h (fun x => x = n') rfl
 rwa [forceNat_eq] at this
def presK (acc : List Nat) : List Oper → (List Nat → Prop) → Prop
 | [], k => k acc
 | o :: r, k => forceNat (orL (edgesOf o) acc 0) fun m => forceN (acc ++ [m]) fun acc' => presK acc' r k
theorem presK_eq : ∀ (r : List Oper) (acc : List Nat) (k : List Nat → Prop), presK acc r k = k (presM acc r)
 | [], acc, k => rfl
 | o :: r, acc, k => by unfold presK presM; rw [forceNat_eq, forceN_eq, presK_eq r]
theorem presK_to {all : List Oper} {pr : List Nat} (h : ∀ k : List Nat → Prop, k pr → presK [] all k) : presM [] all = pr := by
 have := h (fun x => x = pr) rfl
 rwa [presK_eq] at this
def drBM (P : Program) (TT : Types) (all : List Oper) (pr : List Nat) (K : Kn) (KP : AV → Kn) (fuel : Nat) (S FL : Nat) (L : Heap) : Nat → List AV → Nat → Prop := fun E s n => match satBM all pr E S with
  | false => False
  | true => match effsOfM all S (fun _ => true) with
   | [] => flush TT all s (allocsOfM all FL fun _ => true) L fun L' => forceH L' fun L'' => K s L'' n
   | _ :: _ => match fuel with
    | 0 => False
    | fuel + 1 => allK (effsOfM all S (fun j => avM (pr.getD j 0) E S)) fun e => match all[e]? with
     | none => False
     | some o => flush TT all s (allocsOfM all FL fun j => inM (pr.getD e 0) j) L fun L1 =>
      guarded all s o (aop P TT o s L1 n (fun av L2 n2 => putD s o.dst av fun s2 => forceH L2 fun L3 => rechkM TT all (pr.getD e 0) E s2 L3 (List.range all.length)
        (drM P TT all pr K KP fuel E (addM S e) (addL (allocsOfM all FL (fun j => inM (pr.getD e 0) j)) FL) s2 L3 n2)) (fun x L2 n2 => KP x (killA all s) L2 n2))
       (putD s o.dst (.v (.tuple #[])) fun s2 => drM P TT all pr K KP fuel E (addM S e) (addL (allocsOfM all FL (fun j => inM (pr.getD e 0) j)) FL) s2 L1 n)
theorem drM_eqB {P : Program} {TT : Types} {all : List Oper} {pr : List Nat} {K : Kn} {KP : AV → Kn} (fuel : Nat) (E S FL : Nat) (s : List AV) (L : Heap) (n : Nat) :
  drM P TT all pr K KP fuel E S FL s L n = evGoM P TT all pr S L (List.range all.length) E s n (drBM P TT all pr K KP fuel S FL L) := by
 cases fuel <;> (unfold drM; rfl)
section
variable {P : Program} {TT : Types} {all : List Oper} {pr : List Nat} {E S FL E' S' FL' : Nat} {A js : List Nat} {s s' : List AV} {L L1 L2 : Heap} {n n' fuel e j : Nat} {K : Kn} {KP : AV → Kn} {o : Oper} {av : AV} {k : Nat → List AV → Nat → Prop} {Kk : Kc}
theorem d_start {id : Nat} (hok : okD all = true) (hp : ∀ k : List Nat → Prop, k pr → presK [] all k) (hr : ∀ k : List Nat → Prop, k js → forceN (List.range all.length) k) (h : evGoM P TT all pr 0 L js 0 s n (drBM P TT all pr (Kk .normal) (panK Kk) all.length 0 0 L)) : draw P TT id all s L n Kk := by
 refine drawM hok ?_
 rw [drM_eqB, presK_to hp, forceN_to hr]
 exact h
theorem v_nil (h : k E s n) : evGoM P TT all pr S L [] E s n k := h
theorem v_skip (hj : all[j]? = some o) (hc : (isE o || (inM E j || !(avM (pr.getD j 0) E S))) = true) (h : evGoM P TT all pr S L js E s n k) : evGoM P TT all pr S L (j :: js) E s n k := by
 unfold evGoM; rw [hj]; simp only; rw [hc]; exact h
theorem v_alloc {r : Nat × Res} (hj : all[j]? = some o) (hal : isAl o = true) (hc : (isE o || (inM E j || !(avM (pr.getD j 0) E S))) = false) (hs : ∀ k : List AV → Prop, k s' → putD s o.dst (.ptr n 0) k) (hr : allocObj TT s' o = some r) (h : evGoM P TT all pr S L js E' s' (n + 1) k) (hE : ∀ k : Nat → Prop, k E' → forceNat (addM E j) k := by exact fun _ h => h) : evGoM P TT all pr S L (j :: js) E s n k := by
 obtain rfl := forceNat_to hE
 unfold evGoM; rw [hj]; simp only; rw [hc, hal]
 refine hs _ ?_
 simp only [hr]
 exact h
theorem v_q (hj : all[j]? = some o) (hg : o.guard = none) (hal : isAl o = false) (hc : (isE o || (inM E j || !(avM (pr.getD j 0) E S))) = false) (hC : ∀ K : AV → Prop, K av → aq P TT L (ev s) (raw s) o fun x => fv x K) (hs : ∀ k : List AV → Prop, k s' → putD s o.dst av k)
  (h : evGoM P TT all pr S L js E' s' n k) (hE : ∀ k : Nat → Prop, k E' → forceNat (addM E j) k := by exact fun _ h => h) : evGoM P TT all pr S L (j :: js) E s n k := by
 obtain rfl := forceNat_to hE
 unfold evGoM; rw [hj]; simp only; rw [hc, hal]; simp only
 unfold guarded; rw [hg]
 exact .inl (hC _ (hs _ h))
theorem v_qS {p : Prop} (hj : all[j]? = some o) (hg : o.guard = none) (hal : isAl o = false) (hc : (isE o || (inM E j || !(avM (pr.getD j 0) E S))) = false) (hC : ∀ K : AV → Prop, p ∧ K av → aq P TT L (ev s) (raw s) o fun x => fv x K) (hs : ∀ k : List AV → Prop, k s' → putD s o.dst av k) (hp : p)
  (h : evGoM P TT all pr S L js E' s' n k) (hE : ∀ k : Nat → Prop, k E' → forceNat (addM E j) k := by exact fun _ h => h) : evGoM P TT all pr S L (j :: js) E s n k :=
 v_q hj hg hal hc (fun K hk => hC K ⟨hp, hk⟩) hs h hE
theorem v_yes {g d : Nat} {want : Bool} (hj : all[j]? = some o) (hg : o.guard = some (g, want)) (hal : isAl o = false) (hd : (all[g]?).bind (·.dst) = some d) (hb : getA s d = .v (.bool want)) (hc : (isE o || (inM E j || !(avM (pr.getD j 0) E S))) = false)
  (hC : ∀ K : AV → Prop, K av → aq P TT L (ev s) (raw s) o fun x => fv x K) (hs : ∀ k : List AV → Prop, k s' → putD s o.dst av k) (h : evGoM P TT all pr S L js E' s' n k) (hE : ∀ k : Nat → Prop, k E' → forceNat (addM E j) k := by exact fun _ h => h) : evGoM P TT all pr S L (j :: js) E s n k := by
 obtain rfl := forceNat_to hE
 unfold evGoM; rw [hj]; simp only; rw [hc, hal]; simp only
 unfold guarded; rw [hg]; simp only [hd, hb]
 cases want <;> (refine .inl (hC _ ?_); exact hs _ h)
theorem v_yesS {p : Prop} {g d : Nat} {want : Bool} (hj : all[j]? = some o) (hg : o.guard = some (g, want)) (hal : isAl o = false) (hd : (all[g]?).bind (·.dst) = some d) (hb : getA s d = .v (.bool want)) (hc : (isE o || (inM E j || !(avM (pr.getD j 0) E S))) = false)
  (hC : ∀ K : AV → Prop, p ∧ K av → aq P TT L (ev s) (raw s) o fun x => fv x K) (hs : ∀ k : List AV → Prop, k s' → putD s o.dst av k) (hp : p) (h : evGoM P TT all pr S L js E' s' n k) (hE : ∀ k : Nat → Prop, k E' → forceNat (addM E j) k := by exact fun _ h => h) : evGoM P TT all pr S L (j :: js) E s n k :=
 v_yes hj hg hal hd hb hc (fun K hk => hC K ⟨hp, hk⟩) hs h hE
theorem v_no {g d : Nat} {want : Bool} (hj : all[j]? = some o) (hg : o.guard = some (g, want)) (hal : isAl o = false) (hd : (all[g]?).bind (·.dst) = some d) (hb : getA s d = .v (.bool (!want))) (hc : (isE o || (inM E j || !(avM (pr.getD j 0) E S))) = false)
  (hs : ∀ k : List AV → Prop, k s' → putD s o.dst (.v (.tuple #[])) k) (h : evGoM P TT all pr S L js E' s' n k) (hE : ∀ k : Nat → Prop, k E' → forceNat (addM E j) k := by exact fun _ h => h) : evGoM P TT all pr S L (j :: js) E s n k := by
 obtain rfl := forceNat_to hE
 unfold evGoM; rw [hj]; simp only; rw [hc, hal]; simp only
 unfold guarded; rw [hg]; simp only [hd, hb]
 cases want <;> (show putD s o.dst (.v (.tuple #[])) (fun s' => evGoM P TT all pr S L js (addM E j) s' n k); exact hs _ h)
theorem v_not {g d : Nat} {want : Bool} {vs : Array Value} (hj : all[j]? = some o) (hg : o.guard = some (g, want)) (hal : isAl o = false) (hd : (all[g]?).bind (·.dst) = some d) (hb : getA s d = .v (.tuple vs)) (hc : (isE o || (inM E j || !(avM (pr.getD j 0) E S))) = false)
  (hs : ∀ k : List AV → Prop, k s' → putD s o.dst (.v (.tuple #[])) k) (h : evGoM P TT all pr S L js E' s' n k) (hE : ∀ k : Nat → Prop, k E' → forceNat (addM E j) k := by exact fun _ h => h) : evGoM P TT all pr S L (j :: js) E s n k := by
 obtain rfl := forceNat_to hE
 unfold evGoM; rw [hj]; simp only; rw [hc, hal]; simp only
 unfold guarded; rw [hg]; simp only [hd, hb]
 show putD s o.dst (.v (.tuple #[])) (fun s' => evGoM P TT all pr S L js (addM E j) s' n k)
 exact hs _ h
theorem v_split {g d : Nat} {want b : Bool} (hj : all[j]? = some o) (hg : o.guard = some (g, want)) (hd : (all[g]?).bind (·.dst) = some d) (hb : getA s d = .v (.bool b)) (h1 : b = true → evGoM P TT all pr S L (j :: js) E s n k) (h2 : b = false → evGoM P TT all pr S L (j :: js) E s n k) : evGoM P TT all pr S L (j :: js) E s n k := by
 cases b
 ·exact h2 rfl
 ·exact h1 rfl
theorem is_ev (h : evGoM P TT all pr S L (j :: js) E s n k) : evGoM P TT all pr S L (j :: js) E s n k := h
theorem is_drB (h : drBM P TT all pr K KP fuel S FL L E s n) : drBM P TT all pr K KP fuel S FL L E s n := h
def effK (P : Program) (TT : Types) (all : List Oper) (pr : List Nat) (K : Kn) (KP : AV → Kn) (fuel : Nat) (E S FL : Nat) (e : Nat) (s : List AV) (d : Option Nat) : AV → Heap → Nat → Prop := fun av L2 n2 => putD s d av fun s2 => forceH L2 fun L3 => rechkM TT all (pr.getD e 0) E s2 L3 (List.range all.length) (drM P TT all pr K KP fuel E (addM S e) FL s2 L3 n2)
def effP (all : List Oper) (s : List AV) (KP : AV → Kn) : AV → Heap → Nat → Prop := fun x L2 n2 => KP x (killA all s) L2 n2
theorem b_end (he : effsOfM all S (fun _ => true) = []) (hsat : satBM all pr E S = true) (hA : ∀ k : List Nat → Prop, k A → forceN (allocsOfM all FL (fun _ => true)) k) (hf : ∀ k : Heap → Prop, k L1 → flush TT all s A L fun L => forceH L k) (h : K s L1 n) : drBM P TT all pr K KP fuel S FL L E s n := by
 unfold drBM; rw [hsat]; simp only; rw [he]; simp only; rw [forceN_to hA]
 exact hf (fun L' => K s L' n) h
theorem b_eff {e0 : Nat} {es : List Nat} (he0 : effsOfM all S (fun _ => true) = e0 :: es) (he : effsOfM all S (fun j => avM (pr.getD j 0) E S) = [e]) (ho : all[e]? = some o) (hg : o.guard = none) (hA : ∀ k : List Nat → Prop, k A → forceN (allocsOfM all FL (fun j => inM (pr.getD e 0) j)) k) (hf : ∀ k : Heap → Prop, k L1 → flush TT all s A L k) (hsat : satBM all pr E S = true)
  (h : aop P TT o s L1 n (effK P TT all pr K KP fuel E S FL' e s o.dst) (effP all s KP)) (hF' : ∀ k : Nat → Prop, k FL' → forceNat (addL A FL) k := by exact fun _ h => h) : drBM P TT all pr K KP (fuel + 1) S FL L E s n := by
 obtain rfl := forceNat_to hF'
 unfold drBM; rw [hsat]; simp only; rw [he0]; simp only; rw [he]
 simp only [allK, ho, forceN_to hA]
 refine hf _ ?_
 unfold guarded; rw [hg]
 exact h
theorem b_yes {e0 g d : Nat} {want : Bool} {es : List Nat} (he0 : effsOfM all S (fun _ => true) = e0 :: es) (he : effsOfM all S (fun j => avM (pr.getD j 0) E S) = [e]) (ho : all[e]? = some o) (hg : o.guard = some (g, want)) (hA : ∀ k : List Nat → Prop, k A → forceN (allocsOfM all FL (fun j => inM (pr.getD e 0) j)) k) (hf : ∀ k : Heap → Prop, k L1 → flush TT all s A L k) (hd : (all[g]?).bind (·.dst) = some d) (hb : getA s d = .v (.bool want)) (hsat : satBM all pr E S = true)
  (h : aop P TT o s L1 n (effK P TT all pr K KP fuel E S FL' e s o.dst) (effP all s KP)) (hF' : ∀ k : Nat → Prop, k FL' → forceNat (addL A FL) k := by exact fun _ h => h) : drBM P TT all pr K KP (fuel + 1) S FL L E s n := by
 obtain rfl := forceNat_to hF'
 unfold drBM; rw [hsat]; simp only; rw [he0]; simp only; rw [he]
 simp only [allK, ho, forceN_to hA]
 refine hf _ ?_
 unfold guarded; rw [hg]; simp only [hd, hb]
 cases want <;> exact h
theorem b_no {e0 g d : Nat} {want : Bool} {es : List Nat} (he0 : effsOfM all S (fun _ => true) = e0 :: es) (he : effsOfM all S (fun j => avM (pr.getD j 0) E S) = [e]) (ho : all[e]? = some o) (hg : o.guard = some (g, want)) (hA : ∀ k : List Nat → Prop, k A → forceN (allocsOfM all FL (fun j => inM (pr.getD e 0) j)) k) (hf : ∀ k : Heap → Prop, k L1 → flush TT all s A L k) (hd : (all[g]?).bind (·.dst) = some d) (hb : getA s d = .v (.bool (!want))) (hsat : satBM all pr E S = true)
  (hs : ∀ k : List AV → Prop, k s' → putD s o.dst (.v (.tuple #[])) k) (hr : ∀ k : List Nat → Prop, k js → forceN (List.range all.length) k) (h : evGoM P TT all pr S' L1 js E s' n (drBM P TT all pr K KP fuel S' FL' L1)) (hS' : ∀ k : Nat → Prop, k S' → forceNat (addM S e) k := by exact fun _ h => h) (hF' : ∀ k : Nat → Prop, k FL' → forceNat (addL A FL) k := by exact fun _ h => h) : drBM P TT all pr K KP (fuel + 1) S FL L E s n := by
 obtain rfl := forceNat_to hS'
 obtain rfl := forceNat_to hF'
 unfold drBM; rw [hsat]; simp only; rw [he0]; simp only; rw [he]
 simp only [allK, ho, forceN_to hA]
 refine hf _ ?_
 unfold guarded; rw [hg]; simp only [hd, hb]
 have h' := h
 rw [← forceN_to hr, ← drM_eqB] at h'
 cases want <;> (show putD s o.dst (.v (.tuple #[])) (fun s2 => drM P TT all pr K KP fuel E (addM S e) (addL A FL) s2 L1 n); exact hs _ h')
theorem k_eff {d : Option Nat} (hs : ∀ k : List AV → Prop, k s' → putD s d av k) (hL : ∀ k : Heap → Prop, k L2 → forceH L1 k) (hr : ∀ k : List Nat → Prop, k js → forceN (List.range all.length) k) (hc : ∀ k : Prop, k → rechkM TT all (pr.getD e 0) E s' L2 js k) (h : evGoM P TT all pr S' L2 js E s' n (drBM P TT all pr K KP fuel S' FL L2)) (hS' : ∀ k : Nat → Prop, k S' → forceNat (addM S e) k := by exact fun _ h => h) :
  effK P TT all pr K KP fuel E S FL e s d av L1 n := by
 obtain rfl := forceNat_to hS'
 refine hs _ (hL _ ?_)
 rw [forceN_to hr]
 refine hc _ ?_
 rw [drM_eqB, forceN_to hr]; exact h
theorem k_effc {d : Option Nat} {x : AV} (hx : ∀ k : AV → Prop, k av → fv x k) (hs : ∀ k : List AV → Prop, k s' → putD s d av k) (hL : ∀ k : Heap → Prop, k L2 → forceH L1 k) (hr : ∀ k : List Nat → Prop, k js → forceN (List.range all.length) k) (hc : ∀ k : Prop, k → rechkM TT all (pr.getD e 0) E s' L2 js k) (h : evGoM P TT all pr S' L2 js E s' n (drBM P TT all pr K KP fuel S' FL L2)) (hS' : ∀ k : Nat → Prop, k S' → forceNat (addM S e) k := by exact fun _ h => h) :
  effK P TT all pr K KP fuel E S FL e s d x L1 n := by
 have e : x = av := by
  have := hx (fun y => y = av) rfl
  rwa [fv_eq] at this
 subst e
 exact k_eff hs hL hr hc h hS'
theorem is_effK {d : Option Nat} (h : effK P TT all pr K KP fuel E S FL e s d av L1 n) : effK P TT all pr K KP fuel E S FL e s d av L1 n := h
end
end Go.Am
namespace Go.Am
open Go.RowKit
structure Wk (a b : AV) : Prop where
 slot : ∀ G x, Slot G a x → Slot G b x
 sim : ∀ G x, Sim G a x → Sim G b x
theorem Wk.refl (a : AV) : Wk a a := ⟨fun _ _ h => h, fun _ _ h => h⟩
theorem Wk.trans {a b c : AV} (h : Wk a b) (k : Wk b c) : Wk a c := ⟨fun G x s => k.slot G x (h.slot G x s), fun G x s => k.sim G x (h.sim G x s)⟩
theorem Wk.dead (a : AV) : Wk a .dead := ⟨fun _ _ _ => .of (.data _ _ (.dead _)), fun _ _ _ => .data _ _ (.dead _)⟩
theorem sim_free {G : Ghost} {rows : List (List AV)} {o : Own} {x : Value} (h : Sim G (.list rows o) x) : Sim G (.list rows .free) x := by
 cases h with
 | data _ _ h => exact .data _ _ h.free
 | tok _ k _ _ h => exact .data _ _ h
theorem Wk.free (rows : List (List AV)) (o : Own) : Wk (.list rows o) (.list rows .free) :=
 ⟨fun G x h => by
  refine .of ?_
  have := h.down
  unfold AV.down at this
  split at this
  ·rename_i h0; cases h0; exact sim_free this
  ·exact sim_free this, fun G x h => sim_free h⟩
inductive WkL : List AV → List AV → Prop
 | nil : WkL [] []
 | cons {a b : AV} {s t : List AV} (h : Wk a b) (hs : WkL s t) : WkL (a :: s) (b :: t)
theorem WkL.refl : ∀ s, WkL s s
 | [] => .nil
 | a :: s => .cons (.refl a) (WkL.refl s)
theorem WkL.len {s t : List AV} (h : WkL s t) : s.length = t.length := by
 induction h with
 | nil => rfl
 | cons _ _ ih => simp [ih]
theorem WkL.get {s t : List AV} (h : WkL s t) : ∀ (i : Nat) (b : AV), t[i]? = some b → ∃ a, s[i]? = some a ∧ Wk a b := by
 induction h with
 | nil => intro i b hb; simp at hb
 | @cons a b s t h1 _ ih =>
  intro i c hc
  cases i with
  | zero => simp at hc; subst hc; exact ⟨a, rfl, h1⟩
  | succ i => exact ih i c hc
theorem WkL.getA {s t : List AV} (h : WkL s t) : ∀ i, Wk (getA s i) (getA t i) := by
 induction h with
 | nil => intro i; exact .refl _
 | cons h1 _ ih =>
  intro i
  cases i with
  | zero => exact h1
  | succ i => exact ih i
inductive WkR : Nat × Res → Nat × Res → Prop
 | box (id : Nat) {l l' : List AV} (h : WkL l l') : WkR (id, .box l) (id, .box l')
 | refl (r : Nat × Res) : WkR r r
theorem LeA.agg' {l l' : List AV} (h : LeL l l') : LeA (.agg l) (.agg l') := fun G x hx => by
 obtain ⟨vs, rfl, h1, h2⟩ := Sim.agg_inv hx
 refine .agg _ _ (by rw [← h.len]; exact h1) fun i a ha => ?_
 obtain ⟨b, hb, hle⟩ := h.get i a ha
 exact hle _ _ (h2 i b hb)
theorem WkR.eq {r r' : Nat × Res} (h : r = r') : WkR r r' := by subst h; exact .refl _
inductive WkH : Heap → Heap → Prop
 | nil : WkH [] []
 | cons {r r' : Nat × Res} {H H' : Heap} (h : WkR r r') (hs : WkH H H') : WkH (r :: H) (r' :: H')
theorem WkH.refl : ∀ H, WkH H H
 | [] => .nil
 | r :: H => .cons (.refl r) (WkH.refl H)
theorem WkR.holds {G : Ghost} {w : World} {r r' : Nat × Res} (h : WkR r r') (hr : ResHolds G w r) : ResHolds G w r' ∧ r'.1 = r.1 ∧ G.placed r' = G.placed r := by
 cases h with
 | refl => exact ⟨hr, rfl, rfl⟩
 | @box id l l' h =>
  refine ⟨?_, rfl, rfl⟩
  obtain ⟨h0, arr, E, fr, h1, h2, h3, h4⟩ := hr
  refine ⟨h0, arr, E, fr, h1, by rw [← h.len]; exact h2, h3, fun i b hb => ?_⟩
  obtain ⟨a, ha, hw⟩ := h.get i b hb
  exact hw.sim _ _ (h4 i a ha)
theorem WkH.all {G : Ghost} {w : World} {H H' : Heap} (h : WkH H H') (hr : ∀ r ∈ H, ResHolds G w r) : (∀ r ∈ H', ResHolds G w r) ∧ H'.map (·.1) = H.map (·.1) ∧ blocksOf G H' = blocksOf G H := by
 induction h with
 | nil => exact ⟨fun r hr => (List.not_mem_nil hr).elim, rfl, rfl⟩
 | @cons r r' H H' h1 _ ih =>
  obtain ⟨a1, a2, a3⟩ := h1.holds (hr r (by simp))
  obtain ⟨b1, b2, b3⟩ := ih fun r hm => hr r (List.mem_cons_of_mem _ hm)
  refine ⟨fun r hm => ?_, by simp [a2, b2], ?_⟩
  ·rcases List.mem_cons.1 hm with rfl | hm
   ·exact a1
   ·exact b1 r hm
  ·unfold blocksOf at b3 ⊢
   simp only [List.filterMap_cons, a3, b3]
theorem Conv.wk {s t : List AV} {L L' : Heap} {n : Nat} (hs : WkL s t) (hL : WkH L L') : Conv ⟨s, L, n⟩ ⟨t, L', n⟩ := fun B G a w hr => by
 obtain ⟨a1, a2, a3⟩ := hL.all hr.holds.res
 have hlive : ∀ r ∈ L', G.live r.1 := fun r hm => by
  have : r.1 ∈ L.map (·.1) := by rw [← a2]; exact List.mem_map_of_mem hm
  obtain ⟨r0, h0, e⟩ := List.mem_map.1 this
  rw [← e]; exact hr.holds.live r0 h0
 refine ⟨G, by rw [hr.size]; exact hs.len, fun i hi => (hs.getA i).slot _ _ (hr.slots i hi), hr.defers, ⟨hr.holds.X, a1, by rw [a2]; exact hr.holds.ids, hlive, by rw [a3]; exact hr.holds.blocks, fun b hb => ?_⟩, ?_, hr.next, hr.base, hr.low, hr.old⟩
 ·rw [a3]; exact hr.holds.lits b hb
 ·have st := hr.step
  exact ⟨st.os, st.tape, st.output, st.size, st.base, st.X, st.frame, st.newX, by rw [a3]; exact st.newB, st.live, by rw [a2]; exact st.newI, st.lits, st.newL⟩
theorem Conv.tokBox {s : List AV} {L : Heap} {n id j sz : Nat} {cells : List AV} {rows : List (List AV)} (hf : findL L id = some (.box cells)) (hj : cells[j]? = some (.list rows .full)) (hz : ∀ row ∈ rows, row.length = sz) :
  Conv ⟨s, L, n⟩ ⟨s, (n, .tok sz rows.length) :: setL L id (.box (setA cells j (.list rows (.tok n)))), n + 1⟩ := fun B G a w hr => by
 have hn : ¬ G.live n := fun h => Nat.lt_irrefl _ (hr.next n h)
 have hres := hr.holds.res _ (findL_mem hf)
 obtain ⟨h0, arr, E, fr, h1, h2, h3, h4⟩ := hres
 have hx := h4 j _ hj
 have h5 : Holds G w ([] ++ L) := hr.holds
 obtain ⟨G1, k1, k2, k3, k4, k5⟩ := new_tok (s := sz) h5.left hn (hx.list_inv.2 rfl)
 obtain ⟨m1, m2⟩ := h5.beside k1 k2
 have hkn : G1.live n := k1.live (n, .tok sz rows.length) (by simp)
 have htk := (k1.res (n, .tok sz rows.length) (by simp))
 have hsim : Sim G1 (.list rows (.tok n)) (arr.getD j undef) := .tok rows n _ hkn k3 (by rw [htk.2.1]; exact Nat.le_refl _) (fun row hrow => by rw [htk.1]; exact hz row hrow) fun _ => k4
 -- the box says more
 obtain ⟨L1, p1, p2⟩ := findL_perm hf
 have hid : G1.loc id = G.loc id := (k2.live id (hr.holds.live _ (findL_mem hf))).2.1
 have hnew : ResHolds G1 w (id, .box (setA cells j (.list rows (.tok n)))) := by
  have hold : ResHolds G1 w (id, .box cells) := m1.res _ (by simp [findL_mem hf])
  obtain ⟨g0, arr', E', fr', g1, g2, g3, g4⟩ := hold
  rw [hid, h1] at g1
  simp only [Option.some.injEq, Obj.cells.injEq] at g1
  obtain ⟨rfl, rfl, rfl⟩ := g1
  refine ⟨g0, arr, E, fr, by rw [hid]; exact h1, by rw [setA_eq]; simpa using g2, g3, fun i b hb => ?_⟩
  rw [setA_eq, List.getElem?_set] at hb
  split at hb
  ·rename_i e
   subst e
   split at hb
   ·cases hb; exact hsim
   ·cases hb
  ·exact g4 i b hb
 have hb0 : blocksOf G1 ([(n, Res.tok sz rows.length)] ++ (id, .box (setA cells j (.list rows (.tok n)))) :: L1) = blocksOf G1 ([(n, Res.tok sz rows.length)] ++ (id, .box cells) :: L1) := by
  unfold blocksOf; simp [List.filterMap_cons, Ghost.placed]
 have q : ([(n, Res.tok sz rows.length)] ++ L).Perm ([(n, Res.tok sz rows.length)] ++ (id, .box cells) :: L1) := .append_left _ p1
 have m1' := m1.perm q
 have m2' := m2.perm (.refl _) q
 have fin : Holds G1 w ([(n, Res.tok sz rows.length)] ++ (id, .box (setA cells j (.list rows (.tok n)))) :: L1) := by
  refine ⟨m1'.X, fun r hm => ?_, by simpa using m1'.ids, fun r hm => ?_, by rw [hb0]; exact m1'.blocks, by rw [hb0]; exact m1'.lits⟩
  ·simp only [List.cons_append, List.nil_append, List.mem_cons] at hm
   rcases hm with rfl | rfl | hm
   ·exact m1'.res _ (by simp)
   ·exact hnew
   ·exact m1'.res _ (by simp [hm])
  ·simp only [List.cons_append, List.nil_append, List.mem_cons] at hm
   rcases hm with rfl | rfl | hm
   ·exact m1'.live _ (by simp)
   ·exact m1'.live (id, .box cells) (by simp)
   ·exact m1'.live _ (by simp [hm])
 have q2 : ((n, Res.tok sz rows.length) :: setL L id (.box (setA cells j (.list rows (.tok n))))).Perm ([(n, Res.tok sz rows.length)] ++ (id, .box (setA cells j (.list rows (.tok n)))) :: L1) := .cons _ (p2 _)
 have st : Step B.G B.w B.H G1 w ([(n, Res.tok sz rows.length)] ++ (id, .box cells) :: L1) := hr.step.trans m2'
 have st' : Step B.G B.w B.H G1 w ([(n, Res.tok sz rows.length)] ++ (id, .box (setA cells j (.list rows (.tok n)))) :: L1) :=
  ⟨st.os, st.tape, st.output, st.size, st.base, st.X, st.frame, st.newX, by rw [hb0]; exact st.newB, st.live, by simpa using st.newI, st.lits, st.newL⟩
 refine ⟨G1, hr.size, fun i hi => (hr.slots i hi).mono k2.lits fun a x => k2.sim, hr.defers, fin.perm q2.symm, st'.perm (.refl _) q2.symm, fun i hi => ?_, by rw [k2.base]; exact hr.base, Nat.le_succ_of_le hr.low, fun i hi => ?_⟩
 ·rcases k5 i hi with h | h
  ·exact Nat.lt_succ_of_lt (hr.next i h)
  ·subst h; exact Nat.lt_succ_self _
 ·rcases k5 i hi with h | h
  ·exact hr.old i h
  ·subst h; exact .inr hr.low
theorem Conv.tokSlot {s : List AV} {L : Heap} {n j sz : Nat} {rows : List (List AV)} (hj : getA s j = .list rows .full) (hz : ∀ row ∈ rows, row.length = sz) :
  Conv ⟨s, L, n⟩ ⟨setA s j (.list rows (.tok n)), (n, .tok sz rows.length) :: L, n + 1⟩ := fun B G a w hr => by
 have hn : ¬ G.live n := fun h => Nat.lt_irrefl _ (hr.next n h)
 have hx := hr.slots j (fun h => h)
 simp only [hj] at hx
 have hx' : Sim G (.list rows .full) (a.tmps.getD j undef) := hx.down
 have h5 : Holds G w ([] ++ L) := hr.holds
 obtain ⟨G1, k1, k2, k3, k4, k5⟩ := new_tok (s := sz) h5.left hn (hx'.list_inv.2 rfl)
 obtain ⟨m1, m2⟩ := h5.beside k1 k2
 have hkn : G1.live n := k1.live (n, .tok sz rows.length) (by simp)
 have htk := (k1.res (n, .tok sz rows.length) (by simp))
 have hsim : Sim G1 (.list rows (.tok n)) (a.tmps.getD j undef) := .tok rows n _ hkn k3 (by rw [htk.2.1]; exact Nat.le_refl _) (fun row hrow => by rw [htk.1]; exact hz row hrow) fun _ => k4
 refine ⟨G1, by rw [hr.size, setA_eq]; simp, fun i hi => ?_, hr.defers, m1, hr.step.trans m2, fun i hi => ?_, by rw [k2.base]; exact hr.base, Nat.le_succ_of_le hr.low, fun i hi => ?_⟩
 ·show Slot G1 (getA (setA s j _) i) _
  rw [getA_eq, setA_eq, List.getD, List.getElem?_set]
  by_cases e : j = i
  ·subst e
   rw [if_pos rfl]
   split
   ·exact .of hsim
   ·exact .of (.data _ _ (.dead _))
  ·rw [if_neg e]
   have := (hr.slots i hi).mono k2.lits fun a x => k2.sim
   rw [getA_eq] at this
   exact this
 ·rcases k5 i hi with h | h
  ·exact Nat.lt_succ_of_lt (hr.next i h)
  ·subst h; exact Nat.lt_succ_self _
 ·rcases k5 i hi with h | h
  ·exact hr.old i h
  ·subst h; exact .inr hr.low
theorem Wk.int {k : IntKind} {a b : Int} (h : a = b) : Wk (.v (.int k a)) (.v (.int k b)) := by subst h; exact .refl _
theorem Wk.eq {a b : AV} (h : a = b) : Wk a b := by subst h; exact .refl _
theorem Conv.slots {s t : List AV} {L : Heap} {n : Nat} (hs : WkL s t) : Conv ⟨s, L, n⟩ ⟨t, L, n⟩ := .wk hs (.refl L)
theorem Conv.to {s : List AV} {L : Heap} {n : Nat} {τ : ASt} (rest : Heap) (hs : WkL s τ.slots) (hL : L.Perm (τ.L ++ rest)) (hn : n ≤ τ.next) : Conv ⟨s, L, n⟩ τ :=
 (Conv.slots hs).trans (.drop hL hn)
theorem WkL.setA {s : List AV} {j : Nat} {b : AV} (h : Wk (Am.getA s j) b) : WkL s (Am.setA s j b) := by
 induction s generalizing j with
 | nil => exact .nil
 | cons a s ih =>
  cases j with
  | zero => exact .cons h (.refl s)
  | succ j => exact .cons (.refl a) (ih (j := j) h)
theorem Conv.freeSlot {s : List AV} {L : Heap} {n : Nat} {rows : List (List AV)} {own : Own} (j : Nat) (hj : getA s j = .list rows own) : Conv ⟨s, L, n⟩ ⟨Am.setA s j (.list rows .free), L, n⟩ :=
 .slots (.setA (by rw [hj]; exact .free rows own))
theorem Conv.freeze {s : List AV} {L L0 : Heap} {n j id off m cp sz : Nat} {cells : List AV} {rows : List (List AV)} (hj : getA s j = .arr id off m cp) (hp : L.Perm ((id, .box cells) :: L0)) (hr : ∀ row ∈ rows, row.length = sz) (hm : rows.length = m)
  (hd : ∀ i a', rows.flatten[i]? = some a' → ∃ a, cells[off + i]? = some a ∧ a.seal = some a' ∧ a.one = true) : Conv ⟨s, L, n⟩ ⟨setA s j (.list rows .free), L0, n⟩ := fun B G a w hrel => by
 have h5 : Holds G w ((id, .box cells) :: L0) := hrel.holds.perm hp
 have hst : Step B.G B.w B.H G w ((id, .box cells) :: L0) := hrel.step.perm (.refl _) hp
 obtain ⟨h0, arr, E, fr, hh, hsz, hf, hcs⟩ := h5.res (id, .box cells) (by simp)
 have hx := hrel.slots j (fun h => h)
 simp only [hj] at hx
 obtain ⟨base, hv, hlive, hnc, hcm, hbs⟩ := hx.down.arr_inv
 have hbl : blocksOf G ((id, .box cells) :: L0) = G.loc id :: blocksOf G L0 := rfl
 have hnd := h5.blocks
 rw [hbl] at hnd
 obtain ⟨hnd1, hnd2⟩ := List.nodup_cons.1 hnd
 have hids := h5.ids
 simp only [List.map_cons] at hids
 obtain ⟨hi1, hi2⟩ := List.nodup_cons.1 hids
 generalize hG : G.sealed (G.loc id) arr cells.length = G'
 have e1 : ∀ b i, G'.X b i = if b = G.loc id then (if i < cells.length then arr[i]? else none) else G.X b i := fun b i => by rw [← hG]; rfl
 have e2 : G'.loc = G.loc := by rw [← hG]; rfl
 have e3 : G'.tk = G.tk := by rw [← hG]; rfl
 have e4 : G'.live = G.live := by rw [← hG]; rfl
 have e5 : G'.lits = G.lits := by rw [← hG]; rfl
 have e6 : G'.base = G.base := by rw [← hG]; rfl
 have hX : ∀ b i v, G.X b i = some v → G'.X b i = some v := fun b i v h => by
  rw [e1, if_neg]
  ·exact h
  ·rintro rfl
   rw [h0 i] at h; cases h
 have hsim : ∀ a x, Sim G a x → Sim G' a x := fun a x h => h.mono hX fun i hi => ⟨by rw [e4]; exact hi, by rw [e2], .inl (by rw [e3])⟩
 have hbl' : blocksOf G' L0 = blocksOf G L0 := filterMap_same fun r _ => placed_same (by rw [e2]) (by rw [e3])
 have hcell : ∀ (i : Nat) (a' : AV), rows.flatten[i]? = some a' → G'.X (G.loc id) (off + i) = some (arr.getD (off + i) undef) ∧ SimD G'.X a' (arr.getD (off + i) undef) ∧ (arr.getD (off + i) undef).oneCell' = true := fun i a' h => by
  obtain ⟨a, k1, k2, k3⟩ := hd i a' h
  have h2 := (List.getElem?_eq_some_iff.1 k1).1
  have h3 := hcs _ a k1
  refine ⟨?_, ((h3.seal k2).mono hX), h3.one k3⟩
  rw [e1, if_pos rfl, if_pos h2]
  have : off + i < arr.size := by omega
  simp [this]
 have hlist : SimD G'.X (.list rows .free) (.slice base m cp) := by
  subst hm
  by_cases h00 : rows = []
  ·subst h00
   exact .nil .free base cp hcm (by simp) (.inl rfl)
  ·have hpos : 0 < rows.length := List.length_pos_iff.2 h00
   obtain rfl := hbs (by omega)
   refine .list rows .free (G.loc id) off cp sz (fun i j => arr.getD (off + (i * sz + j)) undef) hnc hcm (by simp) (.inl rfl) hr (fun i row q a h1 h2 => ?_) (fun i row q a h1 h2 => ?_) (fun i row q a h1 h2 => ?_)
   all_goals
    obtain ⟨c1, c2, c3⟩ := hcell _ _ (flat_get hr h1 h2)
   ·rw [Nat.add_assoc]; exact c1
   ·exact c2
   ·exact c3
 refine ⟨G', by rw [hrel.size, setA_eq]; simp, fun i hi => ?_, hrel.defers, ⟨fun b i v hxv => ?_, fun r hr' => ?_, hi2, fun r hr' => ?_, by rw [hbl']; exact hnd2, fun b hb => ?_⟩, ⟨hst.os, hst.tape, hst.output, hst.size, by rw [e6]; exact hst.base, fun b i v h => hX _ _ _ (hst.X b i v h), hst.frame, fun b i v hxv => ?_, fun b hb => ?_, fun i hi => ?_, fun i hi => ?_, by rw [e5]; exact hst.lits, by rw [e5]; exact hst.newL⟩, by rw [e4]; exact hrel.next, by rw [e6]; exact hrel.base, hrel.low, by rw [e4]; exact hrel.old⟩
 ·show Slot G' (getA (setA s j _) i) _
  rw [getA_eq, setA_eq, List.getD, List.getElem?_set]
  by_cases e : j = i
  ·subst e
   rw [if_pos rfl]
   split
   ·refine .of (.data _ _ ?_)
    rw [hv]; exact hlist
   ·exact .of (.data _ _ (.dead _))
  ·rw [if_neg e]
   have := (hrel.slots i hi).mono (by rw [e5]; exact fun _ h => h) hsim
   rw [getA_eq] at this
   exact this
 ·rw [e1] at hxv
  split at hxv
  ·rename_i hb
   subst hb
   split at hxv
   ·simp only [World.cell?, hh]
    simpa using hxv
   ·cases hxv
  ·exact h5.X _ _ _ hxv
 ·refine (h5.res r (List.mem_cons_of_mem _ hr')).keep (by rw [e2]) (by rw [e3]) hsim fun b hb => ⟨rfl, fun i v hxv => ?_⟩
  rw [e1, if_neg] at hxv
  ·exact hxv
  ·rintro rfl
   exact hnd1 (List.mem_filterMap.2 ⟨r, hr', hb⟩)
 ·rw [e4]; exact h5.live r (List.mem_cons_of_mem _ hr')
 ·rw [e5] at hb
  obtain ⟨q1, q2, q3⟩ := h5.lits b hb
  refine ⟨by rw [e6]; exact q1, q2, ?_⟩
  rw [hbl']
  rw [hbl] at q3
  exact fun hm' => q3 (List.mem_cons_of_mem _ hm')
 ·rw [e1] at hxv
  split at hxv
  ·rename_i hb
   subst hb
   rcases hst.newB (G.loc id) (by rw [hbl]; simp) with h | h
   ·exact .inr (.inr h)
   ·exact .inr (.inl h)
  ·exact hst.newX _ _ _ hxv
 ·rw [hbl'] at hb
  exact hst.newB b (by rw [hbl]; exact List.mem_cons_of_mem _ hb)
 ·rw [e4, e2, e3]; 
  obtain ⟨k1, k2, k3⟩ := hst.live i hi
  exact ⟨k1, k2, k3⟩
 ·exact hst.newI i (by simp only [List.map_cons]; exact List.mem_cons_of_mem _ hi)
theorem Conv.unseq {s : List AV} {L L0 : Heap} {n id k : Nat} {rows : List (List AV)} (hne : rows.length + k ≠ 0) (hp : L.Perm ((id, .seq rows k) :: L0)) : Conv ⟨s, L, n⟩ ⟨s, (id, .box (seqC rows k)) :: L0, n⟩ := fun B G a w hr =>
 ⟨G, hr.size, hr.slots, hr.defers, ((hr.holds.perm hp).unseq hne).1, (hr.step.perm (.refl _) hp).unseq hne, hr.next, hr.base, hr.low, hr.old⟩
theorem Conv.toSeq {s : List AV} {L L0 : Heap} {n id k : Nat} {rows : List (List AV)} {cells : List AV} (hp : L.Perm ((id, .box cells) :: L0)) (hc : cells = seqC rows k) (hpure : ∀ a ∈ rows.flatten, a.pure = true) : Conv ⟨s, L, n⟩ ⟨s, (id, .seq rows k) :: L0, n⟩ := fun B G a w hr => by
 subst hc
 exact ⟨G, hr.size, hr.slots, hr.defers, (hr.holds.perm hp).toSeq hpure, (hr.step.perm (.refl _) hp).toSeq, hr.next, hr.base, hr.low, hr.old⟩
theorem Conv.nilBox {s : List AV} {L : Heap} {n id j : Nat} {cells : List AV} (hf : findL L id = some (.box cells)) (hj : cells[j]? = some (.list [] .full)) :
  Conv ⟨s, L, n⟩ ⟨s, (n, .seq [] 0) :: setL L id (.box (setA cells j (.arr n 0 0 0))), n + 1⟩ := fun B G a w hr => by
 have hn : ¬ G.live n := fun h => Nat.lt_irrefl _ (hr.next n h)
 have hres := hr.holds.res _ (findL_mem hf)
 obtain ⟨h0, arr, E, fr, h1, h2, h3, h4⟩ := hres
 have hx := h4 j _ hj
 have h5 : Holds G w ([] ++ L) := hr.holds
 obtain ⟨k1, k2⟩ := new_void h5.left hn
 have k5 : ∀ i, (G.boxed n 0).live i → G.live i ∨ i = n := fun i hi => hi
 generalize hG1 : G.boxed n 0 = G1 at *
 obtain ⟨m1, m2⟩ := h5.beside k1 k2
 have hkn : G1.live n := k1.live (n, .seq [] 0) (by simp)
 have hsim : Sim G1 (.arr n 0 0 0) (arr.getD j undef) := by
  obtain ⟨base, c, hv, _, _, hf0⟩ := (hx.list_inv.2 rfl).slice
  have hc0 := hf0 rfl
  simp only [List.length_nil] at hc0 hv
  subst hc0
  rw [hv]
  exact .arr n 0 0 0 base hkn (Nat.le_refl _) (Nat.zero_le _) fun h => absurd rfl h
 -- the box says more
 obtain ⟨L1, p1, p2⟩ := findL_perm hf
 have hid : G1.loc id = G.loc id := (k2.live id (hr.holds.live _ (findL_mem hf))).2.1
 have hnew : ResHolds G1 w (id, .box (setA cells j (.arr n 0 0 0))) := by
  have hold : ResHolds G1 w (id, .box cells) := m1.res _ (by simp [findL_mem hf])
  obtain ⟨g0, arr', E', fr', g1, g2, g3, g4⟩ := hold
  rw [hid, h1] at g1
  simp only [Option.some.injEq, Obj.cells.injEq] at g1
  obtain ⟨rfl, rfl, rfl⟩ := g1
  refine ⟨g0, arr, E, fr, by rw [hid]; exact h1, by rw [setA_eq]; simpa using g2, g3, fun i b hb => ?_⟩
  rw [setA_eq, List.getElem?_set] at hb
  split at hb
  ·rename_i e
   subst e
   split at hb
   ·cases hb; exact hsim
   ·cases hb
  ·exact g4 i b hb
 have hb0 : blocksOf G1 ([(n, Res.seq [] 0)] ++ (id, .box (setA cells j (.arr n 0 0 0))) :: L1) = blocksOf G1 ([(n, Res.seq [] 0)] ++ (id, .box cells) :: L1) := by
  unfold blocksOf; simp [List.filterMap_cons, Ghost.placed]
 have q : ([(n, Res.seq [] 0)] ++ L).Perm ([(n, Res.seq [] 0)] ++ (id, .box cells) :: L1) := .append_left _ p1
 have m1' := m1.perm q
 have m2' := m2.perm (.refl _) q
 have fin : Holds G1 w ([(n, Res.seq [] 0)] ++ (id, .box (setA cells j (.arr n 0 0 0))) :: L1) := by
  refine ⟨m1'.X, fun r hm => ?_, by simpa using m1'.ids, fun r hm => ?_, by rw [hb0]; exact m1'.blocks, by rw [hb0]; exact m1'.lits⟩
  ·simp only [List.cons_append, List.nil_append, List.mem_cons] at hm
   rcases hm with rfl | rfl | hm
   ·exact m1'.res _ (by simp)
   ·exact hnew
   ·exact m1'.res _ (by simp [hm])
  ·simp only [List.cons_append, List.nil_append, List.mem_cons] at hm
   rcases hm with rfl | rfl | hm
   ·exact m1'.live _ (by simp)
   ·exact m1'.live (id, .box cells) (by simp)
   ·exact m1'.live _ (by simp [hm])
 have q2 : ((n, Res.seq [] 0) :: setL L id (.box (setA cells j (.arr n 0 0 0)))).Perm ([(n, Res.seq [] 0)] ++ (id, .box (setA cells j (.arr n 0 0 0))) :: L1) := .cons _ (p2 _)
 have st : Step B.G B.w B.H G1 w ([(n, Res.seq [] 0)] ++ (id, .box cells) :: L1) := hr.step.trans m2'
 have st' : Step B.G B.w B.H G1 w ([(n, Res.seq [] 0)] ++ (id, .box (setA cells j (.arr n 0 0 0))) :: L1) :=
  ⟨st.os, st.tape, st.output, st.size, st.base, st.X, st.frame, st.newX, by rw [hb0]; exact st.newB, st.live, by simpa using st.newI, st.lits, st.newL⟩
 refine ⟨G1, hr.size, fun i hi => (hr.slots i hi).mono k2.lits fun a x => k2.sim, hr.defers, fin.perm q2.symm, st'.perm (.refl _) q2.symm, fun i hi => ?_, by rw [k2.base]; exact hr.base, Nat.le_succ_of_le hr.low, fun i hi => ?_⟩
 ·rcases k5 i hi with h | h
  ·exact Nat.lt_succ_of_lt (hr.next i h)
  ·subst h; exact Nat.lt_succ_self _
 ·rcases k5 i hi with h | h
  ·exact hr.old i h
  ·subst h; exact .inr hr.low
theorem Conv.nilSeq {s : List AV} {L : Heap} {n j : Nat} (hj : getA s j = .list [] .full) : Conv ⟨s, L, n⟩ ⟨setA s j (.arr n 0 0 0), (n, .seq [] 0) :: L, n + 1⟩ := fun B G a w hr => by
 have hn : ¬ G.live n := fun h => Nat.lt_irrefl _ (hr.next n h)
 have hd : Holds G w ([] ++ L) := hr.holds
 have key := new_void hd.left hn
 obtain ⟨m1, m2⟩ := hd.beside key.1 key.2
 have hsim : ∀ a x, Sim G a x → Sim (G.boxed n 0) a x := fun a x h => key.2.sim h
 refine ⟨G.boxed n 0, by rw [hr.size, setA_eq]; simp, fun i hi => ?_, hr.defers, m1, hr.step.trans m2, fun i hi => ?_, hr.base, Nat.le_trans hr.low (Nat.le_succ _), fun i hi => ?_⟩
 ·rw [getA_eq, setA_eq, List.getD, List.getElem?_set]
  have h0 := hr.slots i hi
  by_cases e : j = i
  ·subst e
   rw [if_pos rfl]
   split
   ·refine .of ?_
    have h1 : Slot G (.list [] .full) (a.tmps.getD j undef) := by rw [← hj]; exact h0
    have h2 : Sim G (.list [] .full) (a.tmps.getD j undef) := h1.down
    obtain ⟨base, c, hv, _, hc, hf⟩ := (h2.list_inv.2 rfl).slice
    have hc0 := hf rfl
    simp only [List.length_nil] at hc0 hv
    subst hc0
    show Sim (G.boxed n 0) (.arr n 0 0 0) (a.tmps.getD j undef)
    rw [hv]
    exact .arr n 0 0 0 base (.inr rfl) (Nat.le_refl _) (Nat.zero_le _) fun h => absurd rfl h
   ·exact .of (.data _ _ (.dead _))
  ·rw [if_neg e]
   have := Slot.mono (G := G) (G' := G.boxed n 0) (fun _ h => h) hsim h0
   rw [getA_eq] at this
   exact this
 ·rcases hi with hi | rfl
  ·exact Nat.lt_succ_of_lt (hr.next i hi)
  ·exact Nat.lt_succ_self _
 ·rcases hi with hi | rfl
  ·exact hr.old i hi
  ·exact .inr hr.low
theorem AV.seal_pure {a : AV} (h : a.pure = true) : a.seal = some a := by
 cases a with
 | list rows o => cases o <;> first | rfl | (simp [AV.pure] at h)
 | v x => rfl
 | dead => rfl
 | cref l => rfl
 | _ => simp [AV.pure] at h
theorem Conv.freezeS {s : List AV} {L L0 : Heap} {n j id m cp k sz : Nat} {rows : List (List AV)} (hj : getA s j = .arr id 0 m cp) (hp : L.Perm ((id, .seq rows k) :: L0)) (hR : RowsOk sz rows) (hm : rows.length = m) : Conv ⟨s, L, n⟩ ⟨setA s j (.list rows .free), L0, n⟩ := by
 by_cases hne : rows.length + k = 0
 ·have e1 : rows = [] := List.eq_nil_of_length_eq_zero (by omega)
  subst e1
  simp only [List.length_nil] at hm
  subst hm
  refine (Conv.to (τ := ⟨s, L0, n⟩) [(id, .seq [] k)] (.refl s) (hp.trans (List.perm_append_comm (l₁ := [(id, Res.seq [] k)]))) (Nat.le_refl _)).trans (.slots (.setA ?_))
  rw [hj]
  refine ⟨fun G x h => ?_, fun G x h => ?_⟩
  ·obtain ⟨base, rfl, _, _, hc, _⟩ := Sim.arr_inv h
   exact .of (.data _ _ (.nil _ _ _ hc (by simp) (.inl rfl)))
  ·obtain ⟨base, rfl, _, _, hc, _⟩ := Sim.arr_inv h
   exact .data _ _ (.nil _ _ _ hc (by simp) (.inl rfl))
 ·exact (Conv.unseq hne hp).trans (Conv.freeze hj (.refl _) hR.len hm fun i a ha => ⟨a, by
   rw [Nat.zero_add]; unfold seqC
   rw [List.getElem?_append_left (List.getElem?_eq_some_iff.1 ha).1]; exact ha, AV.seal_pure (hR.pure a (List.mem_of_getElem? ha)), List.all_eq_true.1 hR.one a (List.mem_of_getElem? ha)⟩)
def AV.loB (N : Nat) : AV → Bool
 | .v _ => true
 | .dead => true
 | .cref _ => true
 | .list _ (.tok k) => Nat.blt k N
 | .list _ _ => true
 | .ptr i _ => Nat.blt i N
 | .arr i _ _ _ => Nat.blt i N
 | .fn _ l => l.isEmpty
 | _ => false
theorem AV.lo_ren {N : Nat} {f : Nat → Nat} (hf : ∀ i, i < N → f i = i) {a : AV} (h : a.loB N = true) : a.ren f = a := by
 cases a with
 | v x => rw [AV.ren]
 | dead => rw [AV.ren]
 | cref l => rw [AV.ren]
 | list rows o =>
  rw [AV.ren]
  cases o with
  | tok k => simp only [Own.ren]; rw [hf k (Nat.le_of_ble_eq_true h)]
  | _ => rfl
 | ptr i j => rw [AV.ren, hf i (Nat.le_of_ble_eq_true h)]
 | arr i j => rw [AV.ren, hf i (Nat.le_of_ble_eq_true h)]
 | fn g l =>
  cases l with
  | nil => rw [AV.ren, AV.renL]
  | cons a l => cases h
 | _ => cases h
theorem lo_renL {N : Nat} {f : Nat → Nat} (hf : ∀ i, i < N → f i = i) : ∀ {l : List AV}, l.all (AV.loB N) = true → AV.renL f l = l
 | [], _ => by rw [AV.renL]
 | a :: l, h => by
  rw [List.all_cons, Bool.and_eq_true] at h
  rw [AV.renL, AV.lo_ren hf h.1, lo_renL hf h.2]
def loH (N : Nat) : Heap → Bool
 | [] => true
 | (i, .box l) :: H => Nat.blt i N && (l.all (AV.loB N) && loH N H)
 | (i, .tok _ _) :: H => Nat.blt i N && loH N H
 | (i, .seq _ _) :: H => Nat.blt i N && loH N H
theorem loH_ren {N : Nat} {f : Nat → Nat} (hf : ∀ i, i < N → f i = i) : ∀ {H : Heap}, loH N H = true → renH f H = H
 | [], _ => rfl
 | (i, .box l) :: H, h => by
  unfold loH at h
  simp only [Bool.and_eq_true] at h
  rw [renH, hf i (Nat.le_of_ble_eq_true h.1), Res.ren, lo_renL hf h.2.1, loH_ren hf h.2.2]
 | (i, .tok a b) :: H, h => by
  unfold loH at h
  simp only [Bool.and_eq_true] at h
  rw [renH, hf i (Nat.le_of_ble_eq_true h.1), Res.ren, loH_ren hf h.2]
 | (i, .seq a b) :: H, h => by
  unfold loH at h
  simp only [Bool.and_eq_true] at h
  rw [renH, hf i (Nat.le_of_ble_eq_true h.1), Res.ren, loH_ren hf h.2]
theorem ACalls.ren {P : Program} {f : FuncId} {k top M : Nat} {args : List AV} {H : Heap} {R R2 : AOut → Heap → Prop} (h : ACalls P f k top args H R) (hkt : k ≤ top)
  (hr : ∀ out H', R out H' → ∃ (ids : List Nat) (out2 : AOut) (H2 : Heap), ids.Nodup ∧ (∀ i ∈ ids, i < top) ∧ (∀ i, i < k → ids[i]? = some i) ∧ ids.length ≤ M ∧ out = out2.ren (rn ids top) ∧ H' = renH (rn ids top) H2 ∧ R2 out2 H2) : ACalls P f k M args H R2 := by
 intro G w vals h1 h2 h3 h4 h5 h6
 have key : ∀ (G' : Ghost) (w' : World) (out : AOut) (H' : Heap) (e : Ending), R out H' → OSim G' out e → Holds G' w' H' → Step G w H G' w' H' → (∀ id, G'.live id → G.live id ∨ (k ≤ id ∧ id < top)) →
   ∃ G2 out2 H2, R2 out2 H2 ∧ OSim G2 out2 e ∧ Holds G2 w' H2 ∧ Step G w H G2 w' H2 ∧ ∀ id, G2.live id → G.live id ∨ (k ≤ id ∧ id < M) := by
  intro G' w' out H' e hR hO hH hS hL
  obtain ⟨ids, out2, H2, i1, i2, i3, i4, rfl, rfl, hR2⟩ := hr out H' hR
  have go : ∀ (x2 : AV) (v : Value), Sim G' (x2.ren (rn ids top)) v → ∃ G2, Sim G2 x2 v ∧ Holds G2 w' H2 ∧ Step G w H G2 w' H2 ∧ ∀ id, G2.live id → G.live id ∨ (k ≤ id ∧ id < M) := by
   intro x2 v hv
   have hrel : Rel ⟨G, w, H, k, []⟩ No G' ⟨AV.renL (rn ids top) [x2], renH (rn ids top) H2, top⟩ { tmps := #[v], defers := [] } w' := by
    refine ⟨rfl, fun t _ => ?_, rfl, hH, hS, fun id hid => ?_, ?_, hkt, fun id hid => (hL id hid).imp_right And.left⟩
    ·cases t with
     | zero => exact .of hv
     | succ t => exact .of (.data _ _ (.dead _))
    ·rcases hL id hid with h | h
     ·exact Nat.lt_of_lt_of_le (h1 id h) hkt
     ·exact h.2
    ·rw [hS.base, h3]; exact hS.size
   obtain ⟨G2, hr2⟩ := ConvN.ren (t := [x2]) (H := H2) ids i1 i2 i3 rfl _ _ _ _ h1 (Nat.le_refl _) hrel
   refine ⟨G2, ?_, hr2.holds, hr2.step, fun id hid => (hr2.old id hid).imp_right fun hk => ⟨hk, Nat.lt_of_lt_of_le (hr2.next id hid) i4⟩⟩
   have h7 := hr2.slots 0 (fun h => h)
   have h8 : Slot G2 x2 v := h7
   unfold Slot at h8
   split at h8
   ·rename_i rows
    exfalso
    rw [AV.ren] at hv
    cases hv with
    | data _ _ h =>
     cases h with
     | nil _ _ _ _ _ hs => rcases hs with h | h <;> cases h
     | list _ _ _ _ _ _ _ _ _ _ hs _ _ _ _ => rcases hs with h | h <;> cases h
   ·exact h8
  cases out2 with
  | ret x2 =>
   cases e with
   | returned v =>
    obtain ⟨G2, k1, k2, k3, k4⟩ := go x2 v hO
    exact ⟨G2, .ret x2, H2, hR2, k1, k2, k3, k4⟩
   | panicked ch => exact hO.elim
   | outgrown => exact hO.elim
  | panic x2 =>
   cases e with
   | returned v => exact hO.elim
   | panicked ch =>
    obtain ⟨v, rfl, hv⟩ := hO
    obtain ⟨G2, k1, k2, k3, k4⟩ := go x2 v hv
    exact ⟨G2, .panic x2, H2, hR2, ⟨v, rfl, k1⟩, k2, k3, k4⟩
   | outgrown => exact hO.elim
 rcases h G w vals h1 h2 h3 h4 h5 h6 with ⟨k1, k2⟩ | ⟨v, w', k1, G', out, H', k2, k3, k4, k5, k6⟩
 ·exact .inl ⟨k1, k2.mono fun e w' ⟨G', out, H', q1, q2, q3, q4, q5⟩ => key G' w' out H' e q1 q2 q3 q4 q5⟩
 ·exact .inr ⟨v, w', k1, key G' w' out H' _ k2 k3 k4 k5 k6⟩
theorem ACalls.conv {P : Program} {f : FuncId} {k top M : Nat} {args : List AV} {H : Heap} {R R2 : AOut → Heap → Prop} (h : ACalls P f k top args H R) (hkt : k ≤ top) (hM : top ≤ M)
  (hr : ∀ x H', R (.ret x) H' → ∃ x2 H2 M', M' ≤ M ∧ ConvN k ⟨[x], H', top⟩ ⟨[x2], H2, M'⟩ ∧ (∀ rows, x2 ≠ .list rows .lit) ∧ R2 (.ret x2) H2) (hp : ∀ x H', R (.panic x) H' → R2 (.panic x) H') : ACalls P f k M args H R2 := by
 intro G w vals h1 h2 h3 h4 h5 h6
 have key : ∀ (G' : Ghost) (w' : World) (out : AOut) (H' : Heap) (e : Ending), R out H' → OSim G' out e → Holds G' w' H' → Step G w H G' w' H' → (∀ id, G'.live id → G.live id ∨ (k ≤ id ∧ id < top)) →
   ∃ G2 out2 H2, R2 out2 H2 ∧ OSim G2 out2 e ∧ Holds G2 w' H2 ∧ Step G w H G2 w' H2 ∧ ∀ id, G2.live id → G.live id ∨ (k ≤ id ∧ id < M) := by
  intro G' w' out H' e hR hO hH hS hL
  cases out with
  | panic x => exact ⟨G', .panic x, H', hp x H' hR, hO, hH, hS, fun id hid => (hL id hid).imp_right fun h => ⟨h.1, Nat.lt_of_lt_of_le h.2 hM⟩⟩
  | ret x =>
   obtain ⟨x2, H2, M', i4, hc, hl, hR2⟩ := hr x H' hR
   cases e with
   | panicked ch => exact hO.elim
   | outgrown => exact hO.elim
   | returned v =>
    have hrel : Rel ⟨G, w, H, k, []⟩ No G' ⟨[x], H', top⟩ { tmps := #[v], defers := [] } w' := by
     refine ⟨rfl, fun t _ => ?_, rfl, hH, hS, fun id hid => ?_, ?_, hkt, fun id hid => (hL id hid).imp_right And.left⟩
     ·cases t with
      | zero => exact .of hO
      | succ t => exact .of (.data _ _ (.dead _))
     ·rcases hL id hid with h | h
      ·exact Nat.lt_of_lt_of_le (h1 id h) hkt
      ·exact h.2
     ·rw [hS.base, h3]; exact hS.size
    obtain ⟨G2, hr2⟩ := hc _ _ _ _ h1 (Nat.le_refl _) hrel
    refine ⟨G2, .ret x2, H2, hR2, ?_, hr2.holds, hr2.step, fun id hid => (hr2.old id hid).imp_right fun hk => ⟨hk, Nat.lt_of_lt_of_le (hr2.next id hid) i4⟩⟩
    have h8 : Slot G2 x2 v := hr2.slots 0 (fun h => h)
    unfold Slot at h8
    split at h8
    ·rename_i rows; exact absurd rfl (hl rows)
    ·exact h8
 rcases h G w vals h1 h2 h3 h4 h5 h6 with ⟨k1, k2⟩ | ⟨v, w', k1, G', out, H', k2, k3, k4, k5, k6⟩
 ·exact .inl ⟨k1, k2.mono fun e w' ⟨G', out, H', q1, q2, q3, q4, q5⟩ => key G' w' out H' e q1 q2 q3 q4 q5⟩
 ·exact .inr ⟨v, w', k1, key G' w' out H' _ k2 k3 k4 k5 k6⟩
theorem ext_c {P : Program} {f : FuncId} {fn : Func} {e : Array Value → Sem Value} (hf : P.funcs[f]? = some fn) (hname : (fn.name == "runtime.NumGoroutine") = false) (hb : fn.body.isNone = true) (hn : Extern.findNext fn = none) (he : Extern.find fn = some e) {x y : Value}
  (hr : ∀ w, (e #[x]).run P w = .ok y w) : ACalls P f 0 0 [.v x] [] fun out H' => out = .ret (.v y) ∧ H' = [] := by
 intro G w vals h1 h2 h3 h4 h5 h6
 have hv : vals = #[x] := by
  have h7 : vals.size = 1 := by simpa using h5.symm
  have h8 := (h6 0 _ rfl).v_inv
  apply Array.ext
  ·rw [h7]; rfl
  ·intro i hi _
   have : i = 0 := by omega
   subst this
   simpa [Array.getD, hi] using h8
 subst hv
 refine .inr ⟨y, w, ?_, G, .ret (.v y), [], ⟨rfl, rfl⟩, .data _ _ (.v y), h4, Step.refl _ _ _, fun id h => .inl h⟩
 rw [Go.run_callFunc_extern hf hname hb hn he, hr]
 rfl
def Ghost.start (w : World) : Ghost := { X := fun b i => w.cell? ⟨b, i, none⟩, loc := fun _ => 0, tk := fun _ => ⟨0, 0, undef, none⟩, live := fun _ => False, lits := fun _ => False, base := w.heap.size }
theorem ACalls.walk {P : Program} {f : FuncId} {fn : Func} {c : Code} (hf : FnIs P f fn c) {top : Nat} {args : List AV} {v : Value} {w : World} {vals : Array Value} (h : ACalls P f 0 top args [] fun out H' => out = .ret (.v v) ∧ H' = []) (hl : args.length = vals.size)
  (hs : ∀ (i : Nat) (a : AV), args[i]? = some a → Sim (Ghost.start w) a (vals.getD i undef)) : Calls P f vals w fun e w' => e = .returned v ∧ Below w.heap.size w w' := by
 have hh : Holds (Ghost.start w) w [] := ⟨fun _ _ _ h => h, fun r hr => (List.not_mem_nil hr).elim, by simp, fun r hr => (List.not_mem_nil hr).elim, by simp [blocksOf], fun b hb => hb.elim⟩
 rcases h (Ghost.start w) w vals (fun _ h => h.elim) (fun _ h => h) rfl hh hl hs with ⟨_, k⟩ | ⟨u, w', k, _⟩
 ·refine k.mono fun e w' ⟨G', out, H', ⟨k1, k2⟩, k3, k4, k5, k6⟩ => ?_
  subst k1; subst k2
  refine ⟨?_, k5.below (fun _ h => h) rfl⟩
  cases e with
  | returned u => rw [Sim.v_inv k3]
  | panicked ch => exact k3.elim
  | outgrown => exact k3.elim
 ·exfalso
  have hp : program.run P w = .ok P w := rfl
  unfold callFunc at k
  rw [Sem.run_bind, hp] at k
  simp only [Result.andThen, hf.get, hf.name, hf.body] at k
  cases k
end Go.Am
namespace Go.Proofs.YtjepgbpcpcahgaaGreat
open Go.Am
def tab : List (Option TI) := [
 some ⟨1, 0, some (.tuple #[]), .other⟩,
 some ⟨1, 8, some (.nilFunc), .func⟩,
 some ⟨1, 8, some (.int .i64 0), .int .i64⟩,
 some ⟨1, 8, some (.int .i64 0), .int .i64⟩,
 some ⟨1, 1, some (.bool false), .bool⟩,
 some ⟨1, 1, some (.int .u8 0), .int .u8⟩,
 some ⟨1, 1, some (.int .u8 0), .int .u8⟩,
 some ⟨4, 24, some (.agg #[.int .i64 0, .int .i64 0, .bool false, .int .u8 0]), .struct [(0, 1), (1, 1), (2, 1), (3, 1)]⟩,
 some ⟨4, 24, some (.agg #[.int .i64 0, .int .i64 0, .bool false, .int .u8 0]), .struct [(0, 1), (1, 1), (2, 1), (3, 1)]⟩,
 some ⟨1, 16, some (.string ⟨#[]⟩), .string⟩,
 some ⟨1, 16, some (.string ⟨#[]⟩), .string⟩,
 some ⟨1, 16, some (.string ⟨#[]⟩), .string⟩,
 some ⟨1, 8, some (.int .u64 0), .int .u64⟩,
 some ⟨2, 24, some (.agg #[.string ⟨#[]⟩, .int .u64 0]), .struct [(0, 1), (1, 1)]⟩,
 some ⟨2, 24, some (.agg #[.string ⟨#[]⟩, .int .u64 0]), .struct [(0, 1), (1, 1)]⟩,
 some ⟨1, 8, some (.pointer none), .pointer⟩,
 some ⟨1, 8, some (.pointer none), .pointer⟩,
 some ⟨1, 8, some (.pointer none), .pointer⟩,
 some ⟨1, 8, some (.agg #[.pointer none]), .struct [(0, 1)]⟩,
 some ⟨1, 8, some (.agg #[.pointer none]), .struct [(0, 1)]⟩,
 some ⟨1, 16, some (.nilIface), .iface⟩,
 some ⟨1, 4, some (.int .i32 0), .int .i32⟩,
 some ⟨1, 24, some (.slice none 0 0), .slice 49⟩,
 some ⟨1, 24, some (.slice none 0 0), .slice 5⟩,
 some ⟨1, 24, some (.slice none 0 0), .slice 60⟩,
 some ⟨1, 24, some (.agg #[.slice none 0 0]), .struct [(0, 1)]⟩,
 some ⟨1, 24, some (.agg #[.slice none 0 0]), .struct [(0, 1)]⟩,
 some ⟨1, 8, some (.nilFunc), .func⟩,
 some ⟨1, 8, some (.nilFunc), .func⟩,
 some ⟨1, 8, some (.nilFunc), .func⟩,
 some ⟨1, 8, some (.nilFunc), .func⟩,
 some ⟨1, 8, some (.nilFunc), .func⟩,
 some ⟨1, 8, some (.nilFunc), .func⟩,
 some ⟨1, 8, some (.nilFunc), .func⟩,
 some ⟨1, 24, some (.slice none 0 0), .slice 86⟩,
 some ⟨1, 8, some (.pointer none), .pointer⟩,
 some ⟨1, 24, some (.slice none 0 0), .slice 100⟩,
 some ⟨1, 0, some (.tuple #[.pointer none, .slice none 0 0, .bool false]), .other⟩,
 some ⟨1, 8, some (.nilFunc), .func⟩,
 some ⟨1, 8, some (.pointer none), .pointer⟩,
 some ⟨1, 8, some (.nilFunc), .func⟩,
 some ⟨1, 8, some (.nilFunc), .func⟩,
 some ⟨1, 8, some (.nilFunc), .func⟩,
 some ⟨1, 8, some (.nilFunc), .func⟩,
 some ⟨1, 8, some (.nilFunc), .func⟩,
 some ⟨1, 8, some (.float .f64 0), .float .f64⟩,
 some ⟨4, 48, some (.agg #[.bool false, .int .i64 0, .float .f64 0, .slice none 0 0]), .struct [(0, 1), (1, 1), (2, 1), (3, 1)]⟩,
 some ⟨4, 48, some (.agg #[.bool false, .int .i64 0, .float .f64 0, .slice none 0 0]), .struct [(0, 1), (1, 1), (2, 1), (3, 1)]⟩,
 some ⟨8, 88, some (.agg #[.int .i64 0, .int .i64 0, .string ⟨#[]⟩, .int .i64 0, .bool false, .int .i64 0, .float .f64 0, .slice none 0 0]), .struct [(0, 1), (1, 1), (2, 1), (3, 1), (4, 4)]⟩,
 some ⟨8, 88, some (.agg #[.int .i64 0, .int .i64 0, .string ⟨#[]⟩, .int .i64 0, .bool false, .int .i64 0, .float .f64 0, .slice none 0 0]), .struct [(0, 1), (1, 1), (2, 1), (3, 1), (4, 4)]⟩,
 some ⟨1, 8, some (.int .i64 0), .int .i64⟩,
 some ⟨1, 0, some (.tuple #[.agg #[.slice none 0 0], .int .i64 0]), .other⟩,
 some ⟨1, 8, some (.nilFunc), .func⟩,
 some ⟨3, 40, some (.agg #[.int .i64 0, .slice none 0 0, .float .f64 0]), .struct [(0, 1), (1, 1), (2, 1)]⟩,
 some ⟨3, 40, some (.agg #[.int .i64 0, .slice none 0 0, .float .f64 0]), .struct [(0, 1), (1, 1), (2, 1)]⟩,
 some ⟨1, 8, some (.nilFunc), .func⟩,
 some ⟨1, 8, some (.nilFunc), .func⟩,
 some ⟨1, 8, some (.nilFunc), .func⟩,
 some ⟨1, 24, some (.slice none 0 0), .slice 62⟩,
 some ⟨2, 40, some (.agg #[.string ⟨#[]⟩, .slice none 0 0]), .struct [(0, 1), (1, 1)]⟩,
 some ⟨2, 40, some (.agg #[.string ⟨#[]⟩, .slice none 0 0]), .struct [(0, 1), (1, 1)]⟩,
 some ⟨4, 48, some (.agg #[.int .i64 0, .int .i64 0, .slice none 0 0, .float .f64 0]), .struct [(0, 1), (1, 3)]⟩,
 some ⟨4, 48, some (.agg #[.int .i64 0, .int .i64 0, .slice none 0 0, .float .f64 0]), .struct [(0, 1), (1, 3)]⟩,
 some ⟨1, 0, some (.tuple #[.agg #[.int .i64 0, .slice none 0 0, .float .f64 0], .bool false]), .other⟩,
 some ⟨1, 8, some (.nilFunc), .func⟩,
 some ⟨1, 8, some (.nilFunc), .func⟩,
 some ⟨1, 8, some (.nilFunc), .func⟩,
 some ⟨1, 8, some (.nilFunc), .func⟩,
 some ⟨1, 8, some (.nilFunc), .func⟩,
 some ⟨1, 8, some (.nilFunc), .func⟩,
 some ⟨1, 8, some (.nilFunc), .func⟩,
 some ⟨1, 8, some (.nilFunc), .func⟩,
 some ⟨1, 8, some (.int .u64 0), .int .u64⟩,
 some ⟨1, 8, some (.nilFunc), .func⟩,
 some ⟨1, 8, some (.nilFunc), .func⟩,
 some ⟨1, 8, some (.pointer none), .pointer⟩,
 some ⟨1, 8, some (.nilFunc), .func⟩,
 some ⟨1, 8, some (.nilFunc), .func⟩,
 some ⟨1, 8, some (.pointer none), .pointer⟩,
 some ⟨2, 32, some (.agg #[.slice none 0 0, .bool false]), .struct [(0, 1), (1, 1)]⟩,
 some ⟨2, 32, some (.agg #[.slice none 0 0, .bool false]), .struct [(0, 1), (1, 1)]⟩,
 some ⟨1, 8, some (.nilFunc), .func⟩,
 some ⟨1, 8, some (.nilFunc), .func⟩,
 some ⟨1, 8, some (.nilFunc), .func⟩,
 some ⟨1, 24, some (.slice none 0 0), .slice 143⟩,
 some ⟨5, 64, some (.agg #[.int .i64 0, .int .i64 0, .bool false, .string ⟨#[]⟩, .slice none 0 0]), .struct [(0, 1), (1, 1), (2, 1), (3, 1), (4, 1)]⟩,
 some ⟨5, 64, some (.agg #[.int .i64 0, .int .i64 0, .bool false, .string ⟨#[]⟩, .slice none 0 0]), .struct [(0, 1), (1, 1), (2, 1), (3, 1), (4, 1)]⟩,
 some ⟨1, 8, some (.nilFunc), .func⟩,
 some ⟨1, 8, some (.nilFunc), .func⟩,
 some ⟨1, 8, some (.nilFunc), .func⟩,
 some ⟨1, 8, some (.nilFunc), .func⟩,
 some ⟨1, 0, some (.tuple #[.slice none 0 0, .int .i64 0]), .other⟩,
 some ⟨1, 8, some (.nilFunc), .func⟩,
 some ⟨1, 24, some (.agg #[.slice none 0 0]), .struct [(0, 1)]⟩,
 some ⟨1, 24, some (.agg #[.slice none 0 0]), .struct [(0, 1)]⟩,
 some ⟨1, 8, some (.nilFunc), .func⟩,
 some ⟨1, 4, some (.int .u32 0), .int .u32⟩,
 some ⟨1, 24, some (.agg #[.slice none 0 0]), .struct [(0, 1)]⟩,
 some ⟨1, 24, some (.agg #[.slice none 0 0]), .struct [(0, 1)]⟩,
 some ⟨2, 40, some (.agg #[.string ⟨#[]⟩, .slice none 0 0]), .struct [(0, 1), (1, 1)]⟩,
 some ⟨2, 40, some (.agg #[.string ⟨#[]⟩, .slice none 0 0]), .struct [(0, 1), (1, 1)]⟩,
 some ⟨1, 8, some (.nilFunc), .func⟩,
 some ⟨1, 8, some (.nilFunc), .func⟩,
 some ⟨1, 8, some (.nilFunc), .func⟩,
 some ⟨1, 8, some (.nilFunc), .func⟩,
 some ⟨1, 8, some (.nilFunc), .func⟩,
 some ⟨1, 0, some (.tuple #[.slice none 0 0, .string ⟨#[]⟩]), .other⟩,
 some ⟨1, 8, some (.nilFunc), .func⟩,
 some ⟨1, 8, some (.nilFunc), .func⟩,
 some ⟨1, 8, some (.nilFunc), .func⟩,
 some ⟨1, 0, some (.tuple #[.int .i64 0, .bool false]), .other⟩,
 some ⟨1, 8, some (.nilFunc), .func⟩,
 some ⟨1, 8, some (.nilFunc), .func⟩,
 some ⟨1, 8, some (.nilFunc), .func⟩,
 some ⟨1, 8, some (.nilFunc), .func⟩,
 some ⟨1, 8, some (.nilFunc), .func⟩,
 some ⟨1, 8, some (.nilFunc), .func⟩,
 some ⟨1, 8, some (.nilFunc), .func⟩,
 some ⟨1, 8, some (.nilFunc), .func⟩,
 some ⟨1, 8, some (.nilFunc), .func⟩,
 some ⟨1, 8, some (.nilFunc), .func⟩,
 some ⟨1, 8, some (.nilFunc), .func⟩,
 some ⟨1, 8, some (.nilFunc), .func⟩,
 some ⟨1, 8, some (.nilFunc), .func⟩,
 some ⟨1, 8, some (.nilFunc), .func⟩,
 some ⟨1, 24, some (.slice none 0 0), .slice 9⟩,
 some ⟨1, 8, some (.nilFunc), .func⟩,
 some ⟨1, 8, some (.nilFunc), .func⟩,
 some ⟨1, 8, some (.int .u64 0), .int .u64⟩,
 some ⟨1, 8, some (.nilFunc), .func⟩,
 some ⟨1, 8, some (.nilFunc), .func⟩,
 some ⟨1, 8, some (.nilFunc), .func⟩,
 some ⟨1, 24, some (.agg #[.slice none 0 0]), .struct [(0, 1)]⟩,
 some ⟨1, 8, some (.nilFunc), .func⟩,
 some ⟨1, 8, some (.nilFunc), .func⟩,
 some ⟨1, 8, some (.nilFunc), .func⟩,
 some ⟨1, 8, some (.nilFunc), .func⟩,
 some ⟨1, 8, some (.nilFunc), .func⟩,
 some ⟨1, 8, some (.nilFunc), .func⟩,
 some ⟨6, 72, some (.agg #[.int .i64 0, .string ⟨#[]⟩, .int .i64 0, .int .i64 0, .slice none 0 0, .float .f64 0]), .struct [(0, 1), (1, 1), (2, 1), (3, 3)]⟩,
 some ⟨6, 72, some (.agg #[.int .i64 0, .string ⟨#[]⟩, .int .i64 0, .int .i64 0, .slice none 0 0, .float .f64 0]), .struct [(0, 1), (1, 1), (2, 1), (3, 3)]⟩,
 some ⟨1, 8, some (.nilFunc), .func⟩,
 some ⟨7, 72, some (.agg #[.int .i64 0, .int .i64 0, .int .i64 0, .bool false, .int .i64 0, .float .f64 0, .slice none 0 0]), .struct [(0, 1), (1, 1), (2, 1), (3, 4)]⟩,
 some ⟨7, 72, some (.agg #[.int .i64 0, .int .i64 0, .int .i64 0, .bool false, .int .i64 0, .float .f64 0, .slice none 0 0]), .struct [(0, 1), (1, 1), (2, 1), (3, 4)]⟩,
 some ⟨1, 24, some (.slice none 0 0), .slice 140⟩,
 some ⟨1, 8, some (.nilFunc), .func⟩,
 some ⟨1, 8, some (.nilFunc), .func⟩,
 some ⟨1, 8, some (.nilFunc), .func⟩,
 some ⟨1, 8, some (.nilFunc), .func⟩,
 some ⟨1, 0, some (.tuple #[.agg #[.slice none 0 0], .bool false]), .other⟩,
 some ⟨1, 8, some (.nilFunc), .func⟩,
 some ⟨1, 8, some (.nilFunc), .func⟩,
 some ⟨1, 8, some (.nilFunc), .func⟩,
 some ⟨1, 8, some (.nilFunc), .func⟩,
 some ⟨1, 8, some (.nilFunc), .func⟩,
 some ⟨1, 8, some (.nilFunc), .func⟩,
 some ⟨1, 8, some (.nilFunc), .func⟩,
 some ⟨1, 8, some (.nilFunc), .func⟩,
 some ⟨1, 8, some (.nilFunc), .func⟩,
 some ⟨1, 8, some (.nilFunc), .func⟩,
 some ⟨1, 8, some (.nilFunc), .func⟩,
 some ⟨1, 8, some (.nilFunc), .func⟩,
 some ⟨1, 8, some (.nilFunc), .func⟩,
 some ⟨1, 8, some (.nilFunc), .func⟩,
 some ⟨1, 8, some (.nilFunc), .func⟩,
 some ⟨1, 8, some (.nilFunc), .func⟩,
 some ⟨1, 8, some (.nilFunc), .func⟩,
 some ⟨1, 8, some (.nilFunc), .func⟩,
 some ⟨1, 8, some (.nilFunc), .func⟩,
 some ⟨1, 8, some (.nilFunc), .func⟩,
 some ⟨1, 8, some (.nilFunc), .func⟩,
 some ⟨1, 8, some (.nilFunc), .func⟩,
 some ⟨1, 8, some (.nilFunc), .func⟩,
 some ⟨1, 8, some (.nilFunc), .func⟩,
 some ⟨1, 8, some (.nilFunc), .func⟩,
 some ⟨1, 8, some (.nilFunc), .func⟩,
 some ⟨1, 8, some (.nilFunc), .func⟩,
 some ⟨1, 8, some (.nilFunc), .func⟩,
 some ⟨1, 8, some (.nilFunc), .func⟩,
 some ⟨1, 0, some (.tuple #[.agg #[.int .i64 0, .slice none 0 0, .float .f64 0], .int .i64 0]), .other⟩,
 some ⟨1, 8, some (.nilFunc), .func⟩,
 some ⟨1, 8, some (.nilFunc), .func⟩,
 some ⟨1, 8, some (.nilFunc), .func⟩,
 some ⟨1, 8, some (.nilFunc), .func⟩,
 some ⟨1, 8, some (.nilFunc), .func⟩,
 some ⟨1, 8, some (.nilFunc), .func⟩,
 some ⟨1, 8, some (.nilFunc), .func⟩,
 some ⟨1, 8, some (.nilFunc), .func⟩,
 some ⟨1, 8, some (.nilFunc), .func⟩,
 some ⟨1, 8, some (.nilFunc), .func⟩,
 some ⟨1, 8, some (.nilFunc), .func⟩,
 some ⟨1, 8, some (.nilFunc), .func⟩,
 some ⟨1, 8, some (.nilFunc), .func⟩,
 some ⟨1, 8, some (.nilFunc), .func⟩,
 some ⟨1, 8, some (.nilFunc), .func⟩,
 some ⟨1, 8, some (.nilFunc), .func⟩,
 some ⟨4, 40, some (.agg #[.pointer none, .pointer none, .pointer none, .string ⟨#[]⟩]), .struct [(0, 1), (1, 1), (2, 1), (3, 1)]⟩,
 some ⟨4, 40, some (.agg #[.pointer none, .pointer none, .pointer none, .string ⟨#[]⟩]), .struct [(0, 1), (1, 1), (2, 1), (3, 1)]⟩,
 some ⟨0, 0, some (.agg #[]), .array 0 16⟩,
 some ⟨0, 0, some (.agg #[]), .struct [(0, 0)]⟩,
 some ⟨0, 0, some (.agg #[]), .struct [(0, 0)]⟩,
 some ⟨1, 1, some (.int .u8 0), .int .u8⟩,
 some ⟨1, 1, some (.int .u8 0), .int .u8⟩,
 some ⟨1, 8, some (.nilFunc), .func⟩,
 some ⟨1, 8, some (.pointer none), .pointer⟩,
 some ⟨1, 4, some (.int .i32 0), .int .i32⟩,
 some ⟨1, 4, some (.int .i32 0), .int .i32⟩,
 some ⟨11, 48, some (.agg #[.int .u64 0, .int .u64 0, .int .u32 0, .int .u8 0, .int .u8 0, .int .u8 0, .int .u8 0, .nilFunc, .pointer none, .int .i32 0, .int .i32 0]), .struct [(0, 1), (1, 1), (2, 1), (3, 1), (4, 1), (5, 1), (6, 1), (7, 1), (8, 1), (9, 1), (10, 1)]⟩,
 some ⟨11, 48, some (.agg #[.int .u64 0, .int .u64 0, .int .u32 0, .int .u8 0, .int .u8 0, .int .u8 0, .int .u8 0, .nilFunc, .pointer none, .int .i32 0, .int .i32 0]), .struct [(0, 1), (1, 1), (2, 1), (3, 1), (4, 1), (5, 1), (6, 1), (7, 1), (8, 1), (9, 1), (10, 1)]⟩,
 some ⟨1, 8, some (.pointer none), .other⟩]
def getT : List (Option TI) → Nat → Option TI
 | [], _ => none
 | x :: _, 0 => x
 | _ :: l, n + 1 => getT l n
theorem getT_eq (l : List (Option TI)) (n : Nat) : getT l n = (l[n]?).getD none := by
 induction l generalizing n with
 | nil => rfl
 | cons a l ih => cases n <;> simp [getT, ih]
def TT : Types := fun t => getT tab t
theorem tab_is : (List.range 210).map (tiOf Tryz.prog) = tab := by kernel_rfl
theorem tok : TOk Tryz.prog TT := fun t ti h => by
 unfold TT at h
 rw [getT_eq, ← tab_is] at h
 by_cases ht : t < 210
 ·simpa [ht] using h
 ·simp [ht] at h
abbrev DD := draw Tryz.prog TT
theorem dok : DOk Tryz.prog DD := draw_ok tok (by kernel_rfl)
end Go.Proofs.YtjepgbpcpcahgaaGreat
namespace Go.Am
open Go.RowKit
section
variable {P : Program} {TT : Types} {D : Dr} {all rest : List Oper} {o : Oper} {s s' : List AV} {L L' L'' : Heap} {n n' : Nat} {K : Kn} {KP : AV → Kn} {av : AV} {Kk : Kc}
def skipK (all : List Oper) (pr : List Nat) (E S : Nat) : List Nat → (List Nat → Prop) → Prop
 | [], k => k []
 | j :: js, k => match all[j]? with
  | none => k (j :: js)
  | some o => match isE o || (inM E j || !(avM (pr.getD j 0) E S)) with
   | true => skipK all pr E S js k
   | false => k (j :: js)
theorem skipK_eq {P : Program} {TT : Types} {all : List Oper} {pr : List Nat} {E S : Nat} {L : Heap} {s : List AV} {n : Nat} {k : Nat → List AV → Nat → Prop} : ∀ (js : List Nat), skipK all pr E S js (fun js' => evGoM P TT all pr S L js' E s n k) → evGoM P TT all pr S L js E s n k
 | [], h => h
 | j :: js, h => by
  unfold skipK at h
  split at h
  ·exact h
  ·rename_i o hj
   split at h
   ·rename_i hc
    exact v_skip hj hc (skipK_eq js h)
   ·exact h
theorem v_skips {P : Program} {TT : Types} {all : List Oper} {pr : List Nat} {E S : Nat} {js js' : List Nat} {L : Heap} {s : List AV} {n j : Nat} {o : Oper} {k : Nat → List AV → Nat → Prop} (hj : all[j]? = some o) (hc : (isE o || (inM E j || !(avM (pr.getD j 0) E S))) = true) (hs : ∀ k : List Nat → Prop, k js' → skipK all pr E S js k)
  (h : evGoM P TT all pr S L js' E s n k) : evGoM P TT all pr S L (j :: js) E s n k :=
 v_skip hj hc (skipK_eq js (hs (fun js' => evGoM P TT all pr S L js' E s n k) h))
structure Tag (q : Prop) : Prop where
 out : q
theorem awd {p q : Prop} (h : q) (f : Tag q → p := by (intro hTag; (repeat' (first | ((with_reducible refine no_implicit_lambda% (zA ?_)); first | (refine no_implicit_lambda% (o_op rfl ?_)) | (refine no_implicit_lambda% (o_yes rfl rfl rfl ?_)) | (refine no_implicit_lambda% (o_no rfl rfl rfl (fun _ h => h) ?_)) | (refine no_implicit_lambda% (o_not rfl rfl rfl (fun _ h => h) ?_))) | ((with_reducible refine no_implicit_lambda% (is_opK ?_)); first | (refine no_implicit_lambda% (k_op' (fun _ h => h) ?_))) | ((with_reducible refine no_implicit_lambda% (zC ?_)); first | (refine no_implicit_lambda% (a_q1 rfl (fun _ h => h) ?_)) | (refine no_implicit_lambda% (a_box rfl (fun _ h => h) ?_)) | (refine no_implicit_lambda% (a_alloc rfl (fun _ h => h) ?_)) | (refine no_implicit_lambda% (a_storev rfl (fun _ h => h) ?_)) | (refine no_implicit_lambda% (a_store rfl (fun _ h => h) ?_)) | (refine no_implicit_lambda% (a_panic rfl rfl ?_))) | ((with_reducible refine no_implicit_lambda% (zC ?_)); first | (refine no_implicit_lambda% (a_append_tok rfl rfl rfl rfl rfl rfl rfl rfl rfl rfl rfl rfl rfl rfl (by first | rfl | (simp; done)) (fun _ h => h) (by (first | assumption | (intro row hr; simp only [List.mem_cons, List.not_mem_nil, or_false] at hr; rcases hr with rfl | rfl | rfl | rfl <;> rfl) | (intro row hr; simp at hr; done) | (intro row hr; simp only [List.mem_singleton] at hr; subst hr; rfl) | (intro row hr; obtain ⟨_, _, rfl⟩ := List.mem_map.1 hr; rfl))) (by (refine ⟨?_, ?_⟩ <;> (simp only [List.length_map, List.length_append, List.length_cons, List.length_nil]; omega))) ?_)) | (refine no_implicit_lambda% (a_append_full rfl rfl rfl rfl rfl rfl rfl rfl rfl rfl rfl rfl (by (first | assumption | (intro row hr; simp only [List.mem_cons, List.not_mem_nil, or_false] at hr; rcases hr with rfl | rfl | rfl | rfl <;> rfl) | (intro row hr; simp at hr; done) | (intro row hr; simp only [List.mem_singleton] at hr; subst hr; rfl) | (intro row hr; obtain ⟨_, _, rfl⟩ := List.mem_map.1 hr; rfl))) (by (first | assumption | (intro row hr; simp only [List.mem_cons, List.not_mem_nil, or_false] at hr; rcases hr with rfl | rfl | rfl | rfl <;> rfl) | (intro row hr; simp at hr; done) | (intro row hr; simp only [List.mem_singleton] at hr; subst hr; rfl) | (intro row hr; obtain ⟨_, _, rfl⟩ := List.mem_map.1 hr; rfl))) (by (refine ⟨?_, ?_⟩ <;> (simp only [List.length_map, List.length_append, List.length_cons, List.length_nil]; omega))) ?_))) | (first | (with_reducible refine no_implicit_lambda% (c_seq ?_)) | (with_reducible refine no_implicit_lambda% (c_region ?_)) | (with_reducible refine no_implicit_lambda% (c_ret ?_)) | (with_reducible refine no_implicit_lambda% (c_skip ?_)) | (with_reducible refine no_implicit_lambda% (c_block ?_)) | (with_reducible refine no_implicit_lambda% (c_exit ?_)) | (with_reducible refine no_implicit_lambda% (o_nil ?_)) | (with_reducible refine no_implicit_lambda% (k_seq ?_)) | (with_reducible refine no_implicit_lambda% (k_seq_ret ?_)) | (with_reducible refine no_implicit_lambda% (k_seq_exit ?_)) | (with_reducible refine no_implicit_lambda% (k_seq_pan ?_)) | (with_reducible refine no_implicit_lambda% (k_block ?_)) | (with_reducible refine no_implicit_lambda% (k_block_ret ?_)) | (with_reducible refine no_implicit_lambda% (k_block_pan ?_)) | ((with_reducible refine no_implicit_lambda% (is_blockx ?_)); first | (refine no_implicit_lambda% (k_block_here rfl ?_)) | (refine no_implicit_lambda% (k_block_on rfl ?_))) | (with_reducible refine no_implicit_lambda% (k_pan ?_)) | (with_reducible refine no_implicit_lambda% (k_opP ?_)) | (with_reducible refine no_implicit_lambda% (k_loop_ret ?_)) | (with_reducible refine no_implicit_lambda% (k_loop_exit ?_)) | (with_reducible refine no_implicit_lambda% (k_loop_pan ?_)) | (with_reducible refine no_implicit_lambda% (e_end ?_))) | (((with_reducible refine no_implicit_lambda% (zB ?_)); first | (refine no_implicit_lambda% (c_true rfl ?_)) | (refine no_implicit_lambda% (c_false rfl ?_)))) | ((with_reducible refine no_implicit_lambda% (c_draw ?_)); refine no_implicit_lambda% (d_start (by kernel_rfl) (fun _ h => h) (fun _ h => h) ?_)) | (first | (with_reducible refine no_implicit_lambda% (v_nil ?_)) | ((with_reducible refine no_implicit_lambda% (is_ev ?_)); first | (refine no_implicit_lambda% (v_skips rfl rfl (fun _ h => h) ?_)) | (refine no_implicit_lambda% (v_q rfl rfl rfl rfl (fun _ h => h) (fun _ h => h) ?_)) | (refine no_implicit_lambda% (v_alloc rfl rfl rfl (fun _ h => h) rfl ?_)) | (refine no_implicit_lambda% (v_no rfl rfl rfl rfl rfl rfl (fun _ h => h) ?_)) | (refine no_implicit_lambda% (v_yes rfl rfl rfl rfl rfl rfl (fun _ h => h) (fun _ h => h) ?_)) | (refine no_implicit_lambda% (v_not rfl rfl rfl rfl rfl rfl (fun _ h => h) ?_)))) | ((with_reducible refine no_implicit_lambda% (is_drB ?_)); first | (refine no_implicit_lambda% (b_end rfl rfl (fun _ h => h) (fun _ h => h) ?_)) | (refine no_implicit_lambda% (b_eff rfl rfl rfl rfl (fun _ h => h) (fun _ h => h) rfl ?_)) | (refine no_implicit_lambda% (b_no rfl rfl rfl rfl (fun _ h => h) (fun _ h => h) rfl rfl rfl (fun _ h => h) (fun _ h => h) ?_)) | (refine no_implicit_lambda% (b_yes rfl rfl rfl rfl (fun _ h => h) (fun _ h => h) rfl rfl rfl ?_)) | (refine no_implicit_lambda% (b_not rfl rfl rfl rfl (fun _ h => h) (fun _ h => h) rfl rfl rfl (fun _ h => h) (fun _ h => h) ?_))) | ((with_reducible refine no_implicit_lambda% (is_effK ?_)); refine no_implicit_lambda% (k_eff (fun _ h => h) (fun _ h => h) (fun _ h => h) (by intro k h; repeat (first | exact h | refine ⟨rfl, ?_⟩ | refine ⟨trivial, ?_⟩)) ?_)) | ((with_reducible refine no_implicit_lambda% (zC ?_)); refine no_implicit_lambda% (a_qS rfl (qIx (fun _ h => h)) (by first | assumption | exact hpx (by assumption) | exact hpy (by assumption)) ?_)) | ((with_reducible refine no_implicit_lambda% (is_ev ?_)); first | (refine no_implicit_lambda% (v_qS rfl rfl rfl rfl (qIx (fun _ h => h)) (fun _ h => h) (by first | assumption | exact hpx (by assumption) | exact hpy (by assumption)) ?_)) | (refine no_implicit_lambda% (v_yesS rfl rfl rfl rfl rfl rfl (qIx (fun _ h => h)) (fun _ h => h) (by first | assumption | exact hpx (by assumption) | exact hpy (by assumption)) ?_))) | ((with_reducible refine no_implicit_lambda% (zC ?_)); refine no_implicit_lambda% (a_qS rfl (qStr (fun _ h => h)) rfl ?_)) | ((with_reducible refine no_implicit_lambda% (is_ev ?_)); first | (refine no_implicit_lambda% (v_qS rfl rfl rfl rfl (qStr (fun _ h => h)) (fun _ h => h) rfl ?_)) | (refine no_implicit_lambda% (v_yesS rfl rfl rfl rfl rfl rfl (qStr (fun _ h => h)) (fun _ h => h) rfl ?_))) | ((with_reducible refine no_implicit_lambda% (zC ?_)); refine no_implicit_lambda% (a_qS rfl (fun _ h => h) (by decide) ?_)) | ((with_reducible refine no_implicit_lambda% (is_ev ?_)); first | (refine no_implicit_lambda% (v_qS rfl rfl rfl rfl (fun _ h => h) (fun _ h => h) (by decide) ?_)) | (refine no_implicit_lambda% (v_yesS rfl rfl rfl rfl rfl rfl (fun _ h => h) (fun _ h => h) (by decide) ?_))) | ((with_reducible refine no_implicit_lambda% (is_effP ?_)); refine no_implicit_lambda% (k_effP2 (fun _ h => h) ?_)) | fail)); exact Tag.out hTag)) : p := f ⟨h⟩
theorem awdz {p q : Prop} (h : q) (f : Tag q → p := by (intro hTag; (repeat' (first | ((with_reducible refine no_implicit_lambda% (zA ?_)); first | (refine no_implicit_lambda% (o_op rfl ?_)) | (refine no_implicit_lambda% (o_yes rfl rfl rfl ?_)) | (refine no_implicit_lambda% (o_no rfl rfl rfl (fun _ h => h) ?_)) | (refine no_implicit_lambda% (o_not rfl rfl rfl (fun _ h => h) ?_))) | ((with_reducible refine no_implicit_lambda% (is_opK ?_)); first | (refine no_implicit_lambda% (k_op' (fun _ h => h) ?_))) | ((with_reducible refine no_implicit_lambda% (zC ?_)); first | (refine no_implicit_lambda% (a_q1 rfl (fun _ h => h) ?_)) | (refine no_implicit_lambda% (a_box rfl (fun _ h => h) ?_)) | (refine no_implicit_lambda% (a_alloc rfl (fun _ h => h) ?_)) | (refine no_implicit_lambda% (a_storev rfl (fun _ h => h) ?_)) | (refine no_implicit_lambda% (a_store rfl (fun _ h => h) ?_)) | (refine no_implicit_lambda% (a_panic rfl rfl ?_))) | (first | (with_reducible refine no_implicit_lambda% (c_seq ?_)) | (with_reducible refine no_implicit_lambda% (c_region ?_)) | (with_reducible refine no_implicit_lambda% (c_ret ?_)) | (with_reducible refine no_implicit_lambda% (c_skip ?_)) | (with_reducible refine no_implicit_lambda% (c_block ?_)) | (with_reducible refine no_implicit_lambda% (c_exit ?_)) | (with_reducible refine no_implicit_lambda% (o_nil ?_)) | (with_reducible refine no_implicit_lambda% (k_seq ?_)) | (with_reducible refine no_implicit_lambda% (k_seq_ret ?_)) | (with_reducible refine no_implicit_lambda% (k_seq_exit ?_)) | (with_reducible refine no_implicit_lambda% (k_seq_pan ?_)) | (with_reducible refine no_implicit_lambda% (k_block ?_)) | (with_reducible refine no_implicit_lambda% (k_block_ret ?_)) | (with_reducible refine no_implicit_lambda% (k_block_pan ?_)) | ((with_reducible refine no_implicit_lambda% (is_blockx ?_)); first | (refine no_implicit_lambda% (k_block_here rfl ?_)) | (refine no_implicit_lambda% (k_block_on rfl ?_))) | (with_reducible refine no_implicit_lambda% (k_pan ?_)) | (with_reducible refine no_implicit_lambda% (k_opP ?_)) | (with_reducible refine no_implicit_lambda% (k_loop_ret ?_)) | (with_reducible refine no_implicit_lambda% (k_loop_exit ?_)) | (with_reducible refine no_implicit_lambda% (k_loop_pan ?_)) | (with_reducible refine no_implicit_lambda% (e_end ?_))) | (((with_reducible refine no_implicit_lambda% (zB ?_)); first | (refine no_implicit_lambda% (c_true rfl ?_)) | (refine no_implicit_lambda% (c_false rfl ?_)))) | ((with_reducible refine no_implicit_lambda% (c_draw ?_)); refine no_implicit_lambda% (d_start (by kernel_rfl) (fun _ h => h) (fun _ h => h) ?_)) | (first | (with_reducible refine no_implicit_lambda% (v_nil ?_)) | ((with_reducible refine no_implicit_lambda% (is_ev ?_)); first | (refine no_implicit_lambda% (v_skips rfl rfl (fun _ h => h) ?_)) | (refine no_implicit_lambda% (v_q rfl rfl rfl rfl (fun _ h => h) (fun _ h => h) ?_)) | (refine no_implicit_lambda% (v_alloc rfl rfl rfl (fun _ h => h) rfl ?_)) | (refine no_implicit_lambda% (v_no rfl rfl rfl rfl rfl rfl (fun _ h => h) ?_)) | (refine no_implicit_lambda% (v_yes rfl rfl rfl rfl rfl rfl (fun _ h => h) (fun _ h => h) ?_)) | (refine no_implicit_lambda% (v_not rfl rfl rfl rfl rfl rfl (fun _ h => h) ?_)))) | ((with_reducible refine no_implicit_lambda% (is_drB ?_)); first | (refine no_implicit_lambda% (b_end rfl rfl (fun _ h => h) (fun _ h => h) ?_)) | (refine no_implicit_lambda% (b_eff rfl rfl rfl rfl (fun _ h => h) (fun _ h => h) rfl ?_)) | (refine no_implicit_lambda% (b_no rfl rfl rfl rfl (fun _ h => h) (fun _ h => h) rfl rfl rfl (fun _ h => h) (fun _ h => h) ?_)) | (refine no_implicit_lambda% (b_yes rfl rfl rfl rfl (fun _ h => h) (fun _ h => h) rfl rfl rfl ?_)) | (refine no_implicit_lambda% (b_not rfl rfl rfl rfl (fun _ h => h) (fun _ h => h) rfl rfl rfl (fun _ h => h) (fun _ h => h) ?_))) | ((with_reducible refine no_implicit_lambda% (is_effK ?_)); refine no_implicit_lambda% (k_eff (fun _ h => h) (fun _ h => h) (fun _ h => h) (by intro k h; repeat (first | exact h | refine ⟨rfl, ?_⟩ | refine ⟨trivial, ?_⟩)) ?_)) | ((with_reducible refine no_implicit_lambda% (zC ?_)); refine no_implicit_lambda% (a_qS rfl (qIx (fun _ h => h)) (by first | assumption | exact hpx (by assumption) | exact hpy (by assumption)) ?_)) | ((with_reducible refine no_implicit_lambda% (is_ev ?_)); first | (refine no_implicit_lambda% (v_qS rfl rfl rfl rfl (qIx (fun _ h => h)) (fun _ h => h) (by first | assumption | exact hpx (by assumption) | exact hpy (by assumption)) ?_)) | (refine no_implicit_lambda% (v_yesS rfl rfl rfl rfl rfl rfl (qIx (fun _ h => h)) (fun _ h => h) (by first | assumption | exact hpx (by assumption) | exact hpy (by assumption)) ?_))) | ((with_reducible refine no_implicit_lambda% (zC ?_)); refine no_implicit_lambda% (a_qS rfl (qStr (fun _ h => h)) rfl ?_)) | ((with_reducible refine no_implicit_lambda% (is_ev ?_)); first | (refine no_implicit_lambda% (v_qS rfl rfl rfl rfl (qStr (fun _ h => h)) (fun _ h => h) rfl ?_)) | (refine no_implicit_lambda% (v_yesS rfl rfl rfl rfl rfl rfl (qStr (fun _ h => h)) (fun _ h => h) rfl ?_))) | ((with_reducible refine no_implicit_lambda% (zC ?_)); refine no_implicit_lambda% (a_qS rfl (fun _ h => h) (by decide) ?_)) | ((with_reducible refine no_implicit_lambda% (is_ev ?_)); first | (refine no_implicit_lambda% (v_qS rfl rfl rfl rfl (fun _ h => h) (fun _ h => h) (by decide) ?_)) | (refine no_implicit_lambda% (v_yesS rfl rfl rfl rfl rfl rfl (fun _ h => h) (fun _ h => h) (by decide) ?_))) | ((with_reducible refine no_implicit_lambda% (is_effP ?_)); refine no_implicit_lambda% (k_effP2 (fun _ h => h) ?_)) | fail)); exact Tag.out hTag)) : p := f ⟨h⟩
theorem zH {p q : Prop} (h : q) (f : Tag q → p := by (intro hTag; (first | ((with_reducible refine no_implicit_lambda% (zA ?_)); first | (refine no_implicit_lambda% (o_op rfl ?_)) | (refine no_implicit_lambda% (o_yes rfl rfl rfl ?_)) | (refine no_implicit_lambda% (o_no rfl rfl rfl (fun _ h => h) ?_)) | (refine no_implicit_lambda% (o_not rfl rfl rfl (fun _ h => h) ?_))) | ((with_reducible refine no_implicit_lambda% (is_opK ?_)); first | (refine no_implicit_lambda% (k_op' (fun _ h => h) ?_))) | ((with_reducible refine no_implicit_lambda% (zC ?_)); first | (refine no_implicit_lambda% (a_q1 rfl (fun _ h => h) ?_)) | (refine no_implicit_lambda% (a_box rfl (fun _ h => h) ?_)) | (refine no_implicit_lambda% (a_alloc rfl (fun _ h => h) ?_)) | (refine no_implicit_lambda% (a_storev rfl (fun _ h => h) ?_)) | (refine no_implicit_lambda% (a_store rfl (fun _ h => h) ?_)) | (refine no_implicit_lambda% (a_panic rfl rfl ?_))) | ((with_reducible refine no_implicit_lambda% (zC ?_)); first | (refine no_implicit_lambda% (a_append_tok rfl rfl rfl rfl rfl rfl rfl rfl rfl rfl rfl rfl rfl rfl (by first | rfl | (simp; done)) (fun _ h => h) (by (first | assumption | (intro row hr; simp only [List.mem_cons, List.not_mem_nil, or_false] at hr; rcases hr with rfl | rfl | rfl | rfl <;> rfl) | (intro row hr; simp at hr; done) | (intro row hr; simp only [List.mem_singleton] at hr; subst hr; rfl) | (intro row hr; obtain ⟨_, _, rfl⟩ := List.mem_map.1 hr; rfl))) (by (refine ⟨?_, ?_⟩ <;> (simp only [List.length_map, List.length_append, List.length_cons, List.length_nil]; omega))) ?_)) | (refine no_implicit_lambda% (a_append_full rfl rfl rfl rfl rfl rfl rfl rfl rfl rfl rfl rfl (by (first | assumption | (intro row hr; simp only [List.mem_cons, List.not_mem_nil, or_false] at hr; rcases hr with rfl | rfl | rfl | rfl <;> rfl) | (intro row hr; simp at hr; done) | (intro row hr; simp only [List.mem_singleton] at hr; subst hr; rfl) | (intro row hr; obtain ⟨_, _, rfl⟩ := List.mem_map.1 hr; rfl))) (by (first | assumption | (intro row hr; simp only [List.mem_cons, List.not_mem_nil, or_false] at hr; rcases hr with rfl | rfl | rfl | rfl <;> rfl) | (intro row hr; simp at hr; done) | (intro row hr; simp only [List.mem_singleton] at hr; subst hr; rfl) | (intro row hr; obtain ⟨_, _, rfl⟩ := List.mem_map.1 hr; rfl))) (by (refine ⟨?_, ?_⟩ <;> (simp only [List.length_map, List.length_append, List.length_cons, List.length_nil]; omega))) ?_))) | (first | (with_reducible refine no_implicit_lambda% (c_seq ?_)) | (with_reducible refine no_implicit_lambda% (c_region ?_)) | (with_reducible refine no_implicit_lambda% (c_ret ?_)) | (with_reducible refine no_implicit_lambda% (c_skip ?_)) | (with_reducible refine no_implicit_lambda% (c_block ?_)) | (with_reducible refine no_implicit_lambda% (c_exit ?_)) | (with_reducible refine no_implicit_lambda% (o_nil ?_)) | (with_reducible refine no_implicit_lambda% (k_seq ?_)) | (with_reducible refine no_implicit_lambda% (k_seq_ret ?_)) | (with_reducible refine no_implicit_lambda% (k_seq_exit ?_)) | (with_reducible refine no_implicit_lambda% (k_seq_pan ?_)) | (with_reducible refine no_implicit_lambda% (k_block ?_)) | (with_reducible refine no_implicit_lambda% (k_block_ret ?_)) | (with_reducible refine no_implicit_lambda% (k_block_pan ?_)) | ((with_reducible refine no_implicit_lambda% (is_blockx ?_)); first | (refine no_implicit_lambda% (k_block_here rfl ?_)) | (refine no_implicit_lambda% (k_block_on rfl ?_))) | (with_reducible refine no_implicit_lambda% (k_pan ?_)) | (with_reducible refine no_implicit_lambda% (k_opP ?_)) | (with_reducible refine no_implicit_lambda% (k_loop_ret ?_)) | (with_reducible refine no_implicit_lambda% (k_loop_exit ?_)) | (with_reducible refine no_implicit_lambda% (k_loop_pan ?_)) | (with_reducible refine no_implicit_lambda% (e_end ?_))) | (((with_reducible refine no_implicit_lambda% (zB ?_)); first | (refine no_implicit_lambda% (c_true rfl ?_)) | (refine no_implicit_lambda% (c_false rfl ?_)))) | ((with_reducible refine no_implicit_lambda% (c_draw ?_)); refine no_implicit_lambda% (d_start (by kernel_rfl) (fun _ h => h) (fun _ h => h) ?_)) | (first | (with_reducible refine no_implicit_lambda% (v_nil ?_)) | ((with_reducible refine no_implicit_lambda% (is_ev ?_)); first | (refine no_implicit_lambda% (v_skips rfl rfl (fun _ h => h) ?_)) | (refine no_implicit_lambda% (v_q rfl rfl rfl rfl (fun _ h => h) (fun _ h => h) ?_)) | (refine no_implicit_lambda% (v_alloc rfl rfl rfl (fun _ h => h) rfl ?_)) | (refine no_implicit_lambda% (v_no rfl rfl rfl rfl rfl rfl (fun _ h => h) ?_)) | (refine no_implicit_lambda% (v_yes rfl rfl rfl rfl rfl rfl (fun _ h => h) (fun _ h => h) ?_)) | (refine no_implicit_lambda% (v_not rfl rfl rfl rfl rfl rfl (fun _ h => h) ?_)))) | ((with_reducible refine no_implicit_lambda% (is_drB ?_)); first | (refine no_implicit_lambda% (b_end rfl rfl (fun _ h => h) (fun _ h => h) ?_)) | (refine no_implicit_lambda% (b_eff rfl rfl rfl rfl (fun _ h => h) (fun _ h => h) rfl ?_)) | (refine no_implicit_lambda% (b_no rfl rfl rfl rfl (fun _ h => h) (fun _ h => h) rfl rfl rfl (fun _ h => h) (fun _ h => h) ?_)) | (refine no_implicit_lambda% (b_yes rfl rfl rfl rfl (fun _ h => h) (fun _ h => h) rfl rfl rfl ?_)) | (refine no_implicit_lambda% (b_not rfl rfl rfl rfl (fun _ h => h) (fun _ h => h) rfl rfl rfl (fun _ h => h) (fun _ h => h) ?_))) | ((with_reducible refine no_implicit_lambda% (is_effK ?_)); refine no_implicit_lambda% (k_eff (fun _ h => h) (fun _ h => h) (fun _ h => h) (by intro k h; repeat (first | exact h | refine ⟨rfl, ?_⟩ | refine ⟨trivial, ?_⟩)) ?_)) | ((with_reducible refine no_implicit_lambda% (zC ?_)); refine no_implicit_lambda% (a_qS rfl (qIx (fun _ h => h)) (by first | assumption | exact hpx (by assumption) | exact hpy (by assumption)) ?_)) | ((with_reducible refine no_implicit_lambda% (is_ev ?_)); first | (refine no_implicit_lambda% (v_qS rfl rfl rfl rfl (qIx (fun _ h => h)) (fun _ h => h) (by first | assumption | exact hpx (by assumption) | exact hpy (by assumption)) ?_)) | (refine no_implicit_lambda% (v_yesS rfl rfl rfl rfl rfl rfl (qIx (fun _ h => h)) (fun _ h => h) (by first | assumption | exact hpx (by assumption) | exact hpy (by assumption)) ?_))) | ((with_reducible refine no_implicit_lambda% (zC ?_)); refine no_implicit_lambda% (a_qS rfl (qStr (fun _ h => h)) rfl ?_)) | ((with_reducible refine no_implicit_lambda% (is_ev ?_)); first | (refine no_implicit_lambda% (v_qS rfl rfl rfl rfl (qStr (fun _ h => h)) (fun _ h => h) rfl ?_)) | (refine no_implicit_lambda% (v_yesS rfl rfl rfl rfl rfl rfl (qStr (fun _ h => h)) (fun _ h => h) rfl ?_))) | ((with_reducible refine no_implicit_lambda% (zC ?_)); refine no_implicit_lambda% (a_qS rfl (fun _ h => h) (by decide) ?_)) | ((with_reducible refine no_implicit_lambda% (is_ev ?_)); first | (refine no_implicit_lambda% (v_qS rfl rfl rfl rfl (fun _ h => h) (fun _ h => h) (by decide) ?_)) | (refine no_implicit_lambda% (v_yesS rfl rfl rfl rfl rfl rfl (fun _ h => h) (fun _ h => h) (by decide) ?_))) | ((with_reducible refine no_implicit_lambda% (is_effP ?_)); refine no_implicit_lambda% (k_effP2 (fun _ h => h) ?_))); (repeat' (first | ((with_reducible refine no_implicit_lambda% (zA ?_)); first | (refine no_implicit_lambda% (o_op rfl ?_)) | (refine no_implicit_lambda% (o_yes rfl rfl rfl ?_)) | (refine no_implicit_lambda% (o_no rfl rfl rfl (fun _ h => h) ?_)) | (refine no_implicit_lambda% (o_not rfl rfl rfl (fun _ h => h) ?_))) | ((with_reducible refine no_implicit_lambda% (is_opK ?_)); first | (refine no_implicit_lambda% (k_op' (fun _ h => h) ?_))) | ((with_reducible refine no_implicit_lambda% (zC ?_)); first | (refine no_implicit_lambda% (a_q1 rfl (fun _ h => h) ?_)) | (refine no_implicit_lambda% (a_box rfl (fun _ h => h) ?_)) | (refine no_implicit_lambda% (a_alloc rfl (fun _ h => h) ?_)) | (refine no_implicit_lambda% (a_storev rfl (fun _ h => h) ?_)) | (refine no_implicit_lambda% (a_store rfl (fun _ h => h) ?_)) | (refine no_implicit_lambda% (a_panic rfl rfl ?_))) | ((with_reducible refine no_implicit_lambda% (zC ?_)); first | (refine no_implicit_lambda% (a_append_tok rfl rfl rfl rfl rfl rfl rfl rfl rfl rfl rfl rfl rfl rfl (by first | rfl | (simp; done)) (fun _ h => h) (by (first | assumption | (intro row hr; simp only [List.mem_cons, List.not_mem_nil, or_false] at hr; rcases hr with rfl | rfl | rfl | rfl <;> rfl) | (intro row hr; simp at hr; done) | (intro row hr; simp only [List.mem_singleton] at hr; subst hr; rfl) | (intro row hr; obtain ⟨_, _, rfl⟩ := List.mem_map.1 hr; rfl))) (by (refine ⟨?_, ?_⟩ <;> (simp only [List.length_map, List.length_append, List.length_cons, List.length_nil]; omega))) ?_)) | (refine no_implicit_lambda% (a_append_full rfl rfl rfl rfl rfl rfl rfl rfl rfl rfl rfl rfl (by (first | assumption | (intro row hr; simp only [List.mem_cons, List.not_mem_nil, or_false] at hr; rcases hr with rfl | rfl | rfl | rfl <;> rfl) | (intro row hr; simp at hr; done) | (intro row hr; simp only [List.mem_singleton] at hr; subst hr; rfl) | (intro row hr; obtain ⟨_, _, rfl⟩ := List.mem_map.1 hr; rfl))) (by (first | assumption | (intro row hr; simp only [List.mem_cons, List.not_mem_nil, or_false] at hr; rcases hr with rfl | rfl | rfl | rfl <;> rfl) | (intro row hr; simp at hr; done) | (intro row hr; simp only [List.mem_singleton] at hr; subst hr; rfl) | (intro row hr; obtain ⟨_, _, rfl⟩ := List.mem_map.1 hr; rfl))) (by (refine ⟨?_, ?_⟩ <;> (simp only [List.length_map, List.length_append, List.length_cons, List.length_nil]; omega))) ?_))) | (first | (with_reducible refine no_implicit_lambda% (c_seq ?_)) | (with_reducible refine no_implicit_lambda% (c_region ?_)) | (with_reducible refine no_implicit_lambda% (c_ret ?_)) | (with_reducible refine no_implicit_lambda% (c_skip ?_)) | (with_reducible refine no_implicit_lambda% (c_block ?_)) | (with_reducible refine no_implicit_lambda% (c_exit ?_)) | (with_reducible refine no_implicit_lambda% (o_nil ?_)) | (with_reducible refine no_implicit_lambda% (k_seq ?_)) | (with_reducible refine no_implicit_lambda% (k_seq_ret ?_)) | (with_reducible refine no_implicit_lambda% (k_seq_exit ?_)) | (with_reducible refine no_implicit_lambda% (k_seq_pan ?_)) | (with_reducible refine no_implicit_lambda% (k_block ?_)) | (with_reducible refine no_implicit_lambda% (k_block_ret ?_)) | (with_reducible refine no_implicit_lambda% (k_block_pan ?_)) | ((with_reducible refine no_implicit_lambda% (is_blockx ?_)); first | (refine no_implicit_lambda% (k_block_here rfl ?_)) | (refine no_implicit_lambda% (k_block_on rfl ?_))) | (with_reducible refine no_implicit_lambda% (k_pan ?_)) | (with_reducible refine no_implicit_lambda% (k_opP ?_)) | (with_reducible refine no_implicit_lambda% (k_loop_ret ?_)) | (with_reducible refine no_implicit_lambda% (k_loop_exit ?_)) | (with_reducible refine no_implicit_lambda% (k_loop_pan ?_)) | (with_reducible refine no_implicit_lambda% (e_end ?_))) | (((with_reducible refine no_implicit_lambda% (zB ?_)); first | (refine no_implicit_lambda% (c_true rfl ?_)) | (refine no_implicit_lambda% (c_false rfl ?_)))) | ((with_reducible refine no_implicit_lambda% (c_draw ?_)); refine no_implicit_lambda% (d_start (by kernel_rfl) (fun _ h => h) (fun _ h => h) ?_)) | (first | (with_reducible refine no_implicit_lambda% (v_nil ?_)) | ((with_reducible refine no_implicit_lambda% (is_ev ?_)); first | (refine no_implicit_lambda% (v_skips rfl rfl (fun _ h => h) ?_)) | (refine no_implicit_lambda% (v_q rfl rfl rfl rfl (fun _ h => h) (fun _ h => h) ?_)) | (refine no_implicit_lambda% (v_alloc rfl rfl rfl (fun _ h => h) rfl ?_)) | (refine no_implicit_lambda% (v_no rfl rfl rfl rfl rfl rfl (fun _ h => h) ?_)) | (refine no_implicit_lambda% (v_yes rfl rfl rfl rfl rfl rfl (fun _ h => h) (fun _ h => h) ?_)) | (refine no_implicit_lambda% (v_not rfl rfl rfl rfl rfl rfl (fun _ h => h) ?_)))) | ((with_reducible refine no_implicit_lambda% (is_drB ?_)); first | (refine no_implicit_lambda% (b_end rfl rfl (fun _ h => h) (fun _ h => h) ?_)) | (refine no_implicit_lambda% (b_eff rfl rfl rfl rfl (fun _ h => h) (fun _ h => h) rfl ?_)) | (refine no_implicit_lambda% (b_no rfl rfl rfl rfl (fun _ h => h) (fun _ h => h) rfl rfl rfl (fun _ h => h) (fun _ h => h) ?_)) | (refine no_implicit_lambda% (b_yes rfl rfl rfl rfl (fun _ h => h) (fun _ h => h) rfl rfl rfl ?_)) | (refine no_implicit_lambda% (b_not rfl rfl rfl rfl (fun _ h => h) (fun _ h => h) rfl rfl rfl (fun _ h => h) (fun _ h => h) ?_))) | ((with_reducible refine no_implicit_lambda% (is_effK ?_)); refine no_implicit_lambda% (k_eff (fun _ h => h) (fun _ h => h) (fun _ h => h) (by intro k h; repeat (first | exact h | refine ⟨rfl, ?_⟩ | refine ⟨trivial, ?_⟩)) ?_)) | ((with_reducible refine no_implicit_lambda% (zC ?_)); refine no_implicit_lambda% (a_qS rfl (qIx (fun _ h => h)) (by first | assumption | exact hpx (by assumption) | exact hpy (by assumption)) ?_)) | ((with_reducible refine no_implicit_lambda% (is_ev ?_)); first | (refine no_implicit_lambda% (v_qS rfl rfl rfl rfl (qIx (fun _ h => h)) (fun _ h => h) (by first | assumption | exact hpx (by assumption) | exact hpy (by assumption)) ?_)) | (refine no_implicit_lambda% (v_yesS rfl rfl rfl rfl rfl rfl (qIx (fun _ h => h)) (fun _ h => h) (by first | assumption | exact hpx (by assumption) | exact hpy (by assumption)) ?_))) | ((with_reducible refine no_implicit_lambda% (zC ?_)); refine no_implicit_lambda% (a_qS rfl (qStr (fun _ h => h)) rfl ?_)) | ((with_reducible refine no_implicit_lambda% (is_ev ?_)); first | (refine no_implicit_lambda% (v_qS rfl rfl rfl rfl (qStr (fun _ h => h)) (fun _ h => h) rfl ?_)) | (refine no_implicit_lambda% (v_yesS rfl rfl rfl rfl rfl rfl (qStr (fun _ h => h)) (fun _ h => h) rfl ?_))) | ((with_reducible refine no_implicit_lambda% (zC ?_)); refine no_implicit_lambda% (a_qS rfl (fun _ h => h) (by decide) ?_)) | ((with_reducible refine no_implicit_lambda% (is_ev ?_)); first | (refine no_implicit_lambda% (v_qS rfl rfl rfl rfl (fun _ h => h) (fun _ h => h) (by decide) ?_)) | (refine no_implicit_lambda% (v_yesS rfl rfl rfl rfl rfl rfl (fun _ h => h) (fun _ h => h) (by decide) ?_))) | ((with_reducible refine no_implicit_lambda% (is_effP ?_)); refine no_implicit_lambda% (k_effP2 (fun _ h => h) ?_)) | fail)); exact Tag.out hTag)) : p := f ⟨h⟩
theorem cal {K KP : AV → Heap → Nat → Prop} {c : Call} {x : Operand} {f : FuncId} {cap args args0 : List AV} {k top : Nat} {H0 H1 rest : Heap} {R : AOut → Heap → Prop} (ids : List Nat) (hC : ACalls P f k top args0 H0 R)
  (hret : ∀ x H', R (.ret x) H' → K (x.ren (rn ids n)) (renH (rn ids n) H' ++ rest) n') (hpanic : ∀ x H', R (.panic x) H' → KP (x.ren (rn ids n)) (renH (rn ids n) H' ++ rest) n')
  (ho : o.op = .call c := by rfl) (hk : opKind o = .call := by rfl) (hc : c.callee = .value x := by rfl) (hx : ev s x = .fn f cap := by rfl) (ha : ∀ k : List AV → Prop, k args → forceA (c.args.toList.map (ev s) ++ cap) k := by exact fun _ h => h)
  (hids : (Nat.beq ids.length k && (ids.all (fun i => Nat.blt i n) && (Nat.ble k top && nodupB ids))) = true := by rfl) (hargs : LeL args (AV.renL (rn ids n) args0) := by exact .of_eq rfl)
  (ht : ∀ k : Heap → Heap → Prop, k H1 rest → takeH (keysH (renH (rn ids n) H0)) L k := by exact fun _ h => h) (heq : H1 = renH (rn ids n) H0 := by rfl) (hn : n + (top - k) = n' := by rfl) : aop P TT o s L n K KP :=
 a_call ho hk hc hx ha (by_c ids hC hids hargs ht heq hn hret hpanic)
theorem calw {K KP : AV → Heap → Nat → Prop} {c : Call} {x : Operand} {f : FuncId} {cap args args0 : List AV} {k top : Nat} {H0 H1 rest : Heap} {R : AOut → Heap → Prop} (ids : List Nat) (hC : ACalls P f k top args0 H0 R)
  (hret : ∀ x H', R (.ret x) H' → K (x.ren (rn ids n)) (renH (rn ids n) H' ++ rest) n') (hpanic : ∀ x H', R (.panic x) H' → KP (x.ren (rn ids n)) (renH (rn ids n) H' ++ rest) n')
  (ho : o.op = .call c := by rfl) (hk : opKind o = .call := by rfl) (hc : c.callee = .value x := by rfl) (hx : ev s x = .fn f cap := by rfl) (ha : ∀ k : List AV → Prop, k args → forceA (c.args.toList.map (ev s) ++ cap) k := by exact fun _ h => h)
  (hids : (Nat.beq ids.length k && (ids.all (fun i => Nat.blt i n) && (Nat.ble k top && nodupB ids))) = true := by rfl) (hargs : LeL args (AV.renL (rn ids n) args0) := by (repeat' (first | (exact .nil) | (with_reducible exact LeA.refl _) | (refine no_implicit_lambda% (.cons ?_ ?_)) | (refine no_implicit_lambda% (LeA.agg' ?_)) | (exact LeA.refl _) | (exact LeA.free _ _) | (refine no_implicit_lambda% (LeA.rows ?_ _); ((repeat' (first | (with_reducible exact LDR.nil) | (with_reducible exact LDL.nil) | (refine no_implicit_lambda% (LDR.cons ?_ ?_)) | (refine no_implicit_lambda% (LDL.cons ?_ ?_)) | (exact LeD.refl _) | (exact LeD.free _ _) | (exact LDR.nil) | (exact LDL.nil)))); done))))
  (ht : ∀ k : Heap → Heap → Prop, k H1 rest → takeH (keysH (renH (rn ids n) H0)) L k := by exact fun _ h => h) (heq : H1 = renH (rn ids n) H0 := by rfl) (hn : n + (top - k) = n' := by rfl) : aop P TT o s L n K KP :=
 a_call ho hk hc hx ha (by_c ids hC hids hargs ht heq hn hret hpanic)
theorem permT {L H H1 rest : Heap} (ht : ∀ k : Heap → Heap → Prop, k H1 rest → takeH (keysH H) L k := by exact fun _ h => h) (heq : H1 = H := by rfl) : L.Perm (H ++ rest) := by
 subst heq; exact takeH_to ht
theorem Conv.toT {s : List AV} {L H1 rest : Heap} {n : Nat} {τ : ASt} (hs : WkL s τ.slots) (hH : WkH H1 τ.L) (hn : n ≤ τ.next) (ht : ∀ k : Heap → Heap → Prop, k H1 rest → takeH (keysH τ.L) L k := by exact fun _ h => h) : Conv ⟨s, L, n⟩ τ :=
 (Conv.to (τ := ⟨s, H1, n⟩) rest (.refl s) (takeH_to ht) (Nat.le_refl _)).trans ((Conv.wk hs hH).trans (.to (τ := τ) [] (.refl _) (.of_eq (by simp)) hn))
theorem k_loopT {low : Nat → Prop} {α : Type} {S : α → ASt} {C : α → Prop} {μ : α → Nat} {a : α} {H1 rest0 : Heap} (b : α) (hb : C b) (hm : μ b < μ a) (hw : WkL s (S b).slots) (hH : WkH H1 (S b).L) (ht : ∀ k : Heap → Heap → Prop, k H1 rest0 → takeH (keysH (S b).L) L k := by exact fun _ h => h)
  (hf : (S b).slots.all (AV.loB (S b).next) = true := by rfl) (hh : loH (S b).next (S b).L = true := by rfl) (h1 : (S a).next ≤ (S b).next := by exact Nat.le_of_ble_eq_true rfl) (h2 : (S b).next ≤ n := by exact Nat.le_of_ble_eq_true rfl) : loopK low S C μ a Kk .normal s L n := by
 have hr : ∀ i, i < (S b).next → rn (List.range (S b).next) n i = i := fun i hi => by unfold rn; rw [List.getElem?_range hi]
 exact k_loopR b (List.range (S b).next) hb hm (by
  rw [lo_renL hr hf, loH_ren hr hh]
  exact Conv.toT hw hH (Nat.le_refl _) ht) List.length_range List.nodup_range (fun i hi => Nat.lt_of_lt_of_le (List.mem_range.1 hi) h2) fun i hi => List.getElem?_range (Nat.lt_of_lt_of_le hi h1)
theorem k_loopLT {low : Nat → Prop} {α : Type} {S : α → ASt} {C : α → Prop} {μ : α → Nat} {a : α} {s2 : List AV} {L2 H1 rest0 : Heap} (b : α) (N : Nat) (ids : List Nat) (hb : C b) (hm : μ b < μ a) (hlow : low N) (hs : ∀ k : List AV → Prop, k s2 → forceA (AV.renL (rn ids n) (S b).slots) k) (hL : ∀ k : Heap → Prop, k L2 → forceH (renH (rn ids n) (S b).L) k) (hw : WkL s s2) (hH : WkH H1 L2)
  (ht : ∀ k : Heap → Heap → Prop, k H1 rest0 → takeH (keysH L2) L k := by exact fun _ h => h) (hM : ids.length = (S b).next := by rfl) (hnd : ids.Nodup := by decide) (hlt : ∀ i ∈ ids, i < n := by decide) (hN : ∀ i, i < N → ids[i]? = some i := by decide) : loopK low S C μ a Kk .normal s L n := by
 have e1 : s2 = AV.renL (rn ids n) (S b).slots := by
  have := hs (fun x => s2 = x) rfl
  rwa [forceA_eq] at this
 have e2 : L2 = renH (rn ids n) (S b).L := by
  have := hL (fun x => L2 = x) rfl
  rwa [forceH_eq] at this
 subst e1; subst e2
 exact k_loopL b N ids hb hm hlow (Conv.toT (τ := ⟨_, _, n⟩) hw hH (Nat.le_refl _) ht) hM hnd hlt hN
theorem c_cutR {α : Type} {x y : Code} (S : α → ASt) (C : α → Prop) (hy : ∀ a, C a → acode P TT D y (S a).slots (S a).L (S a).next Kk)
  (hx : ∀ Kx : Kc, (∀ a s L n, C a → SeqTo D.low ⟨s, L, n⟩ (S a) → Kx .normal s L n) → (∀ x s L n, Kk (.panic x) s L n → Kx (.panic x) s L n) → (∀ s L n, Kk .ret s L n → Kx .ret s L n) → (∀ i s L n, Kk (.exit i) s L n → Kx (.exit i) s L n) → acode P TT D x s L n Kx) : acode P TT D x s L n (seqK P TT D y Kk) :=
 (hx (seqK P TT D y Kk) (fun a s L n h hc => ⟨S a, hc, hy a h⟩) (fun _ _ _ _ h => h) (fun _ _ _ h => h) (fun _ _ _ _ h => h))
theorem SeqTo.renT {low : Nat → Prop} {τ : ASt} {s s2 : List AV} {L L2 H1 rest0 : Heap} {n : Nat} (N : Nat) (ids : List Nat) (hlow : low N) (hs : ∀ k : List AV → Prop, k s2 → forceA (AV.renL (rn ids n) τ.slots) k) (hL : ∀ k : Heap → Prop, k L2 → forceH (renH (rn ids n) τ.L) k) (hw : WkL s s2) (hH : WkH H1 L2)
  (ht : ∀ k : Heap → Heap → Prop, k H1 rest0 → takeH (keysH L2) L k := by exact fun _ h => h) (hM : ids.length = τ.next := by rfl) (hnd : ids.Nodup := by decide) (hlt : ∀ i ∈ ids, i < n := by decide) (hN : ∀ i, i < N → ids[i]? = some i := by decide) : SeqTo low ⟨s, L, n⟩ τ := by
 have e1 : s2 = AV.renL (rn ids n) τ.slots := by
  have := hs (fun x => s2 = x) rfl
  rwa [forceA_eq] at this
 have e2 : L2 = renH (rn ids n) τ.L := by
  have := hL (fun x => L2 = x) rfl
  rwa [forceH_eq] at this
 subst e1; subst e2
 exact .inr ⟨N, hlow, (ConvN.ren ids hnd hlt hN hM).after (Conv.toT (τ := ⟨_, _, n⟩) hw hH (Nat.le_refl _) ht)⟩
theorem ret1 {v : AV} {H1 : Heap} {Q : AV → Heap → Prop} (h : Q v H1) : ∀ x H', (AOut.ret x = .ret v ∧ H' = H1) → Q x H' := by
 rintro x H' ⟨h1, h2⟩
 cases h1; subst h2; exact h
theorem zI {v : AV} {H1 : Heap} {Q : AV → Heap → Prop} : ∀ x H', (AOut.panic x = .ret v ∧ H' = H1) → Q x H' := fun x H' h => AOut.noConfusion h.1
theorem zJ {v : AV} {H1 : Heap} {Q : AV → Heap → Prop} : ∀ x H', (AOut.ret x = .panic v ∧ H' = H1) → Q x H' := fun x H' h => AOut.noConfusion h.1
theorem akc {d : Option Nat} {x : AV} (h : aops P TT all rest s' L'' n' K KP) (hx : ∀ k : AV → Prop, k av → fv x k := by exact fun _ h => h) (hs : ∀ k : List AV → Prop, k s' → putD s d av k := by exact fun _ h => h) (hL : ∀ k : Heap → Prop, k L'' → forceH L' k := by exact fun _ h => h) : opK P TT all rest s d K KP x L' n' :=
 k_opc hx hs hL h
theorem aec {pr : List Nat} {E S FL S' : Nat} {js : List Nat} {fuel e : Nat} {L1 L2 : Heap} {d : Option Nat} {x : AV} (h : evGoM P TT all pr S' L2 js E s' n (drBM P TT all pr K KP fuel S' FL L2)) (hx : ∀ k : AV → Prop, k av → fv x k := by exact fun _ h => h) (hs : ∀ k : List AV → Prop, k s' → putD s d av k := by exact fun _ h => h) (hL : ∀ k : Heap → Prop, k L2 → forceH L1 k := by exact fun _ h => h)
  (hr : ∀ k : List Nat → Prop, k js → forceN (List.range all.length) k := by exact fun _ h => h) (hc : ∀ k : Prop, k → rechkM TT all (pr.getD e 0) E s' L2 js k := by (intro k h; repeat (first | exact h | refine ⟨rfl, ?_⟩ | refine ⟨trivial, ?_⟩))) (hS' : ∀ k : Nat → Prop, k S' → forceNat (addM S e) k := by exact fun _ h => h) : effK P TT all pr K KP fuel E S FL e s d x L1 n :=
 k_effc hx hs hL hr hc h hS'
end
theorem zG {p q : Prop} (hq : q) (f : Tag q → False := by (intro hTag; have hc := Tag.out hTag; clear hTag; ((simp only [decide_eq_true_eq, decide_eq_false_iff_not, beq_iff_eq, beq_eq_false_iff_ne, bne_iff_ne, bne_eq_false_iff_eq, List.length_map, Int.not_lt, Int.not_le] at hc); omega))) : p := (f ⟨hq⟩).elim
theorem ans {p q : Prop} (h : q) (f : Tag q → p := by (intro hTag; ((with_reducible refine no_implicit_lambda% (ret1 ?_)); first | (refine no_implicit_lambda% (akc ?_)) | (refine no_implicit_lambda% (aec ?_))); exact Tag.out hTag)) : p := f ⟨h⟩
theorem wkl {p : Prop} (f : Tag True → p := by (intro _; (repeat' (first | (with_reducible exact .nil) | (refine no_implicit_lambda% (.cons ?_ ?_)) | (exact Wk.dead _) | (with_reducible exact Wk.refl _) | (exact WkL.nil))) <;> (first | (exact Wk.eq rfl) | (exact Wk.dead _) | (exact Wk.free _ _) | (exact Wk.lit _) | (refine no_implicit_lambda% (WkR.eq ?_); simp; done) | (refine no_implicit_lambda% (Wk.rows ?_ _); ((repeat' (first | (with_reducible exact LDR.nil) | (with_reducible exact LDL.nil) | (refine no_implicit_lambda% (LDR.cons ?_ ?_)) | (refine no_implicit_lambda% (LDL.cons ?_ ?_)) | (exact LeD.refl _) | (exact LeD.free _ _) | (exact LDR.nil) | (exact LDL.nil)))); done) | (exact Wk.rows (ldr_rep _) _) | (refine no_implicit_lambda% (Wk.eq ?_); rw [List.map_append]; rfl) | ((refine no_implicit_lambda% (Wk.int (Eq.trans (z64 ?_ ?_) ?_))) <;> omega) | (refine no_implicit_lambda% (Wk.int ?_); simp; done) | (refine no_implicit_lambda% (Wk.int ?_); simp; omega) | (refine no_implicit_lambda% (Wk.eq ?_); simp; done)))) : p := f ⟨trivial⟩
theorem wkh {p : Prop} (f : Tag True → p := by (intro _; (repeat' (first | (with_reducible exact WkH.nil) | (refine no_implicit_lambda% (WkH.cons ?_ ?_)) | (exact WkR.refl _) | (refine no_implicit_lambda% (WkR.box _ ?_)) | (refine no_implicit_lambda% (WkR.eq ?_); simp; done) | (exact WkH.nil))) <;> ((repeat' (first | (with_reducible exact .nil) | (refine no_implicit_lambda% (.cons ?_ ?_)) | (exact Wk.dead _) | (with_reducible exact Wk.refl _) | (exact WkL.nil))) <;> (first | (exact Wk.eq rfl) | (exact Wk.dead _) | (exact Wk.free _ _) | (exact Wk.lit _) | (refine no_implicit_lambda% (WkR.eq ?_); simp; done) | (refine no_implicit_lambda% (Wk.rows ?_ _); ((repeat' (first | (with_reducible exact LDR.nil) | (with_reducible exact LDL.nil) | (refine no_implicit_lambda% (LDR.cons ?_ ?_)) | (refine no_implicit_lambda% (LDL.cons ?_ ?_)) | (exact LeD.refl _) | (exact LeD.free _ _) | (exact LDR.nil) | (exact LDL.nil)))); done) | (exact Wk.rows (ldr_rep _) _) | (refine no_implicit_lambda% (Wk.eq ?_); rw [List.map_append]; rfl) | ((refine no_implicit_lambda% (Wk.int (Eq.trans (z64 ?_ ?_) ?_))) <;> omega) | (refine no_implicit_lambda% (Wk.int ?_); simp; done) | (refine no_implicit_lambda% (Wk.int ?_); simp; omega) | (refine no_implicit_lambda% (Wk.eq ?_); simp; done))))) : p := f ⟨trivial⟩
theorem sx1 {p q : Prop} (h : q) (f : Tag q → p := by (intro hTag; (first | ((with_reducible refine no_implicit_lambda% (zA ?_)); first | (refine no_implicit_lambda% (o_op rfl ?_)) | (refine no_implicit_lambda% (o_yes rfl rfl rfl ?_)) | (refine no_implicit_lambda% (o_no rfl rfl rfl (fun _ h => h) ?_)) | (refine no_implicit_lambda% (o_not rfl rfl rfl (fun _ h => h) ?_))) | ((with_reducible refine no_implicit_lambda% (is_opK ?_)); first | (refine no_implicit_lambda% (k_op' (fun _ h => h) ?_))) | ((with_reducible refine no_implicit_lambda% (zC ?_)); first | (refine no_implicit_lambda% (a_q1 rfl (fun _ h => h) ?_)) | (refine no_implicit_lambda% (a_box rfl (fun _ h => h) ?_)) | (refine no_implicit_lambda% (a_alloc rfl (fun _ h => h) ?_)) | (refine no_implicit_lambda% (a_storev rfl (fun _ h => h) ?_)) | (refine no_implicit_lambda% (a_store rfl (fun _ h => h) ?_)) | (refine no_implicit_lambda% (a_panic rfl rfl ?_))) | ((with_reducible refine no_implicit_lambda% (zC ?_)); refine no_implicit_lambda% (a_qS rfl (qIx (fun _ h => h)) (by first | assumption | exact hpx (by assumption) | exact hpy (by assumption)) ?_)) | (first | (with_reducible refine no_implicit_lambda% (c_seq ?_)) | (with_reducible refine no_implicit_lambda% (c_region ?_)) | (with_reducible refine no_implicit_lambda% (c_skip ?_)) | (with_reducible refine no_implicit_lambda% (c_block ?_)) | (with_reducible refine no_implicit_lambda% (c_exit ?_)) | (with_reducible refine no_implicit_lambda% (o_nil ?_)) | (with_reducible refine no_implicit_lambda% (k_seq_ret ?_)) | (with_reducible refine no_implicit_lambda% (k_seq_exit ?_)) | (with_reducible refine no_implicit_lambda% (k_seq_pan ?_)) | (with_reducible refine no_implicit_lambda% (k_block ?_)) | (with_reducible refine no_implicit_lambda% (k_block_ret ?_)) | (with_reducible refine no_implicit_lambda% (k_block_pan ?_)) | ((with_reducible refine no_implicit_lambda% (is_blockx ?_)); first | (refine no_implicit_lambda% (k_block_here rfl ?_)) | (refine no_implicit_lambda% (k_block_on rfl ?_))) | (with_reducible refine no_implicit_lambda% (k_pan ?_)) | (with_reducible refine no_implicit_lambda% (k_opP ?_)) | (with_reducible refine no_implicit_lambda% (k_loop_ret ?_)) | (with_reducible refine no_implicit_lambda% (k_loop_exit ?_)) | (with_reducible refine no_implicit_lambda% (k_loop_pan ?_))) | (((with_reducible refine no_implicit_lambda% (zB ?_)); first | (refine no_implicit_lambda% (c_true rfl ?_)) | (refine no_implicit_lambda% (c_false rfl ?_))))); exact Tag.out hTag)) : p := f ⟨h⟩
end Go.Am
namespace Go.Proofs.YtjepgbpcpcahgaaGreat
open Go.Am
def wr (l : List UInt8) : Heap := [(0, .box [.list (l.map brow) (.tok 1)]), (1, .tok 1 (l.map brow).length)]
theorem byte_c (l : List UInt8) (b : UInt8) (h : l.length < 1073741824) : ACalls Tryz.prog 83 2 2 [.ptr 0 0, .v (.int .u8 b.toNat)] (wr l) (fun out H' => out = .ret (.tuple []) ∧ H' = wr (l ++ [b])) := by
 refine no_implicit_lambda% (acalls_of tok dok (f := 83) ⟨Tryz.func83, rfl, by kernel_rfl⟩ ?_); refine no_implicit_lambda% (c_start (fun _ h => h) ?_)
 refine no_implicit_lambda% (awd ?_)
 refine e_ret (H' := wr (l ++ [b])) (rest := []) rfl ⟨rfl, rfl⟩ (.of_eq (by simp [wr, brow])) (LE0 rfl)
def be (x : Nat) : Nat → List UInt8
 | 0 => []
 | n + 1 => UInt8.ofNat (x >>> (8 * n)) :: be x n
theorem cons_eq {α : Type} {a b : α} {l m : List α} (h : a = b) (k : l = m) : a :: l = b :: m := by rw [h, k]
theorem be_len (x : Nat) : ∀ n, (be x n).length = n
 | 0 => rfl
 | n + 1 => by simp [be, be_len x n]
theorem w64 {n : Int} (h1 : -9223372036854775808 ≤ n) (h2 : n ≤ 9223372036854775807) : IntKind.i64.wrap n = n := by rw [IntKind.wrap_i64]; omega
theorem z64 {n : Int} (h1 : -9223372036854775808 ≤ n) (h2 : n ≤ 9223372036854775807) : IntKind.i64.wrap n = n := by rw [IntKind.wrap_i64]; omega
theorem oct_at (x j : Nat) (hj : j < 8) : IntKind.u8.wrap ((x : Int).fdiv (2 ^ min (IntKind.i64.wrap (8 * (((j + 1 : Nat) : Int) - 1))).toNat IntKind.u64.bits)) = ((UInt8.ofNat (x >>> (8 * j))).toNat : Int) := by
 rw [w64 (by omega) (by omega)]
 have e : (8 * (((j + 1 : Nat) : Int) - 1)).toNat = 8 * j := by omega
 have e2 : min (8 * j) IntKind.u64.bits = 8 * j := Nat.min_eq_left (by show 8 * j ≤ 64; omega)
 rw [e, e2, IntKind.wrap_u8, UInt8.toNat_ofNat', Nat.shiftRight_eq_div_pow, Int.fdiv_eq_ediv_of_nonneg _ (Int.le_of_lt (Int.pow_pos (by decide)))]
 simp
def laySt (l : List UInt8) (x n : Nat) (b : List UInt8) (i : Nat) : ASt :=
 ⟨[.ptr 0 0, .v (.int .u64 x), .v (.int .i64 n), .dead, .dead, .dead, .v (.int .i64 ((i : Int) - 1)), .dead, .dead, .dead, .dead, .dead, .dead, .dead, .dead, .dead, .dead, .dead, .dead, .dead, .dead, .dead, .dead, .dead, .dead, .dead, .dead], wr (l ++ b), 2⟩
theorem lay_c (l : List UInt8) (x n : Nat) (hx : x < 18446744073709551616) (hn : n ≤ 8) (h : l.length < 1073741824) : ACalls Tryz.prog 106 2 2 [.ptr 0 0, .v (.int .u64 x), .v (.int .i64 n)] (wr l) (fun out H' => out = .ret (.tuple []) ∧ H' = wr (l ++ be x n)) := by
 refine no_implicit_lambda% (acalls_of tok dok (f := 106) ⟨Tryz.func106, rfl, by kernel_rfl⟩ ?_); refine no_implicit_lambda% (c_start (fun _ h => h) ?_)
 refine no_implicit_lambda% (awd ?_)
 refine c_loop2 (laySt l x n) (fun b i => i ≤ n ∧ b ++ be x i = be x n) (fun _ i => i) [] n ⟨Nat.le_refl _, rfl⟩ (.to [] ?_ (.of_eq (by simp [laySt])) (Nat.le_refl _)) ?_
 ·unfold laySt
  repeat' (first | (with_reducible exact .nil) | (refine no_implicit_lambda% (.cons ?_ ?_)) | (exact Wk.dead _) | (with_reducible exact Wk.refl _) | (exact WkL.nil))
  refine .int (w64 ?_ ?_) <;> omega
 rintro b i ⟨h1, h2⟩
 have hl := congrArg List.length h2
 rw [List.length_append, be_len, be_len] at hl
 refine no_implicit_lambda% (c_turn (fun _ h => h) (fun _ h => h) rfl ?_)
 refine no_implicit_lambda% (awd ?_)
 ((with_reducible refine no_implicit_lambda% (zB ?_)); refine no_implicit_lambda% (zE rfl (fun hc => ?_) (fun hc => ?_)))
 ·refine no_implicit_lambda% (awd ?_)
  (with_reducible refine no_implicit_lambda% (is_ev ?_)); first | (refine no_implicit_lambda% (v_qS rfl rfl rfl rfl (fun _ h => h) (fun _ h => h) ?_ ?_)) | (refine no_implicit_lambda% (v_qS rfl rfl rfl rfl (qIx (fun _ h => h)) (fun _ h => h) ?_ ?_)) | (refine no_implicit_lambda% (v_qS rfl rfl rfl rfl (qAnd5 (fun _ h => h)) (fun _ h => h) ?_ ?_)) | (refine no_implicit_lambda% (v_qS rfl rfl rfl rfl (qStr (fun _ h => h)) (fun _ h => h) ?_ ?_))
  ·rw [w64 (by omega) (by omega)]; simp at hc; omega
  refine no_implicit_lambda% (awd ?_)
  obtain ⟨j, rfl⟩ : ∃ j, i = j + 1 := ⟨i - 1, by simp at hc; omega⟩
  refine k_loop (b ++ [UInt8.ofNat (x >>> (8 * j))], j) ⟨by omega, by rw [← h2]; simp [be]⟩ (Nat.lt_succ_self j) (.to [] ?_ (.of_eq ?_) (Nat.le_refl _))
  ·unfold laySt
   repeat' (first | (with_reducible exact .nil) | (refine no_implicit_lambda% (.cons ?_ ?_)) | (exact Wk.dead _) | (with_reducible exact Wk.refl _) | (exact WkL.nil))
   exact .int (by rw [w64 (by omega) (by omega)]; simp)
  ·simp only [List.append_nil]
   refine cons_eq ?_ ?_
   ·rw [oct_at x j (by omega)]; simp [brow]
   ·simp [Nat.add_assoc]
 ·refine no_implicit_lambda% (awd ?_)
  simp at hc
  obtain rfl : i = 0 := by omega
  refine e_ret (H' := wr (l ++ be x n)) (rest := []) rfl ⟨rfl, rfl⟩ (.of_eq (by rw [← h2]; simp [wr, be])) (Nat.le_refl _)
theorem num_c (l : List UInt8) (x : Nat) (hx : x < 4294967296) (h : l.length < 1073741824) : ACalls Tryz.prog 48 2 2 [.ptr 0 0, .v (.int .u32 x)] (wr l) (fun out H' => out = .ret (.tuple []) ∧ H' = wr (l ++ be x 4)) := by
 refine no_implicit_lambda% (acalls_of tok dok (f := 48) ⟨Tryz.func48, rfl, by kernel_rfl⟩ ?_); refine no_implicit_lambda% (c_start (fun _ h => h) ?_)
 refine no_implicit_lambda% (awd ?_)
 rw [show IntKind.u64.wrap (x : Int) = x by rw [IntKind.wrap_u64]; omega]
 refine no_implicit_lambda% (cal [0, 1] (lay_c l x 4 (by omega) (by omega) h) ?_ ?_)
 ·refine no_implicit_lambda% (ret1 ?_); first | (refine no_implicit_lambda% (akc ?_)) | (refine no_implicit_lambda% (aec ?_))
  refine no_implicit_lambda% (awd ?_)
  refine e_ret (H' := wr (l ++ be x 4)) (rest := []) rfl ⟨rfl, rfl⟩ (.of_eq rfl) (LE0 rfl)
 ·first | (exact zI) | (exact zJ)
theorem long_c (l : List UInt8) (x : Nat) (hx : x < 18446744073709551616) (h : l.length < 1073741824) : ACalls Tryz.prog 84 2 2 [.ptr 0 0, .v (.int .u64 x)] (wr l) (fun out H' => out = .ret (.tuple []) ∧ H' = wr (l ++ be x 8)) := by
 refine no_implicit_lambda% (acalls_of tok dok (f := 84) ⟨Tryz.func84, rfl, by kernel_rfl⟩ ?_); refine no_implicit_lambda% (c_start (fun _ h => h) ?_)
 refine no_implicit_lambda% (awd ?_)
 refine no_implicit_lambda% (cal [0, 1] (lay_c l x 8 (by omega) (by omega) h) ?_ ?_)
 ·refine no_implicit_lambda% (ret1 ?_); first | (refine no_implicit_lambda% (akc ?_)) | (refine no_implicit_lambda% (aec ?_))
  refine no_implicit_lambda% (awd ?_)
  refine e_ret (H' := wr (l ++ be x 8)) (rest := []) rfl ⟨rfl, rfl⟩ (.of_eq rfl) (LE0 rfl)
 ·first | (exact zI) | (exact zJ)
theorem text_c (l s : List UInt8) (hs : s.length < 9223372036854775807) (h : l.length < 1000000000) : ACalls Tryz.prog 49 2 2 [.ptr 0 0, .list (s.map brow) .free] (wr l) (fun out H' => out = .ret (.v (.bool (decide (s.length ≤ 1048576)))) ∧ H' = wr (if s.length ≤ 1048576 then l ++ (be s.length 4 ++ s) else l)) := by
 refine no_implicit_lambda% (acalls_of tok dok (f := 49) ⟨Tryz.func49, rfl, by kernel_rfl⟩ ?_); refine no_implicit_lambda% (c_start (fun _ h => h) ?_)
 refine no_implicit_lambda% (awd ?_)
 ((with_reducible refine no_implicit_lambda% (zB ?_)); refine no_implicit_lambda% (zE rfl (fun hc => ?_) (fun hc => ?_)))
 ·refine no_implicit_lambda% (awd ?_)
  simp only [List.length_map, gt_iff_lt, decide_eq_true_eq] at hc
  have hn : ¬ s.length ≤ 1048576 := by omega
  refine e_ret (H' := wr l) (rest := []) rfl ⟨?_, ?_⟩ (.of_eq rfl) (LE0 rfl)
  ·simp [hn]; rfl
  ·simp [hn]
 ·refine no_implicit_lambda% (awd ?_)
  simp only [List.length_map, gt_iff_lt, decide_eq_false_iff_not] at hc
  have hn : s.length ≤ 1048576 := by omega
  rw [show IntKind.u32.wrap ((s.map brow).length : Int) = s.length by rw [IntKind.wrap_u32, List.length_map]; omega]
  refine no_implicit_lambda% (cal [0, 1] (num_c l s.length (by omega) (by omega)) ?_ ?_)
  ·refine no_implicit_lambda% (ret1 ?_); first | (refine no_implicit_lambda% (akc ?_)) | (refine no_implicit_lambda% (aec ?_))
   have hbl := be_len s.length 4
   refine no_implicit_lambda% (awd ?_)
   refine e_ret (H' := wr (l ++ (be s.length 4 ++ s))) (rest := []) rfl ⟨?_, ?_⟩ (.of_eq ?_) (LE0 rfl)
   ·simp [hn]; rfl
   ·simp [hn]
   ·simp [wr, rn, Nat.add_assoc]
  ·first | (exact zI) | (exact zJ)
theorem new_c : ACalls Tryz.prog 13 0 2 [] [] (fun out H' => out = .ret (.ptr 0 0) ∧ H' = wr []) := by
 refine no_implicit_lambda% (acalls_of tok dok (f := 13) ⟨Tryz.func13, rfl, by kernel_rfl⟩ ?_); refine no_implicit_lambda% (c_start (fun _ h => h) ?_)
 refine no_implicit_lambda% (awd ?_)
 refine e_ret_to (H' := wr []) (rest := []) ((Conv.tokBox (id := 0) (j := 0) (sz := 1) (rows := []) rfl rfl (by simp)).trans (.drop (n' := 2) (H := wr []) (rest := []) (.swap _ _ _) (by decide))) rfl ⟨rfl, rfl⟩ (.of_eq rfl) (LE0 rfl)
theorem clone_c (rows : List (List AV)) (hr : ∀ row ∈ rows, row.length = 1) (h : rows.length < 70368744177664) : ACalls Tryz.prog 51 0 1 [.list rows .free] [] (fun out H' => out = .ret (.list rows .free) ∧ H' = []) := by
 refine no_implicit_lambda% (acalls_of tok dok (f := 51) ⟨Tryz.func51, rfl, by kernel_rfl⟩ ?_); refine no_implicit_lambda% (c_start (fun _ h => h) ?_)
 refine no_implicit_lambda% (awd ?_)
 (with_reducible refine no_implicit_lambda% (zC ?_)); refine no_implicit_lambda% (a_nilq rfl rfl rfl (fun _ h => h) (fun _ h => h) (fun hl => ?_) ?_)
 ·refine no_implicit_lambda% (awd ?_)
  subst hl
  exact e_ret_to (H' := []) (.freeSlot 2 rfl) rfl ⟨rfl, rfl⟩ (.refl _) (LE0 rfl)
 ·refine no_implicit_lambda% (awd ?_)
  exact e_ret_to (H' := []) (.freeSlot 2 rfl) rfl ⟨rfl, rfl⟩ (.refl _) (LE0 rfl)
theorem brows (l : List UInt8) : ∀ row ∈ l.map brow, row.length = 1 := fun row h => by obtain ⟨_, _, rfl⟩ := List.mem_map.1 h; rfl
theorem done_c (l : List UInt8) (h : l.length < 1073741824) : ACalls Tryz.prog 16 2 3 [.ptr 0 0] (wr l) (fun out H' => out = .ret (.list (l.map brow) .free) ∧ H' = []) := by
 refine no_implicit_lambda% (acalls_of tok dok (f := 16) ⟨Tryz.func16, rfl, by kernel_rfl⟩ ?_); refine no_implicit_lambda% (c_start (fun _ h => h) ?_)
 refine no_implicit_lambda% (awd ?_)
 refine no_implicit_lambda% (calw [] (clone_c (l.map brow) (brows l) (by simp; omega)) ?_ ?_)
 ·refine no_implicit_lambda% (ret1 ?_); first | (refine no_implicit_lambda% (akc ?_)) | (refine no_implicit_lambda% (aec ?_))
  refine no_implicit_lambda% (awd ?_)
  refine e_ret (H' := []) rfl ⟨rfl, rfl⟩ (.refl _) (LE0 rfl)
 ·first | (exact zI) | (exact zJ)
def nanB (b : Nat) : Bool := FloatKind.f64.format.order b b != some .eq
def canonB (b : Nat) : Nat := if nanB b then 9221120237041090561 else b
theorem bits_x (b : Nat) : ACalls Tryz.prog 146 0 0 [.v (.float .f64 b)] [] (fun out H' => out = .ret (.v (.int .u64 b)) ∧ H' = []) :=
 ext_c (fn := Tryz.f146) (e := Extern.MathFloatBits.float64bits) (by kernel_rfl) (by kernel_rfl) rfl (by kernel_rfl) (by kernel_rfl) fun w => rfl
theorem from_x (n : Int) : ACalls Tryz.prog 133 0 0 [.v (.int .u64 n)] [] (fun out H' => out = .ret (.v (.float .f64 n.toNat)) ∧ H' = []) :=
 ext_c (fn := Tryz.f133) (e := Extern.MathFloatBits.float64frombits) (by kernel_rfl) (by kernel_rfl) rfl (by kernel_rfl) (by kernel_rfl) fun w => rfl
theorem isNaN_c (b : Nat) : ACalls Tryz.prog 150 0 0 [.v (.float .f64 b)] [] (fun out H' => out = .ret (.v (.bool (nanB b))) ∧ H' = []) := by
 refine no_implicit_lambda% (acalls_of tok dok (f := 150) ⟨Tryz.func150, rfl, by kernel_rfl⟩ ?_); refine no_implicit_lambda% (c_start (fun _ h => h) ?_)
 refine no_implicit_lambda% (awd ?_)
 exact e_ret (H' := []) rfl ⟨rfl, rfl⟩ (.refl _) (LE0 rfl)
theorem canon_c (b : Nat) : ACalls Tryz.prog 123 0 0 [.v (.float .f64 b)] [] (fun out H' => out = .ret (.v (.float .f64 (canonB b))) ∧ H' = []) := by
 refine no_implicit_lambda% (acalls_of tok dok (f := 123) ⟨Tryz.func123, rfl, by kernel_rfl⟩ ?_); refine no_implicit_lambda% (c_start (fun _ h => h) ?_)
 refine no_implicit_lambda% (awd ?_)
 refine no_implicit_lambda% (cal [] (isNaN_c b) ?_ ?_)
 ·refine no_implicit_lambda% (ret1 ?_); first | (refine no_implicit_lambda% (akc ?_)) | (refine no_implicit_lambda% (aec ?_))
  refine no_implicit_lambda% (awd ?_)
  ((with_reducible refine no_implicit_lambda% (zB ?_)); refine no_implicit_lambda% (zE rfl (fun hc => ?_) (fun hc => ?_)))
  ·refine no_implicit_lambda% (awd ?_)
   refine no_implicit_lambda% (cal [] (from_x 9221120237041090561) ?_ ?_)
   ·refine no_implicit_lambda% (ret1 ?_); first | (refine no_implicit_lambda% (akc ?_)) | (refine no_implicit_lambda% (aec ?_))
    refine no_implicit_lambda% (awd ?_)
    exact e_ret (H' := []) rfl ⟨by simp [canonB, hc]; rfl, rfl⟩ (.refl _) (LE0 rfl)
   ·first | (exact zI) | (exact zJ)
  ·refine no_implicit_lambda% (awd ?_)
   exact e_ret (H' := []) rfl ⟨by simp [canonB, hc]; rfl, rfl⟩ (.refl _) (LE0 rfl)
 ·first | (exact zI) | (exact zJ)
theorem bits_c (b : Nat) : ACalls Tryz.prog 157 0 0 [.v (.float .f64 b)] [] (fun out H' => out = .ret (.v (.int .u64 (canonB b))) ∧ H' = []) := by
 refine no_implicit_lambda% (acalls_of tok dok (f := 157) ⟨Tryz.func157, rfl, by kernel_rfl⟩ ?_); refine no_implicit_lambda% (c_start (fun _ h => h) ?_)
 refine no_implicit_lambda% (awd ?_)
 refine no_implicit_lambda% (cal [] (canon_c b) ?_ ?_)
 ·refine no_implicit_lambda% (ret1 ?_); first | (refine no_implicit_lambda% (akc ?_)) | (refine no_implicit_lambda% (aec ?_))
  refine no_implicit_lambda% (awd ?_)
  refine no_implicit_lambda% (cal [] (bits_x (canonB b)) ?_ ?_)
  ·refine no_implicit_lambda% (ret1 ?_); first | (refine no_implicit_lambda% (akc ?_)) | (refine no_implicit_lambda% (aec ?_))
   refine no_implicit_lambda% (awd ?_)
   exact e_ret (H' := []) rfl ⟨rfl, rfl⟩ (.refl _) (LE0 rfl)
  ·first | (exact zI) | (exact zJ)
 ·first | (exact zI) | (exact zJ)
theorem from_c (b : Nat) : ACalls Tryz.prog 158 0 0 [.v (.int .u64 b)] [] (fun out H' => out = .ret (.v (.float .f64 (canonB b))) ∧ H' = []) := by
 refine no_implicit_lambda% (acalls_of tok dok (f := 158) ⟨Tryz.func158, rfl, by kernel_rfl⟩ ?_); refine no_implicit_lambda% (c_start (fun _ h => h) ?_)
 refine no_implicit_lambda% (awd ?_)
 refine no_implicit_lambda% (cal [] (from_x b) ?_ ?_)
 ·refine no_implicit_lambda% (ret1 ?_); first | (refine no_implicit_lambda% (akc ?_)) | (refine no_implicit_lambda% (aec ?_))
  refine no_implicit_lambda% (awd ?_)
  refine no_implicit_lambda% (cal [] (canon_c b) ?_ ?_)
  ·refine no_implicit_lambda% (ret1 ?_); first | (refine no_implicit_lambda% (akc ?_)) | (refine no_implicit_lambda% (aec ?_))
   refine no_implicit_lambda% (awd ?_)
   exact e_ret (H' := []) rfl ⟨rfl, rfl⟩ (.refl _) (LE0 rfl)
  ·first | (exact zI) | (exact zJ)
 ·first | (exact zI) | (exact zJ)
theorem float_c (l : List UInt8) (b : Nat) (hb : b < 18446744073709551616) (h : l.length < 1073741824) : ACalls Tryz.prog 134 2 2 [.ptr 0 0, .v (.float .f64 b)] (wr l) (fun out H' => out = .ret (.tuple []) ∧ H' = wr (l ++ be (canonB b) 8)) := by
 refine no_implicit_lambda% (acalls_of tok dok (f := 134) ⟨Tryz.func134, rfl, by kernel_rfl⟩ ?_); refine no_implicit_lambda% (c_start (fun _ h => h) ?_)
 refine no_implicit_lambda% (awd ?_)
 refine no_implicit_lambda% (cal [] (bits_c b) ?_ ?_)
 ·refine no_implicit_lambda% (ret1 ?_); first | (refine no_implicit_lambda% (akc ?_)) | (refine no_implicit_lambda% (aec ?_))
  refine no_implicit_lambda% (awd ?_)
  refine no_implicit_lambda% (cal [0, 1] (long_c l (canonB b) (by unfold canonB; split <;> omega) h) ?_ ?_)
  ·refine no_implicit_lambda% (ret1 ?_); first | (refine no_implicit_lambda% (akc ?_)) | (refine no_implicit_lambda% (aec ?_))
   refine no_implicit_lambda% (awd ?_)
   exact e_ret (H' := wr (l ++ be (canonB b) 8)) (rest := []) rfl ⟨rfl, rfl⟩ (.of_eq rfl) (LE0 rfl)
  ·first | (exact zI) | (exact zJ)
 ·first | (exact zI) | (exact zJ)
end Go.Proofs.YtjepgbpcpcahgaaGreat
namespace Go.Proofs.YtjepgbpcpcahgaaGreat
open Go.Am
set_option maxRecDepth 100000
def wthn (n lo hi : Int) : Int := if lo ≤ n ∧ n ≤ hi then n else lo + (if n.tmod (hi - lo + 1) < 0 then n.tmod (hi - lo + 1) + (hi - lo + 1) else n.tmod (hi - lo + 1))
theorem wthn_bd (n lo hi : Int) (h : lo ≤ hi) : lo ≤ wthn n lo hi ∧ wthn n lo hi ≤ hi := by
 unfold wthn
 split
 ·omega
 ·have h1 := Int.tmod_lt_of_pos n (b := hi - lo + 1) (by omega)
  have h2 := Int.lt_tmod_of_pos n (b := hi - lo + 1) (by omega)
  split <;> omega
theorem wthn_c (n lo hi : Int) (hn1 : -9223372036854775808 ≤ n) (hn2 : n ≤ 9223372036854775807) (h0 : -4611686018427387904 ≤ lo) (h : lo ≤ hi) (h2 : hi ≤ 2147483648) (h3 : hi - lo ≤ 2147483648) : ACalls Tryz.prog 129 0 0 [.v (.int .i64 n), .v (.int .i64 lo), .v (.int .i64 hi)] [] (fun out H' => out = .ret (.v (.int .i64 (wthn n lo hi))) ∧ H' = []) := by
 have h4 := Int.tmod_lt_of_pos n (b := hi - lo + 1) (by omega)
 have h5 := Int.lt_tmod_of_pos n (b := hi - lo + 1) (by omega)
 refine no_implicit_lambda% (acalls_of tok dok (f := 129) ⟨Tryz.func129, rfl, by kernel_rfl⟩ ?_); refine no_implicit_lambda% (c_start (fun _ h => h) ?_)
 repeat' (first | (refine no_implicit_lambda% (zH ?_)) | (((with_reducible refine no_implicit_lambda% (zA ?_)); refine no_implicit_lambda% (zD rfl rfl rfl (fun hc => ?_) (fun hc => ?_)) <;> rw [hc])) | (((with_reducible refine no_implicit_lambda% (zB ?_)); refine no_implicit_lambda% (zE rfl (fun hc => ?_) (fun hc => ?_)))) | (((with_reducible refine no_implicit_lambda% (zC ?_)); refine no_implicit_lambda% (zF rfl rfl (fun hc => ?_) (fun hc => ?_)) <;> rw [hc])) | fail)
 ·exact e_ret (H' := []) rfl ⟨by simp at *; rw [wthn, if_pos (by omega)]; rfl, rfl⟩ (.refl _) (LE0 rfl)
 all_goals
  rw [z64 (n := hi - lo) (by omega) (by omega), z64 (n := hi - lo + 1) (by omega) (by omega)]
  (with_reducible refine no_implicit_lambda% (zC ?_)); first | (refine no_implicit_lambda% (a_qS rfl (fun _ h => h) ?_ ?_)) | (refine no_implicit_lambda% (a_qS rfl (qIx (fun _ h => h)) ?_ ?_)) | (refine no_implicit_lambda% (a_qS rfl (qAnd5 (fun _ h => h)) ?_ ?_)) | (refine no_implicit_lambda% (a_qS rfl (qStr (fun _ h => h)) ?_ ?_)) | (refine no_implicit_lambda% (a_qS rfl (qAnd4 (fun _ h => h)) ?_ ?_)) | (refine no_implicit_lambda% (a_qS rfl (qAnd2 (fun _ h => h)) ?_ ?_))
  ·omega
  generalize ht : n.tmod (hi - lo + 1) = t at *
  repeat' (first | (refine no_implicit_lambda% (zH ?_)) | (((with_reducible refine no_implicit_lambda% (zA ?_)); refine no_implicit_lambda% (zD rfl rfl rfl (fun hc => ?_) (fun hc => ?_)) <;> rw [hc])) | (((with_reducible refine no_implicit_lambda% (zB ?_)); refine no_implicit_lambda% (zE rfl (fun hc => ?_) (fun hc => ?_)))) | (((with_reducible refine no_implicit_lambda% (zC ?_)); refine no_implicit_lambda% (zF rfl rfl (fun hc => ?_) (fun hc => ?_)) <;> rw [hc])) | fail)
 all_goals
  refine e_ret (H' := []) rfl ⟨congrArg (fun z => AOut.ret (.v (.int .i64 z))) ?_, rfl⟩ (.refl _) (LE0 rfl)
  simp only [decide_eq_true_eq, decide_eq_false_iff_not] at *
  unfold wthn
  rw [ht, if_neg (by omega)]
  simp only [IntKind.wrap_i64]
  split <;> omega
end Go.Proofs.YtjepgbpcpcahgaaGreat
namespace Go.Proofs.YtjepgbpcpcahgaaGreat
open Go.Am
def cmpZ (a b : Int) : Int := if a < b then -1 else if b < a then 1 else 0
def keyI (b : Nat) : Int := if (IntKind.u64.wrap ((BitVec.ofInt IntKind.u64.bits (canonB b : Int) &&& BitVec.ofInt IntKind.u64.bits 9223372036854775808).toNat : Int) != 0) = true then IntKind.u64.wrap ((BitVec.ofInt IntKind.u64.bits (if IntKind.u64.signed then -1 else IntKind.u64.max) ^^^ BitVec.ofInt IntKind.u64.bits (canonB b : Int)).toNat : Int) else IntKind.u64.wrap ((BitVec.ofInt IntKind.u64.bits (canonB b : Int) ||| BitVec.ofInt IntKind.u64.bits 9223372036854775808).toNat : Int)
abbrev anyF (out : AOut) (H' : Heap) : Prop := ∃ b, b < 18446744073709551616 ∧ out = .ret (.v (.float .f64 b)) ∧ H' = []
theorem csign_c : ACalls Tryz.prog 130 0 0 [.v (.float .f64 0), .v (.float .f64 13830554455654793216)] [] (fun out H' => out = .ret (.v (.float .f64 9223372036854775808)) ∧ H' = []) := by
 refine no_implicit_lambda% (acalls_of tok dok (f := 130) ⟨Tryz.func130, rfl, by kernel_rfl⟩ ?_); refine no_implicit_lambda% (c_start (fun _ h => h) ?_)
 refine no_implicit_lambda% (awd ?_)
 refine no_implicit_lambda% (cal [] (bits_x 0) ?_ ?_)
 ·refine no_implicit_lambda% (ret1 ?_); first | (refine no_implicit_lambda% (akc ?_)) | (refine no_implicit_lambda% (aec ?_))
  refine no_implicit_lambda% (awd ?_)
  refine no_implicit_lambda% (cal [] (bits_x 13830554455654793216) ?_ ?_)
  ·refine no_implicit_lambda% (ret1 ?_); first | (refine no_implicit_lambda% (akc ?_)) | (refine no_implicit_lambda% (aec ?_))
   refine no_implicit_lambda% (awd ?_)
   refine no_implicit_lambda% (cal [] (from_x 9223372036854775808) ?_ ?_)
   ·refine no_implicit_lambda% (ret1 ?_); first | (refine no_implicit_lambda% (akc ?_)) | (refine no_implicit_lambda% (aec ?_))
    refine no_implicit_lambda% (awd ?_)
    exact e_ret (H' := []) rfl ⟨rfl, rfl⟩ (.refl _) (LE0 rfl)
   ·first | (exact zI) | (exact zJ)
  ·first | (exact zI) | (exact zJ)
 ·first | (exact zI) | (exact zJ)
theorem inf_c (n : Int) (h : n = 1 ∨ n = -1) : ACalls Tryz.prog 131 0 0 [.v (.int .i64 n)] [] anyF := by
 refine no_implicit_lambda% (acalls_of tok dok (f := 131) ⟨Tryz.func131, rfl, by kernel_rfl⟩ ?_); refine no_implicit_lambda% (c_start (fun _ h => h) ?_)
 repeat' (first | (refine no_implicit_lambda% (zH ?_)) | (((with_reducible refine no_implicit_lambda% (zA ?_)); refine no_implicit_lambda% (zD rfl rfl rfl (fun hc => ?_) (fun hc => ?_)) <;> rw [hc])) | (((with_reducible refine no_implicit_lambda% (zB ?_)); refine no_implicit_lambda% (zE rfl (fun hc => ?_) (fun hc => ?_)))) | (((with_reducible refine no_implicit_lambda% (zC ?_)); refine no_implicit_lambda% (zF rfl rfl (fun hc => ?_) (fun hc => ?_)) <;> rw [hc])) | fail)
 ·refine no_implicit_lambda% (cal [] (from_x 9218868437227405312) ?_ ?_)
  ·refine no_implicit_lambda% (ret1 ?_); first | (refine no_implicit_lambda% (akc ?_)) | (refine no_implicit_lambda% (aec ?_))
   refine no_implicit_lambda% (awd ?_)
   exact e_ret (H' := []) rfl ⟨_, by decide, rfl, rfl⟩ (.refl _) (LE0 rfl)
  ·first | (exact zI) | (exact zJ)
 ·refine no_implicit_lambda% (cal [] (from_x 18442240474082181120) ?_ ?_)
  ·refine no_implicit_lambda% (ret1 ?_); first | (refine no_implicit_lambda% (akc ?_)) | (refine no_implicit_lambda% (aec ?_))
   refine no_implicit_lambda% (awd ?_)
   exact e_ret (H' := []) rfl ⟨_, by decide, rfl, rfl⟩ (.refl _) (LE0 rfl)
  ·first | (exact zI) | (exact zJ)
theorem nanf_c : ACalls Tryz.prog 132 0 0 [] [] anyF := by
 refine no_implicit_lambda% (acalls_of tok dok (f := 132) ⟨Tryz.func132, rfl, by kernel_rfl⟩ ?_); refine no_implicit_lambda% (c_start (fun _ h => h) ?_)
 refine no_implicit_lambda% (awd ?_)
 refine no_implicit_lambda% (cal [] (from_x 9221120237041090561) ?_ ?_)
 ·refine no_implicit_lambda% (ret1 ?_); first | (refine no_implicit_lambda% (akc ?_)) | (refine no_implicit_lambda% (aec ?_))
  refine no_implicit_lambda% (awd ?_)
  exact e_ret (H' := []) rfl ⟨_, by decide, rfl, rfl⟩ (.refl _) (LE0 rfl)
 ·first | (exact zI) | (exact zJ)
theorem near_lt (n : Int) (h1 : -9 ≤ n) (h2 : n ≤ 10) : FloatKind.f64.nearest n < 18446744073709551616 := by
 obtain ⟨k, rfl, hk⟩ : ∃ k : Fin 20, n = (k.val : Int) - 9 ∧ True := ⟨⟨(n + 9).toNat, by omega⟩, by simp; omega, trivial⟩
 have h : ∀ k : Fin 20, FloatKind.f64.nearest ((k.val : Int) - 9) < 18446744073709551616 := by decide +kernel
 exact h k
theorem flt_c (n : Int) (x : Nat) (hn1 : -9223372036854775808 ≤ n) (hn2 : n ≤ 9223372036854775807) (hx : x < 18446744073709551616) : ACalls Tryz.prog 81 0 0 [.v (.int .i64 n), .v (.float .f64 x)] [] anyF := by
 have hb := wthn_bd n 0 1048576 (by decide)
 have hw := wthn_c n 0 1048576 hn1 hn2 (by decide) (by decide) (by decide) (by decide)
 generalize wthn n 0 1048576 = q at *
 refine no_implicit_lambda% (acalls_of tok dok (f := 81) ⟨Tryz.func81, rfl, by kernel_rfl⟩ ?_); refine no_implicit_lambda% (c_start (fun _ h => h) ?_)
 refine no_implicit_lambda% (awd ?_)
 refine no_implicit_lambda% (cal [] (hw) ?_ ?_)
 ·refine no_implicit_lambda% (ret1 ?_); first | (refine no_implicit_lambda% (akc ?_)) | (refine no_implicit_lambda% (aec ?_))
  repeat' (first | (refine no_implicit_lambda% (zH ?_)) | (((with_reducible refine no_implicit_lambda% (zA ?_)); refine no_implicit_lambda% (zD rfl rfl rfl (fun hc => ?_) (fun hc => ?_)) <;> rw [hc])) | (((with_reducible refine no_implicit_lambda% (zB ?_)); refine no_implicit_lambda% (zE rfl (fun hc => ?_) (fun hc => ?_)))) | (((with_reducible refine no_implicit_lambda% (zC ?_)); refine no_implicit_lambda% (zF rfl rfl (fun hc => ?_) (fun hc => ?_)) <;> rw [hc])) | fail)
  ·exact e_ret (H' := []) rfl ⟨0, by decide, rfl, rfl⟩ (.refl _) (LE0 rfl)
  ·refine no_implicit_lambda% (cal [] (csign_c) ?_ ?_)
   ·refine no_implicit_lambda% (ret1 ?_); first | (refine no_implicit_lambda% (akc ?_)) | (refine no_implicit_lambda% (aec ?_))
    refine no_implicit_lambda% (awd ?_)
    exact e_ret (H' := []) rfl ⟨_, by decide, rfl, rfl⟩ (.refl _) (LE0 rfl)
   ·first | (exact zI) | (exact zJ)
  ·refine no_implicit_lambda% (cal [] (inf_c 1 (.inl rfl)) ?_ ?_)
   ·intro x H' h; obtain ⟨fb, hfb, h1, rfl⟩ := h; cases h1; first | (refine no_implicit_lambda% (akc ?_)) | (refine no_implicit_lambda% (aec ?_))
    refine no_implicit_lambda% (awd ?_)
    exact e_ret (H' := []) rfl ⟨_, hfb, rfl, rfl⟩ (.refl _) (LE0 rfl)
   ·intro x H' h; obtain ⟨_, _, h1, _⟩ := h; cases h1
  ·refine no_implicit_lambda% (cal [] (inf_c (-1) (.inr rfl)) ?_ ?_)
   ·intro x H' h; obtain ⟨fb, hfb, h1, rfl⟩ := h; cases h1; first | (refine no_implicit_lambda% (akc ?_)) | (refine no_implicit_lambda% (aec ?_))
    refine no_implicit_lambda% (awd ?_)
    exact e_ret (H' := []) rfl ⟨_, hfb, rfl, rfl⟩ (.refl _) (LE0 rfl)
   ·intro x H' h; obtain ⟨_, _, h1, _⟩ := h; cases h1
  ·refine no_implicit_lambda% (cal [] (nanf_c) ?_ ?_)
   ·intro x H' h; obtain ⟨fb, hfb, h1, rfl⟩ := h; cases h1; first | (refine no_implicit_lambda% (akc ?_)) | (refine no_implicit_lambda% (aec ?_))
    refine no_implicit_lambda% (awd ?_)
    exact e_ret (H' := []) rfl ⟨_, hfb, rfl, rfl⟩ (.refl _) (LE0 rfl)
   ·intro x H' h; obtain ⟨_, _, h1, _⟩ := h; cases h1
  ·refine no_implicit_lambda% (cal [] (from_x 18444492273895866659) ?_ ?_)
   ·refine no_implicit_lambda% (ret1 ?_); first | (refine no_implicit_lambda% (akc ?_)) | (refine no_implicit_lambda% (aec ?_))
    refine no_implicit_lambda% (awd ?_)
    exact e_ret (H' := []) rfl ⟨_, by decide, rfl, rfl⟩ (.refl _) (LE0 rfl)
   ·first | (exact zI) | (exact zJ)
  ·refine no_implicit_lambda% (cal [] (hw) ?_ ?_)
   ·refine no_implicit_lambda% (ret1 ?_); first | (refine no_implicit_lambda% (akc ?_)) | (refine no_implicit_lambda% (aec ?_))
    refine no_implicit_lambda% (awd ?_)
    have h1 : 0 ≤ q.tmod 20 := by rw [Int.tmod_eq_emod_of_nonneg hb.1]; omega
    have h2 : q.tmod 20 < 20 := by rw [Int.tmod_eq_emod_of_nonneg hb.1]; omega
    rw [z64 (n := q.tmod 20 - 9) (by omega) (by omega)]
    exact e_ret (H' := []) rfl ⟨_, near_lt _ (by omega) (by omega), rfl, rfl⟩ (.refl _) (LE0 rfl)
   ·first | (exact zI) | (exact zJ)
  ·exact e_ret (H' := []) rfl ⟨x, hx, rfl, rfl⟩ (.refl _) (LE0 rfl)
 ·first | (exact zI) | (exact zJ)
end Go.Proofs.YtjepgbpcpcahgaaGreat
