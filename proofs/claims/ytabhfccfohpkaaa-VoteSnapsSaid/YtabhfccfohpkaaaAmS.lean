/- Regions that draw their order. -/
import Derived.Test.YtabhfccfohpkaaaAmR
import Derived.Orders
namespace Go.Am
open Go.RowKit
set_option linter.unusedSimpArgs false
set_option linter.unusedVariables false

def edgesOf (o : Oper) : List Nat := o.after.toList.filterMap fun e => if Region.binds .any e then some e.on else none
def memB (i : Nat) : List Nat → Bool
  | [] => false
  | j :: l => Nat.beq i j || memB i l
theorem memB_iff {i : Nat} {l : List Nat} : memB i l = true ↔ i ∈ l := by
  induction l with
  | nil => simp [memB]
  | cons j l ih => simp only [memB, Bool.or_eq_true, ih, List.mem_cons]; exact or_congr_left ⟨Nat.eq_of_beq_eq_true, fun h => by subst h; exact Nat.beq_refl i⟩
def addN : List Nat → List Nat → List Nat
  | [], a => a
  | i :: l, a => match memB i a with
    | true => addN l a
    | false => addN l (i :: a)
theorem addN_mem {i : Nat} : ∀ (l a : List Nat), i ∈ addN l a → i ∈ l ∨ i ∈ a
  | [], a, h => .inr h
  | j :: l, a, h => by
    unfold addN at h
    split at h
    · exact (addN_mem l a h).imp_left (List.mem_cons_of_mem _)
    · rcases addN_mem l (j :: a) h with h | h
      · exact .inl (List.mem_cons_of_mem _ h)
      · rcases List.mem_cons.1 h with rfl | h
        · exact .inl List.mem_cons_self
        · exact .inr h
def presGo : List (List Nat) → List Oper → List (List Nat)
  | acc, [] => acc
  | acc, o :: r => presGo (acc ++ [addN (edgesOf o ++ (edgesOf o).flatMap fun i => acc.getD i []) []]) r
/-- what each operation waits for, at whatever remove -/
def pres (all : List Oper) : List (List Nat) := presGo [] all
def isAl (o : Oper) : Bool := match o.op with | .alloc _ => true | _ => false
def isE (o : Oper) : Bool := match opKind o with | .quiet => (match o.op with | .assign _ => true | _ => false) | .alloc => false | _ => true
def looks (all : List Oper) (o : Oper) : List Nat :=
  (o.op.operands.toList.filterMap fun | .tmp t => some t | _ => none) ++ (match o.guard with | some (g, _) => ((all[g]?).bind (·.dst)).toList | none => [])
def okD (all : List Oper) : Bool :=
  let pr := pres all
  ((List.range all.length).all fun j => match all[j]? with
    | some oj => (edgesOf oj).all (fun i => Nat.blt i j) && ((match oj.dst with | some d => !(memB d (looks all oj)) | none => isE oj) && (List.range all.length).all fun i => Nat.beq i j || match all[i]? with
      | some oi => match oi.dst with
        | some d => !(memB d oj.dst.toList) && (!(memB d (looks all oj)) || (memB i (pr.getD j []) || (isE oi && memB j (pr.getD i []))))
        | none => true
      | none => true)
    | none => true) &&
  all.all fun o => (!(isAl o) || (o.guard.isNone && o.dst.isSome)) && (match o.op with | .select _ _ => false | _ => true)

def allocObj (TT : Types) (s : List AV) (o : Oper) : Option (Nat × Res) :=
  match o.op, o.dst with
  | .alloc t, some d => match TT t, getA s d with
    | some ti, .ptr id 0 => match ti.zero with
      | some z => some (id, .box (zcells z))
      | none => none
    | _, _ => none
  | _, _ => none
def isNoneB {α : Type} : Option α → Bool | none => true | some _ => false
def availB (pr : List (List Nat)) (E S : List Nat) (j : Nat) : Bool := (pr.getD j []).all fun i => memB i E || memB i S
def evGo (P : Program) (TT : Types) (all : List Oper) (pr : List (List Nat)) (S : List Nat) (L : Heap) : List Nat → List Nat → List AV → Nat → (List Nat → List AV → Nat → Prop) → Prop
  | [], E, s, n, k => k E s n
  | j :: js, E, s, n, k => match all[j]? with
    | none => evGo P TT all pr S L js E s n k
    | some o => match isE o || (memB j E || !(availB pr E S j)) with
      | true => evGo P TT all pr S L js E s n k
      | false => match isAl o with
        | true => putD s o.dst (.ptr n 0) fun s' => match isNoneB (allocObj TT s' o) with | true => False | false => evGo P TT all pr S L js (j :: E) s' (n + 1) k
        | false => guarded all s o (aq P TT L (ev s) (raw s) o fun av => fv av fun av => putD s o.dst av fun s' => evGo P TT all pr S L js (j :: E) s' n k)
            (putD s o.dst (.v (.tuple #[])) fun s' => evGo P TT all pr S L js (j :: E) s' n k)
def satB (all : List Oper) (pr : List (List Nat)) (E S : List Nat) : Bool :=
  (List.range all.length).all fun j => match all[j]? with
    | some o => isE o || (memB j E || !(availB pr E S j))
    | none => true
def flush (TT : Types) (all : List Oper) (s : List AV) : List Nat → Heap → (Heap → Prop) → Prop
  | [], L, k => k L
  | j :: js, L, k => match all[j]? with
    | some o => opt1 (allocObj TT s o) fun r => flush TT all s js (r :: L) k
    | none => False
def allocsOf (all : List Oper) (FL : List Nat) (f : Nat → Bool) : List Nat :=
  (List.range all.length).filter fun j => match all[j]? with | some o => isAl o && (!(memB j FL) && f j) | none => false
def effsOf (all : List Oper) (S : List Nat) (f : Nat → Bool) : List Nat :=
  (List.range all.length).filter fun j => match all[j]? with | some o => isE o && (!(memB j S) && f j) | none => false
/-- loads that may come behind an effect still read what they read -/
def rechk (TT : Types) (all : List Oper) (pe E : List Nat) (s : List AV) (L : Heap) : List Nat → Prop → Prop
  | [], k => k
  | j :: js, k => match all[j]? with
    | some o => match o.op, memB j E && !(memB j pe) with
      | .load t x, true => guarded all s o (opt1 o.dst fun d => opt1 (TT t) fun ti => aload L ti (ev s x) = some (getA s d)) True ∧ rechk TT all pe E s L js k
      | _, _ => rechk TT all pe E s L js k
    | none => rechk TT all pe E s L js k
def allK : List Nat → (Nat → Prop) → Prop
  | [], _ => False
  | [e], f => f e
  | e :: es, f => f e ∧ allK es f
theorem allK_mem {l : List Nat} {f : Nat → Prop} (h : allK l f) : ∀ e ∈ l, f e := by
  induction l with
  | nil => exact h.elim
  | cons a l ih =>
    cases l with
    | nil => intro e he; simp at he; subst he; exact h
    | cons b l =>
      intro e he
      rcases List.mem_cons.1 he with rfl | he
      · exact h.1
      · exact ih h.2 e he
def killA (all : List Oper) (s : List AV) : List AV := all.foldl (fun s o => putS s o.dst .dead) s
def dr (P : Program) (TT : Types) (all : List Oper) (pr : List (List Nat)) (K : Kn) (KP : AV → Kn) : Nat → List Nat → List Nat → List Nat → List AV → Heap → Nat → Prop
  | fuel, E, S, FL, s, L, n => evGo P TT all pr S L (List.range all.length) E s n fun E s n => match satB all pr E S with
    | false => False
    | true => match effsOf all S (fun _ => true) with
      | [] => flush TT all s (allocsOf all FL fun _ => true) L fun L' => forceH L' fun L'' => K s L'' n
      | _ :: _ => match fuel with
        | 0 => False
        | fuel + 1 => allK (effsOf all S (availB pr E S)) fun e => match all[e]? with
          | none => False
          | some o => flush TT all s (allocsOf all FL fun j => memB j (pr.getD e [])) L fun L1 =>
            guarded all s o (aop P TT o s L1 n (fun av L2 n2 => putD s o.dst av fun s2 => forceH L2 fun L3 => rechk TT all (pr.getD e []) E s2 L3 (List.range all.length)
                (dr P TT all pr K KP fuel E (e :: S) (allocsOf all FL (fun j => memB j (pr.getD e [])) ++ FL) s2 L3 n2)) (fun x L2 n2 => KP x (killA all s) L2 n2))
              (putD s o.dst (.v (.tuple #[])) fun s2 => dr P TT all pr K KP fuel E (e :: S) (allocsOf all FL (fun j => memB j (pr.getD e [])) ++ FL) s2 L1 n)
/-- a region that draws its order, by all the orders that its effects may take -/
def draw (P : Program) (TT : Types) : Nat → List Oper → List AV → Heap → Nat → Kc → Prop := fun _ all s L n K =>
  match okD all with
  | true => dr P TT all (pres all) (K .normal) (fun x => K (.panic x)) all.length [] [] [] s L n
  | false => False

/-! what the closure of the edges says -/
section
variable {all : List Oper} {D : Nat → Prop}
theorem presGo_spec (hcl : ∀ j o, all[j]? = some o → D j → ∀ i ∈ edgesOf o, D i) : ∀ (r done : List Oper) (acc : List (List Nat)), done ++ r = all → acc.length = done.length →
    (∀ j o, all[j]? = some o → (∀ i ∈ edgesOf o, D i) → ∀ i ∈ acc.getD j [], D i) → ∀ j o, all[j]? = some o → (∀ i ∈ edgesOf o, D i) → ∀ i ∈ (presGo acc r).getD j [], D i
  | [], done, acc, _, _, h => h
  | o :: r, done, acc, hall, hlen, h => by
    unfold presGo
    refine presGo_spec hcl r (done ++ [o]) _ (by simpa using hall) (by simp [hlen]) fun j oj hj he i hi => ?_
    rcases Nat.lt_trichotomy j acc.length with hlt | heq | hgt
    · rw [List.getD_eq_getElem?_getD, List.getElem?_append_left hlt, ← List.getD_eq_getElem?_getD] at hi
      exact h j oj hj he i hi
    · subst heq
      rw [List.getD_eq_getElem?_getD, List.getElem?_append_right (Nat.le_refl _)] at hi
      simp only [Nat.sub_self, List.getElem?_cons_zero, Option.getD_some] at hi
      replace hi := (addN_mem _ _ hi).resolve_right (by simp)
      simp only [List.mem_append, List.mem_flatMap] at hi
      have hoj : oj = o := by
        rw [← hall, hlen, List.getElem?_append_right (Nat.le_refl _)] at hj
        simpa using hj.symm
      subst hoj
      rcases hi with hi | ⟨e, he1, he2⟩
      · exact he i hi
      · have hD := he e he1
        cases hg : all[e]? with
        | none =>
          have : acc.getD e [] = [] := by
            have h1 := List.getElem?_eq_none_iff.1 hg
            have h2 : done.length ≤ all.length := by rw [← hall]; simp
            rw [List.getD_eq_getElem?_getD, List.getElem?_eq_none (by omega)]; rfl
          rw [this] at he2; cases he2
        | some oe => exact h e oe hg (hcl e oe hg hD) i he2
    · rw [List.getD_eq_getElem?_getD, List.getElem?_eq_none (by simp; omega)] at hi
      cases hi
theorem pres_spec (hcl : ∀ j o, all[j]? = some o → D j → ∀ i ∈ edgesOf o, D i) {j : Nat} {o : Oper} (hj : all[j]? = some o) (he : ∀ i ∈ edgesOf o, D i) : ∀ i ∈ (pres all).getD j [], D i :=
  presGo_spec hcl all [] [] rfl rfl (fun j o _ _ i hi => by cases hi) j o hj he
end

structure OkD (all : List Oper) : Prop where
  back : ∀ (j : Nat) (o : Oper), all[j]? = some o → ∀ i ∈ edgesOf o, i < j
  dst : ∀ (i j : Nat) (oi oj : Oper) (d : Nat), i ≠ j → all[i]? = some oi → all[j]? = some oj → oi.dst = some d → oj.dst ≠ some d
  own : ∀ (j : Nat) (o : Oper), all[j]? = some o → isE o = false → ∃ d, o.dst = some d ∧ d ∉ looks all o
  own2 : ∀ (j : Nat) (o : Oper) (d : Nat), all[j]? = some o → o.dst = some d → d ∉ looks all o
  looks : ∀ (i j : Nat) (oi oj : Oper) (d : Nat), i ≠ j → all[i]? = some oi → all[j]? = some oj → oi.dst = some d → d ∈ looks all oj → i ∈ (pres all).getD j [] ∨ (isE oi = true ∧ j ∈ (pres all).getD i [])
  alloc : ∀ (j : Nat) (o : Oper), all[j]? = some o → isAl o = true → o.guard = none ∧ ∃ d, o.dst = some d
  sel : ∀ (j : Nat) (o : Oper) (cs : Array SelectCase) (b : Bool), all[j]? = some o → o.op ≠ .select cs b
theorem okD_spec {all : List Oper} (h : okD all = true) : OkD all := by
  unfold okD at h
  simp only [Bool.and_eq_true, List.all_eq_true, List.mem_range] at h
  obtain ⟨h1, h2⟩ := h
  have hlt : ∀ {j : Nat} {o : Oper}, all[j]? = some o → j < all.length := fun hj => (List.getElem?_eq_some_iff.1 hj).1
  have hj1 : ∀ (j : Nat) (o : Oper), all[j]? = some o → (∀ i ∈ edgesOf o, i < j) ∧ ((isE o = false → ∃ d, o.dst = some d ∧ d ∉ Am.looks all o) ∧ ∀ d, o.dst = some d → d ∉ Am.looks all o) ∧ ∀ (i : Nat) (oi : Oper) (d : Nat), i ≠ j → all[i]? = some oi → oi.dst = some d → o.dst ≠ some d ∧ (d ∈ Am.looks all o → i ∈ (pres all).getD j [] ∨ (isE oi = true ∧ j ∈ (pres all).getD i [])) := fun j o hj => by
    have k := h1 j (hlt hj)
    rw [hj] at k
    simp only [Bool.and_eq_true, List.all_eq_true, List.mem_range] at k
    have hdl : ∀ d, o.dst = some d → d ∉ Am.looks all o := fun d hd hm => by
      have k1 := k.2.1
      rw [hd] at k1
      simp only [Bool.not_eq_true'] at k1
      rw [memB_iff.2 hm] at k1; cases k1
    refine ⟨fun i hi => Nat.le_of_ble_eq_true (k.1 i hi), ⟨fun he => ?_, hdl⟩, fun i oi d hne hoi hd => ?_⟩
    · cases hd : o.dst with
      | none =>
        have k1 := k.2.1
        rw [hd] at k1
        simp only [he] at k1; cases k1
      | some d => exact ⟨d, rfl, hdl d hd⟩
    have k2 := k.2.2 i (hlt hoi)
    rw [hoi] at k2
    simp only [Bool.or_eq_true, hd, Bool.and_eq_true, Bool.not_eq_true'] at k2
    rcases k2 with k2 | ⟨k2, k3⟩
    · exact absurd (Nat.eq_of_beq_eq_true k2) hne
    · refine ⟨fun e => ?_, fun hm => ?_⟩
      · rw [e] at k2
        have : memB d (some d).toList = true := memB_iff.2 (by simp)
        rw [this] at k2; cases k2
      · rcases k3 with k3 | k3
        · rw [memB_iff.2 hm] at k3; cases k3
        · rcases k3 with k3 | ⟨k3, k4⟩
          · exact .inl (memB_iff.1 k3)
          · exact .inr ⟨k3, memB_iff.1 k4⟩
  have hall : ∀ (j : Nat) (o : Oper), all[j]? = some o → ((isAl o = false ∨ (o.guard.isNone = true ∧ o.dst.isSome = true)) ∧ ∀ (cs : Array SelectCase) (b : Bool), o.op ≠ .select cs b) := fun j o hj => by
    have k := h2 o (List.mem_of_getElem? hj)
    simp only [Bool.or_eq_true, Bool.not_eq_true', Bool.and_eq_true] at k
    refine ⟨k.1, fun cs b e => ?_⟩
    have k2 := k.2
    rw [e] at k2; cases k2
  refine ⟨fun j o hj => (hj1 j o hj).1, fun i j oi oj d hne hi hj hd => ((hj1 j oj hj).2.2 i oi d hne hi hd).1, fun j o hj => (hj1 j o hj).2.1.1, fun j o d hj => (hj1 j o hj).2.1.2 d, fun i j oi oj d hne hi hj hd => ((hj1 j oj hj).2.2 i oi d hne hi hd).2, fun j o hj ha => ?_, fun j o cs b hj => (hall j o hj).2 cs b⟩
  rcases (hall j o hj).1 with h | ⟨k1, k2⟩
  · rw [ha] at h; cases h
  · exact ⟨Option.isNone_iff_eq_none.1 k1, Option.isSome_iff_exists.1 k2⟩
end Go.Am
