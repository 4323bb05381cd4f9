/- Regions that draw their order, reckoned by masks. -/
import Derived.Test.YtabhfccfohpkaaaAmW
namespace Go.Am
open Go.RowKit
set_option linter.unusedSimpArgs false
set_option linter.unusedVariables false

def inM (m i : Nat) : Bool := Nat.beq (Nat.mod (Nat.shiftRight m i) 2) 1
def addM (m i : Nat) : Nat := Nat.lor m (Nat.shiftLeft 1 i)
def avM (pm E S : Nat) : Bool := Nat.beq (Nat.land pm (Nat.lor E S)) pm
theorem inM_eq (m i : Nat) : inM m i = m.testBit i := by
  unfold inM
  rw [Nat.testBit_eq_decide_div_mod_eq]
  rw [show Nat.shiftRight m i = m / 2 ^ i from Nat.shiftRight_eq_div_pow m i]
  by_cases h : m / 2 ^ i % 2 = 1
  · rw [decide_eq_true h]
    rw [Nat.beq_eq]; exact h
  · rw [decide_eq_false h]
    exact Bool.eq_false_iff.2 fun h2 => h (Nat.eq_of_beq_eq_true h2)
theorem addM_in (m j i : Nat) : inM (addM m j) i = (inM m i || Nat.beq i j) := by
  rw [inM_eq, inM_eq]
  unfold addM
  rw [show Nat.lor m (Nat.shiftLeft 1 j) = m ||| 1 <<< j from rfl, Nat.testBit_or, Nat.one_shiftLeft, Nat.testBit_two_pow]
  congr 1
  by_cases h : j = i
  · subst h; simp
  · rw [decide_eq_false h]
    exact (Bool.eq_false_iff.2 fun h2 => h (Nat.eq_of_beq_eq_true h2).symm).symm
/-- a list, by a mask -/
def Rep (l : List Nat) (m : Nat) : Prop := ∀ i, memB i l = inM m i
theorem Rep.nil : Rep [] 0 := fun i => by rw [inM_eq]; simp [memB]
theorem Rep.cons {l : List Nat} {m j : Nat} (h : Rep l m) : Rep (j :: l) (addM m j) := fun i => by
  rw [addM_in, ← h i, Bool.or_comm]; rfl
def addL : List Nat → Nat → Nat
  | [], m => m
  | j :: l, m => addM (addL l m) j
theorem Rep.append {l : List Nat} {m : Nat} (h : Rep l m) : ∀ a : List Nat, Rep (a ++ l) (addL a m)
  | [] => h
  | j :: a => (Rep.append h a).cons
theorem land_all (p q : Nat) : Nat.beq (Nat.land p q) p = true ↔ ∀ i, p.testBit i = true → q.testBit i = true := by
  constructor
  · intro h i hi
    have h1 : p &&& q = p := Nat.eq_of_beq_eq_true h
    have h2 : (p &&& q).testBit i = true := by rw [h1]; exact hi
    rw [Nat.testBit_and, Bool.and_eq_true] at h2
    exact h2.2
  · intro h
    have h1 : p &&& q = p := Nat.eq_of_testBit_eq fun i => by
      rw [Nat.testBit_and]
      cases hp : p.testBit i with
      | false => rfl
      | true => rw [h i hp]; rfl
    rw [Nat.beq_eq]; exact h1
def RepP (pr : List (List Nat)) (pm : List Nat) : Prop := ∀ j, Rep (pr.getD j []) (pm.getD j 0)
theorem avail_eq {pr : List (List Nat)} {pm E S : List Nat} {em sm : Nat} (hp : RepP pr pm) (hE : Rep E em) (hS : Rep S sm) (j : Nat) : availB pr E S j = avM (pm.getD j 0) em sm := by
  unfold availB avM
  refine Bool.eq_iff_iff.2 ?_
  rw [land_all, List.all_eq_true]
  have h0 : ∀ i, i ∈ pr.getD j [] ↔ (pm.getD j 0).testBit i = true := fun i => by rw [← memB_iff, hp j i, inM_eq]
  have h1 : ∀ i, (memB i E || memB i S) = (Nat.lor em sm).testBit i := fun i => by
    rw [hE i, hS i, inM_eq, inM_eq]
    exact (Nat.testBit_or em sm i).symm
  constructor
  · intro h i hi
    rw [← h1]; exact h i ((h0 i).2 hi)
  · intro h i hi
    rw [h1]; exact h i ((h0 i).1 hi)
def orL : List Nat → List Nat → Nat → Nat
  | [], _, m => m
  | i :: l, acc, m => orL l acc (Nat.lor (addM m i) (acc.getD i 0))
def presM : List Nat → List Oper → List Nat
  | acc, [] => acc
  | acc, o :: r => presM (acc ++ [orL (edgesOf o) acc 0]) r
theorem addN_memB (l : List Nat) : ∀ (a : List Nat) (i : Nat), memB i (addN l a) = (memB i l || memB i a) := by
  induction l with
  | nil => intro a i; rfl
  | cons j l ih =>
    intro a i
    unfold addN
    split
    · rename_i h
      rw [ih]
      show _ = ((Nat.beq i j || memB i l) || memB i a)
      by_cases e : i = j
      · subst e; rw [h]; simp
      · have : Nat.beq i j = false := Bool.eq_false_iff.2 fun h2 => e (Nat.eq_of_beq_eq_true h2)
        rw [this]; simp
    · rw [ih]
      show (memB i l || (Nat.beq i j || memB i a)) = ((Nat.beq i j || memB i l) || memB i a)
      cases Nat.beq i j <;> cases memB i l <;> simp
theorem memB_append (i : Nat) : ∀ (a b : List Nat), memB i (a ++ b) = (memB i a || memB i b)
  | [], b => rfl
  | x :: a, b => by show (Nat.beq i x || memB i (a ++ b)) = _; rw [memB_append i a b, ← Bool.or_assoc]; rfl
theorem orL_in {acc : List (List Nat)} {am : List Nat} (h : RepP acc am) (i : Nat) : ∀ (l : List Nat) (m : Nat), inM (orL l am m) i = (inM m i || (memB i l || memB i (l.flatMap fun j => acc.getD j [])))
  | [], m => by simp [orL, memB]
  | j :: l, m => by
    unfold orL
    rw [orL_in h i l, List.flatMap_cons, memB_append]
    have e : inM (Nat.lor (addM m j) (am.getD j 0)) i = ((inM m i || Nat.beq i j) || memB i (acc.getD j [])) := by
      rw [inM_eq, show Nat.lor (addM m j) (am.getD j 0) = addM m j ||| am.getD j 0 from rfl, Nat.testBit_or, ← inM_eq, ← inM_eq, addM_in, h j i]
    rw [e]
    show _ = (inM m i || ((Nat.beq i j || memB i l) || _))
    cases inM m i <;> cases Nat.beq i j <;> cases memB i l <;> cases memB i (acc.getD j []) <;> simp
theorem presM_rep : ∀ (r : List Oper) (acc : List (List Nat)) (am : List Nat), acc.length = am.length → RepP acc am → RepP (presGo acc r) (presM am r)
  | [], acc, am, _, h => h
  | o :: r, acc, am, hl, h => by
    unfold presGo presM
    refine presM_rep r _ _ (by simp [hl]) fun j => ?_
    rw [List.getD_eq_getElem?_getD, List.getD_eq_getElem?_getD]
    rcases Nat.lt_trichotomy j acc.length with hj | hj | hj
    · rw [List.getElem?_append_left hj, List.getElem?_append_left (by omega), ← List.getD_eq_getElem?_getD, ← List.getD_eq_getElem?_getD]
      exact h j
    · subst hj
      rw [List.getElem?_append_right (Nat.le_refl _), List.getElem?_append_right (by omega)]
      simp only [Nat.sub_self, hl, List.getElem?_cons_zero, Option.getD_some]
      intro i
      rw [addN_memB, memB_append, orL_in h]
      have z : inM 0 i = false := by rw [inM_eq]; simp
      rw [z]
      simp [memB]
    · rw [List.getElem?_append_right (by omega), List.getElem?_append_right (by omega)]
      have e1 : ([addN (edgesOf o ++ (edgesOf o).flatMap fun i => acc.getD i []) []] : List (List Nat))[j - acc.length]? = none := List.getElem?_eq_none (by simp; omega)
      have e2 : ([orL (edgesOf o) am 0] : List Nat)[j - am.length]? = none := List.getElem?_eq_none (by simp; omega)
      rw [e1, e2]
      exact Rep.nil
theorem pres_rep (all : List Oper) : RepP (pres all) (presM [] all) := presM_rep all [] [] rfl fun j => by simp [Rep, memB, inM_eq]

/-! the walk by masks -/
def evGoM (P : Program) (TT : Types) (all : List Oper) (pr : List Nat) (S : Nat) (L : Heap) : List Nat → Nat → List AV → Nat → (Nat → List AV → Nat → Prop) → Prop
  | [], E, s, n, k => k E s n
  | j :: js, E, s, n, k => match all[j]? with
    | none => evGoM P TT all pr S L js E s n k
    | some o => match isE o || (inM E j || !(avM (pr.getD j 0) E S)) with
      | true => evGoM P TT all pr S L js E s n k
      | false => match isAl o with
        | true => putD s o.dst (.ptr n 0) fun s' => match isNoneB (allocObj TT s' o) with | true => False | false => evGoM P TT all pr S L js (addM E j) s' (n + 1) k
        | false => guarded all s o (aq P TT L (ev s) (raw s) o fun av => fv av fun av => putD s o.dst av fun s' => evGoM P TT all pr S L js (addM E j) s' n k)
            (putD s o.dst (.v (.tuple #[])) fun s' => evGoM P TT all pr S L js (addM E j) s' n k)
def satBM (all : List Oper) (pr : List Nat) (E S : Nat) : Bool :=
  (List.range all.length).all fun j => match all[j]? with
    | some o => isE o || (inM E j || !(avM (pr.getD j 0) E S))
    | none => true
def allocsOfM (all : List Oper) (FL : Nat) (f : Nat → Bool) : List Nat :=
  (List.range all.length).filter fun j => match all[j]? with | some o => isAl o && (!(inM FL j) && f j) | none => false
def effsOfM (all : List Oper) (S : Nat) (f : Nat → Bool) : List Nat :=
  (List.range all.length).filter fun j => match all[j]? with | some o => isE o && (!(inM S j) && f j) | none => false
def rechkM (TT : Types) (all : List Oper) (pe E : Nat) (s : List AV) (L : Heap) : List Nat → Prop → Prop
  | [], k => k
  | j :: js, k => match all[j]? with
    | some o => match o.op, inM E j && !(inM pe j) with
      | .load t x, true => guarded all s o (opt1 o.dst fun d => opt1 (TT t) fun ti => aload L ti (ev s x) = some (getA s d)) True ∧ rechkM TT all pe E s L js k
      | _, _ => rechkM TT all pe E s L js k
    | none => rechkM TT all pe E s L js k
def drM (P : Program) (TT : Types) (all : List Oper) (pr : List Nat) (K : Kn) (KP : AV → Kn) : Nat → Nat → Nat → Nat → List AV → Heap → Nat → Prop
  | fuel, E, S, FL, s, L, n => evGoM P TT all pr S L (List.range all.length) E s n fun E s n => match satBM all pr E S with
    | false => False
    | true => match effsOfM all S (fun _ => true) with
      | [] => flush TT all s (allocsOfM all FL fun _ => true) L fun L' => forceH L' fun L'' => K s L'' n
      | _ :: _ => match fuel with
        | 0 => False
        | fuel + 1 => allK (effsOfM all S (fun j => avM (pr.getD j 0) E S)) fun e => match all[e]? with
          | none => False
          | some o => flush TT all s (allocsOfM all FL fun j => inM (pr.getD e 0) j) L fun L1 =>
            guarded all s o (aop P TT o s L1 n (fun av L2 n2 => putD s o.dst av fun s2 => forceH L2 fun L3 => rechkM TT all (pr.getD e 0) E s2 L3 (List.range all.length)
                (drM P TT all pr K KP fuel E (addM S e) (addL (allocsOfM all FL (fun j => inM (pr.getD e 0) j)) FL) s2 L3 n2)) (fun x L2 n2 => KP x (killA all s) L2 n2))
              (putD s o.dst (.v (.tuple #[])) fun s2 => drM P TT all pr K KP fuel E (addM S e) (addL (allocsOfM all FL (fun j => inM (pr.getD e 0) j)) FL) s2 L1 n)
section
variable {P : Program} {TT : Types} {all : List Oper} {pr : List (List Nat)} {pm : List Nat}
theorem evGoM_eq (hp : RepP pr pm) {S : List Nat} {sm : Nat} (hS : Rep S sm) {L : Heap} {k : List Nat → List AV → Nat → Prop} {km : Nat → List AV → Nat → Prop} (hk : ∀ E em s n, Rep E em → k E s n = km em s n) :
    ∀ (js E : List Nat) (em : Nat) (s : List AV) (n : Nat), Rep E em → evGo P TT all pr S L js E s n k = evGoM P TT all pm sm L js em s n km
  | [], E, em, s, n, hE => hk E em s n hE
  | j :: js, E, em, s, n, hE => by
    have h1 := fun s n => evGoM_eq hp hS (L := L) hk js (j :: E) (addM em j) s n hE.cons
    have h0 := evGoM_eq hp hS (L := L) hk js E em s n hE
    unfold evGo evGoM
    rw [hE j, avail_eq hp hE hS j]
    simp only [h1, h0]
    rfl
theorem satBM_eq (hp : RepP pr pm) {E S : List Nat} {em sm : Nat} (hE : Rep E em) (hS : Rep S sm) : satB all pr E S = satBM all pm em sm := by
  unfold satB satBM
  congr 1
  funext j
  rw [hE j, avail_eq hp hE hS j]
  rfl
theorem allocsM_eq {FL : List Nat} {fm : Nat} (h : Rep FL fm) (f : Nat → Bool) : allocsOf all FL f = allocsOfM all fm f := by
  unfold allocsOf allocsOfM
  congr 1
  funext j
  rw [h j]
  rfl
theorem effsM_eq {S : List Nat} {sm : Nat} (h : Rep S sm) (f : Nat → Bool) : effsOf all S f = effsOfM all sm f := by
  unfold effsOf effsOfM
  congr 1
  funext j
  rw [h j]
  rfl
theorem rechkM_eq {pe E : List Nat} {pem em : Nat} (h1 : Rep pe pem) (h2 : Rep E em) {s : List AV} {L : Heap} {k : Prop} : ∀ js : List Nat, rechk TT all pe E s L js k = rechkM TT all pem em s L js k
  | [] => rfl
  | j :: js => by
    have ih := rechkM_eq h1 h2 (s := s) (L := L) (k := k) js
    unfold rechk rechkM
    rw [h1 j, h2 j]
    simp only [ih]
    rfl
theorem drM_eq (hp : RepP pr pm) {K : Kn} {KP : AV → Kn} : ∀ (fuel : Nat) {E S FL : List Nat} {em sm fm : Nat} (s : List AV) (L : Heap) (n : Nat), Rep E em → Rep S sm → Rep FL fm → dr P TT all pr K KP fuel E S FL s L n = drM P TT all pm K KP fuel em sm fm s L n := by
  intro fuel
  induction fuel with
  | zero =>
    intro E S FL em sm fm s L n hE hS hF
    unfold dr drM
    refine evGoM_eq hp hS (fun E em s n hE => ?_) _ _ _ _ _ hE
    rw [satBM_eq hp hE hS, effsM_eq hS, allocsM_eq hF]
    rfl
  | succ fuel ih =>
    intro E S FL em sm fm s L n hE hS hF
    unfold dr drM
    refine evGoM_eq hp hS (fun E em s n hE => ?_) _ _ _ _ _ hE
    have e1 : availB pr E S = fun j => avM (pm.getD j 0) em sm := funext fun j => avail_eq hp hE hS j
    have e2 : ∀ e, (fun j => memB j (pr.getD e [])) = fun j => inM (pm.getD e 0) j := fun e => funext fun j => hp e j
    have e3 : ∀ e s2 L3 n2, dr P TT all pr K KP fuel E (e :: S) (allocsOfM all fm (fun j => inM (pm.getD e 0) j) ++ FL) s2 L3 n2 = drM P TT all pm K KP fuel em (addM sm e) (addL (allocsOfM all fm (fun j => inM (pm.getD e 0) j)) fm) s2 L3 n2 := fun e s2 L3 n2 => ih s2 L3 n2 hE hS.cons (hF.append _)
    have e4 : ∀ e s2 L3 k, rechk TT all (pr.getD e []) E s2 L3 (List.range all.length) k = rechkM TT all (pm.getD e 0) em s2 L3 (List.range all.length) k := fun e s2 L3 k => rechkM_eq (hp e) hE _
    rw [satBM_eq hp hE hS, effsM_eq hS, effsM_eq hS, e1, allocsM_eq hF]
    simp only [allocsM_eq hF, e2, e3, e4]
    rfl
theorem drawM {id : Nat} {s : List AV} {L : Heap} {n : Nat} {Kk : Kc} (hok : okD all = true) (h : drM P TT all (presM [] all) (Kk .normal) (fun x => Kk (.panic x)) all.length 0 0 0 s L n) : draw P TT id all s L n Kk := by
  unfold draw
  rw [hok]
  show dr P TT all (pres all) (Kk .normal) (fun x => Kk (.panic x)) all.length [] [] [] s L n
  rw [drM_eq (pres_rep all) all.length s L n Rep.nil Rep.nil Rep.nil]
  exact h
end
end Go.Am
