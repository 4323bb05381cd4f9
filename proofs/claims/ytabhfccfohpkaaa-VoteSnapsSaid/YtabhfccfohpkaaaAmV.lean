/- Regions that draw their order: the formula is right (the end). -/
import Derived.Test.YtabhfccfohpkaaaAmU
namespace Go.Am
open Go.RowKit
set_option linter.unusedSimpArgs false
set_option linter.unusedVariables false

theorem part_perm {α : Type} (p q : α → Bool) : ∀ l : List α, (l.filter p).Perm (l.filter (fun x => p x && q x) ++ l.filter (fun x => p x && !(q x)))
  | [] => .refl _
  | x :: l => by
    have ih := part_perm p q l
    cases hp : p x <;> cases hq : q x <;> simp only [List.filter_cons, hp, hq, Bool.true_and, Bool.false_and, Bool.not_true, Bool.not_false, if_true, Bool.false_eq_true, if_false]
    · exact ih
    · exact ih
    · exact (ih.cons x).trans List.perm_middle.symm
    · exact ih.cons x
theorem one_perm {p : Nat → Bool} {j : Nat} : ∀ {l : List Nat}, l.Nodup → j ∈ l → p j = false → (l.filter (fun x => p x || x == j)).Perm (j :: l.filter p)
  | [], _, h, _ => by cases h
  | x :: l, hn, hm, hp => by
    obtain ⟨n1, n2⟩ := List.nodup_cons.1 hn
    by_cases hx : x = j
    · subst hx
      simp only [List.filter_cons, hp, beq_self_eq_true, Bool.or_true, if_true, Bool.false_eq_true, if_false]
      have : l.filter (fun y => p y || y == x) = l.filter p := List.filter_congr fun y hy => by
        have : (y == x) = false := by simp; rintro rfl; exact n1 hy
        rw [this, Bool.or_false]
      rw [this]
    · have hm' : j ∈ l := (List.mem_cons.1 hm).resolve_left (Ne.symm hx)
      have ih := one_perm n2 hm' hp
      have hxj : (x == j) = false := by simpa using hx
      cases hpx : p x <;> simp only [List.filter_cons, hpx, hxj, Bool.or_false, if_true, Bool.false_eq_true, if_false]
      · exact ih
      · exact (ih.cons x).trans (.swap _ _ _)

theorem flush_spec {TT : Types} {all : List Oper} {s : List AV} {k : Heap → Prop} : ∀ (js : List Nat) (L : Heap), flush TT all s js L k → ∃ L', L'.Perm (js.filterMap (objAt TT all s) ++ L) ∧ k L'
  | [], L, h => ⟨L, .refl _, h⟩
  | j :: js, L, h => by
    unfold flush at h
    split at h
    · rename_i o hj
      obtain ⟨r, hr, h1⟩ := opt1_some h
      obtain ⟨L', h2, h3⟩ := flush_spec js _ h1
      refine ⟨L', ?_, h3⟩
      have : objAt TT all s j = some r := by unfold objAt; rw [hj]; exact hr
      rw [List.filterMap_cons, this]
      exact h2.trans List.perm_middle
    · exact h.elim

theorem lst_set {listed : Array Bool} {i j : Nat} (hi : i < listed.size) : Lst (listed.setIfInBounds i true) j ↔ (Lst listed j ∨ j = i) := by
  unfold Lst
  by_cases h : i = j
  · subst h
    simp [hi]
  · simp only [Array.getD_eq_getD_getElem?, Array.getElem?_setIfInBounds, if_neg h]
    constructor
    · exact .inl
    · rintro (h1 | h1)
      · exact h1
      · exact absurd h1.symm h
theorem lst_set_b {listed : Array Bool} {i j : Nat} (hi : i < listed.size) : (listed.setIfInBounds i true).getD j false = (listed.getD j false || j == i) := by
  have := lst_set (j := j) hi
  unfold Lst at this
  cases h1 : (listed.setIfInBounds i true).getD j false <;> cases h2 : listed.getD j false <;> cases h3 : (j == i) <;> simp_all

section
variable {P : Program} {TT : Types} {B : Base} {all : List Oper} {listed : Array Bool} {E S FL : List Nat} {s : List AV} {L : Heap} {n : Nat} {G : Ghost} {a : Act} {w : World}

theorem Rel.fill {U : Nat → Prop} {σ : ASt} (h : Rel B U G σ a w) {d : Nat} {v : Value} (hx : d < σ.slots.length → Slot G (getA σ.slots d) v) : Rel B (fun t => U t ∧ d ≠ t) G σ (a.put (some d) v) w := by
  refine ⟨by simp [Act.put, h.size], fun t ht => ?_, h.defers, h.holds, h.step, h.next, h.base, h.low, h.old⟩
  simp only [Act.put]
  by_cases hd : d = t
  · subst hd
    by_cases hl : d < σ.slots.length
    · have hl' : d < a.tmps.size := by rw [h.size]; exact hl
      simp only [Array.getD_eq_getD_getElem?, Array.getElem?_setIfInBounds, if_pos hl', if_true, Option.getD_some]
      exact hx hl
    · have : getA σ.slots d = .dead := by rw [getA_eq, List.getD, List.getElem?_eq_none (Nat.not_lt.1 hl)]; rfl
      rw [this]
      exact .of (.data _ _ (.dead _))
  · have : (a.tmps.setIfInBounds d v).getD t undef = a.tmps.getD t undef := by
      simp only [Array.getD_eq_getD_getElem?, Array.getElem?_setIfInBounds, if_neg hd]
    rw [this]
    exact h.slots t fun hu => ht ⟨hu, hd⟩

theorem range_mem {j : Nat} {o : Oper} (h : all[j]? = some o) : j ∈ List.range all.length := List.mem_range.2 (List.getElem?_eq_some_iff.1 h).1
/-- the objects that are owed, when a part of them is given -/
theorem pend_part {lf f : Nat → Bool} (h : ∀ j, f j = true → lf j = true) : (pendL TT all s FL lf).Perm ((allocsOf all FL f).filterMap (objAt TT all s) ++ pendL TT all s (allocsOf all FL f ++ FL) lf) := by
  unfold pendL
  rw [← List.filterMap_append]
  refine List.Perm.filterMap _ ?_
  have h1 := part_perm (fun j => match all[j]? with | some o => isAl o && (!(memB j FL) && lf j) | none => false) f (List.range all.length)
  have e1 : (List.range all.length).filter (fun x => (match all[x]? with | some o => isAl o && (!(memB x FL) && lf x) | none => false) && f x) = allocsOf all FL f := by
    unfold allocsOf
    refine List.filter_congr fun x _ => ?_
    cases all[x]? with
    | none => rfl
    | some o =>
      simp only
      cases hf : f x
      · simp
      · rw [h x hf]; simp
  have e2 : (List.range all.length).filter (fun x => (match all[x]? with | some o => isAl o && (!(memB x FL) && lf x) | none => false) && !(f x)) = allocsOf all (allocsOf all FL f ++ FL) lf := by
    show _ = (List.range all.length).filter _
    refine List.filter_congr fun x hx => ?_
    cases ho : all[x]? with
    | none => rfl
    | some o =>
      simp only
      have hm : memB x (allocsOf all FL f ++ FL) = ((isAl o && (!(memB x FL) && f x)) || memB x FL) := by
        rw [Bool.eq_iff_iff, memB_iff, List.mem_append, Bool.or_eq_true, memB_iff]
        refine or_congr_left ?_
        unfold allocsOf
        rw [List.mem_filter, ho]
        simp only [hx, true_and]
      rw [hm]
      cases isAl o <;> cases memB x FL <;> cases f x <;> cases lf x <;> rfl
  rw [e1, e2] at h1
  exact h1
theorem pend_same {i : Nat} {o : Oper} (hi : all[i]? = some o) (hal : isAl o = false) (hsz : i < listed.size) : pendL TT all s FL (fun j => (listed.setIfInBounds i true).getD j false) = pendL TT all s FL (fun j => listed.getD j false) := by
  unfold pendL allocsOf
  congr 1
  refine List.filter_congr fun x _ => ?_
  cases ho : all[x]? with
  | none => rfl
  | some o' =>
    simp only
    by_cases hx : x = i
    · subst hx; rw [hi] at ho; cases ho; rw [hal]; simp
    · rw [lst_set_b hsz]
      have : (x == i) = false := by simpa using hx
      rw [this, Bool.or_false]
theorem pend_more {i : Nat} {o : Oper} {r : Nat × Res} (hi : all[i]? = some o) (hal : isAl o = true) (hsz : i < listed.size) (hnl : ¬ Lst listed i) (hFL : i ∉ FL) (hr : allocObj TT s o = some r) :
    (pendL TT all s FL (fun j => (listed.setIfInBounds i true).getD j false)).Perm (r :: pendL TT all s FL (fun j => listed.getD j false)) := by
  unfold pendL
  have hob : objAt TT all s i = some r := by unfold objAt; rw [hi]; exact hr
  have e : r :: (allocsOf all FL (fun j => listed.getD j false)).filterMap (objAt TT all s) = (i :: allocsOf all FL (fun j => listed.getD j false)).filterMap (objAt TT all s) := by rw [List.filterMap_cons, hob]
  rw [e]
  refine List.Perm.filterMap _ ?_
  have hF : memB i FL = false := by
    cases h : memB i FL
    · rfl
    · exact absurd (memB_iff.1 h) hFL
  have hL : listed.getD i false = false := by
    cases h : listed.getD i false
    · rfl
    · exact absurd h hnl
  have h1 := one_perm (p := fun j => match all[j]? with | some o => isAl o && (!(memB j FL) && listed.getD j false) | none => false) (j := i) (List.nodup_range (n := all.length)) (range_mem hi) (by simp only [hi, hL]; simp)
  unfold allocsOf
  refine .trans (.of_eq ?_) h1
  refine List.filter_congr fun x _ => ?_
  have hb := lst_set_b (j := x) hsz
  by_cases hx : x = i
  · subst hx; simp only [hi, hal, hF, hb]; simp
  · have : (x == i) = false := by simpa using hx
    rw [this, Bool.or_false] at hb
    simp only [hb, this, Bool.or_false]
    cases all[x]? <;> rfl

theorem killA_get : ∀ (l : List Oper) (s : List AV) (t : Nat), getA (l.foldl (fun s o => putS s o.dst .dead) s) t = .dead ∨ (getA (l.foldl (fun s o => putS s o.dst .dead) s) t = getA s t ∧ ∀ o ∈ l, o.dst ≠ some t)
  | [], s, t => .inr ⟨rfl, fun o h => by cases h⟩
  | o :: l, s, t => by
    simp only [List.foldl_cons]
    rcases killA_get l (putS s o.dst .dead) t with h | ⟨h1, h2⟩
    · exact .inl h
    · cases hd : o.dst with
      | none =>
        rw [hd] at h1
        exact .inr ⟨h1, List.forall_mem_cons.2 ⟨by rw [hd]; simp, h2⟩⟩
      | some d =>
        rw [hd] at h1
        have h1' : _ = getA (setA s d .dead) t := h1
        rw [getA_setA] at h1'
        by_cases hdt : d = t
        · subst hdt
          left
          rw [h1']
          split
          · rfl
          · rename_i hlt
            rw [getA_eq, List.getD, List.getElem?_eq_none (by simpa using hlt)]; rfl
        · rw [if_neg (by simp [hdt])] at h1'
          exact .inr ⟨h1', List.forall_mem_cons.2 ⟨by rw [hd]; simpa using hdt, h2⟩⟩
theorem killA_len (all : List Oper) : ∀ s : List AV, (killA all s).length = s.length := by
  unfold killA
  induction all with
  | nil => intro s; rfl
  | cons o l ih =>
    intro s
    simp only [List.foldl_cons]
    rw [ih]
    cases o.dst <;> simp [putS, setA_eq]

/-- the invariant, as one more operation is done -/
theorem DI.done (hk : OkD all) (h : DI P TT B all listed E S FL s L n G a w) {i : Nat} {o : Oper} (hi : all[i]? = some o) (hedge : ∀ j ∈ edgesOf o, Lst listed j) : ∀ (j : Nat) (oj : Oper), all[j]? = some oj → Lst (listed.setIfInBounds i true) j → ∀ x ∈ edgesOf oj, Lst (listed.setIfInBounds i true) x := by
  have hsz : i < listed.size := by rw [h.size]; exact (List.getElem?_eq_some_iff.1 hi).1
  intro j oj hj hl x hx
  rw [lst_set hsz] at hl ⊢
  rcases hl with hl | rfl
  · exact .inl (h.closed j oj hj hl x hx)
  · rw [hi] at hj; cases hj
    exact .inl (hedge x hx)
theorem DI.preL (h : DI P TT B all listed E S FL s L n G a w) {i : Nat} {o : Oper} (hi : all[i]? = some o) (hedge : ∀ j ∈ edgesOf o, Lst listed j) : ∀ j ∈ (pres all).getD i [], Lst listed j :=
  pres_spec (D := Lst listed) h.closed hi hedge
end
end Go.Am
