/- Rows whose inner rows say less. -/
import Derived.Test.YtabhfccfohpkaaaAmTc
namespace Go.Am
/-- data that says no more -/
def LeD (a b : AV) : Prop := ∀ X x, SimD X a x → SimD X b x
theorem LeD.refl (a : AV) : LeD a a := fun _ _ h => h
theorem LeD.free (rows : List (List AV)) (o : Own) : LeD (.list rows o) (.list rows .free) := fun _ _ h => h.free
inductive LDL : List AV → List AV → Prop
  | nil : LDL [] []
  | cons {a b : AV} {s t : List AV} (h : LeD a b) (hs : LDL s t) : LDL (a :: s) (b :: t)
inductive LDR : List (List AV) → List (List AV) → Prop
  | nil : LDR [] []
  | cons {a b : List AV} {s t : List (List AV)} (h : LDL a b) (hs : LDR s t) : LDR (a :: s) (b :: t)
theorem LDL.len {s t : List AV} (h : LDL s t) : s.length = t.length := by
  induction h with
  | nil => rfl
  | cons _ _ ih => simp [ih]
theorem LDL.get {s t : List AV} (h : LDL s t) : ∀ (i : Nat) (b : AV), t[i]? = some b → ∃ a, s[i]? = some a ∧ LeD a b := by
  induction h with
  | nil => intro i b hb; simp at hb
  | @cons a b s t h1 _ ih =>
    intro i c hc
    cases i with
    | zero => simp at hc; subst hc; exact ⟨a, rfl, h1⟩
    | succ i => exact ih i c hc
theorem LDR.len {s t : List (List AV)} (h : LDR s t) : s.length = t.length := by
  induction h with
  | nil => rfl
  | cons _ _ ih => simp [ih]
theorem LDR.get {s t : List (List AV)} (h : LDR s t) : ∀ (i : Nat) (b : List AV), t[i]? = some b → ∃ a, s[i]? = some a ∧ LDL a b := by
  induction h with
  | nil => intro i b hb; simp at hb
  | @cons a b s t h1 _ ih =>
    intro i c hc
    cases i with
    | zero => simp at hc; subst hc; exact ⟨a, rfl, h1⟩
    | succ i => exact ih i c hc
theorem LeD.rows {rows rows' : List (List AV)} (h : LDR rows rows') (o : Own) : LeD (.list rows o) (.list rows' .free) := fun X x hx => by
  cases hx with
  | nil _ a c hc ho hs =>
    cases h
    exact .nil .free a c hc (fun h => by cases h) (.inl rfl)
  | list _ _ b off c s y hn hc ho hs hr hX hS h1 =>
    have e := h.len
    have hr' : ∀ row ∈ rows', row.length = s := fun row hrow => by
      obtain ⟨i, hi, rfl⟩ := List.getElem_of_mem hrow
      obtain ⟨a, ha, hd⟩ := h.get i _ (List.getElem?_eq_getElem hi)
      rw [← hd.len]
      exact hr a (List.mem_of_getElem? ha)
    rw [e]
    refine .list rows' .free b off c s y (by omega) hc (fun h => by cases h) (.inl rfl) hr' (fun i row j a k1 k2 => ?_) (fun i row j a k1 k2 => ?_) (fun i row j a k1 k2 => ?_)
    · obtain ⟨r0, q1, q2⟩ := h.get i row k1
      obtain ⟨a0, q3, q4⟩ := q2.get j a k2
      exact hX i r0 j a0 q1 q3
    · obtain ⟨r0, q1, q2⟩ := h.get i row k1
      obtain ⟨a0, q3, q4⟩ := q2.get j a k2
      exact q4 _ _ (hS i r0 j a0 q1 q3)
    · obtain ⟨r0, q1, q2⟩ := h.get i row k1
      obtain ⟨a0, q3, q4⟩ := q2.get j a k2
      exact h1 i r0 j a0 q1 q3
theorem LeA.rows {rows rows' : List (List AV)} (h : LDR rows rows') (o : Own) : LeA (.list rows o) (.list rows' .free) := fun G x hx => by
  cases hx with
  | data _ _ hd => exact .data _ _ (LeD.rows h _ _ _ hd)
  | tok _ k _ _ hd => exact .data _ _ (LeD.rows h _ _ _ hd)
theorem Wk.rows {rows rows' : List (List AV)} (h : LDR rows rows') (o : Own) : Wk (.list rows o) (.list rows' .free) :=
  ⟨fun G x hx => by
    refine .of ?_
    have := hx.down
    unfold AV.down at this
    split at this
    · rename_i h0; cases h0; exact LeA.rows h _ _ _ this
    · exact LeA.rows h _ _ _ this, fun G x hx => LeA.rows h o _ _ hx⟩
end Go.Am
