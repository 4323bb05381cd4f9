/- vote: what an acceptor has, in plain lists. -/
import Derived.Test.YtabhfccfohpkaaaVoG
namespace Go.Proofs.Ytabhfccfohpkaaa
open Go.Am
set_option linter.unusedSimpArgs false
set_option linter.unusedVariables false
theorem sorted_len : ∀ (l : List Int) (a b : Int), l.Pairwise (· < ·) → (∀ x ∈ l, a ≤ x ∧ x ≤ b) → (l.length : Int) ≤ max 0 (b - a + 1)
  | [], a, b, _, _ => by simp; omega
  | x :: l, a, b, h, hx => by
    rw [List.pairwise_cons] at h
    have h0 := hx x (by simp)
    have := sorted_len l (x + 1) b h.2 fun y hy => ⟨by have := h.1 y hy; omega, (hx y (by simp [hy])).2⟩
    rw [List.length_cons]
    omega
theorem key_at {l : List Td} (hs : (tkeys l).Pairwise (· < ·)) {t : Td} (ht : t ∈ l) : l[kpos (tkeys l) t.c]? = some t := by
  obtain ⟨i, hi⟩ := List.getElem?_of_mem ht
  have hk : (tkeys l)[i]? = some t.c := by unfold tkeys; rw [List.getElem?_map, hi]; rfl
  have h1 := kpos_lt (c := t.c) hs hk
  have h2 : ¬ i < kpos (tkeys l) t.c := fun h => by have := h1.1 h; omega
  have h3 : ¬ kpos (tkeys l) t.c < i := fun h => by
    have hlt : i < (tkeys l).length := (List.getElem?_eq_some_iff.1 hk).1
    obtain ⟨y, hy⟩ : ∃ y, (tkeys l)[kpos (tkeys l) t.c]? = some y := ⟨_, List.getElem?_eq_getElem (by omega)⟩
    have h4 := kpos_lt (c := t.c) hs hy
    have h5 : y < t.c := by
      have hp := List.pairwise_iff_getElem.1 hs (kpos (tkeys l) t.c) i (by omega) hlt h
      rw [List.getElem?_eq_some_iff] at hy hk
      obtain ⟨_, hy⟩ := hy
      obtain ⟨_, hk⟩ := hk
      rw [hy, hk] at hp; exact hp
    have := h4.2 h5
    omega
  rw [show kpos (tkeys l) t.c = i by omega]; exact hi
theorem putL_perm {l : List Td} (hs0 : (tkeys l).Pairwise (· < ·)) (x : Td) : (putL l x).Perm (x :: l.filter (fun t => t.c ≠ x.c)) := by
  unfold putL
  have hle := kpos_le (tkeys l) x.c
  have hln : (tkeys l).length = l.length := List.length_map ..
  split
  · rename_i hc
    obtain ⟨t, ht, hct⟩ : ∃ t, l[kpos (tkeys l) x.c]? = some t ∧ t.c = x.c := by
      unfold tkeys at hc ⊢
      rw [List.getElem?_map] at hc
      cases hq : l[kpos (l.map (·.c)) x.c]? with
      | none => rw [hq] at hc; cases hc
      | some t => rw [hq] at hc; exact ⟨t, rfl, Option.some.inj hc⟩
    generalize kpos (tkeys l) x.c = p at *
    obtain ⟨hlt, hget⟩ := List.getElem?_eq_some_iff.1 ht
    have hsplit : l = l.take p ++ t :: l.drop (p + 1) := by rw [← hget, List.getElem_cons_drop, List.take_append_drop]
    have hset : l.set p x = l.take p ++ x :: l.drop (p + 1) := by
      rw [List.set_eq_take_append_cons_drop, if_pos hlt]
    have hs := hs0
    have hrest : ∀ u ∈ l.take p ++ l.drop (p + 1), u.c ≠ x.c := by
      rw [hsplit] at hs
      unfold tkeys at hs
      rw [List.map_append, List.map_cons, List.pairwise_append, List.pairwise_cons] at hs
      intro u hu e
      rcases List.mem_append.1 hu with hu | hu
      · have := hs.2.2 u.c (List.mem_map.2 ⟨u, hu, rfl⟩) t.c (by simp)
        omega
      · have := hs.2.1.1 u.c (List.mem_map.2 ⟨u, hu, rfl⟩)
        omega
    have hfil : l.filter (fun t => t.c ≠ x.c) = l.take p ++ l.drop (p + 1) := by
      conv => lhs; rw [hsplit]
      rw [List.filter_append, List.filter_cons_of_neg (by simp [hct]), ← List.filter_append, List.filter_eq_self]
      intro u hu
      simpa using hrest u hu
    rw [hset, hfil]
    exact List.perm_middle
  · rename_i hc
    have hno : ∀ t ∈ l, t.c ≠ x.c := fun t ht e => by
      refine hc ?_
      rw [← e]
      have := key_at hs0 ht
      unfold tkeys at this ⊢
      rw [List.getElem?_map, this]; rfl
    rw [List.filter_eq_self.2 (fun t ht => by simpa using hno t ht)]
    unfold insAt
    refine List.perm_middle.trans ?_
    rw [List.take_append_drop]
theorem putL_sorted {l : List Td} (hs0 : (tkeys l).Pairwise (· < ·)) (x : Td) : (tkeys (putL l x)).Pairwise (· < ·) := by
  unfold putL
  have hle := kpos_le (tkeys l) x.c
  have hln : (tkeys l).length = l.length := List.length_map ..
  split
  · rename_i hc
    have : tkeys (l.set (kpos (tkeys l) x.c) x) = tkeys l := by
      unfold tkeys at *
      rw [List.map_set]
      obtain ⟨hlt, hget⟩ := List.getElem?_eq_some_iff.1 hc
      conv => rhs; rw [← List.set_getElem_self hlt]
      rw [hget]
    rw [this]; exact hs0
  · rename_i hc
    have hlow : ∀ i y, (tkeys l)[i]? = some y → (i < kpos (tkeys l) x.c ↔ y < x.c) := fun i y hi => kpos_lt hs0 hi
    have hne : ∀ y ∈ tkeys l, y ≠ x.c := fun y hy e => by
      obtain ⟨t, ht, rfl⟩ := List.mem_map.1 hy
      refine hc ?_
      rw [← e]
      have := key_at hs0 ht
      unfold tkeys at this ⊢
      rw [List.getElem?_map, this]; rfl
    have hmap : tkeys (insAt l (kpos (tkeys l) x.c) x) = insAt (tkeys l) (kpos (tkeys l) x.c) x.c := (insAt_map (fun t : Td => t.c) l _ x).symm
    rw [hmap]
    have hs := hs0
    generalize tkeys l = ks at *
    generalize kpos ks x.c = p at *
    unfold insAt
    rw [← List.take_append_drop p ks, List.pairwise_append] at hs
    rw [List.pairwise_append, List.pairwise_cons]
    have hd : ∀ y ∈ ks.drop p, x.c < y := fun y hy => by
      obtain ⟨i, hi⟩ := List.getElem?_of_mem hy
      rw [List.getElem?_drop] at hi
      have h1 := hlow _ _ hi
      have h2 := hne y (List.mem_of_mem_drop hy)
      have : ¬ y < x.c := fun h => by have := h1.2 h; omega
      omega
    have hu : ∀ y ∈ ks.take p, y < x.c := fun y hy => by
      obtain ⟨i, hi⟩ := List.getElem?_of_mem hy
      rw [List.getElem?_take] at hi
      split at hi
      · rename_i hlt
        exact (hlow _ _ hi).1 hlt
      · cases hi
    refine ⟨hs.1, ⟨hd, hs.2.1⟩, fun a ha b hb => ?_⟩
    rcases List.mem_cons.1 hb with rfl | hb
    · exact hu a ha
    · exact hs.2.2 a ha b hb
theorem AcOk.len {A : Ac} (h : AcOk A) : A.l.length ≤ 8 := by
  have := sorted_len (tkeys A.l) A.base (A.base + 7) h.sorted fun x hx => by
    obtain ⟨t, ht, rfl⟩ := List.mem_map.1 hx
    have := h.votes t ht
    omega
  unfold tkeys at this
  rw [List.length_map] at this
  omega
/-- what is written on the disk -/
inductive Ro where
  | P (b : Int)
  | B (t : Td)
  | W (A : Ac)
def encO : Ro → List UInt8
  | .P b => encP b
  | .B t => encB t
  | .W A => encW A
def ap (A : Ac) : Ro → Ac
  | .P b => ⟨b, A.l, A.base, A.st⟩
  | .B t => ⟨t.s, putL A.l t, A.base, A.st⟩
  | .W A' => A'
def roOk (A : Ac) : Ro → Prop
  | .P b => 0 ≤ b ∧ b ≤ 1073741824 ∧ A.p ≤ b
  | .B t => inB A t = true ∧ A.p ≤ t.s
  | .W A' => AcOk A' ∧ A.p ≤ A'.p
theorem ap_ok {A : Ac} (h : AcOk A) {o : Ro} (ho : roOk A o) : AcOk (ap A o) ∧ A.p ≤ (ap A o).p := by
  cases o with
  | P b =>
    obtain ⟨h1, h2, h3⟩ := ho
    refine ⟨⟨h.sorted, fun t ht => ?_, ⟨by show -1 ≤ b; omega, h2⟩, h.base, h.st⟩, h3⟩
    obtain ⟨a, b', c, d, e⟩ := h.votes t ht
    exact ⟨a, b', c, by show t.s ≤ b; omega, e⟩
  | B t =>
    obtain ⟨h1, h2⟩ := ho
    obtain ⟨i1, i2, i3, i4, i5⟩ := of_decide_eq_true h1
    refine ⟨⟨putL_sorted h.sorted t, fun u hu => ?_, ⟨by show -1 ≤ t.s; omega, i2⟩, h.base, h.st⟩, h2⟩
    rcases List.mem_cons.1 ((putL_perm h.sorted t).mem_iff.1 hu) with rfl | hu
    · exact ⟨i3, i4, i1, Int.le_refl _, i5⟩
    · obtain ⟨a, b', c, d, e⟩ := h.votes u (List.mem_filter.1 hu).1
      exact ⟨a, b', c, by show u.s ≤ t.s; omega, e⟩
  | W A' => exact ho
def A0 : Ac := ⟨-1, [], 0, []⟩
theorem A0_ok : AcOk A0 := ⟨List.Pairwise.nil, (fun t h => by cases h), by decide, by decide, by decide⟩
/-- records that may be read one by one -/
def good : Ac → List Ro → Prop
  | _, [] => True
  | A, o :: l => roOk A o ∧ good (ap A o) l
theorem good_snoc : ∀ (l : List Ro) (A : Ac) (o : Ro), good A (l ++ [o]) ↔ good A l ∧ roOk (l.foldl ap A) o
  | [], A, o => by simp [good]
  | x :: l, A, o => by
    show roOk A x ∧ good (ap A x) (l ++ [o]) ↔ _
    rw [good_snoc l (ap A x) o]
    show _ ↔ (roOk A x ∧ good (ap A x) l) ∧ _
    rw [and_assoc]; rfl
theorem good_ok : ∀ (l : List Ro) (A : Ac), AcOk A → good A l → AcOk (l.foldl ap A)
  | [], A, h, _ => h
  | x :: l, A, h, hg => good_ok l (ap A x) (ap_ok h hg.1).1 hg.2
theorem good_take {l : List Ro} {A : Ac} (h : good A l) (i : Nat) : good A (l.take i) := by
  induction l generalizing A i with
  | nil => simp [good]
  | cons x l ih =>
    cases i with
    | zero => trivial
    | succ i => exact ⟨h.1, ih h.2 i⟩
theorem good_at {l : List Ro} {A : Ac} (h : good A l) {i : Nat} {o : Ro} (ho : l[i]? = some o) : roOk ((l.take i).foldl ap A) o := by
  have h1 := good_take h (i + 1)
  rw [List.take_add_one, ho] at h1
  exact ((good_snoc _ _ _).1 h1).2
end Go.Proofs.Ytabhfccfohpkaaa
