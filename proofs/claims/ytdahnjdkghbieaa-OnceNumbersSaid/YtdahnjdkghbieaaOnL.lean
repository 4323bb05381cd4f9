/- once: what caches say, in plain lists. -/
import Derived.Test.YtdahnjdkghbieaaOnE
namespace Go.Proofs.Ytdahnjdkghbieaa
open Go.Am
set_option linter.unusedSimpArgs false
set_option linter.unusedVariables false
/-- may it be one of a cache's? -/
def tdB (t : Td) : Prop := 0 ≤ t.c ∧ t.c ≤ 255 ∧ 1 ≤ t.s ∧ t.s ≤ 1073741824 ∧ t.b.length ≤ 1048576
structure Lst (l : List Td) : Prop where
  sorted : (tkeys l).Pairwise (· < ·)
  ok : ∀ t ∈ l, tdB t
theorem sorted_len : ∀ (l : List Int) (a b : Int), l.Pairwise (· < ·) → (∀ x ∈ l, a ≤ x ∧ x ≤ b) → (l.length : Int) ≤ max 0 (b - a + 1)
  | [], a, b, _, _ => by simp; omega
  | x :: l, a, b, h, hx => by
    rw [List.pairwise_cons] at h
    have h0 := hx x (by simp)
    have := sorted_len l (x + 1) b h.2 fun y hy => ⟨by have := h.1 y hy; omega, (hx y (by simp [hy])).2⟩
    rw [List.length_cons]
    omega
theorem Lst.len {l : List Td} (h : Lst l) : l.length ≤ 256 := by
  have := sorted_len (tkeys l) 0 255 h.sorted fun x hx => by
    obtain ⟨t, ht, rfl⟩ := List.mem_map.1 hx
    have := h.ok t ht
    exact ⟨this.1, this.2.1⟩
  unfold tkeys at this
  rw [List.length_map] at this
  omega
theorem Lst.nil : Lst [] := ⟨List.Pairwise.nil, fun t h => by cases h⟩
/-- the answer for one that is there -/
def ans (t : Td) (s : Int) : List UInt8 × Int := if s < 1 then ([], 3) else if s < t.s then ([], 3) else if s = t.s then (t.b, 2) else ([], 1)
def ans0 (s : Int) : List UInt8 × Int := if s < 1 then ([], 3) else ([], 1)
theorem key_at {l : List Td} (hs : (tkeys l).Pairwise (· < ·)) {t : Td} (ht : t ∈ l) : l[kpos (tkeys l) t.c]? = some t := by
  obtain ⟨i, hi⟩ := List.getElem?_of_mem ht
  have hk : (tkeys l)[i]? = some t.c := by unfold tkeys; rw [List.getElem?_map, hi]; rfl
  have h1 := kpos_lt (c := t.c) hs hk
  have h2 : ¬ i < kpos (tkeys l) t.c := fun h => by have := h1.1 h; omega
  have h3 : ¬ kpos (tkeys l) t.c < i := fun h => by
    have hlt : i < (tkeys l).length := (List.getElem?_eq_some_iff.1 hk).1
    obtain ⟨y, hy⟩ : ∃ y, (tkeys l)[kpos (tkeys l) t.c]? = some y := ⟨_, List.getElem?_eq_getElem (by omega)⟩
    have h4 := kpos_lt (c := t.c) hs hy
    have h5 : y < t.c := by
      have hp := List.pairwise_iff_getElem.1 hs (kpos (tkeys l) t.c) i (by omega) hlt h
      rw [List.getElem?_eq_some_iff] at hy hk
      obtain ⟨_, hy⟩ := hy
      obtain ⟨_, hk⟩ := hk
      rw [hy, hk] at hp; exact hp
    have := h4.2 h5
    omega
  rw [show kpos (tkeys l) t.c = i by omega]; exact hi
theorem look_in {l : List Td} (hs : (tkeys l).Pairwise (· < ·)) {t : Td} (ht : t ∈ l) (s : Int) : look l t.c s = ans t s := by
  unfold look ans
  rw [key_at hs ht]
  simp only [if_pos]
theorem look_out {l : List Td} {c : Int} (h : ∀ t ∈ l, t.c ≠ c) (s : Int) : look l c s = ans0 s := by
  unfold look ans0
  split
  · rfl
  · cases hq : l[kpos (tkeys l) c]? with
    | none => rfl
    | some t => exact if_neg (h t (List.mem_of_getElem? hq))
theorem rlook_out {m : List Td} {c : Int} (h : ∀ t ∈ m, t.c ≠ c) (s : Int) : rlook m c s = ans0 s := by
  unfold rlook ans0
  split
  · rfl
  · induction m with
    | nil => rfl
    | cons t m ih =>
      unfold rlook0
      rw [if_neg (h t (by simp))]
      exact ih fun t ht => h t (by simp [ht])
theorem rlook_in {m : List Td} (hn : (tkeys m).Nodup) {t : Td} (ht : t ∈ m) (s : Int) : rlook m t.c s = ans t s := by
  unfold rlook ans
  split
  · rfl
  · induction m with
    | nil => cases ht
    | cons u m ih =>
      have hn' : u.c ∉ tkeys m ∧ (tkeys m).Nodup := List.nodup_cons.1 hn
      unfold rlook0
      rcases List.mem_cons.1 ht with rfl | ht
      · rw [if_pos rfl]
        have hout : rlook0 m t.c s = ([], 1) := by
          have h1 : ∀ v ∈ m, v.c ≠ t.c := fun v hv e => hn'.1 (List.mem_map.2 ⟨v, hv, e⟩)
          have := rlook_out h1 s
          unfold rlook ans0 at this
          rename_i hs
          rwa [if_neg hs, if_neg hs] at this
        rw [hout]
        by_cases e1 : t.s = s
        · rw [if_pos e1, if_neg (by omega), if_pos e1.symm]
        · rw [if_neg e1]
          by_cases e2 : t.s > s
          · rw [if_pos e2, if_pos e2]
          · rw [if_neg e2, if_neg e2, if_neg (by omega)]
      · rw [if_neg fun e => hn'.1 (List.mem_map.2 ⟨t, ht, e.symm⟩)]
        exact ih hn'.2 ht
theorem Lst.nodup {l m : List Td} (h : Lst l) (hp : l.Perm m) : (tkeys m).Nodup := by
  have h1 : (tkeys l).Nodup := h.sorted.imp fun h e => by omega
  exact (hp.map _).nodup_iff.1 h1
theorem look_eq {l m : List Td} (h : Lst l) (hp : l.Perm m) (c s : Int) : look l c s = rlook m c s := by
  by_cases hc : ∃ t ∈ l, t.c = c
  · obtain ⟨t, ht, rfl⟩ := hc
    rw [look_in h.sorted ht, rlook_in (h.nodup hp) (hp.mem_iff.1 ht)]
  · have h1 : ∀ t ∈ l, t.c ≠ c := fun t ht e => hc ⟨t, ht, e⟩
    rw [look_out h1, rlook_out fun t ht => h1 t (hp.mem_iff.2 ht)]
theorem keeps_eq {l m : List Td} (h : Lst l) (hp : l.Perm m) (c s : Int) (b : List UInt8) : keeps l c s b = rkeeps m c s b := by
  unfold keeps rkeeps
  rw [look_eq h hp, ← Bool.decide_and]
  refine decide_eq_decide.2 ⟨fun ⟨h1, h2, h3, h4, h5, h6⟩ => ⟨h2, h3, h5, h6, h1⟩, fun ⟨h2, h3, h5, h6, h1⟩ => ⟨h1, h2, h3, ?_, h5, h6⟩⟩
  rcases Int.lt_or_le s 1 with hs | hs
  · unfold rlook at h1; rw [if_pos hs] at h1; cases h1
  · exact hs
theorem keep_perm {l : List Td} (h : Lst l) (c s : Int) (b : List UInt8) (hk : keeps l c s b = true) : (keep l c s b).Perm (⟨c, s, b⟩ :: l.filter (fun t => t.c ≠ c)) := by
  unfold keep
  rw [if_pos hk]
  have hle := kpos_le (tkeys l) c
  have hln : (tkeys l).length = l.length := List.length_map ..
  split
  · rename_i hc
    obtain ⟨t, ht, hct⟩ : ∃ t, l[kpos (tkeys l) c]? = some t ∧ t.c = c := by
      unfold tkeys at hc ⊢
      rw [List.getElem?_map] at hc
      cases hq : l[kpos (l.map (·.c)) c]? with
      | none => rw [hq] at hc; cases hc
      | some t => rw [hq] at hc; exact ⟨t, rfl, Option.some.inj hc⟩
    generalize kpos (tkeys l) c = p at *
    obtain ⟨hlt, hget⟩ := List.getElem?_eq_some_iff.1 ht
    have hsplit : l = l.take p ++ t :: l.drop (p + 1) := by rw [← hget, List.getElem_cons_drop, List.take_append_drop]
    have hset : l.set p ⟨c, s, b⟩ = l.take p ++ ⟨c, s, b⟩ :: l.drop (p + 1) := by
      rw [List.set_eq_take_append_cons_drop, if_pos hlt]
    have hs := h.sorted
    have hrest : ∀ u ∈ l.take p ++ l.drop (p + 1), u.c ≠ c := by
      rw [hsplit] at hs
      unfold tkeys at hs
      rw [List.map_append, List.map_cons, List.pairwise_append, List.pairwise_cons] at hs
      intro u hu e
      rcases List.mem_append.1 hu with hu | hu
      · have := hs.2.2 u.c (List.mem_map.2 ⟨u, hu, rfl⟩) t.c (by simp)
        omega
      · have := hs.2.1.1 u.c (List.mem_map.2 ⟨u, hu, rfl⟩)
        omega
    have hfil : l.filter (fun t => t.c ≠ c) = l.take p ++ l.drop (p + 1) := by
      conv => lhs; rw [hsplit]
      rw [List.filter_append, List.filter_cons_of_neg (by simp [hct]), ← List.filter_append, List.filter_eq_self]
      intro u hu
      simpa using hrest u hu
    rw [hset, hfil]
    exact List.perm_middle
  · rename_i hc
    have hno : ∀ t ∈ l, t.c ≠ c := fun t ht e => by
      subst e
      refine hc ?_
      have := key_at h.sorted ht
      unfold tkeys at this ⊢
      rw [List.getElem?_map, this]; rfl
    rw [List.filter_eq_self.2 (fun t ht => by simpa using hno t ht)]
    unfold insAt
    refine List.perm_middle.trans ?_
    rw [List.take_append_drop]
theorem keep_lst {l : List Td} (h : Lst l) (c s : Int) (b : List UInt8) : Lst (keep l c s b) := by
  by_cases hk : keeps l c s b = true
  · have hp := keep_perm h c s b hk
    have hB : tdB ⟨c, s, b⟩ := by
      unfold keeps at hk
      rw [Bool.and_eq_true, decide_eq_true_eq, decide_eq_true_eq] at hk
      exact ⟨hk.2.1, hk.2.2.1, hk.2.2.2.1, hk.2.2.2.2.1, hk.2.2.2.2.2⟩
    refine ⟨?_, fun t ht => ?_⟩
    · unfold keep
      rw [if_pos hk]
      have hle := kpos_le (tkeys l) c
      have hln : (tkeys l).length = l.length := List.length_map ..
      split
      · rename_i hc
        have : tkeys (l.set (kpos (tkeys l) c) ⟨c, s, b⟩) = tkeys l := by
          unfold tkeys at *
          rw [List.map_set]
          obtain ⟨hlt, hget⟩ := List.getElem?_eq_some_iff.1 hc
          conv => rhs; rw [← List.set_getElem_self hlt]
          rw [hget]
        rw [this]; exact h.sorted
      · rename_i hc
        have hlow : ∀ i x, (tkeys l)[i]? = some x → (i < kpos (tkeys l) c ↔ x < c) := fun i x hi => kpos_lt h.sorted hi
        have hne : ∀ x ∈ tkeys l, x ≠ c := fun x hx e => by
          obtain ⟨t, ht, rfl⟩ := List.mem_map.1 hx
          subst e
          refine hc ?_
          have := key_at h.sorted ht
          unfold tkeys at this ⊢
          rw [List.getElem?_map, this]; rfl
        have hmap : tkeys (insAt l (kpos (tkeys l) c) ⟨c, s, b⟩) = insAt (tkeys l) (kpos (tkeys l) c) c := (insAt_map (fun t : Td => t.c) l _ ⟨c, s, b⟩).symm
        rw [hmap]
        have hs := h.sorted
        generalize tkeys l = ks at *
        generalize kpos ks c = p at *
        unfold insAt
        rw [← List.take_append_drop p ks, List.pairwise_append] at hs
        rw [List.pairwise_append, List.pairwise_cons]
        have hd : ∀ x ∈ ks.drop p, c < x := fun x hx => by
          obtain ⟨i, hi⟩ := List.getElem?_of_mem hx
          rw [List.getElem?_drop] at hi
          have h1 := hlow _ _ hi
          have h2 := hne x (List.mem_of_mem_drop hx)
          have : ¬ x < c := fun h => by have := h1.2 h; omega
          omega
        have hu : ∀ x ∈ ks.take p, x < c := fun x hx => by
          obtain ⟨i, hi⟩ := List.getElem?_of_mem hx
          rw [List.getElem?_take] at hi
          split at hi
          · rename_i hlt
            exact (hlow _ _ hi).1 hlt
          · cases hi
        refine ⟨hs.1, ⟨hd, hs.2.1⟩, fun a ha b hb => ?_⟩
        rcases List.mem_cons.1 hb with rfl | hb
        · exact hu a ha
        · exact hs.2.2 a ha b hb
    · rcases List.mem_cons.1 (hp.mem_iff.1 ht) with rfl | ht
      · exact hB
      · exact h.ok t ((List.mem_filter.1 ht).1)
  · unfold keep
    rw [if_neg hk]; exact h
theorem keep_eq {l m : List Td} (h : Lst l) (hp : l.Perm m) (c s : Int) (b : List UInt8) : (keep l c s b).Perm (rkeep m c s b) := by
  have he := keeps_eq h hp c s b
  unfold rkeep
  rw [← he]
  by_cases hk : keeps l c s b = true
  · rw [if_pos hk]
    refine (keep_perm h c s b hk).trans ?_
    refine ((hp.filter _).cons _).trans ?_
    exact (List.perm_append_comm (l₁ := [_]))
  · rw [if_neg hk]
    unfold keep
    rw [if_neg hk]; exact hp
end Go.Proofs.Ytdahnjdkghbieaa
