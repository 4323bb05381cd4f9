/- once: what is joined, in plain lists. -/
import Derived.Test.YtdahnjdkghbieaaOnJ
namespace Go.Proofs.Ytdahnjdkghbieaa
open Go.Am
set_option linter.unusedSimpArgs false
set_option linter.unusedVariables false
theorem key_eq {l : List Td} (h : Lst l) {t u : Td} (ht : t ∈ l) (hu : u ∈ l) (e : t.c = u.c) : t = u := by
  have h1 := key_at h.sorted ht
  have h2 := key_at h.sorted hu
  rw [e, h2] at h1
  exact (Option.some.inj h1).symm
theorem keeps_iff {l : List Td} (h : Lst l) {v : Td} (hv : tdB v) : keeps l v.c v.s v.b = true ↔ ∀ u ∈ l, u.c = v.c → u.s < v.s := by
  have h0 : (0 ≤ v.c ∧ v.c ≤ 255 ∧ 1 ≤ v.s ∧ v.s ≤ 1073741824 ∧ v.b.length ≤ 1048576) := hv
  unfold keeps
  rw [decide_eq_true h0, Bool.and_true, decide_eq_true_eq]
  by_cases hc : ∃ u ∈ l, u.c = v.c
  · obtain ⟨u, hu, e⟩ := hc
    rw [← e, look_in h.sorted hu]
    have h1 := h.ok u hu
    constructor
    · intro ha u' hu' e'
      rw [key_eq h hu' hu e']
      unfold ans at ha
      by_cases q1 : v.s < 1
      · rw [if_pos q1] at ha; cases ha
      · rw [if_neg q1] at ha
        by_cases q2 : v.s < u.s
        · rw [if_pos q2] at ha; cases ha
        · rw [if_neg q2] at ha
          by_cases q3 : v.s = u.s
          · rw [if_pos q3] at ha; cases ha
          · omega
    · intro ha
      have := ha u hu rfl
      unfold ans
      rw [if_neg (by have := hv.2.2.1; omega), if_neg (by omega), if_neg (by omega)]
  · have hno : ∀ t ∈ l, t.c ≠ v.c := fun t ht e => hc ⟨t, ht, e⟩
    rw [look_out hno]
    unfold ans0
    rw [if_neg (by have := hv.2.2.1; omega)]
    exact ⟨fun _ u hu e => absurd e (hno u hu), fun _ => rfl⟩
theorem mem_keep {l : List Td} (h : Lst l) {v t : Td} (hk : keeps l v.c v.s v.b = true) : t ∈ keep l v.c v.s v.b ↔ t = v ∨ (t ∈ l ∧ t.c ≠ v.c) := by
  rw [(keep_perm h v.c v.s v.b hk).mem_iff, List.mem_cons, List.mem_filter]
  simp
theorem keep_no {l : List Td} {v : Td} (hk : ¬ keeps l v.c v.s v.b = true) : keep l v.c v.s v.b = l := by unfold keep; rw [if_neg hk]
theorem mem_join : ∀ (y : List Td) {l : List Td} (h : Lst l) (hy : (tkeys y).Nodup) (hB : ∀ v ∈ y, tdB v) (t : Td), t ∈ joinL l y ↔ (t ∈ l ∧ ∀ v ∈ y, v.c = t.c → v.s ≤ t.s) ∨ (t ∈ y ∧ ∀ u ∈ l, u.c = t.c → u.s < t.s)
  | [], l, h, _, _, t => by
    show t ∈ l ↔ _
    simp
  | v :: y, l, h, hy, hB, t => by
    have hy' : v.c ∉ tkeys y ∧ (tkeys y).Nodup := List.nodup_cons.1 hy
    have hv : tdB v := hB v (by simp)
    have hvy : ∀ w ∈ y, w.c ≠ v.c := fun w hw e => hy'.1 (List.mem_map.2 ⟨w, hw, e⟩)
    show t ∈ joinL (keep l v.c v.s v.b) y ↔ _
    rw [mem_join y (keep_lst h ..) hy'.2 (fun w hw => hB w (by simp [hw])) t]
    have hki := keeps_iff h hv
    by_cases hk : keeps l v.c v.s v.b = true
    · have hf := hki.1 hk
      have hm : ∀ t, t ∈ keep l v.c v.s v.b ↔ t = v ∨ (t ∈ l ∧ t.c ≠ v.c) := fun t => mem_keep h hk
      constructor
      · rintro (⟨h1, h2⟩ | ⟨h1, h2⟩)
        · rcases (hm t).1 h1 with rfl | ⟨h3, h4⟩
          · exact .inr ⟨by simp, hf⟩
          · refine .inl ⟨h3, fun w hw e => ?_⟩
            rcases List.mem_cons.1 hw with rfl | hw
            · exact absurd e.symm h4
            · exact h2 w hw e
        · refine .inr ⟨by simp [h1], fun u hu e => h2 u ((hm u).2 (.inr ⟨hu, fun e2 => hvy t h1 (e.symm.trans e2)⟩)) e⟩
      · rintro (⟨h1, h2⟩ | ⟨h1, h2⟩)
        · by_cases e : t.c = v.c
          · have := hf t h1 e
            have := h2 v (by simp) e.symm
            omega
          · exact .inl ⟨(hm t).2 (.inr ⟨h1, e⟩), fun w hw => h2 w (by simp [hw])⟩
        · rcases List.mem_cons.1 h1 with rfl | h5
          · exact .inl ⟨(hm t).2 (.inl rfl), fun w hw e => absurd e (hvy w hw)⟩
          · refine .inr ⟨h5, fun u hu e => ?_⟩
            rcases (hm u).1 hu with rfl | ⟨h3, h4⟩
            · exact absurd e.symm (hvy t h5)
            · exact h2 u h3 e
    · rw [keep_no hk]
      obtain ⟨u, hu, e, hlt⟩ : ∃ u ∈ l, u.c = v.c ∧ ¬ u.s < v.s := by
        refine Classical.byContradiction fun hcon => hk (hki.2 fun u hu e => ?_)
        refine Classical.byContradiction fun hn => hcon ⟨u, hu, e, hn⟩
      constructor
      · rintro (⟨h1, h2⟩ | ⟨h1, h2⟩)
        · refine .inl ⟨h1, fun w hw e2 => ?_⟩
          rcases List.mem_cons.1 hw with rfl | hw
          · rw [key_eq h h1 hu (e2.symm.trans e.symm)]; omega
          · exact h2 w hw e2
        · exact .inr ⟨by simp [h1], h2⟩
      · rintro (⟨h1, h2⟩ | ⟨h1, h2⟩)
        · exact .inl ⟨h1, fun w hw => h2 w (by simp [hw])⟩
        · rcases List.mem_cons.1 h1 with rfl | h1
          · exact absurd (h2 u hu e) hlt
          · exact .inr ⟨h1, h2⟩
theorem Lst.nd {l : List Td} (h : Lst l) : l.Nodup := by
  have h1 : (tkeys l).Nodup := h.nodup (.refl l)
  exact List.Pairwise.of_map (fun t : Td => t.c) (fun a b hab e => hab (by rw [e])) h1
theorem Lst.keysN {l : List Td} (h : Lst l) : (tkeys l).Nodup := h.nodup (.refl l)
theorem joinL_perm2 {l l2 y : List Td} (h : Lst l) (h2 : Lst l2) (hp : l2.Perm y) : (joinL l l2).Perm (joinL l y) := by
  refine (List.perm_ext_iff_of_nodup (joinL_lst h l2).nd (joinL_lst h y).nd).2 fun t => ?_
  rw [mem_join l2 h h2.keysN h2.ok t, mem_join y h (h2.nodup hp) (fun v hv => h2.ok v (hp.mem_iff.2 hv)) t]
  simp only [hp.mem_iff]
theorem joinL_all {l l2 x y : List Td} (h : Lst l) (hp : l.Perm x) (h2 : Lst l2) (hp2 : l2.Perm y) : (joinL l l2).Perm (rjoin x y) := (joinL_perm2 h h2 hp2).trans (joinL_perm y h hp)
/-- the other way round: each number is there, too -/
theorem join_other {l l2 : List Td} (h : Lst l) (h2 : Lst l2) {t : Td} (ht : t ∈ joinL l l2) : ∃ u ∈ joinL l2 l, u.c = t.c ∧ u.s = t.s := by
  rcases (mem_join l2 h h2.keysN h2.ok t).1 ht with ⟨h3, h4⟩ | ⟨h3, h4⟩
  · by_cases hv : ∃ v ∈ l2, v.c = t.c ∧ v.s = t.s
    · obtain ⟨v, hv, e1, e2⟩ := hv
      refine ⟨v, (mem_join l h2 h.keysN h.ok v).2 (.inl ⟨hv, fun u hu e => ?_⟩), e1, e2⟩
      rw [key_eq h hu h3 (e.trans e1)]; omega
    · refine ⟨t, (mem_join l h2 h.keysN h.ok t).2 (.inr ⟨h3, fun u hu e => ?_⟩), rfl, rfl⟩
      have := h4 u hu e
      have : u.s ≠ t.s := fun e2 => hv ⟨u, hu, e, e2⟩
      omega
  · refine ⟨t, (mem_join l h2 h.keysN h.ok t).2 (.inl ⟨h3, fun u hu e => ?_⟩), rfl, rfl⟩
    have := h4 u hu e
    omega
theorem join_len {l l2 : List Td} (h : Lst l) (h2 : Lst l2) : (joinL l2 l).length = (joinL l l2).length := by
  have hj := joinL_lst h l2
  have hr := joinL_lst h2 l
  have key : (tkeys (joinL l2 l)).Perm (tkeys (joinL l l2)) := by
    refine (List.perm_ext_iff_of_nodup hr.keysN hj.keysN).2 fun c => ⟨fun hc => ?_, fun hc => ?_⟩
    · obtain ⟨t, ht, rfl⟩ := List.mem_map.1 hc
      obtain ⟨u, hu, e, _⟩ := join_other h2 h ht
      exact List.mem_map.2 ⟨u, hu, e⟩
    · obtain ⟨t, ht, rfl⟩ := List.mem_map.1 hc
      obtain ⟨u, hu, e, _⟩ := join_other h h2 ht
      exact List.mem_map.2 ⟨u, hu, e⟩
  have := key.length_eq
  unfold tkeys at this
  rwa [List.length_map, List.length_map] at this
theorem look_other {l l2 : List Td} (h : Lst l) (h2 : Lst l2) {t : Td} (ht : t ∈ joinL l l2) : (look (joinL l2 l) t.c t.s).2 = 2 := by
  obtain ⟨u, hu, e1, e2⟩ := join_other h h2 ht
  have h3 := (joinL_lst h2 l).ok u hu
  rw [← e1, look_in (joinL_lst h2 l).sorted hu]
  unfold ans
  rw [if_neg (by have := h3.2.2.1; omega), if_neg (by omega), if_pos e2.symm]
end Go.Proofs.Ytdahnjdkghbieaa
