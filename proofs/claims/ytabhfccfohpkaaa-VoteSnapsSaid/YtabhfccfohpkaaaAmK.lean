/- An operation that only computes answers as its formula says. -/
import Derived.Test.YtabhfccfohpkaaaAmJ
namespace Go.Am
open Go.RowKit
set_option linter.unusedSimpArgs false
set_option linter.unusedVariables false

section
variable {P : Program} {TT : Types} {L : Heap} {ev raw : Operand → AV} {o : Oper} {K : AV → Prop}

theorem isNone_true {α : Type} {x : Option α} (h : isNone x = true) : x = none := by cases x <;> simp_all [isNone]
theorem isNone_false {α : Type} {x : Option α} (h : ¬ isNone x = true) : x ≠ none := by cases x <;> simp_all [isNone]
theorem isFull_true {x : Own} (h : isFull x = true) : x = .full := by cases x <;> simp_all [isFull]
theorem orFull_or (b : Bool) : orFull b = .free ∨ orFull b = .full := by cases b <;> simp [orFull]
theorem orFull_full {b : Bool} (h : orFull b = .full) : b = true := by cases b <;> simp_all [orFull]

theorem aq_ok (hT : TOk P TT) (h : aq P TT L ev raw o K) : ∃ av, K av ∧ QOk P L ev raw o av := by
  unfold aq at h
  split at h
  · rename_i x ho
    exact ⟨_, h, q_move (.inl ho)⟩
  · rename_i x ho
    exact ⟨_, h, q_move (.inr ho)⟩
  · rename_i c x y ho
    split at h
    · rename_i g hc
      refine ⟨_, ?_, q_pick ho hc⟩
      cases g <;> exact h
    · exact h.elim
  · rename_i x ho
    split at h
    · rename_i i j hx; exact ⟨_, h, by rw [← hx]; exact q_nilCheck ho (.inl ⟨i, j, hx⟩)⟩
    · rename_i l hx; exact ⟨_, h, by rw [← hx]; exact q_nilCheck ho (.inr (.inl ⟨l, hx⟩))⟩
    · rename_i f l hx; exact ⟨_, h, by rw [← hx]; exact q_nilCheck ho (.inr (.inr ⟨f, l, hx⟩))⟩
    · exact h.elim
  · rename_i op t x y t' ho
    exact abin_ok hT ho h
  · rename_i op t x ho
    split at h
    · rename_i b hx; exact ⟨_, h, q_not ho hx⟩
    · rename_i k n hx; exact ⟨_, h, q_neg ho hx⟩
    · rename_i k n hx; exact ⟨_, h, q_inv ho hx⟩
    · exact h.elim
  · rename_i s t x ho
    replace h := opt2_some h
    obtain ⟨si, ti, hs, ht, h⟩ := h
    obtain ⟨hsi⟩ := hT.get hs
    obtain ⟨hti⟩ := hT.get ht
    have hsome : (P.underlying s).isSome = true := by rw [hsi.und]; rfl
    split at h
    · rename_i k' k n hk hx
      exact ⟨_, h, q_convert_int ho hsome hti hk hx⟩
    · rename_i k' k n hk hx
      exact ⟨_, h, q_convert_float ho hsome hti hk hx⟩
    · rename_i b hk hx
      exact ⟨_, h, q_convert_str ho hsome hti hk hx⟩
    · rename_i rows own hk hx
      split at h
      · rename_i e hks
        replace h := opt1_some h
        obtain ⟨te, he, h⟩ := h
        obtain ⟨hte⟩ := hT.get he
        split at h
        · rename_i hke
          obtain ⟨l, rfl, h⟩ := h
          exact ⟨_, h, q_convert_bytes ho hsi hks hte hke hti hk hx⟩
        · exact h.elim
      · exact h.elim
    · rename_i e b hk hx
      replace h := opt1_some h
      obtain ⟨te, he, h⟩ := h
      obtain ⟨hte⟩ := hT.get he
      split at h
      · rename_i hks hke
        exact ⟨_, h.2, q_convert_toBytes ho hsi hks hte hke hti hk hx h.1⟩
      · exact h.elim
    · rename_i e _ rows hk hx _
      replace h := opt1_some h
      obtain ⟨te, he, h⟩ := h
      obtain ⟨hte⟩ := hT.get he
      split at h
      · rename_i hke
        split at h
        · rename_i hst
          subst hst
          exact ⟨_, h, q_convert_lit ho hti hk hte hke hx⟩
        · exact h.elim
      · exact h.elim
    · exact h.elim
  · rename_i fn first cap ho
    split at h
    · split at h
      · rename_i f hz
        have : first = #[] := Array.eq_empty_of_size_eq_zero hz
        subst this
        exact ⟨_, h, q_makeFunc ho⟩
      · split at h
        · rename_i hz
          have : cap = #[] := Array.eq_empty_of_size_eq_zero hz
          subst this
          exact ⟨_, h, q_makeBnd ho⟩
        · exact h.elim
    · exact h.elim
  · rename_i x i ho
    split at h
    · rename_i l hx
      replace h := opt1_some h
      obtain ⟨c, hc, h⟩ := h
      exact ⟨_, h, q_extract ho hx hc⟩
    · exact h.elim
  · rename_i t x ho
    replace h := opt1_some h
    obtain ⟨ti, ht, h⟩ := h
    obtain ⟨hti⟩ := hT.get ht
    split at h
    · exact h.elim
    · rename_i hk
      exact ⟨_, h, q_iface ho hti hk⟩
  · rename_i s x f ho
    split at h
    · rename_i fs hk
      obtain ⟨ti, ht, hk⟩ := kindT_some hk (by simp)
      obtain ⟨hti⟩ := hT.get ht
      replace h := opt1_some h
      obtain ⟨p, hp, h⟩ := h
      obtain ⟨off, sz⟩ := p
      split at h
      · exact h.elim
      · rename_i hsz
        simp only at hsz
        replace h := opt1_some h
        obtain ⟨c, hc, h⟩ := h
        exact ⟨_, h, q_fieldAddr ho hti hk hp (by omega) hc⟩
    · exact h.elim
  · rename_i t x ho
    replace h := opt1_some h
    obtain ⟨ti, ht, h⟩ := h
    obtain ⟨hti⟩ := hT.get ht
    replace h := opt1_some h
    obtain ⟨c, hc, h⟩ := h
    exact ⟨_, h, q_load ho hti hc⟩
  · rename_i t x ix ho
    split at h
    · rename_i e hk
      obtain ⟨ti, ht, hk⟩ := kindT_some hk (by simp)
      obtain ⟨hti⟩ := hT.get ht
      replace h := opt1_some h
      obtain ⟨te, he, h⟩ := h
      obtain ⟨hte⟩ := hT.get he
      split at h
      · rename_i rows own k n hx hi
        obtain ⟨h0, row, hr, hs, h⟩ := h
        exact ⟨_, h, q_indexAddr_list ho hti hk hte hx hi h0 hr hs⟩
      · rename_i id m k n hx hi
        obtain ⟨h0, h1, h⟩ := h
        exact ⟨_, h, q_indexAddr_arr ho hti hk hte hx hi h0 h1⟩
      · exact h.elim
    · rename_i len e hk
      obtain ⟨ti, ht, hk⟩ := kindT_some hk (by simp)
      obtain ⟨hti⟩ := hT.get ht
      replace h := opt1_some h
      obtain ⟨te, he, h⟩ := h
      obtain ⟨hte⟩ := hT.get he
      split at h
      · rename_i k n hi
        obtain ⟨h0, h1, h⟩ := h
        replace h := opt1_some h
        obtain ⟨c, hc, h⟩ := h
        exact ⟨_, h, q_indexAddr_array ho hti hk hte hi h0 h1 hc⟩
      · exact h.elim
    · exact h.elim
  · rename_i t x lo hi mx ho
    split at h
    · rename_i s hk hx
      obtain ⟨ti, ht, hk⟩ := kindT_some hk (by simp)
      obtain ⟨hti⟩ := hT.get ht
      split at h
      · rename_i hmx
        have := isNone_true hmx
        subst this
        replace h := opt2_some h
        obtain ⟨l, hh, h1, h2, h3, h4, h5, h6, h⟩ := h
        exact ⟨_, h, q_slice_str ho hti hk hx h1 h3 h2 h4 h5 h6⟩
      · exact h.elim
    · rename_i e rows own hk hx
      obtain ⟨ti, ht, hk⟩ := kindT_some hk (by simp)
      obtain ⟨hti⟩ := hT.get ht
      replace h := opt1_some h
      obtain ⟨te, he, h⟩ := h
      obtain ⟨hte⟩ := hT.get he
      replace h := opt2_some h
      obtain ⟨l, hh, h1, h2, h⟩ := h
      split at h
      · rename_i hmx
        have := isNone_true hmx
        subst this
        obtain ⟨h3, h4, h5, h6, h7, h⟩ := h
        refine ⟨_, h, q_slice ho hti hk hte hx h1 h3 h2 h4 trivial h5 h6 (.inl ⟨rfl, fun hf => ?_⟩) h7 (orFull_or _)⟩
        have := orFull_full hf
        rw [Bool.and_eq_true] at this
        have hn := isNone_true this.1
        subst hn
        refine ⟨isFull_true this.2, ?_⟩
        simp [optNat] at h2; exact h2.symm
      · rename_i hmx
        split at h
        · exact h.elim
        · rename_i hhi
          replace h := opt1_some h
          obtain ⟨m, hm, h3, h4, h5, h6, h7, h8, h9, h⟩ := h
          refine ⟨_, h, q_slice ho hti hk hte hx h1 h3 h2 h4 h5 h6 (by omega) (.inr ⟨isNone_false hhi, m, hm, isNone_false hmx, h7, h8, fun hf => ?_⟩) h9 (orFull_or _)⟩
          have := orFull_full hf
          exact (Nat.eq_of_beq_eq_true this).symm
    · rename_i e id off n c hk hx
      obtain ⟨ti, ht, hk⟩ := kindT_some hk (by simp)
      obtain ⟨hti⟩ := hT.get ht
      replace h := opt1_some h
      obtain ⟨te, he, h⟩ := h
      obtain ⟨hte⟩ := hT.get he
      replace h := opt2_some h
      obtain ⟨l, hh, h1, h2, h⟩ := h
      split at h
      · rename_i hmx
        have := isNone_true hmx
        subst this
        obtain ⟨h3, h4, h5, h6, h⟩ := h
        exact ⟨_, h, q_slice_arr ho hti hk hte hx h1 h3 h2 h4 trivial h5 h6 (Nat.le_refl _) (.inl ⟨rfl, rfl⟩)⟩
      · rename_i hmx
        split at h
        · exact h.elim
        · rename_i hhi
          replace h := opt1_some h
          obtain ⟨m, hm, h3, h4, h5, h6, h7, h8, h⟩ := h
          exact ⟨_, h, q_slice_arr ho hti hk hte hx h1 h3 h2 h4 h5 h6 h7 h8 (.inr ⟨isNone_false hhi, isNone_false hmx, hm⟩)⟩
    · exact h.elim
  · rename_i t parts ho
    replace h := opt1_some h
    obtain ⟨ti, ht, h⟩ := h
    obtain ⟨hti⟩ := hT.get ht
    split at h
    · rename_i fs hk
      replace h := opt2_some h
      obtain ⟨z, p, hz, hp, h⟩ := h
      split at h
      · rename_i hfs
        replace h := opt1_some h
        obtain ⟨cells, hc, h⟩ := h
        refine ⟨_, h, q_build_struct ho hti hk hz (fun f hf => ?_) hp hc⟩
        have := List.all_eq_true.1 hfs f hf
        intro h0; rw [h0] at this; simp at this
      · exact h.elim
    · exact h.elim
  · rename_i t len parts ho
    split at h
    · rename_i e hk
      obtain ⟨ti, ht, hk⟩ := kindT_some hk (by simp)
      obtain ⟨hti⟩ := hT.get ht
      replace h := opt1_some h
      obtain ⟨te, he, h⟩ := h
      obtain ⟨hte⟩ := hT.get he
      replace h := opt2_some h
      obtain ⟨z, p, hz, hp, h⟩ := h
      split at h
      · rename_i hc
        rw [Bool.and_eq_true, decide_eq_true_eq] at hc
        obtain ⟨z1, z2, z3⟩ := zok_spec hc.1
        replace h := opt1_some h
        obtain ⟨rows, hr, h⟩ := h
        exact ⟨_, h, q_buildSlice ho hti hk hte hz z1 z2 z3 hc.2 hp hr⟩
      · exact h.elim
    · exact h.elim
  · rename_i t x y ho
    split at h
    · rename_i e n m hk hx hy
      obtain ⟨ti, ht, hk⟩ := kindT_some hk (by simp)
      obtain ⟨hti⟩ := hT.get ht
      replace h := opt1_some h
      obtain ⟨te, he, h⟩ := h
      obtain ⟨hte⟩ := hT.get he
      replace h := opt1_some h
      obtain ⟨z, hz, h⟩ := h
      split at h
      · rename_i hc
        obtain ⟨z1, z2, z3⟩ := zok_spec hc
        obtain ⟨rfl, h0, h1, h2, h⟩ := h
        exact ⟨_, h, q_makeSlice ho hti hk hte hz z1 z2 z3 hx hy h0 h1 h2⟩
      · exact h.elim
    · exact h.elim
  · rename_i c ho
    split at h
    · rename_i x hc ha
      have ha := args1 ha
      split at h
      · rename_i t hty
        have hty := tys1 hty
        split at h
        · rename_i e rows own hk hx
          obtain ⟨ti, ht, hk⟩ := kindT_some hk (by simp)
          obtain ⟨hti⟩ := hT.get ht
          exact ⟨_, h, q_len ho hc ha hty hti (.inl ⟨e, rows, own, hk, hx, rfl⟩)⟩
        · rename_i e id off m cp hk hx
          obtain ⟨ti, ht, hk⟩ := kindT_some hk (by simp)
          obtain ⟨hti⟩ := hT.get ht
          exact ⟨_, h, q_len_arr ho hc ha hty hti hk hx⟩
        · rename_i s hk hx
          obtain ⟨ti, ht, hk⟩ := kindT_some hk (by simp)
          obtain ⟨hti⟩ := hT.get ht
          exact ⟨_, h, q_len ho hc ha hty hti (.inr (.inl ⟨s, hk, hx, rfl⟩))⟩
        · rename_i n e hk
          obtain ⟨ti, ht, hk⟩ := kindT_some hk (by simp)
          obtain ⟨hti⟩ := hT.get ht
          exact ⟨_, h, q_len ho hc ha hty hti (.inr (.inr ⟨e, hk⟩))⟩
        · exact h.elim
      · exact h.elim
    · rename_i x hc ha
      have ha := args1 ha
      split at h
      · rename_i t hty
        have hty := tys1 hty
        split at h
        · rename_i e id off m cp hk hx
          obtain ⟨ti, ht, hk⟩ := kindT_some hk (by simp)
          obtain ⟨hti⟩ := hT.get ht
          exact ⟨_, h, q_cap_arr ho hc ha hty hti hk hx⟩
        · exact h.elim
      · exact h.elim
    · rename_i x y hc ha
      have ha := args2 ha
      split at h
      · rename_i k a k' b hx hy
        split at h
        · rename_i hkk
          subst hkk
          exact ⟨_, h, q_minmax ho ha hx hy (.inl ⟨hc, rfl⟩)⟩
        · exact h.elim
      · exact h.elim
    · rename_i x y hc ha
      have ha := args2 ha
      split at h
      · rename_i k a k' b hx hy
        split at h
        · rename_i hkk
          subst hkk
          exact ⟨_, h, q_minmax ho ha hx hy (.inr ⟨hc, rfl⟩)⟩
        · exact h.elim
      · rename_i a b hx hy
        exact ⟨_, h, q_max_str ho ha hx hy hc⟩
      · exact h.elim
    · exact h.elim
  · exact h.elim
end
end Go.Am
