/- once: chapter 9's runs; caches are what the document says. -/
import Derived.Test.YtdahnjdkghbieaaOnF
namespace Go.Proofs.Ytdahnjdkghbieaa
open Go.Am
set_option linter.unusedSimpArgs false
set_option linter.unusedVariables false
set_option maxRecDepth 100000
theorem kn_keep : keep [] 1 5 [120] = [⟨1, 5, [120]⟩] := rfl
theorem kn_keeps : keeps [] 1 5 [120] = true := rfl
theorem kn_keeps2 : keeps [⟨1, 5, [120]⟩] 1 4 [] = false := rfl
theorem kn_keep2 : keep [⟨1, 5, [120]⟩] 1 4 [] = [⟨1, 5, [120]⟩] := rfl
theorem kn_lst : Lst [⟨1, 5, [120]⟩] := ⟨by unfold tkeys; simp, fun t h => by simp at h; subst h; unfold tdB; simp⟩
theorem kn_l5 : look [⟨1, 5, [120]⟩] 1 5 = ([120], 2) := rfl
theorem kn_l4 : look [⟨1, 5, [120]⟩] 1 4 = ([], 3) := rfl
theorem kn_l6 : look [⟨1, 5, [120]⟩] 1 6 = ([], 1) := rfl
theorem known_cc : ACalls Try.prog 13 0 300 [] [] (fun out H' => out = .ret (.v (.bool true)) ∧ H' = []) := by
  have hk1 := keep_c [] 1 5 [120] 0 (by simp) (by simp) (by decide) (by simp) (by simp) (by simp [tkeys])
  rw [kn_keep, kn_keeps] at hk1
  refine acalls_of tok dok (f := 13) ⟨Try.func13, rfl, by kernel_rfl⟩ ?_; refine c_start (fun _ h => h) ?_
  repeat' (first | (refine awd1 ?_) | (((with_reducible refine is_aops ?_); refine o_split rfl rfl rfl (fun hc => ?_) (fun hc => ?_) <;> first | (exfalso; (simp only [decide_eq_true_eq, decide_eq_false_iff_not, beq_iff_eq, beq_eq_false_iff_ne, bne_iff_ne, bne_eq_false_iff_eq, List.length_map, Int.not_lt, Int.not_le] at hc); omega) | rw [hc])) | (((with_reducible refine is_cond ?_); refine c_cond rfl (fun hc => ?_) (fun hc => ?_) <;> first | (exfalso; (simp only [decide_eq_true_eq, decide_eq_false_iff_not, beq_iff_eq, beq_eq_false_iff_ne, bne_iff_ne, bne_eq_false_iff_eq, List.length_map, Int.not_lt, Int.not_le] at hc); omega) | skip)) | (((with_reducible refine is_aop ?_); refine a_pick rfl rfl (fun hc => ?_) (fun hc => ?_) <;> first | (exfalso; (simp only [decide_eq_true_eq, decide_eq_false_iff_not, beq_iff_eq, beq_eq_false_iff_ne, bne_iff_ne, bne_eq_false_iff_eq, List.length_map, Int.not_lt, Int.not_le] at hc); omega) | rw [hc])) | ((with_reducible refine ret1 ?_); first | (refine akc ?_) | (refine aec ?_)) | (with_reducible exact retN) | (with_reducible exact retP) | (refine cal [] (new_cc) ?_ ?_) | fail)
  (refine calw [0, 1] (hk1) ?_ ?_)
  · intro xx H' hh
    obtain ⟨cp1, c1, c2, h', rfl⟩ := hh
    cases h'
    first | (refine akc ?_) | (refine aec ?_)
    repeat' (first | (refine awd1 ?_) | (((with_reducible refine is_aops ?_); refine o_split rfl rfl rfl (fun hc => ?_) (fun hc => ?_) <;> first | (exfalso; (simp only [decide_eq_true_eq, decide_eq_false_iff_not, beq_iff_eq, beq_eq_false_iff_ne, bne_iff_ne, bne_eq_false_iff_eq, List.length_map, Int.not_lt, Int.not_le] at hc); omega) | rw [hc])) | (((with_reducible refine is_cond ?_); refine c_cond rfl (fun hc => ?_) (fun hc => ?_) <;> first | (exfalso; (simp only [decide_eq_true_eq, decide_eq_false_iff_not, beq_iff_eq, beq_eq_false_iff_ne, bne_iff_ne, bne_eq_false_iff_eq, List.length_map, Int.not_lt, Int.not_le] at hc); omega) | skip)) | (((with_reducible refine is_aop ?_); refine a_pick rfl rfl (fun hc => ?_) (fun hc => ?_) <;> first | (exfalso; (simp only [decide_eq_true_eq, decide_eq_false_iff_not, beq_iff_eq, beq_eq_false_iff_ne, bne_iff_ne, bne_eq_false_iff_eq, List.length_map, Int.not_lt, Int.not_le] at hc); omega) | rw [hc])) | ((with_reducible refine ret1 ?_); first | (refine akc ?_) | (refine aec ?_)) | (with_reducible exact retN) | (with_reducible exact retP) | fail | fail)
    have hk2 := keep_c [⟨1, 5, [120]⟩] 1 4 [] cp1 (by simp) (by simpa using c1) c2 (by simp) (by simp) (by simp [tkeys])
    rw [kn_keep2, kn_keeps2] at hk2
    (refine calw [0, 2] (hk2) ?_ ?_)
    · intro xx H' hh
      obtain ⟨cp2, d1, d2, h', rfl⟩ := hh
      cases h'
      first | (refine akc ?_) | (refine aec ?_)
      have hlk := fun s => look_c [⟨1, 5, [120]⟩] 1 s cp2 (by simp) (by simp) (by simp [tkeys])
      have hll := len_cc [⟨1, 5, [120]⟩] cp2
      have hl5 := hlk 5
      have hl4 := hlk 4
      have hl6 := hlk 6
      rw [kn_l5] at hl5
      rw [kn_l4] at hl4
      rw [kn_l6] at hl6
      repeat' (first | (refine awd1 ?_) | (((with_reducible refine is_aops ?_); refine o_split rfl rfl rfl (fun hc => ?_) (fun hc => ?_) <;> first | (exfalso; (simp only [decide_eq_true_eq, decide_eq_false_iff_not, beq_iff_eq, beq_eq_false_iff_ne, bne_iff_ne, bne_eq_false_iff_eq, List.length_map, Int.not_lt, Int.not_le] at hc); omega) | rw [hc])) | (((with_reducible refine is_cond ?_); refine c_cond rfl (fun hc => ?_) (fun hc => ?_) <;> first | (exfalso; (simp only [decide_eq_true_eq, decide_eq_false_iff_not, beq_iff_eq, beq_eq_false_iff_ne, bne_iff_ne, bne_eq_false_iff_eq, List.length_map, Int.not_lt, Int.not_le] at hc); omega) | skip)) | (((with_reducible refine is_aop ?_); refine a_pick rfl rfl (fun hc => ?_) (fun hc => ?_) <;> first | (exfalso; (simp only [decide_eq_true_eq, decide_eq_false_iff_not, beq_iff_eq, beq_eq_false_iff_ne, bne_iff_ne, bne_eq_false_iff_eq, List.length_map, Int.not_lt, Int.not_le] at hc); omega) | rw [hc])) | ((with_reducible refine ret1 ?_); first | (refine akc ?_) | (refine aec ?_)) | (with_reducible exact retN) | (with_reducible exact retP) | (refine cal [0, 3] (hl5) ?_ ?_) | (refine cal [0, 3] (hl4) ?_ ?_) | (refine cal [0, 3] (hl6) ?_ ?_) | (refine cal [0, 3] (hll) ?_ ?_) | fail)
      all_goals (refine e_ret (H' := []) (rest := _) rfl ⟨congrArg (fun z => AOut.ret (.v (.bool z))) ?_, rfl⟩ (.refl _) (Nat.le_of_ble_eq_true rfl); first | rfl | (simp_all; done) | (exfalso; revert hc; decide))
    · intro xx H' hh
      obtain ⟨_, _, _, h', _⟩ := hh
      cases h'
  · intro xx H' hh
    obtain ⟨_, _, _, h', _⟩ := hh
    cases h'
theorem plays_c (L : List Ck) (hL : L.length ≤ 9223372036854775807) : ACalls Try.prog 3 0 900 [.list (L.map krow) .free] [] (fun out H' => out = .ret (.v (.bool true)) ∧ H' = []) := by
  have hp := play_c L hL
  refine acalls_of tok dok (f := 3) ⟨Try.func3, rfl, by kernel_rfl⟩ ?_; refine c_start (fun _ h => h) ?_
  refine awd ?_
  (refine cal [] (hp) ?_ ?_)
  · intro xx H' hh
    obtain ⟨l, m, cp, hB, h', rfl⟩ := hh
    cases h'
    first | (refine akc ?_) | (refine aec ?_)
    repeat' (first | (refine awd1 ?_) | (((with_reducible refine is_aops ?_); refine o_split rfl rfl rfl (fun hc => ?_) (fun hc => ?_) <;> first | (exfalso; (simp only [decide_eq_true_eq, decide_eq_false_iff_not, beq_iff_eq, beq_eq_false_iff_ne, bne_iff_ne, bne_eq_false_iff_eq, List.length_map, Int.not_lt, Int.not_le] at hc); omega) | rw [hc])) | (((with_reducible refine is_cond ?_); refine c_cond rfl (fun hc => ?_) (fun hc => ?_) <;> first | (exfalso; (simp only [decide_eq_true_eq, decide_eq_false_iff_not, beq_iff_eq, beq_eq_false_iff_ne, bne_iff_ne, bne_eq_false_iff_eq, List.length_map, Int.not_lt, Int.not_le] at hc); omega) | skip)) | (((with_reducible refine is_aop ?_); refine a_pick rfl rfl (fun hc => ?_) (fun hc => ?_) <;> first | (exfalso; (simp only [decide_eq_true_eq, decide_eq_false_iff_not, beq_iff_eq, beq_eq_false_iff_ne, bne_iff_ne, bne_eq_false_iff_eq, List.length_map, Int.not_lt, Int.not_le] at hc); omega) | rw [hc])) | ((with_reducible refine ret1 ?_); first | (refine akc ?_) | (refine aec ?_)) | (with_reducible exact retN) | (with_reducible exact retP) | (refine cal [] (known_cc) ?_ ?_) | fail)
    refine e_ret (H' := []) (rest := _) rfl ⟨congrArg (fun z => AOut.ret (.v (.bool z))) ?_, rfl⟩ (.refl _) (Nat.le_of_ble_eq_true rfl)
    rfl
  · intro xx H' hh
    obtain ⟨_, _, _, _, h', _⟩ := hh
    cases h'
end Go.Proofs.Ytdahnjdkghbieaa
