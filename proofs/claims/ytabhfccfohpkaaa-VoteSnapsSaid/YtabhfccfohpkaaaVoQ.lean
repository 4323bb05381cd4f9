/- vote: chapter 17's runs. -/
import Derived.Test.YtabhfccfohpkaaaVoP
namespace Go.Proofs.Ytabhfccfohpkaaa
open Go.Am
set_option linter.unusedSimpArgs false
set_option linter.unusedVariables false
set_option maxRecDepth 100000
theorem VInv.new : ∀ cp, cp ≤ maxLen → VInv A0 cp [] 0 := fun cp h => ⟨trivial, rfl, Nat.zero_le _, h, Nat.le_refl _⟩
/-- opened anew -/
theorem open_cx (A : Ac) (cp : Nat) (ops : List Ro) (n : Nat) (hI : VInv A cp ops n) (hn : n < 1000000) : ACalls Try.prog 23 2 4 [.ptr 0 0] (dkP 0 1 (ops.map encO)) (fun out H' => ∃ cp', VInv A cp' ops n ∧ out = .ret (.tuple [.ptr 2 0, .v (.int .i64 0)]) ∧ H' = acP 2 3 0 1 A cp' (ops.map encO)) :=
  (open_c ops hI.good (by have := hI.few; omega) (good_len hI.good)).mono fun out H' ⟨cp', h1, h2, h3, h4⟩ => by
    rw [hI.now] at h1 h4
    exact ⟨cp', ⟨hI.good, hI.now, h1, h2, hI.few⟩, h3, h4⟩
theorem open_cn : ACalls Try.prog 23 2 4 [.ptr 0 0] (dkP 0 1 []) (fun out H' => ∃ cp', VInv A0 cp' [] 0 ∧ out = .ret (.tuple [.ptr 2 0, .v (.int .i64 0)]) ∧ H' = acP 2 3 0 1 A0 cp' []) := open_cx A0 0 [] 0 (VInv.new 0 (by decide)) (by decide)
def K1 : Ac := ⟨5, [], 0, []⟩
def K2 : Ac := ⟨5, [⟨7, 5, [120]⟩], 0, []⟩
theorem kn_p : A0.prom 5 = K1 ∧ promB A0 5 = true := ⟨rfl, rfl⟩
theorem kn_v1 : K1.vote ⟨0, 3, [120]⟩ = K1 ∧ voteB K1 ⟨0, 3, [120]⟩ = false := ⟨rfl, rfl⟩
theorem kn_v2 : K1.vote ⟨7, 5, [120]⟩ = K2 ∧ voteB K1 ⟨7, 5, [120]⟩ = true := ⟨rfl, rfl⟩
theorem kn_v3 : K2.vote ⟨8, 5, []⟩ = K2 ∧ voteB K2 ⟨8, 5, []⟩ = false := ⟨rfl, rfl⟩
theorem kn_s : snapB K2 0 [] = false := by decide
set_option maxHeartbeats 3200000 in
theorem known_vc : ACalls Try.prog 32 0 3000 [] [] (fun out H' => out = .ret (.v (.bool true)) ∧ H' = []) := by
  refine no_implicit_lambda% (acalls_of tok dok (f := 32) ⟨Try.func32, rfl, by kernel_rfl⟩ ?_); refine no_implicit_lambda% (c_start (fun _ h => h) ?_)
  repeat' (first | (refine no_implicit_lambda% (awd1 ?_)) | (((with_reducible refine no_implicit_lambda% (is_aops ?_)); refine no_implicit_lambda% (o_split rfl rfl rfl (fun hc => ?_) (fun hc => ?_)) <;> first | (exfalso; (simp only [decide_eq_true_eq, decide_eq_false_iff_not, beq_iff_eq, beq_eq_false_iff_ne, bne_iff_ne, bne_eq_false_iff_eq, List.length_map, Int.not_lt, Int.not_le] at hc); omega) | rw [hc])) | (((with_reducible refine no_implicit_lambda% (is_cond ?_)); refine no_implicit_lambda% (c_cond rfl (fun hc => ?_) (fun hc => ?_)) <;> first | (exfalso; (simp only [decide_eq_true_eq, decide_eq_false_iff_not, beq_iff_eq, beq_eq_false_iff_ne, bne_iff_ne, bne_eq_false_iff_eq, List.length_map, Int.not_lt, Int.not_le] at hc); omega) | skip)) | (((with_reducible refine no_implicit_lambda% (is_aop ?_)); refine no_implicit_lambda% (a_pick rfl rfl (fun hc => ?_) (fun hc => ?_)) <;> first | (exfalso; (simp only [decide_eq_true_eq, decide_eq_false_iff_not, beq_iff_eq, beq_eq_false_iff_ne, bne_iff_ne, bne_eq_false_iff_eq, List.length_map, Int.not_lt, Int.not_le] at hc); omega) | rw [hc])) | ((with_reducible refine no_implicit_lambda% (ret1 ?_)); first | (refine no_implicit_lambda% (akc ?_)) | (refine no_implicit_lambda% (aec ?_))) | (with_reducible exact retN) | (with_reducible exact retP) | (refine no_implicit_lambda% (cal [] (dnew_c) ?_ ?_)) | (refine no_implicit_lambda% (cal [0, 1] (open_cn) ?_ ?_)) | fail)
  · intro xx H' hh
    obtain ⟨cp, hI0, h', rfl⟩ := hh
    cases h'
    first | (refine no_implicit_lambda% (akc ?_)) | (refine no_implicit_lambda% (aec ?_))
    have hpr := promised_c A0 cp []
    repeat' (first | (refine no_implicit_lambda% (awd1 ?_)) | (((with_reducible refine no_implicit_lambda% (is_aops ?_)); refine no_implicit_lambda% (o_split rfl rfl rfl (fun hc => ?_) (fun hc => ?_)) <;> first | (exfalso; (simp only [decide_eq_true_eq, decide_eq_false_iff_not, beq_iff_eq, beq_eq_false_iff_ne, bne_iff_ne, bne_eq_false_iff_eq, List.length_map, Int.not_lt, Int.not_le] at hc); omega) | rw [hc])) | (((with_reducible refine no_implicit_lambda% (is_cond ?_)); refine no_implicit_lambda% (c_cond rfl (fun hc => ?_) (fun hc => ?_)) <;> first | (exfalso; (simp only [decide_eq_true_eq, decide_eq_false_iff_not, beq_iff_eq, beq_eq_false_iff_ne, bne_iff_ne, bne_eq_false_iff_eq, List.length_map, Int.not_lt, Int.not_le] at hc); omega) | skip)) | (((with_reducible refine no_implicit_lambda% (is_aop ?_)); refine no_implicit_lambda% (a_pick rfl rfl (fun hc => ?_) (fun hc => ?_)) <;> first | (exfalso; (simp only [decide_eq_true_eq, decide_eq_false_iff_not, beq_iff_eq, beq_eq_false_iff_ne, bne_iff_ne, bne_eq_false_iff_eq, List.length_map, Int.not_lt, Int.not_le] at hc); omega) | rw [hc])) | ((with_reducible refine no_implicit_lambda% (ret1 ?_)); first | (refine no_implicit_lambda% (akc ?_)) | (refine no_implicit_lambda% (aec ?_))) | (with_reducible exact retN) | (with_reducible exact retP) | (refine no_implicit_lambda% (cal [2, 3, 0, 1] (hpr) ?_ ?_)) | fail)
    have c1 := prom_cx A0 cp [] 0 5 hI0 (by decide)
    rw [kn_p.1, kn_p.2] at c1
    repeat' (first | (refine no_implicit_lambda% (awd1 ?_)) | (((with_reducible refine no_implicit_lambda% (is_aops ?_)); refine no_implicit_lambda% (o_split rfl rfl rfl (fun hc => ?_) (fun hc => ?_)) <;> first | (exfalso; (simp only [decide_eq_true_eq, decide_eq_false_iff_not, beq_iff_eq, beq_eq_false_iff_ne, bne_iff_ne, bne_eq_false_iff_eq, List.length_map, Int.not_lt, Int.not_le] at hc); omega) | rw [hc])) | (((with_reducible refine no_implicit_lambda% (is_cond ?_)); refine no_implicit_lambda% (c_cond rfl (fun hc => ?_) (fun hc => ?_)) <;> first | (exfalso; (simp only [decide_eq_true_eq, decide_eq_false_iff_not, beq_iff_eq, beq_eq_false_iff_ne, bne_iff_ne, bne_eq_false_iff_eq, List.length_map, Int.not_lt, Int.not_le] at hc); omega) | skip)) | (((with_reducible refine no_implicit_lambda% (is_aop ?_)); refine no_implicit_lambda% (a_pick rfl rfl (fun hc => ?_) (fun hc => ?_)) <;> first | (exfalso; (simp only [decide_eq_true_eq, decide_eq_false_iff_not, beq_iff_eq, beq_eq_false_iff_ne, bne_iff_ne, bne_eq_false_iff_eq, List.length_map, Int.not_lt, Int.not_le] at hc); omega) | rw [hc])) | ((with_reducible refine no_implicit_lambda% (ret1 ?_)); first | (refine no_implicit_lambda% (akc ?_)) | (refine no_implicit_lambda% (aec ?_))) | (with_reducible exact retN) | (with_reducible exact retP) | (refine no_implicit_lambda% (cal [2, 3, 0, 1] (c1) ?_ ?_)) | fail)
    · intro xx H' hh
      obtain ⟨cp1, ops1, hI1, h', rfl⟩ := hh
      cases h'
      first | (refine no_implicit_lambda% (akc ?_)) | (refine no_implicit_lambda% (aec ?_))
      have c2 : ACalls Try.prog 29 4 5 [.ptr 0 0, .v (.int .i64 3), .v (.int .i64 0), .list ([120].map brow) .free] (acP 0 1 2 3 K1 cp1 (ops1.map encO)) (VX 4 K1 2 false) := by
        have h := vote_cx K1 cp1 ops1 1 ⟨0, 3, [120]⟩ hI1 (by decide) (by simp)
        rw [kn_v1.1, kn_v1.2] at h
        exact h
      repeat' (first | (refine no_implicit_lambda% (awd1 ?_)) | (((with_reducible refine no_implicit_lambda% (is_aops ?_)); refine no_implicit_lambda% (o_split rfl rfl rfl (fun hc => ?_) (fun hc => ?_)) <;> first | (exfalso; (simp only [decide_eq_true_eq, decide_eq_false_iff_not, beq_iff_eq, beq_eq_false_iff_ne, bne_iff_ne, bne_eq_false_iff_eq, List.length_map, Int.not_lt, Int.not_le] at hc); omega) | rw [hc])) | (((with_reducible refine no_implicit_lambda% (is_cond ?_)); refine no_implicit_lambda% (c_cond rfl (fun hc => ?_) (fun hc => ?_)) <;> first | (exfalso; (simp only [decide_eq_true_eq, decide_eq_false_iff_not, beq_iff_eq, beq_eq_false_iff_ne, bne_iff_ne, bne_eq_false_iff_eq, List.length_map, Int.not_lt, Int.not_le] at hc); omega) | skip)) | (((with_reducible refine no_implicit_lambda% (is_aop ?_)); refine no_implicit_lambda% (a_pick rfl rfl (fun hc => ?_) (fun hc => ?_)) <;> first | (exfalso; (simp only [decide_eq_true_eq, decide_eq_false_iff_not, beq_iff_eq, beq_eq_false_iff_ne, bne_iff_ne, bne_eq_false_iff_eq, List.length_map, Int.not_lt, Int.not_le] at hc); omega) | rw [hc])) | ((with_reducible refine no_implicit_lambda% (ret1 ?_)); first | (refine no_implicit_lambda% (akc ?_)) | (refine no_implicit_lambda% (aec ?_))) | (with_reducible exact retN) | (with_reducible exact retP) | fail | fail)
      (refine no_implicit_lambda% (calw [2, 3, 0, 1] (c2) ?_ ?_))
      · intro xx H' hh
        obtain ⟨cp2, ops2, hI2, h', rfl⟩ := hh
        cases h'
        first | (refine no_implicit_lambda% (akc ?_)) | (refine no_implicit_lambda% (aec ?_))
        have c3 : ACalls Try.prog 29 4 5 [.ptr 0 0, .v (.int .i64 5), .v (.int .i64 7), .list (([120] : List UInt8).map brow) .free] (acP 0 1 2 3 K1 cp2 (ops2.map encO)) (VX 4 K2 3 true) := by
          have h := vote_cx K1 cp2 ops2 2 ⟨7, 5, [120]⟩ hI2 (by decide) (by simp)
          rw [kn_v2.1, kn_v2.2] at h
          exact h
        repeat' (first | (refine no_implicit_lambda% (awd1 ?_)) | (((with_reducible refine no_implicit_lambda% (is_aops ?_)); refine no_implicit_lambda% (o_split rfl rfl rfl (fun hc => ?_) (fun hc => ?_)) <;> first | (exfalso; (simp only [decide_eq_true_eq, decide_eq_false_iff_not, beq_iff_eq, beq_eq_false_iff_ne, bne_iff_ne, bne_eq_false_iff_eq, List.length_map, Int.not_lt, Int.not_le] at hc); omega) | rw [hc])) | (((with_reducible refine no_implicit_lambda% (is_cond ?_)); refine no_implicit_lambda% (c_cond rfl (fun hc => ?_) (fun hc => ?_)) <;> first | (exfalso; (simp only [decide_eq_true_eq, decide_eq_false_iff_not, beq_iff_eq, beq_eq_false_iff_ne, bne_iff_ne, bne_eq_false_iff_eq, List.length_map, Int.not_lt, Int.not_le] at hc); omega) | skip)) | (((with_reducible refine no_implicit_lambda% (is_aop ?_)); refine no_implicit_lambda% (a_pick rfl rfl (fun hc => ?_) (fun hc => ?_)) <;> first | (exfalso; (simp only [decide_eq_true_eq, decide_eq_false_iff_not, beq_iff_eq, beq_eq_false_iff_ne, bne_iff_ne, bne_eq_false_iff_eq, List.length_map, Int.not_lt, Int.not_le] at hc); omega) | rw [hc])) | ((with_reducible refine no_implicit_lambda% (ret1 ?_)); first | (refine no_implicit_lambda% (akc ?_)) | (refine no_implicit_lambda% (aec ?_))) | (with_reducible exact retN) | (with_reducible exact retP) | fail | fail)
        (refine no_implicit_lambda% (calw [2, 300, 0, 1] (c3) ?_ ?_))
        · intro xx H' hh
          obtain ⟨cp3, ops3, hI3, h', rfl⟩ := hh
          cases h'
          first | (refine no_implicit_lambda% (akc ?_)) | (refine no_implicit_lambda% (aec ?_))
          have c4 : ACalls Try.prog 29 4 5 [.ptr 0 0, .v (.int .i64 5), .v (.int .i64 8), .list (([] : List UInt8).map brow) .free] (acP 0 1 2 3 K2 cp3 (ops3.map encO)) (VX 4 K2 4 false) := by
            have h := vote_cx K2 cp3 ops3 3 ⟨8, 5, []⟩ hI3 (by decide) (by simp)
            rw [kn_v3.1, kn_v3.2] at h
            exact h
          repeat' (first | (refine no_implicit_lambda% (awd1 ?_)) | (((with_reducible refine no_implicit_lambda% (is_aops ?_)); refine no_implicit_lambda% (o_split rfl rfl rfl (fun hc => ?_) (fun hc => ?_)) <;> first | (exfalso; (simp only [decide_eq_true_eq, decide_eq_false_iff_not, beq_iff_eq, beq_eq_false_iff_ne, bne_iff_ne, bne_eq_false_iff_eq, List.length_map, Int.not_lt, Int.not_le] at hc); omega) | rw [hc])) | (((with_reducible refine no_implicit_lambda% (is_cond ?_)); refine no_implicit_lambda% (c_cond rfl (fun hc => ?_) (fun hc => ?_)) <;> first | (exfalso; (simp only [decide_eq_true_eq, decide_eq_false_iff_not, beq_iff_eq, beq_eq_false_iff_ne, bne_iff_ne, bne_eq_false_iff_eq, List.length_map, Int.not_lt, Int.not_le] at hc); omega) | skip)) | (((with_reducible refine no_implicit_lambda% (is_aop ?_)); refine no_implicit_lambda% (a_pick rfl rfl (fun hc => ?_) (fun hc => ?_)) <;> first | (exfalso; (simp only [decide_eq_true_eq, decide_eq_false_iff_not, beq_iff_eq, beq_eq_false_iff_ne, bne_iff_ne, bne_eq_false_iff_eq, List.length_map, Int.not_lt, Int.not_le] at hc); omega) | rw [hc])) | ((with_reducible refine no_implicit_lambda% (ret1 ?_)); first | (refine no_implicit_lambda% (akc ?_)) | (refine no_implicit_lambda% (aec ?_))) | (with_reducible exact retN) | (with_reducible exact retP) | (refine no_implicit_lambda% (calw [2, 301, 0, 1] (c4) ?_ ?_)) | fail)
          · intro xx H' hh
            obtain ⟨cp4, ops4, hI4, h', rfl⟩ := hh
            cases h'
            first | (refine no_implicit_lambda% (akc ?_)) | (refine no_implicit_lambda% (aec ?_))
            have c5 : ACalls Try.prog 31 4 900 [.ptr 0 0, .v (.int .i64 0), .list (([] : List UInt8).map brow) .free] (acP 0 1 2 3 K2 cp4 (ops4.map encO)) (fun out H' => out = .ret (.v (.bool false)) ∧ H' = acP 0 1 2 3 K2 cp4 (ops4.map encO)) :=
              (snap_c0 K2 cp4 (ops4.map encO) 0 [] hI4.ok hI4.room hI4.cap (by simp)).mono fun out H' hh => by
                rcases hh with ⟨_, h1, h2⟩ | ⟨h1, _⟩
                · exact ⟨h1, h2⟩
                · rw [kn_s] at h1; cases h1
            have c6 := votes_c K2 cp4 (ops4.map encO) hI4.ok
            repeat' (first | (refine no_implicit_lambda% (awd1 ?_)) | (((with_reducible refine no_implicit_lambda% (is_aops ?_)); refine no_implicit_lambda% (o_split rfl rfl rfl (fun hc => ?_) (fun hc => ?_)) <;> first | (exfalso; (simp only [decide_eq_true_eq, decide_eq_false_iff_not, beq_iff_eq, beq_eq_false_iff_ne, bne_iff_ne, bne_eq_false_iff_eq, List.length_map, Int.not_lt, Int.not_le] at hc); omega) | rw [hc])) | (((with_reducible refine no_implicit_lambda% (is_cond ?_)); refine no_implicit_lambda% (c_cond rfl (fun hc => ?_) (fun hc => ?_)) <;> first | (exfalso; (simp only [decide_eq_true_eq, decide_eq_false_iff_not, beq_iff_eq, beq_eq_false_iff_ne, bne_iff_ne, bne_eq_false_iff_eq, List.length_map, Int.not_lt, Int.not_le] at hc); omega) | skip)) | (((with_reducible refine no_implicit_lambda% (is_aop ?_)); refine no_implicit_lambda% (a_pick rfl rfl (fun hc => ?_) (fun hc => ?_)) <;> first | (exfalso; (simp only [decide_eq_true_eq, decide_eq_false_iff_not, beq_iff_eq, beq_eq_false_iff_ne, bne_iff_ne, bne_eq_false_iff_eq, List.length_map, Int.not_lt, Int.not_le] at hc); omega) | rw [hc])) | ((with_reducible refine no_implicit_lambda% (ret1 ?_)); first | (refine no_implicit_lambda% (akc ?_)) | (refine no_implicit_lambda% (aec ?_))) | (with_reducible exact retN) | (with_reducible exact retP) | (refine no_implicit_lambda% (calw [2, 302, 0, 1] (c5) ?_ ?_)) | (refine no_implicit_lambda% (cal [2, 302, 0, 1] (c6) ?_ ?_)) | fail)
            all_goals first | (exfalso; revert hc; decide) | skip
            exact e_ret (H' := []) (rest := _) rfl ⟨rfl, rfl⟩ permT (Nat.le_of_ble_eq_true rfl)
          · intro xx H' hh
            obtain ⟨_, _, _, h', _⟩ := hh
            cases h'
        · intro xx H' hh
          obtain ⟨_, _, _, h', _⟩ := hh
          cases h'
      · intro xx H' hh
        obtain ⟨_, _, _, h', _⟩ := hh
        cases h'
    · intro xx H' hh
      obtain ⟨_, _, _, h', _⟩ := hh
      cases h'
  · intro xx H' hh
    obtain ⟨_, _, h', _⟩ := hh
    cases h'
end Go.Proofs.Ytabhfccfohpkaaa
