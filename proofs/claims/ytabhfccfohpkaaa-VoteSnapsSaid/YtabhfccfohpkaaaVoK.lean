/- vote: Vote. -/
import Derived.Test.YtabhfccfohpkaaaVoJ
namespace Go.Proofs.Ytabhfccfohpkaaa
open Go.Am
set_option linter.unusedSimpArgs false
set_option linter.unusedVariables false
set_option maxRecDepth 100000
def Ac.vote (A : Ac) (t : Td) : Ac := if voteB A t then ap A (.B t) else A
def recsV (A : Ac) (recs : List (List UInt8)) (t : Td) : List (List UInt8) := if voteB A t then recs ++ [encB t] else recs
set_option maxHeartbeats 3200000 in
theorem vote_c0 (A : Ac) (cp : Nat) (recs : List (List UInt8)) (t : Td) (hA : AcOk A) (hcp0 : A.l.length ≤ cp) (hcp : cp ≤ maxLen) (hr : recs.length < 1000000) (hb : t.b.length < 1000000000) : ACalls Try.prog 29 4 300 [.ptr 0 0, .v (.int .i64 t.s), .v (.int .i64 t.c), .list (t.b.map brow) .free] (acP 0 1 2 3 A cp recs) (fun out H' => ∃ cp' n, 4 ≤ n ∧ n < 300 ∧ (A.vote t).l.length ≤ cp' ∧ cp' ≤ maxLen ∧ out = .ret (.v (.bool (voteB A t))) ∧ H' = acP 0 n 2 3 (A.vote t) cp' (recsV A recs t)) := by
  have hl := hA.len
  have hcl := clone_c (t.b.map brow) (brows t.b) (by rw [List.length_map]; omega)
  have hi := in_c A cp recs t hA.base
  have hvoid : (A.l.map trow).length + (cp - A.l.length) * 3 = 0 → cp = 0 := by rw [List.length_map]; omega
  have hno : voteB A t = false → A.vote t = A ∧ recsV A recs t = recs := fun h => ⟨by unfold Ac.vote; rw [h]; rfl, by unfold recsV; rw [h]; rfl⟩
  have hyes : voteB A t = true → A.vote t = ⟨t.s, putL A.l t, A.base, A.st⟩ ∧ recsV A recs t = recs ++ [encB t] := fun h => ⟨by unfold Ac.vote; rw [h]; rfl, by unfold recsV; rw [h]; rfl⟩
  have hb1 := hA.base
  have hby := byte_c [] (UInt8.ofNat 2) (by simp)
  have hput := put_c ⟨t.s, A.l, A.base, A.st⟩ cp (recs ++ [encB t]) t (by show A.l.length < _; omega) hcp0 hcp hA.sorted
  refine no_implicit_lambda% (acalls_of tok dok (f := 29) ⟨Try.func29, rfl, by kernel_rfl⟩ ?_); refine no_implicit_lambda% (c_start (fun _ h => h) ?_)
  repeat' (first | (refine no_implicit_lambda% (awd1 ?_)) | (((with_reducible refine no_implicit_lambda% (is_aops ?_)); refine no_implicit_lambda% (o_split rfl rfl rfl (fun hc => ?_) (fun hc => ?_)) <;> first | (exfalso; (simp only [decide_eq_true_eq, decide_eq_false_iff_not, beq_iff_eq, beq_eq_false_iff_ne, bne_iff_ne, bne_eq_false_iff_eq, List.length_map, Int.not_lt, Int.not_le] at hc); omega) | rw [hc])) | (((with_reducible refine no_implicit_lambda% (is_cond ?_)); refine no_implicit_lambda% (c_cond rfl (fun hc => ?_) (fun hc => ?_)) <;> first | (exfalso; (simp only [decide_eq_true_eq, decide_eq_false_iff_not, beq_iff_eq, beq_eq_false_iff_ne, bne_iff_ne, bne_eq_false_iff_eq, List.length_map, Int.not_lt, Int.not_le] at hc); omega) | skip)) | (((with_reducible refine no_implicit_lambda% (is_aop ?_)); refine no_implicit_lambda% (a_pick rfl rfl (fun hc => ?_) (fun hc => ?_)) <;> first | (exfalso; (simp only [decide_eq_true_eq, decide_eq_false_iff_not, beq_iff_eq, beq_eq_false_iff_ne, bne_iff_ne, bne_eq_false_iff_eq, List.length_map, Int.not_lt, Int.not_le] at hc); omega) | rw [hc])) | ((with_reducible refine no_implicit_lambda% (ret1 ?_)); first | (refine no_implicit_lambda% (akc ?_)) | (refine no_implicit_lambda% (aec ?_))) | (with_reducible exact retN) | (with_reducible exact retP) | (refine no_implicit_lambda% (cal [] (hcl) ?_ ?_)) | (refine no_implicit_lambda% (cal [0, 1, 2, 3] (hi) ?_ ?_)) | (refine no_implicit_lambda% (cal [] (new_c) ?_ ?_)) | fail)
  · have hn : voteB A t = false := by
      unfold voteB
      rw [decide_eq_false (by have := of_decide_eq_true hc; omega)]; rfl
    obtain ⟨e1, e2⟩ := hno hn
    rw [e1, e2, hn]
    exact e_ret_to (H' := acP 0 6 2 3 A cp recs) (rest := _) (Conv.anewBox (id := 1) (bid := 0) (j := 2) (permT (H := [(1, .seq (A.l.map trow) ((cp - A.l.length) * 3)), (0, .box [.ptr 2 0, .v (.int .i64 A.p), .arr 1 0 A.l.length cp, .v (.int .i64 A.base), .list (A.st.map brow) .free])])) rfl hvoid) rfl ⟨cp, 6, by omega, by omega, hcp0, hcp, rfl, rfl⟩ permT (Nat.le_of_ble_eq_true rfl)
  · have hn : voteB A t = false := by
      have hc' : inB A t = false := by simpa using hc
      unfold voteB
      rw [hc', Bool.and_false]
    obtain ⟨e1, e2⟩ := hno hn
    rw [e1, e2, hn]
    exact e_ret_to (H' := acP 0 42 2 3 A cp recs) (rest := _) (Conv.anewBox (id := 1) (bid := 0) (j := 2) (permT (H := [(1, .seq (A.l.map trow) ((cp - A.l.length) * 3)), (0, .box [.ptr 2 0, .v (.int .i64 A.p), .arr 1 0 A.l.length cp, .v (.int .i64 A.base), .list (A.st.map brow) .free])])) rfl hvoid) rfl ⟨cp, 42, by omega, by omega, hcp0, hcp, rfl, rfl⟩ permT (Nat.le_of_ble_eq_true rfl)
  · have hin : inB A t = true := by simpa using hc
    have hp : A.p ≤ t.s := by
      rename_i hc1
      have := of_decide_eq_false hc1
      omega
    have hn : voteB A t = true := by unfold voteB; rw [hin, decide_eq_true hp]; rfl
    obtain ⟨e1, e2⟩ := hyes hn
    rw [e1, e2, hn]
    obtain ⟨i1, i2, i3, i4, i5⟩ := of_decide_eq_true hin
    have hvl : (encV t).length ≤ 1048588 := by simp only [encV, List.length_append, be_len]; omega
    have hwr := write_c t ([] ++ [UInt8.ofNat 2]) (by omega) (by omega) i5 (by simp)
    have hdn := done_c ([] ++ [UInt8.ofNat 2] ++ encV t) (by rw [List.length_append]; simp; omega)
    have hda := dappend_c recs ([] ++ [UInt8.ofNat 2] ++ encV t) (by omega) (by rw [List.length_append]; simp; omega)
    repeat' (first | (refine no_implicit_lambda% (awd1 ?_)) | (((with_reducible refine no_implicit_lambda% (is_aops ?_)); refine no_implicit_lambda% (o_split rfl rfl rfl (fun hc => ?_) (fun hc => ?_)) <;> first | (exfalso; (simp only [decide_eq_true_eq, decide_eq_false_iff_not, beq_iff_eq, beq_eq_false_iff_ne, bne_iff_ne, bne_eq_false_iff_eq, List.length_map, Int.not_lt, Int.not_le] at hc); omega) | rw [hc])) | (((with_reducible refine no_implicit_lambda% (is_cond ?_)); refine no_implicit_lambda% (c_cond rfl (fun hc => ?_) (fun hc => ?_)) <;> first | (exfalso; (simp only [decide_eq_true_eq, decide_eq_false_iff_not, beq_iff_eq, beq_eq_false_iff_ne, bne_iff_ne, bne_eq_false_iff_eq, List.length_map, Int.not_lt, Int.not_le] at hc); omega) | skip)) | (((with_reducible refine no_implicit_lambda% (is_aop ?_)); refine no_implicit_lambda% (a_pick rfl rfl (fun hc => ?_) (fun hc => ?_)) <;> first | (exfalso; (simp only [decide_eq_true_eq, decide_eq_false_iff_not, beq_iff_eq, beq_eq_false_iff_ne, bne_iff_ne, bne_eq_false_iff_eq, List.length_map, Int.not_lt, Int.not_le] at hc); omega) | rw [hc])) | ((with_reducible refine no_implicit_lambda% (ret1 ?_)); first | (refine no_implicit_lambda% (akc ?_)) | (refine no_implicit_lambda% (aec ?_))) | (with_reducible exact retN) | (with_reducible exact retP) | (refine no_implicit_lambda% (cal [42, 43] (hby) ?_ ?_)) | (refine no_implicit_lambda% (cal [42, 43] (hwr) ?_ ?_)) | (refine no_implicit_lambda% (cal [42, 43] (hdn) ?_ ?_)) | (refine no_implicit_lambda% (cal [2, 3] (hda) ?_ ?_)) | fail)
    (refine no_implicit_lambda% (cal [0, 1, 2, 3] (hput) ?_ ?_))
    · intro xx H' hh
      obtain ⟨cp', c1, c2, h', rfl⟩ := hh
      cases h'
      first | (refine no_implicit_lambda% (akc ?_)) | (refine no_implicit_lambda% (aec ?_))
      repeat' (first | (refine no_implicit_lambda% (awd1 ?_)) | (((with_reducible refine no_implicit_lambda% (is_aops ?_)); refine no_implicit_lambda% (o_split rfl rfl rfl (fun hc => ?_) (fun hc => ?_)) <;> first | (exfalso; (simp only [decide_eq_true_eq, decide_eq_false_iff_not, beq_iff_eq, beq_eq_false_iff_ne, bne_iff_ne, bne_eq_false_iff_eq, List.length_map, Int.not_lt, Int.not_le] at hc); omega) | rw [hc])) | (((with_reducible refine no_implicit_lambda% (is_cond ?_)); refine no_implicit_lambda% (c_cond rfl (fun hc => ?_) (fun hc => ?_)) <;> first | (exfalso; (simp only [decide_eq_true_eq, decide_eq_false_iff_not, beq_iff_eq, beq_eq_false_iff_ne, bne_iff_ne, bne_eq_false_iff_eq, List.length_map, Int.not_lt, Int.not_le] at hc); omega) | skip)) | (((with_reducible refine no_implicit_lambda% (is_aop ?_)); refine no_implicit_lambda% (a_pick rfl rfl (fun hc => ?_) (fun hc => ?_)) <;> first | (exfalso; (simp only [decide_eq_true_eq, decide_eq_false_iff_not, beq_iff_eq, beq_eq_false_iff_ne, bne_iff_ne, bne_eq_false_iff_eq, List.length_map, Int.not_lt, Int.not_le] at hc); omega) | rw [hc])) | ((with_reducible refine no_implicit_lambda% (ret1 ?_)); first | (refine no_implicit_lambda% (akc ?_)) | (refine no_implicit_lambda% (aec ?_))) | (with_reducible exact retN) | (with_reducible exact retP) | fail | fail)
      exact e_ret (H' := acP 0 81 2 3 ⟨t.s, putL A.l t, A.base, A.st⟩ cp' (recs ++ [encB t])) (rest := _) rfl ⟨cp', 81, by omega, by omega, c1, c2, rfl, rfl⟩ permT (Nat.le_of_ble_eq_true rfl)
    · intro xx H' hh
      obtain ⟨_, _, _, h', _⟩ := hh
      cases h'
end Go.Proofs.Ytabhfccfohpkaaa
