/- Which messages may be, by the document. -/
import Derived.Test.YtdfnepbhgifkkaaMr
namespace Go.Proofs.Ytdfnepbhgifkkaa
open Go.Am
set_option linter.unusedSimpArgs false
set_option linter.unusedVariables false
set_option maxRecDepth 100000
def rrSt (m : Ms) (i : Nat) : ASt := ⟨([.dead, .ptr 0 0, .dead, .v (.int .i64 i)] ++ List.replicate 93 .dead), [(0, .box (msrow m))], 10⟩
theorem all_no {l : List Vt} {i : Nat} {u : Vt} (hu : l[i]? = some u) (h : vtB u = false) : l.all vtB = false := by
  rw [List.all_eq_false]
  exact ⟨u, List.mem_of_getElem? hu, by simp [h]⟩
theorem all_next {l : List Vt} {i : Nat} {u : Vt} (hu : l[i]? = some u) (h1 : (l.take i).all vtB = true) (h : vtB u = true) : (l.take (i + 1)).all vtB = true := by
  rw [List.take_add_one, List.all_append, h1, hu]; simp [h]
set_option maxHeartbeats 6400000 in
theorem refRightM_c (m : Ms) (h : m.l.length < 1000000000000) : ACalls Try.prog 57 0 2000 [msv m] [] (fun out H' => out = .ret (.v (.bool (rightB m))) ∧ H' = []) := by
  refine acalls_of tok dok (f := 57) ⟨Try.func57, rfl, by kernel_rfl⟩ ?_; refine c_start (fun _ h => h) ?_
  repeat' (first | (refine awd1 ?_) | (((with_reducible refine is_aops ?_); refine o_split rfl rfl rfl (fun hc => ?_) (fun hc => ?_) <;> rw [hc])) | (((with_reducible refine is_cond ?_); refine c_cond rfl (fun hc => ?_) (fun hc => ?_))) | (((with_reducible refine is_aop ?_); refine a_pick rfl rfl (fun hc => ?_) (fun hc => ?_) <;> rw [hc])) | ((with_reducible refine ret1 ?_); first | (refine akc ?_) | (refine aec ?_)) | (with_reducible exact retN) | (with_reducible exact retP) | (refine cal [] (between_c _ _ _) ?_ ?_) | fail)
  all_goals first | (refine e_ret (H' := []) (rest := _) rfl ⟨congrArg (fun z => AOut.ret (.v (.bool z))) ?_, rfl⟩ (.refl _) (Nat.le_of_ble_eq_true rfl); first | (simp_all [rightB, waysB, numsB]; done) | (simp [rightB, waysB, numsB] at *; omega)) | skip
  have hR : rightB m = m.l.all vtB := by simp_all [rightB, waysB, numsB]
  clear hc
  refine c_loop' (rrSt m) (fun i => i ≤ m.l.length ∧ (m.l.take i).all vtB = true) (fun i => m.l.length - i) (a := 0) ⟨Nat.zero_le _, rfl⟩ (.to [] (by unfold rrSt; (repeat' (first | (with_reducible exact .nil) | (refine .cons ?_ ?_) | (exact Wk.dead _) | (with_reducible exact Wk.refl _) | (exact WkL.nil))) <;> first | (exact Wk.eq rfl) | (exact Wk.free _ _) | (exact Wk.int (w64 (by omega) (by omega))) | (exact Wk.int (by simp)) | (exact Wk.int (by simp; omega)) | (exact Wk.eq (by simp))) (.of_eq rfl) (Nat.le_of_ble_eq_true rfl)) ?_
  rintro i ⟨h1, h2⟩
  refine c_turn (n' := 10) (fun _ h => h) (fun _ h => h) rfl ?_
  rcases hu : m.l[i]? with _ | u
  · have hi : i = m.l.length := by have := List.getElem?_eq_none_iff.1 hu; omega
    repeat' (first | (refine awd1 ?_) | (((with_reducible refine is_aops ?_); refine o_split rfl rfl rfl (fun hc => ?_) (fun hc => ?_) <;> first | (exfalso; (simp only [decide_eq_true_eq, decide_eq_false_iff_not, beq_iff_eq, beq_eq_false_iff_ne, bne_iff_ne, bne_eq_false_iff_eq, List.length_map, Int.not_lt, Int.not_le] at hc); omega) | rw [hc])) | (((with_reducible refine is_cond ?_); refine c_cond rfl (fun hc => ?_) (fun hc => ?_) <;> first | (exfalso; (simp only [decide_eq_true_eq, decide_eq_false_iff_not, beq_iff_eq, beq_eq_false_iff_ne, bne_iff_ne, bne_eq_false_iff_eq, List.length_map, Int.not_lt, Int.not_le] at hc); omega) | skip)) | (((with_reducible refine is_aop ?_); refine a_pick rfl rfl (fun hc => ?_) (fun hc => ?_) <;> first | (exfalso; (simp only [decide_eq_true_eq, decide_eq_false_iff_not, beq_iff_eq, beq_eq_false_iff_ne, bne_iff_ne, bne_eq_false_iff_eq, List.length_map, Int.not_lt, Int.not_le] at hc); omega) | rw [hc])) | ((with_reducible refine ret1 ?_); first | (refine akc ?_) | (refine aec ?_)) | (with_reducible exact retN) | (with_reducible exact retP) | fail | fail)
    refine e_ret (H' := []) (rest := _) rfl ⟨congrArg (fun z => AOut.ret (.v (.bool z))) ?_, rfl⟩ (.refl _) (Nat.le_of_ble_eq_true rfl)
    rw [hR, ← h2, hi, List.take_length]
  · have hi : i < m.l.length := (List.getElem?_eq_some_iff.1 hu).1
    have hux := vtx hu
    have hN := all_no hu
    have hS := all_next hu h2
    repeat' (first | (refine awd1 ?_) | (((with_reducible refine is_aops ?_); refine o_split rfl rfl rfl (fun hc => ?_) (fun hc => ?_) <;> first | (exfalso; (simp only [decide_eq_true_eq, decide_eq_false_iff_not, beq_iff_eq, beq_eq_false_iff_ne, bne_iff_ne, bne_eq_false_iff_eq, List.length_map, Int.not_lt, Int.not_le] at hc); omega) | rw [hc])) | (((with_reducible refine is_cond ?_); refine c_cond rfl (fun hc => ?_) (fun hc => ?_) <;> first | (exfalso; (simp only [decide_eq_true_eq, decide_eq_false_iff_not, beq_iff_eq, beq_eq_false_iff_ne, bne_iff_ne, bne_eq_false_iff_eq, List.length_map, Int.not_lt, Int.not_le] at hc); omega) | skip)) | (((with_reducible refine is_aop ?_); refine a_pick rfl rfl (fun hc => ?_) (fun hc => ?_) <;> first | (exfalso; (simp only [decide_eq_true_eq, decide_eq_false_iff_not, beq_iff_eq, beq_eq_false_iff_ne, bne_iff_ne, bne_eq_false_iff_eq, List.length_map, Int.not_lt, Int.not_le] at hc); omega) | rw [hc])) | ((with_reducible refine ret1 ?_); first | (refine akc ?_) | (refine aec ?_)) | (with_reducible exact retN) | (with_reducible exact retP) | (refine cal [] (between_c _ _ _) ?_ ?_) | fail)
    all_goals first | (refine e_ret (H' := []) (rest := _) rfl ⟨congrArg (fun z => AOut.ret (.v (.bool z))) ?_, rfl⟩ (.refl _) (Nat.le_of_ble_eq_true rfl); rw [hR, hN (by first | (simp_all [vtB]; done) | (simp [vtB] at *; omega))]) | skip
    (refine k_loopJ (i + 1) [] ⟨hi, hS (by first | (simp_all [vtB]; done) | (simp_all [vtB]; omega))⟩ (by first | omega | (simp; omega)) (by unfold rrSt; (repeat' (first | (with_reducible exact .nil) | (refine .cons ?_ ?_) | (exact Wk.dead _) | (with_reducible exact Wk.refl _) | (exact WkL.nil))) <;> first | (exact Wk.eq rfl) | (exact Wk.int (z64 (by omega) (by omega))) | (exact Wk.int (by simp)) | (exact Wk.int (by simp; omega)) | (exact Wk.eq (by simp))) ?_)
    exact .of_eq rfl
end Go.Proofs.Ytdfnepbhgifkkaa
