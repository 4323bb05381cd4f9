/- once: Look. -/
import Derived.Test.YtdahnjdkghbieaaOnA
namespace Go.Proofs.Ytdahnjdkghbieaa
open Go.Am
set_option linter.unusedSimpArgs false
set_option linter.unusedVariables false
set_option maxRecDepth 100000
/-- a cache's objects -/
def ca (l : List Td) (cp : Nat) : Heap := [(0, .box [.arr 1 0 l.length cp]), (1, .seq (l.map trow) ((cp - l.length) * 3))]
theorem find_c (l : List Td) (c : Int) (cp : Nat) (hl : l.length < 1000000000) (hs : (tkeys l).Pairwise (· < ·)) : ACalls Try.prog 53 2 3 [.ptr 0 0, .v (.int .i64 c)] (ca l cp) (fun out H' => out = .ret (.tuple [.v (.int .i64 (kpos (tkeys l) c)), .v (.bool (decide ((tkeys l)[kpos (tkeys l) c]? = some c)))]) ∧ H' = ca l cp) := by
  have hb := bsearch_c l c cp ((cp - l.length) * 3) hl hs
  refine acalls_of tok dok (f := 53) ⟨Try.func53, rfl, by kernel_rfl⟩ ?_; refine c_start (fun _ h => h) ?_
  repeat' (first | (refine awd1 ?_) | (((with_reducible refine is_aops ?_); refine o_split rfl rfl rfl (fun hc => ?_) (fun hc => ?_) <;> first | (exfalso; (simp only [decide_eq_true_eq, decide_eq_false_iff_not, beq_iff_eq, beq_eq_false_iff_ne, bne_iff_ne, bne_eq_false_iff_eq, List.length_map, Int.not_lt, Int.not_le] at hc); omega) | rw [hc])) | (((with_reducible refine is_cond ?_); refine c_cond rfl (fun hc => ?_) (fun hc => ?_) <;> first | (exfalso; (simp only [decide_eq_true_eq, decide_eq_false_iff_not, beq_iff_eq, beq_eq_false_iff_ne, bne_iff_ne, bne_eq_false_iff_eq, List.length_map, Int.not_lt, Int.not_le] at hc); omega) | skip)) | (((with_reducible refine is_aop ?_); refine a_pick rfl rfl (fun hc => ?_) (fun hc => ?_) <;> first | (exfalso; (simp only [decide_eq_true_eq, decide_eq_false_iff_not, beq_iff_eq, beq_eq_false_iff_ne, bne_iff_ne, bne_eq_false_iff_eq, List.length_map, Int.not_lt, Int.not_le] at hc); omega) | rw [hc])) | ((with_reducible refine ret1 ?_); first | (refine akc ?_) | (refine aec ?_)) | (with_reducible exact retN) | (with_reducible exact retP) | (refine cal [1] (hb) ?_ ?_) | fail)
  exact e_ret (H' := ca l cp) (rest := []) rfl ⟨rfl, rfl⟩ permT (Nat.le_of_ble_eq_true rfl)
theorem right_c (c s : Int) (b : List UInt8) : ACalls Try.prog 51 0 0 [.v (.int .i64 c), .v (.int .i64 s), .list (b.map brow) .free] [] (fun out H' => out = .ret (.v (.bool (decide (0 ≤ c ∧ c ≤ 255 ∧ 1 ≤ s ∧ s ≤ 1073741824 ∧ b.length ≤ 1048576)))) ∧ H' = []) := by
  refine acalls_of tok dok (f := 51) ⟨Try.func51, rfl, by kernel_rfl⟩ ?_; refine c_start (fun _ h => h) ?_
  repeat' (first | (refine awd1 ?_) | (((with_reducible refine is_aops ?_); refine o_split rfl rfl rfl (fun hc => ?_) (fun hc => ?_) <;> first | (exfalso; (simp only [decide_eq_true_eq, decide_eq_false_iff_not, beq_iff_eq, beq_eq_false_iff_ne, bne_iff_ne, bne_eq_false_iff_eq, List.length_map, Int.not_lt, Int.not_le] at hc); omega) | rw [hc])) | (((with_reducible refine is_cond ?_); refine c_cond rfl (fun hc => ?_) (fun hc => ?_) <;> first | (exfalso; (simp only [decide_eq_true_eq, decide_eq_false_iff_not, beq_iff_eq, beq_eq_false_iff_ne, bne_iff_ne, bne_eq_false_iff_eq, List.length_map, Int.not_lt, Int.not_le] at hc); omega) | skip)) | (((with_reducible refine is_aop ?_); refine a_pick rfl rfl (fun hc => ?_) (fun hc => ?_) <;> first | (exfalso; (simp only [decide_eq_true_eq, decide_eq_false_iff_not, beq_iff_eq, beq_eq_false_iff_ne, bne_iff_ne, bne_eq_false_iff_eq, List.length_map, Int.not_lt, Int.not_le] at hc); omega) | rw [hc])) | ((with_reducible refine ret1 ?_); first | (refine akc ?_) | (refine aec ?_)) | (with_reducible exact retN) | (with_reducible exact retP) | fail | fail)
  all_goals (refine e_ret (H' := []) (rest := _) rfl ⟨congrArg (fun z => AOut.ret (.v (.bool z))) ?_, rfl⟩ (.refl _) (Nat.le_of_ble_eq_true rfl); simp_all <;> omega)
/-- what a client's number is, and was told -/
def look (l : List Td) (c s : Int) : List UInt8 × Int :=
  if s < 1 then ([], 3) else match l[kpos (tkeys l) c]? with
    | none => ([], 1)
    | some t => if t.c = c then (if s < t.s then ([], 3) else if s = t.s then (t.b, 2) else ([], 1)) else ([], 1)
theorem look_c (l : List Td) (c s : Int) (cp : Nat) (hl : l.length < 1000000000) (hb : ∀ t ∈ l, t.b.length < 70368744177664) (hs : (tkeys l).Pairwise (· < ·)) : ACalls Try.prog 17 2 30 [.ptr 0 0, .v (.int .i64 c), .v (.int .i64 s)] (ca l cp) (fun out H' => out = .ret (.tuple [.list ((look l c s).1.map brow) .free, .v (.int .i64 (look l c s).2)]) ∧ H' = ca l cp) := by
  have hf := find_c l c cp hl hs
  refine acalls_of tok dok (f := 17) ⟨Try.func17, rfl, by kernel_rfl⟩ ?_; refine c_start (fun _ h => h) ?_
  repeat' (first | (refine awd1 ?_) | (((with_reducible refine is_aops ?_); refine o_split rfl rfl rfl (fun hc => ?_) (fun hc => ?_) <;> first | (exfalso; (simp only [decide_eq_true_eq, decide_eq_false_iff_not, beq_iff_eq, beq_eq_false_iff_ne, bne_iff_ne, bne_eq_false_iff_eq, List.length_map, Int.not_lt, Int.not_le] at hc); omega) | rw [hc])) | (((with_reducible refine is_cond ?_); refine c_cond rfl (fun hc => ?_) (fun hc => ?_) <;> first | (exfalso; (simp only [decide_eq_true_eq, decide_eq_false_iff_not, beq_iff_eq, beq_eq_false_iff_ne, bne_iff_ne, bne_eq_false_iff_eq, List.length_map, Int.not_lt, Int.not_le] at hc); omega) | skip)) | (((with_reducible refine is_aop ?_); refine a_pick rfl rfl (fun hc => ?_) (fun hc => ?_) <;> first | (exfalso; (simp only [decide_eq_true_eq, decide_eq_false_iff_not, beq_iff_eq, beq_eq_false_iff_ne, bne_iff_ne, bne_eq_false_iff_eq, List.length_map, Int.not_lt, Int.not_le] at hc); omega) | rw [hc])) | ((with_reducible refine ret1 ?_); first | (refine akc ?_) | (refine aec ?_)) | (with_reducible exact retN) | (with_reducible exact retP) | (refine cal [0, 1] (hf) ?_ ?_) | fail)
  · have hc' := of_decide_eq_true hc
    have hk : look l c s = ([], 3) := if_pos hc'
    rw [hk]
    exact e_ret_to (H' := ca l cp) (rest := []) (Conv.freeSlot (j := 6) rfl) rfl ⟨rfl, rfl⟩ permT (Nat.le_of_ble_eq_true rfl)
  · rename_i hc0
    have hc' := of_decide_eq_true hc
    have hs1 := of_decide_eq_false hc0
    obtain ⟨t, ht, htc⟩ : ∃ t, l[kpos (tkeys l) c]? = some t ∧ t.c = c := by
      unfold tkeys at hc' ⊢
      rw [List.getElem?_map] at hc'
      cases hq : l[kpos (l.map (·.c)) c]? with
      | none => rw [hq] at hc'; cases hc'
      | some t => rw [hq] at hc'; exact ⟨t, rfl, Option.some.inj hc'⟩
    have hp : kpos (tkeys l) c < l.length := (List.getElem?_eq_some_iff.1 ht).1
    have hcl := clone_c (t.b.map brow) (fun row hr => by obtain ⟨x, _, rfl⟩ := List.mem_map.1 hr; rfl) (by rw [List.length_map]; exact hb t (List.mem_of_getElem? ht))
    have hlk : look l c s = (if s < t.s then ([], 3) else if s = t.s then (t.b, 2) else ([], 1)) := by
      unfold look
      rw [if_neg hs1, ht]
      exact if_pos htc
    have hrow : (l.map trow)[kpos (tkeys l) c]? = some (trow t) := by rw [List.getElem?_map, ht]; rfl
    generalize kpos (tkeys l) c = p at *
    (with_reducible refine is_aop ?_); first | (refine a_qS rfl (fun _ h => h) ?_ ?_) | (refine a_qS rfl (qIx (fun _ h => h)) ?_ ?_) | (refine a_qS rfl (qAnd5 (fun _ h => h)) ?_ ?_) | (refine a_qS rfl (qStr (fun _ h => h)) ?_ ?_) | (refine a_qS rfl (qAnd4 (fun _ h => h)) ?_ ?_) | (refine a_qS rfl (qAnd2 (fun _ h => h)) ?_ ?_)
    · simp; omega
    refine awd ?_
    ((with_reducible refine is_aop ?_); refine a_loadSeq (sz := 3) (rows := l.map trow) (i := p) (j := 1) rfl rfl rfl rfl rfl (tdOk l) (hrow) rfl (by first | rfl | (simp; done) | (simp; omega)) ?_)
    repeat' (first | (refine awd1 ?_) | (((with_reducible refine is_aops ?_); refine o_split rfl rfl rfl (fun hc => ?_) (fun hc => ?_) <;> first | (exfalso; (simp only [decide_eq_true_eq, decide_eq_false_iff_not, beq_iff_eq, beq_eq_false_iff_ne, bne_iff_ne, bne_eq_false_iff_eq, List.length_map, Int.not_lt, Int.not_le] at hc); omega) | rw [hc])) | (((with_reducible refine is_cond ?_); refine c_cond rfl (fun hc => ?_) (fun hc => ?_) <;> first | (exfalso; (simp only [decide_eq_true_eq, decide_eq_false_iff_not, beq_iff_eq, beq_eq_false_iff_ne, bne_iff_ne, bne_eq_false_iff_eq, List.length_map, Int.not_lt, Int.not_le] at hc); omega) | skip)) | (((with_reducible refine is_aop ?_); refine a_pick rfl rfl (fun hc => ?_) (fun hc => ?_) <;> first | (exfalso; (simp only [decide_eq_true_eq, decide_eq_false_iff_not, beq_iff_eq, beq_eq_false_iff_ne, bne_iff_ne, bne_eq_false_iff_eq, List.length_map, Int.not_lt, Int.not_le] at hc); omega) | rw [hc])) | ((with_reducible refine ret1 ?_); first | (refine akc ?_) | (refine aec ?_)) | (with_reducible exact retN) | (with_reducible exact retP) | fail | fail)
    · rw [hlk, if_pos (of_decide_eq_true hc)]
      exact e_ret_to (H' := ca l cp) (rest := []) (Conv.freeSlot (j := 6) rfl) rfl ⟨rfl, rfl⟩ permT (Nat.le_of_ble_eq_true rfl)
    · (with_reducible refine is_aop ?_); first | (refine a_qS rfl (fun _ h => h) ?_ ?_) | (refine a_qS rfl (qIx (fun _ h => h)) ?_ ?_) | (refine a_qS rfl (qAnd5 (fun _ h => h)) ?_ ?_) | (refine a_qS rfl (qStr (fun _ h => h)) ?_ ?_) | (refine a_qS rfl (qAnd4 (fun _ h => h)) ?_ ?_) | (refine a_qS rfl (qAnd2 (fun _ h => h)) ?_ ?_)
      · simp; omega
      refine awd ?_
      ((with_reducible refine is_aop ?_); refine a_loadSeq (sz := 3) (rows := l.map trow) (i := p) (j := 1) rfl rfl rfl rfl rfl (tdOk l) (hrow) rfl (by first | rfl | (simp; done) | (simp; omega)) ?_)
      repeat' (first | (refine awd1 ?_) | (((with_reducible refine is_aops ?_); refine o_split rfl rfl rfl (fun hc => ?_) (fun hc => ?_) <;> first | (exfalso; (simp only [decide_eq_true_eq, decide_eq_false_iff_not, beq_iff_eq, beq_eq_false_iff_ne, bne_iff_ne, bne_eq_false_iff_eq, List.length_map, Int.not_lt, Int.not_le] at hc); omega) | rw [hc])) | (((with_reducible refine is_cond ?_); refine c_cond rfl (fun hc => ?_) (fun hc => ?_) <;> first | (exfalso; (simp only [decide_eq_true_eq, decide_eq_false_iff_not, beq_iff_eq, beq_eq_false_iff_ne, bne_iff_ne, bne_eq_false_iff_eq, List.length_map, Int.not_lt, Int.not_le] at hc); omega) | skip)) | (((with_reducible refine is_aop ?_); refine a_pick rfl rfl (fun hc => ?_) (fun hc => ?_) <;> first | (exfalso; (simp only [decide_eq_true_eq, decide_eq_false_iff_not, beq_iff_eq, beq_eq_false_iff_ne, bne_iff_ne, bne_eq_false_iff_eq, List.length_map, Int.not_lt, Int.not_le] at hc); omega) | rw [hc])) | ((with_reducible refine ret1 ?_); first | (refine akc ?_) | (refine aec ?_)) | (with_reducible exact retN) | (with_reducible exact retP) | fail | fail)
      · (with_reducible refine is_aop ?_); first | (refine a_qS rfl (fun _ h => h) ?_ ?_) | (refine a_qS rfl (qIx (fun _ h => h)) ?_ ?_) | (refine a_qS rfl (qAnd5 (fun _ h => h)) ?_ ?_) | (refine a_qS rfl (qStr (fun _ h => h)) ?_ ?_) | (refine a_qS rfl (qAnd4 (fun _ h => h)) ?_ ?_) | (refine a_qS rfl (qAnd2 (fun _ h => h)) ?_ ?_)
        · simp; omega
        refine awd ?_
        ((with_reducible refine is_aop ?_); refine a_loadSeq (sz := 3) (rows := l.map trow) (i := p) (j := 2) rfl rfl rfl rfl rfl (tdOk l) (hrow) rfl (by first | rfl | (simp; done) | (simp; omega)) ?_)
        repeat' (first | (refine awd1 ?_) | (((with_reducible refine is_aops ?_); refine o_split rfl rfl rfl (fun hc => ?_) (fun hc => ?_) <;> first | (exfalso; (simp only [decide_eq_true_eq, decide_eq_false_iff_not, beq_iff_eq, beq_eq_false_iff_ne, bne_iff_ne, bne_eq_false_iff_eq, List.length_map, Int.not_lt, Int.not_le] at hc); omega) | rw [hc])) | (((with_reducible refine is_cond ?_); refine c_cond rfl (fun hc => ?_) (fun hc => ?_) <;> first | (exfalso; (simp only [decide_eq_true_eq, decide_eq_false_iff_not, beq_iff_eq, beq_eq_false_iff_ne, bne_iff_ne, bne_eq_false_iff_eq, List.length_map, Int.not_lt, Int.not_le] at hc); omega) | skip)) | (((with_reducible refine is_aop ?_); refine a_pick rfl rfl (fun hc => ?_) (fun hc => ?_) <;> first | (exfalso; (simp only [decide_eq_true_eq, decide_eq_false_iff_not, beq_iff_eq, beq_eq_false_iff_ne, bne_iff_ne, bne_eq_false_iff_eq, List.length_map, Int.not_lt, Int.not_le] at hc); omega) | rw [hc])) | ((with_reducible refine ret1 ?_); first | (refine akc ?_) | (refine aec ?_)) | (with_reducible exact retN) | (with_reducible exact retP) | (refine cal [] (hcl) ?_ ?_) | fail)
        rename_i hc1
        rw [hlk, if_neg (of_decide_eq_false hc1), if_pos (of_decide_eq_true hc)]
        exact e_ret (H' := ca l cp) (rest := []) rfl ⟨rfl, rfl⟩ permT (Nat.le_of_ble_eq_true rfl)
      · rename_i hc1
        rw [hlk, if_neg (of_decide_eq_false hc1), if_neg (of_decide_eq_false hc)]
        exact e_ret_to (H' := ca l cp) (rest := []) (Conv.freeSlot (j := 6) rfl) rfl ⟨rfl, rfl⟩ permT (Nat.le_of_ble_eq_true rfl)
  · rename_i hc0
    have hc' := of_decide_eq_false hc
    have hs1 := of_decide_eq_false hc0
    have hk : look l c s = ([], 1) := by
      unfold look
      rw [if_neg hs1]
      cases hq : l[kpos (tkeys l) c]? with
      | none => rfl
      | some t =>
        refine if_neg fun h => hc' ?_
        unfold tkeys at hq ⊢
        rw [List.getElem?_map, hq, ← h]; rfl
    rw [hk]
    exact e_ret_to (H' := ca l cp) (rest := []) (Conv.freeSlot (j := 6) rfl) rfl ⟨rfl, rfl⟩ permT (Nat.le_of_ble_eq_true rfl)
end Go.Proofs.Ytdahnjdkghbieaa
