/- Part 7 of what the laws RowsPlays RowsRanges RowsParts rest on: RtW, RtY, RtZ. -/
import Derived.Test.YtjepgbpcpcahgaaP6
namespace Go.Proofs.Ytjepgbpcpcahgaa
open Go.Am
set_option linter.unusedSimpArgs false
set_option linter.unusedVariables false
set_option maxRecDepth 100000
/-- copies of nothing -/
theorem copies_0 (l : List Nm) (k off cp : Nat) : ACalls Try.prog 44 1 2 [.arr 0 off 0 cp] [(0, .seq (l.map nmrow) k)] (fun out H' => out = .ret (.arr 1 0 0 0) ∧ H' = [(0, .seq (l.map nmrow) k), (1, .seq [] 0)]) := by
  refine no_implicit_lambda% (acalls_of tok dok (f := 44) ⟨Try.func44, rfl, by kernel_rfl⟩ ?_); refine no_implicit_lambda% (c_start (fun _ h => h) ?_)
  repeat' (first | (refine no_implicit_lambda% (awd1 ?_)) | (((with_reducible refine no_implicit_lambda% (is_aops ?_)); refine no_implicit_lambda% (o_split rfl rfl rfl (fun hc => ?_) (fun hc => ?_)) <;> first | exact decx hc | rw [hc])) | (((with_reducible refine no_implicit_lambda% (is_cond ?_)); refine no_implicit_lambda% (c_cond rfl (fun hc => ?_) (fun hc => ?_)) <;> first | exact decx hc | skip)) | (((with_reducible refine no_implicit_lambda% (is_aop ?_)); refine no_implicit_lambda% (a_pick rfl rfl (fun hc => ?_) (fun hc => ?_)) <;> first | exact decx hc | rw [hc])) | (refine no_implicit_lambda% (ans ?_)) | (with_reducible exact retN) | (with_reducible exact retP) | fail | fail)
  refine c_l3 (coSt l k off 0 cp) (fun o cpo j => j = 0 ∧ cpo = 0 ∧ o = []) (fun _ _ _ => 0) [] 0 0 ⟨rfl, rfl, rfl⟩ ((Conv.nilSeq (j := 3) rfl).trans ?_) ?_
  · (refine no_implicit_lambda% (Conv.toT ?_ ?_ (Nat.le_of_ble_eq_true rfl))); (focus ((unfold coSt); (try dsimp only); exact wkl)); (focus ((unfold coSt); (try dsimp only); exact wkh))
  · rintro _ _ _ ⟨rfl, rfl, rfl⟩
    refine c_turn (n' := 2) (fun _ h => h) (fun _ h => h) rfl ?_
    repeat' (first | (refine no_implicit_lambda% (awd1 ?_)) | (((with_reducible refine no_implicit_lambda% (is_aops ?_)); refine no_implicit_lambda% (o_split rfl rfl rfl (fun hc => ?_) (fun hc => ?_)) <;> first | exact decx hc | rw [hc])) | (((with_reducible refine no_implicit_lambda% (is_cond ?_)); refine no_implicit_lambda% (c_cond rfl (fun hc => ?_) (fun hc => ?_)) <;> first | exact decx hc | skip)) | (((with_reducible refine no_implicit_lambda% (is_aop ?_)); refine no_implicit_lambda% (a_pick rfl rfl (fun hc => ?_) (fun hc => ?_)) <;> first | exact decx hc | rw [hc])) | (refine no_implicit_lambda% (ans ?_)) | (with_reducible exact retN) | (with_reducible exact retP) | fail | fail)
    exact e_ret (H' := [(0, .seq (l.map nmrow) k), (1, .seq [] 0)]) (rest := _) rfl ⟨rfl, rfl⟩ permT (Nat.le_of_ble_eq_true rfl)
theorem qFvN {P : Program} {X : (AV → Prop) → Prop} {op : BinOp} {t : TypeId} {x y : Operand} {a b : Value} (v : Value) (h : ∀ K : AV → Prop, fallB P op t x y (some a) (some b) (fun z => fv z K) → X K) (hv : ∀ w, (do eqGuard op t x y a b; binOp op t a b : Sem Value).run P w = .ok v w) : ∀ K : AV → Prop, K (.ofValue v) → X K := fun K hK => h K ⟨v, hv, by show fv (.ofValue v) K; rw [fv_eq]; exact hK⟩
/-- two tables -/
def tb2 (A B : List Nm) (c1 c2 : Nat) : Heap := [(0, .box [.arr 1 0 A.length c1]), (1, .seq (A.map nmrow) ((c1 - A.length) * 2)), (2, .box [.arr 3 0 B.length c2]), (3, .seq (B.map nmrow) ((c2 - B.length) * 2))]
theorem join_nil (T : List Nm) (cp : Nat) : ACalls Try.prog 37 2 2 [.v (.pointer none), .ptr 0 0] (tbl T cp) (fun out H' => out = .ret (.tuple [.v (.pointer none), .v (.int .i64 1)]) ∧ H' = tbl T cp) := by
  refine no_implicit_lambda% (acalls_of tok dok (f := 37) ⟨Try.func37, rfl, by kernel_rfl⟩ ?_); refine no_implicit_lambda% (c_start (fun _ h => h) ?_)
  repeat' (first | (refine no_implicit_lambda% (awd1 ?_)) | (((with_reducible refine no_implicit_lambda% (is_aops ?_)); refine no_implicit_lambda% (o_split rfl rfl rfl (fun hc => ?_) (fun hc => ?_)) <;> first | exact decx hc | rw [hc])) | (((with_reducible refine no_implicit_lambda% (is_cond ?_)); refine no_implicit_lambda% (c_cond rfl (fun hc => ?_) (fun hc => ?_)) <;> first | exact decx hc | skip)) | (((with_reducible refine no_implicit_lambda% (is_aop ?_)); refine no_implicit_lambda% (a_pick rfl rfl (fun hc => ?_) (fun hc => ?_)) <;> first | exact decx hc | rw [hc])) | (refine no_implicit_lambda% (ans ?_)) | (with_reducible exact retN) | (with_reducible exact retP) | fail | fail)
  (with_reducible refine no_implicit_lambda% (is_aop ?_))
  refine a_q1 rfl (qFvN (.bool true) (fun _ h => h) (fun w => rfl)) ?_
  repeat' (first | (refine no_implicit_lambda% (awd1 ?_)) | (((with_reducible refine no_implicit_lambda% (is_aops ?_)); refine no_implicit_lambda% (o_split rfl rfl rfl (fun hc => ?_) (fun hc => ?_)) <;> first | exact decx hc | rw [hc])) | (((with_reducible refine no_implicit_lambda% (is_cond ?_)); refine no_implicit_lambda% (c_cond rfl (fun hc => ?_) (fun hc => ?_)) <;> first | exact decx hc | skip)) | (((with_reducible refine no_implicit_lambda% (is_aop ?_)); refine no_implicit_lambda% (a_pick rfl rfl (fun hc => ?_) (fun hc => ?_)) <;> first | exact decx hc | rw [hc])) | (refine no_implicit_lambda% (ans ?_)) | (with_reducible exact retN) | (with_reducible exact retP) | fail | fail)
  exact e_ret (H' := tbl T cp) (rest := _) rfl ⟨rfl, rfl⟩ permT (Nat.le_of_ble_eq_true rfl)
set_option maxHeartbeats 6400000 in
theorem join_bad (A B : List Nm) (c1 c2 : Nat) (x y : Nm) (hx : A[A.length - 1]? = some x) (hy : B[0]? = some y) (hl : A.length ≤ 1000) (hb : sLt x.n y.n = false) (h1 : A.length ≤ c1) (h2 : c1 ≤ maxLen) (h3 : B.length ≤ c2) (h4 : c2 ≤ maxLen) : ACalls Try.prog 37 4 4 [.ptr 0 0, .ptr 2 0] (tb2 A B c1 c2) (fun out H' => out = .ret (.tuple [.v (.pointer none), .v (.int .i64 1)]) ∧ H' = tb2 A B c1 c2) := by
  have hA := (List.getElem?_eq_some_iff.1 hx).1
  have hB := (List.getElem?_eq_some_iff.1 hy).1
  refine no_implicit_lambda% (acalls_of tok dok (f := 37) ⟨Try.func37, rfl, by kernel_rfl⟩ ?_); refine no_implicit_lambda% (c_start (fun _ h => h) ?_)
  repeat' (first | (refine no_implicit_lambda% (awd1 ?_)) | (((with_reducible refine no_implicit_lambda% (is_aops ?_)); refine no_implicit_lambda% (o_split rfl rfl rfl (fun hc => ?_) (fun hc => ?_)) <;> first | exact decx hc | rw [hc])) | (((with_reducible refine no_implicit_lambda% (is_cond ?_)); refine no_implicit_lambda% (c_cond rfl (fun hc => ?_) (fun hc => ?_)) <;> first | exact decx hc | skip)) | (((with_reducible refine no_implicit_lambda% (is_aop ?_)); refine no_implicit_lambda% (a_pick rfl rfl (fun hc => ?_) (fun hc => ?_)) <;> first | exact decx hc | rw [hc])) | (refine no_implicit_lambda% (ans ?_)) | (with_reducible exact retN) | (with_reducible exact retP) | fail | fail)
  refine no_implicit_lambda% (awd ?_)
  ((with_reducible refine no_implicit_lambda% (is_ev ?_)); refine no_implicit_lambda% (v_split rfl rfl rfl rfl (fun hc => ?_) (fun hc => ?_)) <;> first | exact decx hc | rw [hc])
  refine no_implicit_lambda% (awd ?_)
  ((with_reducible refine no_implicit_lambda% (is_ev ?_)); refine no_implicit_lambda% (v_split rfl rfl rfl rfl (fun hc => ?_) (fun hc => ?_)) <;> first | exact decx hc | rw [hc])
  refine no_implicit_lambda% (awd ?_)
  rw [show IntKind.i64.wrap ((A.length : Int) - 1) = ((A.length - 1 : Nat) : Int) by rw [z64 (by omega) (by omega)]; omega]
  ((with_reducible refine no_implicit_lambda% (is_ev ?_)); first | (refine no_implicit_lambda% (v_yesS rfl rfl rfl rfl rfl rfl (fun _ h => h) (fun _ h => h) ?_ ?_)) | (refine no_implicit_lambda% (v_yesS rfl rfl rfl rfl rfl rfl (qAnd2 (fun _ h => h)) (fun _ h => h) ?_ ?_))); focus (first | omega | (simp; done) | (simp; omega))
  refine no_implicit_lambda% (awd ?_)
  ((with_reducible refine no_implicit_lambda% (is_ev ?_)); first | (refine no_implicit_lambda% (v_q rfl rfl rfl rfl (q_loadSeq (sz := 2) (rows := A.map nmrow) (i := (A.length - 1)) (j := 0) rfl rfl rfl rfl rfl (nmOk A) ((by rw [List.getElem?_map, hx]; rfl)) rfl (by first | rfl | (simp; done) | (simp; omega))) (fun _ h => h) ?_)) | (refine no_implicit_lambda% (v_yes rfl rfl rfl rfl rfl rfl (q_loadSeq (sz := 2) (rows := A.map nmrow) (i := (A.length - 1)) (j := 0) rfl rfl rfl rfl rfl (nmOk A) ((by rw [List.getElem?_map, hx]; rfl)) rfl (by first | rfl | (simp; done) | (simp; omega))) (fun _ h => h) ?_)))
  refine no_implicit_lambda% (awd ?_)
  ((with_reducible refine no_implicit_lambda% (is_ev ?_)); first | (refine no_implicit_lambda% (v_yesS rfl rfl rfl rfl rfl rfl (fun _ h => h) (fun _ h => h) ?_ ?_)) | (refine no_implicit_lambda% (v_yesS rfl rfl rfl rfl rfl rfl (qAnd2 (fun _ h => h)) (fun _ h => h) ?_ ?_))); focus (first | omega | (simp; done) | (simp; omega))
  refine no_implicit_lambda% (awd ?_)
  ((with_reducible refine no_implicit_lambda% (is_ev ?_)); first | (refine no_implicit_lambda% (v_q rfl rfl rfl rfl (q_loadSeq (sz := 2) (rows := B.map nmrow) (i := 0) (j := 0) rfl rfl rfl rfl rfl (nmOk B) ((by rw [List.getElem?_map, hy]; rfl)) rfl (by first | rfl | (simp; done) | (simp; omega))) (fun _ h => h) ?_)) | (refine no_implicit_lambda% (v_yes rfl rfl rfl rfl rfl rfl (q_loadSeq (sz := 2) (rows := B.map nmrow) (i := 0) (j := 0) rfl rfl rfl rfl rfl (nmOk B) ((by rw [List.getElem?_map, hy]; rfl)) rfl (by first | rfl | (simp; done) | (simp; omega))) (fun _ h => h) ?_)))
  refine no_implicit_lambda% (awd ?_)
  repeat' (first | (refine no_implicit_lambda% (awd1 ?_)) | (((with_reducible refine no_implicit_lambda% (is_aops ?_)); refine no_implicit_lambda% (o_split rfl rfl rfl (fun hc => ?_) (fun hc => ?_)) <;> first | exact decx hc | rw [hc])) | (((with_reducible refine no_implicit_lambda% (is_cond ?_)); refine no_implicit_lambda% (c_cond rfl (fun hc => ?_) (fun hc => ?_)) <;> first | exact decx hc | skip)) | (((with_reducible refine no_implicit_lambda% (is_aop ?_)); refine no_implicit_lambda% (a_pick rfl rfl (fun hc => ?_) (fun hc => ?_)) <;> first | exact decx hc | rw [hc])) | (refine no_implicit_lambda% (ans ?_)) | (with_reducible exact retN) | (with_reducible exact retP) | fail | fail)
  · exact e_ret (H' := tb2 A B c1 c2) (rest := _) rfl ⟨rfl, rfl⟩ permT (Nat.le_of_ble_eq_true rfl)
  all_goals
    exfalso
    have h9 : (!sLt x.n y.n) = false := by assumption
    rw [hb] at h9
    cases h9
def joinR (A B : List Nm) (c1 c2 : Nat) (out : AOut) (H' : Heap) : Prop := ∃ cp, (A ++ B).length ≤ cp ∧ cp ≤ maxLen ∧ out = .ret (.tuple [.ptr 7 0, .v (.int .i64 0)]) ∧ H' = tb2 A B c1 c2 ++ [(6, .seq ((A ++ B).map nmrow) ((cp - (A ++ B).length) * 2)), (7, .box [.arr 6 0 (A ++ B).length cp])]
def joSt (A B : List Nm) (c1 c2 : Nat) : ASt := ⟨([.ptr 0 0, .ptr 2 0, .dead, .dead, .dead, .dead, .v (.int .i64 A.length)] ++ List.replicate 39 .dead ++ [.v (.bool false)] ++ List.replicate 21 .dead), tb2 A B c1 c2, 4⟩
set_option maxHeartbeats 6400000 in
theorem join_ok (A B : List Nm) (c1 c2 : Nat) (hl : A.length + B.length ≤ 32) (h0 : 0 < A.length + B.length) (hb : A.length = 0 ∨ B.length = 0 ∨ ∃ x y, A[A.length - 1]? = some x ∧ B[0]? = some y ∧ sLt x.n y.n = true) (hzA : NmSz A) (hzB : NmSz B) (h1 : A.length ≤ c1) (h2 : c1 ≤ maxLen) (h3 : B.length ≤ c2) (h4 : c2 ≤ maxLen) : ACalls Try.prog 37 4 8 [.ptr 0 0, .ptr 2 0] (tb2 A B c1 c2) (joinR A B c1 c2) := by
  have kA := copies_o A ((c1 - A.length) * 2) 0 A.length c1 hzA (by omega) (by omega)
  have kB := copies_o B ((c2 - B.length) * 2) 0 B.length c2 hzB (by omega) (by omega)
  rw [Nat.zero_mul, List.drop_zero, List.take_length] at kA kB
  refine no_implicit_lambda% (acalls_of tok dok (f := 37) ⟨Try.func37, rfl, by kernel_rfl⟩ ?_); refine no_implicit_lambda% (c_start (fun _ h => h) ?_)
  repeat' (first | ((with_reducible refine no_implicit_lambda% (is_aops ?_)); first | (refine no_implicit_lambda% (o_op rfl ?_)) | (refine no_implicit_lambda% (o_yes rfl rfl rfl ?_)) | (refine no_implicit_lambda% (o_no rfl rfl rfl (fun _ h => h) ?_)) | (refine no_implicit_lambda% (o_not rfl rfl rfl (fun _ h => h) ?_))) | ((with_reducible refine no_implicit_lambda% (is_opK ?_)); first | (refine no_implicit_lambda% (k_op' (fun _ h => h) ?_))) | ((with_reducible refine no_implicit_lambda% (is_aop ?_)); first | (refine no_implicit_lambda% (a_q1 rfl (fun _ h => h) ?_)) | (refine no_implicit_lambda% (a_box rfl (fun _ h => h) ?_)) | (refine no_implicit_lambda% (a_alloc rfl (fun _ h => h) ?_)) | (refine no_implicit_lambda% (a_storev rfl (fun _ h => h) ?_)) | (refine no_implicit_lambda% (a_store rfl (fun _ h => h) ?_)) | (refine no_implicit_lambda% (a_panic rfl rfl ?_))) | ((with_reducible refine no_implicit_lambda% (is_aop ?_)); first | (refine no_implicit_lambda% (a_append_tok rfl rfl rfl rfl rfl rfl rfl rfl rfl rfl rfl rfl rfl rfl (by first | rfl | (simp; done)) (fun _ h => h) (by (first | assumption | (intro row hr; simp only [List.mem_cons, List.not_mem_nil, or_false] at hr; rcases hr with rfl | rfl | rfl | rfl <;> rfl) | (intro row hr; simp at hr; done) | (intro row hr; simp only [List.mem_singleton] at hr; subst hr; rfl) | (intro row hr; obtain ⟨_, _, rfl⟩ := List.mem_map.1 hr; rfl))) (by (refine ⟨?_, ?_⟩ <;> (simp only [List.length_map, List.length_append, List.length_cons, List.length_nil]; omega))) ?_)) | (refine no_implicit_lambda% (a_append_full rfl rfl rfl rfl rfl rfl rfl rfl rfl rfl rfl rfl (by (first | assumption | (intro row hr; simp only [List.mem_cons, List.not_mem_nil, or_false] at hr; rcases hr with rfl | rfl | rfl | rfl <;> rfl) | (intro row hr; simp at hr; done) | (intro row hr; simp only [List.mem_singleton] at hr; subst hr; rfl) | (intro row hr; obtain ⟨_, _, rfl⟩ := List.mem_map.1 hr; rfl))) (by (first | assumption | (intro row hr; simp only [List.mem_cons, List.not_mem_nil, or_false] at hr; rcases hr with rfl | rfl | rfl | rfl <;> rfl) | (intro row hr; simp at hr; done) | (intro row hr; simp only [List.mem_singleton] at hr; subst hr; rfl) | (intro row hr; obtain ⟨_, _, rfl⟩ := List.mem_map.1 hr; rfl))) (by (refine ⟨?_, ?_⟩ <;> (simp only [List.length_map, List.length_append, List.length_cons, List.length_nil]; omega))) ?_))) | (first | (with_reducible refine no_implicit_lambda% (c_seq ?_)) | (with_reducible refine no_implicit_lambda% (c_region ?_)) | (with_reducible refine no_implicit_lambda% (c_ret ?_)) | (with_reducible refine no_implicit_lambda% (c_skip ?_)) | (with_reducible refine no_implicit_lambda% (c_block ?_)) | (with_reducible refine no_implicit_lambda% (c_exit ?_)) | (with_reducible refine no_implicit_lambda% (o_nil ?_)) | (with_reducible refine no_implicit_lambda% (k_seq ?_)) | (with_reducible refine no_implicit_lambda% (k_seq_ret ?_)) | (with_reducible refine no_implicit_lambda% (k_seq_exit ?_)) | (with_reducible refine no_implicit_lambda% (k_seq_pan ?_)) | (with_reducible refine no_implicit_lambda% (k_block ?_)) | (with_reducible refine no_implicit_lambda% (k_block_ret ?_)) | (with_reducible refine no_implicit_lambda% (k_block_pan ?_)) | ((with_reducible refine no_implicit_lambda% (is_blockx ?_)); first | (refine no_implicit_lambda% (k_block_here rfl ?_)) | (refine no_implicit_lambda% (k_block_on rfl ?_))) | (with_reducible refine no_implicit_lambda% (k_pan ?_)) | (with_reducible refine no_implicit_lambda% (k_opP ?_)) | (with_reducible refine no_implicit_lambda% (k_loop_ret ?_)) | (with_reducible refine no_implicit_lambda% (k_loop_exit ?_)) | (with_reducible refine no_implicit_lambda% (k_loop_pan ?_)) | (with_reducible refine no_implicit_lambda% (e_end ?_))) | (((with_reducible refine no_implicit_lambda% (is_cond ?_)); first | (refine no_implicit_lambda% (c_true rfl ?_)) | (refine no_implicit_lambda% (c_false rfl ?_)))) | ((with_reducible refine no_implicit_lambda% (is_aop ?_)); refine no_implicit_lambda% (a_qS rfl (qIx (fun _ h => h)) (by first | assumption | exact hpx (by assumption) | exact hpy (by assumption)) ?_)) | (((with_reducible refine no_implicit_lambda% (is_aops ?_)); refine no_implicit_lambda% (o_split rfl rfl rfl (fun hc => ?_) (fun hc => ?_)) <;> first | exact decx hc | rw [hc])) | (((with_reducible refine no_implicit_lambda% (is_cond ?_)); refine no_implicit_lambda% (c_cond rfl (fun hc => ?_) (fun hc => ?_)) <;> first | exact decx hc | skip)) | (((with_reducible refine no_implicit_lambda% (is_aop ?_)); refine no_implicit_lambda% (a_pick rfl rfl (fun hc => ?_) (fun hc => ?_)) <;> first | exact decx hc | rw [hc])) | (refine no_implicit_lambda% (ans ?_)) | (with_reducible exact retN) | (with_reducible exact retP) | fail | fail)
  refine c_cutR (fun _ : Unit => joSt A B c1 c2) (fun _ => True) ?_ ?_
  · rintro ⟨⟩ _
    refine c_turn (n' := 4) (fun _ h => h) (fun _ h => h) rfl ?_
    repeat' (first | (refine no_implicit_lambda% (awd1 ?_)) | (((with_reducible refine no_implicit_lambda% (is_aops ?_)); refine no_implicit_lambda% (o_split rfl rfl rfl (fun hc => ?_) (fun hc => ?_)) <;> first | exact decx hc | rw [hc])) | (((with_reducible refine no_implicit_lambda% (is_cond ?_)); refine no_implicit_lambda% (c_cond rfl (fun hc => ?_) (fun hc => ?_)) <;> first | exact decx hc | skip)) | (((with_reducible refine no_implicit_lambda% (is_aop ?_)); refine no_implicit_lambda% (a_pick rfl rfl (fun hc => ?_) (fun hc => ?_)) <;> first | exact decx hc | rw [hc])) | (refine no_implicit_lambda% (ans ?_)) | (with_reducible exact retN) | (with_reducible exact retP) | fail | fail)
    · exfalso
      have h9 := of_decide_eq_true hc
      rw [z64 (by omega) (by omega)] at h9
      omega
    · (refine no_implicit_lambda% (cal [1] (kA) ?_ ?_))
      · intro xx H' hh
        obtain ⟨d1, d11, d12, h', rfl⟩ := hh
        cases h'
        first | (refine no_implicit_lambda% (akc ?_)) | (refine no_implicit_lambda% (aec ?_))
        repeat' (first | (refine no_implicit_lambda% (awd1 ?_)) | (((with_reducible refine no_implicit_lambda% (is_drB ?_)); refine no_implicit_lambda% (b_two rfl rfl rfl rfl rfl (fun _ h => h) (fun _ h => h) (fun _ h => h) (fun _ h => h) rfl rfl ?_ ?_))) | fail)
        (refine no_implicit_lambda% (cal [3] (kB) ?_ ?_))
        · intro xx H' hh
          obtain ⟨d2, d21, d22, h', rfl⟩ := hh
          cases h'
          first | (refine no_implicit_lambda% (akc ?_)) | (refine no_implicit_lambda% (aec ?_))
          repeat' (first | (refine no_implicit_lambda% (awd1 ?_)) | (((with_reducible refine no_implicit_lambda% (is_drB ?_)); refine no_implicit_lambda% (b_two rfl rfl rfl rfl rfl (fun _ h => h) (fun _ h => h) (fun _ h => h) (fun _ h => h) rfl rfl ?_ ?_))) | fail)
          (with_reducible refine is_aop ?_)
          refine no_implicit_lambda% (a_appSg (sz := 2) (B := 40) (m2 := (A ++ B).length) (rows := A.map nmrow) (rows2 := B.map nmrow) (rows3 := (A ++ B).map nmrow) rfl rfl rfl rfl rfl rfl rfl rfl rfl rfl (fun _ h => h) rfl rfl (fun K h => asrc_seqg (id := 5) (off := 0) (i := 0) (m := (B.map nmrow).length) (cp := d2) (by rw [List.length_map]; rfl) rfl (nmOk B) (by omega) (by simp) (by rw [List.drop_zero, List.take_length]) h) (nmOk A) (nmOk B) (List.length_map ..) rfl ⟨by rw [List.length_map]; omega, by rw [List.length_map]; omega, by rw [List.length_map]; exact h0⟩ (by rw [List.length_map, List.length_append]) List.map_append.symm ?_)
          intro cp f1 f2
          refine no_implicit_lambda% (aec ?_)
          repeat' (first | (refine no_implicit_lambda% (awd1 ?_)) | (((with_reducible refine no_implicit_lambda% (is_drB ?_)); refine no_implicit_lambda% (b_two rfl rfl rfl rfl rfl (fun _ h => h) (fun _ h => h) (fun _ h => h) (fun _ h => h) rfl rfl ?_ ?_))) | fail)
          exact e_ret (H' := tb2 A B c1 c2 ++ [(6, .seq ((A ++ B).map nmrow) ((cp - (A ++ B).length) * 2)), (7, .box [.arr 6 0 (A ++ B).length cp])]) (rest := _) rfl ⟨cp, f1, f2, rfl, rfl⟩ permT (Nat.le_of_ble_eq_true rfl)
        · intro xx H' hh
          obtain ⟨_, _, _, h', _⟩ := hh
          cases h'
      · intro xx H' hh
        obtain ⟨_, _, _, h', _⟩ := hh
        cases h'
  · intro Kx kN kP kR kE
    rcases hb with hb | hb | ⟨x, y, hx, hy, hb⟩
    · have e1 : decide ((A.length : Int) > 0) = false := decide_eq_false (by omega)
      refine no_implicit_lambda% (awd ?_)
      ((with_reducible refine no_implicit_lambda% (is_ev ?_)); refine no_implicit_lambda% (v_split rfl rfl rfl rfl (fun hc => ?_) (fun hc => ?_)) <;> first | exact decx hc | rw [hc])
      refine no_implicit_lambda% (awd ?_)
      refine kN () _ _ _ trivial (.inl ?_)
      (refine no_implicit_lambda% (Conv.toT ?_ ?_ (Nat.le_of_ble_eq_true rfl))); (focus ((unfold joSt); (try dsimp only); exact wkl)); (focus ((unfold joSt); (try dsimp only); exact wkh))
    · refine no_implicit_lambda% (awd ?_)
      ((with_reducible refine no_implicit_lambda% (is_ev ?_)); refine no_implicit_lambda% (v_split rfl rfl rfl rfl (fun hc => ?_) (fun hc => ?_)) <;> first | exact decx hc | rw [hc])
      refine no_implicit_lambda% (awd ?_)
      ((with_reducible refine no_implicit_lambda% (is_ev ?_)); refine no_implicit_lambda% (v_split rfl rfl rfl rfl (fun hc => ?_) (fun hc => ?_)) <;> first | exact decx hc | rw [hc])
      refine no_implicit_lambda% (awd ?_)
      refine kN () _ _ _ trivial (.inl ?_)
      (refine no_implicit_lambda% (Conv.toT ?_ ?_ (Nat.le_of_ble_eq_true rfl))); (focus ((unfold joSt); (try dsimp only); exact wkl)); (focus ((unfold joSt); (try dsimp only); exact wkh))
    · have hA := (List.getElem?_eq_some_iff.1 hx).1
      have hB := (List.getElem?_eq_some_iff.1 hy).1
      refine no_implicit_lambda% (awd ?_)
      ((with_reducible refine no_implicit_lambda% (is_ev ?_)); refine no_implicit_lambda% (v_split rfl rfl rfl rfl (fun hc => ?_) (fun hc => ?_)) <;> first | exact decx hc | rw [hc])
      refine no_implicit_lambda% (awd ?_)
      ((with_reducible refine no_implicit_lambda% (is_ev ?_)); refine no_implicit_lambda% (v_split rfl rfl rfl rfl (fun hc => ?_) (fun hc => ?_)) <;> first | exact decx hc | rw [hc])
      refine no_implicit_lambda% (awd ?_)
      rw [show IntKind.i64.wrap ((A.length : Int) - 1) = ((A.length - 1 : Nat) : Int) by rw [z64 (by omega) (by omega)]; omega]
      ((with_reducible refine no_implicit_lambda% (is_ev ?_)); first | (refine no_implicit_lambda% (v_yesS rfl rfl rfl rfl rfl rfl (fun _ h => h) (fun _ h => h) ?_ ?_)) | (refine no_implicit_lambda% (v_yesS rfl rfl rfl rfl rfl rfl (qAnd2 (fun _ h => h)) (fun _ h => h) ?_ ?_))); focus (first | omega | (simp; done) | (simp; omega))
      refine no_implicit_lambda% (awd ?_)
      ((with_reducible refine no_implicit_lambda% (is_ev ?_)); first | (refine no_implicit_lambda% (v_q rfl rfl rfl rfl (q_loadSeq (sz := 2) (rows := A.map nmrow) (i := (A.length - 1)) (j := 0) rfl rfl rfl rfl rfl (nmOk A) ((by rw [List.getElem?_map, hx]; rfl)) rfl (by first | rfl | (simp; done) | (simp; omega))) (fun _ h => h) ?_)) | (refine no_implicit_lambda% (v_yes rfl rfl rfl rfl rfl rfl (q_loadSeq (sz := 2) (rows := A.map nmrow) (i := (A.length - 1)) (j := 0) rfl rfl rfl rfl rfl (nmOk A) ((by rw [List.getElem?_map, hx]; rfl)) rfl (by first | rfl | (simp; done) | (simp; omega))) (fun _ h => h) ?_)))
      refine no_implicit_lambda% (awd ?_)
      ((with_reducible refine no_implicit_lambda% (is_ev ?_)); first | (refine no_implicit_lambda% (v_yesS rfl rfl rfl rfl rfl rfl (fun _ h => h) (fun _ h => h) ?_ ?_)) | (refine no_implicit_lambda% (v_yesS rfl rfl rfl rfl rfl rfl (qAnd2 (fun _ h => h)) (fun _ h => h) ?_ ?_))); focus (first | omega | (simp; done) | (simp; omega))
      refine no_implicit_lambda% (awd ?_)
      ((with_reducible refine no_implicit_lambda% (is_ev ?_)); first | (refine no_implicit_lambda% (v_q rfl rfl rfl rfl (q_loadSeq (sz := 2) (rows := B.map nmrow) (i := 0) (j := 0) rfl rfl rfl rfl rfl (nmOk B) ((by rw [List.getElem?_map, hy]; rfl)) rfl (by first | rfl | (simp; done) | (simp; omega))) (fun _ h => h) ?_)) | (refine no_implicit_lambda% (v_yes rfl rfl rfl rfl rfl rfl (q_loadSeq (sz := 2) (rows := B.map nmrow) (i := 0) (j := 0) rfl rfl rfl rfl rfl (nmOk B) ((by rw [List.getElem?_map, hy]; rfl)) rfl (by first | rfl | (simp; done) | (simp; omega))) (fun _ h => h) ?_)))
      refine no_implicit_lambda% (awd ?_)
      have h9 : (!Op.bytesLess x.n.toList y.n.toList) = false := by
        have h10 : Op.bytesLess x.n.toList y.n.toList = true := hb
        rw [h10]; rfl
      rw [h9]
      refine kN () _ _ _ trivial (.inl ?_)
      (refine no_implicit_lambda% (Conv.toT ?_ ?_ (Nat.le_of_ble_eq_true rfl))); (focus ((unfold joSt); (try dsimp only); exact wkl)); (focus ((unfold joSt); (try dsimp only); exact wkh))
set_option maxHeartbeats 6400000 in
theorem join_e (c1 c2 : Nat) : ACalls Try.prog 37 4 8 [.ptr 0 0, .ptr 2 0] (tb2 [] [] c1 c2) (joinR [] [] c1 c2) := by
  have kA := copies_0 [] (c1 * 2) 0 c1
  have kB := copies_0 [] (c2 * 2) 0 c2
  refine no_implicit_lambda% (acalls_of tok dok (f := 37) ⟨Try.func37, rfl, by kernel_rfl⟩ ?_); refine no_implicit_lambda% (c_start (fun _ h => h) ?_)
  repeat' (first | (refine no_implicit_lambda% (awd1 ?_)) | (((with_reducible refine no_implicit_lambda% (is_aops ?_)); refine no_implicit_lambda% (o_split rfl rfl rfl (fun hc => ?_) (fun hc => ?_)) <;> first | exact decx hc | rw [hc])) | (((with_reducible refine no_implicit_lambda% (is_cond ?_)); refine no_implicit_lambda% (c_cond rfl (fun hc => ?_) (fun hc => ?_)) <;> first | exact decx hc | skip)) | (((with_reducible refine no_implicit_lambda% (is_aop ?_)); refine no_implicit_lambda% (a_pick rfl rfl (fun hc => ?_) (fun hc => ?_)) <;> first | exact decx hc | rw [hc])) | (refine no_implicit_lambda% (ans ?_)) | (with_reducible exact retN) | (with_reducible exact retP) | fail | fail)
  repeat' (first | (refine no_implicit_lambda% (awd1 ?_)) | (((with_reducible refine no_implicit_lambda% (is_aops ?_)); refine no_implicit_lambda% (o_split rfl rfl rfl (fun hc => ?_) (fun hc => ?_)) <;> first | exact decx hc | rw [hc])) | (((with_reducible refine no_implicit_lambda% (is_cond ?_)); refine no_implicit_lambda% (c_cond rfl (fun hc => ?_) (fun hc => ?_)) <;> first | exact decx hc | skip)) | (((with_reducible refine no_implicit_lambda% (is_aop ?_)); refine no_implicit_lambda% (a_pick rfl rfl (fun hc => ?_) (fun hc => ?_)) <;> first | exact decx hc | rw [hc])) | (((with_reducible refine no_implicit_lambda% (is_ev ?_)); refine no_implicit_lambda% (v_split rfl rfl rfl rfl (fun hc => ?_) (fun hc => ?_)) <;> first | exact decx hc | rw [hc])) | (refine no_implicit_lambda% (ans ?_)) | (with_reducible exact retN) | (with_reducible exact retP) | (refine no_implicit_lambda% (cal [1] (kA) ?_ ?_)) | (refine no_implicit_lambda% (cal [3] (kB) ?_ ?_)) | fail)
  (with_reducible refine is_aop ?_)
  refine no_implicit_lambda% (a_appS0g (sz := 2) (B := 40) (m2 := 0) (rows2 := []) rfl rfl rfl rfl rfl rfl rfl rfl rfl (.inr ⟨4, 0, rfl⟩) rfl rfl (fun K h => asrc_seqg (id := 5) (off := 0) (i := 0) (m := 0) (cp := 0) rfl rfl (nmOk []) (Nat.le_refl _) rfl rfl h) (nmOk []) (by decide) rfl ?_)
  intro cp f1 f2
  refine no_implicit_lambda% (aec ?_)
  repeat' (first | (refine no_implicit_lambda% (awd1 ?_)) | (((with_reducible refine no_implicit_lambda% (is_drB ?_)); refine no_implicit_lambda% (b_two rfl rfl rfl rfl rfl (fun _ h => h) (fun _ h => h) (fun _ h => h) (fun _ h => h) rfl rfl ?_ ?_))) | fail)
  exact e_ret (H' := tb2 [] [] c1 c2 ++ [(6, .seq [] ((cp - 0) * 2)), (7, .box [.arr 6 0 0 cp])]) (rest := _) rfl ⟨cp, Nat.zero_le _, f2, rfl, rfl⟩ permT (Nat.le_of_ble_eq_true rfl)
theorem join_c (A B : List Nm) (c1 c2 : Nat) (hl : A.length + B.length ≤ 32) (hb : A.length = 0 ∨ B.length = 0 ∨ ∃ x y, A[A.length - 1]? = some x ∧ B[0]? = some y ∧ sLt x.n y.n = true) (hzA : NmSz A) (hzB : NmSz B) (h1 : A.length ≤ c1) (h2 : c1 ≤ maxLen) (h3 : B.length ≤ c2) (h4 : c2 ≤ maxLen) : ACalls Try.prog 37 4 8 [.ptr 0 0, .ptr 2 0] (tb2 A B c1 c2) (joinR A B c1 c2) := by
  rcases Nat.eq_zero_or_pos (A.length + B.length) with h0 | h0
  · obtain rfl : A = [] := List.eq_nil_of_length_eq_zero (by omega)
    obtain rfl : B = [] := List.eq_nil_of_length_eq_zero (by simpa using h0)
    exact join_e c1 c2
  · exact join_ok A B c1 c2 hl h0 hb hzA hzB h1 h2 h3 h4
end Go.Proofs.Ytjepgbpcpcahgaa
namespace Go.Proofs.Ytjepgbpcpcahgaa
open Go.Am
set_option linter.unusedSimpArgs false
set_option linter.unusedVariables false
set_option maxRecDepth 100000
def rbSt6 (Q : List Nm) (s : ByteArray) (i : Nat) : ASt := ⟨([.list (Q.map nmrow) .free, .v (.string s), .dead, .dead, .dead, .dead, .v (.int .i64 i)] ++ List.replicate 25 .dead), [], 0⟩
set_option maxHeartbeats 6400000 in
theorem rbelow_c (Q : List Nm) (s : ByteArray) (hQ : TbOk Q) : ACalls Try.prog 36 0 20 [.list (Q.map nmrow) .free, .v (.string s)] [] (fun out H' => out = .ret (.tuple [.list ((Q.take (npos (nk Q) s)).map nmrow) .free, .list ((Q.drop (npos (nk Q) s)).map nmrow) .free]) ∧ H' = []) := by
  have hl := hQ.len
  have hpl := npos_le (nk Q) s
  rw [nk_len] at hpl
  refine no_implicit_lambda% (acalls_of tok dok (f := 36) ⟨Try.func36, rfl, by kernel_rfl⟩ ?_); refine no_implicit_lambda% (c_start (fun _ h => h) ?_)
  repeat' (first | (refine no_implicit_lambda% (awd1 ?_)) | (((with_reducible refine no_implicit_lambda% (is_aops ?_)); refine no_implicit_lambda% (o_split rfl rfl rfl (fun hc => ?_) (fun hc => ?_)) <;> first | exact decx hc | rw [hc])) | (((with_reducible refine no_implicit_lambda% (is_cond ?_)); refine no_implicit_lambda% (c_cond rfl (fun hc => ?_) (fun hc => ?_)) <;> first | exact decx hc | skip)) | (((with_reducible refine no_implicit_lambda% (is_aop ?_)); refine no_implicit_lambda% (a_pick rfl rfl (fun hc => ?_) (fun hc => ?_)) <;> first | exact decx hc | rw [hc])) | (refine no_implicit_lambda% (ans ?_)) | (with_reducible exact retN) | (with_reducible exact retP) | fail | fail)
  refine c_loop' (rbSt6 Q s) (fun i => i ≤ npos (nk Q) s) (fun i => Q.length - i) (a := 0) (Nat.zero_le _) ?_ ?_
  · (refine no_implicit_lambda% (Conv.toT ?_ ?_ (Nat.le_of_ble_eq_true rfl))); (focus ((unfold rbSt6); (try dsimp only); exact wkl)); (focus ((unfold rbSt6); (try dsimp only); exact wkh))
  · rintro i i1
    refine c_turn (n' := 0) (fun _ h => h) (fun _ h => h) rfl ?_
    have hfin : i = npos (nk Q) s → True := fun _ => trivial
    rcases hx : Q[i]? with _ | x
    · have hil : Q.length ≤ i := List.getElem?_eq_none_iff.1 hx
      have hi : i = npos (nk Q) s := by omega
      repeat' (first | (refine no_implicit_lambda% (awd1 ?_)) | (((with_reducible refine no_implicit_lambda% (is_aops ?_)); refine no_implicit_lambda% (o_split rfl rfl rfl (fun hc => ?_) (fun hc => ?_)) <;> first | exact decx hc | rw [hc])) | (((with_reducible refine no_implicit_lambda% (is_cond ?_)); refine no_implicit_lambda% (c_cond rfl (fun hc => ?_) (fun hc => ?_)) <;> first | exact decx hc | skip)) | (((with_reducible refine no_implicit_lambda% (is_aop ?_)); refine no_implicit_lambda% (a_pick rfl rfl (fun hc => ?_) (fun hc => ?_)) <;> first | exact decx hc | rw [hc])) | (refine no_implicit_lambda% (ans ?_)) | (with_reducible exact retN) | (with_reducible exact retP) | fail | fail)
      ((with_reducible refine no_implicit_lambda% (is_ev ?_)); refine no_implicit_lambda% (v_qS rfl rfl rfl rfl (qAnd5 (fun _ h => h)) (fun _ h => h) ?_ ?_)); focus ((repeat' (refine And.intro ?_ ?_)) <;> (first | exact trivial | exact (nmOk Q).len | exact Int.natCast_nonneg _ | omega | (simp; done) | (simp; omega) | ((show (0 : Int) ≤ _); omega)))
      repeat' (first | (refine no_implicit_lambda% (awd1 ?_)) | (((with_reducible refine no_implicit_lambda% (is_aops ?_)); refine no_implicit_lambda% (o_split rfl rfl rfl (fun hc => ?_) (fun hc => ?_)) <;> first | exact decx hc | rw [hc])) | (((with_reducible refine no_implicit_lambda% (is_cond ?_)); refine no_implicit_lambda% (c_cond rfl (fun hc => ?_) (fun hc => ?_)) <;> first | exact decx hc | skip)) | (((with_reducible refine no_implicit_lambda% (is_aop ?_)); refine no_implicit_lambda% (a_pick rfl rfl (fun hc => ?_) (fun hc => ?_)) <;> first | exact decx hc | rw [hc])) | (((with_reducible refine no_implicit_lambda% (is_ev ?_)); refine no_implicit_lambda% (v_split rfl rfl rfl rfl (fun hc => ?_) (fun hc => ?_)) <;> first | exact decx hc | rw [hc])) | (refine no_implicit_lambda% (ans ?_)) | (with_reducible exact retN) | (with_reducible exact retP) | fail | fail)
      ((with_reducible refine no_implicit_lambda% (is_ev ?_)); refine no_implicit_lambda% (v_qS rfl rfl rfl rfl (qAnd5 (fun _ h => h)) (fun _ h => h) ?_ ?_)); focus ((repeat' (refine And.intro ?_ ?_)) <;> (first | exact trivial | exact (nmOk Q).len | exact Int.natCast_nonneg _ | omega | (simp; done) | (simp; omega) | ((show (0 : Int) ≤ _); omega)))
      repeat' (first | (refine no_implicit_lambda% (awd1 ?_)) | (((with_reducible refine no_implicit_lambda% (is_aops ?_)); refine no_implicit_lambda% (o_split rfl rfl rfl (fun hc => ?_) (fun hc => ?_)) <;> first | exact decx hc | rw [hc])) | (((with_reducible refine no_implicit_lambda% (is_cond ?_)); refine no_implicit_lambda% (c_cond rfl (fun hc => ?_) (fun hc => ?_)) <;> first | exact decx hc | skip)) | (((with_reducible refine no_implicit_lambda% (is_aop ?_)); refine no_implicit_lambda% (a_pick rfl rfl (fun hc => ?_) (fun hc => ?_)) <;> first | exact decx hc | rw [hc])) | (((with_reducible refine no_implicit_lambda% (is_ev ?_)); refine no_implicit_lambda% (v_split rfl rfl rfl rfl (fun hc => ?_) (fun hc => ?_)) <;> first | exact decx hc | rw [hc])) | (refine no_implicit_lambda% (ans ?_)) | (with_reducible exact retN) | (with_reducible exact retP) | fail | fail)
      have e1 : List.drop 0 (List.take (i : Int).toNat (Q.map nmrow)) = (Q.take i).map nmrow := by rw [Int.toNat_natCast, List.drop_zero, List.map_take]
      have e2 : List.drop (i : Int).toNat (List.take (Q.map nmrow).length (Q.map nmrow)) = (Q.drop i).map nmrow := by rw [Int.toNat_natCast, List.take_length, List.map_drop]
      rw [e1, e2, hi]
      generalize npos (nk Q) s = p at *
      have r1 : ∀ row ∈ (Q.take p).map nmrow, row.length = 2 := (nmOk _).len
      have r2 : ∀ row ∈ (Q.drop p).map nmrow, row.length = 2 := (nmOk _).len
      have b1 : ((Q.take p).map nmrow).length ≤ 40 := by rw [List.length_map, List.length_take]; omega
      have b2 : ((Q.drop p).map nmrow).length ≤ 40 := by rw [List.length_map, List.length_drop]; omega
      have b3 : (Q.take p).length ≤ 40 := by rw [List.length_take]; omega
      have b4 : (Q.drop p).length ≤ 40 := by rw [List.length_drop]; omega
      have b5 : ([] ++ (Q.take p).map nmrow).length ≤ 40 := by rw [List.nil_append]; exact b1
      have b6 : ([] ++ (Q.drop p).map nmrow).length ≤ 40 := by rw [List.nil_append]; exact b2
      repeat' (first | (refine no_implicit_lambda% (awd1 ?_)) | (((with_reducible refine no_implicit_lambda% (is_drB ?_)); refine no_implicit_lambda% (b_two rfl rfl rfl rfl rfl (fun _ h => h) (fun _ h => h) (fun _ h => h) (fun _ h => h) rfl rfl ?_ ?_))) | fail)
      exact e_ret_to (H' := []) (rest := _) ((Conv.freeSlot 4 rfl).trans (.freeSlot 5 rfl)) rfl ⟨rfl, rfl⟩ (.refl _) (Nat.le_of_ble_eq_true rfl)
    · have hil : i < Q.length := (List.getElem?_eq_some_iff.1 hx).1
      have hix := nmx hx
      have hk := npos_lt (s := s) hQ.srt (nk_at hx)
      repeat' (first | (refine no_implicit_lambda% (awd1 ?_)) | (((with_reducible refine no_implicit_lambda% (is_aops ?_)); refine no_implicit_lambda% (o_split rfl rfl rfl (fun hc => ?_) (fun hc => ?_)) <;> first | exact decx hc | rw [hc])) | (((with_reducible refine no_implicit_lambda% (is_cond ?_)); refine no_implicit_lambda% (c_cond rfl (fun hc => ?_) (fun hc => ?_)) <;> first | exact decx hc | skip)) | (((with_reducible refine no_implicit_lambda% (is_aop ?_)); refine no_implicit_lambda% (a_pick rfl rfl (fun hc => ?_) (fun hc => ?_)) <;> first | exact decx hc | rw [hc])) | (refine no_implicit_lambda% (ans ?_)) | (with_reducible exact retN) | (with_reducible exact retP) | fail | fail)
      · (refine no_implicit_lambda% (k_loopLT (i + 1) 0 [] (show i + 1 ≤ npos (nk Q) s from hk.2 (by assumption)) (by first | omega | (simp; done) | (simp; omega)) (Nat.le_of_ble_eq_true rfl) (fun _ h => h) (fun _ h => h) ?_ ?_)); (focus ((try dsimp only); exact wkl)); (focus ((try dsimp only); exact wkh))
      · have hi : i = npos (nk Q) s := by
          have h9 : ¬ i < npos (nk Q) s := fun h => by
            have h10 := hk.1 h
            have h11 : sLt x.n s = false := by assumption
            rw [h10] at h11; cases h11
          omega
        ((with_reducible refine no_implicit_lambda% (is_ev ?_)); refine no_implicit_lambda% (v_qS rfl rfl rfl rfl (qAnd5 (fun _ h => h)) (fun _ h => h) ?_ ?_)); focus ((repeat' (refine And.intro ?_ ?_)) <;> (first | exact trivial | exact (nmOk Q).len | exact Int.natCast_nonneg _ | omega | (simp; done) | (simp; omega) | ((show (0 : Int) ≤ _); omega)))
        repeat' (first | (refine no_implicit_lambda% (awd1 ?_)) | (((with_reducible refine no_implicit_lambda% (is_aops ?_)); refine no_implicit_lambda% (o_split rfl rfl rfl (fun hc => ?_) (fun hc => ?_)) <;> first | exact decx hc | rw [hc])) | (((with_reducible refine no_implicit_lambda% (is_cond ?_)); refine no_implicit_lambda% (c_cond rfl (fun hc => ?_) (fun hc => ?_)) <;> first | exact decx hc | skip)) | (((with_reducible refine no_implicit_lambda% (is_aop ?_)); refine no_implicit_lambda% (a_pick rfl rfl (fun hc => ?_) (fun hc => ?_)) <;> first | exact decx hc | rw [hc])) | (((with_reducible refine no_implicit_lambda% (is_ev ?_)); refine no_implicit_lambda% (v_split rfl rfl rfl rfl (fun hc => ?_) (fun hc => ?_)) <;> first | exact decx hc | rw [hc])) | (refine no_implicit_lambda% (ans ?_)) | (with_reducible exact retN) | (with_reducible exact retP) | fail | fail)
        ((with_reducible refine no_implicit_lambda% (is_ev ?_)); refine no_implicit_lambda% (v_qS rfl rfl rfl rfl (qAnd5 (fun _ h => h)) (fun _ h => h) ?_ ?_)); focus ((repeat' (refine And.intro ?_ ?_)) <;> (first | exact trivial | exact (nmOk Q).len | exact Int.natCast_nonneg _ | omega | (simp; done) | (simp; omega) | ((show (0 : Int) ≤ _); omega)))
        repeat' (first | (refine no_implicit_lambda% (awd1 ?_)) | (((with_reducible refine no_implicit_lambda% (is_aops ?_)); refine no_implicit_lambda% (o_split rfl rfl rfl (fun hc => ?_) (fun hc => ?_)) <;> first | exact decx hc | rw [hc])) | (((with_reducible refine no_implicit_lambda% (is_cond ?_)); refine no_implicit_lambda% (c_cond rfl (fun hc => ?_) (fun hc => ?_)) <;> first | exact decx hc | skip)) | (((with_reducible refine no_implicit_lambda% (is_aop ?_)); refine no_implicit_lambda% (a_pick rfl rfl (fun hc => ?_) (fun hc => ?_)) <;> first | exact decx hc | rw [hc])) | (((with_reducible refine no_implicit_lambda% (is_ev ?_)); refine no_implicit_lambda% (v_split rfl rfl rfl rfl (fun hc => ?_) (fun hc => ?_)) <;> first | exact decx hc | rw [hc])) | (refine no_implicit_lambda% (ans ?_)) | (with_reducible exact retN) | (with_reducible exact retP) | fail | fail)
        have e1 : List.drop 0 (List.take (i : Int).toNat (Q.map nmrow)) = (Q.take i).map nmrow := by rw [Int.toNat_natCast, List.drop_zero, List.map_take]
        have e2 : List.drop (i : Int).toNat (List.take (Q.map nmrow).length (Q.map nmrow)) = (Q.drop i).map nmrow := by rw [Int.toNat_natCast, List.take_length, List.map_drop]
        rw [e1, e2, hi]
        generalize npos (nk Q) s = p at *
        have r1 : ∀ row ∈ (Q.take p).map nmrow, row.length = 2 := (nmOk _).len
        have r2 : ∀ row ∈ (Q.drop p).map nmrow, row.length = 2 := (nmOk _).len
        have b1 : ((Q.take p).map nmrow).length ≤ 40 := by rw [List.length_map, List.length_take]; omega
        have b2 : ((Q.drop p).map nmrow).length ≤ 40 := by rw [List.length_map, List.length_drop]; omega
        have b3 : (Q.take p).length ≤ 40 := by rw [List.length_take]; omega
        have b4 : (Q.drop p).length ≤ 40 := by rw [List.length_drop]; omega
        have b5 : ([] ++ (Q.take p).map nmrow).length ≤ 40 := by rw [List.nil_append]; exact b1
        have b6 : ([] ++ (Q.drop p).map nmrow).length ≤ 40 := by rw [List.nil_append]; exact b2
        repeat' (first | (refine no_implicit_lambda% (awd1 ?_)) | (((with_reducible refine no_implicit_lambda% (is_drB ?_)); refine no_implicit_lambda% (b_two rfl rfl rfl rfl rfl (fun _ h => h) (fun _ h => h) (fun _ h => h) (fun _ h => h) rfl rfl ?_ ?_))) | fail)
        exact e_ret_to (H' := []) (rest := _) ((Conv.freeSlot 4 rfl).trans (.freeSlot 5 rfl)) rfl ⟨rfl, rfl⟩ (.refl _) (Nat.le_of_ble_eq_true rfl)
end Go.Proofs.Ytjepgbpcpcahgaa
namespace Go.Proofs.Ytjepgbpcpcahgaa
open Go.Am
set_option linter.unusedSimpArgs false
set_option linter.unusedVariables false
set_option maxRecDepth 100000
theorem TbOk.sub {Q A : List Nm} (h : TbOk Q) (hs : A.Sublist Q) : TbOk A :=
  ⟨List.Pairwise.sublist (hs.map _) h.srt, Nat.le_trans hs.length_le h.len, fun x hx => h.sz x (hs.subset hx), fun x hx => h.nm x (hs.subset hx)⟩
theorem tsplit_d (Q : List Nm) (s : ByteArray) (cp : Nat) (hQ : TbOk Q) (h1 : Q.length ≤ cp) (h2 : cp ≤ maxLen) : ∃ A B, A ++ B = Q ∧ A = Q.take (npos (nk Q) s) ∧ B = Q.drop (npos (nk Q) s) ∧ ACalls Try.prog 35 2 6 [.ptr 0 0, .v (.string s)] (tbl Q cp) (fun out H' => ∃ c1 c2, A.length ≤ c1 ∧ c1 ≤ maxLen ∧ B.length ≤ c2 ∧ c2 ≤ maxLen ∧ out = .ret (.tuple [.ptr 3 0, .ptr 5 0]) ∧ H' = tbl Q cp ++ [(2, .seq (A.map nmrow) ((c1 - A.length) * 2)), (3, .box [.arr 2 0 A.length c1]), (4, .seq (B.map nmrow) ((c2 - B.length) * 2)), (5, .box [.arr 4 0 B.length c2])]) := by
  have h := tsplit_c Q s cp hQ h1 h2
  have hp := npos_le (nk Q) s
  rw [nk_len] at hp
  have eA : (Q.take (npos (nk Q) s)).length = npos (nk Q) s := by rw [List.length_take]; omega
  have eB : (Q.drop (npos (nk Q) s)).length = Q.length - npos (nk Q) s := List.length_drop ..
  refine ⟨_, _, List.take_append_drop (npos (nk Q) s) Q, rfl, rfl, ?_⟩
  rw [eA, eB]
  exact h
set_option maxHeartbeats 6400000 in
theorem parts6_rc (l : List Nk) (hl : ∀ a ∈ l, NkOk a) (h : l.length ≤ 9223372036854775807) (at' : ByteArray) : ACalls Try.prog 10 0 5000000 [.list (l.map nkrow) .free, .v (.string at')] [] (fun out H' => out = .ret (.v (.bool true)) ∧ H' = []) := by
  have hp := play6_d l hl h
  have hk := known6_c
  obtain ⟨s, _, hs⟩ := head_e at' 4 (by decide)
  refine no_implicit_lambda% (acalls_of tok dok (f := 10) ⟨Try.func10, rfl, by kernel_rfl⟩ ?_); refine no_implicit_lambda% (c_start (fun _ h => h) ?_)
  repeat' (first | (refine no_implicit_lambda% (awd1 ?_)) | (((with_reducible refine no_implicit_lambda% (is_aops ?_)); refine no_implicit_lambda% (o_split rfl rfl rfl (fun hc => ?_) (fun hc => ?_)) <;> first | exact decx hc | rw [hc])) | (((with_reducible refine no_implicit_lambda% (is_cond ?_)); refine no_implicit_lambda% (c_cond rfl (fun hc => ?_) (fun hc => ?_)) <;> first | exact decx hc | skip)) | (((with_reducible refine no_implicit_lambda% (is_aop ?_)); refine no_implicit_lambda% (a_pick rfl rfl (fun hc => ?_) (fun hc => ?_)) <;> first | exact decx hc | rw [hc])) | (((with_reducible refine no_implicit_lambda% (is_ev ?_)); refine no_implicit_lambda% (v_split rfl rfl rfl rfl (fun hc => ?_) (fun hc => ?_)) <;> first | exact decx hc | rw [hc])) | (refine no_implicit_lambda% (ans ?_)) | (with_reducible exact retN) | (with_reducible exact retP) | ((with_reducible refine no_implicit_lambda% (ret1 ?_)); first | (refine no_implicit_lambda% (akcs ?_)) | (refine no_implicit_lambda% (aecs ?_))) | fail | (((with_reducible refine no_implicit_lambda% (is_effK ?_)); refine no_implicit_lambda% (aecs ?_))) | (((with_reducible refine no_implicit_lambda% (is_drB ?_)); refine no_implicit_lambda% (b_ends ?_))) | (((with_reducible refine no_implicit_lambda% (is_aop ?_)); refine no_implicit_lambda% (a_stores ?_))) | ((with_reducible refine no_implicit_lambda% (is_aop ?_)); first | (refine no_implicit_lambda% (a_append_tok rfl rfl rfl rfl rfl rfl rfl rfl rfl rfl rfl rfl rfl rfl (by first | rfl | (simp; done)) (fun q hq => by rw [forceH_eq]; exact hq) (by (first | assumption | (intro row hr; simp only [List.mem_cons, List.not_mem_nil, or_false] at hr; rcases hr with rfl | rfl | rfl | rfl <;> rfl) | (intro row hr; simp at hr; done) | (intro row hr; simp only [List.mem_singleton] at hr; subst hr; rfl) | (intro row hr; obtain ⟨_, _, rfl⟩ := List.mem_map.1 hr; rfl))) (by (refine ⟨?_, ?_⟩ <;> (simp only [List.length_map, List.length_append, List.length_cons, List.length_nil]; omega))) ?_))) | fail)
  (refine no_implicit_lambda% (cal [] (hp) ?_ ?_))
  · intro xx H' hh
    obtain ⟨Q, cp, _, hQ, c1, c2, h', rfl⟩ := hh
    cases h'
    first | (refine no_implicit_lambda% (akc ?_)) | (refine no_implicit_lambda% (aec ?_))
    obtain ⟨A, B, hAB, hA, hB, hsp⟩ := tsplit_d Q s cp hQ c1 c2
    have hQA : TbOk A := by rw [hA]; exact hQ.sub (List.take_sublist ..)
    have hQB : TbOk B := by rw [hB]; exact hQ.sub (List.drop_sublist ..)
    have hlen : A.length + B.length = Q.length := by rw [← hAB, List.length_append]
    have hl32 := hQ.len
    have hbl := rbelow_c Q s hQ
    rw [← hA, ← hB] at hbl
    repeat' (first | (refine no_implicit_lambda% (awd1 ?_)) | (((with_reducible refine no_implicit_lambda% (is_aops ?_)); refine no_implicit_lambda% (o_split rfl rfl rfl (fun hc => ?_) (fun hc => ?_)) <;> first | exact decx hc | rw [hc])) | (((with_reducible refine no_implicit_lambda% (is_cond ?_)); refine no_implicit_lambda% (c_cond rfl (fun hc => ?_) (fun hc => ?_)) <;> first | exact decx hc | skip)) | (((with_reducible refine no_implicit_lambda% (is_aop ?_)); refine no_implicit_lambda% (a_pick rfl rfl (fun hc => ?_) (fun hc => ?_)) <;> first | exact decx hc | rw [hc])) | (((with_reducible refine no_implicit_lambda% (is_ev ?_)); refine no_implicit_lambda% (v_split rfl rfl rfl rfl (fun hc => ?_) (fun hc => ?_)) <;> first | exact decx hc | rw [hc])) | (refine no_implicit_lambda% (ans ?_)) | (with_reducible exact retN) | (with_reducible exact retP) | ((with_reducible refine no_implicit_lambda% (ret1 ?_)); first | (refine no_implicit_lambda% (akcs ?_)) | (refine no_implicit_lambda% (aecs ?_))) | (refine no_implicit_lambda% (cal [] (hs) ?_ ?_)) | (((with_reducible refine no_implicit_lambda% (is_effK ?_)); refine no_implicit_lambda% (aecs ?_))) | (((with_reducible refine no_implicit_lambda% (is_drB ?_)); refine no_implicit_lambda% (b_ends ?_))) | (((with_reducible refine no_implicit_lambda% (is_aop ?_)); refine no_implicit_lambda% (a_stores ?_))) | ((with_reducible refine no_implicit_lambda% (is_aop ?_)); first | (refine no_implicit_lambda% (a_append_tok rfl rfl rfl rfl rfl rfl rfl rfl rfl rfl rfl rfl rfl rfl (by first | rfl | (simp; done)) (fun q hq => by rw [forceH_eq]; exact hq) (by (first | assumption | (intro row hr; simp only [List.mem_cons, List.not_mem_nil, or_false] at hr; rcases hr with rfl | rfl | rfl | rfl <;> rfl) | (intro row hr; simp at hr; done) | (intro row hr; simp only [List.mem_singleton] at hr; subst hr; rfl) | (intro row hr; obtain ⟨_, _, rfl⟩ := List.mem_map.1 hr; rfl))) (by (refine ⟨?_, ?_⟩ <;> (simp only [List.length_map, List.length_append, List.length_cons, List.length_nil]; omega))) ?_))) | fail)
    (refine no_implicit_lambda% (cal [0, 1] (hsp) ?_ ?_))
    · intro xx H' hh
      obtain ⟨d1, d2, d11, d12, d21, d22, h', rfl⟩ := hh
      cases h'
      first | (refine no_implicit_lambda% (akc ?_)) | (refine no_implicit_lambda% (aec ?_))
      have lA := tlen_c A d1
      have lB := tlen_c B d2
      have lQ := tlen_c Q cp
      have tA := tells6_c A ⟨#[]⟩ ⟨#[]⟩ 20 d1 hQA d11 d12 (by decide)
      have tB := tells6_c B ⟨#[]⟩ ⟨#[]⟩ 20 d2 hQB d21 d22 (by decide)
      have tQ := tells6_c Q ⟨#[]⟩ ⟨#[]⟩ 20 cp hQ c1 c2 (by decide)
      repeat' (first | (refine no_implicit_lambda% (awd1 ?_)) | (((with_reducible refine no_implicit_lambda% (is_aops ?_)); refine no_implicit_lambda% (o_split rfl rfl rfl (fun hc => ?_) (fun hc => ?_)) <;> first | exact decx hc | rw [hc])) | (((with_reducible refine no_implicit_lambda% (is_cond ?_)); refine no_implicit_lambda% (c_cond rfl (fun hc => ?_) (fun hc => ?_)) <;> first | exact decx hc | skip)) | (((with_reducible refine no_implicit_lambda% (is_aop ?_)); refine no_implicit_lambda% (a_pick rfl rfl (fun hc => ?_) (fun hc => ?_)) <;> first | exact decx hc | rw [hc])) | (((with_reducible refine no_implicit_lambda% (is_ev ?_)); refine no_implicit_lambda% (v_split rfl rfl rfl rfl (fun hc => ?_) (fun hc => ?_)) <;> first | exact decx hc | rw [hc])) | (refine no_implicit_lambda% (ans ?_)) | (with_reducible exact retN) | (with_reducible exact retP) | ((with_reducible refine no_implicit_lambda% (ret1 ?_)); first | (refine no_implicit_lambda% (akcs ?_)) | (refine no_implicit_lambda% (aecs ?_))) | (refine no_implicit_lambda% (cal [3, 2] (lA) ?_ ?_)) | (refine no_implicit_lambda% (cal [5, 4] (lB) ?_ ?_)) | (refine no_implicit_lambda% (cal [0, 1] (lQ) ?_ ?_)) | (refine no_implicit_lambda% (cal [] (hbl) ?_ ?_)) | (refine no_implicit_lambda% (cal [3, 2] (tA) ?_ ?_)) | (refine no_implicit_lambda% (cal [5, 4] (tB) ?_ ?_)) | (refine no_implicit_lambda% (cal [0, 1] (tQ) ?_ ?_)) | (((with_reducible refine no_implicit_lambda% (is_effK ?_)); refine no_implicit_lambda% (aecs ?_))) | (((with_reducible refine no_implicit_lambda% (is_drB ?_)); refine no_implicit_lambda% (b_ends ?_))) | (((with_reducible refine no_implicit_lambda% (is_aop ?_)); refine no_implicit_lambda% (a_stores ?_))) | ((with_reducible refine no_implicit_lambda% (is_aop ?_)); first | (refine no_implicit_lambda% (a_append_tok rfl rfl rfl rfl rfl rfl rfl rfl rfl rfl rfl rfl rfl rfl (by first | rfl | (simp; done)) (fun q hq => by rw [forceH_eq]; exact hq) (by (first | assumption | (intro row hr; simp only [List.mem_cons, List.not_mem_nil, or_false] at hr; rcases hr with rfl | rfl | rfl | rfl <;> rfl) | (intro row hr; simp at hr; done) | (intro row hr; simp only [List.mem_singleton] at hr; subst hr; rfl) | (intro row hr; obtain ⟨_, _, rfl⟩ := List.mem_map.1 hr; rfl))) (by (refine ⟨?_, ?_⟩ <;> (simp only [List.length_map, List.length_append, List.length_cons, List.length_nil]; omega))) ?_))) | fail)
      · exfalso
        rw [z64 (by omega) (by omega)] at hc
        simp at hc
        omega
      have hord : 0 < A.length → 0 < B.length → ∃ x y u v, A[A.length - 1]? = some x ∧ B[0]? = some y ∧ sLt x.n y.n = true ∧ B[B.length - 1]? = some u ∧ A[0]? = some v ∧ sLt u.n v.n = false := fun ha hb => by
        have g : ∀ i, i < A.length → Q[i]? = A[i]? := fun i hi => by rw [← hAB, List.getElem?_append_left hi]
        have g2 : ∀ i, Q[A.length + i]? = B[i]? := fun i => by rw [← hAB, List.getElem?_append_right (by omega), Nat.add_sub_cancel_left]
        obtain ⟨x, hx⟩ : ∃ x, A[A.length - 1]? = some x := ⟨_, List.getElem?_eq_getElem (by omega)⟩
        obtain ⟨y, hy⟩ : ∃ x, B[0]? = some x := ⟨_, List.getElem?_eq_getElem (by omega)⟩
        obtain ⟨u, hu⟩ : ∃ x, B[B.length - 1]? = some x := ⟨_, List.getElem?_eq_getElem (by omega)⟩
        obtain ⟨v, hv⟩ : ∃ x, A[0]? = some x := ⟨_, List.getElem?_eq_getElem (by omega)⟩
        refine ⟨x, y, u, v, hx, hy, nmAt_lt hQ ((g _ (by omega)).trans hx) ((g2 0).trans hy) (by omega), hu, hv, ?_⟩
        have h9 := sLt_not (nmAt_lt hQ ((g 0 ha).trans hv) ((g2 (B.length - 1)).trans hu) (by omega))
        exact (Bool.or_eq_false_iff.1 h9).1
      have hj := join_c A B d1 d2 (by omega) (by
        rcases Nat.eq_zero_or_pos A.length with ha | ha
        · exact .inl ha
        · rcases Nat.eq_zero_or_pos B.length with hb | hb
          · exact .inr (.inl hb)
          · obtain ⟨x, y, _, _, h1, h2, h3, _⟩ := hord ha hb
            exact .inr (.inr ⟨x, y, h1, h2, h3⟩)) hQA.sz hQB.sz d11 d12 d21 d22
      unfold joinR at hj
      rw [hAB] at hj
      (refine no_implicit_lambda% (cal [3, 2, 5, 4] (hj) ?_ ?_))
      · intro xx H' hh
        obtain ⟨cj, j1, j2, h', rfl⟩ := hh
        cases h'
        first | (refine no_implicit_lambda% (akc ?_)) | (refine no_implicit_lambda% (aec ?_))
        have hsj := tsame_c Q cj cp hQ
        have tJ := tells6_c Q ⟨#[]⟩ ⟨#[]⟩ 20 cj hQ j1 j2 (by decide)
        repeat' (first | (refine no_implicit_lambda% (awd1 ?_)) | (((with_reducible refine no_implicit_lambda% (is_aops ?_)); refine no_implicit_lambda% (o_split rfl rfl rfl (fun hc => ?_) (fun hc => ?_)) <;> first | exact decx hc | rw [hc])) | (((with_reducible refine no_implicit_lambda% (is_cond ?_)); refine no_implicit_lambda% (c_cond rfl (fun hc => ?_) (fun hc => ?_)) <;> first | exact decx hc | skip)) | (((with_reducible refine no_implicit_lambda% (is_aop ?_)); refine no_implicit_lambda% (a_pick rfl rfl (fun hc => ?_) (fun hc => ?_)) <;> first | exact decx hc | rw [hc])) | (((with_reducible refine no_implicit_lambda% (is_ev ?_)); refine no_implicit_lambda% (v_split rfl rfl rfl rfl (fun hc => ?_) (fun hc => ?_)) <;> first | exact decx hc | rw [hc])) | (refine no_implicit_lambda% (ans ?_)) | (with_reducible exact retN) | (with_reducible exact retP) | ((with_reducible refine no_implicit_lambda% (ret1 ?_)); first | (refine no_implicit_lambda% (akcs ?_)) | (refine no_implicit_lambda% (aecs ?_))) | (refine no_implicit_lambda% (cal [6023, 6022, 0, 1] (hsj) ?_ ?_)) | (refine no_implicit_lambda% (cal [6023, 6022] (tJ) ?_ ?_)) | (((with_reducible refine no_implicit_lambda% (is_effK ?_)); refine no_implicit_lambda% (aecs ?_))) | (((with_reducible refine no_implicit_lambda% (is_drB ?_)); refine no_implicit_lambda% (b_ends ?_))) | (((with_reducible refine no_implicit_lambda% (is_aop ?_)); refine no_implicit_lambda% (a_stores ?_))) | ((with_reducible refine no_implicit_lambda% (is_aop ?_)); first | (refine no_implicit_lambda% (a_append_tok rfl rfl rfl rfl rfl rfl rfl rfl rfl rfl rfl rfl rfl rfl (by first | rfl | (simp; done)) (fun q hq => by rw [forceH_eq]; exact hq) (by (first | assumption | (intro row hr; simp only [List.mem_cons, List.not_mem_nil, or_false] at hr; rcases hr with rfl | rfl | rfl | rfl <;> rfl) | (intro row hr; simp at hr; done) | (intro row hr; simp only [List.mem_singleton] at hr; subst hr; rfl) | (intro row hr; obtain ⟨_, _, rfl⟩ := List.mem_map.1 hr; rfl))) (by (refine ⟨?_, ?_⟩ <;> (simp only [List.length_map, List.length_append, List.length_cons, List.length_nil]; omega))) ?_))) | fail)
        have hjn := join_nil Q cp
        by_cases hne : 0 < A.length ∧ 0 < B.length
        · obtain ⟨_, _, u, v, _, _, _, hu, hv, huv⟩ := hord hne.1 hne.2
          have hjb := join_bad B A d2 d1 u v hu hv (by omega) huv d21 d22 d11 d12
          repeat' (first | (refine no_implicit_lambda% (awd1 ?_)) | (((with_reducible refine no_implicit_lambda% (is_aops ?_)); refine no_implicit_lambda% (o_split rfl rfl rfl (fun hc => ?_) (fun hc => ?_)) <;> first | exact decx hc | rw [hc])) | (((with_reducible refine no_implicit_lambda% (is_cond ?_)); refine no_implicit_lambda% (c_cond rfl (fun hc => ?_) (fun hc => ?_)) <;> first | exact decx hc | skip)) | (((with_reducible refine no_implicit_lambda% (is_aop ?_)); refine no_implicit_lambda% (a_pick rfl rfl (fun hc => ?_) (fun hc => ?_)) <;> first | exact decx hc | rw [hc])) | (((with_reducible refine no_implicit_lambda% (is_ev ?_)); refine no_implicit_lambda% (v_split rfl rfl rfl rfl (fun hc => ?_) (fun hc => ?_)) <;> first | exact decx hc | rw [hc])) | (refine no_implicit_lambda% (ans ?_)) | (with_reducible exact retN) | (with_reducible exact retP) | ((with_reducible refine no_implicit_lambda% (ret1 ?_)); first | (refine no_implicit_lambda% (akcs ?_)) | (refine no_implicit_lambda% (aecs ?_))) | (refine no_implicit_lambda% (cal [5, 4, 3, 2] (hjb) ?_ ?_)) | (refine no_implicit_lambda% (cal [3, 2] (lA) ?_ ?_)) | (refine no_implicit_lambda% (cal [5, 4] (lB) ?_ ?_)) | (((with_reducible refine no_implicit_lambda% (is_effK ?_)); refine no_implicit_lambda% (aecs ?_))) | (((with_reducible refine no_implicit_lambda% (is_drB ?_)); refine no_implicit_lambda% (b_ends ?_))) | (((with_reducible refine no_implicit_lambda% (is_aop ?_)); refine no_implicit_lambda% (a_stores ?_))) | ((with_reducible refine no_implicit_lambda% (is_aop ?_)); first | (refine no_implicit_lambda% (a_append_tok rfl rfl rfl rfl rfl rfl rfl rfl rfl rfl rfl rfl rfl rfl (by first | rfl | (simp; done)) (fun q hq => by rw [forceH_eq]; exact hq) (by (first | assumption | (intro row hr; simp only [List.mem_cons, List.not_mem_nil, or_false] at hr; rcases hr with rfl | rfl | rfl | rfl <;> rfl) | (intro row hr; simp at hr; done) | (intro row hr; simp only [List.mem_singleton] at hr; subst hr; rfl) | (intro row hr; obtain ⟨_, _, rfl⟩ := List.mem_map.1 hr; rfl))) (by (refine ⟨?_, ?_⟩ <;> (simp only [List.length_map, List.length_append, List.length_cons, List.length_nil]; omega))) ?_))) | fail)
          (with_reducible refine no_implicit_lambda% (is_aop ?_))
          refine no_implicit_lambda% (a_q1 rfl (qFvN (.bool false) (fun _ h => h) (fun w => rfl)) ?_)
          repeat' (first | (refine no_implicit_lambda% (awd1 ?_)) | (((with_reducible refine no_implicit_lambda% (is_aops ?_)); refine no_implicit_lambda% (o_split rfl rfl rfl (fun hc => ?_) (fun hc => ?_)) <;> first | exact decx hc | rw [hc])) | (((with_reducible refine no_implicit_lambda% (is_cond ?_)); refine no_implicit_lambda% (c_cond rfl (fun hc => ?_) (fun hc => ?_)) <;> first | exact decx hc | skip)) | (((with_reducible refine no_implicit_lambda% (is_aop ?_)); refine no_implicit_lambda% (a_pick rfl rfl (fun hc => ?_) (fun hc => ?_)) <;> first | exact decx hc | rw [hc])) | (((with_reducible refine no_implicit_lambda% (is_ev ?_)); refine no_implicit_lambda% (v_split rfl rfl rfl rfl (fun hc => ?_) (fun hc => ?_)) <;> first | exact decx hc | rw [hc])) | (refine no_implicit_lambda% (ans ?_)) | (with_reducible exact retN) | (with_reducible exact retP) | ((with_reducible refine no_implicit_lambda% (ret1 ?_)); first | (refine no_implicit_lambda% (akcs ?_)) | (refine no_implicit_lambda% (aecs ?_))) | (refine no_implicit_lambda% (cal [0, 1] (hjn) ?_ ?_)) | (refine no_implicit_lambda% (cal [] (hk) ?_ ?_)) | (((with_reducible refine no_implicit_lambda% (is_effK ?_)); refine no_implicit_lambda% (aecs ?_))) | (((with_reducible refine no_implicit_lambda% (is_drB ?_)); refine no_implicit_lambda% (b_ends ?_))) | (((with_reducible refine no_implicit_lambda% (is_aop ?_)); refine no_implicit_lambda% (a_stores ?_))) | ((with_reducible refine no_implicit_lambda% (is_aop ?_)); first | (refine no_implicit_lambda% (a_append_tok rfl rfl rfl rfl rfl rfl rfl rfl rfl rfl rfl rfl rfl rfl (by first | rfl | (simp; done)) (fun q hq => by rw [forceH_eq]; exact hq) (by (first | assumption | (intro row hr; simp only [List.mem_cons, List.not_mem_nil, or_false] at hr; rcases hr with rfl | rfl | rfl | rfl <;> rfl) | (intro row hr; simp at hr; done) | (intro row hr; simp only [List.mem_singleton] at hr; subst hr; rfl) | (intro row hr; obtain ⟨_, _, rfl⟩ := List.mem_map.1 hr; rfl))) (by (refine ⟨?_, ?_⟩ <;> (simp only [List.length_map, List.length_append, List.length_cons, List.length_nil]; omega))) ?_))) | fail)
          exact e_ret (H' := []) (rest := _) rfl ⟨rfl, rfl⟩ permT (Nat.le_of_ble_eq_true rfl)
        · have hjb := join_c B A d2 d1 (by omega) (by omega) hQB.sz hQA.sz d21 d22 d11 d12
          unfold joinR at hjb
          (refine no_implicit_lambda% (cal [5, 4, 3, 2] (hjb) ?_ ?_))
          · intro xx H' hh
            obtain ⟨ck, k1, k2, h', rfl⟩ := hh
            cases h'
            first | (refine no_implicit_lambda% (akc ?_)) | (refine no_implicit_lambda% (aec ?_))
            repeat' (first | (refine no_implicit_lambda% (awd1 ?_)) | (((with_reducible refine no_implicit_lambda% (is_aops ?_)); refine no_implicit_lambda% (o_split rfl rfl rfl (fun hc => ?_) (fun hc => ?_)) <;> first | exact decx hc | rw [hc])) | (((with_reducible refine no_implicit_lambda% (is_cond ?_)); refine no_implicit_lambda% (c_cond rfl (fun hc => ?_) (fun hc => ?_)) <;> first | exact decx hc | skip)) | (((with_reducible refine no_implicit_lambda% (is_aop ?_)); refine no_implicit_lambda% (a_pick rfl rfl (fun hc => ?_) (fun hc => ?_)) <;> first | exact decx hc | rw [hc])) | (((with_reducible refine no_implicit_lambda% (is_ev ?_)); refine no_implicit_lambda% (v_split rfl rfl rfl rfl (fun hc => ?_) (fun hc => ?_)) <;> first | exact decx hc | rw [hc])) | (refine no_implicit_lambda% (ans ?_)) | (with_reducible exact retN) | (with_reducible exact retP) | ((with_reducible refine no_implicit_lambda% (ret1 ?_)); first | (refine no_implicit_lambda% (akcs ?_)) | (refine no_implicit_lambda% (aecs ?_))) | (refine no_implicit_lambda% (cal [3, 2] (lA) ?_ ?_)) | (refine no_implicit_lambda% (cal [5, 4] (lB) ?_ ?_)) | (refine no_implicit_lambda% (cal [0, 1] (hjn) ?_ ?_)) | (refine no_implicit_lambda% (cal [] (hk) ?_ ?_)) | (((with_reducible refine no_implicit_lambda% (is_effK ?_)); refine no_implicit_lambda% (aecs ?_))) | (((with_reducible refine no_implicit_lambda% (is_drB ?_)); refine no_implicit_lambda% (b_ends ?_))) | (((with_reducible refine no_implicit_lambda% (is_aop ?_)); refine no_implicit_lambda% (a_stores ?_))) | ((with_reducible refine no_implicit_lambda% (is_aop ?_)); first | (refine no_implicit_lambda% (a_append_tok rfl rfl rfl rfl rfl rfl rfl rfl rfl rfl rfl rfl rfl rfl (by first | rfl | (simp; done)) (fun q hq => by rw [forceH_eq]; exact hq) (by (first | assumption | (intro row hr; simp only [List.mem_cons, List.not_mem_nil, or_false] at hr; rcases hr with rfl | rfl | rfl | rfl <;> rfl) | (intro row hr; simp at hr; done) | (intro row hr; simp only [List.mem_singleton] at hr; subst hr; rfl) | (intro row hr; obtain ⟨_, _, rfl⟩ := List.mem_map.1 hr; rfl))) (by (refine ⟨?_, ?_⟩ <;> (simp only [List.length_map, List.length_append, List.length_cons, List.length_nil]; omega))) ?_))) | fail)
            all_goals first | exact e_ret (H' := []) (rest := _) rfl ⟨rfl, rfl⟩ permT (Nat.le_of_ble_eq_true rfl) | skip
            all_goals
              exfalso
              have a1 := of_decide_eq_true (show decide ((A.length : Int) > 0) = true by assumption)
              have a2 := of_decide_eq_true (show decide ((B.length : Int) > 0) = true by assumption)
              omega
          · intro xx H' hh
            obtain ⟨_, _, _, h', _⟩ := hh
            cases h'
      · intro xx H' hh
        obtain ⟨_, _, _, h', _⟩ := hh
        cases h'
    · intro xx H' hh
      obtain ⟨_, _, _, _, _, _, h', _⟩ := hh
      cases h'
  · intro xx H' hh
    obtain ⟨_, _, _, _, _, _, h', _⟩ := hh
    cases h'
end Go.Proofs.Ytjepgbpcpcahgaa
