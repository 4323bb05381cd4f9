/- Part 5 of what the laws RowsBytes rest on: RwB, RwF, RwG, RwH, RwI, RwJ, RwK, RwL, RwN, RwO, RwP, RwQ, AmSp, RwS, RwT, RwU, RwV, RwW, RwX, RwY, RwM, RwZ, RxA, AmOp, Vd, RxC, RxD, ChA, ChB. -/
import Derived.Test.YtjepgbpcpcahgaaGreatP4
import Derived.ChangeSlices
import Derived.ShutString
set_option linter.unusedSimpArgs false
set_option linter.unusedVariables false
namespace Go.Proofs.YtjepgbpcpcahgaaGreat
open Go.Am
set_option maxRecDepth 100000
def rr1St (r : List Co) (i : Nat) : ASt := ⟨([.dead, .ptr 0 0, .dead, .v (.int .i64 i)] ++ List.replicate 103 .dead), [(0, .box [.list (r.map corow) .free])], 1⟩
def rr2St (r : List Co) (i : Nat) (x : Co) (k : Nat) : ASt := ⟨([.dead, .ptr 0 0, .dead, .v (.int .i64 i), .ptr 1 0, .v (.int .i64 k)] ++ List.replicate 101 .dead), [(1, .box (corow x)), (0, .box [.list (r.map corow) .free])], 2⟩
def rraSt (r : List Co) (i : Nat) (x : Co) (b : Bool) : ASt := ⟨([.dead, .ptr 0 0, .dead, .v (.int .i64 i), .ptr 1 0] ++ List.replicate 48 .dead ++ [.v (.bool b)] ++ List.replicate 53 .dead), [(1, .box (corow x)), (0, .box [.list (r.map corow) .free])], 2⟩
def rrbSt (r : List Co) (i : Nat) (x : Co) (k : Nat) (b : Bool) : ASt := ⟨([.dead, .ptr 0 0, .dead, .v (.int .i64 i), .ptr 1 0, .v (.int .i64 k)] ++ List.replicate 100 .dead ++ [.v (.bool b)]), [(1, .box (corow x)), (0, .box [.list (r.map corow) .free])], 12⟩
set_option maxHeartbeats 6400000 in
theorem rright_c (r : List Co) (hr : r.length < 70368744177664) : ACalls Tryz.prog 69 0 400 [rowA r] [] (fun out H' => out = .ret (.v (.bool (rowB r))) ∧ H' = []) := by
 refine no_implicit_lambda% (acalls_of tok dok (f := 69) ⟨Tryz.func69, rfl, by kernel_rfl⟩ ?_); refine no_implicit_lambda% (c_start (fun _ h => h) ?_)
 repeat' (first | (refine no_implicit_lambda% (zH ?_)) | (((with_reducible refine no_implicit_lambda% (zA ?_)); refine no_implicit_lambda% (zD rfl rfl rfl (fun hc => ?_) (fun hc => ?_)) <;> first | exact zG hc | rw [hc])) | (((with_reducible refine no_implicit_lambda% (zB ?_)); refine no_implicit_lambda% (zE rfl (fun hc => ?_) (fun hc => ?_)) <;> first | exact zG hc | skip)) | (((with_reducible refine no_implicit_lambda% (zC ?_)); refine no_implicit_lambda% (zF rfl rfl (fun hc => ?_) (fun hc => ?_)) <;> first | exact zG hc | rw [hc])) | (refine no_implicit_lambda% (ans ?_)) | (with_reducible first | exact zI | exact zJ))
 ·refine no_implicit_lambda% (e_ret (H' := []) (rest := _) rfl ⟨congrArg (fun z => AOut.ret (.v (.bool z))) ?_, rfl⟩ (.refl _) (LE0 rfl))
  have : ¬ r.length ≤ 4 := by
   simp only [decide_eq_true_eq, List.length_map] at hc
   omega
  unfold rowB
  rw [decide_eq_false this]; simp
 have h4 : r.length ≤ 4 := by
  simp only [decide_eq_false_iff_not, List.length_map] at hc
  omega
 have hrow : rowB r = colsB none r := by unfold rowB; rw [decide_eq_true h4]; simp
 refine c_loop' (rr1St r) (fun i => i ≤ r.length ∧ colsB none r = colsB (prevN r i) (r.drop i)) (fun i => r.length - i) (a := 0) ⟨Nat.zero_le _, rfl⟩ ?_ ?_
 ·(refine no_implicit_lambda% (Conv.toT ?_ ?_ (LE0 rfl))); (focus ((unfold rr1St); (try dsimp only); exact wkl)); (focus ((unfold rr1St); (try dsimp only); exact wkh))
 ·rintro i ⟨h1, hI⟩
  refine c_turn (n' := 1) (fun _ h => h) (fun _ h => h) rfl ?_
  rcases hx : r[i]? with _ | x
  ·have hi : i = r.length := by have := List.getElem?_eq_none_iff.1 hx; omega
   repeat' (first | (refine no_implicit_lambda% (zH ?_)) | (((with_reducible refine no_implicit_lambda% (zA ?_)); refine no_implicit_lambda% (zD rfl rfl rfl (fun hc => ?_) (fun hc => ?_)) <;> first | exact zG hc | rw [hc])) | (((with_reducible refine no_implicit_lambda% (zB ?_)); refine no_implicit_lambda% (zE rfl (fun hc => ?_) (fun hc => ?_)) <;> first | exact zG hc | skip)) | (((with_reducible refine no_implicit_lambda% (zC ?_)); refine no_implicit_lambda% (zF rfl rfl (fun hc => ?_) (fun hc => ?_)) <;> first | exact zG hc | rw [hc])) | (refine no_implicit_lambda% (ans ?_)) | (with_reducible first | exact zI | exact zJ))
   refine no_implicit_lambda% (e_ret (H' := []) (rest := _) rfl ⟨congrArg (fun z => AOut.ret (.v (.bool z))) ?_, rfl⟩ (.refl _) (LE0 rfl))
   rw [hrow, hI, hi, List.drop_length]; rfl
  ·have hi : i < r.length := (List.getElem?_eq_some_iff.1 hx).1
   have hix := cox hx
   have hps := prevN_succ hx
   rw [cols_at hx] at hI
   have hnm := rname_c x.n
   have hpx : decide ((i : Int) > 0) = true → 0 ≤ IntKind.i64.wrap ((i : Int) - 1) ∧ (r.map corow)[(IntKind.i64.wrap ((i : Int) - 1)).toNat]? = some (corow (r[i - 1]?.getD x)) ∧ (corow (r[i - 1]?.getD x)).length = 2 := fun h => by
    have h0 := of_decide_eq_true h
    rw [List.getElem?_eq_getElem (by omega : i - 1 < r.length)]
    exact coxp (by omega) (by omega) (List.getElem?_eq_getElem (by omega))
   have hy0 : 0 < i → prevN r i = some (r[i - 1]?.getD x).n := fun h => by
    unfold prevN
    rw [if_neg (by omega), List.getElem?_eq_getElem (by omega : i - 1 < r.length)]; rfl
   repeat' (first | ((with_reducible refine no_implicit_lambda% (zA ?_)); first | (refine no_implicit_lambda% (o_op rfl ?_)) | (refine no_implicit_lambda% (o_yes rfl rfl rfl ?_)) | (refine no_implicit_lambda% (o_no rfl rfl rfl (fun _ h => h) ?_)) | (refine no_implicit_lambda% (o_not rfl rfl rfl (fun _ h => h) ?_))) | ((with_reducible refine no_implicit_lambda% (is_opK ?_)); first | (refine no_implicit_lambda% (k_op' (fun _ h => h) ?_))) | ((with_reducible refine no_implicit_lambda% (zC ?_)); first | (refine no_implicit_lambda% (a_q1 rfl (fun _ h => h) ?_)) | (refine no_implicit_lambda% (a_box rfl (fun _ h => h) ?_)) | (refine no_implicit_lambda% (a_alloc rfl (fun _ h => h) ?_)) | (refine no_implicit_lambda% (a_storev rfl (fun _ h => h) ?_)) | (refine no_implicit_lambda% (a_store rfl (fun _ h => h) ?_)) | (refine no_implicit_lambda% (a_panic rfl rfl ?_))) | ((with_reducible refine no_implicit_lambda% (zC ?_)); first | (refine no_implicit_lambda% (a_append_tok rfl rfl rfl rfl rfl rfl rfl rfl rfl rfl rfl rfl rfl rfl (by first | rfl | (simp; done)) (fun _ h => h) (by (first | assumption | (intro row hr; simp only [List.mem_cons, List.not_mem_nil, or_false] at hr; rcases hr with rfl | rfl | rfl | rfl <;> rfl) | (intro row hr; simp at hr; done) | (intro row hr; simp only [List.mem_singleton] at hr; subst hr; rfl) | (intro row hr; obtain ⟨_, _, rfl⟩ := List.mem_map.1 hr; rfl))) (by (refine ⟨?_, ?_⟩ <;> (simp only [List.length_map, List.length_append, List.length_cons, List.length_nil]; omega))) ?_)) | (refine no_implicit_lambda% (a_append_full rfl rfl rfl rfl rfl rfl rfl rfl rfl rfl rfl rfl (by (first | assumption | (intro row hr; simp only [List.mem_cons, List.not_mem_nil, or_false] at hr; rcases hr with rfl | rfl | rfl | rfl <;> rfl) | (intro row hr; simp at hr; done) | (intro row hr; simp only [List.mem_singleton] at hr; subst hr; rfl) | (intro row hr; obtain ⟨_, _, rfl⟩ := List.mem_map.1 hr; rfl))) (by (first | assumption | (intro row hr; simp only [List.mem_cons, List.not_mem_nil, or_false] at hr; rcases hr with rfl | rfl | rfl | rfl <;> rfl) | (intro row hr; simp at hr; done) | (intro row hr; simp only [List.mem_singleton] at hr; subst hr; rfl) | (intro row hr; obtain ⟨_, _, rfl⟩ := List.mem_map.1 hr; rfl))) (by (refine ⟨?_, ?_⟩ <;> (simp only [List.length_map, List.length_append, List.length_cons, List.length_nil]; omega))) ?_))) | (first | (with_reducible refine no_implicit_lambda% (c_seq ?_)) | (with_reducible refine no_implicit_lambda% (c_region ?_)) | (with_reducible refine no_implicit_lambda% (c_ret ?_)) | (with_reducible refine no_implicit_lambda% (c_skip ?_)) | (with_reducible refine no_implicit_lambda% (c_block ?_)) | (with_reducible refine no_implicit_lambda% (c_exit ?_)) | (with_reducible refine no_implicit_lambda% (o_nil ?_)) | (with_reducible refine no_implicit_lambda% (k_seq ?_)) | (with_reducible refine no_implicit_lambda% (k_seq_ret ?_)) | (with_reducible refine no_implicit_lambda% (k_seq_exit ?_)) | (with_reducible refine no_implicit_lambda% (k_seq_pan ?_)) | (with_reducible refine no_implicit_lambda% (k_block ?_)) | (with_reducible refine no_implicit_lambda% (k_block_ret ?_)) | (with_reducible refine no_implicit_lambda% (k_block_pan ?_)) | ((with_reducible refine no_implicit_lambda% (is_blockx ?_)); first | (refine no_implicit_lambda% (k_block_here rfl ?_)) | (refine no_implicit_lambda% (k_block_on rfl ?_))) | (with_reducible refine no_implicit_lambda% (k_pan ?_)) | (with_reducible refine no_implicit_lambda% (k_opP ?_)) | (with_reducible refine no_implicit_lambda% (k_loop_ret ?_)) | (with_reducible refine no_implicit_lambda% (k_loop_exit ?_)) | (with_reducible refine no_implicit_lambda% (k_loop_pan ?_)) | (with_reducible refine no_implicit_lambda% (e_end ?_))) | (((with_reducible refine no_implicit_lambda% (zB ?_)); first | (refine no_implicit_lambda% (c_true rfl ?_)) | (refine no_implicit_lambda% (c_false rfl ?_)))) | ((with_reducible refine no_implicit_lambda% (zC ?_)); refine no_implicit_lambda% (a_qS rfl (qIx (fun _ h => h)) (by first | assumption | exact hpx (by assumption) | exact hpy (by assumption)) ?_)) | (((with_reducible refine no_implicit_lambda% (zA ?_)); refine no_implicit_lambda% (zD rfl rfl rfl (fun hc => ?_) (fun hc => ?_)) <;> first | exact zG hc | rw [hc])) | (((with_reducible refine no_implicit_lambda% (zB ?_)); refine no_implicit_lambda% (zE rfl (fun hc => ?_) (fun hc => ?_)) <;> first | exact zG hc | skip)) | (((with_reducible refine no_implicit_lambda% (zC ?_)); refine no_implicit_lambda% (zF rfl rfl (fun hc => ?_) (fun hc => ?_)) <;> first | exact zG hc | rw [hc])) | (refine no_implicit_lambda% (ans ?_)) | (with_reducible first | exact zI | exact zJ))
   refine c_cutR (rraSt r i x) (fun b => b = !(nmB x.n && ltN (prevN r i) x.n && decide (1 ≤ x.l.length ∧ x.l.length ≤ 2))) ?_ ?_
   rotate_left
   ·intro Kx kN kP kR kE
    repeat' (first | (refine no_implicit_lambda% (zH ?_)) | (((with_reducible refine no_implicit_lambda% (zA ?_)); refine no_implicit_lambda% (zD rfl rfl rfl (fun hc => ?_) (fun hc => ?_)) <;> first | exact zG hc | rw [hc])) | (((with_reducible refine no_implicit_lambda% (zB ?_)); refine no_implicit_lambda% (zE rfl (fun hc => ?_) (fun hc => ?_)) <;> first | exact zG hc | skip)) | (((with_reducible refine no_implicit_lambda% (zC ?_)); refine no_implicit_lambda% (zF rfl rfl (fun hc => ?_) (fun hc => ?_)) <;> first | exact zG hc | rw [hc])) | (((with_reducible refine no_implicit_lambda% (is_ev ?_)); refine no_implicit_lambda% (v_split rfl rfl rfl rfl (fun hc => ?_) (fun hc => ?_)) <;> first | exact zG hc | rw [hc])) | (refine no_implicit_lambda% (ans ?_)) | (with_reducible first | exact zI | exact zJ) | (refine no_implicit_lambda% (cal [] (hnm) ?_ ?_)) | fail)
    ·have hn : nmB x.n = false := by simpa using hc
     refine kN true _ _ _ (by simp [hn]) (.inl ?_)
     (refine no_implicit_lambda% (Conv.toT ?_ ?_ (LE0 rfl))); (focus ((unfold rraSt); (try dsimp only); exact wkl)); (focus ((unfold rraSt); (try dsimp only); exact wkh))
    ·skip
     have h0 : 0 < i := by
      simp only [decide_eq_true_eq] at *
      omega
     have hlt : ltN (prevN r i) x.n = false := by
      rw [hy0 h0]
      have : sLt (r[i - 1]?.getD x).n x.n = false := by simpa [sLt] using hc
      exact this
     refine kN true _ _ _ (by simp [hlt]) (.inl ?_)
     (refine no_implicit_lambda% (Conv.toT ?_ ?_ (LE0 rfl))); (focus ((unfold rraSt); (try dsimp only); exact wkl)); (focus ((unfold rraSt); (try dsimp only); exact wkh))
    ·skip
     have hl : ¬ (1 ≤ x.l.length ∧ x.l.length ≤ 2) := by
      simp only [decide_eq_true_eq, List.length_map] at hc
      omega
     refine kN true _ _ _ (by rw [decide_eq_false hl]; simp) (.inl ?_)
     (refine no_implicit_lambda% (Conv.toT ?_ ?_ (LE0 rfl))); (focus ((unfold rraSt); (try dsimp only); exact wkl)); (focus ((unfold rraSt); (try dsimp only); exact wkh))
    ·skip
     have h0 : 0 < i := by
      simp only [decide_eq_true_eq] at *
      omega
     have hM : ltN (prevN r i) x.n = true := by
      rw [hy0 h0]
      have hlt : sLt (r[i - 1]?.getD x).n x.n = true := by
       simp only [Bool.not_eq_false'] at *
       assumption
      exact hlt
     have hn : nmB x.n = true := by simp only [Bool.not_eq_false'] at *; assumption
     refine kN (decide (((x.l.map verow).length : Int) > 2)) _ _ _ ?_ (.inl ?_)
     ·rw [hn, hM, Bool.true_and, Bool.true_and]
      have hl : ¬ ((x.l.map verow).length : Int) < 1 := of_decide_eq_false hc
      rw [List.length_map] at hl ⊢
      refine Bool.eq_iff_iff.2 ?_
      simp only [decide_eq_true_eq, Bool.not_eq_true', decide_eq_false_iff_not]
      omega
     ·(refine no_implicit_lambda% (Conv.toT ?_ ?_ (LE0 rfl))); (focus ((unfold rraSt); (try dsimp only); exact wkl)); (focus ((unfold rraSt); (try dsimp only); exact wkh))
    ·skip
     have hl : ¬ (1 ≤ x.l.length ∧ x.l.length ≤ 2) := by
      simp only [decide_eq_true_eq, List.length_map] at hc
      omega
     refine kN true _ _ _ (by rw [decide_eq_false hl]; simp) (.inl ?_)
     (refine no_implicit_lambda% (Conv.toT ?_ ?_ (LE0 rfl))); (focus ((unfold rraSt); (try dsimp only); exact wkl)); (focus ((unfold rraSt); (try dsimp only); exact wkh))
    ·skip
     have h0 : i = 0 := by
      simp only [decide_eq_false_iff_not] at *
      omega
     have hM : ltN (prevN r i) x.n = true := by
      have hpy : prevN r i = none := by unfold prevN; rw [if_pos h0]
      rw [hpy]; rfl
     have hn : nmB x.n = true := by simp only [Bool.not_eq_false'] at *; assumption
     refine kN (decide (((x.l.map verow).length : Int) > 2)) _ _ _ ?_ (.inl ?_)
     ·rw [hn, hM, Bool.true_and, Bool.true_and]
      have hl : ¬ ((x.l.map verow).length : Int) < 1 := of_decide_eq_false hc
      rw [List.length_map] at hl ⊢
      refine Bool.eq_iff_iff.2 ?_
      simp only [decide_eq_true_eq, Bool.not_eq_true', decide_eq_false_iff_not]
      omega
     ·(refine no_implicit_lambda% (Conv.toT ?_ ?_ (LE0 rfl))); (focus ((unfold rraSt); (try dsimp only); exact wkl)); (focus ((unfold rraSt); (try dsimp only); exact wkh))
   ·intro b hb
    refine c_turn (n' := 2) (fun _ h => h) (fun _ h => h) rfl ?_
    rcases b with _ | _
    rotate_left
    ·repeat' (first | (refine no_implicit_lambda% (zH ?_)) | (((with_reducible refine no_implicit_lambda% (zA ?_)); refine no_implicit_lambda% (zD rfl rfl rfl (fun hc => ?_) (fun hc => ?_)) <;> first | exact zG hc | rw [hc])) | (((with_reducible refine no_implicit_lambda% (zB ?_)); refine no_implicit_lambda% (zE rfl (fun hc => ?_) (fun hc => ?_)) <;> first | exact zG hc | skip)) | (((with_reducible refine no_implicit_lambda% (zC ?_)); refine no_implicit_lambda% (zF rfl rfl (fun hc => ?_) (fun hc => ?_)) <;> first | exact zG hc | rw [hc])) | (refine no_implicit_lambda% (ans ?_)) | (with_reducible first | exact zI | exact zJ))
     refine no_implicit_lambda% (e_ret (H' := []) (rest := _) rfl ⟨congrArg (fun z => AOut.ret (.v (.bool z))) ?_, rfl⟩ (.refl _) (LE0 rfl))
     rw [hrow, hI]
     unfold colB
     revert hb
     cases nmB x.n <;> cases ltN (prevN r i) x.n <;> cases decide (1 ≤ x.l.length ∧ x.l.length ≤ 2) <;> simp
    have hM : ltN (prevN r i) x.n = true := by
     revert hb
     cases nmB x.n <;> cases ltN (prevN r i) x.n <;> cases decide (1 ≤ x.l.length ∧ x.l.length ≤ 2) <;> simp
    have hn : nmB x.n = true := by
     revert hb
     cases nmB x.n <;> cases ltN (prevN r i) x.n <;> cases decide (1 ≤ x.l.length ∧ x.l.length ≤ 2) <;> simp
    have hl : 1 ≤ x.l.length ∧ x.l.length ≤ 2 := by
     refine of_decide_eq_true ?_
     revert hb
     cases nmB x.n <;> cases ltN (prevN r i) x.n <;> cases decide (1 ≤ x.l.length ∧ x.l.length ≤ 2) <;> simp
    have hcx : colB x = versB none x.l := by unfold colB; rw [hn, decide_eq_true hl]; simp
    have hrv := fun v => (refRight_c v : ACalls Tryz.prog 59 0 10 [vav v] [] (fun out H' => out = .ret (.v (.bool (vRt v))) ∧ H' = []))
    repeat' (first | ((with_reducible refine no_implicit_lambda% (zA ?_)); first | (refine no_implicit_lambda% (o_op rfl ?_)) | (refine no_implicit_lambda% (o_yes rfl rfl rfl ?_)) | (refine no_implicit_lambda% (o_no rfl rfl rfl (fun _ h => h) ?_)) | (refine no_implicit_lambda% (o_not rfl rfl rfl (fun _ h => h) ?_))) | ((with_reducible refine no_implicit_lambda% (is_opK ?_)); first | (refine no_implicit_lambda% (k_op' (fun _ h => h) ?_))) | ((with_reducible refine no_implicit_lambda% (zC ?_)); first | (refine no_implicit_lambda% (a_q1 rfl (fun _ h => h) ?_)) | (refine no_implicit_lambda% (a_box rfl (fun _ h => h) ?_)) | (refine no_implicit_lambda% (a_alloc rfl (fun _ h => h) ?_)) | (refine no_implicit_lambda% (a_storev rfl (fun _ h => h) ?_)) | (refine no_implicit_lambda% (a_store rfl (fun _ h => h) ?_)) | (refine no_implicit_lambda% (a_panic rfl rfl ?_))) | ((with_reducible refine no_implicit_lambda% (zC ?_)); first | (refine no_implicit_lambda% (a_append_tok rfl rfl rfl rfl rfl rfl rfl rfl rfl rfl rfl rfl rfl rfl (by first | rfl | (simp; done)) (fun _ h => h) (by (first | assumption | (intro row hr; simp only [List.mem_cons, List.not_mem_nil, or_false] at hr; rcases hr with rfl | rfl | rfl | rfl <;> rfl) | (intro row hr; simp at hr; done) | (intro row hr; simp only [List.mem_singleton] at hr; subst hr; rfl) | (intro row hr; obtain ⟨_, _, rfl⟩ := List.mem_map.1 hr; rfl))) (by (refine ⟨?_, ?_⟩ <;> (simp only [List.length_map, List.length_append, List.length_cons, List.length_nil]; omega))) ?_)) | (refine no_implicit_lambda% (a_append_full rfl rfl rfl rfl rfl rfl rfl rfl rfl rfl rfl rfl (by (first | assumption | (intro row hr; simp only [List.mem_cons, List.not_mem_nil, or_false] at hr; rcases hr with rfl | rfl | rfl | rfl <;> rfl) | (intro row hr; simp at hr; done) | (intro row hr; simp only [List.mem_singleton] at hr; subst hr; rfl) | (intro row hr; obtain ⟨_, _, rfl⟩ := List.mem_map.1 hr; rfl))) (by (first | assumption | (intro row hr; simp only [List.mem_cons, List.not_mem_nil, or_false] at hr; rcases hr with rfl | rfl | rfl | rfl <;> rfl) | (intro row hr; simp at hr; done) | (intro row hr; simp only [List.mem_singleton] at hr; subst hr; rfl) | (intro row hr; obtain ⟨_, _, rfl⟩ := List.mem_map.1 hr; rfl))) (by (refine ⟨?_, ?_⟩ <;> (simp only [List.length_map, List.length_append, List.length_cons, List.length_nil]; omega))) ?_))) | (first | (with_reducible refine no_implicit_lambda% (c_seq ?_)) | (with_reducible refine no_implicit_lambda% (c_region ?_)) | (with_reducible refine no_implicit_lambda% (c_ret ?_)) | (with_reducible refine no_implicit_lambda% (c_skip ?_)) | (with_reducible refine no_implicit_lambda% (c_block ?_)) | (with_reducible refine no_implicit_lambda% (c_exit ?_)) | (with_reducible refine no_implicit_lambda% (o_nil ?_)) | (with_reducible refine no_implicit_lambda% (k_seq ?_)) | (with_reducible refine no_implicit_lambda% (k_seq_ret ?_)) | (with_reducible refine no_implicit_lambda% (k_seq_exit ?_)) | (with_reducible refine no_implicit_lambda% (k_seq_pan ?_)) | (with_reducible refine no_implicit_lambda% (k_block ?_)) | (with_reducible refine no_implicit_lambda% (k_block_ret ?_)) | (with_reducible refine no_implicit_lambda% (k_block_pan ?_)) | ((with_reducible refine no_implicit_lambda% (is_blockx ?_)); first | (refine no_implicit_lambda% (k_block_here rfl ?_)) | (refine no_implicit_lambda% (k_block_on rfl ?_))) | (with_reducible refine no_implicit_lambda% (k_pan ?_)) | (with_reducible refine no_implicit_lambda% (k_opP ?_)) | (with_reducible refine no_implicit_lambda% (k_loop_ret ?_)) | (with_reducible refine no_implicit_lambda% (k_loop_exit ?_)) | (with_reducible refine no_implicit_lambda% (k_loop_pan ?_)) | (with_reducible refine no_implicit_lambda% (e_end ?_))) | (((with_reducible refine no_implicit_lambda% (zB ?_)); first | (refine no_implicit_lambda% (c_true rfl ?_)) | (refine no_implicit_lambda% (c_false rfl ?_)))) | ((with_reducible refine no_implicit_lambda% (zC ?_)); refine no_implicit_lambda% (a_qS rfl (qIx (fun _ h => h)) (by first | assumption | exact hpx (by assumption) | exact hpy (by assumption)) ?_)) | (((with_reducible refine no_implicit_lambda% (zA ?_)); refine no_implicit_lambda% (zD rfl rfl rfl (fun hc => ?_) (fun hc => ?_)) <;> first | exact zG hc | rw [hc])) | (((with_reducible refine no_implicit_lambda% (zB ?_)); refine no_implicit_lambda% (zE rfl (fun hc => ?_) (fun hc => ?_)) <;> first | exact zG hc | skip)) | (((with_reducible refine no_implicit_lambda% (zC ?_)); refine no_implicit_lambda% (zF rfl rfl (fun hc => ?_) (fun hc => ?_)) <;> first | exact zG hc | rw [hc])) | (refine no_implicit_lambda% (ans ?_)) | (with_reducible first | exact zI | exact zJ))
    refine c_loop' (rr2St r i x) (fun k => k ≤ x.l.length ∧ versB none x.l = versB (prevT x.l k) (x.l.drop k)) (fun k => x.l.length - k) (a := 0) ⟨Nat.zero_le _, rfl⟩ ?_ ?_
    ·(refine no_implicit_lambda% (Conv.toT ?_ ?_ (LE0 rfl))); (focus ((unfold rr2St); (try dsimp only); exact wkl)); (focus ((unfold rr2St); (try dsimp only); exact wkh))
    ·rintro k ⟨k1, hJ⟩
     refine c_turn (n' := 2) (fun _ h => h) (fun _ h => h) rfl ?_
     rcases hy : x.l[k]? with _ | y
     ·have hk : k = x.l.length := by have := List.getElem?_eq_none_iff.1 hy; omega
      repeat' (first | (refine no_implicit_lambda% (zH ?_)) | (((with_reducible refine no_implicit_lambda% (zA ?_)); refine no_implicit_lambda% (zD rfl rfl rfl (fun hc => ?_) (fun hc => ?_)) <;> first | exact zG hc | rw [hc])) | (((with_reducible refine no_implicit_lambda% (zB ?_)); refine no_implicit_lambda% (zE rfl (fun hc => ?_) (fun hc => ?_)) <;> first | exact zG hc | skip)) | (((with_reducible refine no_implicit_lambda% (zC ?_)); refine no_implicit_lambda% (zF rfl rfl (fun hc => ?_) (fun hc => ?_)) <;> first | exact zG hc | rw [hc])) | (refine no_implicit_lambda% (ans ?_)) | (with_reducible first | exact zI | exact zJ))
      have hct : colB x = true := by rw [hcx, hJ, hk, List.drop_length]; rfl
      (refine no_implicit_lambda% (k_loopLT (i + 1) 0 [0] (by show i + 1 ≤ r.length ∧ colsB none r = colsB (prevN r (i + 1)) (r.drop (i + 1)); exact ⟨hi, by rw [hps, hI, hM, hct]; simp⟩) (by first | omega | (simp; done) | (simp; omega)) (LE0 rfl) (fun _ h => h) (fun _ h => h) ?_ ?_)); (focus ((try dsimp only); exact wkl)); (focus ((try dsimp only); exact wkh))
     ·have hk : k < x.l.length := (List.getElem?_eq_some_iff.1 hy).1
      have hiy := vex hy
      have hpt := prevT_succ hy
      rw [vers_at hy] at hJ
      have hpy : decide ((k : Int) > 0) = true → 0 ≤ IntKind.i64.wrap ((k : Int) - 1) ∧ (x.l.map verow)[(IntKind.i64.wrap ((k : Int) - 1)).toNat]? = some (verow (x.l[k - 1]?.getD y)) ∧ (verow (x.l[k - 1]?.getD y)).length = 4 := fun h => by
       have h0 := of_decide_eq_true h
       rw [List.getElem?_eq_getElem (by omega : k - 1 < x.l.length)]
       exact vexp (by omega) (by omega) (List.getElem?_eq_getElem (by omega))
      have hvr := hrv y.v
      repeat' (first | ((with_reducible refine no_implicit_lambda% (zA ?_)); first | (refine no_implicit_lambda% (o_op rfl ?_)) | (refine no_implicit_lambda% (o_yes rfl rfl rfl ?_)) | (refine no_implicit_lambda% (o_no rfl rfl rfl (fun _ h => h) ?_)) | (refine no_implicit_lambda% (o_not rfl rfl rfl (fun _ h => h) ?_))) | ((with_reducible refine no_implicit_lambda% (is_opK ?_)); first | (refine no_implicit_lambda% (k_op' (fun _ h => h) ?_))) | ((with_reducible refine no_implicit_lambda% (zC ?_)); first | (refine no_implicit_lambda% (a_q1 rfl (fun _ h => h) ?_)) | (refine no_implicit_lambda% (a_box rfl (fun _ h => h) ?_)) | (refine no_implicit_lambda% (a_alloc rfl (fun _ h => h) ?_)) | (refine no_implicit_lambda% (a_storev rfl (fun _ h => h) ?_)) | (refine no_implicit_lambda% (a_store rfl (fun _ h => h) ?_)) | (refine no_implicit_lambda% (a_panic rfl rfl ?_))) | ((with_reducible refine no_implicit_lambda% (zC ?_)); first | (refine no_implicit_lambda% (a_append_tok rfl rfl rfl rfl rfl rfl rfl rfl rfl rfl rfl rfl rfl rfl (by first | rfl | (simp; done)) (fun _ h => h) (by (first | assumption | (intro row hr; simp only [List.mem_cons, List.not_mem_nil, or_false] at hr; rcases hr with rfl | rfl | rfl | rfl <;> rfl) | (intro row hr; simp at hr; done) | (intro row hr; simp only [List.mem_singleton] at hr; subst hr; rfl) | (intro row hr; obtain ⟨_, _, rfl⟩ := List.mem_map.1 hr; rfl))) (by (refine ⟨?_, ?_⟩ <;> (simp only [List.length_map, List.length_append, List.length_cons, List.length_nil]; omega))) ?_)) | (refine no_implicit_lambda% (a_append_full rfl rfl rfl rfl rfl rfl rfl rfl rfl rfl rfl rfl (by (first | assumption | (intro row hr; simp only [List.mem_cons, List.not_mem_nil, or_false] at hr; rcases hr with rfl | rfl | rfl | rfl <;> rfl) | (intro row hr; simp at hr; done) | (intro row hr; simp only [List.mem_singleton] at hr; subst hr; rfl) | (intro row hr; obtain ⟨_, _, rfl⟩ := List.mem_map.1 hr; rfl))) (by (first | assumption | (intro row hr; simp only [List.mem_cons, List.not_mem_nil, or_false] at hr; rcases hr with rfl | rfl | rfl | rfl <;> rfl) | (intro row hr; simp at hr; done) | (intro row hr; simp only [List.mem_singleton] at hr; subst hr; rfl) | (intro row hr; obtain ⟨_, _, rfl⟩ := List.mem_map.1 hr; rfl))) (by (refine ⟨?_, ?_⟩ <;> (simp only [List.length_map, List.length_append, List.length_cons, List.length_nil]; omega))) ?_))) | (first | (with_reducible refine no_implicit_lambda% (c_seq ?_)) | (with_reducible refine no_implicit_lambda% (c_region ?_)) | (with_reducible refine no_implicit_lambda% (c_ret ?_)) | (with_reducible refine no_implicit_lambda% (c_skip ?_)) | (with_reducible refine no_implicit_lambda% (c_block ?_)) | (with_reducible refine no_implicit_lambda% (c_exit ?_)) | (with_reducible refine no_implicit_lambda% (o_nil ?_)) | (with_reducible refine no_implicit_lambda% (k_seq ?_)) | (with_reducible refine no_implicit_lambda% (k_seq_ret ?_)) | (with_reducible refine no_implicit_lambda% (k_seq_exit ?_)) | (with_reducible refine no_implicit_lambda% (k_seq_pan ?_)) | (with_reducible refine no_implicit_lambda% (k_block ?_)) | (with_reducible refine no_implicit_lambda% (k_block_ret ?_)) | (with_reducible refine no_implicit_lambda% (k_block_pan ?_)) | ((with_reducible refine no_implicit_lambda% (is_blockx ?_)); first | (refine no_implicit_lambda% (k_block_here rfl ?_)) | (refine no_implicit_lambda% (k_block_on rfl ?_))) | (with_reducible refine no_implicit_lambda% (k_pan ?_)) | (with_reducible refine no_implicit_lambda% (k_opP ?_)) | (with_reducible refine no_implicit_lambda% (k_loop_ret ?_)) | (with_reducible refine no_implicit_lambda% (k_loop_exit ?_)) | (with_reducible refine no_implicit_lambda% (k_loop_pan ?_)) | (with_reducible refine no_implicit_lambda% (e_end ?_))) | (((with_reducible refine no_implicit_lambda% (zB ?_)); first | (refine no_implicit_lambda% (c_true rfl ?_)) | (refine no_implicit_lambda% (c_false rfl ?_)))) | ((with_reducible refine no_implicit_lambda% (zC ?_)); refine no_implicit_lambda% (a_qS rfl (qIx (fun _ h => h)) (by first | assumption | exact hpx (by assumption) | exact hpy (by assumption)) ?_)) | (((with_reducible refine no_implicit_lambda% (zA ?_)); refine no_implicit_lambda% (zD rfl rfl rfl (fun hc => ?_) (fun hc => ?_)) <;> first | exact zG hc | rw [hc])) | (((with_reducible refine no_implicit_lambda% (zB ?_)); refine no_implicit_lambda% (zE rfl (fun hc => ?_) (fun hc => ?_)) <;> first | exact zG hc | skip)) | (((with_reducible refine no_implicit_lambda% (zC ?_)); refine no_implicit_lambda% (zF rfl rfl (fun hc => ?_) (fun hc => ?_)) <;> first | exact zG hc | rw [hc])) | (refine no_implicit_lambda% (ans ?_)) | (with_reducible first | exact zI | exact zJ))
      refine c_cutR (rrbSt r i x k) (fun b => b = !(tmOk y.t && vRt y.v && ltT (prevT x.l k) y.t)) ?_ ?_
      ·intro b hb
       refine c_turn (n' := 12) (fun _ h => h) (fun _ h => h) rfl ?_
       rcases b with _ | _
       ·repeat' (first | (refine no_implicit_lambda% (zH ?_)) | (((with_reducible refine no_implicit_lambda% (zA ?_)); refine no_implicit_lambda% (zD rfl rfl rfl (fun hc => ?_) (fun hc => ?_)) <;> first | exact zG hc | rw [hc])) | (((with_reducible refine no_implicit_lambda% (zB ?_)); refine no_implicit_lambda% (zE rfl (fun hc => ?_) (fun hc => ?_)) <;> first | exact zG hc | skip)) | (((with_reducible refine no_implicit_lambda% (zC ?_)); refine no_implicit_lambda% (zF rfl rfl (fun hc => ?_) (fun hc => ?_)) <;> first | exact zG hc | rw [hc])) | (refine no_implicit_lambda% (ans ?_)) | (with_reducible first | exact zI | exact zJ))
        have h1 : tmOk y.t = true := by
         revert hb
         cases tmOk y.t <;> cases vRt y.v <;> cases ltT (prevT x.l k) y.t <;> simp
        have h2 : vRt y.v = true := by
         revert hb
         cases tmOk y.t <;> cases vRt y.v <;> cases ltT (prevT x.l k) y.t <;> simp
        have h3 : ltT (prevT x.l k) y.t = true := by
         revert hb
         cases tmOk y.t <;> cases vRt y.v <;> cases ltT (prevT x.l k) y.t <;> simp
        (refine no_implicit_lambda% (k_loopLT (k + 1) 0 [0, 1] (by show k + 1 ≤ x.l.length ∧ versB none x.l = versB (prevT x.l (k + 1)) (x.l.drop (k + 1)); exact ⟨hk, by rw [hpt, hJ, h1, h2, h3]; simp⟩) (by first | omega | (simp; done) | (simp; omega)) (LE0 rfl) (fun _ h => h) (fun _ h => h) ?_ ?_)); (focus ((try dsimp only); exact wkl)); (focus ((try dsimp only); exact wkh))
       ·repeat' (first | (refine no_implicit_lambda% (zH ?_)) | (((with_reducible refine no_implicit_lambda% (zA ?_)); refine no_implicit_lambda% (zD rfl rfl rfl (fun hc => ?_) (fun hc => ?_)) <;> first | exact zG hc | rw [hc])) | (((with_reducible refine no_implicit_lambda% (zB ?_)); refine no_implicit_lambda% (zE rfl (fun hc => ?_) (fun hc => ?_)) <;> first | exact zG hc | skip)) | (((with_reducible refine no_implicit_lambda% (zC ?_)); refine no_implicit_lambda% (zF rfl rfl (fun hc => ?_) (fun hc => ?_)) <;> first | exact zG hc | rw [hc])) | (refine no_implicit_lambda% (ans ?_)) | (with_reducible first | exact zI | exact zJ))
        refine no_implicit_lambda% (e_ret (H' := []) (rest := _) rfl ⟨congrArg (fun z => AOut.ret (.v (.bool z))) ?_, rfl⟩ (.refl _) (LE0 rfl))
        rw [hrow, hI, hcx, hJ]
        revert hb
        cases tmOk y.t <;> cases vRt y.v <;> cases ltT (prevT x.l k) y.t <;> simp
      ·intro Kx kN kP kR kE
       have hz0 : 0 < k → ltT (prevT x.l k) y.t = decide (y.t < (x.l[k - 1]?.getD y).t) := fun h => by
        unfold prevT
        rw [if_neg (by omega), List.getElem?_eq_getElem (by omega : k - 1 < x.l.length)]; rfl
       repeat' (first | (refine no_implicit_lambda% (zH ?_)) | (((with_reducible refine no_implicit_lambda% (zA ?_)); refine no_implicit_lambda% (zD rfl rfl rfl (fun hc => ?_) (fun hc => ?_)) <;> first | exact zG hc | rw [hc])) | (((with_reducible refine no_implicit_lambda% (zB ?_)); refine no_implicit_lambda% (zE rfl (fun hc => ?_) (fun hc => ?_)) <;> first | exact zG hc | skip)) | (((with_reducible refine no_implicit_lambda% (zC ?_)); refine no_implicit_lambda% (zF rfl rfl (fun hc => ?_) (fun hc => ?_)) <;> first | exact zG hc | rw [hc])) | (((with_reducible refine no_implicit_lambda% (is_ev ?_)); refine no_implicit_lambda% (v_split rfl rfl rfl rfl (fun hc => ?_) (fun hc => ?_)) <;> first | exact zG hc | rw [hc])) | (refine no_implicit_lambda% (ans ?_)) | (with_reducible first | exact zI | exact zJ) | (refine no_implicit_lambda% (cal [] (hvr) ?_ ?_)) | fail)
       ·have h1 : tmOk y.t = false := decide_eq_false (by have := of_decide_eq_true hc; omega)
        refine kN true _ _ _ (by simp [h1]) (.inl ?_)
        (refine no_implicit_lambda% (Conv.toT ?_ ?_ (LE0 rfl))); (focus ((unfold rrbSt); (try dsimp only); exact wkl)); (focus ((unfold rrbSt); (try dsimp only); exact wkh))
       ·have h1 : tmOk y.t = false := decide_eq_false (by have := of_decide_eq_true hc; omega)
        refine kN true _ _ _ (by simp [h1]) (.inl ?_)
        (refine no_implicit_lambda% (Conv.toT ?_ ?_ (LE0 rfl))); (focus ((unfold rrbSt); (try dsimp only); exact wkl)); (focus ((unfold rrbSt); (try dsimp only); exact wkh))
       ·have h0 : 0 < k := by
         simp only [decide_eq_true_eq] at *
         omega
        have h3 : ltT (prevT x.l k) y.t = false := by
         rw [hz0 h0]
         exact decide_eq_false (by have := of_decide_eq_true hc; omega)
        refine kN true _ _ _ (by simp [h3]) (.inl ?_)
        (refine no_implicit_lambda% (Conv.toT ?_ ?_ (LE0 rfl))); (focus ((unfold rrbSt); (try dsimp only); exact wkl)); (focus ((unfold rrbSt); (try dsimp only); exact wkh))
       ·have h0 : 0 < k := by
         simp only [decide_eq_true_eq] at *
         omega
        have h1 : tmOk y.t = true := decide_eq_true (by simp only [decide_eq_false_iff_not] at *; omega)
        have h3 : ltT (prevT x.l k) y.t = true := by
         rw [hz0 h0]
         exact decide_eq_true (by have := of_decide_eq_false hc; omega)
        refine kN (!(vRt y.v)) _ _ _ (by simp [h1, h3]) (.inl ?_)
        (refine no_implicit_lambda% (Conv.toT ?_ ?_ (LE0 rfl))); (focus ((unfold rrbSt); (try dsimp only); exact wkl)); (focus ((unfold rrbSt); (try dsimp only); exact wkh))
       ·have h0 : k = 0 := by
         have := of_decide_eq_false hc
         omega
        have h1 : tmOk y.t = true := decide_eq_true (by simp only [decide_eq_false_iff_not] at *; omega)
        have h3 : ltT (prevT x.l k) y.t = true := by
         unfold prevT
         rw [if_pos h0]; rfl
        refine kN (!(vRt y.v)) _ _ _ (by simp [h1, h3]) (.inl ?_)
        (refine no_implicit_lambda% (Conv.toT ?_ ?_ (LE0 rfl))); (focus ((unfold rrbSt); (try dsimp only); exact wkl)); (focus ((unfold rrbSt); (try dsimp only); exact wkh))
end Go.Proofs.YtjepgbpcpcahgaaGreat
namespace Go.Proofs.YtjepgbpcpcahgaaGreat
open Go.Am
set_option maxRecDepth 100000
def qcSt (r o : List Co) (cp i : Nat) : ASt := ⟨([.dead, .ptr 0 0, .ptr 1 0, .ptr 2 0, .v (.int .i64 i)] ++ List.replicate 66 .dead), [(0, .box [.list (r.map corow) .free]), (1, .box [.list [] .full]), (2, .box [.arr 3 0 i cp]), (3, .seq (o.map corow) ((cp - i) * 2))], 4⟩
def qdSt (r o : List Co) (cp i : Nat) (c : Co) (vs : List Ve) (k : Nat) : ASt := ⟨([.dead, .ptr 0 0, .ptr 1 0, .ptr 2 0, .v (.int .i64 i), .ptr 4 0, .v (.int .i64 k)] ++ List.replicate 64 .dead), [(4, .box [.v (.string c.n), .list (vs.map verow) (.tok 5)]), (5, .tok 4 vs.length), (0, .box [.list (r.map corow) .free]), (1, .box [.list [] .full]), (2, .box [.arr 3 0 i cp]), (3, .seq (o.map corow) ((cp - i) * 2))], 6⟩
set_option maxHeartbeats 3200000 in
theorem qcopy_s (r : List Co) (hr : r.length < 70368744177664) (hs : RowSz r) : ACalls Tryz.prog 23 0 5000 [rowA r] [] (fun out H' => ∃ id cp, id < 5000 ∧ (copyR r).length ≤ cp ∧ cp ≤ maxLen ∧ out = .ret (.agg [.arr id 0 (copyR r).length cp]) ∧ H' = [(id, .seq ((copyR r).map corow) ((cp - (copyR r).length) * 2))]) := by
 have hrt := (rright_c r hr).top0
 refine no_implicit_lambda% (acalls_of tok dok (f := 23) ⟨Tryz.func23, rfl, by kernel_rfl⟩ ?_); refine no_implicit_lambda% (c_start (fun _ h => h) ?_)
 repeat' (first | (refine no_implicit_lambda% (zH ?_)) | (((with_reducible refine no_implicit_lambda% (zA ?_)); refine no_implicit_lambda% (zD rfl rfl rfl (fun hc => ?_) (fun hc => ?_)) <;> first | exact zG hc | rw [hc])) | (((with_reducible refine no_implicit_lambda% (zB ?_)); refine no_implicit_lambda% (zE rfl (fun hc => ?_) (fun hc => ?_)) <;> first | exact zG hc | skip)) | (((with_reducible refine no_implicit_lambda% (zC ?_)); refine no_implicit_lambda% (zF rfl rfl (fun hc => ?_) (fun hc => ?_)) <;> first | exact zG hc | rw [hc])) | (refine no_implicit_lambda% (ans ?_)) | (with_reducible first | exact zI | exact zJ) | (refine no_implicit_lambda% (cal [] (hrt) ?_ ?_)) | fail)
 ·have hf : rowB r = false := by simpa using hc
  have he : copyR r = [] := by unfold copyR; rw [hf]; rfl
  rw [he]
  exact e_ret_to (H' := [(3, .seq [] 0)]) (rest := _) (Conv.nilBox (id := 1) (j := 0) (cells := [.list [] .full]) rfl rfl) rfl ⟨3, 0, by omega, Nat.le_refl _, by decide, rfl, rfl⟩ permT (LE0 rfl)
 ·have ht : rowB r = true := by simpa using hc
  have he : copyR r = r.map canC := by unfold copyR; rw [ht]; rfl
  have h4 : r.length ≤ 4 := by
   unfold rowB at ht
   simp only [Bool.and_eq_true, decide_eq_true_eq] at ht
   exact ht.2
  rw [he]
  refine c_l3 (qcSt r) (fun o cp i => i ≤ r.length ∧ i ≤ cp ∧ cp ≤ maxLen ∧ o = (r.take i).map canC) (fun _ _ i => r.length - i) [] 0 0 ⟨Nat.zero_le _, Nat.le_refl _, by decide, rfl⟩ ((Conv.nilBox (id := 2) (j := 0) (cells := [.list [] .full]) rfl rfl).trans ?_) ?_
  ·(refine no_implicit_lambda% (Conv.toT ?_ ?_ (LE0 rfl))); (focus ((unfold qcSt); (try dsimp only); exact wkl)); (focus ((unfold qcSt); (try dsimp only); exact wkh))
  ·rintro o cp i ⟨h1, h2, h3, ho⟩
   have hol : o.length = i := by rw [ho, List.length_map, List.length_take]; omega
   refine c_turn (n' := 4) (fun _ h => h) (fun _ h => h) rfl ?_
   rcases hx : r[i]? with _ | x
   ·have hi : i = r.length := by have := List.getElem?_eq_none_iff.1 hx; omega
    subst hi
    rw [List.take_length] at ho
    subst ho
    repeat' (first | (refine no_implicit_lambda% (zH ?_)) | (((with_reducible refine no_implicit_lambda% (zA ?_)); refine no_implicit_lambda% (zD rfl rfl rfl (fun hc => ?_) (fun hc => ?_)) <;> first | exact zG hc | rw [hc])) | (((with_reducible refine no_implicit_lambda% (zB ?_)); refine no_implicit_lambda% (zE rfl (fun hc => ?_) (fun hc => ?_)) <;> first | exact zG hc | skip)) | (((with_reducible refine no_implicit_lambda% (zC ?_)); refine no_implicit_lambda% (zF rfl rfl (fun hc => ?_) (fun hc => ?_)) <;> first | exact zG hc | rw [hc])) | (refine no_implicit_lambda% (ans ?_)) | (with_reducible first | exact zI | exact zJ))
    have e : (r.map canC).length = r.length := List.length_map ..
    exact e_ret (H' := [(3, .seq ((r.map canC).map corow) ((cp - r.length) * 2))]) (rest := _) rfl ⟨3, cp, by omega, by omega, h3, (by rw [e]; rfl), by rw [e]⟩ permT (LE0 rfl)
   ·have hi : i < r.length := (List.getElem?_eq_some_iff.1 hx).1
    have hix := cox hx
    have hsx := hs x (List.mem_of_getElem? hx)
    have hts : r.take (i + 1) = r.take i ++ [x] := by rw [List.take_add_one, hx]; rfl
    have hxl := col_len (row_mem ht (List.mem_of_getElem? hx))
    repeat' (first | (refine no_implicit_lambda% (zH ?_)) | (((with_reducible refine no_implicit_lambda% (zA ?_)); refine no_implicit_lambda% (zD rfl rfl rfl (fun hc => ?_) (fun hc => ?_)) <;> first | exact zG hc | rw [hc])) | (((with_reducible refine no_implicit_lambda% (zB ?_)); refine no_implicit_lambda% (zE rfl (fun hc => ?_) (fun hc => ?_)) <;> first | exact zG hc | skip)) | (((with_reducible refine no_implicit_lambda% (zC ?_)); refine no_implicit_lambda% (zF rfl rfl (fun hc => ?_) (fun hc => ?_)) <;> first | exact zG hc | rw [hc])) | (refine no_implicit_lambda% (ans ?_)) | (with_reducible first | exact zI | exact zJ))
    refine c_loop2 (qdSt r o cp i x) (fun vs k => k ≤ x.l.length ∧ vs = (x.l.take k).map canE) (fun _ k => x.l.length - k) [] 0 ⟨Nat.zero_le _, rfl⟩ ((Conv.tokBox (id := 4) (j := 1) (sz := 4) (rows := []) rfl rfl (by simp)).trans ?_) ?_
    ·(refine no_implicit_lambda% (Conv.toT ?_ ?_ (LE0 rfl))); (focus ((unfold qdSt); (try dsimp only); exact wkl)); (focus ((unfold qdSt); (try dsimp only); exact wkh))
    ·rintro vs k ⟨k1, hv⟩
     have hvl : vs.length = k := by rw [hv, List.length_map, List.length_take]; omega
     refine c_turn (n' := 6) (fun _ h => h) (fun _ h => h) rfl ?_
     rcases hy : x.l[k]? with _ | y
     ·have hk : k = x.l.length := by have := List.getElem?_eq_none_iff.1 hy; omega
      rw [hk, List.take_length] at hv
      repeat' (first | (refine no_implicit_lambda% (zH ?_)) | (((with_reducible refine no_implicit_lambda% (zA ?_)); refine no_implicit_lambda% (zD rfl rfl rfl (fun hc => ?_) (fun hc => ?_)) <;> first | exact zG hc | rw [hc])) | (((with_reducible refine no_implicit_lambda% (zB ?_)); refine no_implicit_lambda% (zE rfl (fun hc => ?_) (fun hc => ?_)) <;> first | exact zG hc | skip)) | (((with_reducible refine no_implicit_lambda% (zC ?_)); refine no_implicit_lambda% (zF rfl rfl (fun hc => ?_) (fun hc => ?_)) <;> first | exact zG hc | rw [hc])) | (refine no_implicit_lambda% (ans ?_)) | (with_reducible first | exact zI | exact zJ))
      subst hv
      ((with_reducible refine no_implicit_lambda% (zC ?_)); refine no_implicit_lambda% (a_appS (sz := 2) (B := 40) (m2 := i + 1) (rows3 := (o ++ [canC x]).map corow) rfl rfl rfl rfl rfl rfl rfl rfl rfl rfl rfl (fun _ h => h) rfl rfl (coOk o) (coOk [canC x]) (by first | rfl | (exact List.length_map ..) | (simp; done) | (simp; omega)) rfl (by first | omega | (simp; omega)) (by first | rfl | (simp; done) | (simp; omega)) (by first | rfl | (exact map_snoc _ _) | (rw [List.map_append]; rfl) | (simp; done)) ?_))
      intro cp' c1 c2
      refine no_implicit_lambda% (akc ?_)
      repeat' (first | (refine no_implicit_lambda% (zH ?_)) | (((with_reducible refine no_implicit_lambda% (zA ?_)); refine no_implicit_lambda% (zD rfl rfl rfl (fun hc => ?_) (fun hc => ?_)) <;> first | exact zG hc | rw [hc])) | (((with_reducible refine no_implicit_lambda% (zB ?_)); refine no_implicit_lambda% (zE rfl (fun hc => ?_) (fun hc => ?_)) <;> first | exact zG hc | skip)) | (((with_reducible refine no_implicit_lambda% (zC ?_)); refine no_implicit_lambda% (zF rfl rfl (fun hc => ?_) (fun hc => ?_)) <;> first | exact zG hc | rw [hc])) | (refine no_implicit_lambda% (ans ?_)) | (with_reducible first | exact zI | exact zJ))
      (refine no_implicit_lambda% (k_loopLT (((o ++ [canC x], cp', i + 1) : List Co × Nat × Nat)) 0 [0, 1, 2, 6] (by show i + 1 ≤ r.length ∧ i + 1 ≤ cp' ∧ cp' ≤ maxLen ∧ o ++ [canC x] = (r.take (i + 1)).map canC; exact ⟨hi, c1, c2, by rw [hts, List.map_append, ← ho]; rfl⟩) (by first | omega | (simp; done) | (simp; omega)) (LE0 rfl) (fun _ h => h) (fun _ h => h) ?_ ?_)); (focus ((try dsimp only); exact wkl)); (focus ((try dsimp only); exact wkh))
     ·have hk : k < x.l.length := (List.getElem?_eq_some_iff.1 hy).1
      have hiy := vex hy
      have hsy := hsx y (List.mem_of_getElem? hy)
      have hcn := refCanon_c y.v (by omega) (by omega)
      have hty : x.l.take (k + 1) = x.l.take k ++ [y] := by rw [List.take_add_one, hy]; rfl
      repeat' (first | (refine no_implicit_lambda% (zH ?_)) | (((with_reducible refine no_implicit_lambda% (zA ?_)); refine no_implicit_lambda% (zD rfl rfl rfl (fun hc => ?_) (fun hc => ?_)) <;> first | exact zG hc | rw [hc])) | (((with_reducible refine no_implicit_lambda% (zB ?_)); refine no_implicit_lambda% (zE rfl (fun hc => ?_) (fun hc => ?_)) <;> first | exact zG hc | skip)) | (((with_reducible refine no_implicit_lambda% (zC ?_)); refine no_implicit_lambda% (zF rfl rfl (fun hc => ?_) (fun hc => ?_)) <;> first | exact zG hc | rw [hc])) | (((with_reducible refine no_implicit_lambda% (is_ev ?_)); refine no_implicit_lambda% (v_split rfl rfl rfl rfl (fun hc => ?_) (fun hc => ?_)) <;> first | exact zG hc | rw [hc])) | (refine no_implicit_lambda% (ans ?_)) | (with_reducible first | exact zI | exact zJ) | (refine no_implicit_lambda% (cal [] (hcn) ?_ ?_)) | fail)
      (refine no_implicit_lambda% (k_loopLT (((vs ++ [canE y], k + 1) : List Ve × Nat)) 0 (List.range 6) (by show k + 1 ≤ x.l.length ∧ vs ++ [canE y] = (x.l.take (k + 1)).map canE; exact ⟨hk, by rw [hty, List.map_append, ← hv]; rfl⟩) (by first | omega | (simp; done) | (simp; omega)) (LE0 rfl) (fun _ h => h) (fun _ h => h) ?_ ?_)); (focus ((try dsimp only); exact wkl)); (focus ((try dsimp only); exact wkh))
theorem qcopy_f (r : List Co) (hr : r.length < 70368744177664) (hs : RowSz r) : ACalls Tryz.prog 23 0 0 [rowA r] [] (fun out H' => out = .ret (rowA (copyR r)) ∧ H' = []) :=
 ((qcopy_s r hr hs).conv (M := 5000) (R2 := fun out H' => out = .ret (rowA (copyR r)) ∧ H' = []) (Nat.zero_le _) (Nat.le_refl _) (fun x H' hh => by
  obtain ⟨id, cp, _, h1, h2, h3, rfl⟩ := hh
  cases h3
  exact ⟨rowA (copyR r), [], 5000, Nat.le_refl _, (Conv.freezeA (coOk _) (by simp)).toN 0, (fun rows h => by cases h), rfl, rfl⟩) (fun x H' hh => by
  obtain ⟨_, _, _, _, _, h', _⟩ := hh
  cases h')).ren (Nat.zero_le _) fun out H' hh => by
   obtain ⟨rfl, rfl⟩ := hh
   exact ⟨[], .ret (rowA (copyR r)), [], List.nodup_nil, (fun i h => by cases h), (fun i h => absurd h (Nat.not_lt_zero i)), Nat.le_refl _, (by simp [rowA, AOut.ren, AV.ren, AV.renL, Own.ren]), rfl, rfl, rfl⟩
end Go.Proofs.YtjepgbpcpcahgaaGreat
namespace Go.Proofs.YtjepgbpcpcahgaaGreat
open Go.Am
set_option maxRecDepth 100000
def qfSt (l : List Co) (s : ByteArray) (i : Nat) : ASt := ⟨([.dead, .v (.string s), .ptr 0 0, .dead, .dead, .dead, .v (.int .i64 i)] ++ List.replicate 33 .dead), [(0, .box [.list (l.map corow) .free])], 1⟩
theorem qfind_f (l : List Co) (s : ByteArray) (hl : l.length < 1000000) (hs : Nsort l) : ACalls Tryz.prog 60 0 0 [rowA l, .v (.string s)] [] (fun out H' => out = .ret (.tuple [.v (.int .i64 (npos l s)), .v (.bool (hasN l s))]) ∧ H' = []) := by
 have h1 : ACalls Tryz.prog 60 0 5 [rowA l, .v (.string s)] [] (fun out H' => out = .ret (.tuple [.v (.int .i64 (npos l s)), .v (.bool (hasN l s))]) ∧ H' = []) := by
  refine no_implicit_lambda% (acalls_of tok dok (f := 60) ⟨Tryz.func60, rfl, by kernel_rfl⟩ ?_); refine no_implicit_lambda% (c_start (fun _ h => h) ?_)
  repeat' (first | (refine no_implicit_lambda% (zH ?_)) | (((with_reducible refine no_implicit_lambda% (zA ?_)); refine no_implicit_lambda% (zD rfl rfl rfl (fun hc => ?_) (fun hc => ?_)) <;> first | exact zG hc | rw [hc])) | (((with_reducible refine no_implicit_lambda% (zB ?_)); refine no_implicit_lambda% (zE rfl (fun hc => ?_) (fun hc => ?_)) <;> first | exact zG hc | skip)) | (((with_reducible refine no_implicit_lambda% (zC ?_)); refine no_implicit_lambda% (zF rfl rfl (fun hc => ?_) (fun hc => ?_)) <;> first | exact zG hc | rw [hc])) | (refine no_implicit_lambda% (ans ?_)) | (with_reducible first | exact zI | exact zJ))
  refine c_loop' (qfSt l s) (fun i => i ≤ npos l s) (fun i => l.length - i) (a := 0) (Nat.zero_le _) ?_ ?_
  ·(refine no_implicit_lambda% (Conv.toT ?_ ?_ (LE0 rfl))); (focus ((unfold qfSt); (try dsimp only); exact wkl)); (focus ((unfold qfSt); (try dsimp only); exact wkh))
  ·rintro i i1
   have hnl := npos_le l s
   refine c_turn (n' := 1) (fun _ h => h) (fun _ h => h) rfl ?_
   rcases hx : l[i]? with _ | x
   ·have hi : l.length ≤ i := List.getElem?_eq_none_iff.1 hx
    have hin : i = npos l s := by omega
    have hh : hasN l s = false := by unfold hasN; rw [← hin, hx]
    rw [hh, ← hin]
    repeat' (first | (refine no_implicit_lambda% (zH ?_)) | (((with_reducible refine no_implicit_lambda% (zA ?_)); refine no_implicit_lambda% (zD rfl rfl rfl (fun hc => ?_) (fun hc => ?_)) <;> first | exact zG hc | rw [hc])) | (((with_reducible refine no_implicit_lambda% (zB ?_)); refine no_implicit_lambda% (zE rfl (fun hc => ?_) (fun hc => ?_)) <;> first | exact zG hc | skip)) | (((with_reducible refine no_implicit_lambda% (zC ?_)); refine no_implicit_lambda% (zF rfl rfl (fun hc => ?_) (fun hc => ?_)) <;> first | exact zG hc | rw [hc])) | (((with_reducible refine no_implicit_lambda% (is_ev ?_)); refine no_implicit_lambda% (v_split rfl rfl rfl rfl (fun hc => ?_) (fun hc => ?_)) <;> first | exact zG hc | rw [hc])) | (refine no_implicit_lambda% (ans ?_)) | (with_reducible first | exact zI | exact zJ))
    exact e_ret (H' := []) (rest := _) rfl ⟨rfl, rfl⟩ permT (LE0 rfl)
   ·have hi : i < l.length := (List.getElem?_eq_some_iff.1 hx).1
    have hix := cox hx
    have hk := npos_lt (s := s) hs hx
    repeat' (first | (refine no_implicit_lambda% (zH ?_)) | (((with_reducible refine no_implicit_lambda% (zA ?_)); refine no_implicit_lambda% (zD rfl rfl rfl (fun hc => ?_) (fun hc => ?_)) <;> first | exact zG hc | rw [hc])) | (((with_reducible refine no_implicit_lambda% (zB ?_)); refine no_implicit_lambda% (zE rfl (fun hc => ?_) (fun hc => ?_)) <;> first | exact zG hc | skip)) | (((with_reducible refine no_implicit_lambda% (zC ?_)); refine no_implicit_lambda% (zF rfl rfl (fun hc => ?_) (fun hc => ?_)) <;> first | exact zG hc | rw [hc])) | (((with_reducible refine no_implicit_lambda% (is_ev ?_)); refine no_implicit_lambda% (v_split rfl rfl rfl rfl (fun hc => ?_) (fun hc => ?_)) <;> first | exact zG hc | rw [hc])) | (refine no_implicit_lambda% (ans ?_)) | (with_reducible first | exact zI | exact zJ))
    ·have := hk.2 hc
     (refine no_implicit_lambda% (k_loopLT (i + 1) 0 [0] (by show i + 1 ≤ npos l s; omega) (by first | omega | (simp; done) | (simp; omega)) (LE0 rfl) (fun _ h => h) (fun _ h => h) ?_ ?_)); (focus ((try dsimp only); exact wkl)); (focus ((try dsimp only); exact wkh))
    ·have hin : i = npos l s := by
      have h5 : ¬ i < npos l s := fun h => by
       have h6 : sLt x.n s = false := by assumption
       rw [hk.1 h] at h6; cases h6
      omega
     have hh : hasN l s = (x.n.toList == s.toList) := by
      unfold hasN
      rw [← hin, hx]
      rw [eq_cb]
      rfl
     rw [hh, ← hin]
     exact e_ret (H' := []) (rest := _) rfl ⟨rfl, rfl⟩ permT (LE0 rfl)
 exact h1.ren (Nat.zero_le _) fun out H' hh => by
  obtain ⟨rfl, rfl⟩ := hh
  exact ⟨[], .ret (.tuple [.v (.int .i64 (npos l s)), .v (.bool (hasN l s))]), [], List.nodup_nil, (fun i h => by cases h), (fun i h => absurd h (Nat.not_lt_zero i)), Nat.le_refl _, (by simp [AOut.ren, AV.ren, AV.renL]), rfl, rfl, rfl⟩
def qaSt (o : List Co) (p : Nat) (t : Int) (i : Nat) : ASt := ⟨([.dead, .dead, .v (.int .i64 t), .dead, .dead, .dead, .ptr 1 0, .dead, .ptr 2 0, .v (.int .i64 p), .dead, .v (.int .i64 i)] ++ List.replicate 45 .dead), [(1, .box [.v (.int .i64 0), .list [] .free, .v (.float .f64 0)]), (2, .box [.list (o.map corow) .free])], 3⟩
set_option maxHeartbeats 3200000 in
theorem qat_c (r : List Co) (s : ByteArray) (t : Int) (hr : r.length < 70368744177664) (hs : RowSz r) : ACalls Tryz.prog 71 0 5000 [rowA r, .v (.string s), .v (.int .i64 t)] [] (fun out H' => out = .ret (optA (atR r s t)) ∧ H' = []) := by
 have hcp := qcopy_f r hr hs
 have h4 := copy_len r
 have hf := qfind_f (copyR r) s (by omega) (copy_sort r)
 have hcol := fun c (h : c ∈ copyR r) => copy_col h
 unfold atR
 generalize copyR r = o at *
 refine no_implicit_lambda% (acalls_of tok dok (f := 71) ⟨Tryz.func71, rfl, by kernel_rfl⟩ ?_); refine no_implicit_lambda% (c_start (fun _ h => h) ?_)
 rcases hN : hasN o s with _ | _
 ·rw [hN] at hf
  repeat' (first | (refine no_implicit_lambda% (zH ?_)) | (((with_reducible refine no_implicit_lambda% (zA ?_)); refine no_implicit_lambda% (zD rfl rfl rfl (fun hc => ?_) (fun hc => ?_)) <;> first | exact zG hc | rw [hc])) | (((with_reducible refine no_implicit_lambda% (zB ?_)); refine no_implicit_lambda% (zE rfl (fun hc => ?_) (fun hc => ?_)) <;> first | exact zG hc | skip)) | (((with_reducible refine no_implicit_lambda% (zC ?_)); refine no_implicit_lambda% (zF rfl rfl (fun hc => ?_) (fun hc => ?_)) <;> first | exact zG hc | rw [hc])) | (refine no_implicit_lambda% (ans ?_)) | (with_reducible first | exact zI | exact zJ) | (refine no_implicit_lambda% (cal [] (hcp) ?_ ?_)) | (refine no_implicit_lambda% (cal [] (hf) ?_ ?_)) | fail)
  refine e_ret_to (H' := []) (rest := [(1, .box (vrowV ⟨0, [], 0⟩))]) (Conv.toT (τ := ⟨_, [(1, .box (vrowV ⟨0, [], 0⟩))], _⟩) (.refl _) ?_ (Nat.le_refl _)) rfl ⟨rfl, rfl⟩ (.of_eq rfl) (LE0 rfl)
  unfold vrowV
  exact wkh
 ·rw [hN] at hf
  obtain ⟨c, hc⟩ : ∃ c, o[npos o s]? = some c := by
   unfold hasN at hN
   split at hN
   ·exact ⟨_, by assumption⟩
   ·cases hN
  have hix := cox hc
  have hcl := hcol c (List.mem_of_getElem? hc)
  have hat : (if true = true then o[npos o s]?.bind fun c => atL c.l t else none) = atL c.l t := by rw [if_pos rfl, hc]; rfl
  rw [hat]
  repeat' (first | (refine no_implicit_lambda% (zH ?_)) | (((with_reducible refine no_implicit_lambda% (zA ?_)); refine no_implicit_lambda% (zD rfl rfl rfl (fun hc => ?_) (fun hc => ?_)) <;> first | exact zG hc | rw [hc])) | (((with_reducible refine no_implicit_lambda% (zB ?_)); refine no_implicit_lambda% (zE rfl (fun hc => ?_) (fun hc => ?_)) <;> first | exact zG hc | skip)) | (((with_reducible refine no_implicit_lambda% (zC ?_)); refine no_implicit_lambda% (zF rfl rfl (fun hc => ?_) (fun hc => ?_)) <;> first | exact zG hc | rw [hc])) | (refine no_implicit_lambda% (ans ?_)) | (with_reducible first | exact zI | exact zJ) | (refine no_implicit_lambda% (cal [] (hcp) ?_ ?_)) | (refine no_implicit_lambda% (cal [] (hf) ?_ ?_)) | fail)
  refine c_loop' (qaSt o (npos o s) t) (fun i => i ≤ c.l.length ∧ (c.l.take i).find? (fun x => decide (x.t ≤ t)) = none) (fun i => c.l.length - i) (a := 0) ⟨Nat.zero_le _, rfl⟩ ?_ ?_
  ·(refine no_implicit_lambda% (Conv.toT ?_ ?_ (LE0 rfl))); (focus ((unfold qaSt); (try dsimp only); exact wkl)); (focus ((unfold qaSt); (try dsimp only); exact wkh))
  ·rintro i ⟨h1, hI⟩
   refine c_turn (n' := 3) (fun _ h => h) (fun _ h => h) rfl ?_
   rcases hx : c.l[i]? with _ | x
   ·have hi : i = c.l.length := by have := List.getElem?_eq_none_iff.1 hx; omega
    rw [hi, List.take_length] at hI
    have e : atL c.l t = none := by unfold atL; rw [hI]; rfl
    rw [e]
    repeat' (first | (refine no_implicit_lambda% (zH ?_)) | (((with_reducible refine no_implicit_lambda% (zA ?_)); refine no_implicit_lambda% (zD rfl rfl rfl (fun hc => ?_) (fun hc => ?_)) <;> first | exact zG hc | rw [hc])) | (((with_reducible refine no_implicit_lambda% (zB ?_)); refine no_implicit_lambda% (zE rfl (fun hc => ?_) (fun hc => ?_)) <;> first | exact zG hc | skip)) | (((with_reducible refine no_implicit_lambda% (zC ?_)); refine no_implicit_lambda% (zF rfl rfl (fun hc => ?_) (fun hc => ?_)) <;> first | exact zG hc | rw [hc])) | (refine no_implicit_lambda% (ans ?_)) | (with_reducible first | exact zI | exact zJ))
    refine e_ret_to (H' := []) (rest := [(1, .box (vrowV ⟨0, [], 0⟩))]) (Conv.toT (τ := ⟨_, [(1, .box (vrowV ⟨0, [], 0⟩))], _⟩) (.refl _) ?_ (Nat.le_refl _)) rfl ⟨rfl, rfl⟩ (.of_eq rfl) (LE0 rfl)
    unfold vrowV
    exact wkh
   ·have hi : i < c.l.length := (List.getElem?_eq_some_iff.1 hx).1
    have hiy := vex hx
    have hts : c.l.take (i + 1) = c.l.take i ++ [x] := by rw [List.take_add_one, hx]; rfl
    repeat' (first | (refine no_implicit_lambda% (zH ?_)) | (((with_reducible refine no_implicit_lambda% (zA ?_)); refine no_implicit_lambda% (zD rfl rfl rfl (fun hc => ?_) (fun hc => ?_)) <;> first | exact zG hc | rw [hc])) | (((with_reducible refine no_implicit_lambda% (zB ?_)); refine no_implicit_lambda% (zE rfl (fun hc => ?_) (fun hc => ?_)) <;> first | exact zG hc | skip)) | (((with_reducible refine no_implicit_lambda% (zC ?_)); refine no_implicit_lambda% (zF rfl rfl (fun hc => ?_) (fun hc => ?_)) <;> first | exact zG hc | rw [hc])) | (refine no_implicit_lambda% (ans ?_)) | (with_reducible first | exact zI | exact zJ))
    ·have e : atL c.l t = some x.v := by
      unfold atL
      have hsp : c.l = c.l.take i ++ x :: c.l.drop (i + 1) := by
       obtain ⟨hq, rfl⟩ := List.getElem?_eq_some_iff.1 hx
       rw [List.getElem_cons_drop, List.take_append_drop]
      rw [hsp, List.find?_append, hI]
      simp only [Option.none_or, List.find?_cons]
      rw [hc]; rfl
     rw [e]
     exact e_ret (H' := []) (rest := _) rfl ⟨rfl, rfl⟩ (.refl _) (LE0 rfl)
    ·(refine no_implicit_lambda% (k_loopLT (i + 1) 0 [0, 1, 2] (by show i + 1 ≤ c.l.length ∧ (c.l.take (i + 1)).find? (fun x => decide (x.t ≤ t)) = none; exact ⟨hi, by rw [hts, List.find?_append, hI]; simp [of_decide_eq_false hc]⟩) (by first | omega | (simp; done) | (simp; omega)) (LE0 rfl) (fun _ h => h) (fun _ h => h) ?_ ?_)); (focus ((try dsimp only); exact wkl)); (focus ((try dsimp only); exact wkh))
theorem qnewest_c (r : List Co) (s : ByteArray) (hr : r.length < 70368744177664) (hs : RowSz r) : ACalls Tryz.prog 25 0 6000 [rowA r, .v (.string s)] [] (fun out H' => out = .ret (optA (atR r s 1099511627776)) ∧ H' = []) := by
 have h := qat_c r s 1099511627776 hr hs
 generalize atR r s 1099511627776 = q at *
 rcases q with _ | v
 ·have h1 : ACalls Tryz.prog 71 0 5000 [rowA r, .v (.string s), .v (.int .i64 1099511627776)] [] (fun out H' => out = .ret (.tuple [.agg (vrowV ⟨0, [], 0⟩), .v (.bool false)]) ∧ H' = []) := h
  refine no_implicit_lambda% (acalls_of tok dok (f := 25) ⟨Tryz.func25, rfl, by kernel_rfl⟩ ?_); refine no_implicit_lambda% (c_start (fun _ h => h) ?_)
  repeat' (first | (refine no_implicit_lambda% (zH ?_)) | (((with_reducible refine no_implicit_lambda% (zA ?_)); refine no_implicit_lambda% (zD rfl rfl rfl (fun hc => ?_) (fun hc => ?_)) <;> first | exact zG hc | rw [hc])) | (((with_reducible refine no_implicit_lambda% (zB ?_)); refine no_implicit_lambda% (zE rfl (fun hc => ?_) (fun hc => ?_)) <;> first | exact zG hc | skip)) | (((with_reducible refine no_implicit_lambda% (zC ?_)); refine no_implicit_lambda% (zF rfl rfl (fun hc => ?_) (fun hc => ?_)) <;> first | exact zG hc | rw [hc])) | (refine no_implicit_lambda% (ans ?_)) | (with_reducible first | exact zI | exact zJ) | (refine no_implicit_lambda% (cal [] (h1) ?_ ?_)) | fail)
  exact e_ret (H' := []) (rest := _) rfl ⟨rfl, rfl⟩ (.refl _) (LE0 rfl)
 ·have h1 : ACalls Tryz.prog 71 0 5000 [rowA r, .v (.string s), .v (.int .i64 1099511627776)] [] (fun out H' => out = .ret (.tuple [.agg (vrowV v), .v (.bool true)]) ∧ H' = []) := h
  refine no_implicit_lambda% (acalls_of tok dok (f := 25) ⟨Tryz.func25, rfl, by kernel_rfl⟩ ?_); refine no_implicit_lambda% (c_start (fun _ h => h) ?_)
  repeat' (first | (refine no_implicit_lambda% (zH ?_)) | (((with_reducible refine no_implicit_lambda% (zA ?_)); refine no_implicit_lambda% (zD rfl rfl rfl (fun hc => ?_) (fun hc => ?_)) <;> first | exact zG hc | rw [hc])) | (((with_reducible refine no_implicit_lambda% (zB ?_)); refine no_implicit_lambda% (zE rfl (fun hc => ?_) (fun hc => ?_)) <;> first | exact zG hc | skip)) | (((with_reducible refine no_implicit_lambda% (zC ?_)); refine no_implicit_lambda% (zF rfl rfl (fun hc => ?_) (fun hc => ?_)) <;> first | exact zG hc | rw [hc])) | (refine no_implicit_lambda% (ans ?_)) | (with_reducible first | exact zI | exact zJ) | (refine no_implicit_lambda% (cal [] (h1) ?_ ?_)) | fail)
  exact e_ret (H' := []) (rest := _) rfl ⟨rfl, rfl⟩ (.refl _) (LE0 rfl)
end Go.Proofs.YtjepgbpcpcahgaaGreat
namespace Go.Proofs.YtjepgbpcpcahgaaGreat
open Go.Am
set_option maxRecDepth 100000
def dcR (r : List Co) (s : ByteArray) : List Co := if hasN (copyR r) s then (copyR r).eraseIdx (npos (copyR r) s) else copyR r
set_option maxHeartbeats 3200000 in
theorem qdropcol_c (r : List Co) (s : ByteArray) (hr : r.length < 70368744177664) (hs : RowSz r) : ACalls Tryz.prog 78 0 5000 [rowA r, .v (.string s)] [] (fun out H' => out = .ret (rowA (dcR r s)) ∧ H' = []) := by
 have hcp := qcopy_f r hr hs
 have h4 := copy_len r
 have hf := qfind_f (copyR r) s (by omega) (copy_sort r)
 unfold dcR
 generalize copyR r = o at *
 have hnl := npos_le o s
 refine no_implicit_lambda% (acalls_of tok dok (f := 78) ⟨Tryz.func78, rfl, by kernel_rfl⟩ ?_); refine no_implicit_lambda% (c_start (fun _ h => h) ?_)
 rcases hN : hasN o s with _ | _
 ·rw [hN] at hf
  repeat' (first | (refine no_implicit_lambda% (zH ?_)) | (((with_reducible refine no_implicit_lambda% (zA ?_)); refine no_implicit_lambda% (zD rfl rfl rfl (fun hc => ?_) (fun hc => ?_)) <;> first | exact zG hc | rw [hc])) | (((with_reducible refine no_implicit_lambda% (zB ?_)); refine no_implicit_lambda% (zE rfl (fun hc => ?_) (fun hc => ?_)) <;> first | exact zG hc | skip)) | (((with_reducible refine no_implicit_lambda% (zC ?_)); refine no_implicit_lambda% (zF rfl rfl (fun hc => ?_) (fun hc => ?_)) <;> first | exact zG hc | rw [hc])) | (refine no_implicit_lambda% (ans ?_)) | (with_reducible first | exact zI | exact zJ) | (refine no_implicit_lambda% (cal [] (hcp) ?_ ?_)) | (refine no_implicit_lambda% (cal [] (hf) ?_ ?_)) | fail)
  exact e_ret (H' := []) (rest := _) rfl ⟨rfl, rfl⟩ (.refl _) (LE0 rfl)
 ·rw [hN] at hf
  have hlt : npos o s < o.length := by
   unfold hasN at hN
   split at hN
   ·exact (List.getElem?_eq_some_iff.1 (by assumption)).1
   ·cases hN
  repeat' (first | (refine no_implicit_lambda% (zH ?_)) | (((with_reducible refine no_implicit_lambda% (zA ?_)); refine no_implicit_lambda% (zD rfl rfl rfl (fun hc => ?_) (fun hc => ?_)) <;> first | exact zG hc | rw [hc])) | (((with_reducible refine no_implicit_lambda% (zB ?_)); refine no_implicit_lambda% (zE rfl (fun hc => ?_) (fun hc => ?_)) <;> first | exact zG hc | skip)) | (((with_reducible refine no_implicit_lambda% (zC ?_)); refine no_implicit_lambda% (zF rfl rfl (fun hc => ?_) (fun hc => ?_)) <;> first | exact zG hc | rw [hc])) | (((with_reducible refine no_implicit_lambda% (is_ev ?_)); refine no_implicit_lambda% (v_split rfl rfl rfl rfl (fun hc => ?_) (fun hc => ?_)) <;> first | exact zG hc | rw [hc])) | (refine no_implicit_lambda% (ans ?_)) | (with_reducible first | exact zI | exact zJ) | (refine no_implicit_lambda% (cal [] (hcp) ?_ ?_)) | (refine no_implicit_lambda% (cal [] (hf) ?_ ?_)) | fail)
  ((with_reducible refine no_implicit_lambda% (is_ev ?_)); refine no_implicit_lambda% (v_qS rfl rfl rfl rfl (qAnd5 (fun _ h => h)) (fun _ h => h) ?_ ?_)); focus ((repeat' (refine And.intro ?_ ?_)) <;> (first | exact trivial | exact (coOk o).len | exact Int.natCast_nonneg _ | omega | (simp; done) | (simp; omega) | ((show (0 : Int) ≤ _); omega)))
  repeat' (first | (refine no_implicit_lambda% (zH ?_)) | (((with_reducible refine no_implicit_lambda% (zA ?_)); refine no_implicit_lambda% (zD rfl rfl rfl (fun hc => ?_) (fun hc => ?_)) <;> first | exact zG hc | rw [hc])) | (((with_reducible refine no_implicit_lambda% (zB ?_)); refine no_implicit_lambda% (zE rfl (fun hc => ?_) (fun hc => ?_)) <;> first | exact zG hc | skip)) | (((with_reducible refine no_implicit_lambda% (zC ?_)); refine no_implicit_lambda% (zF rfl rfl (fun hc => ?_) (fun hc => ?_)) <;> first | exact zG hc | rw [hc])) | (((with_reducible refine no_implicit_lambda% (is_ev ?_)); refine no_implicit_lambda% (v_split rfl rfl rfl rfl (fun hc => ?_) (fun hc => ?_)) <;> first | exact zG hc | rw [hc])) | (refine no_implicit_lambda% (ans ?_)) | (with_reducible first | exact zI | exact zJ))
  rw [show IntKind.i64.wrap ((npos o s : Int) + 1) = ((npos o s + 1 : Nat) : Int) by rw [z64 (by omega) (by omega)]; omega]
  ((with_reducible refine no_implicit_lambda% (is_ev ?_)); refine no_implicit_lambda% (v_qS rfl rfl rfl rfl (qAnd5 (fun _ h => h)) (fun _ h => h) ?_ ?_)); focus ((repeat' (refine And.intro ?_ ?_)) <;> (first | exact trivial | exact (coOk o).len | exact Int.natCast_nonneg _ | omega | (simp; done) | (simp; omega) | ((show (0 : Int) ≤ _); omega)))
  repeat' (first | (refine no_implicit_lambda% (zH ?_)) | (((with_reducible refine no_implicit_lambda% (zA ?_)); refine no_implicit_lambda% (zD rfl rfl rfl (fun hc => ?_) (fun hc => ?_)) <;> first | exact zG hc | rw [hc])) | (((with_reducible refine no_implicit_lambda% (zB ?_)); refine no_implicit_lambda% (zE rfl (fun hc => ?_) (fun hc => ?_)) <;> first | exact zG hc | skip)) | (((with_reducible refine no_implicit_lambda% (zC ?_)); refine no_implicit_lambda% (zF rfl rfl (fun hc => ?_) (fun hc => ?_)) <;> first | exact zG hc | rw [hc])) | (((with_reducible refine no_implicit_lambda% (is_ev ?_)); refine no_implicit_lambda% (v_split rfl rfl rfl rfl (fun hc => ?_) (fun hc => ?_)) <;> first | exact zG hc | rw [hc])) | (refine no_implicit_lambda% (ans ?_)) | (with_reducible first | exact zI | exact zJ))
  have e1 : List.drop 0 (List.take (npos o s : Int).toNat (o.map corow)) = (o.take (npos o s)).map corow := by rw [Int.toNat_natCast, List.drop_zero, List.map_take]
  have e2 : List.drop ((npos o s + 1 : Nat) : Int).toNat (List.take (o.map corow).length (o.map corow)) = (o.drop (npos o s + 1)).map corow := by rw [Int.toNat_natCast, List.take_length, List.map_drop]
  rw [e1, e2]
  have r1 : ∀ row ∈ (o.take (npos o s)).map corow, row.length = 2 := (coOk _).len
  have r2 : ∀ row ∈ (o.drop (npos o s + 1)).map corow, row.length = 2 := (coOk _).len
  have b1 : ((o.take (npos o s)).map corow).length ≤ 4 := by rw [List.length_map, List.length_take]; omega
  have b2 : ((o.drop (npos o s + 1)).map corow).length ≤ 4 := by rw [List.length_map, List.length_drop]; omega
  have b3 : (o.take (npos o s)).length ≤ 4 := by rw [List.length_take]; omega
  have b4 : (o.drop (npos o s + 1)).length ≤ 4 := by rw [List.length_drop]; omega
  have b5 : ([] ++ (o.take (npos o s)).map corow).length ≤ 4 := by rw [List.nil_append]; exact b1
  repeat' (first | (refine no_implicit_lambda% (zH ?_)) | (((with_reducible refine no_implicit_lambda% (zA ?_)); refine no_implicit_lambda% (zD rfl rfl rfl (fun hc => ?_) (fun hc => ?_)) <;> first | exact zG hc | rw [hc])) | (((with_reducible refine no_implicit_lambda% (zB ?_)); refine no_implicit_lambda% (zE rfl (fun hc => ?_) (fun hc => ?_)) <;> first | exact zG hc | skip)) | (((with_reducible refine no_implicit_lambda% (zC ?_)); refine no_implicit_lambda% (zF rfl rfl (fun hc => ?_) (fun hc => ?_)) <;> first | exact zG hc | rw [hc])) | (((with_reducible refine no_implicit_lambda% (is_ev ?_)); refine no_implicit_lambda% (v_split rfl rfl rfl rfl (fun hc => ?_) (fun hc => ?_)) <;> first | exact zG hc | rw [hc])) | (refine no_implicit_lambda% (ans ?_)) | (with_reducible first | exact zI | exact zJ))
  have e3 : [] ++ (o.take (npos o s)).map corow ++ (o.drop (npos o s + 1)).map corow = (o.eraseIdx (npos o s)).map corow := by rw [List.nil_append, ← List.map_append, List.eraseIdx_eq_take_drop_succ]
  rw [e3]
  refine e_ret_to (H' := []) (rest := [(1, .box [.list ((o.eraseIdx (npos o s)).map corow) .free])]) (Conv.toT (τ := ⟨_, [(1, .box [.list ((o.eraseIdx (npos o s)).map corow) .free])], _⟩) (.refl _) ?_ (Nat.le_refl _)) rfl ⟨rfl, rfl⟩ (.of_eq rfl) (LE0 rfl)
  exact wkh
end Go.Proofs.YtjepgbpcpcahgaaGreat
namespace Go.Proofs.YtjepgbpcpcahgaaGreat
open Go.Am
set_option maxRecDepth 100000
theorem put_clearC {sz k i : Nat} {rows : List (List AV)} (h : ∀ row ∈ rows, row.length = sz) (hi : i ≤ rows.length) : putCells (seqC rows k) (i * sz) (List.replicate ((rows.length - i) * sz) .dead) = seqC (rows.take i) (k + (rows.length - i) * sz) := by
 have hl : (rows.take i).flatten.length = i * sz := by rw [flatten_length (fun row hr => h row (List.mem_of_mem_take hr)), List.length_take, Nat.min_eq_left hi]
 have hd : (rows.drop i).flatten.length = (rows.length - i) * sz := by rw [flatten_length (fun row hr => h row (List.mem_of_mem_drop hr)), List.length_drop]
 rw [seq_split h i, ← hl, put_mid _ _ _ _ (by rw [List.length_replicate, hd])]
 unfold seqC
 rw [List.replicate_append_replicate, Nat.add_comm]
theorem a_clearToC {P : Program} {TT : Types} {o : Oper} {s : List AV} {L : Heap} {n : Nat} {K KP : AV → Heap → Nat → Prop} {c : Call} {x : Operand} {t e : TypeId} {te : TI} {z : Value} {id off nn cp k k2 i sz : Nat} {rows : List (List AV)} {L0 : Heap} (ho : o.op = .call c) (hk : opKind o = .mem) (hc : c.callee = .builtin .clear) (ha : c.args.toList = [x]) (hty : c.argTypes.toList = [t])
  (hkt : kindT TT t = .slice e) (hte : TT e = some te) (hz : te.zero = some z) (hzk : zok te z = true) (hx : ev s x = .arr id off nn cp) (hta : ∀ k' : Res → Heap → Prop, k' (.seq rows k) L0 → takeO L id k') (hsz : te.size = sz) (hR : RowsOk sz rows) (hi : i ≤ rows.length) (hoff : off = i * sz) (hnn : nn = rows.length - i) (hne : rows.length + k ≠ 0) (hk2 : k + (rows.length - i) * sz = k2)
  (h : K (.tuple []) ((id, .seq (rows.take i) k2) :: L0) n) : aop P TT o s L n K KP := by
 subst hoff; subst hsz; subst hnn; subst hk2
 refine a_clearS ho hk hc ha hty hkt hte hz hzk hx hta hne ?_ (put_clearC hR.len hi) (hR.take i).pure h
 rw [seqC_len hR.len, ← Nat.add_mul]
 have : i + (rows.length - i) = rows.length := by omega
 rw [this]; omega
theorem asrc_boxd {L : Heap} {sz : Nat} {y : AV} {id off i m cp k : Nat} {rows : List (List AV)} {K : Nat → List AV → Prop} (hy : y = .arr id off m cp) (hf : findL L id = some (.box (seqC rows k))) (hR : RowsOk sz rows) (hi : i ≤ rows.length) (hoff : off = i * sz) (hm : m = rows.length - i) (h : K m (rows.drop i).flatten) : asrc L sz (fun m => m) y K := by
 subst hy
 have hmul : i * sz + (rows.length - i) * sz = rows.length * sz := by rw [← Nat.add_mul]; congr 1; omega
 have hfl := flatten_length (hR.drop i).len
 rw [List.length_drop] at hfl
 have e : ((seqC rows k).drop off).take (m * sz) = (rows.drop i).flatten := by
  rw [hoff, hm, seq_from hR.len i k hi, List.take_append_of_le_length (by omega), List.take_of_length_le (by omega)]
 unfold asrc
 simp only [hf]
 rw [e]
 refine ⟨Nat.le_refl _, ?_, (hR.drop i).one, h⟩
 rw [hoff, hm, seqC_len hR.len]; omega
theorem put_shift {sz k i : Nat} {rows : List (List AV)} {last : List AV} (h : ∀ row ∈ rows, row.length = sz) (hi : i < rows.length) (hl : rows[rows.length - 1]? = some last) : putCells (seqC rows k) (i * sz) (rows.drop (i + 1)).flatten = seqC (rows.eraseIdx i ++ [last]) k := by
 have hd : rows.drop i = (rows.drop i).take (rows.length - 1 - i) ++ [last] := by
  conv => lhs; rw [← List.take_append_drop (rows.length - 1 - i) (rows.drop i)]
  congr 1
  rw [List.drop_drop, show i + (rows.length - 1 - i) = rows.length - 1 by omega]
  obtain ⟨h1, h2⟩ := List.getElem?_eq_some_iff.1 hl
  rw [List.drop_eq_getElem_cons h1, h2, show rows.length - 1 + 1 = rows.length by omega, List.drop_length]
 have hlt : (rows.take i).flatten.length = i * sz := by rw [flatten_length (fun row hr => h row (List.mem_of_mem_take hr)), List.length_take, Nat.min_eq_left (by omega)]
 have hl1 : (rows.drop (i + 1)).flatten.length = (rows.length - (i + 1)) * sz := by rw [flatten_length (fun row hr => h row (List.mem_of_mem_drop hr)), List.length_drop]
 have hl2 : ((rows.drop i).take (rows.length - 1 - i)).flatten.length = (rows.length - (i + 1)) * sz := by
  rw [flatten_length (fun row hr => h row (List.mem_of_mem_drop (List.mem_of_mem_take hr))), List.length_take, List.length_drop, Nat.min_eq_left (by omega)]
  congr 1; omega
 rw [seq_split h i, hd, List.flatten_append, List.append_assoc, ← hlt, put_mid _ _ _ _ (by rw [hl1, hl2])]
 unfold seqC
 rw [List.eraseIdx_eq_take_drop_succ]
 simp
theorem qAnd6 {X : (AV → Prop) → Prop} {p1 p2 p3 p4 p5 p6 : Prop} {av : AV} (h : ∀ K : AV → Prop, (p1 ∧ p2 ∧ p3 ∧ p4 ∧ p5 ∧ p6 ∧ K av) → X K) : ∀ K : AV → Prop, (p1 ∧ p2 ∧ p3 ∧ p4 ∧ p5 ∧ p6) ∧ K av → X K := fun K ⟨⟨a, b, c, d, e, f⟩, g⟩ => h K ⟨a, b, c, d, e, f, g⟩
end Go.Proofs.YtjepgbpcpcahgaaGreat
namespace Go.Proofs.YtjepgbpcpcahgaaGreat
open Go.Am
set_option maxRecDepth 100000
def CN (o : List Co) (out : AOut) (H' : Heap) : Prop := ∃ cp, o.length ≤ cp ∧ cp ≤ maxLen ∧ out = .ret (.agg [.arr 0 0 o.length cp]) ∧ H' = [(0, .seq (o.map corow) ((cp - o.length) * 2))]
theorem npos_len {o : List Co} {s : ByteArray} (h : hasN o s = true) : npos o s < o.length := by
 unfold hasN at h
 split at h
 ·exact (List.getElem?_eq_some_iff.1 (by assumption)).1
 ·cases h
end Go.Proofs.YtjepgbpcpcahgaaGreat
namespace Go.Proofs.YtjepgbpcpcahgaaGreat
open Go.Am
set_option maxRecDepth 100000
end Go.Proofs.YtjepgbpcpcahgaaGreat
namespace Go.Proofs.YtjepgbpcpcahgaaGreat
open Go.Am
theorem vRt_can (v : Va) (h : vRt v = true) : vRt (canV v) = true := by
 unfold vRt at *
 simp only [Bool.or_eq_true, Bool.and_eq_true, beq_iff_eq, decide_eq_true_eq] at h
 unfold canV
 rcases h with ⟨h1, h2⟩ | h1
 ·rw [if_pos h1]; simp [h2]
 ·rw [if_neg (by omega), if_pos h1]; simp
theorem vers_can : ∀ (l : List Ve) (p : Option Int), versB p l = true → versB p (l.map canE) = true
 | [], p, _ => rfl
 | x :: l, p, h => by
  unfold versB at h
  simp only [Bool.and_eq_true] at h
  show versB p (canE x :: l.map canE) = true
  unfold versB
  simp only [Bool.and_eq_true]
  exact ⟨⟨⟨h.1.1.1, vRt_can _ h.1.1.2⟩, h.1.2⟩, vers_can l _ h.2⟩
theorem col_can {c : Co} (h : colB c = true) : colB (canC c) = true := by
 unfold colB at *
 simp only [Bool.and_eq_true, decide_eq_true_eq] at *
 refine ⟨⟨h.1.1, ?_⟩, vers_can _ _ h.2⟩
 unfold canC
 simpa using h.1.2
theorem canE_idem (x : Ve) : canE (canE x) = canE x := by unfold canE; simp [canV_idem]
theorem canC_idem (c : Co) : canC (canC c) = canC c := by
 unfold canC
 simp [canE_idem, Function.comp_def]
structure Fine (o : List Co) : Prop where
 len : o.length ≤ 4
 col : ∀ c ∈ o, colB c = true
 can : ∀ c ∈ o, canC c = c
 srt : Nsort o
theorem cols_of : ∀ (l : List Co) (p : Option ByteArray), (∀ c ∈ l, colB c = true) → Nsort l → (∀ q, p = some q → ∀ c ∈ l, sLt q c.n = true) → colsB p l = true
 | [], p, _, _, _ => rfl
 | c :: l, p, h1, h2, h3 => by
  unfold Nsort at h2
  rw [List.pairwise_cons] at h2
  unfold colsB
  simp only [Bool.and_eq_true]
  refine ⟨⟨h1 c (by simp), ?_⟩, cols_of l _ (fun d hd => h1 d (by simp [hd])) h2.2 fun q hq d hd => ?_⟩
  ·cases p with
   | none => rfl
   | some q => exact h3 q rfl c (by simp)
  ·cases hq; exact h2.1 d hd
theorem Fine.row {o : List Co} (h : Fine o) : rowB o = true := by
 unfold rowB
 rw [cols_of o none h.col h.srt (fun q hq => by cases hq), decide_eq_true h.len]; rfl
theorem Fine.copy {o : List Co} (h : Fine o) : copyR o = o := by
 unfold copyR
 rw [h.row, if_pos rfl]
 conv => rhs; rw [← List.map_id o]
 exact List.map_congr_left fun c hc => h.can c hc
theorem copy_fine (r : List Co) : Fine (copyR r) := by
 refine ⟨copy_len r, fun c hc => ?_, fun c hc => ?_, copy_sort r⟩ <;>
 ·unfold copyR at hc
  split at hc
  ·rename_i hb
   obtain ⟨d, hd, rfl⟩ := List.mem_map.1 hc
   first | exact col_can (row_mem hb hd) | exact canC_idem d
  ·cases hc
theorem Fine.sub {o q : List Co} (h : Fine o) (hs : q.Sublist o) : Fine q :=
 ⟨Nat.le_trans hs.length_le h.len, fun c hc => h.col c (hs.subset hc), fun c hc => h.can c (hs.subset hc), h.srt.sublist hs⟩
theorem dc_fine (r : List Co) (s : ByteArray) : Fine (dcR r s) := by
 unfold dcR
 split
 ·exact (copy_fine r).sub (List.eraseIdx_sublist _ _)
 ·exact copy_fine r
theorem canV_sz {v : Va} (h1 : v.b.length < 1073741824) (h2 : v.n < 18446744073709551616) : (canV v).b.length < 1073741824 ∧ (canV v).n < 18446744073709551616 := by
 unfold canV
 split
 ·exact ⟨h1, by show (0 : Nat) < _; omega⟩
 ·split
  ·exact ⟨by simp, canonB_lt h2⟩
  ·exact ⟨by simp, by show (0 : Nat) < _; omega⟩
theorem copy_sz {r : List Co} (h : RowSz r) : RowSz (copyR r) := by
 unfold copyR
 split
 ·intro c hc x hx
  obtain ⟨d, hd, rfl⟩ := List.mem_map.1 hc
  obtain ⟨y, hy, rfl⟩ := List.mem_map.1 hx
  exact canV_sz (h d hd y hy).1 (h d hd y hy).2
 ·intro c hc; cases hc
theorem sub_sz {o q : List Co} (h : RowSz o) (hs : q.Sublist o) : RowSz q := fun c hc => h c (hs.subset hc)
theorem dc_sz {r : List Co} {s : ByteArray} (h : RowSz r) : RowSz (dcR r s) := by
 unfold dcR
 split
 ·exact sub_sz (copy_sz h) (List.eraseIdx_sublist _ _)
 ·exact copy_sz h
end Go.Proofs.YtjepgbpcpcahgaaGreat
namespace Go.Proofs.YtjepgbpcpcahgaaGreat
open Go.Am
def Vsort (l : List Ve) : Prop := l.Pairwise fun a b => b.t < a.t
theorem vers_to : ∀ {l : List Ve} {p : Option Int}, versB p l = true → (∀ x ∈ l, tmOk x.t = true ∧ vRt x.v = true) ∧ Vsort l ∧ ∀ q, p = some q → ∀ x ∈ l, x.t < q
 | [], p, _ => ⟨fun x h => (by cases h), List.Pairwise.nil, fun q _ x h => (by cases h)⟩
 | y :: l, p, h => by
  unfold versB at h
  simp only [Bool.and_eq_true] at h
  obtain ⟨h1, h2, h3⟩ := vers_to h.2
  refine ⟨fun x hx => ?_, List.pairwise_cons.2 ⟨fun b hb => h3 y.t rfl b hb, h2⟩, fun q hq x hx => ?_⟩
  ·rcases List.mem_cons.1 hx with rfl | hx
   ·exact ⟨h.1.1.1, h.1.1.2⟩
   ·exact h1 x hx
  ·subst hq
   have h4 : y.t < q := of_decide_eq_true h.1.2
   rcases List.mem_cons.1 hx with rfl | hx
   ·exact h4
   ·have := h3 y.t rfl x hx; omega
theorem vers_of : ∀ (l : List Ve) (p : Option Int), (∀ x ∈ l, tmOk x.t = true ∧ vRt x.v = true) → Vsort l → (∀ q, p = some q → ∀ x ∈ l, x.t < q) → versB p l = true
 | [], p, _, _, _ => rfl
 | y :: l, p, h1, h2, h3 => by
  unfold Vsort at h2
  rw [List.pairwise_cons] at h2
  unfold versB
  simp only [Bool.and_eq_true]
  refine ⟨⟨h1 y (by simp), ?_⟩, vers_of l _ (fun d hd => h1 d (by simp [hd])) h2.2 fun q hq d hd => ?_⟩
  ·cases p with
   | none => rfl
   | some q => exact decide_eq_true (h3 q rfl y (by simp))
  ·cases hq; exact h2.1 d hd
def insV (l : List Ve) (x : Ve) : List Ve := l.filter (fun y => decide (x.t < y.t)) ++ x :: l.filter (fun y => decide (y.t < x.t))
def putV (l : List Ve) (x : Ve) : List Ve := (insV l x).take 2
theorem insV_sort {l : List Ve} (h : Vsort l) (x : Ve) : Vsort (insV l x) := by
 unfold Vsort insV at *
 rw [List.pairwise_append, List.pairwise_cons]
 refine ⟨h.filter _, ⟨fun y hy => ?_, h.filter _⟩, fun a ha b hb => ?_⟩
 ·exact of_decide_eq_true (List.mem_filter.1 hy).2
 ·have h1 : x.t < a.t := of_decide_eq_true (List.mem_filter.1 ha).2
  rcases List.mem_cons.1 hb with rfl | hb
  ·exact h1
  ·have h2 : b.t < x.t := of_decide_eq_true (List.mem_filter.1 hb).2
   omega
theorem putV_vers {l : List Ve} (h : versB none l = true) {x : Ve} (h1 : tmOk x.t = true) (h2 : vRt x.v = true) : versB none (putV l x) = true := by
 obtain ⟨a, b, _⟩ := vers_to h
 refine vers_of _ _ (fun y hy => ?_) ((insV_sort b x).sublist (List.take_sublist _ _)) fun q hq => by cases hq
 have hy2 := List.mem_of_mem_take hy
 unfold insV at hy2
 rcases List.mem_append.1 hy2 with hy3 | hy3
 ·exact a y (List.mem_filter.1 hy3).1
 ·rcases List.mem_cons.1 hy3 with rfl | hy3
  ·exact ⟨h1, h2⟩
  ·exact a y (List.mem_filter.1 hy3).1
theorem putV_len (l : List Ve) (x : Ve) : 1 ≤ (putV l x).length ∧ (putV l x).length ≤ 2 := by
 unfold putV insV
 simp only [List.length_take, List.length_append, List.length_cons]
 omega
theorem putV_can {l : List Ve} (h : ∀ y ∈ l, canE y = y) {x : Ve} (hx : canE x = x) : ∀ y ∈ putV l x, canE y = y := by
 intro y hy
 have hy2 := List.mem_of_mem_take hy
 unfold insV at hy2
 rcases List.mem_append.1 hy2 with hy3 | hy3
 ·exact h y (List.mem_filter.1 hy3).1
 ·rcases List.mem_cons.1 hy3 with rfl | hy3
  ·exact hx
  ·exact h y (List.mem_filter.1 hy3).1
theorem can_col {c : Co} (h : canC c = c) : ∀ y ∈ c.l, canE y = y := by
 intro y hy
 have e : c.l.map canE = c.l := congrArg Co.l h
 obtain ⟨i, hi⟩ := List.getElem?_of_mem hy
 have h1 : (c.l.map canE)[i]? = some (canE y) := by rw [List.getElem?_map, hi]; rfl
 rw [e, hi] at h1
 exact (Option.some.inj h1).symm
theorem col_canC {c : Co} (h : ∀ y ∈ c.l, canE y = y) : canC c = c := by
 unfold canC
 have : c.l.map canE = c.l := by
  conv => rhs; rw [← List.map_id c.l]
  exact List.map_congr_left h
 rw [this]
def putC (c : Co) (x : Ve) : Co := ⟨c.n, putV c.l x⟩
theorem putC_col {c : Co} (h : colB c = true) {x : Ve} (h1 : tmOk x.t = true) (h2 : vRt x.v = true) : colB (putC c x) = true := by
 unfold colB at *
 simp only [Bool.and_eq_true, decide_eq_true_eq] at *
 exact ⟨⟨h.1.1, putV_len _ _⟩, putV_vers h.2 h1 h2⟩
theorem set_fine {o : List Co} (h : Fine o) {i : Nat} {c : Co} (hi : o[i]? = some c) {x : Ve} (h1 : tmOk x.t = true) (h2 : vRt x.v = true) (h3 : canE x = x) : Fine (o.set i (putC c x)) := by
 have hm := List.mem_of_getElem? hi
 refine ⟨by rw [List.length_set]; exact h.len, fun d hd => ?_, fun d hd => ?_, ?_⟩
 ·rcases List.mem_or_eq_of_mem_set hd with hd | rfl
  ·exact h.col d hd
  ·exact putC_col (h.col c hm) h1 h2
 ·rcases List.mem_or_eq_of_mem_set hd with hd | rfl
  ·exact h.can d hd
  ·exact col_canC (putV_can (can_col (h.can c hm)) h3)
 ·have e : (o.set i (putC c x)).map (·.n) = o.map (·.n) := by
   rw [List.map_set]
   obtain ⟨hlt, hg⟩ := List.getElem?_eq_some_iff.1 hi
   have h6 : (o.map (·.n))[i]? = some c.n := by rw [List.getElem?_map, hi]; rfl
   obtain ⟨h7, h8⟩ := List.getElem?_eq_some_iff.1 h6
   conv => rhs; rw [← List.set_getElem_self h7]
   rw [h8]; rfl
  have hs := h.srt
  unfold Nsort at *
  have k1 : (o.map (·.n)).Pairwise (fun a b => sLt a b = true) := by rw [List.pairwise_map]; exact hs
  rw [← e, List.pairwise_map] at k1
  exact k1
theorem ins_fine {o : List Co} (h : Fine o) {s : ByteArray} (hn : nmB s = true) (hs : hasN o s = false) (hl : o.length < 4) {x : Ve} (h1 : tmOk x.t = true) (h2 : vRt x.v = true) (h3 : canE x = x) : Fine (o.take (npos o s) ++ ⟨s, [x]⟩ :: o.drop (npos o s)) := by
 have hle := npos_le o s
 refine ⟨by simp; omega, fun d hd => ?_, fun d hd => ?_, ?_⟩
 ·rcases List.mem_append.1 hd with hd | hd
  ·exact h.col d (List.mem_of_mem_take hd)
  ·rcases List.mem_cons.1 hd with rfl | hd
   ·unfold colB versB versB ltT
    simp [hn, h1, h2]
   ·exact h.col d (List.mem_of_mem_drop hd)
 ·rcases List.mem_append.1 hd with hd | hd
  ·exact h.can d (List.mem_of_mem_take hd)
  ·rcases List.mem_cons.1 hd with rfl | hd
   ·exact col_canC fun y hy => by
     obtain rfl := List.mem_singleton.1 hy
     exact h3
   ·exact h.can d (List.mem_of_mem_drop hd)
 ·have hso := h.srt
  have hlow : ∀ i c, o[i]? = some c → (i < npos o s ↔ sLt c.n s = true) := fun i c hi => npos_lt hso hi
  have hup : ∀ i c, o[i]? = some c → npos o s ≤ i → sLt s c.n = true := fun i c hi hp => by
   have h5 : ¬ sLt c.n s = true := fun h => by have := (hlow i c hi).2 h; omega
   have h6 : cmpS c.n s ≠ 0 := fun e => by
    rcases Nat.lt_or_ge (npos o s) i with hlt | hge
    ·
     obtain ⟨d, hd⟩ : ∃ d, o[npos o s]? = some d := ⟨_, List.getElem?_eq_getElem (by have := (List.getElem?_eq_some_iff.1 hi).1; omega)⟩
     have h7 : sLt d.n c.n = true := by
      have hp2 := List.pairwise_iff_getElem.1 hso (npos o s) i (List.getElem?_eq_some_iff.1 hd).1 (List.getElem?_eq_some_iff.1 hi).1 hlt
      rw [(List.getElem?_eq_some_iff.1 hd).2, (List.getElem?_eq_some_iff.1 hi).2] at hp2
      exact hp2
     have h8 : c.n.toList = s.toList := by
      have := eq_cb c.n.toList s.toList
      unfold cmpS at e
      rw [e] at this
      simpa using this
     have h9 : sLt d.n s = true := by unfold sLt at *; rw [← h8]; exact h7
     have := (hlow _ d hd).2 h9
     omega
    ·have : i = npos o s := by omega
     subst this
     unfold hasN at hs
     rw [hi] at hs
     simp [e] at hs
   rw [sLt_eq, decide_eq_true_eq] at h5
   rw [sLt_eq, decide_eq_true_eq]
   have ha := cb_anti c.n.toList s.toList
   have hb := cb_bd c.n.toList s.toList
   unfold cmpS at *
   omega
  unfold Nsort at *
  rw [List.pairwise_append, List.pairwise_cons]
  have hs2 := hso
  rw [← List.take_append_drop (npos o s) o, List.pairwise_append] at hs2
  refine ⟨hs2.1, ⟨fun b hb => ?_, hs2.2.1⟩, fun a ha b hb => ?_⟩
  ·obtain ⟨i, hi⟩ := List.getElem?_of_mem hb
   rw [List.getElem?_drop] at hi
   exact hup _ b hi (by omega)
  ·rcases List.mem_cons.1 hb with rfl | hb
   ·obtain ⟨i, hi⟩ := List.getElem?_of_mem ha
    rw [List.getElem?_take] at hi
    split at hi
    ·exact (hlow i a hi).1 (by assumption)
    ·cases hi
   ·exact hs2.2.2 a ha b hb
theorem set_fine' {o : List Co} (h : Fine o) {i : Nat} {c d : Co} (hi : o[i]? = some c) (hn : d.n = c.n) (h1 : colB d = true) (h2 : canC d = d) : Fine (o.set i d) := by
 refine ⟨by rw [List.length_set]; exact h.len, fun e he => ?_, fun e he => ?_, ?_⟩
 ·rcases List.mem_or_eq_of_mem_set he with he | rfl
  ·exact h.col e he
  ·exact h1
 ·rcases List.mem_or_eq_of_mem_set he with he | rfl
  ·exact h.can e he
  ·exact h2
 ·have e : (o.set i d).map (·.n) = o.map (·.n) := by
   rw [List.map_set]
   have h6 : (o.map (·.n))[i]? = some c.n := by rw [List.getElem?_map, hi]; rfl
   obtain ⟨h7, h8⟩ := List.getElem?_eq_some_iff.1 h6
   conv => rhs; rw [← List.set_getElem_self h7]
   rw [h8, hn]
  have hs := h.srt
  unfold Nsort at *
  have k1 : (o.map (·.n)).Pairwise (fun a b => sLt a b = true) := by rw [List.pairwise_map]; exact hs
  rw [← e, List.pairwise_map] at k1
  exact k1
def dropV (l : List Ve) (t : Int) : List Ve := l.filter fun y => decide (y.t ≠ t)
theorem dropV_col {c : Co} (h : colB c = true) (t : Int) (hne : dropV c.l t ≠ []) : colB ⟨c.n, dropV c.l t⟩ = true := by
 unfold colB at *
 simp only [Bool.and_eq_true, decide_eq_true_eq] at *
 obtain ⟨a, b, _⟩ := vers_to h.2
 have hl : (dropV c.l t).length ≤ c.l.length := List.length_filter_le _ _
 have hp := List.length_pos_iff.2 hne
 refine ⟨⟨h.1.1, by omega, by omega⟩, vers_of _ _ (fun y hy => a y (List.mem_filter.1 hy).1) (b.filter _) fun q hq => by cases hq⟩
theorem drop_fine {o : List Co} (h : Fine o) {i : Nat} {c : Co} (hi : o[i]? = some c) (t : Int) : Fine (if dropV c.l t = [] then o.eraseIdx i else o.set i ⟨c.n, dropV c.l t⟩) := by
 have hm := List.mem_of_getElem? hi
 split
 ·exact h.sub (List.eraseIdx_sublist _ _)
 ·rename_i hne
  exact set_fine' h hi rfl (dropV_col (h.col c hm) t hne) (col_canC fun y hy => can_col (h.can c hm) y (List.mem_filter.1 hy).1)
end Go.Proofs.YtjepgbpcpcahgaaGreat
namespace Go.Proofs.YtjepgbpcpcahgaaGreat
open Go.Am
set_option maxRecDepth 100000
end Go.Proofs.YtjepgbpcpcahgaaGreat
namespace Go.Proofs.YtjepgbpcpcahgaaGreat
open Go.Am
set_option maxRecDepth 100000
end Go.Proofs.YtjepgbpcpcahgaaGreat
namespace Go.Proofs.YtjepgbpcpcahgaaGreat
open Go.Am
set_option maxRecDepth 100000
theorem dropV_snoc (l : List Ve) (t : Ve) (s : Int) : dropV (l ++ [t]) s = dropV l s ++ (if t.t = s then [] else [t]) := by
 unfold dropV
 rw [List.filter_append]
 congr 1
 by_cases h : t.t = s <;> simp [h]
theorem dropV_len (l : List Ve) (s : Int) : (dropV l s).length ≤ l.length := List.length_filter_le _ _
end Go.Proofs.YtjepgbpcpcahgaaGreat
namespace Go.Am
open Go.RowKit
section
variable {P : Program} {TT : Types} {D : Dr} {all rest : List Oper} {o : Oper} {s s' : List AV} {L L' L'' : Heap} {n n' : Nat} {K : Kn} {KP : AV → Kn} {av : AV} {Kk : Kc}
end
def seqTail : Nat → Code → Code
 | 0, c => c
 | n + 1, .seq _ c => seqTail n c
 | _, c => c
theorem SeqTo.renE {low : Nat → Prop} {τ : ASt} {s s2 : List AV} {L L2 : Heap} {n n2 : Nat} (N : Nat) (ids : List Nat) (hlow : low N) (hL : renH (rn ids n2) τ.L = L2) (hs : ∀ k : List AV → Prop, k s2 → forceA (AV.renL (rn ids n2) τ.slots) k) (hc : Conv ⟨s, L, n⟩ ⟨s2, L2, n2⟩)
  (hM : ids.length = τ.next := by rfl) (hnd : ids.Nodup := by decide) (hlt : ∀ i ∈ ids, i < n2 := by decide) (hN : ∀ i, i < N → ids[i]? = some i := by decide) : SeqTo low ⟨s, L, n⟩ τ := by
 have e1 : s2 = AV.renL (rn ids n2) τ.slots := by
  have := hs (fun x => s2 = x) rfl
  rwa [forceA_eq] at this
 subst e1; subst hL
 exact .inr ⟨N, hlow, (ConvN.ren ids hnd hlt hN hM).after hc⟩
theorem WkL.app {a b c d : List AV} (h : WkL a b) (h2 : WkL c d) : WkL (a ++ c) (b ++ d) := by
 induction a generalizing b with
 | nil => cases h; exact h2
 | cons x a ih => cases h with | cons h hs => exact .cons h (ih hs)
theorem WkL.dead : ∀ (l : List AV), WkL l (List.replicate l.length .dead)
 | [] => .nil
 | a :: l => .cons (.dead a) (WkL.dead l)
theorem q_loadSeq {P : Program} {TT : Types} {o : Oper} {s : List AV} {L : Heap} {av : AV} {t : TypeId} {x : Operand} {ti : TI} {id off sz i j k : Nat} {rows : List (List AV)} {row : List AV} (ho : o.op = .load t x) (ht : TT t = some ti) (hx : ev s x = .ptr id off) (hf : findL L id = some (.seq rows k)) (hk : isAggK ti.kind = false)
  (hl : RowsOk sz rows) (hi : rows[i]? = some row) (hj : row[j]? = some av) (hoff : off = i * sz + j) : ∀ K : AV → Prop, K av → aq P TT L (ev s) (raw s) o fun x => fv x K := fun K h => by
 subst hoff
 unfold aq; simp only [ho]; rw [ht, hx]
 simp only [opt1, aload, hf, hk, flat_at hl.len hi hj, Bool.false_eq_true, if_false, fv_eq]
 exact h
theorem asrc_seqg {L : Heap} {sz : Nat} {y : AV} {id off i m cp k : Nat} {rows r2 : List (List AV)} {K : Nat → List AV → Prop} (hy : y = .arr id off m cp) (hf : findL L id = some (.seq rows k)) (hR : RowsOk sz rows) (hi : i + m ≤ rows.length) (hoff : off = i * sz) (h2 : (rows.drop i).take m = r2) (h : K m r2.flatten) : asrc L sz (fun m => m) y K := by
 subst hy; subst h2
 have hd : RowsOk sz (rows.drop i) := hR.drop i
 have e : ((seqC rows k).drop off).take (m * sz) = ((rows.drop i).take m).flatten := by
  have hl := flatten_length (hd.take m).len
  rw [List.length_take, List.length_drop, Nat.min_eq_left (by omega)] at hl
  rw [hoff, seq_from hR.len i k (by omega), List.take_append_of_le_length (by rw [flatten_length hd.len, List.length_drop]; exact Nat.mul_le_mul_right _ (by omega))]
  conv => lhs; rw [← List.take_append_drop m (rows.drop i), List.flatten_append]
  rw [← hl, List.take_left]
 have hle : off + m * sz ≤ (seqC rows k).length := by
  rw [seqC_len hR.len, hoff, ← Nat.add_mul]
  have := Nat.mul_le_mul_right sz hi
  omega
 unfold asrc
 simp only [hf]
 rw [e]
 exact ⟨Nat.le_refl _, hle, (hd.take m).one, h⟩
theorem a_appSg {P : Program} {TT : Types} {o : Oper} {s : List AV} {L : Heap} {n : Nat} {K KP : AV → Heap → Nat → Prop} {c : Call} {x y : Operand} {t tx e e2 : TypeId} {te : TI} {z : Value} {id nn cp k sz B : Nat} {rows rows2 rows3 : List (List AV)} {L0 : Heap} {m2 : Nat} (ho : o.op = .call c) (hk : opKind o = .append) (ha : c.args.toList = [x, y]) (hty : c.argTypes.toList = [t, tx])
  (hkt : kindT TT t = .slice e) (hkx : kindT TT tx = .slice e2) (hte : TT e = some te) (hz : te.zero = some z) (hzk : zok te z = true) (hx : ev s x = .arr id 0 nn cp) (ht : ∀ k' : Res → Heap → Prop, k' (.seq rows k) L0 → takeO L id k') (hsz : te.size = sz) (hB : te.bytes = B)
  (hy : ∀ K : Nat → List AV → Prop, K rows2.length rows2.flatten → asrc L sz (fun m => m) (ev s y) K)
  (hR : RowsOk sz rows) (hR2 : RowsOk sz rows2) (hn : rows.length = nn) (hkk : k = (cp - nn) * sz) (hroom : (nn + rows2.length) * B ≤ 140737488355328 ∧ nn + rows2.length ≤ 4611686018427387904 ∧ 0 < nn + rows2.length)
  (hm2 : nn + rows2.length = m2) (h3 : rows ++ rows2 = rows3) (h : ∀ cp', m2 ≤ cp' → cp' ≤ maxLen → K (.arr n 0 m2 cp') ((n, .seq rows3 ((cp' - m2) * sz)) :: L0) (n + 1)) : aop P TT o s L n K KP := by
 subst hsz; subst hB; subst hm2; subst h3
 unfold aop; rw [hk]; simp only [ho]
 refine .inr (.inr ?_)
 unfold aappendS
 rw [ha, hty]
 simp only [hkt, hkx, hte, hz, hzk, opt1, if_pos]
 exact hy _ ⟨rows2, rfl, rfl, hR2.len, hR2.pure, .inl ⟨id, nn, cp, rows, k, L0, hx, takeO_at ht, hR.len, hn, hkk, hR.one, hroom.1, hroom.2.1, hroom.2.2, h⟩⟩
theorem a_appS0g {P : Program} {TT : Types} {o : Oper} {s : List AV} {L : Heap} {n : Nat} {K KP : AV → Heap → Nat → Prop} {c : Call} {x y : Operand} {t tx e e2 : TypeId} {te : TI} {z : Value} {sz B m2 : Nat} {rows2 : List (List AV)} (ho : o.op = .call c) (hk : opKind o = .append) (ha : c.args.toList = [x, y]) (hty : c.argTypes.toList = [t, tx])
  (hkt : kindT TT t = .slice e) (hkx : kindT TT tx = .slice e2) (hte : TT e = some te) (hz : te.zero = some z) (hzk : zok te z = true) (hx : ev s x = .list [] .full ∨ ∃ id off, ev s x = .arr id off 0 0) (hsz : te.size = sz) (hB : te.bytes = B)
  (hy : ∀ K : Nat → List AV → Prop, K rows2.length rows2.flatten → asrc L sz (fun m => m) (ev s y) K)
  (hR2 : RowsOk sz rows2) (hroom : rows2.length * B ≤ 140737488355328 ∧ rows2.length ≤ 4611686018427387904)
  (hm2 : rows2.length = m2) (h : ∀ cp', m2 ≤ cp' → cp' ≤ maxLen → K (.arr n 0 m2 cp') ((n, .seq rows2 ((cp' - m2) * sz)) :: L) (n + 1)) : aop P TT o s L n K KP := by
 subst hsz; subst hB; subst hm2
 unfold aop; rw [hk]; simp only [ho]
 refine .inr (.inr ?_)
 unfold aappendS
 rw [ha, hty]
 simp only [hkt, hkx, hte, hz, hzk, opt1, if_pos]
 exact hy _ ⟨rows2, rfl, rfl, hR2.len, hR2.pure, .inr ⟨hx, hroom.1, hroom.2, h⟩⟩
end Go.Am
namespace Go.Proofs.YtjepgbpcpcahgaaGreat
open Go.Am
set_option maxRecDepth 100000
def nrows (o1 : List Co) (nm : ByteArray) (v : AV) (o2 : List Co) : List (List AV) := o1.map corow ++ [.v (.string nm), v] :: o2.map corow
theorem nrows_len (o1 : List Co) (nm : ByteArray) (v : AV) (o2 : List Co) : (nrows o1 nm v o2).length = o1.length + 1 + o2.length := by unfold nrows; simp; omega
end Go.Proofs.YtjepgbpcpcahgaaGreat
namespace Go.Proofs.YtjepgbpcpcahgaaGreat
open Go.Am
set_option maxRecDepth 100000
def putA (o : List Co) (s : ByteArray) (x : Ve) : List Co := if hasN o s then (match o[npos o s]? with | some c => o.set (npos o s) (putC c x) | none => o) else insAt o (npos o s) ⟨s, [x]⟩
theorem nrows_free (o1 : List Co) (nm : ByteArray) (vs : List Ve) (o2 : List Co) : nrows o1 nm (.list (vs.map verow) .free) o2 = (o1 ++ ⟨nm, vs⟩ :: o2).map corow := by unfold nrows; simp [corow]
theorem insAt_map {α β : Type} (f : α → β) (l : List α) (i : Nat) (x : α) : insAt (l.map f) i (f x) = (insAt l i x).map f := by simp [insAt, List.map_take, List.map_drop]
def putQ (F : List Co) (out : AOut) (H' : Heap) : Prop := out = .ret (.tuple [rowA F, .v (.int .i64 0)]) ∧ H' = []
end Go.Proofs.YtjepgbpcpcahgaaGreat
namespace Go.Proofs.YtjepgbpcpcahgaaGreat
open Go.Am
set_option maxRecDepth 100000
def putR (r : List Co) (s : ByteArray) (t : Int) (v : Va) : Int × List Co := if nmB s && tmOk t && vRt v then (if hasN (copyR r) s = false ∧ (copyR r).length = 4 then (13, []) else (0, putA (copyR r) s ⟨t, canV v⟩)) else (1, [])
theorem canE_can (t : Int) (v : Va) : canE ⟨t, canV v⟩ = ⟨t, canV v⟩ := by unfold canE; simp [canV_idem]
theorem has_at {o : List Co} {s : ByteArray} (h : hasN o s = true) : ∃ c, o[npos o s]? = some c := by
 unfold hasN at h
 split at h
 ·exact ⟨_, by assumption⟩
 ·cases h
theorem put_fine {o : List Co} (h : Fine o) {s : ByteArray} (hn : nmB s = true) {t : Int} {v : Va} (ht : tmOk t = true) (hv : vRt v = true) (hl : ¬ (hasN o s = false ∧ o.length = 4)) : Fine (putA o s ⟨t, canV v⟩) := by
 unfold putA
 rcases hN : hasN o s with _ | _
 ·have h4 := h.len
  rw [if_neg (by simp)]
  exact ins_fine h hn hN (by rw [hN] at hl; simp at hl; omega) ht (vRt_can v hv) (canE_can t v)
 ·obtain ⟨c, hc⟩ := has_at hN
  rw [if_pos rfl, hc]
  exact set_fine h hc ht (vRt_can v hv) (canE_can t v)
theorem put_sz {o : List Co} (h : RowSz o) {s : ByteArray} {t : Int} {v : Va} (hv : v.b.length < 1073741824 ∧ v.n < 18446744073709551616) : RowSz (putA o s ⟨t, canV v⟩) := by
 have hcv := canV_sz hv.1 hv.2
 unfold putA
 split
 ·split
  ·rename_i c hc
   intro d hd y hy
   rcases List.mem_or_eq_of_mem_set hd with hd | rfl
   ·exact h d hd y hy
   ·have hy2 := List.mem_of_mem_take hy
    unfold insV at hy2
    rcases List.mem_append.1 hy2 with hy3 | hy3
    ·exact h c (List.mem_of_getElem? hc) y (List.mem_filter.1 hy3).1
    ·rcases List.mem_cons.1 hy3 with rfl | hy3
     ·exact hcv
     ·exact h c (List.mem_of_getElem? hc) y (List.mem_filter.1 hy3).1
  ·exact h
 ·intro d hd y hy
  unfold insAt at hd
  rcases List.mem_append.1 hd with hd | hd
  ·exact h d (List.mem_of_mem_take hd) y hy
  ·rcases List.mem_cons.1 hd with rfl | hd
   ·rw [List.mem_singleton.1 hy]; exact hcv
   ·exact h d (List.mem_of_mem_drop hd) y hy
theorem putR_sz {r : List Co} (h : RowSz r) {s : ByteArray} {t : Int} {v : Va} (hv : v.b.length < 1073741824 ∧ v.n < 18446744073709551616) : RowSz (putR r s t v).2 := by
 unfold putR
 split
 ·split
  ·intro c hc; cases hc
  ·exact put_sz (copy_sz h) hv
 ·intro c hc; cases hc
theorem putR_fine (r : List Co) (s : ByteArray) (t : Int) (v : Va) : Fine (putR r s t v).2 := by
 have h0 : Fine [] := ⟨by simp, fun c hc => (by cases hc), fun c hc => (by cases hc), List.Pairwise.nil⟩
 unfold putR
 split
 ·rename_i h
  simp only [Bool.and_eq_true] at h
  split
  ·exact h0
  ·exact put_fine (copy_fine r) h.1.1 h.1.2 h.2 (by assumption)
 ·exact h0
def PutRR (q : Int × List Co) (out : AOut) (H' : Heap) : Prop := out = .ret (.tuple [rowA q.2, .v (.int .i64 q.1)]) ∧ H' = []
end Go.Proofs.YtjepgbpcpcahgaaGreat
namespace Go.Proofs.YtjepgbpcpcahgaaGreat
open Go.Am
set_option maxRecDepth 100000
def dropA (o : List Co) (s : ByteArray) (t : Int) : List Co := if hasN o s then (match o[npos o s]? with | some c => if dropV c.l t = [] then o.eraseIdx (npos o s) else o.set (npos o s) ⟨c.n, dropV c.l t⟩ | none => o) else o
def dropR (r : List Co) (s : ByteArray) (t : Int) : List Co := dropA (copyR r) s t
theorem dropA_fine {o : List Co} (h : Fine o) (s : ByteArray) (t : Int) : Fine (dropA o s t) := by
 unfold dropA
 split
 ·split
  ·rename_i c hc
   exact drop_fine h hc t
  ·exact h
 ·exact h
theorem dropA_sz {o : List Co} (h : RowSz o) (s : ByteArray) (t : Int) : RowSz (dropA o s t) := by
 unfold dropA
 split
 ·split
  ·rename_i c hc
   split
   ·exact sub_sz h (List.eraseIdx_sublist _ _)
   ·intro d hd y hy
    rcases List.mem_or_eq_of_mem_set hd with hd | rfl
    ·exact h d hd y hy
    ·exact h c (List.mem_of_getElem? hc) y (List.mem_filter.1 hy).1
  ·exact h
 ·exact h
end Go.Proofs.YtjepgbpcpcahgaaGreat
namespace Go.Proofs.YtjepgbpcpcahgaaGreat
open Go.Am
set_option maxRecDepth 100000
theorem qcopy_n (r : List Co) (hr : r.length < 70368744177664) (hs : RowSz r) : ACalls Tryz.prog 23 0 1 [rowA r] [] (CN (copyR r)) :=
 (qcopy_s r hr hs).ren (Nat.zero_le _) fun out H' hh => by
  obtain ⟨id, cp, h0, h1, h2, rfl, rfl⟩ := hh
  refine ⟨[id], .ret (.agg [.arr 0 0 (copyR r).length cp]), [(0, .seq ((copyR r).map corow) ((cp - (copyR r).length) * 2))], by simp, (fun i h => by simp at h; omega), (fun i h => absurd h (Nat.not_lt_zero i)), Nat.le_refl _, ?_, ?_, cp, h1, h2, rfl, rfl⟩
  ·simp [AOut.ren, AV.ren, AV.renL, rn]
  ·simp [renH, Res.ren, rn]
theorem qfind_o (o : List Co) (s : ByteArray) (cp : Nat) (hl : o.length < 1000000) (hs : Nsort o) : ACalls Tryz.prog 60 1 1 [.agg [.arr 0 0 o.length cp], .v (.string s)] [(0, .seq (o.map corow) ((cp - o.length) * 2))] (fun out H' => out = .ret (.tuple [.v (.int .i64 (npos o s)), .v (.bool (hasN o s))]) ∧ H' = [(0, .seq (o.map corow) ((cp - o.length) * 2))]) :=
 ((qfind_f o s hl hs).borrow (k := 1) (top := 1) (args := [.agg [.arr 0 0 o.length cp], .v (.string s)]) (H := [(0, .seq (o.map corow) ((cp - o.length) * 2))]) rfl (fun out H' hh => by obtain ⟨rfl, rfl⟩ := hh; rfl) (fun i a' ha => by
  match i with
  | 0 =>
   simp at ha; subst ha
   refine ⟨_, rfl, .agg rfl fun j b hb => ?_⟩
   match j with
   | 0 =>
    simp at hb; subst hb
    exact ⟨_, rfl, .seq (k := (cp - o.length) * 2) (by simp) (coOk o) (by simp)⟩
   | j + 1 => simp at hb
  | 1 =>
   simp at ha; subst ha
   exact ⟨_, rfl, .data rfl⟩
  | i + 2 => simp at ha)).mono fun out H' hh => by
   obtain ⟨⟨_, h1, _⟩, h2⟩ := hh
   exact ⟨h1, h2⟩
theorem ins_eq2 {l : List Ve} {x : Ve} {j : Nat} (hs : Vsort l) (h1 : ∀ y ∈ l.take j, x.t < y.t) (h2 : ∀ y, l[j]? = some y → ¬ x.t < y.t) : l.take j ++ x :: dropV (l.drop j) x.t = insV l x := by
 have hB : ∀ y ∈ l.drop j, y.t ≤ x.t := fun y hy => by
  obtain ⟨i, hi⟩ := List.getElem?_of_mem hy
  rw [List.getElem?_drop] at hi
  obtain ⟨z, hz⟩ : ∃ z, l[j]? = some z := ⟨_, List.getElem?_eq_getElem (by have := (List.getElem?_eq_some_iff.1 hi).1; omega)⟩
  have hz1 := h2 z hz
  rcases Nat.eq_zero_or_pos i with rfl | h0
  ·rw [Nat.add_zero, hz] at hi
   cases hi; omega
  ·have := List.pairwise_iff_getElem.1 hs j (j + i) (List.getElem?_eq_some_iff.1 hz).1 (List.getElem?_eq_some_iff.1 hi).1 (by omega)
   rw [(List.getElem?_eq_some_iff.1 hz).2, (List.getElem?_eq_some_iff.1 hi).2] at this
   omega
 have e1 : l.filter (fun y => decide (x.t < y.t)) = l.take j := by
  conv => lhs; rw [← List.take_append_drop j l]
  rw [List.filter_append, List.filter_eq_self.2 fun y hy => decide_eq_true (h1 y hy), List.filter_eq_nil_iff.2 fun y hy => by have := hB y hy; simp; omega, List.append_nil]
 have e2 : l.filter (fun y => decide (y.t < x.t)) = dropV (l.drop j) x.t := by
  conv => lhs; rw [← List.take_append_drop j l]
  rw [List.filter_append, List.filter_eq_nil_iff.2 fun y hy => by have := h1 y hy; simp; omega, List.nil_append]
  unfold dropV
  exact List.filter_congr fun y hy => decide_eq_decide.2 (by have := hB y hy; omega)
 unfold insV
 rw [e1, e2]
def qtSt (t : Int) (v : Va) (F0 : List Co) (cp i : Nat) : ASt := ⟨([.dead, .dead, .v (.int .i64 t), .dead, .dead, .dead, .dead, .ptr 0 0, .ptr 1 0, .dead, .ptr 2 0, .v (.int .i64 i)] ++ List.replicate 119 .dead), [(0, .box (vrowV v)), (1, .box [.list [] .full]), (2, .box [.arr 3 0 F0.length cp]), (3, .seq (F0.map corow) ((cp - F0.length) * 2))], 4⟩
def q1St (t : Int) (v : Va) (F0 : List Co) (cp i : Nat) (l q : List Ve) (k : Nat) : ASt := ⟨([.dead, .dead, .v (.int .i64 t), .dead, .dead, .dead, .dead, .ptr 0 0, .ptr 1 0, .dead, .ptr 2 0, .v (.int .i64 i), .dead, .list (l.map verow) .free, .list (q.map verow) (.tok 4), .v (.int .i64 k)] ++ List.replicate 115 .dead), [(4, .tok 4 q.length), (0, .box (vrowV v)), (1, .box [.list [] .full]), (2, .box [.arr 3 0 F0.length cp]), (3, .seq (F0.map corow) ((cp - F0.length) * 2))], 90⟩
def q2St (t : Int) (v : Va) (F0 : List Co) (cp i : Nat) (l q : List Ve) (k : Nat) : ASt := ⟨([.dead, .dead, .v (.int .i64 t), .dead, .dead, .dead, .dead, .ptr 0 0, .ptr 1 0, .dead, .ptr 2 0, .v (.int .i64 i), .dead, .list (l.map verow) .free, .list (q.map verow) (.tok 4), .v (.int .i64 k)] ++ List.replicate 115 .dead), [(4, .tok 4 q.length), (0, .box (vrowV v)), (1, .box [.list [] .full]), (2, .box [.arr 3 0 F0.length cp]), (3, .seq (F0.map corow) ((cp - F0.length) * 2))], 100⟩
theorem dropV_take {l : List Ve} {k : Nat} {y : Ve} {t : Int} (h : l[k]? = some y) : dropV (l.take (k + 1)) t = dropV (l.take k) t ++ (if y.t = t then [] else [y]) := by
 rw [List.take_add_one, h]
 exact dropV_snoc _ _ _
def q3St (t : Int) (v : Va) (F0 : List Co) (cp i : Nat) (q : List Ve) : ASt := ⟨(List.replicate 8 .dead ++ [.ptr 1 0, .dead, .ptr 2 0, .v (.int .i64 i), .dead, .dead, .list (q.map verow) .free] ++ List.replicate 116 .dead), [(1, .box [.list [] .full]), (2, .box [.arr 3 0 F0.length cp]), (3, .seq (F0.map corow) ((cp - F0.length) * 2))], 200⟩
set_option maxHeartbeats 3200000 in
theorem qput_rest (t : Int) (v : Va) (hv : v.b.length < 1073741824 ∧ v.n < 18446744073709551616) (R : AOut → Heap → Prop) (F F0 : List Co) (cp i : Nat) (c : Co) (hR : ∀ out H', putQ F out H' → R out H') (h4 : F0.length ≤ 4) (hFc : F0[i]? = some c) (hvs : Vsort c.l) (hl2 : c.l.length ≤ 2) (h1 : F0.length ≤ cp) (h2 : cp ≤ maxLen) (hF : F0.set i (putC c ⟨t, canV v⟩) = F) :
  acode Tryz.prog TT { run := DD, low := fun N => 0 ≤ N } (seqTail 5 (Tryz.f19.body.getD .skip)) (qtSt t v F0 cp i).slots (qtSt t v F0 cp i).L (qtSt t v F0 cp i).next (aend Tryz.prog TT (Tryz.f19.results.toList) 9000 R) := by
 have hi : i < F0.length := (List.getElem?_eq_some_iff.1 hFc).1
 have hcn := refCanon_c v (by omega) hv.2
 refine c_turn (n' := 4) (fun _ h => h) (fun _ h => h) rfl ?_
 refine c_seq ?_
 repeat' (first | (refine no_implicit_lambda% (zH ?_)) | (((with_reducible refine no_implicit_lambda% (zA ?_)); refine no_implicit_lambda% (zD rfl rfl rfl (fun hc => ?_) (fun hc => ?_)) <;> first | exact zG hc | rw [hc])) | (((with_reducible refine no_implicit_lambda% (zB ?_)); refine no_implicit_lambda% (zE rfl (fun hc => ?_) (fun hc => ?_)) <;> first | exact zG hc | skip)) | (((with_reducible refine no_implicit_lambda% (zC ?_)); refine no_implicit_lambda% (zF rfl rfl (fun hc => ?_) (fun hc => ?_)) <;> first | exact zG hc | rw [hc])) | (refine no_implicit_lambda% (ans ?_)) | (with_reducible first | exact zI | exact zJ))
 ((with_reducible refine no_implicit_lambda% (zC ?_)); first | (refine no_implicit_lambda% (a_qS rfl (fun _ h => h) ?_ ?_)) | (refine no_implicit_lambda% (a_qS rfl (qIx (fun _ h => h)) ?_ ?_)) | (refine no_implicit_lambda% (a_qS rfl (qAnd5 (fun _ h => h)) ?_ ?_)) | (refine no_implicit_lambda% (a_qS rfl (qStr (fun _ h => h)) ?_ ?_)) | (refine no_implicit_lambda% (a_qS rfl (qAnd4 (fun _ h => h)) ?_ ?_)) | (refine no_implicit_lambda% (a_qS rfl (qAnd2 (fun _ h => h)) ?_ ?_))); focus (first | omega | (simp; done) | (simp; omega))
 repeat' (first | (refine no_implicit_lambda% (zH ?_)) | (((with_reducible refine no_implicit_lambda% (zA ?_)); refine no_implicit_lambda% (zD rfl rfl rfl (fun hc => ?_) (fun hc => ?_)) <;> first | exact zG hc | rw [hc])) | (((with_reducible refine no_implicit_lambda% (zB ?_)); refine no_implicit_lambda% (zE rfl (fun hc => ?_) (fun hc => ?_)) <;> first | exact zG hc | skip)) | (((with_reducible refine no_implicit_lambda% (zC ?_)); refine no_implicit_lambda% (zF rfl rfl (fun hc => ?_) (fun hc => ?_)) <;> first | exact zG hc | rw [hc])) | (refine no_implicit_lambda% (ans ?_)) | (with_reducible first | exact zI | exact zJ))
 ((with_reducible refine no_implicit_lambda% (zC ?_)); refine no_implicit_lambda% (a_loadSeq (sz := 2) (rows := F0.map corow) (i := i) (j := 1) rfl rfl rfl rfl rfl (coOk F0) ((by rw [List.getElem?_map, hFc]; rfl)) rfl (by first | rfl | (simp; done) | (simp; omega)) ?_))
 repeat' (first | (refine no_implicit_lambda% (sx1 ?_)) | (((with_reducible refine no_implicit_lambda% (zA ?_)); refine no_implicit_lambda% (zD rfl rfl rfl (fun hc => ?_) (fun hc => ?_)) <;> first | exact zG hc | rw [hc])) | (((with_reducible refine no_implicit_lambda% (zB ?_)); refine no_implicit_lambda% (zE rfl (fun hc => ?_) (fun hc => ?_)) <;> first | exact zG hc | skip)) | (((with_reducible refine no_implicit_lambda% (zC ?_)); refine no_implicit_lambda% (zF rfl rfl (fun hc => ?_) (fun hc => ?_)) <;> first | exact zG hc | rw [hc])) | fail)
 refine k_seq ?_
 repeat' (first | (refine no_implicit_lambda% (sx1 ?_)) | (((with_reducible refine no_implicit_lambda% (zA ?_)); refine no_implicit_lambda% (zD rfl rfl rfl (fun hc => ?_) (fun hc => ?_)) <;> first | exact zG hc | rw [hc])) | (((with_reducible refine no_implicit_lambda% (zB ?_)); refine no_implicit_lambda% (zE rfl (fun hc => ?_) (fun hc => ?_)) <;> first | exact zG hc | skip)) | (((with_reducible refine no_implicit_lambda% (zC ?_)); refine no_implicit_lambda% (zF rfl rfl (fun hc => ?_) (fun hc => ?_)) <;> first | exact zG hc | rw [hc])) | fail)
 refine k_seq ?_
 repeat' (first | (refine no_implicit_lambda% (sx1 ?_)) | (((with_reducible refine no_implicit_lambda% (zA ?_)); refine no_implicit_lambda% (zD rfl rfl rfl (fun hc => ?_) (fun hc => ?_)) <;> first | exact zG hc | rw [hc])) | (((with_reducible refine no_implicit_lambda% (zB ?_)); refine no_implicit_lambda% (zE rfl (fun hc => ?_) (fun hc => ?_)) <;> first | exact zG hc | skip)) | (((with_reducible refine no_implicit_lambda% (zC ?_)); refine no_implicit_lambda% (zF rfl rfl (fun hc => ?_) (fun hc => ?_)) <;> first | exact zG hc | rw [hc])) | fail)
 refine k_seq ?_
 refine c_seq ?_
 -- behind the first loop
 refine c_cutR (fun j => q1St t v F0 cp i c.l (c.l.take j) j) (fun j => j ≤ c.l.length ∧ c.l.take j ++ ⟨t, canV v⟩ :: dropV (c.l.drop j) t = insV c.l ⟨t, canV v⟩) ?_ ?_
 ·rintro j ⟨j1, j2⟩
  refine c_turn (n' := 90) (fun _ h => h) (fun _ h => h) rfl ?_
  have hlj : (c.l.take j).length ≤ 2 := by rw [List.length_take]; omega
  repeat' (first | (refine no_implicit_lambda% (zH ?_)) | (((with_reducible refine no_implicit_lambda% (zA ?_)); refine no_implicit_lambda% (zD rfl rfl rfl (fun hc => ?_) (fun hc => ?_)) <;> first | exact zG hc | rw [hc])) | (((with_reducible refine no_implicit_lambda% (zB ?_)); refine no_implicit_lambda% (zE rfl (fun hc => ?_) (fun hc => ?_)) <;> first | exact zG hc | skip)) | (((with_reducible refine no_implicit_lambda% (zC ?_)); refine no_implicit_lambda% (zF rfl rfl (fun hc => ?_) (fun hc => ?_)) <;> first | exact zG hc | rw [hc])) | (refine no_implicit_lambda% (ans ?_)) | (with_reducible first | exact zI | exact zJ) | (refine no_implicit_lambda% (cal [] (hcn) ?_ ?_)) | fail)
  refine c_loop2 (fun q k => q2St t v F0 cp i c.l q k) (fun q k => j ≤ k ∧ k ≤ c.l.length ∧ q = c.l.take j ++ ⟨t, canV v⟩ :: dropV ((c.l.drop j).take (k - j)) t) (fun _ k => c.l.length - k) (c.l.take j ++ [⟨t, canV v⟩]) j ⟨Nat.le_refl _, j1, by simp [dropV]⟩ ?_ ?_
  ·(refine no_implicit_lambda% (Conv.toT ?_ ?_ (LE0 rfl))); (focus ((unfold q2St); (try dsimp only); exact wkl)); (focus ((unfold q2St); (try dsimp only); exact wkh))
  ·rintro q k ⟨k1, k2, hq⟩
   refine c_turn (n' := 100) (fun _ h => h) (fun _ h => h) rfl ?_
   have hdl := dropV_len ((c.l.drop j).take (k - j)) t
   have hql : q.length ≤ 3 := by
    rw [hq, List.length_append, List.length_cons]
    simp only [List.length_take, List.length_drop] at *
    omega
   rcases hy : c.l[k]? with _ | y
   ·have hk : k = c.l.length := by have := List.getElem?_eq_none_iff.1 hy; omega
    have hqp : q.take 2 = putV c.l ⟨t, canV v⟩ := by
     unfold putV
     have e : (c.l.drop j).take (c.l.length - j) = c.l.drop j := List.take_of_length_le (by rw [List.length_drop]; omega)
     rw [hq, hk, e, j2]
    repeat' (first | (refine no_implicit_lambda% (sx1 ?_)) | (((with_reducible refine no_implicit_lambda% (zA ?_)); refine no_implicit_lambda% (zD rfl rfl rfl (fun hc => ?_) (fun hc => ?_)) <;> first | exact zG hc | rw [hc])) | (((with_reducible refine no_implicit_lambda% (zB ?_)); refine no_implicit_lambda% (zE rfl (fun hc => ?_) (fun hc => ?_)) <;> first | exact zG hc | skip)) | (((with_reducible refine no_implicit_lambda% (zC ?_)); refine no_implicit_lambda% (zF rfl rfl (fun hc => ?_) (fun hc => ?_)) <;> first | exact zG hc | rw [hc])) | fail)
    refine k_seq ?_
    repeat' (first | (refine no_implicit_lambda% (sx1 ?_)) | (((with_reducible refine no_implicit_lambda% (zA ?_)); refine no_implicit_lambda% (zD rfl rfl rfl (fun hc => ?_) (fun hc => ?_)) <;> first | exact zG hc | rw [hc])) | (((with_reducible refine no_implicit_lambda% (zB ?_)); refine no_implicit_lambda% (zE rfl (fun hc => ?_) (fun hc => ?_)) <;> first | exact zG hc | skip)) | (((with_reducible refine no_implicit_lambda% (zC ?_)); refine no_implicit_lambda% (zF rfl rfl (fun hc => ?_) (fun hc => ?_)) <;> first | exact zG hc | rw [hc])) | fail)
    refine k_seq ?_
    repeat' (first | (refine no_implicit_lambda% (sx1 ?_)) | (((with_reducible refine no_implicit_lambda% (zA ?_)); refine no_implicit_lambda% (zD rfl rfl rfl (fun hc => ?_) (fun hc => ?_)) <;> first | exact zG hc | rw [hc])) | (((with_reducible refine no_implicit_lambda% (zB ?_)); refine no_implicit_lambda% (zE rfl (fun hc => ?_) (fun hc => ?_)) <;> first | exact zG hc | skip)) | (((with_reducible refine no_implicit_lambda% (zC ?_)); refine no_implicit_lambda% (zF rfl rfl (fun hc => ?_) (fun hc => ?_)) <;> first | exact zG hc | rw [hc])) | fail)
    refine k_seq ?_
    refine c_cutR (fun _ : Unit => q3St t v F0 cp i (putV c.l ⟨t, canV v⟩)) (fun _ => True) ?_ ?_
    ·rintro _ _
     have hFl : F.length = F0.length := by rw [← hF]; exact List.length_set ..
     refine c_turn (n' := 200) (fun _ h => h) (fun _ h => h) rfl ?_
     repeat' (first | (refine no_implicit_lambda% (zH ?_)) | (((with_reducible refine no_implicit_lambda% (zA ?_)); refine no_implicit_lambda% (zD rfl rfl rfl (fun hc => ?_) (fun hc => ?_)) <;> first | exact zG hc | rw [hc])) | (((with_reducible refine no_implicit_lambda% (zB ?_)); refine no_implicit_lambda% (zE rfl (fun hc => ?_) (fun hc => ?_)) <;> first | exact zG hc | skip)) | (((with_reducible refine no_implicit_lambda% (zC ?_)); refine no_implicit_lambda% (zF rfl rfl (fun hc => ?_) (fun hc => ?_)) <;> first | exact zG hc | rw [hc])) | (refine no_implicit_lambda% (ans ?_)) | (with_reducible first | exact zI | exact zJ))
     ((with_reducible refine no_implicit_lambda% (zC ?_)); first | (refine no_implicit_lambda% (a_qS rfl (fun _ h => h) ?_ ?_)) | (refine no_implicit_lambda% (a_qS rfl (qIx (fun _ h => h)) ?_ ?_)) | (refine no_implicit_lambda% (a_qS rfl (qAnd5 (fun _ h => h)) ?_ ?_)) | (refine no_implicit_lambda% (a_qS rfl (qStr (fun _ h => h)) ?_ ?_)) | (refine no_implicit_lambda% (a_qS rfl (qAnd4 (fun _ h => h)) ?_ ?_)) | (refine no_implicit_lambda% (a_qS rfl (qAnd2 (fun _ h => h)) ?_ ?_))); focus (first | omega | (simp; done) | (simp; omega))
     repeat' (first | (refine no_implicit_lambda% (zH ?_)) | (((with_reducible refine no_implicit_lambda% (zA ?_)); refine no_implicit_lambda% (zD rfl rfl rfl (fun hc => ?_) (fun hc => ?_)) <;> first | exact zG hc | rw [hc])) | (((with_reducible refine no_implicit_lambda% (zB ?_)); refine no_implicit_lambda% (zE rfl (fun hc => ?_) (fun hc => ?_)) <;> first | exact zG hc | skip)) | (((with_reducible refine no_implicit_lambda% (zC ?_)); refine no_implicit_lambda% (zF rfl rfl (fun hc => ?_) (fun hc => ?_)) <;> first | exact zG hc | rw [hc])) | (refine no_implicit_lambda% (ans ?_)) | (with_reducible first | exact zI | exact zJ))
     ((with_reducible refine no_implicit_lambda% (zC ?_)); refine no_implicit_lambda% (a_storeSeq (sz := 2) (rows := F0.map corow) (i := i) (j := 1) (row' := [.v (.string c.n), .list ((putV c.l ⟨t, canV v⟩).map verow) .free]) rfl rfl rfl (fun _ h => h) rfl rfl (coOk F0) ((by rw [List.getElem?_map, hFc]; rfl)) (by first | decide | (simp; done)) (by first | rfl | (simp; done)) (by first | rfl | (simp; done) | (simp; omega)) ?_))
     rw [show (F0.map corow).set i [.v (.string c.n), .list ((putV c.l ⟨t, canV v⟩).map verow) .free] = F.map corow by rw [← hF, List.map_set]; rfl]
     repeat' (first | (refine no_implicit_lambda% (zH ?_)) | (((with_reducible refine no_implicit_lambda% (zA ?_)); refine no_implicit_lambda% (zD rfl rfl rfl (fun hc => ?_) (fun hc => ?_)) <;> first | exact zG hc | rw [hc])) | (((with_reducible refine no_implicit_lambda% (zB ?_)); refine no_implicit_lambda% (zE rfl (fun hc => ?_) (fun hc => ?_)) <;> first | exact zG hc | skip)) | (((with_reducible refine no_implicit_lambda% (zC ?_)); refine no_implicit_lambda% (zF rfl rfl (fun hc => ?_) (fun hc => ?_)) <;> first | exact zG hc | rw [hc])) | (refine no_implicit_lambda% (ans ?_)) | (with_reducible first | exact zI | exact zJ))
     exact e_ret_to (H' := []) (rest := _) (Conv.freezeBox (j := 0) (id := 3) (bid := 1) (sz := 2) (rows := F.map corow) (k := (cp - F0.length) * 2) (m := F0.length) (cp := cp) (cells := [.arr 3 0 F0.length cp]) (permT (H := [(3, .seq (F.map corow) ((cp - F0.length) * 2)), (1, .box [.arr 3 0 F0.length cp])])) rfl (coOk F) (by rw [List.length_map, hFl])) rfl (hR _ _ ⟨rfl, rfl⟩) (.of_eq (by simp; rfl)) (LE0 rfl)
    ·intro Kx kN kP kR kE
     repeat' (first | (refine no_implicit_lambda% (zH ?_)) | (((with_reducible refine no_implicit_lambda% (zA ?_)); refine no_implicit_lambda% (zD rfl rfl rfl (fun hc => ?_) (fun hc => ?_)) <;> first | exact zG hc | rw [hc])) | (((with_reducible refine no_implicit_lambda% (zB ?_)); refine no_implicit_lambda% (zE rfl (fun hc => ?_) (fun hc => ?_)) <;> first | exact zG hc | skip)) | (((with_reducible refine no_implicit_lambda% (zC ?_)); refine no_implicit_lambda% (zF rfl rfl (fun hc => ?_) (fun hc => ?_)) <;> first | exact zG hc | rw [hc])) | (refine no_implicit_lambda% (ans ?_)) | (with_reducible first | exact zI | exact zJ))
     ·have hq3 : 2 ≤ q.length := by have := of_decide_eq_true hc; rw [List.length_map] at this; omega
      ((with_reducible refine no_implicit_lambda% (zC ?_)); first | (refine no_implicit_lambda% (a_qS rfl (fun _ h => h) ?_ ?_)) | (refine no_implicit_lambda% (a_qS rfl (qIx (fun _ h => h)) ?_ ?_)) | (refine no_implicit_lambda% (a_qS rfl (qAnd5 (fun _ h => h)) ?_ ?_)) | (refine no_implicit_lambda% (a_qS rfl (qStr (fun _ h => h)) ?_ ?_)) | (refine no_implicit_lambda% (a_qS rfl (qAnd4 (fun _ h => h)) ?_ ?_)) | (refine no_implicit_lambda% (a_qS rfl (qAnd2 (fun _ h => h)) ?_ ?_))); focus ((repeat' (refine no_implicit_lambda% (And.intro ?_ ?_))) <;> (first | exact trivial | exact (veOk q).len | exact Int.natCast_nonneg _ | omega | (simp; done) | (simp; omega) | ((show (0 : Int) ≤ _); omega)))
      repeat' (first | (refine no_implicit_lambda% (zH ?_)) | (((with_reducible refine no_implicit_lambda% (zA ?_)); refine no_implicit_lambda% (zD rfl rfl rfl (fun hc => ?_) (fun hc => ?_)) <;> first | exact zG hc | rw [hc])) | (((with_reducible refine no_implicit_lambda% (zB ?_)); refine no_implicit_lambda% (zE rfl (fun hc => ?_) (fun hc => ?_)) <;> first | exact zG hc | skip)) | (((with_reducible refine no_implicit_lambda% (zC ?_)); refine no_implicit_lambda% (zF rfl rfl (fun hc => ?_) (fun hc => ?_)) <;> first | exact zG hc | rw [hc])) | (refine no_implicit_lambda% (ans ?_)) | (with_reducible first | exact zI | exact zJ))
      refine kN () _ _ _ trivial (.inl ?_)
      rw [show List.drop 0 (List.take (2 : Int).toNat (q.map verow)) = (putV c.l ⟨t, canV v⟩).map verow by rw [← hqp, List.map_take]; rfl]
      (refine no_implicit_lambda% (Conv.toT ?_ ?_ (LE0 rfl))); (focus ((unfold q3St); (try dsimp only); exact wkl)); (focus ((unfold q3St); (try dsimp only); exact wkh))
     ·have hq2 : q = putV c.l ⟨t, canV v⟩ := by
       rw [← hqp, List.take_of_length_le]
       have := of_decide_eq_false hc
       rw [List.length_map] at this
       omega
      refine kN () _ _ _ trivial (.inl ?_)
      rw [← hq2]
      (refine no_implicit_lambda% (Conv.toT ?_ ?_ (LE0 rfl))); (focus ((unfold q3St); (try dsimp only); exact wkl)); (focus ((unfold q3St); (try dsimp only); exact wkh))
   ·have hk : k < c.l.length := (List.getElem?_eq_some_iff.1 hy).1
    have hix := vex hy
    have hdt := dropV_take (t := t) (l := c.l.drop j) (k := k - j) (y := y) (by rw [List.getElem?_drop, show j + (k - j) = k by omega]; exact hy)
    rw [show k - j + 1 = k + 1 - j by omega] at hdt
    repeat' (first | (refine no_implicit_lambda% (zH ?_)) | (((with_reducible refine no_implicit_lambda% (zA ?_)); refine no_implicit_lambda% (zD rfl rfl rfl (fun hc => ?_) (fun hc => ?_)) <;> first | exact zG hc | rw [hc])) | (((with_reducible refine no_implicit_lambda% (zB ?_)); refine no_implicit_lambda% (zE rfl (fun hc => ?_) (fun hc => ?_)) <;> first | exact zG hc | skip)) | (((with_reducible refine no_implicit_lambda% (zC ?_)); refine no_implicit_lambda% (zF rfl rfl (fun hc => ?_) (fun hc => ?_)) <;> first | exact zG hc | rw [hc])) | (refine no_implicit_lambda% (ans ?_)) | (with_reducible first | exact zI | exact zJ))
    ·have hne : y.t ≠ t := by simpa using hc
     (refine no_implicit_lambda% (k_loopLT (((q ++ [y], k + 1) : List Ve × Nat)) 0 (List.range 100) (by show j ≤ k + 1 ∧ k + 1 ≤ c.l.length ∧ q ++ [y] = c.l.take j ++ ⟨t, canV v⟩ :: dropV ((c.l.drop j).take (k + 1 - j)) t; exact ⟨by omega, hk, by rw [hdt, if_neg hne, hq]; simp⟩) (by first | omega | (simp; done) | (simp; omega)) (LE0 rfl) (fun _ h => h) (fun _ h => h) ?_ ?_)); (focus ((try dsimp only); exact wkl)); (focus ((try dsimp only); exact wkh))
    ·have hne : y.t = t := by simpa using hc
     (refine no_implicit_lambda% (k_loopLT (((q, k + 1) : List Ve × Nat)) 0 (List.range 100) (by show j ≤ k + 1 ∧ k + 1 ≤ c.l.length ∧ q = c.l.take j ++ ⟨t, canV v⟩ :: dropV ((c.l.drop j).take (k + 1 - j)) t; exact ⟨by omega, hk, by rw [hdt, if_pos hne, hq]; simp⟩) (by first | omega | (simp; done) | (simp; omega)) (LE0 rfl) (fun _ h => h) (fun _ h => h) ?_ ?_)); (focus ((try dsimp only); exact wkl)); (focus ((try dsimp only); exact wkh))
 ·intro Kx kN kP kR kE
  repeat' (first | (refine no_implicit_lambda% (zH ?_)) | (((with_reducible refine no_implicit_lambda% (zA ?_)); refine no_implicit_lambda% (zD rfl rfl rfl (fun hc => ?_) (fun hc => ?_)) <;> first | exact zG hc | rw [hc])) | (((with_reducible refine no_implicit_lambda% (zB ?_)); refine no_implicit_lambda% (zE rfl (fun hc => ?_) (fun hc => ?_)) <;> first | exact zG hc | skip)) | (((with_reducible refine no_implicit_lambda% (zC ?_)); refine no_implicit_lambda% (zF rfl rfl (fun hc => ?_) (fun hc => ?_)) <;> first | exact zG hc | rw [hc])) | (refine no_implicit_lambda% (ans ?_)) | (with_reducible first | exact zI | exact zJ))
  refine c_loop2 (fun q j => q1St t v F0 cp i c.l q j) (fun q j => q = c.l.take j ∧ j ≤ c.l.length ∧ ∀ y ∈ c.l.take j, t < y.t) (fun _ j => c.l.length - j) [] 0 ⟨rfl, Nat.zero_le _, by simp⟩ ((Conv.tokSlot (j := 14) (sz := 4) (rows := []) rfl (by simp)).trans ?_) ?_
  ·(refine no_implicit_lambda% (Conv.toT ?_ ?_ (LE0 rfl))); (focus ((unfold q1St); (try dsimp only); exact wkl)); (focus ((unfold q1St); (try dsimp only); exact wkh))
  ·rintro q j ⟨hq, j1, j2⟩
   have hlj : q.length ≤ 2 := by rw [hq, List.length_take]; omega
   refine c_turn (n' := 90) (fun _ h => h) (fun _ h => h) rfl ?_
   rcases hy : c.l[j]? with _ | y
   ·have hj : j = c.l.length := by have := List.getElem?_eq_none_iff.1 hy; omega
    repeat' (first | (refine no_implicit_lambda% (zH ?_)) | (((with_reducible refine no_implicit_lambda% (zA ?_)); refine no_implicit_lambda% (zD rfl rfl rfl (fun hc => ?_) (fun hc => ?_)) <;> first | exact zG hc | rw [hc])) | (((with_reducible refine no_implicit_lambda% (zB ?_)); refine no_implicit_lambda% (zE rfl (fun hc => ?_) (fun hc => ?_)) <;> first | exact zG hc | skip)) | (((with_reducible refine no_implicit_lambda% (zC ?_)); refine no_implicit_lambda% (zF rfl rfl (fun hc => ?_) (fun hc => ?_)) <;> first | exact zG hc | rw [hc])) | (refine no_implicit_lambda% (ans ?_)) | (with_reducible first | exact zI | exact zJ))
    refine kN j _ _ _ ⟨j1, ins_eq2 hvs j2 (fun y h => by rw [hy] at h; cases h)⟩ (.inl ?_)
    subst hq
    (refine no_implicit_lambda% (Conv.toT ?_ ?_ (LE0 rfl))); (focus ((unfold q1St); (try dsimp only); exact wkl)); (focus ((unfold q1St); (try dsimp only); exact wkh))
   ·have hj : j < c.l.length := (List.getElem?_eq_some_iff.1 hy).1
    have hix := vex hy
    have hts : c.l.take (j + 1) = c.l.take j ++ [y] := by rw [List.take_add_one, hy]; rfl
    repeat' (first | (refine no_implicit_lambda% (zH ?_)) | (((with_reducible refine no_implicit_lambda% (zA ?_)); refine no_implicit_lambda% (zD rfl rfl rfl (fun hc => ?_) (fun hc => ?_)) <;> first | exact zG hc | rw [hc])) | (((with_reducible refine no_implicit_lambda% (zB ?_)); refine no_implicit_lambda% (zE rfl (fun hc => ?_) (fun hc => ?_)) <;> first | exact zG hc | skip)) | (((with_reducible refine no_implicit_lambda% (zC ?_)); refine no_implicit_lambda% (zF rfl rfl (fun hc => ?_) (fun hc => ?_)) <;> first | exact zG hc | rw [hc])) | (refine no_implicit_lambda% (ans ?_)) | (with_reducible first | exact zI | exact zJ))
    ·(refine no_implicit_lambda% (k_loopLT (((q ++ [y], j + 1) : List Ve × Nat)) 0 (List.range 90) (by show q ++ [y] = c.l.take (j + 1) ∧ j + 1 ≤ c.l.length ∧ ∀ z ∈ c.l.take (j + 1), t < z.t; exact ⟨by rw [hts, hq], hj, by rw [hts]; intro z hz; rcases List.mem_append.1 hz with hz | hz; exact j2 z hz; rw [List.mem_singleton.1 hz]; exact of_decide_eq_true hc⟩) (by first | omega | (simp; done) | (simp; omega)) (LE0 rfl) (fun _ h => h) (fun _ h => h) ?_ ?_)); (focus ((try dsimp only); exact wkl)); (focus ((try dsimp only); exact wkh))
    ·refine kN j _ _ _ ⟨j1, ins_eq2 hvs j2 (fun z h => by rw [hy] at h; cases h; exact of_decide_eq_false hc)⟩ (.inl ?_)
     subst hq
     (refine no_implicit_lambda% (Conv.toT ?_ ?_ (LE0 rfl))); (focus ((unfold q1St); (try dsimp only); exact wkl)); (focus ((unfold q1St); (try dsimp only); exact wkh))
end Go.Proofs.YtjepgbpcpcahgaaGreat
namespace Go.Proofs.YtjepgbpcpcahgaaGreat
open Go.Am
set_option maxRecDepth 100000
theorem ins_rows (o : List Co) (p : Nat) (s : ByteArray) : (o.take p).map corow ++ [[.v (.string s), .list [] .full]] ++ (o.drop p).map corow = nrows (o.take p) s (.list [] .full) (o.drop p) := by unfold nrows; simp
theorem wk_nrows {o1 : List Co} {nm : ByteArray} {v w : AV} {o2 : List Co} {k : Nat} (h : Wk v w) : WkL (seqC (nrows o1 nm v o2) k) (seqC (nrows o1 nm w o2) k) := by
 have e : ∀ z, seqC (nrows o1 nm z o2) k = ((o1.map corow).flatten ++ [AV.v (.string nm)]) ++ ([z] ++ ((o2.map corow).flatten ++ List.replicate k .dead)) := fun z => by unfold seqC nrows; simp
 rw [e v, e w]
 exact .app (.refl _) (.app (.cons h .nil) (.refl _))
set_option maxHeartbeats 3200000 in
theorem qput_c (r : List Co) (s : ByteArray) (t : Int) (v : Va) (hr : r.length < 70368744177664) (hs : RowSz r) (hv : v.b.length < 1073741824 ∧ v.n < 18446744073709551616) : ACalls Tryz.prog 19 0 9000 [rowA r, .v (.string s), .v (.int .i64 t), vav v] [] (PutRR (putR r s t v)) := by
 have hnm := rname_c s
 have hvr : ACalls Tryz.prog 59 0 10 [vav v] [] (fun out H' => out = .ret (.v (.bool (vRt v))) ∧ H' = []) := refRight_c v
 have hso := copy_sort r
 have h4 := copy_len r
 have hfi := copy_fine r
 have hbad : (nmB s && tmOk t && vRt v) = false → putR r s t v = (1, []) := fun h => by unfold putR; rw [h]; rfl
 have hgood : (nmB s && tmOk t && vRt v) = true → putR r s t v = (if hasN (copyR r) s = false ∧ (copyR r).length = 4 then (13, []) else (0, putA (copyR r) s ⟨t, canV v⟩)) := fun h => by unfold putR; rw [if_pos h]
 have hcn := qcopy_n r hr hs
 generalize putR r s t v = Q at *
 generalize copyR r = o at *
 refine no_implicit_lambda% (acalls_of tok dok (f := 19) ⟨Tryz.func19, rfl, by kernel_rfl⟩ ?_); refine no_implicit_lambda% (c_start (fun _ h => h) ?_)
 repeat' (first | (refine no_implicit_lambda% (zH ?_)) | (((with_reducible refine no_implicit_lambda% (zA ?_)); refine no_implicit_lambda% (zD rfl rfl rfl (fun hc => ?_) (fun hc => ?_)) <;> first | exact zG hc | rw [hc])) | (((with_reducible refine no_implicit_lambda% (zB ?_)); refine no_implicit_lambda% (zE rfl (fun hc => ?_) (fun hc => ?_)) <;> first | exact zG hc | skip)) | (((with_reducible refine no_implicit_lambda% (zC ?_)); refine no_implicit_lambda% (zF rfl rfl (fun hc => ?_) (fun hc => ?_)) <;> first | exact zG hc | rw [hc])) | (refine no_implicit_lambda% (ans ?_)) | (with_reducible first | exact zI | exact zJ) | (refine no_implicit_lambda% (cal [] (hnm) ?_ ?_)) | (refine no_implicit_lambda% (cal [] (hvr) ?_ ?_)) | fail)
 iterate 4
  ·have hb : Q = (1, []) := hbad (by unfold tmOk; simp only [Bool.not_eq_true', Bool.not_eq_false', decide_eq_true_eq, decide_eq_false_iff_not] at *; rw [Bool.eq_false_iff]; intro h; simp only [Bool.and_eq_true, decide_eq_true_eq] at h; first | omega | (simp_all; done))
   subst hb
   refine e_ret_to (H' := []) (rest := _) (Conv.toT (τ := ⟨_, [(2, .box [.list [] .free])], _⟩) (.refl _) ?_ (Nat.le_refl _)) rfl ⟨rfl, rfl⟩ (.of_eq rfl) (LE0 rfl)
   exact wkh
 have hq := hgood (by unfold tmOk; simp only [Bool.not_eq_true', Bool.not_eq_false', decide_eq_true_eq, decide_eq_false_iff_not] at *; simp only [Bool.and_eq_true, decide_eq_true_eq]; refine ⟨⟨by assumption, by omega⟩, by assumption⟩)
 (refine no_implicit_lambda% (cal [] (hcn) ?_ ?_))
 ·intro xx H' hh
  obtain ⟨cp, c1, c2, h', rfl⟩ := hh
  cases h'
  first | (refine no_implicit_lambda% (akc ?_)) | (refine no_implicit_lambda% (aec ?_))
  have hf := qfind_o o s cp (by omega) hso
  rcases hN : hasN o s with _ | _
  ·rw [hN] at hf
   repeat' (first | (refine no_implicit_lambda% (zH ?_)) | (((with_reducible refine no_implicit_lambda% (zA ?_)); refine no_implicit_lambda% (zD rfl rfl rfl (fun hc => ?_) (fun hc => ?_)) <;> first | exact zG hc | rw [hc])) | (((with_reducible refine no_implicit_lambda% (zB ?_)); refine no_implicit_lambda% (zE rfl (fun hc => ?_) (fun hc => ?_)) <;> first | exact zG hc | skip)) | (((with_reducible refine no_implicit_lambda% (zC ?_)); refine no_implicit_lambda% (zF rfl rfl (fun hc => ?_) (fun hc => ?_)) <;> first | exact zG hc | rw [hc])) | (refine no_implicit_lambda% (ans ?_)) | (with_reducible first | exact zI | exact zJ))
   (refine no_implicit_lambda% (cal [13] (hf) ?_ ?_))
   ·refine no_implicit_lambda% (ret1 ?_); first | (refine no_implicit_lambda% (akc ?_)) | (refine no_implicit_lambda% (aec ?_))
    repeat' (first | (refine no_implicit_lambda% (zH ?_)) | (((with_reducible refine no_implicit_lambda% (zA ?_)); refine no_implicit_lambda% (zD rfl rfl rfl (fun hc => ?_) (fun hc => ?_)) <;> first | exact zG hc | rw [hc])) | (((with_reducible refine no_implicit_lambda% (zB ?_)); refine no_implicit_lambda% (zE rfl (fun hc => ?_) (fun hc => ?_)) <;> first | exact zG hc | skip)) | (((with_reducible refine no_implicit_lambda% (zC ?_)); refine no_implicit_lambda% (zF rfl rfl (fun hc => ?_) (fun hc => ?_)) <;> first | exact zG hc | rw [hc])) | (refine no_implicit_lambda% (ans ?_)) | (with_reducible first | exact zI | exact zJ))
    ·have hl4 : o.length = 4 := by have := of_decide_eq_true hc; omega
     rw [if_pos ⟨hN, hl4⟩] at hq
     subst hq
     refine e_ret_to (H' := []) (rest := _) (Conv.toT (τ := ⟨_, [(2, .box [.list [] .free])], _⟩) (.refl _) ?_ (Nat.le_refl _)) rfl ⟨rfl, rfl⟩ (.of_eq rfl) (LE0 rfl)
     exact wkh
    ·have hl4 : ¬ o.length = 4 := by have := of_decide_eq_false hc; omega
     have hpl := npos_le o s
     rw [if_neg (fun h => hl4 h.2)] at hq
     ((with_reducible refine no_implicit_lambda% (is_ev ?_)); first | (refine no_implicit_lambda% (v_qS rfl rfl rfl rfl (qAnd4 (fun _ h => h)) (fun _ h => h) ?_ ?_)) | (refine no_implicit_lambda% (v_qS rfl rfl rfl rfl (qAnd5 (fun _ h => h)) (fun _ h => h) ?_ ?_))); focus ((repeat' (refine no_implicit_lambda% (And.intro ?_ ?_))) <;> (first | exact trivial | exact Int.natCast_nonneg _ | omega | (simp; done) | (simp; omega) | ((show (0 : Int) ≤ _); omega)))
     repeat' (first | (refine no_implicit_lambda% (zH ?_)) | (((with_reducible refine no_implicit_lambda% (zA ?_)); refine no_implicit_lambda% (zD rfl rfl rfl (fun hc => ?_) (fun hc => ?_)) <;> first | exact zG hc | rw [hc])) | (((with_reducible refine no_implicit_lambda% (zB ?_)); refine no_implicit_lambda% (zE rfl (fun hc => ?_) (fun hc => ?_)) <;> first | exact zG hc | skip)) | (((with_reducible refine no_implicit_lambda% (zC ?_)); refine no_implicit_lambda% (zF rfl rfl (fun hc => ?_) (fun hc => ?_)) <;> first | exact zG hc | rw [hc])) | (refine no_implicit_lambda% (ans ?_)) | (with_reducible first | exact zI | exact zJ))
     ((with_reducible refine no_implicit_lambda% (is_ev ?_)); first | (refine no_implicit_lambda% (v_qS rfl rfl rfl rfl (qAnd4 (fun _ h => h)) (fun _ h => h) ?_ ?_)) | (refine no_implicit_lambda% (v_qS rfl rfl rfl rfl (qAnd5 (fun _ h => h)) (fun _ h => h) ?_ ?_))); focus ((repeat' (refine no_implicit_lambda% (And.intro ?_ ?_))) <;> (first | exact trivial | exact Int.natCast_nonneg _ | omega | (simp; done) | (simp; omega) | ((show (0 : Int) ≤ _); omega)))
     repeat' (first | (refine no_implicit_lambda% (zH ?_)) | (((with_reducible refine no_implicit_lambda% (zA ?_)); refine no_implicit_lambda% (zD rfl rfl rfl (fun hc => ?_) (fun hc => ?_)) <;> first | exact zG hc | rw [hc])) | (((with_reducible refine no_implicit_lambda% (zB ?_)); refine no_implicit_lambda% (zE rfl (fun hc => ?_) (fun hc => ?_)) <;> first | exact zG hc | skip)) | (((with_reducible refine no_implicit_lambda% (zC ?_)); refine no_implicit_lambda% (zF rfl rfl (fun hc => ?_) (fun hc => ?_)) <;> first | exact zG hc | rw [hc])) | (refine no_implicit_lambda% (ans ?_)) | (with_reducible first | exact zI | exact zJ))
     have hlt4 := hfi.len
     have hpe : (npos o s : Int).toNat = npos o s := Int.toNat_natCast _
     generalize hpp : npos o s = p at *
     have l1 : ((o.take p).map corow).length = p := by rw [List.length_map, List.length_take]; omega
     have l2 : ((o.drop p).map corow).length = o.length - p := by rw [List.length_map, List.length_drop]
     (with_reducible refine zC ?_)
     refine no_implicit_lambda% (a_appS0g (sz := 2) (B := 40) (m2 := p) (rows2 := (o.take p).map corow) rfl rfl rfl rfl rfl rfl rfl rfl rfl (.inl rfl) rfl rfl (fun K h => asrc_seqg (id := 13) (off := 0) (i := 0) (m := ((o.take p).map corow).length) (cp := cp) ?_ rfl (coOk o) ?_ (by simp) ?_ h) (coOk _) ⟨by omega, by omega⟩ l1 ?_)
     ·rw [l1]
      show AV.arr 13 (0 + 0 * 2) ((p : Int).toNat - 0) (cp - 0) = AV.arr 13 0 p cp
      rw [hpe]; rfl
     ·rw [l1, List.length_map]; omega
     ·rw [l1, List.drop_zero, List.map_take]
     intro cp1 d1 d2
     refine no_implicit_lambda% (aec ?_)
     repeat' (first | (refine no_implicit_lambda% (zH ?_)) | (((with_reducible refine no_implicit_lambda% (zA ?_)); refine no_implicit_lambda% (zD rfl rfl rfl (fun hc => ?_) (fun hc => ?_)) <;> first | exact zG hc | rw [hc])) | (((with_reducible refine no_implicit_lambda% (zB ?_)); refine no_implicit_lambda% (zE rfl (fun hc => ?_) (fun hc => ?_)) <;> first | exact zG hc | skip)) | (((with_reducible refine no_implicit_lambda% (zC ?_)); refine no_implicit_lambda% (zF rfl rfl (fun hc => ?_) (fun hc => ?_)) <;> first | exact zG hc | rw [hc])) | (refine no_implicit_lambda% (ans ?_)) | (with_reducible first | exact zI | exact zJ))
     ((with_reducible refine no_implicit_lambda% (zC ?_)); refine no_implicit_lambda% (a_appS (sz := 2) (B := 40) (m2 := p + 1) (rows3 := ((o.take p).map corow ++ [[.v (.string s), .list [] .full]])) rfl rfl rfl rfl rfl rfl rfl rfl rfl rfl rfl (fun _ h => h) rfl rfl (coOk (o.take p)) ((.one1 (row := [.v (.string s), .list [] .full]) ⟨rfl, rfl, rfl⟩)) (by first | rfl | (exact List.length_map ..) | (simp; done) | (simp; omega)) rfl (by first | omega | (simp; omega)) (by first | rfl | (simp; done) | (simp; omega)) (by first | rfl | (exact map_snoc _ _) | (rw [List.map_append]; rfl) | (simp; done)) ?_))
     intro cp2 e1 e2
     refine no_implicit_lambda% (aec ?_)
     repeat' (first | (refine no_implicit_lambda% (zH ?_)) | (((with_reducible refine no_implicit_lambda% (zA ?_)); refine no_implicit_lambda% (zD rfl rfl rfl (fun hc => ?_) (fun hc => ?_)) <;> first | exact zG hc | rw [hc])) | (((with_reducible refine no_implicit_lambda% (zB ?_)); refine no_implicit_lambda% (zE rfl (fun hc => ?_) (fun hc => ?_)) <;> first | exact zG hc | skip)) | (((with_reducible refine no_implicit_lambda% (zC ?_)); refine no_implicit_lambda% (zF rfl rfl (fun hc => ?_) (fun hc => ?_)) <;> first | exact zG hc | rw [hc])) | (refine no_implicit_lambda% (ans ?_)) | (with_reducible first | exact zI | exact zJ))
     (with_reducible refine zC ?_)
     refine no_implicit_lambda% (a_appSg (sz := 2) (B := 40) (m2 := o.length + 1) (rows := (o.take p).map corow ++ [[AV.v (.string s), AV.list [] .full]]) (rows2 := (o.drop p).map corow) (rows3 := nrows (o.take p) s (.list [] .full) (o.drop p)) rfl rfl rfl rfl rfl rfl rfl rfl rfl rfl (fun _ h => h) rfl rfl (fun K h => asrc_seqg (id := 13) (off := p * 2) (i := p) (m := ((o.drop p).map corow).length) (cp := cp - p) ?_ rfl (coOk o) ?_ rfl ?_ h) ?_ (coOk _) ?_ ?_ ⟨by omega, by omega, by omega⟩ (by omega) (ins_rows o p s) ?_)
     ·rw [l2]
      show AV.arr 13 (0 + (p : Int).toNat * 2) (o.length - (p : Int).toNat) (cp - (p : Int).toNat) = AV.arr 13 (p * 2) (o.length - p) (cp - p)
      rw [hpe, Nat.zero_add]
     ·rw [l2, List.length_map]; omega
     ·rw [l2, List.map_drop, List.take_of_length_le (by rw [List.length_drop, List.length_map]; omega)]
     ·exact (coOk _).app (.one1 ⟨rfl, rfl, rfl⟩)
     ·rw [List.length_append, l1]; rfl
     ·rfl
     intro cp3 f1 f2
     refine no_implicit_lambda% (aec ?_)
     repeat' (first | (first | (with_reducible refine no_implicit_lambda% (v_nil ?_)) | ((with_reducible refine no_implicit_lambda% (is_ev ?_)); first | (refine no_implicit_lambda% (v_skips rfl rfl (fun _ h => h) ?_)) | (refine no_implicit_lambda% (v_q rfl rfl rfl rfl (fun _ h => h) (fun _ h => h) ?_)) | (refine no_implicit_lambda% (v_alloc rfl rfl rfl (fun _ h => h) rfl ?_)) | (refine no_implicit_lambda% (v_no rfl rfl rfl rfl rfl rfl (fun _ h => h) ?_)) | (refine no_implicit_lambda% (v_yes rfl rfl rfl rfl rfl rfl (fun _ h => h) (fun _ h => h) ?_)) | (refine no_implicit_lambda% (v_not rfl rfl rfl rfl rfl rfl (fun _ h => h) ?_)))) | ((with_reducible refine no_implicit_lambda% (is_drB ?_)); first | (refine no_implicit_lambda% (b_end rfl rfl (fun _ h => h) (fun _ h => h) ?_)) | (refine no_implicit_lambda% (b_eff rfl rfl rfl rfl (fun _ h => h) (fun _ h => h) rfl ?_)) | (refine no_implicit_lambda% (b_no rfl rfl rfl rfl (fun _ h => h) (fun _ h => h) rfl rfl rfl (fun _ h => h) (fun _ h => h) ?_)) | (refine no_implicit_lambda% (b_yes rfl rfl rfl rfl (fun _ h => h) (fun _ h => h) rfl rfl rfl ?_)) | (refine no_implicit_lambda% (b_not rfl rfl rfl rfl (fun _ h => h) (fun _ h => h) rfl rfl rfl (fun _ h => h) (fun _ h => h) ?_))) | ((with_reducible refine no_implicit_lambda% (is_effK ?_)); refine no_implicit_lambda% (k_eff (fun _ h => h) (fun _ h => h) (fun _ h => h) (by intro k h; repeat (first | exact h | refine ⟨rfl, ?_⟩ | refine ⟨trivial, ?_⟩)) ?_)) | ((with_reducible refine no_implicit_lambda% (zC ?_)); first | (refine no_implicit_lambda% (a_q1 rfl (fun _ h => h) ?_)) | (refine no_implicit_lambda% (a_box rfl (fun _ h => h) ?_)) | (refine no_implicit_lambda% (a_alloc rfl (fun _ h => h) ?_)) | (refine no_implicit_lambda% (a_storev rfl (fun _ h => h) ?_)) | (refine no_implicit_lambda% (a_store rfl (fun _ h => h) ?_)) | (refine no_implicit_lambda% (a_panic rfl rfl ?_))) | fail)
     have hFl : (o.take p ++ ⟨s, []⟩ :: o.drop p).length = o.length + 1 := by simp; omega
     have hFp : (o.take p ++ (⟨s, []⟩ : Co) :: o.drop p)[p]? = some ⟨s, []⟩ := by
      rw [List.getElem?_append_right (by rw [List.length_take]; omega), List.length_take, Nat.min_eq_left (by omega), Nat.sub_self]; rfl
     have hFr : nrows (o.take p) s (.list [] .free) (o.drop p) = (o.take p ++ ⟨s, []⟩ :: o.drop p).map corow := nrows_free _ _ [] _
     refine ⟨qtSt t v (o.take p ++ ⟨s, []⟩ :: o.drop p) cp3 p, ?_, qput_rest t v hv _ Q.2 (o.take p ++ ⟨s, []⟩ :: o.drop p) cp3 p ⟨s, []⟩ (fun out H' h => ⟨by rw [h.1, show Q.1 = 0 by rw [hq]], h.2⟩) (by omega) hFp List.Pairwise.nil (by simp) (by omega) f2 ?_⟩
     ·refine SeqTo.renE (n2 := 18) (L2 := [(1, .box (vrowV v)), (2, .box [.list [] .full]), (14, .box [.arr 17 0 (o.take p ++ ⟨s, []⟩ :: o.drop p).length cp3]), (17, .seq ((o.take p ++ ⟨s, []⟩ :: o.drop p).map corow) ((cp3 - (o.take p ++ (⟨s, []⟩ : Co) :: o.drop p).length) * 2))]) 0 [1, 2, 14, 17] (Nat.le_refl 0) rfl (fun _ h => h) ?_
      refine (Conv.unseq (id := 17) (rows := nrows (o.take p) s (.list [] .full) (o.drop p)) (k := (cp3 - (o.length + 1)) * 2) (by rw [nrows_len]; omega) (permT (H := [(17, .seq (nrows (o.take p) s (.list [] .full) (o.drop p)) ((cp3 - (o.length + 1)) * 2))]))).trans ((Conv.wk (.refl _) (.cons (.box 17 (wk_nrows (.free _ _))) (.refl _))).trans ((Conv.toSeq (rows := (o.take p ++ ⟨s, []⟩ :: o.drop p).map corow) (k := (cp3 - (o.length + 1)) * 2) (.refl _) (by rw [← hFr]) (coOk _).pure).trans ?_))
      rw [hFl]
      refine no_implicit_lambda% (Conv.toT ?_ ?_ (LE0 rfl))
      ·exact wkl
      ·exact wkh
     ·rw [hq]
      unfold putA
      rw [hN, if_neg (by simp), hpp]
      show _ = o.take p ++ ⟨s, [⟨t, canV v⟩]⟩ :: o.drop p
      have hol : (o.take p).length = p := by rw [List.length_take]; omega
      rw [List.set_append_right _ _ (by omega), hol, Nat.sub_self]
      rfl
   ·first | (exact zI) | (exact zJ)
  ·rw [hN] at hf
   have hlt := npos_len hN
   obtain ⟨c, hc1⟩ := has_at hN
   have hcb := hfi.col c (List.mem_of_getElem? hc1)
   have hcl := col_len hcb
   have hlt4 := hfi.len
   repeat' (first | (refine no_implicit_lambda% (zH ?_)) | (((with_reducible refine no_implicit_lambda% (zA ?_)); refine no_implicit_lambda% (zD rfl rfl rfl (fun hc => ?_) (fun hc => ?_)) <;> first | exact zG hc | rw [hc])) | (((with_reducible refine no_implicit_lambda% (zB ?_)); refine no_implicit_lambda% (zE rfl (fun hc => ?_) (fun hc => ?_)) <;> first | exact zG hc | skip)) | (((with_reducible refine no_implicit_lambda% (zC ?_)); refine no_implicit_lambda% (zF rfl rfl (fun hc => ?_) (fun hc => ?_)) <;> first | exact zG hc | rw [hc])) | (refine no_implicit_lambda% (ans ?_)) | (with_reducible first | exact zI | exact zJ))
   (refine no_implicit_lambda% (cal [13] (hf) ?_ ?_))
   ·refine no_implicit_lambda% (ret1 ?_); first | (refine no_implicit_lambda% (akc ?_)) | (refine no_implicit_lambda% (aec ?_))
    repeat' (first | (refine no_implicit_lambda% (sx1 ?_)) | (((with_reducible refine no_implicit_lambda% (zA ?_)); refine no_implicit_lambda% (zD rfl rfl rfl (fun hc => ?_) (fun hc => ?_)) <;> first | exact zG hc | rw [hc])) | (((with_reducible refine no_implicit_lambda% (zB ?_)); refine no_implicit_lambda% (zE rfl (fun hc => ?_) (fun hc => ?_)) <;> first | exact zG hc | skip)) | (((with_reducible refine no_implicit_lambda% (zC ?_)); refine no_implicit_lambda% (zF rfl rfl (fun hc => ?_) (fun hc => ?_)) <;> first | exact zG hc | rw [hc])) | fail)
    refine k_seq ?_
    repeat' (first | (refine no_implicit_lambda% (sx1 ?_)) | (((with_reducible refine no_implicit_lambda% (zA ?_)); refine no_implicit_lambda% (zD rfl rfl rfl (fun hc => ?_) (fun hc => ?_)) <;> first | exact zG hc | rw [hc])) | (((with_reducible refine no_implicit_lambda% (zB ?_)); refine no_implicit_lambda% (zE rfl (fun hc => ?_) (fun hc => ?_)) <;> first | exact zG hc | skip)) | (((with_reducible refine no_implicit_lambda% (zC ?_)); refine no_implicit_lambda% (zF rfl rfl (fun hc => ?_) (fun hc => ?_)) <;> first | exact zG hc | rw [hc])) | fail)
    refine k_seq ?_
    repeat' (first | (refine no_implicit_lambda% (sx1 ?_)) | (((with_reducible refine no_implicit_lambda% (zA ?_)); refine no_implicit_lambda% (zD rfl rfl rfl (fun hc => ?_) (fun hc => ?_)) <;> first | exact zG hc | rw [hc])) | (((with_reducible refine no_implicit_lambda% (zB ?_)); refine no_implicit_lambda% (zE rfl (fun hc => ?_) (fun hc => ?_)) <;> first | exact zG hc | skip)) | (((with_reducible refine no_implicit_lambda% (zC ?_)); refine no_implicit_lambda% (zF rfl rfl (fun hc => ?_) (fun hc => ?_)) <;> first | exact zG hc | rw [hc])) | fail)
    refine ⟨qtSt t v o cp (npos o s), ?_, qput_rest t v hv _ Q.2 o cp (npos o s) c (fun out H' h => ⟨by rw [h.1, show Q.1 = 0 by rw [hq, if_neg (by rw [hN]; simp)]], h.2⟩) hlt4 hc1 ?_ hcl.2 c1 c2 ?_⟩
    ·(refine no_implicit_lambda% (SeqTo.renT 0 [1, 2, 14, 13] (LE0 rfl) (fun _ h => h) (fun _ h => h) ?_ ?_)); (focus ((try dsimp only); exact wkl)); (focus ((try dsimp only); exact wkh))
    ·unfold colB at hcb
     simp only [Bool.and_eq_true] at hcb
     exact (vers_to hcb.2).2.1
    ·rw [hq, if_neg (by rw [hN]; simp)]
     unfold putA
     rw [hN, if_pos rfl, hc1]
   ·first | (exact zI) | (exact zJ)
 ·intro xx H' hh
  obtain ⟨_, _, _, h', _⟩ := hh
  cases h'
end Go.Proofs.YtjepgbpcpcahgaaGreat
namespace Go.Proofs.YtjepgbpcpcahgaaGreat
open Go.Am
set_option maxRecDepth 100000
def qeSt (t : Int) (s : ByteArray) (o : List Co) (cp i : Nat) (q : List Ve) (k : Nat) : ASt := ⟨([.dead, .v (.string s), .v (.int .i64 t), .dead, .dead, .dead, .ptr 1 0, .ptr 3 0, .v (.int .i64 i), .dead, .list (q.map verow) (.tok 4), .v (.int .i64 k)] ++ List.replicate 59 .dead), [(4, .tok 4 q.length), (1, .box [.list [] .full]), (3, .box [.arr 2 0 o.length cp]), (2, .seq (o.map corow) ((cp - o.length) * 2))], 90⟩
def qgSt (s : ByteArray) (o : List Co) : ASt := ⟨([.dead, .v (.string s), .dead, .dead, .dead, .dead, .ptr 1 0, .ptr 3 0] ++ List.replicate 52 .dead ++ [.v (.bool true)] ++ List.replicate 10 .dead), [(1, .box [.list [] .full]), (3, .box [.list (o.map corow) .free])], 100⟩
def qhSt (o : List Co) (cp i : Nat) (q : List Ve) : ASt := ⟨(List.replicate 6 .dead ++ [.ptr 1 0, .ptr 3 0, .v (.int .i64 i), .dead, .list (q.map verow) .free] ++ List.replicate 49 .dead ++ [.v (.bool false)] ++ List.replicate 10 .dead), [(1, .box [.list [] .full]), (3, .box [.arr 2 0 o.length cp]), (2, .seq (o.map corow) ((cp - o.length) * 2))], 100⟩
set_option maxHeartbeats 3200000 in
theorem qdrop_c (r : List Co) (s : ByteArray) (t : Int) (hr : r.length < 70368744177664) (hs : RowSz r) : ACalls Tryz.prog 76 0 9000 [rowA r, .v (.string s), .v (.int .i64 t)] [] (fun out H' => out = .ret (rowA (dropR r s t)) ∧ H' = []) := by
 have hso := copy_sort r
 have h4 := copy_len r
 have hz := copy_sz hs
 have hfi := copy_fine r
 have hcn := qcopy_n r hr hs
 unfold dropR
 generalize copyR r = o at *
 have hlt4 := hfi.len
 refine no_implicit_lambda% (acalls_of tok dok (f := 76) ⟨Tryz.func76, rfl, by kernel_rfl⟩ ?_); refine no_implicit_lambda% (c_start (fun _ h => h) ?_)
 repeat' (first | (refine no_implicit_lambda% (zH ?_)) | (((with_reducible refine no_implicit_lambda% (zA ?_)); refine no_implicit_lambda% (zD rfl rfl rfl (fun hc => ?_) (fun hc => ?_)) <;> first | exact zG hc | rw [hc])) | (((with_reducible refine no_implicit_lambda% (zB ?_)); refine no_implicit_lambda% (zE rfl (fun hc => ?_) (fun hc => ?_)) <;> first | exact zG hc | skip)) | (((with_reducible refine no_implicit_lambda% (zC ?_)); refine no_implicit_lambda% (zF rfl rfl (fun hc => ?_) (fun hc => ?_)) <;> first | exact zG hc | rw [hc])) | (refine no_implicit_lambda% (ans ?_)) | (with_reducible first | exact zI | exact zJ))
 (refine no_implicit_lambda% (cal [] (hcn) ?_ ?_))
 ·intro xx H' hh
  obtain ⟨cp, c1, c2, h', rfl⟩ := hh
  cases h'
  first | (refine no_implicit_lambda% (akc ?_)) | (refine no_implicit_lambda% (aec ?_))
  have hf := qfind_o o s cp (by omega) hso
  rcases hN : hasN o s with _ | _
  ·rw [hN] at hf
   have hq : dropA o s t = o := by unfold dropA; rw [hN, if_neg (by simp)]
   rw [hq]
   repeat' (first | (refine no_implicit_lambda% (zH ?_)) | (((with_reducible refine no_implicit_lambda% (zA ?_)); refine no_implicit_lambda% (zD rfl rfl rfl (fun hc => ?_) (fun hc => ?_)) <;> first | exact zG hc | rw [hc])) | (((with_reducible refine no_implicit_lambda% (zB ?_)); refine no_implicit_lambda% (zE rfl (fun hc => ?_) (fun hc => ?_)) <;> first | exact zG hc | skip)) | (((with_reducible refine no_implicit_lambda% (zC ?_)); refine no_implicit_lambda% (zF rfl rfl (fun hc => ?_) (fun hc => ?_)) <;> first | exact zG hc | rw [hc])) | (refine no_implicit_lambda% (ans ?_)) | (with_reducible first | exact zI | exact zJ))
   (refine no_implicit_lambda% (cal [2] (hf) ?_ ?_))
   ·refine no_implicit_lambda% (ret1 ?_); first | (refine no_implicit_lambda% (akc ?_)) | (refine no_implicit_lambda% (aec ?_))
    repeat' (first | (refine no_implicit_lambda% (zH ?_)) | (((with_reducible refine no_implicit_lambda% (zA ?_)); refine no_implicit_lambda% (zD rfl rfl rfl (fun hc => ?_) (fun hc => ?_)) <;> first | exact zG hc | rw [hc])) | (((with_reducible refine no_implicit_lambda% (zB ?_)); refine no_implicit_lambda% (zE rfl (fun hc => ?_) (fun hc => ?_)) <;> first | exact zG hc | skip)) | (((with_reducible refine no_implicit_lambda% (zC ?_)); refine no_implicit_lambda% (zF rfl rfl (fun hc => ?_) (fun hc => ?_)) <;> first | exact zG hc | rw [hc])) | (refine no_implicit_lambda% (ans ?_)) | (with_reducible first | exact zI | exact zJ))
    exact e_ret_to (H' := []) (rest := _) (Conv.freezeBox (j := 0) (id := 2) (bid := 1) (sz := 2) (rows := o.map corow) (k := (cp - o.length) * 2) (m := o.length) (cp := cp) (cells := [.arr 2 0 o.length cp]) (permT (H := [(2, .seq (o.map corow) ((cp - o.length) * 2)), (1, .box [.arr 2 0 o.length cp])])) rfl (coOk o) (by simp)) rfl ⟨rfl, rfl⟩ (.of_eq (by simp; rfl)) (LE0 rfl)
   ·first | (exact zI) | (exact zJ)
  ·rw [hN] at hf
   have hlt := npos_len hN
   obtain ⟨c, hc1⟩ := has_at hN
   have hcb := hfi.col c (List.mem_of_getElem? hc1)
   have hcl := col_len hcb
   have hq : dropA o s t = if dropV c.l t = [] then o.eraseIdx (npos o s) else o.set (npos o s) ⟨c.n, dropV c.l t⟩ := by unfold dropA; rw [hN, if_pos rfl, hc1]
   repeat' (first | (refine no_implicit_lambda% (zH ?_)) | (((with_reducible refine no_implicit_lambda% (zA ?_)); refine no_implicit_lambda% (zD rfl rfl rfl (fun hc => ?_) (fun hc => ?_)) <;> first | exact zG hc | rw [hc])) | (((with_reducible refine no_implicit_lambda% (zB ?_)); refine no_implicit_lambda% (zE rfl (fun hc => ?_) (fun hc => ?_)) <;> first | exact zG hc | skip)) | (((with_reducible refine no_implicit_lambda% (zC ?_)); refine no_implicit_lambda% (zF rfl rfl (fun hc => ?_) (fun hc => ?_)) <;> first | exact zG hc | rw [hc])) | (refine no_implicit_lambda% (ans ?_)) | (with_reducible first | exact zI | exact zJ))
   (refine no_implicit_lambda% (cal [2] (hf) ?_ ?_))
   ·refine no_implicit_lambda% (ret1 ?_); first | (refine no_implicit_lambda% (akc ?_)) | (refine no_implicit_lambda% (aec ?_))
    repeat' (first | (refine no_implicit_lambda% (zH ?_)) | (((with_reducible refine no_implicit_lambda% (zA ?_)); refine no_implicit_lambda% (zD rfl rfl rfl (fun hc => ?_) (fun hc => ?_)) <;> first | exact zG hc | rw [hc])) | (((with_reducible refine no_implicit_lambda% (zB ?_)); refine no_implicit_lambda% (zE rfl (fun hc => ?_) (fun hc => ?_)) <;> first | exact zG hc | skip)) | (((with_reducible refine no_implicit_lambda% (zC ?_)); refine no_implicit_lambda% (zF rfl rfl (fun hc => ?_) (fun hc => ?_)) <;> first | exact zG hc | rw [hc])) | (refine no_implicit_lambda% (ans ?_)) | (with_reducible first | exact zI | exact zJ))
    refine c_loop2 (fun q k => qeSt t s o cp (npos o s) q k) (fun q k => k ≤ c.l.length ∧ q = dropV (c.l.take k) t) (fun _ k => c.l.length - k) [] 0 ⟨Nat.zero_le _, rfl⟩ ((Conv.tokSlot (j := 10) (sz := 4) (rows := []) rfl (by simp)).trans ?_) ?_
    ·(refine no_implicit_lambda% (Conv.toT ?_ ?_ (LE0 rfl))); (focus ((unfold qeSt); (try dsimp only); exact wkl)); (focus ((unfold qeSt); (try dsimp only); exact wkh))
    ·rintro q k ⟨k1, hqe⟩
     have hdl := dropV_len (c.l.take k) t
     have hql : q.length ≤ 2 := by rw [hqe]; rw [List.length_take] at hdl; omega
     refine c_turn (n' := 90) (fun _ h => h) (fun _ h => h) rfl ?_
     repeat' (first | (refine no_implicit_lambda% (zH ?_)) | (((with_reducible refine no_implicit_lambda% (zA ?_)); refine no_implicit_lambda% (zD rfl rfl rfl (fun hc => ?_) (fun hc => ?_)) <;> first | exact zG hc | rw [hc])) | (((with_reducible refine no_implicit_lambda% (zB ?_)); refine no_implicit_lambda% (zE rfl (fun hc => ?_) (fun hc => ?_)) <;> first | exact zG hc | skip)) | (((with_reducible refine no_implicit_lambda% (zC ?_)); refine no_implicit_lambda% (zF rfl rfl (fun hc => ?_) (fun hc => ?_)) <;> first | exact zG hc | rw [hc])) | (refine no_implicit_lambda% (ans ?_)) | (with_reducible first | exact zI | exact zJ))
     ((with_reducible refine no_implicit_lambda% (zC ?_)); first | (refine no_implicit_lambda% (a_qS rfl (fun _ h => h) ?_ ?_)) | (refine no_implicit_lambda% (a_qS rfl (qIx (fun _ h => h)) ?_ ?_)) | (refine no_implicit_lambda% (a_qS rfl (qAnd5 (fun _ h => h)) ?_ ?_)) | (refine no_implicit_lambda% (a_qS rfl (qStr (fun _ h => h)) ?_ ?_)) | (refine no_implicit_lambda% (a_qS rfl (qAnd4 (fun _ h => h)) ?_ ?_)) | (refine no_implicit_lambda% (a_qS rfl (qAnd2 (fun _ h => h)) ?_ ?_))); focus (first | omega | (simp; done) | (simp; omega))
     repeat' (first | (refine no_implicit_lambda% (sx1 ?_)) | (((with_reducible refine no_implicit_lambda% (zA ?_)); refine no_implicit_lambda% (zD rfl rfl rfl (fun hc => ?_) (fun hc => ?_)) <;> first | exact zG hc | rw [hc])) | (((with_reducible refine no_implicit_lambda% (zB ?_)); refine no_implicit_lambda% (zE rfl (fun hc => ?_) (fun hc => ?_)) <;> first | exact zG hc | skip)) | (((with_reducible refine no_implicit_lambda% (zC ?_)); refine no_implicit_lambda% (zF rfl rfl (fun hc => ?_) (fun hc => ?_)) <;> first | exact zG hc | rw [hc])) | fail)
     ((with_reducible refine no_implicit_lambda% (zC ?_)); refine no_implicit_lambda% (a_loadSeq (sz := 2) (rows := o.map corow) (i := (npos o s)) (j := 1) rfl rfl rfl rfl rfl (coOk o) ((by rw [List.getElem?_map, hc1]; rfl)) rfl (by first | rfl | (simp; done) | (simp; omega)) ?_))
     repeat' (first | (refine no_implicit_lambda% (sx1 ?_)) | (((with_reducible refine no_implicit_lambda% (zA ?_)); refine no_implicit_lambda% (zD rfl rfl rfl (fun hc => ?_) (fun hc => ?_)) <;> first | exact zG hc | rw [hc])) | (((with_reducible refine no_implicit_lambda% (zB ?_)); refine no_implicit_lambda% (zE rfl (fun hc => ?_) (fun hc => ?_)) <;> first | exact zG hc | skip)) | (((with_reducible refine no_implicit_lambda% (zC ?_)); refine no_implicit_lambda% (zF rfl rfl (fun hc => ?_) (fun hc => ?_)) <;> first | exact zG hc | rw [hc])) | fail)
     refine k_seq ?_
     have hlen : ((c.l.map verow).length : Int) = c.l.length := by rw [List.length_map]
     rcases hy : c.l[k]? with _ | y
     ·have hk : k = c.l.length := by have := List.getElem?_eq_none_iff.1 hy; omega
      rw [hk, List.take_length] at hqe
      rw [← hqe] at hq
      repeat' (first | (refine no_implicit_lambda% (sx1 ?_)) | (((with_reducible refine no_implicit_lambda% (zA ?_)); refine no_implicit_lambda% (zD rfl rfl rfl (fun hc => ?_) (fun hc => ?_)) <;> first | exact zG hc | rw [hc])) | (((with_reducible refine no_implicit_lambda% (zB ?_)); refine no_implicit_lambda% (zE rfl (fun hc => ?_) (fun hc => ?_)) <;> first | exact zG hc | skip)) | (((with_reducible refine no_implicit_lambda% (zC ?_)); refine no_implicit_lambda% (zF rfl rfl (fun hc => ?_) (fun hc => ?_)) <;> first | exact zG hc | rw [hc])) | fail)
      refine k_seq ?_
      repeat' (first | (refine no_implicit_lambda% (sx1 ?_)) | (((with_reducible refine no_implicit_lambda% (zA ?_)); refine no_implicit_lambda% (zD rfl rfl rfl (fun hc => ?_) (fun hc => ?_)) <;> first | exact zG hc | rw [hc])) | (((with_reducible refine no_implicit_lambda% (zB ?_)); refine no_implicit_lambda% (zE rfl (fun hc => ?_) (fun hc => ?_)) <;> first | exact zG hc | skip)) | (((with_reducible refine no_implicit_lambda% (zC ?_)); refine no_implicit_lambda% (zF rfl rfl (fun hc => ?_) (fun hc => ?_)) <;> first | exact zG hc | rw [hc])) | fail)
      rcases q with _ | ⟨q0, q⟩
      ·rw [if_pos rfl] at hq
       rw [hq]
       refine k_seq_to (qgSt s o) ((Conv.freezeBox (j := 0) (id := 2) (bid := 3) (sz := 2) (rows := o.map corow) (k := (cp - o.length) * 2) (m := o.length) (cp := cp) (cells := [.arr 2 0 o.length cp]) (permT (H := [(2, .seq (o.map corow) ((cp - o.length) * 2)), (3, .box [.arr 2 0 o.length cp])])) rfl (coOk o) (by simp)).trans ?_) ?_
       ·(refine no_implicit_lambda% (Conv.toT ?_ ?_ (LE0 rfl))); (focus ((unfold qgSt); (try dsimp only); exact wkl)); (focus ((unfold qgSt); (try dsimp only); exact wkh))
       ·have hdc := qdropcol_c o s (by omega) hz
        have hde : dcR o s = o.eraseIdx (npos o s) := by unfold dcR; rw [hfi.copy, hN, if_pos rfl]
        rw [hde] at hdc
        refine c_turn (n' := 100) (fun _ h => h) (fun _ h => h) rfl ?_
        repeat' (first | (refine no_implicit_lambda% (zH ?_)) | (((with_reducible refine no_implicit_lambda% (zA ?_)); refine no_implicit_lambda% (zD rfl rfl rfl (fun hc => ?_) (fun hc => ?_)) <;> first | exact zG hc | rw [hc])) | (((with_reducible refine no_implicit_lambda% (zB ?_)); refine no_implicit_lambda% (zE rfl (fun hc => ?_) (fun hc => ?_)) <;> first | exact zG hc | skip)) | (((with_reducible refine no_implicit_lambda% (zC ?_)); refine no_implicit_lambda% (zF rfl rfl (fun hc => ?_) (fun hc => ?_)) <;> first | exact zG hc | rw [hc])) | (refine no_implicit_lambda% (ans ?_)) | (with_reducible first | exact zI | exact zJ) | (refine no_implicit_lambda% (cal [] (hdc) ?_ ?_)) | fail)
        exact e_ret (H' := []) (rest := _) rfl ⟨rfl, rfl⟩ permT (LE0 rfl)
      ·rw [if_neg (by simp)] at hq
       rw [hq]
       generalize hqq : q0 :: q = q2 at *
       have hq0 : (((q2.map verow).length : Int) == 0) = false := by rw [← hqq]; simp; omega
       refine k_seq_to (qhSt o cp (npos o s) q2) ?_ ?_
       ·rw [hq0]
        (refine no_implicit_lambda% (Conv.toT ?_ ?_ (LE0 rfl))); (focus ((unfold qhSt); (try dsimp only); exact wkl)); (focus ((unfold qhSt); (try dsimp only); exact wkh))
       ·generalize hF : o.set (npos o s) ⟨c.n, q2⟩ = F at *
        have hFl : F.length = o.length := by rw [← hF]; exact List.length_set ..
        refine c_turn (n' := 100) (fun _ h => h) (fun _ h => h) rfl ?_
        repeat' (first | (refine no_implicit_lambda% (zH ?_)) | (((with_reducible refine no_implicit_lambda% (zA ?_)); refine no_implicit_lambda% (zD rfl rfl rfl (fun hc => ?_) (fun hc => ?_)) <;> first | exact zG hc | rw [hc])) | (((with_reducible refine no_implicit_lambda% (zB ?_)); refine no_implicit_lambda% (zE rfl (fun hc => ?_) (fun hc => ?_)) <;> first | exact zG hc | skip)) | (((with_reducible refine no_implicit_lambda% (zC ?_)); refine no_implicit_lambda% (zF rfl rfl (fun hc => ?_) (fun hc => ?_)) <;> first | exact zG hc | rw [hc])) | (refine no_implicit_lambda% (ans ?_)) | (with_reducible first | exact zI | exact zJ))
        ((with_reducible refine no_implicit_lambda% (zC ?_)); first | (refine no_implicit_lambda% (a_qS rfl (fun _ h => h) ?_ ?_)) | (refine no_implicit_lambda% (a_qS rfl (qIx (fun _ h => h)) ?_ ?_)) | (refine no_implicit_lambda% (a_qS rfl (qAnd5 (fun _ h => h)) ?_ ?_)) | (refine no_implicit_lambda% (a_qS rfl (qStr (fun _ h => h)) ?_ ?_)) | (refine no_implicit_lambda% (a_qS rfl (qAnd4 (fun _ h => h)) ?_ ?_)) | (refine no_implicit_lambda% (a_qS rfl (qAnd2 (fun _ h => h)) ?_ ?_))); focus (first | omega | (simp; done) | (simp; omega))
        repeat' (first | (refine no_implicit_lambda% (zH ?_)) | (((with_reducible refine no_implicit_lambda% (zA ?_)); refine no_implicit_lambda% (zD rfl rfl rfl (fun hc => ?_) (fun hc => ?_)) <;> first | exact zG hc | rw [hc])) | (((with_reducible refine no_implicit_lambda% (zB ?_)); refine no_implicit_lambda% (zE rfl (fun hc => ?_) (fun hc => ?_)) <;> first | exact zG hc | skip)) | (((with_reducible refine no_implicit_lambda% (zC ?_)); refine no_implicit_lambda% (zF rfl rfl (fun hc => ?_) (fun hc => ?_)) <;> first | exact zG hc | rw [hc])) | (refine no_implicit_lambda% (ans ?_)) | (with_reducible first | exact zI | exact zJ))
        ((with_reducible refine no_implicit_lambda% (zC ?_)); refine no_implicit_lambda% (a_storeSeq (sz := 2) (rows := o.map corow) (i := (npos o s)) (j := 1) (row' := [.v (.string c.n), .list (q2.map verow) .free]) rfl rfl rfl (fun _ h => h) rfl rfl (coOk o) ((by rw [List.getElem?_map, hc1]; rfl)) (by first | decide | (simp; done)) (by first | rfl | (simp; done)) (by first | rfl | (simp; done) | (simp; omega)) ?_))
        rw [show (o.map corow).set (npos o s) [.v (.string c.n), .list (q2.map verow) .free] = F.map corow by rw [← hF, List.map_set]; rfl]
        repeat' (first | (refine no_implicit_lambda% (zH ?_)) | (((with_reducible refine no_implicit_lambda% (zA ?_)); refine no_implicit_lambda% (zD rfl rfl rfl (fun hc => ?_) (fun hc => ?_)) <;> first | exact zG hc | rw [hc])) | (((with_reducible refine no_implicit_lambda% (zB ?_)); refine no_implicit_lambda% (zE rfl (fun hc => ?_) (fun hc => ?_)) <;> first | exact zG hc | skip)) | (((with_reducible refine no_implicit_lambda% (zC ?_)); refine no_implicit_lambda% (zF rfl rfl (fun hc => ?_) (fun hc => ?_)) <;> first | exact zG hc | rw [hc])) | (refine no_implicit_lambda% (ans ?_)) | (with_reducible first | exact zI | exact zJ))
        exact e_ret_to (H' := []) (rest := _) (Conv.freezeBox (j := 0) (id := 2) (bid := 1) (sz := 2) (rows := F.map corow) (k := (cp - o.length) * 2) (m := o.length) (cp := cp) (cells := [.arr 2 0 o.length cp]) (permT (H := [(2, .seq (F.map corow) ((cp - o.length) * 2)), (1, .box [.arr 2 0 o.length cp])])) rfl (coOk F) (by rw [List.length_map, hFl])) rfl ⟨rfl, rfl⟩ (.of_eq (by simp; rfl)) (LE0 rfl)
     ·have hk : k < c.l.length := (List.getElem?_eq_some_iff.1 hy).1
      have hix := vex hy
      have hdt := dropV_take (t := t) hy
      repeat' (first | (refine no_implicit_lambda% (zH ?_)) | (((with_reducible refine no_implicit_lambda% (zA ?_)); refine no_implicit_lambda% (zD rfl rfl rfl (fun hc => ?_) (fun hc => ?_)) <;> first | exact zG hc | rw [hc])) | (((with_reducible refine no_implicit_lambda% (zB ?_)); refine no_implicit_lambda% (zE rfl (fun hc => ?_) (fun hc => ?_)) <;> first | exact zG hc | skip)) | (((with_reducible refine no_implicit_lambda% (zC ?_)); refine no_implicit_lambda% (zF rfl rfl (fun hc => ?_) (fun hc => ?_)) <;> first | exact zG hc | rw [hc])) | (refine no_implicit_lambda% (ans ?_)) | (with_reducible first | exact zI | exact zJ))
      ((with_reducible refine no_implicit_lambda% (zC ?_)); first | (refine no_implicit_lambda% (a_qS rfl (fun _ h => h) ?_ ?_)) | (refine no_implicit_lambda% (a_qS rfl (qIx (fun _ h => h)) ?_ ?_)) | (refine no_implicit_lambda% (a_qS rfl (qAnd5 (fun _ h => h)) ?_ ?_)) | (refine no_implicit_lambda% (a_qS rfl (qStr (fun _ h => h)) ?_ ?_)) | (refine no_implicit_lambda% (a_qS rfl (qAnd4 (fun _ h => h)) ?_ ?_)) | (refine no_implicit_lambda% (a_qS rfl (qAnd2 (fun _ h => h)) ?_ ?_))); focus (first | omega | (simp; done) | (simp; omega))
      repeat' (first | (refine no_implicit_lambda% (sx1 ?_)) | (((with_reducible refine no_implicit_lambda% (zA ?_)); refine no_implicit_lambda% (zD rfl rfl rfl (fun hc => ?_) (fun hc => ?_)) <;> first | exact zG hc | rw [hc])) | (((with_reducible refine no_implicit_lambda% (zB ?_)); refine no_implicit_lambda% (zE rfl (fun hc => ?_) (fun hc => ?_)) <;> first | exact zG hc | skip)) | (((with_reducible refine no_implicit_lambda% (zC ?_)); refine no_implicit_lambda% (zF rfl rfl (fun hc => ?_) (fun hc => ?_)) <;> first | exact zG hc | rw [hc])) | fail)
      ((with_reducible refine no_implicit_lambda% (zC ?_)); refine no_implicit_lambda% (a_loadSeq (sz := 2) (rows := o.map corow) (i := (npos o s)) (j := 1) rfl rfl rfl rfl rfl (coOk o) ((by rw [List.getElem?_map, hc1]; rfl)) rfl (by first | rfl | (simp; done) | (simp; omega)) ?_))
      repeat' (first | (refine no_implicit_lambda% (zH ?_)) | (((with_reducible refine no_implicit_lambda% (zA ?_)); refine no_implicit_lambda% (zD rfl rfl rfl (fun hc => ?_) (fun hc => ?_)) <;> first | exact zG hc | rw [hc])) | (((with_reducible refine no_implicit_lambda% (zB ?_)); refine no_implicit_lambda% (zE rfl (fun hc => ?_) (fun hc => ?_)) <;> first | exact zG hc | skip)) | (((with_reducible refine no_implicit_lambda% (zC ?_)); refine no_implicit_lambda% (zF rfl rfl (fun hc => ?_) (fun hc => ?_)) <;> first | exact zG hc | rw [hc])) | (refine no_implicit_lambda% (ans ?_)) | (with_reducible first | exact zI | exact zJ))
      ·have hne : y.t ≠ t := by simpa using hc
       ((with_reducible refine no_implicit_lambda% (zC ?_)); first | (refine no_implicit_lambda% (a_qS rfl (fun _ h => h) ?_ ?_)) | (refine no_implicit_lambda% (a_qS rfl (qIx (fun _ h => h)) ?_ ?_)) | (refine no_implicit_lambda% (a_qS rfl (qAnd5 (fun _ h => h)) ?_ ?_)) | (refine no_implicit_lambda% (a_qS rfl (qStr (fun _ h => h)) ?_ ?_)) | (refine no_implicit_lambda% (a_qS rfl (qAnd4 (fun _ h => h)) ?_ ?_)) | (refine no_implicit_lambda% (a_qS rfl (qAnd2 (fun _ h => h)) ?_ ?_))); focus (first | omega | (simp; done) | (simp; omega))
       repeat' (first | (refine no_implicit_lambda% (zH ?_)) | (((with_reducible refine no_implicit_lambda% (zA ?_)); refine no_implicit_lambda% (zD rfl rfl rfl (fun hc => ?_) (fun hc => ?_)) <;> first | exact zG hc | rw [hc])) | (((with_reducible refine no_implicit_lambda% (zB ?_)); refine no_implicit_lambda% (zE rfl (fun hc => ?_) (fun hc => ?_)) <;> first | exact zG hc | skip)) | (((with_reducible refine no_implicit_lambda% (zC ?_)); refine no_implicit_lambda% (zF rfl rfl (fun hc => ?_) (fun hc => ?_)) <;> first | exact zG hc | rw [hc])) | (refine no_implicit_lambda% (ans ?_)) | (with_reducible first | exact zI | exact zJ))
       ((with_reducible refine no_implicit_lambda% (zC ?_)); refine no_implicit_lambda% (a_loadSeq (sz := 2) (rows := o.map corow) (i := (npos o s)) (j := 1) rfl rfl rfl rfl rfl (coOk o) ((by rw [List.getElem?_map, hc1]; rfl)) rfl (by first | rfl | (simp; done) | (simp; omega)) ?_))
       repeat' (first | (refine no_implicit_lambda% (zH ?_)) | (((with_reducible refine no_implicit_lambda% (zA ?_)); refine no_implicit_lambda% (zD rfl rfl rfl (fun hc => ?_) (fun hc => ?_)) <;> first | exact zG hc | rw [hc])) | (((with_reducible refine no_implicit_lambda% (zB ?_)); refine no_implicit_lambda% (zE rfl (fun hc => ?_) (fun hc => ?_)) <;> first | exact zG hc | skip)) | (((with_reducible refine no_implicit_lambda% (zC ?_)); refine no_implicit_lambda% (zF rfl rfl (fun hc => ?_) (fun hc => ?_)) <;> first | exact zG hc | rw [hc])) | (refine no_implicit_lambda% (ans ?_)) | (with_reducible first | exact zI | exact zJ))
       (refine no_implicit_lambda% (k_loopLT (((q ++ [y], k + 1) : List Ve × Nat)) 0 (List.range 90) (by show k + 1 ≤ c.l.length ∧ q ++ [y] = dropV (c.l.take (k + 1)) t; exact ⟨hk, by rw [hdt, if_neg hne, hqe]⟩) (by first | omega | (simp; done) | (simp; omega)) (LE0 rfl) (fun _ h => h) (fun _ h => h) ?_ ?_)); (focus ((try dsimp only); exact wkl)); (focus ((try dsimp only); exact wkh))
      ·have hne : y.t = t := by simpa using hc
       (refine no_implicit_lambda% (k_loopLT (((q, k + 1) : List Ve × Nat)) 0 (List.range 90) (by show k + 1 ≤ c.l.length ∧ q = dropV (c.l.take (k + 1)) t; exact ⟨hk, by rw [hdt, if_pos hne, hqe]; simp⟩) (by first | omega | (simp; done) | (simp; omega)) (LE0 rfl) (fun _ h => h) (fun _ h => h) ?_ ?_)); (focus ((try dsimp only); exact wkl)); (focus ((try dsimp only); exact wkh))
   ·first | (exact zI) | (exact zJ)
 ·intro xx H' hh
  obtain ⟨_, _, _, h', _⟩ := hh
  cases h'
end Go.Proofs.YtjepgbpcpcahgaaGreat
namespace Go.Proofs.YtjepgbpcpcahgaaGreat
open Go.Am
set_option maxRecDepth 100000
theorem pick_c (l : List ByteArray) (n : Int) (hl : 0 < l.length ∧ l.length < 1000) (h1 : -9223372036854775808 ≤ n) (h2 : n ≤ 9223372036854775807) : ACalls Tryz.prog 80 0 0 [.list (l.map fun s => [.v (.string s)]) .free, .v (.int .i64 n)] [] (fun out H' => ∃ t ∈ l, out = .ret (.v (.string t)) ∧ H' = []) := by
 have hw := wthn_c n 0 1048576 h1 h2 (by decide) (by decide) (by decide) (by decide)
 refine no_implicit_lambda% (acalls_of tok dok (f := 80) ⟨Tryz.func80, rfl, by kernel_rfl⟩ ?_); refine no_implicit_lambda% (c_start (fun _ h => h) ?_)
 have hb := wthn_bd n 0 1048576 (by decide)
 generalize wthn n 0 1048576 = w at *
 repeat' (first | (refine no_implicit_lambda% (zH ?_)) | (((with_reducible refine no_implicit_lambda% (zA ?_)); refine no_implicit_lambda% (zD rfl rfl rfl (fun hc => ?_) (fun hc => ?_)) <;> first | exact zG hc | rw [hc])) | (((with_reducible refine no_implicit_lambda% (zB ?_)); refine no_implicit_lambda% (zE rfl (fun hc => ?_) (fun hc => ?_)) <;> first | exact zG hc | skip)) | (((with_reducible refine no_implicit_lambda% (zC ?_)); refine no_implicit_lambda% (zF rfl rfl (fun hc => ?_) (fun hc => ?_)) <;> first | exact zG hc | rw [hc])) | (refine no_implicit_lambda% (ans ?_)) | (with_reducible first | exact zI | exact zJ) | (refine no_implicit_lambda% (cal [] (hw) ?_ ?_)) | fail)
 (with_reducible refine no_implicit_lambda% (zC ?_)); first | (refine no_implicit_lambda% (a_qS rfl (fun _ h => h) ?_ ?_)) | (refine no_implicit_lambda% (a_qS rfl (qIx (fun _ h => h)) ?_ ?_)) | (refine no_implicit_lambda% (a_qS rfl (qAnd5 (fun _ h => h)) ?_ ?_)) | (refine no_implicit_lambda% (a_qS rfl (qStr (fun _ h => h)) ?_ ?_)) | (refine no_implicit_lambda% (a_qS rfl (qAnd4 (fun _ h => h)) ?_ ?_)) | (refine no_implicit_lambda% (a_qS rfl (qAnd2 (fun _ h => h)) ?_ ?_))
 ·rw [List.length_map]; omega
 have hj : 0 ≤ w.tmod ((l.map fun s => [AV.v (.string s)]).length : Int) ∧ w.tmod ((l.map fun s => [AV.v (.string s)]).length : Int) < l.length := by
  rw [List.length_map]
  exact ⟨Int.tmod_nonneg _ hb.1, Int.tmod_lt_of_pos _ (by omega)⟩
 generalize w.tmod ((l.map fun s => [AV.v (.string s)]).length : Int) = j at *
 obtain ⟨t, ht⟩ : ∃ t, l[j.toNat]? = some t := ⟨_, List.getElem?_eq_getElem (by omega)⟩
 have hix : 0 ≤ j ∧ (l.map fun s => [AV.v (.string s)])[j.toNat]? = some [.v (.string t)] ∧ ([AV.v (.string t)] : List AV).length = 1 := ⟨hj.1, by rw [List.getElem?_map, ht]; rfl, rfl⟩
 repeat' (first | (refine no_implicit_lambda% (zH ?_)) | (((with_reducible refine no_implicit_lambda% (zA ?_)); refine no_implicit_lambda% (zD rfl rfl rfl (fun hc => ?_) (fun hc => ?_)) <;> first | exact zG hc | rw [hc])) | (((with_reducible refine no_implicit_lambda% (zB ?_)); refine no_implicit_lambda% (zE rfl (fun hc => ?_) (fun hc => ?_)) <;> first | exact zG hc | skip)) | (((with_reducible refine no_implicit_lambda% (zC ?_)); refine no_implicit_lambda% (zF rfl rfl (fun hc => ?_) (fun hc => ?_)) <;> first | exact zG hc | rw [hc])) | (refine no_implicit_lambda% (ans ?_)) | (with_reducible first | exact zI | exact zJ))
 exact e_ret (H' := []) (rest := _) rfl ⟨t, List.mem_of_getElem? ht, rfl, rfl⟩ (.refl _) (LE0 rfl)
def bsS (l : List UInt8) : ByteArray := ⟨l.toArray⟩
def colL : List ByteArray := [bsS [120], bsS [121], bsS [119], bsS [118], bsS [108, 111, 110, 103, 46, 110, 97, 109, 101, 46, 49, 54, 46, 98, 121, 116]]
theorem keepcol_c (n : Int) (h1 : -9223372036854775808 ≤ n) (h2 : n ≤ 9223372036854775807) : ACalls Tryz.prog 30 0 5 [.v (.int .i64 n)] [] (fun out H' => ∃ t ∈ colL, out = .ret (.v (.string t)) ∧ H' = []) := by
 have hp := pick_c colL n (by decide) h1 h2
 refine no_implicit_lambda% (acalls_of tok dok (f := 30) ⟨Tryz.func30, rfl, by kernel_rfl⟩ ?_); refine no_implicit_lambda% (c_start (fun _ h => h) ?_)
 repeat' (first | (refine no_implicit_lambda% (zH ?_)) | (((with_reducible refine no_implicit_lambda% (zA ?_)); refine no_implicit_lambda% (zD rfl rfl rfl (fun hc => ?_) (fun hc => ?_)) <;> first | exact zG hc | rw [hc])) | (((with_reducible refine no_implicit_lambda% (zB ?_)); refine no_implicit_lambda% (zE rfl (fun hc => ?_) (fun hc => ?_)) <;> first | exact zG hc | skip)) | (((with_reducible refine no_implicit_lambda% (zC ?_)); refine no_implicit_lambda% (zF rfl rfl (fun hc => ?_) (fun hc => ?_)) <;> first | exact zG hc | rw [hc])) | (refine no_implicit_lambda% (ans ?_)) | (with_reducible first | exact zI | exact zJ))
 (refine no_implicit_lambda% (calw [] (hp) ?_ ?_))
 ·intro xx H' hh
  obtain ⟨t, ht, h', rfl⟩ := hh
  cases h'
  first | (refine no_implicit_lambda% (akc ?_)) | (refine no_implicit_lambda% (aec ?_))
  repeat' (first | (refine no_implicit_lambda% (zH ?_)) | (((with_reducible refine no_implicit_lambda% (zA ?_)); refine no_implicit_lambda% (zD rfl rfl rfl (fun hc => ?_) (fun hc => ?_)) <;> first | exact zG hc | rw [hc])) | (((with_reducible refine no_implicit_lambda% (zB ?_)); refine no_implicit_lambda% (zE rfl (fun hc => ?_) (fun hc => ?_)) <;> first | exact zG hc | skip)) | (((with_reducible refine no_implicit_lambda% (zC ?_)); refine no_implicit_lambda% (zF rfl rfl (fun hc => ?_) (fun hc => ?_)) <;> first | exact zG hc | rw [hc])) | (refine no_implicit_lambda% (ans ?_)) | (with_reducible first | exact zI | exact zJ))
  exact e_ret (H' := []) (rest := _) rfl ⟨t, ht, rfl, rfl⟩ permT (LE0 rfl)
 ·intro xx H' hh
  obtain ⟨_, _, h', _⟩ := hh
  cases h'
structure Rk where
 k : Int
 c : Int
 nm : ByteArray
 t : Int
 tx : Bool
 n : Int
 x : Nat
 b : List UInt8
structure RkOk (a : Rk) : Prop where
 c : -9223372036854775808 ≤ a.c ∧ a.c ≤ 9223372036854775807
 t : -9223372036854775808 ≤ a.t ∧ a.t ≤ 9223372036854775807
 n : -9223372036854775808 ≤ a.n ∧ a.n ≤ 9223372036854775807
 x : a.x < 18446744073709551616
end Go.Proofs.YtjepgbpcpcahgaaGreat
namespace Go.Proofs.YtjepgbpcpcahgaaGreat
open Go.Am
set_option maxRecDepth 100000
end Go.Proofs.YtjepgbpcpcahgaaGreat
namespace Go.Proofs.YtjepgbpcpcahgaaGreat
open Go.Am
set_option maxRecDepth 100000
theorem putR_err {r : List Co} {s : ByteArray} {t : Int} {v : Va} (h : (putR r s t v).1 ≠ 0) : (putR r s t v).2 = [] := by
 unfold putR at *
 split at h
 ·split at h
  ·rename_i h1 h2
   rw [if_pos h1, if_pos h2]
  ·exact absurd rfl h
 ·rename_i h1
  rw [if_neg h1]
theorem cmpS_self (s : ByteArray) : cmpS s s = 0 := by
 have h := eq_cb s.toList s.toList
 rw [beq_self_eq_true] at h
 unfold cmpS
 exact of_decide_eq_true h.symm
theorem sLt_self (s : ByteArray) : sLt s s = false := by
 rw [sLt_eq, cmpS_self]
 rfl
theorem put_new {s : ByteArray} {t : Int} {v : Va} (hn : nmB s = true) (ht : tmOk t = true) (hv : vRt v = true) : putR [] s t v = (0, [⟨s, [⟨t, canV v⟩]⟩]) := by
 unfold putR
 rw [hn, ht, hv, if_pos (by rfl)]
 rfl
end Go.Proofs.YtjepgbpcpcahgaaGreat
namespace Go.Am
open Go.RowKit Go.ChangeShapes Go.WideShapes
def cellsX (w : World) : Nat → Nat → Option Value := fun b i => w.cell? ⟨b, i, none⟩
def RowSim (X : Nat → Nat → Option Value) (row : List AV) (cs : List Value) : Prop :=
 row.length = cs.length ∧ ∀ (j : Nat) a y, row[j]? = some a → cs[j]? = some y → SimD X a y ∧ y.oneCell' = true
section
variable {H : Type} (enc : TypeId × Value → H) (P : Program) (w : World) (base : Nat) (sp : Nat → Bool) (held : Bool)
def Opn (t : TypeId) (R : List AV → Prop) : Prop := ∀ fuel cs x, DataW.trod enc P w base sp held fuel t cs = some x → ∃ row, RowSim (cellsX w) row cs ∧ R row
end
section
variable {H : Type} {enc : TypeId × Value → H} {P : Program} {w : World} {base : Nat} {sp : Nat → Bool} {held : Bool}
theorem RowSim.one {X : Nat → Nat → Option Value} {a : AV} {y : Value} (h : SimD X a y) (h1 : y.oneCell' = true) : RowSim X [a] [y] :=
 ⟨rfl, fun j b z hb hz => by
  cases j with
  | zero => simp at hb hz; subst hb; subst hz; exact ⟨h, h1⟩
  | succ j => simp at hb⟩
theorem RowSim.app {X : Nat → Nat → Option Value} {r s : List AV} {c d : List Value} (h : RowSim X r c) (k : RowSim X s d) : RowSim X (r ++ s) (c ++ d) :=
 ⟨by simp [h.1, k.1], fun j a y ha hy => by
  rw [List.getElem?_append] at ha hy
  rw [h.1] at ha
  split at ha
  ·rw [if_pos (by assumption)] at hy; exact h.2 j a y ha hy
  ·rw [if_neg (by assumption)] at hy; exact k.2 _ a y ha hy⟩
theorem opn_int {t : TypeId} {k : IntKind} (ht : P.underlying t = some (.int k)) : Opn enc P w base sp held t fun row => ∃ n, row = [.v (.int k n)] ∧ k.min ≤ n ∧ n ≤ k.max := fun fuel cs x h => by
 obtain ⟨n, rfl, _, hw⟩ := DataW.trod_int ht h
 simp only [Lit.wf, Bool.and_eq_true, decide_eq_true_eq] at hw
 exact ⟨_, .one (.v _) rfl, n, rfl, hw⟩
theorem opn_bool {t : TypeId} (ht : P.underlying t = some .bool) : Opn enc P w base sp held t fun row => ∃ b, row = [.v (.bool b)] := fun fuel cs x h => by
 obtain ⟨b, rfl, _⟩ := DataW.trod_bool ht h
 exact ⟨_, .one (.v _) rfl, b, rfl⟩
theorem opn_string {t : TypeId} (ht : P.underlying t = some .string) : Opn enc P w base sp held t fun row => ∃ s : ByteArray, row = [.v (.string s)] ∧ s.size ≤ maxLen := fun fuel cs x h => by
 obtain ⟨s, rfl, _, hs⟩ := DataW.trod_string ht h
 exact ⟨_, .one (.v _) rfl, s, rfl, hs⟩
theorem opn_float {t : TypeId} (ht : P.underlying t = some (.float .f64)) : Opn enc P w base sp held t fun row => ∃ b, row = [.v (.float .f64 b)] ∧ b < 18446744073709551616 := fun fuel cs x h => by
 cases fuel with
 | zero => simp [DataW.trod] at h
 | succ n =>
  unfold DataW.trod at h
  rw [ht] at h
  match cs, h with
  | [.float k' b], h =>
   simp only at h
   split at h
   ·rename_i hw
    obtain ⟨rfl, hw⟩ := hw
    simp only [Lit.wf, decide_eq_true_eq] at hw
    exact ⟨_, .one (.v _) rfl, b, rfl, hw⟩
   ·cases h
theorem cells_get {a : Addr} {n : Nat} {cs : List Value} (h : w.cells? base a n = some cs) : cs.length = n ∧ ∀ j, j < n → w.cell? (a.add j) = cs[j]? := by
 unfold World.cells? at h
 split at h
 ·have h1 := mapM_some_length h
  refine ⟨by simpa using h1, fun j hj => ?_⟩
  have h2 := mapM_some_get h j j (by simp [hj])
  exact h2
 ·cases h
theorem cell_spot {a : Addr} {v : Value} (h : w.cell? a = some v) : a.spot = none := by
 unfold World.cell? at h
 split at h
 ·split at h
  ·cases h
  ·rename_i h1; simpa using h1
 ·cases h
theorem add_at {a : Addr} (h : a.spot = none) (n : Nat) : a.add n = ⟨a.block, a.off + n, none⟩ := by
 obtain ⟨b, o, s⟩ := a
 simp only at h
 subst h
 unfold Addr.add
 split
 ·rename_i h0; subst h0; rfl
 ·rfl
theorem opn_slice {t e : TypeId} {s : Nat} {R : List AV → Prop} (ht : P.underlying t = some (.slice e)) (hs : P.cellsOf e = s) (h0 : 0 < s) (he : Opn enc P w base sp held e R) :
  Opn enc P w base sp held t fun row => ∃ rows, row = [.list rows .free] ∧ rows.length ≤ maxLen ∧ ∀ r ∈ rows, R r ∧ r.length = s := fun fuel cs x h => by
 rcases DataW.trod_slice ht h with ⟨rfl, _⟩ | ⟨a, len, cap, elems, rest, n, _, rfl, _, hb, hl, hm, hlen, hel, _, _⟩
 ·exact ⟨_, .one (.nil .free none 0 (Nat.zero_le _) (fun h => by cases h) (.inl rfl)) rfl, [], rfl, Nat.zero_le _, fun r hr => (List.not_mem_nil hr).elim⟩
 subst hs
 have each : ∀ i, i < len → ∃ row cs', RowSim (cellsX w) row cs' ∧ R row ∧ cs'.length = P.cellsOf e ∧ ∀ j, j < P.cellsOf e → w.cell? ((a.add (i * P.cellsOf e)).add j) = cs'[j]? := fun i hi => by
  have h1 := hel i hi
  have hi' : i < elems.length := by omega
  rw [List.getElem?_eq_getElem hi', Option.bind_eq_some_iff] at h1
  obtain ⟨cs', hcs, hy⟩ := h1
  obtain ⟨row, k1, k2⟩ := he _ _ _ hy
  obtain ⟨k3, k4⟩ := cells_get hcs
  exact ⟨row, cs', k1, k2, k3, k4⟩
 rcases Nat.eq_zero_or_pos len with rfl | hpos
 ·exact ⟨_, .one (.nil .free (some a) cap hm (fun h => by cases h) (.inl rfl)) rfl, [], rfl, Nat.zero_le _, fun r hr => (List.not_mem_nil hr).elim⟩
 have hspot : a.spot = none := by
  obtain ⟨row, cs', k1, k2, k3, k4⟩ := each 0 hpos
  have h2 := k4 0 h0
  have : cs'[0]? = some cs'[0] := List.getElem?_eq_getElem (by omega)
  rw [this] at h2
  have e : ((a.add (0 * P.cellsOf e)).add 0) = a := by simp [Addr.add]
  rw [e] at h2
  exact cell_spot h2
 -- the rows
 have hex : ∀ m, m ≤ len → ∃ rows : List (List AV), rows.length = m ∧ (∀ r ∈ rows, R r ∧ r.length = P.cellsOf e) ∧ ∀ i row, rows[i]? = some row → ∃ cs', RowSim (cellsX w) row cs' ∧ cs'.length = P.cellsOf e ∧ ∀ j, j < P.cellsOf e → w.cell? ((a.add (i * P.cellsOf e)).add j) = cs'[j]? := by
  intro m
  induction m with
  | zero => intro _; exact ⟨[], rfl, fun r hr => (List.not_mem_nil hr).elim, fun i row h => by simp at h⟩
  | succ m ih =>
   intro hm'
   obtain ⟨rows, r1, r2, r3⟩ := ih (by omega)
   obtain ⟨row, cs', k1, k2, k3, k4⟩ := each m (by omega)
   refine ⟨rows ++ [row], by simp [r1], fun r hr => ?_, fun i row' h => ?_⟩
   ·rcases List.mem_append.1 hr with hr | hr
    ·exact r2 r hr
    ·obtain rfl := List.mem_singleton.1 hr
     exact ⟨k2, by rw [k1.1, k3]⟩
   ·rw [List.getElem?_append] at h
    split at h
    ·exact r3 i row' h
    ·rename_i hge
     have hi : i = m := by
      have := (List.getElem?_eq_some_iff.1 h).1
      simp at this; omega
     subst hi
     rw [r1, Nat.sub_self] at h
     simp at h
     subst h
     exact ⟨cs', k1, k3, k4⟩
 obtain ⟨rows, r1, r2, r3⟩ := hex len (Nat.le_refl _)
 obtain ⟨b, off, sp'⟩ := a
 simp only at hspot
 subst hspot
 refine ⟨_, .one (?_ : SimD (cellsX w) (.list rows .free) _) rfl, rows, rfl, by rw [r1]; exact Nat.le_trans hl hm, r2⟩
 have key : ∀ i row j av, rows[i]? = some row → row[j]? = some av → ∃ y, cellsX w b (off + i * P.cellsOf e + j) = some y ∧ SimD (cellsX w) av y ∧ y.oneCell' = true := fun i row j av h1 h2 => by
  obtain ⟨cs', k1, k3, k4⟩ := r3 i row h1
  have hj : j < P.cellsOf e := by
   have := (List.getElem?_eq_some_iff.1 h2).1
   rw [k1.1, k3] at this; exact this
  have hj' : j < cs'.length := by omega
  have h4 := k4 j hj
  rw [List.getElem?_eq_getElem hj'] at h4
  obtain ⟨m1, m2⟩ := k1.2 j av cs'[j] h2 (List.getElem?_eq_getElem hj')
  refine ⟨cs'[j], ?_, m1, m2⟩
  rw [add_at (a := ⟨b, off, none⟩) rfl, add_at rfl] at h4
  exact h4
 have := SimD.list (X := cellsX w) rows .free b off cap (P.cellsOf e) (fun i j => (cellsX w b (off + i * P.cellsOf e + j)).getD undef) (by omega) hm (fun h => by cases h) (.inl rfl) (fun r hr => (r2 r hr).2)
  (fun i row j av h1 h2 => by obtain ⟨y, e1, _⟩ := key i row j av h1 h2; rw [e1]; rfl) (fun i row j av h1 h2 => by obtain ⟨y, e1, e2, _⟩ := key i row j av h1 h2; rw [e1]; exact e2) (fun i row j av h1 h2 => by obtain ⟨y, e1, _, e3⟩ := key i row j av h1 h2; rw [e1]; exact e3)
 rw [r1] at this
 exact this
theorem Opn.mono {t : TypeId} {R R' : List AV → Prop} (h : Opn enc P w base sp held t R) (hr : ∀ row, R row → R' row) : Opn enc P w base sp held t R' := fun fuel cs x hx => let ⟨row, h1, h2⟩ := h fuel cs x hx; ⟨row, h1, hr row h2⟩
def AllR : List (List AV → Prop) → List AV → Prop
 | [], row => row = []
 | R :: Rs, row => ∃ r r', row = r ++ r' ∧ R r ∧ AllR Rs r'
def OpnAll (enc : TypeId × Value → H) (P : Program) (w : World) (base : Nat) (sp : Nat → Bool) (held : Bool) : Nat → List Field → List (List AV → Prop) → Nat → Prop
 | off, [], [], total => off = total
 | off, f :: fs, R :: Rs, total => f.offset = off ∧ Opn enc P w base sp held f.type R ∧ OpnAll enc P w base sp held (off + P.cellsOf f.type) fs Rs total
 | _, _, _, _ => False
theorem opn_fields : ∀ (fs : List Field) (Rs : List (List AV → Prop)) (off total n : Nat) (cs : List Value) (xs : List (DataW H × List MemPlace)), OpnAll enc P w base sp held off fs Rs total → cs.length = total →
  (∀ (i : Nat) (f : Field), fs[i]? = some f → ∃ x, DataW.trod enc P w base sp held n f.type ((cs.drop f.offset).take (P.cellsOf f.type)) = some x) → off ≤ total → ∃ row, RowSim (cellsX w) row (cs.drop off) ∧ AllR Rs row
 | [], [], off, total, n, cs, xs, h, hl, hx, ho => by
  have : off = total := h
  subst this
  refine ⟨[], ⟨by simp [hl], fun j a y h => by simp at h⟩, rfl⟩
 | f :: fs, R :: Rs, off, total, n, cs, xs, h, hl, hx, ho => by
  obtain ⟨rfl, h1, h2⟩ := h
  obtain ⟨x, hx0⟩ := hx 0 f rfl
  obtain ⟨r, k1, k2⟩ := h1 _ _ _ hx0
  have hle : f.offset + P.cellsOf f.type ≤ total := by
   have : ∀ (fs : List Field) (Rs : List (List AV → Prop)) (off total : Nat), OpnAll enc P w base sp held off fs Rs total → off ≤ total := by
    intro fs
    induction fs with
    | nil => intro Rs off total h; cases Rs with
     | nil => exact Nat.le_of_eq h
     | cons _ _ => exact h.elim
    | cons g gs ih => intro Rs off total h; cases Rs with
     | nil => exact h.elim
     | cons R Rs => exact Nat.le_trans (Nat.le_add_right _ _) (ih _ _ _ h.2.2)
   exact this _ _ _ _ h2
  obtain ⟨r', m1, m2⟩ := opn_fields fs Rs _ total n cs xs h2 hl (fun i g hg => hx (i + 1) g (by simpa using hg)) hle
  refine ⟨r ++ r', ?_, r, r', rfl, k2, m2⟩
  have e : cs.drop f.offset = (cs.drop f.offset).take (P.cellsOf f.type) ++ cs.drop (f.offset + P.cellsOf f.type) := by
   rw [← List.drop_drop, List.take_append_drop]
  rw [e]
  exact k1.app m1
 | [], _ :: _, _, _, _, _, _, h, _, _, _ => h.elim
 | _ :: _, [], _, _, _, _, _, h, _, _, _ => h.elim
theorem opn_struct {t : TypeId} {fs : Array Field} {Rs : List (List AV → Prop)} (ht : P.underlying t = some (.struct fs)) (h : OpnAll enc P w base sp held 0 fs.toList Rs (P.cellsOf t)) : Opn enc P w base sp held t (AllR Rs) := fun fuel cs x hx => by
 obtain ⟨xs, n, _, _, h1, h2, h3⟩ := DataW.trod_struct ht hx
 exact opn_fields fs.toList Rs 0 (P.cellsOf t) n cs xs h h1 (fun i f hf => by
  rw [Array.getElem?_toList] at hf
  have := h3 i f hf
  have hi : i < xs.length := by rw [h2]; exact (Array.getElem?_eq_some_iff.1 hf).1
  rw [List.getElem?_eq_getElem hi] at this
  exact ⟨_, this⟩) (Nat.zero_le _)
theorem listOf {α : Type} {f : α → List AV} {Q : α → Prop} : ∀ {rows : List (List AV)}, (∀ r ∈ rows, ∃ a, Q a ∧ r = f a) → ∃ l : List α, (∀ a ∈ l, Q a) ∧ rows = l.map f
 | [], _ => ⟨[], fun a ha => (List.not_mem_nil ha).elim, rfl⟩
 | r :: rows, h => by
  obtain ⟨a, ha, rfl⟩ := h r (by simp)
  obtain ⟨l, hl, rfl⟩ := listOf (rows := rows) fun r hr => h r (List.mem_cons_of_mem _ hr)
  exact ⟨a :: l, fun b hb => by rcases List.mem_cons.1 hb with rfl | hb; exact ha; exact hl b hb, rfl⟩
theorem opn_bytes {t e : TypeId} (ht : P.underlying t = some (.slice e)) (he : P.underlying e = some (.int .u8)) (hc : P.cellsOf e = 1) : Opn enc P w base sp held t fun row => ∃ l : List UInt8, row = [.list (l.map brow) .free] ∧ l.length ≤ maxLen :=
 (opn_slice ht hc (by decide) (opn_int he)).mono fun row ⟨rows, h1, h2, h3⟩ => by
  obtain ⟨l, _, rfl⟩ := listOf (f := brow) (Q := fun _ => True) fun r hr => by
   obtain ⟨⟨n, rfl, h4, h5⟩, _⟩ := h3 r hr
   have h4' : 0 ≤ n := h4
   have h5' : n ≤ 255 := h5
   refine ⟨UInt8.ofNat n.toNat, trivial, ?_⟩
   unfold brow
   rw [UInt8.toNat_ofNat']
   congr 3
   omega
  exact ⟨l, h1, by simpa using h2⟩
theorem Opn.arg {t : TypeId} {v : Value} {d : DataW H} {ps : List MemPlace} {R : List AV → Prop} (h : Opn enc P w base sp held t R) (hd : DataW.Trod enc P w base sp held t v d ps) (hv : v.cells = #[v]) : ∃ a, R [a] ∧ SimD (cellsX w) a v := by
 obtain ⟨fuel, hf⟩ := hd
 obtain ⟨row, h1, h2⟩ := h _ _ _ hf
 rw [hv] at h1
 have hl : row.length = 1 := h1.1
 obtain ⟨a, rfl⟩ := List.length_eq_one_iff.1 hl
 exact ⟨a, h2, (h1.2 0 a v rfl rfl).1⟩
end
end Go.Am
namespace Go.Am
section
variable {H : Type} {enc : TypeId × Value → H} {P : Program} {w : World} {base : Nat} {sp : Nat → Bool} {held : Bool}
theorem RowSim.agg {G : Ghost} {row : List AV} {cs : Array Value} (h : RowSim G.X row cs.toList) : Sim G (.agg row) (.agg cs) :=
 .agg _ _ (by have := h.1; simpa using this) fun i a ha => by
  have hi : i < cs.size := by
   have := (List.getElem?_eq_some_iff.1 ha).1
   have h1 := h.1
   simp at h1; omega
  have : cs.getD i undef = cs[i] := by simp [hi]
  rw [this]
  exact .data _ _ (h.2 i a cs[i] ha (by simp [hi])).1
end
end Go.Am
namespace Go.Proofs.YtjepgbpcpcahgaaGreat
open Go.Am
section
variable {H : Type} {enc : TypeId × Value → H} {w : World} {base : Nat} {sp : Nat → Bool} {held : Bool}
theorem opnBytes : Opn enc Tryz.prog w base sp held 23 fun row => ∃ l : List UInt8, row = [.list (l.map brow) .free] ∧ l.length ≤ maxLen := opn_bytes Tryz.underlying23 Tryz.underlying5 (by kernel_rfl)
def dvrow (tx : Bool) (n : Int) (x : Nat) (b : List UInt8) : List AV := [.v (.bool tx), .v (.int .i64 n), .v (.float .f64 x), .list (b.map brow) .free]
theorem opnV : Opn enc Tryz.prog w base sp held 47 fun row => ∃ tx n x b, ((-9223372036854775808 ≤ n ∧ n ≤ 9223372036854775807) ∧ x < 18446744073709551616) ∧ row = dvrow tx n x b :=
 (opn_struct Tryz.underlying47 (Rs := [fun row => ∃ b, row = [.v (.bool b)], fun row => ∃ n, row = [.v (.int .i64 n)] ∧ IntKind.i64.min ≤ n ∧ n ≤ IntKind.i64.max, fun row => ∃ b, row = [.v (.float .f64 b)] ∧ b < 18446744073709551616, fun row => ∃ l : List UInt8, row = [.list (l.map brow) .free] ∧ l.length ≤ maxLen])
  ⟨rfl, opn_bool Tryz.underlying4, by kernel_rfl, opn_int Tryz.underlying3, by kernel_rfl, opn_float Tryz.underlying45, by kernel_rfl, opnBytes, (show (_ : Nat) = _ by kernel_rfl)⟩).mono
  fun row hrow => by
   obtain ⟨_, _, e0, ⟨tx, rfl⟩, _, _, e1, ⟨n, rfl, h1, h2⟩, _, _, e2, ⟨x, rfl, hx⟩, _, _, e3, ⟨l, rfl, _⟩, e4⟩ := hrow
   refine ⟨tx, n, x, l, ⟨⟨h1, h2⟩, hx⟩, ?_⟩
   rw [e0, e1, e2, e3, e4]
   rfl
end
end Go.Proofs.YtjepgbpcpcahgaaGreat
namespace Go.Proofs.YtjepgbpcpcahgaaGreat
open Go.Am
set_option maxRecDepth 100000
def okV (v : Va) : Prop := v.b.length < 1073741824 ∧ v.n < 18446744073709551616 ∧ vRt v = true
theorem VOk.ok {v : Va} (h : VOk v) : okV v := by
 unfold okV vRt
 rcases h with ⟨h1, h2, h3⟩ | ⟨h1, h2, h3⟩
 ·rw [h1, h2]; exact ⟨by omega, by decide, by simp; omega⟩
 ·rw [h1, h2]; exact ⟨by decide, h3, by simp⟩
structure Dv where
 tx : Bool
 n : Int
 x : Nat
 b : List UInt8
def dvr (a : Dv) : List AV := dvrow a.tx a.n a.x a.b
def DvOk (a : Dv) : Prop := (-9223372036854775808 ≤ a.n ∧ a.n ≤ 9223372036854775807) ∧ a.x < 18446744073709551616
theorem dvmade_c (a : Dv) (h : DvOk a) : ACalls Tryz.prog 31 0 10 [.agg (dvr a)] [] (fun out H' => ∃ v, okV v ∧ out = .ret (vav v) ∧ H' = []) :=
 (vmade_c a.tx a.n a.x a.b h.1.1 h.1.2 h.2).mono fun out H' ⟨v, h1, h2, h3⟩ => ⟨v, h1.ok, h2, h3⟩
end Go.Proofs.YtjepgbpcpcahgaaGreat
namespace Go.Proofs.YtjepgbpcpcahgaaGreat
open Go.Am
set_option maxRecDepth 100000
theorem npos_at {o : List Co} (hs : Nsort o) {i : Nat} {c : Co} (h : o[i]? = some c) : npos o c.n = i ∧ hasN o c.n = true := by
 have h1 : ¬ i < npos o c.n := fun hlt => by
  have := (npos_lt hs h).1 hlt
  rw [sLt_self] at this; cases this
 have hi := (List.getElem?_eq_some_iff.1 h).1
 have h2 : i ≤ npos o c.n := by
  rcases Nat.eq_zero_or_pos i with rfl | h0
  ·exact Nat.zero_le _
  ·obtain ⟨d, hd⟩ : ∃ d, o[i - 1]? = some d := ⟨_, List.getElem?_eq_getElem (by omega)⟩
   have h3 := List.pairwise_iff_getElem.1 hs (i - 1) i (by omega) hi (by omega)
   rw [(List.getElem?_eq_some_iff.1 hd).2, (List.getElem?_eq_some_iff.1 h).2] at h3
   have := (npos_lt hs hd).2 h3
   omega
 have e : npos o c.n = i := by omega
 refine ⟨e, ?_⟩
 unfold hasN
 rw [e, h]
 simp [cmpS_self]
theorem hasN_not {o : List Co} {s : ByteArray} (h : ∀ c ∈ o, cmpS c.n s ≠ 0) : hasN o s = false := by
 unfold hasN
 split
 ·rename_i c hc
  simpa using h c (List.mem_of_getElem? hc)
 ·rfl
end Go.Proofs.YtjepgbpcpcahgaaGreat
namespace Go.Proofs.YtjepgbpcpcahgaaGreat
open Go.Am
set_option maxRecDepth 100000
structure Ch where
 k : Int
 c : ByteArray
 t : Int
 v : Va
def chrow (x : Ch) : List AV := [.v (.int .i64 x.k), .v (.string x.c), .v (.int .i64 x.t)] ++ vrowV x.v
def rightC (x : Ch) : Int := if x.k < 1 ∨ 5 < x.k then 24 else if x.k = 4 then 0 else if nmB x.c = false then 1 else if x.k = 3 then 0 else if tmOk x.t = false then 1 else if x.k = 2 then 0 else if vRt x.v = false then 1 else if x.k = 5 ∧ x.v.kind ≠ 2 then 24 else 0
set_option maxHeartbeats 3200000 in
theorem refRightC_c (x : Ch) : ACalls Tryz.prog 140 0 50 [.agg (chrow x)] [] (fun out H' => out = .ret (.v (.int .i64 (rightC x))) ∧ H' = []) := by
 have h1 := rname_c x.c
 have h2 : ACalls Tryz.prog 59 0 10 [vav x.v] [] (fun out H' => out = .ret (.v (.bool (vRt x.v))) ∧ H' = []) := refRight_c x.v
 refine no_implicit_lambda% (acalls_of tok dok (f := 140) ⟨Tryz.func140, rfl, by kernel_rfl⟩ ?_); refine no_implicit_lambda% (c_start (fun _ h => h) ?_)
 repeat' (first | (refine no_implicit_lambda% (zH ?_)) | (((with_reducible refine no_implicit_lambda% (zA ?_)); refine no_implicit_lambda% (zD rfl rfl rfl (fun hc => ?_) (fun hc => ?_)) <;> first | exact zG hc | rw [hc])) | (((with_reducible refine no_implicit_lambda% (zB ?_)); refine no_implicit_lambda% (zE rfl (fun hc => ?_) (fun hc => ?_)) <;> first | exact zG hc | skip)) | (((with_reducible refine no_implicit_lambda% (zC ?_)); refine no_implicit_lambda% (zF rfl rfl (fun hc => ?_) (fun hc => ?_)) <;> first | exact zG hc | rw [hc])) | (refine no_implicit_lambda% (ans ?_)) | (with_reducible first | exact zI | exact zJ) | (refine no_implicit_lambda% (cal [] (h1) ?_ ?_)) | (refine no_implicit_lambda% (cal [] (h2) ?_ ?_)) | fail)
 all_goals
  refine e_ret (H' := []) (rest := _) rfl ⟨congrArg (fun z => AOut.ret (.v (.int .i64 z))) ?_, rfl⟩ permT (LE0 rfl)
  clear h1 h2
  unfold rightC tmOk
  simp only [decide_eq_true_eq, decide_eq_false_iff_not, beq_iff_eq, beq_eq_false_iff_ne, bne_iff_ne, bne_eq_false_iff_eq, Bool.not_eq_true', Bool.not_eq_false', ne_eq] at *
  repeat' split
  all_goals first | rfl | (exfalso; omega) | (exfalso; simp_all; done) | (exfalso; simp_all; omega)
def ChSz (x : Ch) : Prop := x.v.b.length < 1073741824 ∧ x.v.n < 18446744073709551616
def oldV (o : List Co) (c : ByteArray) : Va := (atR o c 1099511627776).getD ⟨2, [], 9223372036854775808⟩
def stepC (o : List Co) (x : Ch) : Int × List Co :=
 if x.k = 1 then putR o x.c x.t x.v else if x.k = 2 then (0, dropR o x.c x.t) else if x.k = 3 then (0, dcR o x.c) else if x.k = 4 then (0, []) else
 if (plusV (oldV o x.c) x.v).2 ≠ 0 then ((plusV (oldV o x.c) x.v).2, []) else putR o x.c x.t (plusV (oldV o x.c) x.v).1
def foldC : List Co → List Ch → Int × List Co
 | o, [] => (0, o)
 | o, x :: l => if (stepC o x).1 ≠ 0 then ((stepC o x).1, []) else foldC (stepC o x).2 l
def firstE : List Ch → Int
 | [] => 0
 | x :: l => if rightC x ≠ 0 then rightC x else firstE l
def applyR (r : List Co) (l : List Ch) : Int × List Co := if 8 < l.length then (3, []) else if firstE l ≠ 0 then (firstE l, []) else foldC (copyR r) l
theorem sumC_lt (a b : Nat) : sumC a b < 18446744073709551616 := by
 unfold sumC
 split
 ·rename_i r hr
  exact canonB_lt (add_lt hr)
 ·decide
theorem plusV_sz (a b : Va) : (plusV a b).1.b.length < 1073741824 ∧ (plusV a b).1.n < 18446744073709551616 := by
 unfold plusV
 split
 ·exact ⟨by simp, sumC_lt _ _⟩
 ·exact ⟨by simp, by decide⟩
theorem fine_nil : Fine [] := copy_fine []
theorem sz_nil : RowSz [] := fun c hc => by cases hc
theorem stepC_err {o : List Co} {x : Ch} (h : (stepC o x).1 ≠ 0) : (stepC o x).2 = [] := by
 unfold stepC at *
 repeat' split at h
 all_goals first | (exact absurd rfl h) | skip
 ·rename_i h1
  rw [if_pos h1]; exact putR_err h
 ·rename_i h1 h2 h3 h4 h5
  rw [if_neg h1, if_neg h2, if_neg h3, if_neg h4, if_pos h5]
 ·rename_i h1 h2 h3 h4 h5
  rw [if_neg h1, if_neg h2, if_neg h3, if_neg h4, if_neg h5]; exact putR_err h
theorem stepC_fine {o : List Co} (hF : Fine o) (x : Ch) : Fine (stepC o x).2 := by
 unfold stepC
 repeat' split
 all_goals first | exact putR_fine _ _ _ _ | exact dropA_fine (copy_fine o) _ _ | exact dc_fine o _ | exact fine_nil
theorem stepC_sz {o : List Co} (hz : RowSz o) {x : Ch} (hx : ChSz x) : RowSz (stepC o x).2 := by
 unfold stepC
 repeat' split
 all_goals first | exact putR_sz hz hx | exact dropA_sz (copy_sz hz) _ _ | exact dc_sz hz | exact sz_nil | exact putR_sz hz (plusV_sz _ _)
def apSt (l : List Ch) (R : List Co) (i : Nat) : ASt := ⟨([.dead, .list (l.map chrow) .free, .ptr 0 0, .dead, .ptr 1 0, .dead, .v (.int .i64 i)] ++ List.replicate 111 .dead), [(0, .box [.list (R.map corow) .free]), (1, .box [.list [] .full])], 2⟩
def aqSt (l : List Ch) (o : List Co) (i : Nat) : ASt := ⟨([.dead, .list (l.map chrow) .free, .dead, .dead, .ptr 1 0, .dead, .dead, .dead, .ptr 2 0, .v (.int .i64 i)] ++ List.replicate 108 .dead), [(1, .box [.list [] .full]), (2, .box [.list (o.map corow) .free])], 3⟩
theorem chx {l : List Ch} {i : Nat} {t : Ch} (h : l[i]? = some t) : 0 ≤ (i : Int) ∧ (l.map chrow)[(i : Int).toNat]? = some (chrow t) ∧ (chrow t).length = 6 := ⟨Int.natCast_nonneg _, by rw [Int.toNat_natCast, List.getElem?_map, h]; rfl, rfl⟩
theorem firstE_at {l : List Ch} {i : Nat} {x : Ch} (h : l[i]? = some x) : firstE (l.drop i) = if rightC x ≠ 0 then rightC x else firstE (l.drop (i + 1)) := by
 obtain ⟨hi, rfl⟩ := List.getElem?_eq_some_iff.1 h
 rw [List.drop_eq_getElem_cons hi]; rfl
theorem foldC_at {o : List Co} {l : List Ch} {i : Nat} {x : Ch} (h : l[i]? = some x) : foldC o (l.drop i) = if (stepC o x).1 ≠ 0 then ((stepC o x).1, []) else foldC (stepC o x).2 (l.drop (i + 1)) := by
 obtain ⟨hi, rfl⟩ := List.getElem?_eq_some_iff.1 h
 rw [List.drop_eq_getElem_cons hi]; rfl
theorem firstE_ok : ∀ {l : List Ch}, firstE l = 0 → ∀ x ∈ l, rightC x = 0
 | y :: l, h, x, hm => by
  unfold firstE at h
  split at h
  ·exact absurd h (by assumption)
  ·rename_i h1
   rcases List.mem_cons.1 hm with rfl | hm
   ·simpa using h1
   ·exact firstE_ok h x hm
theorem rightC_kind {x : Ch} (h : rightC x = 0) : 1 ≤ x.k ∧ x.k ≤ 5 := by
 unfold rightC at h
 split at h
 ·cases h
 ·omega
set_option maxHeartbeats 6400000 in
theorem refApply_c (r : List Co) (l : List Ch) (hr : r.length < 70368744177664) (hz : RowSz r) (hl : ∀ x ∈ l, ChSz x) (hll : l.length < 1000000) : ACalls Tryz.prog 97 0 500000 [rowA r, .list (l.map chrow) .free] [] (PutRR (applyR r l)) := by
 have hcp := qcopy_f r hr hz
 have hlm : ((l.map chrow).length : Int) = l.length := by rw [List.length_map]
 refine no_implicit_lambda% (acalls_of tok dok (f := 97) ⟨Tryz.func97, rfl, by kernel_rfl⟩ ?_); refine no_implicit_lambda% (c_start (fun _ h => h) ?_)
 repeat' (first | (refine no_implicit_lambda% (zH ?_)) | (((with_reducible refine no_implicit_lambda% (zA ?_)); refine no_implicit_lambda% (zD rfl rfl rfl (fun hc => ?_) (fun hc => ?_)) <;> first | exact zG hc | rw [hc])) | (((with_reducible refine no_implicit_lambda% (zB ?_)); refine no_implicit_lambda% (zE rfl (fun hc => ?_) (fun hc => ?_)) <;> first | exact zG hc | skip)) | (((with_reducible refine no_implicit_lambda% (zC ?_)); refine no_implicit_lambda% (zF rfl rfl (fun hc => ?_) (fun hc => ?_)) <;> first | exact zG hc | rw [hc])) | (refine no_implicit_lambda% (ans ?_)) | (with_reducible first | exact zI | exact zJ))
 ·have : applyR r l = (3, []) := by unfold applyR; rw [if_pos (by have := of_decide_eq_true hc; omega)]
  rw [this]
  refine e_ret_to (H' := []) (rest := _) (Conv.toT (τ := ⟨_, [(1, .box [.list [] .free])], _⟩) (.refl _) ?_ (Nat.le_refl _)) rfl ⟨rfl, rfl⟩ (.of_eq rfl) (LE0 rfl)
  exact wkh
 ·have hl8 : ¬ 8 < l.length := by have := of_decide_eq_false hc; omega
  refine c_loop' (apSt l r) (fun i => i ≤ l.length ∧ firstE l = firstE (l.drop i)) (fun i => l.length - i) (a := 0) ⟨Nat.zero_le _, rfl⟩ ?_ ?_
  ·(refine no_implicit_lambda% (Conv.toT ?_ ?_ (LE0 rfl))); (focus ((unfold apSt); (try dsimp only); exact wkl)); (focus ((unfold apSt); (try dsimp only); exact wkh))
  ·rintro i ⟨i1, i2⟩
   refine c_turn (n' := 2) (fun _ h => h) (fun _ h => h) rfl ?_
   rcases hx : l[i]? with _ | x
   ·have hi : i = l.length := by have := List.getElem?_eq_none_iff.1 hx; omega
    have hf0 : firstE l = 0 := by rw [i2, hi, List.drop_length]; rfl
    have hap : applyR r l = foldC (copyR r) l := by unfold applyR; rw [if_neg hl8, if_neg (by simp [hf0])]
    rw [hap]
    have hco := copy_fine r
    have hcz := copy_sz hz
    generalize copyR r = o0 at *
    repeat' (first | (refine no_implicit_lambda% (zH ?_)) | (((with_reducible refine no_implicit_lambda% (zA ?_)); refine no_implicit_lambda% (zD rfl rfl rfl (fun hc => ?_) (fun hc => ?_)) <;> first | exact zG hc | rw [hc])) | (((with_reducible refine no_implicit_lambda% (zB ?_)); refine no_implicit_lambda% (zE rfl (fun hc => ?_) (fun hc => ?_)) <;> first | exact zG hc | skip)) | (((with_reducible refine no_implicit_lambda% (zC ?_)); refine no_implicit_lambda% (zF rfl rfl (fun hc => ?_) (fun hc => ?_)) <;> first | exact zG hc | rw [hc])) | (refine no_implicit_lambda% (ans ?_)) | (with_reducible first | exact zI | exact zJ) | (refine no_implicit_lambda% (cal [] (hcp) ?_ ?_)) | fail)
    refine c_loop2 (aqSt l) (fun o i => i ≤ l.length ∧ Fine o ∧ RowSz o ∧ foldC o0 l = foldC o (l.drop i)) (fun _ i => l.length - i) o0 0 ⟨Nat.zero_le _, hco, hcz, rfl⟩ ?_ ?_
    ·(refine no_implicit_lambda% (Conv.toT ?_ ?_ (LE0 rfl))); (focus ((unfold aqSt); (try dsimp only); exact wkl)); (focus ((unfold aqSt); (try dsimp only); exact wkh))
    ·rintro o j ⟨j1, hF, hzo, j2⟩
     have ho4 := hF.len
     have hor : o.length < 70368744177664 := by omega
     refine c_turn (n' := 3) (fun _ h => h) (fun _ h => h) rfl ?_
     rcases hy : l[j]? with _ | x
     ·have hj : j = l.length := by have := List.getElem?_eq_none_iff.1 hy; omega
      rw [j2, hj, List.drop_length]
      repeat' (first | (refine no_implicit_lambda% (zH ?_)) | (((with_reducible refine no_implicit_lambda% (zA ?_)); refine no_implicit_lambda% (zD rfl rfl rfl (fun hc => ?_) (fun hc => ?_)) <;> first | exact zG hc | rw [hc])) | (((with_reducible refine no_implicit_lambda% (zB ?_)); refine no_implicit_lambda% (zE rfl (fun hc => ?_) (fun hc => ?_)) <;> first | exact zG hc | skip)) | (((with_reducible refine no_implicit_lambda% (zC ?_)); refine no_implicit_lambda% (zF rfl rfl (fun hc => ?_) (fun hc => ?_)) <;> first | exact zG hc | rw [hc])) | (refine no_implicit_lambda% (ans ?_)) | (with_reducible first | exact zI | exact zJ))
      exact e_ret (H' := []) (rest := _) rfl ⟨rfl, rfl⟩ permT (LE0 rfl)
     ·have hj : j < l.length := (List.getElem?_eq_some_iff.1 hy).1
      have hix := chx hy
      have hxz := hl x (List.mem_of_getElem? hy)
      have hkd := rightC_kind (firstE_ok hf0 x (List.mem_of_getElem? hy))
      have hfa := foldC_at (o := o) hy
      have hsf := stepC_fine hF x
      have hsz := stepC_sz hzo hxz
      have hse := stepC_err (o := o) (x := x)
      rw [hfa] at j2
      have p2 := qdrop_c o x.c x.t hor hzo
      have p3 := qdropcol_c o x.c hor hzo
      have hkk : x.k = 1 ∨ x.k = 2 ∨ x.k = 3 ∨ x.k = 4 ∨ x.k = 5 := by omega
      rcases hkk with hk | hk | hk | hk | hk
      ·have p1 := qput_c o x.c x.t x.v hor hzo hxz
       have hs : stepC o x = putR o x.c x.t x.v := by unfold stepC; rw [if_pos hk]
       rw [← hs] at p1
       unfold PutRR at p1
       generalize stepC o x = Q at *
       obtain ⟨e, X⟩ := Q
       repeat' (first | (refine no_implicit_lambda% (zH ?_)) | (((with_reducible refine no_implicit_lambda% (zA ?_)); refine no_implicit_lambda% (zD rfl rfl rfl (fun hc => ?_) (fun hc => ?_)) <;> first | exact zG hc | rw [hc])) | (((with_reducible refine no_implicit_lambda% (zB ?_)); refine no_implicit_lambda% (zE rfl (fun hc => ?_) (fun hc => ?_)) <;> first | exact zG hc | skip)) | (((with_reducible refine no_implicit_lambda% (zC ?_)); refine no_implicit_lambda% (zF rfl rfl (fun hc => ?_) (fun hc => ?_)) <;> first | exact zG hc | rw [hc])) | (refine no_implicit_lambda% (ans ?_)) | (with_reducible first | exact zI | exact zJ) | (refine no_implicit_lambda% (cal [] (p1) ?_ ?_)) | fail)
       ·have he : e ≠ 0 := by simpa using hc
        rw [j2, if_pos he]
        refine e_ret_to (H' := []) (rest := _) (Conv.toT (τ := ⟨_, [(1, .box [.list [] .free])], _⟩) (.refl _) ?_ (Nat.le_refl _)) rfl ⟨rfl, rfl⟩ (.of_eq rfl) (LE0 rfl)
        exact wkh
       ·have he : e = 0 := by simpa using hc
        rw [if_neg (by simp [he])] at j2
        (refine no_implicit_lambda% (k_loopLT (((X, j + 1) : List Co × Nat)) 0 [0, 1, 2] (by show j + 1 ≤ l.length ∧ Fine X ∧ RowSz X ∧ foldC o0 l = foldC X (l.drop (j + 1)); exact ⟨hj, hsf, hsz, j2⟩) (by first | omega | (simp; done) | (simp; omega)) (LE0 rfl) (fun _ h => h) (fun _ h => h) ?_ ?_)); (focus ((try dsimp only); exact wkl)); (focus ((try dsimp only); exact wkh))
      ·have hs : stepC o x = (0, dropR o x.c x.t) := by unfold stepC; rw [if_neg (by omega), if_pos hk]
       rw [hs] at hsf hsz j2
       rw [if_neg (by simp)] at j2
       repeat' (first | (refine no_implicit_lambda% (zH ?_)) | (((with_reducible refine no_implicit_lambda% (zA ?_)); refine no_implicit_lambda% (zD rfl rfl rfl (fun hc => ?_) (fun hc => ?_)) <;> first | exact zG hc | rw [hc])) | (((with_reducible refine no_implicit_lambda% (zB ?_)); refine no_implicit_lambda% (zE rfl (fun hc => ?_) (fun hc => ?_)) <;> first | exact zG hc | skip)) | (((with_reducible refine no_implicit_lambda% (zC ?_)); refine no_implicit_lambda% (zF rfl rfl (fun hc => ?_) (fun hc => ?_)) <;> first | exact zG hc | rw [hc])) | (refine no_implicit_lambda% (ans ?_)) | (with_reducible first | exact zI | exact zJ) | (refine no_implicit_lambda% (cal [] (p2) ?_ ?_)) | fail)
       (refine no_implicit_lambda% (k_loopLT (((dropR o x.c x.t, j + 1) : List Co × Nat)) 0 [0, 1, 2] (by show j + 1 ≤ l.length ∧ Fine (dropR o x.c x.t) ∧ RowSz (dropR o x.c x.t) ∧ foldC o0 l = foldC (dropR o x.c x.t) (l.drop (j + 1)); exact ⟨hj, hsf, hsz, j2⟩) (by first | omega | (simp; done) | (simp; omega)) (LE0 rfl) (fun _ h => h) (fun _ h => h) ?_ ?_)); (focus ((try dsimp only); exact wkl)); (focus ((try dsimp only); exact wkh))
      ·have hs : stepC o x = (0, dcR o x.c) := by unfold stepC; rw [if_neg (by omega), if_neg (by omega), if_pos hk]
       rw [hs] at hsf hsz j2
       rw [if_neg (by simp)] at j2
       repeat' (first | (refine no_implicit_lambda% (zH ?_)) | (((with_reducible refine no_implicit_lambda% (zA ?_)); refine no_implicit_lambda% (zD rfl rfl rfl (fun hc => ?_) (fun hc => ?_)) <;> first | exact zG hc | rw [hc])) | (((with_reducible refine no_implicit_lambda% (zB ?_)); refine no_implicit_lambda% (zE rfl (fun hc => ?_) (fun hc => ?_)) <;> first | exact zG hc | skip)) | (((with_reducible refine no_implicit_lambda% (zC ?_)); refine no_implicit_lambda% (zF rfl rfl (fun hc => ?_) (fun hc => ?_)) <;> first | exact zG hc | rw [hc])) | (refine no_implicit_lambda% (ans ?_)) | (with_reducible first | exact zI | exact zJ) | (refine no_implicit_lambda% (cal [] (p3) ?_ ?_)) | fail)
       (refine no_implicit_lambda% (k_loopLT (((dcR o x.c, j + 1) : List Co × Nat)) 0 [0, 1, 2] (by show j + 1 ≤ l.length ∧ Fine (dcR o x.c) ∧ RowSz (dcR o x.c) ∧ foldC o0 l = foldC (dcR o x.c) (l.drop (j + 1)); exact ⟨hj, hsf, hsz, j2⟩) (by first | omega | (simp; done) | (simp; omega)) (LE0 rfl) (fun _ h => h) (fun _ h => h) ?_ ?_)); (focus ((try dsimp only); exact wkl)); (focus ((try dsimp only); exact wkh))
      ·have hs : stepC o x = (0, []) := by unfold stepC; rw [if_neg (by omega), if_neg (by omega), if_neg (by omega), if_pos hk]
       rw [hs] at hsf hsz j2
       rw [if_neg (by simp)] at j2
       repeat' (first | (refine no_implicit_lambda% (zH ?_)) | (((with_reducible refine no_implicit_lambda% (zA ?_)); refine no_implicit_lambda% (zD rfl rfl rfl (fun hc => ?_) (fun hc => ?_)) <;> first | exact zG hc | rw [hc])) | (((with_reducible refine no_implicit_lambda% (zB ?_)); refine no_implicit_lambda% (zE rfl (fun hc => ?_) (fun hc => ?_)) <;> first | exact zG hc | skip)) | (((with_reducible refine no_implicit_lambda% (zC ?_)); refine no_implicit_lambda% (zF rfl rfl (fun hc => ?_) (fun hc => ?_)) <;> first | exact zG hc | rw [hc])) | (refine no_implicit_lambda% (ans ?_)) | (with_reducible first | exact zI | exact zJ))
       (refine no_implicit_lambda% (k_loopLT ((([], j + 1) : List Co × Nat)) 0 [0, 1, 2] (by show j + 1 ≤ l.length ∧ Fine [] ∧ RowSz [] ∧ foldC o0 l = foldC [] (l.drop (j + 1)); exact ⟨hj, hsf, hsz, j2⟩) (by first | omega | (simp; done) | (simp; omega)) (LE0 rfl) (fun _ h => h) (fun _ h => h) ?_ ?_)); (focus ((try dsimp only); exact wkl)); (focus ((try dsimp only); exact wkh))
      ·have hs : stepC o x = if (plusV (oldV o x.c) x.v).2 ≠ 0 then ((plusV (oldV o x.c) x.v).2, []) else putR o x.c x.t (plusV (oldV o x.c) x.v).1 := by unfold stepC; rw [if_neg (by omega), if_neg (by omega), if_neg (by omega), if_neg (by omega)]
       have p4 := qnewest_c o x.c hor hzo
       have p5 := refPlus_c (oldV o x.c) x.v
       have p6 := qput_c o x.c x.t (plusV (oldV o x.c) x.v).1 hor hzo (plusV_sz _ _)
       have p7 := csign_c
       unfold PutRR at p6
       have hold : oldV o x.c = (atR o x.c 1099511627776).getD ⟨2, [], 9223372036854775808⟩ := rfl
       generalize stepC o x = S at *
       generalize plusV (oldV o x.c) x.v = W at *
       generalize putR o x.c x.t W.1 = Q at *
       obtain ⟨w, f⟩ := W
       obtain ⟨e, X⟩ := Q
       rcases hat : atR o x.c 1099511627776 with _ | ov
       ·rw [hat] at hold p4
        rw [hold] at p5
        unfold optA at p4
        repeat' (first | (refine no_implicit_lambda% (zH ?_)) | (((with_reducible refine no_implicit_lambda% (zA ?_)); refine no_implicit_lambda% (zD rfl rfl rfl (fun hc => ?_) (fun hc => ?_)) <;> first | exact zG hc | rw [hc])) | (((with_reducible refine no_implicit_lambda% (zB ?_)); refine no_implicit_lambda% (zE rfl (fun hc => ?_) (fun hc => ?_)) <;> first | exact zG hc | skip)) | (((with_reducible refine no_implicit_lambda% (zC ?_)); refine no_implicit_lambda% (zF rfl rfl (fun hc => ?_) (fun hc => ?_)) <;> first | exact zG hc | rw [hc])) | (refine no_implicit_lambda% (ans ?_)) | (with_reducible first | exact zI | exact zJ) | (refine no_implicit_lambda% (cal [] (p4) ?_ ?_)) | (refine no_implicit_lambda% (cal [] (p7) ?_ ?_)) | fail)
        (refine no_implicit_lambda% (calw [] (p5) ?_ ?_))
        rotate_left
        ·first | (exact zI) | (exact zJ)
        refine no_implicit_lambda% (ret1 ?_); first | (refine no_implicit_lambda% (akc ?_)) | (refine no_implicit_lambda% (aec ?_))
        repeat' (first | (refine no_implicit_lambda% (zH ?_)) | (((with_reducible refine no_implicit_lambda% (zA ?_)); refine no_implicit_lambda% (zD rfl rfl rfl (fun hc => ?_) (fun hc => ?_)) <;> first | exact zG hc | rw [hc])) | (((with_reducible refine no_implicit_lambda% (zB ?_)); refine no_implicit_lambda% (zE rfl (fun hc => ?_) (fun hc => ?_)) <;> first | exact zG hc | skip)) | (((with_reducible refine no_implicit_lambda% (zC ?_)); refine no_implicit_lambda% (zF rfl rfl (fun hc => ?_) (fun hc => ?_)) <;> first | exact zG hc | rw [hc])) | (refine no_implicit_lambda% (ans ?_)) | (with_reducible first | exact zI | exact zJ) | (refine no_implicit_lambda% (cal [] (p6) ?_ ?_)) | fail)
        ·have he : f ≠ 0 := by simpa using hc
         rw [if_pos he] at hs
         rw [hs] at j2
         rw [j2, if_pos he]
         refine e_ret_to (H' := []) (rest := _) (Conv.toT (τ := ⟨_, [(1, .box [.list [] .free])], _⟩) (.refl _) ?_ (Nat.le_refl _)) rfl ⟨rfl, rfl⟩ (.of_eq rfl) (LE0 rfl)
         exact wkh
        ·rename_i hc0
         have hf0 : f = 0 := by simpa using hc0
         have he : e ≠ 0 := by simpa using hc
         rw [if_neg (by simp [hf0])] at hs
         rw [hs] at j2
         rw [j2, if_pos he]
         refine e_ret_to (H' := []) (rest := _) (Conv.toT (τ := ⟨_, [(1, .box [.list [] .free])], _⟩) (.refl _) ?_ (Nat.le_refl _)) rfl ⟨rfl, rfl⟩ (.of_eq rfl) (LE0 rfl)
         exact wkh
        ·rename_i hc0
         have hf0 : f = 0 := by simpa using hc0
         have he : e = 0 := by simpa using hc
         rw [if_neg (by simp [hf0])] at hs
         rw [hs] at j2 hsf hsz
         rw [if_neg (by simp [he])] at j2
         (refine no_implicit_lambda% (k_loopLT (((X, j + 1) : List Co × Nat)) 0 [0, 1, 2] (by show j + 1 ≤ l.length ∧ Fine X ∧ RowSz X ∧ foldC o0 l = foldC X (l.drop (j + 1)); exact ⟨hj, hsf, hsz, j2⟩) (by first | omega | (simp; done) | (simp; omega)) (LE0 rfl) (fun _ h => h) (fun _ h => h) ?_ ?_)); (focus ((try dsimp only); exact wkl)); (focus ((try dsimp only); exact wkh))
       ·rw [hat] at hold p4
        rw [hold] at p5
        unfold optA at p4
        repeat' (first | (refine no_implicit_lambda% (zH ?_)) | (((with_reducible refine no_implicit_lambda% (zA ?_)); refine no_implicit_lambda% (zD rfl rfl rfl (fun hc => ?_) (fun hc => ?_)) <;> first | exact zG hc | rw [hc])) | (((with_reducible refine no_implicit_lambda% (zB ?_)); refine no_implicit_lambda% (zE rfl (fun hc => ?_) (fun hc => ?_)) <;> first | exact zG hc | skip)) | (((with_reducible refine no_implicit_lambda% (zC ?_)); refine no_implicit_lambda% (zF rfl rfl (fun hc => ?_) (fun hc => ?_)) <;> first | exact zG hc | rw [hc])) | (refine no_implicit_lambda% (ans ?_)) | (with_reducible first | exact zI | exact zJ) | (refine no_implicit_lambda% (cal [] (p4) ?_ ?_)) | (refine no_implicit_lambda% (cal [] (p5) ?_ ?_)) | (refine no_implicit_lambda% (cal [] (p6) ?_ ?_)) | fail)
        ·have he : f ≠ 0 := by simpa using hc
         rw [if_pos he] at hs
         rw [hs] at j2
         rw [j2, if_pos he]
         refine e_ret_to (H' := []) (rest := _) (Conv.toT (τ := ⟨_, [(1, .box [.list [] .free])], _⟩) (.refl _) ?_ (Nat.le_refl _)) rfl ⟨rfl, rfl⟩ (.of_eq rfl) (LE0 rfl)
         exact wkh
        ·rename_i hc0
         have hf0 : f = 0 := by simpa using hc0
         have he : e ≠ 0 := by simpa using hc
         rw [if_neg (by simp [hf0])] at hs
         rw [hs] at j2
         rw [j2, if_pos he]
         refine e_ret_to (H' := []) (rest := _) (Conv.toT (τ := ⟨_, [(1, .box [.list [] .free])], _⟩) (.refl _) ?_ (Nat.le_refl _)) rfl ⟨rfl, rfl⟩ (.of_eq rfl) (LE0 rfl)
         exact wkh
        ·rename_i hc0
         have hf0 : f = 0 := by simpa using hc0
         have he : e = 0 := by simpa using hc
         rw [if_neg (by simp [hf0])] at hs
         rw [hs] at j2 hsf hsz
         rw [if_neg (by simp [he])] at j2
         (refine no_implicit_lambda% (k_loopLT (((X, j + 1) : List Co × Nat)) 0 [0, 1, 2] (by show j + 1 ≤ l.length ∧ Fine X ∧ RowSz X ∧ foldC o0 l = foldC X (l.drop (j + 1)); exact ⟨hj, hsf, hsz, j2⟩) (by first | omega | (simp; done) | (simp; omega)) (LE0 rfl) (fun _ h => h) (fun _ h => h) ?_ ?_)); (focus ((try dsimp only); exact wkl)); (focus ((try dsimp only); exact wkh))
   ·have hi : i < l.length := (List.getElem?_eq_some_iff.1 hx).1
    have hix := chx hx
    have hrx := refRightC_c x
    rw [firstE_at hx] at i2
    repeat' (first | (refine no_implicit_lambda% (zH ?_)) | (((with_reducible refine no_implicit_lambda% (zA ?_)); refine no_implicit_lambda% (zD rfl rfl rfl (fun hc => ?_) (fun hc => ?_)) <;> first | exact zG hc | rw [hc])) | (((with_reducible refine no_implicit_lambda% (zB ?_)); refine no_implicit_lambda% (zE rfl (fun hc => ?_) (fun hc => ?_)) <;> first | exact zG hc | skip)) | (((with_reducible refine no_implicit_lambda% (zC ?_)); refine no_implicit_lambda% (zF rfl rfl (fun hc => ?_) (fun hc => ?_)) <;> first | exact zG hc | rw [hc])) | (refine no_implicit_lambda% (ans ?_)) | (with_reducible first | exact zI | exact zJ) | (refine no_implicit_lambda% (cal [] (hrx) ?_ ?_)) | fail)
    ·have he : rightC x ≠ 0 := by simpa using hc
     have hap : applyR r l = (rightC x, []) := by
      unfold applyR
      rw [if_neg hl8, i2, if_pos he, if_pos he]
     rw [hap]
     refine e_ret_to (H' := []) (rest := _) (Conv.toT (τ := ⟨_, [(1, .box [.list [] .free])], _⟩) (.refl _) ?_ (Nat.le_refl _)) rfl ⟨rfl, rfl⟩ (.of_eq rfl) (LE0 rfl)
     exact wkh
    ·have he : rightC x = 0 := by simpa using hc
     rw [if_neg (by simp [he])] at i2
     (refine no_implicit_lambda% (k_loopLT (i + 1) 0 [0, 1] (by show i + 1 ≤ l.length ∧ firstE l = firstE (l.drop (i + 1)); exact ⟨hi, i2⟩) (by first | omega | (simp; done) | (simp; omega)) (LE0 rfl) (fun _ h => h) (fun _ h => h) ?_ ?_)); (focus ((try dsimp only); exact wkl)); (focus ((try dsimp only); exact wkh))
end Go.Proofs.YtjepgbpcpcahgaaGreat
namespace Go.Proofs.YtjepgbpcpcahgaaGreat
open Go.Am
set_option maxRecDepth 100000
structure Cw where
 k : Int
 c : Int
 t : Int
 v : Dv
def cwrow (a : Cw) : List AV := [.v (.int .i64 a.k), .v (.int .i64 a.c), .v (.int .i64 a.t)] ++ dvr a.v
structure CwOk (a : Cw) : Prop where
 k : -9223372036854775808 ≤ a.k ∧ a.k ≤ 9223372036854775807
 c : -9223372036854775808 ≤ a.c ∧ a.c ≤ 9223372036854775807
 t : -9223372036854775808 ≤ a.t ∧ a.t ≤ 9223372036854775807
 v : DvOk a.v
theorem colL_nm {s : ByteArray} (h : s ∈ colL) : nmB s = true := by
 unfold colL at h
 simp only [List.mem_cons, List.not_mem_nil, or_false] at h
 rcases h with rfl | rfl | rfl | rfl | rfl <;> decide
def ChOk (x : Ch) : Prop := ChSz x ∧ rightC x = 0
set_option maxHeartbeats 3200000 in
theorem chmade_c (a : Cw) (h : CwOk a) : ACalls Tryz.prog 98 0 100 [.agg (cwrow a)] [] (fun out H' => ∃ x, ChOk x ∧ out = .ret (.agg (chrow x)) ∧ H' = []) := by
 have w1 := wthn_c a.k 0 1048576 h.k.1 h.k.2 (by decide) (by decide) (by decide) (by decide)
 have w2 := wthn_c a.t 0 30 h.t.1 h.t.2 (by decide) (by decide) (by decide) (by decide)
 have b1 := wthn_bd a.k 0 1048576 (by decide)
 have b2 := wthn_bd a.t 0 30 (by decide)
 generalize wthn a.k 0 1048576 = k0 at *
 generalize wthn a.t 0 30 = t at *
 have hk5 := Int.tmod_lt_of_pos k0 (show (0 : Int) < 5 by decide)
 have hk0 : 0 ≤ k0.tmod 5 := Int.tmod_nonneg _ b1.1
 have hw : IntKind.i64.wrap (1 + k0.tmod 5) = 1 + k0.tmod 5 := z64 (by omega) (by omega)
 have hft := flt_c a.v.n a.v.x h.v.1.1 h.v.1.2 h.v.2
 refine no_implicit_lambda% (acalls_of tok dok (f := 98) ⟨Tryz.func98, rfl, by kernel_rfl⟩ ?_); refine no_implicit_lambda% (c_start (fun _ h => h) ?_)
 repeat' (first | (refine no_implicit_lambda% (zH ?_)) | (((with_reducible refine no_implicit_lambda% (zA ?_)); refine no_implicit_lambda% (zD rfl rfl rfl (fun hc => ?_) (fun hc => ?_)) <;> first | exact zG hc | rw [hc])) | (((with_reducible refine no_implicit_lambda% (zB ?_)); refine no_implicit_lambda% (zE rfl (fun hc => ?_) (fun hc => ?_)) <;> first | exact zG hc | skip)) | (((with_reducible refine no_implicit_lambda% (zC ?_)); refine no_implicit_lambda% (zF rfl rfl (fun hc => ?_) (fun hc => ?_)) <;> first | exact zG hc | rw [hc])) | (refine no_implicit_lambda% (ans ?_)) | (with_reducible first | exact zI | exact zJ) | (refine no_implicit_lambda% (cal [] (w1) ?_ ?_)) | fail)
 (refine no_implicit_lambda% (cal [] (keepcol_c a.c h.c.1 h.c.2) ?_ ?_))
 ·intro xx H' hh
  obtain ⟨s, hs, h', rfl⟩ := hh
  cases h'
  first | (refine no_implicit_lambda% (akc ?_)) | (refine no_implicit_lambda% (aec ?_))
  have hsn := colL_nm hs
  repeat' (first | (refine no_implicit_lambda% (zH ?_)) | (((with_reducible refine no_implicit_lambda% (zA ?_)); refine no_implicit_lambda% (zD rfl rfl rfl (fun hc => ?_) (fun hc => ?_)) <;> first | exact zG hc | rw [hc])) | (((with_reducible refine no_implicit_lambda% (zB ?_)); refine no_implicit_lambda% (zE rfl (fun hc => ?_) (fun hc => ?_)) <;> first | exact zG hc | skip)) | (((with_reducible refine no_implicit_lambda% (zC ?_)); refine no_implicit_lambda% (zF rfl rfl (fun hc => ?_) (fun hc => ?_)) <;> first | exact zG hc | rw [hc])) | (refine no_implicit_lambda% (ans ?_)) | (with_reducible first | exact zI | exact zJ) | (refine no_implicit_lambda% (cal [] (w2) ?_ ?_)) | fail)
  (refine no_implicit_lambda% (cal [] (dvmade_c a.v h.v) ?_ ?_))
  ·intro xx H' hh
   obtain ⟨v, hv, h', rfl⟩ := hh
   cases h'
   first | (refine no_implicit_lambda% (akc ?_)) | (refine no_implicit_lambda% (aec ?_))
   have hk : 1 ≤ IntKind.i64.wrap (1 + k0.tmod 5) ∧ IntKind.i64.wrap (1 + k0.tmod 5) ≤ 5 := by omega
   generalize IntKind.i64.wrap (1 + k0.tmod 5) = kk at *
   have htk : tmOk t = true := decide_eq_true (by omega)
   repeat' (first | (refine no_implicit_lambda% (zH ?_)) | (((with_reducible refine no_implicit_lambda% (zA ?_)); refine no_implicit_lambda% (zD rfl rfl rfl (fun hc => ?_) (fun hc => ?_)) <;> first | exact zG hc | rw [hc])) | (((with_reducible refine no_implicit_lambda% (zB ?_)); refine no_implicit_lambda% (zE rfl (fun hc => ?_) (fun hc => ?_)) <;> first | exact zG hc | skip)) | (((with_reducible refine no_implicit_lambda% (zC ?_)); refine no_implicit_lambda% (zF rfl rfl (fun hc => ?_) (fun hc => ?_)) <;> first | exact zG hc | rw [hc])) | (refine no_implicit_lambda% (ans ?_)) | (with_reducible first | exact zI | exact zJ))
   ·(refine no_implicit_lambda% (cal [] (hft) ?_ ?_))
    ·intro xx H' hh
     obtain ⟨fb, hfb, h', rfl⟩ := hh
     cases h'
     first | (refine no_implicit_lambda% (akc ?_)) | (refine no_implicit_lambda% (aec ?_))
     repeat' (first | (refine no_implicit_lambda% (zH ?_)) | (((with_reducible refine no_implicit_lambda% (zA ?_)); refine no_implicit_lambda% (zD rfl rfl rfl (fun hc => ?_) (fun hc => ?_)) <;> first | exact zG hc | rw [hc])) | (((with_reducible refine no_implicit_lambda% (zB ?_)); refine no_implicit_lambda% (zE rfl (fun hc => ?_) (fun hc => ?_)) <;> first | exact zG hc | skip)) | (((with_reducible refine no_implicit_lambda% (zC ?_)); refine no_implicit_lambda% (zF rfl rfl (fun hc => ?_) (fun hc => ?_)) <;> first | exact zG hc | rw [hc])) | (refine no_implicit_lambda% (ans ?_)) | (with_reducible first | exact zI | exact zJ))
     have hk5 : kk = 5 := by simpa using hc
     subst hk5
     refine e_ret_to (H' := []) (rest := _) (Conv.toT (τ := ⟨_, [(1, .box (chrow ⟨5, s, t, ⟨2, [], fb⟩⟩))], _⟩) (.refl _) ?_ (Nat.le_refl _)) rfl ⟨⟨5, s, t, ⟨2, [], fb⟩⟩, ⟨?_, ?_⟩, rfl, rfl⟩ (.of_eq rfl) (LE0 rfl)
     ·exact wkh
     ·exact ⟨show 0 < 1073741824 by decide, hfb⟩
     ·unfold rightC; rw [hsn, htk]; rfl
    ·intro xx H' hh
     obtain ⟨_, _, h', _⟩ := hh
     cases h'
   ·have hk5 : kk = 2 := by simpa using hc
    subst hk5
    refine e_ret_to (H' := []) (rest := _) (Conv.toT (τ := ⟨_, [(1, .box (chrow ⟨2, s, t, ⟨0, [], 0⟩⟩))], _⟩) (.refl _) ?_ (Nat.le_refl _)) rfl ⟨⟨2, s, t, ⟨0, [], 0⟩⟩, ⟨?_, ?_⟩, rfl, rfl⟩ (.of_eq rfl) (LE0 rfl)
    ·exact wkh
    ·exact ⟨show 0 < 1073741824 by decide, show 0 < 18446744073709551616 by decide⟩
    ·unfold rightC; rw [hsn, htk]; rfl
   ·have hk5 : kk = 3 := by simpa using hc
    subst hk5
    refine e_ret_to (H' := []) (rest := _) (Conv.toT (τ := ⟨_, [(1, .box (chrow ⟨3, s, 0, ⟨0, [], 0⟩⟩))], _⟩) (.refl _) ?_ (Nat.le_refl _)) rfl ⟨⟨3, s, 0, ⟨0, [], 0⟩⟩, ⟨?_, ?_⟩, rfl, rfl⟩ (.of_eq rfl) (LE0 rfl)
    ·exact wkh
    ·exact ⟨show 0 < 1073741824 by decide, show 0 < 18446744073709551616 by decide⟩
    ·unfold rightC; rw [hsn]; rfl
   ·have hk5 : kk = 4 := by simpa using hc
    subst hk5
    refine e_ret_to (H' := []) (rest := _) (Conv.toT (τ := ⟨_, [(1, .box (chrow ⟨4, ByteArray.empty, 0, ⟨0, [], 0⟩⟩))], _⟩) (.refl _) ?_ (Nat.le_refl _)) rfl ⟨⟨4, ByteArray.empty, 0, ⟨0, [], 0⟩⟩, ⟨?_, ?_⟩, rfl, rfl⟩ (.of_eq rfl) (LE0 rfl)
    ·exact wkh
    ·exact ⟨show 0 < 1073741824 by decide, show 0 < 18446744073709551616 by decide⟩
    ·rfl
   ·have hk5 : kk = 1 := by
     simp only [beq_eq_false_iff_ne] at *
     omega
    subst hk5
    refine e_ret_to (H' := []) (rest := _) (Conv.toT (τ := ⟨_, [(1, .box (chrow ⟨1, s, t, v⟩))], _⟩) (.refl _) ?_ (Nat.le_refl _)) rfl ⟨⟨1, s, t, v⟩, ⟨?_, ?_⟩, rfl, rfl⟩ (.of_eq rfl) (LE0 rfl)
    ·exact wkh
    ·exact ⟨hv.1, hv.2.1⟩
    ·unfold rightC; rw [hsn, htk, hv.2.2]; rfl
  ·intro xx H' hh
   obtain ⟨_, _, h', _⟩ := hh
   cases h'
 ·intro xx H' hh
  obtain ⟨_, _, h', _⟩ := hh
  cases h'
end Go.Proofs.YtjepgbpcpcahgaaGreat
