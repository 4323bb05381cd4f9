/- Part 6 of what the laws ChangeConds ChangeSums rest on: RwV, RwW, RwX, RwY, RwM, RwZ, RxA, AmOp, Vd, RxC, RxD, ChA, ChB, ChC, ChD, ChE, ChG, ChF, ChH, AmLd. -/
import Derived.Test.YtncffhgoopdfgaaP5
import Derived.ChangeSlices
import Derived.ShutString
namespace Go.Proofs.Ytncffhgoopdfgaa
open Go.Am
set_option linter.unusedSimpArgs false
set_option linter.unusedVariables false
set_option maxRecDepth 100000
def dropA (o : List Co) (s : ByteArray) (t : Int) : List Co := if hasN o s then (match o[npos o s]? with | some c => if dropV c.l t = [] then o.eraseIdx (npos o s) else o.set (npos o s) ⟨c.n, dropV c.l t⟩ | none => o) else o
def dropR (r : List Co) (s : ByteArray) (t : Int) : List Co := dropA (copyR r) s t
theorem dropA_fine {o : List Co} (h : Fine o) (s : ByteArray) (t : Int) : Fine (dropA o s t) := by
  unfold dropA
  split
  · split
    · rename_i c hc
      exact drop_fine h hc t
    · exact h
  · exact h
theorem dropA_sz {o : List Co} (h : RowSz o) (s : ByteArray) (t : Int) : RowSz (dropA o s t) := by
  unfold dropA
  split
  · split
    · rename_i c hc
      split
      · exact sub_sz h (List.eraseIdx_sublist _ _)
      · intro d hd y hy
        rcases List.mem_or_eq_of_mem_set hd with hd | rfl
        · exact h d hd y hy
        · exact h c (List.mem_of_getElem? hc) y (List.mem_filter.1 hy).1
    · exact h
  · exact h
def pdSt (F : List Co) : ASt := ⟨(List.replicate 6 .dead ++ [.ptr 2 0, .ptr 5 0] ++ List.replicate 43 .dead), [(2, .box [.list [] .full]), (5, .box [.list (F.map corow) .free])], 900⟩
def pvSt (F : List Co) (n cp i : Nat) : ASt := ⟨(List.replicate 6 .dead ++ [.ptr 2 0, .ptr 5 0, .v (.int .i64 i)] ++ List.replicate 42 .dead), [(2, .box [.list [] .full]), (5, .box [.arr 3 0 n cp]), (3, .seq (F.map corow) ((cp - n) * 2))], 400⟩
set_option maxHeartbeats 3200000 in
theorem drop_c (r : List Co) (s : ByteArray) (t : Int) (hr : r.length < 70368744177664) (hs : RowSz r) : ACalls Try.prog 100 0 9000 [rowA r, .v (.string s), .v (.int .i64 t)] [] (fun out H' => out = .ret (rowA (dropR r s t)) ∧ H' = []) := by
  have hso := copy_sort r
  have h4 := copy_len r
  have hz := copy_sz hs
  have hfi := copy_fine r
  have hcn := copy_n r hr hs
  have hcg := fun g hg => copy_g r g hg hr hs
  have hDf := dropA_fine hfi s t
  have hDz := dropA_sz hz s t
  unfold dropR
  generalize copyR r = o at *
  refine no_implicit_lambda% (acalls_of tok dok (f := 100) ⟨Try.func100, rfl, by kernel_rfl⟩ ?_); refine no_implicit_lambda% (c_start (fun _ h => h) ?_)
  repeat' (first | (refine no_implicit_lambda% (awd1 ?_)) | (((with_reducible refine no_implicit_lambda% (is_aops ?_)); refine no_implicit_lambda% (o_split rfl rfl rfl (fun hc => ?_) (fun hc => ?_)) <;> first | exact decx hc | rw [hc])) | (((with_reducible refine no_implicit_lambda% (is_cond ?_)); refine no_implicit_lambda% (c_cond rfl (fun hc => ?_) (fun hc => ?_)) <;> first | exact decx hc | skip)) | (((with_reducible refine no_implicit_lambda% (is_aop ?_)); refine no_implicit_lambda% (a_pick rfl rfl (fun hc => ?_) (fun hc => ?_)) <;> first | exact decx hc | rw [hc])) | (refine no_implicit_lambda% (ans ?_)) | (with_reducible exact retN) | (with_reducible exact retP) | fail | fail)
  rcases hN : hasN o s with _ | _
  · (refine no_implicit_lambda% (cal [] (hcn) ?_ ?_))
    · intro xx H' hh
      obtain ⟨cp, c1, c2, h', rfl⟩ := hh
      cases h'
      first | (refine no_implicit_lambda% (akc ?_)) | (refine no_implicit_lambda% (aec ?_))
      have hf := find_o o s cp (by omega) hso
      rw [hN] at hf
      repeat' (first | (refine no_implicit_lambda% (awd1 ?_)) | (((with_reducible refine no_implicit_lambda% (is_aops ?_)); refine no_implicit_lambda% (o_split rfl rfl rfl (fun hc => ?_) (fun hc => ?_)) <;> first | exact decx hc | rw [hc])) | (((with_reducible refine no_implicit_lambda% (is_cond ?_)); refine no_implicit_lambda% (c_cond rfl (fun hc => ?_) (fun hc => ?_)) <;> first | exact decx hc | skip)) | (((with_reducible refine no_implicit_lambda% (is_aop ?_)); refine no_implicit_lambda% (a_pick rfl rfl (fun hc => ?_) (fun hc => ?_)) <;> first | exact decx hc | rw [hc])) | (refine no_implicit_lambda% (ans ?_)) | (with_reducible exact retN) | (with_reducible exact retP) | fail | fail)
      (refine no_implicit_lambda% (cal [3] (hf) ?_ ?_))
      · refine no_implicit_lambda% (ret1 ?_); first | (refine no_implicit_lambda% (akc ?_)) | (refine no_implicit_lambda% (aec ?_))
        repeat' (first | (refine no_implicit_lambda% (awd1 ?_)) | (((with_reducible refine no_implicit_lambda% (is_aops ?_)); refine no_implicit_lambda% (o_split rfl rfl rfl (fun hc => ?_) (fun hc => ?_)) <;> first | exact decx hc | rw [hc])) | (((with_reducible refine no_implicit_lambda% (is_cond ?_)); refine no_implicit_lambda% (c_cond rfl (fun hc => ?_) (fun hc => ?_)) <;> first | exact decx hc | skip)) | (((with_reducible refine no_implicit_lambda% (is_aop ?_)); refine no_implicit_lambda% (a_pick rfl rfl (fun hc => ?_) (fun hc => ?_)) <;> first | exact decx hc | rw [hc])) | (refine no_implicit_lambda% (ans ?_)) | (with_reducible exact retN) | (with_reducible exact retP) | fail | fail)
        have hq : dropA o s t = o := by unfold dropA; rw [hN, if_neg (by simp)]
        rw [hq]
        exact e_ret_to (H' := []) (rest := _) (Conv.freezeBox (j := 0) (id := 3) (bid := 2) (sz := 2) (rows := o.map corow) (k := (cp - o.length) * 2) (m := o.length) (cp := cp) (cells := [.arr 3 0 o.length cp]) (permT (H := [(3, .seq (o.map corow) ((cp - o.length) * 2)), (2, .box [.arr 3 0 o.length cp])])) rfl (coOk o) (by simp)) rfl ⟨rfl, rfl⟩ (.of_eq (by simp; rfl)) (Nat.le_of_ble_eq_true rfl)
      · first | (exact retN) | (exact retP)
    · intro xx H' hh
      obtain ⟨_, _, _, h', _⟩ := hh
      cases h'
  · have hlt := npos_len hN
    (refine no_implicit_lambda% (cal [] (hcg (npos o s) hlt) ?_ ?_))
    · intro xx H' hh
      obtain ⟨cp, cpv, c, hc1, c1, c2, c3, c4, h', rfl⟩ := hh
      cases h'
      have hlc := hfi.len
      have hoc : (o.take (npos o s)).length = npos o s := by rw [List.length_take]; omega
      have hol2 : (o.take (npos o s)).length + 1 + (o.drop (npos o s + 1)).length = o.length := by rw [List.length_take, List.length_drop]; omega
      have hcb := hfi.col c (List.mem_of_getElem? hc1)
      have hcl := col_len hcb
      have hq : dropA o s t = if dropV c.l t = [] then o.eraseIdx (npos o s) else o.set (npos o s) ⟨c.n, dropV c.l t⟩ := by unfold dropA; rw [hN, if_pos rfl, hc1]
      refine no_implicit_lambda% (akcs (L'' := [(3, .box (seqC (nrows (o.take (npos o s)) c.n (.arr 4 0 c.l.length cpv) (o.drop (npos o s + 1))) ((cp - o.length) * 2))), (4, .seq (c.l.map verow) ((cpv - c.l.length) * 4)), (2, .box [.list [] .full]), (1, .box [.v (.int .i64 t)]), (0, .box [.list (r.map corow) .free])]) ?_ (hL := fun q hq => by rw [forceHs_eq]; show q (renH _ _ ++ _); simp only [renH, Res.ren, ren_nrows]; exact hq))
      have hf := find_g o s (npos o s) cp cpv c hc1 (by omega) hso
      rw [hN] at hf
      repeat' (first | (refine no_implicit_lambda% (awd1 ?_)) | (((with_reducible refine no_implicit_lambda% (is_aops ?_)); refine no_implicit_lambda% (o_split rfl rfl rfl (fun hc => ?_) (fun hc => ?_)) <;> first | exact decx hc | rw [hc])) | (((with_reducible refine no_implicit_lambda% (is_cond ?_)); refine no_implicit_lambda% (c_cond rfl (fun hc => ?_) (fun hc => ?_)) <;> first | exact decx hc | skip)) | (((with_reducible refine no_implicit_lambda% (is_aop ?_)); refine no_implicit_lambda% (a_pick rfl rfl (fun hc => ?_) (fun hc => ?_)) <;> first | exact decx hc | rw [hc])) | (((with_reducible refine no_implicit_lambda% (is_ev ?_)); refine no_implicit_lambda% (v_split rfl rfl rfl rfl (fun hc => ?_) (fun hc => ?_)) <;> first | exact decx hc | rw [hc])) | (refine no_implicit_lambda% (ans ?_)) | (with_reducible exact retN) | (with_reducible exact retP) | ((with_reducible refine no_implicit_lambda% (ret1 ?_)); first | (refine no_implicit_lambda% (akcs ?_)) | (refine no_implicit_lambda% (aecs ?_))) | fail | (((with_reducible refine no_implicit_lambda% (is_effK ?_)); refine no_implicit_lambda% (aecs ?_))) | (((with_reducible refine no_implicit_lambda% (is_drB ?_)); refine no_implicit_lambda% (b_ends ?_))) | (((with_reducible refine no_implicit_lambda% (is_aop ?_)); refine no_implicit_lambda% (a_stores ?_))) | ((with_reducible refine no_implicit_lambda% (is_aop ?_)); first | (refine no_implicit_lambda% (a_append_tok rfl rfl rfl rfl rfl rfl rfl rfl rfl rfl rfl rfl rfl rfl (by first | rfl | (simp; done)) (fun q hq => by rw [forceH_eq]; exact hq) (by (first | assumption | (intro row hr; simp only [List.mem_cons, List.not_mem_nil, or_false] at hr; rcases hr with rfl | rfl | rfl | rfl <;> rfl) | (intro row hr; simp at hr; done) | (intro row hr; simp only [List.mem_singleton] at hr; subst hr; rfl) | (intro row hr; obtain ⟨_, _, rfl⟩ := List.mem_map.1 hr; rfl))) (by (refine ⟨?_, ?_⟩ <;> (simp only [List.length_map, List.length_append, List.length_cons, List.length_nil]; omega))) ?_))) | fail)
      refine no_implicit_lambda% (cal (H1 := [(3, .box (seqC (nrows (o.take (npos o s)) c.n (.arr 4 0 c.l.length cpv) (o.drop (npos o s + 1))) ((cp - o.length) * 2))), (4, .seq (c.l.map verow) ((cpv - c.l.length) * 4))]) [3, 4] hf ?_ ?_ (heq := by simp only [renH, Res.ren, ren_nrows]; rfl))
      · refine no_implicit_lambda% (ret1 ?_)
        refine no_implicit_lambda% (akcs (L'' := [(3, .box (seqC (nrows (o.take (npos o s)) c.n (.arr 4 0 c.l.length cpv) (o.drop (npos o s + 1))) ((cp - o.length) * 2))), (4, .seq (c.l.map verow) ((cpv - c.l.length) * 4)), (5, .box [.arr 3 0 o.length cp]), (2, .box [.list [] .full]), (1, .box [.v (.int .i64 t)]), (0, .box [.list (r.map corow) .free])]) ?_ (hL := fun q hq => by rw [forceHs_eq]; show q (renH _ _ ++ _); simp only [renH, Res.ren, ren_nrows]; exact hq))
        have hdf := deletef_c drop1_c c.l cpv t (by omega) c3
        have hdl := dropV_len c.l t
        have hcs : (seqC (nrows (o.take (npos o s)) c.n (.arr 4 0 c.l.length cpv) (o.drop (npos o s + 1))) ((cp - o.length) * 2)) = (seqC (nrows (o.take (npos o s)) c.n (.arr 4 0 c.l.length cpv) (o.drop (npos o s + 1))) ((cp - o.length) * 2)) := rfl
        generalize hd : dropV c.l t = d at *
        have hge : ∀ v, (seqC (nrows (o.take (npos o s)) c.n v (o.drop (npos o s + 1))) ((cp - o.length) * 2))[0 + (npos o s : Int).toNat * 2 + 1]? = some v := fun v => by
          have e : 0 + (npos o s : Int).toNat * 2 + 1 = (o.take (npos o s)).length * 2 + 1 := by rw [Int.toNat_natCast, hoc]; omega
          rw [e]; exact get_nrows
        repeat' (first | (refine no_implicit_lambda% (awd1 ?_)) | (((with_reducible refine no_implicit_lambda% (is_aops ?_)); refine no_implicit_lambda% (o_split rfl rfl rfl (fun hc => ?_) (fun hc => ?_)) <;> first | exact decx hc | rw [hc])) | (((with_reducible refine no_implicit_lambda% (is_cond ?_)); refine no_implicit_lambda% (c_cond rfl (fun hc => ?_) (fun hc => ?_)) <;> first | exact decx hc | skip)) | (((with_reducible refine no_implicit_lambda% (is_aop ?_)); refine no_implicit_lambda% (a_pick rfl rfl (fun hc => ?_) (fun hc => ?_)) <;> first | exact decx hc | rw [hc])) | (((with_reducible refine no_implicit_lambda% (is_ev ?_)); refine no_implicit_lambda% (v_split rfl rfl rfl rfl (fun hc => ?_) (fun hc => ?_)) <;> first | exact decx hc | rw [hc])) | (refine no_implicit_lambda% (ans ?_)) | (with_reducible exact retN) | (with_reducible exact retP) | ((with_reducible refine no_implicit_lambda% (ret1 ?_)); first | (refine no_implicit_lambda% (akcs ?_)) | (refine no_implicit_lambda% (aecs ?_))) | fail | (((with_reducible refine no_implicit_lambda% (is_effK ?_)); refine no_implicit_lambda% (aecs ?_))) | (((with_reducible refine no_implicit_lambda% (is_drB ?_)); refine no_implicit_lambda% (b_ends ?_))) | (((with_reducible refine no_implicit_lambda% (is_aop ?_)); refine no_implicit_lambda% (a_stores ?_))) | ((with_reducible refine no_implicit_lambda% (is_aop ?_)); first | (refine no_implicit_lambda% (a_append_tok rfl rfl rfl rfl rfl rfl rfl rfl rfl rfl rfl rfl rfl rfl (by first | rfl | (simp; done)) (fun q hq => by rw [forceH_eq]; exact hq) (by (first | assumption | (intro row hr; simp only [List.mem_cons, List.not_mem_nil, or_false] at hr; rcases hr with rfl | rfl | rfl | rfl <;> rfl) | (intro row hr; simp at hr; done) | (intro row hr; simp only [List.mem_singleton] at hr; subst hr; rfl) | (intro row hr; obtain ⟨_, _, rfl⟩ := List.mem_map.1 hr; rfl))) (by (refine ⟨?_, ?_⟩ <;> (simp only [List.length_map, List.length_append, List.length_cons, List.length_nil]; omega))) ?_))) | fail)
        ((with_reducible refine no_implicit_lambda% (is_ev ?_)); first | (refine no_implicit_lambda% (v_qS rfl rfl rfl rfl (fun _ h => h) (fun _ h => h) ?_ ?_)) | (refine no_implicit_lambda% (v_qS rfl rfl rfl rfl (qAnd2 (fun _ h => h)) (fun _ h => h) ?_ ?_))); focus (first | omega | (simp; done) | (simp; omega))
        repeat' (first | (refine no_implicit_lambda% (awd1 ?_)) | (((with_reducible refine no_implicit_lambda% (is_aops ?_)); refine no_implicit_lambda% (o_split rfl rfl rfl (fun hc => ?_) (fun hc => ?_)) <;> first | exact decx hc | rw [hc])) | (((with_reducible refine no_implicit_lambda% (is_cond ?_)); refine no_implicit_lambda% (c_cond rfl (fun hc => ?_) (fun hc => ?_)) <;> first | exact decx hc | skip)) | (((with_reducible refine no_implicit_lambda% (is_aop ?_)); refine no_implicit_lambda% (a_pick rfl rfl (fun hc => ?_) (fun hc => ?_)) <;> first | exact decx hc | rw [hc])) | (((with_reducible refine no_implicit_lambda% (is_ev ?_)); refine no_implicit_lambda% (v_split rfl rfl rfl rfl (fun hc => ?_) (fun hc => ?_)) <;> first | exact decx hc | rw [hc])) | (refine no_implicit_lambda% (ans ?_)) | (with_reducible exact retN) | (with_reducible exact retP) | ((with_reducible refine no_implicit_lambda% (ret1 ?_)); first | (refine no_implicit_lambda% (akcs ?_)) | (refine no_implicit_lambda% (aecs ?_))) | fail | (((with_reducible refine no_implicit_lambda% (is_effK ?_)); refine no_implicit_lambda% (aecs ?_))) | (((with_reducible refine no_implicit_lambda% (is_drB ?_)); refine no_implicit_lambda% (b_ends ?_))) | (((with_reducible refine no_implicit_lambda% (is_aop ?_)); refine no_implicit_lambda% (a_stores ?_))) | ((with_reducible refine no_implicit_lambda% (is_aop ?_)); first | (refine no_implicit_lambda% (a_append_tok rfl rfl rfl rfl rfl rfl rfl rfl rfl rfl rfl rfl rfl rfl (by first | rfl | (simp; done)) (fun q hq => by rw [forceH_eq]; exact hq) (by (first | assumption | (intro row hr; simp only [List.mem_cons, List.not_mem_nil, or_false] at hr; rcases hr with rfl | rfl | rfl | rfl <;> rfl) | (intro row hr; simp at hr; done) | (intro row hr; simp only [List.mem_singleton] at hr; subst hr; rfl) | (intro row hr; obtain ⟨_, _, rfl⟩ := List.mem_map.1 hr; rfl))) (by (refine ⟨?_, ?_⟩ <;> (simp only [List.length_map, List.length_append, List.length_cons, List.length_nil]; omega))) ?_))) | fail)
        ((with_reducible refine no_implicit_lambda% (is_ev ?_)); first | (refine no_implicit_lambda% (v_q rfl rfl rfl rfl (q_loadAt (av := (.arr 4 0 c.l.length cpv)) rfl rfl rfl rfl rfl (hge _)) (fun _ h => h) ?_)) | (refine no_implicit_lambda% (v_yes rfl rfl rfl rfl rfl rfl (q_loadAt (av := (.arr 4 0 c.l.length cpv)) rfl rfl rfl rfl rfl (hge _)) (fun _ h => h) ?_)))
        repeat' (first | (refine no_implicit_lambda% (awd1 ?_)) | (((with_reducible refine no_implicit_lambda% (is_aops ?_)); refine no_implicit_lambda% (o_split rfl rfl rfl (fun hc => ?_) (fun hc => ?_)) <;> first | exact decx hc | rw [hc])) | (((with_reducible refine no_implicit_lambda% (is_cond ?_)); refine no_implicit_lambda% (c_cond rfl (fun hc => ?_) (fun hc => ?_)) <;> first | exact decx hc | skip)) | (((with_reducible refine no_implicit_lambda% (is_aop ?_)); refine no_implicit_lambda% (a_pick rfl rfl (fun hc => ?_) (fun hc => ?_)) <;> first | exact decx hc | rw [hc])) | (((with_reducible refine no_implicit_lambda% (is_ev ?_)); refine no_implicit_lambda% (v_split rfl rfl rfl rfl (fun hc => ?_) (fun hc => ?_)) <;> first | exact decx hc | rw [hc])) | (refine no_implicit_lambda% (ans ?_)) | (with_reducible exact retN) | (with_reducible exact retP) | ((with_reducible refine no_implicit_lambda% (ret1 ?_)); first | (refine no_implicit_lambda% (akcs ?_)) | (refine no_implicit_lambda% (aecs ?_))) | fail | (((with_reducible refine no_implicit_lambda% (is_effK ?_)); refine no_implicit_lambda% (aecs ?_))) | (((with_reducible refine no_implicit_lambda% (is_drB ?_)); refine no_implicit_lambda% (b_ends ?_))) | (((with_reducible refine no_implicit_lambda% (is_aop ?_)); refine no_implicit_lambda% (a_stores ?_))) | ((with_reducible refine no_implicit_lambda% (is_aop ?_)); first | (refine no_implicit_lambda% (a_append_tok rfl rfl rfl rfl rfl rfl rfl rfl rfl rfl rfl rfl rfl rfl (by first | rfl | (simp; done)) (fun q hq => by rw [forceH_eq]; exact hq) (by (first | assumption | (intro row hr; simp only [List.mem_cons, List.not_mem_nil, or_false] at hr; rcases hr with rfl | rfl | rfl | rfl <;> rfl) | (intro row hr; simp at hr; done) | (intro row hr; simp only [List.mem_singleton] at hr; subst hr; rfl) | (intro row hr; obtain ⟨_, _, rfl⟩ := List.mem_map.1 hr; rfl))) (by (refine ⟨?_, ?_⟩ <;> (simp only [List.length_map, List.length_append, List.length_cons, List.length_nil]; omega))) ?_))) | fail)
        (refine no_implicit_lambda% (cal [4, 1] (hdf) ?_ ?_))
        · ((with_reducible refine no_implicit_lambda% (ret1 ?_)); first | (refine no_implicit_lambda% (akcs ?_)) | (refine no_implicit_lambda% (aecs ?_)))
          repeat' (first | (refine no_implicit_lambda% (awd1 ?_)) | (((with_reducible refine no_implicit_lambda% (is_aops ?_)); refine no_implicit_lambda% (o_split rfl rfl rfl (fun hc => ?_) (fun hc => ?_)) <;> first | exact decx hc | rw [hc])) | (((with_reducible refine no_implicit_lambda% (is_cond ?_)); refine no_implicit_lambda% (c_cond rfl (fun hc => ?_) (fun hc => ?_)) <;> first | exact decx hc | skip)) | (((with_reducible refine no_implicit_lambda% (is_aop ?_)); refine no_implicit_lambda% (a_pick rfl rfl (fun hc => ?_) (fun hc => ?_)) <;> first | exact decx hc | rw [hc])) | (((with_reducible refine no_implicit_lambda% (is_ev ?_)); refine no_implicit_lambda% (v_split rfl rfl rfl rfl (fun hc => ?_) (fun hc => ?_)) <;> first | exact decx hc | rw [hc])) | (refine no_implicit_lambda% (ans ?_)) | (with_reducible exact retN) | (with_reducible exact retP) | ((with_reducible refine no_implicit_lambda% (ret1 ?_)); first | (refine no_implicit_lambda% (akcs ?_)) | (refine no_implicit_lambda% (aecs ?_))) | fail | (((with_reducible refine no_implicit_lambda% (is_effK ?_)); refine no_implicit_lambda% (aecs ?_))) | (((with_reducible refine no_implicit_lambda% (is_drB ?_)); refine no_implicit_lambda% (b_ends ?_))) | (((with_reducible refine no_implicit_lambda% (is_aop ?_)); refine no_implicit_lambda% (a_stores ?_))) | ((with_reducible refine no_implicit_lambda% (is_aop ?_)); first | (refine no_implicit_lambda% (a_append_tok rfl rfl rfl rfl rfl rfl rfl rfl rfl rfl rfl rfl rfl rfl (by first | rfl | (simp; done)) (fun q hq => by rw [forceH_eq]; exact hq) (by (first | assumption | (intro row hr; simp only [List.mem_cons, List.not_mem_nil, or_false] at hr; rcases hr with rfl | rfl | rfl | rfl <;> rfl) | (intro row hr; simp at hr; done) | (intro row hr; simp only [List.mem_singleton] at hr; subst hr; rfl) | (intro row hr; obtain ⟨_, _, rfl⟩ := List.mem_map.1 hr; rfl))) (by (refine ⟨?_, ?_⟩ <;> (simp only [List.length_map, List.length_append, List.length_cons, List.length_nil]; omega))) ?_))) | fail)
          ((with_reducible refine no_implicit_lambda% (is_ev ?_)); first | (refine no_implicit_lambda% (v_qS rfl rfl rfl rfl (fun _ h => h) (fun _ h => h) ?_ ?_)) | (refine no_implicit_lambda% (v_qS rfl rfl rfl rfl (qAnd2 (fun _ h => h)) (fun _ h => h) ?_ ?_))); focus (first | omega | (simp; done) | (simp; omega))
          repeat' (first | (refine no_implicit_lambda% (awd1 ?_)) | (((with_reducible refine no_implicit_lambda% (is_aops ?_)); refine no_implicit_lambda% (o_split rfl rfl rfl (fun hc => ?_) (fun hc => ?_)) <;> first | exact decx hc | rw [hc])) | (((with_reducible refine no_implicit_lambda% (is_cond ?_)); refine no_implicit_lambda% (c_cond rfl (fun hc => ?_) (fun hc => ?_)) <;> first | exact decx hc | skip)) | (((with_reducible refine no_implicit_lambda% (is_aop ?_)); refine no_implicit_lambda% (a_pick rfl rfl (fun hc => ?_) (fun hc => ?_)) <;> first | exact decx hc | rw [hc])) | (((with_reducible refine no_implicit_lambda% (is_ev ?_)); refine no_implicit_lambda% (v_split rfl rfl rfl rfl (fun hc => ?_) (fun hc => ?_)) <;> first | exact decx hc | rw [hc])) | (refine no_implicit_lambda% (ans ?_)) | (with_reducible exact retN) | (with_reducible exact retP) | ((with_reducible refine no_implicit_lambda% (ret1 ?_)); first | (refine no_implicit_lambda% (akcs ?_)) | (refine no_implicit_lambda% (aecs ?_))) | fail | (((with_reducible refine no_implicit_lambda% (is_effK ?_)); refine no_implicit_lambda% (aecs ?_))) | (((with_reducible refine no_implicit_lambda% (is_drB ?_)); refine no_implicit_lambda% (b_ends ?_))) | (((with_reducible refine no_implicit_lambda% (is_aop ?_)); refine no_implicit_lambda% (a_stores ?_))) | ((with_reducible refine no_implicit_lambda% (is_aop ?_)); first | (refine no_implicit_lambda% (a_append_tok rfl rfl rfl rfl rfl rfl rfl rfl rfl rfl rfl rfl rfl rfl (by first | rfl | (simp; done)) (fun q hq => by rw [forceH_eq]; exact hq) (by (first | assumption | (intro row hr; simp only [List.mem_cons, List.not_mem_nil, or_false] at hr; rcases hr with rfl | rfl | rfl | rfl <;> rfl) | (intro row hr; simp at hr; done) | (intro row hr; simp only [List.mem_singleton] at hr; subst hr; rfl) | (intro row hr; obtain ⟨_, _, rfl⟩ := List.mem_map.1 hr; rfl))) (by (refine ⟨?_, ?_⟩ <;> (simp only [List.length_map, List.length_append, List.length_cons, List.length_nil]; omega))) ?_))) | fail)
          (with_reducible refine is_aop ?_)
          refine no_implicit_lambda% (a_storeT (id := 3) (off := (o.take (npos o s)).length * 2 + 1) (l := [.arr 4 0 d.length cpv]) (cells' := seqC (nrows (o.take (npos o s)) c.n (.arr 4 0 d.length cpv) (o.drop (npos o s + 1))) ((cp - o.length) * 2)) ?_ ?_ put_nrows rfl rfl ?_ rfl rfl)
          · refine no_implicit_lambda% (aecs ?_)
            repeat' (first | (first | (with_reducible refine no_implicit_lambda% (v_nil ?_)) | ((with_reducible refine no_implicit_lambda% (is_ev ?_)); first | (refine no_implicit_lambda% (v_skips rfl rfl (fun _ h => h) ?_)) | (refine no_implicit_lambda% (v_q rfl rfl rfl rfl (fun _ h => h) (fun _ h => h) ?_)) | (refine no_implicit_lambda% (v_alloc rfl rfl rfl (fun _ h => h) rfl ?_)) | (refine no_implicit_lambda% (v_no rfl rfl rfl rfl rfl rfl (fun _ h => h) ?_)) | (refine no_implicit_lambda% (v_yes rfl rfl rfl rfl rfl rfl (fun _ h => h) (fun _ h => h) ?_)) | (refine no_implicit_lambda% (v_not rfl rfl rfl rfl rfl rfl (fun _ h => h) ?_)))) | (((with_reducible refine no_implicit_lambda% (is_drB ?_)); refine no_implicit_lambda% (b_ends ?_))))
            have hFe : o.take (npos o s) ++ ⟨c.n, d⟩ :: o.drop (npos o s + 1) = o.set (npos o s) ⟨c.n, d⟩ := by rw [List.set_eq_take_append_cons_drop, if_pos hlt]
            have hFl : (o.set (npos o s) ⟨c.n, d⟩).length = o.length := List.length_set ..
            have hFg : (o.set (npos o s) ⟨c.n, d⟩)[npos o s]? = some ⟨c.n, d⟩ := List.getElem?_set_self hlt
            have hEr : (o.set (npos o s) ⟨c.n, d⟩).eraseIdx (npos o s) = o.eraseIdx (npos o s) := by
              rw [List.eraseIdx_eq_take_drop_succ, List.eraseIdx_eq_take_drop_succ, List.take_set_of_le (Nat.le_refl _), List.drop_set_of_lt (by omega)]
            refine k_seq_to (pvSt (o.set (npos o s) ⟨c.n, d⟩) o.length cp (npos o s)) ((Conv.freezeBox (id := 4) (bid := 3) (k := (cpv - d.length) * 4) (rows := d.map verow) (cells := seqC (nrows (o.take (npos o s)) c.n (.arr 4 0 d.length cpv) (o.drop (npos o s + 1))) ((cp - o.length) * 2)) (j := (o.take (npos o s)).length * 2 + 1) (m := d.length) (cp := cpv) (permT (H := [(4, .seq (d.map verow) ((cpv - d.length) * 4)), (3, .box (seqC (nrows (o.take (npos o s)) c.n (.arr 4 0 d.length cpv) (o.drop (npos o s + 1))) ((cp - o.length) * 2)))])) get_nrows (veOk d) (by simp)).trans ?_) ?_
            · rw [set_nrows, nrows_free, hFe]
              refine (Conv.toSeq (id := 3) (rows := (o.set (npos o s) ⟨c.n, d⟩).map corow) (cells := seqC ((o.set (npos o s) ⟨c.n, d⟩).map corow) ((cp - o.length) * 2)) (.refl _) rfl (coOk _).pure).trans ?_
              (refine no_implicit_lambda% (Conv.toT ?_ ?_ (Nat.le_of_ble_eq_true rfl))); (focus ((unfold pvSt); (try dsimp only); exact wkl)); (focus ((unfold pvSt); (try dsimp only); exact wkh))
            · generalize hF : o.set (npos o s) ⟨c.n, d⟩ = F at *
              refine c_turns (n' := 400) ?_
              refine c_seq ?_
              repeat' (first | (refine no_implicit_lambda% (sx1 ?_)) | (((with_reducible refine no_implicit_lambda% (is_aops ?_)); refine no_implicit_lambda% (o_split rfl rfl rfl (fun hc => ?_) (fun hc => ?_)) <;> first | exact decx hc | rw [hc])) | (((with_reducible refine no_implicit_lambda% (is_cond ?_)); refine no_implicit_lambda% (c_cond rfl (fun hc => ?_) (fun hc => ?_)) <;> first | exact decx hc | skip)) | (((with_reducible refine no_implicit_lambda% (is_aop ?_)); refine no_implicit_lambda% (a_pick rfl rfl (fun hc => ?_) (fun hc => ?_)) <;> first | exact decx hc | rw [hc])) | fail)
              ((with_reducible refine no_implicit_lambda% (is_aop ?_)); first | (refine no_implicit_lambda% (a_qS rfl (fun _ h => h) ?_ ?_)) | (refine no_implicit_lambda% (a_qS rfl (qIx (fun _ h => h)) ?_ ?_)) | (refine no_implicit_lambda% (a_qS rfl (qAnd5 (fun _ h => h)) ?_ ?_)) | (refine no_implicit_lambda% (a_qS rfl (qStr (fun _ h => h)) ?_ ?_)) | (refine no_implicit_lambda% (a_qS rfl (qAnd4 (fun _ h => h)) ?_ ?_)) | (refine no_implicit_lambda% (a_qS rfl (qAnd2 (fun _ h => h)) ?_ ?_))); focus (first | omega | (simp; done) | (simp; omega))
              repeat' (first | (refine no_implicit_lambda% (sx1 ?_)) | (((with_reducible refine no_implicit_lambda% (is_aops ?_)); refine no_implicit_lambda% (o_split rfl rfl rfl (fun hc => ?_) (fun hc => ?_)) <;> first | exact decx hc | rw [hc])) | (((with_reducible refine no_implicit_lambda% (is_cond ?_)); refine no_implicit_lambda% (c_cond rfl (fun hc => ?_) (fun hc => ?_)) <;> first | exact decx hc | skip)) | (((with_reducible refine no_implicit_lambda% (is_aop ?_)); refine no_implicit_lambda% (a_pick rfl rfl (fun hc => ?_) (fun hc => ?_)) <;> first | exact decx hc | rw [hc])) | fail)
              ((with_reducible refine no_implicit_lambda% (is_aop ?_)); refine no_implicit_lambda% (a_loadSeq (sz := 2) (rows := F.map corow) (i := (npos o s)) (j := 1) rfl rfl rfl rfl rfl (coOk F) ((by rw [List.getElem?_map, hFg]; rfl)) rfl (by first | rfl | (simp; done) | (simp; omega)) ?_))
              repeat' (first | (refine no_implicit_lambda% (sx1 ?_)) | (((with_reducible refine no_implicit_lambda% (is_aops ?_)); refine no_implicit_lambda% (o_split rfl rfl rfl (fun hc => ?_) (fun hc => ?_)) <;> first | exact decx hc | rw [hc])) | (((with_reducible refine no_implicit_lambda% (is_cond ?_)); refine no_implicit_lambda% (c_cond rfl (fun hc => ?_) (fun hc => ?_)) <;> first | exact decx hc | skip)) | (((with_reducible refine no_implicit_lambda% (is_aop ?_)); refine no_implicit_lambda% (a_pick rfl rfl (fun hc => ?_) (fun hc => ?_)) <;> first | exact decx hc | rw [hc])) | fail)
              refine k_seq ?_
              have hcc := copy_f (dropA o s t) (by have := hDf.len; omega) hDz
              rw [hDf.copy] at hcc
              refine c_cutR pdSt (fun q => q = dropA o s t) ?_ ?_
              · rintro _ rfl
                refine c_turns (n' := 900) ?_
                repeat' (first | (refine no_implicit_lambda% (awd1 ?_)) | (((with_reducible refine no_implicit_lambda% (is_aops ?_)); refine no_implicit_lambda% (o_split rfl rfl rfl (fun hc => ?_) (fun hc => ?_)) <;> first | exact decx hc | rw [hc])) | (((with_reducible refine no_implicit_lambda% (is_cond ?_)); refine no_implicit_lambda% (c_cond rfl (fun hc => ?_) (fun hc => ?_)) <;> first | exact decx hc | skip)) | (((with_reducible refine no_implicit_lambda% (is_aop ?_)); refine no_implicit_lambda% (a_pick rfl rfl (fun hc => ?_) (fun hc => ?_)) <;> first | exact decx hc | rw [hc])) | (refine no_implicit_lambda% (ans ?_)) | (with_reducible exact retN) | (with_reducible exact retP) | (refine no_implicit_lambda% (cal [] (hcc) ?_ ?_)) | fail)
                exact e_ret (H' := []) (rest := _) rfl ⟨rfl, rfl⟩ permT (Nat.le_of_ble_eq_true rfl)
              · intro Kx kN kP kR kE
                rcases d with _ | ⟨d0, d⟩
                · have hdl := delete_s F cp (npos o s) (by omega) (by omega) (by omega) c2
                  rw [hFl] at hdl
                  rw [if_pos rfl, ← hEr] at hq
                  have hel : (F.eraseIdx (npos o s)).length = o.length - 1 := by rw [List.length_eraseIdx_of_lt (by omega)]; omega
                  repeat' (first | (refine no_implicit_lambda% (awd1 ?_)) | (((with_reducible refine no_implicit_lambda% (is_aops ?_)); refine no_implicit_lambda% (o_split rfl rfl rfl (fun hc => ?_) (fun hc => ?_)) <;> first | exact decx hc | rw [hc])) | (((with_reducible refine no_implicit_lambda% (is_cond ?_)); refine no_implicit_lambda% (c_cond rfl (fun hc => ?_) (fun hc => ?_)) <;> first | exact decx hc | skip)) | (((with_reducible refine no_implicit_lambda% (is_aop ?_)); refine no_implicit_lambda% (a_pick rfl rfl (fun hc => ?_) (fun hc => ?_)) <;> first | exact decx hc | rw [hc])) | (refine no_implicit_lambda% (ans ?_)) | (with_reducible exact retN) | (with_reducible exact retP) | fail | fail)
                  rw [show IntKind.i64.wrap ((npos o s : Int) + 1) = ((npos o s + 1 : Nat) : Int) by rw [z64 (by omega) (by omega)]; omega]
                  (refine no_implicit_lambda% (cal [3] (hdl) ?_ ?_))
                  · refine no_implicit_lambda% (ret1 ?_); first | (refine no_implicit_lambda% (akc ?_)) | (refine no_implicit_lambda% (aec ?_))
                    repeat' (first | (refine no_implicit_lambda% (awd1 ?_)) | (((with_reducible refine no_implicit_lambda% (is_aops ?_)); refine no_implicit_lambda% (o_split rfl rfl rfl (fun hc => ?_) (fun hc => ?_)) <;> first | exact decx hc | rw [hc])) | (((with_reducible refine no_implicit_lambda% (is_cond ?_)); refine no_implicit_lambda% (c_cond rfl (fun hc => ?_) (fun hc => ?_)) <;> first | exact decx hc | skip)) | (((with_reducible refine no_implicit_lambda% (is_aop ?_)); refine no_implicit_lambda% (a_pick rfl rfl (fun hc => ?_) (fun hc => ?_)) <;> first | exact decx hc | rw [hc])) | (refine no_implicit_lambda% (ans ?_)) | (with_reducible exact retN) | (with_reducible exact retP) | fail | fail)
                    refine kN _ _ _ _ hq.symm (.inl ((Conv.freezeBox (j := 0) (id := 3) (bid := 5) (sz := 2) (rows := (F.eraseIdx (npos o s)).map corow) (k := (cp - (o.length - 1)) * 2) (m := o.length - 1) (cp := cp) (cells := [.arr 3 0 (o.length - 1) cp]) (permT (H := [(3, .seq ((F.eraseIdx (npos o s)).map corow) ((cp - (o.length - 1)) * 2)), (5, .box [.arr 3 0 (o.length - 1) cp])])) rfl (coOk _) (by rw [List.length_map, hel])).trans ?_))
                    (refine no_implicit_lambda% (Conv.toT ?_ ?_ (Nat.le_of_ble_eq_true rfl))); (focus ((unfold pdSt); (try dsimp only); exact wkl)); (focus ((unfold pdSt); (try dsimp only); exact wkh))
                  · first | (exact retN) | (exact retP)
                · have hne : ((((d0 :: d).map verow).length : Int) == 0) = false := by simp; omega
                  rw [if_neg (by simp)] at hq
                  repeat' (first | (refine no_implicit_lambda% (awd1 ?_)) | (((with_reducible refine no_implicit_lambda% (is_aops ?_)); refine no_implicit_lambda% (o_split rfl rfl rfl (fun hc => ?_) (fun hc => ?_)) <;> first | exact decx hc | rw [hc])) | (((with_reducible refine no_implicit_lambda% (is_cond ?_)); refine no_implicit_lambda% (c_cond rfl (fun hc => ?_) (fun hc => ?_)) <;> first | exact decx hc | skip)) | (((with_reducible refine no_implicit_lambda% (is_aop ?_)); refine no_implicit_lambda% (a_pick rfl rfl (fun hc => ?_) (fun hc => ?_)) <;> first | exact decx hc | rw [hc])) | (refine no_implicit_lambda% (ans ?_)) | (with_reducible exact retN) | (with_reducible exact retP) | fail | fail)
                  refine kN _ _ _ _ hq.symm (.inl ((Conv.freezeBox (j := 0) (id := 3) (bid := 5) (sz := 2) (rows := F.map corow) (k := (cp - o.length) * 2) (m := o.length) (cp := cp) (cells := [.arr 3 0 o.length cp]) (permT (H := [(3, .seq (F.map corow) ((cp - o.length) * 2)), (5, .box [.arr 3 0 o.length cp])])) rfl (coOk _) (by rw [List.length_map, hFl])).trans ?_))
                  (refine no_implicit_lambda% (Conv.toT ?_ ?_ (Nat.le_of_ble_eq_true rfl))); (focus ((unfold pdSt); (try dsimp only); exact wkl)); (focus ((unfold pdSt); (try dsimp only); exact wkh))
          · show (true && (true && Nat.ble ((o.take (npos o s)).length * 2 + 1 + 1) (seqC (nrows (o.take (npos o s)) c.n (.arr 4 0 c.l.length cpv) (o.drop (npos o s + 1))) ((cp - o.length) * 2)).length)) = true
            rw [Bool.true_and, Bool.true_and, Nat.ble_eq, seqC_len nrows_row, nrows_len]
            omega
          · show AV.ptr 3 (0 + (npos o s : Int).toNat * 2 + 1) = .ptr 3 ((o.take (npos o s)).length * 2 + 1)
            rw [Int.toNat_natCast, Nat.zero_add, hoc]
        · first | (exact retN) | (exact retP)
      · exact retN
    · intro xx H' hh
      obtain ⟨_, _, _, _, _, _, _, _, h', _⟩ := hh
      cases h'
end Go.Proofs.Ytncffhgoopdfgaa
namespace Go.Proofs.Ytncffhgoopdfgaa
open Go.Am
set_option linter.unusedSimpArgs false
set_option linter.unusedVariables false
set_option maxRecDepth 100000
theorem qcopy_n (r : List Co) (hr : r.length < 70368744177664) (hs : RowSz r) : ACalls Try.prog 91 0 1 [rowA r] [] (CN (copyR r)) :=
  (qcopy_s r hr hs).ren (Nat.zero_le _) fun out H' hh => by
    obtain ⟨id, cp, h0, h1, h2, rfl, rfl⟩ := hh
    refine ⟨[id], .ret (.agg [.arr 0 0 (copyR r).length cp]), [(0, .seq ((copyR r).map corow) ((cp - (copyR r).length) * 2))], by simp, (fun i h => by simp at h; omega), (fun i h => absurd h (Nat.not_lt_zero i)), Nat.le_refl _, ?_, ?_, cp, h1, h2, rfl, rfl⟩
    · simp [AOut.ren, AV.ren, AV.renL, rn]
    · simp [renH, Res.ren, rn]
theorem qfind_o (o : List Co) (s : ByteArray) (cp : Nat) (hl : o.length < 1000000) (hs : Nsort o) : ACalls Try.prog 104 1 1 [.agg [.arr 0 0 o.length cp], .v (.string s)] [(0, .seq (o.map corow) ((cp - o.length) * 2))] (fun out H' => out = .ret (.tuple [.v (.int .i64 (npos o s)), .v (.bool (hasN o s))]) ∧ H' = [(0, .seq (o.map corow) ((cp - o.length) * 2))]) :=
  ((qfind_f o s hl hs).borrow (k := 1) (top := 1) (args := [.agg [.arr 0 0 o.length cp], .v (.string s)]) (H := [(0, .seq (o.map corow) ((cp - o.length) * 2))]) rfl (fun out H' hh => by obtain ⟨rfl, rfl⟩ := hh; rfl) (fun i a' ha => by
    match i with
    | 0 =>
      simp at ha; subst ha
      refine ⟨_, rfl, .agg rfl fun j b hb => ?_⟩
      match j with
      | 0 =>
        simp at hb; subst hb
        exact ⟨_, rfl, .seq (k := (cp - o.length) * 2) (by simp) (coOk o) (by simp)⟩
      | j + 1 => simp at hb
    | 1 =>
      simp at ha; subst ha
      exact ⟨_, rfl, .data rfl⟩
    | i + 2 => simp at ha)).mono fun out H' hh => by
      obtain ⟨⟨_, h1, _⟩, h2⟩ := hh
      exact ⟨h1, h2⟩
theorem ins_eq2 {l : List Ve} {x : Ve} {j : Nat} (hs : Vsort l) (h1 : ∀ y ∈ l.take j, x.t < y.t) (h2 : ∀ y, l[j]? = some y → ¬ x.t < y.t) : l.take j ++ x :: dropV (l.drop j) x.t = insV l x := by
  have hB : ∀ y ∈ l.drop j, y.t ≤ x.t := fun y hy => by
    obtain ⟨i, hi⟩ := List.getElem?_of_mem hy
    rw [List.getElem?_drop] at hi
    obtain ⟨z, hz⟩ : ∃ z, l[j]? = some z := ⟨_, List.getElem?_eq_getElem (by have := (List.getElem?_eq_some_iff.1 hi).1; omega)⟩
    have hz1 := h2 z hz
    rcases Nat.eq_zero_or_pos i with rfl | h0
    · rw [Nat.add_zero, hz] at hi
      cases hi; omega
    · have := List.pairwise_iff_getElem.1 hs j (j + i) (List.getElem?_eq_some_iff.1 hz).1 (List.getElem?_eq_some_iff.1 hi).1 (by omega)
      rw [(List.getElem?_eq_some_iff.1 hz).2, (List.getElem?_eq_some_iff.1 hi).2] at this
      omega
  have e1 : l.filter (fun y => decide (x.t < y.t)) = l.take j := by
    conv => lhs; rw [← List.take_append_drop j l]
    rw [List.filter_append, List.filter_eq_self.2 fun y hy => decide_eq_true (h1 y hy), List.filter_eq_nil_iff.2 fun y hy => by have := hB y hy; simp; omega, List.append_nil]
  have e2 : l.filter (fun y => decide (y.t < x.t)) = dropV (l.drop j) x.t := by
    conv => lhs; rw [← List.take_append_drop j l]
    rw [List.filter_append, List.filter_eq_nil_iff.2 fun y hy => by have := h1 y hy; simp; omega, List.nil_append]
    unfold dropV
    exact List.filter_congr fun y hy => decide_eq_decide.2 (by have := hB y hy; omega)
  unfold insV
  rw [e1, e2]
def qtSt (t : Int) (v : Va) (F0 : List Co) (cp i : Nat) : ASt := ⟨([.dead, .dead, .v (.int .i64 t), .dead, .dead, .dead, .dead, .ptr 0 0, .ptr 1 0, .dead, .ptr 2 0, .v (.int .i64 i)] ++ List.replicate 119 .dead), [(0, .box (vrowV v)), (1, .box [.list [] .full]), (2, .box [.arr 3 0 F0.length cp]), (3, .seq (F0.map corow) ((cp - F0.length) * 2))], 4⟩
def q1St (t : Int) (v : Va) (F0 : List Co) (cp i : Nat) (l q : List Ve) (k : Nat) : ASt := ⟨([.dead, .dead, .v (.int .i64 t), .dead, .dead, .dead, .dead, .ptr 0 0, .ptr 1 0, .dead, .ptr 2 0, .v (.int .i64 i), .dead, .list (l.map verow) .free, .list (q.map verow) (.tok 4), .v (.int .i64 k)] ++ List.replicate 115 .dead), [(4, .tok 4 q.length), (0, .box (vrowV v)), (1, .box [.list [] .full]), (2, .box [.arr 3 0 F0.length cp]), (3, .seq (F0.map corow) ((cp - F0.length) * 2))], 90⟩
def q2St (t : Int) (v : Va) (F0 : List Co) (cp i : Nat) (l q : List Ve) (k : Nat) : ASt := ⟨([.dead, .dead, .v (.int .i64 t), .dead, .dead, .dead, .dead, .ptr 0 0, .ptr 1 0, .dead, .ptr 2 0, .v (.int .i64 i), .dead, .list (l.map verow) .free, .list (q.map verow) (.tok 4), .v (.int .i64 k)] ++ List.replicate 115 .dead), [(4, .tok 4 q.length), (0, .box (vrowV v)), (1, .box [.list [] .full]), (2, .box [.arr 3 0 F0.length cp]), (3, .seq (F0.map corow) ((cp - F0.length) * 2))], 100⟩
theorem dropV_take {l : List Ve} {k : Nat} {y : Ve} {t : Int} (h : l[k]? = some y) : dropV (l.take (k + 1)) t = dropV (l.take k) t ++ (if y.t = t then [] else [y]) := by
  rw [List.take_add_one, h]
  exact dropV_snoc _ _ _
def q3St (t : Int) (v : Va) (F0 : List Co) (cp i : Nat) (q : List Ve) : ASt := ⟨(List.replicate 8 .dead ++ [.ptr 1 0, .dead, .ptr 2 0, .v (.int .i64 i), .dead, .dead, .list (q.map verow) .free] ++ List.replicate 116 .dead), [(1, .box [.list [] .full]), (2, .box [.arr 3 0 F0.length cp]), (3, .seq (F0.map corow) ((cp - F0.length) * 2))], 200⟩
set_option maxHeartbeats 3200000 in
theorem qput_rest (t : Int) (v : Va) (hv : v.b.length < 1073741824 ∧ v.n < 18446744073709551616) (R : AOut → Heap → Prop) (F F0 : List Co) (cp i : Nat) (c : Co) (hR : ∀ out H', putQ F out H' → R out H') (h4 : F0.length ≤ 4) (hFc : F0[i]? = some c) (hvs : Vsort c.l) (hl2 : c.l.length ≤ 2) (h1 : F0.length ≤ cp) (h2 : cp ≤ maxLen) (hF : F0.set i (putC c ⟨t, canV v⟩) = F) :
    acode Try.prog TT { run := DD, low := fun N => 0 ≤ N } (seqTail 5 (Try.f92.body.getD .skip)) (qtSt t v F0 cp i).slots (qtSt t v F0 cp i).L (qtSt t v F0 cp i).next (aend Try.prog TT (Try.f92.results.toList) 9000 R) := by
  have hi : i < F0.length := (List.getElem?_eq_some_iff.1 hFc).1
  have hcn := refCanon_c v (by omega) hv.2
  refine c_turn (n' := 4) (fun _ h => h) (fun _ h => h) rfl ?_
  refine c_seq ?_
  repeat' (first | (refine no_implicit_lambda% (awd1 ?_)) | (((with_reducible refine no_implicit_lambda% (is_aops ?_)); refine no_implicit_lambda% (o_split rfl rfl rfl (fun hc => ?_) (fun hc => ?_)) <;> first | exact decx hc | rw [hc])) | (((with_reducible refine no_implicit_lambda% (is_cond ?_)); refine no_implicit_lambda% (c_cond rfl (fun hc => ?_) (fun hc => ?_)) <;> first | exact decx hc | skip)) | (((with_reducible refine no_implicit_lambda% (is_aop ?_)); refine no_implicit_lambda% (a_pick rfl rfl (fun hc => ?_) (fun hc => ?_)) <;> first | exact decx hc | rw [hc])) | (refine no_implicit_lambda% (ans ?_)) | (with_reducible exact retN) | (with_reducible exact retP) | fail | fail)
  ((with_reducible refine no_implicit_lambda% (is_aop ?_)); first | (refine no_implicit_lambda% (a_qS rfl (fun _ h => h) ?_ ?_)) | (refine no_implicit_lambda% (a_qS rfl (qIx (fun _ h => h)) ?_ ?_)) | (refine no_implicit_lambda% (a_qS rfl (qAnd5 (fun _ h => h)) ?_ ?_)) | (refine no_implicit_lambda% (a_qS rfl (qStr (fun _ h => h)) ?_ ?_)) | (refine no_implicit_lambda% (a_qS rfl (qAnd4 (fun _ h => h)) ?_ ?_)) | (refine no_implicit_lambda% (a_qS rfl (qAnd2 (fun _ h => h)) ?_ ?_))); focus (first | omega | (simp; done) | (simp; omega))
  repeat' (first | (refine no_implicit_lambda% (awd1 ?_)) | (((with_reducible refine no_implicit_lambda% (is_aops ?_)); refine no_implicit_lambda% (o_split rfl rfl rfl (fun hc => ?_) (fun hc => ?_)) <;> first | exact decx hc | rw [hc])) | (((with_reducible refine no_implicit_lambda% (is_cond ?_)); refine no_implicit_lambda% (c_cond rfl (fun hc => ?_) (fun hc => ?_)) <;> first | exact decx hc | skip)) | (((with_reducible refine no_implicit_lambda% (is_aop ?_)); refine no_implicit_lambda% (a_pick rfl rfl (fun hc => ?_) (fun hc => ?_)) <;> first | exact decx hc | rw [hc])) | (refine no_implicit_lambda% (ans ?_)) | (with_reducible exact retN) | (with_reducible exact retP) | fail | fail)
  ((with_reducible refine no_implicit_lambda% (is_aop ?_)); refine no_implicit_lambda% (a_loadSeq (sz := 2) (rows := F0.map corow) (i := i) (j := 1) rfl rfl rfl rfl rfl (coOk F0) ((by rw [List.getElem?_map, hFc]; rfl)) rfl (by first | rfl | (simp; done) | (simp; omega)) ?_))
  repeat' (first | (refine no_implicit_lambda% (sx1 ?_)) | (((with_reducible refine no_implicit_lambda% (is_aops ?_)); refine no_implicit_lambda% (o_split rfl rfl rfl (fun hc => ?_) (fun hc => ?_)) <;> first | exact decx hc | rw [hc])) | (((with_reducible refine no_implicit_lambda% (is_cond ?_)); refine no_implicit_lambda% (c_cond rfl (fun hc => ?_) (fun hc => ?_)) <;> first | exact decx hc | skip)) | (((with_reducible refine no_implicit_lambda% (is_aop ?_)); refine no_implicit_lambda% (a_pick rfl rfl (fun hc => ?_) (fun hc => ?_)) <;> first | exact decx hc | rw [hc])) | fail)
  refine k_seq ?_
  repeat' (first | (refine no_implicit_lambda% (sx1 ?_)) | (((with_reducible refine no_implicit_lambda% (is_aops ?_)); refine no_implicit_lambda% (o_split rfl rfl rfl (fun hc => ?_) (fun hc => ?_)) <;> first | exact decx hc | rw [hc])) | (((with_reducible refine no_implicit_lambda% (is_cond ?_)); refine no_implicit_lambda% (c_cond rfl (fun hc => ?_) (fun hc => ?_)) <;> first | exact decx hc | skip)) | (((with_reducible refine no_implicit_lambda% (is_aop ?_)); refine no_implicit_lambda% (a_pick rfl rfl (fun hc => ?_) (fun hc => ?_)) <;> first | exact decx hc | rw [hc])) | fail)
  refine k_seq ?_
  repeat' (first | (refine no_implicit_lambda% (sx1 ?_)) | (((with_reducible refine no_implicit_lambda% (is_aops ?_)); refine no_implicit_lambda% (o_split rfl rfl rfl (fun hc => ?_) (fun hc => ?_)) <;> first | exact decx hc | rw [hc])) | (((with_reducible refine no_implicit_lambda% (is_cond ?_)); refine no_implicit_lambda% (c_cond rfl (fun hc => ?_) (fun hc => ?_)) <;> first | exact decx hc | skip)) | (((with_reducible refine no_implicit_lambda% (is_aop ?_)); refine no_implicit_lambda% (a_pick rfl rfl (fun hc => ?_) (fun hc => ?_)) <;> first | exact decx hc | rw [hc])) | fail)
  refine k_seq ?_
  refine c_seq ?_
  -- behind the first loop
  refine c_cutR (fun j => q1St t v F0 cp i c.l (c.l.take j) j) (fun j => j ≤ c.l.length ∧ c.l.take j ++ ⟨t, canV v⟩ :: dropV (c.l.drop j) t = insV c.l ⟨t, canV v⟩) ?_ ?_
  · rintro j ⟨j1, j2⟩
    refine c_turn (n' := 90) (fun _ h => h) (fun _ h => h) rfl ?_
    have hlj : (c.l.take j).length ≤ 2 := by rw [List.length_take]; omega
    repeat' (first | (refine no_implicit_lambda% (awd1 ?_)) | (((with_reducible refine no_implicit_lambda% (is_aops ?_)); refine no_implicit_lambda% (o_split rfl rfl rfl (fun hc => ?_) (fun hc => ?_)) <;> first | exact decx hc | rw [hc])) | (((with_reducible refine no_implicit_lambda% (is_cond ?_)); refine no_implicit_lambda% (c_cond rfl (fun hc => ?_) (fun hc => ?_)) <;> first | exact decx hc | skip)) | (((with_reducible refine no_implicit_lambda% (is_aop ?_)); refine no_implicit_lambda% (a_pick rfl rfl (fun hc => ?_) (fun hc => ?_)) <;> first | exact decx hc | rw [hc])) | (refine no_implicit_lambda% (ans ?_)) | (with_reducible exact retN) | (with_reducible exact retP) | (refine no_implicit_lambda% (cal [] (hcn) ?_ ?_)) | fail)
    refine c_loop2 (fun q k => q2St t v F0 cp i c.l q k) (fun q k => j ≤ k ∧ k ≤ c.l.length ∧ q = c.l.take j ++ ⟨t, canV v⟩ :: dropV ((c.l.drop j).take (k - j)) t) (fun _ k => c.l.length - k) (c.l.take j ++ [⟨t, canV v⟩]) j ⟨Nat.le_refl _, j1, by simp [dropV]⟩ ?_ ?_
    · (refine no_implicit_lambda% (Conv.toT ?_ ?_ (Nat.le_of_ble_eq_true rfl))); (focus ((unfold q2St); (try dsimp only); exact wkl)); (focus ((unfold q2St); (try dsimp only); exact wkh))
    · rintro q k ⟨k1, k2, hq⟩
      refine c_turn (n' := 100) (fun _ h => h) (fun _ h => h) rfl ?_
      have hdl := dropV_len ((c.l.drop j).take (k - j)) t
      have hql : q.length ≤ 3 := by
        rw [hq, List.length_append, List.length_cons]
        simp only [List.length_take, List.length_drop] at *
        omega
      rcases hy : c.l[k]? with _ | y
      · have hk : k = c.l.length := by have := List.getElem?_eq_none_iff.1 hy; omega
        have hqp : q.take 2 = putV c.l ⟨t, canV v⟩ := by
          unfold putV
          have e : (c.l.drop j).take (c.l.length - j) = c.l.drop j := List.take_of_length_le (by rw [List.length_drop]; omega)
          rw [hq, hk, e, j2]
        repeat' (first | (refine no_implicit_lambda% (sx1 ?_)) | (((with_reducible refine no_implicit_lambda% (is_aops ?_)); refine no_implicit_lambda% (o_split rfl rfl rfl (fun hc => ?_) (fun hc => ?_)) <;> first | exact decx hc | rw [hc])) | (((with_reducible refine no_implicit_lambda% (is_cond ?_)); refine no_implicit_lambda% (c_cond rfl (fun hc => ?_) (fun hc => ?_)) <;> first | exact decx hc | skip)) | (((with_reducible refine no_implicit_lambda% (is_aop ?_)); refine no_implicit_lambda% (a_pick rfl rfl (fun hc => ?_) (fun hc => ?_)) <;> first | exact decx hc | rw [hc])) | fail)
        refine k_seq ?_
        repeat' (first | (refine no_implicit_lambda% (sx1 ?_)) | (((with_reducible refine no_implicit_lambda% (is_aops ?_)); refine no_implicit_lambda% (o_split rfl rfl rfl (fun hc => ?_) (fun hc => ?_)) <;> first | exact decx hc | rw [hc])) | (((with_reducible refine no_implicit_lambda% (is_cond ?_)); refine no_implicit_lambda% (c_cond rfl (fun hc => ?_) (fun hc => ?_)) <;> first | exact decx hc | skip)) | (((with_reducible refine no_implicit_lambda% (is_aop ?_)); refine no_implicit_lambda% (a_pick rfl rfl (fun hc => ?_) (fun hc => ?_)) <;> first | exact decx hc | rw [hc])) | fail)
        refine k_seq ?_
        repeat' (first | (refine no_implicit_lambda% (sx1 ?_)) | (((with_reducible refine no_implicit_lambda% (is_aops ?_)); refine no_implicit_lambda% (o_split rfl rfl rfl (fun hc => ?_) (fun hc => ?_)) <;> first | exact decx hc | rw [hc])) | (((with_reducible refine no_implicit_lambda% (is_cond ?_)); refine no_implicit_lambda% (c_cond rfl (fun hc => ?_) (fun hc => ?_)) <;> first | exact decx hc | skip)) | (((with_reducible refine no_implicit_lambda% (is_aop ?_)); refine no_implicit_lambda% (a_pick rfl rfl (fun hc => ?_) (fun hc => ?_)) <;> first | exact decx hc | rw [hc])) | fail)
        refine k_seq ?_
        refine c_cutR (fun _ : Unit => q3St t v F0 cp i (putV c.l ⟨t, canV v⟩)) (fun _ => True) ?_ ?_
        · rintro _ _
          have hFl : F.length = F0.length := by rw [← hF]; exact List.length_set ..
          refine c_turn (n' := 200) (fun _ h => h) (fun _ h => h) rfl ?_
          repeat' (first | (refine no_implicit_lambda% (awd1 ?_)) | (((with_reducible refine no_implicit_lambda% (is_aops ?_)); refine no_implicit_lambda% (o_split rfl rfl rfl (fun hc => ?_) (fun hc => ?_)) <;> first | exact decx hc | rw [hc])) | (((with_reducible refine no_implicit_lambda% (is_cond ?_)); refine no_implicit_lambda% (c_cond rfl (fun hc => ?_) (fun hc => ?_)) <;> first | exact decx hc | skip)) | (((with_reducible refine no_implicit_lambda% (is_aop ?_)); refine no_implicit_lambda% (a_pick rfl rfl (fun hc => ?_) (fun hc => ?_)) <;> first | exact decx hc | rw [hc])) | (refine no_implicit_lambda% (ans ?_)) | (with_reducible exact retN) | (with_reducible exact retP) | fail | fail)
          ((with_reducible refine no_implicit_lambda% (is_aop ?_)); first | (refine no_implicit_lambda% (a_qS rfl (fun _ h => h) ?_ ?_)) | (refine no_implicit_lambda% (a_qS rfl (qIx (fun _ h => h)) ?_ ?_)) | (refine no_implicit_lambda% (a_qS rfl (qAnd5 (fun _ h => h)) ?_ ?_)) | (refine no_implicit_lambda% (a_qS rfl (qStr (fun _ h => h)) ?_ ?_)) | (refine no_implicit_lambda% (a_qS rfl (qAnd4 (fun _ h => h)) ?_ ?_)) | (refine no_implicit_lambda% (a_qS rfl (qAnd2 (fun _ h => h)) ?_ ?_))); focus (first | omega | (simp; done) | (simp; omega))
          repeat' (first | (refine no_implicit_lambda% (awd1 ?_)) | (((with_reducible refine no_implicit_lambda% (is_aops ?_)); refine no_implicit_lambda% (o_split rfl rfl rfl (fun hc => ?_) (fun hc => ?_)) <;> first | exact decx hc | rw [hc])) | (((with_reducible refine no_implicit_lambda% (is_cond ?_)); refine no_implicit_lambda% (c_cond rfl (fun hc => ?_) (fun hc => ?_)) <;> first | exact decx hc | skip)) | (((with_reducible refine no_implicit_lambda% (is_aop ?_)); refine no_implicit_lambda% (a_pick rfl rfl (fun hc => ?_) (fun hc => ?_)) <;> first | exact decx hc | rw [hc])) | (refine no_implicit_lambda% (ans ?_)) | (with_reducible exact retN) | (with_reducible exact retP) | fail | fail)
          ((with_reducible refine no_implicit_lambda% (is_aop ?_)); refine no_implicit_lambda% (a_storeSeq (sz := 2) (rows := F0.map corow) (i := i) (j := 1) (row' := [.v (.string c.n), .list ((putV c.l ⟨t, canV v⟩).map verow) .free]) rfl rfl rfl (fun _ h => h) rfl rfl (coOk F0) ((by rw [List.getElem?_map, hFc]; rfl)) (by first | decide | (simp; done)) (by first | rfl | (simp; done)) (by first | rfl | (simp; done) | (simp; omega)) ?_))
          rw [show (F0.map corow).set i [.v (.string c.n), .list ((putV c.l ⟨t, canV v⟩).map verow) .free] = F.map corow by rw [← hF, List.map_set]; rfl]
          repeat' (first | (refine no_implicit_lambda% (awd1 ?_)) | (((with_reducible refine no_implicit_lambda% (is_aops ?_)); refine no_implicit_lambda% (o_split rfl rfl rfl (fun hc => ?_) (fun hc => ?_)) <;> first | exact decx hc | rw [hc])) | (((with_reducible refine no_implicit_lambda% (is_cond ?_)); refine no_implicit_lambda% (c_cond rfl (fun hc => ?_) (fun hc => ?_)) <;> first | exact decx hc | skip)) | (((with_reducible refine no_implicit_lambda% (is_aop ?_)); refine no_implicit_lambda% (a_pick rfl rfl (fun hc => ?_) (fun hc => ?_)) <;> first | exact decx hc | rw [hc])) | (refine no_implicit_lambda% (ans ?_)) | (with_reducible exact retN) | (with_reducible exact retP) | fail | fail)
          exact e_ret_to (H' := []) (rest := _) (Conv.freezeBox (j := 0) (id := 3) (bid := 1) (sz := 2) (rows := F.map corow) (k := (cp - F0.length) * 2) (m := F0.length) (cp := cp) (cells := [.arr 3 0 F0.length cp]) (permT (H := [(3, .seq (F.map corow) ((cp - F0.length) * 2)), (1, .box [.arr 3 0 F0.length cp])])) rfl (coOk F) (by rw [List.length_map, hFl])) rfl (hR _ _ ⟨rfl, rfl⟩) (.of_eq (by simp; rfl)) (Nat.le_of_ble_eq_true rfl)
        · intro Kx kN kP kR kE
          repeat' (first | (refine no_implicit_lambda% (awd1 ?_)) | (((with_reducible refine no_implicit_lambda% (is_aops ?_)); refine no_implicit_lambda% (o_split rfl rfl rfl (fun hc => ?_) (fun hc => ?_)) <;> first | exact decx hc | rw [hc])) | (((with_reducible refine no_implicit_lambda% (is_cond ?_)); refine no_implicit_lambda% (c_cond rfl (fun hc => ?_) (fun hc => ?_)) <;> first | exact decx hc | skip)) | (((with_reducible refine no_implicit_lambda% (is_aop ?_)); refine no_implicit_lambda% (a_pick rfl rfl (fun hc => ?_) (fun hc => ?_)) <;> first | exact decx hc | rw [hc])) | (refine no_implicit_lambda% (ans ?_)) | (with_reducible exact retN) | (with_reducible exact retP) | fail | fail)
          · have hq3 : 2 ≤ q.length := by have := of_decide_eq_true hc; rw [List.length_map] at this; omega
            ((with_reducible refine no_implicit_lambda% (is_aop ?_)); first | (refine no_implicit_lambda% (a_qS rfl (fun _ h => h) ?_ ?_)) | (refine no_implicit_lambda% (a_qS rfl (qIx (fun _ h => h)) ?_ ?_)) | (refine no_implicit_lambda% (a_qS rfl (qAnd5 (fun _ h => h)) ?_ ?_)) | (refine no_implicit_lambda% (a_qS rfl (qStr (fun _ h => h)) ?_ ?_)) | (refine no_implicit_lambda% (a_qS rfl (qAnd4 (fun _ h => h)) ?_ ?_)) | (refine no_implicit_lambda% (a_qS rfl (qAnd2 (fun _ h => h)) ?_ ?_))); focus ((repeat' (refine no_implicit_lambda% (And.intro ?_ ?_))) <;> (first | exact trivial | exact (veOk q).len | exact Int.natCast_nonneg _ | omega | (simp; done) | (simp; omega) | ((show (0 : Int) ≤ _); omega)))
            repeat' (first | (refine no_implicit_lambda% (awd1 ?_)) | (((with_reducible refine no_implicit_lambda% (is_aops ?_)); refine no_implicit_lambda% (o_split rfl rfl rfl (fun hc => ?_) (fun hc => ?_)) <;> first | exact decx hc | rw [hc])) | (((with_reducible refine no_implicit_lambda% (is_cond ?_)); refine no_implicit_lambda% (c_cond rfl (fun hc => ?_) (fun hc => ?_)) <;> first | exact decx hc | skip)) | (((with_reducible refine no_implicit_lambda% (is_aop ?_)); refine no_implicit_lambda% (a_pick rfl rfl (fun hc => ?_) (fun hc => ?_)) <;> first | exact decx hc | rw [hc])) | (refine no_implicit_lambda% (ans ?_)) | (with_reducible exact retN) | (with_reducible exact retP) | fail | fail)
            refine kN () _ _ _ trivial (.inl ?_)
            rw [show List.drop 0 (List.take (2 : Int).toNat (q.map verow)) = (putV c.l ⟨t, canV v⟩).map verow by rw [← hqp, List.map_take]; rfl]
            (refine no_implicit_lambda% (Conv.toT ?_ ?_ (Nat.le_of_ble_eq_true rfl))); (focus ((unfold q3St); (try dsimp only); exact wkl)); (focus ((unfold q3St); (try dsimp only); exact wkh))
          · have hq2 : q = putV c.l ⟨t, canV v⟩ := by
              rw [← hqp, List.take_of_length_le]
              have := of_decide_eq_false hc
              rw [List.length_map] at this
              omega
            refine kN () _ _ _ trivial (.inl ?_)
            rw [← hq2]
            (refine no_implicit_lambda% (Conv.toT ?_ ?_ (Nat.le_of_ble_eq_true rfl))); (focus ((unfold q3St); (try dsimp only); exact wkl)); (focus ((unfold q3St); (try dsimp only); exact wkh))
      · have hk : k < c.l.length := (List.getElem?_eq_some_iff.1 hy).1
        have hix := vex hy
        have hdt := dropV_take (t := t) (l := c.l.drop j) (k := k - j) (y := y) (by rw [List.getElem?_drop, show j + (k - j) = k by omega]; exact hy)
        rw [show k - j + 1 = k + 1 - j by omega] at hdt
        repeat' (first | (refine no_implicit_lambda% (awd1 ?_)) | (((with_reducible refine no_implicit_lambda% (is_aops ?_)); refine no_implicit_lambda% (o_split rfl rfl rfl (fun hc => ?_) (fun hc => ?_)) <;> first | exact decx hc | rw [hc])) | (((with_reducible refine no_implicit_lambda% (is_cond ?_)); refine no_implicit_lambda% (c_cond rfl (fun hc => ?_) (fun hc => ?_)) <;> first | exact decx hc | skip)) | (((with_reducible refine no_implicit_lambda% (is_aop ?_)); refine no_implicit_lambda% (a_pick rfl rfl (fun hc => ?_) (fun hc => ?_)) <;> first | exact decx hc | rw [hc])) | (refine no_implicit_lambda% (ans ?_)) | (with_reducible exact retN) | (with_reducible exact retP) | fail | fail)
        · have hne : y.t ≠ t := by simpa using hc
          (refine no_implicit_lambda% (k_loopLT (((q ++ [y], k + 1) : List Ve × Nat)) 0 (List.range 100) (by show j ≤ k + 1 ∧ k + 1 ≤ c.l.length ∧ q ++ [y] = c.l.take j ++ ⟨t, canV v⟩ :: dropV ((c.l.drop j).take (k + 1 - j)) t; exact ⟨by omega, hk, by rw [hdt, if_neg hne, hq]; simp⟩) (by first | omega | (simp; done) | (simp; omega)) (Nat.le_of_ble_eq_true rfl) (fun _ h => h) (fun _ h => h) ?_ ?_)); (focus ((try dsimp only); exact wkl)); (focus ((try dsimp only); exact wkh))
        · have hne : y.t = t := by simpa using hc
          (refine no_implicit_lambda% (k_loopLT (((q, k + 1) : List Ve × Nat)) 0 (List.range 100) (by show j ≤ k + 1 ∧ k + 1 ≤ c.l.length ∧ q = c.l.take j ++ ⟨t, canV v⟩ :: dropV ((c.l.drop j).take (k + 1 - j)) t; exact ⟨by omega, hk, by rw [hdt, if_pos hne, hq]; simp⟩) (by first | omega | (simp; done) | (simp; omega)) (Nat.le_of_ble_eq_true rfl) (fun _ h => h) (fun _ h => h) ?_ ?_)); (focus ((try dsimp only); exact wkl)); (focus ((try dsimp only); exact wkh))
  · intro Kx kN kP kR kE
    repeat' (first | (refine no_implicit_lambda% (awd1 ?_)) | (((with_reducible refine no_implicit_lambda% (is_aops ?_)); refine no_implicit_lambda% (o_split rfl rfl rfl (fun hc => ?_) (fun hc => ?_)) <;> first | exact decx hc | rw [hc])) | (((with_reducible refine no_implicit_lambda% (is_cond ?_)); refine no_implicit_lambda% (c_cond rfl (fun hc => ?_) (fun hc => ?_)) <;> first | exact decx hc | skip)) | (((with_reducible refine no_implicit_lambda% (is_aop ?_)); refine no_implicit_lambda% (a_pick rfl rfl (fun hc => ?_) (fun hc => ?_)) <;> first | exact decx hc | rw [hc])) | (refine no_implicit_lambda% (ans ?_)) | (with_reducible exact retN) | (with_reducible exact retP) | fail | fail)
    refine c_loop2 (fun q j => q1St t v F0 cp i c.l q j) (fun q j => q = c.l.take j ∧ j ≤ c.l.length ∧ ∀ y ∈ c.l.take j, t < y.t) (fun _ j => c.l.length - j) [] 0 ⟨rfl, Nat.zero_le _, by simp⟩ ((Conv.tokSlot (j := 14) (sz := 4) (rows := []) rfl (by simp)).trans ?_) ?_
    · (refine no_implicit_lambda% (Conv.toT ?_ ?_ (Nat.le_of_ble_eq_true rfl))); (focus ((unfold q1St); (try dsimp only); exact wkl)); (focus ((unfold q1St); (try dsimp only); exact wkh))
    · rintro q j ⟨hq, j1, j2⟩
      have hlj : q.length ≤ 2 := by rw [hq, List.length_take]; omega
      refine c_turn (n' := 90) (fun _ h => h) (fun _ h => h) rfl ?_
      rcases hy : c.l[j]? with _ | y
      · have hj : j = c.l.length := by have := List.getElem?_eq_none_iff.1 hy; omega
        repeat' (first | (refine no_implicit_lambda% (awd1 ?_)) | (((with_reducible refine no_implicit_lambda% (is_aops ?_)); refine no_implicit_lambda% (o_split rfl rfl rfl (fun hc => ?_) (fun hc => ?_)) <;> first | exact decx hc | rw [hc])) | (((with_reducible refine no_implicit_lambda% (is_cond ?_)); refine no_implicit_lambda% (c_cond rfl (fun hc => ?_) (fun hc => ?_)) <;> first | exact decx hc | skip)) | (((with_reducible refine no_implicit_lambda% (is_aop ?_)); refine no_implicit_lambda% (a_pick rfl rfl (fun hc => ?_) (fun hc => ?_)) <;> first | exact decx hc | rw [hc])) | (refine no_implicit_lambda% (ans ?_)) | (with_reducible exact retN) | (with_reducible exact retP) | fail | fail)
        refine kN j _ _ _ ⟨j1, ins_eq2 hvs j2 (fun y h => by rw [hy] at h; cases h)⟩ (.inl ?_)
        subst hq
        (refine no_implicit_lambda% (Conv.toT ?_ ?_ (Nat.le_of_ble_eq_true rfl))); (focus ((unfold q1St); (try dsimp only); exact wkl)); (focus ((unfold q1St); (try dsimp only); exact wkh))
      · have hj : j < c.l.length := (List.getElem?_eq_some_iff.1 hy).1
        have hix := vex hy
        have hts : c.l.take (j + 1) = c.l.take j ++ [y] := by rw [List.take_add_one, hy]; rfl
        repeat' (first | (refine no_implicit_lambda% (awd1 ?_)) | (((with_reducible refine no_implicit_lambda% (is_aops ?_)); refine no_implicit_lambda% (o_split rfl rfl rfl (fun hc => ?_) (fun hc => ?_)) <;> first | exact decx hc | rw [hc])) | (((with_reducible refine no_implicit_lambda% (is_cond ?_)); refine no_implicit_lambda% (c_cond rfl (fun hc => ?_) (fun hc => ?_)) <;> first | exact decx hc | skip)) | (((with_reducible refine no_implicit_lambda% (is_aop ?_)); refine no_implicit_lambda% (a_pick rfl rfl (fun hc => ?_) (fun hc => ?_)) <;> first | exact decx hc | rw [hc])) | (refine no_implicit_lambda% (ans ?_)) | (with_reducible exact retN) | (with_reducible exact retP) | fail | fail)
        · (refine no_implicit_lambda% (k_loopLT (((q ++ [y], j + 1) : List Ve × Nat)) 0 (List.range 90) (by show q ++ [y] = c.l.take (j + 1) ∧ j + 1 ≤ c.l.length ∧ ∀ z ∈ c.l.take (j + 1), t < z.t; exact ⟨by rw [hts, hq], hj, by rw [hts]; intro z hz; rcases List.mem_append.1 hz with hz | hz; exact j2 z hz; rw [List.mem_singleton.1 hz]; exact of_decide_eq_true hc⟩) (by first | omega | (simp; done) | (simp; omega)) (Nat.le_of_ble_eq_true rfl) (fun _ h => h) (fun _ h => h) ?_ ?_)); (focus ((try dsimp only); exact wkl)); (focus ((try dsimp only); exact wkh))
        · refine kN j _ _ _ ⟨j1, ins_eq2 hvs j2 (fun z h => by rw [hy] at h; cases h; exact of_decide_eq_false hc)⟩ (.inl ?_)
          subst hq
          (refine no_implicit_lambda% (Conv.toT ?_ ?_ (Nat.le_of_ble_eq_true rfl))); (focus ((unfold q1St); (try dsimp only); exact wkl)); (focus ((unfold q1St); (try dsimp only); exact wkh))
end Go.Proofs.Ytncffhgoopdfgaa
namespace Go.Proofs.Ytncffhgoopdfgaa
open Go.Am
set_option linter.unusedSimpArgs false
set_option linter.unusedVariables false
set_option maxRecDepth 100000
theorem ins_rows (o : List Co) (p : Nat) (s : ByteArray) : (o.take p).map corow ++ [[.v (.string s), .list [] .full]] ++ (o.drop p).map corow = nrows (o.take p) s (.list [] .full) (o.drop p) := by unfold nrows; simp
theorem wk_nrows {o1 : List Co} {nm : ByteArray} {v w : AV} {o2 : List Co} {k : Nat} (h : Wk v w) : WkL (seqC (nrows o1 nm v o2) k) (seqC (nrows o1 nm w o2) k) := by
  have e : ∀ z, seqC (nrows o1 nm z o2) k = ((o1.map corow).flatten ++ [AV.v (.string nm)]) ++ ([z] ++ ((o2.map corow).flatten ++ List.replicate k .dead)) := fun z => by unfold seqC nrows; simp
  rw [e v, e w]
  exact .app (.refl _) (.app (.cons h .nil) (.refl _))
set_option maxHeartbeats 3200000 in
theorem qput_c (r : List Co) (s : ByteArray) (t : Int) (v : Va) (hr : r.length < 70368744177664) (hs : RowSz r) (hv : v.b.length < 1073741824 ∧ v.n < 18446744073709551616) : ACalls Try.prog 92 0 9000 [rowA r, .v (.string s), .v (.int .i64 t), vav v] [] (PutRR (putR r s t v)) := by
  have hnm := rname_c s
  have hvr : ACalls Try.prog 115 0 10 [vav v] [] (fun out H' => out = .ret (.v (.bool (vRt v))) ∧ H' = []) := refRight_c v
  have hso := copy_sort r
  have h4 := copy_len r
  have hfi := copy_fine r
  have hbad : (nmB s && tmOk t && vRt v) = false → putR r s t v = (1, []) := fun h => by unfold putR; rw [h]; rfl
  have hgood : (nmB s && tmOk t && vRt v) = true → putR r s t v = (if hasN (copyR r) s = false ∧ (copyR r).length = 4 then (13, []) else (0, putA (copyR r) s ⟨t, canV v⟩)) := fun h => by unfold putR; rw [if_pos h]
  have hcn := qcopy_n r hr hs
  generalize putR r s t v = Q at *
  generalize copyR r = o at *
  refine no_implicit_lambda% (acalls_of tok dok (f := 92) ⟨Try.func92, rfl, by kernel_rfl⟩ ?_); refine no_implicit_lambda% (c_start (fun _ h => h) ?_)
  repeat' (first | (refine no_implicit_lambda% (awd1 ?_)) | (((with_reducible refine no_implicit_lambda% (is_aops ?_)); refine no_implicit_lambda% (o_split rfl rfl rfl (fun hc => ?_) (fun hc => ?_)) <;> first | exact decx hc | rw [hc])) | (((with_reducible refine no_implicit_lambda% (is_cond ?_)); refine no_implicit_lambda% (c_cond rfl (fun hc => ?_) (fun hc => ?_)) <;> first | exact decx hc | skip)) | (((with_reducible refine no_implicit_lambda% (is_aop ?_)); refine no_implicit_lambda% (a_pick rfl rfl (fun hc => ?_) (fun hc => ?_)) <;> first | exact decx hc | rw [hc])) | (refine no_implicit_lambda% (ans ?_)) | (with_reducible exact retN) | (with_reducible exact retP) | (refine no_implicit_lambda% (cal [] (hnm) ?_ ?_)) | (refine no_implicit_lambda% (cal [] (hvr) ?_ ?_)) | fail)
  iterate 4
    · have hb : Q = (1, []) := hbad (by unfold tmOk; simp only [Bool.not_eq_true', Bool.not_eq_false', decide_eq_true_eq, decide_eq_false_iff_not] at *; rw [Bool.eq_false_iff]; intro h; simp only [Bool.and_eq_true, decide_eq_true_eq] at h; first | omega | (simp_all; done))
      subst hb
      refine e_ret_to (H' := []) (rest := _) (Conv.toT (τ := ⟨_, [(2, .box [.list [] .free])], _⟩) (.refl _) ?_ (Nat.le_refl _)) rfl ⟨rfl, rfl⟩ (.of_eq rfl) (Nat.le_of_ble_eq_true rfl)
      exact wkh
  have hq := hgood (by unfold tmOk; simp only [Bool.not_eq_true', Bool.not_eq_false', decide_eq_true_eq, decide_eq_false_iff_not] at *; simp only [Bool.and_eq_true, decide_eq_true_eq]; refine ⟨⟨by assumption, by omega⟩, by assumption⟩)
  (refine no_implicit_lambda% (cal [] (hcn) ?_ ?_))
  · intro xx H' hh
    obtain ⟨cp, c1, c2, h', rfl⟩ := hh
    cases h'
    first | (refine no_implicit_lambda% (akc ?_)) | (refine no_implicit_lambda% (aec ?_))
    have hf := qfind_o o s cp (by omega) hso
    rcases hN : hasN o s with _ | _
    · rw [hN] at hf
      repeat' (first | (refine no_implicit_lambda% (awd1 ?_)) | (((with_reducible refine no_implicit_lambda% (is_aops ?_)); refine no_implicit_lambda% (o_split rfl rfl rfl (fun hc => ?_) (fun hc => ?_)) <;> first | exact decx hc | rw [hc])) | (((with_reducible refine no_implicit_lambda% (is_cond ?_)); refine no_implicit_lambda% (c_cond rfl (fun hc => ?_) (fun hc => ?_)) <;> first | exact decx hc | skip)) | (((with_reducible refine no_implicit_lambda% (is_aop ?_)); refine no_implicit_lambda% (a_pick rfl rfl (fun hc => ?_) (fun hc => ?_)) <;> first | exact decx hc | rw [hc])) | (refine no_implicit_lambda% (ans ?_)) | (with_reducible exact retN) | (with_reducible exact retP) | fail | fail)
      (refine no_implicit_lambda% (cal [13] (hf) ?_ ?_))
      · refine no_implicit_lambda% (ret1 ?_); first | (refine no_implicit_lambda% (akc ?_)) | (refine no_implicit_lambda% (aec ?_))
        repeat' (first | (refine no_implicit_lambda% (awd1 ?_)) | (((with_reducible refine no_implicit_lambda% (is_aops ?_)); refine no_implicit_lambda% (o_split rfl rfl rfl (fun hc => ?_) (fun hc => ?_)) <;> first | exact decx hc | rw [hc])) | (((with_reducible refine no_implicit_lambda% (is_cond ?_)); refine no_implicit_lambda% (c_cond rfl (fun hc => ?_) (fun hc => ?_)) <;> first | exact decx hc | skip)) | (((with_reducible refine no_implicit_lambda% (is_aop ?_)); refine no_implicit_lambda% (a_pick rfl rfl (fun hc => ?_) (fun hc => ?_)) <;> first | exact decx hc | rw [hc])) | (refine no_implicit_lambda% (ans ?_)) | (with_reducible exact retN) | (with_reducible exact retP) | fail | fail)
        · have hl4 : o.length = 4 := by have := of_decide_eq_true hc; omega
          rw [if_pos ⟨hN, hl4⟩] at hq
          subst hq
          refine e_ret_to (H' := []) (rest := _) (Conv.toT (τ := ⟨_, [(2, .box [.list [] .free])], _⟩) (.refl _) ?_ (Nat.le_refl _)) rfl ⟨rfl, rfl⟩ (.of_eq rfl) (Nat.le_of_ble_eq_true rfl)
          exact wkh
        · have hl4 : ¬ o.length = 4 := by have := of_decide_eq_false hc; omega
          have hpl := npos_le o s
          rw [if_neg (fun h => hl4 h.2)] at hq
          ((with_reducible refine no_implicit_lambda% (is_ev ?_)); first | (refine no_implicit_lambda% (v_qS rfl rfl rfl rfl (qAnd4 (fun _ h => h)) (fun _ h => h) ?_ ?_)) | (refine no_implicit_lambda% (v_qS rfl rfl rfl rfl (qAnd5 (fun _ h => h)) (fun _ h => h) ?_ ?_))); focus ((repeat' (refine no_implicit_lambda% (And.intro ?_ ?_))) <;> (first | exact trivial | exact Int.natCast_nonneg _ | omega | (simp; done) | (simp; omega) | ((show (0 : Int) ≤ _); omega)))
          repeat' (first | (refine no_implicit_lambda% (awd1 ?_)) | (((with_reducible refine no_implicit_lambda% (is_aops ?_)); refine no_implicit_lambda% (o_split rfl rfl rfl (fun hc => ?_) (fun hc => ?_)) <;> first | exact decx hc | rw [hc])) | (((with_reducible refine no_implicit_lambda% (is_cond ?_)); refine no_implicit_lambda% (c_cond rfl (fun hc => ?_) (fun hc => ?_)) <;> first | exact decx hc | skip)) | (((with_reducible refine no_implicit_lambda% (is_aop ?_)); refine no_implicit_lambda% (a_pick rfl rfl (fun hc => ?_) (fun hc => ?_)) <;> first | exact decx hc | rw [hc])) | (refine no_implicit_lambda% (ans ?_)) | (with_reducible exact retN) | (with_reducible exact retP) | fail | fail)
          ((with_reducible refine no_implicit_lambda% (is_ev ?_)); first | (refine no_implicit_lambda% (v_qS rfl rfl rfl rfl (qAnd4 (fun _ h => h)) (fun _ h => h) ?_ ?_)) | (refine no_implicit_lambda% (v_qS rfl rfl rfl rfl (qAnd5 (fun _ h => h)) (fun _ h => h) ?_ ?_))); focus ((repeat' (refine no_implicit_lambda% (And.intro ?_ ?_))) <;> (first | exact trivial | exact Int.natCast_nonneg _ | omega | (simp; done) | (simp; omega) | ((show (0 : Int) ≤ _); omega)))
          repeat' (first | (refine no_implicit_lambda% (awd1 ?_)) | (((with_reducible refine no_implicit_lambda% (is_aops ?_)); refine no_implicit_lambda% (o_split rfl rfl rfl (fun hc => ?_) (fun hc => ?_)) <;> first | exact decx hc | rw [hc])) | (((with_reducible refine no_implicit_lambda% (is_cond ?_)); refine no_implicit_lambda% (c_cond rfl (fun hc => ?_) (fun hc => ?_)) <;> first | exact decx hc | skip)) | (((with_reducible refine no_implicit_lambda% (is_aop ?_)); refine no_implicit_lambda% (a_pick rfl rfl (fun hc => ?_) (fun hc => ?_)) <;> first | exact decx hc | rw [hc])) | (refine no_implicit_lambda% (ans ?_)) | (with_reducible exact retN) | (with_reducible exact retP) | fail | fail)
          have hlt4 := hfi.len
          have hpe : (npos o s : Int).toNat = npos o s := Int.toNat_natCast _
          generalize hpp : npos o s = p at *
          have l1 : ((o.take p).map corow).length = p := by rw [List.length_map, List.length_take]; omega
          have l2 : ((o.drop p).map corow).length = o.length - p := by rw [List.length_map, List.length_drop]
          (with_reducible refine is_aop ?_)
          refine no_implicit_lambda% (a_appS0g (sz := 2) (B := 40) (m2 := p) (rows2 := (o.take p).map corow) rfl rfl rfl rfl rfl rfl rfl rfl rfl (.inl rfl) rfl rfl (fun K h => asrc_seqg (id := 13) (off := 0) (i := 0) (m := ((o.take p).map corow).length) (cp := cp) ?_ rfl (coOk o) ?_ (by simp) ?_ h) (coOk _) ⟨by omega, by omega⟩ l1 ?_)
          · rw [l1]
            show AV.arr 13 (0 + 0 * 2) ((p : Int).toNat - 0) (cp - 0) = AV.arr 13 0 p cp
            rw [hpe]; rfl
          · rw [l1, List.length_map]; omega
          · rw [l1, List.drop_zero, List.map_take]
          intro cp1 d1 d2
          refine no_implicit_lambda% (aec ?_)
          repeat' (first | (refine no_implicit_lambda% (awd1 ?_)) | (((with_reducible refine no_implicit_lambda% (is_aops ?_)); refine no_implicit_lambda% (o_split rfl rfl rfl (fun hc => ?_) (fun hc => ?_)) <;> first | exact decx hc | rw [hc])) | (((with_reducible refine no_implicit_lambda% (is_cond ?_)); refine no_implicit_lambda% (c_cond rfl (fun hc => ?_) (fun hc => ?_)) <;> first | exact decx hc | skip)) | (((with_reducible refine no_implicit_lambda% (is_aop ?_)); refine no_implicit_lambda% (a_pick rfl rfl (fun hc => ?_) (fun hc => ?_)) <;> first | exact decx hc | rw [hc])) | (refine no_implicit_lambda% (ans ?_)) | (with_reducible exact retN) | (with_reducible exact retP) | fail | fail)
          ((with_reducible refine no_implicit_lambda% (is_aop ?_)); refine no_implicit_lambda% (a_appS (sz := 2) (B := 40) (m2 := p + 1) (rows3 := ((o.take p).map corow ++ [[.v (.string s), .list [] .full]])) rfl rfl rfl rfl rfl rfl rfl rfl rfl rfl rfl (fun _ h => h) rfl rfl (coOk (o.take p)) ((.one1 (row := [.v (.string s), .list [] .full]) ⟨rfl, rfl, rfl⟩)) (by first | rfl | (exact List.length_map ..) | (simp; done) | (simp; omega)) rfl (by first | omega | (simp; omega)) (by first | rfl | (simp; done) | (simp; omega)) (by first | rfl | (exact map_snoc _ _) | (rw [List.map_append]; rfl) | (simp; done)) ?_))
          intro cp2 e1 e2
          refine no_implicit_lambda% (aec ?_)
          repeat' (first | (refine no_implicit_lambda% (awd1 ?_)) | (((with_reducible refine no_implicit_lambda% (is_aops ?_)); refine no_implicit_lambda% (o_split rfl rfl rfl (fun hc => ?_) (fun hc => ?_)) <;> first | exact decx hc | rw [hc])) | (((with_reducible refine no_implicit_lambda% (is_cond ?_)); refine no_implicit_lambda% (c_cond rfl (fun hc => ?_) (fun hc => ?_)) <;> first | exact decx hc | skip)) | (((with_reducible refine no_implicit_lambda% (is_aop ?_)); refine no_implicit_lambda% (a_pick rfl rfl (fun hc => ?_) (fun hc => ?_)) <;> first | exact decx hc | rw [hc])) | (refine no_implicit_lambda% (ans ?_)) | (with_reducible exact retN) | (with_reducible exact retP) | fail | fail)
          (with_reducible refine is_aop ?_)
          refine no_implicit_lambda% (a_appSg (sz := 2) (B := 40) (m2 := o.length + 1) (rows := (o.take p).map corow ++ [[AV.v (.string s), AV.list [] .full]]) (rows2 := (o.drop p).map corow) (rows3 := nrows (o.take p) s (.list [] .full) (o.drop p)) rfl rfl rfl rfl rfl rfl rfl rfl rfl rfl (fun _ h => h) rfl rfl (fun K h => asrc_seqg (id := 13) (off := p * 2) (i := p) (m := ((o.drop p).map corow).length) (cp := cp - p) ?_ rfl (coOk o) ?_ rfl ?_ h) ?_ (coOk _) ?_ ?_ ⟨by omega, by omega, by omega⟩ (by omega) (ins_rows o p s) ?_)
          · rw [l2]
            show AV.arr 13 (0 + (p : Int).toNat * 2) (o.length - (p : Int).toNat) (cp - (p : Int).toNat) = AV.arr 13 (p * 2) (o.length - p) (cp - p)
            rw [hpe, Nat.zero_add]
          · rw [l2, List.length_map]; omega
          · rw [l2, List.map_drop, List.take_of_length_le (by rw [List.length_drop, List.length_map]; omega)]
          · exact (coOk _).app (.one1 ⟨rfl, rfl, rfl⟩)
          · rw [List.length_append, l1]; rfl
          · rfl
          intro cp3 f1 f2
          refine no_implicit_lambda% (aec ?_)
          repeat' (first | (first | (with_reducible refine no_implicit_lambda% (v_nil ?_)) | ((with_reducible refine no_implicit_lambda% (is_ev ?_)); first | (refine no_implicit_lambda% (v_skips rfl rfl (fun _ h => h) ?_)) | (refine no_implicit_lambda% (v_q rfl rfl rfl rfl (fun _ h => h) (fun _ h => h) ?_)) | (refine no_implicit_lambda% (v_alloc rfl rfl rfl (fun _ h => h) rfl ?_)) | (refine no_implicit_lambda% (v_no rfl rfl rfl rfl rfl rfl (fun _ h => h) ?_)) | (refine no_implicit_lambda% (v_yes rfl rfl rfl rfl rfl rfl (fun _ h => h) (fun _ h => h) ?_)) | (refine no_implicit_lambda% (v_not rfl rfl rfl rfl rfl rfl (fun _ h => h) ?_)))) | ((with_reducible refine no_implicit_lambda% (is_drB ?_)); first | (refine no_implicit_lambda% (b_end rfl rfl (fun _ h => h) (fun _ h => h) ?_)) | (refine no_implicit_lambda% (b_eff rfl rfl rfl rfl (fun _ h => h) (fun _ h => h) rfl ?_)) | (refine no_implicit_lambda% (b_no rfl rfl rfl rfl (fun _ h => h) (fun _ h => h) rfl rfl rfl (fun _ h => h) (fun _ h => h) ?_)) | (refine no_implicit_lambda% (b_yes rfl rfl rfl rfl (fun _ h => h) (fun _ h => h) rfl rfl rfl ?_)) | (refine no_implicit_lambda% (b_not rfl rfl rfl rfl (fun _ h => h) (fun _ h => h) rfl rfl rfl (fun _ h => h) (fun _ h => h) ?_))) | ((with_reducible refine no_implicit_lambda% (is_effK ?_)); refine no_implicit_lambda% (k_eff (fun _ h => h) (fun _ h => h) (fun _ h => h) (by intro k h; repeat (first | exact h | refine ⟨rfl, ?_⟩ | refine ⟨trivial, ?_⟩)) ?_)) | ((with_reducible refine no_implicit_lambda% (is_aop ?_)); first | (refine no_implicit_lambda% (a_q1 rfl (fun _ h => h) ?_)) | (refine no_implicit_lambda% (a_box rfl (fun _ h => h) ?_)) | (refine no_implicit_lambda% (a_alloc rfl (fun _ h => h) ?_)) | (refine no_implicit_lambda% (a_storev rfl (fun _ h => h) ?_)) | (refine no_implicit_lambda% (a_store rfl (fun _ h => h) ?_)) | (refine no_implicit_lambda% (a_panic rfl rfl ?_))) | fail)
          have hFl : (o.take p ++ ⟨s, []⟩ :: o.drop p).length = o.length + 1 := by simp; omega
          have hFp : (o.take p ++ (⟨s, []⟩ : Co) :: o.drop p)[p]? = some ⟨s, []⟩ := by
            rw [List.getElem?_append_right (by rw [List.length_take]; omega), List.length_take, Nat.min_eq_left (by omega), Nat.sub_self]; rfl
          have hFr : nrows (o.take p) s (.list [] .free) (o.drop p) = (o.take p ++ ⟨s, []⟩ :: o.drop p).map corow := nrows_free _ _ [] _
          refine ⟨qtSt t v (o.take p ++ ⟨s, []⟩ :: o.drop p) cp3 p, ?_, qput_rest t v hv _ Q.2 (o.take p ++ ⟨s, []⟩ :: o.drop p) cp3 p ⟨s, []⟩ (fun out H' h => ⟨by rw [h.1, show Q.1 = 0 by rw [hq]], h.2⟩) (by omega) hFp List.Pairwise.nil (by simp) (by omega) f2 ?_⟩
          · refine SeqTo.renE (n2 := 18) (L2 := [(1, .box (vrowV v)), (2, .box [.list [] .full]), (14, .box [.arr 17 0 (o.take p ++ ⟨s, []⟩ :: o.drop p).length cp3]), (17, .seq ((o.take p ++ ⟨s, []⟩ :: o.drop p).map corow) ((cp3 - (o.take p ++ (⟨s, []⟩ : Co) :: o.drop p).length) * 2))]) 0 [1, 2, 14, 17] (Nat.le_refl 0) rfl (fun _ h => h) ?_
            refine (Conv.unseq (id := 17) (rows := nrows (o.take p) s (.list [] .full) (o.drop p)) (k := (cp3 - (o.length + 1)) * 2) (by rw [nrows_len]; omega) (permT (H := [(17, .seq (nrows (o.take p) s (.list [] .full) (o.drop p)) ((cp3 - (o.length + 1)) * 2))]))).trans ((Conv.wk (.refl _) (.cons (.box 17 (wk_nrows (.free _ _))) (.refl _))).trans ((Conv.toSeq (rows := (o.take p ++ ⟨s, []⟩ :: o.drop p).map corow) (k := (cp3 - (o.length + 1)) * 2) (.refl _) (by rw [← hFr]) (coOk _).pure).trans ?_))
            rw [hFl]
            refine no_implicit_lambda% (Conv.toT ?_ ?_ (Nat.le_of_ble_eq_true rfl))
            · exact wkl
            · exact wkh
          · rw [hq]
            unfold putA
            rw [hN, if_neg (by simp), hpp]
            show _ = o.take p ++ ⟨s, [⟨t, canV v⟩]⟩ :: o.drop p
            have hol : (o.take p).length = p := by rw [List.length_take]; omega
            rw [List.set_append_right _ _ (by omega), hol, Nat.sub_self]
            rfl
      · first | (exact retN) | (exact retP)
    · rw [hN] at hf
      have hlt := npos_len hN
      obtain ⟨c, hc1⟩ := has_at hN
      have hcb := hfi.col c (List.mem_of_getElem? hc1)
      have hcl := col_len hcb
      have hlt4 := hfi.len
      repeat' (first | (refine no_implicit_lambda% (awd1 ?_)) | (((with_reducible refine no_implicit_lambda% (is_aops ?_)); refine no_implicit_lambda% (o_split rfl rfl rfl (fun hc => ?_) (fun hc => ?_)) <;> first | exact decx hc | rw [hc])) | (((with_reducible refine no_implicit_lambda% (is_cond ?_)); refine no_implicit_lambda% (c_cond rfl (fun hc => ?_) (fun hc => ?_)) <;> first | exact decx hc | skip)) | (((with_reducible refine no_implicit_lambda% (is_aop ?_)); refine no_implicit_lambda% (a_pick rfl rfl (fun hc => ?_) (fun hc => ?_)) <;> first | exact decx hc | rw [hc])) | (refine no_implicit_lambda% (ans ?_)) | (with_reducible exact retN) | (with_reducible exact retP) | fail | fail)
      (refine no_implicit_lambda% (cal [13] (hf) ?_ ?_))
      · refine no_implicit_lambda% (ret1 ?_); first | (refine no_implicit_lambda% (akc ?_)) | (refine no_implicit_lambda% (aec ?_))
        repeat' (first | (refine no_implicit_lambda% (sx1 ?_)) | (((with_reducible refine no_implicit_lambda% (is_aops ?_)); refine no_implicit_lambda% (o_split rfl rfl rfl (fun hc => ?_) (fun hc => ?_)) <;> first | exact decx hc | rw [hc])) | (((with_reducible refine no_implicit_lambda% (is_cond ?_)); refine no_implicit_lambda% (c_cond rfl (fun hc => ?_) (fun hc => ?_)) <;> first | exact decx hc | skip)) | (((with_reducible refine no_implicit_lambda% (is_aop ?_)); refine no_implicit_lambda% (a_pick rfl rfl (fun hc => ?_) (fun hc => ?_)) <;> first | exact decx hc | rw [hc])) | fail)
        refine k_seq ?_
        repeat' (first | (refine no_implicit_lambda% (sx1 ?_)) | (((with_reducible refine no_implicit_lambda% (is_aops ?_)); refine no_implicit_lambda% (o_split rfl rfl rfl (fun hc => ?_) (fun hc => ?_)) <;> first | exact decx hc | rw [hc])) | (((with_reducible refine no_implicit_lambda% (is_cond ?_)); refine no_implicit_lambda% (c_cond rfl (fun hc => ?_) (fun hc => ?_)) <;> first | exact decx hc | skip)) | (((with_reducible refine no_implicit_lambda% (is_aop ?_)); refine no_implicit_lambda% (a_pick rfl rfl (fun hc => ?_) (fun hc => ?_)) <;> first | exact decx hc | rw [hc])) | fail)
        refine k_seq ?_
        repeat' (first | (refine no_implicit_lambda% (sx1 ?_)) | (((with_reducible refine no_implicit_lambda% (is_aops ?_)); refine no_implicit_lambda% (o_split rfl rfl rfl (fun hc => ?_) (fun hc => ?_)) <;> first | exact decx hc | rw [hc])) | (((with_reducible refine no_implicit_lambda% (is_cond ?_)); refine no_implicit_lambda% (c_cond rfl (fun hc => ?_) (fun hc => ?_)) <;> first | exact decx hc | skip)) | (((with_reducible refine no_implicit_lambda% (is_aop ?_)); refine no_implicit_lambda% (a_pick rfl rfl (fun hc => ?_) (fun hc => ?_)) <;> first | exact decx hc | rw [hc])) | fail)
        refine ⟨qtSt t v o cp (npos o s), ?_, qput_rest t v hv _ Q.2 o cp (npos o s) c (fun out H' h => ⟨by rw [h.1, show Q.1 = 0 by rw [hq, if_neg (by rw [hN]; simp)]], h.2⟩) hlt4 hc1 ?_ hcl.2 c1 c2 ?_⟩
        · (refine no_implicit_lambda% (SeqTo.renT 0 [1, 2, 14, 13] (Nat.le_of_ble_eq_true rfl) (fun _ h => h) (fun _ h => h) ?_ ?_)); (focus ((try dsimp only); exact wkl)); (focus ((try dsimp only); exact wkh))
        · unfold colB at hcb
          simp only [Bool.and_eq_true] at hcb
          exact (vers_to hcb.2).2.1
        · rw [hq, if_neg (by rw [hN]; simp)]
          unfold putA
          rw [hN, if_pos rfl, hc1]
      · first | (exact retN) | (exact retP)
  · intro xx H' hh
    obtain ⟨_, _, _, h', _⟩ := hh
    cases h'
end Go.Proofs.Ytncffhgoopdfgaa
namespace Go.Proofs.Ytncffhgoopdfgaa
open Go.Am
set_option linter.unusedSimpArgs false
set_option linter.unusedVariables false
set_option maxRecDepth 100000
def qeSt (t : Int) (s : ByteArray) (o : List Co) (cp i : Nat) (q : List Ve) (k : Nat) : ASt := ⟨([.dead, .v (.string s), .v (.int .i64 t), .dead, .dead, .dead, .ptr 1 0, .ptr 3 0, .v (.int .i64 i), .dead, .list (q.map verow) (.tok 4), .v (.int .i64 k)] ++ List.replicate 59 .dead), [(4, .tok 4 q.length), (1, .box [.list [] .full]), (3, .box [.arr 2 0 o.length cp]), (2, .seq (o.map corow) ((cp - o.length) * 2))], 90⟩
def qgSt (s : ByteArray) (o : List Co) : ASt := ⟨([.dead, .v (.string s), .dead, .dead, .dead, .dead, .ptr 1 0, .ptr 3 0] ++ List.replicate 52 .dead ++ [.v (.bool true)] ++ List.replicate 10 .dead), [(1, .box [.list [] .full]), (3, .box [.list (o.map corow) .free])], 100⟩
def qhSt (o : List Co) (cp i : Nat) (q : List Ve) : ASt := ⟨(List.replicate 6 .dead ++ [.ptr 1 0, .ptr 3 0, .v (.int .i64 i), .dead, .list (q.map verow) .free] ++ List.replicate 49 .dead ++ [.v (.bool false)] ++ List.replicate 10 .dead), [(1, .box [.list [] .full]), (3, .box [.arr 2 0 o.length cp]), (2, .seq (o.map corow) ((cp - o.length) * 2))], 100⟩
set_option maxHeartbeats 3200000 in
theorem qdrop_c (r : List Co) (s : ByteArray) (t : Int) (hr : r.length < 70368744177664) (hs : RowSz r) : ACalls Try.prog 93 0 9000 [rowA r, .v (.string s), .v (.int .i64 t)] [] (fun out H' => out = .ret (rowA (dropR r s t)) ∧ H' = []) := by
  have hso := copy_sort r
  have h4 := copy_len r
  have hz := copy_sz hs
  have hfi := copy_fine r
  have hcn := qcopy_n r hr hs
  unfold dropR
  generalize copyR r = o at *
  have hlt4 := hfi.len
  refine no_implicit_lambda% (acalls_of tok dok (f := 93) ⟨Try.func93, rfl, by kernel_rfl⟩ ?_); refine no_implicit_lambda% (c_start (fun _ h => h) ?_)
  repeat' (first | (refine no_implicit_lambda% (awd1 ?_)) | (((with_reducible refine no_implicit_lambda% (is_aops ?_)); refine no_implicit_lambda% (o_split rfl rfl rfl (fun hc => ?_) (fun hc => ?_)) <;> first | exact decx hc | rw [hc])) | (((with_reducible refine no_implicit_lambda% (is_cond ?_)); refine no_implicit_lambda% (c_cond rfl (fun hc => ?_) (fun hc => ?_)) <;> first | exact decx hc | skip)) | (((with_reducible refine no_implicit_lambda% (is_aop ?_)); refine no_implicit_lambda% (a_pick rfl rfl (fun hc => ?_) (fun hc => ?_)) <;> first | exact decx hc | rw [hc])) | (refine no_implicit_lambda% (ans ?_)) | (with_reducible exact retN) | (with_reducible exact retP) | fail | fail)
  (refine no_implicit_lambda% (cal [] (hcn) ?_ ?_))
  · intro xx H' hh
    obtain ⟨cp, c1, c2, h', rfl⟩ := hh
    cases h'
    first | (refine no_implicit_lambda% (akc ?_)) | (refine no_implicit_lambda% (aec ?_))
    have hf := qfind_o o s cp (by omega) hso
    rcases hN : hasN o s with _ | _
    · rw [hN] at hf
      have hq : dropA o s t = o := by unfold dropA; rw [hN, if_neg (by simp)]
      rw [hq]
      repeat' (first | (refine no_implicit_lambda% (awd1 ?_)) | (((with_reducible refine no_implicit_lambda% (is_aops ?_)); refine no_implicit_lambda% (o_split rfl rfl rfl (fun hc => ?_) (fun hc => ?_)) <;> first | exact decx hc | rw [hc])) | (((with_reducible refine no_implicit_lambda% (is_cond ?_)); refine no_implicit_lambda% (c_cond rfl (fun hc => ?_) (fun hc => ?_)) <;> first | exact decx hc | skip)) | (((with_reducible refine no_implicit_lambda% (is_aop ?_)); refine no_implicit_lambda% (a_pick rfl rfl (fun hc => ?_) (fun hc => ?_)) <;> first | exact decx hc | rw [hc])) | (refine no_implicit_lambda% (ans ?_)) | (with_reducible exact retN) | (with_reducible exact retP) | fail | fail)
      (refine no_implicit_lambda% (cal [2] (hf) ?_ ?_))
      · refine no_implicit_lambda% (ret1 ?_); first | (refine no_implicit_lambda% (akc ?_)) | (refine no_implicit_lambda% (aec ?_))
        repeat' (first | (refine no_implicit_lambda% (awd1 ?_)) | (((with_reducible refine no_implicit_lambda% (is_aops ?_)); refine no_implicit_lambda% (o_split rfl rfl rfl (fun hc => ?_) (fun hc => ?_)) <;> first | exact decx hc | rw [hc])) | (((with_reducible refine no_implicit_lambda% (is_cond ?_)); refine no_implicit_lambda% (c_cond rfl (fun hc => ?_) (fun hc => ?_)) <;> first | exact decx hc | skip)) | (((with_reducible refine no_implicit_lambda% (is_aop ?_)); refine no_implicit_lambda% (a_pick rfl rfl (fun hc => ?_) (fun hc => ?_)) <;> first | exact decx hc | rw [hc])) | (refine no_implicit_lambda% (ans ?_)) | (with_reducible exact retN) | (with_reducible exact retP) | fail | fail)
        exact e_ret_to (H' := []) (rest := _) (Conv.freezeBox (j := 0) (id := 2) (bid := 1) (sz := 2) (rows := o.map corow) (k := (cp - o.length) * 2) (m := o.length) (cp := cp) (cells := [.arr 2 0 o.length cp]) (permT (H := [(2, .seq (o.map corow) ((cp - o.length) * 2)), (1, .box [.arr 2 0 o.length cp])])) rfl (coOk o) (by simp)) rfl ⟨rfl, rfl⟩ (.of_eq (by simp; rfl)) (Nat.le_of_ble_eq_true rfl)
      · first | (exact retN) | (exact retP)
    · rw [hN] at hf
      have hlt := npos_len hN
      obtain ⟨c, hc1⟩ := has_at hN
      have hcb := hfi.col c (List.mem_of_getElem? hc1)
      have hcl := col_len hcb
      have hq : dropA o s t = if dropV c.l t = [] then o.eraseIdx (npos o s) else o.set (npos o s) ⟨c.n, dropV c.l t⟩ := by unfold dropA; rw [hN, if_pos rfl, hc1]
      repeat' (first | (refine no_implicit_lambda% (awd1 ?_)) | (((with_reducible refine no_implicit_lambda% (is_aops ?_)); refine no_implicit_lambda% (o_split rfl rfl rfl (fun hc => ?_) (fun hc => ?_)) <;> first | exact decx hc | rw [hc])) | (((with_reducible refine no_implicit_lambda% (is_cond ?_)); refine no_implicit_lambda% (c_cond rfl (fun hc => ?_) (fun hc => ?_)) <;> first | exact decx hc | skip)) | (((with_reducible refine no_implicit_lambda% (is_aop ?_)); refine no_implicit_lambda% (a_pick rfl rfl (fun hc => ?_) (fun hc => ?_)) <;> first | exact decx hc | rw [hc])) | (refine no_implicit_lambda% (ans ?_)) | (with_reducible exact retN) | (with_reducible exact retP) | fail | fail)
      (refine no_implicit_lambda% (cal [2] (hf) ?_ ?_))
      · refine no_implicit_lambda% (ret1 ?_); first | (refine no_implicit_lambda% (akc ?_)) | (refine no_implicit_lambda% (aec ?_))
        repeat' (first | (refine no_implicit_lambda% (awd1 ?_)) | (((with_reducible refine no_implicit_lambda% (is_aops ?_)); refine no_implicit_lambda% (o_split rfl rfl rfl (fun hc => ?_) (fun hc => ?_)) <;> first | exact decx hc | rw [hc])) | (((with_reducible refine no_implicit_lambda% (is_cond ?_)); refine no_implicit_lambda% (c_cond rfl (fun hc => ?_) (fun hc => ?_)) <;> first | exact decx hc | skip)) | (((with_reducible refine no_implicit_lambda% (is_aop ?_)); refine no_implicit_lambda% (a_pick rfl rfl (fun hc => ?_) (fun hc => ?_)) <;> first | exact decx hc | rw [hc])) | (refine no_implicit_lambda% (ans ?_)) | (with_reducible exact retN) | (with_reducible exact retP) | fail | fail)
        refine c_loop2 (fun q k => qeSt t s o cp (npos o s) q k) (fun q k => k ≤ c.l.length ∧ q = dropV (c.l.take k) t) (fun _ k => c.l.length - k) [] 0 ⟨Nat.zero_le _, rfl⟩ ((Conv.tokSlot (j := 10) (sz := 4) (rows := []) rfl (by simp)).trans ?_) ?_
        · (refine no_implicit_lambda% (Conv.toT ?_ ?_ (Nat.le_of_ble_eq_true rfl))); (focus ((unfold qeSt); (try dsimp only); exact wkl)); (focus ((unfold qeSt); (try dsimp only); exact wkh))
        · rintro q k ⟨k1, hqe⟩
          have hdl := dropV_len (c.l.take k) t
          have hql : q.length ≤ 2 := by rw [hqe]; rw [List.length_take] at hdl; omega
          refine c_turn (n' := 90) (fun _ h => h) (fun _ h => h) rfl ?_
          repeat' (first | (refine no_implicit_lambda% (awd1 ?_)) | (((with_reducible refine no_implicit_lambda% (is_aops ?_)); refine no_implicit_lambda% (o_split rfl rfl rfl (fun hc => ?_) (fun hc => ?_)) <;> first | exact decx hc | rw [hc])) | (((with_reducible refine no_implicit_lambda% (is_cond ?_)); refine no_implicit_lambda% (c_cond rfl (fun hc => ?_) (fun hc => ?_)) <;> first | exact decx hc | skip)) | (((with_reducible refine no_implicit_lambda% (is_aop ?_)); refine no_implicit_lambda% (a_pick rfl rfl (fun hc => ?_) (fun hc => ?_)) <;> first | exact decx hc | rw [hc])) | (refine no_implicit_lambda% (ans ?_)) | (with_reducible exact retN) | (with_reducible exact retP) | fail | fail)
          ((with_reducible refine no_implicit_lambda% (is_aop ?_)); first | (refine no_implicit_lambda% (a_qS rfl (fun _ h => h) ?_ ?_)) | (refine no_implicit_lambda% (a_qS rfl (qIx (fun _ h => h)) ?_ ?_)) | (refine no_implicit_lambda% (a_qS rfl (qAnd5 (fun _ h => h)) ?_ ?_)) | (refine no_implicit_lambda% (a_qS rfl (qStr (fun _ h => h)) ?_ ?_)) | (refine no_implicit_lambda% (a_qS rfl (qAnd4 (fun _ h => h)) ?_ ?_)) | (refine no_implicit_lambda% (a_qS rfl (qAnd2 (fun _ h => h)) ?_ ?_))); focus (first | omega | (simp; done) | (simp; omega))
          repeat' (first | (refine no_implicit_lambda% (sx1 ?_)) | (((with_reducible refine no_implicit_lambda% (is_aops ?_)); refine no_implicit_lambda% (o_split rfl rfl rfl (fun hc => ?_) (fun hc => ?_)) <;> first | exact decx hc | rw [hc])) | (((with_reducible refine no_implicit_lambda% (is_cond ?_)); refine no_implicit_lambda% (c_cond rfl (fun hc => ?_) (fun hc => ?_)) <;> first | exact decx hc | skip)) | (((with_reducible refine no_implicit_lambda% (is_aop ?_)); refine no_implicit_lambda% (a_pick rfl rfl (fun hc => ?_) (fun hc => ?_)) <;> first | exact decx hc | rw [hc])) | fail)
          ((with_reducible refine no_implicit_lambda% (is_aop ?_)); refine no_implicit_lambda% (a_loadSeq (sz := 2) (rows := o.map corow) (i := (npos o s)) (j := 1) rfl rfl rfl rfl rfl (coOk o) ((by rw [List.getElem?_map, hc1]; rfl)) rfl (by first | rfl | (simp; done) | (simp; omega)) ?_))
          repeat' (first | (refine no_implicit_lambda% (sx1 ?_)) | (((with_reducible refine no_implicit_lambda% (is_aops ?_)); refine no_implicit_lambda% (o_split rfl rfl rfl (fun hc => ?_) (fun hc => ?_)) <;> first | exact decx hc | rw [hc])) | (((with_reducible refine no_implicit_lambda% (is_cond ?_)); refine no_implicit_lambda% (c_cond rfl (fun hc => ?_) (fun hc => ?_)) <;> first | exact decx hc | skip)) | (((with_reducible refine no_implicit_lambda% (is_aop ?_)); refine no_implicit_lambda% (a_pick rfl rfl (fun hc => ?_) (fun hc => ?_)) <;> first | exact decx hc | rw [hc])) | fail)
          refine k_seq ?_
          have hlen : ((c.l.map verow).length : Int) = c.l.length := by rw [List.length_map]
          rcases hy : c.l[k]? with _ | y
          · have hk : k = c.l.length := by have := List.getElem?_eq_none_iff.1 hy; omega
            rw [hk, List.take_length] at hqe
            rw [← hqe] at hq
            repeat' (first | (refine no_implicit_lambda% (sx1 ?_)) | (((with_reducible refine no_implicit_lambda% (is_aops ?_)); refine no_implicit_lambda% (o_split rfl rfl rfl (fun hc => ?_) (fun hc => ?_)) <;> first | exact decx hc | rw [hc])) | (((with_reducible refine no_implicit_lambda% (is_cond ?_)); refine no_implicit_lambda% (c_cond rfl (fun hc => ?_) (fun hc => ?_)) <;> first | exact decx hc | skip)) | (((with_reducible refine no_implicit_lambda% (is_aop ?_)); refine no_implicit_lambda% (a_pick rfl rfl (fun hc => ?_) (fun hc => ?_)) <;> first | exact decx hc | rw [hc])) | fail)
            refine k_seq ?_
            repeat' (first | (refine no_implicit_lambda% (sx1 ?_)) | (((with_reducible refine no_implicit_lambda% (is_aops ?_)); refine no_implicit_lambda% (o_split rfl rfl rfl (fun hc => ?_) (fun hc => ?_)) <;> first | exact decx hc | rw [hc])) | (((with_reducible refine no_implicit_lambda% (is_cond ?_)); refine no_implicit_lambda% (c_cond rfl (fun hc => ?_) (fun hc => ?_)) <;> first | exact decx hc | skip)) | (((with_reducible refine no_implicit_lambda% (is_aop ?_)); refine no_implicit_lambda% (a_pick rfl rfl (fun hc => ?_) (fun hc => ?_)) <;> first | exact decx hc | rw [hc])) | fail)
            rcases q with _ | ⟨q0, q⟩
            · rw [if_pos rfl] at hq
              rw [hq]
              refine k_seq_to (qgSt s o) ((Conv.freezeBox (j := 0) (id := 2) (bid := 3) (sz := 2) (rows := o.map corow) (k := (cp - o.length) * 2) (m := o.length) (cp := cp) (cells := [.arr 2 0 o.length cp]) (permT (H := [(2, .seq (o.map corow) ((cp - o.length) * 2)), (3, .box [.arr 2 0 o.length cp])])) rfl (coOk o) (by simp)).trans ?_) ?_
              · (refine no_implicit_lambda% (Conv.toT ?_ ?_ (Nat.le_of_ble_eq_true rfl))); (focus ((unfold qgSt); (try dsimp only); exact wkl)); (focus ((unfold qgSt); (try dsimp only); exact wkh))
              · have hdc := qdropcol_c o s (by omega) hz
                have hde : dcR o s = o.eraseIdx (npos o s) := by unfold dcR; rw [hfi.copy, hN, if_pos rfl]
                rw [hde] at hdc
                refine c_turn (n' := 100) (fun _ h => h) (fun _ h => h) rfl ?_
                repeat' (first | (refine no_implicit_lambda% (awd1 ?_)) | (((with_reducible refine no_implicit_lambda% (is_aops ?_)); refine no_implicit_lambda% (o_split rfl rfl rfl (fun hc => ?_) (fun hc => ?_)) <;> first | exact decx hc | rw [hc])) | (((with_reducible refine no_implicit_lambda% (is_cond ?_)); refine no_implicit_lambda% (c_cond rfl (fun hc => ?_) (fun hc => ?_)) <;> first | exact decx hc | skip)) | (((with_reducible refine no_implicit_lambda% (is_aop ?_)); refine no_implicit_lambda% (a_pick rfl rfl (fun hc => ?_) (fun hc => ?_)) <;> first | exact decx hc | rw [hc])) | (refine no_implicit_lambda% (ans ?_)) | (with_reducible exact retN) | (with_reducible exact retP) | (refine no_implicit_lambda% (cal [] (hdc) ?_ ?_)) | fail)
                exact e_ret (H' := []) (rest := _) rfl ⟨rfl, rfl⟩ permT (Nat.le_of_ble_eq_true rfl)
            · rw [if_neg (by simp)] at hq
              rw [hq]
              generalize hqq : q0 :: q = q2 at *
              have hq0 : (((q2.map verow).length : Int) == 0) = false := by rw [← hqq]; simp; omega
              refine k_seq_to (qhSt o cp (npos o s) q2) ?_ ?_
              · rw [hq0]
                (refine no_implicit_lambda% (Conv.toT ?_ ?_ (Nat.le_of_ble_eq_true rfl))); (focus ((unfold qhSt); (try dsimp only); exact wkl)); (focus ((unfold qhSt); (try dsimp only); exact wkh))
              · generalize hF : o.set (npos o s) ⟨c.n, q2⟩ = F at *
                have hFl : F.length = o.length := by rw [← hF]; exact List.length_set ..
                refine c_turn (n' := 100) (fun _ h => h) (fun _ h => h) rfl ?_
                repeat' (first | (refine no_implicit_lambda% (awd1 ?_)) | (((with_reducible refine no_implicit_lambda% (is_aops ?_)); refine no_implicit_lambda% (o_split rfl rfl rfl (fun hc => ?_) (fun hc => ?_)) <;> first | exact decx hc | rw [hc])) | (((with_reducible refine no_implicit_lambda% (is_cond ?_)); refine no_implicit_lambda% (c_cond rfl (fun hc => ?_) (fun hc => ?_)) <;> first | exact decx hc | skip)) | (((with_reducible refine no_implicit_lambda% (is_aop ?_)); refine no_implicit_lambda% (a_pick rfl rfl (fun hc => ?_) (fun hc => ?_)) <;> first | exact decx hc | rw [hc])) | (refine no_implicit_lambda% (ans ?_)) | (with_reducible exact retN) | (with_reducible exact retP) | fail | fail)
                ((with_reducible refine no_implicit_lambda% (is_aop ?_)); first | (refine no_implicit_lambda% (a_qS rfl (fun _ h => h) ?_ ?_)) | (refine no_implicit_lambda% (a_qS rfl (qIx (fun _ h => h)) ?_ ?_)) | (refine no_implicit_lambda% (a_qS rfl (qAnd5 (fun _ h => h)) ?_ ?_)) | (refine no_implicit_lambda% (a_qS rfl (qStr (fun _ h => h)) ?_ ?_)) | (refine no_implicit_lambda% (a_qS rfl (qAnd4 (fun _ h => h)) ?_ ?_)) | (refine no_implicit_lambda% (a_qS rfl (qAnd2 (fun _ h => h)) ?_ ?_))); focus (first | omega | (simp; done) | (simp; omega))
                repeat' (first | (refine no_implicit_lambda% (awd1 ?_)) | (((with_reducible refine no_implicit_lambda% (is_aops ?_)); refine no_implicit_lambda% (o_split rfl rfl rfl (fun hc => ?_) (fun hc => ?_)) <;> first | exact decx hc | rw [hc])) | (((with_reducible refine no_implicit_lambda% (is_cond ?_)); refine no_implicit_lambda% (c_cond rfl (fun hc => ?_) (fun hc => ?_)) <;> first | exact decx hc | skip)) | (((with_reducible refine no_implicit_lambda% (is_aop ?_)); refine no_implicit_lambda% (a_pick rfl rfl (fun hc => ?_) (fun hc => ?_)) <;> first | exact decx hc | rw [hc])) | (refine no_implicit_lambda% (ans ?_)) | (with_reducible exact retN) | (with_reducible exact retP) | fail | fail)
                ((with_reducible refine no_implicit_lambda% (is_aop ?_)); refine no_implicit_lambda% (a_storeSeq (sz := 2) (rows := o.map corow) (i := (npos o s)) (j := 1) (row' := [.v (.string c.n), .list (q2.map verow) .free]) rfl rfl rfl (fun _ h => h) rfl rfl (coOk o) ((by rw [List.getElem?_map, hc1]; rfl)) (by first | decide | (simp; done)) (by first | rfl | (simp; done)) (by first | rfl | (simp; done) | (simp; omega)) ?_))
                rw [show (o.map corow).set (npos o s) [.v (.string c.n), .list (q2.map verow) .free] = F.map corow by rw [← hF, List.map_set]; rfl]
                repeat' (first | (refine no_implicit_lambda% (awd1 ?_)) | (((with_reducible refine no_implicit_lambda% (is_aops ?_)); refine no_implicit_lambda% (o_split rfl rfl rfl (fun hc => ?_) (fun hc => ?_)) <;> first | exact decx hc | rw [hc])) | (((with_reducible refine no_implicit_lambda% (is_cond ?_)); refine no_implicit_lambda% (c_cond rfl (fun hc => ?_) (fun hc => ?_)) <;> first | exact decx hc | skip)) | (((with_reducible refine no_implicit_lambda% (is_aop ?_)); refine no_implicit_lambda% (a_pick rfl rfl (fun hc => ?_) (fun hc => ?_)) <;> first | exact decx hc | rw [hc])) | (refine no_implicit_lambda% (ans ?_)) | (with_reducible exact retN) | (with_reducible exact retP) | fail | fail)
                exact e_ret_to (H' := []) (rest := _) (Conv.freezeBox (j := 0) (id := 2) (bid := 1) (sz := 2) (rows := F.map corow) (k := (cp - o.length) * 2) (m := o.length) (cp := cp) (cells := [.arr 2 0 o.length cp]) (permT (H := [(2, .seq (F.map corow) ((cp - o.length) * 2)), (1, .box [.arr 2 0 o.length cp])])) rfl (coOk F) (by rw [List.length_map, hFl])) rfl ⟨rfl, rfl⟩ (.of_eq (by simp; rfl)) (Nat.le_of_ble_eq_true rfl)
          · have hk : k < c.l.length := (List.getElem?_eq_some_iff.1 hy).1
            have hix := vex hy
            have hdt := dropV_take (t := t) hy
            repeat' (first | (refine no_implicit_lambda% (awd1 ?_)) | (((with_reducible refine no_implicit_lambda% (is_aops ?_)); refine no_implicit_lambda% (o_split rfl rfl rfl (fun hc => ?_) (fun hc => ?_)) <;> first | exact decx hc | rw [hc])) | (((with_reducible refine no_implicit_lambda% (is_cond ?_)); refine no_implicit_lambda% (c_cond rfl (fun hc => ?_) (fun hc => ?_)) <;> first | exact decx hc | skip)) | (((with_reducible refine no_implicit_lambda% (is_aop ?_)); refine no_implicit_lambda% (a_pick rfl rfl (fun hc => ?_) (fun hc => ?_)) <;> first | exact decx hc | rw [hc])) | (refine no_implicit_lambda% (ans ?_)) | (with_reducible exact retN) | (with_reducible exact retP) | fail | fail)
            ((with_reducible refine no_implicit_lambda% (is_aop ?_)); first | (refine no_implicit_lambda% (a_qS rfl (fun _ h => h) ?_ ?_)) | (refine no_implicit_lambda% (a_qS rfl (qIx (fun _ h => h)) ?_ ?_)) | (refine no_implicit_lambda% (a_qS rfl (qAnd5 (fun _ h => h)) ?_ ?_)) | (refine no_implicit_lambda% (a_qS rfl (qStr (fun _ h => h)) ?_ ?_)) | (refine no_implicit_lambda% (a_qS rfl (qAnd4 (fun _ h => h)) ?_ ?_)) | (refine no_implicit_lambda% (a_qS rfl (qAnd2 (fun _ h => h)) ?_ ?_))); focus (first | omega | (simp; done) | (simp; omega))
            repeat' (first | (refine no_implicit_lambda% (sx1 ?_)) | (((with_reducible refine no_implicit_lambda% (is_aops ?_)); refine no_implicit_lambda% (o_split rfl rfl rfl (fun hc => ?_) (fun hc => ?_)) <;> first | exact decx hc | rw [hc])) | (((with_reducible refine no_implicit_lambda% (is_cond ?_)); refine no_implicit_lambda% (c_cond rfl (fun hc => ?_) (fun hc => ?_)) <;> first | exact decx hc | skip)) | (((with_reducible refine no_implicit_lambda% (is_aop ?_)); refine no_implicit_lambda% (a_pick rfl rfl (fun hc => ?_) (fun hc => ?_)) <;> first | exact decx hc | rw [hc])) | fail)
            ((with_reducible refine no_implicit_lambda% (is_aop ?_)); refine no_implicit_lambda% (a_loadSeq (sz := 2) (rows := o.map corow) (i := (npos o s)) (j := 1) rfl rfl rfl rfl rfl (coOk o) ((by rw [List.getElem?_map, hc1]; rfl)) rfl (by first | rfl | (simp; done) | (simp; omega)) ?_))
            repeat' (first | (refine no_implicit_lambda% (awd1 ?_)) | (((with_reducible refine no_implicit_lambda% (is_aops ?_)); refine no_implicit_lambda% (o_split rfl rfl rfl (fun hc => ?_) (fun hc => ?_)) <;> first | exact decx hc | rw [hc])) | (((with_reducible refine no_implicit_lambda% (is_cond ?_)); refine no_implicit_lambda% (c_cond rfl (fun hc => ?_) (fun hc => ?_)) <;> first | exact decx hc | skip)) | (((with_reducible refine no_implicit_lambda% (is_aop ?_)); refine no_implicit_lambda% (a_pick rfl rfl (fun hc => ?_) (fun hc => ?_)) <;> first | exact decx hc | rw [hc])) | (refine no_implicit_lambda% (ans ?_)) | (with_reducible exact retN) | (with_reducible exact retP) | fail | fail)
            · have hne : y.t ≠ t := by simpa using hc
              ((with_reducible refine no_implicit_lambda% (is_aop ?_)); first | (refine no_implicit_lambda% (a_qS rfl (fun _ h => h) ?_ ?_)) | (refine no_implicit_lambda% (a_qS rfl (qIx (fun _ h => h)) ?_ ?_)) | (refine no_implicit_lambda% (a_qS rfl (qAnd5 (fun _ h => h)) ?_ ?_)) | (refine no_implicit_lambda% (a_qS rfl (qStr (fun _ h => h)) ?_ ?_)) | (refine no_implicit_lambda% (a_qS rfl (qAnd4 (fun _ h => h)) ?_ ?_)) | (refine no_implicit_lambda% (a_qS rfl (qAnd2 (fun _ h => h)) ?_ ?_))); focus (first | omega | (simp; done) | (simp; omega))
              repeat' (first | (refine no_implicit_lambda% (awd1 ?_)) | (((with_reducible refine no_implicit_lambda% (is_aops ?_)); refine no_implicit_lambda% (o_split rfl rfl rfl (fun hc => ?_) (fun hc => ?_)) <;> first | exact decx hc | rw [hc])) | (((with_reducible refine no_implicit_lambda% (is_cond ?_)); refine no_implicit_lambda% (c_cond rfl (fun hc => ?_) (fun hc => ?_)) <;> first | exact decx hc | skip)) | (((with_reducible refine no_implicit_lambda% (is_aop ?_)); refine no_implicit_lambda% (a_pick rfl rfl (fun hc => ?_) (fun hc => ?_)) <;> first | exact decx hc | rw [hc])) | (refine no_implicit_lambda% (ans ?_)) | (with_reducible exact retN) | (with_reducible exact retP) | fail | fail)
              ((with_reducible refine no_implicit_lambda% (is_aop ?_)); refine no_implicit_lambda% (a_loadSeq (sz := 2) (rows := o.map corow) (i := (npos o s)) (j := 1) rfl rfl rfl rfl rfl (coOk o) ((by rw [List.getElem?_map, hc1]; rfl)) rfl (by first | rfl | (simp; done) | (simp; omega)) ?_))
              repeat' (first | (refine no_implicit_lambda% (awd1 ?_)) | (((with_reducible refine no_implicit_lambda% (is_aops ?_)); refine no_implicit_lambda% (o_split rfl rfl rfl (fun hc => ?_) (fun hc => ?_)) <;> first | exact decx hc | rw [hc])) | (((with_reducible refine no_implicit_lambda% (is_cond ?_)); refine no_implicit_lambda% (c_cond rfl (fun hc => ?_) (fun hc => ?_)) <;> first | exact decx hc | skip)) | (((with_reducible refine no_implicit_lambda% (is_aop ?_)); refine no_implicit_lambda% (a_pick rfl rfl (fun hc => ?_) (fun hc => ?_)) <;> first | exact decx hc | rw [hc])) | (refine no_implicit_lambda% (ans ?_)) | (with_reducible exact retN) | (with_reducible exact retP) | fail | fail)
              (refine no_implicit_lambda% (k_loopLT (((q ++ [y], k + 1) : List Ve × Nat)) 0 (List.range 90) (by show k + 1 ≤ c.l.length ∧ q ++ [y] = dropV (c.l.take (k + 1)) t; exact ⟨hk, by rw [hdt, if_neg hne, hqe]⟩) (by first | omega | (simp; done) | (simp; omega)) (Nat.le_of_ble_eq_true rfl) (fun _ h => h) (fun _ h => h) ?_ ?_)); (focus ((try dsimp only); exact wkl)); (focus ((try dsimp only); exact wkh))
            · have hne : y.t = t := by simpa using hc
              (refine no_implicit_lambda% (k_loopLT (((q, k + 1) : List Ve × Nat)) 0 (List.range 90) (by show k + 1 ≤ c.l.length ∧ q = dropV (c.l.take (k + 1)) t; exact ⟨hk, by rw [hdt, if_pos hne, hqe]; simp⟩) (by first | omega | (simp; done) | (simp; omega)) (Nat.le_of_ble_eq_true rfl) (fun _ h => h) (fun _ h => h) ?_ ?_)); (focus ((try dsimp only); exact wkl)); (focus ((try dsimp only); exact wkh))
      · first | (exact retN) | (exact retP)
  · intro xx H' hh
    obtain ⟨_, _, _, h', _⟩ := hh
    cases h'
end Go.Proofs.Ytncffhgoopdfgaa
namespace Go.Proofs.Ytncffhgoopdfgaa
open Go.Am
set_option linter.unusedSimpArgs false
set_option linter.unusedVariables false
set_option maxRecDepth 100000
theorem pick_c (l : List ByteArray) (n : Int) (hl : 0 < l.length ∧ l.length < 1000) (h1 : -9223372036854775808 ≤ n) (h2 : n ≤ 9223372036854775807) : ACalls Try.prog 72 0 0 [.list (l.map fun s => [.v (.string s)]) .free, .v (.int .i64 n)] [] (fun out H' => ∃ t ∈ l, out = .ret (.v (.string t)) ∧ H' = []) := by
  have hw := wthn_c n 0 1048576 h1 h2 (by decide) (by decide) (by decide) (by decide)
  refine no_implicit_lambda% (acalls_of tok dok (f := 72) ⟨Try.func72, rfl, by kernel_rfl⟩ ?_); refine no_implicit_lambda% (c_start (fun _ h => h) ?_)
  have hb := wthn_bd n 0 1048576 (by decide)
  generalize wthn n 0 1048576 = w at *
  repeat' (first | (refine no_implicit_lambda% (awd1 ?_)) | (((with_reducible refine no_implicit_lambda% (is_aops ?_)); refine no_implicit_lambda% (o_split rfl rfl rfl (fun hc => ?_) (fun hc => ?_)) <;> first | exact decx hc | rw [hc])) | (((with_reducible refine no_implicit_lambda% (is_cond ?_)); refine no_implicit_lambda% (c_cond rfl (fun hc => ?_) (fun hc => ?_)) <;> first | exact decx hc | skip)) | (((with_reducible refine no_implicit_lambda% (is_aop ?_)); refine no_implicit_lambda% (a_pick rfl rfl (fun hc => ?_) (fun hc => ?_)) <;> first | exact decx hc | rw [hc])) | (refine no_implicit_lambda% (ans ?_)) | (with_reducible exact retN) | (with_reducible exact retP) | (refine no_implicit_lambda% (cal [] (hw) ?_ ?_)) | fail)
  (with_reducible refine no_implicit_lambda% (is_aop ?_)); first | (refine no_implicit_lambda% (a_qS rfl (fun _ h => h) ?_ ?_)) | (refine no_implicit_lambda% (a_qS rfl (qIx (fun _ h => h)) ?_ ?_)) | (refine no_implicit_lambda% (a_qS rfl (qAnd5 (fun _ h => h)) ?_ ?_)) | (refine no_implicit_lambda% (a_qS rfl (qStr (fun _ h => h)) ?_ ?_)) | (refine no_implicit_lambda% (a_qS rfl (qAnd4 (fun _ h => h)) ?_ ?_)) | (refine no_implicit_lambda% (a_qS rfl (qAnd2 (fun _ h => h)) ?_ ?_))
  · rw [List.length_map]; omega
  have hj : 0 ≤ w.tmod ((l.map fun s => [AV.v (.string s)]).length : Int) ∧ w.tmod ((l.map fun s => [AV.v (.string s)]).length : Int) < l.length := by
    rw [List.length_map]
    exact ⟨Int.tmod_nonneg _ hb.1, Int.tmod_lt_of_pos _ (by omega)⟩
  generalize w.tmod ((l.map fun s => [AV.v (.string s)]).length : Int) = j at *
  obtain ⟨t, ht⟩ : ∃ t, l[j.toNat]? = some t := ⟨_, List.getElem?_eq_getElem (by omega)⟩
  have hix : 0 ≤ j ∧ (l.map fun s => [AV.v (.string s)])[j.toNat]? = some [.v (.string t)] ∧ ([AV.v (.string t)] : List AV).length = 1 := ⟨hj.1, by rw [List.getElem?_map, ht]; rfl, rfl⟩
  repeat' (first | (refine no_implicit_lambda% (awd1 ?_)) | (((with_reducible refine no_implicit_lambda% (is_aops ?_)); refine no_implicit_lambda% (o_split rfl rfl rfl (fun hc => ?_) (fun hc => ?_)) <;> first | exact decx hc | rw [hc])) | (((with_reducible refine no_implicit_lambda% (is_cond ?_)); refine no_implicit_lambda% (c_cond rfl (fun hc => ?_) (fun hc => ?_)) <;> first | exact decx hc | skip)) | (((with_reducible refine no_implicit_lambda% (is_aop ?_)); refine no_implicit_lambda% (a_pick rfl rfl (fun hc => ?_) (fun hc => ?_)) <;> first | exact decx hc | rw [hc])) | (refine no_implicit_lambda% (ans ?_)) | (with_reducible exact retN) | (with_reducible exact retP) | fail | fail)
  exact e_ret (H' := []) (rest := _) rfl ⟨t, List.mem_of_getElem? ht, rfl, rfl⟩ (.refl _) (Nat.le_of_ble_eq_true rfl)
def bsS (l : List UInt8) : ByteArray := ⟨l.toArray⟩
def colL : List ByteArray := [bsS [120], bsS [121], bsS [119], bsS [118], bsS [108, 111, 110, 103, 46, 110, 97, 109, 101, 46, 49, 54, 46, 98, 121, 116]]
theorem keepcol_c (n : Int) (h1 : -9223372036854775808 ≤ n) (h2 : n ≤ 9223372036854775807) : ACalls Try.prog 73 0 5 [.v (.int .i64 n)] [] (fun out H' => ∃ t ∈ colL, out = .ret (.v (.string t)) ∧ H' = []) := by
  have hp := pick_c colL n (by decide) h1 h2
  refine no_implicit_lambda% (acalls_of tok dok (f := 73) ⟨Try.func73, rfl, by kernel_rfl⟩ ?_); refine no_implicit_lambda% (c_start (fun _ h => h) ?_)
  repeat' (first | (refine no_implicit_lambda% (awd1 ?_)) | (((with_reducible refine no_implicit_lambda% (is_aops ?_)); refine no_implicit_lambda% (o_split rfl rfl rfl (fun hc => ?_) (fun hc => ?_)) <;> first | exact decx hc | rw [hc])) | (((with_reducible refine no_implicit_lambda% (is_cond ?_)); refine no_implicit_lambda% (c_cond rfl (fun hc => ?_) (fun hc => ?_)) <;> first | exact decx hc | skip)) | (((with_reducible refine no_implicit_lambda% (is_aop ?_)); refine no_implicit_lambda% (a_pick rfl rfl (fun hc => ?_) (fun hc => ?_)) <;> first | exact decx hc | rw [hc])) | (refine no_implicit_lambda% (ans ?_)) | (with_reducible exact retN) | (with_reducible exact retP) | fail | fail)
  (refine no_implicit_lambda% (calw [] (hp) ?_ ?_))
  · intro xx H' hh
    obtain ⟨t, ht, h', rfl⟩ := hh
    cases h'
    first | (refine no_implicit_lambda% (akc ?_)) | (refine no_implicit_lambda% (aec ?_))
    repeat' (first | (refine no_implicit_lambda% (awd1 ?_)) | (((with_reducible refine no_implicit_lambda% (is_aops ?_)); refine no_implicit_lambda% (o_split rfl rfl rfl (fun hc => ?_) (fun hc => ?_)) <;> first | exact decx hc | rw [hc])) | (((with_reducible refine no_implicit_lambda% (is_cond ?_)); refine no_implicit_lambda% (c_cond rfl (fun hc => ?_) (fun hc => ?_)) <;> first | exact decx hc | skip)) | (((with_reducible refine no_implicit_lambda% (is_aop ?_)); refine no_implicit_lambda% (a_pick rfl rfl (fun hc => ?_) (fun hc => ?_)) <;> first | exact decx hc | rw [hc])) | (refine no_implicit_lambda% (ans ?_)) | (with_reducible exact retN) | (with_reducible exact retP) | fail | fail)
    exact e_ret (H' := []) (rest := _) rfl ⟨t, ht, rfl, rfl⟩ permT (Nat.le_of_ble_eq_true rfl)
  · intro xx H' hh
    obtain ⟨_, _, h', _⟩ := hh
    cases h'
/-- an ask -/
structure Rk where
  k : Int
  c : Int
  nm : ByteArray
  t : Int
  tx : Bool
  n : Int
  x : Nat
  b : List UInt8
structure RkOk (a : Rk) : Prop where
  c : -9223372036854775808 ≤ a.c ∧ a.c ≤ 9223372036854775807
  t : -9223372036854775808 ≤ a.t ∧ a.t ≤ 9223372036854775807
  n : -9223372036854775808 ≤ a.n ∧ a.n ≤ 9223372036854775807
  x : a.x < 18446744073709551616
end Go.Proofs.Ytncffhgoopdfgaa
namespace Go.Proofs.Ytncffhgoopdfgaa
open Go.Am
set_option linter.unusedSimpArgs false
set_option linter.unusedVariables false
set_option maxRecDepth 100000
end Go.Proofs.Ytncffhgoopdfgaa
namespace Go.Proofs.Ytncffhgoopdfgaa
open Go.Am
set_option linter.unusedSimpArgs false
set_option linter.unusedVariables false
set_option maxRecDepth 100000
theorem putR_err {r : List Co} {s : ByteArray} {t : Int} {v : Va} (h : (putR r s t v).1 ≠ 0) : (putR r s t v).2 = [] := by
  unfold putR at *
  split at h
  · split at h
    · rename_i h1 h2
      rw [if_pos h1, if_pos h2]
    · exact absurd rfl h
  · rename_i h1
    rw [if_neg h1]
theorem cmpS_self (s : ByteArray) : cmpS s s = 0 := by
  have h := eq_cb s.toList s.toList
  rw [beq_self_eq_true] at h
  unfold cmpS
  exact of_decide_eq_true h.symm
theorem sLt_self (s : ByteArray) : sLt s s = false := by
  rw [sLt_eq, cmpS_self]
  rfl
theorem hasN_one {s : ByteArray} {l : List Ve} : hasN [⟨s, l⟩] s = true ∧ npos [⟨s, l⟩] s = 0 := by
  have e : npos [⟨s, l⟩] s = 0 := by unfold npos; simp [sLt_self]
  refine ⟨?_, e⟩
  unfold hasN
  rw [e]
  simp [cmpS_self]
theorem put_new {s : ByteArray} {t : Int} {v : Va} (hn : nmB s = true) (ht : tmOk t = true) (hv : vRt v = true) : putR [] s t v = (0, [⟨s, [⟨t, canV v⟩]⟩]) := by
  unfold putR
  rw [hn, ht, hv, if_pos (by rfl)]
  rfl
theorem put_one {s : ByteArray} {l : List Ve} {t : Int} {v : Va} (hF : Fine [⟨s, l⟩]) (hn : nmB s = true) (ht : tmOk t = true) (hv : vRt v = true) : putR [⟨s, l⟩] s t v = (0, [⟨s, putV l ⟨t, canV v⟩⟩]) := by
  obtain ⟨a, b⟩ := hasN_one (s := s) (l := l)
  unfold putR
  rw [hn, ht, hv, if_pos (by rfl), hF.copy, if_neg (by rw [a]; simp)]
  unfold putA
  rw [a, b, if_pos rfl]
  rfl
end Go.Proofs.Ytncffhgoopdfgaa
namespace Go.Am
open Go.RowKit Go.ChangeShapes Go.WideShapes
set_option linter.unusedSimpArgs false
set_option linter.unusedVariables false
def cellsX (w : World) : Nat → Nat → Option Value := fun b i => w.cell? ⟨b, i, none⟩
/-- a row of cells and what is known of it -/
def RowSim (X : Nat → Nat → Option Value) (row : List AV) (cs : List Value) : Prop :=
  row.length = cs.length ∧ ∀ (j : Nat) a y, row[j]? = some a → cs[j]? = some y → SimD X a y ∧ y.oneCell' = true
section
variable {H : Type} (enc : TypeId × Value → H) (P : Program) (w : World) (base : Nat) (sp : Nat → Bool) (held : Bool)
/-- every reading of this type's cells is a row of this kind -/
def Opn (t : TypeId) (R : List AV → Prop) : Prop := ∀ fuel cs x, DataW.trod enc P w base sp held fuel t cs = some x → ∃ row, RowSim (cellsX w) row cs ∧ R row
end
section
variable {H : Type} {enc : TypeId × Value → H} {P : Program} {w : World} {base : Nat} {sp : Nat → Bool} {held : Bool}
theorem RowSim.one {X : Nat → Nat → Option Value} {a : AV} {y : Value} (h : SimD X a y) (h1 : y.oneCell' = true) : RowSim X [a] [y] :=
  ⟨rfl, fun j b z hb hz => by
    cases j with
    | zero => simp at hb hz; subst hb; subst hz; exact ⟨h, h1⟩
    | succ j => simp at hb⟩
theorem RowSim.app {X : Nat → Nat → Option Value} {r s : List AV} {c d : List Value} (h : RowSim X r c) (k : RowSim X s d) : RowSim X (r ++ s) (c ++ d) :=
  ⟨by simp [h.1, k.1], fun j a y ha hy => by
    rw [List.getElem?_append] at ha hy
    rw [h.1] at ha
    split at ha
    · rw [if_pos (by assumption)] at hy; exact h.2 j a y ha hy
    · rw [if_neg (by assumption)] at hy; exact k.2 _ a y ha hy⟩
theorem opn_int {t : TypeId} {k : IntKind} (ht : P.underlying t = some (.int k)) : Opn enc P w base sp held t fun row => ∃ n, row = [.v (.int k n)] ∧ k.min ≤ n ∧ n ≤ k.max := fun fuel cs x h => by
  obtain ⟨n, rfl, _, hw⟩ := DataW.trod_int ht h
  simp only [Lit.wf, Bool.and_eq_true, decide_eq_true_eq] at hw
  exact ⟨_, .one (.v _) rfl, n, rfl, hw⟩
theorem opn_bool {t : TypeId} (ht : P.underlying t = some .bool) : Opn enc P w base sp held t fun row => ∃ b, row = [.v (.bool b)] := fun fuel cs x h => by
  obtain ⟨b, rfl, _⟩ := DataW.trod_bool ht h
  exact ⟨_, .one (.v _) rfl, b, rfl⟩
theorem opn_float {t : TypeId} (ht : P.underlying t = some (.float .f64)) : Opn enc P w base sp held t fun row => ∃ b, row = [.v (.float .f64 b)] ∧ b < 18446744073709551616 := fun fuel cs x h => by
  cases fuel with
  | zero => simp [DataW.trod] at h
  | succ n =>
    unfold DataW.trod at h
    rw [ht] at h
    match cs, h with
    | [.float k' b], h =>
      simp only at h
      split at h
      · rename_i hw
        obtain ⟨rfl, hw⟩ := hw
        simp only [Lit.wf, decide_eq_true_eq] at hw
        exact ⟨_, .one (.v _) rfl, b, rfl, hw⟩
      · cases h
theorem cells_get {a : Addr} {n : Nat} {cs : List Value} (h : w.cells? base a n = some cs) : cs.length = n ∧ ∀ j, j < n → w.cell? (a.add j) = cs[j]? := by
  unfold World.cells? at h
  split at h
  · have h1 := mapM_some_length h
    refine ⟨by simpa using h1, fun j hj => ?_⟩
    have h2 := mapM_some_get h j j (by simp [hj])
    exact h2
  · cases h
theorem cell_spot {a : Addr} {v : Value} (h : w.cell? a = some v) : a.spot = none := by
  unfold World.cell? at h
  split at h
  · split at h
    · cases h
    · rename_i h1; simpa using h1
  · cases h
theorem add_at {a : Addr} (h : a.spot = none) (n : Nat) : a.add n = ⟨a.block, a.off + n, none⟩ := by
  obtain ⟨b, o, s⟩ := a
  simp only at h
  subst h
  unfold Addr.add
  split
  · rename_i h0; subst h0; rfl
  · rfl
theorem opn_slice {t e : TypeId} {s : Nat} {R : List AV → Prop} (ht : P.underlying t = some (.slice e)) (hs : P.cellsOf e = s) (h0 : 0 < s) (he : Opn enc P w base sp held e R) :
    Opn enc P w base sp held t fun row => ∃ rows, row = [.list rows .free] ∧ rows.length ≤ maxLen ∧ ∀ r ∈ rows, R r ∧ r.length = s := fun fuel cs x h => by
  rcases DataW.trod_slice ht h with ⟨rfl, _⟩ | ⟨a, len, cap, elems, rest, n, _, rfl, _, hb, hl, hm, hlen, hel, _, _⟩
  · exact ⟨_, .one (.nil .free none 0 (Nat.zero_le _) (fun h => by cases h) (.inl rfl)) rfl, [], rfl, Nat.zero_le _, fun r hr => (List.not_mem_nil hr).elim⟩
  subst hs
  have each : ∀ i, i < len → ∃ row cs', RowSim (cellsX w) row cs' ∧ R row ∧ cs'.length = P.cellsOf e ∧ ∀ j, j < P.cellsOf e → w.cell? ((a.add (i * P.cellsOf e)).add j) = cs'[j]? := fun i hi => by
    have h1 := hel i hi
    have hi' : i < elems.length := by omega
    rw [List.getElem?_eq_getElem hi', Option.bind_eq_some_iff] at h1
    obtain ⟨cs', hcs, hy⟩ := h1
    obtain ⟨row, k1, k2⟩ := he _ _ _ hy
    obtain ⟨k3, k4⟩ := cells_get hcs
    exact ⟨row, cs', k1, k2, k3, k4⟩
  rcases Nat.eq_zero_or_pos len with rfl | hpos
  · exact ⟨_, .one (.nil .free (some a) cap hm (fun h => by cases h) (.inl rfl)) rfl, [], rfl, Nat.zero_le _, fun r hr => (List.not_mem_nil hr).elim⟩
  have hspot : a.spot = none := by
    obtain ⟨row, cs', k1, k2, k3, k4⟩ := each 0 hpos
    have h2 := k4 0 h0
    have : cs'[0]? = some cs'[0] := List.getElem?_eq_getElem (by omega)
    rw [this] at h2
    have e : ((a.add (0 * P.cellsOf e)).add 0) = a := by simp [Addr.add]
    rw [e] at h2
    exact cell_spot h2
  -- the rows
  have hex : ∀ m, m ≤ len → ∃ rows : List (List AV), rows.length = m ∧ (∀ r ∈ rows, R r ∧ r.length = P.cellsOf e) ∧ ∀ i row, rows[i]? = some row → ∃ cs', RowSim (cellsX w) row cs' ∧ cs'.length = P.cellsOf e ∧ ∀ j, j < P.cellsOf e → w.cell? ((a.add (i * P.cellsOf e)).add j) = cs'[j]? := by
    intro m
    induction m with
    | zero => intro _; exact ⟨[], rfl, fun r hr => (List.not_mem_nil hr).elim, fun i row h => by simp at h⟩
    | succ m ih =>
      intro hm'
      obtain ⟨rows, r1, r2, r3⟩ := ih (by omega)
      obtain ⟨row, cs', k1, k2, k3, k4⟩ := each m (by omega)
      refine ⟨rows ++ [row], by simp [r1], fun r hr => ?_, fun i row' h => ?_⟩
      · rcases List.mem_append.1 hr with hr | hr
        · exact r2 r hr
        · obtain rfl := List.mem_singleton.1 hr
          exact ⟨k2, by rw [k1.1, k3]⟩
      · rw [List.getElem?_append] at h
        split at h
        · exact r3 i row' h
        · rename_i hge
          have hi : i = m := by
            have := (List.getElem?_eq_some_iff.1 h).1
            simp at this; omega
          subst hi
          rw [r1, Nat.sub_self] at h
          simp at h
          subst h
          exact ⟨cs', k1, k3, k4⟩
  obtain ⟨rows, r1, r2, r3⟩ := hex len (Nat.le_refl _)
  obtain ⟨b, off, sp'⟩ := a
  simp only at hspot
  subst hspot
  refine ⟨_, .one (?_ : SimD (cellsX w) (.list rows .free) _) rfl, rows, rfl, by rw [r1]; exact Nat.le_trans hl hm, r2⟩
  have key : ∀ i row j av, rows[i]? = some row → row[j]? = some av → ∃ y, cellsX w b (off + i * P.cellsOf e + j) = some y ∧ SimD (cellsX w) av y ∧ y.oneCell' = true := fun i row j av h1 h2 => by
    obtain ⟨cs', k1, k3, k4⟩ := r3 i row h1
    have hj : j < P.cellsOf e := by
      have := (List.getElem?_eq_some_iff.1 h2).1
      rw [k1.1, k3] at this; exact this
    have hj' : j < cs'.length := by omega
    have h4 := k4 j hj
    rw [List.getElem?_eq_getElem hj'] at h4
    obtain ⟨m1, m2⟩ := k1.2 j av cs'[j] h2 (List.getElem?_eq_getElem hj')
    refine ⟨cs'[j], ?_, m1, m2⟩
    rw [add_at (a := ⟨b, off, none⟩) rfl, add_at rfl] at h4
    exact h4
  have := SimD.list (X := cellsX w) rows .free b off cap (P.cellsOf e) (fun i j => (cellsX w b (off + i * P.cellsOf e + j)).getD undef) (by omega) hm (fun h => by cases h) (.inl rfl) (fun r hr => (r2 r hr).2)
    (fun i row j av h1 h2 => by obtain ⟨y, e1, _⟩ := key i row j av h1 h2; rw [e1]; rfl) (fun i row j av h1 h2 => by obtain ⟨y, e1, e2, _⟩ := key i row j av h1 h2; rw [e1]; exact e2) (fun i row j av h1 h2 => by obtain ⟨y, e1, _, e3⟩ := key i row j av h1 h2; rw [e1]; exact e3)
  rw [r1] at this
  exact this
theorem Opn.mono {t : TypeId} {R R' : List AV → Prop} (h : Opn enc P w base sp held t R) (hr : ∀ row, R row → R' row) : Opn enc P w base sp held t R' := fun fuel cs x hx => let ⟨row, h1, h2⟩ := h fuel cs x hx; ⟨row, h1, hr row h2⟩
/-- the fields of a struct, one behind the other -/
def AllR : List (List AV → Prop) → List AV → Prop
  | [], row => row = []
  | R :: Rs, row => ∃ r r', row = r ++ r' ∧ R r ∧ AllR Rs r'
def OpnAll (enc : TypeId × Value → H) (P : Program) (w : World) (base : Nat) (sp : Nat → Bool) (held : Bool) : Nat → List Field → List (List AV → Prop) → Nat → Prop
  | off, [], [], total => off = total
  | off, f :: fs, R :: Rs, total => f.offset = off ∧ Opn enc P w base sp held f.type R ∧ OpnAll enc P w base sp held (off + P.cellsOf f.type) fs Rs total
  | _, _, _, _ => False
theorem opn_fields : ∀ (fs : List Field) (Rs : List (List AV → Prop)) (off total n : Nat) (cs : List Value) (xs : List (DataW H × List MemPlace)), OpnAll enc P w base sp held off fs Rs total → cs.length = total →
    (∀ (i : Nat) (f : Field), fs[i]? = some f → ∃ x, DataW.trod enc P w base sp held n f.type ((cs.drop f.offset).take (P.cellsOf f.type)) = some x) → off ≤ total → ∃ row, RowSim (cellsX w) row (cs.drop off) ∧ AllR Rs row
  | [], [], off, total, n, cs, xs, h, hl, hx, ho => by
    have : off = total := h
    subst this
    refine ⟨[], ⟨by simp [hl], fun j a y h => by simp at h⟩, rfl⟩
  | f :: fs, R :: Rs, off, total, n, cs, xs, h, hl, hx, ho => by
    obtain ⟨rfl, h1, h2⟩ := h
    obtain ⟨x, hx0⟩ := hx 0 f rfl
    obtain ⟨r, k1, k2⟩ := h1 _ _ _ hx0
    have hle : f.offset + P.cellsOf f.type ≤ total := by
      have : ∀ (fs : List Field) (Rs : List (List AV → Prop)) (off total : Nat), OpnAll enc P w base sp held off fs Rs total → off ≤ total := by
        intro fs
        induction fs with
        | nil => intro Rs off total h; cases Rs with
          | nil => exact Nat.le_of_eq h
          | cons _ _ => exact h.elim
        | cons g gs ih => intro Rs off total h; cases Rs with
          | nil => exact h.elim
          | cons R Rs => exact Nat.le_trans (Nat.le_add_right _ _) (ih _ _ _ h.2.2)
      exact this _ _ _ _ h2
    obtain ⟨r', m1, m2⟩ := opn_fields fs Rs _ total n cs xs h2 hl (fun i g hg => hx (i + 1) g (by simpa using hg)) hle
    refine ⟨r ++ r', ?_, r, r', rfl, k2, m2⟩
    have e : cs.drop f.offset = (cs.drop f.offset).take (P.cellsOf f.type) ++ cs.drop (f.offset + P.cellsOf f.type) := by
      rw [← List.drop_drop, List.take_append_drop]
    rw [e]
    exact k1.app m1
  | [], _ :: _, _, _, _, _, _, h, _, _, _ => h.elim
  | _ :: _, [], _, _, _, _, _, h, _, _, _ => h.elim
theorem opn_struct {t : TypeId} {fs : Array Field} {Rs : List (List AV → Prop)} (ht : P.underlying t = some (.struct fs)) (h : OpnAll enc P w base sp held 0 fs.toList Rs (P.cellsOf t)) : Opn enc P w base sp held t (AllR Rs) := fun fuel cs x hx => by
  obtain ⟨xs, n, _, _, h1, h2, h3⟩ := DataW.trod_struct ht hx
  exact opn_fields fs.toList Rs 0 (P.cellsOf t) n cs xs h h1 (fun i f hf => by
    rw [Array.getElem?_toList] at hf
    have := h3 i f hf
    have hi : i < xs.length := by rw [h2]; exact (Array.getElem?_eq_some_iff.1 hf).1
    rw [List.getElem?_eq_getElem hi] at this
    exact ⟨_, this⟩) (Nat.zero_le _)
/-- a slice of rows, as a list -/
theorem listOf {α : Type} {f : α → List AV} {Q : α → Prop} : ∀ {rows : List (List AV)}, (∀ r ∈ rows, ∃ a, Q a ∧ r = f a) → ∃ l : List α, (∀ a ∈ l, Q a) ∧ rows = l.map f
  | [], _ => ⟨[], fun a ha => (List.not_mem_nil ha).elim, rfl⟩
  | r :: rows, h => by
    obtain ⟨a, ha, rfl⟩ := h r (by simp)
    obtain ⟨l, hl, rfl⟩ := listOf (rows := rows) fun r hr => h r (List.mem_cons_of_mem _ hr)
    exact ⟨a :: l, fun b hb => by rcases List.mem_cons.1 hb with rfl | hb; exact ha; exact hl b hb, rfl⟩
/-- octets -/
theorem opn_bytes {t e : TypeId} (ht : P.underlying t = some (.slice e)) (he : P.underlying e = some (.int .u8)) (hc : P.cellsOf e = 1) : Opn enc P w base sp held t fun row => ∃ l : List UInt8, row = [.list (l.map brow) .free] ∧ l.length ≤ maxLen :=
  (opn_slice ht hc (by decide) (opn_int he)).mono fun row ⟨rows, h1, h2, h3⟩ => by
    obtain ⟨l, _, rfl⟩ := listOf (f := brow) (Q := fun _ => True) fun r hr => by
      obtain ⟨⟨n, rfl, h4, h5⟩, _⟩ := h3 r hr
      have h4' : 0 ≤ n := h4
      have h5' : n ≤ 255 := h5
      refine ⟨UInt8.ofNat n.toNat, trivial, ?_⟩
      unfold brow
      rw [UInt8.toNat_ofNat']
      congr 3
      omega
    exact ⟨l, h1, by simpa using h2⟩
/-- a value of one cell, as an argument -/
theorem Opn.arg {t : TypeId} {v : Value} {d : DataW H} {ps : List MemPlace} {R : List AV → Prop} (h : Opn enc P w base sp held t R) (hd : DataW.Trod enc P w base sp held t v d ps) (hv : v.cells = #[v]) : ∃ a, R [a] ∧ SimD (cellsX w) a v := by
  obtain ⟨fuel, hf⟩ := hd
  obtain ⟨row, h1, h2⟩ := h _ _ _ hf
  rw [hv] at h1
  have hl : row.length = 1 := h1.1
  obtain ⟨a, rfl⟩ := List.length_eq_one_iff.1 hl
  exact ⟨a, h2, (h1.2 0 a v rfl rfl).1⟩
end
end Go.Am
namespace Go.Am
section
variable {H : Type} {enc : TypeId × Value → H} {P : Program} {w : World} {base : Nat} {sp : Nat → Bool} {held : Bool}
/-- a struct, as an argument -/
theorem Opn.argS {t : TypeId} {cs : Array Value} {d : DataW H} {ps : List MemPlace} {R : List AV → Prop} (h : Opn enc P w base sp held t R) (hd : DataW.Trod enc P w base sp held t (.agg cs) d ps) : ∃ row, R row ∧ RowSim (cellsX w) row cs.toList := by
  obtain ⟨fuel, hf⟩ := hd
  obtain ⟨row, h1, h2⟩ := h _ _ _ hf
  exact ⟨row, h2, h1⟩
theorem RowSim.agg {G : Ghost} {row : List AV} {cs : Array Value} (h : RowSim G.X row cs.toList) : Sim G (.agg row) (.agg cs) :=
  .agg _ _ (by have := h.1; simpa using this) fun i a ha => by
    have hi : i < cs.size := by
      have := (List.getElem?_eq_some_iff.1 ha).1
      have h1 := h.1
      simp at h1; omega
    have : cs.getD i undef = cs[i] := by simp [hi]
    rw [this]
    exact .data _ _ (h.2 i a cs[i] ha (by simp [hi])).1
end
end Go.Am
namespace Go.Proofs.Ytncffhgoopdfgaa
open Go.Am
set_option linter.unusedSimpArgs false
set_option linter.unusedVariables false
section
variable {H : Type} {enc : TypeId × Value → H} {w : World} {base : Nat} {sp : Nat → Bool} {held : Bool}
theorem opnBytes : Opn enc Try.prog w base sp held 23 fun row => ∃ l : List UInt8, row = [.list (l.map brow) .free] ∧ l.length ≤ maxLen := opn_bytes Try.underlying23 Try.underlying5 (by kernel_rfl)
def dvrow (tx : Bool) (n : Int) (x : Nat) (b : List UInt8) : List AV := [.v (.bool tx), .v (.int .i64 n), .v (.float .f64 x), .list (b.map brow) .free]
theorem opnV : Opn enc Try.prog w base sp held 25 fun row => ∃ tx n x b, ((-9223372036854775808 ≤ n ∧ n ≤ 9223372036854775807) ∧ x < 18446744073709551616) ∧ row = dvrow tx n x b :=
  (opn_struct Try.underlying25 (Rs := [fun row => ∃ b, row = [.v (.bool b)], fun row => ∃ n, row = [.v (.int .i64 n)] ∧ IntKind.i64.min ≤ n ∧ n ≤ IntKind.i64.max, fun row => ∃ b, row = [.v (.float .f64 b)] ∧ b < 18446744073709551616, fun row => ∃ l : List UInt8, row = [.list (l.map brow) .free] ∧ l.length ≤ maxLen])
    ⟨rfl, opn_bool Try.underlying4, by kernel_rfl, opn_int Try.underlying3, by kernel_rfl, opn_float Try.underlying22, by kernel_rfl, opnBytes, (show (_ : Nat) = _ by kernel_rfl)⟩).mono
    fun row hrow => by
      obtain ⟨_, _, e0, ⟨tx, rfl⟩, _, _, e1, ⟨n, rfl, h1, h2⟩, _, _, e2, ⟨x, rfl, hx⟩, _, _, e3, ⟨l, rfl, _⟩, e4⟩ := hrow
      refine ⟨tx, n, x, l, ⟨⟨h1, h2⟩, hx⟩, ?_⟩
      rw [e0, e1, e2, e3, e4]
      rfl
end
end Go.Proofs.Ytncffhgoopdfgaa
namespace Go.Proofs.Ytncffhgoopdfgaa
open Go.Am
set_option linter.unusedSimpArgs false
set_option linter.unusedVariables false
set_option maxRecDepth 100000
theorem ordV_can (v : Va) : ordV (canV v) v = 0 := by
  unfold ordV
  rw [canV_idem]
  exact ord0_refl _
theorem putV_ge {x : Ve} {l : List Ve} {y : Ve} (hs : Vsort (x :: l)) (h : x.t ≤ y.t) : ∃ l', putV (x :: l) y = y :: l' := by
  have h0 : (x :: l).filter (fun z => decide (y.t < z.t)) = [] := by
    rw [List.filter_eq_nil_iff]
    intro z hz
    rcases List.mem_cons.1 hz with rfl | hz
    · simp; omega
    · have := (List.pairwise_cons.1 hs).1 z hz
      simp; omega
  refine ⟨((x :: l).filter (fun z => decide (z.t < y.t))).take 1, ?_⟩
  unfold putV insV
  rw [h0]
  rfl
theorem atR_one {s : ByteArray} {x : Ve} {l : List Ve} {t : Int} (hF : Fine [⟨s, x :: l⟩]) : atR [⟨s, x :: l⟩] s t = atL (x :: l) t := by
  obtain ⟨a, b⟩ := hasN_one (s := s) (l := x :: l)
  unfold atR
  rw [hF.copy, a, b, if_pos rfl]
  rfl
theorem atL_hd {x : Ve} {l : List Ve} {t : Int} (h : x.t ≤ t) : atL (x :: l) t = some x.v := by
  unfold atL
  rw [List.find?_cons_of_pos (by simpa using h)]
  rfl
theorem fine_tm {s : ByteArray} {x : Ve} {l : List Ve} (hF : Fine [⟨s, x :: l⟩]) : tmOk x.t = true ∧ Vsort (x :: l) ∧ canV x.v = x.v := by
  have hc := hF.col _ (List.mem_singleton.2 rfl)
  unfold colB at hc
  simp only [Bool.and_eq_true] at hc
  obtain ⟨a, b, _⟩ := vers_to hc.2
  have hcan := can_col (hF.can _ (List.mem_singleton.2 rfl)) x (by simp)
  exact ⟨(a x (by simp)).1, b, congrArg Ve.v hcan⟩
def okV (v : Va) : Prop := v.b.length < 1073741824 ∧ v.n < 18446744073709551616 ∧ vRt v = true
theorem VOk.ok {v : Va} (h : VOk v) : okV v := by
  unfold okV vRt
  rcases h with ⟨h1, h2, h3⟩ | ⟨h1, h2, h3⟩
  · rw [h1, h2]; exact ⟨by omega, by decide, by simp; omega⟩
  · rw [h1, h2]; exact ⟨by decide, h3, by simp⟩
/-- a value as it is drawn -/
structure Dv where
  tx : Bool
  n : Int
  x : Nat
  b : List UInt8
def dvr (a : Dv) : List AV := dvrow a.tx a.n a.x a.b
def DvOk (a : Dv) : Prop := (-9223372036854775808 ≤ a.n ∧ a.n ≤ 9223372036854775807) ∧ a.x < 18446744073709551616
theorem dvmade_c (a : Dv) (h : DvOk a) : ACalls Try.prog 29 0 10 [.agg (dvr a)] [] (fun out H' => ∃ v, okV v ∧ out = .ret (vav v) ∧ H' = []) :=
  (vmade_c a.tx a.n a.x a.b h.1.1 h.1.2 h.2).mono fun out H' ⟨v, h1, h2, h3⟩ => ⟨v, h1.ok, h2, h3⟩
theorem dvex {l : List Dv} {i : Nat} {t : Dv} (h : l[i]? = some t) : 0 ≤ (i : Int) ∧ (l.map dvr)[(i : Int).toNat]? = some (dvr t) ∧ (dvr t).length = 4 := ⟨Int.natCast_nonneg _, by rw [Int.toNat_natCast, List.getElem?_map, h]; rfl, rfl⟩
end Go.Proofs.Ytncffhgoopdfgaa
namespace Go.Proofs.Ytncffhgoopdfgaa
open Go.Am
set_option linter.unusedSimpArgs false
set_option linter.unusedVariables false
set_option maxRecDepth 100000
end Go.Proofs.Ytncffhgoopdfgaa
namespace Go.Proofs.Ytncffhgoopdfgaa
open Go.Am
set_option linter.unusedSimpArgs false
set_option linter.unusedVariables false
set_option maxRecDepth 100000
/-- a change -/
structure Ch where
  k : Int
  c : ByteArray
  t : Int
  v : Va
def chrow (x : Ch) : List AV := [.v (.int .i64 x.k), .v (.string x.c), .v (.int .i64 x.t)] ++ vrowV x.v
def rightC (x : Ch) : Int := if x.k < 1 ∨ 5 < x.k then 24 else if x.k = 4 then 0 else if nmB x.c = false then 1 else if x.k = 3 then 0 else if tmOk x.t = false then 1 else if x.k = 2 then 0 else if vRt x.v = false then 1 else if x.k = 5 ∧ x.v.kind ≠ 2 then 24 else 0
set_option maxHeartbeats 3200000 in
theorem refRightC_c (x : Ch) : ACalls Try.prog 90 0 50 [.agg (chrow x)] [] (fun out H' => out = .ret (.v (.int .i64 (rightC x))) ∧ H' = []) := by
  have h1 := rname_c x.c
  have h2 : ACalls Try.prog 115 0 10 [vav x.v] [] (fun out H' => out = .ret (.v (.bool (vRt x.v))) ∧ H' = []) := refRight_c x.v
  refine no_implicit_lambda% (acalls_of tok dok (f := 90) ⟨Try.func90, rfl, by kernel_rfl⟩ ?_); refine no_implicit_lambda% (c_start (fun _ h => h) ?_)
  repeat' (first | (refine no_implicit_lambda% (awd1 ?_)) | (((with_reducible refine no_implicit_lambda% (is_aops ?_)); refine no_implicit_lambda% (o_split rfl rfl rfl (fun hc => ?_) (fun hc => ?_)) <;> first | exact decx hc | rw [hc])) | (((with_reducible refine no_implicit_lambda% (is_cond ?_)); refine no_implicit_lambda% (c_cond rfl (fun hc => ?_) (fun hc => ?_)) <;> first | exact decx hc | skip)) | (((with_reducible refine no_implicit_lambda% (is_aop ?_)); refine no_implicit_lambda% (a_pick rfl rfl (fun hc => ?_) (fun hc => ?_)) <;> first | exact decx hc | rw [hc])) | (refine no_implicit_lambda% (ans ?_)) | (with_reducible exact retN) | (with_reducible exact retP) | (refine no_implicit_lambda% (cal [] (h1) ?_ ?_)) | (refine no_implicit_lambda% (cal [] (h2) ?_ ?_)) | fail)
  all_goals
    refine e_ret (H' := []) (rest := _) rfl ⟨congrArg (fun z => AOut.ret (.v (.int .i64 z))) ?_, rfl⟩ permT (Nat.le_of_ble_eq_true rfl)
    clear h1 h2
    unfold rightC tmOk
    simp only [decide_eq_true_eq, decide_eq_false_iff_not, beq_iff_eq, beq_eq_false_iff_ne, bne_iff_ne, bne_eq_false_iff_eq, Bool.not_eq_true', Bool.not_eq_false', ne_eq] at *
    repeat' split
    all_goals first | rfl | (exfalso; omega) | (exfalso; simp_all; done) | (exfalso; simp_all; omega)
def ChSz (x : Ch) : Prop := x.v.b.length < 1073741824 ∧ x.v.n < 18446744073709551616
def oldV (o : List Co) (c : ByteArray) : Va := (atR o c 1099511627776).getD ⟨2, [], 9223372036854775808⟩
/-- one change of a row -/
def stepC (o : List Co) (x : Ch) : Int × List Co :=
  if x.k = 1 then putR o x.c x.t x.v else if x.k = 2 then (0, dropR o x.c x.t) else if x.k = 3 then (0, dcR o x.c) else if x.k = 4 then (0, []) else
  if (plusV (oldV o x.c) x.v).2 ≠ 0 then ((plusV (oldV o x.c) x.v).2, []) else putR o x.c x.t (plusV (oldV o x.c) x.v).1
def foldC : List Co → List Ch → Int × List Co
  | o, [] => (0, o)
  | o, x :: l => if (stepC o x).1 ≠ 0 then ((stepC o x).1, []) else foldC (stepC o x).2 l
def firstE : List Ch → Int
  | [] => 0
  | x :: l => if rightC x ≠ 0 then rightC x else firstE l
def applyR (r : List Co) (l : List Ch) : Int × List Co := if 8 < l.length then (3, []) else if firstE l ≠ 0 then (firstE l, []) else foldC (copyR r) l
theorem sumC_lt (a b : Nat) : sumC a b < 18446744073709551616 := by
  unfold sumC
  split
  · rename_i r hr
    exact canonB_lt (add_lt hr)
  · decide
theorem plusV_sz (a b : Va) : (plusV a b).1.b.length < 1073741824 ∧ (plusV a b).1.n < 18446744073709551616 := by
  unfold plusV
  split
  · exact ⟨by simp, sumC_lt _ _⟩
  · exact ⟨by simp, by decide⟩
theorem fine_nil : Fine [] := copy_fine []
theorem sz_nil : RowSz [] := fun c hc => by cases hc
theorem stepC_err {o : List Co} {x : Ch} (h : (stepC o x).1 ≠ 0) : (stepC o x).2 = [] := by
  unfold stepC at *
  repeat' split at h
  all_goals first | (exact absurd rfl h) | skip
  · rename_i h1
    rw [if_pos h1]; exact putR_err h
  · rename_i h1 h2 h3 h4 h5
    rw [if_neg h1, if_neg h2, if_neg h3, if_neg h4, if_pos h5]
  · rename_i h1 h2 h3 h4 h5
    rw [if_neg h1, if_neg h2, if_neg h3, if_neg h4, if_neg h5]; exact putR_err h
theorem stepC_fine {o : List Co} (hF : Fine o) (x : Ch) : Fine (stepC o x).2 := by
  unfold stepC
  repeat' split
  all_goals first | exact putR_fine _ _ _ _ | exact dropA_fine (copy_fine o) _ _ | exact dc_fine o _ | exact fine_nil
theorem stepC_sz {o : List Co} (hz : RowSz o) {x : Ch} (hx : ChSz x) : RowSz (stepC o x).2 := by
  unfold stepC
  repeat' split
  all_goals first | exact putR_sz hz hx | exact dropA_sz (copy_sz hz) _ _ | exact dc_sz hz | exact sz_nil | exact putR_sz hz (plusV_sz _ _)
def apSt (l : List Ch) (R : List Co) (i : Nat) : ASt := ⟨([.dead, .list (l.map chrow) .free, .ptr 0 0, .dead, .ptr 1 0, .dead, .v (.int .i64 i)] ++ List.replicate 111 .dead), [(0, .box [.list (R.map corow) .free]), (1, .box [.list [] .full])], 2⟩
def aqSt (l : List Ch) (o : List Co) (i : Nat) : ASt := ⟨([.dead, .list (l.map chrow) .free, .dead, .dead, .ptr 1 0, .dead, .dead, .dead, .ptr 2 0, .v (.int .i64 i)] ++ List.replicate 108 .dead), [(1, .box [.list [] .full]), (2, .box [.list (o.map corow) .free])], 3⟩
theorem chx {l : List Ch} {i : Nat} {t : Ch} (h : l[i]? = some t) : 0 ≤ (i : Int) ∧ (l.map chrow)[(i : Int).toNat]? = some (chrow t) ∧ (chrow t).length = 6 := ⟨Int.natCast_nonneg _, by rw [Int.toNat_natCast, List.getElem?_map, h]; rfl, rfl⟩
theorem firstE_at {l : List Ch} {i : Nat} {x : Ch} (h : l[i]? = some x) : firstE (l.drop i) = if rightC x ≠ 0 then rightC x else firstE (l.drop (i + 1)) := by
  obtain ⟨hi, rfl⟩ := List.getElem?_eq_some_iff.1 h
  rw [List.drop_eq_getElem_cons hi]; rfl
theorem foldC_at {o : List Co} {l : List Ch} {i : Nat} {x : Ch} (h : l[i]? = some x) : foldC o (l.drop i) = if (stepC o x).1 ≠ 0 then ((stepC o x).1, []) else foldC (stepC o x).2 (l.drop (i + 1)) := by
  obtain ⟨hi, rfl⟩ := List.getElem?_eq_some_iff.1 h
  rw [List.drop_eq_getElem_cons hi]; rfl
theorem firstE_ok : ∀ {l : List Ch}, firstE l = 0 → ∀ x ∈ l, rightC x = 0
  | y :: l, h, x, hm => by
    unfold firstE at h
    split at h
    · exact absurd h (by assumption)
    · rename_i h1
      rcases List.mem_cons.1 hm with rfl | hm
      · simpa using h1
      · exact firstE_ok h x hm
theorem rightC_kind {x : Ch} (h : rightC x = 0) : 1 ≤ x.k ∧ x.k ≤ 5 := by
  unfold rightC at h
  split at h
  · cases h
  · omega
set_option maxHeartbeats 6400000 in
theorem refApply_c (r : List Co) (l : List Ch) (hr : r.length < 70368744177664) (hz : RowSz r) (hl : ∀ x ∈ l, ChSz x) (hll : l.length < 1000000) : ACalls Try.prog 56 0 500000 [rowA r, .list (l.map chrow) .free] [] (PutRR (applyR r l)) := by
  have hcp := qcopy_f r hr hz
  have hlm : ((l.map chrow).length : Int) = l.length := by rw [List.length_map]
  refine no_implicit_lambda% (acalls_of tok dok (f := 56) ⟨Try.func56, rfl, by kernel_rfl⟩ ?_); refine no_implicit_lambda% (c_start (fun _ h => h) ?_)
  repeat' (first | (refine no_implicit_lambda% (awd1 ?_)) | (((with_reducible refine no_implicit_lambda% (is_aops ?_)); refine no_implicit_lambda% (o_split rfl rfl rfl (fun hc => ?_) (fun hc => ?_)) <;> first | exact decx hc | rw [hc])) | (((with_reducible refine no_implicit_lambda% (is_cond ?_)); refine no_implicit_lambda% (c_cond rfl (fun hc => ?_) (fun hc => ?_)) <;> first | exact decx hc | skip)) | (((with_reducible refine no_implicit_lambda% (is_aop ?_)); refine no_implicit_lambda% (a_pick rfl rfl (fun hc => ?_) (fun hc => ?_)) <;> first | exact decx hc | rw [hc])) | (refine no_implicit_lambda% (ans ?_)) | (with_reducible exact retN) | (with_reducible exact retP) | fail | fail)
  · have : applyR r l = (3, []) := by unfold applyR; rw [if_pos (by have := of_decide_eq_true hc; omega)]
    rw [this]
    refine e_ret_to (H' := []) (rest := _) (Conv.toT (τ := ⟨_, [(1, .box [.list [] .free])], _⟩) (.refl _) ?_ (Nat.le_refl _)) rfl ⟨rfl, rfl⟩ (.of_eq rfl) (Nat.le_of_ble_eq_true rfl)
    exact wkh
  · have hl8 : ¬ 8 < l.length := by have := of_decide_eq_false hc; omega
    refine c_loop' (apSt l r) (fun i => i ≤ l.length ∧ firstE l = firstE (l.drop i)) (fun i => l.length - i) (a := 0) ⟨Nat.zero_le _, rfl⟩ ?_ ?_
    · (refine no_implicit_lambda% (Conv.toT ?_ ?_ (Nat.le_of_ble_eq_true rfl))); (focus ((unfold apSt); (try dsimp only); exact wkl)); (focus ((unfold apSt); (try dsimp only); exact wkh))
    · rintro i ⟨i1, i2⟩
      refine c_turn (n' := 2) (fun _ h => h) (fun _ h => h) rfl ?_
      rcases hx : l[i]? with _ | x
      · have hi : i = l.length := by have := List.getElem?_eq_none_iff.1 hx; omega
        have hf0 : firstE l = 0 := by rw [i2, hi, List.drop_length]; rfl
        have hap : applyR r l = foldC (copyR r) l := by unfold applyR; rw [if_neg hl8, if_neg (by simp [hf0])]
        rw [hap]
        have hco := copy_fine r
        have hcz := copy_sz hz
        generalize copyR r = o0 at *
        repeat' (first | (refine no_implicit_lambda% (awd1 ?_)) | (((with_reducible refine no_implicit_lambda% (is_aops ?_)); refine no_implicit_lambda% (o_split rfl rfl rfl (fun hc => ?_) (fun hc => ?_)) <;> first | exact decx hc | rw [hc])) | (((with_reducible refine no_implicit_lambda% (is_cond ?_)); refine no_implicit_lambda% (c_cond rfl (fun hc => ?_) (fun hc => ?_)) <;> first | exact decx hc | skip)) | (((with_reducible refine no_implicit_lambda% (is_aop ?_)); refine no_implicit_lambda% (a_pick rfl rfl (fun hc => ?_) (fun hc => ?_)) <;> first | exact decx hc | rw [hc])) | (refine no_implicit_lambda% (ans ?_)) | (with_reducible exact retN) | (with_reducible exact retP) | (refine no_implicit_lambda% (cal [] (hcp) ?_ ?_)) | fail)
        refine c_loop2 (aqSt l) (fun o i => i ≤ l.length ∧ Fine o ∧ RowSz o ∧ foldC o0 l = foldC o (l.drop i)) (fun _ i => l.length - i) o0 0 ⟨Nat.zero_le _, hco, hcz, rfl⟩ ?_ ?_
        · (refine no_implicit_lambda% (Conv.toT ?_ ?_ (Nat.le_of_ble_eq_true rfl))); (focus ((unfold aqSt); (try dsimp only); exact wkl)); (focus ((unfold aqSt); (try dsimp only); exact wkh))
        · rintro o j ⟨j1, hF, hzo, j2⟩
          have ho4 := hF.len
          have hor : o.length < 70368744177664 := by omega
          refine c_turn (n' := 3) (fun _ h => h) (fun _ h => h) rfl ?_
          rcases hy : l[j]? with _ | x
          · have hj : j = l.length := by have := List.getElem?_eq_none_iff.1 hy; omega
            rw [j2, hj, List.drop_length]
            repeat' (first | (refine no_implicit_lambda% (awd1 ?_)) | (((with_reducible refine no_implicit_lambda% (is_aops ?_)); refine no_implicit_lambda% (o_split rfl rfl rfl (fun hc => ?_) (fun hc => ?_)) <;> first | exact decx hc | rw [hc])) | (((with_reducible refine no_implicit_lambda% (is_cond ?_)); refine no_implicit_lambda% (c_cond rfl (fun hc => ?_) (fun hc => ?_)) <;> first | exact decx hc | skip)) | (((with_reducible refine no_implicit_lambda% (is_aop ?_)); refine no_implicit_lambda% (a_pick rfl rfl (fun hc => ?_) (fun hc => ?_)) <;> first | exact decx hc | rw [hc])) | (refine no_implicit_lambda% (ans ?_)) | (with_reducible exact retN) | (with_reducible exact retP) | fail | fail)
            exact e_ret (H' := []) (rest := _) rfl ⟨rfl, rfl⟩ permT (Nat.le_of_ble_eq_true rfl)
          · have hj : j < l.length := (List.getElem?_eq_some_iff.1 hy).1
            have hix := chx hy
            have hxz := hl x (List.mem_of_getElem? hy)
            have hkd := rightC_kind (firstE_ok hf0 x (List.mem_of_getElem? hy))
            have hfa := foldC_at (o := o) hy
            have hsf := stepC_fine hF x
            have hsz := stepC_sz hzo hxz
            have hse := stepC_err (o := o) (x := x)
            rw [hfa] at j2
            have p2 := qdrop_c o x.c x.t hor hzo
            have p3 := qdropcol_c o x.c hor hzo
            have hkk : x.k = 1 ∨ x.k = 2 ∨ x.k = 3 ∨ x.k = 4 ∨ x.k = 5 := by omega
            rcases hkk with hk | hk | hk | hk | hk
            · have p1 := qput_c o x.c x.t x.v hor hzo hxz
              have hs : stepC o x = putR o x.c x.t x.v := by unfold stepC; rw [if_pos hk]
              rw [← hs] at p1
              unfold PutRR at p1
              generalize stepC o x = Q at *
              obtain ⟨e, X⟩ := Q
              repeat' (first | (refine no_implicit_lambda% (awd1 ?_)) | (((with_reducible refine no_implicit_lambda% (is_aops ?_)); refine no_implicit_lambda% (o_split rfl rfl rfl (fun hc => ?_) (fun hc => ?_)) <;> first | exact decx hc | rw [hc])) | (((with_reducible refine no_implicit_lambda% (is_cond ?_)); refine no_implicit_lambda% (c_cond rfl (fun hc => ?_) (fun hc => ?_)) <;> first | exact decx hc | skip)) | (((with_reducible refine no_implicit_lambda% (is_aop ?_)); refine no_implicit_lambda% (a_pick rfl rfl (fun hc => ?_) (fun hc => ?_)) <;> first | exact decx hc | rw [hc])) | (refine no_implicit_lambda% (ans ?_)) | (with_reducible exact retN) | (with_reducible exact retP) | (refine no_implicit_lambda% (cal [] (p1) ?_ ?_)) | fail)
              · have he : e ≠ 0 := by simpa using hc
                rw [j2, if_pos he]
                refine e_ret_to (H' := []) (rest := _) (Conv.toT (τ := ⟨_, [(1, .box [.list [] .free])], _⟩) (.refl _) ?_ (Nat.le_refl _)) rfl ⟨rfl, rfl⟩ (.of_eq rfl) (Nat.le_of_ble_eq_true rfl)
                exact wkh
              · have he : e = 0 := by simpa using hc
                rw [if_neg (by simp [he])] at j2
                (refine no_implicit_lambda% (k_loopLT (((X, j + 1) : List Co × Nat)) 0 [0, 1, 2] (by show j + 1 ≤ l.length ∧ Fine X ∧ RowSz X ∧ foldC o0 l = foldC X (l.drop (j + 1)); exact ⟨hj, hsf, hsz, j2⟩) (by first | omega | (simp; done) | (simp; omega)) (Nat.le_of_ble_eq_true rfl) (fun _ h => h) (fun _ h => h) ?_ ?_)); (focus ((try dsimp only); exact wkl)); (focus ((try dsimp only); exact wkh))
            · have hs : stepC o x = (0, dropR o x.c x.t) := by unfold stepC; rw [if_neg (by omega), if_pos hk]
              rw [hs] at hsf hsz j2
              rw [if_neg (by simp)] at j2
              repeat' (first | (refine no_implicit_lambda% (awd1 ?_)) | (((with_reducible refine no_implicit_lambda% (is_aops ?_)); refine no_implicit_lambda% (o_split rfl rfl rfl (fun hc => ?_) (fun hc => ?_)) <;> first | exact decx hc | rw [hc])) | (((with_reducible refine no_implicit_lambda% (is_cond ?_)); refine no_implicit_lambda% (c_cond rfl (fun hc => ?_) (fun hc => ?_)) <;> first | exact decx hc | skip)) | (((with_reducible refine no_implicit_lambda% (is_aop ?_)); refine no_implicit_lambda% (a_pick rfl rfl (fun hc => ?_) (fun hc => ?_)) <;> first | exact decx hc | rw [hc])) | (refine no_implicit_lambda% (ans ?_)) | (with_reducible exact retN) | (with_reducible exact retP) | (refine no_implicit_lambda% (cal [] (p2) ?_ ?_)) | fail)
              (refine no_implicit_lambda% (k_loopLT (((dropR o x.c x.t, j + 1) : List Co × Nat)) 0 [0, 1, 2] (by show j + 1 ≤ l.length ∧ Fine (dropR o x.c x.t) ∧ RowSz (dropR o x.c x.t) ∧ foldC o0 l = foldC (dropR o x.c x.t) (l.drop (j + 1)); exact ⟨hj, hsf, hsz, j2⟩) (by first | omega | (simp; done) | (simp; omega)) (Nat.le_of_ble_eq_true rfl) (fun _ h => h) (fun _ h => h) ?_ ?_)); (focus ((try dsimp only); exact wkl)); (focus ((try dsimp only); exact wkh))
            · have hs : stepC o x = (0, dcR o x.c) := by unfold stepC; rw [if_neg (by omega), if_neg (by omega), if_pos hk]
              rw [hs] at hsf hsz j2
              rw [if_neg (by simp)] at j2
              repeat' (first | (refine no_implicit_lambda% (awd1 ?_)) | (((with_reducible refine no_implicit_lambda% (is_aops ?_)); refine no_implicit_lambda% (o_split rfl rfl rfl (fun hc => ?_) (fun hc => ?_)) <;> first | exact decx hc | rw [hc])) | (((with_reducible refine no_implicit_lambda% (is_cond ?_)); refine no_implicit_lambda% (c_cond rfl (fun hc => ?_) (fun hc => ?_)) <;> first | exact decx hc | skip)) | (((with_reducible refine no_implicit_lambda% (is_aop ?_)); refine no_implicit_lambda% (a_pick rfl rfl (fun hc => ?_) (fun hc => ?_)) <;> first | exact decx hc | rw [hc])) | (refine no_implicit_lambda% (ans ?_)) | (with_reducible exact retN) | (with_reducible exact retP) | (refine no_implicit_lambda% (cal [] (p3) ?_ ?_)) | fail)
              (refine no_implicit_lambda% (k_loopLT (((dcR o x.c, j + 1) : List Co × Nat)) 0 [0, 1, 2] (by show j + 1 ≤ l.length ∧ Fine (dcR o x.c) ∧ RowSz (dcR o x.c) ∧ foldC o0 l = foldC (dcR o x.c) (l.drop (j + 1)); exact ⟨hj, hsf, hsz, j2⟩) (by first | omega | (simp; done) | (simp; omega)) (Nat.le_of_ble_eq_true rfl) (fun _ h => h) (fun _ h => h) ?_ ?_)); (focus ((try dsimp only); exact wkl)); (focus ((try dsimp only); exact wkh))
            · have hs : stepC o x = (0, []) := by unfold stepC; rw [if_neg (by omega), if_neg (by omega), if_neg (by omega), if_pos hk]
              rw [hs] at hsf hsz j2
              rw [if_neg (by simp)] at j2
              repeat' (first | (refine no_implicit_lambda% (awd1 ?_)) | (((with_reducible refine no_implicit_lambda% (is_aops ?_)); refine no_implicit_lambda% (o_split rfl rfl rfl (fun hc => ?_) (fun hc => ?_)) <;> first | exact decx hc | rw [hc])) | (((with_reducible refine no_implicit_lambda% (is_cond ?_)); refine no_implicit_lambda% (c_cond rfl (fun hc => ?_) (fun hc => ?_)) <;> first | exact decx hc | skip)) | (((with_reducible refine no_implicit_lambda% (is_aop ?_)); refine no_implicit_lambda% (a_pick rfl rfl (fun hc => ?_) (fun hc => ?_)) <;> first | exact decx hc | rw [hc])) | (refine no_implicit_lambda% (ans ?_)) | (with_reducible exact retN) | (with_reducible exact retP) | fail | fail)
              (refine no_implicit_lambda% (k_loopLT ((([], j + 1) : List Co × Nat)) 0 [0, 1, 2] (by show j + 1 ≤ l.length ∧ Fine [] ∧ RowSz [] ∧ foldC o0 l = foldC [] (l.drop (j + 1)); exact ⟨hj, hsf, hsz, j2⟩) (by first | omega | (simp; done) | (simp; omega)) (Nat.le_of_ble_eq_true rfl) (fun _ h => h) (fun _ h => h) ?_ ?_)); (focus ((try dsimp only); exact wkl)); (focus ((try dsimp only); exact wkh))
            · have hs : stepC o x = if (plusV (oldV o x.c) x.v).2 ≠ 0 then ((plusV (oldV o x.c) x.v).2, []) else putR o x.c x.t (plusV (oldV o x.c) x.v).1 := by unfold stepC; rw [if_neg (by omega), if_neg (by omega), if_neg (by omega), if_neg (by omega)]
              have p4 := qnewest_c o x.c hor hzo
              have p5 := refPlus_c (oldV o x.c) x.v
              have p6 := qput_c o x.c x.t (plusV (oldV o x.c) x.v).1 hor hzo (plusV_sz _ _)
              have p7 := csign_c
              unfold PutRR at p6
              have hold : oldV o x.c = (atR o x.c 1099511627776).getD ⟨2, [], 9223372036854775808⟩ := rfl
              generalize stepC o x = S at *
              generalize plusV (oldV o x.c) x.v = W at *
              generalize putR o x.c x.t W.1 = Q at *
              obtain ⟨w, f⟩ := W
              obtain ⟨e, X⟩ := Q
              rcases hat : atR o x.c 1099511627776 with _ | ov
              · rw [hat] at hold p4
                rw [hold] at p5
                unfold optA at p4
                repeat' (first | (refine no_implicit_lambda% (awd1 ?_)) | (((with_reducible refine no_implicit_lambda% (is_aops ?_)); refine no_implicit_lambda% (o_split rfl rfl rfl (fun hc => ?_) (fun hc => ?_)) <;> first | exact decx hc | rw [hc])) | (((with_reducible refine no_implicit_lambda% (is_cond ?_)); refine no_implicit_lambda% (c_cond rfl (fun hc => ?_) (fun hc => ?_)) <;> first | exact decx hc | skip)) | (((with_reducible refine no_implicit_lambda% (is_aop ?_)); refine no_implicit_lambda% (a_pick rfl rfl (fun hc => ?_) (fun hc => ?_)) <;> first | exact decx hc | rw [hc])) | (refine no_implicit_lambda% (ans ?_)) | (with_reducible exact retN) | (with_reducible exact retP) | (refine no_implicit_lambda% (cal [] (p4) ?_ ?_)) | (refine no_implicit_lambda% (cal [] (p7) ?_ ?_)) | fail)
                (refine no_implicit_lambda% (calw [] (p5) ?_ ?_))
                rotate_left
                · first | (exact retN) | (exact retP)
                refine no_implicit_lambda% (ret1 ?_); first | (refine no_implicit_lambda% (akc ?_)) | (refine no_implicit_lambda% (aec ?_))
                repeat' (first | (refine no_implicit_lambda% (awd1 ?_)) | (((with_reducible refine no_implicit_lambda% (is_aops ?_)); refine no_implicit_lambda% (o_split rfl rfl rfl (fun hc => ?_) (fun hc => ?_)) <;> first | exact decx hc | rw [hc])) | (((with_reducible refine no_implicit_lambda% (is_cond ?_)); refine no_implicit_lambda% (c_cond rfl (fun hc => ?_) (fun hc => ?_)) <;> first | exact decx hc | skip)) | (((with_reducible refine no_implicit_lambda% (is_aop ?_)); refine no_implicit_lambda% (a_pick rfl rfl (fun hc => ?_) (fun hc => ?_)) <;> first | exact decx hc | rw [hc])) | (refine no_implicit_lambda% (ans ?_)) | (with_reducible exact retN) | (with_reducible exact retP) | (refine no_implicit_lambda% (cal [] (p6) ?_ ?_)) | fail)
                · have he : f ≠ 0 := by simpa using hc
                  rw [if_pos he] at hs
                  rw [hs] at j2
                  rw [j2, if_pos he]
                  refine e_ret_to (H' := []) (rest := _) (Conv.toT (τ := ⟨_, [(1, .box [.list [] .free])], _⟩) (.refl _) ?_ (Nat.le_refl _)) rfl ⟨rfl, rfl⟩ (.of_eq rfl) (Nat.le_of_ble_eq_true rfl)
                  exact wkh
                · rename_i hc0
                  have hf0 : f = 0 := by simpa using hc0
                  have he : e ≠ 0 := by simpa using hc
                  rw [if_neg (by simp [hf0])] at hs
                  rw [hs] at j2
                  rw [j2, if_pos he]
                  refine e_ret_to (H' := []) (rest := _) (Conv.toT (τ := ⟨_, [(1, .box [.list [] .free])], _⟩) (.refl _) ?_ (Nat.le_refl _)) rfl ⟨rfl, rfl⟩ (.of_eq rfl) (Nat.le_of_ble_eq_true rfl)
                  exact wkh
                · rename_i hc0
                  have hf0 : f = 0 := by simpa using hc0
                  have he : e = 0 := by simpa using hc
                  rw [if_neg (by simp [hf0])] at hs
                  rw [hs] at j2 hsf hsz
                  rw [if_neg (by simp [he])] at j2
                  (refine no_implicit_lambda% (k_loopLT (((X, j + 1) : List Co × Nat)) 0 [0, 1, 2] (by show j + 1 ≤ l.length ∧ Fine X ∧ RowSz X ∧ foldC o0 l = foldC X (l.drop (j + 1)); exact ⟨hj, hsf, hsz, j2⟩) (by first | omega | (simp; done) | (simp; omega)) (Nat.le_of_ble_eq_true rfl) (fun _ h => h) (fun _ h => h) ?_ ?_)); (focus ((try dsimp only); exact wkl)); (focus ((try dsimp only); exact wkh))
              · rw [hat] at hold p4
                rw [hold] at p5
                unfold optA at p4
                repeat' (first | (refine no_implicit_lambda% (awd1 ?_)) | (((with_reducible refine no_implicit_lambda% (is_aops ?_)); refine no_implicit_lambda% (o_split rfl rfl rfl (fun hc => ?_) (fun hc => ?_)) <;> first | exact decx hc | rw [hc])) | (((with_reducible refine no_implicit_lambda% (is_cond ?_)); refine no_implicit_lambda% (c_cond rfl (fun hc => ?_) (fun hc => ?_)) <;> first | exact decx hc | skip)) | (((with_reducible refine no_implicit_lambda% (is_aop ?_)); refine no_implicit_lambda% (a_pick rfl rfl (fun hc => ?_) (fun hc => ?_)) <;> first | exact decx hc | rw [hc])) | (refine no_implicit_lambda% (ans ?_)) | (with_reducible exact retN) | (with_reducible exact retP) | (refine no_implicit_lambda% (cal [] (p4) ?_ ?_)) | (refine no_implicit_lambda% (cal [] (p5) ?_ ?_)) | (refine no_implicit_lambda% (cal [] (p6) ?_ ?_)) | fail)
                · have he : f ≠ 0 := by simpa using hc
                  rw [if_pos he] at hs
                  rw [hs] at j2
                  rw [j2, if_pos he]
                  refine e_ret_to (H' := []) (rest := _) (Conv.toT (τ := ⟨_, [(1, .box [.list [] .free])], _⟩) (.refl _) ?_ (Nat.le_refl _)) rfl ⟨rfl, rfl⟩ (.of_eq rfl) (Nat.le_of_ble_eq_true rfl)
                  exact wkh
                · rename_i hc0
                  have hf0 : f = 0 := by simpa using hc0
                  have he : e ≠ 0 := by simpa using hc
                  rw [if_neg (by simp [hf0])] at hs
                  rw [hs] at j2
                  rw [j2, if_pos he]
                  refine e_ret_to (H' := []) (rest := _) (Conv.toT (τ := ⟨_, [(1, .box [.list [] .free])], _⟩) (.refl _) ?_ (Nat.le_refl _)) rfl ⟨rfl, rfl⟩ (.of_eq rfl) (Nat.le_of_ble_eq_true rfl)
                  exact wkh
                · rename_i hc0
                  have hf0 : f = 0 := by simpa using hc0
                  have he : e = 0 := by simpa using hc
                  rw [if_neg (by simp [hf0])] at hs
                  rw [hs] at j2 hsf hsz
                  rw [if_neg (by simp [he])] at j2
                  (refine no_implicit_lambda% (k_loopLT (((X, j + 1) : List Co × Nat)) 0 [0, 1, 2] (by show j + 1 ≤ l.length ∧ Fine X ∧ RowSz X ∧ foldC o0 l = foldC X (l.drop (j + 1)); exact ⟨hj, hsf, hsz, j2⟩) (by first | omega | (simp; done) | (simp; omega)) (Nat.le_of_ble_eq_true rfl) (fun _ h => h) (fun _ h => h) ?_ ?_)); (focus ((try dsimp only); exact wkl)); (focus ((try dsimp only); exact wkh))
      · have hi : i < l.length := (List.getElem?_eq_some_iff.1 hx).1
        have hix := chx hx
        have hrx := refRightC_c x
        rw [firstE_at hx] at i2
        repeat' (first | (refine no_implicit_lambda% (awd1 ?_)) | (((with_reducible refine no_implicit_lambda% (is_aops ?_)); refine no_implicit_lambda% (o_split rfl rfl rfl (fun hc => ?_) (fun hc => ?_)) <;> first | exact decx hc | rw [hc])) | (((with_reducible refine no_implicit_lambda% (is_cond ?_)); refine no_implicit_lambda% (c_cond rfl (fun hc => ?_) (fun hc => ?_)) <;> first | exact decx hc | skip)) | (((with_reducible refine no_implicit_lambda% (is_aop ?_)); refine no_implicit_lambda% (a_pick rfl rfl (fun hc => ?_) (fun hc => ?_)) <;> first | exact decx hc | rw [hc])) | (refine no_implicit_lambda% (ans ?_)) | (with_reducible exact retN) | (with_reducible exact retP) | (refine no_implicit_lambda% (cal [] (hrx) ?_ ?_)) | fail)
        · have he : rightC x ≠ 0 := by simpa using hc
          have hap : applyR r l = (rightC x, []) := by
            unfold applyR
            rw [if_neg hl8, i2, if_pos he, if_pos he]
          rw [hap]
          refine e_ret_to (H' := []) (rest := _) (Conv.toT (τ := ⟨_, [(1, .box [.list [] .free])], _⟩) (.refl _) ?_ (Nat.le_refl _)) rfl ⟨rfl, rfl⟩ (.of_eq rfl) (Nat.le_of_ble_eq_true rfl)
          exact wkh
        · have he : rightC x = 0 := by simpa using hc
          rw [if_neg (by simp [he])] at i2
          (refine no_implicit_lambda% (k_loopLT (i + 1) 0 [0, 1] (by show i + 1 ≤ l.length ∧ firstE l = firstE (l.drop (i + 1)); exact ⟨hi, i2⟩) (by first | omega | (simp; done) | (simp; omega)) (Nat.le_of_ble_eq_true rfl) (fun _ h => h) (fun _ h => h) ?_ ?_)); (focus ((try dsimp only); exact wkl)); (focus ((try dsimp only); exact wkh))
end Go.Proofs.Ytncffhgoopdfgaa
namespace Go.Proofs.Ytncffhgoopdfgaa
open Go.Am
set_option linter.unusedSimpArgs false
set_option linter.unusedVariables false
set_option maxRecDepth 100000
/-- a change as it is drawn -/
structure Cw where
  k : Int
  c : Int
  t : Int
  v : Dv
def cwrow (a : Cw) : List AV := [.v (.int .i64 a.k), .v (.int .i64 a.c), .v (.int .i64 a.t)] ++ dvr a.v
structure CwOk (a : Cw) : Prop where
  k : -9223372036854775808 ≤ a.k ∧ a.k ≤ 9223372036854775807
  c : -9223372036854775808 ≤ a.c ∧ a.c ≤ 9223372036854775807
  t : -9223372036854775808 ≤ a.t ∧ a.t ≤ 9223372036854775807
  v : DvOk a.v
theorem colL_nm {s : ByteArray} (h : s ∈ colL) : nmB s = true := by
  unfold colL at h
  simp only [List.mem_cons, List.not_mem_nil, or_false] at h
  rcases h with rfl | rfl | rfl | rfl | rfl <;> decide
def ChOk (x : Ch) : Prop := ChSz x ∧ rightC x = 0
set_option maxHeartbeats 3200000 in
theorem chmade_c (a : Cw) (h : CwOk a) : ACalls Try.prog 57 0 100 [.agg (cwrow a)] [] (fun out H' => ∃ x, ChOk x ∧ out = .ret (.agg (chrow x)) ∧ H' = []) := by
  have w1 := wthn_c a.k 0 1048576 h.k.1 h.k.2 (by decide) (by decide) (by decide) (by decide)
  have w2 := wthn_c a.t 0 30 h.t.1 h.t.2 (by decide) (by decide) (by decide) (by decide)
  have b1 := wthn_bd a.k 0 1048576 (by decide)
  have b2 := wthn_bd a.t 0 30 (by decide)
  generalize wthn a.k 0 1048576 = k0 at *
  generalize wthn a.t 0 30 = t at *
  have hk5 := Int.tmod_lt_of_pos k0 (show (0 : Int) < 5 by decide)
  have hk0 : 0 ≤ k0.tmod 5 := Int.tmod_nonneg _ b1.1
  have hw : IntKind.i64.wrap (1 + k0.tmod 5) = 1 + k0.tmod 5 := z64 (by omega) (by omega)
  have hft := flt_c a.v.n a.v.x h.v.1.1 h.v.1.2 h.v.2
  refine no_implicit_lambda% (acalls_of tok dok (f := 57) ⟨Try.func57, rfl, by kernel_rfl⟩ ?_); refine no_implicit_lambda% (c_start (fun _ h => h) ?_)
  repeat' (first | (refine no_implicit_lambda% (awd1 ?_)) | (((with_reducible refine no_implicit_lambda% (is_aops ?_)); refine no_implicit_lambda% (o_split rfl rfl rfl (fun hc => ?_) (fun hc => ?_)) <;> first | exact decx hc | rw [hc])) | (((with_reducible refine no_implicit_lambda% (is_cond ?_)); refine no_implicit_lambda% (c_cond rfl (fun hc => ?_) (fun hc => ?_)) <;> first | exact decx hc | skip)) | (((with_reducible refine no_implicit_lambda% (is_aop ?_)); refine no_implicit_lambda% (a_pick rfl rfl (fun hc => ?_) (fun hc => ?_)) <;> first | exact decx hc | rw [hc])) | (refine no_implicit_lambda% (ans ?_)) | (with_reducible exact retN) | (with_reducible exact retP) | (refine no_implicit_lambda% (cal [] (w1) ?_ ?_)) | fail)
  (refine no_implicit_lambda% (cal [] (keepcol_c a.c h.c.1 h.c.2) ?_ ?_))
  · intro xx H' hh
    obtain ⟨s, hs, h', rfl⟩ := hh
    cases h'
    first | (refine no_implicit_lambda% (akc ?_)) | (refine no_implicit_lambda% (aec ?_))
    have hsn := colL_nm hs
    repeat' (first | (refine no_implicit_lambda% (awd1 ?_)) | (((with_reducible refine no_implicit_lambda% (is_aops ?_)); refine no_implicit_lambda% (o_split rfl rfl rfl (fun hc => ?_) (fun hc => ?_)) <;> first | exact decx hc | rw [hc])) | (((with_reducible refine no_implicit_lambda% (is_cond ?_)); refine no_implicit_lambda% (c_cond rfl (fun hc => ?_) (fun hc => ?_)) <;> first | exact decx hc | skip)) | (((with_reducible refine no_implicit_lambda% (is_aop ?_)); refine no_implicit_lambda% (a_pick rfl rfl (fun hc => ?_) (fun hc => ?_)) <;> first | exact decx hc | rw [hc])) | (refine no_implicit_lambda% (ans ?_)) | (with_reducible exact retN) | (with_reducible exact retP) | (refine no_implicit_lambda% (cal [] (w2) ?_ ?_)) | fail)
    (refine no_implicit_lambda% (cal [] (dvmade_c a.v h.v) ?_ ?_))
    · intro xx H' hh
      obtain ⟨v, hv, h', rfl⟩ := hh
      cases h'
      first | (refine no_implicit_lambda% (akc ?_)) | (refine no_implicit_lambda% (aec ?_))
      have hk : 1 ≤ IntKind.i64.wrap (1 + k0.tmod 5) ∧ IntKind.i64.wrap (1 + k0.tmod 5) ≤ 5 := by omega
      generalize IntKind.i64.wrap (1 + k0.tmod 5) = kk at *
      have htk : tmOk t = true := decide_eq_true (by omega)
      repeat' (first | (refine no_implicit_lambda% (awd1 ?_)) | (((with_reducible refine no_implicit_lambda% (is_aops ?_)); refine no_implicit_lambda% (o_split rfl rfl rfl (fun hc => ?_) (fun hc => ?_)) <;> first | exact decx hc | rw [hc])) | (((with_reducible refine no_implicit_lambda% (is_cond ?_)); refine no_implicit_lambda% (c_cond rfl (fun hc => ?_) (fun hc => ?_)) <;> first | exact decx hc | skip)) | (((with_reducible refine no_implicit_lambda% (is_aop ?_)); refine no_implicit_lambda% (a_pick rfl rfl (fun hc => ?_) (fun hc => ?_)) <;> first | exact decx hc | rw [hc])) | (refine no_implicit_lambda% (ans ?_)) | (with_reducible exact retN) | (with_reducible exact retP) | fail | fail)
      · (refine no_implicit_lambda% (cal [] (hft) ?_ ?_))
        · intro xx H' hh
          obtain ⟨fb, hfb, h', rfl⟩ := hh
          cases h'
          first | (refine no_implicit_lambda% (akc ?_)) | (refine no_implicit_lambda% (aec ?_))
          repeat' (first | (refine no_implicit_lambda% (awd1 ?_)) | (((with_reducible refine no_implicit_lambda% (is_aops ?_)); refine no_implicit_lambda% (o_split rfl rfl rfl (fun hc => ?_) (fun hc => ?_)) <;> first | exact decx hc | rw [hc])) | (((with_reducible refine no_implicit_lambda% (is_cond ?_)); refine no_implicit_lambda% (c_cond rfl (fun hc => ?_) (fun hc => ?_)) <;> first | exact decx hc | skip)) | (((with_reducible refine no_implicit_lambda% (is_aop ?_)); refine no_implicit_lambda% (a_pick rfl rfl (fun hc => ?_) (fun hc => ?_)) <;> first | exact decx hc | rw [hc])) | (refine no_implicit_lambda% (ans ?_)) | (with_reducible exact retN) | (with_reducible exact retP) | fail | fail)
          have hk5 : kk = 5 := by simpa using hc
          subst hk5
          refine e_ret_to (H' := []) (rest := _) (Conv.toT (τ := ⟨_, [(1, .box (chrow ⟨5, s, t, ⟨2, [], fb⟩⟩))], _⟩) (.refl _) ?_ (Nat.le_refl _)) rfl ⟨⟨5, s, t, ⟨2, [], fb⟩⟩, ⟨?_, ?_⟩, rfl, rfl⟩ (.of_eq rfl) (Nat.le_of_ble_eq_true rfl)
          · exact wkh
          · exact ⟨show 0 < 1073741824 by decide, hfb⟩
          · unfold rightC; rw [hsn, htk]; rfl
        · intro xx H' hh
          obtain ⟨_, _, h', _⟩ := hh
          cases h'
      · have hk5 : kk = 2 := by simpa using hc
        subst hk5
        refine e_ret_to (H' := []) (rest := _) (Conv.toT (τ := ⟨_, [(1, .box (chrow ⟨2, s, t, ⟨0, [], 0⟩⟩))], _⟩) (.refl _) ?_ (Nat.le_refl _)) rfl ⟨⟨2, s, t, ⟨0, [], 0⟩⟩, ⟨?_, ?_⟩, rfl, rfl⟩ (.of_eq rfl) (Nat.le_of_ble_eq_true rfl)
        · exact wkh
        · exact ⟨show 0 < 1073741824 by decide, show 0 < 18446744073709551616 by decide⟩
        · unfold rightC; rw [hsn, htk]; rfl
      · have hk5 : kk = 3 := by simpa using hc
        subst hk5
        refine e_ret_to (H' := []) (rest := _) (Conv.toT (τ := ⟨_, [(1, .box (chrow ⟨3, s, 0, ⟨0, [], 0⟩⟩))], _⟩) (.refl _) ?_ (Nat.le_refl _)) rfl ⟨⟨3, s, 0, ⟨0, [], 0⟩⟩, ⟨?_, ?_⟩, rfl, rfl⟩ (.of_eq rfl) (Nat.le_of_ble_eq_true rfl)
        · exact wkh
        · exact ⟨show 0 < 1073741824 by decide, show 0 < 18446744073709551616 by decide⟩
        · unfold rightC; rw [hsn]; rfl
      · have hk5 : kk = 4 := by simpa using hc
        subst hk5
        refine e_ret_to (H' := []) (rest := _) (Conv.toT (τ := ⟨_, [(1, .box (chrow ⟨4, ByteArray.empty, 0, ⟨0, [], 0⟩⟩))], _⟩) (.refl _) ?_ (Nat.le_refl _)) rfl ⟨⟨4, ByteArray.empty, 0, ⟨0, [], 0⟩⟩, ⟨?_, ?_⟩, rfl, rfl⟩ (.of_eq rfl) (Nat.le_of_ble_eq_true rfl)
        · exact wkh
        · exact ⟨show 0 < 1073741824 by decide, show 0 < 18446744073709551616 by decide⟩
        · rfl
      · have hk5 : kk = 1 := by
          simp only [beq_eq_false_iff_ne] at *
          omega
        subst hk5
        refine e_ret_to (H' := []) (rest := _) (Conv.toT (τ := ⟨_, [(1, .box (chrow ⟨1, s, t, v⟩))], _⟩) (.refl _) ?_ (Nat.le_refl _)) rfl ⟨⟨1, s, t, v⟩, ⟨?_, ?_⟩, rfl, rfl⟩ (.of_eq rfl) (Nat.le_of_ble_eq_true rfl)
        · exact wkh
        · exact ⟨hv.1, hv.2.1⟩
        · unfold rightC; rw [hsn, htk, hv.2.2]; rfl
    · intro xx H' hh
      obtain ⟨_, _, h', _⟩ := hh
      cases h'
  · intro xx H' hh
    obtain ⟨_, _, h', _⟩ := hh
    cases h'
end Go.Proofs.Ytncffhgoopdfgaa
namespace Go.Proofs.Ytncffhgoopdfgaa
open Go.Am
set_option linter.unusedSimpArgs false
set_option linter.unusedVariables false
set_option maxRecDepth 100000
def askC (k : Int) : Bool × Bool × Bool × Bool := if k = 1 ∨ k = 5 then (true, true, true, true) else if k = 2 then (true, true, false, true) else if k = 3 then (true, false, false, true) else if k = 4 then (false, false, false, true) else (false, false, false, false)
theorem asks_c (k : Int) : ACalls Try.prog 95 0 0 [.v (.int .i64 k)] [] (fun out H' => out = .ret (.tuple [.v (.bool (askC k).1), .v (.bool (askC k).2.1), .v (.bool (askC k).2.2.1), .v (.bool (askC k).2.2.2)]) ∧ H' = []) := by
  have hk : k = 1 ∨ k = 2 ∨ k = 3 ∨ k = 4 ∨ k = 5 ∨ (k < 1 ∨ 5 < k) := by omega
  rcases hk with hk | hk | hk | hk | hk | hk
  all_goals
    have ha : askC k = askC k := rfl
    conv at ha => rhs; unfold askC
    first
      | rw [if_pos (by omega)] at ha
      | rw [if_neg (by omega), if_pos (by omega)] at ha
      | rw [if_neg (by omega), if_neg (by omega), if_pos (by omega)] at ha
      | rw [if_neg (by omega), if_neg (by omega), if_neg (by omega), if_pos (by omega)] at ha
      | rw [if_neg (by omega), if_neg (by omega), if_neg (by omega), if_neg (by omega)] at ha
    rw [ha]
    refine no_implicit_lambda% (acalls_of tok dok (f := 95) ⟨Try.func95, rfl, by kernel_rfl⟩ ?_); refine no_implicit_lambda% (c_start (fun _ h => h) ?_)
    repeat' (first | (refine no_implicit_lambda% (awd1 ?_)) | (((with_reducible refine no_implicit_lambda% (is_aops ?_)); refine no_implicit_lambda% (o_split rfl rfl rfl (fun hc => ?_) (fun hc => ?_)) <;> first | exact decx hc | rw [hc])) | (((with_reducible refine no_implicit_lambda% (is_cond ?_)); refine no_implicit_lambda% (c_cond rfl (fun hc => ?_) (fun hc => ?_)) <;> first | exact decx hc | skip)) | (((with_reducible refine no_implicit_lambda% (is_aop ?_)); refine no_implicit_lambda% (a_pick rfl rfl (fun hc => ?_) (fun hc => ?_)) <;> first | exact decx hc | rw [hc])) | (refine no_implicit_lambda% (ans ?_)) | (with_reducible exact retN) | (with_reducible exact retP) | fail | fail)
    all_goals exact e_ret (H' := []) (rest := _) rfl ⟨rfl, rfl⟩ permT (Nat.le_of_ble_eq_true rfl)
set_option maxHeartbeats 6400000 in
theorem right5_c (x : Ch) : ACalls Try.prog 58 0 50 [.agg (chrow x)] [] (fun out H' => out = .ret (.v (.int .i64 (rightC x))) ∧ H' = []) := by
  have h1 := name_c x.c
  have h2 : ACalls Try.prog 96 0 10 [vav x.v] [] (fun out H' => out = .ret (.v (.bool (vRt x.v))) ∧ H' = []) := vright_c x.v
  have h0 := asks_c x.k
  have hk : x.k = 1 ∨ x.k = 2 ∨ x.k = 3 ∨ x.k = 4 ∨ x.k = 5 ∨ (x.k < 1 ∨ 5 < x.k) := by omega
  rcases hk with hk | hk | hk | hk | hk | hk
  all_goals
    have ha : askC x.k = askC x.k := rfl
    conv at ha => rhs; unfold askC
    first
      | rw [if_pos (by omega)] at ha
      | rw [if_neg (by omega), if_pos (by omega)] at ha
      | rw [if_neg (by omega), if_neg (by omega), if_pos (by omega)] at ha
      | rw [if_neg (by omega), if_neg (by omega), if_neg (by omega), if_pos (by omega)] at ha
      | rw [if_neg (by omega), if_neg (by omega), if_neg (by omega), if_neg (by omega)] at ha
    rw [ha] at h0
    dsimp only at h0
    refine no_implicit_lambda% (acalls_of tok dok (f := 58) ⟨Try.func58, rfl, by kernel_rfl⟩ ?_); refine no_implicit_lambda% (c_start (fun _ h => h) ?_)
    repeat' (first | (refine no_implicit_lambda% (awd1 ?_)) | (((with_reducible refine no_implicit_lambda% (is_aops ?_)); refine no_implicit_lambda% (o_split rfl rfl rfl (fun hc => ?_) (fun hc => ?_)) <;> first | exact decx hc | rw [hc])) | (((with_reducible refine no_implicit_lambda% (is_cond ?_)); refine no_implicit_lambda% (c_cond rfl (fun hc => ?_) (fun hc => ?_)) <;> first | exact decx hc | skip)) | (((with_reducible refine no_implicit_lambda% (is_aop ?_)); refine no_implicit_lambda% (a_pick rfl rfl (fun hc => ?_) (fun hc => ?_)) <;> first | exact decx hc | rw [hc])) | (refine no_implicit_lambda% (ans ?_)) | (with_reducible exact retN) | (with_reducible exact retP) | (refine no_implicit_lambda% (cal [] (h0) ?_ ?_)) | (refine no_implicit_lambda% (cal [] (h1) ?_ ?_)) | (refine no_implicit_lambda% (cal [] (h2) ?_ ?_)) | fail)
    all_goals
      refine e_ret (H' := []) (rest := _) rfl ⟨congrArg (fun z => AOut.ret (.v (.int .i64 z))) ?_, rfl⟩ permT (Nat.le_of_ble_eq_true rfl)
      clear h0 h1 h2 ha
      unfold rightC tmOk
      simp only [decide_eq_true_eq, decide_eq_false_iff_not, beq_iff_eq, beq_eq_false_iff_ne, bne_iff_ne, bne_eq_false_iff_eq, Bool.not_eq_true', Bool.not_eq_false', ne_eq] at *
      repeat' split
      all_goals first | rfl | (exfalso; omega) | (exfalso; simp_all; done) | (exfalso; simp_all; omega)
end Go.Proofs.Ytncffhgoopdfgaa
namespace Go.Proofs.Ytncffhgoopdfgaa
open Go.Am
set_option linter.unusedSimpArgs false
set_option linter.unusedVariables false
set_option maxRecDepth 100000
set_option maxHeartbeats 6400000 in
theorem one_c (o : List Co) (x : Ch) (hF : Fine o) (hz : RowSz o) (hx : ChSz x) (hk : 1 ≤ x.k ∧ x.k ≤ 5) : ACalls Try.prog 60 0 40000 [rowA o, .agg (chrow x)] [] (PutRR (stepC o x)) := by
  have ho4 := hF.len
  have hor : o.length < 70368744177664 := by omega
  have p1 := put_c o x.c x.t x.v hor hz hx
  have p2 := drop_c o x.c x.t hor hz
  have p3 := dropcol_c o x.c hor hz (dc_sz hz)
  rw [(dc_fine o x.c).copy] at p3
  have hkk : x.k = 1 ∨ x.k = 2 ∨ x.k = 3 ∨ x.k = 4 ∨ x.k = 5 := by omega
  rcases hkk with hk | hk | hk | hk | hk
  · have hs : stepC o x = putR o x.c x.t x.v := by unfold stepC; rw [if_pos hk]
    rw [hs]
    unfold PutRR at *
    generalize putR o x.c x.t x.v = Q at *
    obtain ⟨e, X⟩ := Q
    refine no_implicit_lambda% (acalls_of tok dok (f := 60) ⟨Try.func60, rfl, by kernel_rfl⟩ ?_); refine no_implicit_lambda% (c_start (fun _ h => h) ?_)
    repeat' (first | (refine no_implicit_lambda% (awd1 ?_)) | (((with_reducible refine no_implicit_lambda% (is_aops ?_)); refine no_implicit_lambda% (o_split rfl rfl rfl (fun hc => ?_) (fun hc => ?_)) <;> first | exact decx hc | rw [hc])) | (((with_reducible refine no_implicit_lambda% (is_cond ?_)); refine no_implicit_lambda% (c_cond rfl (fun hc => ?_) (fun hc => ?_)) <;> first | exact decx hc | skip)) | (((with_reducible refine no_implicit_lambda% (is_aop ?_)); refine no_implicit_lambda% (a_pick rfl rfl (fun hc => ?_) (fun hc => ?_)) <;> first | exact decx hc | rw [hc])) | (refine no_implicit_lambda% (ans ?_)) | (with_reducible exact retN) | (with_reducible exact retP) | (refine no_implicit_lambda% (cal [] (p1) ?_ ?_)) | fail)
    exact e_ret (H' := []) (rest := _) rfl ⟨rfl, rfl⟩ permT (Nat.le_of_ble_eq_true rfl)
  · have hs : stepC o x = (0, dropR o x.c x.t) := by unfold stepC; rw [if_neg (by omega), if_pos hk]
    rw [hs]
    unfold PutRR
    refine no_implicit_lambda% (acalls_of tok dok (f := 60) ⟨Try.func60, rfl, by kernel_rfl⟩ ?_); refine no_implicit_lambda% (c_start (fun _ h => h) ?_)
    repeat' (first | (refine no_implicit_lambda% (awd1 ?_)) | (((with_reducible refine no_implicit_lambda% (is_aops ?_)); refine no_implicit_lambda% (o_split rfl rfl rfl (fun hc => ?_) (fun hc => ?_)) <;> first | exact decx hc | rw [hc])) | (((with_reducible refine no_implicit_lambda% (is_cond ?_)); refine no_implicit_lambda% (c_cond rfl (fun hc => ?_) (fun hc => ?_)) <;> first | exact decx hc | skip)) | (((with_reducible refine no_implicit_lambda% (is_aop ?_)); refine no_implicit_lambda% (a_pick rfl rfl (fun hc => ?_) (fun hc => ?_)) <;> first | exact decx hc | rw [hc])) | (refine no_implicit_lambda% (ans ?_)) | (with_reducible exact retN) | (with_reducible exact retP) | (refine no_implicit_lambda% (cal [] (p2) ?_ ?_)) | fail)
    exact e_ret (H' := []) (rest := _) rfl ⟨rfl, rfl⟩ permT (Nat.le_of_ble_eq_true rfl)
  · have hs : stepC o x = (0, dcR o x.c) := by unfold stepC; rw [if_neg (by omega), if_neg (by omega), if_pos hk]
    rw [hs]
    unfold PutRR
    refine no_implicit_lambda% (acalls_of tok dok (f := 60) ⟨Try.func60, rfl, by kernel_rfl⟩ ?_); refine no_implicit_lambda% (c_start (fun _ h => h) ?_)
    repeat' (first | (refine no_implicit_lambda% (awd1 ?_)) | (((with_reducible refine no_implicit_lambda% (is_aops ?_)); refine no_implicit_lambda% (o_split rfl rfl rfl (fun hc => ?_) (fun hc => ?_)) <;> first | exact decx hc | rw [hc])) | (((with_reducible refine no_implicit_lambda% (is_cond ?_)); refine no_implicit_lambda% (c_cond rfl (fun hc => ?_) (fun hc => ?_)) <;> first | exact decx hc | skip)) | (((with_reducible refine no_implicit_lambda% (is_aop ?_)); refine no_implicit_lambda% (a_pick rfl rfl (fun hc => ?_) (fun hc => ?_)) <;> first | exact decx hc | rw [hc])) | (refine no_implicit_lambda% (ans ?_)) | (with_reducible exact retN) | (with_reducible exact retP) | (refine no_implicit_lambda% (cal [] (p3) ?_ ?_)) | fail)
    exact e_ret (H' := []) (rest := _) rfl ⟨rfl, rfl⟩ permT (Nat.le_of_ble_eq_true rfl)
  · have hs : stepC o x = (0, []) := by unfold stepC; rw [if_neg (by omega), if_neg (by omega), if_neg (by omega), if_pos hk]
    rw [hs]
    unfold PutRR
    refine no_implicit_lambda% (acalls_of tok dok (f := 60) ⟨Try.func60, rfl, by kernel_rfl⟩ ?_); refine no_implicit_lambda% (c_start (fun _ h => h) ?_)
    repeat' (first | (refine no_implicit_lambda% (awd1 ?_)) | (((with_reducible refine no_implicit_lambda% (is_aops ?_)); refine no_implicit_lambda% (o_split rfl rfl rfl (fun hc => ?_) (fun hc => ?_)) <;> first | exact decx hc | rw [hc])) | (((with_reducible refine no_implicit_lambda% (is_cond ?_)); refine no_implicit_lambda% (c_cond rfl (fun hc => ?_) (fun hc => ?_)) <;> first | exact decx hc | skip)) | (((with_reducible refine no_implicit_lambda% (is_aop ?_)); refine no_implicit_lambda% (a_pick rfl rfl (fun hc => ?_) (fun hc => ?_)) <;> first | exact decx hc | rw [hc])) | (refine no_implicit_lambda% (ans ?_)) | (with_reducible exact retN) | (with_reducible exact retP) | fail | fail)
    refine e_ret_to (H' := []) (rest := _) (Conv.toT (τ := ⟨_, [(2, .box [.list [] .free])], _⟩) (.refl _) ?_ (Nat.le_refl _)) rfl ⟨rfl, rfl⟩ (.of_eq rfl) (Nat.le_of_ble_eq_true rfl)
    exact wkh
  · have hs : stepC o x = if (plusV (oldV o x.c) x.v).2 ≠ 0 then ((plusV (oldV o x.c) x.v).2, []) else putR o x.c x.t (plusV (oldV o x.c) x.v).1 := by unfold stepC; rw [if_neg (by omega), if_neg (by omega), if_neg (by omega), if_neg (by omega)]
    have p4 := newest_c o x.c hor hz
    have p5 := plus_c (oldV o x.c) x.v
    have p6 := put_c o x.c x.t (plusV (oldV o x.c) x.v).1 hor hz (plusV_sz _ _)
    have p7 := csign_c
    rw [hs]
    unfold PutRR at *
    have hold : oldV o x.c = (atR o x.c 1099511627776).getD ⟨2, [], 9223372036854775808⟩ := rfl
    generalize plusV (oldV o x.c) x.v = W at *
    generalize putR o x.c x.t W.1 = Q at *
    obtain ⟨w, f⟩ := W
    obtain ⟨e, X⟩ := Q
    rcases hat : atR o x.c 1099511627776 with _ | ov
    · rw [hat] at hold p4
      rw [hold] at p5
      unfold optA at p4
      refine no_implicit_lambda% (acalls_of tok dok (f := 60) ⟨Try.func60, rfl, by kernel_rfl⟩ ?_); refine no_implicit_lambda% (c_start (fun _ h => h) ?_)
      repeat' (first | (refine no_implicit_lambda% (awd1 ?_)) | (((with_reducible refine no_implicit_lambda% (is_aops ?_)); refine no_implicit_lambda% (o_split rfl rfl rfl (fun hc => ?_) (fun hc => ?_)) <;> first | exact decx hc | rw [hc])) | (((with_reducible refine no_implicit_lambda% (is_cond ?_)); refine no_implicit_lambda% (c_cond rfl (fun hc => ?_) (fun hc => ?_)) <;> first | exact decx hc | skip)) | (((with_reducible refine no_implicit_lambda% (is_aop ?_)); refine no_implicit_lambda% (a_pick rfl rfl (fun hc => ?_) (fun hc => ?_)) <;> first | exact decx hc | rw [hc])) | (refine no_implicit_lambda% (ans ?_)) | (with_reducible exact retN) | (with_reducible exact retP) | (refine no_implicit_lambda% (cal [] (p4) ?_ ?_)) | (refine no_implicit_lambda% (cal [] (p7) ?_ ?_)) | fail)
      (refine no_implicit_lambda% (calw [] (p5) ?_ ?_))
      rotate_left
      · first | (exact retN) | (exact retP)
      refine no_implicit_lambda% (ret1 ?_); first | (refine no_implicit_lambda% (akc ?_)) | (refine no_implicit_lambda% (aec ?_))
      repeat' (first | (refine no_implicit_lambda% (awd1 ?_)) | (((with_reducible refine no_implicit_lambda% (is_aops ?_)); refine no_implicit_lambda% (o_split rfl rfl rfl (fun hc => ?_) (fun hc => ?_)) <;> first | exact decx hc | rw [hc])) | (((with_reducible refine no_implicit_lambda% (is_cond ?_)); refine no_implicit_lambda% (c_cond rfl (fun hc => ?_) (fun hc => ?_)) <;> first | exact decx hc | skip)) | (((with_reducible refine no_implicit_lambda% (is_aop ?_)); refine no_implicit_lambda% (a_pick rfl rfl (fun hc => ?_) (fun hc => ?_)) <;> first | exact decx hc | rw [hc])) | (refine no_implicit_lambda% (ans ?_)) | (with_reducible exact retN) | (with_reducible exact retP) | (refine no_implicit_lambda% (cal [] (p6) ?_ ?_)) | fail)
      · have he : f ≠ 0 := by simpa using hc
        rw [if_pos he]
        refine e_ret_to (H' := []) (rest := _) (Conv.toT (τ := ⟨_, [(2, .box [.list [] .free])], _⟩) (.refl _) ?_ (Nat.le_refl _)) rfl ⟨rfl, rfl⟩ (.of_eq rfl) (Nat.le_of_ble_eq_true rfl)
        exact wkh
      · have hf0 : f = 0 := by simpa using hc
        rw [if_neg (by simp [hf0])]
        exact e_ret (H' := []) (rest := _) rfl ⟨rfl, rfl⟩ permT (Nat.le_of_ble_eq_true rfl)
    · rw [hat] at hold p4
      rw [hold] at p5
      unfold optA at p4
      refine no_implicit_lambda% (acalls_of tok dok (f := 60) ⟨Try.func60, rfl, by kernel_rfl⟩ ?_); refine no_implicit_lambda% (c_start (fun _ h => h) ?_)
      repeat' (first | (refine no_implicit_lambda% (awd1 ?_)) | (((with_reducible refine no_implicit_lambda% (is_aops ?_)); refine no_implicit_lambda% (o_split rfl rfl rfl (fun hc => ?_) (fun hc => ?_)) <;> first | exact decx hc | rw [hc])) | (((with_reducible refine no_implicit_lambda% (is_cond ?_)); refine no_implicit_lambda% (c_cond rfl (fun hc => ?_) (fun hc => ?_)) <;> first | exact decx hc | skip)) | (((with_reducible refine no_implicit_lambda% (is_aop ?_)); refine no_implicit_lambda% (a_pick rfl rfl (fun hc => ?_) (fun hc => ?_)) <;> first | exact decx hc | rw [hc])) | (refine no_implicit_lambda% (ans ?_)) | (with_reducible exact retN) | (with_reducible exact retP) | (refine no_implicit_lambda% (cal [] (p4) ?_ ?_)) | (refine no_implicit_lambda% (cal [] (p5) ?_ ?_)) | (refine no_implicit_lambda% (cal [] (p6) ?_ ?_)) | fail)
      · have he : f ≠ 0 := by simpa using hc
        rw [if_pos he]
        refine e_ret_to (H' := []) (rest := _) (Conv.toT (τ := ⟨_, [(2, .box [.list [] .free])], _⟩) (.refl _) ?_ (Nat.le_refl _)) rfl ⟨rfl, rfl⟩ (.of_eq rfl) (Nat.le_of_ble_eq_true rfl)
        exact wkh
      · have hf0 : f = 0 := by simpa using hc
        rw [if_neg (by simp [hf0])]
        exact e_ret (H' := []) (rest := _) rfl ⟨rfl, rfl⟩ permT (Nat.le_of_ble_eq_true rfl)
def ppSt (l : List Ch) (R : List Co) (i : Nat) : ASt := ⟨([.dead, .list (l.map chrow) .free, .ptr 0 0, .dead, .ptr 1 0] ++ List.replicate 12 .dead ++ [.list (l.map chrow) .free, .v (.int .i64 l.length), .v (.int .i64 i)] ++ List.replicate 30 .dead), [(0, .box [.list (R.map corow) .free]), (1, .box [.list [] .full])], 2⟩
def pqSt (l : List Ch) (o : List Co) (i : Nat) : ASt := ⟨([.dead, .dead, .dead, .dead, .ptr 1 0, .dead, .dead, .dead, .dead, .ptr 2 0] ++ List.replicate 22 .dead ++ [.list (l.map chrow) .free, .v (.int .i64 l.length), .v (.int .i64 i)] ++ List.replicate 15 .dead), [(1, .box [.list [] .full]), (2, .box [.list (o.map corow) .free])], 3⟩
set_option maxHeartbeats 6400000 in
theorem apply_c (r : List Co) (l : List Ch) (hr : r.length < 70368744177664) (hz : RowSz r) (hl : ∀ x ∈ l, ChSz x) (hll : l.length < 1000000) : ACalls Try.prog 20 0 500000 [rowA r, .list (l.map chrow) .free] [] (PutRR (applyR r l)) := by
  have hcp := copy_f r hr hz
  have hlm : ((l.map chrow).length : Int) = l.length := by rw [List.length_map]
  refine no_implicit_lambda% (acalls_of tok dok (f := 20) ⟨Try.func20, rfl, by kernel_rfl⟩ ?_); refine no_implicit_lambda% (c_start (fun _ h => h) ?_)
  repeat' (first | (refine no_implicit_lambda% (awd1 ?_)) | (((with_reducible refine no_implicit_lambda% (is_aops ?_)); refine no_implicit_lambda% (o_split rfl rfl rfl (fun hc => ?_) (fun hc => ?_)) <;> first | exact decx hc | rw [hc])) | (((with_reducible refine no_implicit_lambda% (is_cond ?_)); refine no_implicit_lambda% (c_cond rfl (fun hc => ?_) (fun hc => ?_)) <;> first | exact decx hc | skip)) | (((with_reducible refine no_implicit_lambda% (is_aop ?_)); refine no_implicit_lambda% (a_pick rfl rfl (fun hc => ?_) (fun hc => ?_)) <;> first | exact decx hc | rw [hc])) | (refine no_implicit_lambda% (ans ?_)) | (with_reducible exact retN) | (with_reducible exact retP) | fail | fail)
  · have : applyR r l = (3, []) := by unfold applyR; rw [if_pos (by have := of_decide_eq_true hc; omega)]
    rw [this]
    refine e_ret_to (H' := []) (rest := _) (Conv.toT (τ := ⟨_, [(1, .box [.list [] .free])], _⟩) (.refl _) ?_ (Nat.le_refl _)) rfl ⟨rfl, rfl⟩ (.of_eq rfl) (Nat.le_of_ble_eq_true rfl); exact wkh
  · have hl8 : ¬ 8 < l.length := by have := of_decide_eq_false hc; omega
    refine c_loop' (ppSt l r) (fun i => i ≤ l.length ∧ firstE l = firstE (l.drop i)) (fun i => l.length - i) (a := 0) ⟨Nat.zero_le _, rfl⟩ ?_ ?_
    · rw [List.length_map]
      (refine no_implicit_lambda% (Conv.toT ?_ ?_ (Nat.le_of_ble_eq_true rfl))); (focus ((unfold ppSt); (try dsimp only); exact wkl)); (focus ((unfold ppSt); (try dsimp only); exact wkh))
    · rintro i ⟨i1, i2⟩
      refine c_turn (n' := 2) (fun _ h => h) (fun _ h => h) rfl ?_
      rcases hx : l[i]? with _ | x
      · have hi : i = l.length := by have := List.getElem?_eq_none_iff.1 hx; omega
        have hf0 : firstE l = 0 := by rw [i2, hi, List.drop_length]; rfl
        have hap : applyR r l = foldC (copyR r) l := by unfold applyR; rw [if_neg hl8, if_neg (by simp [hf0])]
        rw [hap]
        have hco := copy_fine r
        have hcz := copy_sz hz
        generalize copyR r = o0 at *
        repeat' (first | (refine no_implicit_lambda% (awd1 ?_)) | (((with_reducible refine no_implicit_lambda% (is_aops ?_)); refine no_implicit_lambda% (o_split rfl rfl rfl (fun hc => ?_) (fun hc => ?_)) <;> first | exact decx hc | rw [hc])) | (((with_reducible refine no_implicit_lambda% (is_cond ?_)); refine no_implicit_lambda% (c_cond rfl (fun hc => ?_) (fun hc => ?_)) <;> first | exact decx hc | skip)) | (((with_reducible refine no_implicit_lambda% (is_aop ?_)); refine no_implicit_lambda% (a_pick rfl rfl (fun hc => ?_) (fun hc => ?_)) <;> first | exact decx hc | rw [hc])) | (refine no_implicit_lambda% (ans ?_)) | (with_reducible exact retN) | (with_reducible exact retP) | (refine no_implicit_lambda% (cal [] (hcp) ?_ ?_)) | fail)
        refine c_loop2 (pqSt l) (fun o i => i ≤ l.length ∧ Fine o ∧ RowSz o ∧ foldC o0 l = foldC o (l.drop i)) (fun _ i => l.length - i) o0 0 ⟨Nat.zero_le _, hco, hcz, rfl⟩ ?_ ?_
        · rw [List.length_map]
          (refine no_implicit_lambda% (Conv.toT ?_ ?_ (Nat.le_of_ble_eq_true rfl))); (focus ((unfold pqSt); (try dsimp only); exact wkl)); (focus ((unfold pqSt); (try dsimp only); exact wkh))
        · rintro o j ⟨j1, hF, hzo, j2⟩
          refine c_turn (n' := 3) (fun _ h => h) (fun _ h => h) rfl ?_
          rcases hy : l[j]? with _ | x
          · have hj : j = l.length := by have := List.getElem?_eq_none_iff.1 hy; omega
            rw [j2, hj, List.drop_length]
            repeat' (first | (refine no_implicit_lambda% (awd1 ?_)) | (((with_reducible refine no_implicit_lambda% (is_aops ?_)); refine no_implicit_lambda% (o_split rfl rfl rfl (fun hc => ?_) (fun hc => ?_)) <;> first | exact decx hc | rw [hc])) | (((with_reducible refine no_implicit_lambda% (is_cond ?_)); refine no_implicit_lambda% (c_cond rfl (fun hc => ?_) (fun hc => ?_)) <;> first | exact decx hc | skip)) | (((with_reducible refine no_implicit_lambda% (is_aop ?_)); refine no_implicit_lambda% (a_pick rfl rfl (fun hc => ?_) (fun hc => ?_)) <;> first | exact decx hc | rw [hc])) | (refine no_implicit_lambda% (ans ?_)) | (with_reducible exact retN) | (with_reducible exact retP) | fail | fail)
            exact e_ret (H' := []) (rest := _) rfl ⟨rfl, rfl⟩ permT (Nat.le_of_ble_eq_true rfl)
          · have hj : j < l.length := (List.getElem?_eq_some_iff.1 hy).1
            have hix := chx hy
            have hxz := hl x (List.mem_of_getElem? hy)
            have hkd := rightC_kind (firstE_ok hf0 x (List.mem_of_getElem? hy))
            have hfa := foldC_at (o := o) hy
            have hsf := stepC_fine hF x
            have hsz := stepC_sz hzo hxz
            have hone := one_c o x hF hzo hxz hkd
            rw [hfa] at j2
            unfold PutRR at hone
            generalize stepC o x = Q at *
            obtain ⟨e, X⟩ := Q
            repeat' (first | (refine no_implicit_lambda% (awd1 ?_)) | (((with_reducible refine no_implicit_lambda% (is_aops ?_)); refine no_implicit_lambda% (o_split rfl rfl rfl (fun hc => ?_) (fun hc => ?_)) <;> first | exact decx hc | rw [hc])) | (((with_reducible refine no_implicit_lambda% (is_cond ?_)); refine no_implicit_lambda% (c_cond rfl (fun hc => ?_) (fun hc => ?_)) <;> first | exact decx hc | skip)) | (((with_reducible refine no_implicit_lambda% (is_aop ?_)); refine no_implicit_lambda% (a_pick rfl rfl (fun hc => ?_) (fun hc => ?_)) <;> first | exact decx hc | rw [hc])) | (refine no_implicit_lambda% (ans ?_)) | (with_reducible exact retN) | (with_reducible exact retP) | (refine no_implicit_lambda% (cal [] (hone) ?_ ?_)) | fail)
            · have he : e ≠ 0 := by simpa using hc
              rw [j2, if_pos he]
              refine e_ret_to (H' := []) (rest := _) (Conv.toT (τ := ⟨_, [(1, .box [.list [] .free])], _⟩) (.refl _) ?_ (Nat.le_refl _)) rfl ⟨rfl, rfl⟩ (.of_eq rfl) (Nat.le_of_ble_eq_true rfl); exact wkh
            · have he : e = 0 := by simpa using hc
              rw [if_neg (by simp [he])] at j2
              (refine no_implicit_lambda% (k_loopLT (((X, j + 1) : List Co × Nat)) 0 [0, 1, 2] (by show j + 1 ≤ l.length ∧ Fine X ∧ RowSz X ∧ foldC o0 l = foldC X (l.drop (j + 1)); exact ⟨hj, hsf, hsz, j2⟩) (by first | omega | (simp; done) | (simp; omega)) (Nat.le_of_ble_eq_true rfl) (fun _ h => h) (fun _ h => h) ?_ ?_)); (focus ((try dsimp only); exact wkl)); (focus ((try dsimp only); exact wkh))
      · have hi : i < l.length := (List.getElem?_eq_some_iff.1 hx).1
        have hix := chx hx
        have hrx := right5_c x
        rw [firstE_at hx] at i2
        repeat' (first | (refine no_implicit_lambda% (awd1 ?_)) | (((with_reducible refine no_implicit_lambda% (is_aops ?_)); refine no_implicit_lambda% (o_split rfl rfl rfl (fun hc => ?_) (fun hc => ?_)) <;> first | exact decx hc | rw [hc])) | (((with_reducible refine no_implicit_lambda% (is_cond ?_)); refine no_implicit_lambda% (c_cond rfl (fun hc => ?_) (fun hc => ?_)) <;> first | exact decx hc | skip)) | (((with_reducible refine no_implicit_lambda% (is_aop ?_)); refine no_implicit_lambda% (a_pick rfl rfl (fun hc => ?_) (fun hc => ?_)) <;> first | exact decx hc | rw [hc])) | (refine no_implicit_lambda% (ans ?_)) | (with_reducible exact retN) | (with_reducible exact retP) | (refine no_implicit_lambda% (cal [] (hrx) ?_ ?_)) | fail)
        · have he : rightC x ≠ 0 := by simpa using hc
          have hap : applyR r l = (rightC x, []) := by
            unfold applyR
            rw [if_neg hl8, i2, if_pos he, if_pos he]
          rw [hap]
          refine e_ret_to (H' := []) (rest := _) (Conv.toT (τ := ⟨_, [(1, .box [.list [] .free])], _⟩) (.refl _) ?_ (Nat.le_refl _)) rfl ⟨rfl, rfl⟩ (.of_eq rfl) (Nat.le_of_ble_eq_true rfl); exact wkh
        · have he : rightC x = 0 := by simpa using hc
          rw [if_neg (by simp [he])] at i2
          (refine no_implicit_lambda% (k_loopLT (i + 1) 0 [0, 1] (by show i + 1 ≤ l.length ∧ firstE l = firstE (l.drop (i + 1)); exact ⟨hi, i2⟩) (by first | omega | (simp; done) | (simp; omega)) (Nat.le_of_ble_eq_true rfl) (fun _ h => h) (fun _ h => h) ?_ ?_)); (focus ((try dsimp only); exact wkl)); (focus ((try dsimp only); exact wkh))
end Go.Proofs.Ytncffhgoopdfgaa
namespace Go.Proofs.Ytncffhgoopdfgaa
open Go.Am
set_option linter.unusedSimpArgs false
set_option linter.unusedVariables false
set_option maxRecDepth 100000
theorem applyR_fin (r : List Co) (l : List Ch) : Fine (applyR r l).2 := by
  have hf : ∀ (l : List Ch) (o : List Co), Fine o → Fine (foldC o l).2 := by
    intro l
    induction l with
    | nil => exact fun o h => h
    | cons x l ih =>
      intro o h
      unfold foldC
      split
      · exact fine_nil
      · exact ih _ (stepC_fine h x)
  unfold applyR
  split
  · exact fine_nil
  · split
    · exact fine_nil
    · exact hf l _ (copy_fine r)
theorem applyR_siz {r : List Co} {l : List Ch} (hz : RowSz r) (hl : ∀ x ∈ l, ChSz x) : RowSz (applyR r l).2 := by
  have hf : ∀ (l : List Ch) (o : List Co), RowSz o → (∀ x ∈ l, ChSz x) → RowSz (foldC o l).2 := by
    intro l
    induction l with
    | nil => exact fun o h _ => h
    | cons x l ih =>
      intro o h hl
      unfold foldC
      split
      · exact sz_nil
      · exact ih _ (stepC_sz h (hl x (by simp))) fun y hy => hl y (List.mem_cons_of_mem _ hy)
  unfold applyR
  split
  · exact sz_nil
  · split
    · exact sz_nil
    · exact hf l _ (copy_sz hz) hl
theorem cwx5 {l : List Cw} {i : Nat} {t : Cw} (h : l[i]? = some t) : 0 ≤ (i : Int) ∧ (l.map cwrow)[(i : Int).toNat]? = some (cwrow t) ∧ (cwrow t).length = 7 := ⟨Int.natCast_nonneg _, by rw [Int.toNat_natCast, List.getElem?_map, h]; rfl, rfl⟩
def m5St (l : List Cw) (M : List Co) (i : Nat) : ASt := ⟨([.list (l.map cwrow) .free, .dead, .ptr 0 0, .ptr 1 0, .v (.int .i64 i)] ++ List.replicate 27 .dead), [(0, .box [.list [] .full]), (1, .box [.list (M.map corow) .free])], 2⟩
set_option maxHeartbeats 3200000 in
theorem made5_c (l : List Cw) (hl : ∀ a ∈ l, CwOk a) (h : l.length ≤ 9223372036854775807) : ACalls Try.prog 18 0 900000 [.list (l.map cwrow) .free] [] (fun out H' => ∃ M, (Fine M ∧ RowSz M) ∧ out = .ret (rowA M) ∧ H' = []) := by
  refine no_implicit_lambda% (acalls_of tok dok (f := 18) ⟨Try.func18, rfl, by kernel_rfl⟩ ?_); refine no_implicit_lambda% (c_start (fun _ h => h) ?_)
  repeat' (first | (refine no_implicit_lambda% (awd1 ?_)) | (((with_reducible refine no_implicit_lambda% (is_aops ?_)); refine no_implicit_lambda% (o_split rfl rfl rfl (fun hc => ?_) (fun hc => ?_)) <;> first | exact decx hc | rw [hc])) | (((with_reducible refine no_implicit_lambda% (is_cond ?_)); refine no_implicit_lambda% (c_cond rfl (fun hc => ?_) (fun hc => ?_)) <;> first | exact decx hc | skip)) | (((with_reducible refine no_implicit_lambda% (is_aop ?_)); refine no_implicit_lambda% (a_pick rfl rfl (fun hc => ?_) (fun hc => ?_)) <;> first | exact decx hc | rw [hc])) | (refine no_implicit_lambda% (ans ?_)) | (with_reducible exact retN) | (with_reducible exact retP) | fail | fail)
  refine c_loop2 (m5St l) (fun M i => i ≤ l.length ∧ Fine M ∧ RowSz M) (fun _ i => l.length - i) [] 0 ⟨Nat.zero_le _, fine_nil, sz_nil⟩ ?_ ?_
  · (refine no_implicit_lambda% (Conv.toT ?_ ?_ (Nat.le_of_ble_eq_true rfl))); (focus ((unfold m5St); (try dsimp only); exact wkl)); (focus ((unfold m5St); (try dsimp only); exact wkh))
  · rintro M i ⟨i1, hF, hz⟩
    have h4 := hF.len
    refine c_turn (n' := 2) (fun _ h => h) (fun _ h => h) rfl ?_
    rcases hx : l[i]? with _ | a
    · have hi : i = l.length := by have := List.getElem?_eq_none_iff.1 hx; omega
      repeat' (first | (refine no_implicit_lambda% (awd1 ?_)) | (((with_reducible refine no_implicit_lambda% (is_aops ?_)); refine no_implicit_lambda% (o_split rfl rfl rfl (fun hc => ?_) (fun hc => ?_)) <;> first | exact decx hc | rw [hc])) | (((with_reducible refine no_implicit_lambda% (is_cond ?_)); refine no_implicit_lambda% (c_cond rfl (fun hc => ?_) (fun hc => ?_)) <;> first | exact decx hc | skip)) | (((with_reducible refine no_implicit_lambda% (is_aop ?_)); refine no_implicit_lambda% (a_pick rfl rfl (fun hc => ?_) (fun hc => ?_)) <;> first | exact decx hc | rw [hc])) | (refine no_implicit_lambda% (ans ?_)) | (with_reducible exact retN) | (with_reducible exact retP) | fail | fail)
      exact e_ret (H' := []) (rest := _) rfl ⟨M, ⟨hF, hz⟩, rfl, rfl⟩ permT (Nat.le_of_ble_eq_true rfl)
    · have hi : i < l.length := (List.getElem?_eq_some_iff.1 hx).1
      have ha := hl a (List.mem_of_getElem? hx)
      have hix := cwx5 hx
      repeat' (first | (refine no_implicit_lambda% (awd1 ?_)) | (((with_reducible refine no_implicit_lambda% (is_aops ?_)); refine no_implicit_lambda% (o_split rfl rfl rfl (fun hc => ?_) (fun hc => ?_)) <;> first | exact decx hc | rw [hc])) | (((with_reducible refine no_implicit_lambda% (is_cond ?_)); refine no_implicit_lambda% (c_cond rfl (fun hc => ?_) (fun hc => ?_)) <;> first | exact decx hc | skip)) | (((with_reducible refine no_implicit_lambda% (is_aop ?_)); refine no_implicit_lambda% (a_pick rfl rfl (fun hc => ?_) (fun hc => ?_)) <;> first | exact decx hc | rw [hc])) | (refine no_implicit_lambda% (ans ?_)) | (with_reducible exact retN) | (with_reducible exact retP) | fail | fail)
      · (refine no_implicit_lambda% (cal [] (chmade_c a ha) ?_ ?_))
        · intro xx H' hh
          obtain ⟨x, hxo, h', rfl⟩ := hh
          cases h'
          first | (refine no_implicit_lambda% (akc ?_)) | (refine no_implicit_lambda% (aec ?_))
          have hxs : ∀ y ∈ [x], ChSz y := fun y hy => by rw [List.mem_singleton.1 hy]; exact hxo.1
          have hp := refApply_c M [x] (by omega) hz hxs (by simp)
          have pf := applyR_fin M [x]
          have pz := applyR_siz hz hxs
          unfold PutRR at hp
          generalize applyR M [x] = Q at *
          obtain ⟨e, X⟩ := Q
          repeat' (first | (refine no_implicit_lambda% (awd1 ?_)) | (((with_reducible refine no_implicit_lambda% (is_aops ?_)); refine no_implicit_lambda% (o_split rfl rfl rfl (fun hc => ?_) (fun hc => ?_)) <;> first | exact decx hc | rw [hc])) | (((with_reducible refine no_implicit_lambda% (is_cond ?_)); refine no_implicit_lambda% (c_cond rfl (fun hc => ?_) (fun hc => ?_)) <;> first | exact decx hc | skip)) | (((with_reducible refine no_implicit_lambda% (is_aop ?_)); refine no_implicit_lambda% (a_pick rfl rfl (fun hc => ?_) (fun hc => ?_)) <;> first | exact decx hc | rw [hc])) | (refine no_implicit_lambda% (ans ?_)) | (with_reducible exact retN) | (with_reducible exact retP) | fail | fail)
          (refine no_implicit_lambda% (calw [] (hp) ?_ ?_))
          · refine no_implicit_lambda% (ret1 ?_); first | (refine no_implicit_lambda% (akc ?_)) | (refine no_implicit_lambda% (aec ?_))
            repeat' (first | (refine no_implicit_lambda% (awd1 ?_)) | (((with_reducible refine no_implicit_lambda% (is_aops ?_)); refine no_implicit_lambda% (o_split rfl rfl rfl (fun hc => ?_) (fun hc => ?_)) <;> first | exact decx hc | rw [hc])) | (((with_reducible refine no_implicit_lambda% (is_cond ?_)); refine no_implicit_lambda% (c_cond rfl (fun hc => ?_) (fun hc => ?_)) <;> first | exact decx hc | skip)) | (((with_reducible refine no_implicit_lambda% (is_aop ?_)); refine no_implicit_lambda% (a_pick rfl rfl (fun hc => ?_) (fun hc => ?_)) <;> first | exact decx hc | rw [hc])) | (refine no_implicit_lambda% (ans ?_)) | (with_reducible exact retN) | (with_reducible exact retP) | fail | fail)
            · (refine no_implicit_lambda% (k_loopLT (((X, i + 1) : List Co × Nat)) 0 [0, 1] (by show i + 1 ≤ l.length ∧ Fine X ∧ RowSz X; exact ⟨hi, pf, pz⟩) (by first | omega | (simp; done) | (simp; omega)) (Nat.le_of_ble_eq_true rfl) (fun _ h => h) (fun _ h => h) ?_ ?_)); (focus ((try dsimp only); exact wkl)); (focus ((try dsimp only); exact wkh))
            · (refine no_implicit_lambda% (k_loopLT (((M, i + 1) : List Co × Nat)) 0 [0, 1] (by show i + 1 ≤ l.length ∧ Fine M ∧ RowSz M; exact ⟨hi, hF, hz⟩) (by first | omega | (simp; done) | (simp; omega)) (Nat.le_of_ble_eq_true rfl) (fun _ h => h) (fun _ h => h) ?_ ?_)); (focus ((try dsimp only); exact wkl)); (focus ((try dsimp only); exact wkh))
          · first | (exact retN) | (exact retP)
        · intro xx H' hh
          obtain ⟨_, _, h', _⟩ := hh
          cases h'
      · exact e_ret (H' := []) (rest := _) rfl ⟨M, ⟨hF, hz⟩, rfl, rfl⟩ permT (Nat.le_of_ble_eq_true rfl)
theorem num5_c (n : Nat) : ACalls Try.prog 23 0 10 [.v (.float .f64 n)] [] (fun out H' => out = .ret (vav ⟨2, [], n⟩) ∧ H' = []) := by
  refine no_implicit_lambda% (acalls_of tok dok (f := 23) ⟨Try.func23, rfl, by kernel_rfl⟩ ?_); refine no_implicit_lambda% (c_start (fun _ h => h) ?_)
  repeat' (first | (refine no_implicit_lambda% (awd1 ?_)) | (((with_reducible refine no_implicit_lambda% (is_aops ?_)); refine no_implicit_lambda% (o_split rfl rfl rfl (fun hc => ?_) (fun hc => ?_)) <;> first | exact decx hc | rw [hc])) | (((with_reducible refine no_implicit_lambda% (is_cond ?_)); refine no_implicit_lambda% (c_cond rfl (fun hc => ?_) (fun hc => ?_)) <;> first | exact decx hc | skip)) | (((with_reducible refine no_implicit_lambda% (is_aop ?_)); refine no_implicit_lambda% (a_pick rfl rfl (fun hc => ?_) (fun hc => ?_)) <;> first | exact decx hc | rw [hc])) | (refine no_implicit_lambda% (ans ?_)) | (with_reducible exact retN) | (with_reducible exact retP) | fail | fail)
  refine e_ret_to (H' := []) (rest := [(0, .box [.v (.int .i64 2), .list [] .free, .v (.float .f64 n)])]) (Conv.toT (τ := ⟨_, [(0, .box [.v (.int .i64 2), .list [] .free, .v (.float .f64 n)])], _⟩) (.refl _) ?_ (Nat.le_refl _)) rfl ⟨rfl, rfl⟩ permT (Nat.le_of_ble_eq_true rfl)
  exact wkh
end Go.Proofs.Ytncffhgoopdfgaa
namespace Go.Proofs.Ytncffhgoopdfgaa
open Go.Am
set_option linter.unusedSimpArgs false
set_option linter.unusedVariables false
set_option maxRecDepth 100000
/-- a condition -/
structure Cd where
  has : Bool
  want : Bool
  c : ByteArray
  v : Va
def cdrow (d : Cd) : List AV := [.v (.bool d.has), .v (.bool d.want), .v (.string d.c)] ++ vrowV d.v
def holdR (o : List Co) (d : Cd) : Bool := if d.has then (match atR o d.c 1099511627776 with | some v => d.want && ordV v d.v == 0 | none => !d.want) else true
theorem holds_c (o : List Co) (d : Cd) (ho : o.length < 70368744177664) (hz : RowSz o) (hb : d.v.b.length < 70368744177664) (hat2 : ∀ v, atR o d.c 1099511627776 = some v → v.b.length < 70368744177664) : ACalls Try.prog 30 0 9000 [rowA o, .agg (cdrow d)] [] (fun out H' => out = .ret (.v (.bool (holdR o d))) ∧ H' = []) := by
  obtain ⟨has, want, c, v⟩ := d
  have p4 := newest_c o c ho hz
  unfold holdR
  dsimp only at hat2 hb ⊢
  rcases hat : atR o c 1099511627776 with _ | ov
  · rw [hat] at p4
    unfold optA at p4
    cases has <;> cases want
    all_goals
      refine no_implicit_lambda% (acalls_of tok dok (f := 30) ⟨Try.func30, rfl, by kernel_rfl⟩ ?_); refine no_implicit_lambda% (c_start (fun _ h => h) ?_)
      repeat' (first | (refine no_implicit_lambda% (awd1 ?_)) | (((with_reducible refine no_implicit_lambda% (is_aops ?_)); refine no_implicit_lambda% (o_split rfl rfl rfl (fun hc => ?_) (fun hc => ?_)) <;> first | exact decx hc | rw [hc])) | (((with_reducible refine no_implicit_lambda% (is_cond ?_)); refine no_implicit_lambda% (c_cond rfl (fun hc => ?_) (fun hc => ?_)) <;> first | exact decx hc | skip)) | (((with_reducible refine no_implicit_lambda% (is_aop ?_)); refine no_implicit_lambda% (a_pick rfl rfl (fun hc => ?_) (fun hc => ?_)) <;> first | exact decx hc | rw [hc])) | (refine no_implicit_lambda% (ans ?_)) | (with_reducible exact retN) | (with_reducible exact retP) | (refine no_implicit_lambda% (cal [] (p4) ?_ ?_)) | fail)
      exact e_ret (H' := []) (rest := _) rfl ⟨rfl, rfl⟩ permT (Nat.le_of_ble_eq_true rfl)
  · rw [hat] at p4
    unfold optA at p4
    have ps := same3_c ov v (hat2 ov hat) hb
    cases has <;> cases want
    all_goals
      refine no_implicit_lambda% (acalls_of tok dok (f := 30) ⟨Try.func30, rfl, by kernel_rfl⟩ ?_); refine no_implicit_lambda% (c_start (fun _ h => h) ?_)
      repeat' (first | (refine no_implicit_lambda% (awd1 ?_)) | (((with_reducible refine no_implicit_lambda% (is_aops ?_)); refine no_implicit_lambda% (o_split rfl rfl rfl (fun hc => ?_) (fun hc => ?_)) <;> first | exact decx hc | rw [hc])) | (((with_reducible refine no_implicit_lambda% (is_cond ?_)); refine no_implicit_lambda% (c_cond rfl (fun hc => ?_) (fun hc => ?_)) <;> first | exact decx hc | skip)) | (((with_reducible refine no_implicit_lambda% (is_aop ?_)); refine no_implicit_lambda% (a_pick rfl rfl (fun hc => ?_) (fun hc => ?_)) <;> first | exact decx hc | rw [hc])) | (refine no_implicit_lambda% (ans ?_)) | (with_reducible exact retN) | (with_reducible exact retP) | (refine no_implicit_lambda% (cal [] (p4) ?_ ?_)) | (refine no_implicit_lambda% (cal [] (ps) ?_ ?_)) | fail)
      all_goals exact e_ret (H' := []) (rest := _) rfl ⟨rfl, rfl⟩ permT (Nat.le_of_ble_eq_true rfl)
end Go.Proofs.Ytncffhgoopdfgaa
namespace Go.Proofs.Ytncffhgoopdfgaa
open Go.Am
set_option linter.unusedSimpArgs false
set_option linter.unusedVariables false
set_option maxRecDepth 100000
abbrev nmA5 : ByteArray := bsS [97]
def one5 : Va := ⟨2, [], 4607182418800017408⟩
def two5 : Va := ⟨2, [], 4611686018427387904⟩
def thr5 : Va := ⟨2, [], 4613937818241073152⟩
theorem add_neg5 {o : List Co} {x : Ch} {w : Va} (hk : x.k = 5) (hp : plusV (oldV o x.c) x.v = (w, 0)) : stepC o x = putR o x.c x.t w := by
  unfold stepC
  rw [if_neg (by omega), if_neg (by omega), if_neg (by omega), if_neg (by omega), hp, if_neg (by simp)]
theorem sum5a : sumC 9223372036854775808 4607182418800017408 = 4607182418800017408 := by kernel_rfl
theorem sum5b : sumC 4607182418800017408 4611686018427387904 = 4613937818241073152 := by kernel_rfl
theorem k5_1 : stepC [] ⟨5, nmA5, 5, one5⟩ = (0, [⟨nmA5, [⟨5, one5⟩]⟩]) := by
  rw [add_neg5 (w := one5) rfl (by show ((⟨2, [], sumC 9223372036854775808 4607182418800017408⟩ : Va), (0 : Int)) = _; rw [sum5a]; rfl)]
  show putR [] nmA5 5 one5 = _
  rw [put_new (by decide) (by decide) (by decide)]
  rfl
theorem fin5_1 : Fine [⟨nmA5, [⟨5, one5⟩]⟩] := by
  have h := stepC_fine fine_nil ⟨5, nmA5, 5, one5⟩
  rw [k5_1] at h
  exact h
theorem k5_2 : stepC [⟨nmA5, [⟨5, one5⟩]⟩] ⟨5, nmA5, 6, two5⟩ = (0, [⟨nmA5, [⟨6, thr5⟩, ⟨5, one5⟩]⟩]) := by
  have ho : oldV [⟨nmA5, [⟨5, one5⟩]⟩] nmA5 = one5 := by
    unfold oldV
    rw [atR_one fin5_1, atL_hd (by decide)]
    rfl
  rw [add_neg5 (w := thr5) rfl (by show plusV (oldV _ nmA5) two5 = _; rw [ho]; show ((⟨2, [], sumC 4607182418800017408 4611686018427387904⟩ : Va), (0 : Int)) = _; rw [sum5b]; rfl)]
  show putR _ nmA5 6 thr5 = _
  rw [put_one fin5_1 (by decide) (by decide) (by decide)]
  rfl
def k5xs : List Ch := [⟨5, nmA5, 5, one5⟩, ⟨5, nmA5, 6, two5⟩]
theorem k5_ap : applyR [] k5xs = (0, [⟨nmA5, [⟨6, thr5⟩, ⟨5, one5⟩]⟩]) := by
  unfold applyR k5xs
  rw [if_neg (by decide), if_neg (by decide)]
  show foldC [] _ = _
  unfold foldC
  rw [k5_1]
  dsimp only
  rw [if_neg (by decide)]
  unfold foldC
  rw [k5_2]
  dsimp only
  rw [if_neg (by decide)]
  rfl
theorem fin5_2 : Fine [⟨nmA5, [⟨6, thr5⟩, ⟨5, one5⟩]⟩] := by
  have h := applyR_fin [] k5xs
  rw [k5_ap] at h
  exact h
set_option maxHeartbeats 6400000 in
theorem known5_c : ACalls Try.prog 22 0 2000000 [] [] (fun out H' => out = .ret (.v (.bool true)) ∧ H' = []) := by
  have n1 := num5_c 4607182418800017408
  have n2 := num5_c 4611686018427387904
  have a1 := apply_c [] k5xs (by decide) sz_nil (fun x hx => by
    unfold k5xs at hx
    simp only [List.mem_cons, List.not_mem_nil, or_false] at hx
    rcases hx with rfl | rfl <;> exact ⟨by decide, by decide⟩) (by decide)
  rw [k5_ap] at a1
  have hz2 : RowSz [⟨nmA5, [⟨6, thr5⟩, ⟨5, one5⟩]⟩] := fun c hc x hx => by
    rw [List.mem_singleton.1 hc] at hx
    simp only [List.mem_cons, List.not_mem_nil, or_false] at hx
    rcases hx with rfl | rfl <;> exact ⟨by decide, by decide⟩
  have w1 := qnewest_c _ nmA5 (by decide) hz2
  rw [atR_one fin5_2, atL_hd (by decide)] at w1
  have a2 := apply_c [] [⟨1, ⟨#[]⟩, 5, one5⟩] (by decide) sz_nil (fun x hx => by rw [List.mem_singleton.1 hx]; exact ⟨by decide, by decide⟩) (by decide)
  rw [show applyR [] [⟨1, ⟨#[]⟩, 5, one5⟩] = (1, []) from rfl] at a2
  have hh := holds_c [] ⟨true, false, nmA5, ⟨0, [], 0⟩⟩ (by decide) sz_nil (by decide) (fun v hv => by cases hv)
  rw [show holdR [] ⟨true, false, nmA5, ⟨0, [], 0⟩⟩ = true from rfl] at hh
  unfold PutRR at a1 a2
  unfold optA at w1
  dsimp only at a1 a2 w1
  refine no_implicit_lambda% (acalls_of tok dok (f := 22) ⟨Try.func22, rfl, by kernel_rfl⟩ ?_); refine no_implicit_lambda% (c_start (fun _ h => h) ?_)
  repeat' (first | (refine no_implicit_lambda% (awd1 ?_)) | (((with_reducible refine no_implicit_lambda% (is_aops ?_)); refine no_implicit_lambda% (o_split rfl rfl rfl (fun hc => ?_) (fun hc => ?_)) <;> first | exact decx hc | rw [hc])) | (((with_reducible refine no_implicit_lambda% (is_cond ?_)); refine no_implicit_lambda% (c_cond rfl (fun hc => ?_) (fun hc => ?_)) <;> first | exact decx hc | skip)) | (((with_reducible refine no_implicit_lambda% (is_aop ?_)); refine no_implicit_lambda% (a_pick rfl rfl (fun hc => ?_) (fun hc => ?_)) <;> first | exact decx hc | rw [hc])) | (((with_reducible refine no_implicit_lambda% (is_ev ?_)); refine no_implicit_lambda% (v_split rfl rfl rfl rfl (fun hc => ?_) (fun hc => ?_)) <;> first | exact decx hc | rw [hc])) | (refine no_implicit_lambda% (ans ?_)) | (with_reducible exact retN) | (with_reducible exact retP) | ((with_reducible refine no_implicit_lambda% (ret1 ?_)); first | (refine no_implicit_lambda% (akcs ?_)) | (refine no_implicit_lambda% (aecs ?_))) | (refine no_implicit_lambda% (cal [] (n1) ?_ ?_)) | (refine no_implicit_lambda% (cal [] (n2) ?_ ?_)) | (((with_reducible refine no_implicit_lambda% (is_effK ?_)); refine no_implicit_lambda% (aecs ?_))) | (((with_reducible refine no_implicit_lambda% (is_drB ?_)); refine no_implicit_lambda% (b_ends ?_))) | (((with_reducible refine no_implicit_lambda% (is_aop ?_)); refine no_implicit_lambda% (a_stores ?_))) | ((with_reducible refine no_implicit_lambda% (is_aop ?_)); first | (refine no_implicit_lambda% (a_append_tok rfl rfl rfl rfl rfl rfl rfl rfl rfl rfl rfl rfl rfl rfl (by first | rfl | (simp; done)) (fun q hq => by rw [forceH_eq]; exact hq) (by (first | assumption | (intro row hr; simp only [List.mem_cons, List.not_mem_nil, or_false] at hr; rcases hr with rfl | rfl | rfl | rfl <;> rfl) | (intro row hr; simp at hr; done) | (intro row hr; simp only [List.mem_singleton] at hr; subst hr; rfl) | (intro row hr; obtain ⟨_, _, rfl⟩ := List.mem_map.1 hr; rfl))) (by (refine ⟨?_, ?_⟩ <;> (simp only [List.length_map, List.length_append, List.length_cons, List.length_nil]; omega))) ?_))) | fail)
  refine no_implicit_lambda% (calw [] a1 ?_ ?_ (hargs := .cons (LeA.agg' (.cons (LeA.free _ _) .nil)) (.cons (LeA.free _ _) .nil)))
  rotate_left
  · first | (exact retN) | (exact retP)
  refine no_implicit_lambda% (ret1 ?_); first | (refine no_implicit_lambda% (akc ?_)) | (refine no_implicit_lambda% (aec ?_))
  repeat' (first | (refine no_implicit_lambda% (awd1 ?_)) | (((with_reducible refine no_implicit_lambda% (is_aops ?_)); refine no_implicit_lambda% (o_split rfl rfl rfl (fun hc => ?_) (fun hc => ?_)) <;> first | exact decx hc | rw [hc])) | (((with_reducible refine no_implicit_lambda% (is_cond ?_)); refine no_implicit_lambda% (c_cond rfl (fun hc => ?_) (fun hc => ?_)) <;> first | exact decx hc | skip)) | (((with_reducible refine no_implicit_lambda% (is_aop ?_)); refine no_implicit_lambda% (a_pick rfl rfl (fun hc => ?_) (fun hc => ?_)) <;> first | exact decx hc | rw [hc])) | (((with_reducible refine no_implicit_lambda% (is_ev ?_)); refine no_implicit_lambda% (v_split rfl rfl rfl rfl (fun hc => ?_) (fun hc => ?_)) <;> first | exact decx hc | rw [hc])) | (refine no_implicit_lambda% (ans ?_)) | (with_reducible exact retN) | (with_reducible exact retP) | ((with_reducible refine no_implicit_lambda% (ret1 ?_)); first | (refine no_implicit_lambda% (akcs ?_)) | (refine no_implicit_lambda% (aecs ?_))) | (refine no_implicit_lambda% (cal [] (w1) ?_ ?_)) | (refine no_implicit_lambda% (cal [] (n1) ?_ ?_)) | (((with_reducible refine no_implicit_lambda% (is_effK ?_)); refine no_implicit_lambda% (aecs ?_))) | (((with_reducible refine no_implicit_lambda% (is_drB ?_)); refine no_implicit_lambda% (b_ends ?_))) | (((with_reducible refine no_implicit_lambda% (is_aop ?_)); refine no_implicit_lambda% (a_stores ?_))) | ((with_reducible refine no_implicit_lambda% (is_aop ?_)); first | (refine no_implicit_lambda% (a_append_tok rfl rfl rfl rfl rfl rfl rfl rfl rfl rfl rfl rfl rfl rfl (by first | rfl | (simp; done)) (fun q hq => by rw [forceH_eq]; exact hq) (by (first | assumption | (intro row hr; simp only [List.mem_cons, List.not_mem_nil, or_false] at hr; rcases hr with rfl | rfl | rfl | rfl <;> rfl) | (intro row hr; simp at hr; done) | (intro row hr; simp only [List.mem_singleton] at hr; subst hr; rfl) | (intro row hr; obtain ⟨_, _, rfl⟩ := List.mem_map.1 hr; rfl))) (by (refine ⟨?_, ?_⟩ <;> (simp only [List.length_map, List.length_append, List.length_cons, List.length_nil]; omega))) ?_))) | fail)
  refine no_implicit_lambda% (calw [] a2 ?_ ?_ (hargs := .cons (LeA.agg' (.cons (LeA.free _ _) .nil)) (.cons (LeA.free _ _) .nil)))
  rotate_left
  · first | (exact retN) | (exact retP)
  refine no_implicit_lambda% (ret1 ?_); first | (refine no_implicit_lambda% (akc ?_)) | (refine no_implicit_lambda% (aec ?_))
  repeat' (first | (refine no_implicit_lambda% (awd1 ?_)) | (((with_reducible refine no_implicit_lambda% (is_aops ?_)); refine no_implicit_lambda% (o_split rfl rfl rfl (fun hc => ?_) (fun hc => ?_)) <;> first | exact decx hc | rw [hc])) | (((with_reducible refine no_implicit_lambda% (is_cond ?_)); refine no_implicit_lambda% (c_cond rfl (fun hc => ?_) (fun hc => ?_)) <;> first | exact decx hc | skip)) | (((with_reducible refine no_implicit_lambda% (is_aop ?_)); refine no_implicit_lambda% (a_pick rfl rfl (fun hc => ?_) (fun hc => ?_)) <;> first | exact decx hc | rw [hc])) | (((with_reducible refine no_implicit_lambda% (is_ev ?_)); refine no_implicit_lambda% (v_split rfl rfl rfl rfl (fun hc => ?_) (fun hc => ?_)) <;> first | exact decx hc | rw [hc])) | (refine no_implicit_lambda% (ans ?_)) | (with_reducible exact retN) | (with_reducible exact retP) | ((with_reducible refine no_implicit_lambda% (ret1 ?_)); first | (refine no_implicit_lambda% (akcs ?_)) | (refine no_implicit_lambda% (aecs ?_))) | fail | (((with_reducible refine no_implicit_lambda% (is_effK ?_)); refine no_implicit_lambda% (aecs ?_))) | (((with_reducible refine no_implicit_lambda% (is_drB ?_)); refine no_implicit_lambda% (b_ends ?_))) | (((with_reducible refine no_implicit_lambda% (is_aop ?_)); refine no_implicit_lambda% (a_stores ?_))) | ((with_reducible refine no_implicit_lambda% (is_aop ?_)); first | (refine no_implicit_lambda% (a_append_tok rfl rfl rfl rfl rfl rfl rfl rfl rfl rfl rfl rfl rfl rfl (by first | rfl | (simp; done)) (fun q hq => by rw [forceH_eq]; exact hq) (by (first | assumption | (intro row hr; simp only [List.mem_cons, List.not_mem_nil, or_false] at hr; rcases hr with rfl | rfl | rfl | rfl <;> rfl) | (intro row hr; simp at hr; done) | (intro row hr; simp only [List.mem_singleton] at hr; subst hr; rfl) | (intro row hr; obtain ⟨_, _, rfl⟩ := List.mem_map.1 hr; rfl))) (by (refine ⟨?_, ?_⟩ <;> (simp only [List.length_map, List.length_append, List.length_cons, List.length_nil]; omega))) ?_))) | fail)
  refine no_implicit_lambda% (calw [] hh ?_ ?_ (hargs := .cons (LeA.agg' (.cons (LeA.free _ _) .nil)) (.cons (LeA.agg' (.cons (.refl _) (.cons (.refl _) (.cons (.refl _) (.cons (.refl _) (.cons (LeA.free _ _) (.cons (.refl _) .nil))))))) .nil)))
  rotate_left
  · first | (exact retN) | (exact retP)
  refine no_implicit_lambda% (ret1 ?_); first | (refine no_implicit_lambda% (akc ?_)) | (refine no_implicit_lambda% (aec ?_))
  repeat' (first | (refine no_implicit_lambda% (awd1 ?_)) | (((with_reducible refine no_implicit_lambda% (is_aops ?_)); refine no_implicit_lambda% (o_split rfl rfl rfl (fun hc => ?_) (fun hc => ?_)) <;> first | exact decx hc | rw [hc])) | (((with_reducible refine no_implicit_lambda% (is_cond ?_)); refine no_implicit_lambda% (c_cond rfl (fun hc => ?_) (fun hc => ?_)) <;> first | exact decx hc | skip)) | (((with_reducible refine no_implicit_lambda% (is_aop ?_)); refine no_implicit_lambda% (a_pick rfl rfl (fun hc => ?_) (fun hc => ?_)) <;> first | exact decx hc | rw [hc])) | (((with_reducible refine no_implicit_lambda% (is_ev ?_)); refine no_implicit_lambda% (v_split rfl rfl rfl rfl (fun hc => ?_) (fun hc => ?_)) <;> first | exact decx hc | rw [hc])) | (refine no_implicit_lambda% (ans ?_)) | (with_reducible exact retN) | (with_reducible exact retP) | ((with_reducible refine no_implicit_lambda% (ret1 ?_)); first | (refine no_implicit_lambda% (akcs ?_)) | (refine no_implicit_lambda% (aecs ?_))) | fail | (((with_reducible refine no_implicit_lambda% (is_effK ?_)); refine no_implicit_lambda% (aecs ?_))) | (((with_reducible refine no_implicit_lambda% (is_drB ?_)); refine no_implicit_lambda% (b_ends ?_))) | (((with_reducible refine no_implicit_lambda% (is_aop ?_)); refine no_implicit_lambda% (a_stores ?_))) | ((with_reducible refine no_implicit_lambda% (is_aop ?_)); first | (refine no_implicit_lambda% (a_append_tok rfl rfl rfl rfl rfl rfl rfl rfl rfl rfl rfl rfl rfl rfl (by first | rfl | (simp; done)) (fun q hq => by rw [forceH_eq]; exact hq) (by (first | assumption | (intro row hr; simp only [List.mem_cons, List.not_mem_nil, or_false] at hr; rcases hr with rfl | rfl | rfl | rfl <;> rfl) | (intro row hr; simp at hr; done) | (intro row hr; simp only [List.mem_singleton] at hr; subst hr; rfl) | (intro row hr; obtain ⟨_, _, rfl⟩ := List.mem_map.1 hr; rfl))) (by (refine ⟨?_, ?_⟩ <;> (simp only [List.length_map, List.length_append, List.length_cons, List.length_nil]; omega))) ?_))) | fail)
  exact e_ret (H' := []) (rest := _) rfl ⟨rfl, rfl⟩ permT (Nat.le_of_ble_eq_true rfl)
end Go.Proofs.Ytncffhgoopdfgaa
namespace Go.Proofs.Ytncffhgoopdfgaa
open Go.Am
set_option linter.unusedSimpArgs false
set_option linter.unusedVariables false
set_option maxRecDepth 100000
theorem firstE_zero : ∀ {l : List Ch}, (∀ x ∈ l, rightC x = 0) → firstE l = 0
  | [], _ => rfl
  | x :: l, h => by
    unfold firstE
    rw [if_neg (by rw [h x (by simp)]; simp)]
    exact firstE_zero fun y hy => h y (List.mem_cons_of_mem _ hy)
theorem applyR_fold {r : List Co} {l : List Ch} (hF : Fine r) (h8 : l.length ≤ 8) (h : ∀ x ∈ l, rightC x = 0) : applyR r l = foldC r l := by
  unfold applyR
  rw [if_neg (by omega), if_neg (by rw [firstE_zero h]; simp), hF.copy]
theorem applyR_1 {r : List Co} {x : Ch} (hF : Fine r) (h : rightC x = 0) : applyR r [x] = if (stepC r x).1 ≠ 0 then ((stepC r x).1, []) else (0, (stepC r x).2) := by
  rw [applyR_fold hF (by simp) (fun y hy => by rw [List.mem_singleton.1 hy]; exact h)]
  rfl
theorem made5_d (l : List Cw) (hl : ∀ a ∈ l, CwOk a) (h : l.length ≤ 9223372036854775807) : ACalls Try.prog 18 0 0 [.list (l.map cwrow) .free] [] (fun out H' => ∃ M, (Fine M ∧ RowSz M) ∧ out = .ret (rowA M) ∧ H' = []) :=
  ACalls.ren (made5_c l hl h) (by decide) fun out H' hh => by
    obtain ⟨M, h1, rfl, rfl⟩ := hh
    exact ⟨[], .ret (rowA M), [], List.nodup_nil, (fun q h => by cases h), (fun q h => by omega), Nat.le_refl _, rfl, rfl, M, h1, rfl, rfl⟩
theorem apply_d (r : List Co) (l : List Ch) (hr : r.length < 70368744177664) (hz : RowSz r) (hl : ∀ x ∈ l, ChSz x) (hll : l.length < 1000000) : ACalls Try.prog 20 0 0 [rowA r, .list (l.map chrow) .free] [] (PutRR (applyR r l)) :=
  ACalls.ren (apply_c r l hr hz hl hll) (by decide) fun out H' hh => by
    obtain ⟨rfl, rfl⟩ := hh
    exact ⟨[], .ret (.tuple [rowA (applyR r l).2, .v (.int .i64 (applyR r l).1)]), [], List.nodup_nil, (fun q h => by cases h), (fun q h => by omega), Nat.le_refl _, rfl, rfl, rfl, rfl⟩
end Go.Proofs.Ytncffhgoopdfgaa
namespace Go.Am
/-- data that says no more -/
def LeD (a b : AV) : Prop := ∀ X x, SimD X a x → SimD X b x
theorem LeD.refl (a : AV) : LeD a a := fun _ _ h => h
theorem LeD.free (rows : List (List AV)) (o : Own) : LeD (.list rows o) (.list rows .free) := fun _ _ h => h.free
inductive LDL : List AV → List AV → Prop
  | nil : LDL [] []
  | cons {a b : AV} {s t : List AV} (h : LeD a b) (hs : LDL s t) : LDL (a :: s) (b :: t)
inductive LDR : List (List AV) → List (List AV) → Prop
  | nil : LDR [] []
  | cons {a b : List AV} {s t : List (List AV)} (h : LDL a b) (hs : LDR s t) : LDR (a :: s) (b :: t)
theorem LDL.len {s t : List AV} (h : LDL s t) : s.length = t.length := by
  induction h with
  | nil => rfl
  | cons _ _ ih => simp [ih]
theorem LDL.get {s t : List AV} (h : LDL s t) : ∀ (i : Nat) (b : AV), t[i]? = some b → ∃ a, s[i]? = some a ∧ LeD a b := by
  induction h with
  | nil => intro i b hb; simp at hb
  | @cons a b s t h1 _ ih =>
    intro i c hc
    cases i with
    | zero => simp at hc; subst hc; exact ⟨a, rfl, h1⟩
    | succ i => exact ih i c hc
theorem LDR.len {s t : List (List AV)} (h : LDR s t) : s.length = t.length := by
  induction h with
  | nil => rfl
  | cons _ _ ih => simp [ih]
theorem LDR.get {s t : List (List AV)} (h : LDR s t) : ∀ (i : Nat) (b : List AV), t[i]? = some b → ∃ a, s[i]? = some a ∧ LDL a b := by
  induction h with
  | nil => intro i b hb; simp at hb
  | @cons a b s t h1 _ ih =>
    intro i c hc
    cases i with
    | zero => simp at hc; subst hc; exact ⟨a, rfl, h1⟩
    | succ i => exact ih i c hc
theorem LeD.rows {rows rows' : List (List AV)} (h : LDR rows rows') (o : Own) : LeD (.list rows o) (.list rows' .free) := fun X x hx => by
  cases hx with
  | nil _ a c hc ho hs =>
    cases h
    exact .nil .free a c hc (fun h => by cases h) (.inl rfl)
  | list _ _ b off c s y hn hc ho hs hr hX hS h1 =>
    have e := h.len
    have hr' : ∀ row ∈ rows', row.length = s := fun row hrow => by
      obtain ⟨i, hi, rfl⟩ := List.getElem_of_mem hrow
      obtain ⟨a, ha, hd⟩ := h.get i _ (List.getElem?_eq_getElem hi)
      rw [← hd.len]
      exact hr a (List.mem_of_getElem? ha)
    rw [e]
    refine .list rows' .free b off c s y (by omega) hc (fun h => by cases h) (.inl rfl) hr' (fun i row j a k1 k2 => ?_) (fun i row j a k1 k2 => ?_) (fun i row j a k1 k2 => ?_)
    · obtain ⟨r0, q1, q2⟩ := h.get i row k1
      obtain ⟨a0, q3, q4⟩ := q2.get j a k2
      exact hX i r0 j a0 q1 q3
    · obtain ⟨r0, q1, q2⟩ := h.get i row k1
      obtain ⟨a0, q3, q4⟩ := q2.get j a k2
      exact q4 _ _ (hS i r0 j a0 q1 q3)
    · obtain ⟨r0, q1, q2⟩ := h.get i row k1
      obtain ⟨a0, q3, q4⟩ := q2.get j a k2
      exact h1 i r0 j a0 q1 q3
theorem LeA.rows {rows rows' : List (List AV)} (h : LDR rows rows') (o : Own) : LeA (.list rows o) (.list rows' .free) := fun G x hx => by
  cases hx with
  | data _ _ hd => exact .data _ _ (LeD.rows h _ _ _ hd)
  | tok _ k _ _ hd => exact .data _ _ (LeD.rows h _ _ _ hd)
theorem Wk.rows {rows rows' : List (List AV)} (h : LDR rows rows') (o : Own) : Wk (.list rows o) (.list rows' .free) :=
  ⟨fun G x hx => by
    refine .of ?_
    have := hx.down
    unfold AV.down at this
    split at this
    · rename_i h0; cases h0; exact LeA.rows h _ _ _ this
    · exact LeA.rows h _ _ _ this, fun G x hx => LeA.rows h o _ _ hx⟩
end Go.Am
