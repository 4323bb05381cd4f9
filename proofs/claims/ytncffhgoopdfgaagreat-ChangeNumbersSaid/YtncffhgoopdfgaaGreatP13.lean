/- Part 13 of what the laws ChangeNumbers rest on: RwV, RwW, RwX, RwY, RwM, RwZ, RxA, AmOp, Vd, RxC, RxD, ChA, ChB. -/
import Derived.Test.YtncffhgoopdfgaaGreatP12
import Derived.ChangeSlices
import Derived.ShutString
set_option linter.unusedSimpArgs false
set_option linter.unusedVariables false
namespace Go.Proofs.YtncffhgoopdfgaaGreat
open Go.Am
set_option maxRecDepth 100000
def dropA (o : List Co) (s : ByteArray) (t : Int) : List Co := if hasN o s then (match o[npos o s]? with | some c => if dropV c.l t = [] then o.eraseIdx (npos o s) else o.set (npos o s) ⟨c.n, dropV c.l t⟩ | none => o) else o
def dropR (r : List Co) (s : ByteArray) (t : Int) : List Co := dropA (copyR r) s t
theorem dropA_fine {o : List Co} (h : Fine o) (s : ByteArray) (t : Int) : Fine (dropA o s t) := by
 unfold dropA
 split
 ·split
  ·rename_i c hc
   exact drop_fine h hc t
  ·exact h
 ·exact h
theorem dropA_sz {o : List Co} (h : RowSz o) (s : ByteArray) (t : Int) : RowSz (dropA o s t) := by
 unfold dropA
 split
 ·split
  ·rename_i c hc
   split
   ·exact sub_sz h (List.eraseIdx_sublist _ _)
   ·intro d hd y hy
    rcases List.mem_or_eq_of_mem_set hd with hd | rfl
    ·exact h d hd y hy
    ·exact h c (List.mem_of_getElem? hc) y (List.mem_filter.1 hy).1
  ·exact h
 ·exact h
def pdSt (F : List Co) : ASt := ⟨(List.replicate 6 .dead ++ [.ptr 2 0, .ptr 5 0] ++ List.replicate 43 .dead), [(2, .box [.list [] .full]), (5, .box [.list (F.map corow) .free])], 900⟩
def pvSt (F : List Co) (n cp i : Nat) : ASt := ⟨(List.replicate 6 .dead ++ [.ptr 2 0, .ptr 5 0, .v (.int .i64 i)] ++ List.replicate 42 .dead), [(2, .box [.list [] .full]), (5, .box [.arr 3 0 n cp]), (3, .seq (F.map corow) ((cp - n) * 2))], 400⟩
set_option maxHeartbeats 3200000 in
theorem drop_c (r : List Co) (s : ByteArray) (t : Int) (hr : r.length < 70368744177664) (hs : RowSz r) : ACalls Tryz.prog 179 0 9000 [rowA r, .v (.string s), .v (.int .i64 t)] [] (fun out H' => out = .ret (rowA (dropR r s t)) ∧ H' = []) := by
 have hso := copy_sort r
 have h4 := copy_len r
 have hz := copy_sz hs
 have hfi := copy_fine r
 have hcn := copy_n r hr hs
 have hcg := fun g hg => copy_g r g hg hr hs
 have hDf := dropA_fine hfi s t
 have hDz := dropA_sz hz s t
 unfold dropR
 generalize copyR r = o at *
 refine no_implicit_lambda% (acalls_of tok dok (f := 179) ⟨Tryz.func179, rfl, by kernel_rfl⟩ ?_); refine no_implicit_lambda% (c_start (fun _ h => h) ?_)
 repeat' (first | (refine no_implicit_lambda% (zH ?_)) | (refine no_implicit_lambda% (spl (fun hc => ?_) (fun hc => ?_)) <;> first | exact zG hc | skip) | (refine no_implicit_lambda% (ans ?_)) | (with_reducible first | exact zI | exact zJ))
 rcases hN : hasN o s with _ | _
 ·(refine no_implicit_lambda% (cal [] (hcn) ?_ ?_))
  ·intro xx H' hh
   obtain ⟨cp, c1, c2, h', rfl⟩ := hh
   cases h'
   first | (refine no_implicit_lambda% (akc ?_)) | (refine no_implicit_lambda% (aec ?_))
   have hf := find_o o s cp (by omega) hso
   rw [hN] at hf
   repeat' (first | (refine no_implicit_lambda% (zH ?_)) | (refine no_implicit_lambda% (spl (fun hc => ?_) (fun hc => ?_)) <;> first | exact zG hc | skip) | (refine no_implicit_lambda% (ans ?_)) | (with_reducible first | exact zI | exact zJ))
   (refine no_implicit_lambda% (cal [3] (hf) ?_ ?_))
   ·refine no_implicit_lambda% (ret1 ?_); first | (refine no_implicit_lambda% (akc ?_)) | (refine no_implicit_lambda% (aec ?_))
    repeat' (first | (refine no_implicit_lambda% (zH ?_)) | (refine no_implicit_lambda% (spl (fun hc => ?_) (fun hc => ?_)) <;> first | exact zG hc | skip) | (refine no_implicit_lambda% (ans ?_)) | (with_reducible first | exact zI | exact zJ))
    have hq : dropA o s t = o := by unfold dropA; rw [hN, if_neg (by simp)]
    rw [hq]
    exact e_ret_to (H' := []) (rest := _) (Conv.freezeBox (j := 0) (id := 3) (bid := 2) (sz := 2) (rows := o.map corow) (k := (cp - o.length) * 2) (m := o.length) (cp := cp) (cells := [.arr 3 0 o.length cp]) (permT (H := [(3, .seq (o.map corow) ((cp - o.length) * 2)), (2, .box [.arr 3 0 o.length cp])])) rfl (coOk o) (by simp)) rfl ⟨rfl, rfl⟩ (.of_eq (by simp; rfl)) (LE0 rfl)
   ·first | (exact zI) | (exact zJ)
  ·intro xx H' hh
   obtain ⟨_, _, _, h', _⟩ := hh
   cases h'
 ·have hlt := npos_len hN
  (refine no_implicit_lambda% (cal [] (hcg (npos o s) hlt) ?_ ?_))
  ·intro xx H' hh
   obtain ⟨cp, cpv, c, hc1, c1, c2, c3, c4, h', rfl⟩ := hh
   cases h'
   have hlc := hfi.len
   have hoc : (o.take (npos o s)).length = npos o s := by rw [List.length_take]; omega
   have hol2 : (o.take (npos o s)).length + 1 + (o.drop (npos o s + 1)).length = o.length := by rw [List.length_take, List.length_drop]; omega
   have hcb := hfi.col c (List.mem_of_getElem? hc1)
   have hcl := col_len hcb
   have hq : dropA o s t = if dropV c.l t = [] then o.eraseIdx (npos o s) else o.set (npos o s) ⟨c.n, dropV c.l t⟩ := by unfold dropA; rw [hN, if_pos rfl, hc1]
   refine no_implicit_lambda% (akcs (L'' := [(3, .box (seqC (nrows (o.take (npos o s)) c.n (.arr 4 0 c.l.length cpv) (o.drop (npos o s + 1))) ((cp - o.length) * 2))), (4, .seq (c.l.map verow) ((cpv - c.l.length) * 4)), (2, .box [.list [] .full]), (1, .box [.v (.int .i64 t)]), (0, .box [.list (r.map corow) .free])]) ?_ (hL := fun q hq => by rw [forceHs_eq]; show q (renH _ _ ++ _); simp only [renH, Res.ren, ren_nrows]; exact hq))
   have hf := find_g o s (npos o s) cp cpv c hc1 (by omega) hso
   rw [hN] at hf
   repeat' (first | (refine no_implicit_lambda% (zH ?_)) | (refine no_implicit_lambda% (splv (fun hc => ?_) (fun hc => ?_)) <;> first | exact zG hc | skip) | (refine no_implicit_lambda% (ans ?_)) | (with_reducible first | exact zI | exact zJ) | (refine no_implicit_lambda% (wsp ?_)) | fail )
   refine no_implicit_lambda% (cal (H1 := [(3, .box (seqC (nrows (o.take (npos o s)) c.n (.arr 4 0 c.l.length cpv) (o.drop (npos o s + 1))) ((cp - o.length) * 2))), (4, .seq (c.l.map verow) ((cpv - c.l.length) * 4))]) [3, 4] hf ?_ ?_ (heq := by simp only [renH, Res.ren, ren_nrows]; rfl))
   ·refine no_implicit_lambda% (ret1 ?_)
    refine no_implicit_lambda% (akcs (L'' := [(3, .box (seqC (nrows (o.take (npos o s)) c.n (.arr 4 0 c.l.length cpv) (o.drop (npos o s + 1))) ((cp - o.length) * 2))), (4, .seq (c.l.map verow) ((cpv - c.l.length) * 4)), (5, .box [.arr 3 0 o.length cp]), (2, .box [.list [] .full]), (1, .box [.v (.int .i64 t)]), (0, .box [.list (r.map corow) .free])]) ?_ (hL := fun q hq => by rw [forceHs_eq]; show q (renH _ _ ++ _); simp only [renH, Res.ren, ren_nrows]; exact hq))
    have hdf := deletef_c drop1_c c.l cpv t (by omega) c3
    have hdl := dropV_len c.l t
    have hcs : (seqC (nrows (o.take (npos o s)) c.n (.arr 4 0 c.l.length cpv) (o.drop (npos o s + 1))) ((cp - o.length) * 2)) = (seqC (nrows (o.take (npos o s)) c.n (.arr 4 0 c.l.length cpv) (o.drop (npos o s + 1))) ((cp - o.length) * 2)) := rfl
    generalize hd : dropV c.l t = d at *
    have hge : ∀ v, (seqC (nrows (o.take (npos o s)) c.n v (o.drop (npos o s + 1))) ((cp - o.length) * 2))[0 + (npos o s : Int).toNat * 2 + 1]? = some v := fun v => by
     have e : 0 + (npos o s : Int).toNat * 2 + 1 = (o.take (npos o s)).length * 2 + 1 := by rw [Int.toNat_natCast, hoc]; omega
     rw [e]; exact get_nrows
    repeat' (first | (refine no_implicit_lambda% (zH ?_)) | (refine no_implicit_lambda% (splv (fun hc => ?_) (fun hc => ?_)) <;> first | exact zG hc | skip) | (refine no_implicit_lambda% (ans ?_)) | (with_reducible first | exact zI | exact zJ) | (refine no_implicit_lambda% (wsp ?_)) | fail )
    ((with_reducible refine no_implicit_lambda% (is_ev ?_)); first | (refine no_implicit_lambda% (v_qS rfl rfl rfl rfl (fun _ h => h) (fun _ h => h) ?_ ?_)) | (refine no_implicit_lambda% (v_qS rfl rfl rfl rfl (qAnd2 (fun _ h => h)) (fun _ h => h) ?_ ?_))); focus (first | omega | (simp; done) | (simp; omega))
    repeat' (first | (refine no_implicit_lambda% (zH ?_)) | (refine no_implicit_lambda% (splv (fun hc => ?_) (fun hc => ?_)) <;> first | exact zG hc | skip) | (refine no_implicit_lambda% (ans ?_)) | (with_reducible first | exact zI | exact zJ) | (refine no_implicit_lambda% (wsp ?_)) | fail )
    ((with_reducible refine no_implicit_lambda% (is_ev ?_)); first | (refine no_implicit_lambda% (v_q rfl rfl rfl rfl (q_loadAt (av := (.arr 4 0 c.l.length cpv)) rfl rfl rfl rfl rfl (hge _)) (fun _ h => h) ?_)) | (refine no_implicit_lambda% (v_yes rfl rfl rfl rfl rfl rfl (q_loadAt (av := (.arr 4 0 c.l.length cpv)) rfl rfl rfl rfl rfl (hge _)) (fun _ h => h) ?_)))
    repeat' (first | (refine no_implicit_lambda% (zH ?_)) | (refine no_implicit_lambda% (splv (fun hc => ?_) (fun hc => ?_)) <;> first | exact zG hc | skip) | (refine no_implicit_lambda% (ans ?_)) | (with_reducible first | exact zI | exact zJ) | (refine no_implicit_lambda% (wsp ?_)) | fail )
    (refine no_implicit_lambda% (cal [4, 1] (hdf) ?_ ?_))
    ·((with_reducible refine no_implicit_lambda% (ret1 ?_)); first | (refine no_implicit_lambda% (akcs ?_)) | (refine no_implicit_lambda% (aecs ?_)))
     repeat' (first | (refine no_implicit_lambda% (zH ?_)) | (refine no_implicit_lambda% (splv (fun hc => ?_) (fun hc => ?_)) <;> first | exact zG hc | skip) | (refine no_implicit_lambda% (ans ?_)) | (with_reducible first | exact zI | exact zJ) | (refine no_implicit_lambda% (wsp ?_)) | fail )
     ((with_reducible refine no_implicit_lambda% (is_ev ?_)); first | (refine no_implicit_lambda% (v_qS rfl rfl rfl rfl (fun _ h => h) (fun _ h => h) ?_ ?_)) | (refine no_implicit_lambda% (v_qS rfl rfl rfl rfl (qAnd2 (fun _ h => h)) (fun _ h => h) ?_ ?_))); focus (first | omega | (simp; done) | (simp; omega))
     repeat' (first | (refine no_implicit_lambda% (zH ?_)) | (refine no_implicit_lambda% (splv (fun hc => ?_) (fun hc => ?_)) <;> first | exact zG hc | skip) | (refine no_implicit_lambda% (ans ?_)) | (with_reducible first | exact zI | exact zJ) | (refine no_implicit_lambda% (wsp ?_)) | fail )
     (with_reducible refine zC ?_)
     refine no_implicit_lambda% (a_storeT (id := 3) (off := (o.take (npos o s)).length * 2 + 1) (l := [.arr 4 0 d.length cpv]) (cells' := seqC (nrows (o.take (npos o s)) c.n (.arr 4 0 d.length cpv) (o.drop (npos o s + 1))) ((cp - o.length) * 2)) ?_ ?_ put_nrows rfl rfl ?_ rfl rfl)
     ·refine no_implicit_lambda% (aecs ?_)
      repeat' (first | (first | (with_reducible refine no_implicit_lambda% (v_nil ?_)) | ((with_reducible refine no_implicit_lambda% (is_ev ?_)); first | (refine no_implicit_lambda% (v_skips rfl rfl (fun _ h => h) ?_)) | (refine no_implicit_lambda% (v_q rfl rfl rfl rfl (fun _ h => h) (fun _ h => h) ?_)) | (refine no_implicit_lambda% (v_alloc rfl rfl rfl (fun _ h => h) rfl ?_)) | (refine no_implicit_lambda% (v_no rfl rfl rfl rfl rfl rfl (fun _ h => h) ?_)) | (refine no_implicit_lambda% (v_yes rfl rfl rfl rfl rfl rfl (fun _ h => h) (fun _ h => h) ?_)) | (refine no_implicit_lambda% (v_not rfl rfl rfl rfl rfl rfl (fun _ h => h) ?_)))) | (((with_reducible refine no_implicit_lambda% (is_drB ?_)); refine no_implicit_lambda% (b_ends ?_))))
      have hFe : o.take (npos o s) ++ ⟨c.n, d⟩ :: o.drop (npos o s + 1) = o.set (npos o s) ⟨c.n, d⟩ := by rw [List.set_eq_take_append_cons_drop, if_pos hlt]
      have hFl : (o.set (npos o s) ⟨c.n, d⟩).length = o.length := List.length_set ..
      have hFg : (o.set (npos o s) ⟨c.n, d⟩)[npos o s]? = some ⟨c.n, d⟩ := List.getElem?_set_self hlt
      have hEr : (o.set (npos o s) ⟨c.n, d⟩).eraseIdx (npos o s) = o.eraseIdx (npos o s) := by
       rw [List.eraseIdx_eq_take_drop_succ, List.eraseIdx_eq_take_drop_succ, List.take_set_of_le (Nat.le_refl _), List.drop_set_of_lt (by omega)]
      refine k_seq_to (pvSt (o.set (npos o s) ⟨c.n, d⟩) o.length cp (npos o s)) ((Conv.freezeBox (id := 4) (bid := 3) (k := (cpv - d.length) * 4) (rows := d.map verow) (cells := seqC (nrows (o.take (npos o s)) c.n (.arr 4 0 d.length cpv) (o.drop (npos o s + 1))) ((cp - o.length) * 2)) (j := (o.take (npos o s)).length * 2 + 1) (m := d.length) (cp := cpv) (permT (H := [(4, .seq (d.map verow) ((cpv - d.length) * 4)), (3, .box (seqC (nrows (o.take (npos o s)) c.n (.arr 4 0 d.length cpv) (o.drop (npos o s + 1))) ((cp - o.length) * 2)))])) get_nrows (veOk d) (by simp)).trans ?_) ?_
      ·rw [set_nrows, nrows_free, hFe]
       refine (Conv.toSeq (id := 3) (rows := (o.set (npos o s) ⟨c.n, d⟩).map corow) (cells := seqC ((o.set (npos o s) ⟨c.n, d⟩).map corow) ((cp - o.length) * 2)) (.refl _) rfl (coOk _).pure).trans ?_
       (refine no_implicit_lambda% (Conv.toT ?_ ?_ (LE0 rfl))); (focus ((unfold pvSt); (try dsimp only); exact wkl)); (focus ((unfold pvSt); (try dsimp only); exact wkh))
      ·generalize hF : o.set (npos o s) ⟨c.n, d⟩ = F at *
       refine c_turns (n' := 400) ?_
       refine c_seq ?_
       repeat' (first | (refine no_implicit_lambda% (sx1 ?_)) | (refine no_implicit_lambda% (spl (fun hc => ?_) (fun hc => ?_)) <;> first | exact zG hc | skip) | fail)
       (refine no_implicit_lambda% (aqs ?_ ?_)); focus (first | omega | (simp; done) | (simp; omega))
       repeat' (first | (refine no_implicit_lambda% (sx1 ?_)) | (refine no_implicit_lambda% (spl (fun hc => ?_) (fun hc => ?_)) <;> first | exact zG hc | skip) | fail)
       ((with_reducible refine no_implicit_lambda% (zC ?_)); refine no_implicit_lambda% (a_loadSeq (sz := 2) (rows := F.map corow) (i := (npos o s)) (j := 1) rfl rfl rfl rfl rfl (coOk F) ((by rw [List.getElem?_map, hFg]; rfl)) rfl (by first | rfl | (simp; done) | (simp; omega)) ?_))
       repeat' (first | (refine no_implicit_lambda% (sx1 ?_)) | (refine no_implicit_lambda% (spl (fun hc => ?_) (fun hc => ?_)) <;> first | exact zG hc | skip) | fail)
       refine k_seq ?_
       have hcc := copy_f (dropA o s t) (by have := hDf.len; omega) hDz
       rw [hDf.copy] at hcc
       refine c_cutR pdSt (fun q => q = dropA o s t) ?_ ?_
       ·rintro _ rfl
        refine c_turns (n' := 900) ?_
        repeat' (first | (refine no_implicit_lambda% (zH ?_)) | (refine no_implicit_lambda% (spl (fun hc => ?_) (fun hc => ?_)) <;> first | exact zG hc | skip) | (refine no_implicit_lambda% (ans ?_)) | (with_reducible first | exact zI | exact zJ) | (refine no_implicit_lambda% (cal [] (hcc) ?_ ?_)) | fail)
        exact e_ret (H' := []) (rest := _) rfl ⟨rfl, rfl⟩ permT (LE0 rfl)
       ·intro Kx kN kP kR kE
        rcases d with _ | ⟨d0, d⟩
        ·have hdl := delete_s F cp (npos o s) (by omega) (by omega) (by omega) c2
         rw [hFl] at hdl
         rw [if_pos rfl, ← hEr] at hq
         have hel : (F.eraseIdx (npos o s)).length = o.length - 1 := by rw [List.length_eraseIdx_of_lt (by omega)]; omega
         repeat' (first | (refine no_implicit_lambda% (zH ?_)) | (refine no_implicit_lambda% (spl (fun hc => ?_) (fun hc => ?_)) <;> first | exact zG hc | skip) | (refine no_implicit_lambda% (ans ?_)) | (with_reducible first | exact zI | exact zJ))
         rw [show IntKind.i64.wrap ((npos o s : Int) + 1) = ((npos o s + 1 : Nat) : Int) by rw [z64 (by omega) (by omega)]; omega]
         (refine no_implicit_lambda% (cal [3] (hdl) ?_ ?_))
         ·refine no_implicit_lambda% (ret1 ?_); first | (refine no_implicit_lambda% (akc ?_)) | (refine no_implicit_lambda% (aec ?_))
          repeat' (first | (refine no_implicit_lambda% (zH ?_)) | (refine no_implicit_lambda% (spl (fun hc => ?_) (fun hc => ?_)) <;> first | exact zG hc | skip) | (refine no_implicit_lambda% (ans ?_)) | (with_reducible first | exact zI | exact zJ))
          refine kN _ _ _ _ hq.symm (.inl ((Conv.freezeBox (j := 0) (id := 3) (bid := 5) (sz := 2) (rows := (F.eraseIdx (npos o s)).map corow) (k := (cp - (o.length - 1)) * 2) (m := o.length - 1) (cp := cp) (cells := [.arr 3 0 (o.length - 1) cp]) (permT (H := [(3, .seq ((F.eraseIdx (npos o s)).map corow) ((cp - (o.length - 1)) * 2)), (5, .box [.arr 3 0 (o.length - 1) cp])])) rfl (coOk _) (by rw [List.length_map, hel])).trans ?_))
          (refine no_implicit_lambda% (Conv.toT ?_ ?_ (LE0 rfl))); (focus ((unfold pdSt); (try dsimp only); exact wkl)); (focus ((unfold pdSt); (try dsimp only); exact wkh))
         ·first | (exact zI) | (exact zJ)
        ·have hne : ((((d0 :: d).map verow).length : Int) == 0) = false := by simp; omega
         rw [if_neg (by simp)] at hq
         repeat' (first | (refine no_implicit_lambda% (zH ?_)) | (refine no_implicit_lambda% (spl (fun hc => ?_) (fun hc => ?_)) <;> first | exact zG hc | skip) | (refine no_implicit_lambda% (ans ?_)) | (with_reducible first | exact zI | exact zJ))
         refine kN _ _ _ _ hq.symm (.inl ((Conv.freezeBox (j := 0) (id := 3) (bid := 5) (sz := 2) (rows := F.map corow) (k := (cp - o.length) * 2) (m := o.length) (cp := cp) (cells := [.arr 3 0 o.length cp]) (permT (H := [(3, .seq (F.map corow) ((cp - o.length) * 2)), (5, .box [.arr 3 0 o.length cp])])) rfl (coOk _) (by rw [List.length_map, hFl])).trans ?_))
         (refine no_implicit_lambda% (Conv.toT ?_ ?_ (LE0 rfl))); (focus ((unfold pdSt); (try dsimp only); exact wkl)); (focus ((unfold pdSt); (try dsimp only); exact wkh))
     ·show (true && (true && Nat.ble ((o.take (npos o s)).length * 2 + 1 + 1) (seqC (nrows (o.take (npos o s)) c.n (.arr 4 0 c.l.length cpv) (o.drop (npos o s + 1))) ((cp - o.length) * 2)).length)) = true
      rw [Bool.true_and, Bool.true_and, Nat.ble_eq, seqC_len nrows_row, nrows_len]
      omega
     ·show AV.ptr 3 (0 + (npos o s : Int).toNat * 2 + 1) = .ptr 3 ((o.take (npos o s)).length * 2 + 1)
      rw [Int.toNat_natCast, Nat.zero_add, hoc]
    ·first | (exact zI) | (exact zJ)
   ·exact zI
  ·intro xx H' hh
   obtain ⟨_, _, _, _, _, _, _, _, h', _⟩ := hh
   cases h'
end Go.Proofs.YtncffhgoopdfgaaGreat
namespace Go.Proofs.YtncffhgoopdfgaaGreat
open Go.Am
set_option maxRecDepth 100000
theorem qcopy_n (r : List Co) (hr : r.length < 70368744177664) (hs : RowSz r) : ACalls Tryz.prog 60 0 1 [rowA r] [] (CN (copyR r)) :=
 (qcopy_s r hr hs).ren (Nat.zero_le _) fun out H' hh => by
  obtain ⟨id, cp, h0, h1, h2, rfl, rfl⟩ := hh
  refine ⟨[id], .ret (.agg [.arr 0 0 (copyR r).length cp]), [(0, .seq ((copyR r).map corow) ((cp - (copyR r).length) * 2))], by simp, (fun i h => by simp at h; omega), (fun i h => absurd h (Nat.not_lt_zero i)), Nat.le_refl _, ?_, ?_, cp, h1, h2, rfl, rfl⟩
  ·simp [AOut.ren, AV.ren, AV.renL, rn]
  ·simp [renH, Res.ren, rn]
theorem qfind_o (o : List Co) (s : ByteArray) (cp : Nat) (hl : o.length < 1000000) (hs : Nsort o) : ACalls Tryz.prog 135 1 1 [.agg [.arr 0 0 o.length cp], .v (.string s)] [(0, .seq (o.map corow) ((cp - o.length) * 2))] (fun out H' => out = .ret (.tuple [.v (.int .i64 (npos o s)), .v (.bool (hasN o s))]) ∧ H' = [(0, .seq (o.map corow) ((cp - o.length) * 2))]) :=
 ((qfind_f o s hl hs).borrow (k := 1) (top := 1) (args := [.agg [.arr 0 0 o.length cp], .v (.string s)]) (H := [(0, .seq (o.map corow) ((cp - o.length) * 2))]) rfl (fun out H' hh => by obtain ⟨rfl, rfl⟩ := hh; rfl) (fun i a' ha => by
  match i with
  | 0 =>
   simp at ha; subst ha
   refine ⟨_, rfl, .agg rfl fun j b hb => ?_⟩
   match j with
   | 0 =>
    simp at hb; subst hb
    exact ⟨_, rfl, .seq (k := (cp - o.length) * 2) (by simp) (coOk o) (by simp)⟩
   | j + 1 => simp at hb
  | 1 =>
   simp at ha; subst ha
   exact ⟨_, rfl, .data rfl⟩
  | i + 2 => simp at ha)).mono fun out H' hh => by
   obtain ⟨⟨_, h1, _⟩, h2⟩ := hh
   exact ⟨h1, h2⟩
theorem ins_eq2 {l : List Ve} {x : Ve} {j : Nat} (hs : Vsort l) (h1 : ∀ y ∈ l.take j, x.t < y.t) (h2 : ∀ y, l[j]? = some y → ¬ x.t < y.t) : l.take j ++ x :: dropV (l.drop j) x.t = insV l x := by
 have hB : ∀ y ∈ l.drop j, y.t ≤ x.t := fun y hy => by
  obtain ⟨i, hi⟩ := List.getElem?_of_mem hy
  rw [List.getElem?_drop] at hi
  obtain ⟨z, hz⟩ : ∃ z, l[j]? = some z := ⟨_, List.getElem?_eq_getElem (by have := (List.getElem?_eq_some_iff.1 hi).1; omega)⟩
  have hz1 := h2 z hz
  rcases Nat.eq_zero_or_pos i with rfl | h0
  ·rw [Nat.add_zero, hz] at hi
   cases hi; omega
  ·have := List.pairwise_iff_getElem.1 hs j (j + i) (List.getElem?_eq_some_iff.1 hz).1 (List.getElem?_eq_some_iff.1 hi).1 (by omega)
   rw [(List.getElem?_eq_some_iff.1 hz).2, (List.getElem?_eq_some_iff.1 hi).2] at this
   omega
 have e1 : l.filter (fun y => decide (x.t < y.t)) = l.take j := by
  conv => lhs; rw [← List.take_append_drop j l]
  rw [List.filter_append, List.filter_eq_self.2 fun y hy => decide_eq_true (h1 y hy), List.filter_eq_nil_iff.2 fun y hy => by have := hB y hy; simp; omega, List.append_nil]
 have e2 : l.filter (fun y => decide (y.t < x.t)) = dropV (l.drop j) x.t := by
  conv => lhs; rw [← List.take_append_drop j l]
  rw [List.filter_append, List.filter_eq_nil_iff.2 fun y hy => by have := h1 y hy; simp; omega, List.nil_append]
  unfold dropV
  exact List.filter_congr fun y hy => decide_eq_decide.2 (by have := hB y hy; omega)
 unfold insV
 rw [e1, e2]
def qtSt (t : Int) (v : Va) (F0 : List Co) (cp i : Nat) : ASt := ⟨([.dead, .dead, .v (.int .i64 t), .dead, .dead, .dead, .dead, .ptr 0 0, .ptr 1 0, .dead, .ptr 2 0, .v (.int .i64 i)] ++ List.replicate 119 .dead), [(0, .box (vrowV v)), (1, .box [.list [] .full]), (2, .box [.arr 3 0 F0.length cp]), (3, .seq (F0.map corow) ((cp - F0.length) * 2))], 4⟩
def q1St (t : Int) (v : Va) (F0 : List Co) (cp i : Nat) (l q : List Ve) (k : Nat) : ASt := ⟨([.dead, .dead, .v (.int .i64 t), .dead, .dead, .dead, .dead, .ptr 0 0, .ptr 1 0, .dead, .ptr 2 0, .v (.int .i64 i), .dead, .list (l.map verow) .free, .list (q.map verow) (.tok 4), .v (.int .i64 k)] ++ List.replicate 115 .dead), [(4, .tok 4 q.length), (0, .box (vrowV v)), (1, .box [.list [] .full]), (2, .box [.arr 3 0 F0.length cp]), (3, .seq (F0.map corow) ((cp - F0.length) * 2))], 90⟩
def q2St (t : Int) (v : Va) (F0 : List Co) (cp i : Nat) (l q : List Ve) (k : Nat) : ASt := ⟨([.dead, .dead, .v (.int .i64 t), .dead, .dead, .dead, .dead, .ptr 0 0, .ptr 1 0, .dead, .ptr 2 0, .v (.int .i64 i), .dead, .list (l.map verow) .free, .list (q.map verow) (.tok 4), .v (.int .i64 k)] ++ List.replicate 115 .dead), [(4, .tok 4 q.length), (0, .box (vrowV v)), (1, .box [.list [] .full]), (2, .box [.arr 3 0 F0.length cp]), (3, .seq (F0.map corow) ((cp - F0.length) * 2))], 100⟩
theorem dropV_take {l : List Ve} {k : Nat} {y : Ve} {t : Int} (h : l[k]? = some y) : dropV (l.take (k + 1)) t = dropV (l.take k) t ++ (if y.t = t then [] else [y]) := by
 rw [List.take_add_one, h]
 exact dropV_snoc _ _ _
def q3St (t : Int) (v : Va) (F0 : List Co) (cp i : Nat) (q : List Ve) : ASt := ⟨(List.replicate 8 .dead ++ [.ptr 1 0, .dead, .ptr 2 0, .v (.int .i64 i), .dead, .dead, .list (q.map verow) .free] ++ List.replicate 116 .dead), [(1, .box [.list [] .full]), (2, .box [.arr 3 0 F0.length cp]), (3, .seq (F0.map corow) ((cp - F0.length) * 2))], 200⟩
set_option maxHeartbeats 3200000 in
theorem qput_rest (t : Int) (v : Va) (hv : VSw v) (R : AOut → Heap → Prop) (F F0 : List Co) (cp i : Nat) (c : Co) (hR : ∀ out H', putQ F out H' → R out H') (h4 : F0.length ≤ 4) (hFc : F0[i]? = some c) (hvs : Vsort c.l) (hl2 : c.l.length ≤ 2) (h1 : F0.length ≤ cp) (h2 : cp ≤ maxLen) (hF : F0.set i (putC c ⟨t, canV v⟩) = F) :
  acode Tryz.prog TT { run := DD, low := fun N => 0 ≤ N } (seqTail 5 (Tryz.f61.body.getD .skip)) (qtSt t v F0 cp i).slots (qtSt t v F0 cp i).L (qtSt t v F0 cp i).next (aend Tryz.prog TT (Tryz.f61.results.toList) 9000 R) := by
 have hi : i < F0.length := (List.getElem?_eq_some_iff.1 hFc).1
 have hcn := refCanon_w v hv.1 hv.2
 refine c_turn (n' := 4) (fun _ h => h) (fun _ h => h) rfl ?_
 refine c_seq ?_
 repeat' (first | (refine no_implicit_lambda% (zH ?_)) | (refine no_implicit_lambda% (spl (fun hc => ?_) (fun hc => ?_)) <;> first | exact zG hc | skip) | (refine no_implicit_lambda% (ans ?_)) | (with_reducible first | exact zI | exact zJ))
 (refine no_implicit_lambda% (aqs ?_ ?_)); focus (first | omega | (simp; done) | (simp; omega))
 repeat' (first | (refine no_implicit_lambda% (zH ?_)) | (refine no_implicit_lambda% (spl (fun hc => ?_) (fun hc => ?_)) <;> first | exact zG hc | skip) | (refine no_implicit_lambda% (ans ?_)) | (with_reducible first | exact zI | exact zJ))
 ((with_reducible refine no_implicit_lambda% (zC ?_)); refine no_implicit_lambda% (a_loadSeq (sz := 2) (rows := F0.map corow) (i := i) (j := 1) rfl rfl rfl rfl rfl (coOk F0) ((by rw [List.getElem?_map, hFc]; rfl)) rfl (by first | rfl | (simp; done) | (simp; omega)) ?_))
 repeat' (first | (refine no_implicit_lambda% (sx1 ?_)) | (refine no_implicit_lambda% (spl (fun hc => ?_) (fun hc => ?_)) <;> first | exact zG hc | skip) | fail)
 refine k_seq ?_
 repeat' (first | (refine no_implicit_lambda% (sx1 ?_)) | (refine no_implicit_lambda% (spl (fun hc => ?_) (fun hc => ?_)) <;> first | exact zG hc | skip) | fail)
 refine k_seq ?_
 repeat' (first | (refine no_implicit_lambda% (sx1 ?_)) | (refine no_implicit_lambda% (spl (fun hc => ?_) (fun hc => ?_)) <;> first | exact zG hc | skip) | fail)
 refine k_seq ?_
 refine c_seq ?_
 refine c_cutR (fun j => q1St t v F0 cp i c.l (c.l.take j) j) (fun j => j ≤ c.l.length ∧ c.l.take j ++ ⟨t, canV v⟩ :: dropV (c.l.drop j) t = insV c.l ⟨t, canV v⟩) ?_ ?_
 ·rintro j ⟨j1, j2⟩
  refine c_turn (n' := 90) (fun _ h => h) (fun _ h => h) rfl ?_
  have hlj : (c.l.take j).length ≤ 2 := by rw [List.length_take]; omega
  repeat' (first | (refine no_implicit_lambda% (zH ?_)) | (refine no_implicit_lambda% (spl (fun hc => ?_) (fun hc => ?_)) <;> first | exact zG hc | skip) | (refine no_implicit_lambda% (ans ?_)) | (with_reducible first | exact zI | exact zJ) | (refine no_implicit_lambda% (cal [] (hcn) ?_ ?_)) | fail)
  refine c_loop2 (fun q k => q2St t v F0 cp i c.l q k) (fun q k => j ≤ k ∧ k ≤ c.l.length ∧ q = c.l.take j ++ ⟨t, canV v⟩ :: dropV ((c.l.drop j).take (k - j)) t) (fun _ k => c.l.length - k) (c.l.take j ++ [⟨t, canV v⟩]) j ⟨Nat.le_refl _, j1, by simp [dropV]⟩ ?_ ?_
  ·(refine no_implicit_lambda% (Conv.toT ?_ ?_ (LE0 rfl))); (focus ((unfold q2St); (try dsimp only); exact wkl)); (focus ((unfold q2St); (try dsimp only); exact wkh))
  ·rintro q k ⟨k1, k2, hq⟩
   refine c_turn (n' := 100) (fun _ h => h) (fun _ h => h) rfl ?_
   have hdl := dropV_len ((c.l.drop j).take (k - j)) t
   have hql : q.length ≤ 3 := by
    rw [hq, List.length_append, List.length_cons]
    simp only [List.length_take, List.length_drop] at *
    omega
   rcases hy : c.l[k]? with _ | y
   ·have hk : k = c.l.length := by have := List.getElem?_eq_none_iff.1 hy; omega
    have hqp : q.take 2 = putV c.l ⟨t, canV v⟩ := by
     unfold putV
     have e : (c.l.drop j).take (c.l.length - j) = c.l.drop j := List.take_of_length_le (by rw [List.length_drop]; omega)
     rw [hq, hk, e, j2]
    repeat' (first | (refine no_implicit_lambda% (sx1 ?_)) | (refine no_implicit_lambda% (spl (fun hc => ?_) (fun hc => ?_)) <;> first | exact zG hc | skip) | fail)
    refine k_seq ?_
    repeat' (first | (refine no_implicit_lambda% (sx1 ?_)) | (refine no_implicit_lambda% (spl (fun hc => ?_) (fun hc => ?_)) <;> first | exact zG hc | skip) | fail)
    refine k_seq ?_
    repeat' (first | (refine no_implicit_lambda% (sx1 ?_)) | (refine no_implicit_lambda% (spl (fun hc => ?_) (fun hc => ?_)) <;> first | exact zG hc | skip) | fail)
    refine k_seq ?_
    refine c_cutR (fun _ : Unit => q3St t v F0 cp i (putV c.l ⟨t, canV v⟩)) (fun _ => True) ?_ ?_
    ·rintro _ _
     have hFl : F.length = F0.length := by rw [← hF]; exact List.length_set ..
     refine c_turn (n' := 200) (fun _ h => h) (fun _ h => h) rfl ?_
     repeat' (first | (refine no_implicit_lambda% (zH ?_)) | (refine no_implicit_lambda% (spl (fun hc => ?_) (fun hc => ?_)) <;> first | exact zG hc | skip) | (refine no_implicit_lambda% (ans ?_)) | (with_reducible first | exact zI | exact zJ))
     (refine no_implicit_lambda% (aqs ?_ ?_)); focus (first | omega | (simp; done) | (simp; omega))
     repeat' (first | (refine no_implicit_lambda% (zH ?_)) | (refine no_implicit_lambda% (spl (fun hc => ?_) (fun hc => ?_)) <;> first | exact zG hc | skip) | (refine no_implicit_lambda% (ans ?_)) | (with_reducible first | exact zI | exact zJ))
     ((with_reducible refine no_implicit_lambda% (zC ?_)); refine no_implicit_lambda% (a_storeSeq (sz := 2) (rows := F0.map corow) (i := i) (j := 1) (row' := [.v (.string c.n), .list ((putV c.l ⟨t, canV v⟩).map verow) .free]) rfl rfl rfl (fun _ h => h) rfl rfl (coOk F0) ((by rw [List.getElem?_map, hFc]; rfl)) (by first | decide | (simp; done)) (by first | rfl | (simp; done)) (by first | rfl | (simp; done) | (simp; omega)) ?_))
     rw [show (F0.map corow).set i [.v (.string c.n), .list ((putV c.l ⟨t, canV v⟩).map verow) .free] = F.map corow by rw [← hF, List.map_set]; rfl]
     repeat' (first | (refine no_implicit_lambda% (zH ?_)) | (refine no_implicit_lambda% (spl (fun hc => ?_) (fun hc => ?_)) <;> first | exact zG hc | skip) | (refine no_implicit_lambda% (ans ?_)) | (with_reducible first | exact zI | exact zJ))
     exact e_ret_to (H' := []) (rest := _) (Conv.freezeBox (j := 0) (id := 3) (bid := 1) (sz := 2) (rows := F.map corow) (k := (cp - F0.length) * 2) (m := F0.length) (cp := cp) (cells := [.arr 3 0 F0.length cp]) (permT (H := [(3, .seq (F.map corow) ((cp - F0.length) * 2)), (1, .box [.arr 3 0 F0.length cp])])) rfl (coOk F) (by rw [List.length_map, hFl])) rfl (hR _ _ ⟨rfl, rfl⟩) (.of_eq (by simp; rfl)) (LE0 rfl)
    ·intro Kx kN kP kR kE
     repeat' (first | (refine no_implicit_lambda% (zH ?_)) | (refine no_implicit_lambda% (spl (fun hc => ?_) (fun hc => ?_)) <;> first | exact zG hc | skip) | (refine no_implicit_lambda% (ans ?_)) | (with_reducible first | exact zI | exact zJ))
     ·have hq3 : 2 ≤ q.length := by have := of_decide_eq_true hc; rw [List.length_map] at this; omega
      (refine no_implicit_lambda% (aqs ?_ ?_)); focus ((repeat' (refine no_implicit_lambda% (And.intro ?_ ?_))) <;> (first | exact trivial | exact (veOk q).len | exact Int.natCast_nonneg _ | omega | (simp; done) | (simp; omega) | ((show (0 : Int) ≤ _); omega)))
      repeat' (first | (refine no_implicit_lambda% (zH ?_)) | (refine no_implicit_lambda% (spl (fun hc => ?_) (fun hc => ?_)) <;> first | exact zG hc | skip) | (refine no_implicit_lambda% (ans ?_)) | (with_reducible first | exact zI | exact zJ))
      refine kN () _ _ _ trivial (.inl ?_)
      rw [show List.drop 0 (List.take (2 : Int).toNat (q.map verow)) = (putV c.l ⟨t, canV v⟩).map verow by rw [← hqp, List.map_take]; rfl]
      (refine no_implicit_lambda% (Conv.toT ?_ ?_ (LE0 rfl))); (focus ((unfold q3St); (try dsimp only); exact wkl)); (focus ((unfold q3St); (try dsimp only); exact wkh))
     ·have hq2 : q = putV c.l ⟨t, canV v⟩ := by
       rw [← hqp, List.take_of_length_le]
       have := of_decide_eq_false hc
       rw [List.length_map] at this
       omega
      refine kN () _ _ _ trivial (.inl ?_)
      rw [← hq2]
      (refine no_implicit_lambda% (Conv.toT ?_ ?_ (LE0 rfl))); (focus ((unfold q3St); (try dsimp only); exact wkl)); (focus ((unfold q3St); (try dsimp only); exact wkh))
   ·have hk : k < c.l.length := (List.getElem?_eq_some_iff.1 hy).1
    have hix := vex hy
    have hdt := dropV_take (t := t) (l := c.l.drop j) (k := k - j) (y := y) (by rw [List.getElem?_drop, show j + (k - j) = k by omega]; exact hy)
    rw [show k - j + 1 = k + 1 - j by omega] at hdt
    repeat' (first | (refine no_implicit_lambda% (zH ?_)) | (refine no_implicit_lambda% (spl (fun hc => ?_) (fun hc => ?_)) <;> first | exact zG hc | skip) | (refine no_implicit_lambda% (ans ?_)) | (with_reducible first | exact zI | exact zJ))
    ·have hne : y.t ≠ t := by simpa using hc
     (refine no_implicit_lambda% (k_loopLT (((q ++ [y], k + 1) : List Ve × Nat)) 0 (List.range 100) (by show j ≤ k + 1 ∧ k + 1 ≤ c.l.length ∧ q ++ [y] = c.l.take j ++ ⟨t, canV v⟩ :: dropV ((c.l.drop j).take (k + 1 - j)) t; exact ⟨by omega, hk, by rw [hdt, if_neg hne, hq]; simp⟩) (by first | omega | (simp; done) | (simp; omega)) (LE0 rfl) (fun _ h => h) (fun _ h => h) ?_ ?_)); (focus ((try dsimp only); exact wkl)); (focus ((try dsimp only); exact wkh))
    ·have hne : y.t = t := by simpa using hc
     (refine no_implicit_lambda% (k_loopLT (((q, k + 1) : List Ve × Nat)) 0 (List.range 100) (by show j ≤ k + 1 ∧ k + 1 ≤ c.l.length ∧ q = c.l.take j ++ ⟨t, canV v⟩ :: dropV ((c.l.drop j).take (k + 1 - j)) t; exact ⟨by omega, hk, by rw [hdt, if_pos hne, hq]; simp⟩) (by first | omega | (simp; done) | (simp; omega)) (LE0 rfl) (fun _ h => h) (fun _ h => h) ?_ ?_)); (focus ((try dsimp only); exact wkl)); (focus ((try dsimp only); exact wkh))
 ·intro Kx kN kP kR kE
  repeat' (first | (refine no_implicit_lambda% (zH ?_)) | (refine no_implicit_lambda% (spl (fun hc => ?_) (fun hc => ?_)) <;> first | exact zG hc | skip) | (refine no_implicit_lambda% (ans ?_)) | (with_reducible first | exact zI | exact zJ))
  refine c_loop2 (fun q j => q1St t v F0 cp i c.l q j) (fun q j => q = c.l.take j ∧ j ≤ c.l.length ∧ ∀ y ∈ c.l.take j, t < y.t) (fun _ j => c.l.length - j) [] 0 ⟨rfl, Nat.zero_le _, by simp⟩ ((Conv.tokSlot (j := 14) (sz := 4) (rows := []) rfl (by simp)).trans ?_) ?_
  ·(refine no_implicit_lambda% (Conv.toT ?_ ?_ (LE0 rfl))); (focus ((unfold q1St); (try dsimp only); exact wkl)); (focus ((unfold q1St); (try dsimp only); exact wkh))
  ·rintro q j ⟨hq, j1, j2⟩
   have hlj : q.length ≤ 2 := by rw [hq, List.length_take]; omega
   refine c_turn (n' := 90) (fun _ h => h) (fun _ h => h) rfl ?_
   rcases hy : c.l[j]? with _ | y
   ·have hj : j = c.l.length := by have := List.getElem?_eq_none_iff.1 hy; omega
    repeat' (first | (refine no_implicit_lambda% (zH ?_)) | (refine no_implicit_lambda% (spl (fun hc => ?_) (fun hc => ?_)) <;> first | exact zG hc | skip) | (refine no_implicit_lambda% (ans ?_)) | (with_reducible first | exact zI | exact zJ))
    refine kN j _ _ _ ⟨j1, ins_eq2 hvs j2 (fun y h => by rw [hy] at h; cases h)⟩ (.inl ?_)
    subst hq
    (refine no_implicit_lambda% (Conv.toT ?_ ?_ (LE0 rfl))); (focus ((unfold q1St); (try dsimp only); exact wkl)); (focus ((unfold q1St); (try dsimp only); exact wkh))
   ·have hj : j < c.l.length := (List.getElem?_eq_some_iff.1 hy).1
    have hix := vex hy
    have hts : c.l.take (j + 1) = c.l.take j ++ [y] := by rw [List.take_add_one, hy]; rfl
    repeat' (first | (refine no_implicit_lambda% (zH ?_)) | (refine no_implicit_lambda% (spl (fun hc => ?_) (fun hc => ?_)) <;> first | exact zG hc | skip) | (refine no_implicit_lambda% (ans ?_)) | (with_reducible first | exact zI | exact zJ))
    ·(refine no_implicit_lambda% (k_loopLT (((q ++ [y], j + 1) : List Ve × Nat)) 0 (List.range 90) (by show q ++ [y] = c.l.take (j + 1) ∧ j + 1 ≤ c.l.length ∧ ∀ z ∈ c.l.take (j + 1), t < z.t; exact ⟨by rw [hts, hq], hj, by rw [hts]; intro z hz; rcases List.mem_append.1 hz with hz | hz; exact j2 z hz; rw [List.mem_singleton.1 hz]; exact of_decide_eq_true hc⟩) (by first | omega | (simp; done) | (simp; omega)) (LE0 rfl) (fun _ h => h) (fun _ h => h) ?_ ?_)); (focus ((try dsimp only); exact wkl)); (focus ((try dsimp only); exact wkh))
    ·refine kN j _ _ _ ⟨j1, ins_eq2 hvs j2 (fun z h => by rw [hy] at h; cases h; exact of_decide_eq_false hc)⟩ (.inl ?_)
     subst hq
     (refine no_implicit_lambda% (Conv.toT ?_ ?_ (LE0 rfl))); (focus ((unfold q1St); (try dsimp only); exact wkl)); (focus ((unfold q1St); (try dsimp only); exact wkh))
end Go.Proofs.YtncffhgoopdfgaaGreat
namespace Go.Proofs.YtncffhgoopdfgaaGreat
open Go.Am
set_option maxRecDepth 100000
theorem ins_rows (o : List Co) (p : Nat) (s : ByteArray) : (o.take p).map corow ++ [[.v (.string s), .list [] .full]] ++ (o.drop p).map corow = nrows (o.take p) s (.list [] .full) (o.drop p) := by unfold nrows; simp
theorem wk_nrows {o1 : List Co} {nm : ByteArray} {v w : AV} {o2 : List Co} {k : Nat} (h : Wk v w) : WkL (seqC (nrows o1 nm v o2) k) (seqC (nrows o1 nm w o2) k) := by
 have e : ∀ z, seqC (nrows o1 nm z o2) k = ((o1.map corow).flatten ++ [AV.v (.string nm)]) ++ ([z] ++ ((o2.map corow).flatten ++ List.replicate k .dead)) := fun z => by unfold seqC nrows; simp
 rw [e v, e w]
 exact .app (.refl _) (.app (.cons h .nil) (.refl _))
set_option maxHeartbeats 3200000 in
theorem qput_w (r : List Co) (s : ByteArray) (t : Int) (v : Va) (hr : r.length < 70368744177664) (hs : RowSz r) (hv : VSw v) : ACalls Tryz.prog 61 0 9000 [rowA r, .v (.string s), .v (.int .i64 t), vav v] [] (PutRR (putR r s t v)) := by
 have hnm := rname_c s
 have hvr : ACalls Tryz.prog 133 0 10 [vav v] [] (fun out H' => out = .ret (.v (.bool (vRt v))) ∧ H' = []) := refRight_c v
 have hso := copy_sort r
 have h4 := copy_len r
 have hfi := copy_fine r
 have hbad : (nmB s && tmOk t && vRt v) = false → putR r s t v = (1, []) := fun h => by unfold putR; rw [h]; rfl
 have hgood : (nmB s && tmOk t && vRt v) = true → putR r s t v = (if hasN (copyR r) s = false ∧ (copyR r).length = 4 then (13, []) else (0, putA (copyR r) s ⟨t, canV v⟩)) := fun h => by unfold putR; rw [if_pos h]
 have hcn := qcopy_n r hr hs
 generalize putR r s t v = Q at *
 generalize copyR r = o at *
 refine no_implicit_lambda% (acalls_of tok dok (f := 61) ⟨Tryz.func61, rfl, by kernel_rfl⟩ ?_); refine no_implicit_lambda% (c_start (fun _ h => h) ?_)
 repeat' (first | (refine no_implicit_lambda% (zH ?_)) | (refine no_implicit_lambda% (spl (fun hc => ?_) (fun hc => ?_)) <;> first | exact zG hc | skip) | (refine no_implicit_lambda% (ans ?_)) | (with_reducible first | exact zI | exact zJ) | (refine no_implicit_lambda% (cal [] (hnm) ?_ ?_)) | (refine no_implicit_lambda% (cal [] (hvr) ?_ ?_)) | fail)
 iterate 4
  ·have hb : Q = (1, []) := hbad (by unfold tmOk; simp only [Bool.not_eq_true', Bool.not_eq_false', decide_eq_true_eq, decide_eq_false_iff_not] at *; rw [Bool.eq_false_iff]; intro h; simp only [Bool.and_eq_true, decide_eq_true_eq] at h; first | omega | (simp_all; done))
   subst hb
   refine e_ret_to (H' := []) (rest := _) (Conv.toT (τ := ⟨_, [(2, .box [.list [] .free])], _⟩) (.refl _) ?_ (Nat.le_refl _)) rfl ⟨rfl, rfl⟩ (.of_eq rfl) (LE0 rfl)
   exact wkh
 have hq := hgood (by unfold tmOk; simp only [Bool.not_eq_true', Bool.not_eq_false', decide_eq_true_eq, decide_eq_false_iff_not] at *; simp only [Bool.and_eq_true, decide_eq_true_eq]; refine ⟨⟨by assumption, by omega⟩, by assumption⟩)
 (refine no_implicit_lambda% (cal [] (hcn) ?_ ?_))
 ·intro xx H' hh
  obtain ⟨cp, c1, c2, h', rfl⟩ := hh
  cases h'
  first | (refine no_implicit_lambda% (akc ?_)) | (refine no_implicit_lambda% (aec ?_))
  have hf := qfind_o o s cp (by omega) hso
  rcases hN : hasN o s with _ | _
  ·rw [hN] at hf
   repeat' (first | (refine no_implicit_lambda% (zH ?_)) | (refine no_implicit_lambda% (spl (fun hc => ?_) (fun hc => ?_)) <;> first | exact zG hc | skip) | (refine no_implicit_lambda% (ans ?_)) | (with_reducible first | exact zI | exact zJ))
   (refine no_implicit_lambda% (cal [13] (hf) ?_ ?_))
   ·refine no_implicit_lambda% (ret1 ?_); first | (refine no_implicit_lambda% (akc ?_)) | (refine no_implicit_lambda% (aec ?_))
    repeat' (first | (refine no_implicit_lambda% (zH ?_)) | (refine no_implicit_lambda% (spl (fun hc => ?_) (fun hc => ?_)) <;> first | exact zG hc | skip) | (refine no_implicit_lambda% (ans ?_)) | (with_reducible first | exact zI | exact zJ))
    ·have hl4 : o.length = 4 := by have := of_decide_eq_true hc; omega
     rw [if_pos ⟨hN, hl4⟩] at hq
     subst hq
     refine e_ret_to (H' := []) (rest := _) (Conv.toT (τ := ⟨_, [(2, .box [.list [] .free])], _⟩) (.refl _) ?_ (Nat.le_refl _)) rfl ⟨rfl, rfl⟩ (.of_eq rfl) (LE0 rfl)
     exact wkh
    ·have hl4 : ¬ o.length = 4 := by have := of_decide_eq_false hc; omega
     have hpl := npos_le o s
     rw [if_neg (fun h => hl4 h.2)] at hq
     ((with_reducible refine no_implicit_lambda% (is_ev ?_)); first | (refine no_implicit_lambda% (v_qS rfl rfl rfl rfl (qAnd4 (fun _ h => h)) (fun _ h => h) ?_ ?_)) | (refine no_implicit_lambda% (v_qS rfl rfl rfl rfl (qAnd5 (fun _ h => h)) (fun _ h => h) ?_ ?_))); focus ((repeat' (refine no_implicit_lambda% (And.intro ?_ ?_))) <;> (first | exact trivial | exact Int.natCast_nonneg _ | omega | (simp; done) | (simp; omega) | ((show (0 : Int) ≤ _); omega)))
     repeat' (first | (refine no_implicit_lambda% (zH ?_)) | (refine no_implicit_lambda% (spl (fun hc => ?_) (fun hc => ?_)) <;> first | exact zG hc | skip) | (refine no_implicit_lambda% (ans ?_)) | (with_reducible first | exact zI | exact zJ))
     ((with_reducible refine no_implicit_lambda% (is_ev ?_)); first | (refine no_implicit_lambda% (v_qS rfl rfl rfl rfl (qAnd4 (fun _ h => h)) (fun _ h => h) ?_ ?_)) | (refine no_implicit_lambda% (v_qS rfl rfl rfl rfl (qAnd5 (fun _ h => h)) (fun _ h => h) ?_ ?_))); focus ((repeat' (refine no_implicit_lambda% (And.intro ?_ ?_))) <;> (first | exact trivial | exact Int.natCast_nonneg _ | omega | (simp; done) | (simp; omega) | ((show (0 : Int) ≤ _); omega)))
     repeat' (first | (refine no_implicit_lambda% (zH ?_)) | (refine no_implicit_lambda% (spl (fun hc => ?_) (fun hc => ?_)) <;> first | exact zG hc | skip) | (refine no_implicit_lambda% (ans ?_)) | (with_reducible first | exact zI | exact zJ))
     have hlt4 := hfi.len
     have hpe : (npos o s : Int).toNat = npos o s := Int.toNat_natCast _
     generalize hpp : npos o s = p at *
     have l1 : ((o.take p).map corow).length = p := by rw [List.length_map, List.length_take]; omega
     have l2 : ((o.drop p).map corow).length = o.length - p := by rw [List.length_map, List.length_drop]
     (with_reducible refine zC ?_)
     refine no_implicit_lambda% (a_appS0g (sz := 2) (B := 40) (m2 := p) (rows2 := (o.take p).map corow) rfl rfl rfl rfl rfl rfl rfl rfl rfl (.inl rfl) rfl rfl (fun K h => asrc_seqg (id := 13) (off := 0) (i := 0) (m := ((o.take p).map corow).length) (cp := cp) ?_ rfl (coOk o) ?_ (by simp) ?_ h) (coOk _) ⟨by omega, by omega⟩ l1 ?_)
     ·rw [l1]
      show AV.arr 13 (0 + 0 * 2) ((p : Int).toNat - 0) (cp - 0) = AV.arr 13 0 p cp
      rw [hpe]; rfl
     ·rw [l1, List.length_map]; omega
     ·rw [l1, List.drop_zero, List.map_take]
     intro cp1 d1 d2
     refine no_implicit_lambda% (aec ?_)
     repeat' (first | (refine no_implicit_lambda% (zH ?_)) | (refine no_implicit_lambda% (spl (fun hc => ?_) (fun hc => ?_)) <;> first | exact zG hc | skip) | (refine no_implicit_lambda% (ans ?_)) | (with_reducible first | exact zI | exact zJ))
     ((with_reducible refine no_implicit_lambda% (zC ?_)); refine no_implicit_lambda% (a_appS (sz := 2) (B := 40) (m2 := p + 1) (rows3 := ((o.take p).map corow ++ [[.v (.string s), .list [] .full]])) rfl rfl rfl rfl rfl rfl rfl rfl rfl rfl rfl (fun _ h => h) rfl rfl (coOk (o.take p)) ((.one1 (row := [.v (.string s), .list [] .full]) ⟨rfl, rfl, rfl⟩)) (by first | rfl | (exact List.length_map ..) | (simp; done) | (simp; omega)) rfl (by first | omega | (simp; omega)) (by first | rfl | (simp; done) | (simp; omega)) (by first | rfl | (exact map_snoc _ _) | (rw [List.map_append]; rfl) | (simp; done)) ?_))
     intro cp2 e1 e2
     refine no_implicit_lambda% (aec ?_)
     repeat' (first | (refine no_implicit_lambda% (zH ?_)) | (refine no_implicit_lambda% (spl (fun hc => ?_) (fun hc => ?_)) <;> first | exact zG hc | skip) | (refine no_implicit_lambda% (ans ?_)) | (with_reducible first | exact zI | exact zJ))
     (with_reducible refine zC ?_)
     refine no_implicit_lambda% (a_appSg (sz := 2) (B := 40) (m2 := o.length + 1) (rows := (o.take p).map corow ++ [[AV.v (.string s), AV.list [] .full]]) (rows2 := (o.drop p).map corow) (rows3 := nrows (o.take p) s (.list [] .full) (o.drop p)) rfl rfl rfl rfl rfl rfl rfl rfl rfl rfl (fun _ h => h) rfl rfl (fun K h => asrc_seqg (id := 13) (off := p * 2) (i := p) (m := ((o.drop p).map corow).length) (cp := cp - p) ?_ rfl (coOk o) ?_ rfl ?_ h) ?_ (coOk _) ?_ ?_ ⟨by omega, by omega, by omega⟩ (by omega) (ins_rows o p s) ?_)
     ·rw [l2]
      show AV.arr 13 (0 + (p : Int).toNat * 2) (o.length - (p : Int).toNat) (cp - (p : Int).toNat) = AV.arr 13 (p * 2) (o.length - p) (cp - p)
      rw [hpe, Nat.zero_add]
     ·rw [l2, List.length_map]; omega
     ·rw [l2, List.map_drop, List.take_of_length_le (by rw [List.length_drop, List.length_map]; omega)]
     ·exact (coOk _).app (.one1 ⟨rfl, rfl, rfl⟩)
     ·rw [List.length_append, l1]; rfl
     ·rfl
     intro cp3 f1 f2
     refine no_implicit_lambda% (aec ?_)
     repeat' (first | (first | (with_reducible refine no_implicit_lambda% (v_nil ?_)) | ((with_reducible refine no_implicit_lambda% (is_ev ?_)); first | (refine no_implicit_lambda% (v_skips rfl rfl (fun _ h => h) ?_)) | (refine no_implicit_lambda% (v_q rfl rfl rfl rfl (fun _ h => h) (fun _ h => h) ?_)) | (refine no_implicit_lambda% (v_alloc rfl rfl rfl (fun _ h => h) rfl ?_)) | (refine no_implicit_lambda% (v_no rfl rfl rfl rfl rfl rfl (fun _ h => h) ?_)) | (refine no_implicit_lambda% (v_yes rfl rfl rfl rfl rfl rfl (fun _ h => h) (fun _ h => h) ?_)) | (refine no_implicit_lambda% (v_not rfl rfl rfl rfl rfl rfl (fun _ h => h) ?_)))) | ((with_reducible refine no_implicit_lambda% (is_drB ?_)); first | (refine no_implicit_lambda% (b_end rfl rfl (fun _ h => h) (fun _ h => h) ?_)) | (refine no_implicit_lambda% (b_eff rfl rfl rfl rfl (fun _ h => h) (fun _ h => h) rfl ?_)) | (refine no_implicit_lambda% (b_no rfl rfl rfl rfl (fun _ h => h) (fun _ h => h) rfl rfl rfl (fun _ h => h) (fun _ h => h) ?_)) | (refine no_implicit_lambda% (b_yes rfl rfl rfl rfl (fun _ h => h) (fun _ h => h) rfl rfl rfl ?_)) | (refine no_implicit_lambda% (b_not rfl rfl rfl rfl (fun _ h => h) (fun _ h => h) rfl rfl rfl (fun _ h => h) (fun _ h => h) ?_))) | ((with_reducible refine no_implicit_lambda% (is_effK ?_)); refine no_implicit_lambda% (k_eff (fun _ h => h) (fun _ h => h) (fun _ h => h) (by intro k h; repeat (first | exact h | refine ⟨rfl, ?_⟩ | refine ⟨trivial, ?_⟩)) ?_)) | ((with_reducible refine no_implicit_lambda% (zC ?_)); first | (refine no_implicit_lambda% (a_q1 rfl (fun _ h => h) ?_)) | (refine no_implicit_lambda% (a_box rfl (fun _ h => h) ?_)) | (refine no_implicit_lambda% (a_alloc rfl (fun _ h => h) ?_)) | (refine no_implicit_lambda% (a_storev rfl (fun _ h => h) ?_)) | (refine no_implicit_lambda% (a_store rfl (fun _ h => h) ?_)) | (refine no_implicit_lambda% (a_panic rfl rfl ?_))) | fail)
     have hFl : (o.take p ++ ⟨s, []⟩ :: o.drop p).length = o.length + 1 := by simp; omega
     have hFp : (o.take p ++ (⟨s, []⟩ : Co) :: o.drop p)[p]? = some ⟨s, []⟩ := by
      rw [List.getElem?_append_right (by rw [List.length_take]; omega), List.length_take, Nat.min_eq_left (by omega), Nat.sub_self]; rfl
     have hFr : nrows (o.take p) s (.list [] .free) (o.drop p) = (o.take p ++ ⟨s, []⟩ :: o.drop p).map corow := nrows_free _ _ [] _
     refine ⟨qtSt t v (o.take p ++ ⟨s, []⟩ :: o.drop p) cp3 p, ?_, qput_rest t v hv _ Q.2 (o.take p ++ ⟨s, []⟩ :: o.drop p) cp3 p ⟨s, []⟩ (fun out H' h => ⟨by rw [h.1, show Q.1 = 0 by rw [hq]], h.2⟩) (by omega) hFp List.Pairwise.nil (by simp) (by omega) f2 ?_⟩
     ·refine SeqTo.renE (n2 := 18) (L2 := [(1, .box (vrowV v)), (2, .box [.list [] .full]), (14, .box [.arr 17 0 (o.take p ++ ⟨s, []⟩ :: o.drop p).length cp3]), (17, .seq ((o.take p ++ ⟨s, []⟩ :: o.drop p).map corow) ((cp3 - (o.take p ++ (⟨s, []⟩ : Co) :: o.drop p).length) * 2))]) 0 [1, 2, 14, 17] (Nat.le_refl 0) rfl (fun _ h => h) ?_
      refine (Conv.unseq (id := 17) (rows := nrows (o.take p) s (.list [] .full) (o.drop p)) (k := (cp3 - (o.length + 1)) * 2) (by rw [nrows_len]; omega) (permT (H := [(17, .seq (nrows (o.take p) s (.list [] .full) (o.drop p)) ((cp3 - (o.length + 1)) * 2))]))).trans ((Conv.wk (.refl _) (.cons (.box 17 (wk_nrows (.free _ _))) (.refl _))).trans ((Conv.toSeq (rows := (o.take p ++ ⟨s, []⟩ :: o.drop p).map corow) (k := (cp3 - (o.length + 1)) * 2) (.refl _) (by rw [← hFr]) (coOk _).pure).trans ?_))
      rw [hFl]
      refine no_implicit_lambda% (Conv.toT ?_ ?_ (LE0 rfl))
      ·exact wkl
      ·exact wkh
     ·rw [hq]
      unfold putA
      rw [hN, if_neg (by simp), hpp]
      show _ = o.take p ++ ⟨s, [⟨t, canV v⟩]⟩ :: o.drop p
      have hol : (o.take p).length = p := by rw [List.length_take]; omega
      rw [List.set_append_right _ _ (by omega), hol, Nat.sub_self]
      rfl
   ·first | (exact zI) | (exact zJ)
  ·rw [hN] at hf
   have hlt := npos_len hN
   obtain ⟨c, hc1⟩ := has_at hN
   have hcb := hfi.col c (List.mem_of_getElem? hc1)
   have hcl := col_len hcb
   have hlt4 := hfi.len
   repeat' (first | (refine no_implicit_lambda% (zH ?_)) | (refine no_implicit_lambda% (spl (fun hc => ?_) (fun hc => ?_)) <;> first | exact zG hc | skip) | (refine no_implicit_lambda% (ans ?_)) | (with_reducible first | exact zI | exact zJ))
   (refine no_implicit_lambda% (cal [13] (hf) ?_ ?_))
   ·refine no_implicit_lambda% (ret1 ?_); first | (refine no_implicit_lambda% (akc ?_)) | (refine no_implicit_lambda% (aec ?_))
    repeat' (first | (refine no_implicit_lambda% (sx1 ?_)) | (refine no_implicit_lambda% (spl (fun hc => ?_) (fun hc => ?_)) <;> first | exact zG hc | skip) | fail)
    refine k_seq ?_
    repeat' (first | (refine no_implicit_lambda% (sx1 ?_)) | (refine no_implicit_lambda% (spl (fun hc => ?_) (fun hc => ?_)) <;> first | exact zG hc | skip) | fail)
    refine k_seq ?_
    repeat' (first | (refine no_implicit_lambda% (sx1 ?_)) | (refine no_implicit_lambda% (spl (fun hc => ?_) (fun hc => ?_)) <;> first | exact zG hc | skip) | fail)
    refine ⟨qtSt t v o cp (npos o s), ?_, qput_rest t v hv _ Q.2 o cp (npos o s) c (fun out H' h => ⟨by rw [h.1, show Q.1 = 0 by rw [hq, if_neg (by rw [hN]; simp)]], h.2⟩) hlt4 hc1 ?_ hcl.2 c1 c2 ?_⟩
    ·(refine no_implicit_lambda% (SeqTo.renT 0 [1, 2, 14, 13] (LE0 rfl) (fun _ h => h) (fun _ h => h) ?_ ?_)); (focus ((try dsimp only); exact wkl)); (focus ((try dsimp only); exact wkh))
    ·unfold colB at hcb
     simp only [Bool.and_eq_true] at hcb
     exact (vers_to hcb.2).2.1
    ·rw [hq, if_neg (by rw [hN]; simp)]
     unfold putA
     rw [hN, if_pos rfl, hc1]
   ·first | (exact zI) | (exact zJ)
 ·intro xx H' hh
  obtain ⟨_, _, _, h', _⟩ := hh
  cases h'
theorem qput_c (r : List Co) (s : ByteArray) (t : Int) (v : Va) (hr : r.length < 70368744177664) (hs : RowSz r) (hv : v.b.length < 1073741824 ∧ v.n < 18446744073709551616) : ACalls Tryz.prog 61 0 9000 [rowA r, .v (.string s), .v (.int .i64 t), vav v] [] (PutRR (putR r s t v)) := qput_w r s t v hr hs ⟨fun _ => hv.1, hv.2⟩
end Go.Proofs.YtncffhgoopdfgaaGreat
namespace Go.Proofs.YtncffhgoopdfgaaGreat
open Go.Am
set_option maxRecDepth 100000
def qeSt (t : Int) (s : ByteArray) (o : List Co) (cp i : Nat) (q : List Ve) (k : Nat) : ASt := ⟨([.dead, .v (.string s), .v (.int .i64 t), .dead, .dead, .dead, .ptr 1 0, .ptr 3 0, .v (.int .i64 i), .dead, .list (q.map verow) (.tok 4), .v (.int .i64 k)] ++ List.replicate 59 .dead), [(4, .tok 4 q.length), (1, .box [.list [] .full]), (3, .box [.arr 2 0 o.length cp]), (2, .seq (o.map corow) ((cp - o.length) * 2))], 90⟩
def qgSt (s : ByteArray) (o : List Co) : ASt := ⟨([.dead, .v (.string s), .dead, .dead, .dead, .dead, .ptr 1 0, .ptr 3 0] ++ List.replicate 52 .dead ++ [.v (.bool true)] ++ List.replicate 10 .dead), [(1, .box [.list [] .full]), (3, .box [.list (o.map corow) .free])], 100⟩
def qhSt (o : List Co) (cp i : Nat) (q : List Ve) : ASt := ⟨(List.replicate 6 .dead ++ [.ptr 1 0, .ptr 3 0, .v (.int .i64 i), .dead, .list (q.map verow) .free] ++ List.replicate 49 .dead ++ [.v (.bool false)] ++ List.replicate 10 .dead), [(1, .box [.list [] .full]), (3, .box [.arr 2 0 o.length cp]), (2, .seq (o.map corow) ((cp - o.length) * 2))], 100⟩
set_option maxHeartbeats 3200000 in
theorem qdrop_c (r : List Co) (s : ByteArray) (t : Int) (hr : r.length < 70368744177664) (hs : RowSz r) : ACalls Tryz.prog 62 0 9000 [rowA r, .v (.string s), .v (.int .i64 t)] [] (fun out H' => out = .ret (rowA (dropR r s t)) ∧ H' = []) := by
 have hso := copy_sort r
 have h4 := copy_len r
 have hz := copy_sz hs
 have hfi := copy_fine r
 have hcn := qcopy_n r hr hs
 unfold dropR
 generalize copyR r = o at *
 have hlt4 := hfi.len
 refine no_implicit_lambda% (acalls_of tok dok (f := 62) ⟨Tryz.func62, rfl, by kernel_rfl⟩ ?_); refine no_implicit_lambda% (c_start (fun _ h => h) ?_)
 repeat' (first | (refine no_implicit_lambda% (zH ?_)) | (refine no_implicit_lambda% (spl (fun hc => ?_) (fun hc => ?_)) <;> first | exact zG hc | skip) | (refine no_implicit_lambda% (ans ?_)) | (with_reducible first | exact zI | exact zJ))
 (refine no_implicit_lambda% (cal [] (hcn) ?_ ?_))
 ·intro xx H' hh
  obtain ⟨cp, c1, c2, h', rfl⟩ := hh
  cases h'
  first | (refine no_implicit_lambda% (akc ?_)) | (refine no_implicit_lambda% (aec ?_))
  have hf := qfind_o o s cp (by omega) hso
  rcases hN : hasN o s with _ | _
  ·rw [hN] at hf
   have hq : dropA o s t = o := by unfold dropA; rw [hN, if_neg (by simp)]
   rw [hq]
   repeat' (first | (refine no_implicit_lambda% (zH ?_)) | (refine no_implicit_lambda% (spl (fun hc => ?_) (fun hc => ?_)) <;> first | exact zG hc | skip) | (refine no_implicit_lambda% (ans ?_)) | (with_reducible first | exact zI | exact zJ))
   (refine no_implicit_lambda% (cal [2] (hf) ?_ ?_))
   ·refine no_implicit_lambda% (ret1 ?_); first | (refine no_implicit_lambda% (akc ?_)) | (refine no_implicit_lambda% (aec ?_))
    repeat' (first | (refine no_implicit_lambda% (zH ?_)) | (refine no_implicit_lambda% (spl (fun hc => ?_) (fun hc => ?_)) <;> first | exact zG hc | skip) | (refine no_implicit_lambda% (ans ?_)) | (with_reducible first | exact zI | exact zJ))
    exact e_ret_to (H' := []) (rest := _) (Conv.freezeBox (j := 0) (id := 2) (bid := 1) (sz := 2) (rows := o.map corow) (k := (cp - o.length) * 2) (m := o.length) (cp := cp) (cells := [.arr 2 0 o.length cp]) (permT (H := [(2, .seq (o.map corow) ((cp - o.length) * 2)), (1, .box [.arr 2 0 o.length cp])])) rfl (coOk o) (by simp)) rfl ⟨rfl, rfl⟩ (.of_eq (by simp; rfl)) (LE0 rfl)
   ·first | (exact zI) | (exact zJ)
  ·rw [hN] at hf
   have hlt := npos_len hN
   obtain ⟨c, hc1⟩ := has_at hN
   have hcb := hfi.col c (List.mem_of_getElem? hc1)
   have hcl := col_len hcb
   have hq : dropA o s t = if dropV c.l t = [] then o.eraseIdx (npos o s) else o.set (npos o s) ⟨c.n, dropV c.l t⟩ := by unfold dropA; rw [hN, if_pos rfl, hc1]
   repeat' (first | (refine no_implicit_lambda% (zH ?_)) | (refine no_implicit_lambda% (spl (fun hc => ?_) (fun hc => ?_)) <;> first | exact zG hc | skip) | (refine no_implicit_lambda% (ans ?_)) | (with_reducible first | exact zI | exact zJ))
   (refine no_implicit_lambda% (cal [2] (hf) ?_ ?_))
   ·refine no_implicit_lambda% (ret1 ?_); first | (refine no_implicit_lambda% (akc ?_)) | (refine no_implicit_lambda% (aec ?_))
    repeat' (first | (refine no_implicit_lambda% (zH ?_)) | (refine no_implicit_lambda% (spl (fun hc => ?_) (fun hc => ?_)) <;> first | exact zG hc | skip) | (refine no_implicit_lambda% (ans ?_)) | (with_reducible first | exact zI | exact zJ))
    refine c_loop2 (fun q k => qeSt t s o cp (npos o s) q k) (fun q k => k ≤ c.l.length ∧ q = dropV (c.l.take k) t) (fun _ k => c.l.length - k) [] 0 ⟨Nat.zero_le _, rfl⟩ ((Conv.tokSlot (j := 10) (sz := 4) (rows := []) rfl (by simp)).trans ?_) ?_
    ·(refine no_implicit_lambda% (Conv.toT ?_ ?_ (LE0 rfl))); (focus ((unfold qeSt); (try dsimp only); exact wkl)); (focus ((unfold qeSt); (try dsimp only); exact wkh))
    ·rintro q k ⟨k1, hqe⟩
     have hdl := dropV_len (c.l.take k) t
     have hql : q.length ≤ 2 := by rw [hqe]; rw [List.length_take] at hdl; omega
     refine c_turn (n' := 90) (fun _ h => h) (fun _ h => h) rfl ?_
     repeat' (first | (refine no_implicit_lambda% (zH ?_)) | (refine no_implicit_lambda% (spl (fun hc => ?_) (fun hc => ?_)) <;> first | exact zG hc | skip) | (refine no_implicit_lambda% (ans ?_)) | (with_reducible first | exact zI | exact zJ))
     (refine no_implicit_lambda% (aqs ?_ ?_)); focus (first | omega | (simp; done) | (simp; omega))
     repeat' (first | (refine no_implicit_lambda% (sx1 ?_)) | (refine no_implicit_lambda% (spl (fun hc => ?_) (fun hc => ?_)) <;> first | exact zG hc | skip) | fail)
     ((with_reducible refine no_implicit_lambda% (zC ?_)); refine no_implicit_lambda% (a_loadSeq (sz := 2) (rows := o.map corow) (i := (npos o s)) (j := 1) rfl rfl rfl rfl rfl (coOk o) ((by rw [List.getElem?_map, hc1]; rfl)) rfl (by first | rfl | (simp; done) | (simp; omega)) ?_))
     repeat' (first | (refine no_implicit_lambda% (sx1 ?_)) | (refine no_implicit_lambda% (spl (fun hc => ?_) (fun hc => ?_)) <;> first | exact zG hc | skip) | fail)
     refine k_seq ?_
     have hlen : ((c.l.map verow).length : Int) = c.l.length := by rw [List.length_map]
     rcases hy : c.l[k]? with _ | y
     ·have hk : k = c.l.length := by have := List.getElem?_eq_none_iff.1 hy; omega
      rw [hk, List.take_length] at hqe
      rw [← hqe] at hq
      repeat' (first | (refine no_implicit_lambda% (sx1 ?_)) | (refine no_implicit_lambda% (spl (fun hc => ?_) (fun hc => ?_)) <;> first | exact zG hc | skip) | fail)
      refine k_seq ?_
      repeat' (first | (refine no_implicit_lambda% (sx1 ?_)) | (refine no_implicit_lambda% (spl (fun hc => ?_) (fun hc => ?_)) <;> first | exact zG hc | skip) | fail)
      rcases q with _ | ⟨q0, q⟩
      ·rw [if_pos rfl] at hq
       rw [hq]
       refine k_seq_to (qgSt s o) ((Conv.freezeBox (j := 0) (id := 2) (bid := 3) (sz := 2) (rows := o.map corow) (k := (cp - o.length) * 2) (m := o.length) (cp := cp) (cells := [.arr 2 0 o.length cp]) (permT (H := [(2, .seq (o.map corow) ((cp - o.length) * 2)), (3, .box [.arr 2 0 o.length cp])])) rfl (coOk o) (by simp)).trans ?_) ?_
       ·(refine no_implicit_lambda% (Conv.toT ?_ ?_ (LE0 rfl))); (focus ((unfold qgSt); (try dsimp only); exact wkl)); (focus ((unfold qgSt); (try dsimp only); exact wkh))
       ·have hdc := qdropcol_c o s (by omega) hz
        have hde : dcR o s = o.eraseIdx (npos o s) := by unfold dcR; rw [hfi.copy, hN, if_pos rfl]
        rw [hde] at hdc
        refine c_turn (n' := 100) (fun _ h => h) (fun _ h => h) rfl ?_
        repeat' (first | (refine no_implicit_lambda% (zH ?_)) | (refine no_implicit_lambda% (spl (fun hc => ?_) (fun hc => ?_)) <;> first | exact zG hc | skip) | (refine no_implicit_lambda% (ans ?_)) | (with_reducible first | exact zI | exact zJ) | (refine no_implicit_lambda% (cal [] (hdc) ?_ ?_)) | fail)
        exact e_ret (H' := []) (rest := _) rfl ⟨rfl, rfl⟩ permT (LE0 rfl)
      ·rw [if_neg (by simp)] at hq
       rw [hq]
       generalize hqq : q0 :: q = q2 at *
       have hq0 : (((q2.map verow).length : Int) == 0) = false := by rw [← hqq]; simp; omega
       refine k_seq_to (qhSt o cp (npos o s) q2) ?_ ?_
       ·rw [hq0]
        (refine no_implicit_lambda% (Conv.toT ?_ ?_ (LE0 rfl))); (focus ((unfold qhSt); (try dsimp only); exact wkl)); (focus ((unfold qhSt); (try dsimp only); exact wkh))
       ·generalize hF : o.set (npos o s) ⟨c.n, q2⟩ = F at *
        have hFl : F.length = o.length := by rw [← hF]; exact List.length_set ..
        refine c_turn (n' := 100) (fun _ h => h) (fun _ h => h) rfl ?_
        repeat' (first | (refine no_implicit_lambda% (zH ?_)) | (refine no_implicit_lambda% (spl (fun hc => ?_) (fun hc => ?_)) <;> first | exact zG hc | skip) | (refine no_implicit_lambda% (ans ?_)) | (with_reducible first | exact zI | exact zJ))
        (refine no_implicit_lambda% (aqs ?_ ?_)); focus (first | omega | (simp; done) | (simp; omega))
        repeat' (first | (refine no_implicit_lambda% (zH ?_)) | (refine no_implicit_lambda% (spl (fun hc => ?_) (fun hc => ?_)) <;> first | exact zG hc | skip) | (refine no_implicit_lambda% (ans ?_)) | (with_reducible first | exact zI | exact zJ))
        ((with_reducible refine no_implicit_lambda% (zC ?_)); refine no_implicit_lambda% (a_storeSeq (sz := 2) (rows := o.map corow) (i := (npos o s)) (j := 1) (row' := [.v (.string c.n), .list (q2.map verow) .free]) rfl rfl rfl (fun _ h => h) rfl rfl (coOk o) ((by rw [List.getElem?_map, hc1]; rfl)) (by first | decide | (simp; done)) (by first | rfl | (simp; done)) (by first | rfl | (simp; done) | (simp; omega)) ?_))
        rw [show (o.map corow).set (npos o s) [.v (.string c.n), .list (q2.map verow) .free] = F.map corow by rw [← hF, List.map_set]; rfl]
        repeat' (first | (refine no_implicit_lambda% (zH ?_)) | (refine no_implicit_lambda% (spl (fun hc => ?_) (fun hc => ?_)) <;> first | exact zG hc | skip) | (refine no_implicit_lambda% (ans ?_)) | (with_reducible first | exact zI | exact zJ))
        exact e_ret_to (H' := []) (rest := _) (Conv.freezeBox (j := 0) (id := 2) (bid := 1) (sz := 2) (rows := F.map corow) (k := (cp - o.length) * 2) (m := o.length) (cp := cp) (cells := [.arr 2 0 o.length cp]) (permT (H := [(2, .seq (F.map corow) ((cp - o.length) * 2)), (1, .box [.arr 2 0 o.length cp])])) rfl (coOk F) (by rw [List.length_map, hFl])) rfl ⟨rfl, rfl⟩ (.of_eq (by simp; rfl)) (LE0 rfl)
     ·have hk : k < c.l.length := (List.getElem?_eq_some_iff.1 hy).1
      have hix := vex hy
      have hdt := dropV_take (t := t) hy
      repeat' (first | (refine no_implicit_lambda% (zH ?_)) | (refine no_implicit_lambda% (spl (fun hc => ?_) (fun hc => ?_)) <;> first | exact zG hc | skip) | (refine no_implicit_lambda% (ans ?_)) | (with_reducible first | exact zI | exact zJ))
      (refine no_implicit_lambda% (aqs ?_ ?_)); focus (first | omega | (simp; done) | (simp; omega))
      repeat' (first | (refine no_implicit_lambda% (sx1 ?_)) | (refine no_implicit_lambda% (spl (fun hc => ?_) (fun hc => ?_)) <;> first | exact zG hc | skip) | fail)
      ((with_reducible refine no_implicit_lambda% (zC ?_)); refine no_implicit_lambda% (a_loadSeq (sz := 2) (rows := o.map corow) (i := (npos o s)) (j := 1) rfl rfl rfl rfl rfl (coOk o) ((by rw [List.getElem?_map, hc1]; rfl)) rfl (by first | rfl | (simp; done) | (simp; omega)) ?_))
      repeat' (first | (refine no_implicit_lambda% (zH ?_)) | (refine no_implicit_lambda% (spl (fun hc => ?_) (fun hc => ?_)) <;> first | exact zG hc | skip) | (refine no_implicit_lambda% (ans ?_)) | (with_reducible first | exact zI | exact zJ))
      ·have hne : y.t ≠ t := by simpa using hc
       (refine no_implicit_lambda% (aqs ?_ ?_)); focus (first | omega | (simp; done) | (simp; omega))
       repeat' (first | (refine no_implicit_lambda% (zH ?_)) | (refine no_implicit_lambda% (spl (fun hc => ?_) (fun hc => ?_)) <;> first | exact zG hc | skip) | (refine no_implicit_lambda% (ans ?_)) | (with_reducible first | exact zI | exact zJ))
       ((with_reducible refine no_implicit_lambda% (zC ?_)); refine no_implicit_lambda% (a_loadSeq (sz := 2) (rows := o.map corow) (i := (npos o s)) (j := 1) rfl rfl rfl rfl rfl (coOk o) ((by rw [List.getElem?_map, hc1]; rfl)) rfl (by first | rfl | (simp; done) | (simp; omega)) ?_))
       repeat' (first | (refine no_implicit_lambda% (zH ?_)) | (refine no_implicit_lambda% (spl (fun hc => ?_) (fun hc => ?_)) <;> first | exact zG hc | skip) | (refine no_implicit_lambda% (ans ?_)) | (with_reducible first | exact zI | exact zJ))
       (refine no_implicit_lambda% (k_loopLT (((q ++ [y], k + 1) : List Ve × Nat)) 0 (List.range 90) (by show k + 1 ≤ c.l.length ∧ q ++ [y] = dropV (c.l.take (k + 1)) t; exact ⟨hk, by rw [hdt, if_neg hne, hqe]⟩) (by first | omega | (simp; done) | (simp; omega)) (LE0 rfl) (fun _ h => h) (fun _ h => h) ?_ ?_)); (focus ((try dsimp only); exact wkl)); (focus ((try dsimp only); exact wkh))
      ·have hne : y.t = t := by simpa using hc
       (refine no_implicit_lambda% (k_loopLT (((q, k + 1) : List Ve × Nat)) 0 (List.range 90) (by show k + 1 ≤ c.l.length ∧ q = dropV (c.l.take (k + 1)) t; exact ⟨hk, by rw [hdt, if_pos hne, hqe]; simp⟩) (by first | omega | (simp; done) | (simp; omega)) (LE0 rfl) (fun _ h => h) (fun _ h => h) ?_ ?_)); (focus ((try dsimp only); exact wkl)); (focus ((try dsimp only); exact wkh))
   ·first | (exact zI) | (exact zJ)
 ·intro xx H' hh
  obtain ⟨_, _, _, h', _⟩ := hh
  cases h'
end Go.Proofs.YtncffhgoopdfgaaGreat
namespace Go.Proofs.YtncffhgoopdfgaaGreat
open Go.Am
set_option maxRecDepth 100000
def bsS (l : List UInt8) : ByteArray := ⟨l.toArray⟩
structure Rk where
 k : Int
 c : Int
 nm : ByteArray
 t : Int
 tx : Bool
 n : Int
 x : Nat
 b : List UInt8
structure RkOk (a : Rk) : Prop where
 c : -9223372036854775808 ≤ a.c ∧ a.c ≤ 9223372036854775807
 t : -9223372036854775808 ≤ a.t ∧ a.t ≤ 9223372036854775807
 n : -9223372036854775808 ≤ a.n ∧ a.n ≤ 9223372036854775807
 x : a.x < 18446744073709551616
end Go.Proofs.YtncffhgoopdfgaaGreat
namespace Go.Proofs.YtncffhgoopdfgaaGreat
open Go.Am
set_option maxRecDepth 100000
end Go.Proofs.YtncffhgoopdfgaaGreat
namespace Go.Proofs.YtncffhgoopdfgaaGreat
open Go.Am
set_option maxRecDepth 100000
theorem putR_err {r : List Co} {s : ByteArray} {t : Int} {v : Va} (h : (putR r s t v).1 ≠ 0) : (putR r s t v).2 = [] := by
 unfold putR at *
 split at h
 ·split at h
  ·rename_i h1 h2
   rw [if_pos h1, if_pos h2]
  ·exact absurd rfl h
 ·rename_i h1
  rw [if_neg h1]
theorem cmpS_self (s : ByteArray) : cmpS s s = 0 := by
 have h := eq_cb s.toList s.toList
 rw [beq_self_eq_true] at h
 unfold cmpS
 exact of_decide_eq_true h.symm
theorem sLt_self (s : ByteArray) : sLt s s = false := by
 rw [sLt_eq, cmpS_self]
 rfl
theorem hasN_one {s : ByteArray} {l : List Ve} : hasN [⟨s, l⟩] s = true ∧ npos [⟨s, l⟩] s = 0 := by
 have e : npos [⟨s, l⟩] s = 0 := by unfold npos; simp [sLt_self]
 refine ⟨?_, e⟩
 unfold hasN
 rw [e]
 simp [cmpS_self]
theorem put_new {s : ByteArray} {t : Int} {v : Va} (hn : nmB s = true) (ht : tmOk t = true) (hv : vRt v = true) : putR [] s t v = (0, [⟨s, [⟨t, canV v⟩]⟩]) := by
 unfold putR
 rw [hn, ht, hv, if_pos (by rfl)]
 rfl
theorem put_one {s : ByteArray} {l : List Ve} {t : Int} {v : Va} (hF : Fine [⟨s, l⟩]) (hn : nmB s = true) (ht : tmOk t = true) (hv : vRt v = true) : putR [⟨s, l⟩] s t v = (0, [⟨s, putV l ⟨t, canV v⟩⟩]) := by
 obtain ⟨a, b⟩ := hasN_one (s := s) (l := l)
 unfold putR
 rw [hn, ht, hv, if_pos (by rfl), hF.copy, if_neg (by rw [a]; simp)]
 unfold putA
 rw [a, b, if_pos rfl]
 rfl
end Go.Proofs.YtncffhgoopdfgaaGreat
namespace Go.Am
open Go.RowKit Go.ChangeShapes Go.WideShapes
def RowSim (X : Nat → Nat → Option Value) (row : List AV) (cs : List Value) : Prop :=
 row.length = cs.length ∧ ∀ (j : Nat) a y, row[j]? = some a → cs[j]? = some y → SimD X a y ∧ y.oneCell' = true
section
variable {H : Type} (enc : TypeId × Value → H) (P : Program) (w : World) (base : Nat) (sp : Nat → Bool) (held : Bool)
end
section
variable {H : Type} {enc : TypeId × Value → H} {P : Program} {w : World} {base : Nat} {sp : Nat → Bool} {held : Bool}
theorem RowSim.one {X : Nat → Nat → Option Value} {a : AV} {y : Value} (h : SimD X a y) (h1 : y.oneCell' = true) : RowSim X [a] [y] :=
 ⟨rfl, fun j b z hb hz => by
  cases j with
  | zero => simp at hb hz; subst hb; subst hz; exact ⟨h, h1⟩
  | succ j => simp at hb⟩
end
end Go.Am
namespace Go.Am
section
variable {H : Type} {enc : TypeId × Value → H} {P : Program} {w : World} {base : Nat} {sp : Nat → Bool} {held : Bool}
theorem RowSim.agg {G : Ghost} {row : List AV} {cs : Array Value} (h : RowSim G.X row cs.toList) : Sim G (.agg row) (.agg cs) :=
 .agg _ _ (by have := h.1; simpa using this) fun i a ha => by
  have hi : i < cs.size := by
   have := (List.getElem?_eq_some_iff.1 ha).1
   have h1 := h.1
   simp at h1; omega
  have : cs.getD i undef = cs[i] := by simp [hi]
  rw [this]
  exact .data _ _ (h.2 i a cs[i] ha (by simp [hi])).1
end
end Go.Am
namespace Go.Proofs.YtncffhgoopdfgaaGreat
open Go.Am
section
variable {H : Type} {enc : TypeId × Value → H} {w : World} {base : Nat} {sp : Nat → Bool} {held : Bool}
def dvrow (tx : Bool) (n : Int) (x : Nat) (b : List UInt8) : List AV := [.v (.bool tx), .v (.int .i64 n), .v (.float .f64 x), .list (b.map brow) .free]
end
end Go.Proofs.YtncffhgoopdfgaaGreat
namespace Go.Proofs.YtncffhgoopdfgaaGreat
open Go.Am
set_option maxRecDepth 100000
theorem atR_one {s : ByteArray} {x : Ve} {l : List Ve} {t : Int} (hF : Fine [⟨s, x :: l⟩]) : atR [⟨s, x :: l⟩] s t = atL (x :: l) t := by
 obtain ⟨a, b⟩ := hasN_one (s := s) (l := x :: l)
 unfold atR
 rw [hF.copy, a, b, if_pos rfl]
 rfl
theorem atL_hd {x : Ve} {l : List Ve} {t : Int} (h : x.t ≤ t) : atL (x :: l) t = some x.v := by
 unfold atL
 rw [List.find?_cons_of_pos (by simpa using h)]
 rfl
def okV (v : Va) : Prop := v.b.length < 1073741824 ∧ v.n < 18446744073709551616 ∧ vRt v = true
theorem VOk.ok {v : Va} (h : VOk v) : okV v := by
 unfold okV vRt
 rcases h with ⟨h1, h2, h3⟩ | ⟨h1, h2, h3⟩
 ·rw [h1, h2]; exact ⟨by omega, by decide, by simp; omega⟩
 ·rw [h1, h2]; exact ⟨by decide, h3, by simp⟩
structure Dv where
 tx : Bool
 n : Int
 x : Nat
 b : List UInt8
def dvr (a : Dv) : List AV := dvrow a.tx a.n a.x a.b
def DvOk (a : Dv) : Prop := (-9223372036854775808 ≤ a.n ∧ a.n ≤ 9223372036854775807) ∧ a.x < 18446744073709551616
theorem dvmade_c (a : Dv) (h : DvOk a) : ACalls Tryz.prog 19 0 10 [.agg (dvr a)] [] (fun out H' => ∃ v, okV v ∧ out = .ret (vav v) ∧ H' = []) :=
 (vmade_c a.tx a.n a.x a.b h.1.1 h.1.2 h.2).mono fun out H' ⟨v, h1, h2, h3⟩ => ⟨v, h1.ok, h2, h3⟩
end Go.Proofs.YtncffhgoopdfgaaGreat
namespace Go.Proofs.YtncffhgoopdfgaaGreat
open Go.Am
set_option maxRecDepth 100000
end Go.Proofs.YtncffhgoopdfgaaGreat
namespace Go.Proofs.YtncffhgoopdfgaaGreat
open Go.Am
set_option maxRecDepth 100000
structure Ch where
 k : Int
 c : ByteArray
 t : Int
 v : Va
def chrow (x : Ch) : List AV := [.v (.int .i64 x.k), .v (.string x.c), .v (.int .i64 x.t)] ++ vrowV x.v
def rightC (x : Ch) : Int := if x.k < 1 ∨ 5 < x.k then 24 else if x.k = 4 then 0 else if nmB x.c = false then 1 else if x.k = 3 then 0 else if tmOk x.t = false then 1 else if x.k = 2 then 0 else if vRt x.v = false then 1 else if x.k = 5 ∧ x.v.kind ≠ 2 then 24 else 0
set_option maxHeartbeats 3200000 in
theorem refRightC_c (x : Ch) : ACalls Tryz.prog 59 0 50 [.agg (chrow x)] [] (fun out H' => out = .ret (.v (.int .i64 (rightC x))) ∧ H' = []) := by
 have h1 := rname_c x.c
 have h2 : ACalls Tryz.prog 133 0 10 [vav x.v] [] (fun out H' => out = .ret (.v (.bool (vRt x.v))) ∧ H' = []) := refRight_c x.v
 refine no_implicit_lambda% (acalls_of tok dok (f := 59) ⟨Tryz.func59, rfl, by kernel_rfl⟩ ?_); refine no_implicit_lambda% (c_start (fun _ h => h) ?_)
 repeat' (first | (refine no_implicit_lambda% (zH ?_)) | (refine no_implicit_lambda% (spl (fun hc => ?_) (fun hc => ?_)) <;> first | exact zG hc | skip) | (refine no_implicit_lambda% (ans ?_)) | (with_reducible first | exact zI | exact zJ) | (refine no_implicit_lambda% (cal [] (h1) ?_ ?_)) | (refine no_implicit_lambda% (cal [] (h2) ?_ ?_)) | fail)
 all_goals
  refine e_ret (H' := []) (rest := _) rfl ⟨congrArg (fun z => AOut.ret (.v (.int .i64 z))) ?_, rfl⟩ permT (LE0 rfl)
  clear h1 h2
  unfold rightC tmOk
  simp only [decide_eq_true_eq, decide_eq_false_iff_not, beq_iff_eq, beq_eq_false_iff_ne, bne_iff_ne, bne_eq_false_iff_eq, Bool.not_eq_true', Bool.not_eq_false', ne_eq] at *
  repeat' split
  all_goals first | rfl | (exfalso; omega) | (exfalso; simp_all; done) | (exfalso; simp_all; omega)
def ChSz (x : Ch) : Prop := x.v.b.length < 1073741824 ∧ x.v.n < 18446744073709551616
def oldV (o : List Co) (c : ByteArray) : Va := (atR o c 1099511627776).getD ⟨2, [], 9223372036854775808⟩
def stepC (o : List Co) (x : Ch) : Int × List Co :=
 if x.k = 1 then putR o x.c x.t x.v else if x.k = 2 then (0, dropR o x.c x.t) else if x.k = 3 then (0, dcR o x.c) else if x.k = 4 then (0, []) else
 if (plusV (oldV o x.c) x.v).2 ≠ 0 then ((plusV (oldV o x.c) x.v).2, []) else putR o x.c x.t (plusV (oldV o x.c) x.v).1
def foldC : List Co → List Ch → Int × List Co
 | o, [] => (0, o)
 | o, x :: l => if (stepC o x).1 ≠ 0 then ((stepC o x).1, []) else foldC (stepC o x).2 l
def firstE : List Ch → Int
 | [] => 0
 | x :: l => if rightC x ≠ 0 then rightC x else firstE l
def applyR (r : List Co) (l : List Ch) : Int × List Co := if 8 < l.length then (3, []) else if firstE l ≠ 0 then (firstE l, []) else foldC (copyR r) l
theorem sumC_lt (a b : Nat) : sumC a b < 18446744073709551616 := by
 unfold sumC
 split
 ·rename_i r hr
  exact canonB_lt (add_lt hr)
 ·decide
theorem plusV_sz (a b : Va) : (plusV a b).1.b.length < 1073741824 ∧ (plusV a b).1.n < 18446744073709551616 := by
 unfold plusV
 split
 ·exact ⟨by simp, sumC_lt _ _⟩
 ·exact ⟨by simp, by decide⟩
theorem fine_nil : Fine [] := copy_fine []
theorem sz_nil : RowSz [] := fun c hc => by cases hc
theorem stepC_err {o : List Co} {x : Ch} (h : (stepC o x).1 ≠ 0) : (stepC o x).2 = [] := by
 unfold stepC at *
 repeat' split at h
 all_goals first | (exact absurd rfl h) | skip
 ·rename_i h1
  rw [if_pos h1]; exact putR_err h
 ·rename_i h1 h2 h3 h4 h5
  rw [if_neg h1, if_neg h2, if_neg h3, if_neg h4, if_pos h5]
 ·rename_i h1 h2 h3 h4 h5
  rw [if_neg h1, if_neg h2, if_neg h3, if_neg h4, if_neg h5]; exact putR_err h
theorem stepC_fine {o : List Co} (hF : Fine o) (x : Ch) : Fine (stepC o x).2 := by
 unfold stepC
 repeat' split
 all_goals first | exact putR_fine _ _ _ _ | exact dropA_fine (copy_fine o) _ _ | exact dc_fine o _ | exact fine_nil
theorem stepC_sw {o : List Co} (hz : RowSz o) {x : Ch} (hx : x.k = 1 → VSw x.v) : RowSz (stepC o x).2 := by
 unfold stepC
 repeat' split
 all_goals first | exact putR_sw hz (hx (by assumption)) | exact dropA_sz (copy_sz hz) _ _ | exact dc_sz hz | exact sz_nil | exact putR_sz hz (plusV_sz _ _)
theorem stepC_sz {o : List Co} (hz : RowSz o) {x : Ch} (hx : ChSz x) : RowSz (stepC o x).2 := stepC_sw hz fun _ => ⟨fun _ => hx.1, hx.2⟩
def apSt (l : List Ch) (R : List Co) (i : Nat) : ASt := ⟨([.dead, .list (l.map chrow) .free, .ptr 0 0, .dead, .ptr 1 0, .dead, .v (.int .i64 i)] ++ List.replicate 111 .dead), [(0, .box [.list (R.map corow) .free]), (1, .box [.list [] .full])], 2⟩
def aqSt (l : List Ch) (o : List Co) (i : Nat) : ASt := ⟨([.dead, .list (l.map chrow) .free, .dead, .dead, .ptr 1 0, .dead, .dead, .dead, .ptr 2 0, .v (.int .i64 i)] ++ List.replicate 108 .dead), [(1, .box [.list [] .full]), (2, .box [.list (o.map corow) .free])], 3⟩
theorem chx {l : List Ch} {i : Nat} {t : Ch} (h : l[i]? = some t) : 0 ≤ (i : Int) ∧ (l.map chrow)[(i : Int).toNat]? = some (chrow t) ∧ (chrow t).length = 6 := ⟨Int.natCast_nonneg _, by rw [Int.toNat_natCast, List.getElem?_map, h]; rfl, rfl⟩
theorem firstE_at {l : List Ch} {i : Nat} {x : Ch} (h : l[i]? = some x) : firstE (l.drop i) = if rightC x ≠ 0 then rightC x else firstE (l.drop (i + 1)) := by
 obtain ⟨hi, rfl⟩ := List.getElem?_eq_some_iff.1 h
 rw [List.drop_eq_getElem_cons hi]; rfl
theorem foldC_at {o : List Co} {l : List Ch} {i : Nat} {x : Ch} (h : l[i]? = some x) : foldC o (l.drop i) = if (stepC o x).1 ≠ 0 then ((stepC o x).1, []) else foldC (stepC o x).2 (l.drop (i + 1)) := by
 obtain ⟨hi, rfl⟩ := List.getElem?_eq_some_iff.1 h
 rw [List.drop_eq_getElem_cons hi]; rfl
theorem firstE_ok : ∀ {l : List Ch}, firstE l = 0 → ∀ x ∈ l, rightC x = 0
 | y :: l, h, x, hm => by
  unfold firstE at h
  split at h
  ·exact absurd h (by assumption)
  ·rename_i h1
   rcases List.mem_cons.1 hm with rfl | hm
   ·simpa using h1
   ·exact firstE_ok h x hm
theorem rightC_kind {x : Ch} (h : rightC x = 0) : 1 ≤ x.k ∧ x.k ≤ 5 := by
 unfold rightC at h
 split at h
 ·cases h
 ·omega
theorem rightC_sw {x : Ch} (h : rightC x = 0) (hn : x.v.n < 18446744073709551616) (hk : x.k = 1) : VSw x.v := by
 refine ⟨fun h1 => ?_, hn⟩
 have hv : vRt x.v = true := by
  rcases hb : vRt x.v with _ | _
  ·unfold rightC at h
   rw [hb] at h
   repeat' split at h
   all_goals first | omega | (simp at h; done) | (simp at *; done)
  ·rfl
 unfold vRt at hv
 simp only [Bool.or_eq_true, Bool.and_eq_true, beq_iff_eq, decide_eq_true_eq] at hv
 omega
set_option maxHeartbeats 6400000 in
theorem refApply_w (r : List Co) (l : List Ch) (hr : r.length < 70368744177664) (hz : RowSz r) (hl : ∀ x ∈ l, x.v.n < 18446744073709551616) (hll : l.length < 1000000) : ACalls Tryz.prog 17 0 500000 [rowA r, .list (l.map chrow) .free] [] (PutRR (applyR r l)) := by
 have hcp := qcopy_f r hr hz
 have hlm : ((l.map chrow).length : Int) = l.length := by rw [List.length_map]
 refine no_implicit_lambda% (acalls_of tok dok (f := 17) ⟨Tryz.func17, rfl, by kernel_rfl⟩ ?_); refine no_implicit_lambda% (c_start (fun _ h => h) ?_)
 repeat' (first | (refine no_implicit_lambda% (zH ?_)) | (refine no_implicit_lambda% (spl (fun hc => ?_) (fun hc => ?_)) <;> first | exact zG hc | skip) | (refine no_implicit_lambda% (ans ?_)) | (with_reducible first | exact zI | exact zJ))
 ·have : applyR r l = (3, []) := by unfold applyR; rw [if_pos (by have := of_decide_eq_true hc; omega)]
  rw [this]
  refine e_ret_to (H' := []) (rest := _) (Conv.toT (τ := ⟨_, [(1, .box [.list [] .free])], _⟩) (.refl _) ?_ (Nat.le_refl _)) rfl ⟨rfl, rfl⟩ (.of_eq rfl) (LE0 rfl)
  exact wkh
 ·have hl8 : ¬ 8 < l.length := by have := of_decide_eq_false hc; omega
  refine c_loop' (apSt l r) (fun i => i ≤ l.length ∧ firstE l = firstE (l.drop i)) (fun i => l.length - i) (a := 0) ⟨Nat.zero_le _, rfl⟩ ?_ ?_
  ·(refine no_implicit_lambda% (Conv.toT ?_ ?_ (LE0 rfl))); (focus ((unfold apSt); (try dsimp only); exact wkl)); (focus ((unfold apSt); (try dsimp only); exact wkh))
  ·rintro i ⟨i1, i2⟩
   refine c_turn (n' := 2) (fun _ h => h) (fun _ h => h) rfl ?_
   rcases hx : l[i]? with _ | x
   ·have hi : i = l.length := by have := List.getElem?_eq_none_iff.1 hx; omega
    have hf0 : firstE l = 0 := by rw [i2, hi, List.drop_length]; rfl
    have hap : applyR r l = foldC (copyR r) l := by unfold applyR; rw [if_neg hl8, if_neg (by simp [hf0])]
    rw [hap]
    have hco := copy_fine r
    have hcz := copy_sz hz
    generalize copyR r = o0 at *
    repeat' (first | (refine no_implicit_lambda% (zH ?_)) | (refine no_implicit_lambda% (spl (fun hc => ?_) (fun hc => ?_)) <;> first | exact zG hc | skip) | (refine no_implicit_lambda% (ans ?_)) | (with_reducible first | exact zI | exact zJ) | (refine no_implicit_lambda% (cal [] (hcp) ?_ ?_)) | fail)
    refine c_loop2 (aqSt l) (fun o i => i ≤ l.length ∧ Fine o ∧ RowSz o ∧ foldC o0 l = foldC o (l.drop i)) (fun _ i => l.length - i) o0 0 ⟨Nat.zero_le _, hco, hcz, rfl⟩ ?_ ?_
    ·(refine no_implicit_lambda% (Conv.toT ?_ ?_ (LE0 rfl))); (focus ((unfold aqSt); (try dsimp only); exact wkl)); (focus ((unfold aqSt); (try dsimp only); exact wkh))
    ·rintro o j ⟨j1, hF, hzo, j2⟩
     have ho4 := hF.len
     have hor : o.length < 70368744177664 := by omega
     refine c_turn (n' := 3) (fun _ h => h) (fun _ h => h) rfl ?_
     rcases hy : l[j]? with _ | x
     ·have hj : j = l.length := by have := List.getElem?_eq_none_iff.1 hy; omega
      rw [j2, hj, List.drop_length]
      repeat' (first | (refine no_implicit_lambda% (zH ?_)) | (refine no_implicit_lambda% (spl (fun hc => ?_) (fun hc => ?_)) <;> first | exact zG hc | skip) | (refine no_implicit_lambda% (ans ?_)) | (with_reducible first | exact zI | exact zJ))
      exact e_ret (H' := []) (rest := _) rfl ⟨rfl, rfl⟩ permT (LE0 rfl)
     ·have hj : j < l.length := (List.getElem?_eq_some_iff.1 hy).1
      have hix := chx hy
      have hxz := rightC_sw (firstE_ok hf0 x (List.mem_of_getElem? hy)) (hl x (List.mem_of_getElem? hy))
      have hkd := rightC_kind (firstE_ok hf0 x (List.mem_of_getElem? hy))
      have hfa := foldC_at (o := o) hy
      have hsf := stepC_fine hF x
      have hsz := stepC_sw hzo hxz
      have hse := stepC_err (o := o) (x := x)
      rw [hfa] at j2
      have p2 := qdrop_c o x.c x.t hor hzo
      have p3 := qdropcol_c o x.c hor hzo
      have hkk : x.k = 1 ∨ x.k = 2 ∨ x.k = 3 ∨ x.k = 4 ∨ x.k = 5 := by omega
      rcases hkk with hk | hk | hk | hk | hk
      ·have p1 := qput_w o x.c x.t x.v hor hzo (hxz hk)
       have hs : stepC o x = putR o x.c x.t x.v := by unfold stepC; rw [if_pos hk]
       rw [← hs] at p1
       unfold PutRR at p1
       generalize stepC o x = Q at *
       obtain ⟨e, X⟩ := Q
       repeat' (first | (refine no_implicit_lambda% (zH ?_)) | (refine no_implicit_lambda% (spl (fun hc => ?_) (fun hc => ?_)) <;> first | exact zG hc | skip) | (refine no_implicit_lambda% (ans ?_)) | (with_reducible first | exact zI | exact zJ) | (refine no_implicit_lambda% (cal [] (p1) ?_ ?_)) | fail)
       ·have he : e ≠ 0 := by simpa using hc
        rw [j2, if_pos he]
        refine e_ret_to (H' := []) (rest := _) (Conv.toT (τ := ⟨_, [(1, .box [.list [] .free])], _⟩) (.refl _) ?_ (Nat.le_refl _)) rfl ⟨rfl, rfl⟩ (.of_eq rfl) (LE0 rfl)
        exact wkh
       ·have he : e = 0 := by simpa using hc
        rw [if_neg (by simp [he])] at j2
        (refine no_implicit_lambda% (k_loopLT (((X, j + 1) : List Co × Nat)) 0 [0, 1, 2] (by show j + 1 ≤ l.length ∧ Fine X ∧ RowSz X ∧ foldC o0 l = foldC X (l.drop (j + 1)); exact ⟨hj, hsf, hsz, j2⟩) (by first | omega | (simp; done) | (simp; omega)) (LE0 rfl) (fun _ h => h) (fun _ h => h) ?_ ?_)); (focus ((try dsimp only); exact wkl)); (focus ((try dsimp only); exact wkh))
      ·have hs : stepC o x = (0, dropR o x.c x.t) := by unfold stepC; rw [if_neg (by omega), if_pos hk]
       rw [hs] at hsf hsz j2
       rw [if_neg (by simp)] at j2
       repeat' (first | (refine no_implicit_lambda% (zH ?_)) | (refine no_implicit_lambda% (spl (fun hc => ?_) (fun hc => ?_)) <;> first | exact zG hc | skip) | (refine no_implicit_lambda% (ans ?_)) | (with_reducible first | exact zI | exact zJ) | (refine no_implicit_lambda% (cal [] (p2) ?_ ?_)) | fail)
       (refine no_implicit_lambda% (k_loopLT (((dropR o x.c x.t, j + 1) : List Co × Nat)) 0 [0, 1, 2] (by show j + 1 ≤ l.length ∧ Fine (dropR o x.c x.t) ∧ RowSz (dropR o x.c x.t) ∧ foldC o0 l = foldC (dropR o x.c x.t) (l.drop (j + 1)); exact ⟨hj, hsf, hsz, j2⟩) (by first | omega | (simp; done) | (simp; omega)) (LE0 rfl) (fun _ h => h) (fun _ h => h) ?_ ?_)); (focus ((try dsimp only); exact wkl)); (focus ((try dsimp only); exact wkh))
      ·have hs : stepC o x = (0, dcR o x.c) := by unfold stepC; rw [if_neg (by omega), if_neg (by omega), if_pos hk]
       rw [hs] at hsf hsz j2
       rw [if_neg (by simp)] at j2
       repeat' (first | (refine no_implicit_lambda% (zH ?_)) | (refine no_implicit_lambda% (spl (fun hc => ?_) (fun hc => ?_)) <;> first | exact zG hc | skip) | (refine no_implicit_lambda% (ans ?_)) | (with_reducible first | exact zI | exact zJ) | (refine no_implicit_lambda% (cal [] (p3) ?_ ?_)) | fail)
       (refine no_implicit_lambda% (k_loopLT (((dcR o x.c, j + 1) : List Co × Nat)) 0 [0, 1, 2] (by show j + 1 ≤ l.length ∧ Fine (dcR o x.c) ∧ RowSz (dcR o x.c) ∧ foldC o0 l = foldC (dcR o x.c) (l.drop (j + 1)); exact ⟨hj, hsf, hsz, j2⟩) (by first | omega | (simp; done) | (simp; omega)) (LE0 rfl) (fun _ h => h) (fun _ h => h) ?_ ?_)); (focus ((try dsimp only); exact wkl)); (focus ((try dsimp only); exact wkh))
      ·have hs : stepC o x = (0, []) := by unfold stepC; rw [if_neg (by omega), if_neg (by omega), if_neg (by omega), if_pos hk]
       rw [hs] at hsf hsz j2
       rw [if_neg (by simp)] at j2
       repeat' (first | (refine no_implicit_lambda% (zH ?_)) | (refine no_implicit_lambda% (spl (fun hc => ?_) (fun hc => ?_)) <;> first | exact zG hc | skip) | (refine no_implicit_lambda% (ans ?_)) | (with_reducible first | exact zI | exact zJ))
       (refine no_implicit_lambda% (k_loopLT ((([], j + 1) : List Co × Nat)) 0 [0, 1, 2] (by show j + 1 ≤ l.length ∧ Fine [] ∧ RowSz [] ∧ foldC o0 l = foldC [] (l.drop (j + 1)); exact ⟨hj, hsf, hsz, j2⟩) (by first | omega | (simp; done) | (simp; omega)) (LE0 rfl) (fun _ h => h) (fun _ h => h) ?_ ?_)); (focus ((try dsimp only); exact wkl)); (focus ((try dsimp only); exact wkh))
      ·have hs : stepC o x = if (plusV (oldV o x.c) x.v).2 ≠ 0 then ((plusV (oldV o x.c) x.v).2, []) else putR o x.c x.t (plusV (oldV o x.c) x.v).1 := by unfold stepC; rw [if_neg (by omega), if_neg (by omega), if_neg (by omega), if_neg (by omega)]
       have p4 := qnewest_c o x.c hor hzo
       have p5 := refPlus_c (oldV o x.c) x.v
       have p6 := qput_c o x.c x.t (plusV (oldV o x.c) x.v).1 hor hzo (plusV_sz _ _)
       have p7 := csign_c
       unfold PutRR at p6
       have hold : oldV o x.c = (atR o x.c 1099511627776).getD ⟨2, [], 9223372036854775808⟩ := rfl
       generalize stepC o x = S at *
       generalize plusV (oldV o x.c) x.v = W at *
       generalize putR o x.c x.t W.1 = Q at *
       obtain ⟨w, f⟩ := W
       obtain ⟨e, X⟩ := Q
       rcases hat : atR o x.c 1099511627776 with _ | ov
       ·rw [hat] at hold p4
        rw [hold] at p5
        unfold optA at p4
        repeat' (first | (refine no_implicit_lambda% (zH ?_)) | (refine no_implicit_lambda% (spl (fun hc => ?_) (fun hc => ?_)) <;> first | exact zG hc | skip) | (refine no_implicit_lambda% (ans ?_)) | (with_reducible first | exact zI | exact zJ) | (refine no_implicit_lambda% (cal [] (p4) ?_ ?_)) | (refine no_implicit_lambda% (cal [] (p7) ?_ ?_)) | fail)
        (refine no_implicit_lambda% (calw [] (p5) ?_ ?_))
        rotate_left
        ·first | (exact zI) | (exact zJ)
        refine no_implicit_lambda% (ret1 ?_); first | (refine no_implicit_lambda% (akc ?_)) | (refine no_implicit_lambda% (aec ?_))
        repeat' (first | (refine no_implicit_lambda% (zH ?_)) | (refine no_implicit_lambda% (spl (fun hc => ?_) (fun hc => ?_)) <;> first | exact zG hc | skip) | (refine no_implicit_lambda% (ans ?_)) | (with_reducible first | exact zI | exact zJ) | (refine no_implicit_lambda% (cal [] (p6) ?_ ?_)) | fail)
        ·have he : f ≠ 0 := by simpa using hc
         rw [if_pos he] at hs
         rw [hs] at j2
         rw [j2, if_pos he]
         refine e_ret_to (H' := []) (rest := _) (Conv.toT (τ := ⟨_, [(1, .box [.list [] .free])], _⟩) (.refl _) ?_ (Nat.le_refl _)) rfl ⟨rfl, rfl⟩ (.of_eq rfl) (LE0 rfl)
         exact wkh
        ·rename_i hc0
         have hf0 : f = 0 := by simpa using hc0
         have he : e ≠ 0 := by simpa using hc
         rw [if_neg (by simp [hf0])] at hs
         rw [hs] at j2
         rw [j2, if_pos he]
         refine e_ret_to (H' := []) (rest := _) (Conv.toT (τ := ⟨_, [(1, .box [.list [] .free])], _⟩) (.refl _) ?_ (Nat.le_refl _)) rfl ⟨rfl, rfl⟩ (.of_eq rfl) (LE0 rfl)
         exact wkh
        ·rename_i hc0
         have hf0 : f = 0 := by simpa using hc0
         have he : e = 0 := by simpa using hc
         rw [if_neg (by simp [hf0])] at hs
         rw [hs] at j2 hsf hsz
         rw [if_neg (by simp [he])] at j2
         (refine no_implicit_lambda% (k_loopLT (((X, j + 1) : List Co × Nat)) 0 [0, 1, 2] (by show j + 1 ≤ l.length ∧ Fine X ∧ RowSz X ∧ foldC o0 l = foldC X (l.drop (j + 1)); exact ⟨hj, hsf, hsz, j2⟩) (by first | omega | (simp; done) | (simp; omega)) (LE0 rfl) (fun _ h => h) (fun _ h => h) ?_ ?_)); (focus ((try dsimp only); exact wkl)); (focus ((try dsimp only); exact wkh))
       ·rw [hat] at hold p4
        rw [hold] at p5
        unfold optA at p4
        repeat' (first | (refine no_implicit_lambda% (zH ?_)) | (refine no_implicit_lambda% (spl (fun hc => ?_) (fun hc => ?_)) <;> first | exact zG hc | skip) | (refine no_implicit_lambda% (ans ?_)) | (with_reducible first | exact zI | exact zJ) | (refine no_implicit_lambda% (cal [] (p4) ?_ ?_)) | (refine no_implicit_lambda% (cal [] (p5) ?_ ?_)) | (refine no_implicit_lambda% (cal [] (p6) ?_ ?_)) | fail)
        ·have he : f ≠ 0 := by simpa using hc
         rw [if_pos he] at hs
         rw [hs] at j2
         rw [j2, if_pos he]
         refine e_ret_to (H' := []) (rest := _) (Conv.toT (τ := ⟨_, [(1, .box [.list [] .free])], _⟩) (.refl _) ?_ (Nat.le_refl _)) rfl ⟨rfl, rfl⟩ (.of_eq rfl) (LE0 rfl)
         exact wkh
        ·rename_i hc0
         have hf0 : f = 0 := by simpa using hc0
         have he : e ≠ 0 := by simpa using hc
         rw [if_neg (by simp [hf0])] at hs
         rw [hs] at j2
         rw [j2, if_pos he]
         refine e_ret_to (H' := []) (rest := _) (Conv.toT (τ := ⟨_, [(1, .box [.list [] .free])], _⟩) (.refl _) ?_ (Nat.le_refl _)) rfl ⟨rfl, rfl⟩ (.of_eq rfl) (LE0 rfl)
         exact wkh
        ·rename_i hc0
         have hf0 : f = 0 := by simpa using hc0
         have he : e = 0 := by simpa using hc
         rw [if_neg (by simp [hf0])] at hs
         rw [hs] at j2 hsf hsz
         rw [if_neg (by simp [he])] at j2
         (refine no_implicit_lambda% (k_loopLT (((X, j + 1) : List Co × Nat)) 0 [0, 1, 2] (by show j + 1 ≤ l.length ∧ Fine X ∧ RowSz X ∧ foldC o0 l = foldC X (l.drop (j + 1)); exact ⟨hj, hsf, hsz, j2⟩) (by first | omega | (simp; done) | (simp; omega)) (LE0 rfl) (fun _ h => h) (fun _ h => h) ?_ ?_)); (focus ((try dsimp only); exact wkl)); (focus ((try dsimp only); exact wkh))
   ·have hi : i < l.length := (List.getElem?_eq_some_iff.1 hx).1
    have hix := chx hx
    have hrx := refRightC_c x
    rw [firstE_at hx] at i2
    repeat' (first | (refine no_implicit_lambda% (zH ?_)) | (refine no_implicit_lambda% (spl (fun hc => ?_) (fun hc => ?_)) <;> first | exact zG hc | skip) | (refine no_implicit_lambda% (ans ?_)) | (with_reducible first | exact zI | exact zJ) | (refine no_implicit_lambda% (cal [] (hrx) ?_ ?_)) | fail)
    ·have he : rightC x ≠ 0 := by simpa using hc
     have hap : applyR r l = (rightC x, []) := by
      unfold applyR
      rw [if_neg hl8, i2, if_pos he, if_pos he]
     rw [hap]
     refine e_ret_to (H' := []) (rest := _) (Conv.toT (τ := ⟨_, [(1, .box [.list [] .free])], _⟩) (.refl _) ?_ (Nat.le_refl _)) rfl ⟨rfl, rfl⟩ (.of_eq rfl) (LE0 rfl)
     exact wkh
    ·have he : rightC x = 0 := by simpa using hc
     rw [if_neg (by simp [he])] at i2
     (refine no_implicit_lambda% (k_loopLT (i + 1) 0 [0, 1] (by show i + 1 ≤ l.length ∧ firstE l = firstE (l.drop (i + 1)); exact ⟨hi, i2⟩) (by first | omega | (simp; done) | (simp; omega)) (LE0 rfl) (fun _ h => h) (fun _ h => h) ?_ ?_)); (focus ((try dsimp only); exact wkl)); (focus ((try dsimp only); exact wkh))
end Go.Proofs.YtncffhgoopdfgaaGreat
namespace Go.Proofs.YtncffhgoopdfgaaGreat
open Go.Am
set_option maxRecDepth 100000
structure Cw where
 k : Int
 c : Int
 t : Int
 v : Dv
structure CwOk (a : Cw) : Prop where
 k : -9223372036854775808 ≤ a.k ∧ a.k ≤ 9223372036854775807
 c : -9223372036854775808 ≤ a.c ∧ a.c ≤ 9223372036854775807
 t : -9223372036854775808 ≤ a.t ∧ a.t ≤ 9223372036854775807
 v : DvOk a.v
end Go.Proofs.YtncffhgoopdfgaaGreat
