/- Part 5 of what the laws RowsNumbers rest on: RwW, RwX, RwY, RwM, RwZ, RxA, AmOp, Vd, RxC, RxD, ChA, ChB, RtA, RtB, RtC, RtD, RtE, RtF, RtG. -/
import Derived.Test.YtjepgbpcpcahgaaP4
import Derived.ChangeSlices
import Derived.ShutString
namespace Go.Proofs.Ytjepgbpcpcahgaa
open Go.Am
set_option linter.unusedSimpArgs false
set_option linter.unusedVariables false
set_option maxRecDepth 100000
theorem qcopy_n (r : List Co) (hr : r.length < 70368744177664) (hs : RowSz r) : ACalls Try.prog 71 0 1 [rowA r] [] (CN (copyR r)) :=
  (qcopy_s r hr hs).ren (Nat.zero_le _) fun out H' hh => by
    obtain ⟨id, cp, h0, h1, h2, rfl, rfl⟩ := hh
    refine ⟨[id], .ret (.agg [.arr 0 0 (copyR r).length cp]), [(0, .seq ((copyR r).map corow) ((cp - (copyR r).length) * 2))], by simp, (fun i h => by simp at h; omega), (fun i h => absurd h (Nat.not_lt_zero i)), Nat.le_refl _, ?_, ?_, cp, h1, h2, rfl, rfl⟩
    · simp [AOut.ren, AV.ren, AV.renL, rn]
    · simp [renH, Res.ren, rn]
theorem qfind_o (o : List Co) (s : ByteArray) (cp : Nat) (hl : o.length < 1000000) (hs : Nsort o) : ACalls Try.prog 72 1 1 [.agg [.arr 0 0 o.length cp], .v (.string s)] [(0, .seq (o.map corow) ((cp - o.length) * 2))] (fun out H' => out = .ret (.tuple [.v (.int .i64 (npos o s)), .v (.bool (hasN o s))]) ∧ H' = [(0, .seq (o.map corow) ((cp - o.length) * 2))]) :=
  ((qfind_f o s hl hs).borrow (k := 1) (top := 1) (args := [.agg [.arr 0 0 o.length cp], .v (.string s)]) (H := [(0, .seq (o.map corow) ((cp - o.length) * 2))]) rfl (fun out H' hh => by obtain ⟨rfl, rfl⟩ := hh; rfl) (fun i a' ha => by
    match i with
    | 0 =>
      simp at ha; subst ha
      refine ⟨_, rfl, .agg rfl fun j b hb => ?_⟩
      match j with
      | 0 =>
        simp at hb; subst hb
        exact ⟨_, rfl, .seq (k := (cp - o.length) * 2) (by simp) (coOk o) (by simp)⟩
      | j + 1 => simp at hb
    | 1 =>
      simp at ha; subst ha
      exact ⟨_, rfl, .data rfl⟩
    | i + 2 => simp at ha)).mono fun out H' hh => by
      obtain ⟨⟨_, h1, _⟩, h2⟩ := hh
      exact ⟨h1, h2⟩
theorem ins_eq2 {l : List Ve} {x : Ve} {j : Nat} (hs : Vsort l) (h1 : ∀ y ∈ l.take j, x.t < y.t) (h2 : ∀ y, l[j]? = some y → ¬ x.t < y.t) : l.take j ++ x :: dropV (l.drop j) x.t = insV l x := by
  have hB : ∀ y ∈ l.drop j, y.t ≤ x.t := fun y hy => by
    obtain ⟨i, hi⟩ := List.getElem?_of_mem hy
    rw [List.getElem?_drop] at hi
    obtain ⟨z, hz⟩ : ∃ z, l[j]? = some z := ⟨_, List.getElem?_eq_getElem (by have := (List.getElem?_eq_some_iff.1 hi).1; omega)⟩
    have hz1 := h2 z hz
    rcases Nat.eq_zero_or_pos i with rfl | h0
    · rw [Nat.add_zero, hz] at hi
      cases hi; omega
    · have := List.pairwise_iff_getElem.1 hs j (j + i) (List.getElem?_eq_some_iff.1 hz).1 (List.getElem?_eq_some_iff.1 hi).1 (by omega)
      rw [(List.getElem?_eq_some_iff.1 hz).2, (List.getElem?_eq_some_iff.1 hi).2] at this
      omega
  have e1 : l.filter (fun y => decide (x.t < y.t)) = l.take j := by
    conv => lhs; rw [← List.take_append_drop j l]
    rw [List.filter_append, List.filter_eq_self.2 fun y hy => decide_eq_true (h1 y hy), List.filter_eq_nil_iff.2 fun y hy => by have := hB y hy; simp; omega, List.append_nil]
  have e2 : l.filter (fun y => decide (y.t < x.t)) = dropV (l.drop j) x.t := by
    conv => lhs; rw [← List.take_append_drop j l]
    rw [List.filter_append, List.filter_eq_nil_iff.2 fun y hy => by have := h1 y hy; simp; omega, List.nil_append]
    unfold dropV
    exact List.filter_congr fun y hy => decide_eq_decide.2 (by have := hB y hy; omega)
  unfold insV
  rw [e1, e2]
def qtSt (t : Int) (v : Va) (F0 : List Co) (cp i : Nat) : ASt := ⟨([.dead, .dead, .v (.int .i64 t), .dead, .dead, .dead, .dead, .ptr 0 0, .ptr 1 0, .dead, .ptr 2 0, .v (.int .i64 i)] ++ List.replicate 119 .dead), [(0, .box (vrowV v)), (1, .box [.list [] .full]), (2, .box [.arr 3 0 F0.length cp]), (3, .seq (F0.map corow) ((cp - F0.length) * 2))], 4⟩
def q1St (t : Int) (v : Va) (F0 : List Co) (cp i : Nat) (l q : List Ve) (k : Nat) : ASt := ⟨([.dead, .dead, .v (.int .i64 t), .dead, .dead, .dead, .dead, .ptr 0 0, .ptr 1 0, .dead, .ptr 2 0, .v (.int .i64 i), .dead, .list (l.map verow) .free, .list (q.map verow) (.tok 4), .v (.int .i64 k)] ++ List.replicate 115 .dead), [(4, .tok 4 q.length), (0, .box (vrowV v)), (1, .box [.list [] .full]), (2, .box [.arr 3 0 F0.length cp]), (3, .seq (F0.map corow) ((cp - F0.length) * 2))], 90⟩
def q2St (t : Int) (v : Va) (F0 : List Co) (cp i : Nat) (l q : List Ve) (k : Nat) : ASt := ⟨([.dead, .dead, .v (.int .i64 t), .dead, .dead, .dead, .dead, .ptr 0 0, .ptr 1 0, .dead, .ptr 2 0, .v (.int .i64 i), .dead, .list (l.map verow) .free, .list (q.map verow) (.tok 4), .v (.int .i64 k)] ++ List.replicate 115 .dead), [(4, .tok 4 q.length), (0, .box (vrowV v)), (1, .box [.list [] .full]), (2, .box [.arr 3 0 F0.length cp]), (3, .seq (F0.map corow) ((cp - F0.length) * 2))], 100⟩
theorem dropV_take {l : List Ve} {k : Nat} {y : Ve} {t : Int} (h : l[k]? = some y) : dropV (l.take (k + 1)) t = dropV (l.take k) t ++ (if y.t = t then [] else [y]) := by
  rw [List.take_add_one, h]
  exact dropV_snoc _ _ _
def q3St (t : Int) (v : Va) (F0 : List Co) (cp i : Nat) (q : List Ve) : ASt := ⟨(List.replicate 8 .dead ++ [.ptr 1 0, .dead, .ptr 2 0, .v (.int .i64 i), .dead, .dead, .list (q.map verow) .free] ++ List.replicate 116 .dead), [(1, .box [.list [] .full]), (2, .box [.arr 3 0 F0.length cp]), (3, .seq (F0.map corow) ((cp - F0.length) * 2))], 200⟩
set_option maxHeartbeats 3200000 in
theorem qput_rest (t : Int) (v : Va) (hv : v.b.length < 1073741824 ∧ v.n < 18446744073709551616) (R : AOut → Heap → Prop) (F F0 : List Co) (cp i : Nat) (c : Co) (hR : ∀ out H', putQ F out H' → R out H') (h4 : F0.length ≤ 4) (hFc : F0[i]? = some c) (hvs : Vsort c.l) (hl2 : c.l.length ≤ 2) (h1 : F0.length ≤ cp) (h2 : cp ≤ maxLen) (hF : F0.set i (putC c ⟨t, canV v⟩) = F) :
    acode Try.prog TT { run := DD, low := fun N => 0 ≤ N } (seqTail 5 (Try.f34.body.getD .skip)) (qtSt t v F0 cp i).slots (qtSt t v F0 cp i).L (qtSt t v F0 cp i).next (aend Try.prog TT (Try.f34.results.toList) 9000 R) := by
  have hi : i < F0.length := (List.getElem?_eq_some_iff.1 hFc).1
  have hcn := refCanon_c v (by omega) hv.2
  refine c_turn (n' := 4) (fun _ h => h) (fun _ h => h) rfl ?_
  refine c_seq ?_
  repeat' (first | (refine no_implicit_lambda% (awd1 ?_)) | (((with_reducible refine no_implicit_lambda% (is_aops ?_)); refine no_implicit_lambda% (o_split rfl rfl rfl (fun hc => ?_) (fun hc => ?_)) <;> first | exact decx hc | rw [hc])) | (((with_reducible refine no_implicit_lambda% (is_cond ?_)); refine no_implicit_lambda% (c_cond rfl (fun hc => ?_) (fun hc => ?_)) <;> first | exact decx hc | skip)) | (((with_reducible refine no_implicit_lambda% (is_aop ?_)); refine no_implicit_lambda% (a_pick rfl rfl (fun hc => ?_) (fun hc => ?_)) <;> first | exact decx hc | rw [hc])) | (refine no_implicit_lambda% (ans ?_)) | (with_reducible exact retN) | (with_reducible exact retP) | fail | fail)
  ((with_reducible refine no_implicit_lambda% (is_aop ?_)); first | (refine no_implicit_lambda% (a_qS rfl (fun _ h => h) ?_ ?_)) | (refine no_implicit_lambda% (a_qS rfl (qIx (fun _ h => h)) ?_ ?_)) | (refine no_implicit_lambda% (a_qS rfl (qAnd5 (fun _ h => h)) ?_ ?_)) | (refine no_implicit_lambda% (a_qS rfl (qStr (fun _ h => h)) ?_ ?_)) | (refine no_implicit_lambda% (a_qS rfl (qAnd4 (fun _ h => h)) ?_ ?_)) | (refine no_implicit_lambda% (a_qS rfl (qAnd2 (fun _ h => h)) ?_ ?_))); focus (first | omega | (simp; done) | (simp; omega))
  repeat' (first | (refine no_implicit_lambda% (awd1 ?_)) | (((with_reducible refine no_implicit_lambda% (is_aops ?_)); refine no_implicit_lambda% (o_split rfl rfl rfl (fun hc => ?_) (fun hc => ?_)) <;> first | exact decx hc | rw [hc])) | (((with_reducible refine no_implicit_lambda% (is_cond ?_)); refine no_implicit_lambda% (c_cond rfl (fun hc => ?_) (fun hc => ?_)) <;> first | exact decx hc | skip)) | (((with_reducible refine no_implicit_lambda% (is_aop ?_)); refine no_implicit_lambda% (a_pick rfl rfl (fun hc => ?_) (fun hc => ?_)) <;> first | exact decx hc | rw [hc])) | (refine no_implicit_lambda% (ans ?_)) | (with_reducible exact retN) | (with_reducible exact retP) | fail | fail)
  ((with_reducible refine no_implicit_lambda% (is_aop ?_)); refine no_implicit_lambda% (a_loadSeq (sz := 2) (rows := F0.map corow) (i := i) (j := 1) rfl rfl rfl rfl rfl (coOk F0) ((by rw [List.getElem?_map, hFc]; rfl)) rfl (by first | rfl | (simp; done) | (simp; omega)) ?_))
  repeat' (first | (refine no_implicit_lambda% (sx1 ?_)) | (((with_reducible refine no_implicit_lambda% (is_aops ?_)); refine no_implicit_lambda% (o_split rfl rfl rfl (fun hc => ?_) (fun hc => ?_)) <;> first | exact decx hc | rw [hc])) | (((with_reducible refine no_implicit_lambda% (is_cond ?_)); refine no_implicit_lambda% (c_cond rfl (fun hc => ?_) (fun hc => ?_)) <;> first | exact decx hc | skip)) | (((with_reducible refine no_implicit_lambda% (is_aop ?_)); refine no_implicit_lambda% (a_pick rfl rfl (fun hc => ?_) (fun hc => ?_)) <;> first | exact decx hc | rw [hc])) | fail)
  refine k_seq ?_
  repeat' (first | (refine no_implicit_lambda% (sx1 ?_)) | (((with_reducible refine no_implicit_lambda% (is_aops ?_)); refine no_implicit_lambda% (o_split rfl rfl rfl (fun hc => ?_) (fun hc => ?_)) <;> first | exact decx hc | rw [hc])) | (((with_reducible refine no_implicit_lambda% (is_cond ?_)); refine no_implicit_lambda% (c_cond rfl (fun hc => ?_) (fun hc => ?_)) <;> first | exact decx hc | skip)) | (((with_reducible refine no_implicit_lambda% (is_aop ?_)); refine no_implicit_lambda% (a_pick rfl rfl (fun hc => ?_) (fun hc => ?_)) <;> first | exact decx hc | rw [hc])) | fail)
  refine k_seq ?_
  repeat' (first | (refine no_implicit_lambda% (sx1 ?_)) | (((with_reducible refine no_implicit_lambda% (is_aops ?_)); refine no_implicit_lambda% (o_split rfl rfl rfl (fun hc => ?_) (fun hc => ?_)) <;> first | exact decx hc | rw [hc])) | (((with_reducible refine no_implicit_lambda% (is_cond ?_)); refine no_implicit_lambda% (c_cond rfl (fun hc => ?_) (fun hc => ?_)) <;> first | exact decx hc | skip)) | (((with_reducible refine no_implicit_lambda% (is_aop ?_)); refine no_implicit_lambda% (a_pick rfl rfl (fun hc => ?_) (fun hc => ?_)) <;> first | exact decx hc | rw [hc])) | fail)
  refine k_seq ?_
  refine c_seq ?_
  -- behind the first loop
  refine c_cutR (fun j => q1St t v F0 cp i c.l (c.l.take j) j) (fun j => j ≤ c.l.length ∧ c.l.take j ++ ⟨t, canV v⟩ :: dropV (c.l.drop j) t = insV c.l ⟨t, canV v⟩) ?_ ?_
  · rintro j ⟨j1, j2⟩
    refine c_turn (n' := 90) (fun _ h => h) (fun _ h => h) rfl ?_
    have hlj : (c.l.take j).length ≤ 2 := by rw [List.length_take]; omega
    repeat' (first | (refine no_implicit_lambda% (awd1 ?_)) | (((with_reducible refine no_implicit_lambda% (is_aops ?_)); refine no_implicit_lambda% (o_split rfl rfl rfl (fun hc => ?_) (fun hc => ?_)) <;> first | exact decx hc | rw [hc])) | (((with_reducible refine no_implicit_lambda% (is_cond ?_)); refine no_implicit_lambda% (c_cond rfl (fun hc => ?_) (fun hc => ?_)) <;> first | exact decx hc | skip)) | (((with_reducible refine no_implicit_lambda% (is_aop ?_)); refine no_implicit_lambda% (a_pick rfl rfl (fun hc => ?_) (fun hc => ?_)) <;> first | exact decx hc | rw [hc])) | (refine no_implicit_lambda% (ans ?_)) | (with_reducible exact retN) | (with_reducible exact retP) | (refine no_implicit_lambda% (cal [] (hcn) ?_ ?_)) | fail)
    refine c_loop2 (fun q k => q2St t v F0 cp i c.l q k) (fun q k => j ≤ k ∧ k ≤ c.l.length ∧ q = c.l.take j ++ ⟨t, canV v⟩ :: dropV ((c.l.drop j).take (k - j)) t) (fun _ k => c.l.length - k) (c.l.take j ++ [⟨t, canV v⟩]) j ⟨Nat.le_refl _, j1, by simp [dropV]⟩ ?_ ?_
    · (refine no_implicit_lambda% (Conv.toT ?_ ?_ (Nat.le_of_ble_eq_true rfl))); (focus ((unfold q2St); (try dsimp only); exact wkl)); (focus ((unfold q2St); (try dsimp only); exact wkh))
    · rintro q k ⟨k1, k2, hq⟩
      refine c_turn (n' := 100) (fun _ h => h) (fun _ h => h) rfl ?_
      have hdl := dropV_len ((c.l.drop j).take (k - j)) t
      have hql : q.length ≤ 3 := by
        rw [hq, List.length_append, List.length_cons]
        simp only [List.length_take, List.length_drop] at *
        omega
      rcases hy : c.l[k]? with _ | y
      · have hk : k = c.l.length := by have := List.getElem?_eq_none_iff.1 hy; omega
        have hqp : q.take 2 = putV c.l ⟨t, canV v⟩ := by
          unfold putV
          have e : (c.l.drop j).take (c.l.length - j) = c.l.drop j := List.take_of_length_le (by rw [List.length_drop]; omega)
          rw [hq, hk, e, j2]
        repeat' (first | (refine no_implicit_lambda% (sx1 ?_)) | (((with_reducible refine no_implicit_lambda% (is_aops ?_)); refine no_implicit_lambda% (o_split rfl rfl rfl (fun hc => ?_) (fun hc => ?_)) <;> first | exact decx hc | rw [hc])) | (((with_reducible refine no_implicit_lambda% (is_cond ?_)); refine no_implicit_lambda% (c_cond rfl (fun hc => ?_) (fun hc => ?_)) <;> first | exact decx hc | skip)) | (((with_reducible refine no_implicit_lambda% (is_aop ?_)); refine no_implicit_lambda% (a_pick rfl rfl (fun hc => ?_) (fun hc => ?_)) <;> first | exact decx hc | rw [hc])) | fail)
        refine k_seq ?_
        repeat' (first | (refine no_implicit_lambda% (sx1 ?_)) | (((with_reducible refine no_implicit_lambda% (is_aops ?_)); refine no_implicit_lambda% (o_split rfl rfl rfl (fun hc => ?_) (fun hc => ?_)) <;> first | exact decx hc | rw [hc])) | (((with_reducible refine no_implicit_lambda% (is_cond ?_)); refine no_implicit_lambda% (c_cond rfl (fun hc => ?_) (fun hc => ?_)) <;> first | exact decx hc | skip)) | (((with_reducible refine no_implicit_lambda% (is_aop ?_)); refine no_implicit_lambda% (a_pick rfl rfl (fun hc => ?_) (fun hc => ?_)) <;> first | exact decx hc | rw [hc])) | fail)
        refine k_seq ?_
        repeat' (first | (refine no_implicit_lambda% (sx1 ?_)) | (((with_reducible refine no_implicit_lambda% (is_aops ?_)); refine no_implicit_lambda% (o_split rfl rfl rfl (fun hc => ?_) (fun hc => ?_)) <;> first | exact decx hc | rw [hc])) | (((with_reducible refine no_implicit_lambda% (is_cond ?_)); refine no_implicit_lambda% (c_cond rfl (fun hc => ?_) (fun hc => ?_)) <;> first | exact decx hc | skip)) | (((with_reducible refine no_implicit_lambda% (is_aop ?_)); refine no_implicit_lambda% (a_pick rfl rfl (fun hc => ?_) (fun hc => ?_)) <;> first | exact decx hc | rw [hc])) | fail)
        refine k_seq ?_
        refine c_cutR (fun _ : Unit => q3St t v F0 cp i (putV c.l ⟨t, canV v⟩)) (fun _ => True) ?_ ?_
        · rintro _ _
          have hFl : F.length = F0.length := by rw [← hF]; exact List.length_set ..
          refine c_turn (n' := 200) (fun _ h => h) (fun _ h => h) rfl ?_
          repeat' (first | (refine no_implicit_lambda% (awd1 ?_)) | (((with_reducible refine no_implicit_lambda% (is_aops ?_)); refine no_implicit_lambda% (o_split rfl rfl rfl (fun hc => ?_) (fun hc => ?_)) <;> first | exact decx hc | rw [hc])) | (((with_reducible refine no_implicit_lambda% (is_cond ?_)); refine no_implicit_lambda% (c_cond rfl (fun hc => ?_) (fun hc => ?_)) <;> first | exact decx hc | skip)) | (((with_reducible refine no_implicit_lambda% (is_aop ?_)); refine no_implicit_lambda% (a_pick rfl rfl (fun hc => ?_) (fun hc => ?_)) <;> first | exact decx hc | rw [hc])) | (refine no_implicit_lambda% (ans ?_)) | (with_reducible exact retN) | (with_reducible exact retP) | fail | fail)
          ((with_reducible refine no_implicit_lambda% (is_aop ?_)); first | (refine no_implicit_lambda% (a_qS rfl (fun _ h => h) ?_ ?_)) | (refine no_implicit_lambda% (a_qS rfl (qIx (fun _ h => h)) ?_ ?_)) | (refine no_implicit_lambda% (a_qS rfl (qAnd5 (fun _ h => h)) ?_ ?_)) | (refine no_implicit_lambda% (a_qS rfl (qStr (fun _ h => h)) ?_ ?_)) | (refine no_implicit_lambda% (a_qS rfl (qAnd4 (fun _ h => h)) ?_ ?_)) | (refine no_implicit_lambda% (a_qS rfl (qAnd2 (fun _ h => h)) ?_ ?_))); focus (first | omega | (simp; done) | (simp; omega))
          repeat' (first | (refine no_implicit_lambda% (awd1 ?_)) | (((with_reducible refine no_implicit_lambda% (is_aops ?_)); refine no_implicit_lambda% (o_split rfl rfl rfl (fun hc => ?_) (fun hc => ?_)) <;> first | exact decx hc | rw [hc])) | (((with_reducible refine no_implicit_lambda% (is_cond ?_)); refine no_implicit_lambda% (c_cond rfl (fun hc => ?_) (fun hc => ?_)) <;> first | exact decx hc | skip)) | (((with_reducible refine no_implicit_lambda% (is_aop ?_)); refine no_implicit_lambda% (a_pick rfl rfl (fun hc => ?_) (fun hc => ?_)) <;> first | exact decx hc | rw [hc])) | (refine no_implicit_lambda% (ans ?_)) | (with_reducible exact retN) | (with_reducible exact retP) | fail | fail)
          ((with_reducible refine no_implicit_lambda% (is_aop ?_)); refine no_implicit_lambda% (a_storeSeq (sz := 2) (rows := F0.map corow) (i := i) (j := 1) (row' := [.v (.string c.n), .list ((putV c.l ⟨t, canV v⟩).map verow) .free]) rfl rfl rfl (fun _ h => h) rfl rfl (coOk F0) ((by rw [List.getElem?_map, hFc]; rfl)) (by first | decide | (simp; done)) (by first | rfl | (simp; done)) (by first | rfl | (simp; done) | (simp; omega)) ?_))
          rw [show (F0.map corow).set i [.v (.string c.n), .list ((putV c.l ⟨t, canV v⟩).map verow) .free] = F.map corow by rw [← hF, List.map_set]; rfl]
          repeat' (first | (refine no_implicit_lambda% (awd1 ?_)) | (((with_reducible refine no_implicit_lambda% (is_aops ?_)); refine no_implicit_lambda% (o_split rfl rfl rfl (fun hc => ?_) (fun hc => ?_)) <;> first | exact decx hc | rw [hc])) | (((with_reducible refine no_implicit_lambda% (is_cond ?_)); refine no_implicit_lambda% (c_cond rfl (fun hc => ?_) (fun hc => ?_)) <;> first | exact decx hc | skip)) | (((with_reducible refine no_implicit_lambda% (is_aop ?_)); refine no_implicit_lambda% (a_pick rfl rfl (fun hc => ?_) (fun hc => ?_)) <;> first | exact decx hc | rw [hc])) | (refine no_implicit_lambda% (ans ?_)) | (with_reducible exact retN) | (with_reducible exact retP) | fail | fail)
          exact e_ret_to (H' := []) (rest := _) (Conv.freezeBox (j := 0) (id := 3) (bid := 1) (sz := 2) (rows := F.map corow) (k := (cp - F0.length) * 2) (m := F0.length) (cp := cp) (cells := [.arr 3 0 F0.length cp]) (permT (H := [(3, .seq (F.map corow) ((cp - F0.length) * 2)), (1, .box [.arr 3 0 F0.length cp])])) rfl (coOk F) (by rw [List.length_map, hFl])) rfl (hR _ _ ⟨rfl, rfl⟩) (.of_eq (by simp; rfl)) (Nat.le_of_ble_eq_true rfl)
        · intro Kx kN kP kR kE
          repeat' (first | (refine no_implicit_lambda% (awd1 ?_)) | (((with_reducible refine no_implicit_lambda% (is_aops ?_)); refine no_implicit_lambda% (o_split rfl rfl rfl (fun hc => ?_) (fun hc => ?_)) <;> first | exact decx hc | rw [hc])) | (((with_reducible refine no_implicit_lambda% (is_cond ?_)); refine no_implicit_lambda% (c_cond rfl (fun hc => ?_) (fun hc => ?_)) <;> first | exact decx hc | skip)) | (((with_reducible refine no_implicit_lambda% (is_aop ?_)); refine no_implicit_lambda% (a_pick rfl rfl (fun hc => ?_) (fun hc => ?_)) <;> first | exact decx hc | rw [hc])) | (refine no_implicit_lambda% (ans ?_)) | (with_reducible exact retN) | (with_reducible exact retP) | fail | fail)
          · have hq3 : 2 ≤ q.length := by have := of_decide_eq_true hc; rw [List.length_map] at this; omega
            ((with_reducible refine no_implicit_lambda% (is_aop ?_)); first | (refine no_implicit_lambda% (a_qS rfl (fun _ h => h) ?_ ?_)) | (refine no_implicit_lambda% (a_qS rfl (qIx (fun _ h => h)) ?_ ?_)) | (refine no_implicit_lambda% (a_qS rfl (qAnd5 (fun _ h => h)) ?_ ?_)) | (refine no_implicit_lambda% (a_qS rfl (qStr (fun _ h => h)) ?_ ?_)) | (refine no_implicit_lambda% (a_qS rfl (qAnd4 (fun _ h => h)) ?_ ?_)) | (refine no_implicit_lambda% (a_qS rfl (qAnd2 (fun _ h => h)) ?_ ?_))); focus ((repeat' (refine no_implicit_lambda% (And.intro ?_ ?_))) <;> (first | exact trivial | exact (veOk q).len | exact Int.natCast_nonneg _ | omega | (simp; done) | (simp; omega) | ((show (0 : Int) ≤ _); omega)))
            repeat' (first | (refine no_implicit_lambda% (awd1 ?_)) | (((with_reducible refine no_implicit_lambda% (is_aops ?_)); refine no_implicit_lambda% (o_split rfl rfl rfl (fun hc => ?_) (fun hc => ?_)) <;> first | exact decx hc | rw [hc])) | (((with_reducible refine no_implicit_lambda% (is_cond ?_)); refine no_implicit_lambda% (c_cond rfl (fun hc => ?_) (fun hc => ?_)) <;> first | exact decx hc | skip)) | (((with_reducible refine no_implicit_lambda% (is_aop ?_)); refine no_implicit_lambda% (a_pick rfl rfl (fun hc => ?_) (fun hc => ?_)) <;> first | exact decx hc | rw [hc])) | (refine no_implicit_lambda% (ans ?_)) | (with_reducible exact retN) | (with_reducible exact retP) | fail | fail)
            refine kN () _ _ _ trivial (.inl ?_)
            rw [show List.drop 0 (List.take (2 : Int).toNat (q.map verow)) = (putV c.l ⟨t, canV v⟩).map verow by rw [← hqp, List.map_take]; rfl]
            (refine no_implicit_lambda% (Conv.toT ?_ ?_ (Nat.le_of_ble_eq_true rfl))); (focus ((unfold q3St); (try dsimp only); exact wkl)); (focus ((unfold q3St); (try dsimp only); exact wkh))
          · have hq2 : q = putV c.l ⟨t, canV v⟩ := by
              rw [← hqp, List.take_of_length_le]
              have := of_decide_eq_false hc
              rw [List.length_map] at this
              omega
            refine kN () _ _ _ trivial (.inl ?_)
            rw [← hq2]
            (refine no_implicit_lambda% (Conv.toT ?_ ?_ (Nat.le_of_ble_eq_true rfl))); (focus ((unfold q3St); (try dsimp only); exact wkl)); (focus ((unfold q3St); (try dsimp only); exact wkh))
      · have hk : k < c.l.length := (List.getElem?_eq_some_iff.1 hy).1
        have hix := vex hy
        have hdt := dropV_take (t := t) (l := c.l.drop j) (k := k - j) (y := y) (by rw [List.getElem?_drop, show j + (k - j) = k by omega]; exact hy)
        rw [show k - j + 1 = k + 1 - j by omega] at hdt
        repeat' (first | (refine no_implicit_lambda% (awd1 ?_)) | (((with_reducible refine no_implicit_lambda% (is_aops ?_)); refine no_implicit_lambda% (o_split rfl rfl rfl (fun hc => ?_) (fun hc => ?_)) <;> first | exact decx hc | rw [hc])) | (((with_reducible refine no_implicit_lambda% (is_cond ?_)); refine no_implicit_lambda% (c_cond rfl (fun hc => ?_) (fun hc => ?_)) <;> first | exact decx hc | skip)) | (((with_reducible refine no_implicit_lambda% (is_aop ?_)); refine no_implicit_lambda% (a_pick rfl rfl (fun hc => ?_) (fun hc => ?_)) <;> first | exact decx hc | rw [hc])) | (refine no_implicit_lambda% (ans ?_)) | (with_reducible exact retN) | (with_reducible exact retP) | fail | fail)
        · have hne : y.t ≠ t := by simpa using hc
          (refine no_implicit_lambda% (k_loopLT (((q ++ [y], k + 1) : List Ve × Nat)) 0 (List.range 100) (by show j ≤ k + 1 ∧ k + 1 ≤ c.l.length ∧ q ++ [y] = c.l.take j ++ ⟨t, canV v⟩ :: dropV ((c.l.drop j).take (k + 1 - j)) t; exact ⟨by omega, hk, by rw [hdt, if_neg hne, hq]; simp⟩) (by first | omega | (simp; done) | (simp; omega)) (Nat.le_of_ble_eq_true rfl) (fun _ h => h) (fun _ h => h) ?_ ?_)); (focus ((try dsimp only); exact wkl)); (focus ((try dsimp only); exact wkh))
        · have hne : y.t = t := by simpa using hc
          (refine no_implicit_lambda% (k_loopLT (((q, k + 1) : List Ve × Nat)) 0 (List.range 100) (by show j ≤ k + 1 ∧ k + 1 ≤ c.l.length ∧ q = c.l.take j ++ ⟨t, canV v⟩ :: dropV ((c.l.drop j).take (k + 1 - j)) t; exact ⟨by omega, hk, by rw [hdt, if_pos hne, hq]; simp⟩) (by first | omega | (simp; done) | (simp; omega)) (Nat.le_of_ble_eq_true rfl) (fun _ h => h) (fun _ h => h) ?_ ?_)); (focus ((try dsimp only); exact wkl)); (focus ((try dsimp only); exact wkh))
  · intro Kx kN kP kR kE
    repeat' (first | (refine no_implicit_lambda% (awd1 ?_)) | (((with_reducible refine no_implicit_lambda% (is_aops ?_)); refine no_implicit_lambda% (o_split rfl rfl rfl (fun hc => ?_) (fun hc => ?_)) <;> first | exact decx hc | rw [hc])) | (((with_reducible refine no_implicit_lambda% (is_cond ?_)); refine no_implicit_lambda% (c_cond rfl (fun hc => ?_) (fun hc => ?_)) <;> first | exact decx hc | skip)) | (((with_reducible refine no_implicit_lambda% (is_aop ?_)); refine no_implicit_lambda% (a_pick rfl rfl (fun hc => ?_) (fun hc => ?_)) <;> first | exact decx hc | rw [hc])) | (refine no_implicit_lambda% (ans ?_)) | (with_reducible exact retN) | (with_reducible exact retP) | fail | fail)
    refine c_loop2 (fun q j => q1St t v F0 cp i c.l q j) (fun q j => q = c.l.take j ∧ j ≤ c.l.length ∧ ∀ y ∈ c.l.take j, t < y.t) (fun _ j => c.l.length - j) [] 0 ⟨rfl, Nat.zero_le _, by simp⟩ ((Conv.tokSlot (j := 14) (sz := 4) (rows := []) rfl (by simp)).trans ?_) ?_
    · (refine no_implicit_lambda% (Conv.toT ?_ ?_ (Nat.le_of_ble_eq_true rfl))); (focus ((unfold q1St); (try dsimp only); exact wkl)); (focus ((unfold q1St); (try dsimp only); exact wkh))
    · rintro q j ⟨hq, j1, j2⟩
      have hlj : q.length ≤ 2 := by rw [hq, List.length_take]; omega
      refine c_turn (n' := 90) (fun _ h => h) (fun _ h => h) rfl ?_
      rcases hy : c.l[j]? with _ | y
      · have hj : j = c.l.length := by have := List.getElem?_eq_none_iff.1 hy; omega
        repeat' (first | (refine no_implicit_lambda% (awd1 ?_)) | (((with_reducible refine no_implicit_lambda% (is_aops ?_)); refine no_implicit_lambda% (o_split rfl rfl rfl (fun hc => ?_) (fun hc => ?_)) <;> first | exact decx hc | rw [hc])) | (((with_reducible refine no_implicit_lambda% (is_cond ?_)); refine no_implicit_lambda% (c_cond rfl (fun hc => ?_) (fun hc => ?_)) <;> first | exact decx hc | skip)) | (((with_reducible refine no_implicit_lambda% (is_aop ?_)); refine no_implicit_lambda% (a_pick rfl rfl (fun hc => ?_) (fun hc => ?_)) <;> first | exact decx hc | rw [hc])) | (refine no_implicit_lambda% (ans ?_)) | (with_reducible exact retN) | (with_reducible exact retP) | fail | fail)
        refine kN j _ _ _ ⟨j1, ins_eq2 hvs j2 (fun y h => by rw [hy] at h; cases h)⟩ (.inl ?_)
        subst hq
        (refine no_implicit_lambda% (Conv.toT ?_ ?_ (Nat.le_of_ble_eq_true rfl))); (focus ((unfold q1St); (try dsimp only); exact wkl)); (focus ((unfold q1St); (try dsimp only); exact wkh))
      · have hj : j < c.l.length := (List.getElem?_eq_some_iff.1 hy).1
        have hix := vex hy
        have hts : c.l.take (j + 1) = c.l.take j ++ [y] := by rw [List.take_add_one, hy]; rfl
        repeat' (first | (refine no_implicit_lambda% (awd1 ?_)) | (((with_reducible refine no_implicit_lambda% (is_aops ?_)); refine no_implicit_lambda% (o_split rfl rfl rfl (fun hc => ?_) (fun hc => ?_)) <;> first | exact decx hc | rw [hc])) | (((with_reducible refine no_implicit_lambda% (is_cond ?_)); refine no_implicit_lambda% (c_cond rfl (fun hc => ?_) (fun hc => ?_)) <;> first | exact decx hc | skip)) | (((with_reducible refine no_implicit_lambda% (is_aop ?_)); refine no_implicit_lambda% (a_pick rfl rfl (fun hc => ?_) (fun hc => ?_)) <;> first | exact decx hc | rw [hc])) | (refine no_implicit_lambda% (ans ?_)) | (with_reducible exact retN) | (with_reducible exact retP) | fail | fail)
        · (refine no_implicit_lambda% (k_loopLT (((q ++ [y], j + 1) : List Ve × Nat)) 0 (List.range 90) (by show q ++ [y] = c.l.take (j + 1) ∧ j + 1 ≤ c.l.length ∧ ∀ z ∈ c.l.take (j + 1), t < z.t; exact ⟨by rw [hts, hq], hj, by rw [hts]; intro z hz; rcases List.mem_append.1 hz with hz | hz; exact j2 z hz; rw [List.mem_singleton.1 hz]; exact of_decide_eq_true hc⟩) (by first | omega | (simp; done) | (simp; omega)) (Nat.le_of_ble_eq_true rfl) (fun _ h => h) (fun _ h => h) ?_ ?_)); (focus ((try dsimp only); exact wkl)); (focus ((try dsimp only); exact wkh))
        · refine kN j _ _ _ ⟨j1, ins_eq2 hvs j2 (fun z h => by rw [hy] at h; cases h; exact of_decide_eq_false hc)⟩ (.inl ?_)
          subst hq
          (refine no_implicit_lambda% (Conv.toT ?_ ?_ (Nat.le_of_ble_eq_true rfl))); (focus ((unfold q1St); (try dsimp only); exact wkl)); (focus ((unfold q1St); (try dsimp only); exact wkh))
end Go.Proofs.Ytjepgbpcpcahgaa
namespace Go.Proofs.Ytjepgbpcpcahgaa
open Go.Am
set_option linter.unusedSimpArgs false
set_option linter.unusedVariables false
set_option maxRecDepth 100000
theorem ins_rows (o : List Co) (p : Nat) (s : ByteArray) : (o.take p).map corow ++ [[.v (.string s), .list [] .full]] ++ (o.drop p).map corow = nrows (o.take p) s (.list [] .full) (o.drop p) := by unfold nrows; simp
theorem wk_nrows {o1 : List Co} {nm : ByteArray} {v w : AV} {o2 : List Co} {k : Nat} (h : Wk v w) : WkL (seqC (nrows o1 nm v o2) k) (seqC (nrows o1 nm w o2) k) := by
  have e : ∀ z, seqC (nrows o1 nm z o2) k = ((o1.map corow).flatten ++ [AV.v (.string nm)]) ++ ([z] ++ ((o2.map corow).flatten ++ List.replicate k .dead)) := fun z => by unfold seqC nrows; simp
  rw [e v, e w]
  exact .app (.refl _) (.app (.cons h .nil) (.refl _))
set_option maxHeartbeats 3200000 in
theorem qput_c (r : List Co) (s : ByteArray) (t : Int) (v : Va) (hr : r.length < 70368744177664) (hs : RowSz r) (hv : v.b.length < 1073741824 ∧ v.n < 18446744073709551616) : ACalls Try.prog 34 0 9000 [rowA r, .v (.string s), .v (.int .i64 t), vav v] [] (PutRR (putR r s t v)) := by
  have hnm := rname_c s
  have hvr : ACalls Try.prog 70 0 10 [vav v] [] (fun out H' => out = .ret (.v (.bool (vRt v))) ∧ H' = []) := refRight_c v
  have hso := copy_sort r
  have h4 := copy_len r
  have hfi := copy_fine r
  have hbad : (nmB s && tmOk t && vRt v) = false → putR r s t v = (1, []) := fun h => by unfold putR; rw [h]; rfl
  have hgood : (nmB s && tmOk t && vRt v) = true → putR r s t v = (if hasN (copyR r) s = false ∧ (copyR r).length = 4 then (13, []) else (0, putA (copyR r) s ⟨t, canV v⟩)) := fun h => by unfold putR; rw [if_pos h]
  have hcn := qcopy_n r hr hs
  generalize putR r s t v = Q at *
  generalize copyR r = o at *
  refine no_implicit_lambda% (acalls_of tok dok (f := 34) ⟨Try.func34, rfl, by kernel_rfl⟩ ?_); refine no_implicit_lambda% (c_start (fun _ h => h) ?_)
  repeat' (first | (refine no_implicit_lambda% (awd1 ?_)) | (((with_reducible refine no_implicit_lambda% (is_aops ?_)); refine no_implicit_lambda% (o_split rfl rfl rfl (fun hc => ?_) (fun hc => ?_)) <;> first | exact decx hc | rw [hc])) | (((with_reducible refine no_implicit_lambda% (is_cond ?_)); refine no_implicit_lambda% (c_cond rfl (fun hc => ?_) (fun hc => ?_)) <;> first | exact decx hc | skip)) | (((with_reducible refine no_implicit_lambda% (is_aop ?_)); refine no_implicit_lambda% (a_pick rfl rfl (fun hc => ?_) (fun hc => ?_)) <;> first | exact decx hc | rw [hc])) | (refine no_implicit_lambda% (ans ?_)) | (with_reducible exact retN) | (with_reducible exact retP) | (refine no_implicit_lambda% (cal [] (hnm) ?_ ?_)) | (refine no_implicit_lambda% (cal [] (hvr) ?_ ?_)) | fail)
  iterate 4
    · have hb : Q = (1, []) := hbad (by unfold tmOk; simp only [Bool.not_eq_true', Bool.not_eq_false', decide_eq_true_eq, decide_eq_false_iff_not] at *; rw [Bool.eq_false_iff]; intro h; simp only [Bool.and_eq_true, decide_eq_true_eq] at h; first | omega | (simp_all; done))
      subst hb
      refine e_ret_to (H' := []) (rest := _) (Conv.toT (τ := ⟨_, [(2, .box [.list [] .free])], _⟩) (.refl _) ?_ (Nat.le_refl _)) rfl ⟨rfl, rfl⟩ (.of_eq rfl) (Nat.le_of_ble_eq_true rfl)
      exact wkh
  have hq := hgood (by unfold tmOk; simp only [Bool.not_eq_true', Bool.not_eq_false', decide_eq_true_eq, decide_eq_false_iff_not] at *; simp only [Bool.and_eq_true, decide_eq_true_eq]; refine ⟨⟨by assumption, by omega⟩, by assumption⟩)
  (refine no_implicit_lambda% (cal [] (hcn) ?_ ?_))
  · intro xx H' hh
    obtain ⟨cp, c1, c2, h', rfl⟩ := hh
    cases h'
    first | (refine no_implicit_lambda% (akc ?_)) | (refine no_implicit_lambda% (aec ?_))
    have hf := qfind_o o s cp (by omega) hso
    rcases hN : hasN o s with _ | _
    · rw [hN] at hf
      repeat' (first | (refine no_implicit_lambda% (awd1 ?_)) | (((with_reducible refine no_implicit_lambda% (is_aops ?_)); refine no_implicit_lambda% (o_split rfl rfl rfl (fun hc => ?_) (fun hc => ?_)) <;> first | exact decx hc | rw [hc])) | (((with_reducible refine no_implicit_lambda% (is_cond ?_)); refine no_implicit_lambda% (c_cond rfl (fun hc => ?_) (fun hc => ?_)) <;> first | exact decx hc | skip)) | (((with_reducible refine no_implicit_lambda% (is_aop ?_)); refine no_implicit_lambda% (a_pick rfl rfl (fun hc => ?_) (fun hc => ?_)) <;> first | exact decx hc | rw [hc])) | (refine no_implicit_lambda% (ans ?_)) | (with_reducible exact retN) | (with_reducible exact retP) | fail | fail)
      (refine no_implicit_lambda% (cal [13] (hf) ?_ ?_))
      · refine no_implicit_lambda% (ret1 ?_); first | (refine no_implicit_lambda% (akc ?_)) | (refine no_implicit_lambda% (aec ?_))
        repeat' (first | (refine no_implicit_lambda% (awd1 ?_)) | (((with_reducible refine no_implicit_lambda% (is_aops ?_)); refine no_implicit_lambda% (o_split rfl rfl rfl (fun hc => ?_) (fun hc => ?_)) <;> first | exact decx hc | rw [hc])) | (((with_reducible refine no_implicit_lambda% (is_cond ?_)); refine no_implicit_lambda% (c_cond rfl (fun hc => ?_) (fun hc => ?_)) <;> first | exact decx hc | skip)) | (((with_reducible refine no_implicit_lambda% (is_aop ?_)); refine no_implicit_lambda% (a_pick rfl rfl (fun hc => ?_) (fun hc => ?_)) <;> first | exact decx hc | rw [hc])) | (refine no_implicit_lambda% (ans ?_)) | (with_reducible exact retN) | (with_reducible exact retP) | fail | fail)
        · have hl4 : o.length = 4 := by have := of_decide_eq_true hc; omega
          rw [if_pos ⟨hN, hl4⟩] at hq
          subst hq
          refine e_ret_to (H' := []) (rest := _) (Conv.toT (τ := ⟨_, [(2, .box [.list [] .free])], _⟩) (.refl _) ?_ (Nat.le_refl _)) rfl ⟨rfl, rfl⟩ (.of_eq rfl) (Nat.le_of_ble_eq_true rfl)
          exact wkh
        · have hl4 : ¬ o.length = 4 := by have := of_decide_eq_false hc; omega
          have hpl := npos_le o s
          rw [if_neg (fun h => hl4 h.2)] at hq
          ((with_reducible refine no_implicit_lambda% (is_ev ?_)); first | (refine no_implicit_lambda% (v_qS rfl rfl rfl rfl (qAnd4 (fun _ h => h)) (fun _ h => h) ?_ ?_)) | (refine no_implicit_lambda% (v_qS rfl rfl rfl rfl (qAnd5 (fun _ h => h)) (fun _ h => h) ?_ ?_))); focus ((repeat' (refine no_implicit_lambda% (And.intro ?_ ?_))) <;> (first | exact trivial | exact Int.natCast_nonneg _ | omega | (simp; done) | (simp; omega) | ((show (0 : Int) ≤ _); omega)))
          repeat' (first | (refine no_implicit_lambda% (awd1 ?_)) | (((with_reducible refine no_implicit_lambda% (is_aops ?_)); refine no_implicit_lambda% (o_split rfl rfl rfl (fun hc => ?_) (fun hc => ?_)) <;> first | exact decx hc | rw [hc])) | (((with_reducible refine no_implicit_lambda% (is_cond ?_)); refine no_implicit_lambda% (c_cond rfl (fun hc => ?_) (fun hc => ?_)) <;> first | exact decx hc | skip)) | (((with_reducible refine no_implicit_lambda% (is_aop ?_)); refine no_implicit_lambda% (a_pick rfl rfl (fun hc => ?_) (fun hc => ?_)) <;> first | exact decx hc | rw [hc])) | (refine no_implicit_lambda% (ans ?_)) | (with_reducible exact retN) | (with_reducible exact retP) | fail | fail)
          ((with_reducible refine no_implicit_lambda% (is_ev ?_)); first | (refine no_implicit_lambda% (v_qS rfl rfl rfl rfl (qAnd4 (fun _ h => h)) (fun _ h => h) ?_ ?_)) | (refine no_implicit_lambda% (v_qS rfl rfl rfl rfl (qAnd5 (fun _ h => h)) (fun _ h => h) ?_ ?_))); focus ((repeat' (refine no_implicit_lambda% (And.intro ?_ ?_))) <;> (first | exact trivial | exact Int.natCast_nonneg _ | omega | (simp; done) | (simp; omega) | ((show (0 : Int) ≤ _); omega)))
          repeat' (first | (refine no_implicit_lambda% (awd1 ?_)) | (((with_reducible refine no_implicit_lambda% (is_aops ?_)); refine no_implicit_lambda% (o_split rfl rfl rfl (fun hc => ?_) (fun hc => ?_)) <;> first | exact decx hc | rw [hc])) | (((with_reducible refine no_implicit_lambda% (is_cond ?_)); refine no_implicit_lambda% (c_cond rfl (fun hc => ?_) (fun hc => ?_)) <;> first | exact decx hc | skip)) | (((with_reducible refine no_implicit_lambda% (is_aop ?_)); refine no_implicit_lambda% (a_pick rfl rfl (fun hc => ?_) (fun hc => ?_)) <;> first | exact decx hc | rw [hc])) | (refine no_implicit_lambda% (ans ?_)) | (with_reducible exact retN) | (with_reducible exact retP) | fail | fail)
          have hlt4 := hfi.len
          have hpe : (npos o s : Int).toNat = npos o s := Int.toNat_natCast _
          generalize hpp : npos o s = p at *
          have l1 : ((o.take p).map corow).length = p := by rw [List.length_map, List.length_take]; omega
          have l2 : ((o.drop p).map corow).length = o.length - p := by rw [List.length_map, List.length_drop]
          (with_reducible refine is_aop ?_)
          refine no_implicit_lambda% (a_appS0g (sz := 2) (B := 40) (m2 := p) (rows2 := (o.take p).map corow) rfl rfl rfl rfl rfl rfl rfl rfl rfl (.inl rfl) rfl rfl (fun K h => asrc_seqg (id := 13) (off := 0) (i := 0) (m := ((o.take p).map corow).length) (cp := cp) ?_ rfl (coOk o) ?_ (by simp) ?_ h) (coOk _) ⟨by omega, by omega⟩ l1 ?_)
          · rw [l1]
            show AV.arr 13 (0 + 0 * 2) ((p : Int).toNat - 0) (cp - 0) = AV.arr 13 0 p cp
            rw [hpe]; rfl
          · rw [l1, List.length_map]; omega
          · rw [l1, List.drop_zero, List.map_take]
          intro cp1 d1 d2
          refine no_implicit_lambda% (aec ?_)
          repeat' (first | (refine no_implicit_lambda% (awd1 ?_)) | (((with_reducible refine no_implicit_lambda% (is_aops ?_)); refine no_implicit_lambda% (o_split rfl rfl rfl (fun hc => ?_) (fun hc => ?_)) <;> first | exact decx hc | rw [hc])) | (((with_reducible refine no_implicit_lambda% (is_cond ?_)); refine no_implicit_lambda% (c_cond rfl (fun hc => ?_) (fun hc => ?_)) <;> first | exact decx hc | skip)) | (((with_reducible refine no_implicit_lambda% (is_aop ?_)); refine no_implicit_lambda% (a_pick rfl rfl (fun hc => ?_) (fun hc => ?_)) <;> first | exact decx hc | rw [hc])) | (refine no_implicit_lambda% (ans ?_)) | (with_reducible exact retN) | (with_reducible exact retP) | fail | fail)
          ((with_reducible refine no_implicit_lambda% (is_aop ?_)); refine no_implicit_lambda% (a_appS (sz := 2) (B := 40) (m2 := p + 1) (rows3 := ((o.take p).map corow ++ [[.v (.string s), .list [] .full]])) rfl rfl rfl rfl rfl rfl rfl rfl rfl rfl rfl (fun _ h => h) rfl rfl (coOk (o.take p)) ((.one1 (row := [.v (.string s), .list [] .full]) ⟨rfl, rfl, rfl⟩)) (by first | rfl | (exact List.length_map ..) | (simp; done) | (simp; omega)) rfl (by first | omega | (simp; omega)) (by first | rfl | (simp; done) | (simp; omega)) (by first | rfl | (exact map_snoc _ _) | (rw [List.map_append]; rfl) | (simp; done)) ?_))
          intro cp2 e1 e2
          refine no_implicit_lambda% (aec ?_)
          repeat' (first | (refine no_implicit_lambda% (awd1 ?_)) | (((with_reducible refine no_implicit_lambda% (is_aops ?_)); refine no_implicit_lambda% (o_split rfl rfl rfl (fun hc => ?_) (fun hc => ?_)) <;> first | exact decx hc | rw [hc])) | (((with_reducible refine no_implicit_lambda% (is_cond ?_)); refine no_implicit_lambda% (c_cond rfl (fun hc => ?_) (fun hc => ?_)) <;> first | exact decx hc | skip)) | (((with_reducible refine no_implicit_lambda% (is_aop ?_)); refine no_implicit_lambda% (a_pick rfl rfl (fun hc => ?_) (fun hc => ?_)) <;> first | exact decx hc | rw [hc])) | (refine no_implicit_lambda% (ans ?_)) | (with_reducible exact retN) | (with_reducible exact retP) | fail | fail)
          (with_reducible refine is_aop ?_)
          refine no_implicit_lambda% (a_appSg (sz := 2) (B := 40) (m2 := o.length + 1) (rows := (o.take p).map corow ++ [[AV.v (.string s), AV.list [] .full]]) (rows2 := (o.drop p).map corow) (rows3 := nrows (o.take p) s (.list [] .full) (o.drop p)) rfl rfl rfl rfl rfl rfl rfl rfl rfl rfl (fun _ h => h) rfl rfl (fun K h => asrc_seqg (id := 13) (off := p * 2) (i := p) (m := ((o.drop p).map corow).length) (cp := cp - p) ?_ rfl (coOk o) ?_ rfl ?_ h) ?_ (coOk _) ?_ ?_ ⟨by omega, by omega, by omega⟩ (by omega) (ins_rows o p s) ?_)
          · rw [l2]
            show AV.arr 13 (0 + (p : Int).toNat * 2) (o.length - (p : Int).toNat) (cp - (p : Int).toNat) = AV.arr 13 (p * 2) (o.length - p) (cp - p)
            rw [hpe, Nat.zero_add]
          · rw [l2, List.length_map]; omega
          · rw [l2, List.map_drop, List.take_of_length_le (by rw [List.length_drop, List.length_map]; omega)]
          · exact (coOk _).app (.one1 ⟨rfl, rfl, rfl⟩)
          · rw [List.length_append, l1]; rfl
          · rfl
          intro cp3 f1 f2
          refine no_implicit_lambda% (aec ?_)
          repeat' (first | (first | (with_reducible refine no_implicit_lambda% (v_nil ?_)) | ((with_reducible refine no_implicit_lambda% (is_ev ?_)); first | (refine no_implicit_lambda% (v_skips rfl rfl (fun _ h => h) ?_)) | (refine no_implicit_lambda% (v_q rfl rfl rfl rfl (fun _ h => h) (fun _ h => h) ?_)) | (refine no_implicit_lambda% (v_alloc rfl rfl rfl (fun _ h => h) rfl ?_)) | (refine no_implicit_lambda% (v_no rfl rfl rfl rfl rfl rfl (fun _ h => h) ?_)) | (refine no_implicit_lambda% (v_yes rfl rfl rfl rfl rfl rfl (fun _ h => h) (fun _ h => h) ?_)) | (refine no_implicit_lambda% (v_not rfl rfl rfl rfl rfl rfl (fun _ h => h) ?_)))) | ((with_reducible refine no_implicit_lambda% (is_drB ?_)); first | (refine no_implicit_lambda% (b_end rfl rfl (fun _ h => h) (fun _ h => h) ?_)) | (refine no_implicit_lambda% (b_eff rfl rfl rfl rfl (fun _ h => h) (fun _ h => h) rfl ?_)) | (refine no_implicit_lambda% (b_no rfl rfl rfl rfl (fun _ h => h) (fun _ h => h) rfl rfl rfl (fun _ h => h) (fun _ h => h) ?_)) | (refine no_implicit_lambda% (b_yes rfl rfl rfl rfl (fun _ h => h) (fun _ h => h) rfl rfl rfl ?_)) | (refine no_implicit_lambda% (b_not rfl rfl rfl rfl (fun _ h => h) (fun _ h => h) rfl rfl rfl (fun _ h => h) (fun _ h => h) ?_))) | ((with_reducible refine no_implicit_lambda% (is_effK ?_)); refine no_implicit_lambda% (k_eff (fun _ h => h) (fun _ h => h) (fun _ h => h) (by intro k h; repeat (first | exact h | refine ⟨rfl, ?_⟩ | refine ⟨trivial, ?_⟩)) ?_)) | ((with_reducible refine no_implicit_lambda% (is_aop ?_)); first | (refine no_implicit_lambda% (a_q1 rfl (fun _ h => h) ?_)) | (refine no_implicit_lambda% (a_box rfl (fun _ h => h) ?_)) | (refine no_implicit_lambda% (a_alloc rfl (fun _ h => h) ?_)) | (refine no_implicit_lambda% (a_storev rfl (fun _ h => h) ?_)) | (refine no_implicit_lambda% (a_store rfl (fun _ h => h) ?_)) | (refine no_implicit_lambda% (a_panic rfl rfl ?_))) | fail)
          have hFl : (o.take p ++ ⟨s, []⟩ :: o.drop p).length = o.length + 1 := by simp; omega
          have hFp : (o.take p ++ (⟨s, []⟩ : Co) :: o.drop p)[p]? = some ⟨s, []⟩ := by
            rw [List.getElem?_append_right (by rw [List.length_take]; omega), List.length_take, Nat.min_eq_left (by omega), Nat.sub_self]; rfl
          have hFr : nrows (o.take p) s (.list [] .free) (o.drop p) = (o.take p ++ ⟨s, []⟩ :: o.drop p).map corow := nrows_free _ _ [] _
          refine ⟨qtSt t v (o.take p ++ ⟨s, []⟩ :: o.drop p) cp3 p, ?_, qput_rest t v hv _ Q.2 (o.take p ++ ⟨s, []⟩ :: o.drop p) cp3 p ⟨s, []⟩ (fun out H' h => ⟨by rw [h.1, show Q.1 = 0 by rw [hq]], h.2⟩) (by omega) hFp List.Pairwise.nil (by simp) (by omega) f2 ?_⟩
          · refine SeqTo.renE (n2 := 18) (L2 := [(1, .box (vrowV v)), (2, .box [.list [] .full]), (14, .box [.arr 17 0 (o.take p ++ ⟨s, []⟩ :: o.drop p).length cp3]), (17, .seq ((o.take p ++ ⟨s, []⟩ :: o.drop p).map corow) ((cp3 - (o.take p ++ (⟨s, []⟩ : Co) :: o.drop p).length) * 2))]) 0 [1, 2, 14, 17] (Nat.le_refl 0) rfl (fun _ h => h) ?_
            refine (Conv.unseq (id := 17) (rows := nrows (o.take p) s (.list [] .full) (o.drop p)) (k := (cp3 - (o.length + 1)) * 2) (by rw [nrows_len]; omega) (permT (H := [(17, .seq (nrows (o.take p) s (.list [] .full) (o.drop p)) ((cp3 - (o.length + 1)) * 2))]))).trans ((Conv.wk (.refl _) (.cons (.box 17 (wk_nrows (.free _ _))) (.refl _))).trans ((Conv.toSeq (rows := (o.take p ++ ⟨s, []⟩ :: o.drop p).map corow) (k := (cp3 - (o.length + 1)) * 2) (.refl _) (by rw [← hFr]) (coOk _).pure).trans ?_))
            rw [hFl]
            refine no_implicit_lambda% (Conv.toT ?_ ?_ (Nat.le_of_ble_eq_true rfl))
            · exact wkl
            · exact wkh
          · rw [hq]
            unfold putA
            rw [hN, if_neg (by simp), hpp]
            show _ = o.take p ++ ⟨s, [⟨t, canV v⟩]⟩ :: o.drop p
            have hol : (o.take p).length = p := by rw [List.length_take]; omega
            rw [List.set_append_right _ _ (by omega), hol, Nat.sub_self]
            rfl
      · first | (exact retN) | (exact retP)
    · rw [hN] at hf
      have hlt := npos_len hN
      obtain ⟨c, hc1⟩ := has_at hN
      have hcb := hfi.col c (List.mem_of_getElem? hc1)
      have hcl := col_len hcb
      have hlt4 := hfi.len
      repeat' (first | (refine no_implicit_lambda% (awd1 ?_)) | (((with_reducible refine no_implicit_lambda% (is_aops ?_)); refine no_implicit_lambda% (o_split rfl rfl rfl (fun hc => ?_) (fun hc => ?_)) <;> first | exact decx hc | rw [hc])) | (((with_reducible refine no_implicit_lambda% (is_cond ?_)); refine no_implicit_lambda% (c_cond rfl (fun hc => ?_) (fun hc => ?_)) <;> first | exact decx hc | skip)) | (((with_reducible refine no_implicit_lambda% (is_aop ?_)); refine no_implicit_lambda% (a_pick rfl rfl (fun hc => ?_) (fun hc => ?_)) <;> first | exact decx hc | rw [hc])) | (refine no_implicit_lambda% (ans ?_)) | (with_reducible exact retN) | (with_reducible exact retP) | fail | fail)
      (refine no_implicit_lambda% (cal [13] (hf) ?_ ?_))
      · refine no_implicit_lambda% (ret1 ?_); first | (refine no_implicit_lambda% (akc ?_)) | (refine no_implicit_lambda% (aec ?_))
        repeat' (first | (refine no_implicit_lambda% (sx1 ?_)) | (((with_reducible refine no_implicit_lambda% (is_aops ?_)); refine no_implicit_lambda% (o_split rfl rfl rfl (fun hc => ?_) (fun hc => ?_)) <;> first | exact decx hc | rw [hc])) | (((with_reducible refine no_implicit_lambda% (is_cond ?_)); refine no_implicit_lambda% (c_cond rfl (fun hc => ?_) (fun hc => ?_)) <;> first | exact decx hc | skip)) | (((with_reducible refine no_implicit_lambda% (is_aop ?_)); refine no_implicit_lambda% (a_pick rfl rfl (fun hc => ?_) (fun hc => ?_)) <;> first | exact decx hc | rw [hc])) | fail)
        refine k_seq ?_
        repeat' (first | (refine no_implicit_lambda% (sx1 ?_)) | (((with_reducible refine no_implicit_lambda% (is_aops ?_)); refine no_implicit_lambda% (o_split rfl rfl rfl (fun hc => ?_) (fun hc => ?_)) <;> first | exact decx hc | rw [hc])) | (((with_reducible refine no_implicit_lambda% (is_cond ?_)); refine no_implicit_lambda% (c_cond rfl (fun hc => ?_) (fun hc => ?_)) <;> first | exact decx hc | skip)) | (((with_reducible refine no_implicit_lambda% (is_aop ?_)); refine no_implicit_lambda% (a_pick rfl rfl (fun hc => ?_) (fun hc => ?_)) <;> first | exact decx hc | rw [hc])) | fail)
        refine k_seq ?_
        repeat' (first | (refine no_implicit_lambda% (sx1 ?_)) | (((with_reducible refine no_implicit_lambda% (is_aops ?_)); refine no_implicit_lambda% (o_split rfl rfl rfl (fun hc => ?_) (fun hc => ?_)) <;> first | exact decx hc | rw [hc])) | (((with_reducible refine no_implicit_lambda% (is_cond ?_)); refine no_implicit_lambda% (c_cond rfl (fun hc => ?_) (fun hc => ?_)) <;> first | exact decx hc | skip)) | (((with_reducible refine no_implicit_lambda% (is_aop ?_)); refine no_implicit_lambda% (a_pick rfl rfl (fun hc => ?_) (fun hc => ?_)) <;> first | exact decx hc | rw [hc])) | fail)
        refine ⟨qtSt t v o cp (npos o s), ?_, qput_rest t v hv _ Q.2 o cp (npos o s) c (fun out H' h => ⟨by rw [h.1, show Q.1 = 0 by rw [hq, if_neg (by rw [hN]; simp)]], h.2⟩) hlt4 hc1 ?_ hcl.2 c1 c2 ?_⟩
        · (refine no_implicit_lambda% (SeqTo.renT 0 [1, 2, 14, 13] (Nat.le_of_ble_eq_true rfl) (fun _ h => h) (fun _ h => h) ?_ ?_)); (focus ((try dsimp only); exact wkl)); (focus ((try dsimp only); exact wkh))
        · unfold colB at hcb
          simp only [Bool.and_eq_true] at hcb
          exact (vers_to hcb.2).2.1
        · rw [hq, if_neg (by rw [hN]; simp)]
          unfold putA
          rw [hN, if_pos rfl, hc1]
      · first | (exact retN) | (exact retP)
  · intro xx H' hh
    obtain ⟨_, _, _, h', _⟩ := hh
    cases h'
end Go.Proofs.Ytjepgbpcpcahgaa
namespace Go.Proofs.Ytjepgbpcpcahgaa
open Go.Am
set_option linter.unusedSimpArgs false
set_option linter.unusedVariables false
set_option maxRecDepth 100000
def qeSt (t : Int) (s : ByteArray) (o : List Co) (cp i : Nat) (q : List Ve) (k : Nat) : ASt := ⟨([.dead, .v (.string s), .v (.int .i64 t), .dead, .dead, .dead, .ptr 1 0, .ptr 3 0, .v (.int .i64 i), .dead, .list (q.map verow) (.tok 4), .v (.int .i64 k)] ++ List.replicate 59 .dead), [(4, .tok 4 q.length), (1, .box [.list [] .full]), (3, .box [.arr 2 0 o.length cp]), (2, .seq (o.map corow) ((cp - o.length) * 2))], 90⟩
def qgSt (s : ByteArray) (o : List Co) : ASt := ⟨([.dead, .v (.string s), .dead, .dead, .dead, .dead, .ptr 1 0, .ptr 3 0] ++ List.replicate 52 .dead ++ [.v (.bool true)] ++ List.replicate 10 .dead), [(1, .box [.list [] .full]), (3, .box [.list (o.map corow) .free])], 100⟩
def qhSt (o : List Co) (cp i : Nat) (q : List Ve) : ASt := ⟨(List.replicate 6 .dead ++ [.ptr 1 0, .ptr 3 0, .v (.int .i64 i), .dead, .list (q.map verow) .free] ++ List.replicate 49 .dead ++ [.v (.bool false)] ++ List.replicate 10 .dead), [(1, .box [.list [] .full]), (3, .box [.arr 2 0 o.length cp]), (2, .seq (o.map corow) ((cp - o.length) * 2))], 100⟩
set_option maxHeartbeats 3200000 in
theorem qdrop_c (r : List Co) (s : ByteArray) (t : Int) (hr : r.length < 70368744177664) (hs : RowSz r) : ACalls Try.prog 75 0 9000 [rowA r, .v (.string s), .v (.int .i64 t)] [] (fun out H' => out = .ret (rowA (dropR r s t)) ∧ H' = []) := by
  have hso := copy_sort r
  have h4 := copy_len r
  have hz := copy_sz hs
  have hfi := copy_fine r
  have hcn := qcopy_n r hr hs
  unfold dropR
  generalize copyR r = o at *
  have hlt4 := hfi.len
  refine no_implicit_lambda% (acalls_of tok dok (f := 75) ⟨Try.func75, rfl, by kernel_rfl⟩ ?_); refine no_implicit_lambda% (c_start (fun _ h => h) ?_)
  repeat' (first | (refine no_implicit_lambda% (awd1 ?_)) | (((with_reducible refine no_implicit_lambda% (is_aops ?_)); refine no_implicit_lambda% (o_split rfl rfl rfl (fun hc => ?_) (fun hc => ?_)) <;> first | exact decx hc | rw [hc])) | (((with_reducible refine no_implicit_lambda% (is_cond ?_)); refine no_implicit_lambda% (c_cond rfl (fun hc => ?_) (fun hc => ?_)) <;> first | exact decx hc | skip)) | (((with_reducible refine no_implicit_lambda% (is_aop ?_)); refine no_implicit_lambda% (a_pick rfl rfl (fun hc => ?_) (fun hc => ?_)) <;> first | exact decx hc | rw [hc])) | (refine no_implicit_lambda% (ans ?_)) | (with_reducible exact retN) | (with_reducible exact retP) | fail | fail)
  (refine no_implicit_lambda% (cal [] (hcn) ?_ ?_))
  · intro xx H' hh
    obtain ⟨cp, c1, c2, h', rfl⟩ := hh
    cases h'
    first | (refine no_implicit_lambda% (akc ?_)) | (refine no_implicit_lambda% (aec ?_))
    have hf := qfind_o o s cp (by omega) hso
    rcases hN : hasN o s with _ | _
    · rw [hN] at hf
      have hq : dropA o s t = o := by unfold dropA; rw [hN, if_neg (by simp)]
      rw [hq]
      repeat' (first | (refine no_implicit_lambda% (awd1 ?_)) | (((with_reducible refine no_implicit_lambda% (is_aops ?_)); refine no_implicit_lambda% (o_split rfl rfl rfl (fun hc => ?_) (fun hc => ?_)) <;> first | exact decx hc | rw [hc])) | (((with_reducible refine no_implicit_lambda% (is_cond ?_)); refine no_implicit_lambda% (c_cond rfl (fun hc => ?_) (fun hc => ?_)) <;> first | exact decx hc | skip)) | (((with_reducible refine no_implicit_lambda% (is_aop ?_)); refine no_implicit_lambda% (a_pick rfl rfl (fun hc => ?_) (fun hc => ?_)) <;> first | exact decx hc | rw [hc])) | (refine no_implicit_lambda% (ans ?_)) | (with_reducible exact retN) | (with_reducible exact retP) | fail | fail)
      (refine no_implicit_lambda% (cal [2] (hf) ?_ ?_))
      · refine no_implicit_lambda% (ret1 ?_); first | (refine no_implicit_lambda% (akc ?_)) | (refine no_implicit_lambda% (aec ?_))
        repeat' (first | (refine no_implicit_lambda% (awd1 ?_)) | (((with_reducible refine no_implicit_lambda% (is_aops ?_)); refine no_implicit_lambda% (o_split rfl rfl rfl (fun hc => ?_) (fun hc => ?_)) <;> first | exact decx hc | rw [hc])) | (((with_reducible refine no_implicit_lambda% (is_cond ?_)); refine no_implicit_lambda% (c_cond rfl (fun hc => ?_) (fun hc => ?_)) <;> first | exact decx hc | skip)) | (((with_reducible refine no_implicit_lambda% (is_aop ?_)); refine no_implicit_lambda% (a_pick rfl rfl (fun hc => ?_) (fun hc => ?_)) <;> first | exact decx hc | rw [hc])) | (refine no_implicit_lambda% (ans ?_)) | (with_reducible exact retN) | (with_reducible exact retP) | fail | fail)
        exact e_ret_to (H' := []) (rest := _) (Conv.freezeBox (j := 0) (id := 2) (bid := 1) (sz := 2) (rows := o.map corow) (k := (cp - o.length) * 2) (m := o.length) (cp := cp) (cells := [.arr 2 0 o.length cp]) (permT (H := [(2, .seq (o.map corow) ((cp - o.length) * 2)), (1, .box [.arr 2 0 o.length cp])])) rfl (coOk o) (by simp)) rfl ⟨rfl, rfl⟩ (.of_eq (by simp; rfl)) (Nat.le_of_ble_eq_true rfl)
      · first | (exact retN) | (exact retP)
    · rw [hN] at hf
      have hlt := npos_len hN
      obtain ⟨c, hc1⟩ := has_at hN
      have hcb := hfi.col c (List.mem_of_getElem? hc1)
      have hcl := col_len hcb
      have hq : dropA o s t = if dropV c.l t = [] then o.eraseIdx (npos o s) else o.set (npos o s) ⟨c.n, dropV c.l t⟩ := by unfold dropA; rw [hN, if_pos rfl, hc1]
      repeat' (first | (refine no_implicit_lambda% (awd1 ?_)) | (((with_reducible refine no_implicit_lambda% (is_aops ?_)); refine no_implicit_lambda% (o_split rfl rfl rfl (fun hc => ?_) (fun hc => ?_)) <;> first | exact decx hc | rw [hc])) | (((with_reducible refine no_implicit_lambda% (is_cond ?_)); refine no_implicit_lambda% (c_cond rfl (fun hc => ?_) (fun hc => ?_)) <;> first | exact decx hc | skip)) | (((with_reducible refine no_implicit_lambda% (is_aop ?_)); refine no_implicit_lambda% (a_pick rfl rfl (fun hc => ?_) (fun hc => ?_)) <;> first | exact decx hc | rw [hc])) | (refine no_implicit_lambda% (ans ?_)) | (with_reducible exact retN) | (with_reducible exact retP) | fail | fail)
      (refine no_implicit_lambda% (cal [2] (hf) ?_ ?_))
      · refine no_implicit_lambda% (ret1 ?_); first | (refine no_implicit_lambda% (akc ?_)) | (refine no_implicit_lambda% (aec ?_))
        repeat' (first | (refine no_implicit_lambda% (awd1 ?_)) | (((with_reducible refine no_implicit_lambda% (is_aops ?_)); refine no_implicit_lambda% (o_split rfl rfl rfl (fun hc => ?_) (fun hc => ?_)) <;> first | exact decx hc | rw [hc])) | (((with_reducible refine no_implicit_lambda% (is_cond ?_)); refine no_implicit_lambda% (c_cond rfl (fun hc => ?_) (fun hc => ?_)) <;> first | exact decx hc | skip)) | (((with_reducible refine no_implicit_lambda% (is_aop ?_)); refine no_implicit_lambda% (a_pick rfl rfl (fun hc => ?_) (fun hc => ?_)) <;> first | exact decx hc | rw [hc])) | (refine no_implicit_lambda% (ans ?_)) | (with_reducible exact retN) | (with_reducible exact retP) | fail | fail)
        refine c_loop2 (fun q k => qeSt t s o cp (npos o s) q k) (fun q k => k ≤ c.l.length ∧ q = dropV (c.l.take k) t) (fun _ k => c.l.length - k) [] 0 ⟨Nat.zero_le _, rfl⟩ ((Conv.tokSlot (j := 10) (sz := 4) (rows := []) rfl (by simp)).trans ?_) ?_
        · (refine no_implicit_lambda% (Conv.toT ?_ ?_ (Nat.le_of_ble_eq_true rfl))); (focus ((unfold qeSt); (try dsimp only); exact wkl)); (focus ((unfold qeSt); (try dsimp only); exact wkh))
        · rintro q k ⟨k1, hqe⟩
          have hdl := dropV_len (c.l.take k) t
          have hql : q.length ≤ 2 := by rw [hqe]; rw [List.length_take] at hdl; omega
          refine c_turn (n' := 90) (fun _ h => h) (fun _ h => h) rfl ?_
          repeat' (first | (refine no_implicit_lambda% (awd1 ?_)) | (((with_reducible refine no_implicit_lambda% (is_aops ?_)); refine no_implicit_lambda% (o_split rfl rfl rfl (fun hc => ?_) (fun hc => ?_)) <;> first | exact decx hc | rw [hc])) | (((with_reducible refine no_implicit_lambda% (is_cond ?_)); refine no_implicit_lambda% (c_cond rfl (fun hc => ?_) (fun hc => ?_)) <;> first | exact decx hc | skip)) | (((with_reducible refine no_implicit_lambda% (is_aop ?_)); refine no_implicit_lambda% (a_pick rfl rfl (fun hc => ?_) (fun hc => ?_)) <;> first | exact decx hc | rw [hc])) | (refine no_implicit_lambda% (ans ?_)) | (with_reducible exact retN) | (with_reducible exact retP) | fail | fail)
          ((with_reducible refine no_implicit_lambda% (is_aop ?_)); first | (refine no_implicit_lambda% (a_qS rfl (fun _ h => h) ?_ ?_)) | (refine no_implicit_lambda% (a_qS rfl (qIx (fun _ h => h)) ?_ ?_)) | (refine no_implicit_lambda% (a_qS rfl (qAnd5 (fun _ h => h)) ?_ ?_)) | (refine no_implicit_lambda% (a_qS rfl (qStr (fun _ h => h)) ?_ ?_)) | (refine no_implicit_lambda% (a_qS rfl (qAnd4 (fun _ h => h)) ?_ ?_)) | (refine no_implicit_lambda% (a_qS rfl (qAnd2 (fun _ h => h)) ?_ ?_))); focus (first | omega | (simp; done) | (simp; omega))
          repeat' (first | (refine no_implicit_lambda% (sx1 ?_)) | (((with_reducible refine no_implicit_lambda% (is_aops ?_)); refine no_implicit_lambda% (o_split rfl rfl rfl (fun hc => ?_) (fun hc => ?_)) <;> first | exact decx hc | rw [hc])) | (((with_reducible refine no_implicit_lambda% (is_cond ?_)); refine no_implicit_lambda% (c_cond rfl (fun hc => ?_) (fun hc => ?_)) <;> first | exact decx hc | skip)) | (((with_reducible refine no_implicit_lambda% (is_aop ?_)); refine no_implicit_lambda% (a_pick rfl rfl (fun hc => ?_) (fun hc => ?_)) <;> first | exact decx hc | rw [hc])) | fail)
          ((with_reducible refine no_implicit_lambda% (is_aop ?_)); refine no_implicit_lambda% (a_loadSeq (sz := 2) (rows := o.map corow) (i := (npos o s)) (j := 1) rfl rfl rfl rfl rfl (coOk o) ((by rw [List.getElem?_map, hc1]; rfl)) rfl (by first | rfl | (simp; done) | (simp; omega)) ?_))
          repeat' (first | (refine no_implicit_lambda% (sx1 ?_)) | (((with_reducible refine no_implicit_lambda% (is_aops ?_)); refine no_implicit_lambda% (o_split rfl rfl rfl (fun hc => ?_) (fun hc => ?_)) <;> first | exact decx hc | rw [hc])) | (((with_reducible refine no_implicit_lambda% (is_cond ?_)); refine no_implicit_lambda% (c_cond rfl (fun hc => ?_) (fun hc => ?_)) <;> first | exact decx hc | skip)) | (((with_reducible refine no_implicit_lambda% (is_aop ?_)); refine no_implicit_lambda% (a_pick rfl rfl (fun hc => ?_) (fun hc => ?_)) <;> first | exact decx hc | rw [hc])) | fail)
          refine k_seq ?_
          have hlen : ((c.l.map verow).length : Int) = c.l.length := by rw [List.length_map]
          rcases hy : c.l[k]? with _ | y
          · have hk : k = c.l.length := by have := List.getElem?_eq_none_iff.1 hy; omega
            rw [hk, List.take_length] at hqe
            rw [← hqe] at hq
            repeat' (first | (refine no_implicit_lambda% (sx1 ?_)) | (((with_reducible refine no_implicit_lambda% (is_aops ?_)); refine no_implicit_lambda% (o_split rfl rfl rfl (fun hc => ?_) (fun hc => ?_)) <;> first | exact decx hc | rw [hc])) | (((with_reducible refine no_implicit_lambda% (is_cond ?_)); refine no_implicit_lambda% (c_cond rfl (fun hc => ?_) (fun hc => ?_)) <;> first | exact decx hc | skip)) | (((with_reducible refine no_implicit_lambda% (is_aop ?_)); refine no_implicit_lambda% (a_pick rfl rfl (fun hc => ?_) (fun hc => ?_)) <;> first | exact decx hc | rw [hc])) | fail)
            refine k_seq ?_
            repeat' (first | (refine no_implicit_lambda% (sx1 ?_)) | (((with_reducible refine no_implicit_lambda% (is_aops ?_)); refine no_implicit_lambda% (o_split rfl rfl rfl (fun hc => ?_) (fun hc => ?_)) <;> first | exact decx hc | rw [hc])) | (((with_reducible refine no_implicit_lambda% (is_cond ?_)); refine no_implicit_lambda% (c_cond rfl (fun hc => ?_) (fun hc => ?_)) <;> first | exact decx hc | skip)) | (((with_reducible refine no_implicit_lambda% (is_aop ?_)); refine no_implicit_lambda% (a_pick rfl rfl (fun hc => ?_) (fun hc => ?_)) <;> first | exact decx hc | rw [hc])) | fail)
            rcases q with _ | ⟨q0, q⟩
            · rw [if_pos rfl] at hq
              rw [hq]
              refine k_seq_to (qgSt s o) ((Conv.freezeBox (j := 0) (id := 2) (bid := 3) (sz := 2) (rows := o.map corow) (k := (cp - o.length) * 2) (m := o.length) (cp := cp) (cells := [.arr 2 0 o.length cp]) (permT (H := [(2, .seq (o.map corow) ((cp - o.length) * 2)), (3, .box [.arr 2 0 o.length cp])])) rfl (coOk o) (by simp)).trans ?_) ?_
              · (refine no_implicit_lambda% (Conv.toT ?_ ?_ (Nat.le_of_ble_eq_true rfl))); (focus ((unfold qgSt); (try dsimp only); exact wkl)); (focus ((unfold qgSt); (try dsimp only); exact wkh))
              · have hdc := qdropcol_c o s (by omega) hz
                have hde : dcR o s = o.eraseIdx (npos o s) := by unfold dcR; rw [hfi.copy, hN, if_pos rfl]
                rw [hde] at hdc
                refine c_turn (n' := 100) (fun _ h => h) (fun _ h => h) rfl ?_
                repeat' (first | (refine no_implicit_lambda% (awd1 ?_)) | (((with_reducible refine no_implicit_lambda% (is_aops ?_)); refine no_implicit_lambda% (o_split rfl rfl rfl (fun hc => ?_) (fun hc => ?_)) <;> first | exact decx hc | rw [hc])) | (((with_reducible refine no_implicit_lambda% (is_cond ?_)); refine no_implicit_lambda% (c_cond rfl (fun hc => ?_) (fun hc => ?_)) <;> first | exact decx hc | skip)) | (((with_reducible refine no_implicit_lambda% (is_aop ?_)); refine no_implicit_lambda% (a_pick rfl rfl (fun hc => ?_) (fun hc => ?_)) <;> first | exact decx hc | rw [hc])) | (refine no_implicit_lambda% (ans ?_)) | (with_reducible exact retN) | (with_reducible exact retP) | (refine no_implicit_lambda% (cal [] (hdc) ?_ ?_)) | fail)
                exact e_ret (H' := []) (rest := _) rfl ⟨rfl, rfl⟩ permT (Nat.le_of_ble_eq_true rfl)
            · rw [if_neg (by simp)] at hq
              rw [hq]
              generalize hqq : q0 :: q = q2 at *
              have hq0 : (((q2.map verow).length : Int) == 0) = false := by rw [← hqq]; simp; omega
              refine k_seq_to (qhSt o cp (npos o s) q2) ?_ ?_
              · rw [hq0]
                (refine no_implicit_lambda% (Conv.toT ?_ ?_ (Nat.le_of_ble_eq_true rfl))); (focus ((unfold qhSt); (try dsimp only); exact wkl)); (focus ((unfold qhSt); (try dsimp only); exact wkh))
              · generalize hF : o.set (npos o s) ⟨c.n, q2⟩ = F at *
                have hFl : F.length = o.length := by rw [← hF]; exact List.length_set ..
                refine c_turn (n' := 100) (fun _ h => h) (fun _ h => h) rfl ?_
                repeat' (first | (refine no_implicit_lambda% (awd1 ?_)) | (((with_reducible refine no_implicit_lambda% (is_aops ?_)); refine no_implicit_lambda% (o_split rfl rfl rfl (fun hc => ?_) (fun hc => ?_)) <;> first | exact decx hc | rw [hc])) | (((with_reducible refine no_implicit_lambda% (is_cond ?_)); refine no_implicit_lambda% (c_cond rfl (fun hc => ?_) (fun hc => ?_)) <;> first | exact decx hc | skip)) | (((with_reducible refine no_implicit_lambda% (is_aop ?_)); refine no_implicit_lambda% (a_pick rfl rfl (fun hc => ?_) (fun hc => ?_)) <;> first | exact decx hc | rw [hc])) | (refine no_implicit_lambda% (ans ?_)) | (with_reducible exact retN) | (with_reducible exact retP) | fail | fail)
                ((with_reducible refine no_implicit_lambda% (is_aop ?_)); first | (refine no_implicit_lambda% (a_qS rfl (fun _ h => h) ?_ ?_)) | (refine no_implicit_lambda% (a_qS rfl (qIx (fun _ h => h)) ?_ ?_)) | (refine no_implicit_lambda% (a_qS rfl (qAnd5 (fun _ h => h)) ?_ ?_)) | (refine no_implicit_lambda% (a_qS rfl (qStr (fun _ h => h)) ?_ ?_)) | (refine no_implicit_lambda% (a_qS rfl (qAnd4 (fun _ h => h)) ?_ ?_)) | (refine no_implicit_lambda% (a_qS rfl (qAnd2 (fun _ h => h)) ?_ ?_))); focus (first | omega | (simp; done) | (simp; omega))
                repeat' (first | (refine no_implicit_lambda% (awd1 ?_)) | (((with_reducible refine no_implicit_lambda% (is_aops ?_)); refine no_implicit_lambda% (o_split rfl rfl rfl (fun hc => ?_) (fun hc => ?_)) <;> first | exact decx hc | rw [hc])) | (((with_reducible refine no_implicit_lambda% (is_cond ?_)); refine no_implicit_lambda% (c_cond rfl (fun hc => ?_) (fun hc => ?_)) <;> first | exact decx hc | skip)) | (((with_reducible refine no_implicit_lambda% (is_aop ?_)); refine no_implicit_lambda% (a_pick rfl rfl (fun hc => ?_) (fun hc => ?_)) <;> first | exact decx hc | rw [hc])) | (refine no_implicit_lambda% (ans ?_)) | (with_reducible exact retN) | (with_reducible exact retP) | fail | fail)
                ((with_reducible refine no_implicit_lambda% (is_aop ?_)); refine no_implicit_lambda% (a_storeSeq (sz := 2) (rows := o.map corow) (i := (npos o s)) (j := 1) (row' := [.v (.string c.n), .list (q2.map verow) .free]) rfl rfl rfl (fun _ h => h) rfl rfl (coOk o) ((by rw [List.getElem?_map, hc1]; rfl)) (by first | decide | (simp; done)) (by first | rfl | (simp; done)) (by first | rfl | (simp; done) | (simp; omega)) ?_))
                rw [show (o.map corow).set (npos o s) [.v (.string c.n), .list (q2.map verow) .free] = F.map corow by rw [← hF, List.map_set]; rfl]
                repeat' (first | (refine no_implicit_lambda% (awd1 ?_)) | (((with_reducible refine no_implicit_lambda% (is_aops ?_)); refine no_implicit_lambda% (o_split rfl rfl rfl (fun hc => ?_) (fun hc => ?_)) <;> first | exact decx hc | rw [hc])) | (((with_reducible refine no_implicit_lambda% (is_cond ?_)); refine no_implicit_lambda% (c_cond rfl (fun hc => ?_) (fun hc => ?_)) <;> first | exact decx hc | skip)) | (((with_reducible refine no_implicit_lambda% (is_aop ?_)); refine no_implicit_lambda% (a_pick rfl rfl (fun hc => ?_) (fun hc => ?_)) <;> first | exact decx hc | rw [hc])) | (refine no_implicit_lambda% (ans ?_)) | (with_reducible exact retN) | (with_reducible exact retP) | fail | fail)
                exact e_ret_to (H' := []) (rest := _) (Conv.freezeBox (j := 0) (id := 2) (bid := 1) (sz := 2) (rows := F.map corow) (k := (cp - o.length) * 2) (m := o.length) (cp := cp) (cells := [.arr 2 0 o.length cp]) (permT (H := [(2, .seq (F.map corow) ((cp - o.length) * 2)), (1, .box [.arr 2 0 o.length cp])])) rfl (coOk F) (by rw [List.length_map, hFl])) rfl ⟨rfl, rfl⟩ (.of_eq (by simp; rfl)) (Nat.le_of_ble_eq_true rfl)
          · have hk : k < c.l.length := (List.getElem?_eq_some_iff.1 hy).1
            have hix := vex hy
            have hdt := dropV_take (t := t) hy
            repeat' (first | (refine no_implicit_lambda% (awd1 ?_)) | (((with_reducible refine no_implicit_lambda% (is_aops ?_)); refine no_implicit_lambda% (o_split rfl rfl rfl (fun hc => ?_) (fun hc => ?_)) <;> first | exact decx hc | rw [hc])) | (((with_reducible refine no_implicit_lambda% (is_cond ?_)); refine no_implicit_lambda% (c_cond rfl (fun hc => ?_) (fun hc => ?_)) <;> first | exact decx hc | skip)) | (((with_reducible refine no_implicit_lambda% (is_aop ?_)); refine no_implicit_lambda% (a_pick rfl rfl (fun hc => ?_) (fun hc => ?_)) <;> first | exact decx hc | rw [hc])) | (refine no_implicit_lambda% (ans ?_)) | (with_reducible exact retN) | (with_reducible exact retP) | fail | fail)
            ((with_reducible refine no_implicit_lambda% (is_aop ?_)); first | (refine no_implicit_lambda% (a_qS rfl (fun _ h => h) ?_ ?_)) | (refine no_implicit_lambda% (a_qS rfl (qIx (fun _ h => h)) ?_ ?_)) | (refine no_implicit_lambda% (a_qS rfl (qAnd5 (fun _ h => h)) ?_ ?_)) | (refine no_implicit_lambda% (a_qS rfl (qStr (fun _ h => h)) ?_ ?_)) | (refine no_implicit_lambda% (a_qS rfl (qAnd4 (fun _ h => h)) ?_ ?_)) | (refine no_implicit_lambda% (a_qS rfl (qAnd2 (fun _ h => h)) ?_ ?_))); focus (first | omega | (simp; done) | (simp; omega))
            repeat' (first | (refine no_implicit_lambda% (sx1 ?_)) | (((with_reducible refine no_implicit_lambda% (is_aops ?_)); refine no_implicit_lambda% (o_split rfl rfl rfl (fun hc => ?_) (fun hc => ?_)) <;> first | exact decx hc | rw [hc])) | (((with_reducible refine no_implicit_lambda% (is_cond ?_)); refine no_implicit_lambda% (c_cond rfl (fun hc => ?_) (fun hc => ?_)) <;> first | exact decx hc | skip)) | (((with_reducible refine no_implicit_lambda% (is_aop ?_)); refine no_implicit_lambda% (a_pick rfl rfl (fun hc => ?_) (fun hc => ?_)) <;> first | exact decx hc | rw [hc])) | fail)
            ((with_reducible refine no_implicit_lambda% (is_aop ?_)); refine no_implicit_lambda% (a_loadSeq (sz := 2) (rows := o.map corow) (i := (npos o s)) (j := 1) rfl rfl rfl rfl rfl (coOk o) ((by rw [List.getElem?_map, hc1]; rfl)) rfl (by first | rfl | (simp; done) | (simp; omega)) ?_))
            repeat' (first | (refine no_implicit_lambda% (awd1 ?_)) | (((with_reducible refine no_implicit_lambda% (is_aops ?_)); refine no_implicit_lambda% (o_split rfl rfl rfl (fun hc => ?_) (fun hc => ?_)) <;> first | exact decx hc | rw [hc])) | (((with_reducible refine no_implicit_lambda% (is_cond ?_)); refine no_implicit_lambda% (c_cond rfl (fun hc => ?_) (fun hc => ?_)) <;> first | exact decx hc | skip)) | (((with_reducible refine no_implicit_lambda% (is_aop ?_)); refine no_implicit_lambda% (a_pick rfl rfl (fun hc => ?_) (fun hc => ?_)) <;> first | exact decx hc | rw [hc])) | (refine no_implicit_lambda% (ans ?_)) | (with_reducible exact retN) | (with_reducible exact retP) | fail | fail)
            · have hne : y.t ≠ t := by simpa using hc
              ((with_reducible refine no_implicit_lambda% (is_aop ?_)); first | (refine no_implicit_lambda% (a_qS rfl (fun _ h => h) ?_ ?_)) | (refine no_implicit_lambda% (a_qS rfl (qIx (fun _ h => h)) ?_ ?_)) | (refine no_implicit_lambda% (a_qS rfl (qAnd5 (fun _ h => h)) ?_ ?_)) | (refine no_implicit_lambda% (a_qS rfl (qStr (fun _ h => h)) ?_ ?_)) | (refine no_implicit_lambda% (a_qS rfl (qAnd4 (fun _ h => h)) ?_ ?_)) | (refine no_implicit_lambda% (a_qS rfl (qAnd2 (fun _ h => h)) ?_ ?_))); focus (first | omega | (simp; done) | (simp; omega))
              repeat' (first | (refine no_implicit_lambda% (awd1 ?_)) | (((with_reducible refine no_implicit_lambda% (is_aops ?_)); refine no_implicit_lambda% (o_split rfl rfl rfl (fun hc => ?_) (fun hc => ?_)) <;> first | exact decx hc | rw [hc])) | (((with_reducible refine no_implicit_lambda% (is_cond ?_)); refine no_implicit_lambda% (c_cond rfl (fun hc => ?_) (fun hc => ?_)) <;> first | exact decx hc | skip)) | (((with_reducible refine no_implicit_lambda% (is_aop ?_)); refine no_implicit_lambda% (a_pick rfl rfl (fun hc => ?_) (fun hc => ?_)) <;> first | exact decx hc | rw [hc])) | (refine no_implicit_lambda% (ans ?_)) | (with_reducible exact retN) | (with_reducible exact retP) | fail | fail)
              ((with_reducible refine no_implicit_lambda% (is_aop ?_)); refine no_implicit_lambda% (a_loadSeq (sz := 2) (rows := o.map corow) (i := (npos o s)) (j := 1) rfl rfl rfl rfl rfl (coOk o) ((by rw [List.getElem?_map, hc1]; rfl)) rfl (by first | rfl | (simp; done) | (simp; omega)) ?_))
              repeat' (first | (refine no_implicit_lambda% (awd1 ?_)) | (((with_reducible refine no_implicit_lambda% (is_aops ?_)); refine no_implicit_lambda% (o_split rfl rfl rfl (fun hc => ?_) (fun hc => ?_)) <;> first | exact decx hc | rw [hc])) | (((with_reducible refine no_implicit_lambda% (is_cond ?_)); refine no_implicit_lambda% (c_cond rfl (fun hc => ?_) (fun hc => ?_)) <;> first | exact decx hc | skip)) | (((with_reducible refine no_implicit_lambda% (is_aop ?_)); refine no_implicit_lambda% (a_pick rfl rfl (fun hc => ?_) (fun hc => ?_)) <;> first | exact decx hc | rw [hc])) | (refine no_implicit_lambda% (ans ?_)) | (with_reducible exact retN) | (with_reducible exact retP) | fail | fail)
              (refine no_implicit_lambda% (k_loopLT (((q ++ [y], k + 1) : List Ve × Nat)) 0 (List.range 90) (by show k + 1 ≤ c.l.length ∧ q ++ [y] = dropV (c.l.take (k + 1)) t; exact ⟨hk, by rw [hdt, if_neg hne, hqe]⟩) (by first | omega | (simp; done) | (simp; omega)) (Nat.le_of_ble_eq_true rfl) (fun _ h => h) (fun _ h => h) ?_ ?_)); (focus ((try dsimp only); exact wkl)); (focus ((try dsimp only); exact wkh))
            · have hne : y.t = t := by simpa using hc
              (refine no_implicit_lambda% (k_loopLT (((q, k + 1) : List Ve × Nat)) 0 (List.range 90) (by show k + 1 ≤ c.l.length ∧ q = dropV (c.l.take (k + 1)) t; exact ⟨hk, by rw [hdt, if_pos hne, hqe]; simp⟩) (by first | omega | (simp; done) | (simp; omega)) (Nat.le_of_ble_eq_true rfl) (fun _ h => h) (fun _ h => h) ?_ ?_)); (focus ((try dsimp only); exact wkl)); (focus ((try dsimp only); exact wkh))
      · first | (exact retN) | (exact retP)
  · intro xx H' hh
    obtain ⟨_, _, _, h', _⟩ := hh
    cases h'
end Go.Proofs.Ytjepgbpcpcahgaa
namespace Go.Proofs.Ytjepgbpcpcahgaa
open Go.Am
set_option linter.unusedSimpArgs false
set_option linter.unusedVariables false
set_option maxRecDepth 100000
theorem pick_c (l : List ByteArray) (n : Int) (hl : 0 < l.length ∧ l.length < 1000) (h1 : -9223372036854775808 ≤ n) (h2 : n ≤ 9223372036854775807) : ACalls Try.prog 105 0 0 [.list (l.map fun s => [.v (.string s)]) .free, .v (.int .i64 n)] [] (fun out H' => ∃ t ∈ l, out = .ret (.v (.string t)) ∧ H' = []) := by
  have hw := wthn_c n 0 1048576 h1 h2 (by decide) (by decide) (by decide) (by decide)
  refine no_implicit_lambda% (acalls_of tok dok (f := 105) ⟨Try.func105, rfl, by kernel_rfl⟩ ?_); refine no_implicit_lambda% (c_start (fun _ h => h) ?_)
  have hb := wthn_bd n 0 1048576 (by decide)
  generalize wthn n 0 1048576 = w at *
  repeat' (first | (refine no_implicit_lambda% (awd1 ?_)) | (((with_reducible refine no_implicit_lambda% (is_aops ?_)); refine no_implicit_lambda% (o_split rfl rfl rfl (fun hc => ?_) (fun hc => ?_)) <;> first | exact decx hc | rw [hc])) | (((with_reducible refine no_implicit_lambda% (is_cond ?_)); refine no_implicit_lambda% (c_cond rfl (fun hc => ?_) (fun hc => ?_)) <;> first | exact decx hc | skip)) | (((with_reducible refine no_implicit_lambda% (is_aop ?_)); refine no_implicit_lambda% (a_pick rfl rfl (fun hc => ?_) (fun hc => ?_)) <;> first | exact decx hc | rw [hc])) | (refine no_implicit_lambda% (ans ?_)) | (with_reducible exact retN) | (with_reducible exact retP) | (refine no_implicit_lambda% (cal [] (hw) ?_ ?_)) | fail)
  (with_reducible refine no_implicit_lambda% (is_aop ?_)); first | (refine no_implicit_lambda% (a_qS rfl (fun _ h => h) ?_ ?_)) | (refine no_implicit_lambda% (a_qS rfl (qIx (fun _ h => h)) ?_ ?_)) | (refine no_implicit_lambda% (a_qS rfl (qAnd5 (fun _ h => h)) ?_ ?_)) | (refine no_implicit_lambda% (a_qS rfl (qStr (fun _ h => h)) ?_ ?_)) | (refine no_implicit_lambda% (a_qS rfl (qAnd4 (fun _ h => h)) ?_ ?_)) | (refine no_implicit_lambda% (a_qS rfl (qAnd2 (fun _ h => h)) ?_ ?_))
  · rw [List.length_map]; omega
  have hj : 0 ≤ w.tmod ((l.map fun s => [AV.v (.string s)]).length : Int) ∧ w.tmod ((l.map fun s => [AV.v (.string s)]).length : Int) < l.length := by
    rw [List.length_map]
    exact ⟨Int.tmod_nonneg _ hb.1, Int.tmod_lt_of_pos _ (by omega)⟩
  generalize w.tmod ((l.map fun s => [AV.v (.string s)]).length : Int) = j at *
  obtain ⟨t, ht⟩ : ∃ t, l[j.toNat]? = some t := ⟨_, List.getElem?_eq_getElem (by omega)⟩
  have hix : 0 ≤ j ∧ (l.map fun s => [AV.v (.string s)])[j.toNat]? = some [.v (.string t)] ∧ ([AV.v (.string t)] : List AV).length = 1 := ⟨hj.1, by rw [List.getElem?_map, ht]; rfl, rfl⟩
  repeat' (first | (refine no_implicit_lambda% (awd1 ?_)) | (((with_reducible refine no_implicit_lambda% (is_aops ?_)); refine no_implicit_lambda% (o_split rfl rfl rfl (fun hc => ?_) (fun hc => ?_)) <;> first | exact decx hc | rw [hc])) | (((with_reducible refine no_implicit_lambda% (is_cond ?_)); refine no_implicit_lambda% (c_cond rfl (fun hc => ?_) (fun hc => ?_)) <;> first | exact decx hc | skip)) | (((with_reducible refine no_implicit_lambda% (is_aop ?_)); refine no_implicit_lambda% (a_pick rfl rfl (fun hc => ?_) (fun hc => ?_)) <;> first | exact decx hc | rw [hc])) | (refine no_implicit_lambda% (ans ?_)) | (with_reducible exact retN) | (with_reducible exact retP) | fail | fail)
  exact e_ret (H' := []) (rest := _) rfl ⟨t, List.mem_of_getElem? ht, rfl, rfl⟩ (.refl _) (Nat.le_of_ble_eq_true rfl)
def bsS (l : List UInt8) : ByteArray := ⟨l.toArray⟩
def colL : List ByteArray := [bsS [120], bsS [121], bsS [119], bsS [118], bsS [108, 111, 110, 103, 46, 110, 97, 109, 101, 46, 49, 54, 46, 98, 121, 116]]
theorem keepcol_c (n : Int) (h1 : -9223372036854775808 ≤ n) (h2 : n ≤ 9223372036854775807) : ACalls Try.prog 64 0 5 [.v (.int .i64 n)] [] (fun out H' => ∃ t ∈ colL, out = .ret (.v (.string t)) ∧ H' = []) := by
  have hp := pick_c colL n (by decide) h1 h2
  refine no_implicit_lambda% (acalls_of tok dok (f := 64) ⟨Try.func64, rfl, by kernel_rfl⟩ ?_); refine no_implicit_lambda% (c_start (fun _ h => h) ?_)
  repeat' (first | (refine no_implicit_lambda% (awd1 ?_)) | (((with_reducible refine no_implicit_lambda% (is_aops ?_)); refine no_implicit_lambda% (o_split rfl rfl rfl (fun hc => ?_) (fun hc => ?_)) <;> first | exact decx hc | rw [hc])) | (((with_reducible refine no_implicit_lambda% (is_cond ?_)); refine no_implicit_lambda% (c_cond rfl (fun hc => ?_) (fun hc => ?_)) <;> first | exact decx hc | skip)) | (((with_reducible refine no_implicit_lambda% (is_aop ?_)); refine no_implicit_lambda% (a_pick rfl rfl (fun hc => ?_) (fun hc => ?_)) <;> first | exact decx hc | rw [hc])) | (refine no_implicit_lambda% (ans ?_)) | (with_reducible exact retN) | (with_reducible exact retP) | fail | fail)
  (refine no_implicit_lambda% (calw [] (hp) ?_ ?_))
  · intro xx H' hh
    obtain ⟨t, ht, h', rfl⟩ := hh
    cases h'
    first | (refine no_implicit_lambda% (akc ?_)) | (refine no_implicit_lambda% (aec ?_))
    repeat' (first | (refine no_implicit_lambda% (awd1 ?_)) | (((with_reducible refine no_implicit_lambda% (is_aops ?_)); refine no_implicit_lambda% (o_split rfl rfl rfl (fun hc => ?_) (fun hc => ?_)) <;> first | exact decx hc | rw [hc])) | (((with_reducible refine no_implicit_lambda% (is_cond ?_)); refine no_implicit_lambda% (c_cond rfl (fun hc => ?_) (fun hc => ?_)) <;> first | exact decx hc | skip)) | (((with_reducible refine no_implicit_lambda% (is_aop ?_)); refine no_implicit_lambda% (a_pick rfl rfl (fun hc => ?_) (fun hc => ?_)) <;> first | exact decx hc | rw [hc])) | (refine no_implicit_lambda% (ans ?_)) | (with_reducible exact retN) | (with_reducible exact retP) | fail | fail)
    exact e_ret (H' := []) (rest := _) rfl ⟨t, ht, rfl, rfl⟩ permT (Nat.le_of_ble_eq_true rfl)
  · intro xx H' hh
    obtain ⟨_, _, h', _⟩ := hh
    cases h'
/-- an ask -/
structure Rk where
  k : Int
  c : Int
  nm : ByteArray
  t : Int
  tx : Bool
  n : Int
  x : Nat
  b : List UInt8
structure RkOk (a : Rk) : Prop where
  c : -9223372036854775808 ≤ a.c ∧ a.c ≤ 9223372036854775807
  t : -9223372036854775808 ≤ a.t ∧ a.t ≤ 9223372036854775807
  n : -9223372036854775808 ≤ a.n ∧ a.n ≤ 9223372036854775807
  x : a.x < 18446744073709551616
end Go.Proofs.Ytjepgbpcpcahgaa
namespace Go.Proofs.Ytjepgbpcpcahgaa
open Go.Am
set_option linter.unusedSimpArgs false
set_option linter.unusedVariables false
set_option maxRecDepth 100000
end Go.Proofs.Ytjepgbpcpcahgaa
namespace Go.Proofs.Ytjepgbpcpcahgaa
open Go.Am
set_option linter.unusedSimpArgs false
set_option linter.unusedVariables false
set_option maxRecDepth 100000
theorem putR_err {r : List Co} {s : ByteArray} {t : Int} {v : Va} (h : (putR r s t v).1 ≠ 0) : (putR r s t v).2 = [] := by
  unfold putR at *
  split at h
  · split at h
    · rename_i h1 h2
      rw [if_pos h1, if_pos h2]
    · exact absurd rfl h
  · rename_i h1
    rw [if_neg h1]
theorem cmpS_self (s : ByteArray) : cmpS s s = 0 := by
  have h := eq_cb s.toList s.toList
  rw [beq_self_eq_true] at h
  unfold cmpS
  exact of_decide_eq_true h.symm
theorem sLt_self (s : ByteArray) : sLt s s = false := by
  rw [sLt_eq, cmpS_self]
  rfl
theorem hasN_one {s : ByteArray} {l : List Ve} : hasN [⟨s, l⟩] s = true ∧ npos [⟨s, l⟩] s = 0 := by
  have e : npos [⟨s, l⟩] s = 0 := by unfold npos; simp [sLt_self]
  refine ⟨?_, e⟩
  unfold hasN
  rw [e]
  simp [cmpS_self]
theorem put_new {s : ByteArray} {t : Int} {v : Va} (hn : nmB s = true) (ht : tmOk t = true) (hv : vRt v = true) : putR [] s t v = (0, [⟨s, [⟨t, canV v⟩]⟩]) := by
  unfold putR
  rw [hn, ht, hv, if_pos (by rfl)]
  rfl
theorem put_one {s : ByteArray} {l : List Ve} {t : Int} {v : Va} (hF : Fine [⟨s, l⟩]) (hn : nmB s = true) (ht : tmOk t = true) (hv : vRt v = true) : putR [⟨s, l⟩] s t v = (0, [⟨s, putV l ⟨t, canV v⟩⟩]) := by
  obtain ⟨a, b⟩ := hasN_one (s := s) (l := l)
  unfold putR
  rw [hn, ht, hv, if_pos (by rfl), hF.copy, if_neg (by rw [a]; simp)]
  unfold putA
  rw [a, b, if_pos rfl]
  rfl
end Go.Proofs.Ytjepgbpcpcahgaa
namespace Go.Am
open Go.RowKit Go.ChangeShapes Go.WideShapes
set_option linter.unusedSimpArgs false
set_option linter.unusedVariables false
def cellsX (w : World) : Nat → Nat → Option Value := fun b i => w.cell? ⟨b, i, none⟩
/-- a row of cells and what is known of it -/
def RowSim (X : Nat → Nat → Option Value) (row : List AV) (cs : List Value) : Prop :=
  row.length = cs.length ∧ ∀ (j : Nat) a y, row[j]? = some a → cs[j]? = some y → SimD X a y ∧ y.oneCell' = true
section
variable {H : Type} (enc : TypeId × Value → H) (P : Program) (w : World) (base : Nat) (sp : Nat → Bool) (held : Bool)
/-- every reading of this type's cells is a row of this kind -/
def Opn (t : TypeId) (R : List AV → Prop) : Prop := ∀ fuel cs x, DataW.trod enc P w base sp held fuel t cs = some x → ∃ row, RowSim (cellsX w) row cs ∧ R row
end
section
variable {H : Type} {enc : TypeId × Value → H} {P : Program} {w : World} {base : Nat} {sp : Nat → Bool} {held : Bool}
theorem RowSim.one {X : Nat → Nat → Option Value} {a : AV} {y : Value} (h : SimD X a y) (h1 : y.oneCell' = true) : RowSim X [a] [y] :=
  ⟨rfl, fun j b z hb hz => by
    cases j with
    | zero => simp at hb hz; subst hb; subst hz; exact ⟨h, h1⟩
    | succ j => simp at hb⟩
theorem RowSim.app {X : Nat → Nat → Option Value} {r s : List AV} {c d : List Value} (h : RowSim X r c) (k : RowSim X s d) : RowSim X (r ++ s) (c ++ d) :=
  ⟨by simp [h.1, k.1], fun j a y ha hy => by
    rw [List.getElem?_append] at ha hy
    rw [h.1] at ha
    split at ha
    · rw [if_pos (by assumption)] at hy; exact h.2 j a y ha hy
    · rw [if_neg (by assumption)] at hy; exact k.2 _ a y ha hy⟩
theorem Opn.mono {t : TypeId} {R R' : List AV → Prop} (h : Opn enc P w base sp held t R) (hr : ∀ row, R row → R' row) : Opn enc P w base sp held t R' := fun fuel cs x hx => let ⟨row, h1, h2⟩ := h fuel cs x hx; ⟨row, h1, hr row h2⟩
end
end Go.Am
namespace Go.Am
section
variable {H : Type} {enc : TypeId × Value → H} {P : Program} {w : World} {base : Nat} {sp : Nat → Bool} {held : Bool}
theorem RowSim.agg {G : Ghost} {row : List AV} {cs : Array Value} (h : RowSim G.X row cs.toList) : Sim G (.agg row) (.agg cs) :=
  .agg _ _ (by have := h.1; simpa using this) fun i a ha => by
    have hi : i < cs.size := by
      have := (List.getElem?_eq_some_iff.1 ha).1
      have h1 := h.1
      simp at h1; omega
    have : cs.getD i undef = cs[i] := by simp [hi]
    rw [this]
    exact .data _ _ (h.2 i a cs[i] ha (by simp [hi])).1
end
end Go.Am
namespace Go.Proofs.Ytjepgbpcpcahgaa
open Go.Am
set_option linter.unusedSimpArgs false
set_option linter.unusedVariables false
section
variable {H : Type} {enc : TypeId × Value → H} {w : World} {base : Nat} {sp : Nat → Bool} {held : Bool}
def dvrow (tx : Bool) (n : Int) (x : Nat) (b : List UInt8) : List AV := [.v (.bool tx), .v (.int .i64 n), .v (.float .f64 x), .list (b.map brow) .free]
end
end Go.Proofs.Ytjepgbpcpcahgaa
namespace Go.Proofs.Ytjepgbpcpcahgaa
open Go.Am
set_option linter.unusedSimpArgs false
set_option linter.unusedVariables false
set_option maxRecDepth 100000
def okV (v : Va) : Prop := v.b.length < 1073741824 ∧ v.n < 18446744073709551616 ∧ vRt v = true
theorem VOk.ok {v : Va} (h : VOk v) : okV v := by
  unfold okV vRt
  rcases h with ⟨h1, h2, h3⟩ | ⟨h1, h2, h3⟩
  · rw [h1, h2]; exact ⟨by omega, by decide, by simp; omega⟩
  · rw [h1, h2]; exact ⟨by decide, h3, by simp⟩
/-- a value as it is drawn -/
structure Dv where
  tx : Bool
  n : Int
  x : Nat
  b : List UInt8
def dvr (a : Dv) : List AV := dvrow a.tx a.n a.x a.b
def DvOk (a : Dv) : Prop := (-9223372036854775808 ≤ a.n ∧ a.n ≤ 9223372036854775807) ∧ a.x < 18446744073709551616
theorem dvmade_c (a : Dv) (h : DvOk a) : ACalls Try.prog 21 0 10 [.agg (dvr a)] [] (fun out H' => ∃ v, okV v ∧ out = .ret (vav v) ∧ H' = []) :=
  (vmade_c a.tx a.n a.x a.b h.1.1 h.1.2 h.2).mono fun out H' ⟨v, h1, h2, h3⟩ => ⟨v, h1.ok, h2, h3⟩
end Go.Proofs.Ytjepgbpcpcahgaa
namespace Go.Proofs.Ytjepgbpcpcahgaa
open Go.Am
set_option linter.unusedSimpArgs false
set_option linter.unusedVariables false
set_option maxRecDepth 100000
theorem npos_at {o : List Co} (hs : Nsort o) {i : Nat} {c : Co} (h : o[i]? = some c) : npos o c.n = i ∧ hasN o c.n = true := by
  have h1 : ¬ i < npos o c.n := fun hlt => by
    have := (npos_lt hs h).1 hlt
    rw [sLt_self] at this; cases this
  have hi := (List.getElem?_eq_some_iff.1 h).1
  have h2 : i ≤ npos o c.n := by
    rcases Nat.eq_zero_or_pos i with rfl | h0
    · exact Nat.zero_le _
    · obtain ⟨d, hd⟩ : ∃ d, o[i - 1]? = some d := ⟨_, List.getElem?_eq_getElem (by omega)⟩
      have h3 := List.pairwise_iff_getElem.1 hs (i - 1) i (by omega) hi (by omega)
      rw [(List.getElem?_eq_some_iff.1 hd).2, (List.getElem?_eq_some_iff.1 h).2] at h3
      have := (npos_lt hs hd).2 h3
      omega
  have e : npos o c.n = i := by omega
  refine ⟨e, ?_⟩
  unfold hasN
  rw [e, h]
  simp [cmpS_self]
theorem hasN_not {o : List Co} {s : ByteArray} (h : ∀ c ∈ o, cmpS c.n s ≠ 0) : hasN o s = false := by
  unfold hasN
  split
  · rename_i c hc
    simpa using h c (List.mem_of_getElem? hc)
  · rfl
end Go.Proofs.Ytjepgbpcpcahgaa
namespace Go.Proofs.Ytjepgbpcpcahgaa
open Go.Am
set_option linter.unusedSimpArgs false
set_option linter.unusedVariables false
set_option maxRecDepth 100000
/-- a change -/
structure Ch where
  k : Int
  c : ByteArray
  t : Int
  v : Va
def chrow (x : Ch) : List AV := [.v (.int .i64 x.k), .v (.string x.c), .v (.int .i64 x.t)] ++ vrowV x.v
def rightC (x : Ch) : Int := if x.k < 1 ∨ 5 < x.k then 24 else if x.k = 4 then 0 else if nmB x.c = false then 1 else if x.k = 3 then 0 else if tmOk x.t = false then 1 else if x.k = 2 then 0 else if vRt x.v = false then 1 else if x.k = 5 ∧ x.v.kind ≠ 2 then 24 else 0
set_option maxHeartbeats 3200000 in
theorem refRightC_c (x : Ch) : ACalls Try.prog 115 0 50 [.agg (chrow x)] [] (fun out H' => out = .ret (.v (.int .i64 (rightC x))) ∧ H' = []) := by
  have h1 := rname_c x.c
  have h2 : ACalls Try.prog 70 0 10 [vav x.v] [] (fun out H' => out = .ret (.v (.bool (vRt x.v))) ∧ H' = []) := refRight_c x.v
  refine no_implicit_lambda% (acalls_of tok dok (f := 115) ⟨Try.func115, rfl, by kernel_rfl⟩ ?_); refine no_implicit_lambda% (c_start (fun _ h => h) ?_)
  repeat' (first | (refine no_implicit_lambda% (awd1 ?_)) | (((with_reducible refine no_implicit_lambda% (is_aops ?_)); refine no_implicit_lambda% (o_split rfl rfl rfl (fun hc => ?_) (fun hc => ?_)) <;> first | exact decx hc | rw [hc])) | (((with_reducible refine no_implicit_lambda% (is_cond ?_)); refine no_implicit_lambda% (c_cond rfl (fun hc => ?_) (fun hc => ?_)) <;> first | exact decx hc | skip)) | (((with_reducible refine no_implicit_lambda% (is_aop ?_)); refine no_implicit_lambda% (a_pick rfl rfl (fun hc => ?_) (fun hc => ?_)) <;> first | exact decx hc | rw [hc])) | (refine no_implicit_lambda% (ans ?_)) | (with_reducible exact retN) | (with_reducible exact retP) | (refine no_implicit_lambda% (cal [] (h1) ?_ ?_)) | (refine no_implicit_lambda% (cal [] (h2) ?_ ?_)) | fail)
  all_goals
    refine e_ret (H' := []) (rest := _) rfl ⟨congrArg (fun z => AOut.ret (.v (.int .i64 z))) ?_, rfl⟩ permT (Nat.le_of_ble_eq_true rfl)
    clear h1 h2
    unfold rightC tmOk
    simp only [decide_eq_true_eq, decide_eq_false_iff_not, beq_iff_eq, beq_eq_false_iff_ne, bne_iff_ne, bne_eq_false_iff_eq, Bool.not_eq_true', Bool.not_eq_false', ne_eq] at *
    repeat' split
    all_goals first | rfl | (exfalso; omega) | (exfalso; simp_all; done) | (exfalso; simp_all; omega)
def ChSz (x : Ch) : Prop := x.v.b.length < 1073741824 ∧ x.v.n < 18446744073709551616
def oldV (o : List Co) (c : ByteArray) : Va := (atR o c 1099511627776).getD ⟨2, [], 9223372036854775808⟩
/-- one change of a row -/
def stepC (o : List Co) (x : Ch) : Int × List Co :=
  if x.k = 1 then putR o x.c x.t x.v else if x.k = 2 then (0, dropR o x.c x.t) else if x.k = 3 then (0, dcR o x.c) else if x.k = 4 then (0, []) else
  if (plusV (oldV o x.c) x.v).2 ≠ 0 then ((plusV (oldV o x.c) x.v).2, []) else putR o x.c x.t (plusV (oldV o x.c) x.v).1
def foldC : List Co → List Ch → Int × List Co
  | o, [] => (0, o)
  | o, x :: l => if (stepC o x).1 ≠ 0 then ((stepC o x).1, []) else foldC (stepC o x).2 l
def firstE : List Ch → Int
  | [] => 0
  | x :: l => if rightC x ≠ 0 then rightC x else firstE l
def applyR (r : List Co) (l : List Ch) : Int × List Co := if 8 < l.length then (3, []) else if firstE l ≠ 0 then (firstE l, []) else foldC (copyR r) l
theorem sumC_lt (a b : Nat) : sumC a b < 18446744073709551616 := by
  unfold sumC
  split
  · rename_i r hr
    exact canonB_lt (add_lt hr)
  · decide
theorem plusV_sz (a b : Va) : (plusV a b).1.b.length < 1073741824 ∧ (plusV a b).1.n < 18446744073709551616 := by
  unfold plusV
  split
  · exact ⟨by simp, sumC_lt _ _⟩
  · exact ⟨by simp, by decide⟩
theorem fine_nil : Fine [] := copy_fine []
theorem sz_nil : RowSz [] := fun c hc => by cases hc
theorem stepC_err {o : List Co} {x : Ch} (h : (stepC o x).1 ≠ 0) : (stepC o x).2 = [] := by
  unfold stepC at *
  repeat' split at h
  all_goals first | (exact absurd rfl h) | skip
  · rename_i h1
    rw [if_pos h1]; exact putR_err h
  · rename_i h1 h2 h3 h4 h5
    rw [if_neg h1, if_neg h2, if_neg h3, if_neg h4, if_pos h5]
  · rename_i h1 h2 h3 h4 h5
    rw [if_neg h1, if_neg h2, if_neg h3, if_neg h4, if_neg h5]; exact putR_err h
theorem stepC_fine {o : List Co} (hF : Fine o) (x : Ch) : Fine (stepC o x).2 := by
  unfold stepC
  repeat' split
  all_goals first | exact putR_fine _ _ _ _ | exact dropA_fine (copy_fine o) _ _ | exact dc_fine o _ | exact fine_nil
theorem stepC_sz {o : List Co} (hz : RowSz o) {x : Ch} (hx : ChSz x) : RowSz (stepC o x).2 := by
  unfold stepC
  repeat' split
  all_goals first | exact putR_sz hz hx | exact dropA_sz (copy_sz hz) _ _ | exact dc_sz hz | exact sz_nil | exact putR_sz hz (plusV_sz _ _)
def apSt (l : List Ch) (R : List Co) (i : Nat) : ASt := ⟨([.dead, .list (l.map chrow) .free, .ptr 0 0, .dead, .ptr 1 0, .dead, .v (.int .i64 i)] ++ List.replicate 111 .dead), [(0, .box [.list (R.map corow) .free]), (1, .box [.list [] .full])], 2⟩
def aqSt (l : List Ch) (o : List Co) (i : Nat) : ASt := ⟨([.dead, .list (l.map chrow) .free, .dead, .dead, .ptr 1 0, .dead, .dead, .dead, .ptr 2 0, .v (.int .i64 i)] ++ List.replicate 108 .dead), [(1, .box [.list [] .full]), (2, .box [.list (o.map corow) .free])], 3⟩
theorem chx {l : List Ch} {i : Nat} {t : Ch} (h : l[i]? = some t) : 0 ≤ (i : Int) ∧ (l.map chrow)[(i : Int).toNat]? = some (chrow t) ∧ (chrow t).length = 6 := ⟨Int.natCast_nonneg _, by rw [Int.toNat_natCast, List.getElem?_map, h]; rfl, rfl⟩
theorem firstE_at {l : List Ch} {i : Nat} {x : Ch} (h : l[i]? = some x) : firstE (l.drop i) = if rightC x ≠ 0 then rightC x else firstE (l.drop (i + 1)) := by
  obtain ⟨hi, rfl⟩ := List.getElem?_eq_some_iff.1 h
  rw [List.drop_eq_getElem_cons hi]; rfl
theorem foldC_at {o : List Co} {l : List Ch} {i : Nat} {x : Ch} (h : l[i]? = some x) : foldC o (l.drop i) = if (stepC o x).1 ≠ 0 then ((stepC o x).1, []) else foldC (stepC o x).2 (l.drop (i + 1)) := by
  obtain ⟨hi, rfl⟩ := List.getElem?_eq_some_iff.1 h
  rw [List.drop_eq_getElem_cons hi]; rfl
theorem firstE_ok : ∀ {l : List Ch}, firstE l = 0 → ∀ x ∈ l, rightC x = 0
  | y :: l, h, x, hm => by
    unfold firstE at h
    split at h
    · exact absurd h (by assumption)
    · rename_i h1
      rcases List.mem_cons.1 hm with rfl | hm
      · simpa using h1
      · exact firstE_ok h x hm
theorem rightC_kind {x : Ch} (h : rightC x = 0) : 1 ≤ x.k ∧ x.k ≤ 5 := by
  unfold rightC at h
  split at h
  · cases h
  · omega
set_option maxHeartbeats 6400000 in
theorem refApply_c (r : List Co) (l : List Ch) (hr : r.length < 70368744177664) (hz : RowSz r) (hl : ∀ x ∈ l, ChSz x) (hll : l.length < 1000000) : ACalls Try.prog 78 0 500000 [rowA r, .list (l.map chrow) .free] [] (PutRR (applyR r l)) := by
  have hcp := qcopy_f r hr hz
  have hlm : ((l.map chrow).length : Int) = l.length := by rw [List.length_map]
  refine no_implicit_lambda% (acalls_of tok dok (f := 78) ⟨Try.func78, rfl, by kernel_rfl⟩ ?_); refine no_implicit_lambda% (c_start (fun _ h => h) ?_)
  repeat' (first | (refine no_implicit_lambda% (awd1 ?_)) | (((with_reducible refine no_implicit_lambda% (is_aops ?_)); refine no_implicit_lambda% (o_split rfl rfl rfl (fun hc => ?_) (fun hc => ?_)) <;> first | exact decx hc | rw [hc])) | (((with_reducible refine no_implicit_lambda% (is_cond ?_)); refine no_implicit_lambda% (c_cond rfl (fun hc => ?_) (fun hc => ?_)) <;> first | exact decx hc | skip)) | (((with_reducible refine no_implicit_lambda% (is_aop ?_)); refine no_implicit_lambda% (a_pick rfl rfl (fun hc => ?_) (fun hc => ?_)) <;> first | exact decx hc | rw [hc])) | (refine no_implicit_lambda% (ans ?_)) | (with_reducible exact retN) | (with_reducible exact retP) | fail | fail)
  · have : applyR r l = (3, []) := by unfold applyR; rw [if_pos (by have := of_decide_eq_true hc; omega)]
    rw [this]
    refine e_ret_to (H' := []) (rest := _) (Conv.toT (τ := ⟨_, [(1, .box [.list [] .free])], _⟩) (.refl _) ?_ (Nat.le_refl _)) rfl ⟨rfl, rfl⟩ (.of_eq rfl) (Nat.le_of_ble_eq_true rfl)
    exact wkh
  · have hl8 : ¬ 8 < l.length := by have := of_decide_eq_false hc; omega
    refine c_loop' (apSt l r) (fun i => i ≤ l.length ∧ firstE l = firstE (l.drop i)) (fun i => l.length - i) (a := 0) ⟨Nat.zero_le _, rfl⟩ ?_ ?_
    · (refine no_implicit_lambda% (Conv.toT ?_ ?_ (Nat.le_of_ble_eq_true rfl))); (focus ((unfold apSt); (try dsimp only); exact wkl)); (focus ((unfold apSt); (try dsimp only); exact wkh))
    · rintro i ⟨i1, i2⟩
      refine c_turn (n' := 2) (fun _ h => h) (fun _ h => h) rfl ?_
      rcases hx : l[i]? with _ | x
      · have hi : i = l.length := by have := List.getElem?_eq_none_iff.1 hx; omega
        have hf0 : firstE l = 0 := by rw [i2, hi, List.drop_length]; rfl
        have hap : applyR r l = foldC (copyR r) l := by unfold applyR; rw [if_neg hl8, if_neg (by simp [hf0])]
        rw [hap]
        have hco := copy_fine r
        have hcz := copy_sz hz
        generalize copyR r = o0 at *
        repeat' (first | (refine no_implicit_lambda% (awd1 ?_)) | (((with_reducible refine no_implicit_lambda% (is_aops ?_)); refine no_implicit_lambda% (o_split rfl rfl rfl (fun hc => ?_) (fun hc => ?_)) <;> first | exact decx hc | rw [hc])) | (((with_reducible refine no_implicit_lambda% (is_cond ?_)); refine no_implicit_lambda% (c_cond rfl (fun hc => ?_) (fun hc => ?_)) <;> first | exact decx hc | skip)) | (((with_reducible refine no_implicit_lambda% (is_aop ?_)); refine no_implicit_lambda% (a_pick rfl rfl (fun hc => ?_) (fun hc => ?_)) <;> first | exact decx hc | rw [hc])) | (refine no_implicit_lambda% (ans ?_)) | (with_reducible exact retN) | (with_reducible exact retP) | (refine no_implicit_lambda% (cal [] (hcp) ?_ ?_)) | fail)
        refine c_loop2 (aqSt l) (fun o i => i ≤ l.length ∧ Fine o ∧ RowSz o ∧ foldC o0 l = foldC o (l.drop i)) (fun _ i => l.length - i) o0 0 ⟨Nat.zero_le _, hco, hcz, rfl⟩ ?_ ?_
        · (refine no_implicit_lambda% (Conv.toT ?_ ?_ (Nat.le_of_ble_eq_true rfl))); (focus ((unfold aqSt); (try dsimp only); exact wkl)); (focus ((unfold aqSt); (try dsimp only); exact wkh))
        · rintro o j ⟨j1, hF, hzo, j2⟩
          have ho4 := hF.len
          have hor : o.length < 70368744177664 := by omega
          refine c_turn (n' := 3) (fun _ h => h) (fun _ h => h) rfl ?_
          rcases hy : l[j]? with _ | x
          · have hj : j = l.length := by have := List.getElem?_eq_none_iff.1 hy; omega
            rw [j2, hj, List.drop_length]
            repeat' (first | (refine no_implicit_lambda% (awd1 ?_)) | (((with_reducible refine no_implicit_lambda% (is_aops ?_)); refine no_implicit_lambda% (o_split rfl rfl rfl (fun hc => ?_) (fun hc => ?_)) <;> first | exact decx hc | rw [hc])) | (((with_reducible refine no_implicit_lambda% (is_cond ?_)); refine no_implicit_lambda% (c_cond rfl (fun hc => ?_) (fun hc => ?_)) <;> first | exact decx hc | skip)) | (((with_reducible refine no_implicit_lambda% (is_aop ?_)); refine no_implicit_lambda% (a_pick rfl rfl (fun hc => ?_) (fun hc => ?_)) <;> first | exact decx hc | rw [hc])) | (refine no_implicit_lambda% (ans ?_)) | (with_reducible exact retN) | (with_reducible exact retP) | fail | fail)
            exact e_ret (H' := []) (rest := _) rfl ⟨rfl, rfl⟩ permT (Nat.le_of_ble_eq_true rfl)
          · have hj : j < l.length := (List.getElem?_eq_some_iff.1 hy).1
            have hix := chx hy
            have hxz := hl x (List.mem_of_getElem? hy)
            have hkd := rightC_kind (firstE_ok hf0 x (List.mem_of_getElem? hy))
            have hfa := foldC_at (o := o) hy
            have hsf := stepC_fine hF x
            have hsz := stepC_sz hzo hxz
            have hse := stepC_err (o := o) (x := x)
            rw [hfa] at j2
            have p2 := qdrop_c o x.c x.t hor hzo
            have p3 := qdropcol_c o x.c hor hzo
            have hkk : x.k = 1 ∨ x.k = 2 ∨ x.k = 3 ∨ x.k = 4 ∨ x.k = 5 := by omega
            rcases hkk with hk | hk | hk | hk | hk
            · have p1 := qput_c o x.c x.t x.v hor hzo hxz
              have hs : stepC o x = putR o x.c x.t x.v := by unfold stepC; rw [if_pos hk]
              rw [← hs] at p1
              unfold PutRR at p1
              generalize stepC o x = Q at *
              obtain ⟨e, X⟩ := Q
              repeat' (first | (refine no_implicit_lambda% (awd1 ?_)) | (((with_reducible refine no_implicit_lambda% (is_aops ?_)); refine no_implicit_lambda% (o_split rfl rfl rfl (fun hc => ?_) (fun hc => ?_)) <;> first | exact decx hc | rw [hc])) | (((with_reducible refine no_implicit_lambda% (is_cond ?_)); refine no_implicit_lambda% (c_cond rfl (fun hc => ?_) (fun hc => ?_)) <;> first | exact decx hc | skip)) | (((with_reducible refine no_implicit_lambda% (is_aop ?_)); refine no_implicit_lambda% (a_pick rfl rfl (fun hc => ?_) (fun hc => ?_)) <;> first | exact decx hc | rw [hc])) | (refine no_implicit_lambda% (ans ?_)) | (with_reducible exact retN) | (with_reducible exact retP) | (refine no_implicit_lambda% (cal [] (p1) ?_ ?_)) | fail)
              · have he : e ≠ 0 := by simpa using hc
                rw [j2, if_pos he]
                refine e_ret_to (H' := []) (rest := _) (Conv.toT (τ := ⟨_, [(1, .box [.list [] .free])], _⟩) (.refl _) ?_ (Nat.le_refl _)) rfl ⟨rfl, rfl⟩ (.of_eq rfl) (Nat.le_of_ble_eq_true rfl)
                exact wkh
              · have he : e = 0 := by simpa using hc
                rw [if_neg (by simp [he])] at j2
                (refine no_implicit_lambda% (k_loopLT (((X, j + 1) : List Co × Nat)) 0 [0, 1, 2] (by show j + 1 ≤ l.length ∧ Fine X ∧ RowSz X ∧ foldC o0 l = foldC X (l.drop (j + 1)); exact ⟨hj, hsf, hsz, j2⟩) (by first | omega | (simp; done) | (simp; omega)) (Nat.le_of_ble_eq_true rfl) (fun _ h => h) (fun _ h => h) ?_ ?_)); (focus ((try dsimp only); exact wkl)); (focus ((try dsimp only); exact wkh))
            · have hs : stepC o x = (0, dropR o x.c x.t) := by unfold stepC; rw [if_neg (by omega), if_pos hk]
              rw [hs] at hsf hsz j2
              rw [if_neg (by simp)] at j2
              repeat' (first | (refine no_implicit_lambda% (awd1 ?_)) | (((with_reducible refine no_implicit_lambda% (is_aops ?_)); refine no_implicit_lambda% (o_split rfl rfl rfl (fun hc => ?_) (fun hc => ?_)) <;> first | exact decx hc | rw [hc])) | (((with_reducible refine no_implicit_lambda% (is_cond ?_)); refine no_implicit_lambda% (c_cond rfl (fun hc => ?_) (fun hc => ?_)) <;> first | exact decx hc | skip)) | (((with_reducible refine no_implicit_lambda% (is_aop ?_)); refine no_implicit_lambda% (a_pick rfl rfl (fun hc => ?_) (fun hc => ?_)) <;> first | exact decx hc | rw [hc])) | (refine no_implicit_lambda% (ans ?_)) | (with_reducible exact retN) | (with_reducible exact retP) | (refine no_implicit_lambda% (cal [] (p2) ?_ ?_)) | fail)
              (refine no_implicit_lambda% (k_loopLT (((dropR o x.c x.t, j + 1) : List Co × Nat)) 0 [0, 1, 2] (by show j + 1 ≤ l.length ∧ Fine (dropR o x.c x.t) ∧ RowSz (dropR o x.c x.t) ∧ foldC o0 l = foldC (dropR o x.c x.t) (l.drop (j + 1)); exact ⟨hj, hsf, hsz, j2⟩) (by first | omega | (simp; done) | (simp; omega)) (Nat.le_of_ble_eq_true rfl) (fun _ h => h) (fun _ h => h) ?_ ?_)); (focus ((try dsimp only); exact wkl)); (focus ((try dsimp only); exact wkh))
            · have hs : stepC o x = (0, dcR o x.c) := by unfold stepC; rw [if_neg (by omega), if_neg (by omega), if_pos hk]
              rw [hs] at hsf hsz j2
              rw [if_neg (by simp)] at j2
              repeat' (first | (refine no_implicit_lambda% (awd1 ?_)) | (((with_reducible refine no_implicit_lambda% (is_aops ?_)); refine no_implicit_lambda% (o_split rfl rfl rfl (fun hc => ?_) (fun hc => ?_)) <;> first | exact decx hc | rw [hc])) | (((with_reducible refine no_implicit_lambda% (is_cond ?_)); refine no_implicit_lambda% (c_cond rfl (fun hc => ?_) (fun hc => ?_)) <;> first | exact decx hc | skip)) | (((with_reducible refine no_implicit_lambda% (is_aop ?_)); refine no_implicit_lambda% (a_pick rfl rfl (fun hc => ?_) (fun hc => ?_)) <;> first | exact decx hc | rw [hc])) | (refine no_implicit_lambda% (ans ?_)) | (with_reducible exact retN) | (with_reducible exact retP) | (refine no_implicit_lambda% (cal [] (p3) ?_ ?_)) | fail)
              (refine no_implicit_lambda% (k_loopLT (((dcR o x.c, j + 1) : List Co × Nat)) 0 [0, 1, 2] (by show j + 1 ≤ l.length ∧ Fine (dcR o x.c) ∧ RowSz (dcR o x.c) ∧ foldC o0 l = foldC (dcR o x.c) (l.drop (j + 1)); exact ⟨hj, hsf, hsz, j2⟩) (by first | omega | (simp; done) | (simp; omega)) (Nat.le_of_ble_eq_true rfl) (fun _ h => h) (fun _ h => h) ?_ ?_)); (focus ((try dsimp only); exact wkl)); (focus ((try dsimp only); exact wkh))
            · have hs : stepC o x = (0, []) := by unfold stepC; rw [if_neg (by omega), if_neg (by omega), if_neg (by omega), if_pos hk]
              rw [hs] at hsf hsz j2
              rw [if_neg (by simp)] at j2
              repeat' (first | (refine no_implicit_lambda% (awd1 ?_)) | (((with_reducible refine no_implicit_lambda% (is_aops ?_)); refine no_implicit_lambda% (o_split rfl rfl rfl (fun hc => ?_) (fun hc => ?_)) <;> first | exact decx hc | rw [hc])) | (((with_reducible refine no_implicit_lambda% (is_cond ?_)); refine no_implicit_lambda% (c_cond rfl (fun hc => ?_) (fun hc => ?_)) <;> first | exact decx hc | skip)) | (((with_reducible refine no_implicit_lambda% (is_aop ?_)); refine no_implicit_lambda% (a_pick rfl rfl (fun hc => ?_) (fun hc => ?_)) <;> first | exact decx hc | rw [hc])) | (refine no_implicit_lambda% (ans ?_)) | (with_reducible exact retN) | (with_reducible exact retP) | fail | fail)
              (refine no_implicit_lambda% (k_loopLT ((([], j + 1) : List Co × Nat)) 0 [0, 1, 2] (by show j + 1 ≤ l.length ∧ Fine [] ∧ RowSz [] ∧ foldC o0 l = foldC [] (l.drop (j + 1)); exact ⟨hj, hsf, hsz, j2⟩) (by first | omega | (simp; done) | (simp; omega)) (Nat.le_of_ble_eq_true rfl) (fun _ h => h) (fun _ h => h) ?_ ?_)); (focus ((try dsimp only); exact wkl)); (focus ((try dsimp only); exact wkh))
            · have hs : stepC o x = if (plusV (oldV o x.c) x.v).2 ≠ 0 then ((plusV (oldV o x.c) x.v).2, []) else putR o x.c x.t (plusV (oldV o x.c) x.v).1 := by unfold stepC; rw [if_neg (by omega), if_neg (by omega), if_neg (by omega), if_neg (by omega)]
              have p4 := qnewest_c o x.c hor hzo
              have p5 := refPlus_c (oldV o x.c) x.v
              have p6 := qput_c o x.c x.t (plusV (oldV o x.c) x.v).1 hor hzo (plusV_sz _ _)
              have p7 := csign_c
              unfold PutRR at p6
              have hold : oldV o x.c = (atR o x.c 1099511627776).getD ⟨2, [], 9223372036854775808⟩ := rfl
              generalize stepC o x = S at *
              generalize plusV (oldV o x.c) x.v = W at *
              generalize putR o x.c x.t W.1 = Q at *
              obtain ⟨w, f⟩ := W
              obtain ⟨e, X⟩ := Q
              rcases hat : atR o x.c 1099511627776 with _ | ov
              · rw [hat] at hold p4
                rw [hold] at p5
                unfold optA at p4
                repeat' (first | (refine no_implicit_lambda% (awd1 ?_)) | (((with_reducible refine no_implicit_lambda% (is_aops ?_)); refine no_implicit_lambda% (o_split rfl rfl rfl (fun hc => ?_) (fun hc => ?_)) <;> first | exact decx hc | rw [hc])) | (((with_reducible refine no_implicit_lambda% (is_cond ?_)); refine no_implicit_lambda% (c_cond rfl (fun hc => ?_) (fun hc => ?_)) <;> first | exact decx hc | skip)) | (((with_reducible refine no_implicit_lambda% (is_aop ?_)); refine no_implicit_lambda% (a_pick rfl rfl (fun hc => ?_) (fun hc => ?_)) <;> first | exact decx hc | rw [hc])) | (refine no_implicit_lambda% (ans ?_)) | (with_reducible exact retN) | (with_reducible exact retP) | (refine no_implicit_lambda% (cal [] (p4) ?_ ?_)) | (refine no_implicit_lambda% (cal [] (p7) ?_ ?_)) | fail)
                (refine no_implicit_lambda% (calw [] (p5) ?_ ?_))
                rotate_left
                · first | (exact retN) | (exact retP)
                refine no_implicit_lambda% (ret1 ?_); first | (refine no_implicit_lambda% (akc ?_)) | (refine no_implicit_lambda% (aec ?_))
                repeat' (first | (refine no_implicit_lambda% (awd1 ?_)) | (((with_reducible refine no_implicit_lambda% (is_aops ?_)); refine no_implicit_lambda% (o_split rfl rfl rfl (fun hc => ?_) (fun hc => ?_)) <;> first | exact decx hc | rw [hc])) | (((with_reducible refine no_implicit_lambda% (is_cond ?_)); refine no_implicit_lambda% (c_cond rfl (fun hc => ?_) (fun hc => ?_)) <;> first | exact decx hc | skip)) | (((with_reducible refine no_implicit_lambda% (is_aop ?_)); refine no_implicit_lambda% (a_pick rfl rfl (fun hc => ?_) (fun hc => ?_)) <;> first | exact decx hc | rw [hc])) | (refine no_implicit_lambda% (ans ?_)) | (with_reducible exact retN) | (with_reducible exact retP) | (refine no_implicit_lambda% (cal [] (p6) ?_ ?_)) | fail)
                · have he : f ≠ 0 := by simpa using hc
                  rw [if_pos he] at hs
                  rw [hs] at j2
                  rw [j2, if_pos he]
                  refine e_ret_to (H' := []) (rest := _) (Conv.toT (τ := ⟨_, [(1, .box [.list [] .free])], _⟩) (.refl _) ?_ (Nat.le_refl _)) rfl ⟨rfl, rfl⟩ (.of_eq rfl) (Nat.le_of_ble_eq_true rfl)
                  exact wkh
                · rename_i hc0
                  have hf0 : f = 0 := by simpa using hc0
                  have he : e ≠ 0 := by simpa using hc
                  rw [if_neg (by simp [hf0])] at hs
                  rw [hs] at j2
                  rw [j2, if_pos he]
                  refine e_ret_to (H' := []) (rest := _) (Conv.toT (τ := ⟨_, [(1, .box [.list [] .free])], _⟩) (.refl _) ?_ (Nat.le_refl _)) rfl ⟨rfl, rfl⟩ (.of_eq rfl) (Nat.le_of_ble_eq_true rfl)
                  exact wkh
                · rename_i hc0
                  have hf0 : f = 0 := by simpa using hc0
                  have he : e = 0 := by simpa using hc
                  rw [if_neg (by simp [hf0])] at hs
                  rw [hs] at j2 hsf hsz
                  rw [if_neg (by simp [he])] at j2
                  (refine no_implicit_lambda% (k_loopLT (((X, j + 1) : List Co × Nat)) 0 [0, 1, 2] (by show j + 1 ≤ l.length ∧ Fine X ∧ RowSz X ∧ foldC o0 l = foldC X (l.drop (j + 1)); exact ⟨hj, hsf, hsz, j2⟩) (by first | omega | (simp; done) | (simp; omega)) (Nat.le_of_ble_eq_true rfl) (fun _ h => h) (fun _ h => h) ?_ ?_)); (focus ((try dsimp only); exact wkl)); (focus ((try dsimp only); exact wkh))
              · rw [hat] at hold p4
                rw [hold] at p5
                unfold optA at p4
                repeat' (first | (refine no_implicit_lambda% (awd1 ?_)) | (((with_reducible refine no_implicit_lambda% (is_aops ?_)); refine no_implicit_lambda% (o_split rfl rfl rfl (fun hc => ?_) (fun hc => ?_)) <;> first | exact decx hc | rw [hc])) | (((with_reducible refine no_implicit_lambda% (is_cond ?_)); refine no_implicit_lambda% (c_cond rfl (fun hc => ?_) (fun hc => ?_)) <;> first | exact decx hc | skip)) | (((with_reducible refine no_implicit_lambda% (is_aop ?_)); refine no_implicit_lambda% (a_pick rfl rfl (fun hc => ?_) (fun hc => ?_)) <;> first | exact decx hc | rw [hc])) | (refine no_implicit_lambda% (ans ?_)) | (with_reducible exact retN) | (with_reducible exact retP) | (refine no_implicit_lambda% (cal [] (p4) ?_ ?_)) | (refine no_implicit_lambda% (cal [] (p5) ?_ ?_)) | (refine no_implicit_lambda% (cal [] (p6) ?_ ?_)) | fail)
                · have he : f ≠ 0 := by simpa using hc
                  rw [if_pos he] at hs
                  rw [hs] at j2
                  rw [j2, if_pos he]
                  refine e_ret_to (H' := []) (rest := _) (Conv.toT (τ := ⟨_, [(1, .box [.list [] .free])], _⟩) (.refl _) ?_ (Nat.le_refl _)) rfl ⟨rfl, rfl⟩ (.of_eq rfl) (Nat.le_of_ble_eq_true rfl)
                  exact wkh
                · rename_i hc0
                  have hf0 : f = 0 := by simpa using hc0
                  have he : e ≠ 0 := by simpa using hc
                  rw [if_neg (by simp [hf0])] at hs
                  rw [hs] at j2
                  rw [j2, if_pos he]
                  refine e_ret_to (H' := []) (rest := _) (Conv.toT (τ := ⟨_, [(1, .box [.list [] .free])], _⟩) (.refl _) ?_ (Nat.le_refl _)) rfl ⟨rfl, rfl⟩ (.of_eq rfl) (Nat.le_of_ble_eq_true rfl)
                  exact wkh
                · rename_i hc0
                  have hf0 : f = 0 := by simpa using hc0
                  have he : e = 0 := by simpa using hc
                  rw [if_neg (by simp [hf0])] at hs
                  rw [hs] at j2 hsf hsz
                  rw [if_neg (by simp [he])] at j2
                  (refine no_implicit_lambda% (k_loopLT (((X, j + 1) : List Co × Nat)) 0 [0, 1, 2] (by show j + 1 ≤ l.length ∧ Fine X ∧ RowSz X ∧ foldC o0 l = foldC X (l.drop (j + 1)); exact ⟨hj, hsf, hsz, j2⟩) (by first | omega | (simp; done) | (simp; omega)) (Nat.le_of_ble_eq_true rfl) (fun _ h => h) (fun _ h => h) ?_ ?_)); (focus ((try dsimp only); exact wkl)); (focus ((try dsimp only); exact wkh))
      · have hi : i < l.length := (List.getElem?_eq_some_iff.1 hx).1
        have hix := chx hx
        have hrx := refRightC_c x
        rw [firstE_at hx] at i2
        repeat' (first | (refine no_implicit_lambda% (awd1 ?_)) | (((with_reducible refine no_implicit_lambda% (is_aops ?_)); refine no_implicit_lambda% (o_split rfl rfl rfl (fun hc => ?_) (fun hc => ?_)) <;> first | exact decx hc | rw [hc])) | (((with_reducible refine no_implicit_lambda% (is_cond ?_)); refine no_implicit_lambda% (c_cond rfl (fun hc => ?_) (fun hc => ?_)) <;> first | exact decx hc | skip)) | (((with_reducible refine no_implicit_lambda% (is_aop ?_)); refine no_implicit_lambda% (a_pick rfl rfl (fun hc => ?_) (fun hc => ?_)) <;> first | exact decx hc | rw [hc])) | (refine no_implicit_lambda% (ans ?_)) | (with_reducible exact retN) | (with_reducible exact retP) | (refine no_implicit_lambda% (cal [] (hrx) ?_ ?_)) | fail)
        · have he : rightC x ≠ 0 := by simpa using hc
          have hap : applyR r l = (rightC x, []) := by
            unfold applyR
            rw [if_neg hl8, i2, if_pos he, if_pos he]
          rw [hap]
          refine e_ret_to (H' := []) (rest := _) (Conv.toT (τ := ⟨_, [(1, .box [.list [] .free])], _⟩) (.refl _) ?_ (Nat.le_refl _)) rfl ⟨rfl, rfl⟩ (.of_eq rfl) (Nat.le_of_ble_eq_true rfl)
          exact wkh
        · have he : rightC x = 0 := by simpa using hc
          rw [if_neg (by simp [he])] at i2
          (refine no_implicit_lambda% (k_loopLT (i + 1) 0 [0, 1] (by show i + 1 ≤ l.length ∧ firstE l = firstE (l.drop (i + 1)); exact ⟨hi, i2⟩) (by first | omega | (simp; done) | (simp; omega)) (Nat.le_of_ble_eq_true rfl) (fun _ h => h) (fun _ h => h) ?_ ?_)); (focus ((try dsimp only); exact wkl)); (focus ((try dsimp only); exact wkh))
end Go.Proofs.Ytjepgbpcpcahgaa
namespace Go.Proofs.Ytjepgbpcpcahgaa
open Go.Am
set_option linter.unusedSimpArgs false
set_option linter.unusedVariables false
set_option maxRecDepth 100000
/-- a change as it is drawn -/
structure Cw where
  k : Int
  c : Int
  t : Int
  v : Dv
def cwrow (a : Cw) : List AV := [.v (.int .i64 a.k), .v (.int .i64 a.c), .v (.int .i64 a.t)] ++ dvr a.v
structure CwOk (a : Cw) : Prop where
  k : -9223372036854775808 ≤ a.k ∧ a.k ≤ 9223372036854775807
  c : -9223372036854775808 ≤ a.c ∧ a.c ≤ 9223372036854775807
  t : -9223372036854775808 ≤ a.t ∧ a.t ≤ 9223372036854775807
  v : DvOk a.v
theorem colL_nm {s : ByteArray} (h : s ∈ colL) : nmB s = true := by
  unfold colL at h
  simp only [List.mem_cons, List.not_mem_nil, or_false] at h
  rcases h with rfl | rfl | rfl | rfl | rfl <;> decide
def ChOk (x : Ch) : Prop := ChSz x ∧ rightC x = 0
set_option maxHeartbeats 3200000 in
theorem chmade_c (a : Cw) (h : CwOk a) : ACalls Try.prog 79 0 100 [.agg (cwrow a)] [] (fun out H' => ∃ x, ChOk x ∧ out = .ret (.agg (chrow x)) ∧ H' = []) := by
  have w1 := wthn_c a.k 0 1048576 h.k.1 h.k.2 (by decide) (by decide) (by decide) (by decide)
  have w2 := wthn_c a.t 0 30 h.t.1 h.t.2 (by decide) (by decide) (by decide) (by decide)
  have b1 := wthn_bd a.k 0 1048576 (by decide)
  have b2 := wthn_bd a.t 0 30 (by decide)
  generalize wthn a.k 0 1048576 = k0 at *
  generalize wthn a.t 0 30 = t at *
  have hk5 := Int.tmod_lt_of_pos k0 (show (0 : Int) < 5 by decide)
  have hk0 : 0 ≤ k0.tmod 5 := Int.tmod_nonneg _ b1.1
  have hw : IntKind.i64.wrap (1 + k0.tmod 5) = 1 + k0.tmod 5 := z64 (by omega) (by omega)
  have hft := flt_c a.v.n a.v.x h.v.1.1 h.v.1.2 h.v.2
  refine no_implicit_lambda% (acalls_of tok dok (f := 79) ⟨Try.func79, rfl, by kernel_rfl⟩ ?_); refine no_implicit_lambda% (c_start (fun _ h => h) ?_)
  repeat' (first | (refine no_implicit_lambda% (awd1 ?_)) | (((with_reducible refine no_implicit_lambda% (is_aops ?_)); refine no_implicit_lambda% (o_split rfl rfl rfl (fun hc => ?_) (fun hc => ?_)) <;> first | exact decx hc | rw [hc])) | (((with_reducible refine no_implicit_lambda% (is_cond ?_)); refine no_implicit_lambda% (c_cond rfl (fun hc => ?_) (fun hc => ?_)) <;> first | exact decx hc | skip)) | (((with_reducible refine no_implicit_lambda% (is_aop ?_)); refine no_implicit_lambda% (a_pick rfl rfl (fun hc => ?_) (fun hc => ?_)) <;> first | exact decx hc | rw [hc])) | (refine no_implicit_lambda% (ans ?_)) | (with_reducible exact retN) | (with_reducible exact retP) | (refine no_implicit_lambda% (cal [] (w1) ?_ ?_)) | fail)
  (refine no_implicit_lambda% (cal [] (keepcol_c a.c h.c.1 h.c.2) ?_ ?_))
  · intro xx H' hh
    obtain ⟨s, hs, h', rfl⟩ := hh
    cases h'
    first | (refine no_implicit_lambda% (akc ?_)) | (refine no_implicit_lambda% (aec ?_))
    have hsn := colL_nm hs
    repeat' (first | (refine no_implicit_lambda% (awd1 ?_)) | (((with_reducible refine no_implicit_lambda% (is_aops ?_)); refine no_implicit_lambda% (o_split rfl rfl rfl (fun hc => ?_) (fun hc => ?_)) <;> first | exact decx hc | rw [hc])) | (((with_reducible refine no_implicit_lambda% (is_cond ?_)); refine no_implicit_lambda% (c_cond rfl (fun hc => ?_) (fun hc => ?_)) <;> first | exact decx hc | skip)) | (((with_reducible refine no_implicit_lambda% (is_aop ?_)); refine no_implicit_lambda% (a_pick rfl rfl (fun hc => ?_) (fun hc => ?_)) <;> first | exact decx hc | rw [hc])) | (refine no_implicit_lambda% (ans ?_)) | (with_reducible exact retN) | (with_reducible exact retP) | (refine no_implicit_lambda% (cal [] (w2) ?_ ?_)) | fail)
    (refine no_implicit_lambda% (cal [] (dvmade_c a.v h.v) ?_ ?_))
    · intro xx H' hh
      obtain ⟨v, hv, h', rfl⟩ := hh
      cases h'
      first | (refine no_implicit_lambda% (akc ?_)) | (refine no_implicit_lambda% (aec ?_))
      have hk : 1 ≤ IntKind.i64.wrap (1 + k0.tmod 5) ∧ IntKind.i64.wrap (1 + k0.tmod 5) ≤ 5 := by omega
      generalize IntKind.i64.wrap (1 + k0.tmod 5) = kk at *
      have htk : tmOk t = true := decide_eq_true (by omega)
      repeat' (first | (refine no_implicit_lambda% (awd1 ?_)) | (((with_reducible refine no_implicit_lambda% (is_aops ?_)); refine no_implicit_lambda% (o_split rfl rfl rfl (fun hc => ?_) (fun hc => ?_)) <;> first | exact decx hc | rw [hc])) | (((with_reducible refine no_implicit_lambda% (is_cond ?_)); refine no_implicit_lambda% (c_cond rfl (fun hc => ?_) (fun hc => ?_)) <;> first | exact decx hc | skip)) | (((with_reducible refine no_implicit_lambda% (is_aop ?_)); refine no_implicit_lambda% (a_pick rfl rfl (fun hc => ?_) (fun hc => ?_)) <;> first | exact decx hc | rw [hc])) | (refine no_implicit_lambda% (ans ?_)) | (with_reducible exact retN) | (with_reducible exact retP) | fail | fail)
      · (refine no_implicit_lambda% (cal [] (hft) ?_ ?_))
        · intro xx H' hh
          obtain ⟨fb, hfb, h', rfl⟩ := hh
          cases h'
          first | (refine no_implicit_lambda% (akc ?_)) | (refine no_implicit_lambda% (aec ?_))
          repeat' (first | (refine no_implicit_lambda% (awd1 ?_)) | (((with_reducible refine no_implicit_lambda% (is_aops ?_)); refine no_implicit_lambda% (o_split rfl rfl rfl (fun hc => ?_) (fun hc => ?_)) <;> first | exact decx hc | rw [hc])) | (((with_reducible refine no_implicit_lambda% (is_cond ?_)); refine no_implicit_lambda% (c_cond rfl (fun hc => ?_) (fun hc => ?_)) <;> first | exact decx hc | skip)) | (((with_reducible refine no_implicit_lambda% (is_aop ?_)); refine no_implicit_lambda% (a_pick rfl rfl (fun hc => ?_) (fun hc => ?_)) <;> first | exact decx hc | rw [hc])) | (refine no_implicit_lambda% (ans ?_)) | (with_reducible exact retN) | (with_reducible exact retP) | fail | fail)
          have hk5 : kk = 5 := by simpa using hc
          subst hk5
          refine e_ret_to (H' := []) (rest := _) (Conv.toT (τ := ⟨_, [(1, .box (chrow ⟨5, s, t, ⟨2, [], fb⟩⟩))], _⟩) (.refl _) ?_ (Nat.le_refl _)) rfl ⟨⟨5, s, t, ⟨2, [], fb⟩⟩, ⟨?_, ?_⟩, rfl, rfl⟩ (.of_eq rfl) (Nat.le_of_ble_eq_true rfl)
          · exact wkh
          · exact ⟨show 0 < 1073741824 by decide, hfb⟩
          · unfold rightC; rw [hsn, htk]; rfl
        · intro xx H' hh
          obtain ⟨_, _, h', _⟩ := hh
          cases h'
      · have hk5 : kk = 2 := by simpa using hc
        subst hk5
        refine e_ret_to (H' := []) (rest := _) (Conv.toT (τ := ⟨_, [(1, .box (chrow ⟨2, s, t, ⟨0, [], 0⟩⟩))], _⟩) (.refl _) ?_ (Nat.le_refl _)) rfl ⟨⟨2, s, t, ⟨0, [], 0⟩⟩, ⟨?_, ?_⟩, rfl, rfl⟩ (.of_eq rfl) (Nat.le_of_ble_eq_true rfl)
        · exact wkh
        · exact ⟨show 0 < 1073741824 by decide, show 0 < 18446744073709551616 by decide⟩
        · unfold rightC; rw [hsn, htk]; rfl
      · have hk5 : kk = 3 := by simpa using hc
        subst hk5
        refine e_ret_to (H' := []) (rest := _) (Conv.toT (τ := ⟨_, [(1, .box (chrow ⟨3, s, 0, ⟨0, [], 0⟩⟩))], _⟩) (.refl _) ?_ (Nat.le_refl _)) rfl ⟨⟨3, s, 0, ⟨0, [], 0⟩⟩, ⟨?_, ?_⟩, rfl, rfl⟩ (.of_eq rfl) (Nat.le_of_ble_eq_true rfl)
        · exact wkh
        · exact ⟨show 0 < 1073741824 by decide, show 0 < 18446744073709551616 by decide⟩
        · unfold rightC; rw [hsn]; rfl
      · have hk5 : kk = 4 := by simpa using hc
        subst hk5
        refine e_ret_to (H' := []) (rest := _) (Conv.toT (τ := ⟨_, [(1, .box (chrow ⟨4, ByteArray.empty, 0, ⟨0, [], 0⟩⟩))], _⟩) (.refl _) ?_ (Nat.le_refl _)) rfl ⟨⟨4, ByteArray.empty, 0, ⟨0, [], 0⟩⟩, ⟨?_, ?_⟩, rfl, rfl⟩ (.of_eq rfl) (Nat.le_of_ble_eq_true rfl)
        · exact wkh
        · exact ⟨show 0 < 1073741824 by decide, show 0 < 18446744073709551616 by decide⟩
        · rfl
      · have hk5 : kk = 1 := by
          simp only [beq_eq_false_iff_ne] at *
          omega
        subst hk5
        refine e_ret_to (H' := []) (rest := _) (Conv.toT (τ := ⟨_, [(1, .box (chrow ⟨1, s, t, v⟩))], _⟩) (.refl _) ?_ (Nat.le_refl _)) rfl ⟨⟨1, s, t, v⟩, ⟨?_, ?_⟩, rfl, rfl⟩ (.of_eq rfl) (Nat.le_of_ble_eq_true rfl)
        · exact wkh
        · exact ⟨hv.1, hv.2.1⟩
        · unfold rightC; rw [hsn, htk, hv.2.2]; rfl
    · intro xx H' hh
      obtain ⟨_, _, h', _⟩ := hh
      cases h'
  · intro xx H' hh
    obtain ⟨_, _, h', _⟩ := hh
    cases h'
end Go.Proofs.Ytjepgbpcpcahgaa
namespace Go.Proofs.Ytjepgbpcpcahgaa
open Go.Am
set_option linter.unusedSimpArgs false
set_option linter.unusedVariables false
set_option maxRecDepth 100000
theorem foldC_fine : ∀ (l : List Ch) (o : List Co), Fine o → Fine (foldC o l).2
  | [], o, h => h
  | x :: l, o, h => by
    unfold foldC
    split
    · exact fine_nil
    · exact foldC_fine l _ (stepC_fine h x)
theorem foldC_sz : ∀ (l : List Ch) (o : List Co), RowSz o → (∀ x ∈ l, ChSz x) → RowSz (foldC o l).2
  | [], o, h, _ => h
  | x :: l, o, h, hl => by
    unfold foldC
    split
    · exact sz_nil
    · exact foldC_sz l _ (stepC_sz h (hl x (by simp))) fun y hy => hl y (by simp [hy])
theorem applyR_fine (r : List Co) (l : List Ch) : Fine (applyR r l).2 := by
  unfold applyR
  split
  · exact fine_nil
  · split
    · exact fine_nil
    · exact foldC_fine l _ (copy_fine r)
theorem applyR_sz {r : List Co} {l : List Ch} (hz : RowSz r) (hl : ∀ x ∈ l, ChSz x) : RowSz (applyR r l).2 := by
  unfold applyR
  split
  · exact sz_nil
  · split
    · exact sz_nil
    · exact foldC_sz l _ (copy_sz hz) hl
theorem cwex {l : List Cw} {i : Nat} {t : Cw} (h : l[i]? = some t) : 0 ≤ (i : Int) ∧ (l.map cwrow)[(i : Int).toNat]? = some (cwrow t) ∧ (cwrow t).length = 7 := ⟨Int.natCast_nonneg _, by rw [Int.toNat_natCast, List.getElem?_map, h]; rfl, rfl⟩
def FineR (out : AOut) (H' : Heap) : Prop := ∃ M, Fine M ∧ RowSz M ∧ out = .ret (rowA M) ∧ H' = []
def m6St (l : List Cw) (M : List Co) (i : Nat) : ASt := ⟨([.list (l.map cwrow) .free, .dead, .ptr 0 0, .ptr 1 0, .v (.int .i64 i)] ++ List.replicate 27 .dead), [(0, .box [.list [] .full]), (1, .box [.list (M.map corow) .free])], 2⟩
set_option maxHeartbeats 3200000 in
theorem made6_c (l : List Cw) (hl : ∀ a ∈ l, CwOk a) (h : l.length ≤ 9223372036854775807) : ACalls Try.prog 40 0 900000 [.list (l.map cwrow) .free] [] FineR := by
  refine no_implicit_lambda% (acalls_of tok dok (f := 40) ⟨Try.func40, rfl, by kernel_rfl⟩ ?_); refine no_implicit_lambda% (c_start (fun _ h => h) ?_)
  repeat' (first | (refine no_implicit_lambda% (awd1 ?_)) | (((with_reducible refine no_implicit_lambda% (is_aops ?_)); refine no_implicit_lambda% (o_split rfl rfl rfl (fun hc => ?_) (fun hc => ?_)) <;> first | exact decx hc | rw [hc])) | (((with_reducible refine no_implicit_lambda% (is_cond ?_)); refine no_implicit_lambda% (c_cond rfl (fun hc => ?_) (fun hc => ?_)) <;> first | exact decx hc | skip)) | (((with_reducible refine no_implicit_lambda% (is_aop ?_)); refine no_implicit_lambda% (a_pick rfl rfl (fun hc => ?_) (fun hc => ?_)) <;> first | exact decx hc | rw [hc])) | (refine no_implicit_lambda% (ans ?_)) | (with_reducible exact retN) | (with_reducible exact retP) | fail | fail)
  refine c_loop2 (m6St l) (fun M i => i ≤ l.length ∧ Fine M ∧ RowSz M) (fun _ i => l.length - i) [] 0 ⟨Nat.zero_le _, fine_nil, sz_nil⟩ ?_ ?_
  · (refine no_implicit_lambda% (Conv.toT ?_ ?_ (Nat.le_of_ble_eq_true rfl))); (focus ((unfold m6St); (try dsimp only); exact wkl)); (focus ((unfold m6St); (try dsimp only); exact wkh))
  · rintro M i ⟨i1, hF, hz⟩
    have h4 := hF.len
    refine c_turn (n' := 2) (fun _ h => h) (fun _ h => h) rfl ?_
    rcases hx : l[i]? with _ | a
    · have hi : i = l.length := by have := List.getElem?_eq_none_iff.1 hx; omega
      repeat' (first | (refine no_implicit_lambda% (awd1 ?_)) | (((with_reducible refine no_implicit_lambda% (is_aops ?_)); refine no_implicit_lambda% (o_split rfl rfl rfl (fun hc => ?_) (fun hc => ?_)) <;> first | exact decx hc | rw [hc])) | (((with_reducible refine no_implicit_lambda% (is_cond ?_)); refine no_implicit_lambda% (c_cond rfl (fun hc => ?_) (fun hc => ?_)) <;> first | exact decx hc | skip)) | (((with_reducible refine no_implicit_lambda% (is_aop ?_)); refine no_implicit_lambda% (a_pick rfl rfl (fun hc => ?_) (fun hc => ?_)) <;> first | exact decx hc | rw [hc])) | (refine no_implicit_lambda% (ans ?_)) | (with_reducible exact retN) | (with_reducible exact retP) | fail | fail)
      exact e_ret (H' := []) (rest := _) rfl ⟨M, hF, hz, rfl, rfl⟩ permT (Nat.le_of_ble_eq_true rfl)
    · have hi : i < l.length := (List.getElem?_eq_some_iff.1 hx).1
      have ha := hl a (List.mem_of_getElem? hx)
      have hix := cwex hx
      repeat' (first | (refine no_implicit_lambda% (awd1 ?_)) | (((with_reducible refine no_implicit_lambda% (is_aops ?_)); refine no_implicit_lambda% (o_split rfl rfl rfl (fun hc => ?_) (fun hc => ?_)) <;> first | exact decx hc | rw [hc])) | (((with_reducible refine no_implicit_lambda% (is_cond ?_)); refine no_implicit_lambda% (c_cond rfl (fun hc => ?_) (fun hc => ?_)) <;> first | exact decx hc | skip)) | (((with_reducible refine no_implicit_lambda% (is_aop ?_)); refine no_implicit_lambda% (a_pick rfl rfl (fun hc => ?_) (fun hc => ?_)) <;> first | exact decx hc | rw [hc])) | (refine no_implicit_lambda% (ans ?_)) | (with_reducible exact retN) | (with_reducible exact retP) | fail | fail)
      · (refine no_implicit_lambda% (cal [] (chmade_c a ha) ?_ ?_))
        · intro xx H' hh
          obtain ⟨x, hxo, h', rfl⟩ := hh
          cases h'
          first | (refine no_implicit_lambda% (akc ?_)) | (refine no_implicit_lambda% (aec ?_))
          have hxs : ∀ y ∈ [x], ChSz y := fun y hy => by rw [List.mem_singleton.1 hy]; exact hxo.1
          have hp := refApply_c M [x] (by omega) hz hxs (by simp)
          have pf := applyR_fine M [x]
          have pz := applyR_sz hz hxs
          unfold PutRR at hp
          generalize applyR M [x] = Q at *
          obtain ⟨e, X⟩ := Q
          repeat' (first | (refine no_implicit_lambda% (awd1 ?_)) | (((with_reducible refine no_implicit_lambda% (is_aops ?_)); refine no_implicit_lambda% (o_split rfl rfl rfl (fun hc => ?_) (fun hc => ?_)) <;> first | exact decx hc | rw [hc])) | (((with_reducible refine no_implicit_lambda% (is_cond ?_)); refine no_implicit_lambda% (c_cond rfl (fun hc => ?_) (fun hc => ?_)) <;> first | exact decx hc | skip)) | (((with_reducible refine no_implicit_lambda% (is_aop ?_)); refine no_implicit_lambda% (a_pick rfl rfl (fun hc => ?_) (fun hc => ?_)) <;> first | exact decx hc | rw [hc])) | (refine no_implicit_lambda% (ans ?_)) | (with_reducible exact retN) | (with_reducible exact retP) | fail | fail)
          (refine no_implicit_lambda% (calw [] (hp) ?_ ?_))
          · refine no_implicit_lambda% (ret1 ?_); first | (refine no_implicit_lambda% (akc ?_)) | (refine no_implicit_lambda% (aec ?_))
            repeat' (first | (refine no_implicit_lambda% (awd1 ?_)) | (((with_reducible refine no_implicit_lambda% (is_aops ?_)); refine no_implicit_lambda% (o_split rfl rfl rfl (fun hc => ?_) (fun hc => ?_)) <;> first | exact decx hc | rw [hc])) | (((with_reducible refine no_implicit_lambda% (is_cond ?_)); refine no_implicit_lambda% (c_cond rfl (fun hc => ?_) (fun hc => ?_)) <;> first | exact decx hc | skip)) | (((with_reducible refine no_implicit_lambda% (is_aop ?_)); refine no_implicit_lambda% (a_pick rfl rfl (fun hc => ?_) (fun hc => ?_)) <;> first | exact decx hc | rw [hc])) | (refine no_implicit_lambda% (ans ?_)) | (with_reducible exact retN) | (with_reducible exact retP) | fail | fail)
            · (refine no_implicit_lambda% (k_loopLT (((X, i + 1) : List Co × Nat)) 0 [0, 1] (by show i + 1 ≤ l.length ∧ Fine X ∧ RowSz X; exact ⟨hi, pf, pz⟩) (by first | omega | (simp; done) | (simp; omega)) (Nat.le_of_ble_eq_true rfl) (fun _ h => h) (fun _ h => h) ?_ ?_)); (focus ((try dsimp only); exact wkl)); (focus ((try dsimp only); exact wkh))
            · (refine no_implicit_lambda% (k_loopLT (((M, i + 1) : List Co × Nat)) 0 [0, 1] (by show i + 1 ≤ l.length ∧ Fine M ∧ RowSz M; exact ⟨hi, hF, hz⟩) (by first | omega | (simp; done) | (simp; omega)) (Nat.le_of_ble_eq_true rfl) (fun _ h => h) (fun _ h => h) ?_ ?_)); (focus ((try dsimp only); exact wkl)); (focus ((try dsimp only); exact wkh))
          · first | (exact retN) | (exact retP)
        · intro xx H' hh
          obtain ⟨_, _, h', _⟩ := hh
          cases h'
      · exact e_ret (H' := []) (rest := _) rfl ⟨M, hF, hz, rfl, rfl⟩ permT (Nat.le_of_ble_eq_true rfl)
def someR : List Co := [⟨bsS [99], [⟨5, ⟨1, [118], 0⟩⟩]⟩]
theorem some_fine : Fine someR ∧ RowSz someR := by
  have h1 := putR_fine [] (bsS [99]) 5 ⟨1, [118], 0⟩
  have h2 := putR_sz (r := []) (s := bsS [99]) (t := 5) (v := ⟨1, [118], 0⟩) sz_nil (by decide)
  rw [put_new (by decide) (by decide) (by decide)] at h1 h2
  exact ⟨h1, h2⟩
theorem some6_c : ACalls Try.prog 19 0 20000 [] [] (fun out H' => out = .ret (rowA someR) ∧ H' = []) := by
  have hp := qput_c [] (bsS [99]) 5 ⟨1, [118], 0⟩ (by decide) sz_nil (by decide)
  rw [put_new (by decide) (by decide) (by decide)] at hp
  unfold PutRR at hp
  dsimp only at hp
  refine no_implicit_lambda% (acalls_of tok dok (f := 19) ⟨Try.func19, rfl, by kernel_rfl⟩ ?_); refine no_implicit_lambda% (c_start (fun _ h => h) ?_)
  repeat' (first | (refine no_implicit_lambda% (awd1 ?_)) | (((with_reducible refine no_implicit_lambda% (is_aops ?_)); refine no_implicit_lambda% (o_split rfl rfl rfl (fun hc => ?_) (fun hc => ?_)) <;> first | exact decx hc | rw [hc])) | (((with_reducible refine no_implicit_lambda% (is_cond ?_)); refine no_implicit_lambda% (c_cond rfl (fun hc => ?_) (fun hc => ?_)) <;> first | exact decx hc | skip)) | (((with_reducible refine no_implicit_lambda% (is_aop ?_)); refine no_implicit_lambda% (a_pick rfl rfl (fun hc => ?_) (fun hc => ?_)) <;> first | exact decx hc | rw [hc])) | (refine no_implicit_lambda% (ans ?_)) | (with_reducible exact retN) | (with_reducible exact retP) | fail | fail)
  (refine no_implicit_lambda% (calw [] (hp) ?_ ?_))
  · refine no_implicit_lambda% (ret1 ?_); first | (refine no_implicit_lambda% (akc ?_)) | (refine no_implicit_lambda% (aec ?_))
    repeat' (first | (refine no_implicit_lambda% (awd1 ?_)) | (((with_reducible refine no_implicit_lambda% (is_aops ?_)); refine no_implicit_lambda% (o_split rfl rfl rfl (fun hc => ?_) (fun hc => ?_)) <;> first | exact decx hc | rw [hc])) | (((with_reducible refine no_implicit_lambda% (is_cond ?_)); refine no_implicit_lambda% (c_cond rfl (fun hc => ?_) (fun hc => ?_)) <;> first | exact decx hc | skip)) | (((with_reducible refine no_implicit_lambda% (is_aop ?_)); refine no_implicit_lambda% (a_pick rfl rfl (fun hc => ?_) (fun hc => ?_)) <;> first | exact decx hc | rw [hc])) | (refine no_implicit_lambda% (ans ?_)) | (with_reducible exact retN) | (with_reducible exact retP) | fail | fail)
    exact e_ret (H' := []) (rest := _) rfl ⟨rfl, rfl⟩ permT (Nat.le_of_ble_eq_true rfl)
  · first | (exact retN) | (exact retP)
end Go.Proofs.Ytjepgbpcpcahgaa
namespace Go.Proofs.Ytjepgbpcpcahgaa
open Go.Am
set_option linter.unusedSimpArgs false
set_option linter.unusedVariables false
set_option maxRecDepth 100000
theorem overlaps_nam (row : List AV) (rows : List (List AV)) (off m c k : Nat) (hrow : row ≠ []) (hne : rows.length + k ≠ 0) : ACalls Try.prog 87 1 1 [.list [row] .free, .arr 0 off m c] [(0, .seq rows k)] (fun out H' => out = .ret (.v (.bool false)) ∧ H' = [(0, .seq rows k)]) :=
  ext_ov (tS := 24) (tR := 4) (fn := Try.f87) (by kernel_rfl) (by kernel_rfl) rfl (by kernel_rfl) (by kernel_rfl) (e := 75) (by kernel_rfl) 2 (fun w => by kernel_rfl) hrow hne
set_option maxHeartbeats 3200000 in
theorem insert_nam (rows : List (List AV)) (row : List AV) (i cp : Nat) (hR : RowsOk 2 rows) (hR1 : RowsOk 2 [row]) (hi : i ≤ rows.length) (hl : rows.length < 1000000000) (hcp0 : rows.length ≤ cp) (hcp : cp ≤ maxLen) : ACalls Try.prog 50 1 2 [.arr 0 0 rows.length cp, .v (.int .i64 i), .list [row] .free] [(0, .seq rows ((cp - rows.length) * 2))] (fun out H' => ∃ cp', rows.length + 1 ≤ cp' ∧ cp' ≤ maxLen ∧ out = .ret (.arr 1 0 (rows.length + 1) cp') ∧ H' = [(1, .seq (insAt rows i row) ((cp' - (rows.length + 1)) * 2))]) := by
  have hrow : row.length = 2 := hR1.len row (by simp)
  refine no_implicit_lambda% (acalls_of tok dok (f := 50) ⟨Try.func50, rfl, by kernel_rfl⟩ ?_); refine no_implicit_lambda% (c_start (fun _ h => h) ?_)
  repeat' (first | (refine no_implicit_lambda% (awd1 ?_)) | (((with_reducible refine no_implicit_lambda% (is_aops ?_)); refine no_implicit_lambda% (o_split rfl rfl rfl (fun hc => ?_) (fun hc => ?_)) <;> first | exact decx hc | rw [hc])) | (((with_reducible refine no_implicit_lambda% (is_cond ?_)); refine no_implicit_lambda% (c_cond rfl (fun hc => ?_) (fun hc => ?_)) <;> first | exact decx hc | skip)) | (((with_reducible refine no_implicit_lambda% (is_aop ?_)); refine no_implicit_lambda% (a_pick rfl rfl (fun hc => ?_) (fun hc => ?_)) <;> first | exact decx hc | rw [hc])) | (refine no_implicit_lambda% (ans ?_)) | (with_reducible exact retN) | (with_reducible exact retP) | fail | fail)
  ((with_reducible refine no_implicit_lambda% (is_aop ?_)); first | (refine no_implicit_lambda% (a_qS rfl (fun _ h => h) ?_ ?_)) | (refine no_implicit_lambda% (a_qS rfl (qIx (fun _ h => h)) ?_ ?_)) | (refine no_implicit_lambda% (a_qS rfl (qAnd5 (fun _ h => h)) ?_ ?_)) | (refine no_implicit_lambda% (a_qS rfl (qStr (fun _ h => h)) ?_ ?_)) | (refine no_implicit_lambda% (a_qS rfl (qAnd4 (fun _ h => h)) ?_ ?_)) | (refine no_implicit_lambda% (a_qS rfl (qAnd2 (fun _ h => h)) ?_ ?_))); focus ((repeat' (refine no_implicit_lambda% (And.intro ?_ ?_))) <;> (first | exact trivial | exact Int.natCast_nonneg _ | omega | (simp; done) | (simp; omega) | ((show (0 : Int) ≤ _); omega)))
  repeat' (first | (refine no_implicit_lambda% (awd1 ?_)) | (((with_reducible refine no_implicit_lambda% (is_aops ?_)); refine no_implicit_lambda% (o_split rfl rfl rfl (fun hc => ?_) (fun hc => ?_)) <;> first | exact decx hc | rw [hc])) | (((with_reducible refine no_implicit_lambda% (is_cond ?_)); refine no_implicit_lambda% (c_cond rfl (fun hc => ?_) (fun hc => ?_)) <;> first | exact decx hc | skip)) | (((with_reducible refine no_implicit_lambda% (is_aop ?_)); refine no_implicit_lambda% (a_pick rfl rfl (fun hc => ?_) (fun hc => ?_)) <;> first | exact decx hc | rw [hc])) | (refine no_implicit_lambda% (ans ?_)) | (with_reducible exact retN) | (with_reducible exact retP) | fail | fail)
  · have hin : i = rows.length := by
      have h0 : (i : Int) = rows.length := by simpa using hc
      omega
    subst hin
    ((with_reducible refine no_implicit_lambda% (is_aop ?_)); refine no_implicit_lambda% (a_appS (sz := 2) (B := 40) (m2 := rows.length + 1) (rows3 := rows ++ [row]) rfl rfl rfl rfl rfl rfl rfl rfl rfl rfl rfl (fun _ h => h) rfl rfl (hR) (hR1) (by first | rfl | (exact List.length_map ..) | (simp; done) | (simp; omega)) rfl (by first | omega | (simp; omega)) (by first | rfl | (simp; done) | (simp; omega)) (by first | rfl | (exact map_snoc _ _) | (rw [List.map_append]; rfl) | (simp; done)) ?_))
    intro cp' h1 h2
    refine no_implicit_lambda% (akc ?_)
    refine no_implicit_lambda% (awd ?_)
    exact e_ret (H' := _) (rest := []) rfl ⟨cp', h1, h2, rfl, by rw [insAt_end]⟩ (.of_eq rfl) (Nat.le_of_ble_eq_true rfl)
  · have hcc := of_decide_eq_true hc
    have hne : i < rows.length := by
      rename_i hc0
      have h0 : ¬ (i : Int) = rows.length := by simpa using hc0
      omega
    have hw : IntKind.i64.wrap ((rows.length : Int) + (([row].length : Nat) : Int)) = ((rows.length + 1 : Nat) : Int) := by rw [IntKind.wrap_i64, List.length_singleton]; omega
    rw [hw] at hcc ⊢
    ((with_reducible refine no_implicit_lambda% (is_aop ?_)); first | (refine no_implicit_lambda% (a_qS rfl (fun _ h => h) ?_ ?_)) | (refine no_implicit_lambda% (a_qS rfl (qIx (fun _ h => h)) ?_ ?_)) | (refine no_implicit_lambda% (a_qS rfl (qAnd5 (fun _ h => h)) ?_ ?_)) | (refine no_implicit_lambda% (a_qS rfl (qStr (fun _ h => h)) ?_ ?_)) | (refine no_implicit_lambda% (a_qS rfl (qAnd4 (fun _ h => h)) ?_ ?_)) | (refine no_implicit_lambda% (a_qS rfl (qAnd2 (fun _ h => h)) ?_ ?_))); focus ((repeat' (refine no_implicit_lambda% (And.intro ?_ ?_))) <;> (first | exact trivial | exact Int.natCast_nonneg _ | omega | (simp; done) | (simp; omega) | ((show (0 : Int) ≤ _); omega)))
    repeat' (first | (refine no_implicit_lambda% (awd1 ?_)) | (((with_reducible refine no_implicit_lambda% (is_aops ?_)); refine no_implicit_lambda% (o_split rfl rfl rfl (fun hc => ?_) (fun hc => ?_)) <;> first | exact decx hc | rw [hc])) | (((with_reducible refine no_implicit_lambda% (is_cond ?_)); refine no_implicit_lambda% (c_cond rfl (fun hc => ?_) (fun hc => ?_)) <;> first | exact decx hc | skip)) | (((with_reducible refine no_implicit_lambda% (is_aop ?_)); refine no_implicit_lambda% (a_pick rfl rfl (fun hc => ?_) (fun hc => ?_)) <;> first | exact decx hc | rw [hc])) | (refine no_implicit_lambda% (ans ?_)) | (with_reducible exact retN) | (with_reducible exact retP) | fail | fail)
    have hw2 : IntKind.i64.wrap (IntKind.i64.wrap ((rows.length : Int) + (([row].length : Nat) : Int)) - (i : Int)) = ((rows.length + 1 - i : Nat) : Int) := by rw [hw, IntKind.wrap_i64]; omega
    rw [hw2]
    (with_reducible refine is_aop ?_)
    refine a_app_zeros (id := 0) (off := 0) (nn := i) (cp := cp) (m := rows.length + 1 - i) (rows0 := rows.take i) rfl rfl rfl rfl rfl rfl rfl rfl rfl rfl rfl rfl (by omega) (by omega) ⟨by show (i + (rows.length + 1 - i)) * 40 ≤ _; omega, by omega⟩ (aolds_take rfl hR hi rfl) rfl (hR.take i).pure ?_
    intro cp' h1 h2
    rw [show i + (rows.length + 1 - i) = rows.length + 1 by omega] at h1 ⊢
    repeat' (first | (refine no_implicit_lambda% (awd1 ?_)) | (((with_reducible refine no_implicit_lambda% (is_aops ?_)); refine no_implicit_lambda% (o_split rfl rfl rfl (fun hc => ?_) (fun hc => ?_)) <;> first | exact decx hc | rw [hc])) | (((with_reducible refine no_implicit_lambda% (is_cond ?_)); refine no_implicit_lambda% (c_cond rfl (fun hc => ?_) (fun hc => ?_)) <;> first | exact decx hc | skip)) | (((with_reducible refine no_implicit_lambda% (is_aop ?_)); refine no_implicit_lambda% (a_pick rfl rfl (fun hc => ?_) (fun hc => ?_)) <;> first | exact decx hc | rw [hc])) | (refine no_implicit_lambda% (ans ?_)) | (with_reducible exact retN) | (with_reducible exact retP) | fail | fail)
    ((with_reducible refine no_implicit_lambda% (is_aop ?_)); first | (refine no_implicit_lambda% (a_qS rfl (fun _ h => h) ?_ ?_)) | (refine no_implicit_lambda% (a_qS rfl (qIx (fun _ h => h)) ?_ ?_)) | (refine no_implicit_lambda% (a_qS rfl (qAnd5 (fun _ h => h)) ?_ ?_)) | (refine no_implicit_lambda% (a_qS rfl (qStr (fun _ h => h)) ?_ ?_)) | (refine no_implicit_lambda% (a_qS rfl (qAnd4 (fun _ h => h)) ?_ ?_)) | (refine no_implicit_lambda% (a_qS rfl (qAnd2 (fun _ h => h)) ?_ ?_))); focus ((repeat' (refine no_implicit_lambda% (And.intro ?_ ?_))) <;> (first | exact trivial | exact Int.natCast_nonneg _ | omega | (simp; done) | (simp; omega) | ((show (0 : Int) ≤ _); omega)))
    repeat' (first | (refine no_implicit_lambda% (awd1 ?_)) | (((with_reducible refine no_implicit_lambda% (is_aops ?_)); refine no_implicit_lambda% (o_split rfl rfl rfl (fun hc => ?_) (fun hc => ?_)) <;> first | exact decx hc | rw [hc])) | (((with_reducible refine no_implicit_lambda% (is_cond ?_)); refine no_implicit_lambda% (c_cond rfl (fun hc => ?_) (fun hc => ?_)) <;> first | exact decx hc | skip)) | (((with_reducible refine no_implicit_lambda% (is_aop ?_)); refine no_implicit_lambda% (a_pick rfl rfl (fun hc => ?_) (fun hc => ?_)) <;> first | exact decx hc | rw [hc])) | (refine no_implicit_lambda% (ans ?_)) | (with_reducible exact retN) | (with_reducible exact retP) | fail | fail)
    (with_reducible refine is_aop ?_)
    refine a_copyEnd (id := 1) (m := 1) (sz := 2) (rows := rows.take i) (rows2 := [row]) (rows' := rows.take i ++ [row]) (k2 := (cp' - (i + 1)) * 2) rfl rfl rfl rfl rfl rfl rfl rfl (fun K h => asrc_rows rfl hR1.len ?_ h) (fun _ h => h) rfl (hR.take i) hR1 ?_ ?_ ?_ ?_ rfl ?_ ?_
    · simp; omega
    · exact Nat.min_eq_left (by omega)
    · simp; omega
    · simp; omega
    · simp; omega
    · simp; omega
    intro v1
    refine no_implicit_lambda% (akc ?_)
    repeat' (first | (refine no_implicit_lambda% (awd1 ?_)) | (((with_reducible refine no_implicit_lambda% (is_aops ?_)); refine no_implicit_lambda% (o_split rfl rfl rfl (fun hc => ?_) (fun hc => ?_)) <;> first | exact decx hc | rw [hc])) | (((with_reducible refine no_implicit_lambda% (is_cond ?_)); refine no_implicit_lambda% (c_cond rfl (fun hc => ?_) (fun hc => ?_)) <;> first | exact decx hc | skip)) | (((with_reducible refine no_implicit_lambda% (is_aop ?_)); refine no_implicit_lambda% (a_pick rfl rfl (fun hc => ?_) (fun hc => ?_)) <;> first | exact decx hc | rw [hc])) | (refine no_implicit_lambda% (ans ?_)) | (with_reducible exact retN) | (with_reducible exact retP) | fail | fail)
    have hw3 : IntKind.i64.wrap ((i : Int) + (([row].length : Nat) : Int)) = ((i + 1 : Nat) : Int) := by rw [IntKind.wrap_i64, List.length_singleton]; omega
    rw [hw3]
    ((with_reducible refine no_implicit_lambda% (is_ev ?_)); first | (refine no_implicit_lambda% (v_qS rfl rfl rfl rfl (qAnd4 (fun _ h => h)) (fun _ h => h) ?_ ?_)) | (refine no_implicit_lambda% (v_qS rfl rfl rfl rfl (qAnd5 (fun _ h => h)) (fun _ h => h) ?_ ?_))); focus ((repeat' (refine no_implicit_lambda% (And.intro ?_ ?_))) <;> (first | exact trivial | exact Int.natCast_nonneg _ | omega | (simp; done) | (simp; omega) | ((show (0 : Int) ≤ _); omega)))
    repeat' (first | (refine no_implicit_lambda% (awd1 ?_)) | (((with_reducible refine no_implicit_lambda% (is_aops ?_)); refine no_implicit_lambda% (o_split rfl rfl rfl (fun hc => ?_) (fun hc => ?_)) <;> first | exact decx hc | rw [hc])) | (((with_reducible refine no_implicit_lambda% (is_cond ?_)); refine no_implicit_lambda% (c_cond rfl (fun hc => ?_) (fun hc => ?_)) <;> first | exact decx hc | skip)) | (((with_reducible refine no_implicit_lambda% (is_aop ?_)); refine no_implicit_lambda% (a_pick rfl rfl (fun hc => ?_) (fun hc => ?_)) <;> first | exact decx hc | rw [hc])) | (refine no_implicit_lambda% (ans ?_)) | (with_reducible exact retN) | (with_reducible exact retP) | fail | fail)
    ((with_reducible refine no_implicit_lambda% (is_ev ?_)); first | (refine no_implicit_lambda% (v_qS rfl rfl rfl rfl (qAnd4 (fun _ h => h)) (fun _ h => h) ?_ ?_)) | (refine no_implicit_lambda% (v_qS rfl rfl rfl rfl (qAnd5 (fun _ h => h)) (fun _ h => h) ?_ ?_))); focus ((repeat' (refine no_implicit_lambda% (And.intro ?_ ?_))) <;> (first | exact trivial | exact Int.natCast_nonneg _ | omega | (simp; done) | (simp; omega) | ((show (0 : Int) ≤ _); omega)))
    repeat' (first | (refine no_implicit_lambda% (awd1 ?_)) | (((with_reducible refine no_implicit_lambda% (is_aops ?_)); refine no_implicit_lambda% (o_split rfl rfl rfl (fun hc => ?_) (fun hc => ?_)) <;> first | exact decx hc | rw [hc])) | (((with_reducible refine no_implicit_lambda% (is_cond ?_)); refine no_implicit_lambda% (c_cond rfl (fun hc => ?_) (fun hc => ?_)) <;> first | exact decx hc | skip)) | (((with_reducible refine no_implicit_lambda% (is_aop ?_)); refine no_implicit_lambda% (a_pick rfl rfl (fun hc => ?_) (fun hc => ?_)) <;> first | exact decx hc | rw [hc])) | (refine no_implicit_lambda% (ans ?_)) | (with_reducible exact retN) | (with_reducible exact retP) | fail | fail)
    (with_reducible refine is_aop ?_)
    refine a_copyEnd (id := 1) (m := rows.length - i) (sz := 2) (rows := rows.take i ++ [row]) (rows2 := rows.drop i) (rows' := insAt rows i row) (k2 := (cp' - (rows.length + 1)) * 2) rfl rfl rfl rfl rfl rfl rfl rfl (fun K h => asrc_drop rfl rfl hR hi ?_ ?_ ?_ h) (fun _ h => h) rfl ((hR.take i).app hR1) (hR.drop i) ?_ ?_ ?_ ?_ ?_ ?_ ?_
    · simp
    · simp
    · simp
    · rw [List.length_drop]; exact Nat.min_eq_left (by omega)
    · simp; omega
    · simp; omega
    · simp
    · simp [insAt]
    · simp; omega
    intro v2
    repeat' (first | (refine no_implicit_lambda% (awd1 ?_)) | (((with_reducible refine no_implicit_lambda% (is_aops ?_)); refine no_implicit_lambda% (o_split rfl rfl rfl (fun hc => ?_) (fun hc => ?_)) <;> first | exact decx hc | rw [hc])) | (((with_reducible refine no_implicit_lambda% (is_cond ?_)); refine no_implicit_lambda% (c_cond rfl (fun hc => ?_) (fun hc => ?_)) <;> first | exact decx hc | skip)) | (((with_reducible refine no_implicit_lambda% (is_aop ?_)); refine no_implicit_lambda% (a_pick rfl rfl (fun hc => ?_) (fun hc => ?_)) <;> first | exact decx hc | rw [hc])) | (refine no_implicit_lambda% (ans ?_)) | (with_reducible exact retN) | (with_reducible exact retP) | fail | fail)
    exact e_ret (H' := _) (rest := [(0, .seq rows ((cp - rows.length) * 2))]) rfl ⟨cp', h1, h2, rfl, rfl⟩ (.of_eq rfl) (Nat.le_of_ble_eq_true rfl)
  · have hcc := of_decide_eq_false hc
    have hne : i < rows.length := by
      rename_i hc0
      have h0 : ¬ (i : Int) = rows.length := by simpa using hc0
      omega
    have hw : IntKind.i64.wrap ((rows.length : Int) + (([row].length : Nat) : Int)) = ((rows.length + 1 : Nat) : Int) := by rw [IntKind.wrap_i64, List.length_singleton]; omega
    rw [hw] at hcc ⊢
    ((with_reducible refine no_implicit_lambda% (is_aop ?_)); first | (refine no_implicit_lambda% (a_qS rfl (fun _ h => h) ?_ ?_)) | (refine no_implicit_lambda% (a_qS rfl (qIx (fun _ h => h)) ?_ ?_)) | (refine no_implicit_lambda% (a_qS rfl (qAnd5 (fun _ h => h)) ?_ ?_)) | (refine no_implicit_lambda% (a_qS rfl (qStr (fun _ h => h)) ?_ ?_)) | (refine no_implicit_lambda% (a_qS rfl (qAnd4 (fun _ h => h)) ?_ ?_)) | (refine no_implicit_lambda% (a_qS rfl (qAnd2 (fun _ h => h)) ?_ ?_))); focus ((repeat' (refine no_implicit_lambda% (And.intro ?_ ?_))) <;> (first | exact trivial | exact Int.natCast_nonneg _ | omega | (simp; done) | (simp; omega) | ((show (0 : Int) ≤ _); omega)))
    repeat' (first | (refine no_implicit_lambda% (awd1 ?_)) | (((with_reducible refine no_implicit_lambda% (is_aops ?_)); refine no_implicit_lambda% (o_split rfl rfl rfl (fun hc => ?_) (fun hc => ?_)) <;> first | exact decx hc | rw [hc])) | (((with_reducible refine no_implicit_lambda% (is_cond ?_)); refine no_implicit_lambda% (c_cond rfl (fun hc => ?_) (fun hc => ?_)) <;> first | exact decx hc | skip)) | (((with_reducible refine no_implicit_lambda% (is_aop ?_)); refine no_implicit_lambda% (a_pick rfl rfl (fun hc => ?_) (fun hc => ?_)) <;> first | exact decx hc | rw [hc])) | (refine no_implicit_lambda% (ans ?_)) | (with_reducible exact retN) | (with_reducible exact retP) | fail | fail)
    have hw2 : IntKind.i64.wrap ((i : Int) + (([row].length : Nat) : Int)) = ((i + 1 : Nat) : Int) := by rw [IntKind.wrap_i64, List.length_singleton]; omega
    rw [hw2]
    ((with_reducible refine no_implicit_lambda% (is_aop ?_)); first | (refine no_implicit_lambda% (a_qS rfl (fun _ h => h) ?_ ?_)) | (refine no_implicit_lambda% (a_qS rfl (qIx (fun _ h => h)) ?_ ?_)) | (refine no_implicit_lambda% (a_qS rfl (qAnd5 (fun _ h => h)) ?_ ?_)) | (refine no_implicit_lambda% (a_qS rfl (qStr (fun _ h => h)) ?_ ?_)) | (refine no_implicit_lambda% (a_qS rfl (qAnd4 (fun _ h => h)) ?_ ?_)) | (refine no_implicit_lambda% (a_qS rfl (qAnd2 (fun _ h => h)) ?_ ?_))); focus ((repeat' (refine no_implicit_lambda% (And.intro ?_ ?_))) <;> (first | exact trivial | exact Int.natCast_nonneg _ | omega | (simp; done) | (simp; omega) | ((show (0 : Int) ≤ _); omega)))
    repeat' (first | (refine no_implicit_lambda% (awd1 ?_)) | (((with_reducible refine no_implicit_lambda% (is_aops ?_)); refine no_implicit_lambda% (o_split rfl rfl rfl (fun hc => ?_) (fun hc => ?_)) <;> first | exact decx hc | rw [hc])) | (((with_reducible refine no_implicit_lambda% (is_cond ?_)); refine no_implicit_lambda% (c_cond rfl (fun hc => ?_) (fun hc => ?_)) <;> first | exact decx hc | skip)) | (((with_reducible refine no_implicit_lambda% (is_aop ?_)); refine no_implicit_lambda% (a_pick rfl rfl (fun hc => ?_) (fun hc => ?_)) <;> first | exact decx hc | rw [hc])) | (refine no_implicit_lambda% (ans ?_)) | (with_reducible exact retN) | (with_reducible exact retP) | (refine no_implicit_lambda% (cal [0] (overlaps_nam row rows _ _ _ _ (by intro h; rw [h] at hrow; cases hrow) (by omega)) ?_ ?_)) | fail)
    rw [show rn [0] 1 0 = 0 from rfl]
    ((with_reducible refine no_implicit_lambda% (is_ev ?_)); first | (refine no_implicit_lambda% (v_qS rfl rfl rfl rfl (qAnd4 (fun _ h => h)) (fun _ h => h) ?_ ?_)) | (refine no_implicit_lambda% (v_qS rfl rfl rfl rfl (qAnd5 (fun _ h => h)) (fun _ h => h) ?_ ?_))); focus ((repeat' (refine no_implicit_lambda% (And.intro ?_ ?_))) <;> (first | exact trivial | exact Int.natCast_nonneg _ | omega | (simp; done) | (simp; omega) | ((show (0 : Int) ≤ _); omega)))
    repeat' (first | (refine no_implicit_lambda% (awd1 ?_)) | (((with_reducible refine no_implicit_lambda% (is_aops ?_)); refine no_implicit_lambda% (o_split rfl rfl rfl (fun hc => ?_) (fun hc => ?_)) <;> first | exact decx hc | rw [hc])) | (((with_reducible refine no_implicit_lambda% (is_cond ?_)); refine no_implicit_lambda% (c_cond rfl (fun hc => ?_) (fun hc => ?_)) <;> first | exact decx hc | skip)) | (((with_reducible refine no_implicit_lambda% (is_aop ?_)); refine no_implicit_lambda% (a_pick rfl rfl (fun hc => ?_) (fun hc => ?_)) <;> first | exact decx hc | rw [hc])) | (refine no_implicit_lambda% (ans ?_)) | (with_reducible exact retN) | (with_reducible exact retP) | fail | fail)
    ((with_reducible refine no_implicit_lambda% (is_ev ?_)); first | (refine no_implicit_lambda% (v_qS rfl rfl rfl rfl (qAnd4 (fun _ h => h)) (fun _ h => h) ?_ ?_)) | (refine no_implicit_lambda% (v_qS rfl rfl rfl rfl (qAnd5 (fun _ h => h)) (fun _ h => h) ?_ ?_))); focus ((repeat' (refine no_implicit_lambda% (And.intro ?_ ?_))) <;> (first | exact trivial | exact Int.natCast_nonneg _ | omega | (simp; done) | (simp; omega) | ((show (0 : Int) ≤ _); omega)))
    repeat' (first | (refine no_implicit_lambda% (awd1 ?_)) | (((with_reducible refine no_implicit_lambda% (is_aops ?_)); refine no_implicit_lambda% (o_split rfl rfl rfl (fun hc => ?_) (fun hc => ?_)) <;> first | exact decx hc | rw [hc])) | (((with_reducible refine no_implicit_lambda% (is_cond ?_)); refine no_implicit_lambda% (c_cond rfl (fun hc => ?_) (fun hc => ?_)) <;> first | exact decx hc | skip)) | (((with_reducible refine no_implicit_lambda% (is_aop ?_)); refine no_implicit_lambda% (a_pick rfl rfl (fun hc => ?_) (fun hc => ?_)) <;> first | exact decx hc | rw [hc])) | (refine no_implicit_lambda% (ans ?_)) | (with_reducible exact retN) | (with_reducible exact retP) | fail | fail)
    obtain ⟨r, hr⟩ : ∃ r, rows[i]? = some r := ⟨_, List.getElem?_eq_getElem hne⟩
    (with_reducible refine is_aop ?_)
    refine a_copyUp (id := 0) (i := i) (sz := 2) (rows := rows) (r := r) (k2 := (cp - (rows.length + 1)) * 2) rfl rfl rfl rfl rfl rfl rfl rfl rfl (fun _ h => h) rfl rfl hR hr ?_ ?_ ?_ ?_ ?_ ?_ ?_
    · rw [hw2]; (first | omega | (simp; done) | (simp; omega))
    · (first | omega | (simp; done) | (simp; omega))
    · (first | omega | (simp; done) | (simp; omega))
    · (first | omega | (simp; done) | (simp; omega))
    · (first | omega | (simp; done) | (simp; omega))
    · (first | omega | (simp; done) | (simp; omega))
    intro v1
    repeat' (first | (refine no_implicit_lambda% (awd1 ?_)) | (((with_reducible refine no_implicit_lambda% (is_aops ?_)); refine no_implicit_lambda% (o_split rfl rfl rfl (fun hc => ?_) (fun hc => ?_)) <;> first | exact decx hc | rw [hc])) | (((with_reducible refine no_implicit_lambda% (is_cond ?_)); refine no_implicit_lambda% (c_cond rfl (fun hc => ?_) (fun hc => ?_)) <;> first | exact decx hc | skip)) | (((with_reducible refine no_implicit_lambda% (is_aop ?_)); refine no_implicit_lambda% (a_pick rfl rfl (fun hc => ?_) (fun hc => ?_)) <;> first | exact decx hc | rw [hc])) | (refine no_implicit_lambda% (ans ?_)) | (with_reducible exact retN) | (with_reducible exact retP) | fail | fail)
    ((with_reducible refine no_implicit_lambda% (is_aop ?_)); first | (refine no_implicit_lambda% (a_qS rfl (fun _ h => h) ?_ ?_)) | (refine no_implicit_lambda% (a_qS rfl (qIx (fun _ h => h)) ?_ ?_)) | (refine no_implicit_lambda% (a_qS rfl (qAnd5 (fun _ h => h)) ?_ ?_)) | (refine no_implicit_lambda% (a_qS rfl (qStr (fun _ h => h)) ?_ ?_)) | (refine no_implicit_lambda% (a_qS rfl (qAnd4 (fun _ h => h)) ?_ ?_)) | (refine no_implicit_lambda% (a_qS rfl (qAnd2 (fun _ h => h)) ?_ ?_))); focus ((repeat' (refine no_implicit_lambda% (And.intro ?_ ?_))) <;> (first | exact trivial | exact Int.natCast_nonneg _ | omega | (simp; done) | (simp; omega) | ((show (0 : Int) ≤ _); omega)))
    repeat' (first | (refine no_implicit_lambda% (awd1 ?_)) | (((with_reducible refine no_implicit_lambda% (is_aops ?_)); refine no_implicit_lambda% (o_split rfl rfl rfl (fun hc => ?_) (fun hc => ?_)) <;> first | exact decx hc | rw [hc])) | (((with_reducible refine no_implicit_lambda% (is_cond ?_)); refine no_implicit_lambda% (c_cond rfl (fun hc => ?_) (fun hc => ?_)) <;> first | exact decx hc | skip)) | (((with_reducible refine no_implicit_lambda% (is_aop ?_)); refine no_implicit_lambda% (a_pick rfl rfl (fun hc => ?_) (fun hc => ?_)) <;> first | exact decx hc | rw [hc])) | (refine no_implicit_lambda% (ans ?_)) | (with_reducible exact retN) | (with_reducible exact retP) | fail | fail)
    have hR2 : RowsOk 2 (rows.take i ++ r :: rows.drop i) := (hR.take i).app (RowsOk.app (r1 := [r]) (.one1 (hR.row (List.mem_of_getElem? hr))) (hR.drop i))
    (with_reducible refine is_aop ?_)
    refine a_copyOne (id := 0) (i := i) (sz := 2) (rows := rows.take i ++ r :: rows.drop i) (row := row) (rows' := insAt rows i row) rfl rfl rfl rfl rfl rfl rfl rfl rfl (fun _ h => h) rfl hR2 hrow ?_ ?_ ?_ ?_ (ins_set hne) ?_
    · exact fun a ha => hR1.pure a (by simpa using ha)
    · (first | omega | (simp; done) | (simp; omega))
    · (first | omega | (simp; done) | (simp; omega))
    · (first | omega | (simp; done) | (simp; omega))
    intro v2
    repeat' (first | (refine no_implicit_lambda% (awd1 ?_)) | (((with_reducible refine no_implicit_lambda% (is_aops ?_)); refine no_implicit_lambda% (o_split rfl rfl rfl (fun hc => ?_) (fun hc => ?_)) <;> first | exact decx hc | rw [hc])) | (((with_reducible refine no_implicit_lambda% (is_cond ?_)); refine no_implicit_lambda% (c_cond rfl (fun hc => ?_) (fun hc => ?_)) <;> first | exact decx hc | skip)) | (((with_reducible refine no_implicit_lambda% (is_aop ?_)); refine no_implicit_lambda% (a_pick rfl rfl (fun hc => ?_) (fun hc => ?_)) <;> first | exact decx hc | rw [hc])) | (refine no_implicit_lambda% (ans ?_)) | (with_reducible exact retN) | (with_reducible exact retP) | fail | fail)
    refine e_ret_to (H' := [(1, .seq (insAt rows i row) ((cp - (rows.length + 1)) * 2))]) (rest := []) (Conv.anewS (j := 6) rfl (.refl _) ?_) rfl ⟨cp, by omega, hcp, rfl, rfl⟩ (.of_eq rfl) (Nat.le_of_ble_eq_true rfl)
    rw [insAt_len _ hi]; omega
end Go.Proofs.Ytjepgbpcpcahgaa
namespace Go.Proofs.Ytjepgbpcpcahgaa
open Go.Am
set_option linter.unusedSimpArgs false
set_option linter.unusedVariables false
set_option maxRecDepth 100000
/-- a row by its name -/
structure Nm where
  n : ByteArray
  r : List Co
def nmrow (x : Nm) : List AV := [.v (.string x.n), .list (x.r.map corow) .free]
theorem nmOk (l : List Nm) : RowsOk 2 (l.map nmrow) := .map (f := nmrow) (fun _ => ⟨rfl, rfl, rfl⟩) l
set_option maxHeartbeats 3200000 in
theorem delete_nam (l : List Nm) (cp i : Nat) (hi : i < l.length) (hl : l.length ≤ 1000) (hcp : l.length ≤ cp) (hcm : cp ≤ maxLen) : ACalls Try.prog 48 1 1 [.arr 0 0 l.length cp, .v (.int .i64 i), .v (.int .i64 (i + 1 : Nat))] [(0, .seq (l.map nmrow) ((cp - l.length) * 2))] (fun out H' => out = .ret (.arr 0 0 (l.length - 1) cp) ∧ H' = [(0, .seq ((l.eraseIdx i).map nmrow) ((cp - (l.length - 1)) * 2))]) := by
  obtain ⟨last, hlast⟩ : ∃ last, (l.map nmrow)[(l.map nmrow).length - 1]? = some last := ⟨_, List.getElem?_eq_getElem (by rw [List.length_map]; omega)⟩
  refine no_implicit_lambda% (acalls_of tok dok (f := 48) ⟨Try.func48, rfl, by kernel_rfl⟩ ?_); refine no_implicit_lambda% (c_start (fun _ h => h) ?_)
  refine c_seq ?_
  first | (with_reducible refine no_implicit_lambda% (c_seq ?_)) | (with_reducible refine no_implicit_lambda% (c_region ?_)) | (with_reducible refine no_implicit_lambda% (c_ret ?_)) | (with_reducible refine no_implicit_lambda% (c_skip ?_)) | (with_reducible refine no_implicit_lambda% (c_block ?_)) | (with_reducible refine no_implicit_lambda% (c_exit ?_)) | (with_reducible refine no_implicit_lambda% (o_nil ?_)) | (with_reducible refine no_implicit_lambda% (k_seq ?_)) | (with_reducible refine no_implicit_lambda% (k_seq_ret ?_)) | (with_reducible refine no_implicit_lambda% (k_seq_exit ?_)) | (with_reducible refine no_implicit_lambda% (k_seq_pan ?_)) | (with_reducible refine no_implicit_lambda% (k_block ?_)) | (with_reducible refine no_implicit_lambda% (k_block_ret ?_)) | (with_reducible refine no_implicit_lambda% (k_block_pan ?_)) | ((with_reducible refine no_implicit_lambda% (is_blockx ?_)); first | (refine no_implicit_lambda% (k_block_here rfl ?_)) | (refine no_implicit_lambda% (k_block_on rfl ?_))) | (with_reducible refine no_implicit_lambda% (k_pan ?_)) | (with_reducible refine no_implicit_lambda% (k_opP ?_)) | (with_reducible refine no_implicit_lambda% (k_loop_ret ?_)) | (with_reducible refine no_implicit_lambda% (k_loop_exit ?_)) | (with_reducible refine no_implicit_lambda% (k_loop_pan ?_)) | (with_reducible refine no_implicit_lambda% (e_end ?_))
  repeat' (first | ((with_reducible refine no_implicit_lambda% (is_aops ?_)); first | (refine no_implicit_lambda% (o_op rfl ?_)) | (refine no_implicit_lambda% (o_yes rfl rfl rfl ?_)) | (refine no_implicit_lambda% (o_no rfl rfl rfl (fun _ h => h) ?_)) | (refine no_implicit_lambda% (o_not rfl rfl rfl (fun _ h => h) ?_))) | ((with_reducible refine no_implicit_lambda% (is_opK ?_)); first | (refine no_implicit_lambda% (k_op' (fun _ h => h) ?_))) | ((with_reducible refine no_implicit_lambda% (is_aop ?_)); first | (refine no_implicit_lambda% (a_q1 rfl (fun _ h => h) ?_)) | (refine no_implicit_lambda% (a_box rfl (fun _ h => h) ?_)) | (refine no_implicit_lambda% (a_alloc rfl (fun _ h => h) ?_)) | (refine no_implicit_lambda% (a_storev rfl (fun _ h => h) ?_)) | (refine no_implicit_lambda% (a_store rfl (fun _ h => h) ?_)) | (refine no_implicit_lambda% (a_panic rfl rfl ?_))) | ((with_reducible refine no_implicit_lambda% (is_aop ?_)); refine no_implicit_lambda% (a_qS rfl (qIx (fun _ h => h)) (by first | assumption | exact hpx (by assumption) | exact hpy (by assumption)) ?_)) | (with_reducible refine no_implicit_lambda% (o_nil ?_)) | fail)
  refine k_seq_to ⟨_, _, _⟩ (Conv.unseq (L0 := []) (id := 0) (rows := l.map nmrow) (k := (cp - l.length) * 2) (by rw [List.length_map]; omega) (.refl _)) ?_
  repeat' (first | (refine no_implicit_lambda% (awd1 ?_)) | (((with_reducible refine no_implicit_lambda% (is_aops ?_)); refine no_implicit_lambda% (o_split rfl rfl rfl (fun hc => ?_) (fun hc => ?_)) <;> first | exact decx hc | rw [hc])) | (((with_reducible refine no_implicit_lambda% (is_cond ?_)); refine no_implicit_lambda% (c_cond rfl (fun hc => ?_) (fun hc => ?_)) <;> first | exact decx hc | skip)) | (((with_reducible refine no_implicit_lambda% (is_aop ?_)); refine no_implicit_lambda% (a_pick rfl rfl (fun hc => ?_) (fun hc => ?_)) <;> first | exact decx hc | rw [hc])) | (refine no_implicit_lambda% (ans ?_)) | (with_reducible exact retN) | (with_reducible exact retP) | fail | fail)
  (with_reducible refine is_aop ?_)
  refine a_qS rfl (qAnd6 (fun _ h => h)) ⟨Int.natCast_nonneg _, Int.natCast_nonneg _, Int.natCast_nonneg _, by simp, by simp; omega, by simp; omega⟩ ?_
  repeat' (first | (refine no_implicit_lambda% (awd1 ?_)) | (((with_reducible refine no_implicit_lambda% (is_aops ?_)); refine no_implicit_lambda% (o_split rfl rfl rfl (fun hc => ?_) (fun hc => ?_)) <;> first | exact decx hc | rw [hc])) | (((with_reducible refine no_implicit_lambda% (is_cond ?_)); refine no_implicit_lambda% (c_cond rfl (fun hc => ?_) (fun hc => ?_)) <;> first | exact decx hc | skip)) | (((with_reducible refine no_implicit_lambda% (is_aop ?_)); refine no_implicit_lambda% (a_pick rfl rfl (fun hc => ?_) (fun hc => ?_)) <;> first | exact decx hc | rw [hc])) | (refine no_implicit_lambda% (ans ?_)) | (with_reducible exact retN) | (with_reducible exact retP) | fail | fail)
  ((with_reducible refine no_implicit_lambda% (is_ev ?_)); first | (refine no_implicit_lambda% (v_qS rfl rfl rfl rfl (qAnd4 (fun _ h => h)) (fun _ h => h) ?_ ?_)) | (refine no_implicit_lambda% (v_qS rfl rfl rfl rfl (qAnd5 (fun _ h => h)) (fun _ h => h) ?_ ?_))); focus ((repeat' (refine no_implicit_lambda% (And.intro ?_ ?_))) <;> (first | exact trivial | exact Int.natCast_nonneg _ | omega | (simp; done) | (simp; omega) | ((show (0 : Int) ≤ _); omega)))
  repeat' (first | (refine no_implicit_lambda% (awd1 ?_)) | (((with_reducible refine no_implicit_lambda% (is_aops ?_)); refine no_implicit_lambda% (o_split rfl rfl rfl (fun hc => ?_) (fun hc => ?_)) <;> first | exact decx hc | rw [hc])) | (((with_reducible refine no_implicit_lambda% (is_cond ?_)); refine no_implicit_lambda% (c_cond rfl (fun hc => ?_) (fun hc => ?_)) <;> first | exact decx hc | skip)) | (((with_reducible refine no_implicit_lambda% (is_aop ?_)); refine no_implicit_lambda% (a_pick rfl rfl (fun hc => ?_) (fun hc => ?_)) <;> first | exact decx hc | rw [hc])) | (((with_reducible refine no_implicit_lambda% (is_ev ?_)); refine no_implicit_lambda% (v_split rfl rfl rfl rfl (fun hc => ?_) (fun hc => ?_)) <;> first | exact decx hc | rw [hc])) | (refine no_implicit_lambda% (ans ?_)) | (with_reducible exact retN) | (with_reducible exact retP) | fail | fail)
  ((with_reducible refine no_implicit_lambda% (is_ev ?_)); first | (refine no_implicit_lambda% (v_qS rfl rfl rfl rfl (qAnd4 (fun _ h => h)) (fun _ h => h) ?_ ?_)) | (refine no_implicit_lambda% (v_qS rfl rfl rfl rfl (qAnd5 (fun _ h => h)) (fun _ h => h) ?_ ?_))); focus ((repeat' (refine no_implicit_lambda% (And.intro ?_ ?_))) <;> (first | exact trivial | exact Int.natCast_nonneg _ | omega | (simp; done) | (simp; omega) | ((show (0 : Int) ≤ _); omega)))
  repeat' (first | (refine no_implicit_lambda% (awd1 ?_)) | (((with_reducible refine no_implicit_lambda% (is_aops ?_)); refine no_implicit_lambda% (o_split rfl rfl rfl (fun hc => ?_) (fun hc => ?_)) <;> first | exact decx hc | rw [hc])) | (((with_reducible refine no_implicit_lambda% (is_cond ?_)); refine no_implicit_lambda% (c_cond rfl (fun hc => ?_) (fun hc => ?_)) <;> first | exact decx hc | skip)) | (((with_reducible refine no_implicit_lambda% (is_aop ?_)); refine no_implicit_lambda% (a_pick rfl rfl (fun hc => ?_) (fun hc => ?_)) <;> first | exact decx hc | rw [hc])) | (((with_reducible refine no_implicit_lambda% (is_ev ?_)); refine no_implicit_lambda% (v_split rfl rfl rfl rfl (fun hc => ?_) (fun hc => ?_)) <;> first | exact decx hc | rw [hc])) | (refine no_implicit_lambda% (ans ?_)) | (with_reducible exact retN) | (with_reducible exact retP) | fail | fail)
  (with_reducible refine is_aop ?_)
  refine a_app_arr (id := 0) (off := 0) (nn := i) (cp := cp) (m := l.length - (i + 1)) (cs := ((l.map nmrow).drop (i + 1)).flatten) rfl rfl rfl rfl rfl rfl rfl rfl rfl ?_ (fun K h => asrc_boxd rfl rfl (nmOk l) ?_ ?_ ?_ h) ?_ ?_ ?_
  · show AV.arr 0 (0 + 0 * 2) ((i : Int).toNat - 0) (cp - 0) = AV.arr 0 0 i cp
    simp
  · rw [List.length_map]; omega
  · show 0 + ((i + 1 : Nat) : Int).toNat * 2 = (i + 1) * 2
    rw [Int.toNat_natCast]; omega
  · rw [Int.toNat_natCast, List.length_map]
  · exact ⟨by show (i + (l.length - (i + 1))) * 40 ≤ _; omega, by omega⟩
  · intro _
    refine ⟨seqC (l.map nmrow) ((cp - l.length) * 2), rfl, ?_, ?_⟩
    · show 0 + (i + (l.length - (i + 1))) * 2 ≤ _
      rw [seqC_len (nmOk l).len, List.length_map]; omega
    · have hps := put_shift (k := (cp - l.length) * 2) (nmOk l).len (i := i) (by rw [List.length_map]; exact hi) hlast
      generalize hq : putCells (seqC (l.map nmrow) ((cp - l.length) * 2)) _ ((l.map nmrow).drop (i + 1)).flatten = q
      have hq2 : q = seqC ((l.map nmrow).eraseIdx i ++ [last]) ((cp - l.length) * 2) := by
        rw [← hq]
        show putCells _ (0 + i * 2) _ = _
        rw [Nat.zero_add]; exact hps
      rw [hq2]
      refine no_implicit_lambda% (aec (L2 := [(0, .box (seqC ((l.map nmrow).eraseIdx i ++ [last]) ((cp - l.length) * 2)))]) ?_ (hL := fun q hq => by rw [forceH_eq]; exact hq))
      repeat' (first | (refine no_implicit_lambda% (awd1 ?_)) | (((with_reducible refine no_implicit_lambda% (is_aops ?_)); refine no_implicit_lambda% (o_split rfl rfl rfl (fun hc => ?_) (fun hc => ?_)) <;> first | exact decx hc | rw [hc])) | (((with_reducible refine no_implicit_lambda% (is_cond ?_)); refine no_implicit_lambda% (c_cond rfl (fun hc => ?_) (fun hc => ?_)) <;> first | exact decx hc | skip)) | (((with_reducible refine no_implicit_lambda% (is_aop ?_)); refine no_implicit_lambda% (a_pick rfl rfl (fun hc => ?_) (fun hc => ?_)) <;> first | exact decx hc | rw [hc])) | (((with_reducible refine no_implicit_lambda% (is_ev ?_)); refine no_implicit_lambda% (v_split rfl rfl rfl rfl (fun hc => ?_) (fun hc => ?_)) <;> first | exact decx hc | rw [hc])) | (refine no_implicit_lambda% (ans ?_)) | (with_reducible exact retN) | (with_reducible exact retP) | fail | fail)
      (with_reducible refine is_effK ?_)
      refine no_implicit_lambda% (k_eff (L2 := [(0, .box (seqC ((l.map nmrow).eraseIdx i ++ [last]) ((cp - l.length) * 2)))]) (fun _ h => h) (fun q hq => by rw [forceH_eq]; exact hq) (fun _ h => h) (by intro k h; repeat (first | exact h | refine ⟨rfl, ?_⟩ | refine ⟨trivial, ?_⟩)) ?_)
      repeat' (first | (refine no_implicit_lambda% (awd1 ?_)) | (((with_reducible refine no_implicit_lambda% (is_aops ?_)); refine no_implicit_lambda% (o_split rfl rfl rfl (fun hc => ?_) (fun hc => ?_)) <;> first | exact decx hc | rw [hc])) | (((with_reducible refine no_implicit_lambda% (is_cond ?_)); refine no_implicit_lambda% (c_cond rfl (fun hc => ?_) (fun hc => ?_)) <;> first | exact decx hc | skip)) | (((with_reducible refine no_implicit_lambda% (is_aop ?_)); refine no_implicit_lambda% (a_pick rfl rfl (fun hc => ?_) (fun hc => ?_)) <;> first | exact decx hc | rw [hc])) | (((with_reducible refine no_implicit_lambda% (is_ev ?_)); refine no_implicit_lambda% (v_split rfl rfl rfl rfl (fun hc => ?_) (fun hc => ?_)) <;> first | exact decx hc | rw [hc])) | (refine no_implicit_lambda% (ans ?_)) | (with_reducible exact retN) | (with_reducible exact retP) | fail | fail)
      (with_reducible refine is_drB ?_)
      refine no_implicit_lambda% (b_end (L1 := [(0, .box (seqC ((l.map nmrow).eraseIdx i ++ [last]) ((cp - l.length) * 2)))]) rfl rfl (fun _ h => h) (fun q hq => by show forceH _ q; rw [forceH_eq]; exact hq) ?_)
      have hR2 : RowsOk 2 ((l.map nmrow).eraseIdx i ++ [last]) := by
        have h1 : RowsOk 2 ((l.map nmrow).eraseIdx i) := by
          rw [List.eraseIdx_eq_take_drop_succ]
          exact ((nmOk l).take i).app ((nmOk l).drop (i + 1))
        exact h1.app (.one1 ((nmOk l).row (List.mem_of_getElem? hlast)))
      have hRl : ((l.map nmrow).eraseIdx i ++ [last]).length = l.length := by
        rw [List.length_append, List.length_eraseIdx_of_lt (by rw [List.length_map]; exact hi), List.length_map, List.length_singleton]; omega
      refine k_seq_to ⟨_, _, _⟩ (Conv.toSeq (L0 := []) (id := 0) (rows := (l.map nmrow).eraseIdx i ++ [last]) (k := (cp - l.length) * 2) (.refl _) rfl hR2.pure) ?_
      repeat' (first | (refine no_implicit_lambda% (awd1 ?_)) | (((with_reducible refine no_implicit_lambda% (is_aops ?_)); refine no_implicit_lambda% (o_split rfl rfl rfl (fun hc => ?_) (fun hc => ?_)) <;> first | exact decx hc | rw [hc])) | (((with_reducible refine no_implicit_lambda% (is_cond ?_)); refine no_implicit_lambda% (c_cond rfl (fun hc => ?_) (fun hc => ?_)) <;> first | exact decx hc | skip)) | (((with_reducible refine no_implicit_lambda% (is_aop ?_)); refine no_implicit_lambda% (a_pick rfl rfl (fun hc => ?_) (fun hc => ?_)) <;> first | exact decx hc | rw [hc])) | (refine no_implicit_lambda% (ans ?_)) | (with_reducible exact retN) | (with_reducible exact retP) | fail | fail)
      ((with_reducible refine no_implicit_lambda% (is_aop ?_)); first | (refine no_implicit_lambda% (a_qS rfl (fun _ h => h) ?_ ?_)) | (refine no_implicit_lambda% (a_qS rfl (qIx (fun _ h => h)) ?_ ?_)) | (refine no_implicit_lambda% (a_qS rfl (qAnd5 (fun _ h => h)) ?_ ?_)) | (refine no_implicit_lambda% (a_qS rfl (qStr (fun _ h => h)) ?_ ?_)) | (refine no_implicit_lambda% (a_qS rfl (qAnd4 (fun _ h => h)) ?_ ?_)) | (refine no_implicit_lambda% (a_qS rfl (qAnd2 (fun _ h => h)) ?_ ?_))); focus ((repeat' (refine no_implicit_lambda% (And.intro ?_ ?_))) <;> (first | exact trivial | exact Int.natCast_nonneg _ | omega | (simp; done) | (simp; omega) | ((show (0 : Int) ≤ _); omega)))
      repeat' (first | (refine no_implicit_lambda% (awd1 ?_)) | (((with_reducible refine no_implicit_lambda% (is_aops ?_)); refine no_implicit_lambda% (o_split rfl rfl rfl (fun hc => ?_) (fun hc => ?_)) <;> first | exact decx hc | rw [hc])) | (((with_reducible refine no_implicit_lambda% (is_cond ?_)); refine no_implicit_lambda% (c_cond rfl (fun hc => ?_) (fun hc => ?_)) <;> first | exact decx hc | skip)) | (((with_reducible refine no_implicit_lambda% (is_aop ?_)); refine no_implicit_lambda% (a_pick rfl rfl (fun hc => ?_) (fun hc => ?_)) <;> first | exact decx hc | rw [hc])) | (refine no_implicit_lambda% (ans ?_)) | (with_reducible exact retN) | (with_reducible exact retP) | fail | fail)
      (with_reducible refine is_aop ?_)
      refine a_clearToC (id := 0) (i := l.length - 1) (sz := 2) (rows := (l.map nmrow).eraseIdx i ++ [last]) (k2 := (cp - (l.length - 1)) * 2) rfl rfl rfl rfl rfl rfl rfl rfl rfl rfl (fun _ h => h) rfl hR2 ?_ ?_ ?_ ?_ ?_ ?_
      · omega
      · show 0 + ((i + (l.length - (i + 1)) : Nat) : Int).toNat * 2 = (l.length - 1) * 2
        rw [Int.toNat_natCast]; omega
      · rw [Int.toNat_natCast, Int.toNat_natCast, hRl]; omega
      · omega
      · rw [hRl]; omega
      · have e0 : i + (l.length - (i + 1)) = l.length - 1 := by omega
        have e1 : ((l.map nmrow).eraseIdx i ++ [last]).take (l.length - 1) = (l.eraseIdx i).map nmrow := by
          have e2 : ((l.map nmrow).eraseIdx i).length = l.length - 1 := by rw [List.length_eraseIdx_of_lt (by rw [List.length_map]; exact hi), List.length_map]
          rw [List.take_append_of_le_length (by omega), List.take_of_length_le (by omega), List.eraseIdx_eq_take_drop_succ, List.eraseIdx_eq_take_drop_succ, List.map_append, List.map_take, List.map_drop]
        rw [e1, e0]
        repeat' (first | (refine no_implicit_lambda% (awd1 ?_)) | (((with_reducible refine no_implicit_lambda% (is_aops ?_)); refine no_implicit_lambda% (o_split rfl rfl rfl (fun hc => ?_) (fun hc => ?_)) <;> first | exact decx hc | rw [hc])) | (((with_reducible refine no_implicit_lambda% (is_cond ?_)); refine no_implicit_lambda% (c_cond rfl (fun hc => ?_) (fun hc => ?_)) <;> first | exact decx hc | skip)) | (((with_reducible refine no_implicit_lambda% (is_aop ?_)); refine no_implicit_lambda% (a_pick rfl rfl (fun hc => ?_) (fun hc => ?_)) <;> first | exact decx hc | rw [hc])) | (refine no_implicit_lambda% (ans ?_)) | (with_reducible exact retN) | (with_reducible exact retP) | fail | fail)
        exact e_ret (H' := [(0, .seq ((l.eraseIdx i).map nmrow) ((cp - (l.length - 1)) * 2))]) (rest := []) rfl ⟨rfl, rfl⟩ permT (Nat.le_of_ble_eq_true rfl)
  · intro h
    exfalso
    omega
end Go.Proofs.Ytjepgbpcpcahgaa
namespace Go.Proofs.Ytjepgbpcpcahgaa
open Go.Am
set_option linter.unusedSimpArgs false
set_option linter.unusedVariables false
set_option maxRecDepth 100000
def nk (Q : List Nm) : List Co := Q.map fun x => ⟨x.n, []⟩
theorem nk_at {Q : List Nm} {i : Nat} {x : Nm} (h : Q[i]? = some x) : (nk Q)[i]? = some ⟨x.n, []⟩ := by unfold nk; rw [List.getElem?_map, h]; rfl
theorem nk_len (Q : List Nm) : (nk Q).length = Q.length := List.length_map ..
theorem nmx {l : List Nm} {i : Nat} {t : Nm} (h : l[i]? = some t) : 0 ≤ (i : Int) ∧ (l.map nmrow)[(i : Int).toNat]? = some (nmrow t) ∧ (nmrow t).length = 2 := ⟨Int.natCast_nonneg _, by rw [Int.toNat_natCast, List.getElem?_map, h]; rfl, rfl⟩
theorem findf_t (c : Nm) (s : ByteArray) : ACalls Try.prog 85 0 0 [.agg (nmrow c), .v (.string s)] [] (fun out H' => out = .ret (.v (.int .i64 (cmpS c.n s))) ∧ H' = []) := by
  refine ACalls.top0 (top := 5) ?_
  refine no_implicit_lambda% (acalls_of tok dok (f := 85) ⟨Try.func85, rfl, by kernel_rfl⟩ ?_); refine no_implicit_lambda% (c_start (fun _ h => h) ?_)
  repeat' (first | (refine no_implicit_lambda% (awd1 ?_)) | (((with_reducible refine no_implicit_lambda% (is_aops ?_)); refine no_implicit_lambda% (o_split rfl rfl rfl (fun hc => ?_) (fun hc => ?_)) <;> first | exact decx hc | rw [hc])) | (((with_reducible refine no_implicit_lambda% (is_cond ?_)); refine no_implicit_lambda% (c_cond rfl (fun hc => ?_) (fun hc => ?_)) <;> first | exact decx hc | skip)) | (((with_reducible refine no_implicit_lambda% (is_aop ?_)); refine no_implicit_lambda% (a_pick rfl rfl (fun hc => ?_) (fun hc => ?_)) <;> first | exact decx hc | rw [hc])) | (refine no_implicit_lambda% (ans ?_)) | (with_reducible exact retN) | (with_reducible exact retP) | (refine no_implicit_lambda% (cal [] (compare_s _ _) ?_ ?_)) | fail)
  exact e_ret (H' := []) (rest := _) rfl ⟨rfl, rfl⟩ permT (Nat.le_of_ble_eq_true rfl)
def ftSt (l : List Nm) (s : ByteArray) (lo hi : Nat) : ASt := ⟨([.list (l.map nmrow) .free, .v (.string s), .fn 85 []] ++ List.replicate 5 .dead ++ [.v (.int .i64 l.length), .v (.int .i64 lo), .v (.int .i64 hi)] ++ List.replicate 38 .dead), [], 0⟩
theorem bsearch_t (l : List Nm) (s : ByteArray) (hl : l.length < 1000000) (hs : Nsort (nk l)) : ACalls Try.prog 84 0 0 [.list (l.map nmrow) .free, .v (.string s), .fn 85 []] [] (fun out H' => out = .ret (.tuple [.v (.int .i64 (npos (nk l) s)), .v (.bool (hasN (nk l) s))]) ∧ H' = []) := by
  refine no_implicit_lambda% (acalls_of tok dok (f := 84) ⟨Try.func84, rfl, by kernel_rfl⟩ ?_); refine no_implicit_lambda% (c_start (fun _ h => h) ?_)
  repeat' (first | (refine no_implicit_lambda% (awd1 ?_)) | (((with_reducible refine no_implicit_lambda% (is_aops ?_)); refine no_implicit_lambda% (o_split rfl rfl rfl (fun hc => ?_) (fun hc => ?_)) <;> first | exact decx hc | rw [hc])) | (((with_reducible refine no_implicit_lambda% (is_cond ?_)); refine no_implicit_lambda% (c_cond rfl (fun hc => ?_) (fun hc => ?_)) <;> first | exact decx hc | skip)) | (((with_reducible refine no_implicit_lambda% (is_aop ?_)); refine no_implicit_lambda% (a_pick rfl rfl (fun hc => ?_) (fun hc => ?_)) <;> first | exact decx hc | rw [hc])) | (refine no_implicit_lambda% (ans ?_)) | (with_reducible exact retN) | (with_reducible exact retP) | fail | fail)
  refine c_loop2 (ftSt l s) (fun lo hi => lo ≤ hi ∧ hi ≤ l.length ∧ lo ≤ npos (nk l) s ∧ npos (nk l) s ≤ hi) (fun lo hi => hi - lo) 0 l.length ⟨Nat.zero_le _, Nat.le_refl _, Nat.zero_le _, (nk_len l) ▸ npos_le (nk l) s⟩ ?_ ?_
  · (refine no_implicit_lambda% (Conv.toT ?_ ?_ (Nat.le_of_ble_eq_true rfl))); (focus ((unfold ftSt); (try dsimp only); exact wkl)); (focus ((unfold ftSt); (try dsimp only); exact wkh))
  · intro lo hi ⟨h1, h2, h3, h4⟩
    refine c_turn (n' := 0) (fun _ h => h) (fun _ h => h) rfl ?_
    rcases Nat.lt_or_ge lo hi with hlt | hge
    · have hm : IntKind.i64.wrap ((IntKind.u64.wrap (IntKind.i64.wrap ((lo : Int) + hi))).fdiv (2 ^ min (Int.toNat 1) IntKind.u64.bits)) = (((lo + hi) / 2 : Nat) : Int) := by
        rw [show min (Int.toNat 1) IntKind.u64.bits = 1 from rfl, Int.pow_one, IntKind.wrap_i64, IntKind.wrap_u64]
        rw [Int.fdiv_eq_ediv_of_nonneg _ (by omega)]
        rw [IntKind.wrap_i64]
        omega
      obtain ⟨m, hmm⟩ : ∃ m, (lo + hi) / 2 = m := ⟨_, rfl⟩
      rw [hmm] at hm
      have hml : m < l.length := by omega
      obtain ⟨t, ht⟩ : ∃ t, l[m]? = some t := ⟨_, List.getElem?_eq_getElem hml⟩
      have hk := npos_lt (s := s) hs (nk_at ht)
      have hix := nmx ht
      rw [← hm] at hix
      repeat' (first | (refine no_implicit_lambda% (awd1 ?_)) | (((with_reducible refine no_implicit_lambda% (is_aops ?_)); refine no_implicit_lambda% (o_split rfl rfl rfl (fun hc => ?_) (fun hc => ?_)) <;> first | exact decx hc | rw [hc])) | (((with_reducible refine no_implicit_lambda% (is_cond ?_)); refine no_implicit_lambda% (c_cond rfl (fun hc => ?_) (fun hc => ?_)) <;> first | exact decx hc | skip)) | (((with_reducible refine no_implicit_lambda% (is_aop ?_)); refine no_implicit_lambda% (a_pick rfl rfl (fun hc => ?_) (fun hc => ?_)) <;> first | exact decx hc | rw [hc])) | (refine no_implicit_lambda% (ans ?_)) | (with_reducible exact retN) | (with_reducible exact retP) | (refine no_implicit_lambda% (cal [] (findf_t t s) ?_ ?_)) | fail)
      · have hq := of_decide_eq_true hc
        have hq2 : sLt t.n s = true := by rw [sLt_eq]; exact decide_eq_true (by have := cb_bd t.n.toList s.toList; unfold cmpS at *; omega)
        rw [hm]
        (refine no_implicit_lambda% (k_loopT (((m + 1, hi) : Nat × Nat)) (by show m + 1 ≤ hi ∧ hi ≤ l.length ∧ m + 1 ≤ npos (nk l) s ∧ npos (nk l) s ≤ hi; have := hk.2 hq2; omega) (by first | omega | (simp; done) | (simp; omega)) ?_ ?_)); (focus ((unfold ftSt); (try dsimp only); exact wkl)); (focus ((unfold ftSt); (try dsimp only); exact wkh))
      · have hq := of_decide_eq_false hc
        have hq2 : ¬ sLt t.n s = true := by rw [sLt_eq, decide_eq_true_eq]; omega
        rw [hm]
        (refine no_implicit_lambda% (k_loopT (((lo, m) : Nat × Nat)) (by show lo ≤ m ∧ m ≤ l.length ∧ lo ≤ npos (nk l) s ∧ npos (nk l) s ≤ m; have := mt hk.1 hq2; omega) (by first | omega | (simp; done) | (simp; omega)) ?_ ?_)); (focus ((unfold ftSt); (try dsimp only); exact wkl)); (focus ((unfold ftSt); (try dsimp only); exact wkh))
    · have hle : lo = hi := by omega
      subst hle
      have hn : lo = npos (nk l) s := by omega
      rcases ht : l[lo]? with _ | t
      · have hge : ¬ lo < l.length := by have := List.getElem?_eq_none_iff.1 ht; omega
        have hh : hasN (nk l) s = false := by
          unfold hasN
          rw [← hn, show (nk l)[lo]? = none by rw [List.getElem?_eq_none_iff, nk_len]; omega]
        rw [hh, ← hn]
        repeat' (first | (refine no_implicit_lambda% (awd1 ?_)) | (((with_reducible refine no_implicit_lambda% (is_aops ?_)); refine no_implicit_lambda% (o_split rfl rfl rfl (fun hc => ?_) (fun hc => ?_)) <;> first | exact decx hc | rw [hc])) | (((with_reducible refine no_implicit_lambda% (is_cond ?_)); refine no_implicit_lambda% (c_cond rfl (fun hc => ?_) (fun hc => ?_)) <;> first | exact decx hc | skip)) | (((with_reducible refine no_implicit_lambda% (is_aop ?_)); refine no_implicit_lambda% (a_pick rfl rfl (fun hc => ?_) (fun hc => ?_)) <;> first | exact decx hc | rw [hc])) | (refine no_implicit_lambda% (ans ?_)) | (with_reducible exact retN) | (with_reducible exact retP) | fail | fail)
        exact e_ret (H' := []) (rest := _) rfl ⟨rfl, rfl⟩ (.refl _) (Nat.le_of_ble_eq_true rfl)
      · have hix := nmx ht
        have hh : hasN (nk l) s = (cmpS t.n s == 0) := by unfold hasN; rw [← hn, nk_at ht]
        rw [hh, ← hn]
        repeat' (first | (refine no_implicit_lambda% (awd1 ?_)) | (((with_reducible refine no_implicit_lambda% (is_aops ?_)); refine no_implicit_lambda% (o_split rfl rfl rfl (fun hc => ?_) (fun hc => ?_)) <;> first | exact decx hc | rw [hc])) | (((with_reducible refine no_implicit_lambda% (is_cond ?_)); refine no_implicit_lambda% (c_cond rfl (fun hc => ?_) (fun hc => ?_)) <;> first | exact decx hc | skip)) | (((with_reducible refine no_implicit_lambda% (is_aop ?_)); refine no_implicit_lambda% (a_pick rfl rfl (fun hc => ?_) (fun hc => ?_)) <;> first | exact decx hc | rw [hc])) | (refine no_implicit_lambda% (ans ?_)) | (with_reducible exact retN) | (with_reducible exact retP) | (refine no_implicit_lambda% (cal [] (findf_t t s) ?_ ?_)) | fail)
        · exact e_ret (H' := []) (rest := _) rfl ⟨rfl, rfl⟩ (.refl _) (Nat.le_of_ble_eq_true rfl)
        · exfalso
          have h5 := (List.getElem?_eq_some_iff.1 ht).1
          have := of_decide_eq_false hc
          omega
/-- .. in a list that may be written -/
theorem bsearch_o (Q : List Nm) (s : ByteArray) (cp : Nat) (hl : Q.length < 1000000) (hs : Nsort (nk Q)) : ACalls Try.prog 84 1 1 [.arr 0 0 Q.length cp, .v (.string s), .fn 85 []] [(0, .seq (Q.map nmrow) ((cp - Q.length) * 2))] (fun out H' => out = .ret (.tuple [.v (.int .i64 (npos (nk Q) s)), .v (.bool (hasN (nk Q) s))]) ∧ H' = [(0, .seq (Q.map nmrow) ((cp - Q.length) * 2))]) :=
  ((bsearch_t Q s hl hs).borrow (k := 1) (top := 1) (args := [.arr 0 0 Q.length cp, .v (.string s), .fn 85 []]) (H := [(0, .seq (Q.map nmrow) ((cp - Q.length) * 2))]) rfl (fun out H' hh => by obtain ⟨rfl, rfl⟩ := hh; rfl) (fun i a' ha => by
    match i with
    | 0 =>
      simp at ha; subst ha
      exact ⟨_, rfl, .seq (k := (cp - Q.length) * 2) (by simp) (nmOk Q) (by simp)⟩
    | 1 =>
      simp at ha; subst ha
      exact ⟨_, rfl, .data rfl⟩
    | 2 =>
      simp at ha; subst ha
      exact ⟨_, rfl, .fn⟩
    | i + 3 => simp at ha)).mono fun out H' hh => by
      obtain ⟨⟨_, h1, _⟩, h2⟩ := hh
      exact ⟨h1, h2⟩
/-- a table -/
def tbl (Q : List Nm) (cp : Nat) : Heap := [(0, .box [.arr 1 0 Q.length cp]), (1, .seq (Q.map nmrow) ((cp - Q.length) * 2))]
theorem tfind_c (Q : List Nm) (s : ByteArray) (cp : Nat) (hl : Q.length < 1000000) (hs : Nsort (nk Q)) : ACalls Try.prog 43 2 2 [.ptr 0 0, .v (.string s)] (tbl Q cp) (fun out H' => out = .ret (.tuple [.v (.int .i64 (npos (nk Q) s)), .v (.bool (hasN (nk Q) s))]) ∧ H' = tbl Q cp) := by
  have hb := bsearch_o Q s cp hl hs
  refine no_implicit_lambda% (acalls_of tok dok (f := 43) ⟨Try.func43, rfl, by kernel_rfl⟩ ?_); refine no_implicit_lambda% (c_start (fun _ h => h) ?_)
  repeat' (first | (refine no_implicit_lambda% (awd1 ?_)) | (((with_reducible refine no_implicit_lambda% (is_aops ?_)); refine no_implicit_lambda% (o_split rfl rfl rfl (fun hc => ?_) (fun hc => ?_)) <;> first | exact decx hc | rw [hc])) | (((with_reducible refine no_implicit_lambda% (is_cond ?_)); refine no_implicit_lambda% (c_cond rfl (fun hc => ?_) (fun hc => ?_)) <;> first | exact decx hc | skip)) | (((with_reducible refine no_implicit_lambda% (is_aop ?_)); refine no_implicit_lambda% (a_pick rfl rfl (fun hc => ?_) (fun hc => ?_)) <;> first | exact decx hc | rw [hc])) | (refine no_implicit_lambda% (ans ?_)) | (with_reducible exact retN) | (with_reducible exact retP) | (refine no_implicit_lambda% (cal [1] (hb) ?_ ?_)) | fail)
  exact e_ret (H' := tbl Q cp) (rest := _) rfl ⟨rfl, rfl⟩ permT (Nat.le_of_ble_eq_true rfl)
end Go.Proofs.Ytjepgbpcpcahgaa
namespace Go.Proofs.Ytjepgbpcpcahgaa
open Go.Am
set_option linter.unusedSimpArgs false
set_option linter.unusedVariables false
set_option maxRecDepth 100000
def NmSz (l : List Nm) : Prop := ∀ x ∈ l, Fine x.r ∧ RowSz x.r
def coSt (l : List Nm) (k off m cp : Nat) (o : List Nm) (cpo j : Nat) : ASt := ⟨([.dead, .dead, .dead, .arr 1 0 j cpo, .dead, .dead, .arr 0 off m cp, .v (.int .i64 m), .v (.int .i64 j)] ++ List.replicate 14 .dead), [(0, .seq (l.map nmrow) k), (1, .seq (o.map nmrow) ((cpo - j) * 2))], 2⟩
set_option maxHeartbeats 3200000 in
theorem copies_o (l : List Nm) (k i m cp : Nat) (hz : NmSz l) (hi : i + m ≤ l.length) (hl : l.length ≤ 1000) : ACalls Try.prog 44 1 2 [.arr 0 (i * 2) m cp] [(0, .seq (l.map nmrow) k)] (fun out H' => ∃ cp2, m ≤ cp2 ∧ cp2 ≤ maxLen ∧ out = .ret (.arr 1 0 m cp2) ∧ H' = [(0, .seq (l.map nmrow) k), (1, .seq (((l.drop i).take m).map nmrow) ((cp2 - m) * 2))]) := by
  refine ACalls.ren (k := 1) (top := 9000) (R := fun out H' => ∃ id cp2, id ≠ 0 ∧ 1 ≤ id ∧ id < 9000 ∧ m ≤ cp2 ∧ cp2 ≤ maxLen ∧ out = .ret (.arr id 0 m cp2) ∧ H' = [(0, .seq (l.map nmrow) k), (id, .seq (((l.drop i).take m).map nmrow) ((cp2 - m) * 2))]) ?_ (by decide) fun out H' hh => ?_
  · refine no_implicit_lambda% (acalls_of tok dok (f := 44) ⟨Try.func44, rfl, by kernel_rfl⟩ ?_); refine no_implicit_lambda% (c_start (fun _ h => h) ?_)
    repeat' (first | (refine no_implicit_lambda% (awd1 ?_)) | (((with_reducible refine no_implicit_lambda% (is_aops ?_)); refine no_implicit_lambda% (o_split rfl rfl rfl (fun hc => ?_) (fun hc => ?_)) <;> first | exact decx hc | rw [hc])) | (((with_reducible refine no_implicit_lambda% (is_cond ?_)); refine no_implicit_lambda% (c_cond rfl (fun hc => ?_) (fun hc => ?_)) <;> first | exact decx hc | skip)) | (((with_reducible refine no_implicit_lambda% (is_aop ?_)); refine no_implicit_lambda% (a_pick rfl rfl (fun hc => ?_) (fun hc => ?_)) <;> first | exact decx hc | rw [hc])) | (refine no_implicit_lambda% (ans ?_)) | (with_reducible exact retN) | (with_reducible exact retP) | fail | fail)
    refine c_l3 (coSt l k (i * 2) m cp) (fun o cpo j => j ≤ m ∧ j ≤ cpo ∧ cpo ≤ maxLen ∧ o = ((l.drop i).take j)) (fun _ _ j => m - j) [] 0 0 ⟨Nat.zero_le _, Nat.le_refl _, by decide, rfl⟩ ((Conv.nilSeq (j := 3) rfl).trans ?_) ?_
    · (refine no_implicit_lambda% (Conv.toT ?_ ?_ (Nat.le_of_ble_eq_true rfl))); (focus ((unfold coSt); (try dsimp only); exact wkl)); (focus ((unfold coSt); (try dsimp only); exact wkh))
    · rintro o cpo j ⟨j1, j2, j3, ho⟩
      have hol : o.length = j := by rw [ho, List.length_take, List.length_drop]; omega
      refine c_turn (n' := 2) (fun _ h => h) (fun _ h => h) rfl ?_
      rcases Nat.lt_or_ge j m with hj | hj
      · obtain ⟨x, hx⟩ : ∃ x, l[i + j]? = some x := ⟨_, List.getElem?_eq_getElem (by omega)⟩
        have hxz := hz x (List.mem_of_getElem? hx)
        have hcp := copy_f x.r (by have := hxz.1.len; omega) hxz.2
        rw [hxz.1.copy] at hcp
        have hts : (l.drop i).take (j + 1) = (l.drop i).take j ++ [x] := by rw [List.take_add_one, List.getElem?_drop, hx]; rfl
        repeat' (first | (refine no_implicit_lambda% (awd1 ?_)) | (((with_reducible refine no_implicit_lambda% (is_aops ?_)); refine no_implicit_lambda% (o_split rfl rfl rfl (fun hc => ?_) (fun hc => ?_)) <;> first | exact decx hc | rw [hc])) | (((with_reducible refine no_implicit_lambda% (is_cond ?_)); refine no_implicit_lambda% (c_cond rfl (fun hc => ?_) (fun hc => ?_)) <;> first | exact decx hc | skip)) | (((with_reducible refine no_implicit_lambda% (is_aop ?_)); refine no_implicit_lambda% (a_pick rfl rfl (fun hc => ?_) (fun hc => ?_)) <;> first | exact decx hc | rw [hc])) | (refine no_implicit_lambda% (ans ?_)) | (with_reducible exact retN) | (with_reducible exact retP) | fail | fail)
        ((with_reducible refine no_implicit_lambda% (is_aop ?_)); first | (refine no_implicit_lambda% (a_qS rfl (fun _ h => h) ?_ ?_)) | (refine no_implicit_lambda% (a_qS rfl (qIx (fun _ h => h)) ?_ ?_)) | (refine no_implicit_lambda% (a_qS rfl (qAnd5 (fun _ h => h)) ?_ ?_)) | (refine no_implicit_lambda% (a_qS rfl (qStr (fun _ h => h)) ?_ ?_)) | (refine no_implicit_lambda% (a_qS rfl (qAnd4 (fun _ h => h)) ?_ ?_)) | (refine no_implicit_lambda% (a_qS rfl (qAnd2 (fun _ h => h)) ?_ ?_))); focus (first | omega | (simp; done) | (simp; omega))
        repeat' (first | (refine no_implicit_lambda% (awd1 ?_)) | (((with_reducible refine no_implicit_lambda% (is_aops ?_)); refine no_implicit_lambda% (o_split rfl rfl rfl (fun hc => ?_) (fun hc => ?_)) <;> first | exact decx hc | rw [hc])) | (((with_reducible refine no_implicit_lambda% (is_cond ?_)); refine no_implicit_lambda% (c_cond rfl (fun hc => ?_) (fun hc => ?_)) <;> first | exact decx hc | skip)) | (((with_reducible refine no_implicit_lambda% (is_aop ?_)); refine no_implicit_lambda% (a_pick rfl rfl (fun hc => ?_) (fun hc => ?_)) <;> first | exact decx hc | rw [hc])) | (refine no_implicit_lambda% (ans ?_)) | (with_reducible exact retN) | (with_reducible exact retP) | fail | fail)
        ((with_reducible refine no_implicit_lambda% (is_aop ?_)); refine no_implicit_lambda% (a_loadSeqA (sz := 2) (rows := l.map nmrow) (i := (i + j)) (j := 0) rfl rfl rfl rfl rfl (nmOk l) ((by rw [List.getElem?_map, hx]; rfl)) (by first | decide | (simp; done)) rfl (by first | rfl | (simp; done) | (simp; omega)) ?_))
        repeat' (first | (refine no_implicit_lambda% (awd1 ?_)) | (((with_reducible refine no_implicit_lambda% (is_aops ?_)); refine no_implicit_lambda% (o_split rfl rfl rfl (fun hc => ?_) (fun hc => ?_)) <;> first | exact decx hc | rw [hc])) | (((with_reducible refine no_implicit_lambda% (is_cond ?_)); refine no_implicit_lambda% (c_cond rfl (fun hc => ?_) (fun hc => ?_)) <;> first | exact decx hc | skip)) | (((with_reducible refine no_implicit_lambda% (is_aop ?_)); refine no_implicit_lambda% (a_pick rfl rfl (fun hc => ?_) (fun hc => ?_)) <;> first | exact decx hc | rw [hc])) | (refine no_implicit_lambda% (ans ?_)) | (with_reducible exact retN) | (with_reducible exact retP) | (refine no_implicit_lambda% (cal [] (hcp) ?_ ?_)) | fail)
        ((with_reducible refine no_implicit_lambda% (is_aop ?_)); refine no_implicit_lambda% (a_appS (sz := 2) (B := 40) (m2 := j + 1) (rows3 := (o ++ [x]).map nmrow) rfl rfl rfl rfl rfl rfl rfl rfl rfl rfl rfl (fun _ h => h) rfl rfl (nmOk o) (nmOk [x]) (by first | rfl | (exact List.length_map ..) | (simp; done) | (simp; omega)) rfl (by first | omega | (simp; omega)) (by first | rfl | (simp; done) | (simp; omega)) (by first | rfl | (exact map_snoc _ _) | (rw [List.map_append]; rfl) | (simp; done)) ?_))
        intro cp' c1 c2
        refine no_implicit_lambda% (aec ?_)
        repeat' (first | (refine no_implicit_lambda% (awd1 ?_)) | (((with_reducible refine no_implicit_lambda% (is_aops ?_)); refine no_implicit_lambda% (o_split rfl rfl rfl (fun hc => ?_) (fun hc => ?_)) <;> first | exact decx hc | rw [hc])) | (((with_reducible refine no_implicit_lambda% (is_cond ?_)); refine no_implicit_lambda% (c_cond rfl (fun hc => ?_) (fun hc => ?_)) <;> first | exact decx hc | skip)) | (((with_reducible refine no_implicit_lambda% (is_aop ?_)); refine no_implicit_lambda% (a_pick rfl rfl (fun hc => ?_) (fun hc => ?_)) <;> first | exact decx hc | rw [hc])) | (refine no_implicit_lambda% (ans ?_)) | (with_reducible exact retN) | (with_reducible exact retP) | fail | fail)
        (refine no_implicit_lambda% (k_loopLT (((o ++ [x], cp', j + 1) : List Nm × Nat × Nat)) 1 [0, 3] (by show j + 1 ≤ m ∧ j + 1 ≤ cp' ∧ cp' ≤ maxLen ∧ o ++ [x] = (l.drop i).take (j + 1); exact ⟨hj, c1, c2, by rw [hts, ho]⟩) (by first | omega | (simp; done) | (simp; omega)) (Nat.le_of_ble_eq_true rfl) (fun _ h => h) (fun _ h => h) ?_ ?_)); (focus ((try dsimp only); exact wkl)); (focus ((try dsimp only); exact wkh))
      · have hjm : j = m := by omega
        repeat' (first | (refine no_implicit_lambda% (awd1 ?_)) | (((with_reducible refine no_implicit_lambda% (is_aops ?_)); refine no_implicit_lambda% (o_split rfl rfl rfl (fun hc => ?_) (fun hc => ?_)) <;> first | exact decx hc | rw [hc])) | (((with_reducible refine no_implicit_lambda% (is_cond ?_)); refine no_implicit_lambda% (c_cond rfl (fun hc => ?_) (fun hc => ?_)) <;> first | exact decx hc | skip)) | (((with_reducible refine no_implicit_lambda% (is_aop ?_)); refine no_implicit_lambda% (a_pick rfl rfl (fun hc => ?_) (fun hc => ?_)) <;> first | exact decx hc | rw [hc])) | (refine no_implicit_lambda% (ans ?_)) | (with_reducible exact retN) | (with_reducible exact retP) | fail | fail)
        subst hjm
        exact e_ret (H' := [(0, .seq (l.map nmrow) k), (1, .seq (o.map nmrow) ((cpo - j) * 2))]) (rest := _) rfl ⟨1, cpo, by decide, by decide, by decide, j2, j3, rfl, by rw [ho]⟩ permT (Nat.le_of_ble_eq_true rfl)
  · obtain ⟨id, cp2, hne, h1, h2, h3, h4, rfl, rfl⟩ := hh
    refine ⟨[0, id], .ret (.arr 1 0 m cp2), [(0, .seq (l.map nmrow) k), (1, .seq (((l.drop i).take m).map nmrow) ((cp2 - m) * 2))], by simp; exact fun h => hne h.symm, (fun q h => by simp at h; omega), (fun q h => by rw [show q = 0 from Nat.lt_one_iff.1 h]; rfl), Nat.le_refl _, ?_, ?_, cp2, h3, h4, rfl, rfl⟩
    · simp [AOut.ren, AV.ren, AV.renL, rn]
    · simp [renH, Res.ren, rn]
end Go.Proofs.Ytjepgbpcpcahgaa
namespace Go.Proofs.Ytjepgbpcpcahgaa
open Go.Am
set_option linter.unusedSimpArgs false
set_option linter.unusedVariables false
set_option maxRecDepth 100000
/-- a table that has one more, one other, one less -/
def setN (Q : List Nm) (s : ByteArray) (r : List Co) : Int × List Nm :=
  if nmB s = false ∨ rowB r = false then (1, Q) else
  if r = [] then (0, if hasN (nk Q) s then Q.eraseIdx (npos (nk Q) s) else Q) else
  if hasN (nk Q) s then (0, Q.set (npos (nk Q) s) ⟨s, copyR r⟩) else
  if 32 ≤ Q.length then (13, Q) else (0, insAt Q (npos (nk Q) s) ⟨s, copyR r⟩)
structure TbOk (Q : List Nm) : Prop where
  srt : Nsort (nk Q)
  len : Q.length ≤ 32
  sz : NmSz Q
  nm : ∀ x ∈ Q, nmB x.n = true ∧ x.r ≠ []
/-- a table, its list called anew -/
def tbl2 (Q : List Nm) (cp : Nat) : Heap := [(0, .box [.arr 2 0 Q.length cp]), (2, .seq (Q.map nmrow) ((cp - Q.length) * 2))]
def tnew (out : AOut) (H' : Heap) : Prop := out = .ret (.ptr 0 0) ∧ H' = tbl [] 0
theorem hasN_len {Q : List Nm} {s : ByteArray} (h : hasN (nk Q) s = true) : npos (nk Q) s < Q.length := by
  have := npos_len h
  rwa [nk_len] at this
theorem hasN_nm {Q : List Nm} {s : ByteArray} (h : hasN (nk Q) s = true) : ∃ x, Q[npos (nk Q) s]? = some x ∧ x.n.toList = s.toList := by
  obtain ⟨x, hx⟩ : ∃ x, Q[npos (nk Q) s]? = some x := ⟨_, List.getElem?_eq_getElem (hasN_len h)⟩
  refine ⟨x, hx, ?_⟩
  unfold hasN at h
  rw [nk_at hx] at h
  have h2 : cmpS x.n s = 0 := by simpa using h
  have h3 := eq_cb x.n.toList s.toList
  unfold cmpS at h2
  rw [h2] at h3
  simpa using h3
theorem bytes_eq {a b : ByteArray} (h : a.toList = b.toList) : a = b := by
  have h2 : a.data.toList = b.data.toList := by
    simpa only [ByteArray.toList_eq] using h
  cases a; cases b
  simp at h2
  rw [h2]
set_option maxHeartbeats 6400000 in
theorem set_c (Q : List Nm) (s : ByteArray) (r : List Co) (cp : Nat) (hQ : TbOk Q) (hc1 : Q.length ≤ cp) (hc2 : cp ≤ maxLen) (hr : r.length < 70368744177664) (hz : RowSz r) : ACalls Try.prog 18 2 3 [.ptr 0 0, .v (.string s), rowA r] (tbl Q cp) (fun out H' => ∃ cp2, (setN Q s r).2.length ≤ cp2 ∧ cp2 ≤ maxLen ∧ out = .ret (.v (.int .i64 (setN Q s r).1)) ∧ H' = tbl2 (setN Q s r).2 cp2) := by
  have hl := hQ.len
  have hnm := name_c s
  have hrt := (right_c r hr).top0
  have hfd := tfind_c Q s cp (by omega) hQ.srt
  have hcp := copy_f r hr hz
  have hpl := npos_le (nk Q) s
  rw [nk_len] at hpl
  have hsl : ∀ y : Nm, (Q.set (npos (nk Q) s) y).length = Q.length := fun y => List.length_set ..
  refine ACalls.ren (k := 2) (top := 9000) (R := fun out H' => ∃ id cp2, id ≠ 0 ∧ 2 ≤ id ∧ id < 9000 ∧ (setN Q s r).2.length ≤ cp2 ∧ cp2 ≤ maxLen ∧ out = .ret (.v (.int .i64 (setN Q s r).1)) ∧ H' = [(0, .box [.arr id 0 (setN Q s r).2.length cp2]), (id, .seq ((setN Q s r).2.map nmrow) ((cp2 - (setN Q s r).2.length) * 2))]) ?_ (by decide) fun out H' hh => ?_
  · have hend : ∀ (e : Int) (cpx : Nat), setN Q s r = (e, Q) → ∃ id cp2, id ≠ 0 ∧ 2 ≤ id ∧ id < 9000 ∧ (setN Q s r).2.length ≤ cp2 ∧ cp2 ≤ maxLen ∧ AOut.ret (.v (.int .i64 e)) = .ret (.v (.int .i64 (setN Q s r).1)) ∧ ([(0, Res.box [.arr 3 0 Q.length cp]), (3, .seq (Q.map nmrow) ((cp - Q.length) * 2))] : Heap) = [(0, .box [.arr id 0 (setN Q s r).2.length cp2]), (id, .seq ((setN Q s r).2.map nmrow) ((cp2 - (setN Q s r).2.length) * 2))] := fun e _ h => by
      rw [h]
      exact ⟨3, cp, by decide, by decide, by decide, hc1, hc2, rfl, rfl⟩
    refine no_implicit_lambda% (acalls_of tok dok (f := 18) ⟨Try.func18, rfl, by kernel_rfl⟩ ?_); refine no_implicit_lambda% (c_start (fun _ h => h) ?_)
    repeat' (first | (refine no_implicit_lambda% (awd1 ?_)) | (((with_reducible refine no_implicit_lambda% (is_aops ?_)); refine no_implicit_lambda% (o_split rfl rfl rfl (fun hc => ?_) (fun hc => ?_)) <;> first | exact decx hc | rw [hc])) | (((with_reducible refine no_implicit_lambda% (is_cond ?_)); refine no_implicit_lambda% (c_cond rfl (fun hc => ?_) (fun hc => ?_)) <;> first | exact decx hc | skip)) | (((with_reducible refine no_implicit_lambda% (is_aop ?_)); refine no_implicit_lambda% (a_pick rfl rfl (fun hc => ?_) (fun hc => ?_)) <;> first | exact decx hc | rw [hc])) | (refine no_implicit_lambda% (ans ?_)) | (with_reducible exact retN) | (with_reducible exact retP) | (refine no_implicit_lambda% (cal [] (hnm) ?_ ?_)) | (refine no_implicit_lambda% (cal [] (hrt) ?_ ?_)) | (refine no_implicit_lambda% (cal [0, 1] (hfd) ?_ ?_)) | fail)
    all_goals try (exfalso; clear hnm hrt hfd hcp hend hsl hQ hz; simp_all; done)
    · have h1 : nmB s = false := by simpa using hc
      exact e_ret_to (H' := [(0, .box [.arr 3 0 (Q.length) cp]), (3, .seq (Q.map nmrow) ((cp - (Q.length)) * 2))]) (rest := []) ((Conv.anewBox (id := 1) (bid := 0) (j := 0) (off := 0) (m := Q.length) (c := cp) (k := (cp - (Q.length)) * 2) (rows := Q.map nmrow) (cells := [.arr 1 0 (Q.length) cp]) (permT (H := [(1, .seq (Q.map nmrow) ((cp - (Q.length)) * 2)), (0, .box [.arr 1 0 (Q.length) cp])])) rfl (fun h => by rw [List.length_map] at h; omega)).trans (Conv.toT (τ := ⟨_, [(0, .box [.arr 3 0 (Q.length) cp]), (3, .seq (Q.map nmrow) ((cp - (Q.length)) * 2))], 4⟩) (WkL.refl _) (WkH.refl _) (Nat.le_of_ble_eq_true rfl))) rfl (hend 1 0 (by unfold setN; rw [if_pos (.inl h1)])) (.of_eq rfl) (Nat.le_of_ble_eq_true rfl)
    · have h1 : rowB r = false := by simpa using hc
      exact e_ret_to (H' := [(0, .box [.arr 3 0 (Q.length) cp]), (3, .seq (Q.map nmrow) ((cp - (Q.length)) * 2))]) (rest := []) ((Conv.anewBox (id := 1) (bid := 0) (j := 0) (off := 0) (m := Q.length) (c := cp) (k := (cp - (Q.length)) * 2) (rows := Q.map nmrow) (cells := [.arr 1 0 (Q.length) cp]) (permT (H := [(1, .seq (Q.map nmrow) ((cp - (Q.length)) * 2)), (0, .box [.arr 1 0 (Q.length) cp])])) rfl (fun h => by rw [List.length_map] at h; omega)).trans (Conv.toT (τ := ⟨_, [(0, .box [.arr 3 0 (Q.length) cp]), (3, .seq (Q.map nmrow) ((cp - (Q.length)) * 2))], 4⟩) (WkL.refl _) (WkH.refl _) (Nat.le_of_ble_eq_true rfl))) rfl (hend 1 0 (by unfold setN; rw [if_pos (.inr h1)])) (.of_eq rfl) (Nat.le_of_ble_eq_true rfl)
    · have hN : hasN (nk Q) s = true := by assumption
      have h0 : r = [] := by simp only [beq_iff_eq, List.length_map] at *; exact List.eq_nil_of_length_eq_zero (by omega)
      have hnot : ¬ (nmB s = false ∨ rowB r = false) := by simp_all
      have hq : setN Q s r = (0, Q.eraseIdx (npos (nk Q) s)) := by unfold setN; rw [if_neg hnot, if_pos h0, hN, if_pos rfl]
      have hlt := hasN_len hN
      have hd := delete_nam Q cp (npos (nk Q) s) hlt (by omega) hc1 hc2
      have hel : (Q.eraseIdx (npos (nk Q) s)).length = Q.length - 1 := List.length_eraseIdx_of_lt hlt
      rw [show IntKind.i64.wrap ((npos (nk Q) s : Int) + 1) = ((npos (nk Q) s + 1 : Nat) : Int) by rw [z64 (by omega) (by omega)]; omega]
      (refine no_implicit_lambda% (cal [1] (hd) ?_ ?_))
      · refine no_implicit_lambda% (ret1 ?_); first | (refine no_implicit_lambda% (akc ?_)) | (refine no_implicit_lambda% (aec ?_))
        repeat' (first | (refine no_implicit_lambda% (awd1 ?_)) | (((with_reducible refine no_implicit_lambda% (is_aops ?_)); refine no_implicit_lambda% (o_split rfl rfl rfl (fun hc => ?_) (fun hc => ?_)) <;> first | exact decx hc | rw [hc])) | (((with_reducible refine no_implicit_lambda% (is_cond ?_)); refine no_implicit_lambda% (c_cond rfl (fun hc => ?_) (fun hc => ?_)) <;> first | exact decx hc | skip)) | (((with_reducible refine no_implicit_lambda% (is_aop ?_)); refine no_implicit_lambda% (a_pick rfl rfl (fun hc => ?_) (fun hc => ?_)) <;> first | exact decx hc | rw [hc])) | (refine no_implicit_lambda% (ans ?_)) | (with_reducible exact retN) | (with_reducible exact retP) | fail | fail)
        rw [hq]
        exact e_ret_to (H' := [(0, .box [.arr 3 0 (Q.length - 1) cp]), (3, .seq ((Q.eraseIdx (npos (nk Q) s)).map nmrow) ((cp - (Q.length - 1)) * 2))]) (rest := []) ((Conv.anewBox (id := 1) (bid := 0) (j := 0) (off := 0) (m := Q.length - 1) (c := cp) (k := (cp - (Q.length - 1)) * 2) (rows := (Q.eraseIdx (npos (nk Q) s)).map nmrow) (cells := [.arr 1 0 (Q.length - 1) cp]) (permT (H := [(1, .seq ((Q.eraseIdx (npos (nk Q) s)).map nmrow) ((cp - (Q.length - 1)) * 2)), (0, .box [.arr 1 0 (Q.length - 1) cp])])) rfl (fun h => by rw [List.length_map] at h; omega)).trans (Conv.toT (τ := ⟨_, [(0, .box [.arr 3 0 (Q.length - 1) cp]), (3, .seq ((Q.eraseIdx (npos (nk Q) s)).map nmrow) ((cp - (Q.length - 1)) * 2))], 4⟩) (WkL.refl _) (WkH.refl _) (Nat.le_of_ble_eq_true rfl))) rfl (⟨3, cp, by decide, by decide, by decide, by show (Q.eraseIdx (npos (nk Q) s)).length ≤ cp; omega, hc2, rfl, by show _ = [(0, Res.box [.arr 3 0 (Q.eraseIdx (npos (nk Q) s)).length cp]), (3, .seq ((Q.eraseIdx (npos (nk Q) s)).map nmrow) ((cp - (Q.eraseIdx (npos (nk Q) s)).length) * 2))]; rw [hel]⟩) (.of_eq rfl) (Nat.le_of_ble_eq_true rfl)
      · first | (exact retN) | (exact retP)
    · have hN : hasN (nk Q) s = false := by assumption
      have h0 : r = [] := by simp only [beq_iff_eq, List.length_map] at *; exact List.eq_nil_of_length_eq_zero (by omega)
      have hnot : ¬ (nmB s = false ∨ rowB r = false) := by simp_all
      exact e_ret_to (H' := [(0, .box [.arr 3 0 (Q.length) cp]), (3, .seq (Q.map nmrow) ((cp - (Q.length)) * 2))]) (rest := []) ((Conv.anewBox (id := 1) (bid := 0) (j := 0) (off := 0) (m := Q.length) (c := cp) (k := (cp - (Q.length)) * 2) (rows := Q.map nmrow) (cells := [.arr 1 0 (Q.length) cp]) (permT (H := [(1, .seq (Q.map nmrow) ((cp - (Q.length)) * 2)), (0, .box [.arr 1 0 (Q.length) cp])])) rfl (fun h => by rw [List.length_map] at h; omega)).trans (Conv.toT (τ := ⟨_, [(0, .box [.arr 3 0 (Q.length) cp]), (3, .seq (Q.map nmrow) ((cp - (Q.length)) * 2))], 4⟩) (WkL.refl _) (WkH.refl _) (Nat.le_of_ble_eq_true rfl))) rfl (hend 0 0 (by unfold setN; rw [if_neg hnot, if_pos h0, hN]; rfl)) (.of_eq rfl) (Nat.le_of_ble_eq_true rfl)
    · have hN : hasN (nk Q) s = true := by assumption
      have h0 : r ≠ [] := by rintro rfl; simp at *
      have hnot : ¬ (nmB s = false ∨ rowB r = false) := by simp_all
      obtain ⟨x, hx, hxs⟩ := hasN_nm hN
      have hxe := bytes_eq hxs
      have hlt := hasN_len hN
      have hsl2 := hsl ⟨x.n, copyR r⟩
      have hq : setN Q s r = (0, Q.set (npos (nk Q) s) ⟨x.n, copyR r⟩) := by unfold setN; rw [if_neg hnot, if_neg h0, if_pos hN, hxe]
      (refine no_implicit_lambda% (cal [] (hcp) ?_ ?_))
      · refine no_implicit_lambda% (ret1 ?_); first | (refine no_implicit_lambda% (akc ?_)) | (refine no_implicit_lambda% (aec ?_))
        repeat' (first | (refine no_implicit_lambda% (awd1 ?_)) | (((with_reducible refine no_implicit_lambda% (is_aops ?_)); refine no_implicit_lambda% (o_split rfl rfl rfl (fun hc => ?_) (fun hc => ?_)) <;> first | exact decx hc | rw [hc])) | (((with_reducible refine no_implicit_lambda% (is_cond ?_)); refine no_implicit_lambda% (c_cond rfl (fun hc => ?_) (fun hc => ?_)) <;> first | exact decx hc | skip)) | (((with_reducible refine no_implicit_lambda% (is_aop ?_)); refine no_implicit_lambda% (a_pick rfl rfl (fun hc => ?_) (fun hc => ?_)) <;> first | exact decx hc | rw [hc])) | (refine no_implicit_lambda% (ans ?_)) | (with_reducible exact retN) | (with_reducible exact retP) | fail | fail)
        ((with_reducible refine no_implicit_lambda% (is_ev ?_)); first | (refine no_implicit_lambda% (v_qS rfl rfl rfl rfl (fun _ h => h) (fun _ h => h) ?_ ?_)) | (refine no_implicit_lambda% (v_qS rfl rfl rfl rfl (qAnd2 (fun _ h => h)) (fun _ h => h) ?_ ?_))); focus (first | omega | (simp; done) | (simp; omega))
        repeat' (first | (refine no_implicit_lambda% (awd1 ?_)) | (((with_reducible refine no_implicit_lambda% (is_aops ?_)); refine no_implicit_lambda% (o_split rfl rfl rfl (fun hc => ?_) (fun hc => ?_)) <;> first | exact decx hc | rw [hc])) | (((with_reducible refine no_implicit_lambda% (is_cond ?_)); refine no_implicit_lambda% (c_cond rfl (fun hc => ?_) (fun hc => ?_)) <;> first | exact decx hc | skip)) | (((with_reducible refine no_implicit_lambda% (is_aop ?_)); refine no_implicit_lambda% (a_pick rfl rfl (fun hc => ?_) (fun hc => ?_)) <;> first | exact decx hc | rw [hc])) | (refine no_implicit_lambda% (ans ?_)) | (with_reducible exact retN) | (with_reducible exact retP) | fail | fail)
        ((with_reducible refine no_implicit_lambda% (is_aop ?_)); refine no_implicit_lambda% (a_storeSeq (sz := 2) (rows := Q.map nmrow) (i := (npos (nk Q) s)) (j := 1) (row' := [.v (.string x.n), .list ((copyR r).map corow) .free]) rfl rfl rfl (fun _ h => h) rfl rfl (nmOk Q) ((by rw [List.getElem?_map, hx]; rfl)) (by first | decide | (simp; done)) (by first | rfl | (simp; done)) (by first | rfl | (simp; done) | (simp; omega)) ?_))
        rw [show (Q.map nmrow).set (npos (nk Q) s) [.v (.string x.n), .list ((copyR r).map corow) .free] = (Q.set (npos (nk Q) s) ⟨x.n, copyR r⟩).map nmrow by rw [List.map_set]; rfl]
        refine no_implicit_lambda% (aec ?_)
        repeat' (first | (refine no_implicit_lambda% (awd1 ?_)) | (((with_reducible refine no_implicit_lambda% (is_aops ?_)); refine no_implicit_lambda% (o_split rfl rfl rfl (fun hc => ?_) (fun hc => ?_)) <;> first | exact decx hc | rw [hc])) | (((with_reducible refine no_implicit_lambda% (is_cond ?_)); refine no_implicit_lambda% (c_cond rfl (fun hc => ?_) (fun hc => ?_)) <;> first | exact decx hc | skip)) | (((with_reducible refine no_implicit_lambda% (is_aop ?_)); refine no_implicit_lambda% (a_pick rfl rfl (fun hc => ?_) (fun hc => ?_)) <;> first | exact decx hc | rw [hc])) | (refine no_implicit_lambda% (ans ?_)) | (with_reducible exact retN) | (with_reducible exact retP) | fail | fail)
        rw [hq]
        exact e_ret_to (H' := [(0, .box [.arr 3 0 (Q.length) cp]), (3, .seq ((Q.set (npos (nk Q) s) ⟨x.n, copyR r⟩).map nmrow) ((cp - (Q.length)) * 2))]) (rest := []) ((Conv.anewBox (id := 1) (bid := 0) (j := 0) (off := 0) (m := Q.length) (c := cp) (k := (cp - (Q.length)) * 2) (rows := (Q.set (npos (nk Q) s) ⟨x.n, copyR r⟩).map nmrow) (cells := [.arr 1 0 (Q.length) cp]) (permT (H := [(1, .seq ((Q.set (npos (nk Q) s) ⟨x.n, copyR r⟩).map nmrow) ((cp - (Q.length)) * 2)), (0, .box [.arr 1 0 (Q.length) cp])])) rfl (fun h => by rw [List.length_map] at h; omega)).trans (Conv.toT (τ := ⟨_, [(0, .box [.arr 3 0 (Q.length) cp]), (3, .seq ((Q.set (npos (nk Q) s) ⟨x.n, copyR r⟩).map nmrow) ((cp - (Q.length)) * 2))], 4⟩) (WkL.refl _) (WkH.refl _) (Nat.le_of_ble_eq_true rfl))) rfl (⟨3, cp, by decide, by decide, by decide, by show (Q.set _ _).length ≤ cp; rw [List.length_set]; exact hc1, hc2, rfl, by show _ = [(0, Res.box [.arr 3 0 (Q.set (npos (nk Q) s) ⟨x.n, copyR r⟩).length cp]), (3, .seq _ ((cp - (Q.set (npos (nk Q) s) ⟨x.n, copyR r⟩).length) * 2))]; rw [List.length_set]⟩) (.of_eq rfl) (Nat.le_of_ble_eq_true rfl)
      · first | (exact retN) | (exact retP)
    · have hN : hasN (nk Q) s = false := by assumption
      have h0 : r ≠ [] := by rintro rfl; simp at *
      have hnot : ¬ (nmB s = false ∨ rowB r = false) := by simp_all
      have h32 : 32 ≤ Q.length := by have := of_decide_eq_true hc; omega
      exact e_ret_to (H' := [(0, .box [.arr 3 0 (Q.length) cp]), (3, .seq (Q.map nmrow) ((cp - (Q.length)) * 2))]) (rest := []) ((Conv.anewBox (id := 1) (bid := 0) (j := 0) (off := 0) (m := Q.length) (c := cp) (k := (cp - (Q.length)) * 2) (rows := Q.map nmrow) (cells := [.arr 1 0 (Q.length) cp]) (permT (H := [(1, .seq (Q.map nmrow) ((cp - (Q.length)) * 2)), (0, .box [.arr 1 0 (Q.length) cp])])) rfl (fun h => by rw [List.length_map] at h; omega)).trans (Conv.toT (τ := ⟨_, [(0, .box [.arr 3 0 (Q.length) cp]), (3, .seq (Q.map nmrow) ((cp - (Q.length)) * 2))], 4⟩) (WkL.refl _) (WkH.refl _) (Nat.le_of_ble_eq_true rfl))) rfl (hend 13 0 (by unfold setN; rw [if_neg hnot, if_neg h0, hN, if_neg (by simp), if_pos h32])) (.of_eq rfl) (Nat.le_of_ble_eq_true rfl)
    · have hN : hasN (nk Q) s = false := by assumption
      have h0 : r ≠ [] := by rintro rfl; simp at *
      have hnot : ¬ (nmB s = false ∨ rowB r = false) := by simp_all
      have h32 : ¬ 32 ≤ Q.length := by have := of_decide_eq_false hc; omega
      have hq : setN Q s r = (0, insAt Q (npos (nk Q) s) ⟨s, copyR r⟩) := by unfold setN; rw [if_neg hnot, if_neg h0, hN, if_neg (by simp), if_neg h32]
      have hin := insert_nam (Q.map nmrow) (nmrow ⟨s, copyR r⟩) (npos (nk Q) s) cp (nmOk Q) (nmOk [⟨s, copyR r⟩]) (by rw [List.length_map]; exact hpl) (by rw [List.length_map]; omega) (by rw [List.length_map]; exact hc1) hc2
      rw [List.length_map, insAt_map] at hin
      have hil : (insAt Q (npos (nk Q) s) ⟨s, copyR r⟩).length = Q.length + 1 := insAt_len _ hpl
      (refine no_implicit_lambda% (cal [] (hcp) ?_ ?_))
      · refine no_implicit_lambda% (ret1 ?_); first | (refine no_implicit_lambda% (akc ?_)) | (refine no_implicit_lambda% (aec ?_))
        repeat' (first | (refine no_implicit_lambda% (awd1 ?_)) | (((with_reducible refine no_implicit_lambda% (is_aops ?_)); refine no_implicit_lambda% (o_split rfl rfl rfl (fun hc => ?_) (fun hc => ?_)) <;> first | exact decx hc | rw [hc])) | (((with_reducible refine no_implicit_lambda% (is_cond ?_)); refine no_implicit_lambda% (c_cond rfl (fun hc => ?_) (fun hc => ?_)) <;> first | exact decx hc | skip)) | (((with_reducible refine no_implicit_lambda% (is_aop ?_)); refine no_implicit_lambda% (a_pick rfl rfl (fun hc => ?_) (fun hc => ?_)) <;> first | exact decx hc | rw [hc])) | (refine no_implicit_lambda% (ans ?_)) | (with_reducible exact retN) | (with_reducible exact retP) | fail | fail)
        (refine no_implicit_lambda% (calw [1] (hin) ?_ ?_))
        · intro xx H' hh
          obtain ⟨cp', d1, d2, h', rfl⟩ := hh
          cases h'
          first | (refine no_implicit_lambda% (akc ?_)) | (refine no_implicit_lambda% (aec ?_))
          repeat' (first | (refine no_implicit_lambda% (awd1 ?_)) | (((with_reducible refine no_implicit_lambda% (is_aops ?_)); refine no_implicit_lambda% (o_split rfl rfl rfl (fun hc => ?_) (fun hc => ?_)) <;> first | exact decx hc | rw [hc])) | (((with_reducible refine no_implicit_lambda% (is_cond ?_)); refine no_implicit_lambda% (c_cond rfl (fun hc => ?_) (fun hc => ?_)) <;> first | exact decx hc | skip)) | (((with_reducible refine no_implicit_lambda% (is_aop ?_)); refine no_implicit_lambda% (a_pick rfl rfl (fun hc => ?_) (fun hc => ?_)) <;> first | exact decx hc | rw [hc])) | (refine no_implicit_lambda% (ans ?_)) | (with_reducible exact retN) | (with_reducible exact retP) | fail | fail)
          rw [hq]
          exact e_ret (H' := [(0, .box [.arr 3 0 (Q.length + 1) cp']), (3, .seq ((insAt Q (npos (nk Q) s) ⟨s, copyR r⟩).map nmrow) ((cp' - (Q.length + 1)) * 2))]) (rest := _) rfl ⟨3, cp', by decide, by decide, by decide, by show (insAt _ _ _).length ≤ cp'; omega, d2, rfl, by show _ = [(0, Res.box [.arr 3 0 (insAt Q (npos (nk Q) s) ⟨s, copyR r⟩).length cp']), (3, .seq _ ((cp' - (insAt Q (npos (nk Q) s) ⟨s, copyR r⟩).length) * 2))]; rw [hil]⟩ permT (Nat.le_of_ble_eq_true rfl)
        · intro xx H' hh
          obtain ⟨_, _, _, h', _⟩ := hh
          cases h'
      · first | (exact retN) | (exact retP)
  · obtain ⟨id, cp2, hne, h1, h2, h3, h4, rfl, rfl⟩ := hh
    refine ⟨[0, 1, id], .ret (.v (.int .i64 (setN Q s r).1)), tbl2 (setN Q s r).2 cp2, by simp; omega, (fun q h => by simp at h; omega), ?_, Nat.le_refl _, ?_, ?_, cp2, h3, h4, rfl, rfl⟩
    · intro q h
      rcases q with _ | _ | q
      · rfl
      · rfl
      · omega
    · simp [AOut.ren, AV.ren]
    · simp [tbl2, renH, Res.ren, rn, AV.renL, AV.ren]
end Go.Proofs.Ytjepgbpcpcahgaa
namespace Go.Proofs.Ytjepgbpcpcahgaa
open Go.Am
set_option linter.unusedSimpArgs false
set_option linter.unusedVariables false
set_option maxRecDepth 100000
theorem tnew_c : ACalls Try.prog 39 0 2 [] [] tnew := by
  refine no_implicit_lambda% (acalls_of tok dok (f := 39) ⟨Try.func39, rfl, by kernel_rfl⟩ ?_); refine no_implicit_lambda% (c_start (fun _ h => h) ?_)
  repeat' (first | (refine no_implicit_lambda% (awd1 ?_)) | (((with_reducible refine no_implicit_lambda% (is_aops ?_)); refine no_implicit_lambda% (o_split rfl rfl rfl (fun hc => ?_) (fun hc => ?_)) <;> first | exact decx hc | rw [hc])) | (((with_reducible refine no_implicit_lambda% (is_cond ?_)); refine no_implicit_lambda% (c_cond rfl (fun hc => ?_) (fun hc => ?_)) <;> first | exact decx hc | skip)) | (((with_reducible refine no_implicit_lambda% (is_aop ?_)); refine no_implicit_lambda% (a_pick rfl rfl (fun hc => ?_) (fun hc => ?_)) <;> first | exact decx hc | rw [hc])) | (refine no_implicit_lambda% (ans ?_)) | (with_reducible exact retN) | (with_reducible exact retP) | fail | fail)
  exact e_ret_to (H' := tbl [] 0) (rest := []) (Conv.nilBox (id := 0) (j := 0) rfl rfl) rfl ⟨rfl, rfl⟩ permT (Nat.le_of_ble_eq_true rfl)
theorem tlen_c (Q : List Nm) (cp : Nat) : ACalls Try.prog 17 2 2 [.ptr 0 0] (tbl Q cp) (fun out H' => out = .ret (.v (.int .i64 Q.length)) ∧ H' = tbl Q cp) := by
  refine no_implicit_lambda% (acalls_of tok dok (f := 17) ⟨Try.func17, rfl, by kernel_rfl⟩ ?_); refine no_implicit_lambda% (c_start (fun _ h => h) ?_)
  repeat' (first | (refine no_implicit_lambda% (awd1 ?_)) | (((with_reducible refine no_implicit_lambda% (is_aops ?_)); refine no_implicit_lambda% (o_split rfl rfl rfl (fun hc => ?_) (fun hc => ?_)) <;> first | exact decx hc | rw [hc])) | (((with_reducible refine no_implicit_lambda% (is_cond ?_)); refine no_implicit_lambda% (c_cond rfl (fun hc => ?_) (fun hc => ?_)) <;> first | exact decx hc | skip)) | (((with_reducible refine no_implicit_lambda% (is_aop ?_)); refine no_implicit_lambda% (a_pick rfl rfl (fun hc => ?_) (fun hc => ?_)) <;> first | exact decx hc | rw [hc])) | (refine no_implicit_lambda% (ans ?_)) | (with_reducible exact retN) | (with_reducible exact retP) | fail | fail)
  exact e_ret (H' := tbl Q cp) (rest := []) rfl ⟨rfl, rfl⟩ permT (Nat.le_of_ble_eq_true rfl)
/-- a row by its name -/
def getN (Q : List Nm) (s : ByteArray) : List Co × Bool :=
  if hasN (nk Q) s then ((match Q[npos (nk Q) s]? with | some x => x.r | none => []), true) else ([], false)
theorem tget_c (Q : List Nm) (s : ByteArray) (cp : Nat) (hQ : TbOk Q) : ACalls Try.prog 46 2 20 [.ptr 0 0, .v (.string s)] (tbl Q cp) (fun out H' => out = .ret (.tuple [rowA (getN Q s).1, .v (.bool (getN Q s).2)]) ∧ H' = tbl Q cp) := by
  have hl := hQ.len
  have hfd := tfind_c Q s cp (by omega) hQ.srt
  refine no_implicit_lambda% (acalls_of tok dok (f := 46) ⟨Try.func46, rfl, by kernel_rfl⟩ ?_); refine no_implicit_lambda% (c_start (fun _ h => h) ?_)
  rcases hN : hasN (nk Q) s with _ | _
  · have hg : getN Q s = ([], false) := by unfold getN; rw [hN, if_neg (by simp)]
    rw [hN] at hfd
    repeat' (first | (refine no_implicit_lambda% (awd1 ?_)) | (((with_reducible refine no_implicit_lambda% (is_aops ?_)); refine no_implicit_lambda% (o_split rfl rfl rfl (fun hc => ?_) (fun hc => ?_)) <;> first | exact decx hc | rw [hc])) | (((with_reducible refine no_implicit_lambda% (is_cond ?_)); refine no_implicit_lambda% (c_cond rfl (fun hc => ?_) (fun hc => ?_)) <;> first | exact decx hc | skip)) | (((with_reducible refine no_implicit_lambda% (is_aop ?_)); refine no_implicit_lambda% (a_pick rfl rfl (fun hc => ?_) (fun hc => ?_)) <;> first | exact decx hc | rw [hc])) | (refine no_implicit_lambda% (ans ?_)) | (with_reducible exact retN) | (with_reducible exact retP) | (refine no_implicit_lambda% (cal [0, 1] (hfd) ?_ ?_)) | fail)
    rw [hg]
    refine e_ret_to (H' := tbl Q cp) (rest := [(2, .box [.list [] .free])]) (Conv.toT (τ := ⟨_, [(0, .box [.arr 1 0 Q.length cp]), (1, .seq (Q.map nmrow) ((cp - Q.length) * 2)), (2, .box [.list [] .free])], _⟩) (.refl _) ?_ (Nat.le_refl _)) rfl ⟨rfl, rfl⟩ permT (Nat.le_of_ble_eq_true rfl)
    exact wkh
  · have hlt := hasN_len hN
    obtain ⟨x, hx, hxs⟩ := hasN_nm hN
    have hxz := hQ.sz x (List.mem_of_getElem? hx)
    have hcp := copy_f x.r (by have := hxz.1.len; omega) hxz.2
    rw [hxz.1.copy] at hcp
    have hg : getN Q s = (x.r, true) := by unfold getN; rw [hN, if_pos rfl, hx]
    rw [hN] at hfd
    repeat' (first | (refine no_implicit_lambda% (awd1 ?_)) | (((with_reducible refine no_implicit_lambda% (is_aops ?_)); refine no_implicit_lambda% (o_split rfl rfl rfl (fun hc => ?_) (fun hc => ?_)) <;> first | exact decx hc | rw [hc])) | (((with_reducible refine no_implicit_lambda% (is_cond ?_)); refine no_implicit_lambda% (c_cond rfl (fun hc => ?_) (fun hc => ?_)) <;> first | exact decx hc | skip)) | (((with_reducible refine no_implicit_lambda% (is_aop ?_)); refine no_implicit_lambda% (a_pick rfl rfl (fun hc => ?_) (fun hc => ?_)) <;> first | exact decx hc | rw [hc])) | (refine no_implicit_lambda% (ans ?_)) | (with_reducible exact retN) | (with_reducible exact retP) | (refine no_implicit_lambda% (cal [0, 1] (hfd) ?_ ?_)) | fail)
    ((with_reducible refine no_implicit_lambda% (is_aop ?_)); first | (refine no_implicit_lambda% (a_qS rfl (fun _ h => h) ?_ ?_)) | (refine no_implicit_lambda% (a_qS rfl (qIx (fun _ h => h)) ?_ ?_)) | (refine no_implicit_lambda% (a_qS rfl (qAnd5 (fun _ h => h)) ?_ ?_)) | (refine no_implicit_lambda% (a_qS rfl (qStr (fun _ h => h)) ?_ ?_)) | (refine no_implicit_lambda% (a_qS rfl (qAnd4 (fun _ h => h)) ?_ ?_)) | (refine no_implicit_lambda% (a_qS rfl (qAnd2 (fun _ h => h)) ?_ ?_))); focus (first | omega | (simp; done) | (simp; omega))
    repeat' (first | (refine no_implicit_lambda% (awd1 ?_)) | (((with_reducible refine no_implicit_lambda% (is_aops ?_)); refine no_implicit_lambda% (o_split rfl rfl rfl (fun hc => ?_) (fun hc => ?_)) <;> first | exact decx hc | rw [hc])) | (((with_reducible refine no_implicit_lambda% (is_cond ?_)); refine no_implicit_lambda% (c_cond rfl (fun hc => ?_) (fun hc => ?_)) <;> first | exact decx hc | skip)) | (((with_reducible refine no_implicit_lambda% (is_aop ?_)); refine no_implicit_lambda% (a_pick rfl rfl (fun hc => ?_) (fun hc => ?_)) <;> first | exact decx hc | rw [hc])) | (refine no_implicit_lambda% (ans ?_)) | (with_reducible exact retN) | (with_reducible exact retP) | fail | fail)
    ((with_reducible refine no_implicit_lambda% (is_aop ?_)); refine no_implicit_lambda% (a_loadSeqA (sz := 2) (rows := Q.map nmrow) (i := npos (nk Q) s) (j := 1) rfl rfl rfl rfl rfl (nmOk Q) ((by rw [List.getElem?_map, hx]; rfl)) (by first | decide | (simp; done)) rfl (by first | rfl | (simp; done) | (simp; omega)) ?_))
    repeat' (first | (refine no_implicit_lambda% (awd1 ?_)) | (((with_reducible refine no_implicit_lambda% (is_aops ?_)); refine no_implicit_lambda% (o_split rfl rfl rfl (fun hc => ?_) (fun hc => ?_)) <;> first | exact decx hc | rw [hc])) | (((with_reducible refine no_implicit_lambda% (is_cond ?_)); refine no_implicit_lambda% (c_cond rfl (fun hc => ?_) (fun hc => ?_)) <;> first | exact decx hc | skip)) | (((with_reducible refine no_implicit_lambda% (is_aop ?_)); refine no_implicit_lambda% (a_pick rfl rfl (fun hc => ?_) (fun hc => ?_)) <;> first | exact decx hc | rw [hc])) | (refine no_implicit_lambda% (ans ?_)) | (with_reducible exact retN) | (with_reducible exact retP) | (refine no_implicit_lambda% (cal [] (hcp) ?_ ?_)) | fail)
    rw [hg]
    exact e_ret (H' := tbl Q cp) (rest := _) rfl ⟨rfl, rfl⟩ permT (Nat.le_of_ble_eq_true rfl)
end Go.Proofs.Ytjepgbpcpcahgaa
