/- Part 6 of what the laws RowNewest RowTimes RowColumns rest on: RwW, RwX, RwY, RwM, RwZ, RxA, AmOp, Vd, RxC, RxB, RxD. -/
import Derived.Test.YtjepgbpcpcahgaaP5
import Derived.ChangeSlices
import Derived.ShutString
namespace Go.Proofs.Ytjepgbpcpcahgaa
open Go.Am
set_option linter.unusedSimpArgs false
set_option linter.unusedVariables false
set_option maxRecDepth 100000
theorem qcopy_n (r : List Co) (hr : r.length < 70368744177664) (hs : RowSz r) : ACalls Try.prog 71 0 1 [rowA r] [] (CN (copyR r)) :=
  (qcopy_s r hr hs).ren (Nat.zero_le _) fun out H' hh => by
    obtain ⟨id, cp, h0, h1, h2, rfl, rfl⟩ := hh
    refine ⟨[id], .ret (.agg [.arr 0 0 (copyR r).length cp]), [(0, .seq ((copyR r).map corow) ((cp - (copyR r).length) * 2))], by simp, (fun i h => by simp at h; omega), (fun i h => absurd h (Nat.not_lt_zero i)), Nat.le_refl _, ?_, ?_, cp, h1, h2, rfl, rfl⟩
    · simp [AOut.ren, AV.ren, AV.renL, rn]
    · simp [renH, Res.ren, rn]
theorem qfind_o (o : List Co) (s : ByteArray) (cp : Nat) (hl : o.length < 1000000) (hs : Nsort o) : ACalls Try.prog 72 1 1 [.agg [.arr 0 0 o.length cp], .v (.string s)] [(0, .seq (o.map corow) ((cp - o.length) * 2))] (fun out H' => out = .ret (.tuple [.v (.int .i64 (npos o s)), .v (.bool (hasN o s))]) ∧ H' = [(0, .seq (o.map corow) ((cp - o.length) * 2))]) :=
  ((qfind_f o s hl hs).borrow (k := 1) (top := 1) (args := [.agg [.arr 0 0 o.length cp], .v (.string s)]) (H := [(0, .seq (o.map corow) ((cp - o.length) * 2))]) rfl (fun out H' hh => by obtain ⟨rfl, rfl⟩ := hh; rfl) (fun i a' ha => by
    match i with
    | 0 =>
      simp at ha; subst ha
      refine ⟨_, rfl, .agg rfl fun j b hb => ?_⟩
      match j with
      | 0 =>
        simp at hb; subst hb
        exact ⟨_, rfl, .seq (k := (cp - o.length) * 2) (by simp) (coOk o) (by simp)⟩
      | j + 1 => simp at hb
    | 1 =>
      simp at ha; subst ha
      exact ⟨_, rfl, .data rfl⟩
    | i + 2 => simp at ha)).mono fun out H' hh => by
      obtain ⟨⟨_, h1, _⟩, h2⟩ := hh
      exact ⟨h1, h2⟩
theorem ins_eq2 {l : List Ve} {x : Ve} {j : Nat} (hs : Vsort l) (h1 : ∀ y ∈ l.take j, x.t < y.t) (h2 : ∀ y, l[j]? = some y → ¬ x.t < y.t) : l.take j ++ x :: dropV (l.drop j) x.t = insV l x := by
  have hB : ∀ y ∈ l.drop j, y.t ≤ x.t := fun y hy => by
    obtain ⟨i, hi⟩ := List.getElem?_of_mem hy
    rw [List.getElem?_drop] at hi
    obtain ⟨z, hz⟩ : ∃ z, l[j]? = some z := ⟨_, List.getElem?_eq_getElem (by have := (List.getElem?_eq_some_iff.1 hi).1; omega)⟩
    have hz1 := h2 z hz
    rcases Nat.eq_zero_or_pos i with rfl | h0
    · rw [Nat.add_zero, hz] at hi
      cases hi; omega
    · have := List.pairwise_iff_getElem.1 hs j (j + i) (List.getElem?_eq_some_iff.1 hz).1 (List.getElem?_eq_some_iff.1 hi).1 (by omega)
      rw [(List.getElem?_eq_some_iff.1 hz).2, (List.getElem?_eq_some_iff.1 hi).2] at this
      omega
  have e1 : l.filter (fun y => decide (x.t < y.t)) = l.take j := by
    conv => lhs; rw [← List.take_append_drop j l]
    rw [List.filter_append, List.filter_eq_self.2 fun y hy => decide_eq_true (h1 y hy), List.filter_eq_nil_iff.2 fun y hy => by have := hB y hy; simp; omega, List.append_nil]
  have e2 : l.filter (fun y => decide (y.t < x.t)) = dropV (l.drop j) x.t := by
    conv => lhs; rw [← List.take_append_drop j l]
    rw [List.filter_append, List.filter_eq_nil_iff.2 fun y hy => by have := h1 y hy; simp; omega, List.nil_append]
    unfold dropV
    exact List.filter_congr fun y hy => decide_eq_decide.2 (by have := hB y hy; omega)
  unfold insV
  rw [e1, e2]
def qtSt (t : Int) (v : Va) (F0 : List Co) (cp i : Nat) : ASt := ⟨([.dead, .dead, .v (.int .i64 t), .dead, .dead, .dead, .dead, .ptr 0 0, .ptr 1 0, .dead, .ptr 2 0, .v (.int .i64 i)] ++ List.replicate 119 .dead), [(0, .box (vrowV v)), (1, .box [.list [] .full]), (2, .box [.arr 3 0 F0.length cp]), (3, .seq (F0.map corow) ((cp - F0.length) * 2))], 4⟩
def q1St (t : Int) (v : Va) (F0 : List Co) (cp i : Nat) (l q : List Ve) (k : Nat) : ASt := ⟨([.dead, .dead, .v (.int .i64 t), .dead, .dead, .dead, .dead, .ptr 0 0, .ptr 1 0, .dead, .ptr 2 0, .v (.int .i64 i), .dead, .list (l.map verow) .free, .list (q.map verow) (.tok 4), .v (.int .i64 k)] ++ List.replicate 115 .dead), [(4, .tok 4 q.length), (0, .box (vrowV v)), (1, .box [.list [] .full]), (2, .box [.arr 3 0 F0.length cp]), (3, .seq (F0.map corow) ((cp - F0.length) * 2))], 90⟩
def q2St (t : Int) (v : Va) (F0 : List Co) (cp i : Nat) (l q : List Ve) (k : Nat) : ASt := ⟨([.dead, .dead, .v (.int .i64 t), .dead, .dead, .dead, .dead, .ptr 0 0, .ptr 1 0, .dead, .ptr 2 0, .v (.int .i64 i), .dead, .list (l.map verow) .free, .list (q.map verow) (.tok 4), .v (.int .i64 k)] ++ List.replicate 115 .dead), [(4, .tok 4 q.length), (0, .box (vrowV v)), (1, .box [.list [] .full]), (2, .box [.arr 3 0 F0.length cp]), (3, .seq (F0.map corow) ((cp - F0.length) * 2))], 100⟩
theorem dropV_take {l : List Ve} {k : Nat} {y : Ve} {t : Int} (h : l[k]? = some y) : dropV (l.take (k + 1)) t = dropV (l.take k) t ++ (if y.t = t then [] else [y]) := by
  rw [List.take_add_one, h]
  exact dropV_snoc _ _ _
def q3St (t : Int) (v : Va) (F0 : List Co) (cp i : Nat) (q : List Ve) : ASt := ⟨(List.replicate 8 .dead ++ [.ptr 1 0, .dead, .ptr 2 0, .v (.int .i64 i), .dead, .dead, .list (q.map verow) .free] ++ List.replicate 116 .dead), [(1, .box [.list [] .full]), (2, .box [.arr 3 0 F0.length cp]), (3, .seq (F0.map corow) ((cp - F0.length) * 2))], 200⟩
set_option maxHeartbeats 3200000 in
theorem qput_rest (t : Int) (v : Va) (hv : v.b.length < 1073741824 ∧ v.n < 18446744073709551616) (R : AOut → Heap → Prop) (F F0 : List Co) (cp i : Nat) (c : Co) (hR : ∀ out H', putQ F out H' → R out H') (h4 : F0.length ≤ 4) (hFc : F0[i]? = some c) (hvs : Vsort c.l) (hl2 : c.l.length ≤ 2) (h1 : F0.length ≤ cp) (h2 : cp ≤ maxLen) (hF : F0.set i (putC c ⟨t, canV v⟩) = F) :
    acode Try.prog TT { run := DD, low := fun N => 0 ≤ N } (seqTail 5 (Try.f34.body.getD .skip)) (qtSt t v F0 cp i).slots (qtSt t v F0 cp i).L (qtSt t v F0 cp i).next (aend Try.prog TT (Try.f34.results.toList) 9000 R) := by
  have hi : i < F0.length := (List.getElem?_eq_some_iff.1 hFc).1
  have hcn := refCanon_c v (by omega) hv.2
  refine c_turn (n' := 4) (fun _ h => h) (fun _ h => h) rfl ?_
  refine c_seq ?_
  repeat' (first | (refine no_implicit_lambda% (awd1 ?_)) | (((with_reducible refine no_implicit_lambda% (is_aops ?_)); refine no_implicit_lambda% (o_split rfl rfl rfl (fun hc => ?_) (fun hc => ?_)) <;> first | exact decx hc | rw [hc])) | (((with_reducible refine no_implicit_lambda% (is_cond ?_)); refine no_implicit_lambda% (c_cond rfl (fun hc => ?_) (fun hc => ?_)) <;> first | exact decx hc | skip)) | (((with_reducible refine no_implicit_lambda% (is_aop ?_)); refine no_implicit_lambda% (a_pick rfl rfl (fun hc => ?_) (fun hc => ?_)) <;> first | exact decx hc | rw [hc])) | (refine no_implicit_lambda% (ans ?_)) | (with_reducible exact retN) | (with_reducible exact retP) | fail | fail)
  ((with_reducible refine no_implicit_lambda% (is_aop ?_)); first | (refine no_implicit_lambda% (a_qS rfl (fun _ h => h) ?_ ?_)) | (refine no_implicit_lambda% (a_qS rfl (qIx (fun _ h => h)) ?_ ?_)) | (refine no_implicit_lambda% (a_qS rfl (qAnd5 (fun _ h => h)) ?_ ?_)) | (refine no_implicit_lambda% (a_qS rfl (qStr (fun _ h => h)) ?_ ?_)) | (refine no_implicit_lambda% (a_qS rfl (qAnd4 (fun _ h => h)) ?_ ?_)) | (refine no_implicit_lambda% (a_qS rfl (qAnd2 (fun _ h => h)) ?_ ?_))); focus (first | omega | (simp; done) | (simp; omega))
  repeat' (first | (refine no_implicit_lambda% (awd1 ?_)) | (((with_reducible refine no_implicit_lambda% (is_aops ?_)); refine no_implicit_lambda% (o_split rfl rfl rfl (fun hc => ?_) (fun hc => ?_)) <;> first | exact decx hc | rw [hc])) | (((with_reducible refine no_implicit_lambda% (is_cond ?_)); refine no_implicit_lambda% (c_cond rfl (fun hc => ?_) (fun hc => ?_)) <;> first | exact decx hc | skip)) | (((with_reducible refine no_implicit_lambda% (is_aop ?_)); refine no_implicit_lambda% (a_pick rfl rfl (fun hc => ?_) (fun hc => ?_)) <;> first | exact decx hc | rw [hc])) | (refine no_implicit_lambda% (ans ?_)) | (with_reducible exact retN) | (with_reducible exact retP) | fail | fail)
  ((with_reducible refine no_implicit_lambda% (is_aop ?_)); refine no_implicit_lambda% (a_loadSeq (sz := 2) (rows := F0.map corow) (i := i) (j := 1) rfl rfl rfl rfl rfl (coOk F0) ((by rw [List.getElem?_map, hFc]; rfl)) rfl (by first | rfl | (simp; done) | (simp; omega)) ?_))
  repeat' (first | (refine no_implicit_lambda% (sx1 ?_)) | (((with_reducible refine no_implicit_lambda% (is_aops ?_)); refine no_implicit_lambda% (o_split rfl rfl rfl (fun hc => ?_) (fun hc => ?_)) <;> first | exact decx hc | rw [hc])) | (((with_reducible refine no_implicit_lambda% (is_cond ?_)); refine no_implicit_lambda% (c_cond rfl (fun hc => ?_) (fun hc => ?_)) <;> first | exact decx hc | skip)) | (((with_reducible refine no_implicit_lambda% (is_aop ?_)); refine no_implicit_lambda% (a_pick rfl rfl (fun hc => ?_) (fun hc => ?_)) <;> first | exact decx hc | rw [hc])) | fail)
  refine k_seq ?_
  repeat' (first | (refine no_implicit_lambda% (sx1 ?_)) | (((with_reducible refine no_implicit_lambda% (is_aops ?_)); refine no_implicit_lambda% (o_split rfl rfl rfl (fun hc => ?_) (fun hc => ?_)) <;> first | exact decx hc | rw [hc])) | (((with_reducible refine no_implicit_lambda% (is_cond ?_)); refine no_implicit_lambda% (c_cond rfl (fun hc => ?_) (fun hc => ?_)) <;> first | exact decx hc | skip)) | (((with_reducible refine no_implicit_lambda% (is_aop ?_)); refine no_implicit_lambda% (a_pick rfl rfl (fun hc => ?_) (fun hc => ?_)) <;> first | exact decx hc | rw [hc])) | fail)
  refine k_seq ?_
  repeat' (first | (refine no_implicit_lambda% (sx1 ?_)) | (((with_reducible refine no_implicit_lambda% (is_aops ?_)); refine no_implicit_lambda% (o_split rfl rfl rfl (fun hc => ?_) (fun hc => ?_)) <;> first | exact decx hc | rw [hc])) | (((with_reducible refine no_implicit_lambda% (is_cond ?_)); refine no_implicit_lambda% (c_cond rfl (fun hc => ?_) (fun hc => ?_)) <;> first | exact decx hc | skip)) | (((with_reducible refine no_implicit_lambda% (is_aop ?_)); refine no_implicit_lambda% (a_pick rfl rfl (fun hc => ?_) (fun hc => ?_)) <;> first | exact decx hc | rw [hc])) | fail)
  refine k_seq ?_
  refine c_seq ?_
  -- behind the first loop
  refine c_cutR (fun j => q1St t v F0 cp i c.l (c.l.take j) j) (fun j => j ≤ c.l.length ∧ c.l.take j ++ ⟨t, canV v⟩ :: dropV (c.l.drop j) t = insV c.l ⟨t, canV v⟩) ?_ ?_
  · rintro j ⟨j1, j2⟩
    refine c_turn (n' := 90) (fun _ h => h) (fun _ h => h) rfl ?_
    have hlj : (c.l.take j).length ≤ 2 := by rw [List.length_take]; omega
    repeat' (first | (refine no_implicit_lambda% (awd1 ?_)) | (((with_reducible refine no_implicit_lambda% (is_aops ?_)); refine no_implicit_lambda% (o_split rfl rfl rfl (fun hc => ?_) (fun hc => ?_)) <;> first | exact decx hc | rw [hc])) | (((with_reducible refine no_implicit_lambda% (is_cond ?_)); refine no_implicit_lambda% (c_cond rfl (fun hc => ?_) (fun hc => ?_)) <;> first | exact decx hc | skip)) | (((with_reducible refine no_implicit_lambda% (is_aop ?_)); refine no_implicit_lambda% (a_pick rfl rfl (fun hc => ?_) (fun hc => ?_)) <;> first | exact decx hc | rw [hc])) | (refine no_implicit_lambda% (ans ?_)) | (with_reducible exact retN) | (with_reducible exact retP) | (refine no_implicit_lambda% (cal [] (hcn) ?_ ?_)) | fail)
    refine c_loop2 (fun q k => q2St t v F0 cp i c.l q k) (fun q k => j ≤ k ∧ k ≤ c.l.length ∧ q = c.l.take j ++ ⟨t, canV v⟩ :: dropV ((c.l.drop j).take (k - j)) t) (fun _ k => c.l.length - k) (c.l.take j ++ [⟨t, canV v⟩]) j ⟨Nat.le_refl _, j1, by simp [dropV]⟩ ?_ ?_
    · (refine no_implicit_lambda% (Conv.toT ?_ ?_ (Nat.le_of_ble_eq_true rfl))); (focus ((unfold q2St); (try dsimp only); exact wkl)); (focus ((unfold q2St); (try dsimp only); exact wkh))
    · rintro q k ⟨k1, k2, hq⟩
      refine c_turn (n' := 100) (fun _ h => h) (fun _ h => h) rfl ?_
      have hdl := dropV_len ((c.l.drop j).take (k - j)) t
      have hql : q.length ≤ 3 := by
        rw [hq, List.length_append, List.length_cons]
        simp only [List.length_take, List.length_drop] at *
        omega
      rcases hy : c.l[k]? with _ | y
      · have hk : k = c.l.length := by have := List.getElem?_eq_none_iff.1 hy; omega
        have hqp : q.take 2 = putV c.l ⟨t, canV v⟩ := by
          unfold putV
          have e : (c.l.drop j).take (c.l.length - j) = c.l.drop j := List.take_of_length_le (by rw [List.length_drop]; omega)
          rw [hq, hk, e, j2]
        repeat' (first | (refine no_implicit_lambda% (sx1 ?_)) | (((with_reducible refine no_implicit_lambda% (is_aops ?_)); refine no_implicit_lambda% (o_split rfl rfl rfl (fun hc => ?_) (fun hc => ?_)) <;> first | exact decx hc | rw [hc])) | (((with_reducible refine no_implicit_lambda% (is_cond ?_)); refine no_implicit_lambda% (c_cond rfl (fun hc => ?_) (fun hc => ?_)) <;> first | exact decx hc | skip)) | (((with_reducible refine no_implicit_lambda% (is_aop ?_)); refine no_implicit_lambda% (a_pick rfl rfl (fun hc => ?_) (fun hc => ?_)) <;> first | exact decx hc | rw [hc])) | fail)
        refine k_seq ?_
        repeat' (first | (refine no_implicit_lambda% (sx1 ?_)) | (((with_reducible refine no_implicit_lambda% (is_aops ?_)); refine no_implicit_lambda% (o_split rfl rfl rfl (fun hc => ?_) (fun hc => ?_)) <;> first | exact decx hc | rw [hc])) | (((with_reducible refine no_implicit_lambda% (is_cond ?_)); refine no_implicit_lambda% (c_cond rfl (fun hc => ?_) (fun hc => ?_)) <;> first | exact decx hc | skip)) | (((with_reducible refine no_implicit_lambda% (is_aop ?_)); refine no_implicit_lambda% (a_pick rfl rfl (fun hc => ?_) (fun hc => ?_)) <;> first | exact decx hc | rw [hc])) | fail)
        refine k_seq ?_
        repeat' (first | (refine no_implicit_lambda% (sx1 ?_)) | (((with_reducible refine no_implicit_lambda% (is_aops ?_)); refine no_implicit_lambda% (o_split rfl rfl rfl (fun hc => ?_) (fun hc => ?_)) <;> first | exact decx hc | rw [hc])) | (((with_reducible refine no_implicit_lambda% (is_cond ?_)); refine no_implicit_lambda% (c_cond rfl (fun hc => ?_) (fun hc => ?_)) <;> first | exact decx hc | skip)) | (((with_reducible refine no_implicit_lambda% (is_aop ?_)); refine no_implicit_lambda% (a_pick rfl rfl (fun hc => ?_) (fun hc => ?_)) <;> first | exact decx hc | rw [hc])) | fail)
        refine k_seq ?_
        refine c_cutR (fun _ : Unit => q3St t v F0 cp i (putV c.l ⟨t, canV v⟩)) (fun _ => True) ?_ ?_
        · rintro _ _
          have hFl : F.length = F0.length := by rw [← hF]; exact List.length_set ..
          refine c_turn (n' := 200) (fun _ h => h) (fun _ h => h) rfl ?_
          repeat' (first | (refine no_implicit_lambda% (awd1 ?_)) | (((with_reducible refine no_implicit_lambda% (is_aops ?_)); refine no_implicit_lambda% (o_split rfl rfl rfl (fun hc => ?_) (fun hc => ?_)) <;> first | exact decx hc | rw [hc])) | (((with_reducible refine no_implicit_lambda% (is_cond ?_)); refine no_implicit_lambda% (c_cond rfl (fun hc => ?_) (fun hc => ?_)) <;> first | exact decx hc | skip)) | (((with_reducible refine no_implicit_lambda% (is_aop ?_)); refine no_implicit_lambda% (a_pick rfl rfl (fun hc => ?_) (fun hc => ?_)) <;> first | exact decx hc | rw [hc])) | (refine no_implicit_lambda% (ans ?_)) | (with_reducible exact retN) | (with_reducible exact retP) | fail | fail)
          ((with_reducible refine no_implicit_lambda% (is_aop ?_)); first | (refine no_implicit_lambda% (a_qS rfl (fun _ h => h) ?_ ?_)) | (refine no_implicit_lambda% (a_qS rfl (qIx (fun _ h => h)) ?_ ?_)) | (refine no_implicit_lambda% (a_qS rfl (qAnd5 (fun _ h => h)) ?_ ?_)) | (refine no_implicit_lambda% (a_qS rfl (qStr (fun _ h => h)) ?_ ?_)) | (refine no_implicit_lambda% (a_qS rfl (qAnd4 (fun _ h => h)) ?_ ?_)) | (refine no_implicit_lambda% (a_qS rfl (qAnd2 (fun _ h => h)) ?_ ?_))); focus (first | omega | (simp; done) | (simp; omega))
          repeat' (first | (refine no_implicit_lambda% (awd1 ?_)) | (((with_reducible refine no_implicit_lambda% (is_aops ?_)); refine no_implicit_lambda% (o_split rfl rfl rfl (fun hc => ?_) (fun hc => ?_)) <;> first | exact decx hc | rw [hc])) | (((with_reducible refine no_implicit_lambda% (is_cond ?_)); refine no_implicit_lambda% (c_cond rfl (fun hc => ?_) (fun hc => ?_)) <;> first | exact decx hc | skip)) | (((with_reducible refine no_implicit_lambda% (is_aop ?_)); refine no_implicit_lambda% (a_pick rfl rfl (fun hc => ?_) (fun hc => ?_)) <;> first | exact decx hc | rw [hc])) | (refine no_implicit_lambda% (ans ?_)) | (with_reducible exact retN) | (with_reducible exact retP) | fail | fail)
          ((with_reducible refine no_implicit_lambda% (is_aop ?_)); refine no_implicit_lambda% (a_storeSeq (sz := 2) (rows := F0.map corow) (i := i) (j := 1) (row' := [.v (.string c.n), .list ((putV c.l ⟨t, canV v⟩).map verow) .free]) rfl rfl rfl (fun _ h => h) rfl rfl (coOk F0) ((by rw [List.getElem?_map, hFc]; rfl)) (by first | decide | (simp; done)) (by first | rfl | (simp; done)) (by first | rfl | (simp; done) | (simp; omega)) ?_))
          rw [show (F0.map corow).set i [.v (.string c.n), .list ((putV c.l ⟨t, canV v⟩).map verow) .free] = F.map corow by rw [← hF, List.map_set]; rfl]
          repeat' (first | (refine no_implicit_lambda% (awd1 ?_)) | (((with_reducible refine no_implicit_lambda% (is_aops ?_)); refine no_implicit_lambda% (o_split rfl rfl rfl (fun hc => ?_) (fun hc => ?_)) <;> first | exact decx hc | rw [hc])) | (((with_reducible refine no_implicit_lambda% (is_cond ?_)); refine no_implicit_lambda% (c_cond rfl (fun hc => ?_) (fun hc => ?_)) <;> first | exact decx hc | skip)) | (((with_reducible refine no_implicit_lambda% (is_aop ?_)); refine no_implicit_lambda% (a_pick rfl rfl (fun hc => ?_) (fun hc => ?_)) <;> first | exact decx hc | rw [hc])) | (refine no_implicit_lambda% (ans ?_)) | (with_reducible exact retN) | (with_reducible exact retP) | fail | fail)
          exact e_ret_to (H' := []) (rest := _) (Conv.freezeBox (j := 0) (id := 3) (bid := 1) (sz := 2) (rows := F.map corow) (k := (cp - F0.length) * 2) (m := F0.length) (cp := cp) (cells := [.arr 3 0 F0.length cp]) (permT (H := [(3, .seq (F.map corow) ((cp - F0.length) * 2)), (1, .box [.arr 3 0 F0.length cp])])) rfl (coOk F) (by rw [List.length_map, hFl])) rfl (hR _ _ ⟨rfl, rfl⟩) (.of_eq (by simp; rfl)) (Nat.le_of_ble_eq_true rfl)
        · intro Kx kN kP kR kE
          repeat' (first | (refine no_implicit_lambda% (awd1 ?_)) | (((with_reducible refine no_implicit_lambda% (is_aops ?_)); refine no_implicit_lambda% (o_split rfl rfl rfl (fun hc => ?_) (fun hc => ?_)) <;> first | exact decx hc | rw [hc])) | (((with_reducible refine no_implicit_lambda% (is_cond ?_)); refine no_implicit_lambda% (c_cond rfl (fun hc => ?_) (fun hc => ?_)) <;> first | exact decx hc | skip)) | (((with_reducible refine no_implicit_lambda% (is_aop ?_)); refine no_implicit_lambda% (a_pick rfl rfl (fun hc => ?_) (fun hc => ?_)) <;> first | exact decx hc | rw [hc])) | (refine no_implicit_lambda% (ans ?_)) | (with_reducible exact retN) | (with_reducible exact retP) | fail | fail)
          · have hq3 : 2 ≤ q.length := by have := of_decide_eq_true hc; rw [List.length_map] at this; omega
            ((with_reducible refine no_implicit_lambda% (is_aop ?_)); first | (refine no_implicit_lambda% (a_qS rfl (fun _ h => h) ?_ ?_)) | (refine no_implicit_lambda% (a_qS rfl (qIx (fun _ h => h)) ?_ ?_)) | (refine no_implicit_lambda% (a_qS rfl (qAnd5 (fun _ h => h)) ?_ ?_)) | (refine no_implicit_lambda% (a_qS rfl (qStr (fun _ h => h)) ?_ ?_)) | (refine no_implicit_lambda% (a_qS rfl (qAnd4 (fun _ h => h)) ?_ ?_)) | (refine no_implicit_lambda% (a_qS rfl (qAnd2 (fun _ h => h)) ?_ ?_))); focus ((repeat' (refine no_implicit_lambda% (And.intro ?_ ?_))) <;> (first | exact trivial | exact (veOk q).len | exact Int.natCast_nonneg _ | omega | (simp; done) | (simp; omega) | ((show (0 : Int) ≤ _); omega)))
            repeat' (first | (refine no_implicit_lambda% (awd1 ?_)) | (((with_reducible refine no_implicit_lambda% (is_aops ?_)); refine no_implicit_lambda% (o_split rfl rfl rfl (fun hc => ?_) (fun hc => ?_)) <;> first | exact decx hc | rw [hc])) | (((with_reducible refine no_implicit_lambda% (is_cond ?_)); refine no_implicit_lambda% (c_cond rfl (fun hc => ?_) (fun hc => ?_)) <;> first | exact decx hc | skip)) | (((with_reducible refine no_implicit_lambda% (is_aop ?_)); refine no_implicit_lambda% (a_pick rfl rfl (fun hc => ?_) (fun hc => ?_)) <;> first | exact decx hc | rw [hc])) | (refine no_implicit_lambda% (ans ?_)) | (with_reducible exact retN) | (with_reducible exact retP) | fail | fail)
            refine kN () _ _ _ trivial (.inl ?_)
            rw [show List.drop 0 (List.take (2 : Int).toNat (q.map verow)) = (putV c.l ⟨t, canV v⟩).map verow by rw [← hqp, List.map_take]; rfl]
            (refine no_implicit_lambda% (Conv.toT ?_ ?_ (Nat.le_of_ble_eq_true rfl))); (focus ((unfold q3St); (try dsimp only); exact wkl)); (focus ((unfold q3St); (try dsimp only); exact wkh))
          · have hq2 : q = putV c.l ⟨t, canV v⟩ := by
              rw [← hqp, List.take_of_length_le]
              have := of_decide_eq_false hc
              rw [List.length_map] at this
              omega
            refine kN () _ _ _ trivial (.inl ?_)
            rw [← hq2]
            (refine no_implicit_lambda% (Conv.toT ?_ ?_ (Nat.le_of_ble_eq_true rfl))); (focus ((unfold q3St); (try dsimp only); exact wkl)); (focus ((unfold q3St); (try dsimp only); exact wkh))
      · have hk : k < c.l.length := (List.getElem?_eq_some_iff.1 hy).1
        have hix := vex hy
        have hdt := dropV_take (t := t) (l := c.l.drop j) (k := k - j) (y := y) (by rw [List.getElem?_drop, show j + (k - j) = k by omega]; exact hy)
        rw [show k - j + 1 = k + 1 - j by omega] at hdt
        repeat' (first | (refine no_implicit_lambda% (awd1 ?_)) | (((with_reducible refine no_implicit_lambda% (is_aops ?_)); refine no_implicit_lambda% (o_split rfl rfl rfl (fun hc => ?_) (fun hc => ?_)) <;> first | exact decx hc | rw [hc])) | (((with_reducible refine no_implicit_lambda% (is_cond ?_)); refine no_implicit_lambda% (c_cond rfl (fun hc => ?_) (fun hc => ?_)) <;> first | exact decx hc | skip)) | (((with_reducible refine no_implicit_lambda% (is_aop ?_)); refine no_implicit_lambda% (a_pick rfl rfl (fun hc => ?_) (fun hc => ?_)) <;> first | exact decx hc | rw [hc])) | (refine no_implicit_lambda% (ans ?_)) | (with_reducible exact retN) | (with_reducible exact retP) | fail | fail)
        · have hne : y.t ≠ t := by simpa using hc
          (refine no_implicit_lambda% (k_loopLT (((q ++ [y], k + 1) : List Ve × Nat)) 0 (List.range 100) (by show j ≤ k + 1 ∧ k + 1 ≤ c.l.length ∧ q ++ [y] = c.l.take j ++ ⟨t, canV v⟩ :: dropV ((c.l.drop j).take (k + 1 - j)) t; exact ⟨by omega, hk, by rw [hdt, if_neg hne, hq]; simp⟩) (by first | omega | (simp; done) | (simp; omega)) (Nat.le_of_ble_eq_true rfl) (fun _ h => h) (fun _ h => h) ?_ ?_)); (focus ((try dsimp only); exact wkl)); (focus ((try dsimp only); exact wkh))
        · have hne : y.t = t := by simpa using hc
          (refine no_implicit_lambda% (k_loopLT (((q, k + 1) : List Ve × Nat)) 0 (List.range 100) (by show j ≤ k + 1 ∧ k + 1 ≤ c.l.length ∧ q = c.l.take j ++ ⟨t, canV v⟩ :: dropV ((c.l.drop j).take (k + 1 - j)) t; exact ⟨by omega, hk, by rw [hdt, if_pos hne, hq]; simp⟩) (by first | omega | (simp; done) | (simp; omega)) (Nat.le_of_ble_eq_true rfl) (fun _ h => h) (fun _ h => h) ?_ ?_)); (focus ((try dsimp only); exact wkl)); (focus ((try dsimp only); exact wkh))
  · intro Kx kN kP kR kE
    repeat' (first | (refine no_implicit_lambda% (awd1 ?_)) | (((with_reducible refine no_implicit_lambda% (is_aops ?_)); refine no_implicit_lambda% (o_split rfl rfl rfl (fun hc => ?_) (fun hc => ?_)) <;> first | exact decx hc | rw [hc])) | (((with_reducible refine no_implicit_lambda% (is_cond ?_)); refine no_implicit_lambda% (c_cond rfl (fun hc => ?_) (fun hc => ?_)) <;> first | exact decx hc | skip)) | (((with_reducible refine no_implicit_lambda% (is_aop ?_)); refine no_implicit_lambda% (a_pick rfl rfl (fun hc => ?_) (fun hc => ?_)) <;> first | exact decx hc | rw [hc])) | (refine no_implicit_lambda% (ans ?_)) | (with_reducible exact retN) | (with_reducible exact retP) | fail | fail)
    refine c_loop2 (fun q j => q1St t v F0 cp i c.l q j) (fun q j => q = c.l.take j ∧ j ≤ c.l.length ∧ ∀ y ∈ c.l.take j, t < y.t) (fun _ j => c.l.length - j) [] 0 ⟨rfl, Nat.zero_le _, by simp⟩ ((Conv.tokSlot (j := 14) (sz := 4) (rows := []) rfl (by simp)).trans ?_) ?_
    · (refine no_implicit_lambda% (Conv.toT ?_ ?_ (Nat.le_of_ble_eq_true rfl))); (focus ((unfold q1St); (try dsimp only); exact wkl)); (focus ((unfold q1St); (try dsimp only); exact wkh))
    · rintro q j ⟨hq, j1, j2⟩
      have hlj : q.length ≤ 2 := by rw [hq, List.length_take]; omega
      refine c_turn (n' := 90) (fun _ h => h) (fun _ h => h) rfl ?_
      rcases hy : c.l[j]? with _ | y
      · have hj : j = c.l.length := by have := List.getElem?_eq_none_iff.1 hy; omega
        repeat' (first | (refine no_implicit_lambda% (awd1 ?_)) | (((with_reducible refine no_implicit_lambda% (is_aops ?_)); refine no_implicit_lambda% (o_split rfl rfl rfl (fun hc => ?_) (fun hc => ?_)) <;> first | exact decx hc | rw [hc])) | (((with_reducible refine no_implicit_lambda% (is_cond ?_)); refine no_implicit_lambda% (c_cond rfl (fun hc => ?_) (fun hc => ?_)) <;> first | exact decx hc | skip)) | (((with_reducible refine no_implicit_lambda% (is_aop ?_)); refine no_implicit_lambda% (a_pick rfl rfl (fun hc => ?_) (fun hc => ?_)) <;> first | exact decx hc | rw [hc])) | (refine no_implicit_lambda% (ans ?_)) | (with_reducible exact retN) | (with_reducible exact retP) | fail | fail)
        refine kN j _ _ _ ⟨j1, ins_eq2 hvs j2 (fun y h => by rw [hy] at h; cases h)⟩ (.inl ?_)
        subst hq
        (refine no_implicit_lambda% (Conv.toT ?_ ?_ (Nat.le_of_ble_eq_true rfl))); (focus ((unfold q1St); (try dsimp only); exact wkl)); (focus ((unfold q1St); (try dsimp only); exact wkh))
      · have hj : j < c.l.length := (List.getElem?_eq_some_iff.1 hy).1
        have hix := vex hy
        have hts : c.l.take (j + 1) = c.l.take j ++ [y] := by rw [List.take_add_one, hy]; rfl
        repeat' (first | (refine no_implicit_lambda% (awd1 ?_)) | (((with_reducible refine no_implicit_lambda% (is_aops ?_)); refine no_implicit_lambda% (o_split rfl rfl rfl (fun hc => ?_) (fun hc => ?_)) <;> first | exact decx hc | rw [hc])) | (((with_reducible refine no_implicit_lambda% (is_cond ?_)); refine no_implicit_lambda% (c_cond rfl (fun hc => ?_) (fun hc => ?_)) <;> first | exact decx hc | skip)) | (((with_reducible refine no_implicit_lambda% (is_aop ?_)); refine no_implicit_lambda% (a_pick rfl rfl (fun hc => ?_) (fun hc => ?_)) <;> first | exact decx hc | rw [hc])) | (refine no_implicit_lambda% (ans ?_)) | (with_reducible exact retN) | (with_reducible exact retP) | fail | fail)
        · (refine no_implicit_lambda% (k_loopLT (((q ++ [y], j + 1) : List Ve × Nat)) 0 (List.range 90) (by show q ++ [y] = c.l.take (j + 1) ∧ j + 1 ≤ c.l.length ∧ ∀ z ∈ c.l.take (j + 1), t < z.t; exact ⟨by rw [hts, hq], hj, by rw [hts]; intro z hz; rcases List.mem_append.1 hz with hz | hz; exact j2 z hz; rw [List.mem_singleton.1 hz]; exact of_decide_eq_true hc⟩) (by first | omega | (simp; done) | (simp; omega)) (Nat.le_of_ble_eq_true rfl) (fun _ h => h) (fun _ h => h) ?_ ?_)); (focus ((try dsimp only); exact wkl)); (focus ((try dsimp only); exact wkh))
        · refine kN j _ _ _ ⟨j1, ins_eq2 hvs j2 (fun z h => by rw [hy] at h; cases h; exact of_decide_eq_false hc)⟩ (.inl ?_)
          subst hq
          (refine no_implicit_lambda% (Conv.toT ?_ ?_ (Nat.le_of_ble_eq_true rfl))); (focus ((unfold q1St); (try dsimp only); exact wkl)); (focus ((unfold q1St); (try dsimp only); exact wkh))
end Go.Proofs.Ytjepgbpcpcahgaa
namespace Go.Proofs.Ytjepgbpcpcahgaa
open Go.Am
set_option linter.unusedSimpArgs false
set_option linter.unusedVariables false
set_option maxRecDepth 100000
theorem ins_rows (o : List Co) (p : Nat) (s : ByteArray) : (o.take p).map corow ++ [[.v (.string s), .list [] .full]] ++ (o.drop p).map corow = nrows (o.take p) s (.list [] .full) (o.drop p) := by unfold nrows; simp
theorem wk_nrows {o1 : List Co} {nm : ByteArray} {v w : AV} {o2 : List Co} {k : Nat} (h : Wk v w) : WkL (seqC (nrows o1 nm v o2) k) (seqC (nrows o1 nm w o2) k) := by
  have e : ∀ z, seqC (nrows o1 nm z o2) k = ((o1.map corow).flatten ++ [AV.v (.string nm)]) ++ ([z] ++ ((o2.map corow).flatten ++ List.replicate k .dead)) := fun z => by unfold seqC nrows; simp
  rw [e v, e w]
  exact .app (.refl _) (.app (.cons h .nil) (.refl _))
set_option maxHeartbeats 3200000 in
theorem qput_c (r : List Co) (s : ByteArray) (t : Int) (v : Va) (hr : r.length < 70368744177664) (hs : RowSz r) (hv : v.b.length < 1073741824 ∧ v.n < 18446744073709551616) : ACalls Try.prog 34 0 9000 [rowA r, .v (.string s), .v (.int .i64 t), vav v] [] (PutRR (putR r s t v)) := by
  have hnm := rname_c s
  have hvr : ACalls Try.prog 70 0 10 [vav v] [] (fun out H' => out = .ret (.v (.bool (vRt v))) ∧ H' = []) := refRight_c v
  have hso := copy_sort r
  have h4 := copy_len r
  have hfi := copy_fine r
  have hbad : (nmB s && tmOk t && vRt v) = false → putR r s t v = (1, []) := fun h => by unfold putR; rw [h]; rfl
  have hgood : (nmB s && tmOk t && vRt v) = true → putR r s t v = (if hasN (copyR r) s = false ∧ (copyR r).length = 4 then (13, []) else (0, putA (copyR r) s ⟨t, canV v⟩)) := fun h => by unfold putR; rw [if_pos h]
  have hcn := qcopy_n r hr hs
  generalize putR r s t v = Q at *
  generalize copyR r = o at *
  refine no_implicit_lambda% (acalls_of tok dok (f := 34) ⟨Try.func34, rfl, by kernel_rfl⟩ ?_); refine no_implicit_lambda% (c_start (fun _ h => h) ?_)
  repeat' (first | (refine no_implicit_lambda% (awd1 ?_)) | (((with_reducible refine no_implicit_lambda% (is_aops ?_)); refine no_implicit_lambda% (o_split rfl rfl rfl (fun hc => ?_) (fun hc => ?_)) <;> first | exact decx hc | rw [hc])) | (((with_reducible refine no_implicit_lambda% (is_cond ?_)); refine no_implicit_lambda% (c_cond rfl (fun hc => ?_) (fun hc => ?_)) <;> first | exact decx hc | skip)) | (((with_reducible refine no_implicit_lambda% (is_aop ?_)); refine no_implicit_lambda% (a_pick rfl rfl (fun hc => ?_) (fun hc => ?_)) <;> first | exact decx hc | rw [hc])) | (refine no_implicit_lambda% (ans ?_)) | (with_reducible exact retN) | (with_reducible exact retP) | (refine no_implicit_lambda% (cal [] (hnm) ?_ ?_)) | (refine no_implicit_lambda% (cal [] (hvr) ?_ ?_)) | fail)
  iterate 4
    · have hb : Q = (1, []) := hbad (by unfold tmOk; simp only [Bool.not_eq_true', Bool.not_eq_false', decide_eq_true_eq, decide_eq_false_iff_not] at *; rw [Bool.eq_false_iff]; intro h; simp only [Bool.and_eq_true, decide_eq_true_eq] at h; first | omega | (simp_all; done))
      subst hb
      refine e_ret_to (H' := []) (rest := _) (Conv.toT (τ := ⟨_, [(2, .box [.list [] .free])], _⟩) (.refl _) ?_ (Nat.le_refl _)) rfl ⟨rfl, rfl⟩ (.of_eq rfl) (Nat.le_of_ble_eq_true rfl)
      exact wkh
  have hq := hgood (by unfold tmOk; simp only [Bool.not_eq_true', Bool.not_eq_false', decide_eq_true_eq, decide_eq_false_iff_not] at *; simp only [Bool.and_eq_true, decide_eq_true_eq]; refine ⟨⟨by assumption, by omega⟩, by assumption⟩)
  (refine no_implicit_lambda% (cal [] (hcn) ?_ ?_))
  · intro xx H' hh
    obtain ⟨cp, c1, c2, h', rfl⟩ := hh
    cases h'
    first | (refine no_implicit_lambda% (akc ?_)) | (refine no_implicit_lambda% (aec ?_))
    have hf := qfind_o o s cp (by omega) hso
    rcases hN : hasN o s with _ | _
    · rw [hN] at hf
      repeat' (first | (refine no_implicit_lambda% (awd1 ?_)) | (((with_reducible refine no_implicit_lambda% (is_aops ?_)); refine no_implicit_lambda% (o_split rfl rfl rfl (fun hc => ?_) (fun hc => ?_)) <;> first | exact decx hc | rw [hc])) | (((with_reducible refine no_implicit_lambda% (is_cond ?_)); refine no_implicit_lambda% (c_cond rfl (fun hc => ?_) (fun hc => ?_)) <;> first | exact decx hc | skip)) | (((with_reducible refine no_implicit_lambda% (is_aop ?_)); refine no_implicit_lambda% (a_pick rfl rfl (fun hc => ?_) (fun hc => ?_)) <;> first | exact decx hc | rw [hc])) | (refine no_implicit_lambda% (ans ?_)) | (with_reducible exact retN) | (with_reducible exact retP) | fail | fail)
      (refine no_implicit_lambda% (cal [13] (hf) ?_ ?_))
      · refine no_implicit_lambda% (ret1 ?_); first | (refine no_implicit_lambda% (akc ?_)) | (refine no_implicit_lambda% (aec ?_))
        repeat' (first | (refine no_implicit_lambda% (awd1 ?_)) | (((with_reducible refine no_implicit_lambda% (is_aops ?_)); refine no_implicit_lambda% (o_split rfl rfl rfl (fun hc => ?_) (fun hc => ?_)) <;> first | exact decx hc | rw [hc])) | (((with_reducible refine no_implicit_lambda% (is_cond ?_)); refine no_implicit_lambda% (c_cond rfl (fun hc => ?_) (fun hc => ?_)) <;> first | exact decx hc | skip)) | (((with_reducible refine no_implicit_lambda% (is_aop ?_)); refine no_implicit_lambda% (a_pick rfl rfl (fun hc => ?_) (fun hc => ?_)) <;> first | exact decx hc | rw [hc])) | (refine no_implicit_lambda% (ans ?_)) | (with_reducible exact retN) | (with_reducible exact retP) | fail | fail)
        · have hl4 : o.length = 4 := by have := of_decide_eq_true hc; omega
          rw [if_pos ⟨hN, hl4⟩] at hq
          subst hq
          refine e_ret_to (H' := []) (rest := _) (Conv.toT (τ := ⟨_, [(2, .box [.list [] .free])], _⟩) (.refl _) ?_ (Nat.le_refl _)) rfl ⟨rfl, rfl⟩ (.of_eq rfl) (Nat.le_of_ble_eq_true rfl)
          exact wkh
        · have hl4 : ¬ o.length = 4 := by have := of_decide_eq_false hc; omega
          have hpl := npos_le o s
          rw [if_neg (fun h => hl4 h.2)] at hq
          ((with_reducible refine no_implicit_lambda% (is_ev ?_)); first | (refine no_implicit_lambda% (v_qS rfl rfl rfl rfl (qAnd4 (fun _ h => h)) (fun _ h => h) ?_ ?_)) | (refine no_implicit_lambda% (v_qS rfl rfl rfl rfl (qAnd5 (fun _ h => h)) (fun _ h => h) ?_ ?_))); focus ((repeat' (refine no_implicit_lambda% (And.intro ?_ ?_))) <;> (first | exact trivial | exact Int.natCast_nonneg _ | omega | (simp; done) | (simp; omega) | ((show (0 : Int) ≤ _); omega)))
          repeat' (first | (refine no_implicit_lambda% (awd1 ?_)) | (((with_reducible refine no_implicit_lambda% (is_aops ?_)); refine no_implicit_lambda% (o_split rfl rfl rfl (fun hc => ?_) (fun hc => ?_)) <;> first | exact decx hc | rw [hc])) | (((with_reducible refine no_implicit_lambda% (is_cond ?_)); refine no_implicit_lambda% (c_cond rfl (fun hc => ?_) (fun hc => ?_)) <;> first | exact decx hc | skip)) | (((with_reducible refine no_implicit_lambda% (is_aop ?_)); refine no_implicit_lambda% (a_pick rfl rfl (fun hc => ?_) (fun hc => ?_)) <;> first | exact decx hc | rw [hc])) | (refine no_implicit_lambda% (ans ?_)) | (with_reducible exact retN) | (with_reducible exact retP) | fail | fail)
          ((with_reducible refine no_implicit_lambda% (is_ev ?_)); first | (refine no_implicit_lambda% (v_qS rfl rfl rfl rfl (qAnd4 (fun _ h => h)) (fun _ h => h) ?_ ?_)) | (refine no_implicit_lambda% (v_qS rfl rfl rfl rfl (qAnd5 (fun _ h => h)) (fun _ h => h) ?_ ?_))); focus ((repeat' (refine no_implicit_lambda% (And.intro ?_ ?_))) <;> (first | exact trivial | exact Int.natCast_nonneg _ | omega | (simp; done) | (simp; omega) | ((show (0 : Int) ≤ _); omega)))
          repeat' (first | (refine no_implicit_lambda% (awd1 ?_)) | (((with_reducible refine no_implicit_lambda% (is_aops ?_)); refine no_implicit_lambda% (o_split rfl rfl rfl (fun hc => ?_) (fun hc => ?_)) <;> first | exact decx hc | rw [hc])) | (((with_reducible refine no_implicit_lambda% (is_cond ?_)); refine no_implicit_lambda% (c_cond rfl (fun hc => ?_) (fun hc => ?_)) <;> first | exact decx hc | skip)) | (((with_reducible refine no_implicit_lambda% (is_aop ?_)); refine no_implicit_lambda% (a_pick rfl rfl (fun hc => ?_) (fun hc => ?_)) <;> first | exact decx hc | rw [hc])) | (refine no_implicit_lambda% (ans ?_)) | (with_reducible exact retN) | (with_reducible exact retP) | fail | fail)
          have hlt4 := hfi.len
          have hpe : (npos o s : Int).toNat = npos o s := Int.toNat_natCast _
          generalize hpp : npos o s = p at *
          have l1 : ((o.take p).map corow).length = p := by rw [List.length_map, List.length_take]; omega
          have l2 : ((o.drop p).map corow).length = o.length - p := by rw [List.length_map, List.length_drop]
          (with_reducible refine is_aop ?_)
          refine no_implicit_lambda% (a_appS0g (sz := 2) (B := 40) (m2 := p) (rows2 := (o.take p).map corow) rfl rfl rfl rfl rfl rfl rfl rfl rfl (.inl rfl) rfl rfl (fun K h => asrc_seqg (id := 13) (off := 0) (i := 0) (m := ((o.take p).map corow).length) (cp := cp) ?_ rfl (coOk o) ?_ (by simp) ?_ h) (coOk _) ⟨by omega, by omega⟩ l1 ?_)
          · rw [l1]
            show AV.arr 13 (0 + 0 * 2) ((p : Int).toNat - 0) (cp - 0) = AV.arr 13 0 p cp
            rw [hpe]; rfl
          · rw [l1, List.length_map]; omega
          · rw [l1, List.drop_zero, List.map_take]
          intro cp1 d1 d2
          refine no_implicit_lambda% (aec ?_)
          repeat' (first | (refine no_implicit_lambda% (awd1 ?_)) | (((with_reducible refine no_implicit_lambda% (is_aops ?_)); refine no_implicit_lambda% (o_split rfl rfl rfl (fun hc => ?_) (fun hc => ?_)) <;> first | exact decx hc | rw [hc])) | (((with_reducible refine no_implicit_lambda% (is_cond ?_)); refine no_implicit_lambda% (c_cond rfl (fun hc => ?_) (fun hc => ?_)) <;> first | exact decx hc | skip)) | (((with_reducible refine no_implicit_lambda% (is_aop ?_)); refine no_implicit_lambda% (a_pick rfl rfl (fun hc => ?_) (fun hc => ?_)) <;> first | exact decx hc | rw [hc])) | (refine no_implicit_lambda% (ans ?_)) | (with_reducible exact retN) | (with_reducible exact retP) | fail | fail)
          ((with_reducible refine no_implicit_lambda% (is_aop ?_)); refine no_implicit_lambda% (a_appS (sz := 2) (B := 40) (m2 := p + 1) (rows3 := ((o.take p).map corow ++ [[.v (.string s), .list [] .full]])) rfl rfl rfl rfl rfl rfl rfl rfl rfl rfl rfl (fun _ h => h) rfl rfl (coOk (o.take p)) ((.one1 (row := [.v (.string s), .list [] .full]) ⟨rfl, rfl, rfl⟩)) (by first | rfl | (exact List.length_map ..) | (simp; done) | (simp; omega)) rfl (by first | omega | (simp; omega)) (by first | rfl | (simp; done) | (simp; omega)) (by first | rfl | (exact map_snoc _ _) | (rw [List.map_append]; rfl) | (simp; done)) ?_))
          intro cp2 e1 e2
          refine no_implicit_lambda% (aec ?_)
          repeat' (first | (refine no_implicit_lambda% (awd1 ?_)) | (((with_reducible refine no_implicit_lambda% (is_aops ?_)); refine no_implicit_lambda% (o_split rfl rfl rfl (fun hc => ?_) (fun hc => ?_)) <;> first | exact decx hc | rw [hc])) | (((with_reducible refine no_implicit_lambda% (is_cond ?_)); refine no_implicit_lambda% (c_cond rfl (fun hc => ?_) (fun hc => ?_)) <;> first | exact decx hc | skip)) | (((with_reducible refine no_implicit_lambda% (is_aop ?_)); refine no_implicit_lambda% (a_pick rfl rfl (fun hc => ?_) (fun hc => ?_)) <;> first | exact decx hc | rw [hc])) | (refine no_implicit_lambda% (ans ?_)) | (with_reducible exact retN) | (with_reducible exact retP) | fail | fail)
          (with_reducible refine is_aop ?_)
          refine no_implicit_lambda% (a_appSg (sz := 2) (B := 40) (m2 := o.length + 1) (rows := (o.take p).map corow ++ [[AV.v (.string s), AV.list [] .full]]) (rows2 := (o.drop p).map corow) (rows3 := nrows (o.take p) s (.list [] .full) (o.drop p)) rfl rfl rfl rfl rfl rfl rfl rfl rfl rfl (fun _ h => h) rfl rfl (fun K h => asrc_seqg (id := 13) (off := p * 2) (i := p) (m := ((o.drop p).map corow).length) (cp := cp - p) ?_ rfl (coOk o) ?_ rfl ?_ h) ?_ (coOk _) ?_ ?_ ⟨by omega, by omega, by omega⟩ (by omega) (ins_rows o p s) ?_)
          · rw [l2]
            show AV.arr 13 (0 + (p : Int).toNat * 2) (o.length - (p : Int).toNat) (cp - (p : Int).toNat) = AV.arr 13 (p * 2) (o.length - p) (cp - p)
            rw [hpe, Nat.zero_add]
          · rw [l2, List.length_map]; omega
          · rw [l2, List.map_drop, List.take_of_length_le (by rw [List.length_drop, List.length_map]; omega)]
          · exact (coOk _).app (.one1 ⟨rfl, rfl, rfl⟩)
          · rw [List.length_append, l1]; rfl
          · rfl
          intro cp3 f1 f2
          refine no_implicit_lambda% (aec ?_)
          repeat' (first | (first | (with_reducible refine no_implicit_lambda% (v_nil ?_)) | ((with_reducible refine no_implicit_lambda% (is_ev ?_)); first | (refine no_implicit_lambda% (v_skips rfl rfl (fun _ h => h) ?_)) | (refine no_implicit_lambda% (v_q rfl rfl rfl rfl (fun _ h => h) (fun _ h => h) ?_)) | (refine no_implicit_lambda% (v_alloc rfl rfl rfl (fun _ h => h) rfl ?_)) | (refine no_implicit_lambda% (v_no rfl rfl rfl rfl rfl rfl (fun _ h => h) ?_)) | (refine no_implicit_lambda% (v_yes rfl rfl rfl rfl rfl rfl (fun _ h => h) (fun _ h => h) ?_)) | (refine no_implicit_lambda% (v_not rfl rfl rfl rfl rfl rfl (fun _ h => h) ?_)))) | ((with_reducible refine no_implicit_lambda% (is_drB ?_)); first | (refine no_implicit_lambda% (b_end rfl rfl (fun _ h => h) (fun _ h => h) ?_)) | (refine no_implicit_lambda% (b_eff rfl rfl rfl rfl (fun _ h => h) (fun _ h => h) rfl ?_)) | (refine no_implicit_lambda% (b_no rfl rfl rfl rfl (fun _ h => h) (fun _ h => h) rfl rfl rfl (fun _ h => h) (fun _ h => h) ?_)) | (refine no_implicit_lambda% (b_yes rfl rfl rfl rfl (fun _ h => h) (fun _ h => h) rfl rfl rfl ?_)) | (refine no_implicit_lambda% (b_not rfl rfl rfl rfl (fun _ h => h) (fun _ h => h) rfl rfl rfl (fun _ h => h) (fun _ h => h) ?_))) | ((with_reducible refine no_implicit_lambda% (is_effK ?_)); refine no_implicit_lambda% (k_eff (fun _ h => h) (fun _ h => h) (fun _ h => h) (by intro k h; repeat (first | exact h | refine ⟨rfl, ?_⟩ | refine ⟨trivial, ?_⟩)) ?_)) | ((with_reducible refine no_implicit_lambda% (is_aop ?_)); first | (refine no_implicit_lambda% (a_q1 rfl (fun _ h => h) ?_)) | (refine no_implicit_lambda% (a_box rfl (fun _ h => h) ?_)) | (refine no_implicit_lambda% (a_alloc rfl (fun _ h => h) ?_)) | (refine no_implicit_lambda% (a_storev rfl (fun _ h => h) ?_)) | (refine no_implicit_lambda% (a_store rfl (fun _ h => h) ?_)) | (refine no_implicit_lambda% (a_panic rfl rfl ?_))) | fail)
          have hFl : (o.take p ++ ⟨s, []⟩ :: o.drop p).length = o.length + 1 := by simp; omega
          have hFp : (o.take p ++ (⟨s, []⟩ : Co) :: o.drop p)[p]? = some ⟨s, []⟩ := by
            rw [List.getElem?_append_right (by rw [List.length_take]; omega), List.length_take, Nat.min_eq_left (by omega), Nat.sub_self]; rfl
          have hFr : nrows (o.take p) s (.list [] .free) (o.drop p) = (o.take p ++ ⟨s, []⟩ :: o.drop p).map corow := nrows_free _ _ [] _
          refine ⟨qtSt t v (o.take p ++ ⟨s, []⟩ :: o.drop p) cp3 p, ?_, qput_rest t v hv _ Q.2 (o.take p ++ ⟨s, []⟩ :: o.drop p) cp3 p ⟨s, []⟩ (fun out H' h => ⟨by rw [h.1, show Q.1 = 0 by rw [hq]], h.2⟩) (by omega) hFp List.Pairwise.nil (by simp) (by omega) f2 ?_⟩
          · refine SeqTo.renE (n2 := 18) (L2 := [(1, .box (vrowV v)), (2, .box [.list [] .full]), (14, .box [.arr 17 0 (o.take p ++ ⟨s, []⟩ :: o.drop p).length cp3]), (17, .seq ((o.take p ++ ⟨s, []⟩ :: o.drop p).map corow) ((cp3 - (o.take p ++ (⟨s, []⟩ : Co) :: o.drop p).length) * 2))]) 0 [1, 2, 14, 17] (Nat.le_refl 0) rfl (fun _ h => h) ?_
            refine (Conv.unseq (id := 17) (rows := nrows (o.take p) s (.list [] .full) (o.drop p)) (k := (cp3 - (o.length + 1)) * 2) (by rw [nrows_len]; omega) (permT (H := [(17, .seq (nrows (o.take p) s (.list [] .full) (o.drop p)) ((cp3 - (o.length + 1)) * 2))]))).trans ((Conv.wk (.refl _) (.cons (.box 17 (wk_nrows (.free _ _))) (.refl _))).trans ((Conv.toSeq (rows := (o.take p ++ ⟨s, []⟩ :: o.drop p).map corow) (k := (cp3 - (o.length + 1)) * 2) (.refl _) (by rw [← hFr]) (coOk _).pure).trans ?_))
            rw [hFl]
            refine no_implicit_lambda% (Conv.toT ?_ ?_ (Nat.le_of_ble_eq_true rfl))
            · exact wkl
            · exact wkh
          · rw [hq]
            unfold putA
            rw [hN, if_neg (by simp), hpp]
            show _ = o.take p ++ ⟨s, [⟨t, canV v⟩]⟩ :: o.drop p
            have hol : (o.take p).length = p := by rw [List.length_take]; omega
            rw [List.set_append_right _ _ (by omega), hol, Nat.sub_self]
            rfl
      · first | (exact retN) | (exact retP)
    · rw [hN] at hf
      have hlt := npos_len hN
      obtain ⟨c, hc1⟩ := has_at hN
      have hcb := hfi.col c (List.mem_of_getElem? hc1)
      have hcl := col_len hcb
      have hlt4 := hfi.len
      repeat' (first | (refine no_implicit_lambda% (awd1 ?_)) | (((with_reducible refine no_implicit_lambda% (is_aops ?_)); refine no_implicit_lambda% (o_split rfl rfl rfl (fun hc => ?_) (fun hc => ?_)) <;> first | exact decx hc | rw [hc])) | (((with_reducible refine no_implicit_lambda% (is_cond ?_)); refine no_implicit_lambda% (c_cond rfl (fun hc => ?_) (fun hc => ?_)) <;> first | exact decx hc | skip)) | (((with_reducible refine no_implicit_lambda% (is_aop ?_)); refine no_implicit_lambda% (a_pick rfl rfl (fun hc => ?_) (fun hc => ?_)) <;> first | exact decx hc | rw [hc])) | (refine no_implicit_lambda% (ans ?_)) | (with_reducible exact retN) | (with_reducible exact retP) | fail | fail)
      (refine no_implicit_lambda% (cal [13] (hf) ?_ ?_))
      · refine no_implicit_lambda% (ret1 ?_); first | (refine no_implicit_lambda% (akc ?_)) | (refine no_implicit_lambda% (aec ?_))
        repeat' (first | (refine no_implicit_lambda% (sx1 ?_)) | (((with_reducible refine no_implicit_lambda% (is_aops ?_)); refine no_implicit_lambda% (o_split rfl rfl rfl (fun hc => ?_) (fun hc => ?_)) <;> first | exact decx hc | rw [hc])) | (((with_reducible refine no_implicit_lambda% (is_cond ?_)); refine no_implicit_lambda% (c_cond rfl (fun hc => ?_) (fun hc => ?_)) <;> first | exact decx hc | skip)) | (((with_reducible refine no_implicit_lambda% (is_aop ?_)); refine no_implicit_lambda% (a_pick rfl rfl (fun hc => ?_) (fun hc => ?_)) <;> first | exact decx hc | rw [hc])) | fail)
        refine k_seq ?_
        repeat' (first | (refine no_implicit_lambda% (sx1 ?_)) | (((with_reducible refine no_implicit_lambda% (is_aops ?_)); refine no_implicit_lambda% (o_split rfl rfl rfl (fun hc => ?_) (fun hc => ?_)) <;> first | exact decx hc | rw [hc])) | (((with_reducible refine no_implicit_lambda% (is_cond ?_)); refine no_implicit_lambda% (c_cond rfl (fun hc => ?_) (fun hc => ?_)) <;> first | exact decx hc | skip)) | (((with_reducible refine no_implicit_lambda% (is_aop ?_)); refine no_implicit_lambda% (a_pick rfl rfl (fun hc => ?_) (fun hc => ?_)) <;> first | exact decx hc | rw [hc])) | fail)
        refine k_seq ?_
        repeat' (first | (refine no_implicit_lambda% (sx1 ?_)) | (((with_reducible refine no_implicit_lambda% (is_aops ?_)); refine no_implicit_lambda% (o_split rfl rfl rfl (fun hc => ?_) (fun hc => ?_)) <;> first | exact decx hc | rw [hc])) | (((with_reducible refine no_implicit_lambda% (is_cond ?_)); refine no_implicit_lambda% (c_cond rfl (fun hc => ?_) (fun hc => ?_)) <;> first | exact decx hc | skip)) | (((with_reducible refine no_implicit_lambda% (is_aop ?_)); refine no_implicit_lambda% (a_pick rfl rfl (fun hc => ?_) (fun hc => ?_)) <;> first | exact decx hc | rw [hc])) | fail)
        refine ⟨qtSt t v o cp (npos o s), ?_, qput_rest t v hv _ Q.2 o cp (npos o s) c (fun out H' h => ⟨by rw [h.1, show Q.1 = 0 by rw [hq, if_neg (by rw [hN]; simp)]], h.2⟩) hlt4 hc1 ?_ hcl.2 c1 c2 ?_⟩
        · (refine no_implicit_lambda% (SeqTo.renT 0 [1, 2, 14, 13] (Nat.le_of_ble_eq_true rfl) (fun _ h => h) (fun _ h => h) ?_ ?_)); (focus ((try dsimp only); exact wkl)); (focus ((try dsimp only); exact wkh))
        · unfold colB at hcb
          simp only [Bool.and_eq_true] at hcb
          exact (vers_to hcb.2).2.1
        · rw [hq, if_neg (by rw [hN]; simp)]
          unfold putA
          rw [hN, if_pos rfl, hc1]
      · first | (exact retN) | (exact retP)
  · intro xx H' hh
    obtain ⟨_, _, _, h', _⟩ := hh
    cases h'
end Go.Proofs.Ytjepgbpcpcahgaa
namespace Go.Proofs.Ytjepgbpcpcahgaa
open Go.Am
set_option linter.unusedSimpArgs false
set_option linter.unusedVariables false
set_option maxRecDepth 100000
end Go.Proofs.Ytjepgbpcpcahgaa
namespace Go.Proofs.Ytjepgbpcpcahgaa
open Go.Am
set_option linter.unusedSimpArgs false
set_option linter.unusedVariables false
set_option maxRecDepth 100000
theorem pick_c (l : List ByteArray) (n : Int) (hl : 0 < l.length ∧ l.length < 1000) (h1 : -9223372036854775808 ≤ n) (h2 : n ≤ 9223372036854775807) : ACalls Try.prog 105 0 0 [.list (l.map fun s => [.v (.string s)]) .free, .v (.int .i64 n)] [] (fun out H' => ∃ t ∈ l, out = .ret (.v (.string t)) ∧ H' = []) := by
  have hw := wthn_c n 0 1048576 h1 h2 (by decide) (by decide) (by decide) (by decide)
  refine no_implicit_lambda% (acalls_of tok dok (f := 105) ⟨Try.func105, rfl, by kernel_rfl⟩ ?_); refine no_implicit_lambda% (c_start (fun _ h => h) ?_)
  have hb := wthn_bd n 0 1048576 (by decide)
  generalize wthn n 0 1048576 = w at *
  repeat' (first | (refine no_implicit_lambda% (awd1 ?_)) | (((with_reducible refine no_implicit_lambda% (is_aops ?_)); refine no_implicit_lambda% (o_split rfl rfl rfl (fun hc => ?_) (fun hc => ?_)) <;> first | exact decx hc | rw [hc])) | (((with_reducible refine no_implicit_lambda% (is_cond ?_)); refine no_implicit_lambda% (c_cond rfl (fun hc => ?_) (fun hc => ?_)) <;> first | exact decx hc | skip)) | (((with_reducible refine no_implicit_lambda% (is_aop ?_)); refine no_implicit_lambda% (a_pick rfl rfl (fun hc => ?_) (fun hc => ?_)) <;> first | exact decx hc | rw [hc])) | (refine no_implicit_lambda% (ans ?_)) | (with_reducible exact retN) | (with_reducible exact retP) | (refine no_implicit_lambda% (cal [] (hw) ?_ ?_)) | fail)
  (with_reducible refine no_implicit_lambda% (is_aop ?_)); first | (refine no_implicit_lambda% (a_qS rfl (fun _ h => h) ?_ ?_)) | (refine no_implicit_lambda% (a_qS rfl (qIx (fun _ h => h)) ?_ ?_)) | (refine no_implicit_lambda% (a_qS rfl (qAnd5 (fun _ h => h)) ?_ ?_)) | (refine no_implicit_lambda% (a_qS rfl (qStr (fun _ h => h)) ?_ ?_)) | (refine no_implicit_lambda% (a_qS rfl (qAnd4 (fun _ h => h)) ?_ ?_)) | (refine no_implicit_lambda% (a_qS rfl (qAnd2 (fun _ h => h)) ?_ ?_))
  · rw [List.length_map]; omega
  have hj : 0 ≤ w.tmod ((l.map fun s => [AV.v (.string s)]).length : Int) ∧ w.tmod ((l.map fun s => [AV.v (.string s)]).length : Int) < l.length := by
    rw [List.length_map]
    exact ⟨Int.tmod_nonneg _ hb.1, Int.tmod_lt_of_pos _ (by omega)⟩
  generalize w.tmod ((l.map fun s => [AV.v (.string s)]).length : Int) = j at *
  obtain ⟨t, ht⟩ : ∃ t, l[j.toNat]? = some t := ⟨_, List.getElem?_eq_getElem (by omega)⟩
  have hix : 0 ≤ j ∧ (l.map fun s => [AV.v (.string s)])[j.toNat]? = some [.v (.string t)] ∧ ([AV.v (.string t)] : List AV).length = 1 := ⟨hj.1, by rw [List.getElem?_map, ht]; rfl, rfl⟩
  repeat' (first | (refine no_implicit_lambda% (awd1 ?_)) | (((with_reducible refine no_implicit_lambda% (is_aops ?_)); refine no_implicit_lambda% (o_split rfl rfl rfl (fun hc => ?_) (fun hc => ?_)) <;> first | exact decx hc | rw [hc])) | (((with_reducible refine no_implicit_lambda% (is_cond ?_)); refine no_implicit_lambda% (c_cond rfl (fun hc => ?_) (fun hc => ?_)) <;> first | exact decx hc | skip)) | (((with_reducible refine no_implicit_lambda% (is_aop ?_)); refine no_implicit_lambda% (a_pick rfl rfl (fun hc => ?_) (fun hc => ?_)) <;> first | exact decx hc | rw [hc])) | (refine no_implicit_lambda% (ans ?_)) | (with_reducible exact retN) | (with_reducible exact retP) | fail | fail)
  exact e_ret (H' := []) (rest := _) rfl ⟨t, List.mem_of_getElem? ht, rfl, rfl⟩ (.refl _) (Nat.le_of_ble_eq_true rfl)
def bsS (l : List UInt8) : ByteArray := ⟨l.toArray⟩
def colL : List ByteArray := [bsS [120], bsS [121], bsS [119], bsS [118], bsS [108, 111, 110, 103, 46, 110, 97, 109, 101, 46, 49, 54, 46, 98, 121, 116]]
theorem keepcol_c (n : Int) (h1 : -9223372036854775808 ≤ n) (h2 : n ≤ 9223372036854775807) : ACalls Try.prog 64 0 5 [.v (.int .i64 n)] [] (fun out H' => ∃ t ∈ colL, out = .ret (.v (.string t)) ∧ H' = []) := by
  have hp := pick_c colL n (by decide) h1 h2
  refine no_implicit_lambda% (acalls_of tok dok (f := 64) ⟨Try.func64, rfl, by kernel_rfl⟩ ?_); refine no_implicit_lambda% (c_start (fun _ h => h) ?_)
  repeat' (first | (refine no_implicit_lambda% (awd1 ?_)) | (((with_reducible refine no_implicit_lambda% (is_aops ?_)); refine no_implicit_lambda% (o_split rfl rfl rfl (fun hc => ?_) (fun hc => ?_)) <;> first | exact decx hc | rw [hc])) | (((with_reducible refine no_implicit_lambda% (is_cond ?_)); refine no_implicit_lambda% (c_cond rfl (fun hc => ?_) (fun hc => ?_)) <;> first | exact decx hc | skip)) | (((with_reducible refine no_implicit_lambda% (is_aop ?_)); refine no_implicit_lambda% (a_pick rfl rfl (fun hc => ?_) (fun hc => ?_)) <;> first | exact decx hc | rw [hc])) | (refine no_implicit_lambda% (ans ?_)) | (with_reducible exact retN) | (with_reducible exact retP) | fail | fail)
  (refine no_implicit_lambda% (calw [] (hp) ?_ ?_))
  · intro xx H' hh
    obtain ⟨t, ht, h', rfl⟩ := hh
    cases h'
    first | (refine no_implicit_lambda% (akc ?_)) | (refine no_implicit_lambda% (aec ?_))
    repeat' (first | (refine no_implicit_lambda% (awd1 ?_)) | (((with_reducible refine no_implicit_lambda% (is_aops ?_)); refine no_implicit_lambda% (o_split rfl rfl rfl (fun hc => ?_) (fun hc => ?_)) <;> first | exact decx hc | rw [hc])) | (((with_reducible refine no_implicit_lambda% (is_cond ?_)); refine no_implicit_lambda% (c_cond rfl (fun hc => ?_) (fun hc => ?_)) <;> first | exact decx hc | skip)) | (((with_reducible refine no_implicit_lambda% (is_aop ?_)); refine no_implicit_lambda% (a_pick rfl rfl (fun hc => ?_) (fun hc => ?_)) <;> first | exact decx hc | rw [hc])) | (refine no_implicit_lambda% (ans ?_)) | (with_reducible exact retN) | (with_reducible exact retP) | fail | fail)
    exact e_ret (H' := []) (rest := _) rfl ⟨t, ht, rfl, rfl⟩ permT (Nat.le_of_ble_eq_true rfl)
  · intro xx H' hh
    obtain ⟨_, _, h', _⟩ := hh
    cases h'
/-- an ask -/
structure Rk where
  k : Int
  c : Int
  nm : ByteArray
  t : Int
  tx : Bool
  n : Int
  x : Nat
  b : List UInt8
def rkrow (a : Rk) : List AV := [.v (.int .i64 a.k), .v (.int .i64 a.c), .v (.string a.nm), .v (.int .i64 a.t), .v (.bool a.tx), .v (.int .i64 a.n), .v (.float .f64 a.x), .list (a.b.map brow) .free]
structure RkOk (a : Rk) : Prop where
  c : -9223372036854775808 ≤ a.c ∧ a.c ≤ 9223372036854775807
  t : -9223372036854775808 ≤ a.t ∧ a.t ≤ 9223372036854775807
  n : -9223372036854775808 ≤ a.n ∧ a.n ≤ 9223372036854775807
  x : a.x < 18446744073709551616
end Go.Proofs.Ytjepgbpcpcahgaa
namespace Go.Proofs.Ytjepgbpcpcahgaa
open Go.Am
set_option linter.unusedSimpArgs false
set_option linter.unusedVariables false
set_option maxRecDepth 100000
end Go.Proofs.Ytjepgbpcpcahgaa
namespace Go.Proofs.Ytjepgbpcpcahgaa
open Go.Am
set_option linter.unusedSimpArgs false
set_option linter.unusedVariables false
set_option maxRecDepth 100000
theorem text_c (s : ByteArray) (hs : s.size < 1073741824) : ACalls Try.prog 63 0 5 [.v (.string s)] [] (fun out H' => out = .ret (vav ⟨1, s.data.toList, 0⟩) ∧ H' = []) := by
  refine no_implicit_lambda% (acalls_of tok dok (f := 63) ⟨Try.func63, rfl, by kernel_rfl⟩ ?_); refine no_implicit_lambda% (c_start (fun _ h => h) ?_)
  repeat' (first | (refine no_implicit_lambda% (awd1 ?_)) | (((with_reducible refine no_implicit_lambda% (is_aops ?_)); refine no_implicit_lambda% (o_split rfl rfl rfl (fun hc => ?_) (fun hc => ?_)) <;> first | exact decx hc | rw [hc])) | (((with_reducible refine no_implicit_lambda% (is_cond ?_)); refine no_implicit_lambda% (c_cond rfl (fun hc => ?_) (fun hc => ?_)) <;> first | exact decx hc | skip)) | (((with_reducible refine no_implicit_lambda% (is_aop ?_)); refine no_implicit_lambda% (a_pick rfl rfl (fun hc => ?_) (fun hc => ?_)) <;> first | exact decx hc | rw [hc])) | (refine no_implicit_lambda% (ans ?_)) | (with_reducible exact retN) | (with_reducible exact retP) | fail | fail)
  (with_reducible refine no_implicit_lambda% (is_aop ?_)); first | (refine no_implicit_lambda% (a_qS rfl (fun _ h => h) ?_ ?_)) | (refine no_implicit_lambda% (a_qS rfl (qIx (fun _ h => h)) ?_ ?_)) | (refine no_implicit_lambda% (a_qS rfl (qAnd5 (fun _ h => h)) ?_ ?_)) | (refine no_implicit_lambda% (a_qS rfl (qStr (fun _ h => h)) ?_ ?_)) | (refine no_implicit_lambda% (a_qS rfl (qAnd4 (fun _ h => h)) ?_ ?_)) | (refine no_implicit_lambda% (a_qS rfl (qAnd2 (fun _ h => h)) ?_ ?_))
  · omega
  repeat' (first | (refine no_implicit_lambda% (awd1 ?_)) | (((with_reducible refine no_implicit_lambda% (is_aops ?_)); refine no_implicit_lambda% (o_split rfl rfl rfl (fun hc => ?_) (fun hc => ?_)) <;> first | exact decx hc | rw [hc])) | (((with_reducible refine no_implicit_lambda% (is_cond ?_)); refine no_implicit_lambda% (c_cond rfl (fun hc => ?_) (fun hc => ?_)) <;> first | exact decx hc | skip)) | (((with_reducible refine no_implicit_lambda% (is_aop ?_)); refine no_implicit_lambda% (a_pick rfl rfl (fun hc => ?_) (fun hc => ?_)) <;> first | exact decx hc | rw [hc])) | (refine no_implicit_lambda% (ans ?_)) | (with_reducible exact retN) | (with_reducible exact retP) | fail | fail)
  exact e_ret (H' := []) (rest := _) rfl ⟨rfl, rfl⟩ permT (Nat.le_of_ble_eq_true rfl)
theorem rkex {l : List Rk} {i : Nat} {t : Rk} (h : l[i]? = some t) : 0 ≤ (i : Int) ∧ (l.map rkrow)[(i : Int).toNat]? = some (rkrow t) ∧ (rkrow t).length = 8 := ⟨Int.natCast_nonneg _, by rw [Int.toNat_natCast, List.getElem?_map, h]; rfl, rfl⟩
theorem cmpS_self (s : ByteArray) : cmpS s s = 0 := by
  have h := eq_cb s.toList s.toList
  rw [beq_self_eq_true] at h
  unfold cmpS
  exact of_decide_eq_true h.symm
theorem sLt_self (s : ByteArray) : sLt s s = false := by
  rw [sLt_eq, cmpS_self]
  rfl
theorem hasN_one {s : ByteArray} {l : List Ve} : hasN [⟨s, l⟩] s = true ∧ npos [⟨s, l⟩] s = 0 := by
  have e : npos [⟨s, l⟩] s = 0 := by unfold npos; simp [sLt_self]
  refine ⟨?_, e⟩
  unfold hasN
  rw [e]
  simp [cmpS_self]
theorem put_new {s : ByteArray} {t : Int} {v : Va} (hn : nmB s = true) (ht : tmOk t = true) (hv : vRt v = true) : putR [] s t v = (0, [⟨s, [⟨t, canV v⟩]⟩]) := by
  unfold putR
  rw [hn, ht, hv, if_pos (by rfl)]
  rfl
theorem put_one {s : ByteArray} {l : List Ve} {t : Int} {v : Va} (hF : Fine [⟨s, l⟩]) (hn : nmB s = true) (ht : tmOk t = true) (hv : vRt v = true) : putR [⟨s, l⟩] s t v = (0, [⟨s, putV l ⟨t, canV v⟩⟩]) := by
  obtain ⟨a, b⟩ := hasN_one (s := s) (l := l)
  unfold putR
  rw [hn, ht, hv, if_pos (by rfl), hF.copy, if_neg (by rw [a]; simp)]
  unfold putA
  rw [a, b, if_pos rfl]
  rfl
set_option maxHeartbeats 3200000 in
theorem known_rc : ACalls Try.prog 27 0 90000 [] [] (fun out H' => out = .ret (.v (.bool true)) ∧ H' = []) := by
  have ta := text_c (bsS [120]) (by decide)
  have tb := text_c (bsS [121]) (by decide)
  have tc := text_c (bsS [122]) (by decide)
  have z0 : RowSz [] := fun c hc => by cases hc
  have p1 := put_c [] (bsS [97]) 5 ⟨1, [120], 0⟩ (by decide) z0 (by decide)
  have s1 := putR_sz (r := []) (s := bsS [97]) (t := 5) (v := ⟨1, [120], 0⟩) z0 (by decide)
  have f1 := putR_fine [] (bsS [97]) 5 ⟨1, [120], 0⟩
  rw [put_new (by decide) (by decide) (by decide)] at p1 s1 f1
  have p2 := put_c _ (bsS [97]) 3 ⟨1, [121], 0⟩ (by simp) s1 (by decide)
  have s2 := putR_sz (s := bsS [97]) (t := 3) (v := ⟨1, [121], 0⟩) s1 (by decide)
  have f2 := putR_fine [⟨bsS [97], [⟨5, canV ⟨1, [120], 0⟩⟩]⟩] (bsS [97]) 3 ⟨1, [121], 0⟩
  rw [put_one f1 (by decide) (by decide) (by decide)] at p2 s2 f2
  have hp : putV [⟨5, canV ⟨1, [120], 0⟩⟩] ⟨3, canV ⟨1, [121], 0⟩⟩ = [⟨5, ⟨1, [120], 0⟩⟩, ⟨3, ⟨1, [121], 0⟩⟩] := rfl
  have e1 : canV ⟨1, [120], 0⟩ = ⟨1, [120], 0⟩ := rfl
  simp only [hp] at p2 s2 f2
  rw [e1] at p1 p2 s1
  have n1 := newest_c _ (bsS [97]) (by simp) s2
  have p3 := put_c _ (bsS [97]) (-1) ⟨1, [122], 0⟩ (by simp) s2 (by decide)
  have r1 := (right_c _ (show ([⟨bsS [97], [⟨5, ⟨1, [120], 0⟩⟩, ⟨3, ⟨1, [121], 0⟩⟩]⟩] : List Co).length < 70368744177664 by simp)).top0
  rw [f2.row] at r1
  have m1 := name_c (bsS [97])
  have m2 := name_c (bsS [])
  have hn1 : atR [⟨bsS [97], [⟨5, ⟨1, [120], 0⟩⟩, ⟨3, ⟨1, [121], 0⟩⟩]⟩] (bsS [97]) 1099511627776 = some ⟨1, [120], 0⟩ := by
    obtain ⟨a, b⟩ := hasN_one (s := bsS [97]) (l := [⟨5, ⟨1, [120], 0⟩⟩, ⟨3, ⟨1, [121], 0⟩⟩])
    unfold atR
    rw [f2.copy, a, b, if_pos rfl]
    rfl
  rw [hn1] at n1
  have hp3 : putR [⟨bsS [97], [⟨5, ⟨1, [120], 0⟩⟩, ⟨3, ⟨1, [121], 0⟩⟩]⟩] (bsS [97]) (-1) ⟨1, [122], 0⟩ = (1, []) := by
    unfold putR
    rw [show (nmB (bsS [97]) && tmOk (-1) && vRt ⟨1, [122], 0⟩) = false by decide]
    rfl
  rw [hp3] at p3
  rw [show nmB (bsS [97]) = true by decide] at m1
  rw [show nmB (bsS []) = false by decide] at m2
  unfold PutRR at p1 p2 p3
  unfold optA at n1
  refine no_implicit_lambda% (acalls_of tok dok (f := 27) ⟨Try.func27, rfl, by kernel_rfl⟩ ?_); refine no_implicit_lambda% (c_start (fun _ h => h) ?_)
  repeat' (first | (refine no_implicit_lambda% (awd1 ?_)) | (((with_reducible refine no_implicit_lambda% (is_aops ?_)); refine no_implicit_lambda% (o_split rfl rfl rfl (fun hc => ?_) (fun hc => ?_)) <;> first | exact decx hc | rw [hc])) | (((with_reducible refine no_implicit_lambda% (is_cond ?_)); refine no_implicit_lambda% (c_cond rfl (fun hc => ?_) (fun hc => ?_)) <;> first | exact decx hc | skip)) | (((with_reducible refine no_implicit_lambda% (is_aop ?_)); refine no_implicit_lambda% (a_pick rfl rfl (fun hc => ?_) (fun hc => ?_)) <;> first | exact decx hc | rw [hc])) | (refine no_implicit_lambda% (ans ?_)) | (with_reducible exact retN) | (with_reducible exact retP) | (refine no_implicit_lambda% (cal [] (ta) ?_ ?_)) | fail)
  (refine no_implicit_lambda% (calw [] (p1) ?_ ?_))
  · refine no_implicit_lambda% (ret1 ?_); first | (refine no_implicit_lambda% (akc ?_)) | (refine no_implicit_lambda% (aec ?_))
    repeat' (first | (refine no_implicit_lambda% (awd1 ?_)) | (((with_reducible refine no_implicit_lambda% (is_aops ?_)); refine no_implicit_lambda% (o_split rfl rfl rfl (fun hc => ?_) (fun hc => ?_)) <;> first | exact decx hc | rw [hc])) | (((with_reducible refine no_implicit_lambda% (is_cond ?_)); refine no_implicit_lambda% (c_cond rfl (fun hc => ?_) (fun hc => ?_)) <;> first | exact decx hc | skip)) | (((with_reducible refine no_implicit_lambda% (is_aop ?_)); refine no_implicit_lambda% (a_pick rfl rfl (fun hc => ?_) (fun hc => ?_)) <;> first | exact decx hc | rw [hc])) | (refine no_implicit_lambda% (ans ?_)) | (with_reducible exact retN) | (with_reducible exact retP) | (refine no_implicit_lambda% (cal [] (ta) ?_ ?_)) | (refine no_implicit_lambda% (cal [] (tb) ?_ ?_)) | (refine no_implicit_lambda% (cal [] (tc) ?_ ?_)) | (refine no_implicit_lambda% (cal [] (p2) ?_ ?_)) | (refine no_implicit_lambda% (cal [] (p3) ?_ ?_)) | (refine no_implicit_lambda% (cal [] (n1) ?_ ?_)) | (refine no_implicit_lambda% (cal [] (r1) ?_ ?_)) | (refine no_implicit_lambda% (cal [] (m1) ?_ ?_)) | (refine no_implicit_lambda% (cal [] (m2) ?_ ?_)) | fail)
    · exact e_ret (H' := []) (rest := _) rfl ⟨rfl, rfl⟩ permT (Nat.le_of_ble_eq_true rfl)
    · exact absurd hc (by show ¬ ((⟨#[120]⟩ : ByteArray).toList == (⟨#[120]⟩ : ByteArray).toList) = false; simp)
  · first | (exact retN) | (exact retP)
end Go.Proofs.Ytjepgbpcpcahgaa
namespace Go.Am
open Go.RowKit Go.ChangeShapes Go.WideShapes
set_option linter.unusedSimpArgs false
set_option linter.unusedVariables false
def cellsX (w : World) : Nat → Nat → Option Value := fun b i => w.cell? ⟨b, i, none⟩
/-- a row of cells and what is known of it -/
def RowSim (X : Nat → Nat → Option Value) (row : List AV) (cs : List Value) : Prop :=
  row.length = cs.length ∧ ∀ (j : Nat) a y, row[j]? = some a → cs[j]? = some y → SimD X a y ∧ y.oneCell' = true
section
variable {H : Type} (enc : TypeId × Value → H) (P : Program) (w : World) (base : Nat) (sp : Nat → Bool) (held : Bool)
/-- every reading of this type's cells is a row of this kind -/
def Opn (t : TypeId) (R : List AV → Prop) : Prop := ∀ fuel cs x, DataW.trod enc P w base sp held fuel t cs = some x → ∃ row, RowSim (cellsX w) row cs ∧ R row
end
section
variable {H : Type} {enc : TypeId × Value → H} {P : Program} {w : World} {base : Nat} {sp : Nat → Bool} {held : Bool}
theorem RowSim.one {X : Nat → Nat → Option Value} {a : AV} {y : Value} (h : SimD X a y) (h1 : y.oneCell' = true) : RowSim X [a] [y] :=
  ⟨rfl, fun j b z hb hz => by
    cases j with
    | zero => simp at hb hz; subst hb; subst hz; exact ⟨h, h1⟩
    | succ j => simp at hb⟩
theorem RowSim.app {X : Nat → Nat → Option Value} {r s : List AV} {c d : List Value} (h : RowSim X r c) (k : RowSim X s d) : RowSim X (r ++ s) (c ++ d) :=
  ⟨by simp [h.1, k.1], fun j a y ha hy => by
    rw [List.getElem?_append] at ha hy
    rw [h.1] at ha
    split at ha
    · rw [if_pos (by assumption)] at hy; exact h.2 j a y ha hy
    · rw [if_neg (by assumption)] at hy; exact k.2 _ a y ha hy⟩
theorem opn_int {t : TypeId} {k : IntKind} (ht : P.underlying t = some (.int k)) : Opn enc P w base sp held t fun row => ∃ n, row = [.v (.int k n)] ∧ k.min ≤ n ∧ n ≤ k.max := fun fuel cs x h => by
  obtain ⟨n, rfl, _, hw⟩ := DataW.trod_int ht h
  simp only [Lit.wf, Bool.and_eq_true, decide_eq_true_eq] at hw
  exact ⟨_, .one (.v _) rfl, n, rfl, hw⟩
theorem opn_bool {t : TypeId} (ht : P.underlying t = some .bool) : Opn enc P w base sp held t fun row => ∃ b, row = [.v (.bool b)] := fun fuel cs x h => by
  obtain ⟨b, rfl, _⟩ := DataW.trod_bool ht h
  exact ⟨_, .one (.v _) rfl, b, rfl⟩
theorem opn_string {t : TypeId} (ht : P.underlying t = some .string) : Opn enc P w base sp held t fun row => ∃ s : ByteArray, row = [.v (.string s)] ∧ s.size ≤ maxLen := fun fuel cs x h => by
  obtain ⟨s, rfl, _, hs⟩ := DataW.trod_string ht h
  exact ⟨_, .one (.v _) rfl, s, rfl, hs⟩
theorem opn_float {t : TypeId} (ht : P.underlying t = some (.float .f64)) : Opn enc P w base sp held t fun row => ∃ b, row = [.v (.float .f64 b)] ∧ b < 18446744073709551616 := fun fuel cs x h => by
  cases fuel with
  | zero => simp [DataW.trod] at h
  | succ n =>
    unfold DataW.trod at h
    rw [ht] at h
    match cs, h with
    | [.float k' b], h =>
      simp only at h
      split at h
      · rename_i hw
        obtain ⟨rfl, hw⟩ := hw
        simp only [Lit.wf, decide_eq_true_eq] at hw
        exact ⟨_, .one (.v _) rfl, b, rfl, hw⟩
      · cases h
theorem cells_get {a : Addr} {n : Nat} {cs : List Value} (h : w.cells? base a n = some cs) : cs.length = n ∧ ∀ j, j < n → w.cell? (a.add j) = cs[j]? := by
  unfold World.cells? at h
  split at h
  · have h1 := mapM_some_length h
    refine ⟨by simpa using h1, fun j hj => ?_⟩
    have h2 := mapM_some_get h j j (by simp [hj])
    exact h2
  · cases h
theorem cell_spot {a : Addr} {v : Value} (h : w.cell? a = some v) : a.spot = none := by
  unfold World.cell? at h
  split at h
  · split at h
    · cases h
    · rename_i h1; simpa using h1
  · cases h
theorem add_at {a : Addr} (h : a.spot = none) (n : Nat) : a.add n = ⟨a.block, a.off + n, none⟩ := by
  obtain ⟨b, o, s⟩ := a
  simp only at h
  subst h
  unfold Addr.add
  split
  · rename_i h0; subst h0; rfl
  · rfl
theorem opn_slice {t e : TypeId} {s : Nat} {R : List AV → Prop} (ht : P.underlying t = some (.slice e)) (hs : P.cellsOf e = s) (h0 : 0 < s) (he : Opn enc P w base sp held e R) :
    Opn enc P w base sp held t fun row => ∃ rows, row = [.list rows .free] ∧ rows.length ≤ maxLen ∧ ∀ r ∈ rows, R r ∧ r.length = s := fun fuel cs x h => by
  rcases DataW.trod_slice ht h with ⟨rfl, _⟩ | ⟨a, len, cap, elems, rest, n, _, rfl, _, hb, hl, hm, hlen, hel, _, _⟩
  · exact ⟨_, .one (.nil .free none 0 (Nat.zero_le _) (fun h => by cases h) (.inl rfl)) rfl, [], rfl, Nat.zero_le _, fun r hr => (List.not_mem_nil hr).elim⟩
  subst hs
  have each : ∀ i, i < len → ∃ row cs', RowSim (cellsX w) row cs' ∧ R row ∧ cs'.length = P.cellsOf e ∧ ∀ j, j < P.cellsOf e → w.cell? ((a.add (i * P.cellsOf e)).add j) = cs'[j]? := fun i hi => by
    have h1 := hel i hi
    have hi' : i < elems.length := by omega
    rw [List.getElem?_eq_getElem hi', Option.bind_eq_some_iff] at h1
    obtain ⟨cs', hcs, hy⟩ := h1
    obtain ⟨row, k1, k2⟩ := he _ _ _ hy
    obtain ⟨k3, k4⟩ := cells_get hcs
    exact ⟨row, cs', k1, k2, k3, k4⟩
  rcases Nat.eq_zero_or_pos len with rfl | hpos
  · exact ⟨_, .one (.nil .free (some a) cap hm (fun h => by cases h) (.inl rfl)) rfl, [], rfl, Nat.zero_le _, fun r hr => (List.not_mem_nil hr).elim⟩
  have hspot : a.spot = none := by
    obtain ⟨row, cs', k1, k2, k3, k4⟩ := each 0 hpos
    have h2 := k4 0 h0
    have : cs'[0]? = some cs'[0] := List.getElem?_eq_getElem (by omega)
    rw [this] at h2
    have e : ((a.add (0 * P.cellsOf e)).add 0) = a := by simp [Addr.add]
    rw [e] at h2
    exact cell_spot h2
  -- the rows
  have hex : ∀ m, m ≤ len → ∃ rows : List (List AV), rows.length = m ∧ (∀ r ∈ rows, R r ∧ r.length = P.cellsOf e) ∧ ∀ i row, rows[i]? = some row → ∃ cs', RowSim (cellsX w) row cs' ∧ cs'.length = P.cellsOf e ∧ ∀ j, j < P.cellsOf e → w.cell? ((a.add (i * P.cellsOf e)).add j) = cs'[j]? := by
    intro m
    induction m with
    | zero => intro _; exact ⟨[], rfl, fun r hr => (List.not_mem_nil hr).elim, fun i row h => by simp at h⟩
    | succ m ih =>
      intro hm'
      obtain ⟨rows, r1, r2, r3⟩ := ih (by omega)
      obtain ⟨row, cs', k1, k2, k3, k4⟩ := each m (by omega)
      refine ⟨rows ++ [row], by simp [r1], fun r hr => ?_, fun i row' h => ?_⟩
      · rcases List.mem_append.1 hr with hr | hr
        · exact r2 r hr
        · obtain rfl := List.mem_singleton.1 hr
          exact ⟨k2, by rw [k1.1, k3]⟩
      · rw [List.getElem?_append] at h
        split at h
        · exact r3 i row' h
        · rename_i hge
          have hi : i = m := by
            have := (List.getElem?_eq_some_iff.1 h).1
            simp at this; omega
          subst hi
          rw [r1, Nat.sub_self] at h
          simp at h
          subst h
          exact ⟨cs', k1, k3, k4⟩
  obtain ⟨rows, r1, r2, r3⟩ := hex len (Nat.le_refl _)
  obtain ⟨b, off, sp'⟩ := a
  simp only at hspot
  subst hspot
  refine ⟨_, .one (?_ : SimD (cellsX w) (.list rows .free) _) rfl, rows, rfl, by rw [r1]; exact Nat.le_trans hl hm, r2⟩
  have key : ∀ i row j av, rows[i]? = some row → row[j]? = some av → ∃ y, cellsX w b (off + i * P.cellsOf e + j) = some y ∧ SimD (cellsX w) av y ∧ y.oneCell' = true := fun i row j av h1 h2 => by
    obtain ⟨cs', k1, k3, k4⟩ := r3 i row h1
    have hj : j < P.cellsOf e := by
      have := (List.getElem?_eq_some_iff.1 h2).1
      rw [k1.1, k3] at this; exact this
    have hj' : j < cs'.length := by omega
    have h4 := k4 j hj
    rw [List.getElem?_eq_getElem hj'] at h4
    obtain ⟨m1, m2⟩ := k1.2 j av cs'[j] h2 (List.getElem?_eq_getElem hj')
    refine ⟨cs'[j], ?_, m1, m2⟩
    rw [add_at (a := ⟨b, off, none⟩) rfl, add_at rfl] at h4
    exact h4
  have := SimD.list (X := cellsX w) rows .free b off cap (P.cellsOf e) (fun i j => (cellsX w b (off + i * P.cellsOf e + j)).getD undef) (by omega) hm (fun h => by cases h) (.inl rfl) (fun r hr => (r2 r hr).2)
    (fun i row j av h1 h2 => by obtain ⟨y, e1, _⟩ := key i row j av h1 h2; rw [e1]; rfl) (fun i row j av h1 h2 => by obtain ⟨y, e1, e2, _⟩ := key i row j av h1 h2; rw [e1]; exact e2) (fun i row j av h1 h2 => by obtain ⟨y, e1, _, e3⟩ := key i row j av h1 h2; rw [e1]; exact e3)
  rw [r1] at this
  exact this
theorem Opn.mono {t : TypeId} {R R' : List AV → Prop} (h : Opn enc P w base sp held t R) (hr : ∀ row, R row → R' row) : Opn enc P w base sp held t R' := fun fuel cs x hx => let ⟨row, h1, h2⟩ := h fuel cs x hx; ⟨row, h1, hr row h2⟩
/-- the fields of a struct, one behind the other -/
def AllR : List (List AV → Prop) → List AV → Prop
  | [], row => row = []
  | R :: Rs, row => ∃ r r', row = r ++ r' ∧ R r ∧ AllR Rs r'
def OpnAll (enc : TypeId × Value → H) (P : Program) (w : World) (base : Nat) (sp : Nat → Bool) (held : Bool) : Nat → List Field → List (List AV → Prop) → Nat → Prop
  | off, [], [], total => off = total
  | off, f :: fs, R :: Rs, total => f.offset = off ∧ Opn enc P w base sp held f.type R ∧ OpnAll enc P w base sp held (off + P.cellsOf f.type) fs Rs total
  | _, _, _, _ => False
theorem opn_fields : ∀ (fs : List Field) (Rs : List (List AV → Prop)) (off total n : Nat) (cs : List Value) (xs : List (DataW H × List MemPlace)), OpnAll enc P w base sp held off fs Rs total → cs.length = total →
    (∀ (i : Nat) (f : Field), fs[i]? = some f → ∃ x, DataW.trod enc P w base sp held n f.type ((cs.drop f.offset).take (P.cellsOf f.type)) = some x) → off ≤ total → ∃ row, RowSim (cellsX w) row (cs.drop off) ∧ AllR Rs row
  | [], [], off, total, n, cs, xs, h, hl, hx, ho => by
    have : off = total := h
    subst this
    refine ⟨[], ⟨by simp [hl], fun j a y h => by simp at h⟩, rfl⟩
  | f :: fs, R :: Rs, off, total, n, cs, xs, h, hl, hx, ho => by
    obtain ⟨rfl, h1, h2⟩ := h
    obtain ⟨x, hx0⟩ := hx 0 f rfl
    obtain ⟨r, k1, k2⟩ := h1 _ _ _ hx0
    have hle : f.offset + P.cellsOf f.type ≤ total := by
      have : ∀ (fs : List Field) (Rs : List (List AV → Prop)) (off total : Nat), OpnAll enc P w base sp held off fs Rs total → off ≤ total := by
        intro fs
        induction fs with
        | nil => intro Rs off total h; cases Rs with
          | nil => exact Nat.le_of_eq h
          | cons _ _ => exact h.elim
        | cons g gs ih => intro Rs off total h; cases Rs with
          | nil => exact h.elim
          | cons R Rs => exact Nat.le_trans (Nat.le_add_right _ _) (ih _ _ _ h.2.2)
      exact this _ _ _ _ h2
    obtain ⟨r', m1, m2⟩ := opn_fields fs Rs _ total n cs xs h2 hl (fun i g hg => hx (i + 1) g (by simpa using hg)) hle
    refine ⟨r ++ r', ?_, r, r', rfl, k2, m2⟩
    have e : cs.drop f.offset = (cs.drop f.offset).take (P.cellsOf f.type) ++ cs.drop (f.offset + P.cellsOf f.type) := by
      rw [← List.drop_drop, List.take_append_drop]
    rw [e]
    exact k1.app m1
  | [], _ :: _, _, _, _, _, _, h, _, _, _ => h.elim
  | _ :: _, [], _, _, _, _, _, h, _, _, _ => h.elim
theorem opn_struct {t : TypeId} {fs : Array Field} {Rs : List (List AV → Prop)} (ht : P.underlying t = some (.struct fs)) (h : OpnAll enc P w base sp held 0 fs.toList Rs (P.cellsOf t)) : Opn enc P w base sp held t (AllR Rs) := fun fuel cs x hx => by
  obtain ⟨xs, n, _, _, h1, h2, h3⟩ := DataW.trod_struct ht hx
  exact opn_fields fs.toList Rs 0 (P.cellsOf t) n cs xs h h1 (fun i f hf => by
    rw [Array.getElem?_toList] at hf
    have := h3 i f hf
    have hi : i < xs.length := by rw [h2]; exact (Array.getElem?_eq_some_iff.1 hf).1
    rw [List.getElem?_eq_getElem hi] at this
    exact ⟨_, this⟩) (Nat.zero_le _)
/-- a slice of rows, as a list -/
theorem listOf {α : Type} {f : α → List AV} {Q : α → Prop} : ∀ {rows : List (List AV)}, (∀ r ∈ rows, ∃ a, Q a ∧ r = f a) → ∃ l : List α, (∀ a ∈ l, Q a) ∧ rows = l.map f
  | [], _ => ⟨[], fun a ha => (List.not_mem_nil ha).elim, rfl⟩
  | r :: rows, h => by
    obtain ⟨a, ha, rfl⟩ := h r (by simp)
    obtain ⟨l, hl, rfl⟩ := listOf (rows := rows) fun r hr => h r (List.mem_cons_of_mem _ hr)
    exact ⟨a :: l, fun b hb => by rcases List.mem_cons.1 hb with rfl | hb; exact ha; exact hl b hb, rfl⟩
/-- octets -/
theorem opn_bytes {t e : TypeId} (ht : P.underlying t = some (.slice e)) (he : P.underlying e = some (.int .u8)) (hc : P.cellsOf e = 1) : Opn enc P w base sp held t fun row => ∃ l : List UInt8, row = [.list (l.map brow) .free] ∧ l.length ≤ maxLen :=
  (opn_slice ht hc (by decide) (opn_int he)).mono fun row ⟨rows, h1, h2, h3⟩ => by
    obtain ⟨l, _, rfl⟩ := listOf (f := brow) (Q := fun _ => True) fun r hr => by
      obtain ⟨⟨n, rfl, h4, h5⟩, _⟩ := h3 r hr
      have h4' : 0 ≤ n := h4
      have h5' : n ≤ 255 := h5
      refine ⟨UInt8.ofNat n.toNat, trivial, ?_⟩
      unfold brow
      rw [UInt8.toNat_ofNat']
      congr 3
      omega
    exact ⟨l, h1, by simpa using h2⟩
/-- a value of one cell, as an argument -/
theorem Opn.arg {t : TypeId} {v : Value} {d : DataW H} {ps : List MemPlace} {R : List AV → Prop} (h : Opn enc P w base sp held t R) (hd : DataW.Trod enc P w base sp held t v d ps) (hv : v.cells = #[v]) : ∃ a, R [a] ∧ SimD (cellsX w) a v := by
  obtain ⟨fuel, hf⟩ := hd
  obtain ⟨row, h1, h2⟩ := h _ _ _ hf
  rw [hv] at h1
  have hl : row.length = 1 := h1.1
  obtain ⟨a, rfl⟩ := List.length_eq_one_iff.1 hl
  exact ⟨a, h2, (h1.2 0 a v rfl rfl).1⟩
end
end Go.Am
namespace Go.Am
section
variable {H : Type} {enc : TypeId × Value → H} {P : Program} {w : World} {base : Nat} {sp : Nat → Bool} {held : Bool}
/-- a struct, as an argument -/
theorem Opn.argS {t : TypeId} {cs : Array Value} {d : DataW H} {ps : List MemPlace} {R : List AV → Prop} (h : Opn enc P w base sp held t R) (hd : DataW.Trod enc P w base sp held t (.agg cs) d ps) : ∃ row, R row ∧ RowSim (cellsX w) row cs.toList := by
  obtain ⟨fuel, hf⟩ := hd
  obtain ⟨row, h1, h2⟩ := h _ _ _ hf
  exact ⟨row, h2, h1⟩
theorem RowSim.agg {G : Ghost} {row : List AV} {cs : Array Value} (h : RowSim G.X row cs.toList) : Sim G (.agg row) (.agg cs) :=
  .agg _ _ (by have := h.1; simpa using this) fun i a ha => by
    have hi : i < cs.size := by
      have := (List.getElem?_eq_some_iff.1 ha).1
      have h1 := h.1
      simp at h1; omega
    have : cs.getD i undef = cs[i] := by simp [hi]
    rw [this]
    exact .data _ _ (h.2 i a cs[i] ha (by simp [hi])).1
end
end Go.Am
namespace Go.Proofs.Ytjepgbpcpcahgaa
open Go.Am
set_option linter.unusedSimpArgs false
set_option linter.unusedVariables false
section
variable {H : Type} {enc : TypeId × Value → H} {w : World} {base : Nat} {sp : Nat → Bool} {held : Bool}
theorem opnBytes : Opn enc Try.prog w base sp held 50 fun row => ∃ l : List UInt8, row = [.list (l.map brow) .free] ∧ l.length ≤ maxLen := opn_bytes Try.underlying50 Try.underlying5 (by kernel_rfl)
def dvrow (tx : Bool) (n : Int) (x : Nat) (b : List UInt8) : List AV := [.v (.bool tx), .v (.int .i64 n), .v (.float .f64 x), .list (b.map brow) .free]
theorem opnV : Opn enc Try.prog w base sp held 56 fun row => ∃ tx n x b, ((-9223372036854775808 ≤ n ∧ n ≤ 9223372036854775807) ∧ x < 18446744073709551616) ∧ row = dvrow tx n x b :=
  (opn_struct Try.underlying56 (Rs := [fun row => ∃ b, row = [.v (.bool b)], fun row => ∃ n, row = [.v (.int .i64 n)] ∧ IntKind.i64.min ≤ n ∧ n ≤ IntKind.i64.max, fun row => ∃ b, row = [.v (.float .f64 b)] ∧ b < 18446744073709551616, fun row => ∃ l : List UInt8, row = [.list (l.map brow) .free] ∧ l.length ≤ maxLen])
    ⟨rfl, opn_bool Try.underlying4, by kernel_rfl, opn_int Try.underlying3, by kernel_rfl, opn_float Try.underlying51, by kernel_rfl, opnBytes, (show (_ : Nat) = _ by kernel_rfl)⟩).mono
    fun row hrow => by
      obtain ⟨_, _, e0, ⟨tx, rfl⟩, _, _, e1, ⟨n, rfl, h1, h2⟩, _, _, e2, ⟨x, rfl, hx⟩, _, _, e3, ⟨l, rfl, _⟩, e4⟩ := hrow
      refine ⟨tx, n, x, l, ⟨⟨h1, h2⟩, hx⟩, ?_⟩
      rw [e0, e1, e2, e3, e4]
      rfl
end
end Go.Proofs.Ytjepgbpcpcahgaa
namespace Go.Proofs.Ytjepgbpcpcahgaa
open Go.Am
set_option linter.unusedSimpArgs false
set_option linter.unusedVariables false
set_option maxRecDepth 100000
theorem ordV_can (v : Va) : ordV (canV v) v = 0 := by
  unfold ordV
  rw [canV_idem]
  exact ord0_refl _
theorem ordV_can2 {u v : Va} (h : u = canV v) : ordV u v = 0 := by rw [h]; exact ordV_can v
theorem putV_ge {x : Ve} {l : List Ve} {y : Ve} (hs : Vsort (x :: l)) (h : x.t ≤ y.t) : ∃ l', putV (x :: l) y = y :: l' := by
  have h0 : (x :: l).filter (fun z => decide (y.t < z.t)) = [] := by
    rw [List.filter_eq_nil_iff]
    intro z hz
    rcases List.mem_cons.1 hz with rfl | hz
    · simp; omega
    · have := (List.pairwise_cons.1 hs).1 z hz
      simp; omega
  refine ⟨((x :: l).filter (fun z => decide (z.t < y.t))).take 1, ?_⟩
  unfold putV insV
  rw [h0]
  rfl
theorem putV_lt {x : Ve} {l : List Ve} {y : Ve} (h : y.t < x.t) : ∃ l', putV (x :: l) y = x :: l' := by
  unfold putV insV
  rw [List.filter_cons_of_pos (by simpa using h)]
  exact ⟨_, rfl⟩
theorem atR_one {s : ByteArray} {x : Ve} {l : List Ve} {t : Int} (hF : Fine [⟨s, x :: l⟩]) : atR [⟨s, x :: l⟩] s t = atL (x :: l) t := by
  obtain ⟨a, b⟩ := hasN_one (s := s) (l := x :: l)
  unfold atR
  rw [hF.copy, a, b, if_pos rfl]
  rfl
theorem atL_hd {x : Ve} {l : List Ve} {t : Int} (h : x.t ≤ t) : atL (x :: l) t = some x.v := by
  unfold atL
  rw [List.find?_cons_of_pos (by simpa using h)]
  rfl
theorem fine_tm {s : ByteArray} {x : Ve} {l : List Ve} (hF : Fine [⟨s, x :: l⟩]) : tmOk x.t = true ∧ Vsort (x :: l) ∧ canV x.v = x.v := by
  have hc := hF.col _ (List.mem_singleton.2 rfl)
  unfold colB at hc
  simp only [Bool.and_eq_true] at hc
  obtain ⟨a, b, _⟩ := vers_to hc.2
  have hcan := can_col (hF.can _ (List.mem_singleton.2 rfl)) x (by simp)
  exact ⟨(a x (by simp)).1, b, congrArg Ve.v hcan⟩
def okV (v : Va) : Prop := v.b.length < 1073741824 ∧ v.n < 18446744073709551616 ∧ vRt v = true
theorem VOk.ok {v : Va} (h : VOk v) : okV v := by
  unfold okV vRt
  rcases h with ⟨h1, h2, h3⟩ | ⟨h1, h2, h3⟩
  · rw [h1, h2]; exact ⟨by omega, by decide, by simp; omega⟩
  · rw [h1, h2]; exact ⟨by decide, h3, by simp⟩
/-- a value as it is drawn -/
structure Dv where
  tx : Bool
  n : Int
  x : Nat
  b : List UInt8
def dvr (a : Dv) : List AV := dvrow a.tx a.n a.x a.b
def DvOk (a : Dv) : Prop := (-9223372036854775808 ≤ a.n ∧ a.n ≤ 9223372036854775807) ∧ a.x < 18446744073709551616
theorem dvmade_c (a : Dv) (h : DvOk a) : ACalls Try.prog 21 0 10 [.agg (dvr a)] [] (fun out H' => ∃ v, okV v ∧ out = .ret (vav v) ∧ H' = []) :=
  (vmade_c a.tx a.n a.x a.b h.1.1 h.1.2 h.2).mono fun out H' ⟨v, h1, h2, h3⟩ => ⟨v, h1.ok, h2, h3⟩
abbrev nmC : ByteArray := bsS [99]
def RnI (R : List Co) (top : Va) (at' : Int) : Prop := (R = [] ∧ at' = -1) ∨ ∃ x l, R = [⟨nmC, x :: l⟩] ∧ x.t = at' ∧ 0 ≤ at' ∧ at' < 20 ∧ x.v = canV top
def rnSt (vs : List Dv) (ts : List Int) (R : List Co) (top : Va) (at' : Int) (i : Nat) : ASt := ⟨([.list (vs.map dvr) .free, .list (ts.map fun t => [.v (.int .i64 t)]) .free, .dead, .dead, .dead, .ptr 0 0, .ptr 1 0, .v (.int .i64 at'), .v (.int .i64 i)] ++ List.replicate 104 .dead), [(0, .box [.list (R.map corow) .free]), (1, .box (vrowV top))], 2⟩
theorem dvex {l : List Dv} {i : Nat} {t : Dv} (h : l[i]? = some t) : 0 ≤ (i : Int) ∧ (l.map dvr)[(i : Int).toNat]? = some (dvr t) ∧ (dvr t).length = 4 := ⟨Int.natCast_nonneg _, by rw [Int.toNat_natCast, List.getElem?_map, h]; rfl, rfl⟩
theorem tsex {l : List Int} {i : Nat} {t : Int} (h : l[i]? = some t) : 0 ≤ (i : Int) ∧ (l.map fun t => [AV.v (.int .i64 t)])[(i : Int).toNat]? = some [AV.v (.int .i64 t)] ∧ [AV.v (.int .i64 t)].length = 1 := ⟨Int.natCast_nonneg _, by rw [Int.toNat_natCast, List.getElem?_map, h]; rfl, rfl⟩
set_option maxHeartbeats 6400000 in
theorem newest_rc (vs : List Dv) (ts : List Int) (hvs : ∀ a ∈ vs, DvOk a) (hl1 : vs.length ≤ 9223372036854775807) (hl2 : ts.length ≤ 9223372036854775807) (hts : ∀ t ∈ ts, -9223372036854775808 ≤ t ∧ t ≤ 9223372036854775807) : ACalls Try.prog 6 0 900000 [.list (vs.map dvr) .free, .list (ts.map fun t => [.v (.int .i64 t)]) .free] [] (fun out H' => out = .ret (.v (.bool true)) ∧ H' = []) := by
  have hk := known_rc
  refine no_implicit_lambda% (acalls_of tok dok (f := 6) ⟨Try.func6, rfl, by kernel_rfl⟩ ?_); refine no_implicit_lambda% (c_start (fun _ h => h) ?_)
  repeat' (first | (refine no_implicit_lambda% (awd1 ?_)) | (((with_reducible refine no_implicit_lambda% (is_aops ?_)); refine no_implicit_lambda% (o_split rfl rfl rfl (fun hc => ?_) (fun hc => ?_)) <;> first | exact decx hc | rw [hc])) | (((with_reducible refine no_implicit_lambda% (is_cond ?_)); refine no_implicit_lambda% (c_cond rfl (fun hc => ?_) (fun hc => ?_)) <;> first | exact decx hc | skip)) | (((with_reducible refine no_implicit_lambda% (is_aop ?_)); refine no_implicit_lambda% (a_pick rfl rfl (fun hc => ?_) (fun hc => ?_)) <;> first | exact decx hc | rw [hc])) | (refine no_implicit_lambda% (ans ?_)) | (with_reducible exact retN) | (with_reducible exact retP) | fail | fail)
  refine c_l4 (rnSt vs ts) (fun R top at' i => i ≤ vs.length ∧ i ≤ ts.length ∧ Fine R ∧ RowSz R ∧ top.n < 18446744073709551616 ∧ RnI R top at') (fun _ _ _ i => vs.length - i) [] ⟨0, [], 0⟩ (-1) 0 ⟨Nat.zero_le _, Nat.zero_le _, copy_fine [], fun c hc => (by cases hc), by decide, .inl ⟨rfl, rfl⟩⟩ ?_ ?_
  · (refine no_implicit_lambda% (Conv.toT ?_ ?_ (Nat.le_of_ble_eq_true rfl))); (focus ((unfold rnSt); (try dsimp only); exact wkl)); (focus ((unfold rnSt); (try dsimp only); exact wkh))
  · rintro R top at' i ⟨i1, i2, hF, hz, htn, hI⟩
    have h4 := hF.len
    have hr : R.length < 70368744177664 := by omega
    refine c_turn (n' := 2) (fun _ h => h) (fun _ h => h) rfl ?_
    have hdc := dropcol_c R nmC hr hz (dc_sz hz)
    have hde : dcR R nmC = [] := by
      unfold dcR
      rw [hF.copy]
      rcases hI with ⟨rfl, _⟩ | ⟨x, l, rfl, _⟩
      · rfl
      · obtain ⟨a, b⟩ := hasN_one (s := nmC) (l := x :: l)
        rw [a, b, if_pos rfl]; rfl
    rw [hde, show copyR [] = [] from rfl] at hdc
    have hnn : ACalls Try.prog 23 0 6000 [rowA [], .v (.string nmC)] [] (fun out H' => out = .ret (.tuple [vav ⟨0, [], 0⟩, .v (.bool false)]) ∧ H' = []) := newest_c [] nmC (by decide) (fun c hc => by cases hc)
    rcases hx : vs[i]? with _ | a
    · have hi : i = vs.length := by have := List.getElem?_eq_none_iff.1 hx; omega
      repeat' (first | (refine no_implicit_lambda% (awd1 ?_)) | (((with_reducible refine no_implicit_lambda% (is_aops ?_)); refine no_implicit_lambda% (o_split rfl rfl rfl (fun hc => ?_) (fun hc => ?_)) <;> first | exact decx hc | rw [hc])) | (((with_reducible refine no_implicit_lambda% (is_cond ?_)); refine no_implicit_lambda% (c_cond rfl (fun hc => ?_) (fun hc => ?_)) <;> first | exact decx hc | skip)) | (((with_reducible refine no_implicit_lambda% (is_aop ?_)); refine no_implicit_lambda% (a_pick rfl rfl (fun hc => ?_) (fun hc => ?_)) <;> first | exact decx hc | rw [hc])) | (refine no_implicit_lambda% (ans ?_)) | (with_reducible exact retN) | (with_reducible exact retP) | (refine no_implicit_lambda% (cal [] (hdc) ?_ ?_)) | (refine no_implicit_lambda% (cal [] (hnn) ?_ ?_)) | (refine no_implicit_lambda% (cal [] (hk) ?_ ?_)) | fail)
      exact e_ret (H' := []) (rest := _) rfl ⟨rfl, rfl⟩ permT (Nat.le_of_ble_eq_true rfl)
    · rcases hy : ts[i]? with _ | t0
      · have hi : i = ts.length := by have := List.getElem?_eq_none_iff.1 hy; omega
        have hi2 : i < vs.length := (List.getElem?_eq_some_iff.1 hx).1
        repeat' (first | (refine no_implicit_lambda% (awd1 ?_)) | (((with_reducible refine no_implicit_lambda% (is_aops ?_)); refine no_implicit_lambda% (o_split rfl rfl rfl (fun hc => ?_) (fun hc => ?_)) <;> first | exact decx hc | rw [hc])) | (((with_reducible refine no_implicit_lambda% (is_cond ?_)); refine no_implicit_lambda% (c_cond rfl (fun hc => ?_) (fun hc => ?_)) <;> first | exact decx hc | skip)) | (((with_reducible refine no_implicit_lambda% (is_aop ?_)); refine no_implicit_lambda% (a_pick rfl rfl (fun hc => ?_) (fun hc => ?_)) <;> first | exact decx hc | rw [hc])) | (refine no_implicit_lambda% (ans ?_)) | (with_reducible exact retN) | (with_reducible exact retP) | (refine no_implicit_lambda% (cal [] (hdc) ?_ ?_)) | (refine no_implicit_lambda% (cal [] (hnn) ?_ ?_)) | (refine no_implicit_lambda% (cal [] (hk) ?_ ?_)) | fail)
        exact e_ret (H' := []) (rest := _) rfl ⟨rfl, rfl⟩ permT (Nat.le_of_ble_eq_true rfl)
      · have hi2 : i < vs.length := (List.getElem?_eq_some_iff.1 hx).1
        have hi3 : i < ts.length := (List.getElem?_eq_some_iff.1 hy).1
        have hix := dvex hx
        have hiy := tsex hy
        have ha := hvs a (List.mem_of_getElem? hx)
        have ht := hts t0 (List.mem_of_getElem? hy)
        have htm : IntKind.i64.wrap (t0.tmod 20 + 20) = t0.tmod 20 + 20 := by
          have h1 := Int.tmod_lt_of_pos t0 (show (0 : Int) < 20 by decide)
          have h2 := Int.lt_tmod_of_pos t0 (show (0 : Int) < 20 by decide)
          rw [z64 (by omega) (by omega)]
        have htb : 0 ≤ (t0.tmod 20 + 20).tmod 20 ∧ (t0.tmod 20 + 20).tmod 20 < 20 := by
          have h2 := Int.lt_tmod_of_pos t0 (show (0 : Int) < 20 by decide)
          exact ⟨Int.tmod_nonneg _ (by omega), Int.tmod_lt_of_pos _ (by decide)⟩
        repeat' (first | (refine no_implicit_lambda% (awd1 ?_)) | (((with_reducible refine no_implicit_lambda% (is_aops ?_)); refine no_implicit_lambda% (o_split rfl rfl rfl (fun hc => ?_) (fun hc => ?_)) <;> first | exact decx hc | rw [hc])) | (((with_reducible refine no_implicit_lambda% (is_cond ?_)); refine no_implicit_lambda% (c_cond rfl (fun hc => ?_) (fun hc => ?_)) <;> first | exact decx hc | skip)) | (((with_reducible refine no_implicit_lambda% (is_aop ?_)); refine no_implicit_lambda% (a_pick rfl rfl (fun hc => ?_) (fun hc => ?_)) <;> first | exact decx hc | rw [hc])) | (refine no_implicit_lambda% (ans ?_)) | (with_reducible exact retN) | (with_reducible exact retP) | fail | fail)
        · rw [htm]
          generalize (t0.tmod 20 + 20).tmod 20 = t at *
          (refine no_implicit_lambda% (cal [] (dvmade_c a ha) ?_ ?_))
          · intro xx H' hh
            obtain ⟨v, hv, h', rfl⟩ := hh
            cases h'
            first | (refine no_implicit_lambda% (akc ?_)) | (refine no_implicit_lambda% (aec ?_))
            have hput := put_c R nmC t v hr hz ⟨hv.1, hv.2.1⟩
            have hpf := putR_fine R nmC t v
            have hpz := putR_sz (s := nmC) (t := t) hz ⟨hv.1, hv.2.1⟩
            have htk : tmOk t = true := decide_eq_true (by omega)
            have hnm : nmB nmC = true := by decide
            -- what is laid, and what is the newest then
            obtain ⟨y, l', top2, hq, hyt, hyv, htop, hcs⟩ : ∃ (y : Ve) (l' : List Ve) (top2 : Va), putR R nmC t v = (0, [⟨nmC, y :: l'⟩]) ∧ (0 ≤ y.t ∧ y.t < 20) ∧ y.v = canV top2 ∧ top2.n < 18446744073709551616 ∧ ((at' ≤ t ∧ y.t = t ∧ top2 = v) ∨ (t < at' ∧ y.t = at' ∧ top2 = top)) := by
              rcases hI with ⟨rfl, rfl⟩ | ⟨x, l, rfl, hxt, h0, h20, hxv⟩
              · exact ⟨⟨t, canV v⟩, [], v, put_new hnm htk hv.2.2, htb, rfl, hv.2.1, .inl ⟨by omega, rfl, rfl⟩⟩
              · obtain ⟨_, hso, _⟩ := fine_tm hF
                rw [put_one hF hnm htk hv.2.2]
                rcases Int.lt_or_le t x.t with hlt | hge
                · obtain ⟨l', e⟩ := putV_lt (l := l) (y := ⟨t, canV v⟩) hlt
                  exact ⟨x, l', top, by rw [e], by omega, hxv, htn, .inr ⟨by omega, hxt, rfl⟩⟩
                · obtain ⟨l', e⟩ := putV_ge (y := ⟨t, canV v⟩) hso hge
                  exact ⟨⟨t, canV v⟩, l', v, by rw [e], htb, rfl, hv.2.1, .inl ⟨by omega, rfl, rfl⟩⟩
            rw [hq] at hput hpf hpz
            have hr2 : ([⟨nmC, y :: l'⟩] : List Co).length < 70368744177664 := by simp
            have hi0 : 0 ≤ (0 : Int) ∧ (([⟨nmC, y :: l'⟩] : List Co).map corow)[(0 : Int).toNat]? = some (corow ⟨nmC, y :: l'⟩) ∧ (corow ⟨nmC, y :: l'⟩).length = 2 := ⟨Int.le_refl _, rfl, rfl⟩
            have hnw := newest_c _ nmC hr2 hpz
            have hna : atR [⟨nmC, y :: l'⟩] nmC 1099511627776 = some y.v := by rw [atR_one hpf]; exact atL_hd (by omega)
            rw [hna] at hnw
            have hyn : y.v.n < 18446744073709551616 := (hpz _ (List.mem_singleton.2 rfl) y (by simp)).2
            have hsm := refSame_c y.v top2 hyn htop
            rw [ordV_can2 hyv] at hsm
            have hrt := (right_c _ hr2).top0
            rw [hpf.row] at hrt
            have hcl := (col_len (hpf.col _ (List.mem_singleton.2 rfl))).2
            unfold PutRR at hput
            dsimp only at hput hpf hpz
            unfold optA at hnw
            rcases hcs with ⟨hge, hyt2, rfl⟩ | ⟨hlt, hyt2, rfl⟩
            · repeat' (first | (refine no_implicit_lambda% (awd1 ?_)) | (((with_reducible refine no_implicit_lambda% (is_aops ?_)); refine no_implicit_lambda% (o_split rfl rfl rfl (fun hc => ?_) (fun hc => ?_)) <;> first | exact decx hc | rw [hc])) | (((with_reducible refine no_implicit_lambda% (is_cond ?_)); refine no_implicit_lambda% (c_cond rfl (fun hc => ?_) (fun hc => ?_)) <;> first | exact decx hc | skip)) | (((with_reducible refine no_implicit_lambda% (is_aop ?_)); refine no_implicit_lambda% (a_pick rfl rfl (fun hc => ?_) (fun hc => ?_)) <;> first | exact decx hc | rw [hc])) | (refine no_implicit_lambda% (ans ?_)) | (with_reducible exact retN) | (with_reducible exact retP) | (refine no_implicit_lambda% (cal [] (hput) ?_ ?_)) | (refine no_implicit_lambda% (cal [] (hnw) ?_ ?_)) | (refine no_implicit_lambda% (cal [] (hsm) ?_ ?_)) | (refine no_implicit_lambda% (cal [] (hrt) ?_ ?_)) | fail)
              · exfalso
                have := of_decide_eq_true hc
                simp at this hcl
                omega
              · (refine no_implicit_lambda% (k_loopLT ((([⟨nmC, y :: l'⟩], top2, t, i + 1) : List Co × Va × Int × Nat)) 0 [0, 1] (by show i + 1 ≤ vs.length ∧ i + 1 ≤ ts.length ∧ Fine [⟨nmC, y :: l'⟩] ∧ RowSz [⟨nmC, y :: l'⟩] ∧ top2.n < 18446744073709551616 ∧ RnI [⟨nmC, y :: l'⟩] top2 t; exact ⟨hi2, hi3, hpf, hpz, htop, .inr ⟨y, l', rfl, hyt2, by omega, by omega, hyv⟩⟩) (by first | omega | (simp; done) | (simp; omega)) (Nat.le_of_ble_eq_true rfl) (fun _ h => h) (fun _ h => h) ?_ ?_)); (focus ((try dsimp only); exact wkl)); (focus ((try dsimp only); exact wkh))
            · repeat' (first | (refine no_implicit_lambda% (awd1 ?_)) | (((with_reducible refine no_implicit_lambda% (is_aops ?_)); refine no_implicit_lambda% (o_split rfl rfl rfl (fun hc => ?_) (fun hc => ?_)) <;> first | exact decx hc | rw [hc])) | (((with_reducible refine no_implicit_lambda% (is_cond ?_)); refine no_implicit_lambda% (c_cond rfl (fun hc => ?_) (fun hc => ?_)) <;> first | exact decx hc | skip)) | (((with_reducible refine no_implicit_lambda% (is_aop ?_)); refine no_implicit_lambda% (a_pick rfl rfl (fun hc => ?_) (fun hc => ?_)) <;> first | exact decx hc | rw [hc])) | (refine no_implicit_lambda% (ans ?_)) | (with_reducible exact retN) | (with_reducible exact retP) | (refine no_implicit_lambda% (cal [] (hput) ?_ ?_)) | (refine no_implicit_lambda% (cal [] (hnw) ?_ ?_)) | (refine no_implicit_lambda% (cal [] (hsm) ?_ ?_)) | (refine no_implicit_lambda% (cal [] (hrt) ?_ ?_)) | fail)
              · exfalso
                have := of_decide_eq_true hc
                simp at this hcl
                omega
              · (refine no_implicit_lambda% (k_loopLT ((([⟨nmC, y :: l'⟩], top2, at', i + 1) : List Co × Va × Int × Nat)) 0 [0, 1] (by show i + 1 ≤ vs.length ∧ i + 1 ≤ ts.length ∧ Fine [⟨nmC, y :: l'⟩] ∧ RowSz [⟨nmC, y :: l'⟩] ∧ top2.n < 18446744073709551616 ∧ RnI [⟨nmC, y :: l'⟩] top2 at'; exact ⟨hi2, hi3, hpf, hpz, htop, .inr ⟨y, l', rfl, hyt2, by omega, by omega, hyv⟩⟩) (by first | omega | (simp; done) | (simp; omega)) (Nat.le_of_ble_eq_true rfl) (fun _ h => h) (fun _ h => h) ?_ ?_)); (focus ((try dsimp only); exact wkl)); (focus ((try dsimp only); exact wkh))
          · intro xx H' hh
            obtain ⟨_, _, h', _⟩ := hh
            cases h'
        · repeat' (first | (refine no_implicit_lambda% (awd1 ?_)) | (((with_reducible refine no_implicit_lambda% (is_aops ?_)); refine no_implicit_lambda% (o_split rfl rfl rfl (fun hc => ?_) (fun hc => ?_)) <;> first | exact decx hc | rw [hc])) | (((with_reducible refine no_implicit_lambda% (is_cond ?_)); refine no_implicit_lambda% (c_cond rfl (fun hc => ?_) (fun hc => ?_)) <;> first | exact decx hc | skip)) | (((with_reducible refine no_implicit_lambda% (is_aop ?_)); refine no_implicit_lambda% (a_pick rfl rfl (fun hc => ?_) (fun hc => ?_)) <;> first | exact decx hc | rw [hc])) | (refine no_implicit_lambda% (ans ?_)) | (with_reducible exact retN) | (with_reducible exact retP) | (refine no_implicit_lambda% (cal [] (hdc) ?_ ?_)) | (refine no_implicit_lambda% (cal [] (hnn) ?_ ?_)) | (refine no_implicit_lambda% (cal [] (hk) ?_ ?_)) | fail)
          exact e_ret (H' := []) (rest := _) rfl ⟨rfl, rfl⟩ permT (Nat.le_of_ble_eq_true rfl)
/-- two versions -/
theorem putV_two {x y : Int} {p q : Va} (h : x < y) : putV [⟨y, q⟩] ⟨x, p⟩ = [⟨y, q⟩, ⟨x, p⟩] := by
  unfold putV insV
  rw [List.filter_cons_of_pos (by simpa using h)]
  simp
theorem atL_two {x y t : Int} {p q : Va} (h : x < y) : atL [⟨y, q⟩, ⟨x, p⟩] t = if t < x then none else if t < y then some p else some q := by
  unfold atL
  simp only [List.find?_cons, List.find?_nil]
  rcases Int.lt_or_le t x with h1 | h1
  · have h2 : ¬ y ≤ t := by omega
    have h3 : ¬ x ≤ t := by omega
    simp [h1, h2, h3]
  · rcases Int.lt_or_le t y with h2 | h2
    · have h3 : ¬ y ≤ t := by omega
      have h4 : ¬ t < x := by omega
      simp [h1, h2, h3, h4]
    · have h4 : ¬ t < x := by omega
      have h5 : ¬ t < y := by omega
      simp [h2, h4, h5]
def rmSt (R : List Co) (p q : Va) (x y : Int) (i : Nat) : ASt := ⟨(List.replicate 9 .dead ++ [.v (.int .i64 x), .v (.int .i64 y), .ptr 2 0, .ptr 3 0, .ptr 9024 0, .dead, .dead, .v (.int .i64 i)] ++ List.replicate 88 .dead), [(2, .box (vrowV p)), (3, .box (vrowV q)), (9024, .box [.list (R.map corow) .free])], 90000⟩
set_option maxHeartbeats 6400000 in
theorem times_rc (a b : Dv) (s t : Int) (ha : DvOk a) (hb : DvOk b) (hs : -9223372036854775808 ≤ s ∧ s ≤ 9223372036854775807) (ht : -9223372036854775808 ≤ t ∧ t ≤ 9223372036854775807) : ACalls Try.prog 8 0 900000 [.agg (dvr a), .agg (dvr b), .v (.int .i64 s), .v (.int .i64 t)] [] (fun out H' => out = .ret (.v (.bool true)) ∧ H' = []) := by
  have hk := known_rc
  have hm : ∀ u : Int, IntKind.i64.wrap (u.tmod 20 + 20) = u.tmod 20 + 20 ∧ 0 ≤ (u.tmod 20 + 20).tmod 20 ∧ (u.tmod 20 + 20).tmod 20 < 20 := fun u => by
    have h1 := Int.tmod_lt_of_pos u (show (0 : Int) < 20 by decide)
    have h2 := Int.lt_tmod_of_pos u (show (0 : Int) < 20 by decide)
    exact ⟨z64 (by omega) (by omega), Int.tmod_nonneg _ (by omega), Int.tmod_lt_of_pos _ (by decide)⟩
  obtain ⟨x, hx⟩ : ∃ x, x = (s.tmod 20 + 20).tmod 20 := ⟨_, rfl⟩
  obtain ⟨y0, hy0⟩ : ∃ y0, y0 = (t.tmod 20 + 20).tmod 20 := ⟨_, rfl⟩
  have hxb := (hm s).2
  have hyb := (hm t).2
  rw [← hx] at hxb
  rw [← hy0] at hyb
  have hyw : IntKind.i64.wrap (y0 + 21) = y0 + 21 := z64 (by omega) (by omega)
  refine no_implicit_lambda% (acalls_of tok dok (f := 8) ⟨Try.func8, rfl, by kernel_rfl⟩ ?_); refine no_implicit_lambda% (c_start (fun _ h => h) ?_)
  repeat' (first | (refine no_implicit_lambda% (awd1 ?_)) | (((with_reducible refine no_implicit_lambda% (is_aops ?_)); refine no_implicit_lambda% (o_split rfl rfl rfl (fun hc => ?_) (fun hc => ?_)) <;> first | exact decx hc | rw [hc])) | (((with_reducible refine no_implicit_lambda% (is_cond ?_)); refine no_implicit_lambda% (c_cond rfl (fun hc => ?_) (fun hc => ?_)) <;> first | exact decx hc | skip)) | (((with_reducible refine no_implicit_lambda% (is_aop ?_)); refine no_implicit_lambda% (a_pick rfl rfl (fun hc => ?_) (fun hc => ?_)) <;> first | exact decx hc | rw [hc])) | (refine no_implicit_lambda% (ans ?_)) | (with_reducible exact retN) | (with_reducible exact retP) | fail | fail)
  rw [(hm s).1, (hm t).1, ← hx, ← hy0, hyw]
  obtain ⟨y, hy⟩ : ∃ y, y = y0 + 21 := ⟨_, rfl⟩
  rw [← hy]
  have hxy : x < y := by omega
  (refine no_implicit_lambda% (cal [] (dvmade_c a ha) ?_ ?_))
  · intro xx H' hh
    obtain ⟨p, hp, h', rfl⟩ := hh
    cases h'
    first | (refine no_implicit_lambda% (akc ?_)) | (refine no_implicit_lambda% (aec ?_))
    repeat' (first | (refine no_implicit_lambda% (awd1 ?_)) | (((with_reducible refine no_implicit_lambda% (is_aops ?_)); refine no_implicit_lambda% (o_split rfl rfl rfl (fun hc => ?_) (fun hc => ?_)) <;> first | exact decx hc | rw [hc])) | (((with_reducible refine no_implicit_lambda% (is_cond ?_)); refine no_implicit_lambda% (c_cond rfl (fun hc => ?_) (fun hc => ?_)) <;> first | exact decx hc | skip)) | (((with_reducible refine no_implicit_lambda% (is_aop ?_)); refine no_implicit_lambda% (a_pick rfl rfl (fun hc => ?_) (fun hc => ?_)) <;> first | exact decx hc | rw [hc])) | (refine no_implicit_lambda% (ans ?_)) | (with_reducible exact retN) | (with_reducible exact retP) | fail | fail)
    (refine no_implicit_lambda% (cal [] (dvmade_c b hb) ?_ ?_))
    · intro xx H' hh
      obtain ⟨q, hq, h', rfl⟩ := hh
      cases h'
      first | (refine no_implicit_lambda% (akc ?_)) | (refine no_implicit_lambda% (aec ?_))
      repeat' (first | (refine no_implicit_lambda% (awd1 ?_)) | (((with_reducible refine no_implicit_lambda% (is_aops ?_)); refine no_implicit_lambda% (o_split rfl rfl rfl (fun hc => ?_) (fun hc => ?_)) <;> first | exact decx hc | rw [hc])) | (((with_reducible refine no_implicit_lambda% (is_cond ?_)); refine no_implicit_lambda% (c_cond rfl (fun hc => ?_) (fun hc => ?_)) <;> first | exact decx hc | skip)) | (((with_reducible refine no_implicit_lambda% (is_aop ?_)); refine no_implicit_lambda% (a_pick rfl rfl (fun hc => ?_) (fun hc => ?_)) <;> first | exact decx hc | rw [hc])) | (refine no_implicit_lambda% (ans ?_)) | (with_reducible exact retN) | (with_reducible exact retP) | fail | fail)
      have htx : tmOk x = true := decide_eq_true (by omega)
      have hty : tmOk y = true := decide_eq_true (by omega)
      have hnm : nmB nmC = true := by decide
      have z0 : RowSz [] := fun c hc => by cases hc
      have p1 := put_c [] nmC y q (by decide) z0 ⟨hq.1, hq.2.1⟩
      have s1 := putR_sz (r := []) (s := nmC) (t := y) (v := q) z0 ⟨hq.1, hq.2.1⟩
      have f1 := putR_fine [] nmC y q
      rw [put_new hnm hty hq.2.2] at p1 s1 f1
      have p2 := put_c _ nmC x p (by simp) s1 ⟨hp.1, hp.2.1⟩
      have s2 := putR_sz (s := nmC) (t := x) (v := p) s1 ⟨hp.1, hp.2.1⟩
      have f2 := putR_fine [⟨nmC, [⟨y, canV q⟩]⟩] nmC x p
      rw [put_one f1 hnm htx hp.2.2] at p2 s2 f2
      simp only [putV_two hxy] at p2 s2 f2
      dsimp only at p1 p2 s1 s2 f2
      unfold PutRR at p1 p2
      (refine no_implicit_lambda% (calw [] (p1) ?_ ?_))
      · refine no_implicit_lambda% (ret1 ?_); first | (refine no_implicit_lambda% (akc ?_)) | (refine no_implicit_lambda% (aec ?_))
        repeat' (first | (refine no_implicit_lambda% (awd1 ?_)) | (((with_reducible refine no_implicit_lambda% (is_aops ?_)); refine no_implicit_lambda% (o_split rfl rfl rfl (fun hc => ?_) (fun hc => ?_)) <;> first | exact decx hc | rw [hc])) | (((with_reducible refine no_implicit_lambda% (is_cond ?_)); refine no_implicit_lambda% (c_cond rfl (fun hc => ?_) (fun hc => ?_)) <;> first | exact decx hc | skip)) | (((with_reducible refine no_implicit_lambda% (is_aop ?_)); refine no_implicit_lambda% (a_pick rfl rfl (fun hc => ?_) (fun hc => ?_)) <;> first | exact decx hc | rw [hc])) | (refine no_implicit_lambda% (ans ?_)) | (with_reducible exact retN) | (with_reducible exact retP) | (refine no_implicit_lambda% (cal [] (p2) ?_ ?_)) | fail)
        obtain ⟨R, hR⟩ : ∃ R : List Co, R = [⟨nmC, [⟨y, canV q⟩, ⟨x, canV p⟩]⟩] := ⟨_, rfl⟩
        have hr2 : R.length < 70368744177664 := by rw [hR]; simp
        have hpn := canV_sz hp.1 hp.2.1
        have hqn := canV_sz hq.1 hq.2.1
        have hsp := refSame_c (canV p) p hpn.2 hp.2.1
        have hsq := refSame_c (canV q) q hqn.2 hq.2.1
        rw [ordV_can] at hsp hsq
        have hdp := drop_c R nmC y hr2 (by rw [hR]; exact s2)
        have hde : dropR R nmC y = [⟨nmC, [⟨x, canV p⟩]⟩] := by
          obtain ⟨a1, b1⟩ := hasN_one (s := nmC) (l := [⟨y, canV q⟩, ⟨x, canV p⟩])
          unfold dropR dropA
          rw [hR, f2.copy, a1, b1, if_pos rfl]
          have e : dropV [⟨y, canV q⟩, ⟨x, canV p⟩] y = [⟨x, canV p⟩] := by
            unfold dropV
            rw [List.filter_cons_of_neg (by simp), List.filter_cons_of_pos (by simp; omega)]
            rfl
          show (if dropV [⟨y, canV q⟩, ⟨x, canV p⟩] y = [] then _ else _) = _
          rw [e, if_neg (by simp)]
          rfl
        have f3 := dropA_fine (copy_fine R) nmC y
        have hsr : RowSz R := by rw [hR]; exact s2
        have s3 := dropA_sz (copy_sz hsr) nmC y
        have e3 : dropA (copyR R) nmC y = [⟨nmC, [⟨x, canV p⟩]⟩] := hde
        rw [e3] at f3 s3
        rw [hde] at hdp
        have hnw := newest_c _ nmC (by simp) s3
        rw [atR_one f3, atL_hd (by show x ≤ _; omega)] at hnw
        unfold optA at hnw
        have hfr : Fine R := by rw [hR]; exact f2
        have hsr : RowSz R := by rw [hR]; exact s2
        have hat : ∀ u, atR R nmC u = if u < x then none else if u < y then some (canV p) else some (canV q) := fun u => by
          rw [hR, atR_one f2, atL_two hxy]
        refine c_loop' (rmSt R p q x y) (fun i => i ≤ 45) (fun i => 45 - i) (a := 0) (Nat.zero_le _) ?_ ?_
        · rw [← hR]
          (refine no_implicit_lambda% (Conv.toT ?_ ?_ (Nat.le_of_ble_eq_true rfl))); (focus ((unfold rmSt); (try dsimp only); exact wkl)); (focus ((unfold rmSt); (try dsimp only); exact wkh))
        · intro i i1
          refine c_turn (n' := 90000) (fun _ h => h) (fun _ h => h) rfl ?_
          have hai := at_c R nmC i hr2 hsr
          rw [hat] at hai
          rcases Nat.lt_or_ge i 45 with hi | hi
          · rcases Int.lt_or_le (i : Int) x with h1 | h1
            · rw [if_pos h1] at hai
              unfold optA at hai
              repeat' (first | (refine no_implicit_lambda% (awd1 ?_)) | (((with_reducible refine no_implicit_lambda% (is_aops ?_)); refine no_implicit_lambda% (o_split rfl rfl rfl (fun hc => ?_) (fun hc => ?_)) <;> first | exact decx hc | rw [hc])) | (((with_reducible refine no_implicit_lambda% (is_cond ?_)); refine no_implicit_lambda% (c_cond rfl (fun hc => ?_) (fun hc => ?_)) <;> first | exact decx hc | skip)) | (((with_reducible refine no_implicit_lambda% (is_aop ?_)); refine no_implicit_lambda% (a_pick rfl rfl (fun hc => ?_) (fun hc => ?_)) <;> first | exact decx hc | rw [hc])) | (refine no_implicit_lambda% (ans ?_)) | (with_reducible exact retN) | (with_reducible exact retP) | (refine no_implicit_lambda% (cal [] (hai) ?_ ?_)) | fail)
              (refine no_implicit_lambda% (k_loopT (i + 1) (by show i + 1 ≤ 45; omega) (by first | omega | (simp; done) | (simp; omega)) ?_ ?_)); (focus ((unfold rmSt); (try dsimp only); exact wkl)); (focus ((unfold rmSt); (try dsimp only); exact wkh))
            · rw [if_neg (by omega)] at hai
              rcases Int.lt_or_le (i : Int) y with h2 | h2
              · rw [if_pos h2] at hai
                unfold optA at hai
                repeat' (first | (refine no_implicit_lambda% (awd1 ?_)) | (((with_reducible refine no_implicit_lambda% (is_aops ?_)); refine no_implicit_lambda% (o_split rfl rfl rfl (fun hc => ?_) (fun hc => ?_)) <;> first | exact decx hc | rw [hc])) | (((with_reducible refine no_implicit_lambda% (is_cond ?_)); refine no_implicit_lambda% (c_cond rfl (fun hc => ?_) (fun hc => ?_)) <;> first | exact decx hc | skip)) | (((with_reducible refine no_implicit_lambda% (is_aop ?_)); refine no_implicit_lambda% (a_pick rfl rfl (fun hc => ?_) (fun hc => ?_)) <;> first | exact decx hc | rw [hc])) | (refine no_implicit_lambda% (ans ?_)) | (with_reducible exact retN) | (with_reducible exact retP) | (refine no_implicit_lambda% (cal [] (hai) ?_ ?_)) | (refine no_implicit_lambda% (cal [] (hsp) ?_ ?_)) | fail)
                (refine no_implicit_lambda% (k_loopT (i + 1) (by show i + 1 ≤ 45; omega) (by first | omega | (simp; done) | (simp; omega)) ?_ ?_)); (focus ((unfold rmSt); (try dsimp only); exact wkl)); (focus ((unfold rmSt); (try dsimp only); exact wkh))
              · rw [if_neg (by omega)] at hai
                unfold optA at hai
                repeat' (first | (refine no_implicit_lambda% (awd1 ?_)) | (((with_reducible refine no_implicit_lambda% (is_aops ?_)); refine no_implicit_lambda% (o_split rfl rfl rfl (fun hc => ?_) (fun hc => ?_)) <;> first | exact decx hc | rw [hc])) | (((with_reducible refine no_implicit_lambda% (is_cond ?_)); refine no_implicit_lambda% (c_cond rfl (fun hc => ?_) (fun hc => ?_)) <;> first | exact decx hc | skip)) | (((with_reducible refine no_implicit_lambda% (is_aop ?_)); refine no_implicit_lambda% (a_pick rfl rfl (fun hc => ?_) (fun hc => ?_)) <;> first | exact decx hc | rw [hc])) | (refine no_implicit_lambda% (ans ?_)) | (with_reducible exact retN) | (with_reducible exact retP) | (refine no_implicit_lambda% (cal [] (hai) ?_ ?_)) | (refine no_implicit_lambda% (cal [] (hsq) ?_ ?_)) | fail)
                (refine no_implicit_lambda% (k_loopT (i + 1) (by show i + 1 ≤ 45; omega) (by first | omega | (simp; done) | (simp; omega)) ?_ ?_)); (focus ((unfold rmSt); (try dsimp only); exact wkl)); (focus ((unfold rmSt); (try dsimp only); exact wkh))
          · repeat' (first | (refine no_implicit_lambda% (awd1 ?_)) | (((with_reducible refine no_implicit_lambda% (is_aops ?_)); refine no_implicit_lambda% (o_split rfl rfl rfl (fun hc => ?_) (fun hc => ?_)) <;> first | exact decx hc | rw [hc])) | (((with_reducible refine no_implicit_lambda% (is_cond ?_)); refine no_implicit_lambda% (c_cond rfl (fun hc => ?_) (fun hc => ?_)) <;> first | exact decx hc | skip)) | (((with_reducible refine no_implicit_lambda% (is_aop ?_)); refine no_implicit_lambda% (a_pick rfl rfl (fun hc => ?_) (fun hc => ?_)) <;> first | exact decx hc | rw [hc])) | (refine no_implicit_lambda% (ans ?_)) | (with_reducible exact retN) | (with_reducible exact retP) | (refine no_implicit_lambda% (cal [] (hdp) ?_ ?_)) | (refine no_implicit_lambda% (cal [] (hnw) ?_ ?_)) | (refine no_implicit_lambda% (cal [] (hsp) ?_ ?_)) | (refine no_implicit_lambda% (cal [] (hk) ?_ ?_)) | fail)
            exact e_ret (H' := []) (rest := _) rfl ⟨rfl, rfl⟩ permT (Nat.le_of_ble_eq_true rfl)
      · first | (exact retN) | (exact retP)
    · intro xx H' hh
      obtain ⟨_, _, h', _⟩ := hh
      cases h'
  · intro xx H' hh
    obtain ⟨_, _, h', _⟩ := hh
    cases h'
end Go.Proofs.Ytjepgbpcpcahgaa
namespace Go.Proofs.Ytjepgbpcpcahgaa
open Go.Am
set_option linter.unusedSimpArgs false
set_option linter.unusedVariables false
section
variable {H : Type} {enc : TypeId × Value → H} {w : World} {base : Nat} {sp : Nat → Bool} {held : Bool}
theorem opnRk : Opn enc Try.prog w base sp held 117 fun row => ∃ a : Rk, RkOk a ∧ row = rkrow a :=
  (opn_struct Try.underlying117 (Rs := [fun row => ∃ n, row = [.v (.int .i64 n)] ∧ IntKind.i64.min ≤ n ∧ n ≤ IntKind.i64.max, fun row => ∃ n, row = [.v (.int .i64 n)] ∧ IntKind.i64.min ≤ n ∧ n ≤ IntKind.i64.max, fun row => ∃ s : ByteArray, row = [.v (.string s)] ∧ s.size ≤ maxLen, fun row => ∃ n, row = [.v (.int .i64 n)] ∧ IntKind.i64.min ≤ n ∧ n ≤ IntKind.i64.max, fun row => ∃ tx n x b, ((-9223372036854775808 ≤ n ∧ n ≤ 9223372036854775807) ∧ x < 18446744073709551616) ∧ row = dvrow tx n x b])
    ⟨rfl, opn_int Try.underlying3, by kernel_rfl, opn_int Try.underlying3, by kernel_rfl, opn_string Try.underlying9, by kernel_rfl, opn_int Try.underlying2, by kernel_rfl, opnV, (show (_ : Nat) = _ by kernel_rfl)⟩).mono
    fun row hrow => by
      obtain ⟨_, _, e0, ⟨k, rfl, k1, k2⟩, _, _, e1, ⟨c, rfl, c1, c2⟩, _, _, e2, ⟨s, rfl, _⟩, _, _, e3, ⟨t, rfl, t1, t2⟩, _, _, e4, ⟨tx, n, x, b, ⟨n1, x1⟩, rfl⟩, e5⟩ := hrow
      refine ⟨⟨k, c, s, t, tx, n, x, b⟩, ⟨⟨c1, c2⟩, ⟨t1, t2⟩, n1, x1⟩, ?_⟩
      rw [e0, e1, e2, e3, e4, e5]
      simp [rkrow, dvrow]
theorem opnRks : Opn enc Try.prog w base sp held 65 fun row => ∃ l : List Rk, (∀ a ∈ l, RkOk a) ∧ l.length ≤ 9223372036854775807 ∧ row = [.list (l.map rkrow) .free] :=
  (opn_slice Try.underlying65 (by kernel_rfl : Try.prog.cellsOf 117 = 8) (by decide) opnRk).mono fun row ⟨rows, h1, h2, h3⟩ => by
    obtain ⟨l, hl, rfl⟩ := listOf (f := rkrow) (Q := RkOk) fun r hr => (h3 r hr).1
    exact ⟨l, hl, by have : maxLen = 9223372036854775807 := by decide
                     simpa [this] using h2, h1⟩
theorem opnDv : Opn enc Try.prog w base sp held 56 fun row => ∃ a : Dv, DvOk a ∧ row = dvr a := opnV.mono fun row ⟨tx, n, x, b, h, e⟩ => ⟨⟨tx, n, x, b⟩, h, e⟩
theorem opnDvs : Opn enc Try.prog w base sp held 48 fun row => ∃ l : List Dv, (∀ a ∈ l, DvOk a) ∧ l.length ≤ 9223372036854775807 ∧ row = [.list (l.map dvr) .free] :=
  (opn_slice Try.underlying48 (by kernel_rfl : Try.prog.cellsOf 56 = 4) (by decide) opnDv).mono fun row ⟨rows, h1, h2, h3⟩ => by
    obtain ⟨l, hl, rfl⟩ := listOf (f := dvr) (Q := DvOk) fun r hr => (h3 r hr).1
    exact ⟨l, hl, by have : maxLen = 9223372036854775807 := by decide
                     simpa [this] using h2, h1⟩
theorem opnInts : Opn enc Try.prog w base sp held 49 fun row => ∃ l : List Int, (∀ t ∈ l, -9223372036854775808 ≤ t ∧ t ≤ 9223372036854775807) ∧ l.length ≤ 9223372036854775807 ∧ row = [.list (l.map fun t => [.v (.int .i64 t)]) .free] :=
  (opn_slice Try.underlying49 (by kernel_rfl : Try.prog.cellsOf 3 = 1) (by decide) (opn_int Try.underlying3)).mono fun row ⟨rows, h1, h2, h3⟩ => by
    obtain ⟨l, hl, rfl⟩ := listOf (f := fun t => [AV.v (.int .i64 t)]) (Q := fun t => -9223372036854775808 ≤ t ∧ t ≤ 9223372036854775807) fun r hr => by
      obtain ⟨⟨n, rfl, h4, h5⟩, _⟩ := h3 r hr
      exact ⟨n, ⟨h4, h5⟩, rfl⟩
    exact ⟨l, hl, by have : maxLen = 9223372036854775807 := by decide
                     simpa [this] using h2, h1⟩
end
end Go.Proofs.Ytjepgbpcpcahgaa
namespace Go.Proofs.Ytjepgbpcpcahgaa
open Go.Am
set_option linter.unusedSimpArgs false
set_option linter.unusedVariables false
set_option maxRecDepth 100000
theorem npos_at {o : List Co} (hs : Nsort o) {i : Nat} {c : Co} (h : o[i]? = some c) : npos o c.n = i ∧ hasN o c.n = true := by
  have h1 : ¬ i < npos o c.n := fun hlt => by
    have := (npos_lt hs h).1 hlt
    rw [sLt_self] at this; cases this
  have hi := (List.getElem?_eq_some_iff.1 h).1
  have h2 : i ≤ npos o c.n := by
    rcases Nat.eq_zero_or_pos i with rfl | h0
    · exact Nat.zero_le _
    · obtain ⟨d, hd⟩ : ∃ d, o[i - 1]? = some d := ⟨_, List.getElem?_eq_getElem (by omega)⟩
      have h3 := List.pairwise_iff_getElem.1 hs (i - 1) i (by omega) hi (by omega)
      rw [(List.getElem?_eq_some_iff.1 hd).2, (List.getElem?_eq_some_iff.1 h).2] at h3
      have := (npos_lt hs hd).2 h3
      omega
  have e : npos o c.n = i := by omega
  refine ⟨e, ?_⟩
  unfold hasN
  rw [e, h]
  simp [cmpS_self]
theorem putA_at {o : List Co} (hs : Nsort o) {i : Nat} {c : Co} (h : o[i]? = some c) (x : Ve) : putA o c.n x = o.set i (putC c x) := by
  obtain ⟨a, b⟩ := npos_at hs h
  unfold putA
  rw [b, if_pos rfl, a, h]
theorem dcR_at {o : List Co} (hF : Fine o) {i : Nat} {c : Co} (h : o[i]? = some c) : dcR o c.n = o.eraseIdx i := by
  obtain ⟨a, b⟩ := npos_at hF.srt h
  unfold dcR
  rw [hF.copy, b, if_pos rfl, a]
theorem hasN_not {o : List Co} {s : ByteArray} (h : ∀ c ∈ o, cmpS c.n s ≠ 0) : hasN o s = false := by
  unfold hasN
  split
  · rename_i c hc
    simpa using h c (List.mem_of_getElem? hc)
  · rfl
theorem colL_new : ∀ t ∈ colL, cmpS t (bsS [113, 117, 105, 116, 101, 46, 110, 101, 119]) ≠ 0 := fun t ht h => by
  have h2 := eq_cb t.toList (bsS [113, 117, 105, 116, 101, 46, 110, 101, 119]).toList
  unfold cmpS at h
  rw [h] at h2
  have h3 : t.toList = (bsS [113, 117, 105, 116, 101, 46, 110, 101, 119]).toList := by simpa using h2
  have h4 : t.data.toList = [113, 117, 105, 116, 101, 46, 110, 101, 119] := by
    have := h3
    simp only [ByteArray.toList_eq] at this
    exact this
  unfold colL at ht
  simp only [List.mem_cons, List.not_mem_nil, or_false] at ht
  rcases ht with rfl | rfl | rfl | rfl | rfl <;> revert h4 <;> decide
def Named (M : List Co) : Prop := ∀ c ∈ M, c.n ∈ colL
theorem putA_named {o : List Co} (h : Named o) {s : ByteArray} (hs : s ∈ colL) (x : Ve) : Named (putA o s x) := by
  unfold putA
  split
  · split
    · rename_i c hc
      intro d hd
      rcases List.mem_or_eq_of_mem_set hd with hd | rfl
      · exact h d hd
      · exact h c (List.mem_of_getElem? hc)
    · exact h
  · intro d hd
    unfold insAt at hd
    rcases List.mem_append.1 hd with hd | hd
    · exact h d (List.mem_of_mem_take hd)
    · rcases List.mem_cons.1 hd with rfl | hd
      · exact hs
      · exact h d (List.mem_of_mem_drop hd)
theorem putR_named {M : List Co} (hF : Fine M) (h : Named M) {s : ByteArray} (hs : s ∈ colL) (t : Int) (v : Va) : Named (putR M s t v).2 := by
  unfold putR
  rw [hF.copy]
  split
  · split
    · intro c hc; cases hc
    · exact putA_named h hs _
  · intro c hc; cases hc
def MadeR (out : AOut) (H' : Heap) : Prop := ∃ M, Fine M ∧ RowSz M ∧ Named M ∧ out = .ret (rowA M) ∧ H' = []
def mdSt (l : List Rk) (M : List Co) (i : Nat) : ASt := ⟨([.list (l.map rkrow) .free, .dead, .ptr 0 0, .ptr 1 0, .v (.int .i64 i)] ++ List.replicate 41 .dead), [(0, .box [.list [] .full]), (1, .box [.list (M.map corow) .free])], 2⟩
set_option maxHeartbeats 3200000 in
theorem made4_c (l : List Rk) (hl : ∀ a ∈ l, RkOk a) (h : l.length ≤ 9223372036854775807) : ACalls Try.prog 28 0 90000 [.list (l.map rkrow) .free] [] MadeR := by
  refine no_implicit_lambda% (acalls_of tok dok (f := 28) ⟨Try.func28, rfl, by kernel_rfl⟩ ?_); refine no_implicit_lambda% (c_start (fun _ h => h) ?_)
  repeat' (first | (refine no_implicit_lambda% (awd1 ?_)) | (((with_reducible refine no_implicit_lambda% (is_aops ?_)); refine no_implicit_lambda% (o_split rfl rfl rfl (fun hc => ?_) (fun hc => ?_)) <;> first | exact decx hc | rw [hc])) | (((with_reducible refine no_implicit_lambda% (is_cond ?_)); refine no_implicit_lambda% (c_cond rfl (fun hc => ?_) (fun hc => ?_)) <;> first | exact decx hc | skip)) | (((with_reducible refine no_implicit_lambda% (is_aop ?_)); refine no_implicit_lambda% (a_pick rfl rfl (fun hc => ?_) (fun hc => ?_)) <;> first | exact decx hc | rw [hc])) | (refine no_implicit_lambda% (ans ?_)) | (with_reducible exact retN) | (with_reducible exact retP) | fail | fail)
  refine c_loop2 (mdSt l) (fun M i => i ≤ l.length ∧ Fine M ∧ RowSz M ∧ Named M) (fun _ i => l.length - i) [] 0 ⟨Nat.zero_le _, copy_fine [], fun c hc => (by cases hc), fun c hc => (by cases hc)⟩ ?_ ?_
  · (refine no_implicit_lambda% (Conv.toT ?_ ?_ (Nat.le_of_ble_eq_true rfl))); (focus ((unfold mdSt); (try dsimp only); exact wkl)); (focus ((unfold mdSt); (try dsimp only); exact wkh))
  · rintro M i ⟨i1, hF, hz, hN⟩
    have h4 := hF.len
    refine c_turn (n' := 2) (fun _ h => h) (fun _ h => h) rfl ?_
    rcases hx : l[i]? with _ | a
    · have hi : i = l.length := by have := List.getElem?_eq_none_iff.1 hx; omega
      repeat' (first | (refine no_implicit_lambda% (awd1 ?_)) | (((with_reducible refine no_implicit_lambda% (is_aops ?_)); refine no_implicit_lambda% (o_split rfl rfl rfl (fun hc => ?_) (fun hc => ?_)) <;> first | exact decx hc | rw [hc])) | (((with_reducible refine no_implicit_lambda% (is_cond ?_)); refine no_implicit_lambda% (c_cond rfl (fun hc => ?_) (fun hc => ?_)) <;> first | exact decx hc | skip)) | (((with_reducible refine no_implicit_lambda% (is_aop ?_)); refine no_implicit_lambda% (a_pick rfl rfl (fun hc => ?_) (fun hc => ?_)) <;> first | exact decx hc | rw [hc])) | (refine no_implicit_lambda% (ans ?_)) | (with_reducible exact retN) | (with_reducible exact retP) | fail | fail)
      exact e_ret (H' := []) (rest := _) rfl ⟨M, hF, hz, hN, rfl, rfl⟩ permT (Nat.le_of_ble_eq_true rfl)
    · have hi : i < l.length := (List.getElem?_eq_some_iff.1 hx).1
      have ha := hl a (List.mem_of_getElem? hx)
      have hix := rkex hx
      have hw : IntKind.i64.wrap (a.t.tmod 9 + 9) = a.t.tmod 9 + 9 := by
        have h1 := Int.tmod_lt_of_pos a.t (show (0 : Int) < 9 by decide)
        have h2 := Int.lt_tmod_of_pos a.t (show (0 : Int) < 9 by decide)
        exact z64 (by omega) (by omega)
      repeat' (first | (refine no_implicit_lambda% (awd1 ?_)) | (((with_reducible refine no_implicit_lambda% (is_aops ?_)); refine no_implicit_lambda% (o_split rfl rfl rfl (fun hc => ?_) (fun hc => ?_)) <;> first | exact decx hc | rw [hc])) | (((with_reducible refine no_implicit_lambda% (is_cond ?_)); refine no_implicit_lambda% (c_cond rfl (fun hc => ?_) (fun hc => ?_)) <;> first | exact decx hc | skip)) | (((with_reducible refine no_implicit_lambda% (is_aop ?_)); refine no_implicit_lambda% (a_pick rfl rfl (fun hc => ?_) (fun hc => ?_)) <;> first | exact decx hc | rw [hc])) | (refine no_implicit_lambda% (ans ?_)) | (with_reducible exact retN) | (with_reducible exact retP) | fail | fail)
      · (refine no_implicit_lambda% (cal [] (keepcol_c a.c ha.c.1 ha.c.2) ?_ ?_))
        · intro xx H' hh
          obtain ⟨s, hs, h', rfl⟩ := hh
          cases h'
          first | (refine no_implicit_lambda% (akc ?_)) | (refine no_implicit_lambda% (aec ?_))
          repeat' (first | (refine no_implicit_lambda% (awd1 ?_)) | (((with_reducible refine no_implicit_lambda% (is_aops ?_)); refine no_implicit_lambda% (o_split rfl rfl rfl (fun hc => ?_) (fun hc => ?_)) <;> first | exact decx hc | rw [hc])) | (((with_reducible refine no_implicit_lambda% (is_cond ?_)); refine no_implicit_lambda% (c_cond rfl (fun hc => ?_) (fun hc => ?_)) <;> first | exact decx hc | skip)) | (((with_reducible refine no_implicit_lambda% (is_aop ?_)); refine no_implicit_lambda% (a_pick rfl rfl (fun hc => ?_) (fun hc => ?_)) <;> first | exact decx hc | rw [hc])) | (refine no_implicit_lambda% (ans ?_)) | (with_reducible exact retN) | (with_reducible exact retP) | fail | fail)
          (refine no_implicit_lambda% (cal [] (vmade_c a.tx a.n a.x a.b ha.n.1 ha.n.2 ha.x) ?_ ?_))
          · intro xx H' hh
            obtain ⟨v, hv, h', rfl⟩ := hh
            cases h'
            first | (refine no_implicit_lambda% (akc ?_)) | (refine no_implicit_lambda% (aec ?_))
            have hvo := hv.ok
            have hp := qput_c M s (IntKind.i64.wrap (a.t.tmod 9 + 9) |>.tmod 9) v (by omega) hz ⟨hvo.1, hvo.2.1⟩
            have pf := putR_fine M s (IntKind.i64.wrap (a.t.tmod 9 + 9) |>.tmod 9) v
            have pz := putR_sz (s := s) (t := IntKind.i64.wrap (a.t.tmod 9 + 9) |>.tmod 9) hz ⟨hvo.1, hvo.2.1⟩
            have pn := putR_named hF hN hs (IntKind.i64.wrap (a.t.tmod 9 + 9) |>.tmod 9) v
            unfold PutRR at hp
            generalize putR M s (IntKind.i64.wrap (a.t.tmod 9 + 9) |>.tmod 9) v = Q at *
            obtain ⟨e, X⟩ := Q
            repeat' (first | (refine no_implicit_lambda% (awd1 ?_)) | (((with_reducible refine no_implicit_lambda% (is_aops ?_)); refine no_implicit_lambda% (o_split rfl rfl rfl (fun hc => ?_) (fun hc => ?_)) <;> first | exact decx hc | rw [hc])) | (((with_reducible refine no_implicit_lambda% (is_cond ?_)); refine no_implicit_lambda% (c_cond rfl (fun hc => ?_) (fun hc => ?_)) <;> first | exact decx hc | skip)) | (((with_reducible refine no_implicit_lambda% (is_aop ?_)); refine no_implicit_lambda% (a_pick rfl rfl (fun hc => ?_) (fun hc => ?_)) <;> first | exact decx hc | rw [hc])) | (refine no_implicit_lambda% (ans ?_)) | (with_reducible exact retN) | (with_reducible exact retP) | (refine no_implicit_lambda% (cal [] (hp) ?_ ?_)) | fail)
            · (refine no_implicit_lambda% (k_loopLT (((X, i + 1) : List Co × Nat)) 0 [0, 1] (by show i + 1 ≤ l.length ∧ Fine X ∧ RowSz X ∧ Named X; exact ⟨hi, pf, pz, pn⟩) (by first | omega | (simp; done) | (simp; omega)) (Nat.le_of_ble_eq_true rfl) (fun _ h => h) (fun _ h => h) ?_ ?_)); (focus ((try dsimp only); exact wkl)); (focus ((try dsimp only); exact wkh))
            · (refine no_implicit_lambda% (k_loopLT (((M, i + 1) : List Co × Nat)) 0 [0, 1] (by show i + 1 ≤ l.length ∧ Fine M ∧ RowSz M ∧ Named M; exact ⟨hi, hF, hz, hN⟩) (by first | omega | (simp; done) | (simp; omega)) (Nat.le_of_ble_eq_true rfl) (fun _ h => h) (fun _ h => h) ?_ ?_)); (focus ((try dsimp only); exact wkl)); (focus ((try dsimp only); exact wkh))
          · intro xx H' hh
            obtain ⟨_, _, h', _⟩ := hh
            cases h'
        · intro xx H' hh
          obtain ⟨_, _, h', _⟩ := hh
          cases h'
      · exact e_ret (H' := []) (rest := _) rfl ⟨M, hF, hz, hN, rfl, rfl⟩ permT (Nat.le_of_ble_eq_true rfl)
theorem slice1 {l : List Co} {k : Nat} {c : Co} (h : l[k]? = some c) : List.drop (k : Int).toNat (List.take ((k + 1 : Nat) : Int).toNat (l.map corow)) = ([c] : List Co).map corow := by
  rw [Int.toNat_natCast, Int.toNat_natCast, ← List.map_take, ← List.map_drop, List.take_add_one, h]
  congr 1
  rw [List.drop_append_of_le_length (by rw [List.length_take]; have := (List.getElem?_eq_some_iff.1 h).1; omega), List.drop_eq_nil_of_le (by rw [List.length_take]; omega)]
  rfl
def rlSt (M : List Co) (a : Dv) (i : Nat) : ASt := ⟨([.dead, .dead, .dead, .ptr 0 0, .dead, .ptr 90001 0, .v (.int .i64 i)] ++ List.replicate 106 .dead), [(0, .box (dvr a)), (90001, .box [.list (M.map corow) .free])], 90002⟩
def rkSt (M X : List Co) (a : Dv) (nm : ByteArray) (i k : Nat) : ASt := ⟨([.dead, .dead, .dead, .ptr 0 0, .dead, .ptr 90001 0, .v (.int .i64 i), .v (.string nm), .ptr 90002 0, .dead, .v (.int .i64 k)] ++ List.replicate 102 .dead), [(0, .box (dvr a)), (90001, .box [.list (M.map corow) .free]), (90002, .box [.list (X.map corow) .free])], 120000⟩
set_option maxHeartbeats 6400000 in
theorem columns_rc (l : List Rk) (a : Dv) (hl : ∀ a ∈ l, RkOk a) (h : l.length ≤ 9223372036854775807) (ha : DvOk a) : ACalls Try.prog 7 0 900000 [.list (l.map rkrow) .free, .agg (dvr a)] [] (fun out H' => out = .ret (.v (.bool true)) ∧ H' = []) := by
  have hk := known_rc
  refine no_implicit_lambda% (acalls_of tok dok (f := 7) ⟨Try.func7, rfl, by kernel_rfl⟩ ?_); refine no_implicit_lambda% (c_start (fun _ h => h) ?_)
  repeat' (first | (refine no_implicit_lambda% (awd1 ?_)) | (((with_reducible refine no_implicit_lambda% (is_aops ?_)); refine no_implicit_lambda% (o_split rfl rfl rfl (fun hc => ?_) (fun hc => ?_)) <;> first | exact decx hc | rw [hc])) | (((with_reducible refine no_implicit_lambda% (is_cond ?_)); refine no_implicit_lambda% (c_cond rfl (fun hc => ?_) (fun hc => ?_)) <;> first | exact decx hc | skip)) | (((with_reducible refine no_implicit_lambda% (is_aop ?_)); refine no_implicit_lambda% (a_pick rfl rfl (fun hc => ?_) (fun hc => ?_)) <;> first | exact decx hc | rw [hc])) | (refine no_implicit_lambda% (ans ?_)) | (with_reducible exact retN) | (with_reducible exact retP) | fail | fail)
  (refine no_implicit_lambda% (cal [] (made4_c l hl h) ?_ ?_))
  · intro xx H' hh
    obtain ⟨M, hF, hz, hN, h', rfl⟩ := hh
    cases h'
    first | (refine no_implicit_lambda% (akc ?_)) | (refine no_implicit_lambda% (aec ?_))
    have h4 := hF.len
    have hr : M.length < 70368744177664 := by omega
    repeat' (first | (refine no_implicit_lambda% (awd1 ?_)) | (((with_reducible refine no_implicit_lambda% (is_aops ?_)); refine no_implicit_lambda% (o_split rfl rfl rfl (fun hc => ?_) (fun hc => ?_)) <;> first | exact decx hc | rw [hc])) | (((with_reducible refine no_implicit_lambda% (is_cond ?_)); refine no_implicit_lambda% (c_cond rfl (fun hc => ?_) (fun hc => ?_)) <;> first | exact decx hc | skip)) | (((with_reducible refine no_implicit_lambda% (is_aop ?_)); refine no_implicit_lambda% (a_pick rfl rfl (fun hc => ?_) (fun hc => ?_)) <;> first | exact decx hc | rw [hc])) | (refine no_implicit_lambda% (ans ?_)) | (with_reducible exact retN) | (with_reducible exact retP) | fail | fail)
    refine c_loop' (rlSt M a) (fun i => i ≤ M.length) (fun i => M.length - i) (a := 0) (Nat.zero_le _) ?_ ?_
    · (refine no_implicit_lambda% (Conv.toT ?_ ?_ (Nat.le_of_ble_eq_true rfl))); (focus ((unfold rlSt); (try dsimp only); exact wkl)); (focus ((unfold rlSt); (try dsimp only); exact wkh))
    · intro i i1
      refine c_turn (n' := 90002) (fun _ h => h) (fun _ h => h) rfl ?_
      rcases hx : M[i]? with _ | c
      · have hi : i = M.length := by have := List.getElem?_eq_none_iff.1 hx; omega
        repeat' (first | (refine no_implicit_lambda% (awd1 ?_)) | (((with_reducible refine no_implicit_lambda% (is_aops ?_)); refine no_implicit_lambda% (o_split rfl rfl rfl (fun hc => ?_) (fun hc => ?_)) <;> first | exact decx hc | rw [hc])) | (((with_reducible refine no_implicit_lambda% (is_cond ?_)); refine no_implicit_lambda% (c_cond rfl (fun hc => ?_) (fun hc => ?_)) <;> first | exact decx hc | skip)) | (((with_reducible refine no_implicit_lambda% (is_aop ?_)); refine no_implicit_lambda% (a_pick rfl rfl (fun hc => ?_) (fun hc => ?_)) <;> first | exact decx hc | rw [hc])) | (refine no_implicit_lambda% (ans ?_)) | (with_reducible exact retN) | (with_reducible exact retP) | fail | fail)
        (refine no_implicit_lambda% (cal [] (dvmade_c a ha) ?_ ?_))
        · intro xx H' hh
          obtain ⟨v, hv, h', rfl⟩ := hh
          cases h'
          first | (refine no_implicit_lambda% (akc ?_)) | (refine no_implicit_lambda% (aec ?_))
          have hput := put_c M (bsS [113, 117, 105, 116, 101, 46, 110, 101, 119]) 1 v hr hz ⟨hv.1, hv.2.1⟩
          have hno : hasN M (bsS [113, 117, 105, 116, 101, 46, 110, 101, 119]) = false := hasN_not fun c hc => colL_new _ (hN c hc)
          have hq : putR M (bsS [113, 117, 105, 116, 101, 46, 110, 101, 119]) 1 v = if M.length = 4 then (13, []) else (0, insAt M (npos M (bsS [113, 117, 105, 116, 101, 46, 110, 101, 119])) ⟨bsS [113, 117, 105, 116, 101, 46, 110, 101, 119], [⟨1, canV v⟩]⟩) := by
            unfold putR
            rw [show (nmB (bsS [113, 117, 105, 116, 101, 46, 110, 101, 119]) && tmOk 1 && vRt v) = true by rw [hv.2.2]; decide, if_pos rfl, hF.copy, hno]
            simp only [true_and]
            congr 2
            unfold putA
            rw [hno, if_neg (by simp)]
          rw [hq] at hput
          unfold PutRR at hput
          rcases Nat.lt_or_ge M.length 4 with hlt | hge
          · rw [if_neg (by omega)] at hput
            dsimp only at hput
            have e4 : (((M.map corow).length : Int) == 4) = false := by rw [List.length_map]; simp; omega
            have e5 : decide (((M.map corow).length : Int) < 4) = true := by rw [List.length_map]; exact decide_eq_true (by omega)
            repeat' (first | (refine no_implicit_lambda% (awd1 ?_)) | (((with_reducible refine no_implicit_lambda% (is_aops ?_)); refine no_implicit_lambda% (o_split rfl rfl rfl (fun hc => ?_) (fun hc => ?_)) <;> first | exact decx hc | rw [hc])) | (((with_reducible refine no_implicit_lambda% (is_cond ?_)); refine no_implicit_lambda% (c_cond rfl (fun hc => ?_) (fun hc => ?_)) <;> first | exact decx hc | skip)) | (((with_reducible refine no_implicit_lambda% (is_aop ?_)); refine no_implicit_lambda% (a_pick rfl rfl (fun hc => ?_) (fun hc => ?_)) <;> first | exact decx hc | rw [hc])) | (refine no_implicit_lambda% (ans ?_)) | (with_reducible exact retN) | (with_reducible exact retP) | (refine no_implicit_lambda% (cal [] (hput) ?_ ?_)) | (refine no_implicit_lambda% (cal [] (hk) ?_ ?_)) | fail)
            all_goals first | exact e_ret (H' := []) (rest := _) rfl ⟨rfl, rfl⟩ permT (Nat.le_of_ble_eq_true rfl) | exact absurd hc (by rw [e4]; decide) | exact absurd hc (by rw [e5]; decide)
          · rw [if_pos (by omega)] at hput
            dsimp only at hput
            have e4 : (((M.map corow).length : Int) == 4) = true := by rw [List.length_map]; simp; omega
            have e5 : decide (((M.map corow).length : Int) < 4) = false := by rw [List.length_map]; exact decide_eq_false (by omega)
            repeat' (first | (refine no_implicit_lambda% (awd1 ?_)) | (((with_reducible refine no_implicit_lambda% (is_aops ?_)); refine no_implicit_lambda% (o_split rfl rfl rfl (fun hc => ?_) (fun hc => ?_)) <;> first | exact decx hc | rw [hc])) | (((with_reducible refine no_implicit_lambda% (is_cond ?_)); refine no_implicit_lambda% (c_cond rfl (fun hc => ?_) (fun hc => ?_)) <;> first | exact decx hc | skip)) | (((with_reducible refine no_implicit_lambda% (is_aop ?_)); refine no_implicit_lambda% (a_pick rfl rfl (fun hc => ?_) (fun hc => ?_)) <;> first | exact decx hc | rw [hc])) | (refine no_implicit_lambda% (ans ?_)) | (with_reducible exact retN) | (with_reducible exact retP) | (refine no_implicit_lambda% (cal [] (hput) ?_ ?_)) | (refine no_implicit_lambda% (cal [] (hk) ?_ ?_)) | fail)
            all_goals first | exact e_ret (H' := []) (rest := _) rfl ⟨rfl, rfl⟩ permT (Nat.le_of_ble_eq_true rfl) | exact absurd hc (by rw [e4]; decide) | exact absurd hc (by rw [e5]; decide)
        · intro xx H' hh
          obtain ⟨_, _, h', _⟩ := hh
          cases h'
      · have hi : i < M.length := (List.getElem?_eq_some_iff.1 hx).1
        have hix := cox hx
        repeat' (first | (refine no_implicit_lambda% (awd1 ?_)) | (((with_reducible refine no_implicit_lambda% (is_aops ?_)); refine no_implicit_lambda% (o_split rfl rfl rfl (fun hc => ?_) (fun hc => ?_)) <;> first | exact decx hc | rw [hc])) | (((with_reducible refine no_implicit_lambda% (is_cond ?_)); refine no_implicit_lambda% (c_cond rfl (fun hc => ?_) (fun hc => ?_)) <;> first | exact decx hc | skip)) | (((with_reducible refine no_implicit_lambda% (is_aop ?_)); refine no_implicit_lambda% (a_pick rfl rfl (fun hc => ?_) (fun hc => ?_)) <;> first | exact decx hc | rw [hc])) | (refine no_implicit_lambda% (ans ?_)) | (with_reducible exact retN) | (with_reducible exact retP) | fail | fail)
        (refine no_implicit_lambda% (cal [] (dvmade_c a ha) ?_ ?_))
        · intro xx H' hh
          obtain ⟨v, hv, h', rfl⟩ := hh
          cases h'
          first | (refine no_implicit_lambda% (akc ?_)) | (refine no_implicit_lambda% (aec ?_))
          have hcm := hF.col c (List.mem_of_getElem? hx)
          have hnm : nmB c.n = true := by
            unfold colB at hcm
            simp only [Bool.and_eq_true] at hcm
            exact hcm.1.1
          have hput := put_c M c.n 50 v hr hz ⟨hv.1, hv.2.1⟩
          have hq : putR M c.n 50 v = (0, M.set i (putC c ⟨50, canV v⟩)) := by
            unfold putR
            rw [hnm, hv.2.2, show tmOk 50 = true by decide, if_pos (by rfl), hF.copy, (npos_at hF.srt hx).2, if_neg (by simp), putA_at hF.srt hx]
          rw [hq] at hput
          unfold PutRR at hput
          dsimp only at hput
          obtain ⟨X, hX⟩ : ∃ X, X = M.set i (putC c ⟨50, canV v⟩) := ⟨_, rfl⟩
          rw [← hX] at hput
          have hXl : X.length = M.length := by rw [hX]; exact List.length_set ..
          have hdc := dropcol_c M c.n hr hz (dc_sz hz)
          rw [dcR_at hF hx, ((dcR_at hF hx) ▸ dc_fine M c.n : Fine (M.eraseIdx i)).copy] at hdc
          have hel : (M.eraseIdx i).length = M.length - 1 := List.length_eraseIdx_of_lt hi
          have hml : ((M.map corow).length : Int) = M.length := by rw [List.length_map]
          have hxl2 : ((X.map corow).length : Int) = M.length := by rw [List.length_map, hXl]
          have hel2 : (((M.eraseIdx i).map corow).length : Int) = M.length - 1 := by rw [List.length_map, hel]; omega
          repeat' (first | (refine no_implicit_lambda% (awd1 ?_)) | (((with_reducible refine no_implicit_lambda% (is_aops ?_)); refine no_implicit_lambda% (o_split rfl rfl rfl (fun hc => ?_) (fun hc => ?_)) <;> first | exact decx hc | rw [hc])) | (((with_reducible refine no_implicit_lambda% (is_cond ?_)); refine no_implicit_lambda% (c_cond rfl (fun hc => ?_) (fun hc => ?_)) <;> first | exact decx hc | skip)) | (((with_reducible refine no_implicit_lambda% (is_aop ?_)); refine no_implicit_lambda% (a_pick rfl rfl (fun hc => ?_) (fun hc => ?_)) <;> first | exact decx hc | rw [hc])) | (refine no_implicit_lambda% (ans ?_)) | (with_reducible exact retN) | (with_reducible exact retP) | (refine no_implicit_lambda% (cal [] (hput) ?_ ?_)) | fail)
          refine c_loop' (rkSt M X a c.n i) (fun k => k ≤ M.length) (fun k => M.length - k) (a := 0) (Nat.zero_le _) ?_ ?_
          · (refine no_implicit_lambda% (Conv.toT ?_ ?_ (Nat.le_of_ble_eq_true rfl))); (focus ((unfold rkSt); (try dsimp only); exact wkl)); (focus ((unfold rkSt); (try dsimp only); exact wkh))
          · intro k k1
            refine c_turn (n' := 120000) (fun _ h => h) (fun _ h => h) rfl ?_
            rcases hy : M[k]? with _ | d
            · have hk2 : k = M.length := by have := List.getElem?_eq_none_iff.1 hy; omega
              have hw : IntKind.i64.wrap (((M.map corow).length : Int) - 1) = M.length - 1 := by rw [hml]; exact z64 (by omega) (by omega)
              repeat' (first | (refine no_implicit_lambda% (awd1 ?_)) | (((with_reducible refine no_implicit_lambda% (is_aops ?_)); refine no_implicit_lambda% (o_split rfl rfl rfl (fun hc => ?_) (fun hc => ?_)) <;> first | exact decx hc | rw [hc])) | (((with_reducible refine no_implicit_lambda% (is_cond ?_)); refine no_implicit_lambda% (c_cond rfl (fun hc => ?_) (fun hc => ?_)) <;> first | exact decx hc | skip)) | (((with_reducible refine no_implicit_lambda% (is_aop ?_)); refine no_implicit_lambda% (a_pick rfl rfl (fun hc => ?_) (fun hc => ?_)) <;> first | exact decx hc | rw [hc])) | (refine no_implicit_lambda% (ans ?_)) | (with_reducible exact retN) | (with_reducible exact retP) | (refine no_implicit_lambda% (cal [] (hdc) ?_ ?_)) | fail)
              · exfalso
                rw [hw, hel2] at hc
                simp at hc
              · (refine no_implicit_lambda% (k_loopT (i + 1) (by show i + 1 ≤ M.length; omega) (by first | omega | (simp; done) | (simp; omega)) ?_ ?_)); (focus ((unfold rlSt); (try dsimp only); exact wkl)); (focus ((unfold rlSt); (try dsimp only); exact wkh))
            · have hk2 : k < M.length := (List.getElem?_eq_some_iff.1 hy).1
              rcases Nat.decEq k i with hki | hki
              · have hXd : X[k]? = some d := by
                  rw [hX, List.getElem?_set_ne (by omega)]; exact hy
                have hs1 := slice1 hy
                have hs2 := slice1 hXd
                have hdm := List.mem_of_getElem? hy
                have hsd := refsame_r [d] (by simp) (fun e he => by rw [List.mem_singleton.1 he]; have := col_len (hF.col d hdm); omega) (fun e he x hxm => by rw [List.mem_singleton.1 he] at hxm; exact (hz d hdm x hxm).2)
                have hne : (((k : Int)) != (i : Int)) = true := by simp; omega
                have hw : IntKind.i64.wrap ((k : Int) + 1) = ((k + 1 : Nat) : Int) := by rw [z64 (by omega) (by omega)]; omega
                repeat' (first | (refine no_implicit_lambda% (awd1 ?_)) | (((with_reducible refine no_implicit_lambda% (is_aops ?_)); refine no_implicit_lambda% (o_split rfl rfl rfl (fun hc => ?_) (fun hc => ?_)) <;> first | exact decx hc | rw [hc])) | (((with_reducible refine no_implicit_lambda% (is_cond ?_)); refine no_implicit_lambda% (c_cond rfl (fun hc => ?_) (fun hc => ?_)) <;> first | exact decx hc | skip)) | (((with_reducible refine no_implicit_lambda% (is_aop ?_)); refine no_implicit_lambda% (a_pick rfl rfl (fun hc => ?_) (fun hc => ?_)) <;> first | exact decx hc | rw [hc])) | (refine no_implicit_lambda% (ans ?_)) | (with_reducible exact retN) | (with_reducible exact retP) | fail | fail)
                rw [hne]
                repeat' (first | (refine no_implicit_lambda% (awd1 ?_)) | (((with_reducible refine no_implicit_lambda% (is_aops ?_)); refine no_implicit_lambda% (o_split rfl rfl rfl (fun hc => ?_) (fun hc => ?_)) <;> first | exact decx hc | rw [hc])) | (((with_reducible refine no_implicit_lambda% (is_cond ?_)); refine no_implicit_lambda% (c_cond rfl (fun hc => ?_) (fun hc => ?_)) <;> first | exact decx hc | skip)) | (((with_reducible refine no_implicit_lambda% (is_aop ?_)); refine no_implicit_lambda% (a_pick rfl rfl (fun hc => ?_) (fun hc => ?_)) <;> first | exact decx hc | rw [hc])) | (refine no_implicit_lambda% (ans ?_)) | (with_reducible exact retN) | (with_reducible exact retP) | fail | fail)
                rw [hw]
                ((with_reducible refine no_implicit_lambda% (is_ev ?_)); refine no_implicit_lambda% (v_yesS rfl rfl rfl rfl rfl rfl (qAnd5 (fun _ h => h)) (fun _ h => h) ?_ ?_)); focus ((repeat' (refine And.intro ?_ ?_)) <;> (first | exact trivial | exact (coOk M).len | exact Int.natCast_nonneg _ | omega | (simp; done) | (simp; omega) | ((show (0 : Int) ≤ _); omega)))
                repeat' (first | (refine no_implicit_lambda% (awd1 ?_)) | (((with_reducible refine no_implicit_lambda% (is_aops ?_)); refine no_implicit_lambda% (o_split rfl rfl rfl (fun hc => ?_) (fun hc => ?_)) <;> first | exact decx hc | rw [hc])) | (((with_reducible refine no_implicit_lambda% (is_cond ?_)); refine no_implicit_lambda% (c_cond rfl (fun hc => ?_) (fun hc => ?_)) <;> first | exact decx hc | skip)) | (((with_reducible refine no_implicit_lambda% (is_aop ?_)); refine no_implicit_lambda% (a_pick rfl rfl (fun hc => ?_) (fun hc => ?_)) <;> first | exact decx hc | rw [hc])) | (refine no_implicit_lambda% (ans ?_)) | (with_reducible exact retN) | (with_reducible exact retP) | fail | fail)
                rw [hw]
                ((with_reducible refine no_implicit_lambda% (is_ev ?_)); refine no_implicit_lambda% (v_yesS rfl rfl rfl rfl rfl rfl (qAnd5 (fun _ h => h)) (fun _ h => h) ?_ ?_)); focus ((repeat' (refine And.intro ?_ ?_)) <;> (first | exact trivial | exact (coOk X).len | exact Int.natCast_nonneg _ | omega | (simp; done) | (simp; omega) | ((show (0 : Int) ≤ _); omega)))
                repeat' (first | (refine no_implicit_lambda% (awd1 ?_)) | (((with_reducible refine no_implicit_lambda% (is_aops ?_)); refine no_implicit_lambda% (o_split rfl rfl rfl (fun hc => ?_) (fun hc => ?_)) <;> first | exact decx hc | rw [hc])) | (((with_reducible refine no_implicit_lambda% (is_cond ?_)); refine no_implicit_lambda% (c_cond rfl (fun hc => ?_) (fun hc => ?_)) <;> first | exact decx hc | skip)) | (((with_reducible refine no_implicit_lambda% (is_aop ?_)); refine no_implicit_lambda% (a_pick rfl rfl (fun hc => ?_) (fun hc => ?_)) <;> first | exact decx hc | rw [hc])) | (refine no_implicit_lambda% (ans ?_)) | (with_reducible exact retN) | (with_reducible exact retP) | fail | fail)
                rw [hs1, hs2]
                repeat' (first | (refine no_implicit_lambda% (awd1 ?_)) | (((with_reducible refine no_implicit_lambda% (is_aops ?_)); refine no_implicit_lambda% (o_split rfl rfl rfl (fun hc => ?_) (fun hc => ?_)) <;> first | exact decx hc | rw [hc])) | (((with_reducible refine no_implicit_lambda% (is_cond ?_)); refine no_implicit_lambda% (c_cond rfl (fun hc => ?_) (fun hc => ?_)) <;> first | exact decx hc | skip)) | (((with_reducible refine no_implicit_lambda% (is_aop ?_)); refine no_implicit_lambda% (a_pick rfl rfl (fun hc => ?_) (fun hc => ?_)) <;> first | exact decx hc | rw [hc])) | (refine no_implicit_lambda% (ans ?_)) | (with_reducible exact retN) | (with_reducible exact retP) | (refine no_implicit_lambda% (cal [] (hsd) ?_ ?_)) | fail)
                (refine no_implicit_lambda% (k_loopT (k + 1) (by show k + 1 ≤ M.length; omega) (by first | omega | (simp; done) | (simp; omega)) ?_ ?_)); (focus ((unfold rkSt); (try dsimp only); exact wkl)); (focus ((unfold rkSt); (try dsimp only); exact wkh))
              · have hne : (((k : Int)) != (i : Int)) = false := by simp; omega
                repeat' (first | (refine no_implicit_lambda% (awd1 ?_)) | (((with_reducible refine no_implicit_lambda% (is_aops ?_)); refine no_implicit_lambda% (o_split rfl rfl rfl (fun hc => ?_) (fun hc => ?_)) <;> first | exact decx hc | rw [hc])) | (((with_reducible refine no_implicit_lambda% (is_cond ?_)); refine no_implicit_lambda% (c_cond rfl (fun hc => ?_) (fun hc => ?_)) <;> first | exact decx hc | skip)) | (((with_reducible refine no_implicit_lambda% (is_aop ?_)); refine no_implicit_lambda% (a_pick rfl rfl (fun hc => ?_) (fun hc => ?_)) <;> first | exact decx hc | rw [hc])) | (refine no_implicit_lambda% (ans ?_)) | (with_reducible exact retN) | (with_reducible exact retP) | fail | fail)
                rw [hne]
                repeat' (first | (refine no_implicit_lambda% (awd1 ?_)) | (((with_reducible refine no_implicit_lambda% (is_aops ?_)); refine no_implicit_lambda% (o_split rfl rfl rfl (fun hc => ?_) (fun hc => ?_)) <;> first | exact decx hc | rw [hc])) | (((with_reducible refine no_implicit_lambda% (is_cond ?_)); refine no_implicit_lambda% (c_cond rfl (fun hc => ?_) (fun hc => ?_)) <;> first | exact decx hc | skip)) | (((with_reducible refine no_implicit_lambda% (is_aop ?_)); refine no_implicit_lambda% (a_pick rfl rfl (fun hc => ?_) (fun hc => ?_)) <;> first | exact decx hc | rw [hc])) | (refine no_implicit_lambda% (ans ?_)) | (with_reducible exact retN) | (with_reducible exact retP) | fail | fail)
                (refine no_implicit_lambda% (k_loopT (k + 1) (by show k + 1 ≤ M.length; omega) (by first | omega | (simp; done) | (simp; omega)) ?_ ?_)); (focus ((unfold rkSt); (try dsimp only); exact wkl)); (focus ((unfold rkSt); (try dsimp only); exact wkh))
        · intro xx H' hh
          obtain ⟨_, _, h', _⟩ := hh
          cases h'
  · intro xx H' hh
    obtain ⟨_, _, _, _, h', _⟩ := hh
    cases h'
end Go.Proofs.Ytjepgbpcpcahgaa
