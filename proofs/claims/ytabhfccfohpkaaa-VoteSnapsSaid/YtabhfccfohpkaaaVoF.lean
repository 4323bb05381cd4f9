/- vote: put, take. -/
import Derived.Test.YtabhfccfohpkaaaVoE
namespace Go.Proofs.Ytabhfccfohpkaaa
open Go.Am
set_option linter.unusedSimpArgs false
set_option linter.unusedVariables false
set_option maxRecDepth 100000
/-- a vote laid in its place -/
def putL (l : List Td) (t : Td) : List Td := if (tkeys l)[kpos (tkeys l) t.c]? = some t.c then l.set (kpos (tkeys l) t.c) t else insAt l (kpos (tkeys l) t.c) t
def Ac.putV (A : Ac) (t : Td) : Ac := ⟨A.p, putL A.l t, A.base, A.st⟩
set_option maxHeartbeats 1600000 in
theorem put_c0 (A : Ac) (cp : Nat) (recs : List (List UInt8)) (t : Td) (hl : A.l.length < 1000000) (hcp0 : A.l.length ≤ cp) (hcp : cp ≤ maxLen) (hs : (tkeys A.l).Pairwise (· < ·)) : ACalls Try.prog 68 4 40 [.ptr 0 0, .agg (trow t)] (acP 0 1 2 3 A cp recs) (fun out H' => ∃ cp' n, 4 ≤ n ∧ n < 40 ∧ (putL A.l t).length ≤ cp' ∧ cp' ≤ maxLen ∧ out = .ret (.tuple []) ∧ H' = acP 0 n 2 3 (A.putV t) cp' recs) := by
  have hb := bsearch_c A.l t.c cp ((cp - A.l.length) * 3) (by omega) hs
  refine no_implicit_lambda% (acalls_of tok dok (f := 68) ⟨Try.func68, rfl, by kernel_rfl⟩ ?_); refine no_implicit_lambda% (c_start (fun _ h => h) ?_)
  repeat' (first | (refine no_implicit_lambda% (awd1 ?_)) | (((with_reducible refine no_implicit_lambda% (is_aops ?_)); refine no_implicit_lambda% (o_split rfl rfl rfl (fun hc => ?_) (fun hc => ?_)) <;> first | (exfalso; (simp only [decide_eq_true_eq, decide_eq_false_iff_not, beq_iff_eq, beq_eq_false_iff_ne, bne_iff_ne, bne_eq_false_iff_eq, List.length_map, Int.not_lt, Int.not_le] at hc); omega) | rw [hc])) | (((with_reducible refine no_implicit_lambda% (is_cond ?_)); refine no_implicit_lambda% (c_cond rfl (fun hc => ?_) (fun hc => ?_)) <;> first | (exfalso; (simp only [decide_eq_true_eq, decide_eq_false_iff_not, beq_iff_eq, beq_eq_false_iff_ne, bne_iff_ne, bne_eq_false_iff_eq, List.length_map, Int.not_lt, Int.not_le] at hc); omega) | skip)) | (((with_reducible refine no_implicit_lambda% (is_aop ?_)); refine no_implicit_lambda% (a_pick rfl rfl (fun hc => ?_) (fun hc => ?_)) <;> first | (exfalso; (simp only [decide_eq_true_eq, decide_eq_false_iff_not, beq_iff_eq, beq_eq_false_iff_ne, bne_iff_ne, bne_eq_false_iff_eq, List.length_map, Int.not_lt, Int.not_le] at hc); omega) | rw [hc])) | ((with_reducible refine no_implicit_lambda% (ret1 ?_)); first | (refine no_implicit_lambda% (akc ?_)) | (refine no_implicit_lambda% (aec ?_))) | (with_reducible exact retN) | (with_reducible exact retP) | (refine no_implicit_lambda% (cal [1] (hb) ?_ ?_)) | fail)
  · have hc' := of_decide_eq_true hc
    have hp : kpos (tkeys A.l) t.c < A.l.length := by
      have h1 := (List.getElem?_eq_some_iff.1 hc').1
      unfold tkeys at h1 ⊢
      rwa [List.length_map] at h1
    have hk : putL A.l t = A.l.set (kpos (tkeys A.l) t.c) t := if_pos hc'
    unfold Ac.putV
    rw [hk]
    generalize kpos (tkeys A.l) t.c = p at *
    ((with_reducible refine no_implicit_lambda% (is_ev ?_)); first | (refine no_implicit_lambda% (v_qS rfl rfl rfl rfl (fun _ h => h) (fun _ h => h) ?_ ?_)) | (refine no_implicit_lambda% (v_qS rfl rfl rfl rfl (qAnd2 (fun _ h => h)) (fun _ h => h) ?_ ?_))); focus (first | omega | (simp; done) | (simp; omega))
    repeat' (first | (refine no_implicit_lambda% (awd1 ?_)) | (((with_reducible refine no_implicit_lambda% (is_aops ?_)); refine no_implicit_lambda% (o_split rfl rfl rfl (fun hc => ?_) (fun hc => ?_)) <;> first | (exfalso; (simp only [decide_eq_true_eq, decide_eq_false_iff_not, beq_iff_eq, beq_eq_false_iff_ne, bne_iff_ne, bne_eq_false_iff_eq, List.length_map, Int.not_lt, Int.not_le] at hc); omega) | rw [hc])) | (((with_reducible refine no_implicit_lambda% (is_cond ?_)); refine no_implicit_lambda% (c_cond rfl (fun hc => ?_) (fun hc => ?_)) <;> first | (exfalso; (simp only [decide_eq_true_eq, decide_eq_false_iff_not, beq_iff_eq, beq_eq_false_iff_ne, bne_iff_ne, bne_eq_false_iff_eq, List.length_map, Int.not_lt, Int.not_le] at hc); omega) | skip)) | (((with_reducible refine no_implicit_lambda% (is_aop ?_)); refine no_implicit_lambda% (a_pick rfl rfl (fun hc => ?_) (fun hc => ?_)) <;> first | (exfalso; (simp only [decide_eq_true_eq, decide_eq_false_iff_not, beq_iff_eq, beq_eq_false_iff_ne, bne_iff_ne, bne_eq_false_iff_eq, List.length_map, Int.not_lt, Int.not_le] at hc); omega) | rw [hc])) | ((with_reducible refine no_implicit_lambda% (ret1 ?_)); first | (refine no_implicit_lambda% (akc ?_)) | (refine no_implicit_lambda% (aec ?_))) | (with_reducible exact retN) | (with_reducible exact retP) | fail | fail)
    obtain ⟨u, hu⟩ : ∃ u, A.l[p]? = some u := ⟨_, List.getElem?_eq_getElem hp⟩
    ((with_reducible refine no_implicit_lambda% (is_aop ?_)); refine no_implicit_lambda% (a_storeSeq (sz := 3) (rows := A.l.map trow) (i := p) (j := 0) (row' := trow t) rfl rfl rfl (fun _ h => h) rfl rfl (tdOk A.l) ((by rw [List.getElem?_map, hu]; rfl)) (by first | decide | (simp; done)) (by first | rfl | (simp; done)) (by first | rfl | (simp; done) | (simp; omega)) ?_))
    repeat' (first | (refine no_implicit_lambda% (awd1 ?_)) | (((with_reducible refine no_implicit_lambda% (is_aops ?_)); refine no_implicit_lambda% (o_split rfl rfl rfl (fun hc => ?_) (fun hc => ?_)) <;> first | (exfalso; (simp only [decide_eq_true_eq, decide_eq_false_iff_not, beq_iff_eq, beq_eq_false_iff_ne, bne_iff_ne, bne_eq_false_iff_eq, List.length_map, Int.not_lt, Int.not_le] at hc); omega) | rw [hc])) | (((with_reducible refine no_implicit_lambda% (is_cond ?_)); refine no_implicit_lambda% (c_cond rfl (fun hc => ?_) (fun hc => ?_)) <;> first | (exfalso; (simp only [decide_eq_true_eq, decide_eq_false_iff_not, beq_iff_eq, beq_eq_false_iff_ne, bne_iff_ne, bne_eq_false_iff_eq, List.length_map, Int.not_lt, Int.not_le] at hc); omega) | skip)) | (((with_reducible refine no_implicit_lambda% (is_aop ?_)); refine no_implicit_lambda% (a_pick rfl rfl (fun hc => ?_) (fun hc => ?_)) <;> first | (exfalso; (simp only [decide_eq_true_eq, decide_eq_false_iff_not, beq_iff_eq, beq_eq_false_iff_ne, bne_iff_ne, bne_eq_false_iff_eq, List.length_map, Int.not_lt, Int.not_le] at hc); omega) | rw [hc])) | ((with_reducible refine no_implicit_lambda% (ret1 ?_)); first | (refine no_implicit_lambda% (akc ?_)) | (refine no_implicit_lambda% (aec ?_))) | (with_reducible exact retN) | (with_reducible exact retP) | fail | fail)
    refine e_ret_to (H' := [(0, .box [.ptr 2 0, .v (.int .i64 A.p), .arr 6 0 A.l.length cp, .v (.int .i64 A.base), .list (A.st.map brow) .free]), (6, .seq ((A.l.map trow).set p (trow t)) ((cp - A.l.length) * 3)), (2, .box [.list (recs.map rrow) (.tok 3)]), (3, .tok 1 recs.length)]) (rest := _) (Conv.anewBox (id := 1) (bid := 0) (j := 2) (.cons _ (.swap _ _ _)) rfl ?_) rfl ⟨cp, 6, by omega, by omega, by rw [List.length_set]; exact hcp0, hcp, rfl, by unfold acP; simp only; rw [List.map_set, List.length_set]; rfl⟩ permT (Nat.le_of_ble_eq_true rfl)
    rw [List.length_set, List.length_map]; omega
  · have hc' := of_decide_eq_false hc
    have hp : kpos (tkeys A.l) t.c ≤ (A.l.map trow).length := by
      have := kpos_le (tkeys A.l) t.c
      unfold tkeys at this ⊢
      simpa using this
    have hk : putL A.l t = insAt A.l (kpos (tkeys A.l) t.c) t := if_neg hc'
    unfold Ac.putV
    rw [hk]
    generalize kpos (tkeys A.l) t.c = p at *
    have hin := insert_c (A.l.map trow) (trow t) p cp (tdOk A.l) (tdOk [t]) hp (by rw [List.length_map]; omega) (by rw [List.length_map]; exact hcp0) hcp
    rw [List.length_map] at hin
    (refine no_implicit_lambda% (calw [1] (hin) ?_ ?_))
    · intro xx H' hh
      obtain ⟨cp', c1, c2, h', rfl⟩ := hh
      cases h'
      first | (refine no_implicit_lambda% (akc ?_)) | (refine no_implicit_lambda% (aec ?_))
      repeat' (first | (refine no_implicit_lambda% (awd1 ?_)) | (((with_reducible refine no_implicit_lambda% (is_aops ?_)); refine no_implicit_lambda% (o_split rfl rfl rfl (fun hc => ?_) (fun hc => ?_)) <;> first | (exfalso; (simp only [decide_eq_true_eq, decide_eq_false_iff_not, beq_iff_eq, beq_eq_false_iff_ne, bne_iff_ne, bne_eq_false_iff_eq, List.length_map, Int.not_lt, Int.not_le] at hc); omega) | rw [hc])) | (((with_reducible refine no_implicit_lambda% (is_cond ?_)); refine no_implicit_lambda% (c_cond rfl (fun hc => ?_) (fun hc => ?_)) <;> first | (exfalso; (simp only [decide_eq_true_eq, decide_eq_false_iff_not, beq_iff_eq, beq_eq_false_iff_ne, bne_iff_ne, bne_eq_false_iff_eq, List.length_map, Int.not_lt, Int.not_le] at hc); omega) | skip)) | (((with_reducible refine no_implicit_lambda% (is_aop ?_)); refine no_implicit_lambda% (a_pick rfl rfl (fun hc => ?_) (fun hc => ?_)) <;> first | (exfalso; (simp only [decide_eq_true_eq, decide_eq_false_iff_not, beq_iff_eq, beq_eq_false_iff_ne, bne_iff_ne, bne_eq_false_iff_eq, List.length_map, Int.not_lt, Int.not_le] at hc); omega) | rw [hc])) | ((with_reducible refine no_implicit_lambda% (ret1 ?_)); first | (refine no_implicit_lambda% (akc ?_)) | (refine no_implicit_lambda% (aec ?_))) | (with_reducible exact retN) | (with_reducible exact retP) | fail | fail)
      exact e_ret (H' := [(0, .box [.ptr 2 0, .v (.int .i64 A.p), .arr 6 0 (A.l.length + 1) cp', .v (.int .i64 A.base), .list (A.st.map brow) .free]), (6, .seq (insAt (A.l.map trow) p (trow t)) ((cp' - (A.l.length + 1)) * 3)), (2, .box [.list (recs.map rrow) (.tok 3)]), (3, .tok 1 recs.length)]) (rest := _) rfl ⟨cp', 6, by omega, by omega, by rw [insAt_len _ (by simpa using hp)]; exact c1, c2, rfl, by unfold acP; simp only; rw [insAt_map, insAt_len _ (by simpa using hp)]; rfl⟩ permT (Nat.le_of_ble_eq_true rfl)
    · intro xx H' hh
      obtain ⟨_, _, _, h', _⟩ := hh
      cases h'
theorem acP_ren (a v d t a2 v2 d2 t2 : Nat) (f : Nat → Nat) (ha : f a = a2) (hv : f v = v2) (hd : f d = d2) (ht : f t = t2) (A : Ac) (cp : Nat) (recs : List (List UInt8)) : renH f (acP a v d t A cp recs) = acP a2 v2 d2 t2 A cp recs := by
  unfold acP
  rw [renH_ap, dkP_ren d t d2 t2 f hd ht]
  simp [renH, Res.ren, AV.ren, AV.renL, Own.ren, ha, hv, hd]
theorem put_c (A : Ac) (cp : Nat) (recs : List (List UInt8)) (t : Td) (hl : A.l.length < 1000000) (hcp0 : A.l.length ≤ cp) (hcp : cp ≤ maxLen) (hs : (tkeys A.l).Pairwise (· < ·)) : ACalls Try.prog 68 4 5 [.ptr 0 0, .agg (trow t)] (acP 0 1 2 3 A cp recs) (fun out H' => ∃ cp', (putL A.l t).length ≤ cp' ∧ cp' ≤ maxLen ∧ out = .ret (.tuple []) ∧ H' = acP 0 4 2 3 (A.putV t) cp' recs) :=
  (put_c0 A cp recs t hl hcp0 hcp hs).ren (by decide) fun out H' hh => by
    obtain ⟨cp', n, n1, n2, c1, c2, rfl, rfl⟩ := hh
    refine ⟨[0, 1, 2, 3, n], .ret (.tuple []), acP 0 4 2 3 (A.putV t) cp' recs, ?_, ?_, fun i h => ?_, Nat.le_refl _, ?_, (acP_ren 0 4 2 3 0 n 2 3 _ rfl rfl rfl rfl _ _ _).symm, cp', c1, c2, rfl, rfl⟩
    · simp; omega
    · simp; omega
    · have : i = 0 ∨ i = 1 ∨ i = 2 ∨ i = 3 := by omega
      rcases this with rfl | rfl | rfl | rfl <;> rfl
    · simp [AOut.ren, AV.ren, AV.renL]
/-- a vote as it is written -/
def encV (t : Td) : List UInt8 := be t.c.toNat 4 ++ be t.s.toNat 4 ++ (be t.b.length 4 ++ t.b)
set_option maxHeartbeats 1600000 in
theorem vtake_c (A : Ac) (cp : Nat) (recs : List (List UInt8)) (t : Td) (r : List UInt8) (hin : inB A t = true) (hr : r.length < 100000000) (hb : 0 ≤ A.base ∧ A.base ≤ 1073741824) : ACalls Try.prog 105 5 60 [.ptr 0 0, .ptr 4 0] (acP 0 1 2 3 A cp recs ++ [(4, .box [.list ((encV t ++ r).map brow) .free])]) (fun out H' => out = .ret (.agg (trow t)) ∧ H' = acP 0 1 2 3 A cp recs ++ [(4, .box [.list (r.map brow) .free])]) := by
  have hi := of_decide_eq_true hin
  have e1 : encV t ++ r = be t.c.toNat 4 ++ (be t.s.toNat 4 ++ (be t.b.length 4 ++ t.b ++ r)) := by simp [encV]
  rw [e1]
  have h1 := rNe_c t.c.toNat (be t.s.toNat 4 ++ (be t.b.length 4 ++ t.b ++ r)) (by omega) (by simp [be_len]; omega)
  have h2 := rNe_c t.s.toNat (be t.b.length 4 ++ t.b ++ r) (by omega) (by simp [be_len]; omega)
  have h3 := rTe_c t.b r (by omega) (by omega)
  have hc := in_c A cp recs t hb
  rw [hin] at hc
  have w1 : IntKind.i64.wrap ((t.c.toNat : Nat) : Int) = t.c := by rw [IntKind.wrap_i64]; omega
  have w2 : IntKind.i64.wrap ((t.s.toNat : Nat) : Int) = t.s := by rw [IntKind.wrap_i64]; omega
  refine no_implicit_lambda% (acalls_of tok dok (f := 105) ⟨Try.func105, rfl, by kernel_rfl⟩ ?_); refine no_implicit_lambda% (c_start (fun _ h => h) ?_)
  repeat' (first | (refine no_implicit_lambda% (awd1 ?_)) | (((with_reducible refine no_implicit_lambda% (is_aops ?_)); refine no_implicit_lambda% (o_split rfl rfl rfl (fun hc => ?_) (fun hc => ?_)) <;> first | (exfalso; (simp only [decide_eq_true_eq, decide_eq_false_iff_not, beq_iff_eq, beq_eq_false_iff_ne, bne_iff_ne, bne_eq_false_iff_eq, List.length_map, Int.not_lt, Int.not_le] at hc); omega) | rw [hc])) | (((with_reducible refine no_implicit_lambda% (is_cond ?_)); refine no_implicit_lambda% (c_cond rfl (fun hc => ?_) (fun hc => ?_)) <;> first | (exfalso; (simp only [decide_eq_true_eq, decide_eq_false_iff_not, beq_iff_eq, beq_eq_false_iff_ne, bne_iff_ne, bne_eq_false_iff_eq, List.length_map, Int.not_lt, Int.not_le] at hc); omega) | skip)) | (((with_reducible refine no_implicit_lambda% (is_aop ?_)); refine no_implicit_lambda% (a_pick rfl rfl (fun hc => ?_) (fun hc => ?_)) <;> first | (exfalso; (simp only [decide_eq_true_eq, decide_eq_false_iff_not, beq_iff_eq, beq_eq_false_iff_ne, bne_iff_ne, bne_eq_false_iff_eq, List.length_map, Int.not_lt, Int.not_le] at hc); omega) | rw [hc])) | ((with_reducible refine no_implicit_lambda% (ret1 ?_)); first | (refine no_implicit_lambda% (akc ?_)) | (refine no_implicit_lambda% (aec ?_))) | (with_reducible exact retN) | (with_reducible exact retP) | (refine no_implicit_lambda% (cal [4] (h1) ?_ ?_)) | (refine no_implicit_lambda% (cal [4] (h2) ?_ ?_)) | (refine no_implicit_lambda% (cal [4] (h3) ?_ ?_)) | fail)
  rw [w1, w2]
  repeat' (first | (refine no_implicit_lambda% (awd1 ?_)) | (((with_reducible refine no_implicit_lambda% (is_aops ?_)); refine no_implicit_lambda% (o_split rfl rfl rfl (fun hc => ?_) (fun hc => ?_)) <;> first | (exfalso; (simp only [decide_eq_true_eq, decide_eq_false_iff_not, beq_iff_eq, beq_eq_false_iff_ne, bne_iff_ne, bne_eq_false_iff_eq, List.length_map, Int.not_lt, Int.not_le] at hc); omega) | rw [hc])) | (((with_reducible refine no_implicit_lambda% (is_cond ?_)); refine no_implicit_lambda% (c_cond rfl (fun hc => ?_) (fun hc => ?_)) <;> first | (exfalso; (simp only [decide_eq_true_eq, decide_eq_false_iff_not, beq_iff_eq, beq_eq_false_iff_ne, bne_iff_ne, bne_eq_false_iff_eq, List.length_map, Int.not_lt, Int.not_le] at hc); omega) | skip)) | (((with_reducible refine no_implicit_lambda% (is_aop ?_)); refine no_implicit_lambda% (a_pick rfl rfl (fun hc => ?_) (fun hc => ?_)) <;> first | (exfalso; (simp only [decide_eq_true_eq, decide_eq_false_iff_not, beq_iff_eq, beq_eq_false_iff_ne, bne_iff_ne, bne_eq_false_iff_eq, List.length_map, Int.not_lt, Int.not_le] at hc); omega) | rw [hc])) | ((with_reducible refine no_implicit_lambda% (ret1 ?_)); first | (refine no_implicit_lambda% (akc ?_)) | (refine no_implicit_lambda% (aec ?_))) | (with_reducible exact retN) | (with_reducible exact retP) | (refine no_implicit_lambda% (cal [0, 1, 2, 3] (hc) ?_ ?_)) | fail)
  exact e_ret (H' := acP 0 1 2 3 A cp recs ++ [(4, .box [.list (r.map brow) .free])]) (rest := _) rfl ⟨rfl, rfl⟩ permT (Nat.le_of_ble_eq_true rfl)
end Go.Proofs.Ytabhfccfohpkaaa
