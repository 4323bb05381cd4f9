/- Part 6 of what the laws RowsNumbers rest on: RtH, RtI, RtJ, RtK, RtL, RtM, RtN, RtO, RtP, RtQ, RtR, RtS, RtU, RtV, RuA, AmLd, RuB. -/
import Derived.Test.YtjepgbpcpcahgaaP5
namespace Go.Proofs.Ytjepgbpcpcahgaa
open Go.Am
set_option linter.unusedSimpArgs false
set_option linter.unusedVariables false
set_option maxRecDepth 100000
theorem aload_seq {L : Heap} {av : AV} {ti : TI} {id off sz i j k : Nat} {rows : List (List AV)} {row : List AV} (hf : findL L id = some (.seq rows k)) (hk : isAggK ti.kind = false) (hl : RowsOk sz rows) (hi : rows[i]? = some row) (hj : row[j]? = some av) (hoff : off = i * sz + j) : aload L ti (.ptr id off) = some av := by
  subst hoff
  simp only [aload, hf, hk, flat_at hl.len hi hj, Bool.false_eq_true, if_false]
/-- rows between two names -/
def rangeN (Q : List Nm) (lo hi : ByteArray) (most : Int) : List Nm × ByteArray :=
  let mo := (max 0 (min most 16)).toNat
  let i := npos (nk Q) lo
  let e := if hi.toList = [] then Q.length else npos (nk Q) hi
  if e ≤ i then ([], ⟨#[]⟩) else
  if e - i ≤ mo then ((Q.drop i).take (e - i), ⟨#[]⟩) else
  ((Q.drop i).take mo, match Q[i + mo]? with | some x => x.n | none => ⟨#[]⟩)
set_option maxHeartbeats 6400000 in
theorem trange_c (Q : List Nm) (lo hi : ByteArray) (most : Int) (cp : Nat) (hQ : TbOk Q) (hc1 : Q.length ≤ cp) (hc2 : cp ≤ maxLen) (hm : -9223372036854775808 ≤ most ∧ most ≤ 9223372036854775807) : ACalls Try.prog 13 2 3 [.ptr 0 0, .v (.string lo), .v (.string hi), .v (.int .i64 most)] (tbl Q cp) (fun out H' => ∃ cp2, (rangeN Q lo hi most).1.length ≤ cp2 ∧ cp2 ≤ maxLen ∧ out = .ret (.tuple [.arr 2 0 (rangeN Q lo hi most).1.length cp2, .v (.string (rangeN Q lo hi most).2)]) ∧ H' = tbl Q cp ++ [(2, .seq ((rangeN Q lo hi most).1.map nmrow) ((cp2 - (rangeN Q lo hi most).1.length) * 2))]) := by
  have hl := hQ.len
  have hfl := tfind_c Q lo cp (by omega) hQ.srt
  have hfh := tfind_c Q hi cp (by omega) hQ.srt
  have hpl := npos_le (nk Q) lo
  have hph := npos_le (nk Q) hi
  rw [nk_len] at hpl hph
  obtain ⟨mo, hmo⟩ : ∃ mo : Nat, (max 0 (min most 16)).toNat = mo := ⟨_, rfl⟩
  have hmi : (if (if 16 < most then (16 : Int) else most) > 0 then (if 16 < most then (16 : Int) else most) else 0) = (mo : Int) := by
    rw [← hmo]
    omega
  have hcp := fun m h => (show 0 + npos (nk Q) lo * 2 = npos (nk Q) lo * 2 from Nat.zero_add _) ▸ copies_o Q ((cp - Q.length) * 2) (npos (nk Q) lo) m (cp - npos (nk Q) lo) hQ.sz h (by omega)
  have hR : ∀ e : Nat, (if hi.toList = [] then Q.length else npos (nk Q) hi) = e → rangeN Q lo hi most = if e ≤ npos (nk Q) lo then ([], ⟨#[]⟩) else if e - npos (nk Q) lo ≤ mo then ((Q.drop (npos (nk Q) lo)).take (e - npos (nk Q) lo), ⟨#[]⟩) else ((Q.drop (npos (nk Q) lo)).take mo, match Q[npos (nk Q) lo + mo]? with | some x => x.n | none => ⟨#[]⟩) := fun e h => by
    unfold rangeN
    rw [hmo, h]
  have hfin : ∀ (m : Nat) (nm : ByteArray) (cp2 : Nat), npos (nk Q) lo + m ≤ Q.length → rangeN Q lo hi most = ((Q.drop (npos (nk Q) lo)).take m, nm) → m ≤ cp2 → cp2 ≤ maxLen → ∃ cp3, (rangeN Q lo hi most).1.length ≤ cp3 ∧ cp3 ≤ maxLen ∧ AOut.ret (.tuple [.arr 2 0 m cp2, .v (.string nm)]) = .ret (.tuple [.arr 2 0 (rangeN Q lo hi most).1.length cp3, .v (.string (rangeN Q lo hi most).2)]) ∧ (tbl Q cp ++ [(2, .seq (((Q.drop (npos (nk Q) lo)).take m).map nmrow) ((cp2 - m) * 2))] : Heap) = tbl Q cp ++ [(2, .seq ((rangeN Q lo hi most).1.map nmrow) ((cp3 - (rangeN Q lo hi most).1.length) * 2))] := fun m nm cp2 h1 h2 h3 h4 => by
    have hlen : ((Q.drop (npos (nk Q) lo)).take m).length = m := by rw [List.length_take, List.length_drop]; omega
    rw [h2]
    exact ⟨cp2, by show ((Q.drop (npos (nk Q) lo)).take m).length ≤ cp2; omega, h4, by show _ = AOut.ret (.tuple [.arr 2 0 ((Q.drop (npos (nk Q) lo)).take m).length cp2, _]); rw [hlen], by show _ = tbl Q cp ++ [(2, .seq _ ((cp2 - ((Q.drop (npos (nk Q) lo)).take m).length) * 2))]; rw [hlen]⟩
  refine no_implicit_lambda% (acalls_of tok dok (f := 13) ⟨Try.func13, rfl, by kernel_rfl⟩ ?_); refine no_implicit_lambda% (c_start (fun _ h => h) ?_)
  repeat' (first | (refine no_implicit_lambda% (awd1 ?_)) | (((with_reducible refine no_implicit_lambda% (is_aops ?_)); refine no_implicit_lambda% (o_split rfl rfl rfl (fun hc => ?_) (fun hc => ?_)) <;> first | exact decx hc | rw [hc])) | (((with_reducible refine no_implicit_lambda% (is_cond ?_)); refine no_implicit_lambda% (c_cond rfl (fun hc => ?_) (fun hc => ?_)) <;> first | exact decx hc | skip)) | (((with_reducible refine no_implicit_lambda% (is_aop ?_)); refine no_implicit_lambda% (a_pick rfl rfl (fun hc => ?_) (fun hc => ?_)) <;> first | exact decx hc | rw [hc])) | (refine no_implicit_lambda% (ans ?_)) | (with_reducible exact retN) | (with_reducible exact retP) | (refine no_implicit_lambda% (cal [0, 1] (hfl) ?_ ?_)) | (refine no_implicit_lambda% (cal [0, 1] (hfh) ?_ ?_)) | fail)
  · have hc' := of_decide_eq_true hc
    have he : (if hi.toList = [] then Q.length else npos (nk Q) hi) = npos (nk Q) hi := if_neg (by rintro h; simp_all)
    rw [hR _ he, if_pos (by omega)]
    exact e_ret_to (H' := tbl Q cp ++ [(2, .seq [] 0)]) (rest := []) (Conv.nilSeq (j := 8) rfl) rfl ⟨0, Nat.le_refl _, by decide, rfl, rfl⟩ permT (Nat.le_of_ble_eq_true rfl)
  · have hc' := of_decide_eq_false hc
    have he : (if hi.toList = [] then Q.length else npos (nk Q) hi) = npos (nk Q) hi := if_neg (by rintro h; simp_all)
    rw [hmi]
    generalize (if 16 < most then (16 : Int) else most) = w
    ((with_reducible refine no_implicit_lambda% (is_aop ?_)); first | (refine no_implicit_lambda% (a_qS rfl (fun _ h => h) ?_ ?_)) | (refine no_implicit_lambda% (a_qS rfl (qIx (fun _ h => h)) ?_ ?_)) | (refine no_implicit_lambda% (a_qS rfl (qAnd5 (fun _ h => h)) ?_ ?_)) | (refine no_implicit_lambda% (a_qS rfl (qStr (fun _ h => h)) ?_ ?_)) | (refine no_implicit_lambda% (a_qS rfl (qAnd4 (fun _ h => h)) ?_ ?_)) | (refine no_implicit_lambda% (a_qS rfl (qAnd2 (fun _ h => h)) ?_ ?_))); focus ((repeat' (refine no_implicit_lambda% (And.intro ?_ ?_))) <;> (first | exact trivial | exact Int.natCast_nonneg _ | omega | (simp; done) | (simp; omega) | ((show (0 : Int) ≤ _); omega)))
    repeat' (first | (refine no_implicit_lambda% (awd1 ?_)) | (((with_reducible refine no_implicit_lambda% (is_aops ?_)); refine no_implicit_lambda% (o_split rfl rfl rfl (fun hc => ?_) (fun hc => ?_)) <;> first | exact decx hc | rw [hc])) | (((with_reducible refine no_implicit_lambda% (is_cond ?_)); refine no_implicit_lambda% (c_cond rfl (fun hc => ?_) (fun hc => ?_)) <;> first | exact decx hc | skip)) | (((with_reducible refine no_implicit_lambda% (is_aop ?_)); refine no_implicit_lambda% (a_pick rfl rfl (fun hc => ?_) (fun hc => ?_)) <;> first | exact decx hc | rw [hc])) | (refine no_implicit_lambda% (ans ?_)) | (with_reducible exact retN) | (with_reducible exact retP) | fail | fail)
    · have hc2' := of_decide_eq_true hc
      have hcc := hcp (npos (nk Q) hi - npos (nk Q) lo) (by omega)
      (refine no_implicit_lambda% (calw [1] (hcc) ?_ ?_))
      · intro xx H' hh
        obtain ⟨cp2, c1, c2, h', rfl⟩ := hh
        cases h'
        first | (refine no_implicit_lambda% (akc ?_)) | (refine no_implicit_lambda% (aec ?_))
        repeat' (first | (refine no_implicit_lambda% (awd1 ?_)) | (((with_reducible refine no_implicit_lambda% (is_aops ?_)); refine no_implicit_lambda% (o_split rfl rfl rfl (fun hc => ?_) (fun hc => ?_)) <;> first | exact decx hc | rw [hc])) | (((with_reducible refine no_implicit_lambda% (is_cond ?_)); refine no_implicit_lambda% (c_cond rfl (fun hc => ?_) (fun hc => ?_)) <;> first | exact decx hc | skip)) | (((with_reducible refine no_implicit_lambda% (is_aop ?_)); refine no_implicit_lambda% (a_pick rfl rfl (fun hc => ?_) (fun hc => ?_)) <;> first | exact decx hc | rw [hc])) | (refine no_implicit_lambda% (ans ?_)) | (with_reducible exact retN) | (with_reducible exact retP) | fail | fail)
        obtain ⟨cp3, d1, d2, d3, d4⟩ := hfin (npos (nk Q) hi - npos (nk Q) lo) ⟨#[]⟩ cp2 (by omega) (by rw [hR _ he, if_neg (by omega), if_pos (by omega)]) c1 c2
        exact e_ret (H' := tbl Q cp ++ [(2, .seq (((Q.drop (npos (nk Q) lo)).take (npos (nk Q) hi - npos (nk Q) lo)).map nmrow) ((cp2 - (npos (nk Q) hi - npos (nk Q) lo)) * 2))]) (rest := _) rfl ⟨cp3, d1, d2, d3, d4⟩ permT (Nat.le_of_ble_eq_true rfl)
      · intro xx H' hh
        obtain ⟨_, _, _, h', _⟩ := hh
        cases h'
    · have hc2' := of_decide_eq_false hc
      have hcc := hcp mo (by omega)
      obtain ⟨x, hx⟩ : ∃ x, Q[npos (nk Q) lo + mo]? = some x := ⟨_, List.getElem?_eq_getElem (by omega)⟩
      have hq : rangeN Q lo hi most = ((Q.drop (npos (nk Q) lo)).take mo, x.n) := by rw [hR _ he, if_neg (by omega), if_neg (by omega), hx]
      ((with_reducible refine no_implicit_lambda% (is_ev ?_)); first | (refine no_implicit_lambda% (v_qS rfl rfl rfl rfl (qAnd4 (fun _ h => h)) (fun _ h => h) ?_ ?_)) | (refine no_implicit_lambda% (v_qS rfl rfl rfl rfl (qAnd5 (fun _ h => h)) (fun _ h => h) ?_ ?_))); focus ((repeat' (refine no_implicit_lambda% (And.intro ?_ ?_))) <;> (first | exact trivial | exact Int.natCast_nonneg _ | omega | (simp; done) | (simp; omega) | ((show (0 : Int) ≤ _); omega)))
      repeat' (first | (refine no_implicit_lambda% (awd1 ?_)) | (((with_reducible refine no_implicit_lambda% (is_aops ?_)); refine no_implicit_lambda% (o_split rfl rfl rfl (fun hc => ?_) (fun hc => ?_)) <;> first | exact decx hc | rw [hc])) | (((with_reducible refine no_implicit_lambda% (is_cond ?_)); refine no_implicit_lambda% (c_cond rfl (fun hc => ?_) (fun hc => ?_)) <;> first | exact decx hc | skip)) | (((with_reducible refine no_implicit_lambda% (is_aop ?_)); refine no_implicit_lambda% (a_pick rfl rfl (fun hc => ?_) (fun hc => ?_)) <;> first | exact decx hc | rw [hc])) | (refine no_implicit_lambda% (ans ?_)) | (with_reducible exact retN) | (with_reducible exact retP) | fail | fail)
      ((with_reducible refine no_implicit_lambda% (is_ev ?_)); first | (refine no_implicit_lambda% (v_qS rfl rfl rfl rfl (fun _ h => h) (fun _ h => h) ?_ ?_)) | (refine no_implicit_lambda% (v_qS rfl rfl rfl rfl (qAnd2 (fun _ h => h)) (fun _ h => h) ?_ ?_))); focus (first | omega | (simp; done) | (simp; omega))
      repeat' (first | (refine no_implicit_lambda% (awd1 ?_)) | (((with_reducible refine no_implicit_lambda% (is_aops ?_)); refine no_implicit_lambda% (o_split rfl rfl rfl (fun hc => ?_) (fun hc => ?_)) <;> first | exact decx hc | rw [hc])) | (((with_reducible refine no_implicit_lambda% (is_cond ?_)); refine no_implicit_lambda% (c_cond rfl (fun hc => ?_) (fun hc => ?_)) <;> first | exact decx hc | skip)) | (((with_reducible refine no_implicit_lambda% (is_aop ?_)); refine no_implicit_lambda% (a_pick rfl rfl (fun hc => ?_) (fun hc => ?_)) <;> first | exact decx hc | rw [hc])) | (refine no_implicit_lambda% (ans ?_)) | (with_reducible exact retN) | (with_reducible exact retP) | fail | fail)
      ((with_reducible refine no_implicit_lambda% (is_ev ?_)); first | (refine no_implicit_lambda% (v_q rfl rfl rfl rfl (q_loadSeq (sz := 2) (rows := Q.map nmrow) (i := (npos (nk Q) lo + mo)) (j := 0) rfl rfl rfl rfl rfl (nmOk Q) ((by rw [List.getElem?_map, hx]; rfl)) rfl (by first | rfl | (simp; done) | (simp; omega))) (fun _ h => h) ?_)) | (refine no_implicit_lambda% (v_yes rfl rfl rfl rfl rfl rfl (q_loadSeq (sz := 2) (rows := Q.map nmrow) (i := (npos (nk Q) lo + mo)) (j := 0) rfl rfl rfl rfl rfl (nmOk Q) ((by rw [List.getElem?_map, hx]; rfl)) rfl (by first | rfl | (simp; done) | (simp; omega))) (fun _ h => h) ?_)))
      repeat' (first | (refine no_implicit_lambda% (awd1 ?_)) | (((with_reducible refine no_implicit_lambda% (is_aops ?_)); refine no_implicit_lambda% (o_split rfl rfl rfl (fun hc => ?_) (fun hc => ?_)) <;> first | exact decx hc | rw [hc])) | (((with_reducible refine no_implicit_lambda% (is_cond ?_)); refine no_implicit_lambda% (c_cond rfl (fun hc => ?_) (fun hc => ?_)) <;> first | exact decx hc | skip)) | (((with_reducible refine no_implicit_lambda% (is_aop ?_)); refine no_implicit_lambda% (a_pick rfl rfl (fun hc => ?_) (fun hc => ?_)) <;> first | exact decx hc | rw [hc])) | (refine no_implicit_lambda% (ans ?_)) | (with_reducible exact retN) | (with_reducible exact retP) | (refine no_implicit_lambda% (calw [1] (hcc) ?_ ?_)) | fail)
      · intro xx H' hh
        obtain ⟨cp2, c1, c2, h', rfl⟩ := hh
        cases h'
        refine no_implicit_lambda% (aec ?_ (hc := by (intro k h; refine ⟨aload_seq (sz := 2) (rows := Q.map nmrow) (i := npos (nk Q) lo + mo) (j := 0) rfl rfl (nmOk Q) (by rw [List.getElem?_map, hx]; rfl) rfl (by first | rfl | (simp; done) | (simp; omega)), ?_⟩; exact h)))
        repeat' (first | (first | (with_reducible refine no_implicit_lambda% (v_nil ?_)) | ((with_reducible refine no_implicit_lambda% (is_ev ?_)); first | (refine no_implicit_lambda% (v_skips rfl rfl (fun _ h => h) ?_)) | (refine no_implicit_lambda% (v_q rfl rfl rfl rfl (fun _ h => h) (fun _ h => h) ?_)) | (refine no_implicit_lambda% (v_alloc rfl rfl rfl (fun _ h => h) rfl ?_)) | (refine no_implicit_lambda% (v_no rfl rfl rfl rfl rfl rfl (fun _ h => h) ?_)) | (refine no_implicit_lambda% (v_yes rfl rfl rfl rfl rfl rfl (fun _ h => h) (fun _ h => h) ?_)) | (refine no_implicit_lambda% (v_not rfl rfl rfl rfl rfl rfl (fun _ h => h) ?_)))) | ((with_reducible refine no_implicit_lambda% (is_drB ?_)); first | (refine no_implicit_lambda% (b_end rfl rfl (fun _ h => h) (fun _ h => h) ?_)) | (refine no_implicit_lambda% (b_eff rfl rfl rfl rfl (fun _ h => h) (fun _ h => h) rfl ?_)) | (refine no_implicit_lambda% (b_no rfl rfl rfl rfl (fun _ h => h) (fun _ h => h) rfl rfl rfl (fun _ h => h) (fun _ h => h) ?_)) | (refine no_implicit_lambda% (b_yes rfl rfl rfl rfl (fun _ h => h) (fun _ h => h) rfl rfl rfl ?_)) | (refine no_implicit_lambda% (b_not rfl rfl rfl rfl (fun _ h => h) (fun _ h => h) rfl rfl rfl (fun _ h => h) (fun _ h => h) ?_))) | ((with_reducible refine no_implicit_lambda% (is_aop ?_)); first | (refine no_implicit_lambda% (a_q1 rfl (fun _ h => h) ?_)) | (refine no_implicit_lambda% (a_box rfl (fun _ h => h) ?_)) | (refine no_implicit_lambda% (a_alloc rfl (fun _ h => h) ?_)) | (refine no_implicit_lambda% (a_storev rfl (fun _ h => h) ?_)) | (refine no_implicit_lambda% (a_store rfl (fun _ h => h) ?_)) | (refine no_implicit_lambda% (a_panic rfl rfl ?_))))
        refine no_implicit_lambda% (aec ?_ (hc := by (intro k h; refine ⟨aload_seq (sz := 2) (rows := Q.map nmrow) (i := npos (nk Q) lo + mo) (j := 0) rfl rfl (nmOk Q) (by rw [List.getElem?_map, hx]; rfl) rfl (by first | rfl | (simp; done) | (simp; omega)), ?_⟩; exact h)))
        repeat' (first | (refine no_implicit_lambda% (awd1 ?_)) | (((with_reducible refine no_implicit_lambda% (is_aops ?_)); refine no_implicit_lambda% (o_split rfl rfl rfl (fun hc => ?_) (fun hc => ?_)) <;> first | exact decx hc | rw [hc])) | (((with_reducible refine no_implicit_lambda% (is_cond ?_)); refine no_implicit_lambda% (c_cond rfl (fun hc => ?_) (fun hc => ?_)) <;> first | exact decx hc | skip)) | (((with_reducible refine no_implicit_lambda% (is_aop ?_)); refine no_implicit_lambda% (a_pick rfl rfl (fun hc => ?_) (fun hc => ?_)) <;> first | exact decx hc | rw [hc])) | (refine no_implicit_lambda% (ans ?_)) | (with_reducible exact retN) | (with_reducible exact retP) | fail | fail)
        obtain ⟨cp3, d1, d2, d3, d4⟩ := hfin mo x.n cp2 (by omega) hq c1 c2
        exact e_ret (H' := tbl Q cp ++ [(2, .seq (((Q.drop (npos (nk Q) lo)).take mo).map nmrow) ((cp2 - mo) * 2))]) (rest := _) rfl ⟨cp3, d1, d2, d3, d4⟩ permT (Nat.le_of_ble_eq_true rfl)
      · intro xx H' hh
        obtain ⟨_, _, _, h', _⟩ := hh
        cases h'
  · have hc' := of_decide_eq_true hc
    have he : (if hi.toList = [] then Q.length else npos (nk Q) hi) = Q.length := if_pos (by simp_all)
    rw [hR _ he, if_pos (by omega)]
    exact e_ret_to (H' := tbl Q cp ++ [(2, .seq [] 0)]) (rest := []) (Conv.nilSeq (j := 8) rfl) rfl ⟨0, Nat.le_refl _, by decide, rfl, rfl⟩ permT (Nat.le_of_ble_eq_true rfl)
  · have hc' := of_decide_eq_false hc
    have he : (if hi.toList = [] then Q.length else npos (nk Q) hi) = Q.length := if_pos (by simp_all)
    rw [hmi]
    generalize (if 16 < most then (16 : Int) else most) = w
    ((with_reducible refine no_implicit_lambda% (is_aop ?_)); first | (refine no_implicit_lambda% (a_qS rfl (fun _ h => h) ?_ ?_)) | (refine no_implicit_lambda% (a_qS rfl (qIx (fun _ h => h)) ?_ ?_)) | (refine no_implicit_lambda% (a_qS rfl (qAnd5 (fun _ h => h)) ?_ ?_)) | (refine no_implicit_lambda% (a_qS rfl (qStr (fun _ h => h)) ?_ ?_)) | (refine no_implicit_lambda% (a_qS rfl (qAnd4 (fun _ h => h)) ?_ ?_)) | (refine no_implicit_lambda% (a_qS rfl (qAnd2 (fun _ h => h)) ?_ ?_))); focus ((repeat' (refine no_implicit_lambda% (And.intro ?_ ?_))) <;> (first | exact trivial | exact Int.natCast_nonneg _ | omega | (simp; done) | (simp; omega) | ((show (0 : Int) ≤ _); omega)))
    repeat' (first | (refine no_implicit_lambda% (awd1 ?_)) | (((with_reducible refine no_implicit_lambda% (is_aops ?_)); refine no_implicit_lambda% (o_split rfl rfl rfl (fun hc => ?_) (fun hc => ?_)) <;> first | exact decx hc | rw [hc])) | (((with_reducible refine no_implicit_lambda% (is_cond ?_)); refine no_implicit_lambda% (c_cond rfl (fun hc => ?_) (fun hc => ?_)) <;> first | exact decx hc | skip)) | (((with_reducible refine no_implicit_lambda% (is_aop ?_)); refine no_implicit_lambda% (a_pick rfl rfl (fun hc => ?_) (fun hc => ?_)) <;> first | exact decx hc | rw [hc])) | (refine no_implicit_lambda% (ans ?_)) | (with_reducible exact retN) | (with_reducible exact retP) | fail | fail)
    · have hc2' := of_decide_eq_true hc
      have hcc := hcp (Q.length - npos (nk Q) lo) (by omega)
      (refine no_implicit_lambda% (calw [1] (hcc) ?_ ?_))
      · intro xx H' hh
        obtain ⟨cp2, c1, c2, h', rfl⟩ := hh
        cases h'
        first | (refine no_implicit_lambda% (akc ?_)) | (refine no_implicit_lambda% (aec ?_))
        repeat' (first | (refine no_implicit_lambda% (awd1 ?_)) | (((with_reducible refine no_implicit_lambda% (is_aops ?_)); refine no_implicit_lambda% (o_split rfl rfl rfl (fun hc => ?_) (fun hc => ?_)) <;> first | exact decx hc | rw [hc])) | (((with_reducible refine no_implicit_lambda% (is_cond ?_)); refine no_implicit_lambda% (c_cond rfl (fun hc => ?_) (fun hc => ?_)) <;> first | exact decx hc | skip)) | (((with_reducible refine no_implicit_lambda% (is_aop ?_)); refine no_implicit_lambda% (a_pick rfl rfl (fun hc => ?_) (fun hc => ?_)) <;> first | exact decx hc | rw [hc])) | (refine no_implicit_lambda% (ans ?_)) | (with_reducible exact retN) | (with_reducible exact retP) | fail | fail)
        obtain ⟨cp3, d1, d2, d3, d4⟩ := hfin (Q.length - npos (nk Q) lo) ⟨#[]⟩ cp2 (by omega) (by rw [hR _ he, if_neg (by omega), if_pos (by omega)]) c1 c2
        exact e_ret (H' := tbl Q cp ++ [(2, .seq (((Q.drop (npos (nk Q) lo)).take (Q.length - npos (nk Q) lo)).map nmrow) ((cp2 - (Q.length - npos (nk Q) lo)) * 2))]) (rest := _) rfl ⟨cp3, d1, d2, d3, d4⟩ permT (Nat.le_of_ble_eq_true rfl)
      · intro xx H' hh
        obtain ⟨_, _, _, h', _⟩ := hh
        cases h'
    · have hc2' := of_decide_eq_false hc
      have hcc := hcp mo (by omega)
      obtain ⟨x, hx⟩ : ∃ x, Q[npos (nk Q) lo + mo]? = some x := ⟨_, List.getElem?_eq_getElem (by omega)⟩
      have hq : rangeN Q lo hi most = ((Q.drop (npos (nk Q) lo)).take mo, x.n) := by rw [hR _ he, if_neg (by omega), if_neg (by omega), hx]
      ((with_reducible refine no_implicit_lambda% (is_ev ?_)); first | (refine no_implicit_lambda% (v_qS rfl rfl rfl rfl (qAnd4 (fun _ h => h)) (fun _ h => h) ?_ ?_)) | (refine no_implicit_lambda% (v_qS rfl rfl rfl rfl (qAnd5 (fun _ h => h)) (fun _ h => h) ?_ ?_))); focus ((repeat' (refine no_implicit_lambda% (And.intro ?_ ?_))) <;> (first | exact trivial | exact Int.natCast_nonneg _ | omega | (simp; done) | (simp; omega) | ((show (0 : Int) ≤ _); omega)))
      repeat' (first | (refine no_implicit_lambda% (awd1 ?_)) | (((with_reducible refine no_implicit_lambda% (is_aops ?_)); refine no_implicit_lambda% (o_split rfl rfl rfl (fun hc => ?_) (fun hc => ?_)) <;> first | exact decx hc | rw [hc])) | (((with_reducible refine no_implicit_lambda% (is_cond ?_)); refine no_implicit_lambda% (c_cond rfl (fun hc => ?_) (fun hc => ?_)) <;> first | exact decx hc | skip)) | (((with_reducible refine no_implicit_lambda% (is_aop ?_)); refine no_implicit_lambda% (a_pick rfl rfl (fun hc => ?_) (fun hc => ?_)) <;> first | exact decx hc | rw [hc])) | (refine no_implicit_lambda% (ans ?_)) | (with_reducible exact retN) | (with_reducible exact retP) | fail | fail)
      ((with_reducible refine no_implicit_lambda% (is_ev ?_)); first | (refine no_implicit_lambda% (v_qS rfl rfl rfl rfl (fun _ h => h) (fun _ h => h) ?_ ?_)) | (refine no_implicit_lambda% (v_qS rfl rfl rfl rfl (qAnd2 (fun _ h => h)) (fun _ h => h) ?_ ?_))); focus (first | omega | (simp; done) | (simp; omega))
      repeat' (first | (refine no_implicit_lambda% (awd1 ?_)) | (((with_reducible refine no_implicit_lambda% (is_aops ?_)); refine no_implicit_lambda% (o_split rfl rfl rfl (fun hc => ?_) (fun hc => ?_)) <;> first | exact decx hc | rw [hc])) | (((with_reducible refine no_implicit_lambda% (is_cond ?_)); refine no_implicit_lambda% (c_cond rfl (fun hc => ?_) (fun hc => ?_)) <;> first | exact decx hc | skip)) | (((with_reducible refine no_implicit_lambda% (is_aop ?_)); refine no_implicit_lambda% (a_pick rfl rfl (fun hc => ?_) (fun hc => ?_)) <;> first | exact decx hc | rw [hc])) | (refine no_implicit_lambda% (ans ?_)) | (with_reducible exact retN) | (with_reducible exact retP) | fail | fail)
      ((with_reducible refine no_implicit_lambda% (is_ev ?_)); first | (refine no_implicit_lambda% (v_q rfl rfl rfl rfl (q_loadSeq (sz := 2) (rows := Q.map nmrow) (i := (npos (nk Q) lo + mo)) (j := 0) rfl rfl rfl rfl rfl (nmOk Q) ((by rw [List.getElem?_map, hx]; rfl)) rfl (by first | rfl | (simp; done) | (simp; omega))) (fun _ h => h) ?_)) | (refine no_implicit_lambda% (v_yes rfl rfl rfl rfl rfl rfl (q_loadSeq (sz := 2) (rows := Q.map nmrow) (i := (npos (nk Q) lo + mo)) (j := 0) rfl rfl rfl rfl rfl (nmOk Q) ((by rw [List.getElem?_map, hx]; rfl)) rfl (by first | rfl | (simp; done) | (simp; omega))) (fun _ h => h) ?_)))
      repeat' (first | (refine no_implicit_lambda% (awd1 ?_)) | (((with_reducible refine no_implicit_lambda% (is_aops ?_)); refine no_implicit_lambda% (o_split rfl rfl rfl (fun hc => ?_) (fun hc => ?_)) <;> first | exact decx hc | rw [hc])) | (((with_reducible refine no_implicit_lambda% (is_cond ?_)); refine no_implicit_lambda% (c_cond rfl (fun hc => ?_) (fun hc => ?_)) <;> first | exact decx hc | skip)) | (((with_reducible refine no_implicit_lambda% (is_aop ?_)); refine no_implicit_lambda% (a_pick rfl rfl (fun hc => ?_) (fun hc => ?_)) <;> first | exact decx hc | rw [hc])) | (refine no_implicit_lambda% (ans ?_)) | (with_reducible exact retN) | (with_reducible exact retP) | (refine no_implicit_lambda% (calw [1] (hcc) ?_ ?_)) | fail)
      · intro xx H' hh
        obtain ⟨cp2, c1, c2, h', rfl⟩ := hh
        cases h'
        refine no_implicit_lambda% (aec ?_ (hc := by (intro k h; refine ⟨aload_seq (sz := 2) (rows := Q.map nmrow) (i := npos (nk Q) lo + mo) (j := 0) rfl rfl (nmOk Q) (by rw [List.getElem?_map, hx]; rfl) rfl (by first | rfl | (simp; done) | (simp; omega)), ?_⟩; exact h)))
        repeat' (first | (first | (with_reducible refine no_implicit_lambda% (v_nil ?_)) | ((with_reducible refine no_implicit_lambda% (is_ev ?_)); first | (refine no_implicit_lambda% (v_skips rfl rfl (fun _ h => h) ?_)) | (refine no_implicit_lambda% (v_q rfl rfl rfl rfl (fun _ h => h) (fun _ h => h) ?_)) | (refine no_implicit_lambda% (v_alloc rfl rfl rfl (fun _ h => h) rfl ?_)) | (refine no_implicit_lambda% (v_no rfl rfl rfl rfl rfl rfl (fun _ h => h) ?_)) | (refine no_implicit_lambda% (v_yes rfl rfl rfl rfl rfl rfl (fun _ h => h) (fun _ h => h) ?_)) | (refine no_implicit_lambda% (v_not rfl rfl rfl rfl rfl rfl (fun _ h => h) ?_)))) | ((with_reducible refine no_implicit_lambda% (is_drB ?_)); first | (refine no_implicit_lambda% (b_end rfl rfl (fun _ h => h) (fun _ h => h) ?_)) | (refine no_implicit_lambda% (b_eff rfl rfl rfl rfl (fun _ h => h) (fun _ h => h) rfl ?_)) | (refine no_implicit_lambda% (b_no rfl rfl rfl rfl (fun _ h => h) (fun _ h => h) rfl rfl rfl (fun _ h => h) (fun _ h => h) ?_)) | (refine no_implicit_lambda% (b_yes rfl rfl rfl rfl (fun _ h => h) (fun _ h => h) rfl rfl rfl ?_)) | (refine no_implicit_lambda% (b_not rfl rfl rfl rfl (fun _ h => h) (fun _ h => h) rfl rfl rfl (fun _ h => h) (fun _ h => h) ?_))) | ((with_reducible refine no_implicit_lambda% (is_aop ?_)); first | (refine no_implicit_lambda% (a_q1 rfl (fun _ h => h) ?_)) | (refine no_implicit_lambda% (a_box rfl (fun _ h => h) ?_)) | (refine no_implicit_lambda% (a_alloc rfl (fun _ h => h) ?_)) | (refine no_implicit_lambda% (a_storev rfl (fun _ h => h) ?_)) | (refine no_implicit_lambda% (a_store rfl (fun _ h => h) ?_)) | (refine no_implicit_lambda% (a_panic rfl rfl ?_))))
        refine no_implicit_lambda% (aec ?_ (hc := by (intro k h; refine ⟨aload_seq (sz := 2) (rows := Q.map nmrow) (i := npos (nk Q) lo + mo) (j := 0) rfl rfl (nmOk Q) (by rw [List.getElem?_map, hx]; rfl) rfl (by first | rfl | (simp; done) | (simp; omega)), ?_⟩; exact h)))
        repeat' (first | (refine no_implicit_lambda% (awd1 ?_)) | (((with_reducible refine no_implicit_lambda% (is_aops ?_)); refine no_implicit_lambda% (o_split rfl rfl rfl (fun hc => ?_) (fun hc => ?_)) <;> first | exact decx hc | rw [hc])) | (((with_reducible refine no_implicit_lambda% (is_cond ?_)); refine no_implicit_lambda% (c_cond rfl (fun hc => ?_) (fun hc => ?_)) <;> first | exact decx hc | skip)) | (((with_reducible refine no_implicit_lambda% (is_aop ?_)); refine no_implicit_lambda% (a_pick rfl rfl (fun hc => ?_) (fun hc => ?_)) <;> first | exact decx hc | rw [hc])) | (refine no_implicit_lambda% (ans ?_)) | (with_reducible exact retN) | (with_reducible exact retP) | fail | fail)
        obtain ⟨cp3, d1, d2, d3, d4⟩ := hfin mo x.n cp2 (by omega) hq c1 c2
        exact e_ret (H' := tbl Q cp ++ [(2, .seq (((Q.drop (npos (nk Q) lo)).take mo).map nmrow) ((cp2 - mo) * 2))]) (rest := _) rfl ⟨cp3, d1, d2, d3, d4⟩ permT (Nat.le_of_ble_eq_true rfl)
      · intro xx H' hh
        obtain ⟨_, _, _, h', _⟩ := hh
        cases h'
end Go.Proofs.Ytjepgbpcpcahgaa
namespace Go.Proofs.Ytjepgbpcpcahgaa
open Go.Am
set_option linter.unusedSimpArgs false
set_option linter.unusedVariables false
set_option maxRecDepth 100000
theorem nm_eq {Q : List Nm} {s : ByteArray} {i : Nat} {x : Nm} (hs : Nsort (nk Q)) (hx : Q[i]? = some x) (h : (x.n.toList == s.toList) = true) : npos (nk Q) s = i ∧ hasN (nk Q) s = true ∧ x.n = s := by
  have e := bytes_eq (eq_of_beq h)
  have h2 := npos_at hs (nk_at hx)
  rw [← e]
  exact ⟨h2.1, h2.2, rfl⟩
theorem nm_ne {Q : List Nm} {s : ByteArray} {i : Nat} {x : Nm} (hx : Q[i]? = some x) (h : (x.n.toList == s.toList) = false) (hN : hasN (nk Q) s = true) : npos (nk Q) s ≠ i := by
  rintro rfl
  obtain ⟨y, hy, he⟩ := hasN_nm hN
  rw [hx] at hy
  cases hy
  rw [he] at h
  simp at h
def rffSt (Q : List Nm) (s : ByteArray) (i : Nat) : ASt := ⟨([.list (Q.map nmrow) .free, .v (.string s), .dead, .dead, .ptr 0 0, .dead, .v (.int .i64 i)] ++ List.replicate 20 .dead), [(0, .box [.list [] .full])], 1⟩
theorem rfind_c (Q : List Nm) (s : ByteArray) (hQ : TbOk Q) : ACalls Try.prog 82 0 20 [.list (Q.map nmrow) .free, .v (.string s)] [] (fun out H' => out = .ret (.tuple [rowA (getN Q s).1, .v (.bool (getN Q s).2)]) ∧ H' = []) := by
  have hl := hQ.len
  refine no_implicit_lambda% (acalls_of tok dok (f := 82) ⟨Try.func82, rfl, by kernel_rfl⟩ ?_); refine no_implicit_lambda% (c_start (fun _ h => h) ?_)
  repeat' (first | (refine no_implicit_lambda% (awd1 ?_)) | (((with_reducible refine no_implicit_lambda% (is_aops ?_)); refine no_implicit_lambda% (o_split rfl rfl rfl (fun hc => ?_) (fun hc => ?_)) <;> first | exact decx hc | rw [hc])) | (((with_reducible refine no_implicit_lambda% (is_cond ?_)); refine no_implicit_lambda% (c_cond rfl (fun hc => ?_) (fun hc => ?_)) <;> first | exact decx hc | skip)) | (((with_reducible refine no_implicit_lambda% (is_aop ?_)); refine no_implicit_lambda% (a_pick rfl rfl (fun hc => ?_) (fun hc => ?_)) <;> first | exact decx hc | rw [hc])) | (refine no_implicit_lambda% (ans ?_)) | (with_reducible exact retN) | (with_reducible exact retP) | fail | fail)
  refine c_loop' (rffSt Q s) (fun i => i ≤ Q.length ∧ (hasN (nk Q) s = true → i ≤ npos (nk Q) s)) (fun i => Q.length - i) (a := 0) ⟨Nat.zero_le _, fun _ => Nat.zero_le _⟩ ?_ ?_
  · (refine no_implicit_lambda% (Conv.toT ?_ ?_ (Nat.le_of_ble_eq_true rfl))); (focus ((unfold rffSt); (try dsimp only); exact wkl)); (focus ((unfold rffSt); (try dsimp only); exact wkh))
  · rintro i ⟨i1, i2⟩
    refine c_turn (n' := 1) (fun _ h => h) (fun _ h => h) rfl ?_
    rcases hx : Q[i]? with _ | x
    · have hi : Q.length ≤ i := List.getElem?_eq_none_iff.1 hx
      have hN : hasN (nk Q) s = false := by
        rcases h : hasN (nk Q) s with _ | _
        · rfl
        · have := hasN_len h; have := i2 h; omega
      have hg : getN Q s = ([], false) := by unfold getN; rw [hN, if_neg (by simp)]
      repeat' (first | (refine no_implicit_lambda% (awd1 ?_)) | (((with_reducible refine no_implicit_lambda% (is_aops ?_)); refine no_implicit_lambda% (o_split rfl rfl rfl (fun hc => ?_) (fun hc => ?_)) <;> first | exact decx hc | rw [hc])) | (((with_reducible refine no_implicit_lambda% (is_cond ?_)); refine no_implicit_lambda% (c_cond rfl (fun hc => ?_) (fun hc => ?_)) <;> first | exact decx hc | skip)) | (((with_reducible refine no_implicit_lambda% (is_aop ?_)); refine no_implicit_lambda% (a_pick rfl rfl (fun hc => ?_) (fun hc => ?_)) <;> first | exact decx hc | rw [hc])) | (refine no_implicit_lambda% (ans ?_)) | (with_reducible exact retN) | (with_reducible exact retP) | fail | fail)
      rw [hg]
      refine e_ret_to (H' := []) (rest := [(0, .box [.list [] .free])]) (Conv.toT (τ := ⟨_, [(0, .box [.list [] .free])], _⟩) (.refl _) ?_ (Nat.le_refl _)) rfl ⟨rfl, rfl⟩ permT (Nat.le_of_ble_eq_true rfl)
      exact wkh
    · have hi : i < Q.length := (List.getElem?_eq_some_iff.1 hx).1
      have hix := nmx hx
      have hxz := hQ.sz x (List.mem_of_getElem? hx)
      have hcp := qcopy_f x.r (by have := hxz.1.len; omega) hxz.2
      rw [hxz.1.copy] at hcp
      repeat' (first | (refine no_implicit_lambda% (awd1 ?_)) | (((with_reducible refine no_implicit_lambda% (is_aops ?_)); refine no_implicit_lambda% (o_split rfl rfl rfl (fun hc => ?_) (fun hc => ?_)) <;> first | exact decx hc | rw [hc])) | (((with_reducible refine no_implicit_lambda% (is_cond ?_)); refine no_implicit_lambda% (c_cond rfl (fun hc => ?_) (fun hc => ?_)) <;> first | exact decx hc | skip)) | (((with_reducible refine no_implicit_lambda% (is_aop ?_)); refine no_implicit_lambda% (a_pick rfl rfl (fun hc => ?_) (fun hc => ?_)) <;> first | exact decx hc | rw [hc])) | (refine no_implicit_lambda% (ans ?_)) | (with_reducible exact retN) | (with_reducible exact retP) | (refine no_implicit_lambda% (cal [] (hcp) ?_ ?_)) | fail)
      · obtain ⟨h1, h2, h3⟩ := nm_eq hQ.srt hx hc
        have hg : getN Q s = (x.r, true) := by unfold getN; rw [h2, if_pos rfl, h1, hx]
        rw [hg]
        exact e_ret (H' := []) (rest := _) rfl ⟨rfl, rfl⟩ permT (Nat.le_of_ble_eq_true rfl)
      · (refine no_implicit_lambda% (k_loopT (i + 1) (by show i + 1 ≤ Q.length ∧ (hasN (nk Q) s = true → i + 1 ≤ npos (nk Q) s); exact ⟨hi, fun h => by have := nm_ne hx hc h; have := i2 h; omega⟩) (by first | omega | (simp; done) | (simp; omega)) ?_ ?_)); (focus ((unfold rffSt); (try dsimp only); exact wkl)); (focus ((unfold rffSt); (try dsimp only); exact wkh))
end Go.Proofs.Ytjepgbpcpcahgaa
namespace Go.Proofs.Ytjepgbpcpcahgaa
open Go.Am
set_option linter.unusedSimpArgs false
set_option linter.unusedVariables false
set_option maxRecDepth 100000
def putNm (Q : List Nm) (s : ByteArray) (r : List Co) : List Nm :=
  if r = [] then (if hasN (nk Q) s then Q.eraseIdx (npos (nk Q) s) else Q) else
  if hasN (nk Q) s then Q.set (npos (nk Q) s) ⟨s, copyR r⟩ else insAt Q (npos (nk Q) s) ⟨s, copyR r⟩
/-- what is there after i rows -/
def prt (Q : List Nm) (s : ByteArray) (r : List Co) (i : Nat) : List Nm :=
  if i ≤ npos (nk Q) s then Q.take i else
  Q.take (npos (nk Q) s) ++ ((if r = [] then [] else [⟨s, copyR r⟩]) ++ ((Q.take i).drop (npos (nk Q) s + if hasN (nk Q) s then 1 else 0)))
theorem prt_lo {Q : List Nm} {s : ByteArray} {r : List Co} {i : Nat} (h : i ≤ npos (nk Q) s) : prt Q s r i = Q.take i := if_pos h
theorem prt_hi {Q : List Nm} {s : ByteArray} {r : List Co} {i : Nat} (h : npos (nk Q) s < i) : prt Q s r i = Q.take (npos (nk Q) s) ++ ((if r = [] then [] else [⟨s, copyR r⟩]) ++ ((Q.take i).drop (npos (nk Q) s + if hasN (nk Q) s then 1 else 0))) := if_neg (by omega)
theorem take_s {Q : List Nm} {i : Nat} {x : Nm} (h : Q[i]? = some x) : Q.take (i + 1) = Q.take i ++ [x] := by rw [List.take_add_one, h]; rfl
/-- ahead of the place -/
theorem prt_a {Q : List Nm} {s : ByteArray} {r : List Co} {i : Nat} {x : Nm} (h : Q[i]? = some x) (hi : i < npos (nk Q) s) : prt Q s r (i + 1) = prt Q s r i ++ [x] := by
  rw [prt_lo (by omega), prt_lo (by omega), take_s h]
/-- at the place, where it is there -/
theorem prt_b {Q : List Nm} {s : ByteArray} {r : List Co} {x : Nm} (h : Q[npos (nk Q) s]? = some x) (hN : hasN (nk Q) s = true) : prt Q s r (npos (nk Q) s + 1) = prt Q s r (npos (nk Q) s) ++ (if r = [] then [] else [⟨s, copyR r⟩]) := by
  rw [prt_hi (by omega), prt_lo (Nat.le_refl _), hN, if_pos rfl, List.drop_eq_nil_of_le (by rw [List.length_take]; omega), List.append_nil]
/-- .. where it is not -/
theorem prt_c {Q : List Nm} {s : ByteArray} {r : List Co} {x : Nm} (h : Q[npos (nk Q) s]? = some x) (hN : hasN (nk Q) s = false) : prt Q s r (npos (nk Q) s + 1) = prt Q s r (npos (nk Q) s) ++ (if r = [] then [] else [⟨s, copyR r⟩]) ++ [x] := by
  have hl := (List.getElem?_eq_some_iff.1 h).1
  rw [prt_hi (by omega), prt_lo (Nat.le_refl _), hN]
  simp only [Bool.false_eq_true, if_false, Nat.add_zero]
  rw [take_s h, List.drop_append_of_le_length (by rw [List.length_take]; omega), List.drop_eq_nil_of_le (by rw [List.length_take]; omega), List.nil_append, List.append_assoc]
/-- behind it -/
theorem prt_d {Q : List Nm} {s : ByteArray} {r : List Co} {i : Nat} {x : Nm} (h : Q[i]? = some x) (hi : npos (nk Q) s < i) : prt Q s r (i + 1) = prt Q s r i ++ [x] := by
  have hl := (List.getElem?_eq_some_iff.1 h).1
  rw [prt_hi (by omega), prt_hi (by omega), take_s h, List.drop_append_of_le_length (by rw [List.length_take]; split <;> omega)]
  simp only [List.append_assoc]
theorem prt_end {Q : List Nm} {s : ByteArray} {r : List Co} : (if r ≠ [] ∧ Q.length ≤ npos (nk Q) s then prt Q s r Q.length ++ [⟨s, copyR r⟩] else prt Q s r Q.length) = putNm Q s r := by
  have hpl := npos_le (nk Q) s
  rw [nk_len] at hpl
  unfold putNm
  rcases Nat.lt_or_ge (npos (nk Q) s) Q.length with hlt | hge
  · rw [if_neg (by omega), prt_hi hlt, List.take_length]
    rcases hN : hasN (nk Q) s with _ | _
    · simp only [Bool.false_eq_true, if_false, Nat.add_zero]
      by_cases hr : r = []
      · simp [hr]
      · simp [hr, insAt]
    · simp only [if_true]
      by_cases hr : r = []
      · simp [hr, List.eraseIdx_eq_take_drop_succ]
      · simp [hr, List.set_eq_take_append_cons_drop, hlt]
  · have hN : hasN (nk Q) s = false := by
      rcases h : hasN (nk Q) s with _ | _
      · rfl
      · have := hasN_len h; omega
    rw [prt_lo hge, List.take_length, hN]
    by_cases hr : r = []
    · simp [hr]
    · have e : npos (nk Q) s = Q.length := by omega
      simp [hr, e, insAt]
theorem setN_eq {Q : List Nm} {s : ByteArray} {r : List Co} (hQ : Q.length ≤ 32) : setN Q s r = if nmB s = false ∨ rowB r = false then (1, Q) else if hasN (nk Q) s = false ∧ r ≠ [] ∧ 32 ≤ Q.length then (13, Q) else (0, putNm Q s r) := by
  unfold setN putNm
  by_cases h1 : nmB s = false ∨ rowB r = false
  · rw [if_pos h1, if_pos h1]
  · rw [if_neg h1, if_neg h1]
    by_cases hr : r = []
    · simp [hr]
    · rcases hN : hasN (nk Q) s with _ | _
      · by_cases h32 : 32 ≤ Q.length
        · simp [hr, h32]
        · simp [hr, h32]
      · simp [hr]
end Go.Proofs.Ytjepgbpcpcahgaa
namespace Go.Proofs.Ytjepgbpcpcahgaa
open Go.Am
set_option linter.unusedSimpArgs false
set_option linter.unusedVariables false
set_option maxRecDepth 100000
theorem prt_len {Q : List Nm} {s : ByteArray} {r : List Co} {i : Nat} (h : i ≤ Q.length) : (prt Q s r i).length ≤ i + 1 := by
  unfold prt
  split
  · rw [List.length_take]; omega
  · rw [List.length_append, List.length_append, List.length_take, List.length_drop, List.length_take]
    split
    · simp only [List.length_nil]; omega
    · simp only [List.length_cons, List.length_nil]; omega
theorem prt_ne {Q : List Nm} {s : ByteArray} {r : List Co} {i : Nat} {x : Nm} (hx : Q[i]? = some x) (hne : (!x.n.toList == s.toList) = true) (hd : r = [] ∨ npos (nk Q) s ≠ i) : prt Q s r i ++ [x] = prt Q s r (i + 1) := by
  rcases Nat.lt_trichotomy i (npos (nk Q) s) with h | h | h
  · rw [prt_a hx h]
  · have hr : r = [] := hd.elim id fun h2 => absurd h.symm h2
    subst h
    have hN : hasN (nk Q) s = false := by
      rcases hn : hasN (nk Q) s with _ | _
      · rfl
      · exact absurd rfl (nm_ne hx (by simpa using hne) hn)
    rw [prt_c hx hN, if_pos hr, List.append_nil]
  · rw [prt_d hx h]
theorem prt_eqs {Q : List Nm} {s : ByteArray} {r : List Co} {i : Nat} {x : Nm} (hs : Nsort (nk Q)) (hx : Q[i]? = some x) (he : (!x.n.toList == s.toList) = false) : npos (nk Q) s = i ∧ prt Q s r i ++ (if r = [] then [] else [⟨s, copyR r⟩]) = prt Q s r (i + 1) := by
  obtain ⟨h1, h2, h3⟩ := nm_eq hs hx (by simpa using he)
  subst h1
  exact ⟨rfl, (prt_b hx h2).symm⟩
theorem prt_new {Q : List Nm} {s : ByteArray} {r : List Co} {i : Nat} {x : Nm} (hx : Q[i]? = some x) (hne : (!x.n.toList == s.toList) = true) (hd : npos (nk Q) s = i) (hr : r ≠ []) : prt Q s r i ++ [⟨s, copyR r⟩] ++ [x] = prt Q s r (i + 1) := by
  subst hd
  have hN : hasN (nk Q) s = false := by
    rcases hn : hasN (nk Q) s with _ | _
    · rfl
    · exact absurd rfl (nm_ne hx (by simpa using hne) hn)
  rw [prt_c hx hN, if_neg hr]
def rpSt (Q : List Nm) (s : ByteArray) (r : List Co) (o : List Nm) (d : Bool) (i : Nat) : ASt := ⟨([.list (Q.map nmrow) .free, .v (.string s), .dead, .dead, .dead, .ptr 0 0, .dead, .list (o.map nmrow) (.tok 1), .v (.bool d), .v (.int .i64 i)] ++ List.replicate 52 .dead), [(1, .tok 2 o.length), (0, .box [.list (r.map corow) .free])], 2⟩
set_option maxHeartbeats 6400000 in
theorem rput_c (Q : List Nm) (s : ByteArray) (r : List Co) (hQ : TbOk Q) (hr : r.length < 70368744177664) (hz : RowSz r) : ACalls Try.prog 83 0 5000 [.list (Q.map nmrow) .free, .v (.string s), rowA r] [] (fun out H' => out = .ret (.list ((putNm Q s r).map nmrow) .free) ∧ H' = []) := by
  have hl := hQ.len
  have hcp := qcopy_f r hr hz
  have hpe : (if r ≠ [] ∧ Q.length ≤ npos (nk Q) s then prt Q s r Q.length ++ [⟨s, copyR r⟩] else prt Q s r Q.length) = putNm Q s r := prt_end
  refine no_implicit_lambda% (acalls_of tok dok (f := 83) ⟨Try.func83, rfl, by kernel_rfl⟩ ?_); refine no_implicit_lambda% (c_start (fun _ h => h) ?_)
  repeat' (first | (refine no_implicit_lambda% (awd1 ?_)) | (((with_reducible refine no_implicit_lambda% (is_aops ?_)); refine no_implicit_lambda% (o_split rfl rfl rfl (fun hc => ?_) (fun hc => ?_)) <;> first | exact decx hc | rw [hc])) | (((with_reducible refine no_implicit_lambda% (is_cond ?_)); refine no_implicit_lambda% (c_cond rfl (fun hc => ?_) (fun hc => ?_)) <;> first | exact decx hc | skip)) | (((with_reducible refine no_implicit_lambda% (is_aop ?_)); refine no_implicit_lambda% (a_pick rfl rfl (fun hc => ?_) (fun hc => ?_)) <;> first | exact decx hc | rw [hc])) | (refine no_implicit_lambda% (ans ?_)) | (with_reducible exact retN) | (with_reducible exact retP) | fail | fail)
  refine c_l3 (rpSt Q s r) (fun o d i => i ≤ Q.length ∧ o = prt Q s r i ∧ (d = true ↔ (r = [] ∨ npos (nk Q) s < i))) (fun _ _ i => Q.length - i) [] (((r.map corow).length : Int) == 0) 0 ⟨Nat.zero_le _, by rw [prt_lo (Nat.zero_le _)]; rfl, by
    constructor
    · intro h
      left
      have h2 := eq_of_beq h
      rw [List.length_map] at h2
      exact List.eq_nil_of_length_eq_zero (by omega)
    · rintro (h | h)
      · subst h; rfl
      · omega⟩ ((Conv.tokSlot (j := 7) (sz := 2) (rows := []) rfl (by simp)).trans ?_) ?_
  · (refine no_implicit_lambda% (Conv.toT ?_ ?_ (Nat.le_of_ble_eq_true rfl))); (focus ((unfold rpSt); (try dsimp only); exact wkl)); (focus ((unfold rpSt); (try dsimp only); exact wkh))
  · rintro o d i ⟨i1, ho, hd⟩
    have hol := prt_len (s := s) (r := r) i1
    rw [← ho] at hol
    have r1 : ∀ row ∈ o.map nmrow, row.length = 2 := (nmOk o).len
    have b1 : (o.map nmrow).length ≤ 40 := by rw [List.length_map]; omega
    have r2 : ∀ row ∈ o.map nmrow ++ [[.v (.string s), .list ((copyR r).map corow) .free]], row.length = 2 := by
      have h := (nmOk (o ++ [(⟨s, copyR r⟩ : Nm)])).len
      rwa [List.map_append] at h
    have b2 : (o.map nmrow ++ [[AV.v (.string s), AV.list ((copyR r).map corow) .free]]).length ≤ 40 := by rw [List.length_append, List.length_map]; simp; omega
    refine c_turn (n' := 2) (fun _ h => h) (fun _ h => h) rfl ?_
    rcases hx : Q[i]? with _ | x
    · have hi : Q.length ≤ i := List.getElem?_eq_none_iff.1 hx
      have hie : i = Q.length := by omega
      rcases d with _ | _
      · have hn : r ≠ [] ∧ Q.length ≤ npos (nk Q) s := by
          have h1 : ¬ (r = [] ∨ npos (nk Q) s < i) := fun h => by have := hd.2 h; cases this
          exact ⟨fun h => h1 (.inl h), by have h2 : ¬ npos (nk Q) s < i := fun h => h1 (.inr h); omega⟩
        rw [if_pos hn, ← hie, ← ho] at hpe
        repeat' (first | (refine no_implicit_lambda% (awd1 ?_)) | (((with_reducible refine no_implicit_lambda% (is_aops ?_)); refine no_implicit_lambda% (o_split rfl rfl rfl (fun hc => ?_) (fun hc => ?_)) <;> first | exact decx hc | rw [hc])) | (((with_reducible refine no_implicit_lambda% (is_cond ?_)); refine no_implicit_lambda% (c_cond rfl (fun hc => ?_) (fun hc => ?_)) <;> first | exact decx hc | skip)) | (((with_reducible refine no_implicit_lambda% (is_aop ?_)); refine no_implicit_lambda% (a_pick rfl rfl (fun hc => ?_) (fun hc => ?_)) <;> first | exact decx hc | rw [hc])) | (((with_reducible refine no_implicit_lambda% (is_ev ?_)); refine no_implicit_lambda% (v_split rfl rfl rfl rfl (fun hc => ?_) (fun hc => ?_)) <;> first | exact decx hc | rw [hc])) | (refine no_implicit_lambda% (ans ?_)) | (with_reducible exact retN) | (with_reducible exact retP) | (refine no_implicit_lambda% (cal [] (hcp) ?_ ?_)) | fail)
        rw [← hpe, List.map_append]
        exact e_ret_to (H' := []) (rest := _) (.freeSlot 6 rfl) rfl ⟨rfl, rfl⟩ (.refl _) (Nat.le_of_ble_eq_true rfl)
      · have hn : ¬ (r ≠ [] ∧ Q.length ≤ npos (nk Q) s) := by
          have h1 := hd.1 rfl
          rintro ⟨h2, h3⟩
          rcases h1 with h | h
          · exact h2 h
          · omega
        rw [if_neg hn, ← hie, ← ho] at hpe
        repeat' (first | (refine no_implicit_lambda% (awd1 ?_)) | (((with_reducible refine no_implicit_lambda% (is_aops ?_)); refine no_implicit_lambda% (o_split rfl rfl rfl (fun hc => ?_) (fun hc => ?_)) <;> first | exact decx hc | rw [hc])) | (((with_reducible refine no_implicit_lambda% (is_cond ?_)); refine no_implicit_lambda% (c_cond rfl (fun hc => ?_) (fun hc => ?_)) <;> first | exact decx hc | skip)) | (((with_reducible refine no_implicit_lambda% (is_aop ?_)); refine no_implicit_lambda% (a_pick rfl rfl (fun hc => ?_) (fun hc => ?_)) <;> first | exact decx hc | rw [hc])) | (((with_reducible refine no_implicit_lambda% (is_ev ?_)); refine no_implicit_lambda% (v_split rfl rfl rfl rfl (fun hc => ?_) (fun hc => ?_)) <;> first | exact decx hc | rw [hc])) | (refine no_implicit_lambda% (ans ?_)) | (with_reducible exact retN) | (with_reducible exact retP) | (refine no_implicit_lambda% (cal [] (hcp) ?_ ?_)) | fail)
        rw [← hpe]
        exact e_ret_to (H' := []) (rest := _) (.freeSlot 6 rfl) rfl ⟨rfl, rfl⟩ (.refl _) (Nat.le_of_ble_eq_true rfl)
    · have hi : i < Q.length := (List.getElem?_eq_some_iff.1 hx).1
      have hix := nmx hx
      have hk := npos_lt (s := s) hQ.srt (nk_at hx)
      have hI : ∀ (o' : List Nm) (d' : Bool), o' = prt Q s r (i + 1) → (d' = true ↔ (r = [] ∨ npos (nk Q) s < i + 1)) → i + 1 ≤ Q.length ∧ o' = prt Q s r (i + 1) ∧ (d' = true ↔ (r = [] ∨ npos (nk Q) s < i + 1)) := fun _ _ h1 h2 => ⟨hi, h1, h2⟩
      rcases d with _ | _
      · have h1 : ¬ (r = [] ∨ npos (nk Q) s < i) := fun h => by have := hd.2 h; cases this
        have hrn : r ≠ [] := fun h => h1 (.inl h)
        have hin : i ≤ npos (nk Q) s := by have h2 : ¬ npos (nk Q) s < i := fun h => h1 (.inr h); omega
        repeat' (first | (refine no_implicit_lambda% (awd1 ?_)) | (((with_reducible refine no_implicit_lambda% (is_aops ?_)); refine no_implicit_lambda% (o_split rfl rfl rfl (fun hc => ?_) (fun hc => ?_)) <;> first | exact decx hc | rw [hc])) | (((with_reducible refine no_implicit_lambda% (is_cond ?_)); refine no_implicit_lambda% (c_cond rfl (fun hc => ?_) (fun hc => ?_)) <;> first | exact decx hc | skip)) | (((with_reducible refine no_implicit_lambda% (is_aop ?_)); refine no_implicit_lambda% (a_pick rfl rfl (fun hc => ?_) (fun hc => ?_)) <;> first | exact decx hc | rw [hc])) | (((with_reducible refine no_implicit_lambda% (is_ev ?_)); refine no_implicit_lambda% (v_split rfl rfl rfl rfl (fun hc => ?_) (fun hc => ?_)) <;> first | exact decx hc | rw [hc])) | (refine no_implicit_lambda% (ans ?_)) | (with_reducible exact retN) | (with_reducible exact retP) | (refine no_implicit_lambda% (cal [] (hcp) ?_ ?_)) | fail)
        · have hg : (!sLt x.n s) = true := by assumption
          have hni : npos (nk Q) s = i := by
            have h2 : ¬ i < npos (nk Q) s := fun h => by rw [hk.1 h] at hg; cases hg
            omega
          have he : o.map nmrow ++ [[AV.v (.string s), AV.list ((copyR r).map corow) .free]] ++ [[AV.v (.string x.n), AV.list (x.r.map corow) .free]] = (o ++ [(⟨s, copyR r⟩ : Nm)] ++ [x]).map nmrow := by simp [nmrow]
          rw [he]
          (refine no_implicit_lambda% (k_loopLT (((o ++ [⟨s, copyR r⟩] ++ [x], true, i + 1) : List Nm × Bool × Nat)) 0 (List.range 2) (hI _ _ (by rw [ho]; exact prt_new hx hc hni hrn) ⟨fun _ => .inr (by omega), fun _ => rfl⟩) (by first | omega | (simp; done) | (simp; omega)) (Nat.le_of_ble_eq_true rfl) (fun _ h => h) (fun _ h => h) ?_ ?_)); (focus ((try dsimp only); exact wkl)); (focus ((try dsimp only); exact wkh))
        · have h2 := prt_eqs (r := r) hQ.srt hx hc
          have hni := h2.1
          rw [if_neg hrn] at h2
          (refine no_implicit_lambda% (k_loopLT (((o ++ [⟨s, copyR r⟩], true, i + 1) : List Nm × Bool × Nat)) 0 (List.range 2) (hI _ _ (by rw [ho]; exact h2.2) ⟨fun _ => .inr (by omega), fun _ => rfl⟩) (by first | omega | (simp; done) | (simp; omega)) (Nat.le_of_ble_eq_true rfl) (fun _ h => h) (fun _ h => h) ?_ ?_)); (focus ((try dsimp only); exact wkl)); (focus ((try dsimp only); exact wkh))
        · have hg : (!sLt x.n s) = false := by assumption
          have hlt : i < npos (nk Q) s := hk.2 (by simpa using hg)
          (refine no_implicit_lambda% (k_loopLT (((o ++ [x], false, i + 1) : List Nm × Bool × Nat)) 0 (List.range 2) (hI _ _ (by rw [ho]; exact prt_ne hx hc (.inr (by omega))) ⟨(fun h => by cases h), (fun h => h.elim (fun h => absurd h hrn) (fun h => absurd h (by omega)))⟩) (by first | omega | (simp; done) | (simp; omega)) (Nat.le_of_ble_eq_true rfl) (fun _ h => h) (fun _ h => h) ?_ ?_)); (focus ((try dsimp only); exact wkl)); (focus ((try dsimp only); exact wkh))
        · exfalso
          have hg : (!sLt x.n s) = false := by assumption
          have hlt : i < npos (nk Q) s := hk.2 (by simpa using hg)
          have h2 := (prt_eqs (r := r) hQ.srt hx hc).1
          omega
      · have h1 := hd.1 rfl
        repeat' (first | (refine no_implicit_lambda% (awd1 ?_)) | (((with_reducible refine no_implicit_lambda% (is_aops ?_)); refine no_implicit_lambda% (o_split rfl rfl rfl (fun hc => ?_) (fun hc => ?_)) <;> first | exact decx hc | rw [hc])) | (((with_reducible refine no_implicit_lambda% (is_cond ?_)); refine no_implicit_lambda% (c_cond rfl (fun hc => ?_) (fun hc => ?_)) <;> first | exact decx hc | skip)) | (((with_reducible refine no_implicit_lambda% (is_aop ?_)); refine no_implicit_lambda% (a_pick rfl rfl (fun hc => ?_) (fun hc => ?_)) <;> first | exact decx hc | rw [hc])) | (((with_reducible refine no_implicit_lambda% (is_ev ?_)); refine no_implicit_lambda% (v_split rfl rfl rfl rfl (fun hc => ?_) (fun hc => ?_)) <;> first | exact decx hc | rw [hc])) | (refine no_implicit_lambda% (ans ?_)) | (with_reducible exact retN) | (with_reducible exact retP) | fail | fail)
        · (refine no_implicit_lambda% (k_loopLT (((o ++ [x], true, i + 1) : List Nm × Bool × Nat)) 0 (List.range 2) (hI _ _ (by rw [ho]; exact prt_ne hx hc (h1.imp id (by omega))) ⟨fun _ => h1.imp id (by omega), fun _ => rfl⟩) (by first | omega | (simp; done) | (simp; omega)) (Nat.le_of_ble_eq_true rfl) (fun _ h => h) (fun _ h => h) ?_ ?_)); (focus ((try dsimp only); exact wkl)); (focus ((try dsimp only); exact wkh))
        · have h2 := prt_eqs (r := r) hQ.srt hx hc
          have hr0 : r = [] := h1.elim id (fun h => absurd h (by omega))
          rw [if_pos hr0, List.append_nil] at h2
          (refine no_implicit_lambda% (k_loopLT (((o, true, i + 1) : List Nm × Bool × Nat)) 0 (List.range 2) (hI _ _ (by rw [ho]; exact h2.2) ⟨fun _ => .inl hr0, fun _ => rfl⟩) (by first | omega | (simp; done) | (simp; omega)) (Nat.le_of_ble_eq_true rfl) (fun _ h => h) (fun _ h => h) ?_ ?_)); (focus ((try dsimp only); exact wkl)); (focus ((try dsimp only); exact wkh))
end Go.Proofs.Ytjepgbpcpcahgaa
namespace Go.Proofs.Ytjepgbpcpcahgaa
open Go.Am
set_option linter.unusedSimpArgs false
set_option linter.unusedVariables false
set_option maxRecDepth 100000
set_option maxHeartbeats 6400000 in
theorem rset_c (Q : List Nm) (s : ByteArray) (r : List Co) (hQ : TbOk Q) (hr : r.length < 70368744177664) (hz : RowSz r) : ACalls Try.prog 42 0 20000 [.list (Q.map nmrow) .free, .v (.string s), rowA r] [] (fun out H' => out = .ret (.tuple [.list ((setN Q s r).2.map nmrow) .free, .v (.int .i64 (setN Q s r).1)]) ∧ H' = []) := by
  have hl := hQ.len
  have hnm := rname_c s
  have hrt := (rright_c r hr).top0
  have hfd := rfind_c Q s hQ
  have hpt := rput_c Q s r hQ hr hz
  have hse := setN_eq (s := s) (r := r) hl
  have hg2 : (getN Q s).2 = hasN (nk Q) s := by unfold getN; split <;> simp_all
  rw [hg2] at hfd
  have hrl : (((r.map corow).length : Int) > 0) ↔ r ≠ [] := by rw [List.length_map]; cases r <;> simp
  have hnot : (!nmB s) = false → (!rowB r) = false → ¬ (nmB s = false ∨ rowB r = false) := fun h1 h2 h => by
    rcases h with h | h
    · rw [h] at h1; cases h1
    · rw [h] at h2; cases h2
  refine no_implicit_lambda% (acalls_of tok dok (f := 42) ⟨Try.func42, rfl, by kernel_rfl⟩ ?_); refine no_implicit_lambda% (c_start (fun _ h => h) ?_)
  repeat' (first | (refine no_implicit_lambda% (awd1 ?_)) | (((with_reducible refine no_implicit_lambda% (is_aops ?_)); refine no_implicit_lambda% (o_split rfl rfl rfl (fun hc => ?_) (fun hc => ?_)) <;> first | exact decx hc | rw [hc])) | (((with_reducible refine no_implicit_lambda% (is_cond ?_)); refine no_implicit_lambda% (c_cond rfl (fun hc => ?_) (fun hc => ?_)) <;> first | exact decx hc | skip)) | (((with_reducible refine no_implicit_lambda% (is_aop ?_)); refine no_implicit_lambda% (a_pick rfl rfl (fun hc => ?_) (fun hc => ?_)) <;> first | exact decx hc | rw [hc])) | (((with_reducible refine no_implicit_lambda% (is_ev ?_)); refine no_implicit_lambda% (v_split rfl rfl rfl rfl (fun hc => ?_) (fun hc => ?_)) <;> first | exact decx hc | rw [hc])) | (refine no_implicit_lambda% (ans ?_)) | (with_reducible exact retN) | (with_reducible exact retP) | (refine no_implicit_lambda% (cal [] (hnm) ?_ ?_)) | (refine no_implicit_lambda% (cal [] (hrt) ?_ ?_)) | (refine no_implicit_lambda% (cal [] (hfd) ?_ ?_)) | (refine no_implicit_lambda% (cal [] (hpt) ?_ ?_)) | fail)
  · rw [show setN Q s r = (1, Q) by rw [hse, if_pos (.inl (by simpa using hc))]]
    exact e_ret (H' := []) (rest := _) rfl ⟨rfl, rfl⟩ permT (Nat.le_of_ble_eq_true rfl)
  · rw [show setN Q s r = (1, Q) by rw [hse, if_pos (.inr (by simpa using hc))]]
    exact e_ret (H' := []) (rest := _) rfl ⟨rfl, rfl⟩ permT (Nat.le_of_ble_eq_true rfl)
  · have hno : ¬ (nmB s = false ∨ rowB r = false) := hnot (by assumption) (by assumption)
    have h3 : hasN (nk Q) s = false := by
      have h : (!hasN (nk Q) s) = true := by assumption
      simpa using h
    have h4 : r ≠ [] := by
      have h : decide (((r.map corow).length : Int) > 0) = true := by assumption
      exact hrl.1 (of_decide_eq_true h)
    have h5 := of_decide_eq_true hc
    rw [List.length_map] at h5
    rw [show setN Q s r = (13, Q) by rw [hse, if_neg hno, if_pos ⟨h3, h4, by omega⟩]]
    exact e_ret (H' := []) (rest := _) rfl ⟨rfl, rfl⟩ permT (Nat.le_of_ble_eq_true rfl)
  · have hno : ¬ (nmB s = false ∨ rowB r = false) := hnot (by assumption) (by assumption)
    have h3 : hasN (nk Q) s = false := by
      have h : (!hasN (nk Q) s) = true := by assumption
      simpa using h
    have h4 : r ≠ [] := by
      have h : decide (((r.map corow).length : Int) > 0) = true := by assumption
      exact hrl.1 (of_decide_eq_true h)
    have h5 := of_decide_eq_false hc
    rw [List.length_map] at h5
    rw [show setN Q s r = (0, putNm Q s r) by rw [hse, if_neg hno, if_neg (fun h => by have := h.2.2; omega)]]
    exact e_ret (H' := []) (rest := _) rfl ⟨rfl, rfl⟩ permT (Nat.le_of_ble_eq_true rfl)
  · have hno : ¬ (nmB s = false ∨ rowB r = false) := hnot (by assumption) (by assumption)
    have h3 : hasN (nk Q) s = false := by
      have h : (!hasN (nk Q) s) = true := by assumption
      simpa using h
    have h4 : ¬ r ≠ [] := by
      have h : decide (((r.map corow).length : Int) > 0) = false := by assumption
      exact fun h5 => of_decide_eq_false h (hrl.2 h5)
    rw [show setN Q s r = (0, putNm Q s r) by rw [hse, if_neg hno, if_neg (fun h => h4 h.2.1)]]
    exact e_ret (H' := []) (rest := _) rfl ⟨rfl, rfl⟩ permT (Nat.le_of_ble_eq_true rfl)
  · have hno : ¬ (nmB s = false ∨ rowB r = false) := hnot (by assumption) (by assumption)
    have h3 : hasN (nk Q) s = true := by simpa using hc
    rw [show setN Q s r = (0, putNm Q s r) by rw [hse, if_neg hno, if_neg (fun h => by rw [h3] at h; cases h.1)]]
    exact e_ret (H' := []) (rest := _) rfl ⟨rfl, rfl⟩ permT (Nat.le_of_ble_eq_true rfl)
end Go.Proofs.Ytjepgbpcpcahgaa
namespace Go.Proofs.Ytjepgbpcpcahgaa
open Go.Am
set_option linter.unusedSimpArgs false
set_option linter.unusedVariables false
set_option maxRecDepth 100000
theorem ins_sort {o : List Co} (h : Nsort o) {s : ByteArray} (hs : hasN o s = false) : Nsort (o.take (npos o s) ++ ⟨s, []⟩ :: o.drop (npos o s)) := by
  have hle := npos_le o s
  have hso := h
  have hlow : ∀ i c, o[i]? = some c → (i < npos o s ↔ sLt c.n s = true) := fun i c hi => npos_lt hso hi
  have hup : ∀ i c, o[i]? = some c → npos o s ≤ i → sLt s c.n = true := fun i c hi hp => by
    have h5 : ¬ sLt c.n s = true := fun h => by have := (hlow i c hi).2 h; omega
    have h6 : cmpS c.n s ≠ 0 := fun e => by
      rcases Nat.lt_or_ge (npos o s) i with hlt | hge
      · -- the one at the place is below s, or s itself
        obtain ⟨d, hd⟩ : ∃ d, o[npos o s]? = some d := ⟨_, List.getElem?_eq_getElem (by have := (List.getElem?_eq_some_iff.1 hi).1; omega)⟩
        have h7 : sLt d.n c.n = true := by
          have hp2 := List.pairwise_iff_getElem.1 hso (npos o s) i (List.getElem?_eq_some_iff.1 hd).1 (List.getElem?_eq_some_iff.1 hi).1 hlt
          rw [(List.getElem?_eq_some_iff.1 hd).2, (List.getElem?_eq_some_iff.1 hi).2] at hp2
          exact hp2
        have h8 : c.n.toList = s.toList := by
          have := eq_cb c.n.toList s.toList
          unfold cmpS at e
          rw [e] at this
          simpa using this
        have h9 : sLt d.n s = true := by unfold sLt at *; rw [← h8]; exact h7
        have := (hlow _ d hd).2 h9
        omega
      · have : i = npos o s := by omega
        subst this
        unfold hasN at hs
        rw [hi] at hs
        simp [e] at hs
    rw [sLt_eq, decide_eq_true_eq] at h5
    rw [sLt_eq, decide_eq_true_eq]
    have ha := cb_anti c.n.toList s.toList
    have hb := cb_bd c.n.toList s.toList
    unfold cmpS at *
    omega
  unfold Nsort at *
  rw [List.pairwise_append, List.pairwise_cons]
  have hs2 := hso
  rw [← List.take_append_drop (npos o s) o, List.pairwise_append] at hs2
  refine ⟨hs2.1, ⟨fun b hb => ?_, hs2.2.1⟩, fun a ha b hb => ?_⟩
  · obtain ⟨i, hi⟩ := List.getElem?_of_mem hb
    rw [List.getElem?_drop] at hi
    exact hup _ b hi (by omega)
  · rcases List.mem_cons.1 hb with rfl | hb
    · obtain ⟨i, hi⟩ := List.getElem?_of_mem ha
      rw [List.getElem?_take] at hi
      split at hi
      · exact (hlow i a hi).1 (by assumption)
      · cases hi
    · exact hs2.2.2 a ha b hb
theorem copy_nil {r : List Co} (h : rowB r = true) (hr : r ≠ []) : copyR r ≠ [] := by
  unfold copyR
  rw [if_pos h]
  cases r
  · exact absurd rfl hr
  · simp
theorem setN_ok {Q : List Nm} {s : ByteArray} {r : List Co} (hQ : TbOk Q) (hz : RowSz r) : TbOk (setN Q s r).2 := by
  have hpl := npos_le (nk Q) s
  rw [nk_len] at hpl
  unfold setN
  by_cases h1 : nmB s = false ∨ rowB r = false
  · rw [if_pos h1]; exact hQ
  rw [if_neg h1]
  have hnm : nmB s = true := by rcases h : nmB s with _ | _; exact absurd (.inl h) h1; rfl
  have hrw : rowB r = true := by rcases h : rowB r with _ | _; exact absurd (.inr h) h1; rfl
  by_cases h2 : r = []
  · rw [if_pos h2]
    rcases hN : hasN (nk Q) s with _ | _
    · exact hQ
    · simp only [if_true]
      have hlt := hasN_len hN
      refine ⟨?_, by rw [List.length_eraseIdx_of_lt hlt]; have := hQ.len; omega, fun x hx => hQ.sz x (List.mem_of_mem_eraseIdx hx), fun x hx => hQ.nm x (List.mem_of_mem_eraseIdx hx)⟩
      have e : nk (Q.eraseIdx (npos (nk Q) s)) = (nk Q).eraseIdx (npos (nk Q) s) := by
        generalize npos (nk Q) s = p
        unfold nk
        rw [List.eraseIdx_eq_take_drop_succ, List.eraseIdx_eq_take_drop_succ, List.map_append, List.map_take, List.map_drop]
      rw [e]
      exact hQ.srt.sublist (List.eraseIdx_sublist _ _)
  rw [if_neg h2]
  have hnew : Fine (copyR r) ∧ RowSz (copyR r) := ⟨copy_fine r, copy_sz hz⟩
  rcases hN : hasN (nk Q) s with _ | _
  · simp only [Bool.false_eq_true, if_false]
    by_cases h3 : 32 ≤ Q.length
    · rw [if_pos h3]; exact hQ
    · rw [if_neg h3]
      refine ⟨?_, by show (insAt _ _ _).length ≤ 32; rw [insAt_len _ hpl]; omega, fun x hx => ?_, fun x hx => ?_⟩
      · show Nsort (nk (insAt _ _ _))
        have e : nk (insAt Q (npos (nk Q) s) ⟨s, copyR r⟩) = (nk Q).take (npos (nk Q) s) ++ ⟨s, []⟩ :: (nk Q).drop (npos (nk Q) s) := by
          generalize npos (nk Q) s = p
          unfold nk insAt
          rw [List.map_append, List.map_cons, List.map_take, List.map_drop]
        rw [e]
        exact ins_sort hQ.srt hN
      · rcases List.mem_append.1 hx with hx | hx
        · exact hQ.sz x (List.mem_of_mem_take hx)
        · rcases List.mem_cons.1 hx with rfl | hx
          · exact hnew
          · exact hQ.sz x (List.mem_of_mem_drop hx)
      · rcases List.mem_append.1 hx with hx | hx
        · exact hQ.nm x (List.mem_of_mem_take hx)
        · rcases List.mem_cons.1 hx with rfl | hx
          · exact ⟨hnm, copy_nil hrw h2⟩
          · exact hQ.nm x (List.mem_of_mem_drop hx)
  · simp only [if_true]
    obtain ⟨x, hx, hxs⟩ := hasN_nm hN
    have hxe := bytes_eq hxs
    refine ⟨?_, by rw [List.length_set]; exact hQ.len, fun y hy => ?_, fun y hy => ?_⟩
    · have e : nk (Q.set (npos (nk Q) s) ⟨s, copyR r⟩) = nk Q := by
        have h5 := nk_at hx
        obtain ⟨h6, h7⟩ := List.getElem?_eq_some_iff.1 h5
        generalize npos (nk Q) s = p at *
        have h8 : nk (Q.set p ⟨s, copyR r⟩) = (nk Q).set p ⟨s, []⟩ := by unfold nk; rw [List.map_set]
        rw [h8]
        conv => rhs; rw [← List.set_getElem_self h6]
        rw [h7, hxe]
      show Nsort (nk (Q.set _ _))
      rw [e]
      exact hQ.srt
    · rcases List.mem_or_eq_of_mem_set hy with hy | rfl
      · exact hQ.sz y hy
      · exact hnew
    · rcases List.mem_or_eq_of_mem_set hy with hy | rfl
      · exact hQ.nm y hy
      · exact ⟨hnm, copy_nil hrw h2⟩
theorem nil_ok : TbOk [] := ⟨List.Pairwise.nil, by decide, (fun x hx => by cases hx), (fun x hx => by cases hx)⟩
end Go.Proofs.Ytjepgbpcpcahgaa
namespace Go.Proofs.Ytjepgbpcpcahgaa
open Go.Am
set_option linter.unusedSimpArgs false
set_option linter.unusedVariables false
set_option maxRecDepth 100000
def r6sSt (Q : List Nm) (i : Nat) : ASt := ⟨([.list (Q.map nmrow) .free, .list (Q.map nmrow) .free, .dead, .dead, .dead, .v (.int .i64 i)] ++ List.replicate 36 .dead), [], 0⟩
set_option maxHeartbeats 3200000 in
theorem r6same_f (Q : List Nm) (hl : Q.length ≤ 1000) (hz : NmSz Q) : ACalls Try.prog 14 0 0 [.list (Q.map nmrow) .free, .list (Q.map nmrow) .free] [] (fun out H' => out = .ret (.v (.bool true)) ∧ H' = []) := by
  refine ACalls.top0 (top := 400) ?_
  refine no_implicit_lambda% (acalls_of tok dok (f := 14) ⟨Try.func14, rfl, by kernel_rfl⟩ ?_); refine no_implicit_lambda% (c_start (fun _ h => h) ?_)
  repeat' (first | (refine no_implicit_lambda% (awd1 ?_)) | (((with_reducible refine no_implicit_lambda% (is_aops ?_)); refine no_implicit_lambda% (o_split rfl rfl rfl (fun hc => ?_) (fun hc => ?_)) <;> first | exact decx hc | rw [hc])) | (((with_reducible refine no_implicit_lambda% (is_cond ?_)); refine no_implicit_lambda% (c_cond rfl (fun hc => ?_) (fun hc => ?_)) <;> first | exact decx hc | skip)) | (((with_reducible refine no_implicit_lambda% (is_aop ?_)); refine no_implicit_lambda% (a_pick rfl rfl (fun hc => ?_) (fun hc => ?_)) <;> first | exact decx hc | rw [hc])) | (refine no_implicit_lambda% (ans ?_)) | (with_reducible exact retN) | (with_reducible exact retP) | fail | fail)
  all_goals (first | (exfalso; simp at hc; done) | skip)
  · refine c_loop' (r6sSt Q) (fun i => i ≤ Q.length) (fun i => Q.length - i) (a := 0) (Nat.zero_le _) ?_ ?_
    · (refine no_implicit_lambda% (Conv.toT ?_ ?_ (Nat.le_of_ble_eq_true rfl))); (focus ((unfold r6sSt); (try dsimp only); exact wkl)); (focus ((unfold r6sSt); (try dsimp only); exact wkh))
    · rintro i i1
      refine c_turn (n' := 0) (fun _ h => h) (fun _ h => h) rfl ?_
      rcases hx : Q[i]? with _ | x
      · have hi : i = Q.length := by have := List.getElem?_eq_none_iff.1 hx; omega
        repeat' (first | (refine no_implicit_lambda% (awd1 ?_)) | (((with_reducible refine no_implicit_lambda% (is_aops ?_)); refine no_implicit_lambda% (o_split rfl rfl rfl (fun hc => ?_) (fun hc => ?_)) <;> first | exact decx hc | rw [hc])) | (((with_reducible refine no_implicit_lambda% (is_cond ?_)); refine no_implicit_lambda% (c_cond rfl (fun hc => ?_) (fun hc => ?_)) <;> first | exact decx hc | skip)) | (((with_reducible refine no_implicit_lambda% (is_aop ?_)); refine no_implicit_lambda% (a_pick rfl rfl (fun hc => ?_) (fun hc => ?_)) <;> first | exact decx hc | rw [hc])) | (refine no_implicit_lambda% (ans ?_)) | (with_reducible exact retN) | (with_reducible exact retP) | fail | fail)
        exact e_ret (H' := []) (rest := _) rfl ⟨rfl, rfl⟩ permT (Nat.le_of_ble_eq_true rfl)
      · have hi : i < Q.length := (List.getElem?_eq_some_iff.1 hx).1
        have hix := nmx hx
        have hxz := hz x (List.mem_of_getElem? hx)
        have hsm := refsame_r x.r (by have := hxz.1.len; omega) (fun c hc => by have := col_len (hxz.1.col c hc); omega) (fun c hc y hy => (hxz.2 c hc y hy).2)
        repeat' (first | (refine no_implicit_lambda% (awd1 ?_)) | (((with_reducible refine no_implicit_lambda% (is_aops ?_)); refine no_implicit_lambda% (o_split rfl rfl rfl (fun hc => ?_) (fun hc => ?_)) <;> first | exact decx hc | rw [hc])) | (((with_reducible refine no_implicit_lambda% (is_cond ?_)); refine no_implicit_lambda% (c_cond rfl (fun hc => ?_) (fun hc => ?_)) <;> first | exact decx hc | skip)) | (((with_reducible refine no_implicit_lambda% (is_aop ?_)); refine no_implicit_lambda% (a_pick rfl rfl (fun hc => ?_) (fun hc => ?_)) <;> first | exact decx hc | rw [hc])) | (((with_reducible refine no_implicit_lambda% (is_ev ?_)); refine no_implicit_lambda% (v_split rfl rfl rfl rfl (fun hc => ?_) (fun hc => ?_)) <;> first | exact decx hc | rw [hc])) | (refine no_implicit_lambda% (ans ?_)) | (with_reducible exact retN) | (with_reducible exact retP) | (refine no_implicit_lambda% (cal [] (hsm) ?_ ?_)) | fail)
        · exfalso; simp at hc
        · (refine no_implicit_lambda% (k_loopT (i + 1) (by show i + 1 ≤ Q.length; exact hi) (by first | omega | (simp; done) | (simp; omega)) ?_ ?_)); (focus ((unfold r6sSt); (try dsimp only); exact wkl)); (focus ((unfold r6sSt); (try dsimp only); exact wkh))
/-- .. the first a list that may be written -/
theorem r6same_o (Q : List Nm) (cp k : Nat) (hl : Q.length ≤ 1000) (hz : NmSz Q) : ACalls Try.prog 14 1 1 [.arr 0 0 Q.length cp, .list (Q.map nmrow) .free] [(0, .seq (Q.map nmrow) k)] (fun out H' => out = .ret (.v (.bool true)) ∧ H' = [(0, .seq (Q.map nmrow) k)]) :=
  ((r6same_f Q hl hz).borrow (k := 1) (top := 1) (args := [.arr 0 0 Q.length cp, .list (Q.map nmrow) .free]) (H := [(0, .seq (Q.map nmrow) k)]) rfl (fun out H' hh => by obtain ⟨rfl, rfl⟩ := hh; rfl) (fun i a' ha => by
    match i with
    | 0 =>
      simp at ha; subst ha
      exact ⟨_, rfl, .seq (k := k) (by simp) (nmOk Q) (by simp)⟩
    | 1 =>
      simp at ha; subst ha
      exact ⟨_, rfl, .data rfl⟩
    | i + 2 => simp at ha)).mono fun out H' hh => by
      obtain ⟨⟨_, h1, _⟩, h2⟩ := hh
      exact ⟨h1, h2⟩
end Go.Proofs.Ytjepgbpcpcahgaa
namespace Go.Proofs.Ytjepgbpcpcahgaa
open Go.Am
set_option linter.unusedSimpArgs false
set_option linter.unusedVariables false
set_option maxRecDepth 100000
/-- where a range ends -/
def rEnd (Q : List Nm) (hi : ByteArray) : Nat := if hi.toList = [] then Q.length else npos (nk Q) hi
def rgQ (Q : List Nm) (lo hi : ByteArray) (i : Nat) : List Nm := (Q.take (min i (rEnd Q hi))).drop (npos (nk Q) lo)
def rrSt6 (Q : List Nm) (lo hi : ByteArray) (mo : Nat) (o : List Nm) (i : Nat) : ASt := ⟨([.list (Q.map nmrow) .free, .v (.string lo), .v (.string hi), .v (.int .i64 mo)] ++ List.replicate 6 .dead ++ [.list (o.map nmrow) (.tok 0), .v (.int .i64 i)] ++ List.replicate 47 .dead), [(0, .tok 2 o.length)], 1⟩
theorem rgQ_in {Q : List Nm} {lo hi : ByteArray} {i : Nat} {x : Nm} (hx : Q[i]? = some x) (h1 : npos (nk Q) lo ≤ i) (h2 : i < rEnd Q hi) : rgQ Q lo hi (i + 1) = rgQ Q lo hi i ++ [x] := by
  have hl := (List.getElem?_eq_some_iff.1 hx).1
  unfold rgQ
  rw [Nat.min_eq_left (by omega), Nat.min_eq_left (by omega), take_s hx, List.drop_append_of_le_length (by rw [List.length_take]; omega)]
theorem rgQ_lo {Q : List Nm} {lo hi : ByteArray} {i : Nat} (h1 : i < npos (nk Q) lo) : rgQ Q lo hi (i + 1) = rgQ Q lo hi i := by
  unfold rgQ
  rw [List.drop_eq_nil_of_le (by rw [List.length_take]; omega), List.drop_eq_nil_of_le (by rw [List.length_take]; omega)]
theorem rgQ_hi {Q : List Nm} {lo hi : ByteArray} {i : Nat} (h1 : rEnd Q hi ≤ i) : rgQ Q lo hi (i + 1) = rgQ Q lo hi i := by
  unfold rgQ
  rw [Nat.min_eq_right (by omega), Nat.min_eq_right (by omega)]
theorem rgQ_len {Q : List Nm} {lo hi : ByteArray} {i : Nat} (h : i ≤ Q.length) : (rgQ Q lo hi i).length = min i (rEnd Q hi) - npos (nk Q) lo := by
  unfold rgQ
  rw [List.length_drop, List.length_take]
  omega
set_option maxHeartbeats 6400000 in
theorem rrange_c (Q : List Nm) (lo hi : ByteArray) (most : Int) (hQ : TbOk Q) (hm : -9223372036854775808 ≤ most ∧ most ≤ 9223372036854775807) : ACalls Try.prog 45 0 20 [.list (Q.map nmrow) .free, .v (.string lo), .v (.string hi), .v (.int .i64 most)] [] (fun out H' => out = .ret (.tuple [.list ((rangeN Q lo hi most).1.map nmrow) .free, .v (.string (rangeN Q lo hi most).2)]) ∧ H' = []) := by
  have hl := hQ.len
  have hpl := npos_le (nk Q) lo
  have hph := npos_le (nk Q) hi
  rw [nk_len] at hpl hph
  have hen : rEnd Q hi ≤ Q.length := by unfold rEnd; split <;> omega
  obtain ⟨mo, hmo⟩ : ∃ mo : Nat, (max 0 (min most 16)).toNat = mo := ⟨_, rfl⟩
  have hR : rangeN Q lo hi most = if rEnd Q hi ≤ npos (nk Q) lo then ([], ⟨#[]⟩) else if rEnd Q hi - npos (nk Q) lo ≤ mo then ((Q.drop (npos (nk Q) lo)).take (rEnd Q hi - npos (nk Q) lo), ⟨#[]⟩) else ((Q.drop (npos (nk Q) lo)).take mo, match Q[npos (nk Q) lo + mo]? with | some x => x.n | none => ⟨#[]⟩) := by
    unfold rangeN rEnd
    rw [hmo]
    try rfl
  have hmi : (if 16 < (if 0 > most then (0 : Int) else most) then (16 : Int) else (if 0 > most then (0 : Int) else most)) = (mo : Int) := by
    rw [← hmo]
    omega
  refine no_implicit_lambda% (acalls_of tok dok (f := 45) ⟨Try.func45, rfl, by kernel_rfl⟩ ?_); refine no_implicit_lambda% (c_start (fun _ h => h) ?_)
  repeat' (first | (refine no_implicit_lambda% (awd1 ?_)) | (((with_reducible refine no_implicit_lambda% (is_aops ?_)); refine no_implicit_lambda% (o_split rfl rfl rfl (fun hc => ?_) (fun hc => ?_)) <;> first | exact decx hc | rw [hc])) | (((with_reducible refine no_implicit_lambda% (is_cond ?_)); refine no_implicit_lambda% (c_cond rfl (fun hc => ?_) (fun hc => ?_)) <;> first | exact decx hc | skip)) | (((with_reducible refine no_implicit_lambda% (is_aop ?_)); refine no_implicit_lambda% (a_pick rfl rfl (fun hc => ?_) (fun hc => ?_)) <;> first | exact decx hc | rw [hc])) | (refine no_implicit_lambda% (ans ?_)) | (with_reducible exact retN) | (with_reducible exact retP) | fail | fail)
  rw [hmi]
  generalize (if 0 > most then (0 : Int) else most) = w
  refine c_loop2 (rrSt6 Q lo hi mo) (fun o i => i ≤ Q.length ∧ o = rgQ Q lo hi i ∧ o.length ≤ mo) (fun _ i => Q.length - i) [] 0 ⟨Nat.zero_le _, by unfold rgQ; rw [Nat.zero_min]; simp, Nat.zero_le _⟩ ((Conv.tokSlot (j := 10) (sz := 2) (rows := []) rfl (by simp)).trans ?_) ?_
  · (refine no_implicit_lambda% (Conv.toT ?_ ?_ (Nat.le_of_ble_eq_true rfl))); (focus ((unfold rrSt6); (try dsimp only); exact wkl)); (focus ((unfold rrSt6); (try dsimp only); exact wkh))
  · rintro o i ⟨i1, ho, h3⟩
    have hol := rgQ_len (lo := lo) (hi := hi) i1
    rw [← ho] at hol
    have r1 : ∀ row ∈ o.map nmrow, row.length = 2 := (nmOk o).len
    have b1 : (o.map nmrow).length ≤ 40 := by rw [List.length_map]; omega
    refine c_turn (n' := 1) (fun _ h => h) (fun _ h => h) rfl ?_
    have hdt : ∀ j, (Q.take j).drop (npos (nk Q) lo) = (Q.drop (npos (nk Q) lo)).take (j - npos (nk Q) lo) := fun j => List.drop_take ..
    have hemp : (⟨#[]⟩ : ByteArray).toList = [] := by simp [ByteArray.toList_eq]
    rcases hx : Q[i]? with _ | x
    · have hil : Q.length ≤ i := List.getElem?_eq_none_iff.1 hx
      have hend : rangeN Q lo hi most = (o, ⟨#[]⟩) := by
        have ho2 : o = (Q.take (rEnd Q hi)).drop (npos (nk Q) lo) := by rw [ho]; unfold rgQ; rw [Nat.min_eq_right (by omega)]
        rw [hR]
        by_cases h5 : rEnd Q hi ≤ npos (nk Q) lo
        · rw [if_pos h5, ho2, List.drop_eq_nil_of_le (by rw [List.length_take]; omega)]
        · rw [if_neg h5, if_pos (by omega), ho2, hdt]
      repeat' (first | (refine no_implicit_lambda% (awd1 ?_)) | (((with_reducible refine no_implicit_lambda% (is_aops ?_)); refine no_implicit_lambda% (o_split rfl rfl rfl (fun hc => ?_) (fun hc => ?_)) <;> first | exact decx hc | rw [hc])) | (((with_reducible refine no_implicit_lambda% (is_cond ?_)); refine no_implicit_lambda% (c_cond rfl (fun hc => ?_) (fun hc => ?_)) <;> first | exact decx hc | skip)) | (((with_reducible refine no_implicit_lambda% (is_aop ?_)); refine no_implicit_lambda% (a_pick rfl rfl (fun hc => ?_) (fun hc => ?_)) <;> first | exact decx hc | rw [hc])) | (refine no_implicit_lambda% (ans ?_)) | (with_reducible exact retN) | (with_reducible exact retP) | fail | fail)
      rw [hend]
      exact e_ret_to (H' := []) (rest := _) (.freeSlot 8 rfl) rfl ⟨rfl, rfl⟩ (.refl _) (Nat.le_of_ble_eq_true rfl)
    · have hil : i < Q.length := (List.getElem?_eq_some_iff.1 hx).1
      have hix := nmx hx
      have hk := npos_lt (s := lo) hQ.srt (nk_at hx)
      have hk2 := npos_lt (s := hi) hQ.srt (nk_at hx)
      have hol1 : o.length ≤ i := by omega
      have hlo : sLt x.n lo = false → npos (nk Q) lo ≤ i := fun h => by
        have h2 : ¬ i < npos (nk Q) lo := fun h3 => by rw [hk.1 h3] at h; cases h
        omega
      have he1 : (!hi.toList == (⟨#[]⟩ : ByteArray).toList) = true → rEnd Q hi = npos (nk Q) hi := fun h => if_neg (fun h2 => by rw [h2, hemp] at h; revert h; decide)
      have he0 : (!hi.toList == (⟨#[]⟩ : ByteArray).toList) = false → rEnd Q hi = Q.length := fun h => if_pos (by
        have h2 : hi.toList = (⟨#[]⟩ : ByteArray).toList := by simpa using h
        rw [h2, hemp])
      have hret : npos (nk Q) lo ≤ i → i < rEnd Q hi → (((o.map nmrow).length : Int) == (mo : Int)) = true → rangeN Q lo hi most = (o, x.n) := fun h1 h2 h4 => by
        have h5 := eq_of_beq h4
        rw [List.length_map] at h5
        have ho2 : o = (Q.take i).drop (npos (nk Q) lo) := by rw [ho]; unfold rgQ; rw [Nat.min_eq_left (by omega)]
        have h6 : npos (nk Q) lo + mo = i := by omega
        rw [hR, if_neg (by omega), if_neg (by omega), h6, hx, ho2, hdt, show i - npos (nk Q) lo = mo by omega]
      have hin : npos (nk Q) lo ≤ i → i < rEnd Q hi → (((o.map nmrow).length : Int) == (mo : Int)) = false → i + 1 ≤ Q.length ∧ o ++ [x] = rgQ Q lo hi (i + 1) ∧ (o ++ [x]).length ≤ mo := fun h1 h2 h4 => by
        refine ⟨hil, by rw [rgQ_in hx h1 h2, ho], ?_⟩
        have h5 : ¬ ((o.map nmrow).length : Int) = (mo : Int) := by simpa using h4
        rw [List.length_map] at h5
        rw [List.length_append, List.length_singleton]
        omega
      repeat' (first | (refine no_implicit_lambda% (awd1 ?_)) | (((with_reducible refine no_implicit_lambda% (is_aops ?_)); refine no_implicit_lambda% (o_split rfl rfl rfl (fun hc => ?_) (fun hc => ?_)) <;> first | exact decx hc | rw [hc])) | (((with_reducible refine no_implicit_lambda% (is_cond ?_)); refine no_implicit_lambda% (c_cond rfl (fun hc => ?_) (fun hc => ?_)) <;> first | exact decx hc | skip)) | (((with_reducible refine no_implicit_lambda% (is_aop ?_)); refine no_implicit_lambda% (a_pick rfl rfl (fun hc => ?_) (fun hc => ?_)) <;> first | exact decx hc | rw [hc])) | (((with_reducible refine no_implicit_lambda% (is_ev ?_)); refine no_implicit_lambda% (v_split rfl rfl rfl rfl (fun hc => ?_) (fun hc => ?_)) <;> first | exact decx hc | rw [hc])) | (refine no_implicit_lambda% (ans ?_)) | (with_reducible exact retN) | (with_reducible exact retP) | fail | fail)
      · (refine no_implicit_lambda% (k_loopLT (((o, i + 1) : List Nm × Nat)) 0 [0] (show i + 1 ≤ Q.length ∧ o = rgQ Q lo hi (i + 1) ∧ o.length ≤ mo from ⟨hil, by rw [rgQ_lo (hk.2 hc), ho], h3⟩) (by first | omega | (simp; done) | (simp; omega)) (Nat.le_of_ble_eq_true rfl) (fun _ h => h) (fun _ h => h) ?_ ?_)); (focus ((try dsimp only); exact wkl)); (focus ((try dsimp only); exact wkh))
      · have hg : (!sLt x.n hi) = true := hc
        have h6 : rEnd Q hi ≤ i := by
          rw [he1 (by assumption)]
          have h7 : ¬ i < npos (nk Q) hi := fun h => by rw [hk2.1 h] at hg; cases hg
          omega
        (refine no_implicit_lambda% (k_loopLT (((o, i + 1) : List Nm × Nat)) 0 [0] (show i + 1 ≤ Q.length ∧ o = rgQ Q lo hi (i + 1) ∧ o.length ≤ mo from ⟨hil, by rw [rgQ_hi h6, ho], h3⟩) (by first | omega | (simp; done) | (simp; omega)) (Nat.le_of_ble_eq_true rfl) (fun _ h => h) (fun _ h => h) ?_ ?_)); (focus ((try dsimp only); exact wkl)); (focus ((try dsimp only); exact wkh))
      · have hg : (!sLt x.n hi) = false := by assumption
        have h6 : i < rEnd Q hi := by rw [he1 (by assumption)]; exact hk2.2 (by simpa using hg)
        rw [hret (hlo (by assumption)) h6 hc]
        exact e_ret_to (H' := []) (rest := _) (.freeSlot 8 rfl) rfl ⟨rfl, rfl⟩ (.refl _) (Nat.le_of_ble_eq_true rfl)
      · have hg : (!sLt x.n hi) = false := by assumption
        have h6 : i < rEnd Q hi := by rw [he1 (by assumption)]; exact hk2.2 (by simpa using hg)
        (refine no_implicit_lambda% (k_loopLT (((o ++ [x], i + 1) : List Nm × Nat)) 0 [0] (hin (hlo (by assumption)) h6 hc) (by first | omega | (simp; done) | (simp; omega)) (Nat.le_of_ble_eq_true rfl) (fun _ h => h) (fun _ h => h) ?_ ?_)); (focus ((try dsimp only); exact wkl)); (focus ((try dsimp only); exact wkh))
      · have h6 : i < rEnd Q hi := by rw [he0 (by assumption)]; exact hil
        rw [hret (hlo (by assumption)) h6 hc]
        exact e_ret_to (H' := []) (rest := _) (.freeSlot 8 rfl) rfl ⟨rfl, rfl⟩ (.refl _) (Nat.le_of_ble_eq_true rfl)
      · have h6 : i < rEnd Q hi := by rw [he0 (by assumption)]; exact hil
        (refine no_implicit_lambda% (k_loopLT (((o ++ [x], i + 1) : List Nm × Nat)) 0 [0] (hin (hlo (by assumption)) h6 hc) (by first | omega | (simp; done) | (simp; omega)) (Nat.le_of_ble_eq_true rfl) (fun _ h => h) (fun _ h => h) ?_ ?_)); (focus ((try dsimp only); exact wkl)); (focus ((try dsimp only); exact wkh))
end Go.Proofs.Ytjepgbpcpcahgaa
namespace Go.Proofs.Ytjepgbpcpcahgaa
open Go.Am
set_option linter.unusedSimpArgs false
set_option linter.unusedVariables false
set_option maxRecDepth 100000
def neverS : ByteArray := ⟨#[97, 32, 110, 97, 109, 101, 32, 116, 104, 97, 116, 32, 99, 97, 110, 32, 110, 101, 118, 101, 114, 32, 98, 101, 32, 116, 104, 101, 114, 101]⟩
theorem getN_at {Q : List Nm} (hs : Nsort (nk Q)) {i : Nat} {x : Nm} (hx : Q[i]? = some x) : getN Q x.n = (x.r, true) := by
  have h := npos_at hs (nk_at hx)
  unfold getN
  rw [show hasN (nk Q) x.n = true from h.2, if_pos rfl, show npos (nk Q) x.n = i from h.1, hx]
def t6St (Q : List Nm) (cp i : Nat) : ASt := ⟨([.ptr 0 0, .list (Q.map nmrow) .free] ++ List.replicate 13 .dead ++ [.v (.int .i64 i)] ++ List.replicate 71 .dead), tbl Q cp, 30⟩
theorem getN_never {Q : List Nm} (hQ : TbOk Q) : getN Q neverS = ([], false) := by
  have h : hasN (nk Q) neverS = false := hasN_not fun c hc => by
    unfold nk at hc
    obtain ⟨x, hx, rfl⟩ := List.mem_map.1 hc
    intro he
    have h2 := eq_cb x.n.toList neverS.toList
    have h3 : (x.n.toList == neverS.toList) = true := by
      unfold cmpS at he
      rw [h2]
      exact decide_eq_true he
    have h4 := bytes_eq (eq_of_beq h3)
    have h5 := (hQ.nm x hx).1
    rw [h4] at h5
    exact absurd h5 (by decide)
  unfold getN
  rw [h, if_neg (by simp)]
set_option maxHeartbeats 6400000 in
theorem tells6_c (Q : List Nm) (lo hi : ByteArray) (most : Int) (cp : Nat) (hQ : TbOk Q) (hc1 : Q.length ≤ cp) (hc2 : cp ≤ maxLen) (hm : -9223372036854775808 ≤ most ∧ most ≤ 9223372036854775807) : ACalls Try.prog 16 2 2000 [.ptr 0 0, .list (Q.map nmrow) .free, .v (.string lo), .v (.string hi), .v (.int .i64 most)] (tbl Q cp) (fun out H' => out = .ret (.v (.bool true)) ∧ H' = tbl Q cp) := by
  have hl := hQ.len
  have h1 := trange_c Q lo hi most cp hQ hc1 hc2 hm
  have h2 := rrange_c Q lo hi most hQ hm
  have h3 := tlen_c Q cp
  obtain ⟨W, hW⟩ : ∃ W, W = (rangeN Q lo hi most).1 := ⟨_, rfl⟩
  obtain ⟨nx, hnx⟩ : ∃ nx, nx = (rangeN Q lo hi most).2 := ⟨_, rfl⟩
  have hWl : W.length ≤ 32 ∧ NmSz W := by
    rw [hW]
    have hsub : ∀ a b, ((Q.drop a).take b).length ≤ 32 ∧ NmSz ((Q.drop a).take b) := fun a b => ⟨by rw [List.length_take, List.length_drop]; omega, fun x hx => hQ.sz x (List.mem_of_mem_drop (List.mem_of_mem_take hx))⟩
    unfold rangeN
    dsimp only
    repeat' split
    all_goals first | exact hsub _ _ | exact ⟨Nat.zero_le _, fun x hx => by cases hx⟩
  rw [← hW, ← hnx] at h1 h2
  refine no_implicit_lambda% (acalls_of tok dok (f := 16) ⟨Try.func16, rfl, by kernel_rfl⟩ ?_); refine no_implicit_lambda% (c_start (fun _ h => h) ?_)
  repeat' (first | (refine no_implicit_lambda% (awd1 ?_)) | (((with_reducible refine no_implicit_lambda% (is_aops ?_)); refine no_implicit_lambda% (o_split rfl rfl rfl (fun hc => ?_) (fun hc => ?_)) <;> first | exact decx hc | rw [hc])) | (((with_reducible refine no_implicit_lambda% (is_cond ?_)); refine no_implicit_lambda% (c_cond rfl (fun hc => ?_) (fun hc => ?_)) <;> first | exact decx hc | skip)) | (((with_reducible refine no_implicit_lambda% (is_aop ?_)); refine no_implicit_lambda% (a_pick rfl rfl (fun hc => ?_) (fun hc => ?_)) <;> first | exact decx hc | rw [hc])) | (refine no_implicit_lambda% (ans ?_)) | (with_reducible exact retN) | (with_reducible exact retP) | (refine no_implicit_lambda% (calw [0, 1] (h1) ?_ ?_)) | fail)
  · intro xx H' hh
    obtain ⟨cp2, c1, c2, h', rfl⟩ := hh
    cases h'
    have h4 := r6same_o W cp2 ((cp2 - W.length) * 2) (by omega) hWl.2
    first | (refine no_implicit_lambda% (akc ?_)) | (refine no_implicit_lambda% (aec ?_))
    repeat' (first | (refine no_implicit_lambda% (awd1 ?_)) | (((with_reducible refine no_implicit_lambda% (is_aops ?_)); refine no_implicit_lambda% (o_split rfl rfl rfl (fun hc => ?_) (fun hc => ?_)) <;> first | exact decx hc | rw [hc])) | (((with_reducible refine no_implicit_lambda% (is_cond ?_)); refine no_implicit_lambda% (c_cond rfl (fun hc => ?_) (fun hc => ?_)) <;> first | exact decx hc | skip)) | (((with_reducible refine no_implicit_lambda% (is_aop ?_)); refine no_implicit_lambda% (a_pick rfl rfl (fun hc => ?_) (fun hc => ?_)) <;> first | exact decx hc | rw [hc])) | (((with_reducible refine no_implicit_lambda% (is_ev ?_)); refine no_implicit_lambda% (v_split rfl rfl rfl rfl (fun hc => ?_) (fun hc => ?_)) <;> first | exact decx hc | rw [hc])) | (refine no_implicit_lambda% (ans ?_)) | (with_reducible exact retN) | (with_reducible exact retP) | (refine no_implicit_lambda% (cal [] (h2) ?_ ?_)) | (refine no_implicit_lambda% (cal [0, 1] (h3) ?_ ?_)) | (refine no_implicit_lambda% (cal [2] (h4) ?_ ?_)) | fail)
    · exfalso; simp at hc
    · refine c_loop' (t6St Q cp) (fun i => i ≤ Q.length) (fun i => Q.length - i) (a := 0) (Nat.zero_le _) ?_ ?_
      · (refine no_implicit_lambda% (Conv.toT ?_ ?_ (Nat.le_of_ble_eq_true rfl))); (focus ((unfold t6St); (try dsimp only); exact wkl)); (focus ((unfold t6St); (try dsimp only); exact wkh))
      · rintro i i1
        refine c_turn (n' := 30) (fun _ h => h) (fun _ h => h) rfl ?_
        rcases hx : Q[i]? with _ | x
        · have hil : Q.length ≤ i := List.getElem?_eq_none_iff.1 hx
          have hg := tget_c Q neverS cp hQ
          rw [getN_never hQ] at hg
          repeat' (first | (refine no_implicit_lambda% (awd1 ?_)) | (((with_reducible refine no_implicit_lambda% (is_aops ?_)); refine no_implicit_lambda% (o_split rfl rfl rfl (fun hc => ?_) (fun hc => ?_)) <;> first | exact decx hc | rw [hc])) | (((with_reducible refine no_implicit_lambda% (is_cond ?_)); refine no_implicit_lambda% (c_cond rfl (fun hc => ?_) (fun hc => ?_)) <;> first | exact decx hc | skip)) | (((with_reducible refine no_implicit_lambda% (is_aop ?_)); refine no_implicit_lambda% (a_pick rfl rfl (fun hc => ?_) (fun hc => ?_)) <;> first | exact decx hc | rw [hc])) | (((with_reducible refine no_implicit_lambda% (is_ev ?_)); refine no_implicit_lambda% (v_split rfl rfl rfl rfl (fun hc => ?_) (fun hc => ?_)) <;> first | exact decx hc | rw [hc])) | (refine no_implicit_lambda% (ans ?_)) | (with_reducible exact retN) | (with_reducible exact retP) | (refine no_implicit_lambda% (cal [0, 1] (hg) ?_ ?_)) | fail)
          exact e_ret (H' := tbl Q cp) (rest := _) rfl ⟨rfl, rfl⟩ permT (Nat.le_of_ble_eq_true rfl)
        · have hil : i < Q.length := (List.getElem?_eq_some_iff.1 hx).1
          have hix := nmx hx
          have hxz := hQ.sz x (List.mem_of_getElem? hx)
          have hg := tget_c Q x.n cp hQ
          rw [getN_at hQ.srt hx] at hg
          have hsm := refsame_r x.r (by have := hxz.1.len; omega) (fun c hc => by have := col_len (hxz.1.col c hc); omega) (fun c hc y hy => (hxz.2 c hc y hy).2)
          repeat' (first | (refine no_implicit_lambda% (awd1 ?_)) | (((with_reducible refine no_implicit_lambda% (is_aops ?_)); refine no_implicit_lambda% (o_split rfl rfl rfl (fun hc => ?_) (fun hc => ?_)) <;> first | exact decx hc | rw [hc])) | (((with_reducible refine no_implicit_lambda% (is_cond ?_)); refine no_implicit_lambda% (c_cond rfl (fun hc => ?_) (fun hc => ?_)) <;> first | exact decx hc | skip)) | (((with_reducible refine no_implicit_lambda% (is_aop ?_)); refine no_implicit_lambda% (a_pick rfl rfl (fun hc => ?_) (fun hc => ?_)) <;> first | exact decx hc | rw [hc])) | (((with_reducible refine no_implicit_lambda% (is_ev ?_)); refine no_implicit_lambda% (v_split rfl rfl rfl rfl (fun hc => ?_) (fun hc => ?_)) <;> first | exact decx hc | rw [hc])) | (refine no_implicit_lambda% (ans ?_)) | (with_reducible exact retN) | (with_reducible exact retP) | (refine no_implicit_lambda% (cal [0, 1] (hg) ?_ ?_)) | (refine no_implicit_lambda% (cal [] (hsm) ?_ ?_)) | fail)
          (refine no_implicit_lambda% (k_loopLT (i + 1) 2 (List.range 30) (by show i + 1 ≤ Q.length; exact hil) (by first | omega | (simp; done) | (simp; omega)) (Nat.le_of_ble_eq_true rfl) (fun _ h => h) (fun _ h => h) ?_ ?_)); (focus ((try dsimp only); exact wkl)); (focus ((try dsimp only); exact wkh))
  · intro xx H' hh
    obtain ⟨_, _, _, h', _⟩ := hh
    cases h'
end Go.Proofs.Ytjepgbpcpcahgaa
namespace Go.Proofs.Ytjepgbpcpcahgaa
open Go.Am
set_option linter.unusedSimpArgs false
set_option linter.unusedVariables false
set_option maxRecDepth 100000
def rowL : List ByteArray := [bsS [97], bsS [98], bsS [109], bsS [110], bsS [122], bsS [109, 97], bsS [122, 122], bsS [48]]
theorem head_e (s : ByteArray) (n : Nat) (hn : n < 1000) : ∃ t : ByteArray, (s.size ≤ n → t = s) ∧ ACalls Try.prog 20 0 0 [.v (.string s), .v (.int .i64 n)] [] (fun out H' => out = .ret (.v (.string t)) ∧ H' = []) := by
  by_cases h : n < s.size
  · refine ⟨s.extract 0 n, fun h2 => absurd h2 (by omega), ?_⟩
    refine no_implicit_lambda% (acalls_of tok dok (f := 20) ⟨Try.func20, rfl, by kernel_rfl⟩ ?_); refine no_implicit_lambda% (c_start (fun _ h => h) ?_)
    repeat' (first | (refine no_implicit_lambda% (awd1 ?_)) | (((with_reducible refine no_implicit_lambda% (is_aops ?_)); refine no_implicit_lambda% (o_split rfl rfl rfl (fun hc => ?_) (fun hc => ?_)) <;> first | exact decx hc | rw [hc])) | (((with_reducible refine no_implicit_lambda% (is_cond ?_)); refine no_implicit_lambda% (c_cond rfl (fun hc => ?_) (fun hc => ?_)) <;> first | exact decx hc | skip)) | (((with_reducible refine no_implicit_lambda% (is_aop ?_)); refine no_implicit_lambda% (a_pick rfl rfl (fun hc => ?_) (fun hc => ?_)) <;> first | exact decx hc | rw [hc])) | (refine no_implicit_lambda% (ans ?_)) | (with_reducible exact retN) | (with_reducible exact retP) | fail | fail)
    have h5 := of_decide_eq_true hc
    ((with_reducible refine no_implicit_lambda% (is_aop ?_)); first | (refine no_implicit_lambda% (a_qS rfl (fun _ h => h) ?_ ?_)) | (refine no_implicit_lambda% (a_qS rfl (qIx (fun _ h => h)) ?_ ?_)) | (refine no_implicit_lambda% (a_qS rfl (qAnd5 (fun _ h => h)) ?_ ?_)) | (refine no_implicit_lambda% (a_qS rfl (qStr (fun _ h => h)) ?_ ?_)) | (refine no_implicit_lambda% (a_qS rfl (qAnd4 (fun _ h => h)) ?_ ?_)) | (refine no_implicit_lambda% (a_qS rfl (qAnd2 (fun _ h => h)) ?_ ?_))); focus ((repeat' (refine no_implicit_lambda% (And.intro ?_ ?_))) <;> (first | exact trivial | exact Int.natCast_nonneg _ | omega | (simp; done) | (simp; omega) | ((show (0 : Int) ≤ _); omega)))
    repeat' (first | (refine no_implicit_lambda% (awd1 ?_)) | (((with_reducible refine no_implicit_lambda% (is_aops ?_)); refine no_implicit_lambda% (o_split rfl rfl rfl (fun hc => ?_) (fun hc => ?_)) <;> first | exact decx hc | rw [hc])) | (((with_reducible refine no_implicit_lambda% (is_cond ?_)); refine no_implicit_lambda% (c_cond rfl (fun hc => ?_) (fun hc => ?_)) <;> first | exact decx hc | skip)) | (((with_reducible refine no_implicit_lambda% (is_aop ?_)); refine no_implicit_lambda% (a_pick rfl rfl (fun hc => ?_) (fun hc => ?_)) <;> first | exact decx hc | rw [hc])) | (refine no_implicit_lambda% (ans ?_)) | (with_reducible exact retN) | (with_reducible exact retP) | fail | fail)
    exact e_ret (H' := []) (rest := _) rfl ⟨rfl, rfl⟩ (.refl _) (Nat.le_of_ble_eq_true rfl)
  · refine ⟨s, fun _ => rfl, ?_⟩
    refine no_implicit_lambda% (acalls_of tok dok (f := 20) ⟨Try.func20, rfl, by kernel_rfl⟩ ?_); refine no_implicit_lambda% (c_start (fun _ h => h) ?_)
    repeat' (first | (refine no_implicit_lambda% (awd1 ?_)) | (((with_reducible refine no_implicit_lambda% (is_aops ?_)); refine no_implicit_lambda% (o_split rfl rfl rfl (fun hc => ?_) (fun hc => ?_)) <;> first | exact decx hc | rw [hc])) | (((with_reducible refine no_implicit_lambda% (is_cond ?_)); refine no_implicit_lambda% (c_cond rfl (fun hc => ?_) (fun hc => ?_)) <;> first | exact decx hc | skip)) | (((with_reducible refine no_implicit_lambda% (is_aop ?_)); refine no_implicit_lambda% (a_pick rfl rfl (fun hc => ?_) (fun hc => ?_)) <;> first | exact decx hc | rw [hc])) | (refine no_implicit_lambda% (ans ?_)) | (with_reducible exact retN) | (with_reducible exact retP) | fail | fail)
    exact e_ret (H' := []) (rest := _) rfl ⟨rfl, rfl⟩ (.refl _) (Nat.le_of_ble_eq_true rfl)
theorem pick_e (l : List ByteArray) (n : Int) (hl : 0 < l.length ∧ l.length < 1000) (h1 : -9223372036854775808 ≤ n) (h2 : n ≤ 9223372036854775807) : ∃ t ∈ l, l[((wthn n 0 1048576).tmod l.length).toNat]? = some t ∧ ACalls Try.prog 105 0 0 [.list (l.map fun s => [.v (.string s)]) .free, .v (.int .i64 n)] [] (fun out H' => out = .ret (.v (.string t)) ∧ H' = []) := by
  have hw := wthn_c n 0 1048576 h1 h2 (by decide) (by decide) (by decide) (by decide)
  have hb := wthn_bd n 0 1048576 (by decide)
  generalize wthn n 0 1048576 = w at *
  have hj : 0 ≤ w.tmod (l.length : Int) ∧ w.tmod (l.length : Int) < l.length := ⟨Int.tmod_nonneg _ hb.1, Int.tmod_lt_of_pos _ (by omega)⟩
  obtain ⟨t, ht⟩ : ∃ t, l[(w.tmod (l.length : Int)).toNat]? = some t := ⟨_, List.getElem?_eq_getElem (by omega)⟩
  refine ⟨t, List.mem_of_getElem? ht, ht, ?_⟩
  refine no_implicit_lambda% (acalls_of tok dok (f := 105) ⟨Try.func105, rfl, by kernel_rfl⟩ ?_); refine no_implicit_lambda% (c_start (fun _ h => h) ?_)
  repeat' (first | (refine no_implicit_lambda% (awd1 ?_)) | (((with_reducible refine no_implicit_lambda% (is_aops ?_)); refine no_implicit_lambda% (o_split rfl rfl rfl (fun hc => ?_) (fun hc => ?_)) <;> first | exact decx hc | rw [hc])) | (((with_reducible refine no_implicit_lambda% (is_cond ?_)); refine no_implicit_lambda% (c_cond rfl (fun hc => ?_) (fun hc => ?_)) <;> first | exact decx hc | skip)) | (((with_reducible refine no_implicit_lambda% (is_aop ?_)); refine no_implicit_lambda% (a_pick rfl rfl (fun hc => ?_) (fun hc => ?_)) <;> first | exact decx hc | rw [hc])) | (refine no_implicit_lambda% (ans ?_)) | (with_reducible exact retN) | (with_reducible exact retP) | (refine no_implicit_lambda% (cal [] (hw) ?_ ?_)) | fail)
  (with_reducible refine no_implicit_lambda% (is_aop ?_)); first | (refine no_implicit_lambda% (a_qS rfl (fun _ h => h) ?_ ?_)) | (refine no_implicit_lambda% (a_qS rfl (qIx (fun _ h => h)) ?_ ?_)) | (refine no_implicit_lambda% (a_qS rfl (qAnd5 (fun _ h => h)) ?_ ?_)) | (refine no_implicit_lambda% (a_qS rfl (qStr (fun _ h => h)) ?_ ?_)) | (refine no_implicit_lambda% (a_qS rfl (qAnd4 (fun _ h => h)) ?_ ?_)) | (refine no_implicit_lambda% (a_qS rfl (qAnd2 (fun _ h => h)) ?_ ?_))
  · rw [List.length_map]; omega
  have el : (l.map fun s => [AV.v (.string s)]).length = l.length := List.length_map ..
  rw [← el] at ht hj
  generalize w.tmod ((l.map fun s => [AV.v (.string s)]).length : Int) = j at *
  have hix : 0 ≤ j ∧ (l.map fun s => [AV.v (.string s)])[j.toNat]? = some [.v (.string t)] ∧ ([AV.v (.string t)] : List AV).length = 1 := ⟨hj.1, by rw [List.getElem?_map, ht]; rfl, rfl⟩
  repeat' (first | (refine no_implicit_lambda% (awd1 ?_)) | (((with_reducible refine no_implicit_lambda% (is_aops ?_)); refine no_implicit_lambda% (o_split rfl rfl rfl (fun hc => ?_) (fun hc => ?_)) <;> first | exact decx hc | rw [hc])) | (((with_reducible refine no_implicit_lambda% (is_cond ?_)); refine no_implicit_lambda% (c_cond rfl (fun hc => ?_) (fun hc => ?_)) <;> first | exact decx hc | skip)) | (((with_reducible refine no_implicit_lambda% (is_aop ?_)); refine no_implicit_lambda% (a_pick rfl rfl (fun hc => ?_) (fun hc => ?_)) <;> first | exact decx hc | rw [hc])) | (refine no_implicit_lambda% (ans ?_)) | (with_reducible exact retN) | (with_reducible exact retP) | fail | fail)
  exact e_ret (H' := []) (rest := _) rfl ⟨rfl, rfl⟩ (.refl _) (Nat.le_of_ble_eq_true rfl)
theorem keeprow_e (n : Int) (h1 : -9223372036854775808 ≤ n) (h2 : n ≤ 9223372036854775807) : ∃ t ∈ rowL, rowL[((wthn n 0 1048576).tmod 8).toNat]? = some t ∧ ACalls Try.prog 80 0 5 [.v (.int .i64 n)] [] (fun out H' => out = .ret (.v (.string t)) ∧ H' = []) := by
  obtain ⟨t, ht, hx, hp⟩ := pick_e rowL n (by decide) h1 h2
  refine ⟨t, ht, hx, ?_⟩
  refine no_implicit_lambda% (acalls_of tok dok (f := 80) ⟨Try.func80, rfl, by kernel_rfl⟩ ?_); refine no_implicit_lambda% (c_start (fun _ h => h) ?_)
  repeat' (first | (refine no_implicit_lambda% (awd1 ?_)) | (((with_reducible refine no_implicit_lambda% (is_aops ?_)); refine no_implicit_lambda% (o_split rfl rfl rfl (fun hc => ?_) (fun hc => ?_)) <;> first | exact decx hc | rw [hc])) | (((with_reducible refine no_implicit_lambda% (is_cond ?_)); refine no_implicit_lambda% (c_cond rfl (fun hc => ?_) (fun hc => ?_)) <;> first | exact decx hc | skip)) | (((with_reducible refine no_implicit_lambda% (is_aop ?_)); refine no_implicit_lambda% (a_pick rfl rfl (fun hc => ?_) (fun hc => ?_)) <;> first | exact decx hc | rw [hc])) | (refine no_implicit_lambda% (ans ?_)) | (with_reducible exact retN) | (with_reducible exact retP) | fail | fail)
  (refine no_implicit_lambda% (calw [] (hp) ?_ ?_))
  · refine no_implicit_lambda% (ret1 ?_); first | (refine no_implicit_lambda% (akc ?_)) | (refine no_implicit_lambda% (aec ?_))
    repeat' (first | (refine no_implicit_lambda% (awd1 ?_)) | (((with_reducible refine no_implicit_lambda% (is_aops ?_)); refine no_implicit_lambda% (o_split rfl rfl rfl (fun hc => ?_) (fun hc => ?_)) <;> first | exact decx hc | rw [hc])) | (((with_reducible refine no_implicit_lambda% (is_cond ?_)); refine no_implicit_lambda% (c_cond rfl (fun hc => ?_) (fun hc => ?_)) <;> first | exact decx hc | skip)) | (((with_reducible refine no_implicit_lambda% (is_aop ?_)); refine no_implicit_lambda% (a_pick rfl rfl (fun hc => ?_) (fun hc => ?_)) <;> first | exact decx hc | rw [hc])) | (refine no_implicit_lambda% (ans ?_)) | (with_reducible exact retN) | (with_reducible exact retP) | fail | fail)
    exact e_ret (H' := []) (rest := _) rfl ⟨rfl, rfl⟩ permT (Nat.le_of_ble_eq_true rfl)
  · first | (exact retN) | (exact retP)
/-- an ask of law 6 -/
structure Nk where
  k : Int
  r : Int
  many : Bool
  nm : ByteArray
  l : List Cw
def nkrow (a : Nk) : List AV := [.v (.int .i64 a.k), .v (.int .i64 a.r), .v (.bool a.many), .v (.string a.nm), .list (a.l.map cwrow) .free]
structure NkOk (a : Nk) : Prop where
  k : -9223372036854775808 ≤ a.k ∧ a.k ≤ 9223372036854775807
  r : -9223372036854775808 ≤ a.r ∧ a.r ≤ 9223372036854775807
  l : ∀ x ∈ a.l, CwOk x
  n : a.l.length ≤ 9223372036854775807
theorem q_convert_rune {P : Program} {L : Heap} {ev : Operand → AV} {raw : Operand → AV} {o : Oper} {s t : TypeId} {x : Operand} {k : IntKind} {n : Int} (ho : o.op = .convert s t x) (hs : (P.underlying s).isSome = true) (ht : P.underlying t = some .string) (hx : ev x = .v (.int k n)) : QOk P L ev raw o (.v (.string (Utf8.encode n))) :=
  .still fun G w ρ hh => by
    have h1 := hh.ev x (by rw [ho]; simp [Op.operands])
    rw [hx] at h1
    obtain ⟨d, hd⟩ := Option.isSome_iff_exists.1 hs
    refine ⟨.string (Utf8.encode n), ?_, .data _ _ (.v _)⟩
    simp only [execOp, ho, h1.v_inv]
    simp [convert, run_underlying hd, run_underlying ht, Conv.intToString]
theorem encode_size (n : Int) : (Utf8.encode n).size ≤ 4 := by
  unfold Utf8.encode
  dsimp only
  generalize (if Utf8.valid n = true then n.toNat else Utf8.runeError) = c
  split
  · exact (by decide : (1 : Nat) ≤ 4)
  · split
    · exact (by decide : (2 : Nat) ≤ 4)
    · split
      · exact (by decide : (3 : Nat) ≤ 4)
      · exact (by decide : (4 : Nat) ≤ 4)
def kName (r : Int) : ByteArray := ⟨#[107]⟩ ++ Utf8.encode (IntKind.i32.wrap (IntKind.i64.wrap (97 + (IntKind.i64.wrap (r.tmod 45 + 45)).tmod 45)))
/-- what is told of an ask's name -/
def NameIs (a : Nk) (t : ByteArray) : Prop :=
  (a.r.tmod 11 = 10 → a.nm.size ≤ 20 → t = a.nm) ∧ (a.r.tmod 11 ≠ 10 → a.many = true → t = kName a.r) ∧ (a.r.tmod 11 ≠ 10 → a.many = false → rowL[((wthn a.r 0 1048576).tmod 8).toNat]? = some t)
theorem name6_e (a : Nk) (h : NkOk a) : ∃ t : ByteArray, NameIs a t ∧ ACalls Try.prog 41 0 20 [.agg (nkrow a)] [] (fun out H' => out = .ret (.v (.string t)) ∧ H' = []) := by
  by_cases hr : a.r.tmod 11 = 10
  · obtain ⟨t, ht, hp⟩ := head_e a.nm 20 (by decide)
    refine ⟨t, ⟨fun _ => ht, fun h => absurd hr h, fun h => absurd hr h⟩, ?_⟩
    refine no_implicit_lambda% (acalls_of tok dok (f := 41) ⟨Try.func41, rfl, by kernel_rfl⟩ ?_); refine no_implicit_lambda% (c_start (fun _ h => h) ?_)
    repeat' (first | (refine no_implicit_lambda% (awd1 ?_)) | (((with_reducible refine no_implicit_lambda% (is_aops ?_)); refine no_implicit_lambda% (o_split rfl rfl rfl (fun hc => ?_) (fun hc => ?_)) <;> first | exact decx hc | rw [hc])) | (((with_reducible refine no_implicit_lambda% (is_cond ?_)); refine no_implicit_lambda% (c_cond rfl (fun hc => ?_) (fun hc => ?_)) <;> first | exact decx hc | skip)) | (((with_reducible refine no_implicit_lambda% (is_aop ?_)); refine no_implicit_lambda% (a_pick rfl rfl (fun hc => ?_) (fun hc => ?_)) <;> first | exact decx hc | rw [hc])) | (refine no_implicit_lambda% (ans ?_)) | (with_reducible exact retN) | (with_reducible exact retP) | (refine no_implicit_lambda% (cal [] (hp) ?_ ?_)) | fail)
    exact e_ret (H' := []) (rest := _) rfl ⟨rfl, rfl⟩ permT (Nat.le_of_ble_eq_true rfl)
  · rcases hm : a.many with _ | _
    · obtain ⟨t, _, ht, hp⟩ := keeprow_e a.r h.r.1 h.r.2
      refine ⟨t, ⟨fun h => absurd h hr, fun _ h => by simp [hm] at h, fun _ _ => ht⟩, ?_⟩
      refine no_implicit_lambda% (acalls_of tok dok (f := 41) ⟨Try.func41, rfl, by kernel_rfl⟩ ?_); refine no_implicit_lambda% (c_start (fun _ h => h) ?_)
      repeat' (first | (refine no_implicit_lambda% (awd1 ?_)) | (((with_reducible refine no_implicit_lambda% (is_aops ?_)); refine no_implicit_lambda% (o_split rfl rfl rfl (fun hc => ?_) (fun hc => ?_)) <;> first | exact decx hc | rw [hc])) | (((with_reducible refine no_implicit_lambda% (is_cond ?_)); refine no_implicit_lambda% (c_cond rfl (fun hc => ?_) (fun hc => ?_)) <;> first | exact decx hc | skip)) | (((with_reducible refine no_implicit_lambda% (is_aop ?_)); refine no_implicit_lambda% (a_pick rfl rfl (fun hc => ?_) (fun hc => ?_)) <;> first | exact decx hc | rw [hc])) | (refine no_implicit_lambda% (ans ?_)) | (with_reducible exact retN) | (with_reducible exact retP) | (refine no_implicit_lambda% (cal [] (hp) ?_ ?_)) | fail)
      all_goals try (exfalso; clear hp; simp_all; done)
      exact e_ret (H' := []) (rest := _) rfl ⟨rfl, rfl⟩ permT (Nat.le_of_ble_eq_true rfl)
    · refine ⟨kName a.r, ⟨fun h => absurd h hr, fun _ _ => rfl, fun _ h => by simp [hm] at h⟩, ?_⟩
      refine no_implicit_lambda% (acalls_of tok dok (f := 41) ⟨Try.func41, rfl, by kernel_rfl⟩ ?_); refine no_implicit_lambda% (c_start (fun _ h => h) ?_)
      repeat' (first | (refine no_implicit_lambda% (awd1 ?_)) | (((with_reducible refine no_implicit_lambda% (is_aops ?_)); refine no_implicit_lambda% (o_split rfl rfl rfl (fun hc => ?_) (fun hc => ?_)) <;> first | exact decx hc | rw [hc])) | (((with_reducible refine no_implicit_lambda% (is_cond ?_)); refine no_implicit_lambda% (c_cond rfl (fun hc => ?_) (fun hc => ?_)) <;> first | exact decx hc | skip)) | (((with_reducible refine no_implicit_lambda% (is_aop ?_)); refine no_implicit_lambda% (a_pick rfl rfl (fun hc => ?_) (fun hc => ?_)) <;> first | exact decx hc | rw [hc])) | (refine no_implicit_lambda% (ans ?_)) | (with_reducible exact retN) | (with_reducible exact retP) | fail | fail)
      all_goals try (exfalso; simp_all; done)
      (with_reducible refine no_implicit_lambda% (is_aop ?_)); refine no_implicit_lambda% (a_known rfl (q_convert_rune rfl (by kernel_rfl) (by kernel_rfl) rfl) ?_)
      repeat' (first | (refine no_implicit_lambda% (awd1 ?_)) | (((with_reducible refine no_implicit_lambda% (is_aops ?_)); refine no_implicit_lambda% (o_split rfl rfl rfl (fun hc => ?_) (fun hc => ?_)) <;> first | exact decx hc | rw [hc])) | (((with_reducible refine no_implicit_lambda% (is_cond ?_)); refine no_implicit_lambda% (c_cond rfl (fun hc => ?_) (fun hc => ?_)) <;> first | exact decx hc | skip)) | (((with_reducible refine no_implicit_lambda% (is_aop ?_)); refine no_implicit_lambda% (a_pick rfl rfl (fun hc => ?_) (fun hc => ?_)) <;> first | exact decx hc | rw [hc])) | (refine no_implicit_lambda% (ans ?_)) | (with_reducible exact retN) | (with_reducible exact retP) | fail | fail)
      unfold kName
      have hez := encode_size (IntKind.i32.wrap (IntKind.i64.wrap (97 + (IntKind.i64.wrap (a.r.tmod 45 + 45)).tmod 45)))
      generalize Utf8.encode (IntKind.i32.wrap (IntKind.i64.wrap (97 + (IntKind.i64.wrap (a.r.tmod 45 + 45)).tmod 45))) = u at *
      (with_reducible refine no_implicit_lambda% (is_aop ?_))
      refine no_implicit_lambda% (a_qS rfl (fun _ h => h) ?_ ?_)
      · have h107 : (⟨#[107]⟩ : ByteArray).size = 1 := rfl
        rw [h107]
        show _ ≤ (9223372036854775807 : Int)
        omega
      repeat' (first | (refine no_implicit_lambda% (awd1 ?_)) | (((with_reducible refine no_implicit_lambda% (is_aops ?_)); refine no_implicit_lambda% (o_split rfl rfl rfl (fun hc => ?_) (fun hc => ?_)) <;> first | exact decx hc | rw [hc])) | (((with_reducible refine no_implicit_lambda% (is_cond ?_)); refine no_implicit_lambda% (c_cond rfl (fun hc => ?_) (fun hc => ?_)) <;> first | exact decx hc | skip)) | (((with_reducible refine no_implicit_lambda% (is_aop ?_)); refine no_implicit_lambda% (a_pick rfl rfl (fun hc => ?_) (fun hc => ?_)) <;> first | exact decx hc | rw [hc])) | (refine no_implicit_lambda% (ans ?_)) | (with_reducible exact retN) | (with_reducible exact retP) | fail | fail)
      exact e_ret (H' := []) (rest := _) rfl ⟨rfl, rfl⟩ permT (Nat.le_of_ble_eq_true rfl)
end Go.Proofs.Ytjepgbpcpcahgaa
namespace Go.Proofs.Ytjepgbpcpcahgaa
open Go.Am
set_option linter.unusedSimpArgs false
set_option linter.unusedVariables false
set_option maxRecDepth 100000
theorem made6_nil : ACalls Try.prog 40 0 900000 [.list ([].map cwrow) .free] [] (fun out H' => out = .ret (rowA []) ∧ H' = []) := by
  refine no_implicit_lambda% (acalls_of tok dok (f := 40) ⟨Try.func40, rfl, by kernel_rfl⟩ ?_); refine no_implicit_lambda% (c_start (fun _ h => h) ?_)
  repeat' (first | (refine no_implicit_lambda% (awd1 ?_)) | (((with_reducible refine no_implicit_lambda% (is_aops ?_)); refine no_implicit_lambda% (o_split rfl rfl rfl (fun hc => ?_) (fun hc => ?_)) <;> first | exact decx hc | rw [hc])) | (((with_reducible refine no_implicit_lambda% (is_cond ?_)); refine no_implicit_lambda% (c_cond rfl (fun hc => ?_) (fun hc => ?_)) <;> first | exact decx hc | skip)) | (((with_reducible refine no_implicit_lambda% (is_aop ?_)); refine no_implicit_lambda% (a_pick rfl rfl (fun hc => ?_) (fun hc => ?_)) <;> first | exact decx hc | rw [hc])) | (refine no_implicit_lambda% (ans ?_)) | (with_reducible exact retN) | (with_reducible exact retP) | fail | fail)
  refine c_loop2 (m6St []) (fun M i => M = [] ∧ i = 0) (fun _ _ => 0) [] 0 ⟨rfl, rfl⟩ ?_ ?_
  · (refine no_implicit_lambda% (Conv.toT ?_ ?_ (Nat.le_of_ble_eq_true rfl))); (focus ((unfold m6St); (try dsimp only); exact wkl)); (focus ((unfold m6St); (try dsimp only); exact wkh))
  · rintro _ _ ⟨rfl, rfl⟩
    refine c_turn (n' := 2) (fun _ h => h) (fun _ h => h) rfl ?_
    repeat' (first | (refine no_implicit_lambda% (awd1 ?_)) | (((with_reducible refine no_implicit_lambda% (is_aops ?_)); refine no_implicit_lambda% (o_split rfl rfl rfl (fun hc => ?_) (fun hc => ?_)) <;> first | exact decx hc | rw [hc])) | (((with_reducible refine no_implicit_lambda% (is_cond ?_)); refine no_implicit_lambda% (c_cond rfl (fun hc => ?_) (fun hc => ?_)) <;> first | exact decx hc | skip)) | (((with_reducible refine no_implicit_lambda% (is_aop ?_)); refine no_implicit_lambda% (a_pick rfl rfl (fun hc => ?_) (fun hc => ?_)) <;> first | exact decx hc | rw [hc])) | (refine no_implicit_lambda% (ans ?_)) | (with_reducible exact retN) | (with_reducible exact retP) | fail | fail)
    exact e_ret (H' := []) (rest := _) rfl ⟨rfl, rfl⟩ permT (Nat.le_of_ble_eq_true rfl)
theorem made6_e (a : Nk) (h : NkOk a) : ACalls Try.prog 40 0 900000 [.list (a.l.map cwrow) .free] [] (fun out H' => ∃ M, (Fine M ∧ RowSz M ∧ (a.l = [] → M = [])) ∧ out = .ret (rowA M) ∧ H' = []) := by
  by_cases hl : a.l = []
  · rw [hl]
    exact made6_nil.mono fun out H' hh => ⟨[], ⟨fine_nil, sz_nil, fun _ => rfl⟩, hh.1, hh.2⟩
  · exact (made6_c a.l h.l h.n).mono fun out H' ⟨M, h1, h2, h3, h4⟩ => ⟨M, ⟨h1, h2, fun h => absurd h hl⟩, h3, h4⟩
/-- what is told of an ask's row -/
def RowIs (a : Nk) (R : List Co) : Prop := Fine R ∧ RowSz R ∧ (a.k = 1 → a.l = [] → R = someR)
/-- what calls make of a table -/
inductive PlayR : List Nk → List Nm → Prop
  | nil : PlayR [] []
  | snoc {l : List Nk} {Q : List Nm} {a : Nk} {s : ByteArray} {R : List Co} : PlayR l Q → NameIs a s → RowIs a R → PlayR (l ++ [a]) (setN Q s R).2
def ply6St (l : List Nk) (Q : List Nm) (cp i : Nat) : ASt := ⟨([.list (l.map nkrow) .free, .dead, .dead, .dead, .dead, .ptr 0 0, .list (Q.map nmrow) .free, .v (.int .i64 i)] ++ List.replicate 70 .dead), tbl Q cp, 2⟩
def plz6St (l : List Nk) (Q : List Nm) (cp i : Nat) (R : List Co) : ASt := ⟨([.list (l.map nkrow) .free, .dead, .dead, .dead, .dead, .ptr 0 0, .list (Q.map nmrow) .free, .v (.int .i64 i), .ptr 2 0] ++ List.replicate 69 .dead), tbl Q cp ++ [(2, .box [.list (R.map corow) .free])], 990000⟩
theorem nkex {l : List Nk} {i : Nat} {t : Nk} (h : l[i]? = some t) : 0 ≤ (i : Int) ∧ (l.map nkrow)[(i : Int).toNat]? = some (nkrow t) ∧ (nkrow t).length = 5 := ⟨Int.natCast_nonneg _, by rw [Int.toNat_natCast, List.getElem?_map, h]; rfl, rfl⟩
def PlayO (l : List Nk) (out : AOut) (H' : Heap) : Prop := ∃ Q cp, PlayR (l.take 60) Q ∧ TbOk Q ∧ Q.length ≤ cp ∧ cp ≤ maxLen ∧ out = .ret (.tuple [.ptr 0 0, .list (Q.map nmrow) .free, .v (.bool true)]) ∧ H' = tbl Q cp
set_option maxHeartbeats 6400000 in
theorem play6_c (l : List Nk) (hl : ∀ a ∈ l, NkOk a) (h : l.length ≤ 9223372036854775807) : ACalls Try.prog 12 0 2000000 [.list (l.map nkrow) .free] [] (PlayO l) := by
  · have hnw := tnew_c
    unfold tnew at hnw
    refine no_implicit_lambda% (acalls_of tok dok (f := 12) ⟨Try.func12, rfl, by kernel_rfl⟩ ?_); refine no_implicit_lambda% (c_start (fun _ h => h) ?_)
    repeat' (first | (refine no_implicit_lambda% (awd1 ?_)) | (((with_reducible refine no_implicit_lambda% (is_aops ?_)); refine no_implicit_lambda% (o_split rfl rfl rfl (fun hc => ?_) (fun hc => ?_)) <;> first | exact decx hc | rw [hc])) | (((with_reducible refine no_implicit_lambda% (is_cond ?_)); refine no_implicit_lambda% (c_cond rfl (fun hc => ?_) (fun hc => ?_)) <;> first | exact decx hc | skip)) | (((with_reducible refine no_implicit_lambda% (is_aop ?_)); refine no_implicit_lambda% (a_pick rfl rfl (fun hc => ?_) (fun hc => ?_)) <;> first | exact decx hc | rw [hc])) | (refine no_implicit_lambda% (ans ?_)) | (with_reducible exact retN) | (with_reducible exact retP) | (refine no_implicit_lambda% (cal [] (hnw) ?_ ?_)) | fail)
    refine c_l3 (ply6St l) (fun Q cp i => i ≤ l.length ∧ i ≤ 60 ∧ TbOk Q ∧ Q.length ≤ cp ∧ cp ≤ maxLen ∧ PlayR (l.take i) Q) (fun _ _ i => l.length - i) [] 0 0 ⟨Nat.zero_le _, Nat.zero_le _, nil_ok, Nat.le_refl _, Nat.zero_le _, .nil⟩ ?_ ?_
    · (refine no_implicit_lambda% (Conv.toT ?_ ?_ (Nat.le_of_ble_eq_true rfl))); (focus ((unfold ply6St); (try dsimp only); exact wkl)); (focus ((unfold ply6St); (try dsimp only); exact wkh))
    · rintro Q cp i ⟨i1, i2, hQ, c1, c2, hP⟩
      have hend : (l.length = i ∨ 60 ≤ i) → PlayO l (.ret (.tuple [.ptr 0 0, .list (Q.map nmrow) .free, .v (.bool true)])) (tbl Q cp) := fun hi => ⟨Q, cp, by
        have e : l.take 60 = l.take i := by
          rcases hi with rfl | hi
          · rw [List.take_length, List.take_of_length_le (by omega)]
          · rw [show i = 60 by omega]
        rw [e]; exact hP, hQ, c1, c2, rfl, rfl⟩
      refine c_turn (n' := 2) (fun _ h => h) (fun _ h => h) rfl ?_
      rcases hx : l[i]? with _ | a
      · have hi : i = l.length := by have := List.getElem?_eq_none_iff.1 hx; omega
        repeat' (first | (refine no_implicit_lambda% (awd1 ?_)) | (((with_reducible refine no_implicit_lambda% (is_aops ?_)); refine no_implicit_lambda% (o_split rfl rfl rfl (fun hc => ?_) (fun hc => ?_)) <;> first | exact decx hc | rw [hc])) | (((with_reducible refine no_implicit_lambda% (is_cond ?_)); refine no_implicit_lambda% (c_cond rfl (fun hc => ?_) (fun hc => ?_)) <;> first | exact decx hc | skip)) | (((with_reducible refine no_implicit_lambda% (is_aop ?_)); refine no_implicit_lambda% (a_pick rfl rfl (fun hc => ?_) (fun hc => ?_)) <;> first | exact decx hc | rw [hc])) | (refine no_implicit_lambda% (ans ?_)) | (with_reducible exact retN) | (with_reducible exact retP) | fail | fail)
        exact e_ret (H' := tbl Q cp) (rest := _) rfl (hend (.inl hi.symm)) permT (Nat.le_of_ble_eq_true rfl)
      · have hi : i < l.length := (List.getElem?_eq_some_iff.1 hx).1
        have ha := hl a (List.mem_of_getElem? hx)
        have hix := nkex hx
        obtain ⟨s, hs, hnm⟩ := name6_e a ha
        repeat' (first | (refine no_implicit_lambda% (sx1 ?_)) | (((with_reducible refine no_implicit_lambda% (is_aops ?_)); refine no_implicit_lambda% (o_split rfl rfl rfl (fun hc => ?_) (fun hc => ?_)) <;> first | exact decx hc | rw [hc])) | (((with_reducible refine no_implicit_lambda% (is_cond ?_)); refine no_implicit_lambda% (c_cond rfl (fun hc => ?_) (fun hc => ?_)) <;> first | exact decx hc | skip)) | (((with_reducible refine no_implicit_lambda% (is_aop ?_)); refine no_implicit_lambda% (a_pick rfl rfl (fun hc => ?_) (fun hc => ?_)) <;> first | exact decx hc | rw [hc])) | fail)
        refine k_seq ?_
        repeat' (first | (refine no_implicit_lambda% (sx1 ?_)) | (((with_reducible refine no_implicit_lambda% (is_aops ?_)); refine no_implicit_lambda% (o_split rfl rfl rfl (fun hc => ?_) (fun hc => ?_)) <;> first | exact decx hc | rw [hc])) | (((with_reducible refine no_implicit_lambda% (is_cond ?_)); refine no_implicit_lambda% (c_cond rfl (fun hc => ?_) (fun hc => ?_)) <;> first | exact decx hc | skip)) | (((with_reducible refine no_implicit_lambda% (is_aop ?_)); refine no_implicit_lambda% (a_pick rfl rfl (fun hc => ?_) (fun hc => ?_)) <;> first | exact decx hc | rw [hc])) | fail)
        · have h60 : i + 1 ≤ 60 := by have := of_decide_eq_true hc; omega
          refine k_seq ?_
          repeat' (first | (refine no_implicit_lambda% (sx1 ?_)) | (((with_reducible refine no_implicit_lambda% (is_aops ?_)); refine no_implicit_lambda% (o_split rfl rfl rfl (fun hc => ?_) (fun hc => ?_)) <;> first | exact decx hc | rw [hc])) | (((with_reducible refine no_implicit_lambda% (is_cond ?_)); refine no_implicit_lambda% (c_cond rfl (fun hc => ?_) (fun hc => ?_)) <;> first | exact decx hc | skip)) | (((with_reducible refine no_implicit_lambda% (is_aop ?_)); refine no_implicit_lambda% (a_pick rfl rfl (fun hc => ?_) (fun hc => ?_)) <;> first | exact decx hc | rw [hc])) | fail)
          refine k_seq ?_
          repeat' (first | (refine no_implicit_lambda% (sx1 ?_)) | (((with_reducible refine no_implicit_lambda% (is_aops ?_)); refine no_implicit_lambda% (o_split rfl rfl rfl (fun hc => ?_) (fun hc => ?_)) <;> first | exact decx hc | rw [hc])) | (((with_reducible refine no_implicit_lambda% (is_cond ?_)); refine no_implicit_lambda% (c_cond rfl (fun hc => ?_) (fun hc => ?_)) <;> first | exact decx hc | skip)) | (((with_reducible refine no_implicit_lambda% (is_aop ?_)); refine no_implicit_lambda% (a_pick rfl rfl (fun hc => ?_) (fun hc => ?_)) <;> first | exact decx hc | rw [hc])) | fail)
          refine k_seq ?_
          repeat' (first | (refine no_implicit_lambda% (sx1 ?_)) | (((with_reducible refine no_implicit_lambda% (is_aops ?_)); refine no_implicit_lambda% (o_split rfl rfl rfl (fun hc => ?_) (fun hc => ?_)) <;> first | exact decx hc | rw [hc])) | (((with_reducible refine no_implicit_lambda% (is_cond ?_)); refine no_implicit_lambda% (c_cond rfl (fun hc => ?_) (fun hc => ?_)) <;> first | exact decx hc | skip)) | (((with_reducible refine no_implicit_lambda% (is_aop ?_)); refine no_implicit_lambda% (a_pick rfl rfl (fun hc => ?_) (fun hc => ?_)) <;> first | exact decx hc | rw [hc])) | fail)
          refine k_seq ?_
          repeat' (first | (refine no_implicit_lambda% (sx1 ?_)) | (((with_reducible refine no_implicit_lambda% (is_aops ?_)); refine no_implicit_lambda% (o_split rfl rfl rfl (fun hc => ?_) (fun hc => ?_)) <;> first | exact decx hc | rw [hc])) | (((with_reducible refine no_implicit_lambda% (is_cond ?_)); refine no_implicit_lambda% (c_cond rfl (fun hc => ?_) (fun hc => ?_)) <;> first | exact decx hc | skip)) | (((with_reducible refine no_implicit_lambda% (is_aop ?_)); refine no_implicit_lambda% (a_pick rfl rfl (fun hc => ?_) (fun hc => ?_)) <;> first | exact decx hc | rw [hc])) | fail)
          refine k_seq ?_
          refine c_cutR (fun R => plz6St l Q cp i R) (fun R => RowIs a R) ?_ ?_
          · rintro R hR
            have h1 := set_c Q s R cp hQ c1 c2 (by have := hR.1.len; omega) hR.2.1
            have h2 := rset_c Q s R hQ (by have := hR.1.len; omega) hR.2.1
            refine c_turn (n' := 990000) (fun _ h => h) (fun _ h => h) rfl ?_
            repeat' (first | (refine no_implicit_lambda% (awd1 ?_)) | (((with_reducible refine no_implicit_lambda% (is_aops ?_)); refine no_implicit_lambda% (o_split rfl rfl rfl (fun hc => ?_) (fun hc => ?_)) <;> first | exact decx hc | rw [hc])) | (((with_reducible refine no_implicit_lambda% (is_cond ?_)); refine no_implicit_lambda% (c_cond rfl (fun hc => ?_) (fun hc => ?_)) <;> first | exact decx hc | skip)) | (((with_reducible refine no_implicit_lambda% (is_aop ?_)); refine no_implicit_lambda% (a_pick rfl rfl (fun hc => ?_) (fun hc => ?_)) <;> first | exact decx hc | rw [hc])) | (refine no_implicit_lambda% (ans ?_)) | (with_reducible exact retN) | (with_reducible exact retP) | (refine no_implicit_lambda% (cal [] (hnm) ?_ ?_)) | fail)
            (refine no_implicit_lambda% (cal [0, 1] (h1) ?_ ?_))
            · intro xx H' hh
              obtain ⟨cp2, d1, d2, h', rfl⟩ := hh
              cases h'
              first | (refine no_implicit_lambda% (akc ?_)) | (refine no_implicit_lambda% (aec ?_))
              repeat' (first | (refine no_implicit_lambda% (awd1 ?_)) | (((with_reducible refine no_implicit_lambda% (is_aops ?_)); refine no_implicit_lambda% (o_split rfl rfl rfl (fun hc => ?_) (fun hc => ?_)) <;> first | exact decx hc | rw [hc])) | (((with_reducible refine no_implicit_lambda% (is_cond ?_)); refine no_implicit_lambda% (c_cond rfl (fun hc => ?_) (fun hc => ?_)) <;> first | exact decx hc | skip)) | (((with_reducible refine no_implicit_lambda% (is_aop ?_)); refine no_implicit_lambda% (a_pick rfl rfl (fun hc => ?_) (fun hc => ?_)) <;> first | exact decx hc | rw [hc])) | (refine no_implicit_lambda% (ans ?_)) | (with_reducible exact retN) | (with_reducible exact retP) | (refine no_implicit_lambda% (cal [] (hnm) ?_ ?_)) | (refine no_implicit_lambda% (cal [] (h2) ?_ ?_)) | fail)
              (refine no_implicit_lambda% (k_loopLT ((((setN Q s R).2, cp2, i + 1) : List Nm × Nat × Nat)) 0 [0, 990020] (by
                show i + 1 ≤ l.length ∧ i + 1 ≤ 60 ∧ TbOk (setN Q s R).2 ∧ (setN Q s R).2.length ≤ cp2 ∧ cp2 ≤ maxLen ∧ PlayR (l.take (i + 1)) (setN Q s R).2
                refine ⟨hi, h60, setN_ok hQ hR.2.1, d1, d2, ?_⟩
                have e : l.take (i + 1) = l.take i ++ [a] := by rw [List.take_add_one, hx]; rfl
                rw [e]
                exact .snoc hP hs hR) (by first | omega | (simp; done) | (simp; omega)) (Nat.le_of_ble_eq_true rfl) (fun _ h => h) (fun _ h => h) ?_ ?_)); (focus ((try dsimp only); exact wkl)); (focus ((try dsimp only); exact wkh))
            · intro xx H' hh
              obtain ⟨_, _, _, h', _⟩ := hh
              cases h'
          · intro Kx kN kP kR kE
            repeat' (first | (refine no_implicit_lambda% (awd1 ?_)) | (((with_reducible refine no_implicit_lambda% (is_aops ?_)); refine no_implicit_lambda% (o_split rfl rfl rfl (fun hc => ?_) (fun hc => ?_)) <;> first | exact decx hc | rw [hc])) | (((with_reducible refine no_implicit_lambda% (is_cond ?_)); refine no_implicit_lambda% (c_cond rfl (fun hc => ?_) (fun hc => ?_)) <;> first | exact decx hc | skip)) | (((with_reducible refine no_implicit_lambda% (is_aop ?_)); refine no_implicit_lambda% (a_pick rfl rfl (fun hc => ?_) (fun hc => ?_)) <;> first | exact decx hc | rw [hc])) | (refine no_implicit_lambda% (ans ?_)) | (with_reducible exact retN) | (with_reducible exact retP) | (refine no_implicit_lambda% (cal [] (made6_e a ha) ?_ ?_)) | fail)
            · intro xx H' hh
              obtain ⟨M, ⟨hF, hz, hm⟩, h', rfl⟩ := hh
              cases h'
              first | (refine no_implicit_lambda% (akc ?_)) | (refine no_implicit_lambda% (aec ?_))
              repeat' (first | (refine no_implicit_lambda% (awd1 ?_)) | (((with_reducible refine no_implicit_lambda% (is_aops ?_)); refine no_implicit_lambda% (o_split rfl rfl rfl (fun hc => ?_) (fun hc => ?_)) <;> first | exact decx hc | rw [hc])) | (((with_reducible refine no_implicit_lambda% (is_cond ?_)); refine no_implicit_lambda% (c_cond rfl (fun hc => ?_) (fun hc => ?_)) <;> first | exact decx hc | skip)) | (((with_reducible refine no_implicit_lambda% (is_aop ?_)); refine no_implicit_lambda% (a_pick rfl rfl (fun hc => ?_) (fun hc => ?_)) <;> first | exact decx hc | rw [hc])) | (refine no_implicit_lambda% (ans ?_)) | (with_reducible exact retN) | (with_reducible exact retP) | (refine no_implicit_lambda% (cal [] (some6_c) ?_ ?_)) | fail)
              · refine kN someR _ _ _ ⟨some_fine.1, some_fine.2, fun _ _ => rfl⟩ (.inl ?_)
                (refine no_implicit_lambda% (Conv.toT ?_ ?_ (Nat.le_of_ble_eq_true rfl))); (focus ((unfold plz6St); (try dsimp only); exact wkl)); (focus ((unfold plz6St); (try dsimp only); exact wkh))
              · refine kN M _ _ _ ⟨hF, hz, fun _ h => ?_⟩ (.inl ?_)
                · exfalso
                  have hM := hm h
                  subst hM
                  simp at hc
                · (refine no_implicit_lambda% (Conv.toT ?_ ?_ (Nat.le_of_ble_eq_true rfl))); (focus ((unfold plz6St); (try dsimp only); exact wkl)); (focus ((unfold plz6St); (try dsimp only); exact wkh))
              · refine kN M _ _ _ ⟨hF, hz, fun h => ?_⟩ (.inl ?_)
                · exfalso
                  rw [h] at hc
                  simp at hc
                · (refine no_implicit_lambda% (Conv.toT ?_ ?_ (Nat.le_of_ble_eq_true rfl))); (focus ((unfold plz6St); (try dsimp only); exact wkl)); (focus ((unfold plz6St); (try dsimp only); exact wkh))
            · intro xx H' hh
              obtain ⟨_, _, h', _⟩ := hh
              cases h'
            · refine kN [] _ _ _ ⟨fine_nil, sz_nil, fun h => ?_⟩ (.inl ?_)
              · exfalso
                rw [h] at hc
                simp at hc
              · (refine no_implicit_lambda% (Conv.toT ?_ ?_ (Nat.le_of_ble_eq_true rfl))); (focus ((unfold plz6St); (try dsimp only); exact wkl)); (focus ((unfold plz6St); (try dsimp only); exact wkh))
        · refine k_seq ?_
          repeat' (first | (refine no_implicit_lambda% (awd1 ?_)) | (((with_reducible refine no_implicit_lambda% (is_aops ?_)); refine no_implicit_lambda% (o_split rfl rfl rfl (fun hc => ?_) (fun hc => ?_)) <;> first | exact decx hc | rw [hc])) | (((with_reducible refine no_implicit_lambda% (is_cond ?_)); refine no_implicit_lambda% (c_cond rfl (fun hc => ?_) (fun hc => ?_)) <;> first | exact decx hc | skip)) | (((with_reducible refine no_implicit_lambda% (is_aop ?_)); refine no_implicit_lambda% (a_pick rfl rfl (fun hc => ?_) (fun hc => ?_)) <;> first | exact decx hc | rw [hc])) | (refine no_implicit_lambda% (ans ?_)) | (with_reducible exact retN) | (with_reducible exact retP) | fail | fail)
          exact e_ret (H' := tbl Q cp) (rest := _) rfl (hend (.inr (by have := of_decide_eq_false hc; omega))) permT (Nat.le_of_ble_eq_true rfl)
end Go.Proofs.Ytjepgbpcpcahgaa
namespace Go.Proofs.Ytjepgbpcpcahgaa
open Go.Am
set_option linter.unusedSimpArgs false
set_option linter.unusedVariables false
set_option maxRecDepth 100000
theorem npos_emp (l : List Co) : npos l ⟨#[]⟩ = 0 := by
  unfold npos
  rw [List.countP_eq_zero]
  intro c _
  unfold sLt
  have : (⟨#[]⟩ : ByteArray).toList = [] := by simp [ByteArray.toList_eq]
  rw [this]
  cases c.n.toList <;> simp [Op.bytesLess]
/-- the name of a row, or none -/
def nmAt (Q : List Nm) (j : Nat) : ByteArray := match Q[j]? with | some x => x.n | none => ⟨#[]⟩
theorem rng_at {Q : List Nm} (hQ : TbOk Q) {j k : Nat} {fr : ByteArray} (hk : 1 ≤ k ∧ k ≤ 7) (hf : (j = 0 ∧ fr = ⟨#[]⟩) ∨ ∃ x, Q[j]? = some x ∧ fr = x.n) : rangeN Q fr ⟨#[]⟩ k = ((Q.drop j).take k, nmAt Q (j + k)) := by
  have he : (⟨#[]⟩ : ByteArray).toList = [] := by simp [ByteArray.toList_eq]
  have hp : npos (nk Q) fr = j := by
    rcases hf with ⟨rfl, rfl⟩ | ⟨x, hx, rfl⟩
    · exact npos_emp _
    · exact (npos_at hQ.srt (nk_at hx)).1
  have hm : (max 0 (min (k : Int) 16)).toNat = k := by omega
  unfold rangeN nmAt
  dsimp only
  rw [if_pos he, hp, hm]
  split
  · next h =>
    rw [List.drop_eq_nil_of_le h, List.getElem?_eq_none (by omega)]
    simp
  · split
    · next h1 h2 =>
      rw [List.getElem?_eq_none (by omega), List.take_of_length_le (by rw [List.length_drop]; omega), List.take_of_length_le (by rw [List.length_drop]; omega)]
    · rfl
end Go.Proofs.Ytjepgbpcpcahgaa
namespace Go.Proofs.Ytjepgbpcpcahgaa
open Go.Am
set_option linter.unusedSimpArgs false
set_option linter.unusedVariables false
set_option maxRecDepth 100000
theorem setN_bad {Q : List Nm} {s : ByteArray} {r : List Co} (h : nmB s = false ∨ rowB r = false) : setN Q s r = (1, Q) := by unfold setN; rw [if_pos h]
theorem setN_new {Q : List Nm} {s : ByteArray} {r : List Co} (h1 : nmB s = true) (h2 : rowB r = true) (h3 : r ≠ []) (h4 : hasN (nk Q) s = false) (h5 : Q.length < 32) : setN Q s r = (0, insAt Q (npos (nk Q) s) ⟨s, copyR r⟩) := by
  unfold setN; rw [if_neg (by simp [h1, h2]), if_neg h3, h4, if_neg (by simp), if_neg (by omega)]
theorem some_row : rowB someR = true := some_fine.1.row
def nmQ (b : UInt8) : Nm := ⟨bsS [b], someR⟩
theorem kn_b : setN [] (bsS [98]) someR = (0, [nmQ 98]) := by
  rw [setN_new (by decide) some_row (by decide) rfl (by decide), some_fine.1.copy]
  rfl
theorem kn_lt : sLt (bsS [98]) (bsS [97]) = false ∧ cmpS (bsS [98]) (bsS [97]) ≠ 0 := by
  unfold sLt cmpS
  have e1 : (bsS [98]).toList = [98] := by simp [ByteArray.toList_eq, bsS]
  have e2 : (bsS [97]).toList = [97] := by simp [ByteArray.toList_eq, bsS]
  rw [e1, e2]
  decide
theorem kn_a : setN [nmQ 98] (bsS [97]) someR = (0, [nmQ 97, nmQ 98]) := by
  obtain ⟨h1, h2⟩ := kn_lt
  have hn : hasN (nk [nmQ 98]) (bsS [97]) = false := hasN_not fun c hc => by
    rw [List.mem_singleton.1 (show c ∈ [⟨bsS [98], []⟩] from hc)]
    exact h2
  rw [setN_new (by decide) some_row (by decide) hn (by decide), some_fine.1.copy]
  have hp : npos (nk [nmQ 98]) (bsS [97]) = 0 := by
    unfold npos
    rw [List.countP_eq_zero]
    intro c hc
    rw [List.mem_singleton.1 (show c ∈ [⟨bsS [98], []⟩] from hc), h1]
    decide
  rw [hp]
  rfl
set_option maxHeartbeats 6400000 in
theorem known6_c : ACalls Try.prog 15 0 90000 [] [] (fun out H' => out = .ret (.v (.bool true)) ∧ H' = []) := by
  have hnw := tnew_c
  unfold tnew at hnw
  have hs := some6_c
  have q1 := setN_ok (s := bsS [98]) (r := someR) nil_ok some_fine.2
  rw [kn_b] at q1
  have q2 := setN_ok (s := bsS [97]) (r := someR) q1 some_fine.2
  rw [kn_a] at q2
  have s1 := set_c [] (bsS [98]) someR 0 nil_ok (Nat.le_refl _) (Nat.zero_le _) (by decide) some_fine.2
  rw [kn_b] at s1
  dsimp only at q1 q2 s1
  have hbad : setN [nmQ 97, nmQ 98] (bsS []) someR = (1, [nmQ 97, nmQ 98]) := setN_bad (.inl (by decide))
  have hrg : rangeN [nmQ 97, nmQ 98] ⟨#[]⟩ ⟨#[]⟩ 1 = ([nmQ 97], bsS [98]) := by
    have := rng_at (Q := [nmQ 97, nmQ 98]) q2 (j := 0) (k := 1) (fr := ⟨#[]⟩) (by decide) (.inl ⟨rfl, rfl⟩)
    exact this
  refine no_implicit_lambda% (acalls_of tok dok (f := 15) ⟨Try.func15, rfl, by kernel_rfl⟩ ?_); refine no_implicit_lambda% (c_start (fun _ h => h) ?_)
  repeat' (first | (refine no_implicit_lambda% (awd1 ?_)) | (((with_reducible refine no_implicit_lambda% (is_aops ?_)); refine no_implicit_lambda% (o_split rfl rfl rfl (fun hc => ?_) (fun hc => ?_)) <;> first | exact decx hc | rw [hc])) | (((with_reducible refine no_implicit_lambda% (is_cond ?_)); refine no_implicit_lambda% (c_cond rfl (fun hc => ?_) (fun hc => ?_)) <;> first | exact decx hc | skip)) | (((with_reducible refine no_implicit_lambda% (is_aop ?_)); refine no_implicit_lambda% (a_pick rfl rfl (fun hc => ?_) (fun hc => ?_)) <;> first | exact decx hc | rw [hc])) | (((with_reducible refine no_implicit_lambda% (is_ev ?_)); refine no_implicit_lambda% (v_split rfl rfl rfl rfl (fun hc => ?_) (fun hc => ?_)) <;> first | exact decx hc | rw [hc])) | (refine no_implicit_lambda% (ans ?_)) | (with_reducible exact retN) | (with_reducible exact retP) | ((with_reducible refine no_implicit_lambda% (ret1 ?_)); first | (refine no_implicit_lambda% (akcs ?_)) | (refine no_implicit_lambda% (aecs ?_))) | (refine no_implicit_lambda% (cal [] (hnw) ?_ ?_)) | (refine no_implicit_lambda% (cal [] (hs) ?_ ?_)) | (((with_reducible refine no_implicit_lambda% (is_effK ?_)); refine no_implicit_lambda% (aecs ?_))) | (((with_reducible refine no_implicit_lambda% (is_drB ?_)); refine no_implicit_lambda% (b_ends ?_))) | (((with_reducible refine no_implicit_lambda% (is_aop ?_)); refine no_implicit_lambda% (a_stores ?_))) | ((with_reducible refine no_implicit_lambda% (is_aop ?_)); first | (refine no_implicit_lambda% (a_append_tok rfl rfl rfl rfl rfl rfl rfl rfl rfl rfl rfl rfl rfl rfl (by first | rfl | (simp; done)) (fun q hq => by rw [forceH_eq]; exact hq) (by (first | assumption | (intro row hr; simp only [List.mem_cons, List.not_mem_nil, or_false] at hr; rcases hr with rfl | rfl | rfl | rfl <;> rfl) | (intro row hr; simp at hr; done) | (intro row hr; simp only [List.mem_singleton] at hr; subst hr; rfl) | (intro row hr; obtain ⟨_, _, rfl⟩ := List.mem_map.1 hr; rfl))) (by (refine ⟨?_, ?_⟩ <;> (simp only [List.length_map, List.length_append, List.length_cons, List.length_nil]; omega))) ?_))) | fail)
  (refine no_implicit_lambda% (cal [0, 1] (s1) ?_ ?_))
  · intro xx H' hh
    obtain ⟨cp1, d1, d2, h', rfl⟩ := hh
    cases h'
    first | (refine no_implicit_lambda% (akc ?_)) | (refine no_implicit_lambda% (aec ?_))
    repeat' (first | (refine no_implicit_lambda% (awd1 ?_)) | (((with_reducible refine no_implicit_lambda% (is_aops ?_)); refine no_implicit_lambda% (o_split rfl rfl rfl (fun hc => ?_) (fun hc => ?_)) <;> first | exact decx hc | rw [hc])) | (((with_reducible refine no_implicit_lambda% (is_cond ?_)); refine no_implicit_lambda% (c_cond rfl (fun hc => ?_) (fun hc => ?_)) <;> first | exact decx hc | skip)) | (((with_reducible refine no_implicit_lambda% (is_aop ?_)); refine no_implicit_lambda% (a_pick rfl rfl (fun hc => ?_) (fun hc => ?_)) <;> first | exact decx hc | rw [hc])) | (((with_reducible refine no_implicit_lambda% (is_ev ?_)); refine no_implicit_lambda% (v_split rfl rfl rfl rfl (fun hc => ?_) (fun hc => ?_)) <;> first | exact decx hc | rw [hc])) | (refine no_implicit_lambda% (ans ?_)) | (with_reducible exact retN) | (with_reducible exact retP) | ((with_reducible refine no_implicit_lambda% (ret1 ?_)); first | (refine no_implicit_lambda% (akcs ?_)) | (refine no_implicit_lambda% (aecs ?_))) | (refine no_implicit_lambda% (cal [] (hs) ?_ ?_)) | (((with_reducible refine no_implicit_lambda% (is_effK ?_)); refine no_implicit_lambda% (aecs ?_))) | (((with_reducible refine no_implicit_lambda% (is_drB ?_)); refine no_implicit_lambda% (b_ends ?_))) | (((with_reducible refine no_implicit_lambda% (is_aop ?_)); refine no_implicit_lambda% (a_stores ?_))) | ((with_reducible refine no_implicit_lambda% (is_aop ?_)); first | (refine no_implicit_lambda% (a_append_tok rfl rfl rfl rfl rfl rfl rfl rfl rfl rfl rfl rfl rfl rfl (by first | rfl | (simp; done)) (fun q hq => by rw [forceH_eq]; exact hq) (by (first | assumption | (intro row hr; simp only [List.mem_cons, List.not_mem_nil, or_false] at hr; rcases hr with rfl | rfl | rfl | rfl <;> rfl) | (intro row hr; simp at hr; done) | (intro row hr; simp only [List.mem_singleton] at hr; subst hr; rfl) | (intro row hr; obtain ⟨_, _, rfl⟩ := List.mem_map.1 hr; rfl))) (by (refine ⟨?_, ?_⟩ <;> (simp only [List.length_map, List.length_append, List.length_cons, List.length_nil]; omega))) ?_))) | fail)
    have s2 := set_c [nmQ 98] (bsS [97]) someR cp1 q1 d1 d2 (by decide) some_fine.2
    rw [kn_a] at s2
    dsimp only at s2
    (refine no_implicit_lambda% (cal [0, 20002] (s2) ?_ ?_))
    · intro xx H' hh
      obtain ⟨cp2, e1, e2, h', rfl⟩ := hh
      cases h'
      first | (refine no_implicit_lambda% (akc ?_)) | (refine no_implicit_lambda% (aec ?_))
      have r1 := trange_c [nmQ 97, nmQ 98] ⟨#[]⟩ ⟨#[]⟩ 1 cp2 q2 e1 e2 (by decide)
      rw [hrg] at r1
      dsimp only at r1
      repeat' (first | (refine no_implicit_lambda% (awd1 ?_)) | (((with_reducible refine no_implicit_lambda% (is_aops ?_)); refine no_implicit_lambda% (o_split rfl rfl rfl (fun hc => ?_) (fun hc => ?_)) <;> first | exact decx hc | rw [hc])) | (((with_reducible refine no_implicit_lambda% (is_cond ?_)); refine no_implicit_lambda% (c_cond rfl (fun hc => ?_) (fun hc => ?_)) <;> first | exact decx hc | skip)) | (((with_reducible refine no_implicit_lambda% (is_aop ?_)); refine no_implicit_lambda% (a_pick rfl rfl (fun hc => ?_) (fun hc => ?_)) <;> first | exact decx hc | rw [hc])) | (((with_reducible refine no_implicit_lambda% (is_ev ?_)); refine no_implicit_lambda% (v_split rfl rfl rfl rfl (fun hc => ?_) (fun hc => ?_)) <;> first | exact decx hc | rw [hc])) | (refine no_implicit_lambda% (ans ?_)) | (with_reducible exact retN) | (with_reducible exact retP) | ((with_reducible refine no_implicit_lambda% (ret1 ?_)); first | (refine no_implicit_lambda% (akcs ?_)) | (refine no_implicit_lambda% (aecs ?_))) | fail | (((with_reducible refine no_implicit_lambda% (is_effK ?_)); refine no_implicit_lambda% (aecs ?_))) | (((with_reducible refine no_implicit_lambda% (is_drB ?_)); refine no_implicit_lambda% (b_ends ?_))) | (((with_reducible refine no_implicit_lambda% (is_aop ?_)); refine no_implicit_lambda% (a_stores ?_))) | ((with_reducible refine no_implicit_lambda% (is_aop ?_)); first | (refine no_implicit_lambda% (a_append_tok rfl rfl rfl rfl rfl rfl rfl rfl rfl rfl rfl rfl rfl rfl (by first | rfl | (simp; done)) (fun q hq => by rw [forceH_eq]; exact hq) (by (first | assumption | (intro row hr; simp only [List.mem_cons, List.not_mem_nil, or_false] at hr; rcases hr with rfl | rfl | rfl | rfl <;> rfl) | (intro row hr; simp at hr; done) | (intro row hr; simp only [List.mem_singleton] at hr; subst hr; rfl) | (intro row hr; obtain ⟨_, _, rfl⟩ := List.mem_map.1 hr; rfl))) (by (refine ⟨?_, ?_⟩ <;> (simp only [List.length_map, List.length_append, List.length_cons, List.length_nil]; omega))) ?_))) | fail)
      (refine no_implicit_lambda% (cal [0, 40003] (r1) ?_ ?_))
      · intro xx H' hh
        obtain ⟨cp3, f1, f2, h', rfl⟩ := hh
        cases h'
        first | (refine no_implicit_lambda% (akc ?_)) | (refine no_implicit_lambda% (aec ?_))
        have s3 := set_c [nmQ 97, nmQ 98] (bsS []) someR cp2 q2 e1 e2 (by decide) some_fine.2
        rw [hbad] at s3
        dsimp only at s3
        repeat' (first | (refine no_implicit_lambda% (awd1 ?_)) | (((with_reducible refine no_implicit_lambda% (is_aops ?_)); refine no_implicit_lambda% (o_split rfl rfl rfl (fun hc => ?_) (fun hc => ?_)) <;> first | exact decx hc | rw [hc])) | (((with_reducible refine no_implicit_lambda% (is_cond ?_)); refine no_implicit_lambda% (c_cond rfl (fun hc => ?_) (fun hc => ?_)) <;> first | exact decx hc | skip)) | (((with_reducible refine no_implicit_lambda% (is_aop ?_)); refine no_implicit_lambda% (a_pick rfl rfl (fun hc => ?_) (fun hc => ?_)) <;> first | exact decx hc | rw [hc])) | (((with_reducible refine no_implicit_lambda% (is_ev ?_)); refine no_implicit_lambda% (v_split rfl rfl rfl rfl (fun hc => ?_) (fun hc => ?_)) <;> first | exact decx hc | rw [hc])) | (refine no_implicit_lambda% (ans ?_)) | (with_reducible exact retN) | (with_reducible exact retP) | ((with_reducible refine no_implicit_lambda% (ret1 ?_)); first | (refine no_implicit_lambda% (akcs ?_)) | (refine no_implicit_lambda% (aecs ?_))) | fail | (((with_reducible refine no_implicit_lambda% (is_effK ?_)); refine no_implicit_lambda% (aecs ?_))) | (((with_reducible refine no_implicit_lambda% (is_drB ?_)); refine no_implicit_lambda% (b_ends ?_))) | (((with_reducible refine no_implicit_lambda% (is_aop ?_)); refine no_implicit_lambda% (a_stores ?_))) | ((with_reducible refine no_implicit_lambda% (is_aop ?_)); first | (refine no_implicit_lambda% (a_append_tok rfl rfl rfl rfl rfl rfl rfl rfl rfl rfl rfl rfl rfl rfl (by first | rfl | (simp; done)) (fun q hq => by rw [forceH_eq]; exact hq) (by (first | assumption | (intro row hr; simp only [List.mem_cons, List.not_mem_nil, or_false] at hr; rcases hr with rfl | rfl | rfl | rfl <;> rfl) | (intro row hr; simp at hr; done) | (intro row hr; simp only [List.mem_singleton] at hr; subst hr; rfl) | (intro row hr; obtain ⟨_, _, rfl⟩ := List.mem_map.1 hr; rfl))) (by (refine ⟨?_, ?_⟩ <;> (simp only [List.length_map, List.length_append, List.length_cons, List.length_nil]; omega))) ?_))) | fail)
        ((with_reducible refine no_implicit_lambda% (is_aop ?_)); first | (refine no_implicit_lambda% (a_qS rfl (fun _ h => h) ?_ ?_)) | (refine no_implicit_lambda% (a_qS rfl (qIx (fun _ h => h)) ?_ ?_)) | (refine no_implicit_lambda% (a_qS rfl (qAnd5 (fun _ h => h)) ?_ ?_)) | (refine no_implicit_lambda% (a_qS rfl (qStr (fun _ h => h)) ?_ ?_)) | (refine no_implicit_lambda% (a_qS rfl (qAnd4 (fun _ h => h)) ?_ ?_)) | (refine no_implicit_lambda% (a_qS rfl (qAnd2 (fun _ h => h)) ?_ ?_))); focus (first | omega | (simp; done) | (simp; omega))
        repeat' (first | (refine no_implicit_lambda% (awd1 ?_)) | (((with_reducible refine no_implicit_lambda% (is_aops ?_)); refine no_implicit_lambda% (o_split rfl rfl rfl (fun hc => ?_) (fun hc => ?_)) <;> first | exact decx hc | rw [hc])) | (((with_reducible refine no_implicit_lambda% (is_cond ?_)); refine no_implicit_lambda% (c_cond rfl (fun hc => ?_) (fun hc => ?_)) <;> first | exact decx hc | skip)) | (((with_reducible refine no_implicit_lambda% (is_aop ?_)); refine no_implicit_lambda% (a_pick rfl rfl (fun hc => ?_) (fun hc => ?_)) <;> first | exact decx hc | rw [hc])) | (((with_reducible refine no_implicit_lambda% (is_ev ?_)); refine no_implicit_lambda% (v_split rfl rfl rfl rfl (fun hc => ?_) (fun hc => ?_)) <;> first | exact decx hc | rw [hc])) | (refine no_implicit_lambda% (ans ?_)) | (with_reducible exact retN) | (with_reducible exact retP) | ((with_reducible refine no_implicit_lambda% (ret1 ?_)); first | (refine no_implicit_lambda% (akcs ?_)) | (refine no_implicit_lambda% (aecs ?_))) | fail | (((with_reducible refine no_implicit_lambda% (is_effK ?_)); refine no_implicit_lambda% (aecs ?_))) | (((with_reducible refine no_implicit_lambda% (is_drB ?_)); refine no_implicit_lambda% (b_ends ?_))) | (((with_reducible refine no_implicit_lambda% (is_aop ?_)); refine no_implicit_lambda% (a_stores ?_))) | ((with_reducible refine no_implicit_lambda% (is_aop ?_)); first | (refine no_implicit_lambda% (a_append_tok rfl rfl rfl rfl rfl rfl rfl rfl rfl rfl rfl rfl rfl rfl (by first | rfl | (simp; done)) (fun q hq => by rw [forceH_eq]; exact hq) (by (first | assumption | (intro row hr; simp only [List.mem_cons, List.not_mem_nil, or_false] at hr; rcases hr with rfl | rfl | rfl | rfl <;> rfl) | (intro row hr; simp at hr; done) | (intro row hr; simp only [List.mem_singleton] at hr; subst hr; rfl) | (intro row hr; obtain ⟨_, _, rfl⟩ := List.mem_map.1 hr; rfl))) (by (refine ⟨?_, ?_⟩ <;> (simp only [List.length_map, List.length_append, List.length_cons, List.length_nil]; omega))) ?_))) | fail)
        all_goals try (exfalso; simp [bsS, nmQ, ByteArray.toList_eq] at hc; done)
        repeat' (first | (refine no_implicit_lambda% (awd1 ?_)) | (((with_reducible refine no_implicit_lambda% (is_aops ?_)); refine no_implicit_lambda% (o_split rfl rfl rfl (fun hc => ?_) (fun hc => ?_)) <;> first | exact decx hc | rw [hc])) | (((with_reducible refine no_implicit_lambda% (is_cond ?_)); refine no_implicit_lambda% (c_cond rfl (fun hc => ?_) (fun hc => ?_)) <;> first | exact decx hc | skip)) | (((with_reducible refine no_implicit_lambda% (is_aop ?_)); refine no_implicit_lambda% (a_pick rfl rfl (fun hc => ?_) (fun hc => ?_)) <;> first | exact decx hc | rw [hc])) | (((with_reducible refine no_implicit_lambda% (is_ev ?_)); refine no_implicit_lambda% (v_split rfl rfl rfl rfl (fun hc => ?_) (fun hc => ?_)) <;> first | exact decx hc | rw [hc])) | (refine no_implicit_lambda% (ans ?_)) | (with_reducible exact retN) | (with_reducible exact retP) | ((with_reducible refine no_implicit_lambda% (ret1 ?_)); first | (refine no_implicit_lambda% (akcs ?_)) | (refine no_implicit_lambda% (aecs ?_))) | (refine no_implicit_lambda% (cal [] (hs) ?_ ?_)) | (((with_reducible refine no_implicit_lambda% (is_effK ?_)); refine no_implicit_lambda% (aecs ?_))) | (((with_reducible refine no_implicit_lambda% (is_drB ?_)); refine no_implicit_lambda% (b_ends ?_))) | (((with_reducible refine no_implicit_lambda% (is_aop ?_)); refine no_implicit_lambda% (a_stores ?_))) | ((with_reducible refine no_implicit_lambda% (is_aop ?_)); first | (refine no_implicit_lambda% (a_append_tok rfl rfl rfl rfl rfl rfl rfl rfl rfl rfl rfl rfl rfl rfl (by first | rfl | (simp; done)) (fun q hq => by rw [forceH_eq]; exact hq) (by (first | assumption | (intro row hr; simp only [List.mem_cons, List.not_mem_nil, or_false] at hr; rcases hr with rfl | rfl | rfl | rfl <;> rfl) | (intro row hr; simp at hr; done) | (intro row hr; simp only [List.mem_singleton] at hr; subst hr; rfl) | (intro row hr; obtain ⟨_, _, rfl⟩ := List.mem_map.1 hr; rfl))) (by (refine ⟨?_, ?_⟩ <;> (simp only [List.length_map, List.length_append, List.length_cons, List.length_nil]; omega))) ?_))) | fail)
        (refine no_implicit_lambda% (cal [0, 40003] (s3) ?_ ?_))
        · intro xx H' hh
          obtain ⟨cp4, g1, g2, h', rfl⟩ := hh
          cases h'
          first | (refine no_implicit_lambda% (akc ?_)) | (refine no_implicit_lambda% (aec ?_))
          have t1 := tlen_c [nmQ 97, nmQ 98] cp4
          repeat' (first | (refine no_implicit_lambda% (awd1 ?_)) | (((with_reducible refine no_implicit_lambda% (is_aops ?_)); refine no_implicit_lambda% (o_split rfl rfl rfl (fun hc => ?_) (fun hc => ?_)) <;> first | exact decx hc | rw [hc])) | (((with_reducible refine no_implicit_lambda% (is_cond ?_)); refine no_implicit_lambda% (c_cond rfl (fun hc => ?_) (fun hc => ?_)) <;> first | exact decx hc | skip)) | (((with_reducible refine no_implicit_lambda% (is_aop ?_)); refine no_implicit_lambda% (a_pick rfl rfl (fun hc => ?_) (fun hc => ?_)) <;> first | exact decx hc | rw [hc])) | (((with_reducible refine no_implicit_lambda% (is_ev ?_)); refine no_implicit_lambda% (v_split rfl rfl rfl rfl (fun hc => ?_) (fun hc => ?_)) <;> first | exact decx hc | rw [hc])) | (refine no_implicit_lambda% (ans ?_)) | (with_reducible exact retN) | (with_reducible exact retP) | ((with_reducible refine no_implicit_lambda% (ret1 ?_)); first | (refine no_implicit_lambda% (akcs ?_)) | (refine no_implicit_lambda% (aecs ?_))) | (refine no_implicit_lambda% (cal [0, 60005] (t1) ?_ ?_)) | (((with_reducible refine no_implicit_lambda% (is_effK ?_)); refine no_implicit_lambda% (aecs ?_))) | (((with_reducible refine no_implicit_lambda% (is_drB ?_)); refine no_implicit_lambda% (b_ends ?_))) | (((with_reducible refine no_implicit_lambda% (is_aop ?_)); refine no_implicit_lambda% (a_stores ?_))) | ((with_reducible refine no_implicit_lambda% (is_aop ?_)); first | (refine no_implicit_lambda% (a_append_tok rfl rfl rfl rfl rfl rfl rfl rfl rfl rfl rfl rfl rfl rfl (by first | rfl | (simp; done)) (fun q hq => by rw [forceH_eq]; exact hq) (by (first | assumption | (intro row hr; simp only [List.mem_cons, List.not_mem_nil, or_false] at hr; rcases hr with rfl | rfl | rfl | rfl <;> rfl) | (intro row hr; simp at hr; done) | (intro row hr; simp only [List.mem_singleton] at hr; subst hr; rfl) | (intro row hr; obtain ⟨_, _, rfl⟩ := List.mem_map.1 hr; rfl))) (by (refine ⟨?_, ?_⟩ <;> (simp only [List.length_map, List.length_append, List.length_cons, List.length_nil]; omega))) ?_))) | fail)
          exact e_ret (H' := []) (rest := _) rfl ⟨rfl, rfl⟩ permT (Nat.le_of_ble_eq_true rfl)
        · intro xx H' hh
          obtain ⟨_, _, _, h', _⟩ := hh
          cases h'
      · intro xx H' hh
        obtain ⟨_, _, _, h', _⟩ := hh
        cases h'
    · intro xx H' hh
      obtain ⟨_, _, _, h', _⟩ := hh
      cases h'
  · intro xx H' hh
    obtain ⟨_, _, _, h', _⟩ := hh
    cases h'
end Go.Proofs.Ytjepgbpcpcahgaa
namespace Go.Proofs.Ytjepgbpcpcahgaa
open Go.Am
set_option linter.unusedSimpArgs false
set_option linter.unusedVariables false
set_option maxRecDepth 100000
theorem play6_d (l : List Nk) (hl : ∀ a ∈ l, NkOk a) (h : l.length ≤ 9223372036854775807) : ACalls Try.prog 12 0 2 [.list (l.map nkrow) .free] [] (PlayO l) :=
  ACalls.ren (play6_c l hl h) (by decide) fun out H' hh => by
    obtain ⟨Q, cp, hP, hQ, c1, c2, rfl, rfl⟩ := hh
    refine ⟨[0, 1], .ret (.tuple [.ptr 0 0, .list (Q.map nmrow) .free, .v (.bool true)]), tbl Q cp, by decide, by decide, (fun q h => by omega), Nat.le_refl _, ?_, ?_, Q, cp, hP, hQ, c1, c2, rfl, rfl⟩
    · have h3 : (AV.list (Q.map nmrow) .free).ren (rn [0, 1] 2000000) = AV.list (Q.map nmrow) .free := rfl
      simp [AOut.ren, AV.ren, AV.renL, rn]
      rfl
    · simp [tbl, renH, Res.ren, rn, AV.ren, AV.renL]
end Go.Proofs.Ytjepgbpcpcahgaa
namespace Go.Proofs.Ytjepgbpcpcahgaa
open Go.Am
set_option linter.unusedSimpArgs false
set_option linter.unusedVariables false
set_option maxRecDepth 100000
theorem hasN_iff {Q : List Nm} (hQ : TbOk Q) (s : ByteArray) : hasN (nk Q) s = true ↔ s ∈ Q.map (·.n) := by
  constructor
  · intro h
    obtain ⟨x, hx, he⟩ := hasN_nm h
    exact List.mem_map.2 ⟨x, List.mem_of_getElem? hx, bytes_eq he⟩
  · intro h
    obtain ⟨x, hx, rfl⟩ := List.mem_map.1 h
    obtain ⟨i, hi⟩ := List.mem_iff_getElem?.1 hx
    exact (npos_at hQ.srt (nk_at hi)).2
def memN (N : List ByteArray) (s : ByteArray) : Bool := N.any fun t => t.data.toList == s.data.toList
theorem memN_iff (N : List ByteArray) (s : ByteArray) : memN N s = true ↔ s ∈ N := by
  unfold memN
  rw [List.any_eq_true]
  constructor
  · rintro ⟨t, ht, he⟩
    have h2 := eq_of_beq he
    obtain rfl : t = s := by
      cases t; cases s
      simp at h2
      rw [h2]
    exact ht
  · intro h
    exact ⟨s, h, by simp⟩
def stepN (N : List ByteArray) (s : ByteArray) : List ByteArray := if nmB s = false then N else if memN N s then N else if 32 ≤ N.length then N else s :: N
def InvN (N : List ByteArray) (Q : List Nm) : Prop := TbOk Q ∧ (∀ s, s ∈ N ↔ s ∈ Q.map (·.n)) ∧ Q.length = N.length
theorem inv_step {N : List ByteArray} {Q : List Nm} (h : InvN N Q) (s : ByteArray) : InvN (stepN N s) (setN Q s someR).2 := by
  obtain ⟨hQ, hm, hl⟩ := h
  have hQ2 := setN_ok (s := s) (r := someR) hQ some_fine.2
  have hi := hasN_iff hQ s
  unfold stepN
  by_cases h1 : nmB s = false
  · rw [if_pos h1]
    rw [setN_bad (.inl h1)] at hQ2 ⊢
    exact ⟨hQ, hm, hl⟩
  · rw [if_neg h1]
    have hnot : ¬ (nmB s = false ∨ rowB someR = false) := by rw [some_row]; simpa using h1
    by_cases h2 : s ∈ N
    · rw [if_pos ((memN_iff N s).2 h2)]
      have h3 : hasN (nk Q) s = true := hi.2 ((hm s).1 h2)
      have e : setN Q s someR = (0, Q.set (npos (nk Q) s) ⟨s, copyR someR⟩) := by unfold setN; rw [if_neg hnot, if_neg (by decide), h3, if_pos rfl]
      rw [e] at hQ2 ⊢
      refine ⟨hQ2, fun t => ?_, by show (Q.set _ _).length = _; rw [List.length_set]; exact hl⟩
      have e2 : (Q.set (npos (nk Q) s) ⟨s, copyR someR⟩).map (·.n) = Q.map (·.n) := by
        rw [List.map_set]
        obtain ⟨x, hx, he⟩ := hasN_nm h3
        obtain ⟨h4, h5⟩ := List.getElem?_eq_some_iff.1 hx
        generalize npos (nk Q) s = p at *
        have h6 : (Q.map (·.n))[p]'(by rw [List.length_map]; exact h4) = s := by rw [List.getElem_map, h5]; exact bytes_eq he
        show (Q.map (·.n)).set p s = Q.map (·.n)
        have h7 := List.set_getElem_self (show p < (Q.map (·.n)).length by rw [List.length_map]; exact h4)
        rw [h6] at h7
        exact h7
      show t ∈ N ↔ t ∈ (Q.set _ _).map (·.n)
      rw [e2]
      exact hm t
    · rw [if_neg (fun h => h2 ((memN_iff N s).1 h))]
      have h3 : hasN (nk Q) s = false := by
        cases h4 : hasN (nk Q) s
        · rfl
        · exact absurd ((hm s).2 (hi.1 h4)) h2
      by_cases h5 : 32 ≤ N.length
      · rw [if_pos h5]
        have e : setN Q s someR = (13, Q) := by unfold setN; rw [if_neg hnot, if_neg (by decide), h3, if_neg (by simp), if_pos (by omega)]
        rw [e]
        exact ⟨hQ, hm, hl⟩
      · rw [if_neg h5]
        have e : setN Q s someR = (0, insAt Q (npos (nk Q) s) ⟨s, copyR someR⟩) := setN_new (by simpa using h1) some_row (by decide) h3 (by omega)
        rw [e] at hQ2 ⊢
        have hp := npos_le (nk Q) s
        rw [nk_len] at hp
        refine ⟨hQ2, fun t => ?_, ?_⟩
        · show t ∈ s :: N ↔ t ∈ (insAt Q _ _).map (·.n)
          have e3 : (insAt Q (npos (nk Q) s) ⟨s, copyR someR⟩).map (·.n) = (Q.map (·.n)).take (npos (nk Q) s) ++ s :: (Q.map (·.n)).drop (npos (nk Q) s) := by
            unfold insAt
            rw [List.map_append, List.map_cons, List.map_take, List.map_drop]
          rw [e3, List.mem_append, List.mem_cons, List.mem_cons, hm t]
          have e4 : t ∈ Q.map (·.n) ↔ t ∈ (Q.map (·.n)).take (npos (nk Q) s) ∨ t ∈ (Q.map (·.n)).drop (npos (nk Q) s) := by
            rw [← List.mem_append, List.take_append_drop]
          rw [e4]
          constructor
          · rintro (h | h | h)
            · exact .inr (.inl h)
            · exact .inl h
            · exact .inr (.inr h)
          · rintro (h | h | h)
            · exact .inr (.inl h)
            · exact .inl h
            · exact .inr (.inr h)
        · show (insAt Q _ _).length = _
          unfold insAt
          rw [List.length_append, List.length_cons, List.length_take, List.length_drop, List.length_cons]
          omega
/-- asks that are determined -/
theorem play_inv {f : Nk → ByteArray} {l : List Nk} {Q : List Nm} (h : PlayR l Q) : (∀ a ∈ l, a.k = 1 ∧ a.l = [] ∧ ∀ s, NameIs a s → s = f a) → InvN ((l.map f).foldl stepN []) Q := by
  induction h with
  | nil => exact fun _ => ⟨nil_ok, fun s => by simp, rfl⟩
  | snoc hp hs hR ih =>
    intro hd
    rename_i l Q a s R
    have h1 := ih fun b hb => hd b (List.mem_append_left _ hb)
    obtain ⟨d1, d2, d3⟩ := hd a (List.mem_append_right _ (List.mem_singleton.2 rfl))
    obtain rfl := d3 s hs
    obtain rfl := hR.2.2 d1 d2
    rw [List.map_append, List.foldl_append]
    exact inv_step h1 _
/-- law 6's asks of RowsNumbers -/
def numK (i : Nat) : Nk := ⟨1, ((i * 7 % 45 : Nat) : Int), decide (i % 11 ≠ 10), ⟨#[]⟩, []⟩
def nmK (a : Nk) : ByteArray := if a.r.tmod 11 = 10 then ⟨#[]⟩ else if a.many then kName a.r else (rowL[((wthn a.r 0 1048576).tmod 8).toNat]?).getD ⟨#[]⟩
theorem nmK_is (i : Nat) (s : ByteArray) (h : NameIs (numK i) s) : s = nmK (numK i) := by
  unfold nmK
  obtain ⟨h1, h2, h3⟩ := h
  by_cases c1 : (numK i).r.tmod 11 = 10
  · rw [if_pos c1]; exact h1 c1 (Nat.zero_le _)
  · rw [if_neg c1]
    by_cases c2 : (numK i).many = true
    · rw [if_pos c2]; exact h2 c1 c2
    · rw [if_neg c2, h3 c1 (by simpa using c2)]; rfl
theorem num_full : ((((List.range 45).map numK).map nmK).foldl stepN []).length = 32 ∧ memN ((((List.range 45).map numK).map nmK).foldl stepN []) (bsS [111, 110, 101, 46, 109, 111, 114, 101]) = false := by
  decide +kernel
end Go.Proofs.Ytjepgbpcpcahgaa
namespace Go.Am
/-- data that says no more -/
def LeD (a b : AV) : Prop := ∀ X x, SimD X a x → SimD X b x
theorem LeD.refl (a : AV) : LeD a a := fun _ _ h => h
theorem LeD.free (rows : List (List AV)) (o : Own) : LeD (.list rows o) (.list rows .free) := fun _ _ h => h.free
inductive LDL : List AV → List AV → Prop
  | nil : LDL [] []
  | cons {a b : AV} {s t : List AV} (h : LeD a b) (hs : LDL s t) : LDL (a :: s) (b :: t)
inductive LDR : List (List AV) → List (List AV) → Prop
  | nil : LDR [] []
  | cons {a b : List AV} {s t : List (List AV)} (h : LDL a b) (hs : LDR s t) : LDR (a :: s) (b :: t)
theorem LDL.len {s t : List AV} (h : LDL s t) : s.length = t.length := by
  induction h with
  | nil => rfl
  | cons _ _ ih => simp [ih]
theorem LDL.get {s t : List AV} (h : LDL s t) : ∀ (i : Nat) (b : AV), t[i]? = some b → ∃ a, s[i]? = some a ∧ LeD a b := by
  induction h with
  | nil => intro i b hb; simp at hb
  | @cons a b s t h1 _ ih =>
    intro i c hc
    cases i with
    | zero => simp at hc; subst hc; exact ⟨a, rfl, h1⟩
    | succ i => exact ih i c hc
theorem LDR.len {s t : List (List AV)} (h : LDR s t) : s.length = t.length := by
  induction h with
  | nil => rfl
  | cons _ _ ih => simp [ih]
theorem LDR.get {s t : List (List AV)} (h : LDR s t) : ∀ (i : Nat) (b : List AV), t[i]? = some b → ∃ a, s[i]? = some a ∧ LDL a b := by
  induction h with
  | nil => intro i b hb; simp at hb
  | @cons a b s t h1 _ ih =>
    intro i c hc
    cases i with
    | zero => simp at hc; subst hc; exact ⟨a, rfl, h1⟩
    | succ i => exact ih i c hc
theorem LeD.rows {rows rows' : List (List AV)} (h : LDR rows rows') (o : Own) : LeD (.list rows o) (.list rows' .free) := fun X x hx => by
  cases hx with
  | nil _ a c hc ho hs =>
    cases h
    exact .nil .free a c hc (fun h => by cases h) (.inl rfl)
  | list _ _ b off c s y hn hc ho hs hr hX hS h1 =>
    have e := h.len
    have hr' : ∀ row ∈ rows', row.length = s := fun row hrow => by
      obtain ⟨i, hi, rfl⟩ := List.getElem_of_mem hrow
      obtain ⟨a, ha, hd⟩ := h.get i _ (List.getElem?_eq_getElem hi)
      rw [← hd.len]
      exact hr a (List.mem_of_getElem? ha)
    rw [e]
    refine .list rows' .free b off c s y (by omega) hc (fun h => by cases h) (.inl rfl) hr' (fun i row j a k1 k2 => ?_) (fun i row j a k1 k2 => ?_) (fun i row j a k1 k2 => ?_)
    · obtain ⟨r0, q1, q2⟩ := h.get i row k1
      obtain ⟨a0, q3, q4⟩ := q2.get j a k2
      exact hX i r0 j a0 q1 q3
    · obtain ⟨r0, q1, q2⟩ := h.get i row k1
      obtain ⟨a0, q3, q4⟩ := q2.get j a k2
      exact q4 _ _ (hS i r0 j a0 q1 q3)
    · obtain ⟨r0, q1, q2⟩ := h.get i row k1
      obtain ⟨a0, q3, q4⟩ := q2.get j a k2
      exact h1 i r0 j a0 q1 q3
theorem LeA.rows {rows rows' : List (List AV)} (h : LDR rows rows') (o : Own) : LeA (.list rows o) (.list rows' .free) := fun G x hx => by
  cases hx with
  | data _ _ hd => exact .data _ _ (LeD.rows h _ _ _ hd)
  | tok _ k _ _ hd => exact .data _ _ (LeD.rows h _ _ _ hd)
theorem Wk.rows {rows rows' : List (List AV)} (h : LDR rows rows') (o : Own) : Wk (.list rows o) (.list rows' .free) :=
  ⟨fun G x hx => by
    refine .of ?_
    have := hx.down
    unfold AV.down at this
    split at this
    · rename_i h0; cases h0; exact LeA.rows h _ _ _ this
    · exact LeA.rows h _ _ _ this, fun G x hx => LeA.rows h o _ _ hx⟩
end Go.Am
namespace Go.Proofs.Ytjepgbpcpcahgaa
open Go.Am
set_option linter.unusedSimpArgs false
set_option linter.unusedVariables false
set_option maxRecDepth 100000
def numRow (a : Nk) : List AV := [.v (.int .i64 a.k), .v (.int .i64 a.r), .v (.bool a.many), .v (.string a.nm), .list [] .full]
theorem numRows : ∀ l : List Nk, (∀ a ∈ l, a.l = []) → LDR (l.map numRow) (l.map nkrow)
  | [], _ => .nil
  | a :: l, h => by
    refine .cons ?_ (numRows l fun b hb => h b (List.mem_cons_of_mem _ hb))
    unfold numRow nkrow
    rw [h a (by simp)]
    (repeat' (first | (with_reducible exact LDR.nil) | (with_reducible exact LDL.nil) | (refine no_implicit_lambda% (LDR.cons ?_ ?_)) | (refine no_implicit_lambda% (LDL.cons ?_ ?_)) | (exact LeD.refl _) | (exact LeD.free _ _) | (exact LDR.nil) | (exact LDL.nil)))
theorem numOk (i : Nat) : NkOk (numK i) := ⟨by show -9223372036854775808 ≤ (1 : Int) ∧ (1 : Int) ≤ 9223372036854775807; decide, by have := Nat.mod_lt (i * 7) (show 0 < 45 by decide); unfold numK; dsimp only; omega, (fun x hx => by cases hx), Nat.zero_le _⟩
def rnSt6 (i : Nat) : ASt := ⟨([.dead, .list (((List.range i).map numK).map numRow) (.tok 0), .v (.int .i64 i)] ++ List.replicate 77 .dead), [(0, .tok 5 i)], 1⟩
def badR : List Co := [⟨bsS [], []⟩]
set_option maxHeartbeats 6400000 in
theorem numbers6_rc : ACalls Try.prog 4 0 5000000 [] [] (fun out H' => out = .ret (.v (.bool true)) ∧ H' = []) := by
  have hp := play6_d ((List.range 45).map numK) (fun a ha => by obtain ⟨i, _, rfl⟩ := List.mem_map.1 ha; exact numOk i) (by rw [List.length_map, List.length_range]; decide)
  have hk := known6_c
  have hs := some6_c
  refine no_implicit_lambda% (acalls_of tok dok (f := 4) ⟨Try.func4, rfl, by kernel_rfl⟩ ?_); refine no_implicit_lambda% (c_start (fun _ h => h) ?_)
  repeat' (first | (refine no_implicit_lambda% (awd1 ?_)) | (((with_reducible refine no_implicit_lambda% (is_aops ?_)); refine no_implicit_lambda% (o_split rfl rfl rfl (fun hc => ?_) (fun hc => ?_)) <;> first | exact decx hc | rw [hc])) | (((with_reducible refine no_implicit_lambda% (is_cond ?_)); refine no_implicit_lambda% (c_cond rfl (fun hc => ?_) (fun hc => ?_)) <;> first | exact decx hc | skip)) | (((with_reducible refine no_implicit_lambda% (is_aop ?_)); refine no_implicit_lambda% (a_pick rfl rfl (fun hc => ?_) (fun hc => ?_)) <;> first | exact decx hc | rw [hc])) | (((with_reducible refine no_implicit_lambda% (is_ev ?_)); refine no_implicit_lambda% (v_split rfl rfl rfl rfl (fun hc => ?_) (fun hc => ?_)) <;> first | exact decx hc | rw [hc])) | (refine no_implicit_lambda% (ans ?_)) | (with_reducible exact retN) | (with_reducible exact retP) | ((with_reducible refine no_implicit_lambda% (ret1 ?_)); first | (refine no_implicit_lambda% (akcs ?_)) | (refine no_implicit_lambda% (aecs ?_))) | fail | (((with_reducible refine no_implicit_lambda% (is_effK ?_)); refine no_implicit_lambda% (aecs ?_))) | (((with_reducible refine no_implicit_lambda% (is_drB ?_)); refine no_implicit_lambda% (b_ends ?_))) | (((with_reducible refine no_implicit_lambda% (is_aop ?_)); refine no_implicit_lambda% (a_stores ?_))) | ((with_reducible refine no_implicit_lambda% (is_aop ?_)); first | (refine no_implicit_lambda% (a_append_tok rfl rfl rfl rfl rfl rfl rfl rfl rfl rfl rfl rfl rfl rfl (by first | rfl | (simp; done)) (fun q hq => by rw [forceH_eq]; exact hq) (by (first | assumption | (intro row hr; simp only [List.mem_cons, List.not_mem_nil, or_false] at hr; rcases hr with rfl | rfl | rfl | rfl <;> rfl) | (intro row hr; simp at hr; done) | (intro row hr; simp only [List.mem_singleton] at hr; subst hr; rfl) | (intro row hr; obtain ⟨_, _, rfl⟩ := List.mem_map.1 hr; rfl))) (by (refine ⟨?_, ?_⟩ <;> (simp only [List.length_map, List.length_append, List.length_cons, List.length_nil]; omega))) ?_))) | fail)
  refine c_loop' rnSt6 (fun i => i ≤ 45) (fun i => 45 - i) (a := 0) (Nat.zero_le _) ((Conv.tokSlot (j := 1) (sz := 5) (rows := []) rfl (by simp)).trans ?_) ?_
  · (refine no_implicit_lambda% (Conv.toT ?_ ?_ (Nat.le_of_ble_eq_true rfl))); (focus ((unfold rnSt6); (try dsimp only); exact wkl)); (focus ((unfold rnSt6); (try dsimp only); exact wkh))
  · rintro i i1
    refine c_turn (n' := 1) (fun _ h => h) (fun _ h => h) rfl ?_
    have r1 : ∀ row ∈ ((List.range i).map numK).map numRow, row.length = 5 := fun row h => by obtain ⟨_, _, rfl⟩ := List.mem_map.1 h; rfl
    have b1 : (((List.range i).map numK).map numRow).length ≤ 45 := by rw [List.length_map, List.length_map, List.length_range]; exact i1
    have b2 : (((List.range i).map numK).map numRow).length = i := by rw [List.length_map, List.length_map, List.length_range]
    have b3 : (List.range i).length = i := List.length_range
    have e : ((List.range (i + 1)).map numK).map numRow = ((List.range i).map numK).map numRow ++ [[.v (.int .i64 1), .v (.int .i64 ((IntKind.i64.wrap ((i : Int) * 7)).tmod 45)), .v (.bool ((i : Int).tmod 11 != 10)), .v (.string ⟨#[]⟩), .list [] .full]] := by
      rw [List.range_succ, List.map_append, List.map_append]
      have e1 : IntKind.i64.wrap ((i : Int) * 7) = ((i * 7 : Nat) : Int) := by rw [z64 (by omega) (by omega)]; omega
      have e2 : ((i * 7 : Nat) : Int).tmod 45 = ((i * 7 % 45 : Nat) : Int) := by rw [Int.tmod_eq_emod_of_nonneg (Int.natCast_nonneg _)]; exact (Int.natCast_emod _ _).symm
      have e3 : ((i : Int).tmod 11 != 10) = decide (i % 11 ≠ 10) := by
        rw [Int.tmod_eq_emod_of_nonneg (Int.natCast_nonneg _), Bool.eq_iff_iff]
        simp only [bne_iff_ne, decide_eq_true_eq]
        omega
      rw [e1, e2, e3]
      rfl
    repeat' (first | (refine no_implicit_lambda% (awd1 ?_)) | (((with_reducible refine no_implicit_lambda% (is_aops ?_)); refine no_implicit_lambda% (o_split rfl rfl rfl (fun hc => ?_) (fun hc => ?_)) <;> first | exact decx hc | rw [hc])) | (((with_reducible refine no_implicit_lambda% (is_cond ?_)); refine no_implicit_lambda% (c_cond rfl (fun hc => ?_) (fun hc => ?_)) <;> first | exact decx hc | skip)) | (((with_reducible refine no_implicit_lambda% (is_aop ?_)); refine no_implicit_lambda% (a_pick rfl rfl (fun hc => ?_) (fun hc => ?_)) <;> first | exact decx hc | rw [hc])) | (refine no_implicit_lambda% (ans ?_)) | (with_reducible exact retN) | (with_reducible exact retP) | fail | fail)
    · rw [← e]
      have h45 : i + 1 ≤ 45 := by have := of_decide_eq_true hc; omega
      have h46 : 45 - (i + 1) < 45 - i := by omega
      (refine no_implicit_lambda% (k_loopLT (i + 1) 0 [0] h45 (by first | omega | (simp; done) | (simp; omega)) (Nat.le_of_ble_eq_true rfl) (fun _ h => h) (fun _ h => h) ?_ ?_)); (focus ((try dsimp only); exact wkl)); (focus ((try dsimp only); exact wkh))
    · have hi : i = 45 := by have := of_decide_eq_false hc; omega
      subst hi
      refine no_implicit_lambda% (calw [] hp ?_ ?_ (hargs := .cons (LeA.rows (numRows _ (fun a ha => by obtain ⟨i, _, rfl⟩ := List.mem_map.1 ha; rfl)) _) .nil))
      · intro xx H' hh
        obtain ⟨Q, cp, hP, hQ, c1, c2, h', rfl⟩ := hh
        cases h'
        first | (refine no_implicit_lambda% (akc ?_)) | (refine no_implicit_lambda% (aec ?_))
        rw [List.take_of_length_le (by rw [List.length_map, List.length_range]; decide)] at hP
        obtain ⟨_, hN, hL⟩ := play_inv hP (f := nmK) (fun a ha => by
          obtain ⟨i, _, rfl⟩ := List.mem_map.1 ha
          exact ⟨rfl, rfl, nmK_is i⟩)
        rw [num_full.1] at hL
        have hno : hasN (nk Q) (bsS [111, 110, 101, 46, 109, 111, 114, 101]) = false := by
          cases h9 : hasN (nk Q) (bsS [111, 110, 101, 46, 109, 111, 114, 101])
          · rfl
          · have h10 := (memN_iff _ _).2 ((hN _).2 ((hasN_iff hQ _).1 h9))
            rw [num_full.2] at h10
            cases h10
        have hnot : ¬ (nmB (bsS [111, 110, 101, 46, 109, 111, 114, 101]) = false ∨ rowB someR = false) := by rw [some_row]; decide
        have q1 : setN Q (bsS [111, 110, 101, 46, 109, 111, 114, 101]) someR = (13, Q) := by unfold setN; rw [if_neg hnot, if_neg (by decide), hno, if_neg (by simp), if_pos (by omega)]
        have q2 : setN Q (bsS [97]) badR = (1, Q) := setN_bad (.inr (by decide))
        have t1 := tells6_c Q ⟨#[]⟩ ⟨#[]⟩ 99 cp hQ c1 c2 (by decide)
        have t2 := tells6_c Q (bsS [107, 99]) (bsS [107, 122]) 5 cp hQ c1 c2 (by decide)
        have t3 := tells6_c Q ⟨#[]⟩ ⟨#[]⟩ (-1) cp hQ c1 c2 (by decide)
        have t4 := tells6_c Q ⟨#[]⟩ ⟨#[]⟩ 0 cp hQ c1 c2 (by decide)
        have t5 := tells6_c Q (bsS [107, 122]) (bsS [107, 99]) 5 cp hQ c1 c2 (by decide)
        have tl := tlen_c Q cp
        rw [hL] at tl
        have s1 := set_c Q (bsS [111, 110, 101, 46, 109, 111, 114, 101]) someR cp hQ c1 c2 (by decide) some_fine.2
        rw [q1] at s1
        dsimp only at s1
        repeat' (first | (refine no_implicit_lambda% (awd1 ?_)) | (((with_reducible refine no_implicit_lambda% (is_aops ?_)); refine no_implicit_lambda% (o_split rfl rfl rfl (fun hc => ?_) (fun hc => ?_)) <;> first | exact decx hc | rw [hc])) | (((with_reducible refine no_implicit_lambda% (is_cond ?_)); refine no_implicit_lambda% (c_cond rfl (fun hc => ?_) (fun hc => ?_)) <;> first | exact decx hc | skip)) | (((with_reducible refine no_implicit_lambda% (is_aop ?_)); refine no_implicit_lambda% (a_pick rfl rfl (fun hc => ?_) (fun hc => ?_)) <;> first | exact decx hc | rw [hc])) | (((with_reducible refine no_implicit_lambda% (is_ev ?_)); refine no_implicit_lambda% (v_split rfl rfl rfl rfl (fun hc => ?_) (fun hc => ?_)) <;> first | exact decx hc | rw [hc])) | (refine no_implicit_lambda% (ans ?_)) | (with_reducible exact retN) | (with_reducible exact retP) | ((with_reducible refine no_implicit_lambda% (ret1 ?_)); first | (refine no_implicit_lambda% (akcs ?_)) | (refine no_implicit_lambda% (aecs ?_))) | (refine no_implicit_lambda% (cal [1, 2] (t1) ?_ ?_)) | (refine no_implicit_lambda% (cal [1, 2] (t2) ?_ ?_)) | (refine no_implicit_lambda% (cal [1, 2] (t3) ?_ ?_)) | (refine no_implicit_lambda% (cal [1, 2] (t4) ?_ ?_)) | (refine no_implicit_lambda% (cal [1, 2] (t5) ?_ ?_)) | (refine no_implicit_lambda% (cal [1, 2] (tl) ?_ ?_)) | (refine no_implicit_lambda% (cal [] (hs) ?_ ?_)) | (((with_reducible refine no_implicit_lambda% (is_effK ?_)); refine no_implicit_lambda% (aecs ?_))) | (((with_reducible refine no_implicit_lambda% (is_drB ?_)); refine no_implicit_lambda% (b_ends ?_))) | (((with_reducible refine no_implicit_lambda% (is_aop ?_)); refine no_implicit_lambda% (a_stores ?_))) | ((with_reducible refine no_implicit_lambda% (is_aop ?_)); first | (refine no_implicit_lambda% (a_append_tok rfl rfl rfl rfl rfl rfl rfl rfl rfl rfl rfl rfl rfl rfl (by first | rfl | (simp; done)) (fun q hq => by rw [forceH_eq]; exact hq) (by (first | assumption | (intro row hr; simp only [List.mem_cons, List.not_mem_nil, or_false] at hr; rcases hr with rfl | rfl | rfl | rfl <;> rfl) | (intro row hr; simp at hr; done) | (intro row hr; simp only [List.mem_singleton] at hr; subst hr; rfl) | (intro row hr; obtain ⟨_, _, rfl⟩ := List.mem_map.1 hr; rfl))) (by (refine ⟨?_, ?_⟩ <;> (simp only [List.length_map, List.length_append, List.length_cons, List.length_nil]; omega))) ?_))) | fail)
        (refine no_implicit_lambda% (cal [1, 2] (s1) ?_ ?_))
        · intro xx H' hh
          obtain ⟨cp2, e1, e2, h', rfl⟩ := hh
          cases h'
          first | (refine no_implicit_lambda% (akc ?_)) | (refine no_implicit_lambda% (aec ?_))
          repeat' (first | (refine no_implicit_lambda% (awd1 ?_)) | (((with_reducible refine no_implicit_lambda% (is_aops ?_)); refine no_implicit_lambda% (o_split rfl rfl rfl (fun hc => ?_) (fun hc => ?_)) <;> first | exact decx hc | rw [hc])) | (((with_reducible refine no_implicit_lambda% (is_cond ?_)); refine no_implicit_lambda% (c_cond rfl (fun hc => ?_) (fun hc => ?_)) <;> first | exact decx hc | skip)) | (((with_reducible refine no_implicit_lambda% (is_aop ?_)); refine no_implicit_lambda% (a_pick rfl rfl (fun hc => ?_) (fun hc => ?_)) <;> first | exact decx hc | rw [hc])) | (((with_reducible refine no_implicit_lambda% (is_ev ?_)); refine no_implicit_lambda% (v_split rfl rfl rfl rfl (fun hc => ?_) (fun hc => ?_)) <;> first | exact decx hc | rw [hc])) | (refine no_implicit_lambda% (ans ?_)) | (with_reducible exact retN) | (with_reducible exact retP) | ((with_reducible refine no_implicit_lambda% (ret1 ?_)); first | (refine no_implicit_lambda% (akcs ?_)) | (refine no_implicit_lambda% (aecs ?_))) | fail | (((with_reducible refine no_implicit_lambda% (is_effK ?_)); refine no_implicit_lambda% (aecs ?_))) | (((with_reducible refine no_implicit_lambda% (is_drB ?_)); refine no_implicit_lambda% (b_ends ?_))) | (((with_reducible refine no_implicit_lambda% (is_aop ?_)); refine no_implicit_lambda% (a_stores ?_))) | ((with_reducible refine no_implicit_lambda% (is_aop ?_)); first | (refine no_implicit_lambda% (a_append_tok rfl rfl rfl rfl rfl rfl rfl rfl rfl rfl rfl rfl rfl rfl (by first | rfl | (simp; done)) (fun q hq => by rw [forceH_eq]; exact hq) (by (first | assumption | (intro row hr; simp only [List.mem_cons, List.not_mem_nil, or_false] at hr; rcases hr with rfl | rfl | rfl | rfl <;> rfl) | (intro row hr; simp at hr; done) | (intro row hr; simp only [List.mem_singleton] at hr; subst hr; rfl) | (intro row hr; obtain ⟨_, _, rfl⟩ := List.mem_map.1 hr; rfl))) (by (refine ⟨?_, ?_⟩ <;> (simp only [List.length_map, List.length_append, List.length_cons, List.length_nil]; omega))) ?_))) | fail)
          have s2 := set_c Q (bsS [97]) badR cp2 hQ e1 e2 (by decide) (fun c hc y hy => by rw [List.mem_singleton.1 hc] at hy; cases hy)
          rw [q2] at s2
          dsimp only at s2
          refine no_implicit_lambda% (calw [1, 29994] s2 ?_ ?_ (hargs := .cons (LeA.refl _) (.cons (LeA.refl _) (.cons (LeA.agg' (.cons (LeA.rows (by (repeat' (first | (with_reducible exact LDR.nil) | (with_reducible exact LDL.nil) | (refine no_implicit_lambda% (LDR.cons ?_ ?_)) | (refine no_implicit_lambda% (LDL.cons ?_ ?_)) | (exact LeD.refl _) | (exact LeD.free _ _) | (exact LDR.nil) | (exact LDL.nil)))) _) .nil)) .nil))))
          · intro xx H' hh
            obtain ⟨cp3, f1, f2, h', rfl⟩ := hh
            cases h'
            first | (refine no_implicit_lambda% (akc ?_)) | (refine no_implicit_lambda% (aec ?_))
            repeat' (first | (refine no_implicit_lambda% (awd1 ?_)) | (((with_reducible refine no_implicit_lambda% (is_aops ?_)); refine no_implicit_lambda% (o_split rfl rfl rfl (fun hc => ?_) (fun hc => ?_)) <;> first | exact decx hc | rw [hc])) | (((with_reducible refine no_implicit_lambda% (is_cond ?_)); refine no_implicit_lambda% (c_cond rfl (fun hc => ?_) (fun hc => ?_)) <;> first | exact decx hc | skip)) | (((with_reducible refine no_implicit_lambda% (is_aop ?_)); refine no_implicit_lambda% (a_pick rfl rfl (fun hc => ?_) (fun hc => ?_)) <;> first | exact decx hc | rw [hc])) | (((with_reducible refine no_implicit_lambda% (is_ev ?_)); refine no_implicit_lambda% (v_split rfl rfl rfl rfl (fun hc => ?_) (fun hc => ?_)) <;> first | exact decx hc | rw [hc])) | (refine no_implicit_lambda% (ans ?_)) | (with_reducible exact retN) | (with_reducible exact retP) | ((with_reducible refine no_implicit_lambda% (ret1 ?_)); first | (refine no_implicit_lambda% (akcs ?_)) | (refine no_implicit_lambda% (aecs ?_))) | (refine no_implicit_lambda% (cal [] (hk) ?_ ?_)) | (((with_reducible refine no_implicit_lambda% (is_effK ?_)); refine no_implicit_lambda% (aecs ?_))) | (((with_reducible refine no_implicit_lambda% (is_drB ?_)); refine no_implicit_lambda% (b_ends ?_))) | (((with_reducible refine no_implicit_lambda% (is_aop ?_)); refine no_implicit_lambda% (a_stores ?_))) | ((with_reducible refine no_implicit_lambda% (is_aop ?_)); first | (refine no_implicit_lambda% (a_append_tok rfl rfl rfl rfl rfl rfl rfl rfl rfl rfl rfl rfl rfl rfl (by first | rfl | (simp; done)) (fun q hq => by rw [forceH_eq]; exact hq) (by (first | assumption | (intro row hr; simp only [List.mem_cons, List.not_mem_nil, or_false] at hr; rcases hr with rfl | rfl | rfl | rfl <;> rfl) | (intro row hr; simp at hr; done) | (intro row hr; simp only [List.mem_singleton] at hr; subst hr; rfl) | (intro row hr; obtain ⟨_, _, rfl⟩ := List.mem_map.1 hr; rfl))) (by (refine ⟨?_, ?_⟩ <;> (simp only [List.length_map, List.length_append, List.length_cons, List.length_nil]; omega))) ?_))) | fail)
            exact e_ret (H' := []) (rest := _) rfl ⟨rfl, rfl⟩ permT (Nat.le_of_ble_eq_true rfl)
          · intro xx H' hh
            obtain ⟨_, _, _, h', _⟩ := hh
            cases h'
        · intro xx H' hh
          obtain ⟨_, _, _, h', _⟩ := hh
          cases h'
      · intro xx H' hh
        obtain ⟨_, _, _, _, _, _, h', _⟩ := hh
        cases h'
end Go.Proofs.Ytjepgbpcpcahgaa
