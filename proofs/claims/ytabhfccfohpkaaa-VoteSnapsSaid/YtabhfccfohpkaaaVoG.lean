/- vote: a record, read. -/
import Derived.Test.YtabhfccfohpkaaaVoF
namespace Go.Proofs.Ytabhfccfohpkaaa
open Go.Am
set_option linter.unusedSimpArgs false
set_option linter.unusedVariables false
set_option maxRecDepth 100000
def encP (b : Int) : List UInt8 := [UInt8.ofNat 1] ++ be b.toNat 4
def encB (t : Td) : List UInt8 := [UInt8.ofNat 2] ++ encV t
def encVs : List Td → List UInt8
  | [] => []
  | t :: l => encV t ++ encVs l
def encW (A : Ac) : List UInt8 := [UInt8.ofNat 3] ++ be (A.p + 1).toNat 4 ++ be A.base.toNat 4 ++ (be A.st.length 4 ++ A.st) ++ [UInt8.ofNat A.l.length] ++ encVs A.l
/-- what a record's reading brings -/
abbrev rdQ (A' : Ac) (recs : List (List UInt8)) (N : Nat) (out : AOut) (H' : Heap) : Prop := ∃ cp' n, 5 ≤ n ∧ n < N ∧ A'.l.length ≤ cp' ∧ cp' ≤ maxLen ∧ out = .ret (.tuple []) ∧ H' = (4, .box [.list (([] : List UInt8).map brow) .free]) :: acP 0 n 2 3 A' cp' recs
theorem readP_c0 (A : Ac) (cp : Nat) (recs : List (List UInt8)) (b : Int) (hb : 0 ≤ b ∧ b ≤ 1073741824) (hcp0 : A.l.length ≤ cp) (hcp : cp ≤ maxLen) : ACalls Try.prog 59 5 60 [.ptr 0 0, .ptr 4 0] ((4, .box [.list ((encP b).map brow) .free]) :: acP 0 1 2 3 A cp recs) (rdQ ⟨b, A.l, A.base, A.st⟩ recs 60) := by
  have e : encP b = [UInt8.ofNat 1] ++ (be b.toNat 4 ++ []) := by simp [encP]
  rw [e]
  have h0 := rBe_c 1 (be b.toNat 4 ++ []) (by omega) (by simp [be_len])
  have h1 := rNe_c b.toNat [] (by omega) (by simp)
  have w1 : IntKind.i64.wrap ((b.toNat : Nat) : Int) = b := by rw [IntKind.wrap_i64]; omega
  refine no_implicit_lambda% (acalls_of tok dok (f := 59) ⟨Try.func59, rfl, by kernel_rfl⟩ ?_); refine no_implicit_lambda% (c_start (fun _ h => h) ?_)
  repeat' (first | (refine no_implicit_lambda% (awd1 ?_)) | (((with_reducible refine no_implicit_lambda% (is_aops ?_)); refine no_implicit_lambda% (o_split rfl rfl rfl (fun hc => ?_) (fun hc => ?_)) <;> first | (exfalso; (simp only [decide_eq_true_eq, decide_eq_false_iff_not, beq_iff_eq, beq_eq_false_iff_ne, bne_iff_ne, bne_eq_false_iff_eq, List.length_map, Int.not_lt, Int.not_le] at hc); omega) | rw [hc])) | (((with_reducible refine no_implicit_lambda% (is_cond ?_)); refine no_implicit_lambda% (c_cond rfl (fun hc => ?_) (fun hc => ?_)) <;> first | (exfalso; (simp only [decide_eq_true_eq, decide_eq_false_iff_not, beq_iff_eq, beq_eq_false_iff_ne, bne_iff_ne, bne_eq_false_iff_eq, List.length_map, Int.not_lt, Int.not_le] at hc); omega) | skip)) | (((with_reducible refine no_implicit_lambda% (is_aop ?_)); refine no_implicit_lambda% (a_pick rfl rfl (fun hc => ?_) (fun hc => ?_)) <;> first | (exfalso; (simp only [decide_eq_true_eq, decide_eq_false_iff_not, beq_iff_eq, beq_eq_false_iff_ne, bne_iff_ne, bne_eq_false_iff_eq, List.length_map, Int.not_lt, Int.not_le] at hc); omega) | rw [hc])) | ((with_reducible refine no_implicit_lambda% (ret1 ?_)); first | (refine no_implicit_lambda% (akc ?_)) | (refine no_implicit_lambda% (aec ?_))) | (with_reducible exact retN) | (with_reducible exact retP) | (refine no_implicit_lambda% (cal [4] (h0) ?_ ?_)) | (refine no_implicit_lambda% (cal [4] (h1) ?_ ?_)) | fail)
  rw [w1]
  refine e_ret_to (H' := (4, .box [.list (([] : List UInt8).map brow) .free]) :: acP 0 7 2 3 ⟨b, A.l, A.base, A.st⟩ cp recs) (rest := []) (Conv.anewBox (id := 1) (bid := 0) (j := 2) (permT (H := [(1, .seq (A.l.map trow) ((cp - A.l.length) * 3)), (0, .box [.ptr 2 0, .v (.int .i64 b), .arr 1 0 A.l.length cp, .v (.int .i64 A.base), .list (A.st.map brow) .free])])) rfl ?_) rfl ⟨cp, 7, by omega, by omega, hcp0, hcp, rfl, rfl⟩ permT (Nat.le_of_ble_eq_true rfl)
  rw [List.length_map]; omega
theorem readB_c0 (A : Ac) (cp : Nat) (recs : List (List UInt8)) (t : Td) (hin : inB A t = true) (hb : 0 ≤ A.base ∧ A.base ≤ 1073741824) (hl : A.l.length < 1000000) (hcp0 : A.l.length ≤ cp) (hcp : cp ≤ maxLen) (hs : (tkeys A.l).Pairwise (· < ·)) : ACalls Try.prog 59 5 90 [.ptr 0 0, .ptr 4 0] ((4, .box [.list ((encB t).map brow) .free]) :: acP 0 1 2 3 A cp recs) (rdQ ⟨t.s, putL A.l t, A.base, A.st⟩ recs 90) := by
  have e : encB t = [UInt8.ofNat 2] ++ (encV t ++ []) := by simp [encB]
  rw [e]
  have hi := of_decide_eq_true hin
  have h0 := rBe_c 2 (encV t ++ []) (by omega) (by simp [encV, be_len]; omega)
  have h1 := vtake_c A cp recs t [] hin (by simp) hb
  have h2 := put_c ⟨t.s, A.l, A.base, A.st⟩ cp recs t hl hcp0 hcp hs
  refine no_implicit_lambda% (acalls_of tok dok (f := 59) ⟨Try.func59, rfl, by kernel_rfl⟩ ?_); refine no_implicit_lambda% (c_start (fun _ h => h) ?_)
  repeat' (first | (refine no_implicit_lambda% (awd1 ?_)) | (((with_reducible refine no_implicit_lambda% (is_aops ?_)); refine no_implicit_lambda% (o_split rfl rfl rfl (fun hc => ?_) (fun hc => ?_)) <;> first | (exfalso; (simp only [decide_eq_true_eq, decide_eq_false_iff_not, beq_iff_eq, beq_eq_false_iff_ne, bne_iff_ne, bne_eq_false_iff_eq, List.length_map, Int.not_lt, Int.not_le] at hc); omega) | rw [hc])) | (((with_reducible refine no_implicit_lambda% (is_cond ?_)); refine no_implicit_lambda% (c_cond rfl (fun hc => ?_) (fun hc => ?_)) <;> first | (exfalso; (simp only [decide_eq_true_eq, decide_eq_false_iff_not, beq_iff_eq, beq_eq_false_iff_ne, bne_iff_ne, bne_eq_false_iff_eq, List.length_map, Int.not_lt, Int.not_le] at hc); omega) | skip)) | (((with_reducible refine no_implicit_lambda% (is_aop ?_)); refine no_implicit_lambda% (a_pick rfl rfl (fun hc => ?_) (fun hc => ?_)) <;> first | (exfalso; (simp only [decide_eq_true_eq, decide_eq_false_iff_not, beq_iff_eq, beq_eq_false_iff_ne, bne_iff_ne, bne_eq_false_iff_eq, List.length_map, Int.not_lt, Int.not_le] at hc); omega) | rw [hc])) | ((with_reducible refine no_implicit_lambda% (ret1 ?_)); first | (refine no_implicit_lambda% (akc ?_)) | (refine no_implicit_lambda% (aec ?_))) | (with_reducible exact retN) | (with_reducible exact retP) | (refine no_implicit_lambda% (cal [4] (h0) ?_ ?_)) | (refine no_implicit_lambda% (cal [0, 1, 2, 3, 4] (h1) ?_ ?_)) | fail)
  (refine no_implicit_lambda% (cal [0, 1, 2, 3] (h2) ?_ ?_))
  · intro xx H' hh
    obtain ⟨cp', c1, c2, h', rfl⟩ := hh
    cases h'
    first | (refine no_implicit_lambda% (akc ?_)) | (refine no_implicit_lambda% (aec ?_))
    repeat' (first | (refine no_implicit_lambda% (awd1 ?_)) | (((with_reducible refine no_implicit_lambda% (is_aops ?_)); refine no_implicit_lambda% (o_split rfl rfl rfl (fun hc => ?_) (fun hc => ?_)) <;> first | (exfalso; (simp only [decide_eq_true_eq, decide_eq_false_iff_not, beq_iff_eq, beq_eq_false_iff_ne, bne_iff_ne, bne_eq_false_iff_eq, List.length_map, Int.not_lt, Int.not_le] at hc); omega) | rw [hc])) | (((with_reducible refine no_implicit_lambda% (is_cond ?_)); refine no_implicit_lambda% (c_cond rfl (fun hc => ?_) (fun hc => ?_)) <;> first | (exfalso; (simp only [decide_eq_true_eq, decide_eq_false_iff_not, beq_iff_eq, beq_eq_false_iff_ne, bne_iff_ne, bne_eq_false_iff_eq, List.length_map, Int.not_lt, Int.not_le] at hc); omega) | skip)) | (((with_reducible refine no_implicit_lambda% (is_aop ?_)); refine no_implicit_lambda% (a_pick rfl rfl (fun hc => ?_) (fun hc => ?_)) <;> first | (exfalso; (simp only [decide_eq_true_eq, decide_eq_false_iff_not, beq_iff_eq, beq_eq_false_iff_ne, bne_iff_ne, bne_eq_false_iff_eq, List.length_map, Int.not_lt, Int.not_le] at hc); omega) | rw [hc])) | ((with_reducible refine no_implicit_lambda% (ret1 ?_)); first | (refine no_implicit_lambda% (akc ?_)) | (refine no_implicit_lambda% (aec ?_))) | (with_reducible exact retN) | (with_reducible exact retP) | fail | fail)
    exact e_ret (H' := (4, .box [.list (([] : List UInt8).map brow) .free]) :: acP 0 62 2 3 ⟨t.s, putL A.l t, A.base, A.st⟩ cp' recs) (rest := _) rfl ⟨cp', 62, by omega, by omega, c1, c2, rfl, rfl⟩ permT (Nat.le_of_ble_eq_true rfl)
  · intro xx H' hh
    obtain ⟨_, _, _, h', _⟩ := hh
    cases h'
theorem putL_snoc {p : List Td} {t : Td} (hs : (tkeys (p ++ [t])).Pairwise (· < ·)) : putL p t = p ++ [t] := by
  unfold tkeys at hs
  rw [List.map_append, List.pairwise_append] at hs
  have hlt : ∀ u ∈ p, u.c < t.c := fun u hu => hs.2.2 u.c (List.mem_map.2 ⟨u, hu, rfl⟩) t.c (by simp)
  have hp : kpos (tkeys p) t.c = p.length := by
    refine kpos_eq _ _ _ (by unfold tkeys; rw [List.length_map]; exact Nat.le_refl _) (fun i x hi hx => ?_) fun i x hi hx => ?_
    · obtain ⟨u, hu, rfl⟩ := List.mem_map.1 (List.mem_of_getElem? hx)
      exact hlt u hu
    · have := (List.getElem?_eq_some_iff.1 hx).1
      unfold tkeys at this
      rw [List.length_map] at this
      omega
  unfold putL
  rw [hp, if_neg, insAt_end]
  intro h
  have := (List.getElem?_eq_some_iff.1 h).1
  unfold tkeys at this
  rw [List.length_map] at this
  omega
theorem encVs_len : ∀ (l : List Td), (∀ t ∈ l, t.b.length ≤ 1048576) → (encVs l).length ≤ 1048588 * l.length
  | [], _ => by simp [encVs]
  | t :: l, h => by
    have h1 := h t (by simp)
    have h2 := encVs_len l fun u hu => h u (by simp [hu])
    show (encV t ++ encVs l).length ≤ _
    rw [List.length_append, List.length_cons]
    simp only [encV, List.length_append, be_len]; omega
theorem encVs_at {l : List Td} {i : Nat} {t : Td} (h : l[i]? = some t) : encVs (l.drop i) = encV t ++ encVs (l.drop (i + 1)) := by
  obtain ⟨hlt, hr⟩ := List.getElem?_eq_some_iff.1 h
  rw [List.drop_eq_getElem_cons hlt, hr]; rfl
/-- a state, its votes still coming -/
def Ac.withL (A : Ac) (l : List Td) : Ac := ⟨A.p, l, A.base, A.st⟩
def rwSt (A : Ac) (recs : List (List UInt8)) (cp i : Nat) : ASt := ⟨([.ptr 0 0, .ptr 4 0, .dead, .dead, .dead, .v (.int .u8 (A.l.length - i : Nat))] ++ List.replicate 59 .dead), acP 0 11 2 3 (A.withL (A.l.take i)) cp recs ++ [(4, .box [.list ((encVs (A.l.drop i)).map brow) .free])], 12⟩
set_option maxHeartbeats 3200000 in
theorem readW_c0 (A0 A : Ac) (cp : Nat) (recs : List (List UInt8)) (hA : AcOk A) (hl : A.l.length ≤ 8) : ACalls Try.prog 59 5 200 [.ptr 0 0, .ptr 4 0] ((4, .box [.list ((encW A).map brow) .free]) :: acP 0 1 2 3 A0 cp recs) (rdQ A recs 200) := by
  obtain ⟨p1, p2⟩ := hA.p
  obtain ⟨b1, b2⟩ := hA.base
  have hst := hA.st
  have e : encW A = [UInt8.ofNat 3] ++ (be (A.p + 1).toNat 4 ++ (be A.base.toNat 4 ++ (be A.st.length 4 ++ A.st ++ ([UInt8.ofNat A.l.length] ++ encVs A.l)))) := by simp [encW]
  rw [e]
  have hvb : ∀ t ∈ A.l, t.b.length ≤ 1048576 := fun t ht => (hA.votes t ht).2.2.2.2
  have hvl : (encVs A.l).length ≤ 10000000 := by have := encVs_len A.l hvb; omega
  have h0 := rBe_c 3 (be (A.p + 1).toNat 4 ++ (be A.base.toNat 4 ++ (be A.st.length 4 ++ A.st ++ ([UInt8.ofNat A.l.length] ++ encVs A.l)))) (by omega) (by simp [be_len]; omega)
  have h1 := rNe_c (A.p + 1).toNat (be A.base.toNat 4 ++ (be A.st.length 4 ++ A.st ++ ([UInt8.ofNat A.l.length] ++ encVs A.l))) (by omega) (by simp [be_len]; omega)
  have h2 := rNe_c A.base.toNat (be A.st.length 4 ++ A.st ++ ([UInt8.ofNat A.l.length] ++ encVs A.l)) (by omega) (by simp [be_len]; omega)
  have h3 := rTe_c A.st ([UInt8.ofNat A.l.length] ++ encVs A.l) (by omega) (by simp; omega)
  have h4 := rBe_c A.l.length (encVs A.l) (by omega) (by omega)
  have w1 : IntKind.i64.wrap (IntKind.i64.wrap (((A.p + 1).toNat : Nat) : Int) - 1) = A.p := by rw [IntKind.wrap_i64, IntKind.wrap_i64]; omega
  have w2 : IntKind.i64.wrap ((A.base.toNat : Nat) : Int) = A.base := by rw [IntKind.wrap_i64]; omega
  refine no_implicit_lambda% (acalls_of tok dok (f := 59) ⟨Try.func59, rfl, by kernel_rfl⟩ ?_); refine no_implicit_lambda% (c_start (fun _ h => h) ?_)
  repeat' (first | (refine no_implicit_lambda% (awd1 ?_)) | (((with_reducible refine no_implicit_lambda% (is_aops ?_)); refine no_implicit_lambda% (o_split rfl rfl rfl (fun hc => ?_) (fun hc => ?_)) <;> first | (exfalso; (simp only [decide_eq_true_eq, decide_eq_false_iff_not, beq_iff_eq, beq_eq_false_iff_ne, bne_iff_ne, bne_eq_false_iff_eq, List.length_map, Int.not_lt, Int.not_le] at hc); omega) | rw [hc])) | (((with_reducible refine no_implicit_lambda% (is_cond ?_)); refine no_implicit_lambda% (c_cond rfl (fun hc => ?_) (fun hc => ?_)) <;> first | (exfalso; (simp only [decide_eq_true_eq, decide_eq_false_iff_not, beq_iff_eq, beq_eq_false_iff_ne, bne_iff_ne, bne_eq_false_iff_eq, List.length_map, Int.not_lt, Int.not_le] at hc); omega) | skip)) | (((with_reducible refine no_implicit_lambda% (is_aop ?_)); refine no_implicit_lambda% (a_pick rfl rfl (fun hc => ?_) (fun hc => ?_)) <;> first | (exfalso; (simp only [decide_eq_true_eq, decide_eq_false_iff_not, beq_iff_eq, beq_eq_false_iff_ne, bne_iff_ne, bne_eq_false_iff_eq, List.length_map, Int.not_lt, Int.not_le] at hc); omega) | rw [hc])) | ((with_reducible refine no_implicit_lambda% (ret1 ?_)); first | (refine no_implicit_lambda% (akc ?_)) | (refine no_implicit_lambda% (aec ?_))) | (with_reducible exact retN) | (with_reducible exact retP) | (refine no_implicit_lambda% (cal [4] (h0) ?_ ?_)) | (refine no_implicit_lambda% (cal [4] (h1) ?_ ?_)) | (refine no_implicit_lambda% (cal [4] (h2) ?_ ?_)) | (refine no_implicit_lambda% (cal [4] (h3) ?_ ?_)) | (refine no_implicit_lambda% (cal [4] (h4) ?_ ?_)) | fail)
  rw [w1, w2]
  refine c_loop2 (rwSt A recs) (fun cp i => i ≤ A.l.length ∧ (A.l.take i).length ≤ cp ∧ cp ≤ maxLen) (fun _ i => A.l.length - i) 0 0 ⟨by omega, by simp, by decide⟩ ((Conv.nilBox (id := 0) (j := 2) rfl rfl).trans ?_) ?_
  · (refine no_implicit_lambda% (Conv.toT ?_ ?_ (Nat.le_of_ble_eq_true rfl))); (focus ((unfold rwSt); (try dsimp only); (repeat' (first | (with_reducible exact .nil) | (refine no_implicit_lambda% (.cons ?_ ?_)) | (exact Wk.dead _) | (with_reducible exact Wk.refl _) | (exact WkL.nil))) <;> (first | (exact Wk.eq rfl) | (exact Wk.dead _) | (exact Wk.free _ _) | (exact Wk.lit _) | (refine no_implicit_lambda% (WkR.eq ?_); simp; done) | (refine no_implicit_lambda% (Wk.rows ?_ _); ((repeat' (first | (with_reducible exact LDR.nil) | (with_reducible exact LDL.nil) | (refine no_implicit_lambda% (LDR.cons ?_ ?_)) | (refine no_implicit_lambda% (LDL.cons ?_ ?_)) | (exact LeD.refl _) | (exact LeD.free _ _) | (exact LDR.nil) | (exact LDL.nil)))); done) | (exact Wk.rows (ldr_rep _) _) | (refine no_implicit_lambda% (Wk.eq ?_); rw [List.map_append]; rfl) | ((refine no_implicit_lambda% (Wk.int (Eq.trans (z64 ?_ ?_) ?_))) <;> omega) | (refine no_implicit_lambda% (Wk.int ?_); simp; done) | (refine no_implicit_lambda% (Wk.int ?_); simp; omega) | (refine no_implicit_lambda% (Wk.eq ?_); simp; done)))); (focus ((unfold rwSt); (try dsimp only); (repeat' (first | (with_reducible exact WkH.nil) | (refine no_implicit_lambda% (WkH.cons ?_ ?_)) | (exact WkR.refl _) | (refine no_implicit_lambda% (WkR.box _ ?_)) | (refine no_implicit_lambda% (WkR.eq ?_); simp; done) | (exact WkH.nil))) <;> ((repeat' (first | (with_reducible exact .nil) | (refine no_implicit_lambda% (.cons ?_ ?_)) | (exact Wk.dead _) | (with_reducible exact Wk.refl _) | (exact WkL.nil))) <;> (first | (exact Wk.eq rfl) | (exact Wk.dead _) | (exact Wk.free _ _) | (exact Wk.lit _) | (refine no_implicit_lambda% (WkR.eq ?_); simp; done) | (refine no_implicit_lambda% (Wk.rows ?_ _); ((repeat' (first | (with_reducible exact LDR.nil) | (with_reducible exact LDL.nil) | (refine no_implicit_lambda% (LDR.cons ?_ ?_)) | (refine no_implicit_lambda% (LDL.cons ?_ ?_)) | (exact LeD.refl _) | (exact LeD.free _ _) | (exact LDR.nil) | (exact LDL.nil)))); done) | (exact Wk.rows (ldr_rep _) _) | (refine no_implicit_lambda% (Wk.eq ?_); rw [List.map_append]; rfl) | ((refine no_implicit_lambda% (Wk.int (Eq.trans (z64 ?_ ?_) ?_))) <;> omega) | (refine no_implicit_lambda% (Wk.int ?_); simp; done) | (refine no_implicit_lambda% (Wk.int ?_); simp; omega) | (refine no_implicit_lambda% (Wk.eq ?_); simp; done)))))
  · rintro cp i ⟨i1, i2, i3⟩
    refine c_turn (n' := 12) (fun _ h => h) (fun _ h => h) rfl ?_
    rcases ht : A.l[i]? with _ | t
    · have hi : i = A.l.length := by have := List.getElem?_eq_none_iff.1 ht; omega
      subst hi
      rw [List.take_length] at i2
      rw [Nat.sub_self, List.take_length, List.drop_length]
      repeat' (first | (refine no_implicit_lambda% (awd1 ?_)) | (((with_reducible refine no_implicit_lambda% (is_aops ?_)); refine no_implicit_lambda% (o_split rfl rfl rfl (fun hc => ?_) (fun hc => ?_)) <;> first | (exfalso; (simp only [decide_eq_true_eq, decide_eq_false_iff_not, beq_iff_eq, beq_eq_false_iff_ne, bne_iff_ne, bne_eq_false_iff_eq, List.length_map, Int.not_lt, Int.not_le] at hc); omega) | rw [hc])) | (((with_reducible refine no_implicit_lambda% (is_cond ?_)); refine no_implicit_lambda% (c_cond rfl (fun hc => ?_) (fun hc => ?_)) <;> first | (exfalso; (simp only [decide_eq_true_eq, decide_eq_false_iff_not, beq_iff_eq, beq_eq_false_iff_ne, bne_iff_ne, bne_eq_false_iff_eq, List.length_map, Int.not_lt, Int.not_le] at hc); omega) | skip)) | (((with_reducible refine no_implicit_lambda% (is_aop ?_)); refine no_implicit_lambda% (a_pick rfl rfl (fun hc => ?_) (fun hc => ?_)) <;> first | (exfalso; (simp only [decide_eq_true_eq, decide_eq_false_iff_not, beq_iff_eq, beq_eq_false_iff_ne, bne_iff_ne, bne_eq_false_iff_eq, List.length_map, Int.not_lt, Int.not_le] at hc); omega) | rw [hc])) | ((with_reducible refine no_implicit_lambda% (ret1 ?_)); first | (refine no_implicit_lambda% (akc ?_)) | (refine no_implicit_lambda% (aec ?_))) | (with_reducible exact retN) | (with_reducible exact retP) | fail | fail)
      exact e_ret (H' := (4, .box [.list (([] : List UInt8).map brow) .free]) :: acP 0 11 2 3 A cp recs) (rest := []) rfl ⟨cp, 11, by omega, by omega, i2, i3, rfl, rfl⟩ permT (Nat.le_of_ble_eq_true rfl)
    · have hi : i < A.l.length := (List.getElem?_eq_some_iff.1 ht).1
      obtain ⟨v1, v2, v3, v4, v5⟩ := hA.votes t (List.mem_of_getElem? ht)
      have hts : A.l.take (i + 1) = A.l.take i ++ [t] := by rw [List.take_add_one, ht]; rfl
      have hsub : (tkeys (A.l.take (i + 1))).Pairwise (· < ·) := by unfold tkeys; rw [List.map_take]; exact hA.sorted.sublist (List.take_sublist ..)
      have hsub0 : (tkeys (A.l.take i)).Pairwise (· < ·) := by unfold tkeys; rw [List.map_take]; exact hA.sorted.sublist (List.take_sublist ..)
      have hin : inB (A.withL (A.l.take i)) t = true := decide_eq_true ⟨v3, by omega, v1, v2, v5⟩
      have htl : (A.l.take i).length = i := by rw [List.length_take]; omega
      have hdl : (encVs (A.l.drop (i + 1))).length < 100000000 := by
        have := encVs_len (A.l.drop (i + 1)) fun u hu => hvb u (List.mem_of_mem_drop hu)
        rw [List.length_drop] at this; omega
      have ht1 := vtake_c (A.withL (A.l.take i)) cp recs t (encVs (A.l.drop (i + 1))) hin hdl hA.base
      rw [← encVs_at ht] at ht1
      have hp1 := put_c (A.withL (A.l.take i)) cp recs t (by show (A.l.take i).length < _; omega) i2 i3 hsub0
      have hpl0 : putL (A.l.take i) t = A.l.take (i + 1) := by rw [hts]; exact putL_snoc (by rw [← hts]; exact hsub)
      have hpl : putL (A.withL (A.l.take i)).l t = A.l.take (i + 1) := hpl0
      have hpv : (A.withL (A.l.take i)).putV t = A.withL (A.l.take (i + 1)) := by unfold Ac.putV; rw [hpl]; rfl
      rw [hpl, hpv] at hp1
      have hu8 : IntKind.u8.wrap (((A.l.length - i : Nat) : Int) - 1) = ((A.l.length - (i + 1) : Nat) : Int) := by rw [IntKind.wrap_u8]; omega
      repeat' (first | (refine no_implicit_lambda% (awd1 ?_)) | (((with_reducible refine no_implicit_lambda% (is_aops ?_)); refine no_implicit_lambda% (o_split rfl rfl rfl (fun hc => ?_) (fun hc => ?_)) <;> first | (exfalso; (simp only [decide_eq_true_eq, decide_eq_false_iff_not, beq_iff_eq, beq_eq_false_iff_ne, bne_iff_ne, bne_eq_false_iff_eq, List.length_map, Int.not_lt, Int.not_le] at hc); omega) | rw [hc])) | (((with_reducible refine no_implicit_lambda% (is_cond ?_)); refine no_implicit_lambda% (c_cond rfl (fun hc => ?_) (fun hc => ?_)) <;> first | (exfalso; (simp only [decide_eq_true_eq, decide_eq_false_iff_not, beq_iff_eq, beq_eq_false_iff_ne, bne_iff_ne, bne_eq_false_iff_eq, List.length_map, Int.not_lt, Int.not_le] at hc); omega) | skip)) | (((with_reducible refine no_implicit_lambda% (is_aop ?_)); refine no_implicit_lambda% (a_pick rfl rfl (fun hc => ?_) (fun hc => ?_)) <;> first | (exfalso; (simp only [decide_eq_true_eq, decide_eq_false_iff_not, beq_iff_eq, beq_eq_false_iff_ne, bne_iff_ne, bne_eq_false_iff_eq, List.length_map, Int.not_lt, Int.not_le] at hc); omega) | rw [hc])) | ((with_reducible refine no_implicit_lambda% (ret1 ?_)); first | (refine no_implicit_lambda% (akc ?_)) | (refine no_implicit_lambda% (aec ?_))) | (with_reducible exact retN) | (with_reducible exact retP) | (refine no_implicit_lambda% (cal [0, 11, 2, 3, 4] (ht1) ?_ ?_)) | fail)
      (refine no_implicit_lambda% (cal [0, 11, 2, 3] (hp1) ?_ ?_))
      · intro xx H' hh
        obtain ⟨cp', c1, c2, h', rfl⟩ := hh
        cases h'
        first | (refine no_implicit_lambda% (akc ?_)) | (refine no_implicit_lambda% (aec ?_))
        repeat' (first | (refine no_implicit_lambda% (awd1 ?_)) | (((with_reducible refine no_implicit_lambda% (is_aops ?_)); refine no_implicit_lambda% (o_split rfl rfl rfl (fun hc => ?_) (fun hc => ?_)) <;> first | (exfalso; (simp only [decide_eq_true_eq, decide_eq_false_iff_not, beq_iff_eq, beq_eq_false_iff_ne, bne_iff_ne, bne_eq_false_iff_eq, List.length_map, Int.not_lt, Int.not_le] at hc); omega) | rw [hc])) | (((with_reducible refine no_implicit_lambda% (is_cond ?_)); refine no_implicit_lambda% (c_cond rfl (fun hc => ?_) (fun hc => ?_)) <;> first | (exfalso; (simp only [decide_eq_true_eq, decide_eq_false_iff_not, beq_iff_eq, beq_eq_false_iff_ne, bne_iff_ne, bne_eq_false_iff_eq, List.length_map, Int.not_lt, Int.not_le] at hc); omega) | skip)) | (((with_reducible refine no_implicit_lambda% (is_aop ?_)); refine no_implicit_lambda% (a_pick rfl rfl (fun hc => ?_) (fun hc => ?_)) <;> first | (exfalso; (simp only [decide_eq_true_eq, decide_eq_false_iff_not, beq_iff_eq, beq_eq_false_iff_ne, bne_iff_ne, bne_eq_false_iff_eq, List.length_map, Int.not_lt, Int.not_le] at hc); omega) | rw [hc])) | ((with_reducible refine no_implicit_lambda% (ret1 ?_)); first | (refine no_implicit_lambda% (akc ?_)) | (refine no_implicit_lambda% (aec ?_))) | (with_reducible exact retN) | (with_reducible exact retP) | fail | fail)
        rw [hu8]
        (refine no_implicit_lambda% (k_loopLT (((cp', i + 1) : Nat × Nat)) 5 [0, 1, 2, 3, 4, 5, 6, 7, 8, 9, 10, 67] (by show i + 1 ≤ A.l.length ∧ (A.l.take (i + 1)).length ≤ cp' ∧ cp' ≤ maxLen; exact ⟨hi, c1, c2⟩) (by first | omega | (simp; done) | (simp; omega)) (Nat.le_of_ble_eq_true rfl) (fun _ h => h) (fun _ h => h) ?_ ?_)); (focus ((try dsimp only); (repeat' (first | (with_reducible exact .nil) | (refine no_implicit_lambda% (.cons ?_ ?_)) | (exact Wk.dead _) | (with_reducible exact Wk.refl _) | (exact WkL.nil))) <;> (first | (exact Wk.eq rfl) | (exact Wk.dead _) | (exact Wk.free _ _) | (exact Wk.lit _) | (refine no_implicit_lambda% (WkR.eq ?_); simp; done) | (refine no_implicit_lambda% (Wk.rows ?_ _); ((repeat' (first | (with_reducible exact LDR.nil) | (with_reducible exact LDL.nil) | (refine no_implicit_lambda% (LDR.cons ?_ ?_)) | (refine no_implicit_lambda% (LDL.cons ?_ ?_)) | (exact LeD.refl _) | (exact LeD.free _ _) | (exact LDR.nil) | (exact LDL.nil)))); done) | (exact Wk.rows (ldr_rep _) _) | (refine no_implicit_lambda% (Wk.eq ?_); rw [List.map_append]; rfl) | ((refine no_implicit_lambda% (Wk.int (Eq.trans (z64 ?_ ?_) ?_))) <;> omega) | (refine no_implicit_lambda% (Wk.int ?_); simp; done) | (refine no_implicit_lambda% (Wk.int ?_); simp; omega) | (refine no_implicit_lambda% (Wk.eq ?_); simp; done)))); (focus ((try dsimp only); (repeat' (first | (with_reducible exact WkH.nil) | (refine no_implicit_lambda% (WkH.cons ?_ ?_)) | (exact WkR.refl _) | (refine no_implicit_lambda% (WkR.box _ ?_)) | (refine no_implicit_lambda% (WkR.eq ?_); simp; done) | (exact WkH.nil))) <;> ((repeat' (first | (with_reducible exact .nil) | (refine no_implicit_lambda% (.cons ?_ ?_)) | (exact Wk.dead _) | (with_reducible exact Wk.refl _) | (exact WkL.nil))) <;> (first | (exact Wk.eq rfl) | (exact Wk.dead _) | (exact Wk.free _ _) | (exact Wk.lit _) | (refine no_implicit_lambda% (WkR.eq ?_); simp; done) | (refine no_implicit_lambda% (Wk.rows ?_ _); ((repeat' (first | (with_reducible exact LDR.nil) | (with_reducible exact LDL.nil) | (refine no_implicit_lambda% (LDR.cons ?_ ?_)) | (refine no_implicit_lambda% (LDL.cons ?_ ?_)) | (exact LeD.refl _) | (exact LeD.free _ _) | (exact LDR.nil) | (exact LDL.nil)))); done) | (exact Wk.rows (ldr_rep _) _) | (refine no_implicit_lambda% (Wk.eq ?_); rw [List.map_append]; rfl) | ((refine no_implicit_lambda% (Wk.int (Eq.trans (z64 ?_ ?_) ?_))) <;> omega) | (refine no_implicit_lambda% (Wk.int ?_); simp; done) | (refine no_implicit_lambda% (Wk.int ?_); simp; omega) | (refine no_implicit_lambda% (Wk.eq ?_); simp; done)))))
      · intro xx H' hh
        obtain ⟨_, _, _, h', _⟩ := hh
        cases h'
end Go.Proofs.Ytabhfccfohpkaaa
