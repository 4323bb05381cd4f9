/- vote: a call, both sides beside one another. -/
import Derived.Test.YtabhfccfohpkaaaVoO
import Derived.Test.YtabhfccfohpkaaaOcB
import Derived.Test.YtabhfccfohpkaaaWn
namespace Go.Proofs.Ytabhfccfohpkaaa
open Go.Am
set_option linter.unusedSimpArgs false
set_option linter.unusedVariables false
set_option maxRecDepth 100000
/-- what holds between calls: the disk's records say what is known -/
structure VInv (A : Ac) (cp : Nat) (ops : List Ro) (n : Nat) : Prop where
  good : good A0 ops
  now : ops.foldl ap A0 = A
  room : A.l.length ≤ cp
  cap : cp ≤ maxLen
  few : ops.length ≤ n
theorem VInv.ok {A : Ac} {cp : Nat} {ops : List Ro} {n : Nat} (h : VInv A cp ops n) : AcOk A := h.now ▸ good_ok ops A0 A0_ok h.good
theorem VInv.mono {A : Ac} {cp : Nat} {ops : List Ro} {n m : Nat} (h : VInv A cp ops n) (hm : n ≤ m) : VInv A cp ops m := ⟨h.good, h.now, h.room, h.cap, Nat.le_trans h.few hm⟩
theorem good_len {ops : List Ro} (h : good A0 ops) : ∀ o ∈ ops, (encO o).length < 1000000000 := by
  intro o ho
  obtain ⟨i, hi⟩ := List.getElem?_of_mem ho
  have h1 := good_at h hi
  cases o with
  | P b => simp [encO, encP, be_len]
  | B t =>
    have h2 := of_decide_eq_true h1.1
    simp [encO, encB, encV, be_len]
    omega
  | W A =>
    obtain ⟨h2, h3⟩ := h1
    have h4 := h2.len
    have h5 := h2.st
    have h6 := encVs_len A.l (fun t ht => (h2.votes t ht).2.2.2.2)
    simp [encO, encW, be_len]
    have : 1048588 * A.l.length ≤ 1048588 * 8 := Nat.mul_le_mul_left _ h4
    omega
/-- what a call leaves -/
def VR (A : Ac) (n : Nat) (v : Bool) (out : AOut) (H' : Heap) : Prop := ∃ cp ops, VInv A cp ops n ∧ out = .ret (.v (.bool v)) ∧ (H' = acP 0 1 2 3 A cp (ops.map encO) ∨ H' = acP 0 4 2 3 A cp (ops.map encO) ∨ H' = acP 0 1 2 4 A cp (ops.map encO))
def Ac.prom (A : Ac) (b : Int) : Ac := if promB A b then ⟨b, A.l, A.base, A.st⟩ else A
def Ac.snp (A : Ac) (slot : Int) (st : List UInt8) : Ac := if snapB A slot st then A.snap slot st else A
/-- .. with the votes' name -/
def VX (v : Nat) (A : Ac) (n : Nat) (b : Bool) (out : AOut) (H' : Heap) : Prop := ∃ cp ops, VInv A cp ops n ∧ out = .ret (.v (.bool b)) ∧ H' = acP 0 v 2 3 A cp (ops.map encO)
theorem prom_cx (A : Ac) (cp : Nat) (ops : List Ro) (n : Nat) (b : Int) (hI : VInv A cp ops n) (hn : n < 1000000) : ACalls Try.prog 28 4 300 [.ptr 0 0, .v (.int .i64 b)] (acP 0 1 2 3 A cp (ops.map encO)) (VX 1 (A.prom b) (n + 1) (promB A b)) :=
  (promise_c A cp (ops.map encO) b hI.ok.p.1 (by rw [List.length_map]; have := hI.few; omega)).mono fun out H' hh => by
    obtain ⟨rfl, rfl⟩ := hh
    have hf := hI.few
    unfold Ac.prom
    by_cases h1 : promB A b = true
    · by_cases h2 : A.p < b
      · rw [if_pos h1, if_pos ⟨h1, h2⟩]
        have h3 := of_decide_eq_true h1
        have h4 := hI.ok.p
        refine ⟨cp, ops ++ [.P b], ⟨(good_snoc _ _ _).2 ⟨hI.good, ?_⟩, by rw [List.foldl_append, hI.now]; rfl, hI.room, hI.cap, by simp; omega⟩, rfl, (by rw [List.map_append]; rfl)⟩
        rw [hI.now]
        exact ⟨by omega, h3.2, h3.1⟩
      · rw [if_pos h1, if_neg (fun h => h2 h.2)]
        have h3 := of_decide_eq_true h1
        have h4 : b = A.p := by omega
        rw [h4]
        exact ⟨cp, ops, hI.mono (by omega), rfl, rfl⟩
    · rw [if_neg h1, if_neg (fun h => h1 h.1)]
      exact ⟨cp, ops, hI.mono (by omega), rfl, rfl⟩
theorem vote_cx (A : Ac) (cp : Nat) (ops : List Ro) (n : Nat) (t : Td) (hI : VInv A cp ops n) (hn : n < 1000000) (hb : t.b.length < 1000000000) : ACalls Try.prog 29 4 5 [.ptr 0 0, .v (.int .i64 t.s), .v (.int .i64 t.c), .list (t.b.map brow) .free] (acP 0 1 2 3 A cp (ops.map encO)) (VX 4 (A.vote t) (n + 1) (voteB A t)) :=
  (vote_c0 A cp (ops.map encO) t hI.ok hI.room hI.cap (by rw [List.length_map]; have := hI.few; omega) hb).ren (by decide) fun out H' hh => by
    obtain ⟨cp', n', n1, n2, c1, c2, rfl, rfl⟩ := hh
    have hf := hI.few
    refine ⟨[0, 1, 2, 3, n'], .ret (.v (.bool (voteB A t))), acP 0 4 2 3 (A.vote t) cp' (recsV A (ops.map encO) t), ?_, ?_, fun i h => ?_, Nat.le_refl _, ?_, (acP_ren 0 4 2 3 0 n' 2 3 _ rfl rfl rfl rfl _ _ _).symm, ?_⟩
    · simp; omega
    · simp; omega
    · have : i = 0 ∨ i = 1 ∨ i = 2 ∨ i = 3 := by omega
      rcases this with rfl | rfl | rfl | rfl <;> rfl
    · simp [AOut.ren, AV.ren, AV.renL]
    · by_cases h1 : voteB A t = true
      · have h3 : A.p ≤ t.s ∧ inB A t = true := by simpa [voteB] using h1
        refine ⟨cp', ops ++ [.B t], ⟨(good_snoc _ _ _).2 ⟨hI.good, by rw [hI.now]; exact ⟨h3.2, h3.1⟩⟩, ?_, c1, c2, by simp; omega⟩, rfl, ?_⟩
        · rw [List.foldl_append, hI.now]
          show ap A (.B t) = A.vote t
          unfold Ac.vote
          rw [if_pos h1]
        · unfold recsV
          rw [if_pos h1, List.map_append]; rfl
      · have e1 : A.vote t = A := by unfold Ac.vote; rw [if_neg h1]
        have e2 : recsV A (ops.map encO) t = ops.map encO := by unfold recsV; rw [if_neg h1]
        rw [e1] at c1
        rw [e1, e2]
        exact ⟨cp', ops, ⟨hI.good, hI.now, c1, c2, by omega⟩, rfl, rfl⟩
theorem prom_c (A : Ac) (cp : Nat) (ops : List Ro) (n : Nat) (b : Int) (hI : VInv A cp ops n) (hn : n < 1000000) : ACalls Try.prog 28 4 300 [.ptr 0 0, .v (.int .i64 b)] (acP 0 1 2 3 A cp (ops.map encO)) (VR (A.prom b) (n + 1) (promB A b)) :=
  (prom_cx A cp ops n b hI hn).mono fun out H' ⟨cp', ops', h1, h2, h3⟩ => ⟨cp', ops', h1, h2, .inl h3⟩
theorem vote_c (A : Ac) (cp : Nat) (ops : List Ro) (n : Nat) (t : Td) (hI : VInv A cp ops n) (hn : n < 1000000) (hb : t.b.length < 1000000000) : ACalls Try.prog 29 4 5 [.ptr 0 0, .v (.int .i64 t.s), .v (.int .i64 t.c), .list (t.b.map brow) .free] (acP 0 1 2 3 A cp (ops.map encO)) (VR (A.vote t) (n + 1) (voteB A t)) :=
  (vote_cx A cp ops n t hI hn hb).mono fun out H' ⟨cp', ops', h1, h2, h3⟩ => ⟨cp', ops', h1, h2, .inr (.inl h3)⟩
theorem snap_c (A : Ac) (cp : Nat) (ops : List Ro) (n : Nat) (slot : Int) (st : List UInt8) (hI : VInv A cp ops n) (hn : n < 1000000) (hb : st.length < 1000000000) : ACalls Try.prog 31 4 5 [.ptr 0 0, .v (.int .i64 slot), .list (st.map brow) .free] (acP 0 1 2 3 A cp (ops.map encO)) (VR (A.snp slot st) (n + 1) (snapB A slot st)) :=
  (snap_c0 A cp (ops.map encO) slot st hI.ok hI.room hI.cap hb).ren (by decide) fun out H' hh => by
    have hf := hI.few
    rcases hh with ⟨h1, rfl, rfl⟩ | ⟨h1, n', n1, n2, rfl, rfl⟩
    · have e1 : A.snp slot st = A := by unfold Ac.snp; rw [if_neg (by simp [h1])]
      refine ⟨[0, 1, 2, 3], .ret (.v (.bool false)), acP 0 1 2 3 A cp (ops.map encO), ?_, ?_, fun i h => ?_, by decide, ?_, (acP_ren 0 1 2 3 0 1 2 3 _ rfl rfl rfl rfl _ _ _).symm, ?_⟩
      · simp
      · simp
      · have : i = 0 ∨ i = 1 ∨ i = 2 ∨ i = 3 := by omega
        rcases this with rfl | rfl | rfl | rfl <;> rfl
      · simp [AOut.ren, AV.ren, AV.renL]
      · rw [e1, h1]
        exact ⟨cp, ops, hI.mono (by omega), rfl, .inl rfl⟩
    · have e1 : A.snp slot st = A.snap slot st := by unfold Ac.snp; rw [if_pos h1]
      have hok := snap_ok hI.ok h1
      refine ⟨[0, 1, 2, 3, n'], .ret (.v (.bool true)), acP 0 1 2 4 (A.snap slot st) cp [encW (A.snap slot st)], ?_, ?_, fun i h => ?_, Nat.le_refl _, ?_, (acP_ren 0 1 2 4 0 1 2 n' _ rfl rfl rfl rfl _ _ _).symm, ?_⟩
      · simp; omega
      · simp; omega
      · have : i = 0 ∨ i = 1 ∨ i = 2 ∨ i = 3 := by omega
        rcases this with rfl | rfl | rfl | rfl <;> rfl
      · simp [AOut.ren, AV.ren, AV.renL]
      · rw [e1, h1]
        refine ⟨cp, [.W (A.snap slot st)], ⟨⟨⟨hok, hok.p.1⟩, trivial⟩, rfl, Nat.le_trans (kept_len _ _) hI.room, hI.cap, by simp⟩, rfl, .inr (.inr rfl)⟩
set_option maxHeartbeats 3200000 in
/-- both sides the same? -/
theorem same_cc (A : Ac) (cp : Nat) (recs : List (List UInt8)) (hA : AcOk A) : ACalls Try.prog 35 5 60 [.ptr 0 0, .ptr 4 0] (acP 0 1 2 3 A cp recs ++ mP 4 A) (fun out H' => out = .ret (.v (.bool true)) ∧ H' = acP 0 1 2 3 A cp recs ++ mP 4 A) := by
  have hl := hA.len
  have hst := hA.st
  have h1 := promised_c A cp recs
  have h2 := base_c A cp recs
  have h3 := state_c A cp recs (by omega)
  have h4 := votes_c A cp recs hA
  have h5 := rsame_c A.l (by omega)
  refine no_implicit_lambda% (acalls_of tok dok (f := 35) ⟨Try.func35, rfl, by kernel_rfl⟩ ?_); refine no_implicit_lambda% (c_start (fun _ h => h) ?_)
  repeat' (first | (refine no_implicit_lambda% (awd1 ?_)) | (((with_reducible refine no_implicit_lambda% (is_aops ?_)); refine no_implicit_lambda% (o_split rfl rfl rfl (fun hc => ?_) (fun hc => ?_)) <;> first | (exfalso; (simp only [decide_eq_true_eq, decide_eq_false_iff_not, beq_iff_eq, beq_eq_false_iff_ne, bne_iff_ne, bne_eq_false_iff_eq, List.length_map, Int.not_lt, Int.not_le] at hc); omega) | rw [hc])) | (((with_reducible refine no_implicit_lambda% (is_cond ?_)); refine no_implicit_lambda% (c_cond rfl (fun hc => ?_) (fun hc => ?_)) <;> first | (exfalso; (simp only [decide_eq_true_eq, decide_eq_false_iff_not, beq_iff_eq, beq_eq_false_iff_ne, bne_iff_ne, bne_eq_false_iff_eq, List.length_map, Int.not_lt, Int.not_le] at hc); omega) | skip)) | (((with_reducible refine no_implicit_lambda% (is_aop ?_)); refine no_implicit_lambda% (a_pick rfl rfl (fun hc => ?_) (fun hc => ?_)) <;> first | (exfalso; (simp only [decide_eq_true_eq, decide_eq_false_iff_not, beq_iff_eq, beq_eq_false_iff_ne, bne_iff_ne, bne_eq_false_iff_eq, List.length_map, Int.not_lt, Int.not_le] at hc); omega) | rw [hc])) | (((with_reducible refine no_implicit_lambda% (is_ev ?_)); refine no_implicit_lambda% (v_split rfl rfl rfl rfl (fun hc => ?_) (fun hc => ?_)) <;> first | (exfalso; (simp only [decide_eq_true_eq, decide_eq_false_iff_not, beq_iff_eq, beq_eq_false_iff_ne, bne_iff_ne, bne_eq_false_iff_eq, List.length_map, Int.not_lt, Int.not_le] at hc); omega) | rw [hc])) | ((with_reducible refine no_implicit_lambda% (ret1 ?_)); first | (refine no_implicit_lambda% (akc ?_)) | (refine no_implicit_lambda% (aec ?_))) | (with_reducible exact retN) | (with_reducible exact retP) | (refine no_implicit_lambda% (cal [0, 1, 2, 3] (h1) ?_ ?_)) | (refine no_implicit_lambda% (cal [0, 1, 2, 3] (h2) ?_ ?_)) | (refine no_implicit_lambda% (cal [0, 1, 2, 3] (h3) ?_ ?_)) | (refine no_implicit_lambda% (cal [0, 1, 2, 3] (h4) ?_ ?_)) | (refine no_implicit_lambda% (cal [] (h5) ?_ ?_)) | fail)
  · exact e_ret (H' := acP 0 1 2 3 A cp recs ++ mP 4 A) (rest := []) rfl ⟨rfl, rfl⟩ permT (Nat.le_of_ble_eq_true rfl)
  · exfalso; simp at hc
/-- an ask -/
structure Vk where
  k : Int
  b : Int
  s : Int
  t : List UInt8
def vkrow (a : Vk) : List AV := [.v (.int .i64 a.k), .v (.int .i64 a.b), .v (.int .i64 a.s), .list (a.t.map brow) .free]
/-- what a call makes of it -/
def Ac.step (A : Ac) (x : Vk) : Ac := if x.k = 1 then A.prom x.b else if x.k = 2 then A.vote ⟨x.s, x.b, x.t.take 20⟩ else if x.k = 3 then A.snp x.s (x.t.take 20) else A
/-- what a call on both sides leaves -/
def DR (A : Ac) (n : Nat) (out : AOut) (H' : Heap) : Prop := ∃ cp ops, VInv A cp ops n ∧ out = .ret (.v (.bool true)) ∧ (H' = acP 0 1 2 3 A cp (ops.map encO) ++ mP 4 A ∨ H' = acP 0 6 2 3 A cp (ops.map encO) ++ mP 4 A ∨ H' = acP 0 1 2 6 A cp (ops.map encO) ++ mP 4 A)
set_option maxHeartbeats 3200000 in
theorem do_c0 (A : Ac) (cp : Nat) (ops : List Ro) (n : Nat) (x : Vk) (hI : VInv A cp ops n) (hn : n < 1000000) : ACalls Try.prog 34 5 900 [.ptr 0 0, .ptr 4 0, .agg (vkrow x)] (acP 0 1 2 3 A cp (ops.map encO) ++ mP 4 A) (DR (A.step x) (n + 1)) := by
  have hA := hI.ok
  have hl := hA.len
  have hst := hA.st
  have hlt : (x.t.take 20).length ≤ 20 := by rw [List.length_take]; omega
  have hp := prom_c A cp ops n x.b hI hn
  have hv := vote_c A cp ops n ⟨x.s, x.b, x.t.take 20⟩ hI hn (by show (x.t.take 20).length < _; omega)
  have hs := snap_c A cp ops n x.s (x.t.take 20) hI hn (by omega)
  have rp : ACalls Try.prog 73 1 1 [.ptr 0 0, .v (.int .i64 x.b)] (mP 0 A) (fun out H' => out = .ret (.v (.bool (promB A x.b))) ∧ H' = mP 0 (A.prom x.b)) := rpromise_c A x.b
  have rv : ACalls Try.prog 74 1 60 [.ptr 0 0, .v (.int .i64 x.b), .v (.int .i64 x.s), .list ((x.t.take 20).map brow) .free] (mP 0 A) (fun out H' => out = .ret (.v (.bool (voteB A ⟨x.s, x.b, x.t.take 20⟩))) ∧ H' = mP 0 (A.vote ⟨x.s, x.b, x.t.take 20⟩)) := rvote_c A ⟨x.s, x.b, x.t.take 20⟩ hA (by show (x.t.take 20).length < _; omega)
  have rs : ACalls Try.prog 75 1 60 [.ptr 0 0, .v (.int .i64 x.s), .list ((x.t.take 20).map brow) .free] (mP 0 A) (fun out H' => out = .ret (.v (.bool (snapB A x.s (x.t.take 20)))) ∧ H' = mP 0 (A.snp x.s (x.t.take 20))) := rsnap_c A x.s (x.t.take 20) (by omega) (by omega)
  have hv2 : ACalls Try.prog 29 4 5 [.ptr 0 0, .v (.int .i64 x.b), .v (.int .i64 x.s), .list ((x.t.take 20).map brow) .free] (acP 0 1 2 3 A cp (ops.map encO)) (VR (A.vote ⟨x.s, x.b, x.t.take 20⟩) (n + 1) (voteB A ⟨x.s, x.b, x.t.take 20⟩)) := hv
  refine no_implicit_lambda% (acalls_of tok dok (f := 34) ⟨Try.func34, rfl, by kernel_rfl⟩ ?_); refine no_implicit_lambda% (c_start (fun _ h => h) ?_)
  repeat' (first | (refine no_implicit_lambda% (awd1 ?_)) | (((with_reducible refine no_implicit_lambda% (is_aops ?_)); refine no_implicit_lambda% (o_split rfl rfl rfl (fun hc => ?_) (fun hc => ?_)) <;> first | (exfalso; (simp only [decide_eq_true_eq, decide_eq_false_iff_not, beq_iff_eq, beq_eq_false_iff_ne, bne_iff_ne, bne_eq_false_iff_eq, List.length_map, Int.not_lt, Int.not_le] at hc); omega) | rw [hc])) | (((with_reducible refine no_implicit_lambda% (is_cond ?_)); refine no_implicit_lambda% (c_cond rfl (fun hc => ?_) (fun hc => ?_)) <;> first | (exfalso; (simp only [decide_eq_true_eq, decide_eq_false_iff_not, beq_iff_eq, beq_eq_false_iff_ne, bne_iff_ne, bne_eq_false_iff_eq, List.length_map, Int.not_lt, Int.not_le] at hc); omega) | skip)) | (((with_reducible refine no_implicit_lambda% (is_aop ?_)); refine no_implicit_lambda% (a_pick rfl rfl (fun hc => ?_) (fun hc => ?_)) <;> first | (exfalso; (simp only [decide_eq_true_eq, decide_eq_false_iff_not, beq_iff_eq, beq_eq_false_iff_ne, bne_iff_ne, bne_eq_false_iff_eq, List.length_map, Int.not_lt, Int.not_le] at hc); omega) | rw [hc])) | ((with_reducible refine no_implicit_lambda% (ret1 ?_)); first | (refine no_implicit_lambda% (akc ?_)) | (refine no_implicit_lambda% (aec ?_))) | (with_reducible exact retN) | (with_reducible exact retP) | (refine no_implicit_lambda% (cal [] (cut_c _ 20 (by omega)) ?_ ?_)) | (refine no_implicit_lambda% (cal [0, 1, 2, 3] (hp) ?_ ?_)) | (refine no_implicit_lambda% (cal [0, 1, 2, 3] (hv2) ?_ ?_)) | (refine no_implicit_lambda% (cal [0, 1, 2, 3] (hs) ?_ ?_)) | fail)
  · have e1 : A.step x = A.prom x.b := by
      unfold Ac.step
      simp only [beq_iff_eq, beq_eq_false_iff_ne] at *
      rw [if_pos (by assumption)]
    rw [e1]
    intro xx H' hh
    obtain ⟨cp', ops', hI', h', rfl | rfl | rfl⟩ := hh
    · cases h'
      first | (refine no_implicit_lambda% (akc ?_)) | (refine no_implicit_lambda% (aec ?_))
      have hsm := same_cc (A.prom x.b) cp' (ops'.map encO) hI'.ok
      repeat' (first | (refine no_implicit_lambda% (awd1 ?_)) | (((with_reducible refine no_implicit_lambda% (is_aops ?_)); refine no_implicit_lambda% (o_split rfl rfl rfl (fun hc => ?_) (fun hc => ?_)) <;> first | (exfalso; (simp only [decide_eq_true_eq, decide_eq_false_iff_not, beq_iff_eq, beq_eq_false_iff_ne, bne_iff_ne, bne_eq_false_iff_eq, List.length_map, Int.not_lt, Int.not_le] at hc); omega) | rw [hc])) | (((with_reducible refine no_implicit_lambda% (is_cond ?_)); refine no_implicit_lambda% (c_cond rfl (fun hc => ?_) (fun hc => ?_)) <;> first | (exfalso; (simp only [decide_eq_true_eq, decide_eq_false_iff_not, beq_iff_eq, beq_eq_false_iff_ne, bne_iff_ne, bne_eq_false_iff_eq, List.length_map, Int.not_lt, Int.not_le] at hc); omega) | skip)) | (((with_reducible refine no_implicit_lambda% (is_aop ?_)); refine no_implicit_lambda% (a_pick rfl rfl (fun hc => ?_) (fun hc => ?_)) <;> first | (exfalso; (simp only [decide_eq_true_eq, decide_eq_false_iff_not, beq_iff_eq, beq_eq_false_iff_ne, bne_iff_ne, bne_eq_false_iff_eq, List.length_map, Int.not_lt, Int.not_le] at hc); omega) | rw [hc])) | ((with_reducible refine no_implicit_lambda% (ret1 ?_)); first | (refine no_implicit_lambda% (akc ?_)) | (refine no_implicit_lambda% (aec ?_))) | (with_reducible exact retN) | (with_reducible exact retP) | (refine no_implicit_lambda% (cal [4] (rp) ?_ ?_)) | fail)
      all_goals first | (exfalso; simp at hc; done) | skip
      repeat' (first | (refine no_implicit_lambda% (awd1 ?_)) | (((with_reducible refine no_implicit_lambda% (is_aops ?_)); refine no_implicit_lambda% (o_split rfl rfl rfl (fun hc => ?_) (fun hc => ?_)) <;> first | (exfalso; (simp only [decide_eq_true_eq, decide_eq_false_iff_not, beq_iff_eq, beq_eq_false_iff_ne, bne_iff_ne, bne_eq_false_iff_eq, List.length_map, Int.not_lt, Int.not_le] at hc); omega) | rw [hc])) | (((with_reducible refine no_implicit_lambda% (is_cond ?_)); refine no_implicit_lambda% (c_cond rfl (fun hc => ?_) (fun hc => ?_)) <;> first | (exfalso; (simp only [decide_eq_true_eq, decide_eq_false_iff_not, beq_iff_eq, beq_eq_false_iff_ne, bne_iff_ne, bne_eq_false_iff_eq, List.length_map, Int.not_lt, Int.not_le] at hc); omega) | skip)) | (((with_reducible refine no_implicit_lambda% (is_aop ?_)); refine no_implicit_lambda% (a_pick rfl rfl (fun hc => ?_) (fun hc => ?_)) <;> first | (exfalso; (simp only [decide_eq_true_eq, decide_eq_false_iff_not, beq_iff_eq, beq_eq_false_iff_ne, bne_iff_ne, bne_eq_false_iff_eq, List.length_map, Int.not_lt, Int.not_le] at hc); omega) | rw [hc])) | ((with_reducible refine no_implicit_lambda% (ret1 ?_)); first | (refine no_implicit_lambda% (akc ?_)) | (refine no_implicit_lambda% (aec ?_))) | (with_reducible exact retN) | (with_reducible exact retP) | (refine no_implicit_lambda% (cal [0, 1, 2, 3, 4] (hsm) ?_ ?_)) | fail)
      exact e_ret (H' := acP 0 1 2 3 (A.prom x.b) cp' (ops'.map encO) ++ mP 4 (A.prom x.b)) (rest := _) rfl ⟨cp', ops', hI', rfl, .inl rfl⟩ permT (Nat.le_of_ble_eq_true rfl)
    · cases h'
      first | (refine no_implicit_lambda% (akc ?_)) | (refine no_implicit_lambda% (aec ?_))
      have hsm := same_cc (A.prom x.b) cp' (ops'.map encO) hI'.ok
      repeat' (first | (refine no_implicit_lambda% (awd1 ?_)) | (((with_reducible refine no_implicit_lambda% (is_aops ?_)); refine no_implicit_lambda% (o_split rfl rfl rfl (fun hc => ?_) (fun hc => ?_)) <;> first | (exfalso; (simp only [decide_eq_true_eq, decide_eq_false_iff_not, beq_iff_eq, beq_eq_false_iff_ne, bne_iff_ne, bne_eq_false_iff_eq, List.length_map, Int.not_lt, Int.not_le] at hc); omega) | rw [hc])) | (((with_reducible refine no_implicit_lambda% (is_cond ?_)); refine no_implicit_lambda% (c_cond rfl (fun hc => ?_) (fun hc => ?_)) <;> first | (exfalso; (simp only [decide_eq_true_eq, decide_eq_false_iff_not, beq_iff_eq, beq_eq_false_iff_ne, bne_iff_ne, bne_eq_false_iff_eq, List.length_map, Int.not_lt, Int.not_le] at hc); omega) | skip)) | (((with_reducible refine no_implicit_lambda% (is_aop ?_)); refine no_implicit_lambda% (a_pick rfl rfl (fun hc => ?_) (fun hc => ?_)) <;> first | (exfalso; (simp only [decide_eq_true_eq, decide_eq_false_iff_not, beq_iff_eq, beq_eq_false_iff_ne, bne_iff_ne, bne_eq_false_iff_eq, List.length_map, Int.not_lt, Int.not_le] at hc); omega) | rw [hc])) | ((with_reducible refine no_implicit_lambda% (ret1 ?_)); first | (refine no_implicit_lambda% (akc ?_)) | (refine no_implicit_lambda% (aec ?_))) | (with_reducible exact retN) | (with_reducible exact retP) | (refine no_implicit_lambda% (cal [4] (rp) ?_ ?_)) | fail)
      all_goals first | (exfalso; simp at hc; done) | skip
      repeat' (first | (refine no_implicit_lambda% (awd1 ?_)) | (((with_reducible refine no_implicit_lambda% (is_aops ?_)); refine no_implicit_lambda% (o_split rfl rfl rfl (fun hc => ?_) (fun hc => ?_)) <;> first | (exfalso; (simp only [decide_eq_true_eq, decide_eq_false_iff_not, beq_iff_eq, beq_eq_false_iff_ne, bne_iff_ne, bne_eq_false_iff_eq, List.length_map, Int.not_lt, Int.not_le] at hc); omega) | rw [hc])) | (((with_reducible refine no_implicit_lambda% (is_cond ?_)); refine no_implicit_lambda% (c_cond rfl (fun hc => ?_) (fun hc => ?_)) <;> first | (exfalso; (simp only [decide_eq_true_eq, decide_eq_false_iff_not, beq_iff_eq, beq_eq_false_iff_ne, bne_iff_ne, bne_eq_false_iff_eq, List.length_map, Int.not_lt, Int.not_le] at hc); omega) | skip)) | (((with_reducible refine no_implicit_lambda% (is_aop ?_)); refine no_implicit_lambda% (a_pick rfl rfl (fun hc => ?_) (fun hc => ?_)) <;> first | (exfalso; (simp only [decide_eq_true_eq, decide_eq_false_iff_not, beq_iff_eq, beq_eq_false_iff_ne, bne_iff_ne, bne_eq_false_iff_eq, List.length_map, Int.not_lt, Int.not_le] at hc); omega) | rw [hc])) | ((with_reducible refine no_implicit_lambda% (ret1 ?_)); first | (refine no_implicit_lambda% (akc ?_)) | (refine no_implicit_lambda% (aec ?_))) | (with_reducible exact retN) | (with_reducible exact retP) | (refine no_implicit_lambda% (cal [0, 6, 2, 3, 4] (hsm) ?_ ?_)) | fail)
      exact e_ret (H' := acP 0 6 2 3 (A.prom x.b) cp' (ops'.map encO) ++ mP 4 (A.prom x.b)) (rest := _) rfl ⟨cp', ops', hI', rfl, .inr (.inl rfl)⟩ permT (Nat.le_of_ble_eq_true rfl)
    · cases h'
      first | (refine no_implicit_lambda% (akc ?_)) | (refine no_implicit_lambda% (aec ?_))
      have hsm := same_cc (A.prom x.b) cp' (ops'.map encO) hI'.ok
      repeat' (first | (refine no_implicit_lambda% (awd1 ?_)) | (((with_reducible refine no_implicit_lambda% (is_aops ?_)); refine no_implicit_lambda% (o_split rfl rfl rfl (fun hc => ?_) (fun hc => ?_)) <;> first | (exfalso; (simp only [decide_eq_true_eq, decide_eq_false_iff_not, beq_iff_eq, beq_eq_false_iff_ne, bne_iff_ne, bne_eq_false_iff_eq, List.length_map, Int.not_lt, Int.not_le] at hc); omega) | rw [hc])) | (((with_reducible refine no_implicit_lambda% (is_cond ?_)); refine no_implicit_lambda% (c_cond rfl (fun hc => ?_) (fun hc => ?_)) <;> first | (exfalso; (simp only [decide_eq_true_eq, decide_eq_false_iff_not, beq_iff_eq, beq_eq_false_iff_ne, bne_iff_ne, bne_eq_false_iff_eq, List.length_map, Int.not_lt, Int.not_le] at hc); omega) | skip)) | (((with_reducible refine no_implicit_lambda% (is_aop ?_)); refine no_implicit_lambda% (a_pick rfl rfl (fun hc => ?_) (fun hc => ?_)) <;> first | (exfalso; (simp only [decide_eq_true_eq, decide_eq_false_iff_not, beq_iff_eq, beq_eq_false_iff_ne, bne_iff_ne, bne_eq_false_iff_eq, List.length_map, Int.not_lt, Int.not_le] at hc); omega) | rw [hc])) | ((with_reducible refine no_implicit_lambda% (ret1 ?_)); first | (refine no_implicit_lambda% (akc ?_)) | (refine no_implicit_lambda% (aec ?_))) | (with_reducible exact retN) | (with_reducible exact retP) | (refine no_implicit_lambda% (cal [4] (rp) ?_ ?_)) | fail)
      all_goals first | (exfalso; simp at hc; done) | skip
      repeat' (first | (refine no_implicit_lambda% (awd1 ?_)) | (((with_reducible refine no_implicit_lambda% (is_aops ?_)); refine no_implicit_lambda% (o_split rfl rfl rfl (fun hc => ?_) (fun hc => ?_)) <;> first | (exfalso; (simp only [decide_eq_true_eq, decide_eq_false_iff_not, beq_iff_eq, beq_eq_false_iff_ne, bne_iff_ne, bne_eq_false_iff_eq, List.length_map, Int.not_lt, Int.not_le] at hc); omega) | rw [hc])) | (((with_reducible refine no_implicit_lambda% (is_cond ?_)); refine no_implicit_lambda% (c_cond rfl (fun hc => ?_) (fun hc => ?_)) <;> first | (exfalso; (simp only [decide_eq_true_eq, decide_eq_false_iff_not, beq_iff_eq, beq_eq_false_iff_ne, bne_iff_ne, bne_eq_false_iff_eq, List.length_map, Int.not_lt, Int.not_le] at hc); omega) | skip)) | (((with_reducible refine no_implicit_lambda% (is_aop ?_)); refine no_implicit_lambda% (a_pick rfl rfl (fun hc => ?_) (fun hc => ?_)) <;> first | (exfalso; (simp only [decide_eq_true_eq, decide_eq_false_iff_not, beq_iff_eq, beq_eq_false_iff_ne, bne_iff_ne, bne_eq_false_iff_eq, List.length_map, Int.not_lt, Int.not_le] at hc); omega) | rw [hc])) | ((with_reducible refine no_implicit_lambda% (ret1 ?_)); first | (refine no_implicit_lambda% (akc ?_)) | (refine no_implicit_lambda% (aec ?_))) | (with_reducible exact retN) | (with_reducible exact retP) | (refine no_implicit_lambda% (cal [0, 1, 2, 6, 4] (hsm) ?_ ?_)) | fail)
      exact e_ret (H' := acP 0 1 2 6 (A.prom x.b) cp' (ops'.map encO) ++ mP 4 (A.prom x.b)) (rest := _) rfl ⟨cp', ops', hI', rfl, .inr (.inr rfl)⟩ permT (Nat.le_of_ble_eq_true rfl)
  · intro xx H' hh
    obtain ⟨_, _, _, h', _⟩ := hh
    cases h'
  · have e1 : A.step x = A.vote ⟨x.s, x.b, x.t.take 20⟩ := by
      unfold Ac.step
      simp only [beq_iff_eq, beq_eq_false_iff_ne] at *
      rw [if_neg (by omega), if_pos (by omega)]
    rw [e1]
    intro xx H' hh
    obtain ⟨cp', ops', hI', h', rfl | rfl | rfl⟩ := hh
    · cases h'
      first | (refine no_implicit_lambda% (akc ?_)) | (refine no_implicit_lambda% (aec ?_))
      have hsm := same_cc (A.vote ⟨x.s, x.b, x.t.take 20⟩) cp' (ops'.map encO) hI'.ok
      repeat' (first | (refine no_implicit_lambda% (awd1 ?_)) | (((with_reducible refine no_implicit_lambda% (is_aops ?_)); refine no_implicit_lambda% (o_split rfl rfl rfl (fun hc => ?_) (fun hc => ?_)) <;> first | (exfalso; (simp only [decide_eq_true_eq, decide_eq_false_iff_not, beq_iff_eq, beq_eq_false_iff_ne, bne_iff_ne, bne_eq_false_iff_eq, List.length_map, Int.not_lt, Int.not_le] at hc); omega) | rw [hc])) | (((with_reducible refine no_implicit_lambda% (is_cond ?_)); refine no_implicit_lambda% (c_cond rfl (fun hc => ?_) (fun hc => ?_)) <;> first | (exfalso; (simp only [decide_eq_true_eq, decide_eq_false_iff_not, beq_iff_eq, beq_eq_false_iff_ne, bne_iff_ne, bne_eq_false_iff_eq, List.length_map, Int.not_lt, Int.not_le] at hc); omega) | skip)) | (((with_reducible refine no_implicit_lambda% (is_aop ?_)); refine no_implicit_lambda% (a_pick rfl rfl (fun hc => ?_) (fun hc => ?_)) <;> first | (exfalso; (simp only [decide_eq_true_eq, decide_eq_false_iff_not, beq_iff_eq, beq_eq_false_iff_ne, bne_iff_ne, bne_eq_false_iff_eq, List.length_map, Int.not_lt, Int.not_le] at hc); omega) | rw [hc])) | ((with_reducible refine no_implicit_lambda% (ret1 ?_)); first | (refine no_implicit_lambda% (akc ?_)) | (refine no_implicit_lambda% (aec ?_))) | (with_reducible exact retN) | (with_reducible exact retP) | (refine no_implicit_lambda% (cal [4] (rv) ?_ ?_)) | fail)
      all_goals first | (exfalso; simp at hc; done) | skip
      repeat' (first | (refine no_implicit_lambda% (awd1 ?_)) | (((with_reducible refine no_implicit_lambda% (is_aops ?_)); refine no_implicit_lambda% (o_split rfl rfl rfl (fun hc => ?_) (fun hc => ?_)) <;> first | (exfalso; (simp only [decide_eq_true_eq, decide_eq_false_iff_not, beq_iff_eq, beq_eq_false_iff_ne, bne_iff_ne, bne_eq_false_iff_eq, List.length_map, Int.not_lt, Int.not_le] at hc); omega) | rw [hc])) | (((with_reducible refine no_implicit_lambda% (is_cond ?_)); refine no_implicit_lambda% (c_cond rfl (fun hc => ?_) (fun hc => ?_)) <;> first | (exfalso; (simp only [decide_eq_true_eq, decide_eq_false_iff_not, beq_iff_eq, beq_eq_false_iff_ne, bne_iff_ne, bne_eq_false_iff_eq, List.length_map, Int.not_lt, Int.not_le] at hc); omega) | skip)) | (((with_reducible refine no_implicit_lambda% (is_aop ?_)); refine no_implicit_lambda% (a_pick rfl rfl (fun hc => ?_) (fun hc => ?_)) <;> first | (exfalso; (simp only [decide_eq_true_eq, decide_eq_false_iff_not, beq_iff_eq, beq_eq_false_iff_ne, bne_iff_ne, bne_eq_false_iff_eq, List.length_map, Int.not_lt, Int.not_le] at hc); omega) | rw [hc])) | ((with_reducible refine no_implicit_lambda% (ret1 ?_)); first | (refine no_implicit_lambda% (akc ?_)) | (refine no_implicit_lambda% (aec ?_))) | (with_reducible exact retN) | (with_reducible exact retP) | (refine no_implicit_lambda% (cal [0, 1, 2, 3, 4] (hsm) ?_ ?_)) | fail)
      exact e_ret (H' := acP 0 1 2 3 (A.vote ⟨x.s, x.b, x.t.take 20⟩) cp' (ops'.map encO) ++ mP 4 (A.vote ⟨x.s, x.b, x.t.take 20⟩)) (rest := _) rfl ⟨cp', ops', hI', rfl, .inl rfl⟩ permT (Nat.le_of_ble_eq_true rfl)
    · cases h'
      first | (refine no_implicit_lambda% (akc ?_)) | (refine no_implicit_lambda% (aec ?_))
      have hsm := same_cc (A.vote ⟨x.s, x.b, x.t.take 20⟩) cp' (ops'.map encO) hI'.ok
      repeat' (first | (refine no_implicit_lambda% (awd1 ?_)) | (((with_reducible refine no_implicit_lambda% (is_aops ?_)); refine no_implicit_lambda% (o_split rfl rfl rfl (fun hc => ?_) (fun hc => ?_)) <;> first | (exfalso; (simp only [decide_eq_true_eq, decide_eq_false_iff_not, beq_iff_eq, beq_eq_false_iff_ne, bne_iff_ne, bne_eq_false_iff_eq, List.length_map, Int.not_lt, Int.not_le] at hc); omega) | rw [hc])) | (((with_reducible refine no_implicit_lambda% (is_cond ?_)); refine no_implicit_lambda% (c_cond rfl (fun hc => ?_) (fun hc => ?_)) <;> first | (exfalso; (simp only [decide_eq_true_eq, decide_eq_false_iff_not, beq_iff_eq, beq_eq_false_iff_ne, bne_iff_ne, bne_eq_false_iff_eq, List.length_map, Int.not_lt, Int.not_le] at hc); omega) | skip)) | (((with_reducible refine no_implicit_lambda% (is_aop ?_)); refine no_implicit_lambda% (a_pick rfl rfl (fun hc => ?_) (fun hc => ?_)) <;> first | (exfalso; (simp only [decide_eq_true_eq, decide_eq_false_iff_not, beq_iff_eq, beq_eq_false_iff_ne, bne_iff_ne, bne_eq_false_iff_eq, List.length_map, Int.not_lt, Int.not_le] at hc); omega) | rw [hc])) | ((with_reducible refine no_implicit_lambda% (ret1 ?_)); first | (refine no_implicit_lambda% (akc ?_)) | (refine no_implicit_lambda% (aec ?_))) | (with_reducible exact retN) | (with_reducible exact retP) | (refine no_implicit_lambda% (cal [4] (rv) ?_ ?_)) | fail)
      all_goals first | (exfalso; simp at hc; done) | skip
      repeat' (first | (refine no_implicit_lambda% (awd1 ?_)) | (((with_reducible refine no_implicit_lambda% (is_aops ?_)); refine no_implicit_lambda% (o_split rfl rfl rfl (fun hc => ?_) (fun hc => ?_)) <;> first | (exfalso; (simp only [decide_eq_true_eq, decide_eq_false_iff_not, beq_iff_eq, beq_eq_false_iff_ne, bne_iff_ne, bne_eq_false_iff_eq, List.length_map, Int.not_lt, Int.not_le] at hc); omega) | rw [hc])) | (((with_reducible refine no_implicit_lambda% (is_cond ?_)); refine no_implicit_lambda% (c_cond rfl (fun hc => ?_) (fun hc => ?_)) <;> first | (exfalso; (simp only [decide_eq_true_eq, decide_eq_false_iff_not, beq_iff_eq, beq_eq_false_iff_ne, bne_iff_ne, bne_eq_false_iff_eq, List.length_map, Int.not_lt, Int.not_le] at hc); omega) | skip)) | (((with_reducible refine no_implicit_lambda% (is_aop ?_)); refine no_implicit_lambda% (a_pick rfl rfl (fun hc => ?_) (fun hc => ?_)) <;> first | (exfalso; (simp only [decide_eq_true_eq, decide_eq_false_iff_not, beq_iff_eq, beq_eq_false_iff_ne, bne_iff_ne, bne_eq_false_iff_eq, List.length_map, Int.not_lt, Int.not_le] at hc); omega) | rw [hc])) | ((with_reducible refine no_implicit_lambda% (ret1 ?_)); first | (refine no_implicit_lambda% (akc ?_)) | (refine no_implicit_lambda% (aec ?_))) | (with_reducible exact retN) | (with_reducible exact retP) | (refine no_implicit_lambda% (cal [0, 6, 2, 3, 4] (hsm) ?_ ?_)) | fail)
      exact e_ret (H' := acP 0 6 2 3 (A.vote ⟨x.s, x.b, x.t.take 20⟩) cp' (ops'.map encO) ++ mP 4 (A.vote ⟨x.s, x.b, x.t.take 20⟩)) (rest := _) rfl ⟨cp', ops', hI', rfl, .inr (.inl rfl)⟩ permT (Nat.le_of_ble_eq_true rfl)
    · cases h'
      first | (refine no_implicit_lambda% (akc ?_)) | (refine no_implicit_lambda% (aec ?_))
      have hsm := same_cc (A.vote ⟨x.s, x.b, x.t.take 20⟩) cp' (ops'.map encO) hI'.ok
      repeat' (first | (refine no_implicit_lambda% (awd1 ?_)) | (((with_reducible refine no_implicit_lambda% (is_aops ?_)); refine no_implicit_lambda% (o_split rfl rfl rfl (fun hc => ?_) (fun hc => ?_)) <;> first | (exfalso; (simp only [decide_eq_true_eq, decide_eq_false_iff_not, beq_iff_eq, beq_eq_false_iff_ne, bne_iff_ne, bne_eq_false_iff_eq, List.length_map, Int.not_lt, Int.not_le] at hc); omega) | rw [hc])) | (((with_reducible refine no_implicit_lambda% (is_cond ?_)); refine no_implicit_lambda% (c_cond rfl (fun hc => ?_) (fun hc => ?_)) <;> first | (exfalso; (simp only [decide_eq_true_eq, decide_eq_false_iff_not, beq_iff_eq, beq_eq_false_iff_ne, bne_iff_ne, bne_eq_false_iff_eq, List.length_map, Int.not_lt, Int.not_le] at hc); omega) | skip)) | (((with_reducible refine no_implicit_lambda% (is_aop ?_)); refine no_implicit_lambda% (a_pick rfl rfl (fun hc => ?_) (fun hc => ?_)) <;> first | (exfalso; (simp only [decide_eq_true_eq, decide_eq_false_iff_not, beq_iff_eq, beq_eq_false_iff_ne, bne_iff_ne, bne_eq_false_iff_eq, List.length_map, Int.not_lt, Int.not_le] at hc); omega) | rw [hc])) | ((with_reducible refine no_implicit_lambda% (ret1 ?_)); first | (refine no_implicit_lambda% (akc ?_)) | (refine no_implicit_lambda% (aec ?_))) | (with_reducible exact retN) | (with_reducible exact retP) | (refine no_implicit_lambda% (cal [4] (rv) ?_ ?_)) | fail)
      all_goals first | (exfalso; simp at hc; done) | skip
      repeat' (first | (refine no_implicit_lambda% (awd1 ?_)) | (((with_reducible refine no_implicit_lambda% (is_aops ?_)); refine no_implicit_lambda% (o_split rfl rfl rfl (fun hc => ?_) (fun hc => ?_)) <;> first | (exfalso; (simp only [decide_eq_true_eq, decide_eq_false_iff_not, beq_iff_eq, beq_eq_false_iff_ne, bne_iff_ne, bne_eq_false_iff_eq, List.length_map, Int.not_lt, Int.not_le] at hc); omega) | rw [hc])) | (((with_reducible refine no_implicit_lambda% (is_cond ?_)); refine no_implicit_lambda% (c_cond rfl (fun hc => ?_) (fun hc => ?_)) <;> first | (exfalso; (simp only [decide_eq_true_eq, decide_eq_false_iff_not, beq_iff_eq, beq_eq_false_iff_ne, bne_iff_ne, bne_eq_false_iff_eq, List.length_map, Int.not_lt, Int.not_le] at hc); omega) | skip)) | (((with_reducible refine no_implicit_lambda% (is_aop ?_)); refine no_implicit_lambda% (a_pick rfl rfl (fun hc => ?_) (fun hc => ?_)) <;> first | (exfalso; (simp only [decide_eq_true_eq, decide_eq_false_iff_not, beq_iff_eq, beq_eq_false_iff_ne, bne_iff_ne, bne_eq_false_iff_eq, List.length_map, Int.not_lt, Int.not_le] at hc); omega) | rw [hc])) | ((with_reducible refine no_implicit_lambda% (ret1 ?_)); first | (refine no_implicit_lambda% (akc ?_)) | (refine no_implicit_lambda% (aec ?_))) | (with_reducible exact retN) | (with_reducible exact retP) | (refine no_implicit_lambda% (cal [0, 1, 2, 6, 4] (hsm) ?_ ?_)) | fail)
      exact e_ret (H' := acP 0 1 2 6 (A.vote ⟨x.s, x.b, x.t.take 20⟩) cp' (ops'.map encO) ++ mP 4 (A.vote ⟨x.s, x.b, x.t.take 20⟩)) (rest := _) rfl ⟨cp', ops', hI', rfl, .inr (.inr rfl)⟩ permT (Nat.le_of_ble_eq_true rfl)
  · intro xx H' hh
    obtain ⟨_, _, _, h', _⟩ := hh
    cases h'
  · have e1 : A.step x = A.snp x.s (x.t.take 20) := by
      unfold Ac.step
      simp only [beq_iff_eq, beq_eq_false_iff_ne] at *
      rw [if_neg (by omega), if_neg (by omega), if_pos (by omega)]
    rw [e1]
    intro xx H' hh
    obtain ⟨cp', ops', hI', h', rfl | rfl | rfl⟩ := hh
    · cases h'
      first | (refine no_implicit_lambda% (akc ?_)) | (refine no_implicit_lambda% (aec ?_))
      have hsm := same_cc (A.snp x.s (x.t.take 20)) cp' (ops'.map encO) hI'.ok
      repeat' (first | (refine no_implicit_lambda% (awd1 ?_)) | (((with_reducible refine no_implicit_lambda% (is_aops ?_)); refine no_implicit_lambda% (o_split rfl rfl rfl (fun hc => ?_) (fun hc => ?_)) <;> first | (exfalso; (simp only [decide_eq_true_eq, decide_eq_false_iff_not, beq_iff_eq, beq_eq_false_iff_ne, bne_iff_ne, bne_eq_false_iff_eq, List.length_map, Int.not_lt, Int.not_le] at hc); omega) | rw [hc])) | (((with_reducible refine no_implicit_lambda% (is_cond ?_)); refine no_implicit_lambda% (c_cond rfl (fun hc => ?_) (fun hc => ?_)) <;> first | (exfalso; (simp only [decide_eq_true_eq, decide_eq_false_iff_not, beq_iff_eq, beq_eq_false_iff_ne, bne_iff_ne, bne_eq_false_iff_eq, List.length_map, Int.not_lt, Int.not_le] at hc); omega) | skip)) | (((with_reducible refine no_implicit_lambda% (is_aop ?_)); refine no_implicit_lambda% (a_pick rfl rfl (fun hc => ?_) (fun hc => ?_)) <;> first | (exfalso; (simp only [decide_eq_true_eq, decide_eq_false_iff_not, beq_iff_eq, beq_eq_false_iff_ne, bne_iff_ne, bne_eq_false_iff_eq, List.length_map, Int.not_lt, Int.not_le] at hc); omega) | rw [hc])) | ((with_reducible refine no_implicit_lambda% (ret1 ?_)); first | (refine no_implicit_lambda% (akc ?_)) | (refine no_implicit_lambda% (aec ?_))) | (with_reducible exact retN) | (with_reducible exact retP) | (refine no_implicit_lambda% (cal [4] (rs) ?_ ?_)) | fail)
      all_goals first | (exfalso; simp at hc; done) | skip
      repeat' (first | (refine no_implicit_lambda% (awd1 ?_)) | (((with_reducible refine no_implicit_lambda% (is_aops ?_)); refine no_implicit_lambda% (o_split rfl rfl rfl (fun hc => ?_) (fun hc => ?_)) <;> first | (exfalso; (simp only [decide_eq_true_eq, decide_eq_false_iff_not, beq_iff_eq, beq_eq_false_iff_ne, bne_iff_ne, bne_eq_false_iff_eq, List.length_map, Int.not_lt, Int.not_le] at hc); omega) | rw [hc])) | (((with_reducible refine no_implicit_lambda% (is_cond ?_)); refine no_implicit_lambda% (c_cond rfl (fun hc => ?_) (fun hc => ?_)) <;> first | (exfalso; (simp only [decide_eq_true_eq, decide_eq_false_iff_not, beq_iff_eq, beq_eq_false_iff_ne, bne_iff_ne, bne_eq_false_iff_eq, List.length_map, Int.not_lt, Int.not_le] at hc); omega) | skip)) | (((with_reducible refine no_implicit_lambda% (is_aop ?_)); refine no_implicit_lambda% (a_pick rfl rfl (fun hc => ?_) (fun hc => ?_)) <;> first | (exfalso; (simp only [decide_eq_true_eq, decide_eq_false_iff_not, beq_iff_eq, beq_eq_false_iff_ne, bne_iff_ne, bne_eq_false_iff_eq, List.length_map, Int.not_lt, Int.not_le] at hc); omega) | rw [hc])) | ((with_reducible refine no_implicit_lambda% (ret1 ?_)); first | (refine no_implicit_lambda% (akc ?_)) | (refine no_implicit_lambda% (aec ?_))) | (with_reducible exact retN) | (with_reducible exact retP) | (refine no_implicit_lambda% (cal [0, 1, 2, 3, 4] (hsm) ?_ ?_)) | fail)
      exact e_ret (H' := acP 0 1 2 3 (A.snp x.s (x.t.take 20)) cp' (ops'.map encO) ++ mP 4 (A.snp x.s (x.t.take 20))) (rest := _) rfl ⟨cp', ops', hI', rfl, .inl rfl⟩ permT (Nat.le_of_ble_eq_true rfl)
    · cases h'
      first | (refine no_implicit_lambda% (akc ?_)) | (refine no_implicit_lambda% (aec ?_))
      have hsm := same_cc (A.snp x.s (x.t.take 20)) cp' (ops'.map encO) hI'.ok
      repeat' (first | (refine no_implicit_lambda% (awd1 ?_)) | (((with_reducible refine no_implicit_lambda% (is_aops ?_)); refine no_implicit_lambda% (o_split rfl rfl rfl (fun hc => ?_) (fun hc => ?_)) <;> first | (exfalso; (simp only [decide_eq_true_eq, decide_eq_false_iff_not, beq_iff_eq, beq_eq_false_iff_ne, bne_iff_ne, bne_eq_false_iff_eq, List.length_map, Int.not_lt, Int.not_le] at hc); omega) | rw [hc])) | (((with_reducible refine no_implicit_lambda% (is_cond ?_)); refine no_implicit_lambda% (c_cond rfl (fun hc => ?_) (fun hc => ?_)) <;> first | (exfalso; (simp only [decide_eq_true_eq, decide_eq_false_iff_not, beq_iff_eq, beq_eq_false_iff_ne, bne_iff_ne, bne_eq_false_iff_eq, List.length_map, Int.not_lt, Int.not_le] at hc); omega) | skip)) | (((with_reducible refine no_implicit_lambda% (is_aop ?_)); refine no_implicit_lambda% (a_pick rfl rfl (fun hc => ?_) (fun hc => ?_)) <;> first | (exfalso; (simp only [decide_eq_true_eq, decide_eq_false_iff_not, beq_iff_eq, beq_eq_false_iff_ne, bne_iff_ne, bne_eq_false_iff_eq, List.length_map, Int.not_lt, Int.not_le] at hc); omega) | rw [hc])) | ((with_reducible refine no_implicit_lambda% (ret1 ?_)); first | (refine no_implicit_lambda% (akc ?_)) | (refine no_implicit_lambda% (aec ?_))) | (with_reducible exact retN) | (with_reducible exact retP) | (refine no_implicit_lambda% (cal [4] (rs) ?_ ?_)) | fail)
      all_goals first | (exfalso; simp at hc; done) | skip
      repeat' (first | (refine no_implicit_lambda% (awd1 ?_)) | (((with_reducible refine no_implicit_lambda% (is_aops ?_)); refine no_implicit_lambda% (o_split rfl rfl rfl (fun hc => ?_) (fun hc => ?_)) <;> first | (exfalso; (simp only [decide_eq_true_eq, decide_eq_false_iff_not, beq_iff_eq, beq_eq_false_iff_ne, bne_iff_ne, bne_eq_false_iff_eq, List.length_map, Int.not_lt, Int.not_le] at hc); omega) | rw [hc])) | (((with_reducible refine no_implicit_lambda% (is_cond ?_)); refine no_implicit_lambda% (c_cond rfl (fun hc => ?_) (fun hc => ?_)) <;> first | (exfalso; (simp only [decide_eq_true_eq, decide_eq_false_iff_not, beq_iff_eq, beq_eq_false_iff_ne, bne_iff_ne, bne_eq_false_iff_eq, List.length_map, Int.not_lt, Int.not_le] at hc); omega) | skip)) | (((with_reducible refine no_implicit_lambda% (is_aop ?_)); refine no_implicit_lambda% (a_pick rfl rfl (fun hc => ?_) (fun hc => ?_)) <;> first | (exfalso; (simp only [decide_eq_true_eq, decide_eq_false_iff_not, beq_iff_eq, beq_eq_false_iff_ne, bne_iff_ne, bne_eq_false_iff_eq, List.length_map, Int.not_lt, Int.not_le] at hc); omega) | rw [hc])) | ((with_reducible refine no_implicit_lambda% (ret1 ?_)); first | (refine no_implicit_lambda% (akc ?_)) | (refine no_implicit_lambda% (aec ?_))) | (with_reducible exact retN) | (with_reducible exact retP) | (refine no_implicit_lambda% (cal [0, 6, 2, 3, 4] (hsm) ?_ ?_)) | fail)
      exact e_ret (H' := acP 0 6 2 3 (A.snp x.s (x.t.take 20)) cp' (ops'.map encO) ++ mP 4 (A.snp x.s (x.t.take 20))) (rest := _) rfl ⟨cp', ops', hI', rfl, .inr (.inl rfl)⟩ permT (Nat.le_of_ble_eq_true rfl)
    · cases h'
      first | (refine no_implicit_lambda% (akc ?_)) | (refine no_implicit_lambda% (aec ?_))
      have hsm := same_cc (A.snp x.s (x.t.take 20)) cp' (ops'.map encO) hI'.ok
      repeat' (first | (refine no_implicit_lambda% (awd1 ?_)) | (((with_reducible refine no_implicit_lambda% (is_aops ?_)); refine no_implicit_lambda% (o_split rfl rfl rfl (fun hc => ?_) (fun hc => ?_)) <;> first | (exfalso; (simp only [decide_eq_true_eq, decide_eq_false_iff_not, beq_iff_eq, beq_eq_false_iff_ne, bne_iff_ne, bne_eq_false_iff_eq, List.length_map, Int.not_lt, Int.not_le] at hc); omega) | rw [hc])) | (((with_reducible refine no_implicit_lambda% (is_cond ?_)); refine no_implicit_lambda% (c_cond rfl (fun hc => ?_) (fun hc => ?_)) <;> first | (exfalso; (simp only [decide_eq_true_eq, decide_eq_false_iff_not, beq_iff_eq, beq_eq_false_iff_ne, bne_iff_ne, bne_eq_false_iff_eq, List.length_map, Int.not_lt, Int.not_le] at hc); omega) | skip)) | (((with_reducible refine no_implicit_lambda% (is_aop ?_)); refine no_implicit_lambda% (a_pick rfl rfl (fun hc => ?_) (fun hc => ?_)) <;> first | (exfalso; (simp only [decide_eq_true_eq, decide_eq_false_iff_not, beq_iff_eq, beq_eq_false_iff_ne, bne_iff_ne, bne_eq_false_iff_eq, List.length_map, Int.not_lt, Int.not_le] at hc); omega) | rw [hc])) | ((with_reducible refine no_implicit_lambda% (ret1 ?_)); first | (refine no_implicit_lambda% (akc ?_)) | (refine no_implicit_lambda% (aec ?_))) | (with_reducible exact retN) | (with_reducible exact retP) | (refine no_implicit_lambda% (cal [4] (rs) ?_ ?_)) | fail)
      all_goals first | (exfalso; simp at hc; done) | skip
      repeat' (first | (refine no_implicit_lambda% (awd1 ?_)) | (((with_reducible refine no_implicit_lambda% (is_aops ?_)); refine no_implicit_lambda% (o_split rfl rfl rfl (fun hc => ?_) (fun hc => ?_)) <;> first | (exfalso; (simp only [decide_eq_true_eq, decide_eq_false_iff_not, beq_iff_eq, beq_eq_false_iff_ne, bne_iff_ne, bne_eq_false_iff_eq, List.length_map, Int.not_lt, Int.not_le] at hc); omega) | rw [hc])) | (((with_reducible refine no_implicit_lambda% (is_cond ?_)); refine no_implicit_lambda% (c_cond rfl (fun hc => ?_) (fun hc => ?_)) <;> first | (exfalso; (simp only [decide_eq_true_eq, decide_eq_false_iff_not, beq_iff_eq, beq_eq_false_iff_ne, bne_iff_ne, bne_eq_false_iff_eq, List.length_map, Int.not_lt, Int.not_le] at hc); omega) | skip)) | (((with_reducible refine no_implicit_lambda% (is_aop ?_)); refine no_implicit_lambda% (a_pick rfl rfl (fun hc => ?_) (fun hc => ?_)) <;> first | (exfalso; (simp only [decide_eq_true_eq, decide_eq_false_iff_not, beq_iff_eq, beq_eq_false_iff_ne, bne_iff_ne, bne_eq_false_iff_eq, List.length_map, Int.not_lt, Int.not_le] at hc); omega) | rw [hc])) | ((with_reducible refine no_implicit_lambda% (ret1 ?_)); first | (refine no_implicit_lambda% (akc ?_)) | (refine no_implicit_lambda% (aec ?_))) | (with_reducible exact retN) | (with_reducible exact retP) | (refine no_implicit_lambda% (cal [0, 1, 2, 6, 4] (hsm) ?_ ?_)) | fail)
      exact e_ret (H' := acP 0 1 2 6 (A.snp x.s (x.t.take 20)) cp' (ops'.map encO) ++ mP 4 (A.snp x.s (x.t.take 20))) (rest := _) rfl ⟨cp', ops', hI', rfl, .inr (.inr rfl)⟩ permT (Nat.le_of_ble_eq_true rfl)
  · intro xx H' hh
    obtain ⟨_, _, _, h', _⟩ := hh
    cases h'
  · have e1 : A.step x = A := by
      unfold Ac.step
      simp only [beq_iff_eq, beq_eq_false_iff_ne] at *
      rw [if_neg (by omega), if_neg (by omega), if_neg (by omega)]
    rw [e1]
    have hsm := same_cc A cp (ops.map encO) hI.ok
    repeat' (first | (refine no_implicit_lambda% (awd1 ?_)) | (((with_reducible refine no_implicit_lambda% (is_aops ?_)); refine no_implicit_lambda% (o_split rfl rfl rfl (fun hc => ?_) (fun hc => ?_)) <;> first | (exfalso; (simp only [decide_eq_true_eq, decide_eq_false_iff_not, beq_iff_eq, beq_eq_false_iff_ne, bne_iff_ne, bne_eq_false_iff_eq, List.length_map, Int.not_lt, Int.not_le] at hc); omega) | rw [hc])) | (((with_reducible refine no_implicit_lambda% (is_cond ?_)); refine no_implicit_lambda% (c_cond rfl (fun hc => ?_) (fun hc => ?_)) <;> first | (exfalso; (simp only [decide_eq_true_eq, decide_eq_false_iff_not, beq_iff_eq, beq_eq_false_iff_ne, bne_iff_ne, bne_eq_false_iff_eq, List.length_map, Int.not_lt, Int.not_le] at hc); omega) | skip)) | (((with_reducible refine no_implicit_lambda% (is_aop ?_)); refine no_implicit_lambda% (a_pick rfl rfl (fun hc => ?_) (fun hc => ?_)) <;> first | (exfalso; (simp only [decide_eq_true_eq, decide_eq_false_iff_not, beq_iff_eq, beq_eq_false_iff_ne, bne_iff_ne, bne_eq_false_iff_eq, List.length_map, Int.not_lt, Int.not_le] at hc); omega) | rw [hc])) | ((with_reducible refine no_implicit_lambda% (ret1 ?_)); first | (refine no_implicit_lambda% (akc ?_)) | (refine no_implicit_lambda% (aec ?_))) | (with_reducible exact retN) | (with_reducible exact retP) | (refine no_implicit_lambda% (cal [0, 1, 2, 3, 4] (hsm) ?_ ?_)) | fail)
    exact e_ret (H' := acP 0 1 2 3 A cp (ops.map encO) ++ mP 4 A) (rest := _) rfl ⟨cp, ops, hI.mono (by omega), rfl, .inl rfl⟩ permT (Nat.le_of_ble_eq_true rfl)
end Go.Proofs.Ytabhfccfohpkaaa
