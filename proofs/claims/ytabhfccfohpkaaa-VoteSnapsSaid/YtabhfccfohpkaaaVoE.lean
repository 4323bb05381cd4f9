/- vote: put, in, take. -/
import Derived.Test.YtabhfccfohpkaaaVoD
import Derived.Test.YtabhfccfohpkaaaOcR
namespace Go.Proofs.Ytabhfccfohpkaaa
open Go.Am
set_option linter.unusedSimpArgs false
set_option linter.unusedVariables false
set_option maxRecDepth 100000
/-- the reader, at what was written -/
theorem rBe_c (k : Nat) (r : List UInt8) (hk : k < 256) (hr : r.length < 1000000000000) : ACalls Try.prog 103 1 2 [.ptr 0 0] (rd ([UInt8.ofNat k] ++ r)) (fun out H' => out = .ret (.v (.int .u8 (k : Int))) ∧ H' = rd r) :=
  (rB_c _ (by simp; omega)).mono fun o H' hh => by
    rw [pB_enc hk] at hh
    rcases hh with ⟨x, r', e, _, h1, h2⟩ | ⟨e, _⟩
    · cases e; exact ⟨h1, h2⟩
    · cases e
theorem rNe_c (k : Nat) (r : List UInt8) (hk : k < 4294967296) (hr : r.length < 1000000000000) : ACalls Try.prog 104 1 2 [.ptr 0 0] (rd (be k 4 ++ r)) (fun out H' => out = .ret (.v (.int .u32 (k : Int))) ∧ H' = rd r) :=
  (rN_c _ (by simp [be_len]; omega)).mono fun o H' hh => by
    rw [pN_enc hk] at hh
    rcases hh with ⟨x, r', e, _, h1, h2⟩ | ⟨e, _⟩
    · cases e; exact ⟨h1, h2⟩
    · cases e
theorem rTe_c (b r : List UInt8) (hk : b.length ≤ 1048576) (hr : r.length < 1000000000000) : ACalls Try.prog 106 1 3 [.ptr 0 0, .v (.int .i64 1048576)] (rd (be b.length 4 ++ b ++ r)) (fun out H' => out = .ret (.list (b.map brow) .free) ∧ H' = rd r) :=
  (rT_c _ (by simp [be_len]; omega)).mono fun o H' hh => by
    rw [pT_enc hk] at hh
    rcases hh with ⟨x, r', e, _, h1, h2⟩ | ⟨e, _⟩
    · cases e; exact ⟨h1, h2⟩
    · cases e
/-- an acceptor -/
structure Ac where
  p : Int
  l : List Td
  base : Int
  st : List UInt8
/-- its objects: itself, its votes, its disk -/
def acP (a v d t : Nat) (A : Ac) (cp : Nat) (recs : List (List UInt8)) : Heap :=
  [(a, .box [.ptr d 0, .v (.int .i64 A.p), .arr v 0 A.l.length cp, .v (.int .i64 A.base), .list (A.st.map brow) .free]), (v, .seq (A.l.map trow) ((cp - A.l.length) * 3))] ++ dkP d t recs
structure AcOk (A : Ac) : Prop where
  sorted : (tkeys A.l).Pairwise (· < ·)
  votes : ∀ t ∈ A.l, A.base ≤ t.c ∧ t.c < A.base + 8 ∧ 0 ≤ t.s ∧ t.s ≤ A.p ∧ t.b.length ≤ 1048576
  p : -1 ≤ A.p ∧ A.p ≤ 1073741824
  base : 0 ≤ A.base ∧ A.base ≤ 1073741824
  st : A.st.length ≤ 1048576
/-- may the vote be there? -/
def inB (A : Ac) (t : Td) : Bool := decide (0 ≤ t.s ∧ t.s ≤ 1073741824 ∧ A.base ≤ t.c ∧ t.c < A.base + 8 ∧ t.b.length ≤ 1048576)
set_option maxHeartbeats 3200000 in
theorem in_c (A : Ac) (cp : Nat) (recs : List (List UInt8)) (t : Td) (hb : 0 ≤ A.base ∧ A.base ≤ 1073741824) : ACalls Try.prog 66 4 40 [.ptr 0 0, .agg (trow t)] (acP 0 1 2 3 A cp recs) (fun out H' => out = .ret (.v (.bool (inB A t))) ∧ H' = acP 0 1 2 3 A cp recs) := by
  have hw : IntKind.i64.wrap (A.base + 8) = A.base + 8 := z64 (by omega) (by omega)
  refine no_implicit_lambda% (acalls_of tok dok (f := 66) ⟨Try.func66, rfl, by kernel_rfl⟩ ?_); refine no_implicit_lambda% (c_start (fun _ h => h) ?_)
  repeat' (first | (refine no_implicit_lambda% (awd1 ?_)) | (((with_reducible refine no_implicit_lambda% (is_aops ?_)); refine no_implicit_lambda% (o_split rfl rfl rfl (fun hc => ?_) (fun hc => ?_)) <;> first | (exfalso; (simp only [decide_eq_true_eq, decide_eq_false_iff_not, beq_iff_eq, beq_eq_false_iff_ne, bne_iff_ne, bne_eq_false_iff_eq, List.length_map, Int.not_lt, Int.not_le] at hc); omega) | rw [hc])) | (((with_reducible refine no_implicit_lambda% (is_cond ?_)); refine no_implicit_lambda% (c_cond rfl (fun hc => ?_) (fun hc => ?_)) <;> first | (exfalso; (simp only [decide_eq_true_eq, decide_eq_false_iff_not, beq_iff_eq, beq_eq_false_iff_ne, bne_iff_ne, bne_eq_false_iff_eq, List.length_map, Int.not_lt, Int.not_le] at hc); omega) | skip)) | (((with_reducible refine no_implicit_lambda% (is_aop ?_)); refine no_implicit_lambda% (a_pick rfl rfl (fun hc => ?_) (fun hc => ?_)) <;> first | (exfalso; (simp only [decide_eq_true_eq, decide_eq_false_iff_not, beq_iff_eq, beq_eq_false_iff_ne, bne_iff_ne, bne_eq_false_iff_eq, List.length_map, Int.not_lt, Int.not_le] at hc); omega) | rw [hc])) | (((with_reducible refine no_implicit_lambda% (is_ev ?_)); refine no_implicit_lambda% (v_split rfl rfl rfl rfl (fun hc => ?_) (fun hc => ?_)) <;> first | (exfalso; (simp only [decide_eq_true_eq, decide_eq_false_iff_not, beq_iff_eq, beq_eq_false_iff_ne, bne_iff_ne, bne_eq_false_iff_eq, List.length_map, Int.not_lt, Int.not_le] at hc); omega) | rw [hc])) | ((with_reducible refine no_implicit_lambda% (ret1 ?_)); first | (refine no_implicit_lambda% (akc ?_)) | (refine no_implicit_lambda% (aec ?_))) | (with_reducible exact retN) | (with_reducible exact retP) | fail | fail)
  all_goals (refine e_ret (H' := acP 0 1 2 3 A cp recs) (rest := _) rfl ⟨congrArg (fun z => AOut.ret (.v (.bool z))) ?_, rfl⟩ permT (Nat.le_of_ble_eq_true rfl); simp only [hw, decide_eq_true_eq, decide_eq_false_iff_not, List.length_map] at *; unfold inB)
  all_goals first
    | (refine decide_eq_decide.2 ⟨fun h => ?_, fun h => ?_⟩ <;> omega)
    | (symm; rw [decide_eq_false_iff_not]; omega)
end Go.Proofs.Ytabhfccfohpkaaa
