/- Within, by contract. -/
import Derived.Test.YtabhfccfohpkaaaOcA
import Derived.Test.YtabhfccfohpkaaaAmTc
namespace Go.Proofs.Ytabhfccfohpkaaa
open Go.Am
set_option linter.unusedSimpArgs false
set_option linter.unusedVariables false
set_option maxRecDepth 100000
/-- a number brought within bounds -/
def wthn (n lo hi : Int) : Int := if lo ≤ n ∧ n ≤ hi then n else lo + (if n.tmod (hi - lo + 1) < 0 then n.tmod (hi - lo + 1) + (hi - lo + 1) else n.tmod (hi - lo + 1))
theorem wthn_bd (n lo hi : Int) (h : lo ≤ hi) : lo ≤ wthn n lo hi ∧ wthn n lo hi ≤ hi := by
  unfold wthn
  split
  · omega
  · have h1 := Int.tmod_lt_of_pos n (b := hi - lo + 1) (by omega)
    have h2 := Int.lt_tmod_of_pos n (b := hi - lo + 1) (by omega)
    split <;> omega
theorem wthn_c (n lo hi : Int) (hn1 : -9223372036854775808 ≤ n) (hn2 : n ≤ 9223372036854775807) (h0 : -4611686018427387904 ≤ lo) (h : lo ≤ hi) (h2 : hi ≤ 2147483648) (h3 : hi - lo ≤ 2147483648) : ACalls Try.prog 27 0 0 [.v (.int .i64 n), .v (.int .i64 lo), .v (.int .i64 hi)] [] (fun out H' => out = .ret (.v (.int .i64 (wthn n lo hi))) ∧ H' = []) := by
  have h4 := Int.tmod_lt_of_pos n (b := hi - lo + 1) (by omega)
  have h5 := Int.lt_tmod_of_pos n (b := hi - lo + 1) (by omega)
  refine no_implicit_lambda% (acalls_of tok dok (f := 27) ⟨Try.func27, rfl, by kernel_rfl⟩ ?_); refine no_implicit_lambda% (c_start (fun _ h => h) ?_)
  repeat' (first | (refine no_implicit_lambda% (awd1 ?_)) | (((with_reducible refine no_implicit_lambda% (is_aops ?_)); refine no_implicit_lambda% (o_split rfl rfl rfl (fun hc => ?_) (fun hc => ?_)) <;> rw [hc])) | (((with_reducible refine no_implicit_lambda% (is_cond ?_)); refine no_implicit_lambda% (c_cond rfl (fun hc => ?_) (fun hc => ?_)))) | (((with_reducible refine no_implicit_lambda% (is_aop ?_)); refine no_implicit_lambda% (a_pick rfl rfl (fun hc => ?_) (fun hc => ?_)) <;> rw [hc])) | fail)
  · exact e_ret (H' := []) rfl ⟨by simp at *; rw [wthn, if_pos (by omega)]; rfl, rfl⟩ (.refl _) (Nat.le_of_ble_eq_true rfl)
  all_goals
    rw [z64 (n := hi - lo) (by omega) (by omega), z64 (n := hi - lo + 1) (by omega) (by omega)]
    (with_reducible refine no_implicit_lambda% (is_aop ?_)); first | (refine no_implicit_lambda% (a_qS rfl (fun _ h => h) ?_ ?_)) | (refine no_implicit_lambda% (a_qS rfl (qIx (fun _ h => h)) ?_ ?_)) | (refine no_implicit_lambda% (a_qS rfl (qAnd5 (fun _ h => h)) ?_ ?_)) | (refine no_implicit_lambda% (a_qS rfl (qStr (fun _ h => h)) ?_ ?_)) | (refine no_implicit_lambda% (a_qS rfl (qAnd4 (fun _ h => h)) ?_ ?_)) | (refine no_implicit_lambda% (a_qS rfl (qAnd2 (fun _ h => h)) ?_ ?_))
    · omega
    generalize ht : n.tmod (hi - lo + 1) = t at *
    repeat' (first | (refine no_implicit_lambda% (awd1 ?_)) | (((with_reducible refine no_implicit_lambda% (is_aops ?_)); refine no_implicit_lambda% (o_split rfl rfl rfl (fun hc => ?_) (fun hc => ?_)) <;> rw [hc])) | (((with_reducible refine no_implicit_lambda% (is_cond ?_)); refine no_implicit_lambda% (c_cond rfl (fun hc => ?_) (fun hc => ?_)))) | (((with_reducible refine no_implicit_lambda% (is_aop ?_)); refine no_implicit_lambda% (a_pick rfl rfl (fun hc => ?_) (fun hc => ?_)) <;> rw [hc])) | fail)
  all_goals
    refine e_ret (H' := []) rfl ⟨congrArg (fun z => AOut.ret (.v (.int .i64 z))) ?_, rfl⟩ (.refl _) (Nat.le_of_ble_eq_true rfl)
    simp only [decide_eq_true_eq, decide_eq_false_iff_not] at *
    unfold wthn
    rw [ht, if_neg (by omega)]
    simp only [IntKind.wrap_i64]
    split <;> omega
end Go.Proofs.Ytabhfccfohpkaaa
