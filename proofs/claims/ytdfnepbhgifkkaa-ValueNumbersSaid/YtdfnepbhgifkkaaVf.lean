/- ValueTells: sums of any floats. -/
import Derived.Test.YtdfnepbhgifkkaaVb
import Derived.Test.YtdfnepbhgifkkaaRd
namespace Go.Proofs.Ytdfnepbhgifkkaa
open Go.Am
set_option linter.unusedSimpArgs false
set_option linter.unusedVariables false
set_option maxRecDepth 100000
theorem nanR_canon {r : Nat} (h : nanR r) : canonB r = 9221120237041090561 := by
  have hn : nanB r = true := by
    rw [nan_def, decide_eq_true_eq]
    unfold nanR at h
    omega
  unfold canonB
  rw [hn]; rfl
theorem word_lt (neg : Bool) (r : Nat) (h : r < 9223372036854775808) : FloatKind.f64.format.word neg r < 18446744073709551616 := by
  have e : FloatKind.f64.format.signWeight = 9223372036854775808 := by decide
  unfold Ieee.Format.word
  split <;> omega
theorem write_lt (d : Ieee.Datum) : FloatKind.f64.format.write d < 18446744073709551616 := by
  have e1 : FloatKind.f64.format.infRung = 9218868437227405312 := by decide
  have e2 : FloatKind.f64.format.binade = 4503599627370496 := by decide
  unfold Ieee.Format.write
  split
  · unfold Ieee.Format.nearest
    split
    · exact word_lt _ _ (by decide)
    · exact word_lt _ _ (Nat.lt_of_le_of_lt (Nat.min_le_right _ _) (by omega))
  · exact word_lt _ _ (by omega)
  · exact word_lt _ _ (by rw [e1, e2]; omega)
theorem add_lt {a b r : Nat} (h : FloatKind.f64.format.add a b = some r) : r < 18446744073709551616 := by
  unfold Ieee.Format.add at h
  rw [Option.map_eq_some_iff] at h
  obtain ⟨d, _, rfl⟩ := h
  exact write_lt d
theorem sum_lt {a b r : Nat} (h : match FloatKind.f64.format.add a b with | some r0 => r = r0 | none => nanR r) : r < 18446744073709551616 := by
  split at h
  · rename_i r0 hr; rw [h]; exact add_lt hr
  · unfold nanR at h; omega
/-- two floats together -/
def sumC (a b : Nat) : Nat := match FloatKind.f64.format.add a b with | some r0 => canonB r0 | none => 9221120237041090561
theorem sum_of {a b r : Nat} (h : match FloatKind.f64.format.add a b with | some r0 => r = r0 | none => nanR r) : canonB r = sumC a b := by
  unfold sumC
  split at h
  · rw [h]
  · exact nanR_canon h
theorem sum_c (a b : Nat) : ACalls Try.prog 84 0 0 [.v (.float .f64 a), .v (.float .f64 b)] [] (fun out H' => out = .ret (.v (.float .f64 (sumC a b))) ∧ H' = []) := by
  refine acalls_of tok dok (f := 84) ⟨Try.func84, rfl, by kernel_rfl⟩ ?_; refine c_start (fun _ h => h) ?_
  refine awd ?_
  (with_reducible refine is_aop ?_)
  refine a_fadd rfl rfl rfl rfl fun r hr => ?_
  refine awd ?_
  refine cal [] (canon_c r) ?_ ?_
  · rw [sum_of hr]
    refine ret1 ?_; first | (refine akc ?_) | (refine aec ?_)
    refine awd ?_
    exact e_ret (H' := []) (rest := _) rfl ⟨rfl, rfl⟩ (.refl _) (Nat.le_of_ble_eq_true rfl)
  · first | (exact retN) | (exact retP)
def plusV (a b : Va) : Va × Int := if a.kind = 2 ∧ b.kind = 2 then (⟨2, [], sumC a.n b.n⟩, 0) else (⟨0, [], 0⟩, 24)
theorem plus_c (a b : Va) : ACalls Try.prog 46 0 10 [vav a, vav b] [] (fun out H' => out = .ret (.tuple [vav (plusV a b).1, .v (.int .i64 (plusV a b).2)]) ∧ H' = []) := by
  obtain ⟨ka, ba, na⟩ := a
  obtain ⟨kb, bb, nb⟩ := b
  refine acalls_of tok dok (f := 46) ⟨Try.func46, rfl, by kernel_rfl⟩ ?_; refine c_start (fun _ h => h) ?_
  repeat' (first | (refine awd1 ?_) | (((with_reducible refine is_aops ?_); refine o_split rfl rfl rfl (fun hc => ?_) (fun hc => ?_) <;> rw [hc])) | (((with_reducible refine is_cond ?_); refine c_cond rfl (fun hc => ?_) (fun hc => ?_))) | (((with_reducible refine is_aop ?_); refine a_pick rfl rfl (fun hc => ?_) (fun hc => ?_) <;> rw [hc])) | fail)
  · have h : ¬ (ka = 2 ∧ kb = 2) := fun h => by simp at hc; exact hc h.1
    unfold plusV
    rw [if_neg h]
    exact e_ret_to (H' := []) (.wk (.refl _) (.cons (.box _ (.cons (.refl _) (.cons (.free _ _) (.cons (.refl _) .nil)))) (.refl _))) rfl ⟨rfl, rfl⟩ (.refl _) (Nat.le_of_ble_eq_true rfl)
  · have h : ¬ (ka = 2 ∧ kb = 2) := fun h => by simp at hc; exact hc h.2
    unfold plusV
    rw [if_neg h]
    exact e_ret_to (H' := []) (.wk (.refl _) (.cons (.box _ (.cons (.refl _) (.cons (.free _ _) (.cons (.refl _) .nil)))) (.refl _))) rfl ⟨rfl, rfl⟩ (.refl _) (Nat.le_of_ble_eq_true rfl)
  · have h : ka = 2 ∧ kb = 2 := ⟨by rename_i h1; simpa using h1, by simpa using hc⟩
    refine cal [] (sum_c na nb) ?_ ?_
    · refine ret1 ?_; first | (refine akc ?_) | (refine aec ?_)
      refine awd ?_
      unfold plusV
      rw [if_pos h]
      exact e_ret_to (H' := []) (.wk (.refl _) (.cons (.box _ (.cons (.refl _) (.cons (.free _ _) (.cons (.refl _) .nil)))) (.refl _))) rfl ⟨rfl, rfl⟩ (.refl _) (Nat.le_of_ble_eq_true rfl)
    · first | (exact retN) | (exact retP)
theorem refSum_c (a b : Nat) : ACalls Try.prog 96 0 0 [.v (.float .f64 a), .v (.float .f64 b)] [] (fun out H' => out = .ret (.v (.float .f64 (sumC a b))) ∧ H' = []) := by
  refine acalls_of tok dok (f := 96) ⟨Try.func96, rfl, by kernel_rfl⟩ ?_; refine c_start (fun _ h => h) ?_
  refine awd ?_
  (with_reducible refine is_aop ?_)
  refine a_fadd rfl rfl rfl rfl fun r hr => ?_
  refine awd ?_
  refine cal [] (bits_x r) ?_ ?_
  · refine ret1 ?_; first | (refine akc ?_) | (refine aec ?_)
    refine awd ?_
    refine cal [] (refFrom_c r (sum_lt hr)) ?_ ?_
    · rw [sum_of hr]
      refine ret1 ?_; first | (refine akc ?_) | (refine aec ?_)
      refine awd ?_
      exact e_ret (H' := []) (rest := _) rfl ⟨rfl, rfl⟩ (.refl _) (Nat.le_of_ble_eq_true rfl)
    · first | (exact retN) | (exact retP)
  · first | (exact retN) | (exact retP)
theorem refPlus_c (a b : Va) : ACalls Try.prog 61 0 10 [vav a, vav b] [] (fun out H' => out = .ret (.tuple [vav (plusV a b).1, .v (.int .i64 (plusV a b).2)]) ∧ H' = []) := by
  obtain ⟨ka, ba, na⟩ := a
  obtain ⟨kb, bb, nb⟩ := b
  refine acalls_of tok dok (f := 61) ⟨Try.func61, rfl, by kernel_rfl⟩ ?_; refine c_start (fun _ h => h) ?_
  repeat' (first | (refine awd1 ?_) | (((with_reducible refine is_aops ?_); refine o_split rfl rfl rfl (fun hc => ?_) (fun hc => ?_) <;> rw [hc])) | (((with_reducible refine is_cond ?_); refine c_cond rfl (fun hc => ?_) (fun hc => ?_))) | (((with_reducible refine is_aop ?_); refine a_pick rfl rfl (fun hc => ?_) (fun hc => ?_) <;> rw [hc])) | fail)
  · have h : ¬ (ka = 2 ∧ kb = 2) := fun h => by simp at hc; exact hc h.1
    unfold plusV
    rw [if_neg h]
    exact e_ret_to (H' := []) (.wk (.refl _) (.cons (.box _ (.cons (.refl _) (.cons (.free _ _) (.cons (.refl _) .nil)))) (.refl _))) rfl ⟨rfl, rfl⟩ (.refl _) (Nat.le_of_ble_eq_true rfl)
  · have h : ¬ (ka = 2 ∧ kb = 2) := fun h => by simp at hc; exact hc h.2
    unfold plusV
    rw [if_neg h]
    exact e_ret_to (H' := []) (.wk (.refl _) (.cons (.box _ (.cons (.refl _) (.cons (.free _ _) (.cons (.refl _) .nil)))) (.refl _))) rfl ⟨rfl, rfl⟩ (.refl _) (Nat.le_of_ble_eq_true rfl)
  · have h : ka = 2 ∧ kb = 2 := ⟨by rename_i h1; simpa using h1, by simpa using hc⟩
    refine cal [] (refSum_c na nb) ?_ ?_
    · refine ret1 ?_; first | (refine akc ?_) | (refine aec ?_)
      refine awd ?_
      unfold plusV
      rw [if_pos h]
      exact e_ret_to (H' := []) (.wk (.refl _) (.cons (.box _ (.cons (.refl _) (.cons (.free _ _) (.cons (.refl _) .nil)))) (.refl _))) rfl ⟨rfl, rfl⟩ (.refl _) (Nat.le_of_ble_eq_true rfl)
    · first | (exact retN) | (exact retP)
end Go.Proofs.Ytdfnepbhgifkkaa
