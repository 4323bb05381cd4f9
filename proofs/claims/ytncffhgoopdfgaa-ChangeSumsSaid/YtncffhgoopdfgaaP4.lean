/- Part 4 of what the laws ChangeConds ChangeSums rest on: Rd, Vf, Vg, AmSl, AmBw, RwA, RwC, Vc, RwD, RwE, RwB, RwF, RwG, RwH, RwI, RwJ. -/
import Derived.Test.YtncffhgoopdfgaaP3
namespace Go.Proofs.Ytncffhgoopdfgaa
open Go.Am
set_option maxRecDepth 100000
set_option linter.unusedSimpArgs false
set_option linter.unusedVariables false
theorem refFrom_c (b : Nat) (hb : b < 18446744073709551616) : ACalls Try.prog 65 0 0 [.v (.int .u64 b)] [] (fun out H' => out = .ret (.v (.float .f64 (canonB b))) ∧ H' = []) := by
  refine no_implicit_lambda% (acalls_of tok dok (f := 65) ⟨Try.func65, rfl, by kernel_rfl⟩ ?_); refine no_implicit_lambda% (c_start (fun _ h => h) ?_)
  refine no_implicit_lambda% (awd ?_)
  refine no_implicit_lambda% (cal [] (from_x b) ?_ ?_)
  · refine no_implicit_lambda% (ret1 ?_); first | (refine no_implicit_lambda% (akc ?_)) | (refine no_implicit_lambda% (aec ?_))
    refine no_implicit_lambda% (awd ?_)
    refine no_implicit_lambda% (cal [] (refBits_c b hb) ?_ ?_)
    · refine no_implicit_lambda% (ret1 ?_); first | (refine no_implicit_lambda% (akc ?_)) | (refine no_implicit_lambda% (aec ?_))
      refine no_implicit_lambda% (awd ?_)
      refine no_implicit_lambda% (cal [] (from_x (canonB b)) ?_ ?_)
      · refine no_implicit_lambda% (ret1 ?_); first | (refine no_implicit_lambda% (akc ?_)) | (refine no_implicit_lambda% (aec ?_))
        refine no_implicit_lambda% (awd ?_)
        exact e_ret (H' := []) rfl ⟨rfl, rfl⟩ (.refl _) (Nat.le_of_ble_eq_true rfl)
      · first | (exact retN) | (exact retP)
    · first | (exact retN) | (exact retP)
  · first | (exact retN) | (exact retP)
end Go.Proofs.Ytncffhgoopdfgaa
namespace Go.Proofs.Ytncffhgoopdfgaa
open Go.Am
set_option linter.unusedSimpArgs false
set_option linter.unusedVariables false
set_option maxRecDepth 100000
theorem nanR_canon {r : Nat} (h : nanR r) : canonB r = 9221120237041090561 := by
  have hn : nanB r = true := by
    rw [nan_def, decide_eq_true_eq]
    unfold nanR at h
    omega
  unfold canonB
  rw [hn]; rfl
theorem word_lt (neg : Bool) (r : Nat) (h : r < 9223372036854775808) : FloatKind.f64.format.word neg r < 18446744073709551616 := by
  have e : FloatKind.f64.format.signWeight = 9223372036854775808 := by decide
  unfold Ieee.Format.word
  split <;> omega
theorem write_lt (d : Ieee.Datum) : FloatKind.f64.format.write d < 18446744073709551616 := by
  have e1 : FloatKind.f64.format.infRung = 9218868437227405312 := by decide
  have e2 : FloatKind.f64.format.binade = 4503599627370496 := by decide
  unfold Ieee.Format.write
  split
  · unfold Ieee.Format.nearest
    split
    · exact word_lt _ _ (by decide)
    · exact word_lt _ _ (Nat.lt_of_le_of_lt (Nat.min_le_right _ _) (by omega))
  · exact word_lt _ _ (by omega)
  · exact word_lt _ _ (by rw [e1, e2]; omega)
theorem add_lt {a b r : Nat} (h : FloatKind.f64.format.add a b = some r) : r < 18446744073709551616 := by
  unfold Ieee.Format.add at h
  rw [Option.map_eq_some_iff] at h
  obtain ⟨d, _, rfl⟩ := h
  exact write_lt d
theorem sum_lt {a b r : Nat} (h : match FloatKind.f64.format.add a b with | some r0 => r = r0 | none => nanR r) : r < 18446744073709551616 := by
  split at h
  · rename_i r0 hr; rw [h]; exact add_lt hr
  · unfold nanR at h; omega
/-- two floats together -/
def sumC (a b : Nat) : Nat := match FloatKind.f64.format.add a b with | some r0 => canonB r0 | none => 9221120237041090561
theorem sum_of {a b r : Nat} (h : match FloatKind.f64.format.add a b with | some r0 => r = r0 | none => nanR r) : canonB r = sumC a b := by
  unfold sumC
  split at h
  · rw [h]
  · exact nanR_canon h
theorem sum_c (a b : Nat) : ACalls Try.prog 126 0 0 [.v (.float .f64 a), .v (.float .f64 b)] [] (fun out H' => out = .ret (.v (.float .f64 (sumC a b))) ∧ H' = []) := by
  refine no_implicit_lambda% (acalls_of tok dok (f := 126) ⟨Try.func126, rfl, by kernel_rfl⟩ ?_); refine no_implicit_lambda% (c_start (fun _ h => h) ?_)
  refine no_implicit_lambda% (awd ?_)
  (with_reducible refine is_aop ?_)
  refine a_fadd rfl rfl rfl rfl fun r hr => ?_
  refine no_implicit_lambda% (awd ?_)
  refine no_implicit_lambda% (cal [] (canon_c r) ?_ ?_)
  · rw [sum_of hr]
    refine no_implicit_lambda% (ret1 ?_); first | (refine no_implicit_lambda% (akc ?_)) | (refine no_implicit_lambda% (aec ?_))
    refine no_implicit_lambda% (awd ?_)
    exact e_ret (H' := []) (rest := _) rfl ⟨rfl, rfl⟩ (.refl _) (Nat.le_of_ble_eq_true rfl)
  · first | (exact retN) | (exact retP)
def plusV (a b : Va) : Va × Int := if a.kind = 2 ∧ b.kind = 2 then (⟨2, [], sumC a.n b.n⟩, 0) else (⟨0, [], 0⟩, 24)
theorem plus_c (a b : Va) : ACalls Try.prog 102 0 10 [vav a, vav b] [] (fun out H' => out = .ret (.tuple [vav (plusV a b).1, .v (.int .i64 (plusV a b).2)]) ∧ H' = []) := by
  obtain ⟨ka, ba, na⟩ := a
  obtain ⟨kb, bb, nb⟩ := b
  refine no_implicit_lambda% (acalls_of tok dok (f := 102) ⟨Try.func102, rfl, by kernel_rfl⟩ ?_); refine no_implicit_lambda% (c_start (fun _ h => h) ?_)
  repeat' (first | (refine no_implicit_lambda% (awd1 ?_)) | (((with_reducible refine no_implicit_lambda% (is_aops ?_)); refine no_implicit_lambda% (o_split rfl rfl rfl (fun hc => ?_) (fun hc => ?_)) <;> rw [hc])) | (((with_reducible refine no_implicit_lambda% (is_cond ?_)); refine no_implicit_lambda% (c_cond rfl (fun hc => ?_) (fun hc => ?_)))) | (((with_reducible refine no_implicit_lambda% (is_aop ?_)); refine no_implicit_lambda% (a_pick rfl rfl (fun hc => ?_) (fun hc => ?_)) <;> rw [hc])) | fail)
  · have h : ¬ (ka = 2 ∧ kb = 2) := fun h => by simp at hc; exact hc h.1
    unfold plusV
    rw [if_neg h]
    exact e_ret_to (H' := []) (.wk (.refl _) (.cons (.box _ (.cons (.refl _) (.cons (.free _ _) (.cons (.refl _) .nil)))) (.refl _))) rfl ⟨rfl, rfl⟩ (.refl _) (Nat.le_of_ble_eq_true rfl)
  · have h : ¬ (ka = 2 ∧ kb = 2) := fun h => by simp at hc; exact hc h.2
    unfold plusV
    rw [if_neg h]
    exact e_ret_to (H' := []) (.wk (.refl _) (.cons (.box _ (.cons (.refl _) (.cons (.free _ _) (.cons (.refl _) .nil)))) (.refl _))) rfl ⟨rfl, rfl⟩ (.refl _) (Nat.le_of_ble_eq_true rfl)
  · have h : ka = 2 ∧ kb = 2 := ⟨by rename_i h1; simpa using h1, by simpa using hc⟩
    refine no_implicit_lambda% (cal [] (sum_c na nb) ?_ ?_)
    · refine no_implicit_lambda% (ret1 ?_); first | (refine no_implicit_lambda% (akc ?_)) | (refine no_implicit_lambda% (aec ?_))
      refine no_implicit_lambda% (awd ?_)
      unfold plusV
      rw [if_pos h]
      exact e_ret_to (H' := []) (.wk (.refl _) (.cons (.box _ (.cons (.refl _) (.cons (.free _ _) (.cons (.refl _) .nil)))) (.refl _))) rfl ⟨rfl, rfl⟩ (.refl _) (Nat.le_of_ble_eq_true rfl)
    · first | (exact retN) | (exact retP)
theorem refSum_c (a b : Nat) : ACalls Try.prog 67 0 0 [.v (.float .f64 a), .v (.float .f64 b)] [] (fun out H' => out = .ret (.v (.float .f64 (sumC a b))) ∧ H' = []) := by
  refine no_implicit_lambda% (acalls_of tok dok (f := 67) ⟨Try.func67, rfl, by kernel_rfl⟩ ?_); refine no_implicit_lambda% (c_start (fun _ h => h) ?_)
  refine no_implicit_lambda% (awd ?_)
  (with_reducible refine is_aop ?_)
  refine a_fadd rfl rfl rfl rfl fun r hr => ?_
  refine no_implicit_lambda% (awd ?_)
  refine no_implicit_lambda% (cal [] (bits_x r) ?_ ?_)
  · refine no_implicit_lambda% (ret1 ?_); first | (refine no_implicit_lambda% (akc ?_)) | (refine no_implicit_lambda% (aec ?_))
    refine no_implicit_lambda% (awd ?_)
    refine no_implicit_lambda% (cal [] (refFrom_c r (sum_lt hr)) ?_ ?_)
    · rw [sum_of hr]
      refine no_implicit_lambda% (ret1 ?_); first | (refine no_implicit_lambda% (akc ?_)) | (refine no_implicit_lambda% (aec ?_))
      refine no_implicit_lambda% (awd ?_)
      exact e_ret (H' := []) (rest := _) rfl ⟨rfl, rfl⟩ (.refl _) (Nat.le_of_ble_eq_true rfl)
    · first | (exact retN) | (exact retP)
  · first | (exact retN) | (exact retP)
theorem refPlus_c (a b : Va) : ACalls Try.prog 26 0 10 [vav a, vav b] [] (fun out H' => out = .ret (.tuple [vav (plusV a b).1, .v (.int .i64 (plusV a b).2)]) ∧ H' = []) := by
  obtain ⟨ka, ba, na⟩ := a
  obtain ⟨kb, bb, nb⟩ := b
  refine no_implicit_lambda% (acalls_of tok dok (f := 26) ⟨Try.func26, rfl, by kernel_rfl⟩ ?_); refine no_implicit_lambda% (c_start (fun _ h => h) ?_)
  repeat' (first | (refine no_implicit_lambda% (awd1 ?_)) | (((with_reducible refine no_implicit_lambda% (is_aops ?_)); refine no_implicit_lambda% (o_split rfl rfl rfl (fun hc => ?_) (fun hc => ?_)) <;> rw [hc])) | (((with_reducible refine no_implicit_lambda% (is_cond ?_)); refine no_implicit_lambda% (c_cond rfl (fun hc => ?_) (fun hc => ?_)))) | (((with_reducible refine no_implicit_lambda% (is_aop ?_)); refine no_implicit_lambda% (a_pick rfl rfl (fun hc => ?_) (fun hc => ?_)) <;> rw [hc])) | fail)
  · have h : ¬ (ka = 2 ∧ kb = 2) := fun h => by simp at hc; exact hc h.1
    unfold plusV
    rw [if_neg h]
    exact e_ret_to (H' := []) (.wk (.refl _) (.cons (.box _ (.cons (.refl _) (.cons (.free _ _) (.cons (.refl _) .nil)))) (.refl _))) rfl ⟨rfl, rfl⟩ (.refl _) (Nat.le_of_ble_eq_true rfl)
  · have h : ¬ (ka = 2 ∧ kb = 2) := fun h => by simp at hc; exact hc h.2
    unfold plusV
    rw [if_neg h]
    exact e_ret_to (H' := []) (.wk (.refl _) (.cons (.box _ (.cons (.refl _) (.cons (.free _ _) (.cons (.refl _) .nil)))) (.refl _))) rfl ⟨rfl, rfl⟩ (.refl _) (Nat.le_of_ble_eq_true rfl)
  · have h : ka = 2 ∧ kb = 2 := ⟨by rename_i h1; simpa using h1, by simpa using hc⟩
    refine no_implicit_lambda% (cal [] (refSum_c na nb) ?_ ?_)
    · refine no_implicit_lambda% (ret1 ?_); first | (refine no_implicit_lambda% (akc ?_)) | (refine no_implicit_lambda% (aec ?_))
      refine no_implicit_lambda% (awd ?_)
      unfold plusV
      rw [if_pos h]
      exact e_ret_to (H' := []) (.wk (.refl _) (.cons (.box _ (.cons (.refl _) (.cons (.free _ _) (.cons (.refl _) .nil)))) (.refl _))) rfl ⟨rfl, rfl⟩ (.refl _) (Nat.le_of_ble_eq_true rfl)
    · first | (exact retN) | (exact retP)
end Go.Proofs.Ytncffhgoopdfgaa
namespace Go.Proofs.Ytncffhgoopdfgaa
open Go.Am
set_option linter.unusedSimpArgs false
set_option linter.unusedVariables false
set_option maxRecDepth 100000
theorem canonB_lt {b : Nat} (h : b < 18446744073709551616) : canonB b < 18446744073709551616 := by unfold canonB; split <;> omega
/-- a float's place, by the program and by the document -/
def keyN (c : Nat) : Nat := if c < 9223372036854775808 then c + 9223372036854775808 else 18446744073709551615 - c
def placeN (c : Nat) : Nat := if c = 9221120237041090561 then 18446744073709551615 else keyN c
theorem canon_cases {b : Nat} (h : b < 18446744073709551616) : canonB b = 9221120237041090561 ∨ canonB b ≤ 9218868437227405312 ∨ (9223372036854775808 ≤ canonB b ∧ canonB b ≤ 18442240474082181120) := by
  unfold canonB
  cases hn : nanB b
  · rw [nan_def, decide_eq_false_iff_not] at hn
    simp only [Bool.false_eq_true, if_false]
    omega
  · exact .inl rfl
theorem and63 {c : Nat} (h : c < 18446744073709551616) : c &&& 9223372036854775808 = if c < 9223372036854775808 then 0 else 9223372036854775808 := by
  have e1 : (9223372036854775808 : Nat) = 1 <<< 63 := by decide
  have e2 : (c / 9223372036854775808 % 2) * 9223372036854775808 = ((c >>> 63) &&& 1) <<< 63 := by
    rw [Nat.shiftLeft_eq, Nat.shiftRight_eq_div_pow, Nat.and_two_pow_sub_one_eq_mod _ 1]
  have e3 : c &&& (1 <<< 63) = ((c >>> 63) &&& 1) <<< 63 := by
    apply Nat.eq_of_testBit_eq
    intro i
    simp only [Nat.testBit_and, Nat.testBit_shiftLeft, Nat.testBit_shiftRight]
    by_cases h : 63 ≤ i
    · have : 63 + (i - 63) = i := by omega
      simp [h, this]
    · simp [h]
  have e4 : c &&& 9223372036854775808 = (c / 9223372036854775808 % 2) * 9223372036854775808 := e3.trans e2.symm
  rw [e4]
  split <;> omega
theorem or63 {c : Nat} (h : c < 9223372036854775808) : c ||| 9223372036854775808 = c + 9223372036854775808 := by
  have e := Nat.two_pow_add_eq_or_of_lt (i := 63) (b := c) h 1
  rw [Nat.or_comm, Nat.add_comm]
  exact e.symm
theorem not64 {c : Nat} (h : c < 18446744073709551616) : (BitVec.ofInt IntKind.u64.bits (if IntKind.u64.signed then -1 else IntKind.u64.max) ^^^ BitVec.ofInt IntKind.u64.bits (c : Int)).toNat = 18446744073709551615 - c := by
  have e : BitVec.ofInt IntKind.u64.bits (if IntKind.u64.signed then -1 else IntKind.u64.max) = (BitVec.allOnes 64 : BitVec IntKind.u64.bits) := by rfl
  rw [e]
  show (BitVec.allOnes 64 ^^^ BitVec.ofInt 64 (c : Int)).toNat = _
  rw [BitVec.allOnes_xor, BitVec.toNat_not]
  show 2 ^ 64 - 1 - (BitVec.ofInt IntKind.u64.bits (c : Int)).toNat = _
  rw [ofInt_nat h]
theorem keyI_eq {b : Nat} (h : b < 18446744073709551616) : keyI b = (keyN (canonB b) : Nat) := by
  have hc := canonB_lt h
  unfold keyI keyN
  generalize canonB b = c at *
  rw [BitVec.toNat_and, ofInt_nat hc, show (BitVec.ofInt IntKind.u64.bits 9223372036854775808).toNat = 9223372036854775808 from by decide, and63 hc, not64 hc, BitVec.toNat_or, ofInt_nat hc, show (BitVec.ofInt IntKind.u64.bits 9223372036854775808).toNat = 9223372036854775808 from by decide]
  by_cases h1 : c < 9223372036854775808
  · rw [if_pos h1, if_pos h1, or63 h1, if_neg (by decide), u64_of (by omega)]
  · rw [if_neg h1, if_neg h1, if_pos (by decide), u64_of (by omega)]
theorem key_place {a b : Nat} (ha : a < 18446744073709551616) (hb : b < 18446744073709551616) : cmpZ (placeN (canonB a) : Nat) (placeN (canonB b) : Nat) = cmpZ (keyI a) (keyI b) := by
  rw [keyI_eq ha, keyI_eq hb]
  have h1 := canon_cases ha
  have h2 := canon_cases hb
  unfold placeN keyN cmpZ
  generalize canonB a = x at *
  generalize canonB b = y at *
  repeat' split
  all_goals omega
theorem place_c (b : Nat) (hb : b < 18446744073709551616) : ACalls Try.prog 127 0 0 [.v (.float .f64 b)] [] (fun out H' => out = .ret (.v (.int .u64 (placeN (canonB b) : Nat))) ∧ H' = []) := by
  have hl := canonB_lt hb
  have hB := refBits_c b hb
  generalize canonB b = c at *
  refine no_implicit_lambda% (acalls_of tok dok (f := 127) ⟨Try.func127, rfl, by kernel_rfl⟩ ?_); refine no_implicit_lambda% (c_start (fun _ h => h) ?_)
  refine no_implicit_lambda% (awd ?_)
  refine no_implicit_lambda% (cal [] (hB) ?_ ?_)
  · refine no_implicit_lambda% (ret1 ?_); first | (refine no_implicit_lambda% (akc ?_)) | (refine no_implicit_lambda% (aec ?_))
    repeat' (first | (refine no_implicit_lambda% (awd1 ?_)) | (((with_reducible refine no_implicit_lambda% (is_aops ?_)); refine no_implicit_lambda% (o_split rfl rfl rfl (fun hc => ?_) (fun hc => ?_)) <;> rw [hc])) | (((with_reducible refine no_implicit_lambda% (is_cond ?_)); refine no_implicit_lambda% (c_cond rfl (fun hc => ?_) (fun hc => ?_)))) | (((with_reducible refine no_implicit_lambda% (is_aop ?_)); refine no_implicit_lambda% (a_pick rfl rfl (fun hc => ?_) (fun hc => ?_)) <;> rw [hc])) | fail)
    · have hc' : c = 9221120237041090561 := by simp at hc; omega
      exact e_ret (H' := []) (rest := _) rfl ⟨by rw [placeN, if_pos hc']; rfl, rfl⟩ (.refl _) (Nat.le_of_ble_eq_true rfl)
    · have h0 : ¬ c = 9221120237041090561 := by rename_i h1; simp at h1; omega
      have h1 : ¬ c < 9223372036854775808 := by
        rw [show min (Int.toNat 63) IntKind.u64.bits = 63 from rfl, show (2 : Int) ^ 63 = 9223372036854775808 by decide, Int.fdiv_eq_ediv_of_nonneg _ (by decide)] at hc
        simp at hc
        omega
      rw [not64 hl, u64_of (by omega)]
      exact e_ret (H' := []) (rest := _) rfl ⟨by rw [placeN, if_neg h0, keyN, if_neg h1]; rfl, rfl⟩ (.refl _) (Nat.le_of_ble_eq_true rfl)
    · have h0 : ¬ c = 9221120237041090561 := by rename_i h1; simp at h1; omega
      have h1 : c < 9223372036854775808 := by
        rw [show min (Int.toNat 63) IntKind.u64.bits = 63 from rfl, show (2 : Int) ^ 63 = 9223372036854775808 by decide, Int.fdiv_eq_ediv_of_nonneg _ (by decide)] at hc
        simp at hc
        omega
      rw [BitVec.toNat_or, ofInt_nat hl, show (BitVec.ofInt IntKind.u64.bits 9223372036854775808).toNat = 9223372036854775808 from by decide, or63 h1, u64_of (by omega)]
      exact e_ret (H' := []) (rest := _) rfl ⟨by rw [placeN, if_neg h0, keyN, if_pos h1]; rfl, rfl⟩ (.refl _) (Nat.le_of_ble_eq_true rfl)
  · first | (exact retN) | (exact retP)
theorem refOrder1_c (a b : Nat) (ha : a < 18446744073709551616) (hb : b < 18446744073709551616) : ACalls Try.prog 106 0 0 [.v (.float .f64 a), .v (.float .f64 b)] [] (fun out H' => out = .ret (.v (.int .i64 (cmpZ (keyI a) (keyI b)))) ∧ H' = []) := by
  rw [← key_place ha hb]
  have h1 := place_c a ha
  have h2 := place_c b hb
  generalize placeN (canonB a) = x at *
  generalize placeN (canonB b) = y at *
  refine no_implicit_lambda% (acalls_of tok dok (f := 106) ⟨Try.func106, rfl, by kernel_rfl⟩ ?_); refine no_implicit_lambda% (c_start (fun _ h => h) ?_)
  refine no_implicit_lambda% (awd ?_)
  refine no_implicit_lambda% (cal [] (h1) ?_ ?_)
  · refine no_implicit_lambda% (ret1 ?_); first | (refine no_implicit_lambda% (akc ?_)) | (refine no_implicit_lambda% (aec ?_))
    refine no_implicit_lambda% (awd ?_)
    refine no_implicit_lambda% (cal [] (h2) ?_ ?_)
    · refine no_implicit_lambda% (ret1 ?_); first | (refine no_implicit_lambda% (akc ?_)) | (refine no_implicit_lambda% (aec ?_))
      repeat' (first | (refine no_implicit_lambda% (awd1 ?_)) | (((with_reducible refine no_implicit_lambda% (is_aops ?_)); refine no_implicit_lambda% (o_split rfl rfl rfl (fun hc => ?_) (fun hc => ?_)) <;> rw [hc])) | (((with_reducible refine no_implicit_lambda% (is_cond ?_)); refine no_implicit_lambda% (c_cond rfl (fun hc => ?_) (fun hc => ?_)))) | (((with_reducible refine no_implicit_lambda% (is_aop ?_)); refine no_implicit_lambda% (a_pick rfl rfl (fun hc => ?_) (fun hc => ?_)) <;> rw [hc])) | fail)
      · exact e_ret (H' := []) rfl ⟨by simp at hc; rw [cmpZ, if_pos (by omega)]; rfl, rfl⟩ (.refl _) (Nat.le_of_ble_eq_true rfl)
      · exact e_ret (H' := []) rfl ⟨by simp at *; rw [cmpZ, if_neg (by omega), if_pos (by omega)]; rfl, rfl⟩ (.refl _) (Nat.le_of_ble_eq_true rfl)
      · exact e_ret (H' := []) rfl ⟨by simp at *; rw [cmpZ, if_neg (by omega), if_neg (by omega)]; rfl, rfl⟩ (.refl _) (Nat.le_of_ble_eq_true rfl)
    · first | (exact retN) | (exact retP)
  · first | (exact retN) | (exact retP)
theorem kind_c (v : Va) : ACalls Try.prog 105 0 10 [vav v] [] (fun out H' => out = .ret (.v (.int .i64 (canV v).kind)) ∧ H' = []) := by
  obtain ⟨kd, b, n⟩ := v
  refine no_implicit_lambda% (acalls_of tok dok (f := 105) ⟨Try.func105, rfl, by kernel_rfl⟩ ?_); refine no_implicit_lambda% (c_start (fun _ h => h) ?_)
  repeat' (first | (refine no_implicit_lambda% (awd1 ?_)) | (((with_reducible refine no_implicit_lambda% (is_aops ?_)); refine no_implicit_lambda% (o_split rfl rfl rfl (fun hc => ?_) (fun hc => ?_)) <;> rw [hc])) | (((with_reducible refine no_implicit_lambda% (is_cond ?_)); refine no_implicit_lambda% (c_cond rfl (fun hc => ?_) (fun hc => ?_)))) | (((with_reducible refine no_implicit_lambda% (is_aop ?_)); refine no_implicit_lambda% (a_pick rfl rfl (fun hc => ?_) (fun hc => ?_)) <;> rw [hc])) | fail)
  · have h : kd = 1 := by simpa using hc
    subst h
    exact e_ret (H' := []) (rest := _) rfl ⟨rfl, rfl⟩ (.refl _) (Nat.le_of_ble_eq_true rfl)
  · have h : kd = 2 := by simpa using hc
    subst h
    exact e_ret (H' := []) (rest := _) rfl ⟨rfl, rfl⟩ (.refl _) (Nat.le_of_ble_eq_true rfl)
  · have h1 : ¬ kd = 1 := by rename_i h1; simpa using h1
    have h2 : ¬ kd = 2 := by simpa using hc
    exact e_ret (H' := []) (rest := _) rfl ⟨by unfold canV; rw [if_neg h1, if_neg h2]; rfl, rfl⟩ (.refl _) (Nat.le_of_ble_eq_true rfl)
theorem refCanon_c (v : Va) (h : v.b.length < 1073741824) (hn : v.n < 18446744073709551616) : ACalls Try.prog 25 0 10 [vav v] [] (fun out H' => out = .ret (vav (canV v)) ∧ H' = []) := by
  obtain ⟨kd, b, n⟩ := v
  simp only at h hn
  refine no_implicit_lambda% (acalls_of tok dok (f := 25) ⟨Try.func25, rfl, by kernel_rfl⟩ ?_); refine no_implicit_lambda% (c_start (fun _ h => h) ?_)
  repeat' (first | (refine no_implicit_lambda% (awd1 ?_)) | (((with_reducible refine no_implicit_lambda% (is_aops ?_)); refine no_implicit_lambda% (o_split rfl rfl rfl (fun hc => ?_) (fun hc => ?_)) <;> rw [hc])) | (((with_reducible refine no_implicit_lambda% (is_cond ?_)); refine no_implicit_lambda% (c_cond rfl (fun hc => ?_) (fun hc => ?_)))) | (((with_reducible refine no_implicit_lambda% (is_aop ?_)); refine no_implicit_lambda% (a_pick rfl rfl (fun hc => ?_) (fun hc => ?_)) <;> rw [hc])) | fail)
  · have hk : kd = 1 := by simpa using hc
    subst hk
    exact e_ret_to (H' := []) (rest := _) (.wk (.refl _) (.cons (.refl _) (.cons (.box _ (.cons (.refl _) (.cons (.free _ _) (.cons (.refl _) .nil)))) (.refl _)))) rfl ⟨rfl, rfl⟩ (.refl _) (Nat.le_of_ble_eq_true rfl)
  · have hk : kd = 2 := by simpa using hc
    subst hk
    refine no_implicit_lambda% (cal [] (refBits_c n hn) ?_ ?_)
    · refine no_implicit_lambda% (ret1 ?_); first | (refine no_implicit_lambda% (akc ?_)) | (refine no_implicit_lambda% (aec ?_))
      refine no_implicit_lambda% (awd ?_)
      refine no_implicit_lambda% (cal [] (refFrom_c (canonB n) (canonB_lt hn)) ?_ ?_)
      · rw [canon2]
        refine no_implicit_lambda% (ret1 ?_); first | (refine no_implicit_lambda% (akc ?_)) | (refine no_implicit_lambda% (aec ?_))
        refine no_implicit_lambda% (awd ?_)
        exact e_ret_to (H' := []) (.wk (.refl _) (.cons (.box _ (.cons (.refl _) (.cons (.free _ _) (.cons (.refl _) .nil)))) (.refl _))) rfl ⟨rfl, rfl⟩ (.refl _) (Nat.le_of_ble_eq_true rfl)
      · first | (exact retN) | (exact retP)
    · first | (exact retN) | (exact retP)
  · have hk1 : kd ≠ 1 := by rename_i hc1; simpa using hc1
    have hk2 : kd ≠ 2 := by simpa using hc
    refine e_ret_to (H' := []) (.wk (.refl _) (.cons (.box _ (.cons (.refl _) (.cons (.free _ _) (.cons (.refl _) .nil)))) (.refl _))) rfl ⟨?_, rfl⟩ (.refl _) (Nat.le_of_ble_eq_true rfl)
    unfold canV
    rw [if_neg hk1, if_neg hk2]
    rfl
theorem refRight_c (v : Va) : ACalls Try.prog 115 0 10 [vav v] [] (fun out H' => out = .ret (.v (.bool (v.kind == 1 && decide ((v.b.length : Int) ≤ 16) || v.kind == 2))) ∧ H' = []) := by
  obtain ⟨kd, b, n⟩ := v
  refine no_implicit_lambda% (acalls_of tok dok (f := 115) ⟨Try.func115, rfl, by kernel_rfl⟩ ?_); refine no_implicit_lambda% (c_start (fun _ h => h) ?_)
  repeat' (first | (refine no_implicit_lambda% (awd1 ?_)) | (((with_reducible refine no_implicit_lambda% (is_aops ?_)); refine no_implicit_lambda% (o_split rfl rfl rfl (fun hc => ?_) (fun hc => ?_)) <;> rw [hc])) | (((with_reducible refine no_implicit_lambda% (is_cond ?_)); refine no_implicit_lambda% (c_cond rfl (fun hc => ?_) (fun hc => ?_)))) | (((with_reducible refine no_implicit_lambda% (is_aop ?_)); refine no_implicit_lambda% (a_pick rfl rfl (fun hc => ?_) (fun hc => ?_)) <;> rw [hc])) | fail)
  all_goals
    refine e_ret (H' := []) (rest := _) rfl ⟨congrArg (fun z => AOut.ret (.v (.bool z))) ?_, rfl⟩ (.refl _) (Nat.le_of_ble_eq_true rfl)
    simp only [List.length_map] at *
    simp_all
theorem less_cb : ∀ a b : List UInt8, Op.bytesLess a b = decide (Lib.compareBytes a b = -1)
  | [], [] => rfl
  | [], _ :: _ => rfl
  | _ :: _, [] => rfl
  | x :: a, y :: b => by
    have h := less_cb a b
    unfold Op.bytesLess Lib.compareBytes
    rw [h]
    by_cases h1 : x < y
    · rw [if_pos h1]; simp [h1]
    · rw [if_neg h1]
      by_cases h2 : y < x
      · rw [if_pos h2]
        have : ¬ x = y := fun e => h1 (e ▸ h2)
        simp [h1, this]
      · rw [if_neg h2]
        have : x = y := by
          rw [UInt8.lt_iff_toNat_lt] at h1 h2
          exact UInt8.toNat_inj.1 (by omega)
        subst this
        simp
theorem eq_cb : ∀ a b : List UInt8, (a == b) = decide (Lib.compareBytes a b = 0)
  | [], [] => rfl
  | [], _ :: _ => rfl
  | _ :: _, [] => rfl
  | x :: a, y :: b => by
    have h := eq_cb a b
    unfold Lib.compareBytes
    rw [List.cons_beq_cons, h]
    by_cases h1 : x < y
    · rw [if_pos h1]
      have : ¬ x = y := fun e => by subst e; exact absurd h1 (by simp)
      simp [this]
    · rw [if_neg h1]
      by_cases h2 : y < x
      · rw [if_pos h2]
        have : ¬ x = y := fun e => h1 (e ▸ h2)
        simp [this]
      · rw [if_neg h2]
        have : x = y := by
          rw [UInt8.lt_iff_toNat_lt] at h1 h2
          exact UInt8.toNat_inj.1 (by omega)
        subst this
        simp
theorem cb_three (a b : List UInt8) : Lib.compareBytes a b = -1 ∨ Lib.compareBytes a b = 0 ∨ Lib.compareBytes a b = 1 := by
  induction a generalizing b with
  | nil => cases b <;> simp [Lib.compareBytes]
  | cons x a ih =>
    cases b with
    | nil => simp [Lib.compareBytes]
    | cons y b =>
      unfold Lib.compareBytes
      repeat' split
      · exact .inl rfl
      · exact .inr (.inr rfl)
      · exact ih b
theorem canV_kind3 (v : Va) : (canV v).kind = 0 ∨ (canV v).kind = 1 ∨ (canV v).kind = 2 := by
  unfold canV
  split
  · exact .inr (.inl rfl)
  · split
    · exact .inr (.inr rfl)
    · exact .inl rfl
theorem canV_b1 (v : Va) (h : (canV v).kind = 1) : (canV v).b = v.b := by
  unfold canV at *
  split
  · rfl
  · rename_i h1
    rw [if_neg h1] at h
    split at h <;> cases h
theorem canV_n2 (v : Va) (h : (canV v).kind = 2) : (canV v).n = canonB v.n := by
  unfold canV at *
  split
  · rename_i h1
    rw [if_pos h1] at h
    cases h
  · split
    · rfl
    · rename_i h1 h2
      rw [if_neg h1, if_neg h2] at h
      cases h
theorem keyI_canon (n : Nat) : keyI (canonB n) = keyI n := by unfold keyI; rw [canon2]
set_option maxHeartbeats 3200000 in
theorem refOrder_c (a b : Va) (ha : a.n < 18446744073709551616) (hb : b.n < 18446744073709551616) : ACalls Try.prog 69 0 100 [vav a, vav b] [] (fun out H' => out = .ret (.v (.int .i64 (ordV a b))) ∧ H' = []) := by
  have hka := kind_c a
  have hkb := kind_c b
  have hoo := refOrder1_c a.n b.n ha hb
  have c0 := canV_kind3 a
  have d0 := canV_kind3 b
  have c1 := canV_b1 a
  have d1 := canV_b1 b
  have c2 := canV_n2 a
  have d2 := canV_n2 b
  have ho : ordV a b = ordV0 (canV a) (canV b) := rfl
  unfold ordV0 at ho
  have o1 : (canV a).kind < (canV b).kind → ordV a b = -1 := fun h => by rw [ho, if_pos (by omega), cmpZ, if_pos h]
  have o2 : (canV a).kind > (canV b).kind → ordV a b = 1 := fun h => by rw [ho, if_pos (by omega), cmpZ, if_neg (by omega), if_pos h]
  have o3 : (canV a).kind = 2 → (canV b).kind = 2 → ordV a b = cmpZ (keyI a.n) (keyI b.n) := fun h k => by rw [ho, if_neg (by omega), if_neg (by omega), if_pos h, c2 h, d2 k, keyI_canon, keyI_canon]
  have o4 : (canV a).kind = 1 → (canV b).kind = 1 → ordV a b = Lib.compareBytes a.b b.b := fun h k => by rw [ho, if_neg (by omega), if_pos h, c1 h, d1 k]
  have o5 : (canV a).kind = 0 → (canV b).kind = 0 → ordV a b = 0 := fun h k => by rw [ho, if_neg (by omega), if_neg (by omega), if_neg (by omega)]
  clear ho c1 c2 d1 d2
  generalize ordV a b = oo at *
  generalize (canV a).kind = x at *
  generalize (canV b).kind = y at *
  obtain ⟨k1, b1, n1⟩ := a
  obtain ⟨k2, b2, n2⟩ := b
  simp only at *
  have oO : (x < y ∧ oo = -1) ∨ (x > y ∧ oo = 1) ∨ (x = 2 ∧ y = 2) ∨ (x = 1 ∧ y = 1 ∧ oo = Lib.compareBytes b1 b2) ∨ (x = 0 ∧ y = 0 ∧ oo = 0) := by
    rcases Int.lt_trichotomy x y with h | h | h
    · exact .inl ⟨h, o1 h⟩
    · subst h
      rcases c0 with h | h | h
      · exact .inr (.inr (.inr (.inr ⟨h, h, o5 h h⟩)))
      · exact .inr (.inr (.inr (.inl ⟨h, h, o4 h h⟩)))
      · exact .inr (.inr (.inl ⟨h, h⟩))
    · exact .inr (.inl ⟨h, o2 h⟩)
  have ol := less_cb b1 b2
  have oe := eq_cb b1 b2
  have o3' := cb_three b1 b2
  refine no_implicit_lambda% (acalls_of tok dok (f := 69) ⟨Try.func69, rfl, by kernel_rfl⟩ ?_); refine no_implicit_lambda% (c_start (fun _ h => h) ?_)
  refine no_implicit_lambda% (awd ?_)
  refine no_implicit_lambda% (cal [] (hka) ?_ ?_)
  · refine no_implicit_lambda% (ret1 ?_); first | (refine no_implicit_lambda% (akc ?_)) | (refine no_implicit_lambda% (aec ?_))
    refine no_implicit_lambda% (awd ?_)
    refine no_implicit_lambda% (cal [] (hkb) ?_ ?_)
    · refine no_implicit_lambda% (ret1 ?_); first | (refine no_implicit_lambda% (akc ?_)) | (refine no_implicit_lambda% (aec ?_))
      repeat' (first | (refine no_implicit_lambda% (awd1 ?_)) | (((with_reducible refine no_implicit_lambda% (is_aops ?_)); refine no_implicit_lambda% (o_split rfl rfl rfl (fun hc => ?_) (fun hc => ?_)) <;> rw [hc])) | (((with_reducible refine no_implicit_lambda% (is_cond ?_)); refine no_implicit_lambda% (c_cond rfl (fun hc => ?_) (fun hc => ?_)))) | (((with_reducible refine no_implicit_lambda% (is_aop ?_)); refine no_implicit_lambda% (a_pick rfl rfl (fun hc => ?_) (fun hc => ?_)) <;> rw [hc])) | fail)
      · refine e_ret (H' := []) (rest := _) rfl ⟨by rw [o1 (by simpa using hc)]; rfl, rfl⟩ (.refl _) (Nat.le_of_ble_eq_true rfl)
      · refine e_ret (H' := []) (rest := _) rfl ⟨by rw [o2 (by simpa using hc)]; rfl, rfl⟩ (.refl _) (Nat.le_of_ble_eq_true rfl)
      · have hx : x = 2 := by simpa using hc
        have hy : y = 2 := by simp at *; omega
        refine no_implicit_lambda% (cal [] (hoo) ?_ ?_)
        · refine no_implicit_lambda% (ret1 ?_); first | (refine no_implicit_lambda% (akc ?_)) | (refine no_implicit_lambda% (aec ?_))
          refine no_implicit_lambda% (awd ?_)
          refine e_ret (H' := []) (rest := _) rfl ⟨by rw [o3 hx hy]; rfl, rfl⟩ (.refl _) (Nat.le_of_ble_eq_true rfl)
        · first | (exact retN) | (exact retP)
      all_goals
        refine e_ret (H' := []) (rest := _) rfl ⟨congrArg (fun z => AOut.ret (.v (.int .i64 z))) ?_, rfl⟩ (.refl _) (Nat.le_of_ble_eq_true rfl)
        clear hka hkb hoo
        try simp only [Lib.toList_data] at *
        simp only [ol, oe, beq_iff_eq, Bool.not_eq_true', Bool.not_eq_false', Bool.or_eq_true, Bool.or_eq_false_iff, decide_eq_true_eq, decide_eq_false_iff_not, beq_eq_false_iff_ne, ne_eq] at *
        omega
    · first | (exact retN) | (exact retP)
  · first | (exact retN) | (exact retP)
theorem refSame_c (a b : Va) (ha : a.n < 18446744073709551616) (hb : b.n < 18446744073709551616) : ACalls Try.prog 28 0 200 [vav a, vav b] [] (fun out H' => out = .ret (.v (.bool (ordV a b == 0))) ∧ H' = []) := by
  have cc := refOrder_c a b ha hb
  obtain ⟨ka, ba, na⟩ := a
  obtain ⟨kb, bb, nb⟩ := b
  refine no_implicit_lambda% (acalls_of tok dok (f := 28) ⟨Try.func28, rfl, by kernel_rfl⟩ ?_); refine no_implicit_lambda% (c_start (fun _ h => h) ?_)
  refine no_implicit_lambda% (awd ?_)
  refine no_implicit_lambda% (cal [] (cc) ?_ ?_)
  · refine no_implicit_lambda% (ret1 ?_); first | (refine no_implicit_lambda% (akc ?_)) | (refine no_implicit_lambda% (aec ?_))
    refine no_implicit_lambda% (awd ?_)
    exact e_ret (H' := []) (rest := _) rfl ⟨rfl, rfl⟩ (.refl _) (Nat.le_of_ble_eq_true rfl)
  · first | (exact retN) | (exact retP)
end Go.Proofs.Ytncffhgoopdfgaa
namespace Go.Am
open Go.RowKit
set_option linter.unusedSimpArgs false
set_option linter.unusedVariables false
/-- a list that may be written, called anew -/
theorem Conv.anewS {s : List AV} {L L0 : Heap} {n j id off m cp k : Nat} {rows : List (List AV)} (hj : getA s j = .arr id off m cp) (hp : L.Perm ((id, .seq rows k) :: L0)) (hne : rows.length + k ≠ 0) :
    Conv ⟨s, L, n⟩ ⟨setA s j (.arr n off m cp), (n, .seq rows k) :: L0, n + 1⟩ := fun B G a w hr => by
  have hn : ¬ G.live n := fun h => Nat.lt_irrefl _ (hr.next n h)
  have hx := hr.slots j (fun h => h)
  simp only [hj] at hx
  have hx' : Sim G (.arr id off m cp) (a.tmps.getD j undef) := hx.down
  have h5 : Holds G w ((id, .seq rows k) :: L0) := hr.holds.perm hp
  obtain ⟨u1, u2⟩ := h5.unseq hne
  obtain ⟨m1, m2, m3⟩ := move_box u1 hn
  have hst : Step G w L (G.boxed n (G.loc id)) w ((n, .seq rows k) :: L0) := ((((Step.refl G w L).perm (.refl _) hp).unseq hne).trans m2).toSeq
  have hsim : Sim (G.boxed n (G.loc id)) (.arr n off m cp) (a.tmps.getD j undef) := by
    obtain ⟨base, hv, hlive, hnc, hcm, hbs⟩ := hx'.arr_inv
    rw [hv]
    exact .arr n off m cp base (.inr rfl) hnc hcm fun h0 => by rw [hbs h0]; simp [Ghost.boxed]
  refine ⟨G.boxed n (G.loc id), by rw [hr.size, setA_eq]; simp, fun i hi => ?_, hr.defers, m1.toSeq u2, hr.step.trans hst, fun i hi => ?_, hr.base, Nat.le_succ_of_le hr.low, fun i hi => ?_⟩
  · show Slot _ (getA (setA s j _) i) _
    rw [getA_eq, setA_eq, List.getD, List.getElem?_set]
    by_cases e : j = i
    · subst e
      rw [if_pos rfl]
      split
      · exact .of hsim
      · exact .of (.data _ _ (.dead _))
    · rw [if_neg e]
      have := Slot.mono (G := G) (G' := G.boxed n (G.loc id)) (fun _ h => h) (fun a x h => m3 a x h) (hr.slots i hi)
      rw [getA_eq] at this
      exact this
  · rcases hi with hi | rfl
    · exact Nat.lt_succ_of_lt (hr.next i hi)
    · exact Nat.lt_succ_self _
  · rcases hi with hi | rfl
    · exact hr.old i hi
    · exact .inr hr.low
/-- a box of which more is said -/
theorem box_more {G : Ghost} {w : World} {bid j : Nat} {cells : List AV} {a : AV} {L0 : Heap} (h : Holds G w ((bid, .box cells) :: L0)) (hs : ∀ arr E fr, w.heap[G.loc bid]? = some (.cells arr E fr) → Sim G a (arr.getD j undef)) :
    Holds G w ((bid, .box (setA cells j a)) :: L0) ∧ ∀ G0 w0 H0, Step G0 w0 H0 G w ((bid, .box cells) :: L0) → Step G0 w0 H0 G w ((bid, .box (setA cells j a)) :: L0) := by
  have hb0 : blocksOf G ((bid, .box (setA cells j a)) :: L0) = blocksOf G ((bid, .box cells) :: L0) := by unfold blocksOf; simp [List.filterMap_cons, Ghost.placed]
  have hnew : ResHolds G w (bid, .box (setA cells j a)) := by
    obtain ⟨g0, arr, E, fr, g1, g2, g3, g4⟩ := h.res (bid, .box cells) (by simp)
    refine ⟨g0, arr, E, fr, g1, by rw [setA_eq]; simpa using g2, g3, fun i b hb => ?_⟩
    rw [setA_eq, List.getElem?_set] at hb
    split at hb
    · rename_i e
      subst e
      split at hb
      · cases hb; exact hs _ _ _ g1
      · cases hb
    · exact g4 i b hb
  refine ⟨⟨h.X, fun r hm => ?_, by simpa using h.ids, fun r hm => ?_, by rw [hb0]; exact h.blocks, by rw [hb0]; exact h.lits⟩, fun G0 w0 H0 st => ⟨st.os, st.tape, st.output, st.size, st.base, st.X, st.frame, st.newX, by rw [hb0]; exact st.newB, st.live, by simpa using st.newI, st.lits, st.newL⟩⟩
  · simp only [List.mem_cons] at hm
    rcases hm with rfl | hm
    · exact hnew
    · exact h.res _ (by simp [hm])
  · simp only [List.mem_cons] at hm
    rcases hm with rfl | hm
    · exact h.live (bid, .box cells) (by simp)
    · exact h.live _ (by simp [hm])
theorem run_overlaps_box {P : Program} (w : World) (tS tR e : TypeId) (ht : P.underlying tS = some (.slice e)) (size : Nat) (hz : ∀ w, (Go.sizeOf e).run P w = .ok size w)
    (a : Addr) (base : Option Addr) (la ca lb cb : Nat) {va : Value} (hva : w.cell? a = some va) (hb : lb ≠ 0 → ∃ b, base = some b ∧ a.block ≠ b.block ∧ b.spot = none ∧ (∃ q, w.shape? b.block = some q) ∧ ∀ i, w.frozen? ⟨b.block, i, none⟩ = false) :
    (Extern.SlicesOverlaps.overlaps #[tS, tS] #[tR] #[.slice (some a) la ca, .slice base lb cb]).run P w = .ok (.bool false) w := by
  obtain ⟨tA, kA, hsa, hlt, hsp⟩ : ∃ tA kA, w.shape? a.block = some (tA, kA) ∧ a.off < kA ∧ a.spot = none := by
    unfold World.cell? at hva; unfold World.shape?
    split at hva
    · rename_i c e fr hh
      split at hva
      · cases hva
      · rename_i h
        exact ⟨_, _, rfl, (Array.getElem?_eq_some_iff.1 hva).1, by simpa using h⟩
    · cases hva
  cases kA with
  | zero => omega
  | succ kA =>
  by_cases h0 : la = 0 ∨ lb = 0 ∨ size = 0
  · have key : ∀ (m1 m2 : String) (q : Sem Nat), Sem.run P (α := Value) (do
      let some t := (#[tS, tS] : Array TypeId)[0]? | stuck m1
      let .slice elem ← underlying t | stuck m2
      let size ← sizeOf elem
      match (some a : Option Addr), base with
      | some a, some b =>
        if la = 0 ∨ lb = 0 ∨ size = 0 then pure (Value.bool false)
        else if a.block != b.block && (← frozen a) && (← frozen b) then unsupported .addressObserved
        else do
          if a.block != b.block then do
            noView a; noView b
            if ← mayBeOne a b then return Value.bool ((← q) == 1)
          pure (Value.bool (a.block == b.block && a.off < b.off + lb * size && b.off < a.off + la * size))
      | _, _ => pure (Value.bool false)) w = .ok (.bool false) w := by
      intro m1 m2 q
      cases base with
      | none => simp [run_underlying ht, hz]
      | some b => simp [run_underlying ht, hz, h0]
    exact key "" _ _
  · obtain ⟨b, rfl, hne, hbs', ⟨⟨tB, kB⟩, hshb⟩, hfz⟩ := hb fun h => h0 (.inr (.inl h))
    have hnb : (a.block != b.block) = true := by simpa using hne
    have hnb' : (a.block == b.block) = false := by simpa using hne
    have hfb : w.frozen? b = false := by
      have := hfz b.off
      unfold World.frozen? at this ⊢
      exact this
    have key : ∀ (m1 m2 : String) (q : Sem Nat), Sem.run P (α := Value) (do
      let some t := (#[tS, tS] : Array TypeId)[0]? | stuck m1
      let .slice elem ← underlying t | stuck m2
      let size ← sizeOf elem
      match (some a : Option Addr), (some b : Option Addr) with
      | some a, some b =>
        if la = 0 ∨ lb = 0 ∨ size = 0 then pure (Value.bool false)
        else if a.block != b.block && (← frozen a) && (← frozen b) then unsupported .addressObserved
        else do
          if a.block != b.block then do
            noView a; noView b
            if ← mayBeOne a b then return Value.bool ((← q) == 1)
          pure (Value.bool (a.block == b.block && a.off < b.off + lb * size && b.off < a.off + la * size))
      | _, _ => pure (Value.bool false)) w = .ok (.bool false) w := by
      intro m1 m2 q
      cases hfa : w.frozen? a <;>
      simp [run_underlying ht, hz, h0, hnb, hnb', frozen, noView, viewAt, mayBeOne, stringish, shape, Sem.run, hsa, hshb, hfb, hfa, hfz, hsp, hbs']
    exact key "" _ _
/-- two lists, of which one may be written: they lie apart -/
theorem ext_ov {P : Program} {f : FuncId} {fn : Func} {tS tR e : TypeId} (hf : P.funcs[f]? = some fn) (hname : (fn.name == "runtime.NumGoroutine") = false) (hb : fn.body.isNone = true) (hn : Extern.findNext fn = none) (he : Extern.find fn = some (Extern.SlicesOverlaps.overlaps #[tS, tS] #[tR]))
    (ht : P.underlying tS = some (.slice e)) (size : Nat) (hz : ∀ w, (Go.sizeOf e).run P w = .ok size w) {row : List AV} {rs : List (List AV)} {off m c k : Nat} {rows : List (List AV)} (hrow : row ≠ []) (hne : rows.length + k ≠ 0) :
    ACalls P f 1 1 [.list (row :: rs) .free, .arr 0 off m c] [(0, .seq rows k)] fun out H' => out = .ret (.v (.bool false)) ∧ H' = [(0, .seq rows k)] := by
  intro G w vals h1 h2 h3 h4 h5 h6
  obtain ⟨va, vb, rfl⟩ : ∃ va vb, vals = #[va, vb] := by
    have h7 : vals.size = 2 := by simpa using h5.symm
    refine ⟨vals.getD 0 undef, vals.getD 1 undef, ?_⟩
    apply Array.ext
    · rw [h7]; rfl
    · intro i hi hi2
      have : i = 0 ∨ i = 1 := by have : i < 2 := by simpa using hi2
                                 omega
      rcases this with rfl | rfl <;> simp [Array.getD, hi]
  have ha : Sim G (.list (row :: rs) .free) va := h6 0 _ rfl
  have hb' : Sim G (.arr 0 off m c) vb := h6 1 _ rfl
  obtain ⟨b, o, c', s, y, rfl, hr, hX, hS, h1c⟩ := ha.list_inv.1.pos (by simp)
  obtain ⟨base, rfl, hlive, hnc, hcm, hbs⟩ := hb'.arr_inv
  cases row with
  | nil => exact absurd rfl hrow
  | cons a0 row =>
  have hx0 := hX 0 (a0 :: row) 0 a0 rfl rfl
  have hcell := h4.X _ _ _ hx0
  simp only [Nat.zero_mul, Nat.add_zero] at hcell hx0
  obtain ⟨⟨g0, arr, E, fr, g1, g2, g3, g4⟩, _⟩ := h4.res (0, .seq rows k) (by simp) hne
  refine .inr ⟨.bool false, w, ?_, G, .ret (.v (.bool false)), [(0, .seq rows k)], ⟨rfl, rfl⟩, .data _ _ (.v _), h4, Step.refl _ _ _, fun id h => .inl h⟩
  rw [Go.run_callFunc_extern hf hname hb hn he, run_overlaps_box w tS tR e ht size hz ⟨b, o, none⟩ base _ c' m c hcell fun hm => ?_]
  · rfl
  · refine ⟨_, hbs (by omega), fun e => ?_, rfl, ⟨(E, arr.size), by unfold World.shape?; rw [g1]⟩, g3⟩
    have e' : b = G.loc 0 := e
    rw [e', g0] at hx0; cases hx0
theorem asrc_seq {L : Heap} {sz : Nat} {y : AV} {lim : Nat → Nat} {id off m cp k : Nat} {rows : List (List AV)} {cs : List AV} {K : Nat → List AV → Prop} (hy : y = .arr id off m cp) (hf : findL L id = some (.seq rows k)) (h0 : lim m ≤ m) (h1 : off + lim m * sz ≤ (seqC rows k).length)
    (hcs : ((seqC rows k).drop off).take (lim m * sz) = cs) (h2 : cs.all AV.one = true) (h : K m cs) : asrc L sz lim y K := by
  subst hy; subst hcs
  unfold asrc
  simp only [hf]
  exact ⟨h0, h1, h2, h⟩
theorem seqC_len {sz k : Nat} {rows : List (List AV)} (h : ∀ row ∈ rows, row.length = sz) : (seqC rows k).length = rows.length * sz + k := by
  unfold seqC; rw [List.length_append, List.length_replicate, flatten_length h]
theorem put_mid (A B C cs : List AV) (h : cs.length = B.length) : putCells (A ++ (B ++ C)) A.length cs = A ++ (cs ++ C) := by
  unfold putCells
  rw [List.take_left, h, ← List.append_assoc A, List.drop_append, List.drop_eq_nil_of_le (by simp)]
  simp
theorem RowsOk.take {sz : Nat} {rows : List (List AV)} (h : RowsOk sz rows) (i : Nat) : RowsOk sz (rows.take i) := by
  have hm : ∀ a ∈ (rows.take i).flatten, a ∈ rows.flatten := fun a ha => by
    obtain ⟨r, h1, h2⟩ := List.mem_flatten.1 ha
    exact List.mem_flatten.2 ⟨r, List.mem_of_mem_take h1, h2⟩
  exact ⟨fun row hr => h.len row (List.mem_of_mem_take hr), List.all_eq_true.2 fun a ha => List.all_eq_true.1 h.one a (hm a ha), fun a ha => h.pure a (hm a ha)⟩
theorem RowsOk.drop {sz : Nat} {rows : List (List AV)} (h : RowsOk sz rows) (i : Nat) : RowsOk sz (rows.drop i) := by
  have hm : ∀ a ∈ (rows.drop i).flatten, a ∈ rows.flatten := fun a ha => by
    obtain ⟨r, h1, h2⟩ := List.mem_flatten.1 ha
    exact List.mem_flatten.2 ⟨r, List.mem_of_mem_drop h1, h2⟩
  exact ⟨fun row hr => h.len row (List.mem_of_mem_drop hr), List.all_eq_true.2 fun a ha => List.all_eq_true.1 h.one a (hm a ha), fun a ha => h.pure a (hm a ha)⟩
/-- rows behind a place, as cells -/
theorem seq_from {sz : Nat} {rows : List (List AV)} (h : ∀ row ∈ rows, row.length = sz) (i k : Nat) (hi : i ≤ rows.length) : (seqC rows k).drop (i * sz) = (rows.drop i).flatten ++ List.replicate k .dead := by
  unfold seqC
  have hl : (rows.take i).flatten.length = i * sz := by rw [flatten_length (fun row hr => h row (List.mem_of_mem_take hr)), List.length_take, Nat.min_eq_left hi]
  conv => lhs; rw [← List.take_append_drop i rows, List.flatten_append, List.append_assoc, ← hl, List.drop_left]
theorem seq_split {sz : Nat} {rows : List (List AV)} (h : ∀ row ∈ rows, row.length = sz) (i k : Nat) : seqC rows k = (rows.take i).flatten ++ ((rows.drop i).flatten ++ List.replicate k .dead) := by
  unfold seqC
  conv => lhs; rw [← List.take_append_drop i rows, List.flatten_append, List.append_assoc]
/-- room for one in the middle -/
theorem put_up {sz k i : Nat} {rows : List (List AV)} {r : List AV} (h : ∀ row ∈ rows, row.length = sz) (hi : rows[i]? = some r) (hk : sz ≤ k) : putCells (seqC rows k) ((i + 1) * sz) (rows.drop i).flatten = seqC (rows.take i ++ r :: rows.drop i) (k - sz) := by
  obtain ⟨hlt, hr⟩ := List.getElem?_eq_some_iff.1 hi
  have hd : rows.drop i = r :: rows.drop (i + 1) := by rw [List.drop_eq_getElem_cons hlt, hr]
  have hrl : r.length = sz := h r (List.mem_of_getElem? hi)
  have hA : ((rows.take i).flatten ++ r).length = (i + 1) * sz := by
    rw [List.length_append, flatten_length (fun row hr => h row (List.mem_of_mem_take hr)), List.length_take, Nat.min_eq_left (by omega), hrl, Nat.succ_mul]
  have hB : ∀ m, (rows.drop m).flatten.length = (rows.length - m) * sz := fun m => by
    rw [flatten_length (fun row hr => h row (List.mem_of_mem_drop hr)), List.length_drop]
  obtain ⟨j, hj⟩ : ∃ j, rows.length - i = j + 1 := ⟨rows.length - i - 1, by omega⟩
  have e1 : seqC rows k = ((rows.take i).flatten ++ r) ++ (((rows.drop (i + 1)).flatten ++ List.replicate sz .dead) ++ List.replicate (k - sz) .dead) := by
    rw [seq_split h i, hd, List.flatten_cons]
    simp only [List.append_assoc]
    congr 3
    rw [List.replicate_append_replicate]
    congr 1; omega
  rw [e1, ← hA, put_mid]
  · unfold seqC
    rw [List.flatten_append, List.flatten_cons]
    simp only [List.append_assoc]
  · rw [hB, List.length_append, hB, List.length_replicate, hj, show rows.length - (i + 1) = j by omega, Nat.succ_mul]
theorem put_one {sz k i : Nat} {rows : List (List AV)} {row : List AV} (h : ∀ row ∈ rows, row.length = sz) (hi : i < rows.length) (hr : row.length = sz) : putCells (seqC rows k) (i * sz) row = seqC (rows.set i row) k := by
  have hg : rows[i]? = some rows[i] := List.getElem?_eq_getElem hi
  have := flat_put (j := 0) (l := row) h hg (by omega) k
  rw [Nat.add_zero] at this
  rw [this]
  congr 2
  have hrl : rows[i].length = sz := h _ (List.getElem_mem hi)
  unfold putCells
  rw [List.take_zero, List.nil_append, List.drop_eq_nil_of_le (by omega), List.append_nil]
theorem put_end {sz k : Nat} {rows rows2 : List (List AV)} (h : ∀ row ∈ rows, row.length = sz) (h2 : ∀ row ∈ rows2, row.length = sz) (hk : rows2.length * sz ≤ k) : putCells (seqC rows k) (rows.length * sz) rows2.flatten = seqC (rows ++ rows2) (k - rows2.length * sz) := by
  unfold seqC
  rw [← flatten_length h, putCells_end (by rw [flatten_length h2]; exact hk), flatten_length h2, List.flatten_append]
section
variable {P : Program} {TT : Types} {o : Oper} {s : List AV} {L : Heap} {n : Nat}
/-- copy(s[i+1:], s[i:]) -/
theorem a_copyUp {K KP : AV → Heap → Nat → Prop} {c : Call} {x y : Operand} {t tx e : TypeId} {te : TI} {id off off2 nn mm cp cp2 k k2 i sz : Nat} {r : List AV} {rows : List (List AV)} {L0 : Heap} (ho : o.op = .call c) (hk : opKind o = .mem) (hc : c.callee = .builtin .copy) (ha : c.args.toList = [x, y]) (hty : c.argTypes.toList = [t, tx])
    (hkt : kindT TT t = .slice e) (hte : TT e = some te) (hx : ev s x = .arr id off nn cp) (hy : ev s y = .arr id off2 mm cp2) (hta : ∀ k' : Res → Heap → Prop, k' (.seq rows k) L0 → takeO L id k') (hf : findL L id = some (.seq rows k)) (hsz : te.size = sz) (hR : RowsOk sz rows) (hr : rows[i]? = some r)
    (hoff : off = (i + 1) * sz) (hoff2 : off2 = i * sz) (hnn : nn = rows.length - i) (hmm : mm = rows.length + 1 - i) (hkk : sz ≤ k) (hk2 : k - sz = k2) (h : ∀ q : Int, K (.v (.int .i64 q)) ((id, .seq (rows.take i ++ r :: rows.drop i) k2) :: L0) n) : aop P TT o s L n K KP := by
  subst hk2
  subst hoff; subst hoff2; subst hsz; subst hnn
  have hlt := (List.getElem?_eq_some_iff.1 hr).1
  have hmin : Nat.min mm (rows.length - i) = rows.length - i := Nat.min_eq_right (by omega)
  have hmul : i * te.size + (rows.length - i) * te.size = rows.length * te.size := by rw [← Nat.add_mul]; congr 1; omega
  refine a_copyS ho hk hc ha hty hkt hte hx hta (m := mm) (cs := (rows.drop i).flatten) (fun K h => asrc_seq hy hf (Nat.min_le_left _ _) ?_ ?_ ?_ h) (by omega) ?_ (put_up hR.len hr hkk) ?_ (h _)
  · rw [hmin, seqC_len hR.len]; omega
  · rw [hmin, seq_from hR.len i k (by omega), List.take_append_of_le_length]
    · rw [List.take_of_length_le]
      rw [flatten_length (hR.drop i).len, List.length_drop]; exact Nat.le_refl _
    · rw [flatten_length (hR.drop i).len, List.length_drop]; exact Nat.le_refl _
  · exact (hR.drop i).one
  · rw [hmin, seqC_len hR.len, Nat.succ_mul]; omega
  · intro a ha
    have h1 := (hR.take i).pure
    have h2 := (hR.drop i).pure
    rw [List.flatten_append, List.flatten_cons, List.mem_append, List.mem_append] at ha
    rcases ha with ha | ha | ha
    · exact h1 a ha
    · exact hR.pure a (List.mem_flatten.2 ⟨r, List.mem_of_getElem? hr, ha⟩)
    · exact h2 a ha
/-- copy(s[i:], v): one row -/
theorem a_copyOne {K KP : AV → Heap → Nat → Prop} {c : Call} {x y : Operand} {t tx e : TypeId} {te : TI} {id off nn cp k i sz : Nat} {row : List AV} {own : Own} {rows rows' : List (List AV)} {L0 : Heap} (ho : o.op = .call c) (hk : opKind o = .mem) (hc : c.callee = .builtin .copy) (ha : c.args.toList = [x, y]) (hty : c.argTypes.toList = [t, tx])
    (hkt : kindT TT t = .slice e) (hte : TT e = some te) (hx : ev s x = .arr id off nn cp) (hy : ev s y = .list [row] own) (hta : ∀ k' : Res → Heap → Prop, k' (.seq rows k) L0 → takeO L id k') (hsz : te.size = sz) (hR : RowsOk sz rows) (hrow : row.length = sz) (hpr : ∀ a ∈ row, a.pure = true) (hi : i < rows.length)
    (hoff : off = i * sz) (hnn : 1 ≤ nn) (hrows : rows.set i row = rows') (h : ∀ q : Int, K (.v (.int .i64 q)) ((id, .seq rows' k) :: L0) n) : aop P TT o s L n K KP := by
  subst hoff; subst hsz; subst hrows
  have hmin : Nat.min 1 nn = 1 := Nat.min_eq_left hnn
  refine a_copyS ho hk hc ha hty hkt hte hx hta (m := 1) (cs := row) (fun K h => ?_) (by omega) ?_ (put_one hR.len hi hrow) ?_ (h _)
  · rw [hy]
    refine ⟨fun q hq => ?_, Nat.min_le_left _ _, ?_⟩
    · rw [List.mem_singleton.1 hq]; exact hrow
    · show K 1 (List.take (Nat.min 1 nn * te.size) [row].flatten)
      rw [hmin, Nat.one_mul, List.flatten_cons, List.flatten_nil, List.append_nil, List.take_of_length_le (Nat.le_of_eq hrow)]
      exact h
  · rw [hmin, seqC_len hR.len, Nat.one_mul, ← Nat.succ_mul]
    exact Nat.le_trans (Nat.mul_le_mul_right te.size hi) (Nat.le_add_right _ _)
  · intro a ha
    obtain ⟨q, hq, hm⟩ := List.mem_flatten.1 ha
    rcases List.mem_or_eq_of_mem_set hq with h1 | rfl
    · exact hR.pure a (List.mem_flatten.2 ⟨q, h1, hm⟩)
    · exact hpr a hm
/-- a copy to the end of what is known -/
theorem a_copyEnd {K KP : AV → Heap → Nat → Prop} {c : Call} {x y : Operand} {t tx e : TypeId} {te : TI} {id off nn cp k k2 m sz : Nat} {rows rows2 rows' : List (List AV)} {L0 : Heap} (ho : o.op = .call c) (hk : opKind o = .mem) (hc : c.callee = .builtin .copy) (ha : c.args.toList = [x, y]) (hty : c.argTypes.toList = [t, tx])
    (hkt : kindT TT t = .slice e) (hte : TT e = some te) (hx : ev s x = .arr id off nn cp) (hy : ∀ K : Nat → List AV → Prop, K m rows2.flatten → asrc L te.size (fun m => Nat.min m nn) (ev s y) K) (hta : ∀ k' : Res → Heap → Prop, k' (.seq rows k) L0 → takeO L id k') (hsz : te.size = sz) (hR : RowsOk sz rows) (hR2 : RowsOk sz rows2)
    (hm : Nat.min m nn = rows2.length) (hoff : off = rows.length * sz) (hkk : rows2.length * sz ≤ k) (hne : rows.length + k ≠ 0) (hrows : rows ++ rows2 = rows') (hk2 : k - rows2.length * sz = k2) (h : ∀ q : Int, K (.v (.int .i64 q)) ((id, .seq rows' k2) :: L0) n) : aop P TT o s L n K KP := by
  subst hoff; subst hsz; subst hrows; subst hk2
  refine a_copyS ho hk hc ha hty hkt hte hx hta (m := m) (cs := rows2.flatten) hy hne ?_ (put_end hR.len hR2.len hkk) (pure_app hR.pure hR2.pure) (h _)
  rw [hm, seqC_len hR.len]; omega
theorem asrc_rows {L : Heap} {sz : Nat} {y : AV} {rows : List (List AV)} {own : Own} {nn : Nat} {K : Nat → List AV → Prop} (hy : y = .list rows own) (hr : ∀ row ∈ rows, row.length = sz) (hn : rows.length ≤ nn) (h : K rows.length rows.flatten) : asrc L sz (fun m => Nat.min m nn) y K := by
  subst hy
  refine ⟨hr, Nat.min_le_left _ _, ?_⟩
  show K _ (List.take (Nat.min rows.length nn * sz) _)
  rw [show Nat.min rows.length nn = rows.length from Nat.min_eq_left hn, ← flatten_length hr, List.take_length]; exact h
theorem asrc_drop {L : Heap} {sz : Nat} {y : AV} {id off i m cp k nn : Nat} {rows : List (List AV)} {K : Nat → List AV → Prop} (hy : y = .arr id off m cp) (hf : findL L id = some (.seq rows k)) (hR : RowsOk sz rows) (hi : i ≤ rows.length) (hoff : off = i * sz) (hm : m = rows.length - i) (hn : m ≤ nn) (h : K m (rows.drop i).flatten) : asrc L sz (fun m => Nat.min m nn) y K := by
  have hmin : Nat.min m nn = m := Nat.min_eq_left hn
  have hmul : i * sz + (rows.length - i) * sz = rows.length * sz := by rw [← Nat.add_mul]; congr 1; omega
  subst hoff
  refine asrc_seq hy hf (Nat.min_le_left _ _) ?_ ?_ (hR.drop i).one h
  · show i * sz + Nat.min m nn * sz ≤ _
    rw [hmin, seqC_len hR.len, hm]; omega
  · show List.take (Nat.min m nn * sz) _ = _
    have hfl := flatten_length (hR.drop i).len
    rw [List.length_drop] at hfl
    rw [hmin, hm, seq_from hR.len i k hi, List.take_append_of_le_length (by omega), List.take_of_length_le (by omega)]
end
section
variable {P : Program} {TT : Types} {s : List AV} {L : Heap} {n : Nat}
theorem c_l3 {D : Dr} {Kk : Kc} {x : Code} {α β γ : Type} (S : α → β → γ → ASt) (C : α → β → γ → Prop) (μ : α → β → γ → Nat) (a : α) (b : β) (c : γ) (ha : C a b c) (hc : Conv ⟨s, L, n⟩ (S a b c))
    (hround : ∀ a b c, C a b c → acode P TT D x (S a b c).slots (S a b c).L (S a b c).next (loopK D.low (fun p : α × β × γ => S p.1 p.2.1 p.2.2) (fun p => C p.1 p.2.1 p.2.2) (fun p => μ p.1 p.2.1 p.2.2) (a, b, c) Kk)) : acode P TT D (.loop x) s L n Kk :=
  c_loop' (fun p : α × β × γ => S p.1 p.2.1 p.2.2) (fun p => C p.1 p.2.1 p.2.2) (fun p => μ p.1 p.2.1 p.2.2) (a := (a, b, c)) ha hc fun p h => hround p.1 p.2.1 p.2.2 h
end
theorem q_loadAt {P : Program} {TT : Types} {o : Oper} {s : List AV} {L : Heap} {t : TypeId} {x : Operand} {ti : TI} {id off : Nat} {cells : List AV} {av : AV} (ho : o.op = .load t x) (ht : TT t = some ti) (hx : ev s x = .ptr id off) (hf : findL L id = some (.box cells)) (hk : isAggK ti.kind = false) (hc : cells[off]? = some av) : ∀ K : AV → Prop, K av → aq P TT L (ev s) (raw s) o fun x => fv x K := fun K h => by
  unfold aq; simp only [ho]; rw [ht, hx]
  simp only [opt1, aload, hf, hk, hc, Bool.false_eq_true, if_false, fv_eq]
  exact h
theorem aolds_take {L : Heap} {sz id off i cp k : Nat} {rows : List (List AV)} (hf : findL L id = some (.seq rows k)) (hR : RowsOk sz rows) (hi : i ≤ rows.length) (hoff : off = 0) : aolds L sz (.arr id off i cp) (rows.take i).flatten i cp := by
  subst hoff
  have hfl := flatten_length (hR.take i).len
  rw [List.length_take, Nat.min_eq_left hi] at hfl
  have hcut : ((seqC rows k).drop 0).take (i * sz) = (rows.take i).flatten := by
    rw [List.drop_zero, seq_split hR.len i, ← hfl, List.take_left]
  refine ⟨rfl, rfl, .inr (.inl ⟨rows, k, hf, ?_, ?_, hcut.symm⟩)⟩
  · rw [seqC_len hR.len]
    have := Nat.mul_le_mul_right sz hi
    omega
  · rw [hcut]; exact (hR.take i).one
/-- one more in the middle -/
def insAt {α : Type} (l : List α) (i : Nat) (x : α) : List α := l.take i ++ x :: l.drop i
theorem insAt_len {α : Type} {l : List α} {i : Nat} (x : α) (h : i ≤ l.length) : (insAt l i x).length = l.length + 1 := by simp [insAt]; omega
theorem insAt_end {α : Type} (l : List α) (x : α) : insAt l l.length x = l ++ [x] := by simp [insAt]
theorem insAt_map {α β : Type} (f : α → β) (l : List α) (i : Nat) (x : α) : insAt (l.map f) i (f x) = (insAt l i x).map f := by simp [insAt, List.map_take, List.map_drop]
theorem ins_set {rows : List (List AV)} {i : Nat} {r row : List AV} (hi : i < rows.length) : (rows.take i ++ r :: rows.drop i).set i row = insAt rows i row := by
  unfold insAt
  rw [List.set_append_right _ _ (by simp; omega), List.length_take, Nat.min_eq_left (by omega), Nat.sub_self, List.set_cons_zero]
end Go.Am
namespace Go.Am
open Go.RowKit
set_option linter.unusedSimpArgs false
set_option linter.unusedVariables false
theorem seal_rel {B : Base} {G : Ghost} {a : Act} {w : World} {s : List AV} {L L0 : Heap} {n id off m cp sz : Nat} {cells : List AV} {rows : List (List AV)} (hrel : Rel B No G ⟨s, L, n⟩ a w) (hp : L.Perm ((id, .box cells) :: L0)) (hr : ∀ row ∈ rows, row.length = sz) (hm : rows.length = m)
    (hd : ∀ i a', rows.flatten[i]? = some a' → ∃ a, cells[off + i]? = some a ∧ a.seal = some a' ∧ a.one = true) : ∃ G', Rel B No G' ⟨s, L0, n⟩ a w ∧ (∀ x, Sim G (.arr id off m cp) x → Sim G' (.list rows .free) x) ∧ G'.loc = G.loc := by
  have h5 : Holds G w ((id, .box cells) :: L0) := hrel.holds.perm hp
  have hst : Step B.G B.w B.H G w ((id, .box cells) :: L0) := hrel.step.perm (.refl _) hp
  obtain ⟨h0, arr, E, fr, hh, hsz, hf, hcs⟩ := h5.res (id, .box cells) (by simp)
  have hbl : blocksOf G ((id, .box cells) :: L0) = G.loc id :: blocksOf G L0 := rfl
  have hnd := h5.blocks
  rw [hbl] at hnd
  obtain ⟨hnd1, hnd2⟩ := List.nodup_cons.1 hnd
  have hids := h5.ids
  simp only [List.map_cons] at hids
  obtain ⟨hi1, hi2⟩ := List.nodup_cons.1 hids
  generalize hG : G.sealed (G.loc id) arr cells.length = G'
  have e1 : ∀ b i, G'.X b i = if b = G.loc id then (if i < cells.length then arr[i]? else none) else G.X b i := fun b i => by rw [← hG]; rfl
  have e2 : G'.loc = G.loc := by rw [← hG]; rfl
  have e3 : G'.tk = G.tk := by rw [← hG]; rfl
  have e4 : G'.live = G.live := by rw [← hG]; rfl
  have e5 : G'.lits = G.lits := by rw [← hG]; rfl
  have e6 : G'.base = G.base := by rw [← hG]; rfl
  have hX : ∀ b i v, G.X b i = some v → G'.X b i = some v := fun b i v h => by
    rw [e1, if_neg]
    · exact h
    · rintro rfl
      rw [h0 i] at h; cases h
  have hsim : ∀ a x, Sim G a x → Sim G' a x := fun a x h => h.mono hX fun i hi => ⟨by rw [e4]; exact hi, by rw [e2], .inl (by rw [e3])⟩
  have hbl' : blocksOf G' L0 = blocksOf G L0 := filterMap_same fun r _ => placed_same (by rw [e2]) (by rw [e3])
  have hcell : ∀ (i : Nat) (a' : AV), rows.flatten[i]? = some a' → G'.X (G.loc id) (off + i) = some (arr.getD (off + i) undef) ∧ SimD G'.X a' (arr.getD (off + i) undef) ∧ (arr.getD (off + i) undef).oneCell' = true := fun i a' h => by
    obtain ⟨a, k1, k2, k3⟩ := hd i a' h
    have h2 := (List.getElem?_eq_some_iff.1 k1).1
    have h3 := hcs _ a k1
    refine ⟨?_, ((h3.seal k2).mono hX), h3.one k3⟩
    rw [e1, if_pos rfl, if_pos h2]
    have : off + i < arr.size := by omega
    simp [this]
  have hlist : ∀ x, Sim G (.arr id off m cp) x → SimD G'.X (.list rows .free) x := fun x hx => by
    obtain ⟨base, rfl, hlive, hnc, hcm, hbs⟩ := hx.arr_inv
    subst hm
    by_cases h00 : rows = []
    · subst h00
      exact .nil .free base cp hcm (by simp) (.inl rfl)
    · have hpos : 0 < rows.length := List.length_pos_iff.2 h00
      obtain rfl := hbs (by omega)
      refine .list rows .free (G.loc id) off cp sz (fun i j => arr.getD (off + (i * sz + j)) undef) hnc hcm (by simp) (.inl rfl) hr (fun i row q a h1 h2 => ?_) (fun i row q a h1 h2 => ?_) (fun i row q a h1 h2 => ?_)
      all_goals
        obtain ⟨c1, c2, c3⟩ := hcell _ _ (flat_get hr h1 h2)
      · rw [Nat.add_assoc]; exact c1
      · exact c2
      · exact c3
  refine ⟨G', ⟨hrel.size, fun i hi => (hrel.slots i hi).mono (by rw [e5]; exact fun _ h => h) hsim, hrel.defers, ⟨fun b i v hxv => ?_, fun r hr' => ?_, hi2, fun r hr' => ?_, by rw [hbl']; exact hnd2, fun b hb => ?_⟩, ⟨hst.os, hst.tape, hst.output, hst.size, by rw [e6]; exact hst.base, fun b i v h => hX _ _ _ (hst.X b i v h), hst.frame, fun b i v hxv => ?_, fun b hb => ?_, fun i hi => ?_, fun i hi => ?_, by rw [e5]; exact hst.lits, by rw [e5]; exact hst.newL⟩, by rw [e4]; exact hrel.next, by rw [e6]; exact hrel.base, hrel.low, by rw [e4]; exact hrel.old⟩, fun x hx => .data _ _ (hlist x hx), e2⟩
  · rw [e1] at hxv
    split at hxv
    · rename_i hb
      subst hb
      split at hxv
      · simp only [World.cell?, hh]
        simpa using hxv
      · cases hxv
    · exact h5.X _ _ _ hxv
  · refine (h5.res r (List.mem_cons_of_mem _ hr')).keep (by rw [e2]) (by rw [e3]) hsim fun b hb => ⟨rfl, fun i v hxv => ?_⟩
    rw [e1, if_neg] at hxv
    · exact hxv
    · rintro rfl
      exact hnd1 (List.mem_filterMap.2 ⟨r, hr', hb⟩)
  · rw [e4]; exact h5.live r (List.mem_cons_of_mem _ hr')
  · rw [e5] at hb
    obtain ⟨q1, q2, q3⟩ := h5.lits b hb
    refine ⟨by rw [e6]; exact q1, q2, ?_⟩
    rw [hbl']
    rw [hbl] at q3
    exact fun hm' => q3 (List.mem_cons_of_mem _ hm')
  · rw [e1] at hxv
    split at hxv
    · rename_i hb
      subst hb
      rcases hst.newB (G.loc id) (by rw [hbl]; simp) with h | h
      · exact .inr (.inr h)
      · exact .inr (.inl h)
    · exact hst.newX _ _ _ hxv
  · rw [hbl'] at hb
    exact hst.newB b (by rw [hbl]; exact List.mem_cons_of_mem _ hb)
  · rw [e4, e2, e3]; 
    obtain ⟨k1, k2, k3⟩ := hst.live i hi
    exact ⟨k1, k2, k3⟩
  · exact hst.newI i (by simp only [List.map_cons]; exact List.mem_cons_of_mem _ hi)
/-- a list that is named in an object's cell, and written no more -/
theorem Conv.freezeBox {s : List AV} {L L0 : Heap} {n j id bid m cp k sz : Nat} {rows : List (List AV)} {cells : List AV} (hp : L.Perm ((id, .seq rows k) :: (bid, .box cells) :: L0)) (hj : cells[j]? = some (.arr id 0 m cp)) (hR : RowsOk sz rows) (hm : rows.length = m) :
    Conv ⟨s, L, n⟩ ⟨s, (bid, .box (setA cells j (.list rows .free))) :: L0, n⟩ := fun B G a w hr => by
  by_cases hne : rows.length + k = 0
  · have e1 : rows = [] := List.eq_nil_of_length_eq_zero (by omega)
    subst e1
    simp only [List.length_nil] at hm
    subst hm
    obtain ⟨G1, h1⟩ := (Conv.to (τ := ⟨s, (bid, .box cells) :: L0, n⟩) [(id, .seq [] k)] (.refl s) (hp.trans (List.perm_append_comm (l₁ := [(id, Res.seq [] k)]))) (Nat.le_refl _)) B G a w hr
    obtain ⟨g0, arr, E, fr, g1, g2, g3, g4⟩ := h1.holds.res (bid, .box cells) (by simp)
    obtain ⟨r1, r2⟩ := box_more (j := j) h1.holds (a := .list [] .free) fun arr' E' fr' h => by
      rw [g1] at h
      simp only [Option.some.injEq, Obj.cells.injEq] at h
      obtain ⟨rfl, rfl, rfl⟩ := h
      obtain ⟨base, hv, _, _, hc, _⟩ := (g4 j _ hj).arr_inv
      rw [hv]
      exact .data _ _ (.nil _ _ _ hc (by simp) (.inl rfl))
    exact ⟨G1, h1.size, h1.slots, h1.defers, r1, r2 _ _ _ h1.step, h1.next, h1.base, h1.low, h1.old⟩
  · obtain ⟨G0, h0⟩ := Conv.unseq hne hp B G a w hr
    obtain ⟨g0, arr, E, fr, g1, g2, g3, g4⟩ := h0.holds.res (bid, .box cells) (by simp)
    obtain ⟨G1, h1, h2, h3⟩ := seal_rel (off := 0) (cp := cp) h0 (.refl _) hR.len hm fun i a ha => ⟨a, by
      rw [Nat.zero_add]; unfold seqC
      rw [List.getElem?_append_left (List.getElem?_eq_some_iff.1 ha).1]; exact ha, AV.seal_pure (hR.pure a (List.mem_of_getElem? ha)), List.all_eq_true.1 hR.one a (List.mem_of_getElem? ha)⟩
    obtain ⟨r1, r2⟩ := box_more (j := j) h1.holds (a := .list rows .free) fun arr' E' fr' h => by
      rw [h3, g1] at h
      simp only [Option.some.injEq, Obj.cells.injEq] at h
      obtain ⟨rfl, rfl, rfl⟩ := h
      exact h2 _ (g4 j _ hj)
    exact ⟨G1, h1.size, h1.slots, h1.defers, r1, r2 _ _ _ h1.step, h1.next, h1.base, h1.low, h1.old⟩
/-! BORROW -/
/-- all of memory, as it is read -/
def Ghost.mem (G : Ghost) (w : World) : Ghost := ⟨fun b i => w.cell? ⟨b, i, none⟩, G.loc, G.tk, fun _ => False, fun _ => False, w.heap.size⟩
/-- what a value is read as, where these objects lie -/
def Reads (H : Heap) (a a' : AV) : Prop := ∀ G w x, Holds G w H → Sim G a x → Sim (G.mem w) a' x
theorem Reads.data {H : Heap} {a : AV} (hp : a.pure = true) : Reads H a a := fun G w x hh hs => by
  cases hs with
  | data _ _ h => exact .data _ _ (h.mono fun b i v hx => hh.X b i v hx)
  | tok => simp [AV.pure] at hp
  | _ => simp [AV.pure] at hp
theorem Sim.dataP {G : Ghost} {a : AV} {x : Value} (h : Sim G a x) (hp : a.pure = true) : SimD G.X a x := by
  cases h with
  | data _ _ h => exact h
  | _ => simp [AV.pure] at hp
theorem Reads.fn {H : Heap} {f : FuncId} : Reads H (.fn f []) (.fn f []) := fun G w x hh hs => by
  cases hs with
  | data _ _ h => cases h
  | fn _ _ vs hl h => exact .fn f [] vs hl fun i a ha => by simp at ha
theorem Reads.agg {H : Heap} {l l' : List AV} (hl : l.length = l'.length) (h : ∀ (i : Nat) (a' : AV), l'[i]? = some a' → ∃ a, l[i]? = some a ∧ Reads H a a') : Reads H (.agg l) (.agg l') := fun G w x hh hs => by
  cases hs with
  | data _ _ h => cases h
  | agg _ vs h1 h2 =>
    refine .agg l' vs (by omega) fun i a' ha => ?_
    obtain ⟨a, h3, h4⟩ := h i a' ha
    exact h4 G w _ hh (h2 i a h3)
theorem Reads.box {H : Heap} {id off m cp sz : Nat} {cells : List AV} {rows : List (List AV)} (hb : ∀ G w, Holds G w H → rows ≠ [] → BoxHolds G w id cells) (hr : ∀ row ∈ rows, row.length = sz) (hm : rows.length = m)
    (hd : ∀ i a', rows.flatten[i]? = some a' → ∃ a, cells[off + i]? = some a ∧ Reads H a a' ∧ a'.pure = true ∧ a.one = true) : Reads H (.arr id off m cp) (.list rows .free) := fun G w x hh hs => by
  obtain ⟨base, rfl, hlive, hnc, hcm, hbs⟩ := hs.arr_inv
  by_cases h00 : rows = []
  · subst h00
    simp only [List.length_nil] at hm
    subst hm
    exact .data _ _ (.nil .free base cp hcm (by simp) (.inl rfl))
  · obtain ⟨g0, arr, E, fr, g1, g2, g3, g4⟩ := hb G w hh h00
    have hpos : 0 < rows.length := List.length_pos_iff.2 h00
    subst hm
    obtain rfl := hbs (by omega)
    have hcell : ∀ (i : Nat) (a' : AV), rows.flatten[i]? = some a' → (G.mem w).X (G.loc id) (off + i) = some (arr.getD (off + i) undef) ∧ SimD (G.mem w).X a' (arr.getD (off + i) undef) ∧ (arr.getD (off + i) undef).oneCell' = true := fun i a' h => by
      obtain ⟨a, k1, k2, k3, k4⟩ := hd i a' h
      have h2 := (List.getElem?_eq_some_iff.1 k1).1
      have h3 := g4 _ a k1
      have h5 := k2 G w _ hh h3
      refine ⟨?_, ?_, h3.one k4⟩
      · show w.cell? ⟨G.loc id, off + i, none⟩ = _
        have : off + i < arr.size := by omega
        simp [World.cell?, g1, this]
      · exact h5.dataP k3
    refine .data _ _ (.list rows .free (G.loc id) off cp sz (fun i j => arr.getD (off + (i * sz + j)) undef) hnc hcm (by simp) (.inl rfl) hr (fun i row q a h1 h2 => ?_) (fun i row q a h1 h2 => ?_) (fun i row q a h1 h2 => ?_))
    all_goals
      obtain ⟨c1, c2, c3⟩ := hcell _ _ (flat_get hr h1 h2)
    · rw [Nat.add_assoc]; exact c1
    · exact c2
    · exact c3
theorem Reads.boxes {H : Heap} {id off m cp sz : Nat} {cells : List AV} {rows : List (List AV)} (hm0 : (id, Res.box cells) ∈ H) (hr : ∀ row ∈ rows, row.length = sz) (hm : rows.length = m)
    (hd : ∀ i a', rows.flatten[i]? = some a' → ∃ a, cells[off + i]? = some a ∧ Reads H a a' ∧ a'.pure = true ∧ a.one = true) : Reads H (.arr id off m cp) (.list rows .free) :=
  .box (fun G w hh _ => hh.res _ hm0) hr hm hd
/-- a list that may be written, read -/
theorem Reads.seq {H : Heap} {id m cp k sz : Nat} {rows : List (List AV)} (hm0 : (id, Res.seq rows k) ∈ H) (hR : RowsOk sz rows) (hm : rows.length = m) : Reads H (.arr id 0 m cp) (.list rows .free) :=
  .box (cells := seqC rows k) (fun G w hh hne => (hh.res _ hm0 (by have := List.length_pos_iff.2 hne; omega)).1) hR.len hm fun i a ha => ⟨a, by
    rw [Nat.zero_add]; unfold seqC
    rw [List.getElem?_append_left (List.getElem?_eq_some_iff.1 ha).1]; exact ha, .data (hR.pure a (List.mem_of_getElem? ha)), hR.pure a (List.mem_of_getElem? ha), List.all_eq_true.1 hR.one a (List.mem_of_getElem? ha)⟩
/-- a value that says all by itself -/
def AV.isV : AV → Bool
  | .v _ => true
  | _ => false
def AV.valB : AV → Bool
  | .v _ => true
  | .tuple l => l.all AV.isV
  | _ => false
def AOut.valB : AOut → Bool
  | .ret a => a.valB
  | .panic a => a.valB
theorem Sim.valV {G G' : Ghost} {a : AV} {x : Value} (h : Sim G a x) (hv : a.isV = true) : Sim G' a x := by
  cases h with
  | data _ _ h => cases h <;> first | exact .data _ _ (.v _) | (simp [AV.isV] at hv)
  | _ => simp [AV.isV] at hv
theorem Sim.val {G G' : Ghost} {a : AV} {x : Value} (h : Sim G a x) (hv : a.valB = true) : Sim G' a x := by
  cases h with
  | data _ _ h => cases h <;> first | exact .data _ _ (.v _) | (simp [AV.valB] at hv)
  | tuple l vs hl h =>
    exact .tuple l vs hl fun i a ha => (h i a ha).valV (List.all_eq_true.1 hv a (List.mem_of_getElem? ha))
  | _ => simp [AV.valB] at hv
theorem OSim.val {G G' : Ghost} {out : AOut} {e : Ending} (h : OSim G out e) (hv : out.valB = true) : OSim G' out e := by
  cases out with
  | ret a =>
    cases e with
    | returned v => exact Sim.val (G := G) h hv
    | _ => exact h.elim
  | panic a =>
    cases e with
    | panicked c => obtain ⟨v, h1, h2⟩ := h; exact ⟨v, h1, h2.val hv⟩
    | _ => exact h.elim
/-- BORROW: a contract over rows that stay, whose answer says all by itself, used on objects that may be written: they are left as they are -/
theorem ACalls.borrow {P : Program} {f : FuncId} {k top top0 : Nat} {args args' : List AV} {H : Heap} {R : AOut → Heap → Prop} (h : ACalls P f 0 top0 args' [] R) (hl : args.length = args'.length) (hR : ∀ out H', R out H' → out.valB = true)
    (hr : ∀ (i : Nat) (a' : AV), args'[i]? = some a' → ∃ a, args[i]? = some a ∧ Reads H a a') : ACalls P f k top args H (fun out H2 => (∃ H', R out H') ∧ H2 = H) := by
  intro G w vals h1 h2 h3 h4 h5 h6
  have key : ∀ (G' : Ghost) (w' : World) (out : AOut) (H' : Heap) (e : Ending), R out H' → OSim G' out e → Step (G.mem w) w [] G' w' H' →
      ∃ G2 out2 H2, ((∃ H', R out2 H') ∧ H2 = H) ∧ OSim G2 out2 e ∧ Holds G2 w' H2 ∧ Step G w H G2 w' H2 ∧ ∀ id, G2.live id → G.live id ∨ (k ≤ id ∧ id < top) := fun G' w' out H' e r1 r2 st => by
    have hfr : ∀ b, b < w.heap.size → w'.heap[b]? = w.heap[b]? := fun b hb => (st.frame b hb (by simp [blocksOf])).2 fun h => h
    refine ⟨G, out, H, ⟨⟨H', r1⟩, rfl⟩, r2.val (hR _ _ r1), ⟨fun b i v hx => ?_, fun r hm => ?_, h4.ids, h4.live, h4.blocks, fun b hb => absurd hb (h2 b)⟩, ⟨st.os, st.tape, st.output, st.size, rfl, fun _ _ _ h => h, fun b hb hn => ⟨.inl (hfr b hb), fun _ => hfr b hb⟩, fun _ _ _ h => .inl h, fun _ h => .inl h, fun _ h => ⟨h, rfl, .inl rfl⟩, fun _ h => .inl h, fun _ h => h, fun _ h => .inl h⟩, fun id h => .inl h⟩
    · have hc := h4.X b i v hx
      have hb : b < w.heap.size := by
        rcases Nat.lt_or_ge b w.heap.size with h | h
        · exact h
        · have : w.heap[b]? = none := Array.getElem?_eq_none h
          simp [World.cell?, this] at hc
      exact (Alike.cell (w := w) (w' := w') (.inl (hfr b hb)) hc)
    · exact (h4.res r hm).keep rfl rfl (fun _ _ h => h) fun b hb => ⟨hfr b ((h4.res r hm).lt hb), fun _ _ h => h⟩
  have h0 := h (G.mem w) w vals (fun _ h => h.elim) (fun _ h => h) rfl ⟨fun b i v hx => hx, fun r hm => (by cases hm), List.nodup_nil, fun r hm => (by cases hm), List.nodup_nil, fun b hb => False.elim hb⟩ (by omega) fun i a' ha => by
    obtain ⟨a, q1, q2⟩ := hr i a' ha
    exact q2 G w _ h4 (h6 i a q1)
  rcases h0 with ⟨k1, k2⟩ | ⟨v, w', k1, G', out, H', r1, r2, r3, st, r5⟩
  · exact .inl ⟨k1, k2.mono fun e w' ⟨G', out, H', r1, r2, r3, st, r5⟩ => key G' w' out H' e r1 r2 st⟩
  · exact .inr ⟨v, w', k1, key G' w' out H' _ r1 r2 st⟩
/-- an answer that says all by itself wants no names -/
theorem ACalls.top0 {P : Program} {f : FuncId} {top : Nat} {args : List AV} {x : Value} (h : ACalls P f 0 top args [] (fun out H' => out = .ret (.v x) ∧ H' = [])) : ACalls P f 0 0 args [] (fun out H' => out = .ret (.v x) ∧ H' = []) :=
  h.ren (Nat.zero_le _) fun out H' hh => by
    obtain ⟨rfl, rfl⟩ := hh
    exact ⟨[], .ret (.v x), [], List.nodup_nil, (fun i h => by cases h), (fun i h => absurd h (Nat.not_lt_zero i)), Nat.le_refl _, (by simp [AOut.ren, AV.ren]), rfl, rfl, rfl⟩
/-- a struct of one list that is written no more -/
theorem Conv.freezeA {id m cp k sz n : Nat} {rows : List (List AV)} (hR : RowsOk sz rows) (hm : rows.length = m) : Conv ⟨[.agg [.arr id 0 m cp]], [(id, .seq rows k)], n⟩ ⟨[.agg [.list rows .free]], [], n⟩ := fun B G a w hr => by
  have key : ∀ G1, Rel B No G1 ⟨[.agg [.arr id 0 m cp]], [], n⟩ a w → (∀ x, Sim G (.arr id 0 m cp) x → Sim G1 (.list rows .free) x) → ∃ G', Rel B No G' ⟨[.agg [.list rows .free]], [], n⟩ a w := fun G1 h1 h2 => by
    refine ⟨G1, ⟨h1.size, fun t ht => ?_, h1.defers, h1.holds, h1.step, h1.next, h1.base, h1.low, h1.old⟩⟩
    cases t with
    | zero =>
      have h3 : Sim G (.agg [.arr id 0 m cp]) (a.tmps.getD 0 undef) := (hr.slots 0 ht).down
      obtain ⟨vs, h4, h5, h6⟩ := h3.agg_inv
      show Slot G1 (.agg [.list rows .free]) (a.tmps.getD 0 undef)
      rw [h4]
      refine .of (.agg _ vs h5 fun i b hb => ?_)
      cases i with
      | zero =>
        simp only [List.getElem?_cons_zero, Option.some.injEq] at hb
        subst hb
        exact h2 _ (h6 0 _ rfl)
      | succ i => simp at hb
    | succ t => exact h1.slots (t + 1) ht
  by_cases hne : rows.length + k = 0
  · have e1 : rows = [] := List.eq_nil_of_length_eq_zero (by omega)
    subst e1
    simp only [List.length_nil] at hm
    subst hm
    obtain ⟨G1, h1⟩ := (Conv.to (τ := ⟨[.agg [.arr id 0 0 cp]], [], n⟩) [(id, .seq [] k)] (.refl _) (.of_eq rfl) (Nat.le_refl _)) B G a w hr
    exact key G1 h1 fun x hx => by
      obtain ⟨base, rfl, _, _, hc, _⟩ := hx.arr_inv
      exact .data _ _ (.nil _ _ _ hc (by simp) (.inl rfl))
  · have hh := hr.holds
    have hu := hh.unseq hne
    have h0 : Rel B No G ⟨[.agg [.arr id 0 m cp]], [(id, .box (seqC rows k))], n⟩ a w := ⟨hr.size, hr.slots, hr.defers, hu.1, hr.step.unseq hne, hr.next, hr.base, hr.low, hr.old⟩
    obtain ⟨G1, h1, h2, h3⟩ := seal_rel (off := 0) (cp := cp) h0 (.refl _) hR.len hm fun i a ha => ⟨a, by
      rw [Nat.zero_add]; unfold seqC
      rw [List.getElem?_append_left (List.getElem?_eq_some_iff.1 ha).1]; exact ha, AV.seal_pure (hR.pure a (List.mem_of_getElem? ha)), List.all_eq_true.1 hR.one a (List.mem_of_getElem? ha)⟩
    exact key G1 h1 h2
/-! a field of a struct that is a value -/
end Go.Am
namespace Go.Proofs.Ytncffhgoopdfgaa
open Go.Am
set_option linter.unusedSimpArgs false
set_option linter.unusedVariables false
set_option maxRecDepth 100000
theorem isNaN_s (s : ByteArray) : ACalls Try.prog 148 0 0 [.v (.string s)] [] (fun out H' => out = .ret (.v (.bool false)) ∧ H' = []) := by
  refine no_implicit_lambda% (acalls_of tok dok (f := 148) ⟨Try.func148, rfl, by kernel_rfl⟩ ?_); refine no_implicit_lambda% (c_start (fun _ h => h) ?_)
  repeat' (first | (refine no_implicit_lambda% (awd1 ?_)) | (((with_reducible refine no_implicit_lambda% (is_aops ?_)); refine no_implicit_lambda% (o_split rfl rfl rfl (fun hc => ?_) (fun hc => ?_)) <;> first | exact decx hc | rw [hc])) | (((with_reducible refine no_implicit_lambda% (is_cond ?_)); refine no_implicit_lambda% (c_cond rfl (fun hc => ?_) (fun hc => ?_)) <;> first | exact decx hc | skip)) | (((with_reducible refine no_implicit_lambda% (is_aop ?_)); refine no_implicit_lambda% (a_pick rfl rfl (fun hc => ?_) (fun hc => ?_)) <;> first | exact decx hc | rw [hc])) | (refine no_implicit_lambda% (ans ?_)) | (with_reducible exact retN) | (with_reducible exact retP) | fail | fail)
  refine no_implicit_lambda% (e_ret (H' := []) (rest := _) rfl ⟨congrArg (fun z => AOut.ret (.v (.bool z))) ?_, rfl⟩ (.refl _) (Nat.le_of_ble_eq_true rfl))
  simp
/-- below, by bytes -/
def sLt (a b : ByteArray) : Bool := Op.bytesLess a.toList b.toList
def cmpS (a b : ByteArray) : Int := Lib.compareBytes a.toList b.toList
theorem sLt_eq (a b : ByteArray) : sLt a b = decide (cmpS a b = -1) := less_cb _ _
theorem compare_s (a b : ByteArray) : ACalls Try.prog 137 0 0 [.v (.string a), .v (.string b)] [] (fun out H' => out = .ret (.v (.int .i64 (cmpS a b))) ∧ H' = []) := by
  refine no_implicit_lambda% (acalls_of tok dok (f := 137) ⟨Try.func137, rfl, by kernel_rfl⟩ ?_); refine no_implicit_lambda% (c_start (fun _ h => h) ?_)
  repeat' (first | (refine no_implicit_lambda% (awd1 ?_)) | (((with_reducible refine no_implicit_lambda% (is_aops ?_)); refine no_implicit_lambda% (o_split rfl rfl rfl (fun hc => ?_) (fun hc => ?_)) <;> first | exact decx hc | rw [hc])) | (((with_reducible refine no_implicit_lambda% (is_cond ?_)); refine no_implicit_lambda% (c_cond rfl (fun hc => ?_) (fun hc => ?_)) <;> first | exact decx hc | skip)) | (((with_reducible refine no_implicit_lambda% (is_aop ?_)); refine no_implicit_lambda% (a_pick rfl rfl (fun hc => ?_) (fun hc => ?_)) <;> first | exact decx hc | rw [hc])) | (refine no_implicit_lambda% (ans ?_)) | (with_reducible exact retN) | (with_reducible exact retP) | (refine no_implicit_lambda% (cal [] (isNaN_s _) ?_ ?_)) | fail)
  all_goals
    refine e_ret (H' := []) (rest := _) rfl ⟨congrArg (fun z => AOut.ret (.v (.int .i64 z))) ?_, rfl⟩ (.refl _) (Nat.le_of_ble_eq_true rfl)
    simp only [less_cb, eq_cb] at *
    rcases cb_three a.toList b.toList with h | h | h
    all_goals first | (unfold cmpS; exact h.symm) | (exfalso; simp [h] at *; done)
/-- a version, a column -/
structure Ve where
  t : Int
  v : Va
structure Co where
  n : ByteArray
  l : List Ve
def verow (x : Ve) : List AV := .v (.int .i64 x.t) :: vrowV x.v
def corow (c : Co) : List AV := [.v (.string c.n), .list (c.l.map verow) .free]
def rowA (r : List Co) : AV := .agg [.list (r.map corow) .free]
def nmB (s : ByteArray) : Bool := decide ((1 : Int) ≤ s.size ∧ (s.size : Int) ≤ 16)
theorem name_c (s : ByteArray) : ACalls Try.prog 74 0 0 [.v (.string s)] [] (fun out H' => out = .ret (.v (.bool (nmB s))) ∧ H' = []) := by
  refine no_implicit_lambda% (acalls_of tok dok (f := 74) ⟨Try.func74, rfl, by kernel_rfl⟩ ?_); refine no_implicit_lambda% (c_start (fun _ h => h) ?_)
  repeat' (first | (refine no_implicit_lambda% (awd1 ?_)) | (((with_reducible refine no_implicit_lambda% (is_aops ?_)); refine no_implicit_lambda% (o_split rfl rfl rfl (fun hc => ?_) (fun hc => ?_)) <;> first | exact decx hc | rw [hc])) | (((with_reducible refine no_implicit_lambda% (is_cond ?_)); refine no_implicit_lambda% (c_cond rfl (fun hc => ?_) (fun hc => ?_)) <;> first | exact decx hc | skip)) | (((with_reducible refine no_implicit_lambda% (is_aop ?_)); refine no_implicit_lambda% (a_pick rfl rfl (fun hc => ?_) (fun hc => ?_)) <;> first | exact decx hc | rw [hc])) | (refine no_implicit_lambda% (ans ?_)) | (with_reducible exact retN) | (with_reducible exact retP) | fail | fail)
  all_goals (refine no_implicit_lambda% (e_ret (H' := []) (rest := _) rfl ⟨congrArg (fun z => AOut.ret (.v (.bool z))) ?_, rfl⟩ (.refl _) (Nat.le_of_ble_eq_true rfl)); unfold nmB; (refine no_implicit_lambda% (Bool.eq_iff_iff.2 ?_); simp only [decide_eq_true_eq, decide_eq_false_iff_not, Bool.false_eq_true, Bool.and_eq_true, Bool.or_eq_true, Bool.not_eq_true', beq_iff_eq, List.length_map, true_iff, false_iff, iff_false, iff_true] at *; omega))
theorem rname_c (s : ByteArray) : ACalls Try.prog 114 0 0 [.v (.string s)] [] (fun out H' => out = .ret (.v (.bool (nmB s))) ∧ H' = []) := by
  refine no_implicit_lambda% (acalls_of tok dok (f := 114) ⟨Try.func114, rfl, by kernel_rfl⟩ ?_); refine no_implicit_lambda% (c_start (fun _ h => h) ?_)
  repeat' (first | (refine no_implicit_lambda% (awd1 ?_)) | (((with_reducible refine no_implicit_lambda% (is_aops ?_)); refine no_implicit_lambda% (o_split rfl rfl rfl (fun hc => ?_) (fun hc => ?_)) <;> first | exact decx hc | rw [hc])) | (((with_reducible refine no_implicit_lambda% (is_cond ?_)); refine no_implicit_lambda% (c_cond rfl (fun hc => ?_) (fun hc => ?_)) <;> first | exact decx hc | skip)) | (((with_reducible refine no_implicit_lambda% (is_aop ?_)); refine no_implicit_lambda% (a_pick rfl rfl (fun hc => ?_) (fun hc => ?_)) <;> first | exact decx hc | rw [hc])) | (refine no_implicit_lambda% (ans ?_)) | (with_reducible exact retN) | (with_reducible exact retP) | fail | fail)
  all_goals (refine no_implicit_lambda% (e_ret (H' := []) (rest := _) rfl ⟨congrArg (fun z => AOut.ret (.v (.bool z))) ?_, rfl⟩ (.refl _) (Nat.le_of_ble_eq_true rfl)); unfold nmB; (refine no_implicit_lambda% (Bool.eq_iff_iff.2 ?_); simp only [decide_eq_true_eq, decide_eq_false_iff_not, Bool.false_eq_true, Bool.and_eq_true, Bool.or_eq_true, Bool.not_eq_true', beq_iff_eq, List.length_map, true_iff, false_iff, iff_false, iff_true] at *; omega))
def vRt (v : Va) : Bool := v.kind == 1 && decide ((v.b.length : Int) ≤ 16) || v.kind == 2
def tmOk (t : Int) : Bool := decide (0 ≤ t ∧ t ≤ 1099511627776)
def ltT : Option Int → Int → Bool
  | none, _ => true
  | some q, t => decide (t < q)
def ltN : Option ByteArray → ByteArray → Bool
  | none, _ => true
  | some q, n => sLt q n
/-- versions that may stand behind one of a time -/
def versB : Option Int → List Ve → Bool
  | _, [] => true
  | p, x :: l => tmOk x.t && vRt x.v && ltT p x.t && versB (some x.t) l
def prevT (l : List Ve) (i : Nat) : Option Int := if i = 0 then none else l[i - 1]?.map (·.t)
def colB (c : Co) : Bool := nmB c.n && decide (1 ≤ c.l.length ∧ c.l.length ≤ 2) && versB none c.l
theorem vex {l : List Ve} {i : Nat} {t : Ve} (h : l[i]? = some t) : 0 ≤ (i : Int) ∧ (l.map verow)[(i : Int).toNat]? = some (verow t) ∧ (verow t).length = 4 := ⟨Int.natCast_nonneg _, by rw [Int.toNat_natCast, List.getElem?_map, h]; rfl, rfl⟩
theorem vexp {l : List Ve} {i : Nat} {t : Ve} (hi : 0 < i) (hb : i < 1000000) (h : l[i - 1]? = some t) : 0 ≤ IntKind.i64.wrap ((i : Int) - 1) ∧ (l.map verow)[(IntKind.i64.wrap ((i : Int) - 1)).toNat]? = some (verow t) ∧ (verow t).length = 4 := by
  have e : IntKind.i64.wrap ((i : Int) - 1) = ((i - 1 : Nat) : Int) := by rw [z64 (by omega) (by omega)]; omega
  rw [e]
  exact vex h
theorem vers_at {p : Option Int} {l : List Ve} {i : Nat} {x : Ve} (h : l[i]? = some x) : versB p (l.drop i) = (tmOk x.t && vRt x.v && ltT p x.t && versB (some x.t) (l.drop (i + 1))) := by
  have : l.drop i = x :: l.drop (i + 1) := by
    obtain ⟨hi, rfl⟩ := List.getElem?_eq_some_iff.1 h
    exact List.drop_eq_getElem_cons hi
  rw [this]; rfl
theorem prevT_succ {l : List Ve} {i : Nat} {x : Ve} (h : l[i]? = some x) : prevT l (i + 1) = some x.t := by
  unfold prevT
  rw [if_neg (by omega), Nat.add_sub_cancel, h]; rfl
def clSt (c : Co) (i : Nat) : ASt := ⟨([.dead, .ptr 0 0] ++ List.replicate 20 .dead ++ [.list (c.l.map verow) .free, .v (.int .i64 c.l.length), .v (.int .i64 i)] ++ List.replicate 35 .dead), [(0, .box (corow c))], 1⟩
set_option maxHeartbeats 3200000 in
theorem column_c (c : Co) : ACalls Try.prog 117 0 400 [.agg (corow c)] [] (fun out H' => out = .ret (.v (.bool (colB c))) ∧ H' = []) := by
  refine no_implicit_lambda% (acalls_of tok dok (f := 117) ⟨Try.func117, rfl, by kernel_rfl⟩ ?_); refine no_implicit_lambda% (c_start (fun _ h => h) ?_)
  repeat' (first | (refine no_implicit_lambda% (awd1 ?_)) | (((with_reducible refine no_implicit_lambda% (is_aops ?_)); refine no_implicit_lambda% (o_split rfl rfl rfl (fun hc => ?_) (fun hc => ?_)) <;> first | exact decx hc | rw [hc])) | (((with_reducible refine no_implicit_lambda% (is_cond ?_)); refine no_implicit_lambda% (c_cond rfl (fun hc => ?_) (fun hc => ?_)) <;> first | exact decx hc | skip)) | (((with_reducible refine no_implicit_lambda% (is_aop ?_)); refine no_implicit_lambda% (a_pick rfl rfl (fun hc => ?_) (fun hc => ?_)) <;> first | exact decx hc | rw [hc])) | (refine no_implicit_lambda% (ans ?_)) | (with_reducible exact retN) | (with_reducible exact retP) | (refine no_implicit_lambda% (cal [] (name_c _) ?_ ?_)) | fail)
  · refine no_implicit_lambda% (e_ret (H' := []) (rest := _) rfl ⟨congrArg (fun z => AOut.ret (.v (.bool z))) ?_, rfl⟩ (.refl _) (Nat.le_of_ble_eq_true rfl))
    unfold colB
    simp at hc
    simp [hc]
  · refine no_implicit_lambda% (e_ret (H' := []) (rest := _) rfl ⟨congrArg (fun z => AOut.ret (.v (.bool z))) ?_, rfl⟩ (.refl _) (Nat.le_of_ble_eq_true rfl))
    unfold colB
    have : ¬ (1 ≤ c.l.length ∧ c.l.length ≤ 2) := by
      simp only [decide_eq_true_eq, List.length_map] at hc
      omega
    rw [decide_eq_false this]; simp
  · refine no_implicit_lambda% (e_ret (H' := []) (rest := _) rfl ⟨congrArg (fun z => AOut.ret (.v (.bool z))) ?_, rfl⟩ (.refl _) (Nat.le_of_ble_eq_true rfl))
    unfold colB
    have : ¬ (1 ≤ c.l.length ∧ c.l.length ≤ 2) := by
      simp only [decide_eq_true_eq, List.length_map] at hc
      omega
    rw [decide_eq_false this]; simp
  · have hlen : 1 ≤ c.l.length ∧ c.l.length ≤ 2 := by
      simp only [decide_eq_false_iff_not, List.length_map] at *
      omega
    have hn : nmB c.n = true := by
      simp only [Bool.not_eq_false'] at *
      assumption
    have hcol : colB c = versB none c.l := by unfold colB; rw [hn, decide_eq_true hlen]; simp
    refine c_loop' (clSt c) (fun i => i ≤ c.l.length ∧ versB none c.l = versB (prevT c.l i) (c.l.drop i)) (fun i => c.l.length - i) (a := 0) ⟨Nat.zero_le _, rfl⟩ ?_ ?_
    · (refine no_implicit_lambda% (Conv.toT ?_ ?_ (Nat.le_of_ble_eq_true rfl))); (focus ((unfold clSt); (try dsimp only); exact wkl)); (focus ((unfold clSt); (try dsimp only); exact wkh))
    · rintro i ⟨h1, hI⟩
      refine c_turn (n' := 1) (fun _ h => h) (fun _ h => h) rfl ?_
      rcases hx : c.l[i]? with _ | x
      · have hi : i = c.l.length := by have := List.getElem?_eq_none_iff.1 hx; omega
        repeat' (first | (refine no_implicit_lambda% (awd1 ?_)) | (((with_reducible refine no_implicit_lambda% (is_aops ?_)); refine no_implicit_lambda% (o_split rfl rfl rfl (fun hc => ?_) (fun hc => ?_)) <;> first | exact decx hc | rw [hc])) | (((with_reducible refine no_implicit_lambda% (is_cond ?_)); refine no_implicit_lambda% (c_cond rfl (fun hc => ?_) (fun hc => ?_)) <;> first | exact decx hc | skip)) | (((with_reducible refine no_implicit_lambda% (is_aop ?_)); refine no_implicit_lambda% (a_pick rfl rfl (fun hc => ?_) (fun hc => ?_)) <;> first | exact decx hc | rw [hc])) | (refine no_implicit_lambda% (ans ?_)) | (with_reducible exact retN) | (with_reducible exact retP) | fail | fail)
        refine no_implicit_lambda% (e_ret (H' := []) (rest := _) rfl ⟨congrArg (fun z => AOut.ret (.v (.bool z))) ?_, rfl⟩ (.refl _) (Nat.le_of_ble_eq_true rfl))
        rw [hcol, hI, hi, List.drop_length]; rfl
      · have hi : i < c.l.length := (List.getElem?_eq_some_iff.1 hx).1
        have hix := vex hx
        have hps := prevT_succ hx
        rw [vers_at hx] at hI
        have hvr : ACalls Try.prog 96 0 10 [vav x.v] [] (fun out H' => out = .ret (.v (.bool (vRt x.v))) ∧ H' = []) := vright_c x.v
        have hpx : decide ((i : Int) > 0) = true → 0 ≤ IntKind.i64.wrap ((i : Int) - 1) ∧ (c.l.map verow)[(IntKind.i64.wrap ((i : Int) - 1)).toNat]? = some (verow (c.l[i - 1]?.getD x)) ∧ (verow (c.l[i - 1]?.getD x)).length = 4 := fun h => by
          have h0 := of_decide_eq_true h
          rw [List.getElem?_eq_getElem (by omega : i - 1 < c.l.length)]
          exact vexp (by omega) (by omega) (List.getElem?_eq_getElem (by omega))
        repeat' (first | (refine no_implicit_lambda% (awd1 ?_)) | (((with_reducible refine no_implicit_lambda% (is_aops ?_)); refine no_implicit_lambda% (o_split rfl rfl rfl (fun hc => ?_) (fun hc => ?_)) <;> first | exact decx hc | rw [hc])) | (((with_reducible refine no_implicit_lambda% (is_cond ?_)); refine no_implicit_lambda% (c_cond rfl (fun hc => ?_) (fun hc => ?_)) <;> first | exact decx hc | skip)) | (((with_reducible refine no_implicit_lambda% (is_aop ?_)); refine no_implicit_lambda% (a_pick rfl rfl (fun hc => ?_) (fun hc => ?_)) <;> first | exact decx hc | rw [hc])) | (((with_reducible refine no_implicit_lambda% (is_ev ?_)); refine no_implicit_lambda% (v_split rfl rfl rfl rfl (fun hc => ?_) (fun hc => ?_)) <;> first | exact decx hc | rw [hc])) | (refine no_implicit_lambda% (ans ?_)) | (with_reducible exact retN) | (with_reducible exact retP) | (refine no_implicit_lambda% (cal [] (hvr) ?_ ?_)) | fail)
        · refine no_implicit_lambda% (e_ret (H' := []) (rest := _) rfl ⟨congrArg (fun z => AOut.ret (.v (.bool z))) ?_, rfl⟩ (.refl _) (Nat.le_of_ble_eq_true rfl))
          have : tmOk x.t = false := decide_eq_false (by have := of_decide_eq_true hc; omega)
          rw [hcol, hI, this]; simp
        · refine no_implicit_lambda% (e_ret (H' := []) (rest := _) rfl ⟨congrArg (fun z => AOut.ret (.v (.bool z))) ?_, rfl⟩ (.refl _) (Nat.le_of_ble_eq_true rfl))
          have : tmOk x.t = false := decide_eq_false (by have := of_decide_eq_true hc; omega)
          rw [hcol, hI, this]; simp
        · refine no_implicit_lambda% (e_ret (H' := []) (rest := _) rfl ⟨congrArg (fun z => AOut.ret (.v (.bool z))) ?_, rfl⟩ (.refl _) (Nat.le_of_ble_eq_true rfl))
          have : vRt x.v = false := by simpa using hc
          rw [hcol, hI, this]; simp
        · refine no_implicit_lambda% (e_ret (H' := []) (rest := _) rfl ⟨congrArg (fun z => AOut.ret (.v (.bool z))) ?_, rfl⟩ (.refl _) (Nat.le_of_ble_eq_true rfl))
          have h0 : 0 < i := by
            simp only [decide_eq_true_eq] at *
            omega
          have hy : c.l[i - 1]? = some (c.l[i - 1]?.getD x) := by rw [List.getElem?_eq_getElem (by omega : i - 1 < c.l.length)]; rfl
          have hpy : prevT c.l i = some (c.l[i - 1]?.getD x).t := by unfold prevT; rw [if_neg (by omega), hy]; rfl
          have : decide (x.t < (c.l[i - 1]?.getD x).t) = false := decide_eq_false (by have := of_decide_eq_true hc; omega)
          rw [hcol, hI, hpy]
          simp [this, ltT, ltN]
        · have htm : tmOk x.t = true := decide_eq_true (by simp only [decide_eq_false_iff_not] at *; omega)
          have hvt : vRt x.v = true := by simp only [Bool.not_eq_false'] at *; assumption
          have h0 : 0 < i := by
            simp only [decide_eq_true_eq] at *
            omega
          have hy : c.l[i - 1]? = some (c.l[i - 1]?.getD x) := by rw [List.getElem?_eq_getElem (by omega : i - 1 < c.l.length)]; rfl
          have hpy : prevT c.l i = some (c.l[i - 1]?.getD x).t := by unfold prevT; rw [if_neg (by omega), hy]; rfl
          have hlt : decide (x.t < (c.l[i - 1]?.getD x).t) = true := decide_eq_true (by have := of_decide_eq_false hc; omega)
          (refine no_implicit_lambda% (k_loopLT (i + 1) 0 [0] (by show i + 1 ≤ c.l.length ∧ versB none c.l = versB (prevT c.l (i + 1)) (c.l.drop (i + 1)); exact ⟨hi, by rw [hps, hI, hpy]; simp [htm, hvt, hlt, ltT]⟩) (by first | omega | (simp; done) | (simp; omega)) (Nat.le_of_ble_eq_true rfl) (fun _ h => h) (fun _ h => h) ?_ ?_)); (focus ((try dsimp only); exact wkl)); (focus ((try dsimp only); exact wkh))
        · have htm : tmOk x.t = true := decide_eq_true (by simp only [decide_eq_false_iff_not] at *; omega)
          have hvt : vRt x.v = true := by simp only [Bool.not_eq_false'] at *; assumption
          have h0 : i = 0 := by
            have := of_decide_eq_false hc
            omega
          have hpy : prevT c.l i = none := by unfold prevT; rw [if_pos h0]
          (refine no_implicit_lambda% (k_loopLT (i + 1) 0 [0] (by show i + 1 ≤ c.l.length ∧ versB none c.l = versB (prevT c.l (i + 1)) (c.l.drop (i + 1)); exact ⟨hi, by rw [hps, hI, hpy]; simp [htm, hvt, ltT]⟩) (by first | omega | (simp; done) | (simp; omega)) (Nat.le_of_ble_eq_true rfl) (fun _ h => h) (fun _ h => h) ?_ ?_)); (focus ((try dsimp only); exact wkl)); (focus ((try dsimp only); exact wkh))
/-- columns that may stand behind one of a name -/
def colsB : Option ByteArray → List Co → Bool
  | _, [] => true
  | p, c :: l => colB c && ltN p c.n && colsB (some c.n) l
def prevN (l : List Co) (i : Nat) : Option ByteArray := if i = 0 then none else l[i - 1]?.map (·.n)
def rowB (r : List Co) : Bool := colsB none r && decide (r.length ≤ 4)
theorem cox {l : List Co} {i : Nat} {t : Co} (h : l[i]? = some t) : 0 ≤ (i : Int) ∧ (l.map corow)[(i : Int).toNat]? = some (corow t) ∧ (corow t).length = 2 := ⟨Int.natCast_nonneg _, by rw [Int.toNat_natCast, List.getElem?_map, h]; rfl, rfl⟩
theorem coxp {l : List Co} {i : Nat} {t : Co} (hi : 0 < i) (hb : i < 70368744177664) (h : l[i - 1]? = some t) : 0 ≤ IntKind.i64.wrap ((i : Int) - 1) ∧ (l.map corow)[(IntKind.i64.wrap ((i : Int) - 1)).toNat]? = some (corow t) ∧ (corow t).length = 2 := by
  have e : IntKind.i64.wrap ((i : Int) - 1) = ((i - 1 : Nat) : Int) := by rw [z64 (by omega) (by omega)]; omega
  rw [e]
  exact cox h
theorem cols_at {p : Option ByteArray} {l : List Co} {i : Nat} {x : Co} (h : l[i]? = some x) : colsB p (l.drop i) = (colB x && ltN p x.n && colsB (some x.n) (l.drop (i + 1))) := by
  have : l.drop i = x :: l.drop (i + 1) := by
    obtain ⟨hi, rfl⟩ := List.getElem?_eq_some_iff.1 h
    exact List.drop_eq_getElem_cons hi
  rw [this]; rfl
theorem prevN_succ {l : List Co} {i : Nat} {x : Co} (h : l[i]? = some x) : prevN l (i + 1) = some x.n := by
  unfold prevN
  rw [if_neg (by omega), Nat.add_sub_cancel, h]; rfl
def rtSt (r : List Co) (i : Nat) : ASt := ⟨([.dead, .ptr 0 0, .dead, .dead, .dead, .dead, .list (r.map corow) .free, .v (.int .i64 r.length), .v (.int .i64 i)] ++ List.replicate 28 .dead), [(0, .box [.list (r.map corow) .free])], 1⟩
set_option maxHeartbeats 3200000 in
theorem right_c (r : List Co) (hr : r.length < 70368744177664) : ACalls Try.prog 97 0 600 [rowA r] [] (fun out H' => out = .ret (.v (.bool (rowB r))) ∧ H' = []) := by
  refine no_implicit_lambda% (acalls_of tok dok (f := 97) ⟨Try.func97, rfl, by kernel_rfl⟩ ?_); refine no_implicit_lambda% (c_start (fun _ h => h) ?_)
  repeat' (first | (refine no_implicit_lambda% (awd1 ?_)) | (((with_reducible refine no_implicit_lambda% (is_aops ?_)); refine no_implicit_lambda% (o_split rfl rfl rfl (fun hc => ?_) (fun hc => ?_)) <;> first | exact decx hc | rw [hc])) | (((with_reducible refine no_implicit_lambda% (is_cond ?_)); refine no_implicit_lambda% (c_cond rfl (fun hc => ?_) (fun hc => ?_)) <;> first | exact decx hc | skip)) | (((with_reducible refine no_implicit_lambda% (is_aop ?_)); refine no_implicit_lambda% (a_pick rfl rfl (fun hc => ?_) (fun hc => ?_)) <;> first | exact decx hc | rw [hc])) | (refine no_implicit_lambda% (ans ?_)) | (with_reducible exact retN) | (with_reducible exact retP) | fail | fail)
  refine c_loop' (rtSt r) (fun i => i ≤ r.length ∧ colsB none r = colsB (prevN r i) (r.drop i)) (fun i => r.length - i) (a := 0) ⟨Nat.zero_le _, rfl⟩ ?_ ?_
  · (refine no_implicit_lambda% (Conv.toT ?_ ?_ (Nat.le_of_ble_eq_true rfl))); (focus ((unfold rtSt); (try dsimp only); exact wkl)); (focus ((unfold rtSt); (try dsimp only); exact wkh))
  · rintro i ⟨h1, hI⟩
    refine c_turn (n' := 1) (fun _ h => h) (fun _ h => h) rfl ?_
    rcases hx : r[i]? with _ | x
    · have hi : i = r.length := by have := List.getElem?_eq_none_iff.1 hx; omega
      repeat' (first | (refine no_implicit_lambda% (awd1 ?_)) | (((with_reducible refine no_implicit_lambda% (is_aops ?_)); refine no_implicit_lambda% (o_split rfl rfl rfl (fun hc => ?_) (fun hc => ?_)) <;> first | exact decx hc | rw [hc])) | (((with_reducible refine no_implicit_lambda% (is_cond ?_)); refine no_implicit_lambda% (c_cond rfl (fun hc => ?_) (fun hc => ?_)) <;> first | exact decx hc | skip)) | (((with_reducible refine no_implicit_lambda% (is_aop ?_)); refine no_implicit_lambda% (a_pick rfl rfl (fun hc => ?_) (fun hc => ?_)) <;> first | exact decx hc | rw [hc])) | (refine no_implicit_lambda% (ans ?_)) | (with_reducible exact retN) | (with_reducible exact retP) | fail | fail)
      refine no_implicit_lambda% (e_ret (H' := []) (rest := _) rfl ⟨congrArg (fun z => AOut.ret (.v (.bool z))) ?_, rfl⟩ (.refl _) (Nat.le_of_ble_eq_true rfl))
      rw [hi, List.drop_length] at hI
      unfold rowB
      rw [hI]
      show _ = (true && _)
      rw [Bool.true_and, List.length_map]
      exact decide_eq_decide.2 (by omega)
    · have hi : i < r.length := (List.getElem?_eq_some_iff.1 hx).1
      have hix := cox hx
      have hps := prevN_succ hx
      rw [cols_at hx] at hI
      have hcl := column_c x
      have hpx : decide ((i : Int) > 0) = true → 0 ≤ IntKind.i64.wrap ((i : Int) - 1) ∧ (r.map corow)[(IntKind.i64.wrap ((i : Int) - 1)).toNat]? = some (corow (r[i - 1]?.getD x)) ∧ (corow (r[i - 1]?.getD x)).length = 2 := fun h => by
        have h0 := of_decide_eq_true h
        rw [List.getElem?_eq_getElem (by omega : i - 1 < r.length)]
        exact coxp (by omega) (by omega) (List.getElem?_eq_getElem (by omega))
      repeat' (first | (refine no_implicit_lambda% (awd1 ?_)) | (((with_reducible refine no_implicit_lambda% (is_aops ?_)); refine no_implicit_lambda% (o_split rfl rfl rfl (fun hc => ?_) (fun hc => ?_)) <;> first | exact decx hc | rw [hc])) | (((with_reducible refine no_implicit_lambda% (is_cond ?_)); refine no_implicit_lambda% (c_cond rfl (fun hc => ?_) (fun hc => ?_)) <;> first | exact decx hc | skip)) | (((with_reducible refine no_implicit_lambda% (is_aop ?_)); refine no_implicit_lambda% (a_pick rfl rfl (fun hc => ?_) (fun hc => ?_)) <;> first | exact decx hc | rw [hc])) | (((with_reducible refine no_implicit_lambda% (is_ev ?_)); refine no_implicit_lambda% (v_split rfl rfl rfl rfl (fun hc => ?_) (fun hc => ?_)) <;> first | exact decx hc | rw [hc])) | (refine no_implicit_lambda% (ans ?_)) | (with_reducible exact retN) | (with_reducible exact retP) | (refine no_implicit_lambda% (cal [] (hcl) ?_ ?_)) | fail)
      · refine no_implicit_lambda% (e_ret (H' := []) (rest := _) rfl ⟨congrArg (fun z => AOut.ret (.v (.bool z))) ?_, rfl⟩ (.refl _) (Nat.le_of_ble_eq_true rfl))
        have : colB x = false := by simpa using hc
        unfold rowB
        rw [hI, this]; simp
      · refine no_implicit_lambda% (e_ret (H' := []) (rest := _) rfl ⟨congrArg (fun z => AOut.ret (.v (.bool z))) ?_, rfl⟩ (.refl _) (Nat.le_of_ble_eq_true rfl))
        have h0 : 0 < i := by
          simp only [decide_eq_true_eq] at *
          omega
        have hy : r[i - 1]? = some (r[i - 1]?.getD x) := by rw [List.getElem?_eq_getElem (by omega : i - 1 < r.length)]; rfl
        have hpy : prevN r i = some (r[i - 1]?.getD x).n := by unfold prevN; rw [if_neg (by omega), hy]; rfl
        have : sLt (r[i - 1]?.getD x).n x.n = false := by simpa [sLt] using hc
        unfold rowB
        rw [hI, hpy]
        simp [this, ltT, ltN]
      · have hcx : colB x = true := by simp only [Bool.not_eq_false'] at *; assumption
        have h0 : 0 < i := by
          simp only [decide_eq_true_eq] at *
          omega
        have hy : r[i - 1]? = some (r[i - 1]?.getD x) := by rw [List.getElem?_eq_getElem (by omega : i - 1 < r.length)]; rfl
        have hpy : prevN r i = some (r[i - 1]?.getD x).n := by unfold prevN; rw [if_neg (by omega), hy]; rfl
        have hlt : sLt (r[i - 1]?.getD x).n x.n = true := by simpa [sLt] using hc
        (refine no_implicit_lambda% (k_loopLT (i + 1) 0 [0] (by show i + 1 ≤ r.length ∧ colsB none r = colsB (prevN r (i + 1)) (r.drop (i + 1)); exact ⟨hi, by rw [hps, hI, hpy]; simp [hcx, hlt, ltN]⟩) (by first | omega | (simp; done) | (simp; omega)) (Nat.le_of_ble_eq_true rfl) (fun _ h => h) (fun _ h => h) ?_ ?_)); (focus ((try dsimp only); exact wkl)); (focus ((try dsimp only); exact wkh))
      · have hcx : colB x = true := by simp only [Bool.not_eq_false'] at *; assumption
        have h0 : i = 0 := by
          have := of_decide_eq_false hc
          omega
        have hpy : prevN r i = none := by unfold prevN; rw [if_pos h0]
        (refine no_implicit_lambda% (k_loopLT (i + 1) 0 [0] (by show i + 1 ≤ r.length ∧ colsB none r = colsB (prevN r (i + 1)) (r.drop (i + 1)); exact ⟨hi, by rw [hps, hI, hpy]; simp [hcx, ltN]⟩) (by first | omega | (simp; done) | (simp; omega)) (Nat.le_of_ble_eq_true rfl) (fun _ h => h) (fun _ h => h) ?_ ?_)); (focus ((try dsimp only); exact wkl)); (focus ((try dsimp only); exact wkh))
end Go.Proofs.Ytncffhgoopdfgaa
namespace Go.Proofs.Ytncffhgoopdfgaa
open Go.Am
set_option linter.unusedSimpArgs false
set_option linter.unusedVariables false
set_option maxRecDepth 100000
def canE (x : Ve) : Ve := ⟨x.t, canV x.v⟩
def canC (c : Co) : Co := ⟨c.n, c.l.map canE⟩
def copyR (r : List Co) : List Co := if rowB r then r.map canC else []
/-- sizes that a machine has -/
def RowSz (r : List Co) : Prop := ∀ c ∈ r, ∀ x ∈ c.l, x.v.b.length < 1073741824 ∧ x.v.n < 18446744073709551616
theorem cols_mem : ∀ {l : List Co} {p : Option ByteArray} {x : Co}, colsB p l = true → x ∈ l → colB x = true
  | c :: l, p, x, h, hm => by
    unfold colsB at h
    simp only [Bool.and_eq_true] at h
    rcases List.mem_cons.1 hm with rfl | hm
    · exact h.1.1
    · exact cols_mem h.2 hm
theorem row_mem {r : List Co} (h : rowB r = true) {x : Co} (hx : x ∈ r) : colB x = true := by
  unfold rowB at h
  simp only [Bool.and_eq_true] at h
  exact cols_mem h.1 hx
theorem col_len {c : Co} (h : colB c = true) : 1 ≤ c.l.length ∧ c.l.length ≤ 2 := by
  unfold colB at h
  simp only [Bool.and_eq_true, decide_eq_true_eq] at h
  exact h.1.2
theorem coOk (l : List Co) : RowsOk 2 (l.map corow) := .map (f := corow) (fun _ => ⟨rfl, rfl, rfl⟩) l
theorem veOk (l : List Ve) : RowsOk 4 (l.map verow) := .map (f := verow) (fun _ => ⟨rfl, rfl, rfl⟩) l
def rcSt (r o : List Co) (cp i : Nat) : ASt := ⟨([.dead, .dead, .ptr 1 0, .ptr 2 0] ++ List.replicate 10 .dead ++ [.list (r.map corow) .free, .v (.int .i64 r.length), .v (.int .i64 i)] ++ List.replicate 33 .dead), [(1, .box [.list [] .full]), (2, .box [.arr 3 0 i cp]), (3, .seq (o.map corow) ((cp - i) * 2))], 4⟩
def rdSt (r o : List Co) (cp i : Nat) (c : Co) (vs : List Ve) (k : Nat) : ASt := ⟨([.dead, .dead, .ptr 1 0, .ptr 2 0, .dead, .dead, .ptr 5 0] ++ List.replicate 7 .dead ++ [.list (r.map corow) .free, .v (.int .i64 r.length), .v (.int .i64 i)] ++ List.replicate 7 .dead ++ [.list (c.l.map verow) .free, .v (.int .i64 c.l.length), .v (.int .i64 k)] ++ List.replicate 23 .dead), [(5, .box [.v (.string c.n), .list (vs.map verow) (.tok 6)]), (6, .tok 4 vs.length), (1, .box [.list [] .full]), (2, .box [.arr 3 0 i cp]), (3, .seq (o.map corow) ((cp - i) * 2))], 7⟩
set_option maxHeartbeats 3200000 in
theorem copy_s (r : List Co) (hr : r.length < 70368744177664) (hs : RowSz r) : ACalls Try.prog 59 0 5000 [rowA r] [] (fun out H' => ∃ id cp, id < 5000 ∧ (copyR r).length ≤ cp ∧ cp ≤ maxLen ∧ out = .ret (.agg [.arr id 0 (copyR r).length cp]) ∧ H' = [(id, .seq ((copyR r).map corow) ((cp - (copyR r).length) * 2))]) := by
  have hrt := (right_c r hr).top0
  refine no_implicit_lambda% (acalls_of tok dok (f := 59) ⟨Try.func59, rfl, by kernel_rfl⟩ ?_); refine no_implicit_lambda% (c_start (fun _ h => h) ?_)
  repeat' (first | (refine no_implicit_lambda% (awd1 ?_)) | (((with_reducible refine no_implicit_lambda% (is_aops ?_)); refine no_implicit_lambda% (o_split rfl rfl rfl (fun hc => ?_) (fun hc => ?_)) <;> first | exact decx hc | rw [hc])) | (((with_reducible refine no_implicit_lambda% (is_cond ?_)); refine no_implicit_lambda% (c_cond rfl (fun hc => ?_) (fun hc => ?_)) <;> first | exact decx hc | skip)) | (((with_reducible refine no_implicit_lambda% (is_aop ?_)); refine no_implicit_lambda% (a_pick rfl rfl (fun hc => ?_) (fun hc => ?_)) <;> first | exact decx hc | rw [hc])) | (refine no_implicit_lambda% (ans ?_)) | (with_reducible exact retN) | (with_reducible exact retP) | (refine no_implicit_lambda% (cal [] (hrt) ?_ ?_)) | fail)
  · have hf : rowB r = false := by simpa using hc
    have he : copyR r = [] := by unfold copyR; rw [hf]; rfl
    rw [he]
    exact e_ret_to (H' := [(3, .seq [] 0)]) (rest := _) (Conv.nilBox (id := 1) (j := 0) (cells := [.list [] .full]) rfl rfl) rfl ⟨3, 0, by omega, Nat.le_refl _, by decide, rfl, rfl⟩ permT (Nat.le_of_ble_eq_true rfl)
  · have ht : rowB r = true := by simpa using hc
    have he : copyR r = r.map canC := by unfold copyR; rw [ht]; rfl
    have h4 : r.length ≤ 4 := by
      unfold rowB at ht
      simp only [Bool.and_eq_true, decide_eq_true_eq] at ht
      exact ht.2
    rw [he]
    refine c_l3 (rcSt r) (fun o cp i => i ≤ r.length ∧ i ≤ cp ∧ cp ≤ maxLen ∧ o = (r.take i).map canC) (fun _ _ i => r.length - i) [] 0 0 ⟨Nat.zero_le _, Nat.le_refl _, by decide, rfl⟩ ((Conv.nilBox (id := 2) (j := 0) (cells := [.list [] .full]) rfl rfl).trans ?_) ?_
    · (refine no_implicit_lambda% (Conv.toT ?_ ?_ (Nat.le_of_ble_eq_true rfl))); (focus ((unfold rcSt); (try dsimp only); exact wkl)); (focus ((unfold rcSt); (try dsimp only); exact wkh))
    · rintro o cp i ⟨h1, h2, h3, ho⟩
      have hol : o.length = i := by rw [ho, List.length_map, List.length_take]; omega
      refine c_turn (n' := 4) (fun _ h => h) (fun _ h => h) rfl ?_
      rcases hx : r[i]? with _ | x
      · have hi : i = r.length := by have := List.getElem?_eq_none_iff.1 hx; omega
        subst hi
        rw [List.take_length] at ho
        subst ho
        repeat' (first | (refine no_implicit_lambda% (awd1 ?_)) | (((with_reducible refine no_implicit_lambda% (is_aops ?_)); refine no_implicit_lambda% (o_split rfl rfl rfl (fun hc => ?_) (fun hc => ?_)) <;> first | exact decx hc | rw [hc])) | (((with_reducible refine no_implicit_lambda% (is_cond ?_)); refine no_implicit_lambda% (c_cond rfl (fun hc => ?_) (fun hc => ?_)) <;> first | exact decx hc | skip)) | (((with_reducible refine no_implicit_lambda% (is_aop ?_)); refine no_implicit_lambda% (a_pick rfl rfl (fun hc => ?_) (fun hc => ?_)) <;> first | exact decx hc | rw [hc])) | (refine no_implicit_lambda% (ans ?_)) | (with_reducible exact retN) | (with_reducible exact retP) | fail | fail)
        have e : (r.map canC).length = r.length := List.length_map ..
        exact e_ret (H' := [(3, .seq ((r.map canC).map corow) ((cp - r.length) * 2))]) (rest := _) rfl ⟨3, cp, by omega, by omega, h3, (by rw [e]; rfl), by rw [e]⟩ permT (Nat.le_of_ble_eq_true rfl)
      · have hi : i < r.length := (List.getElem?_eq_some_iff.1 hx).1
        have hix := cox hx
        have hsx := hs x (List.mem_of_getElem? hx)
        have hts : r.take (i + 1) = r.take i ++ [x] := by rw [List.take_add_one, hx]; rfl
        have hxl := col_len (row_mem ht (List.mem_of_getElem? hx))
        repeat' (first | (refine no_implicit_lambda% (awd1 ?_)) | (((with_reducible refine no_implicit_lambda% (is_aops ?_)); refine no_implicit_lambda% (o_split rfl rfl rfl (fun hc => ?_) (fun hc => ?_)) <;> first | exact decx hc | rw [hc])) | (((with_reducible refine no_implicit_lambda% (is_cond ?_)); refine no_implicit_lambda% (c_cond rfl (fun hc => ?_) (fun hc => ?_)) <;> first | exact decx hc | skip)) | (((with_reducible refine no_implicit_lambda% (is_aop ?_)); refine no_implicit_lambda% (a_pick rfl rfl (fun hc => ?_) (fun hc => ?_)) <;> first | exact decx hc | rw [hc])) | (refine no_implicit_lambda% (ans ?_)) | (with_reducible exact retN) | (with_reducible exact retP) | fail | fail)
        refine c_loop2 (rdSt r o cp i x) (fun vs k => k ≤ x.l.length ∧ vs = (x.l.take k).map canE) (fun _ k => x.l.length - k) [] 0 ⟨Nat.zero_le _, rfl⟩ ((Conv.tokBox (id := 5) (j := 1) (sz := 4) (rows := []) rfl rfl (by simp)).trans ?_) ?_
        · (refine no_implicit_lambda% (Conv.toT ?_ ?_ (Nat.le_of_ble_eq_true rfl))); (focus ((unfold rdSt); (try dsimp only); exact wkl)); (focus ((unfold rdSt); (try dsimp only); exact wkh))
        · rintro vs k ⟨k1, hv⟩
          have hvl : vs.length = k := by rw [hv, List.length_map, List.length_take]; omega
          refine c_turn (n' := 7) (fun _ h => h) (fun _ h => h) rfl ?_
          rcases hy : x.l[k]? with _ | y
          · have hk : k = x.l.length := by have := List.getElem?_eq_none_iff.1 hy; omega
            subst hk
            rw [List.take_length] at hv
            repeat' (first | (refine no_implicit_lambda% (awd1 ?_)) | (((with_reducible refine no_implicit_lambda% (is_aops ?_)); refine no_implicit_lambda% (o_split rfl rfl rfl (fun hc => ?_) (fun hc => ?_)) <;> first | exact decx hc | rw [hc])) | (((with_reducible refine no_implicit_lambda% (is_cond ?_)); refine no_implicit_lambda% (c_cond rfl (fun hc => ?_) (fun hc => ?_)) <;> first | exact decx hc | skip)) | (((with_reducible refine no_implicit_lambda% (is_aop ?_)); refine no_implicit_lambda% (a_pick rfl rfl (fun hc => ?_) (fun hc => ?_)) <;> first | exact decx hc | rw [hc])) | (refine no_implicit_lambda% (ans ?_)) | (with_reducible exact retN) | (with_reducible exact retP) | fail | fail)
            subst hv
            ((with_reducible refine no_implicit_lambda% (is_aop ?_)); refine no_implicit_lambda% (a_appS (sz := 2) (B := 40) (m2 := i + 1) (rows3 := (o ++ [canC x]).map corow) rfl rfl rfl rfl rfl rfl rfl rfl rfl rfl rfl (fun _ h => h) rfl rfl (coOk o) (coOk [canC x]) (by first | rfl | (exact List.length_map ..) | (simp; done) | (simp; omega)) rfl (by first | omega | (simp; omega)) (by first | rfl | (simp; done) | (simp; omega)) (by first | rfl | (exact map_snoc _ _) | (rw [List.map_append]; rfl) | (simp; done)) ?_))
            intro cp' c1 c2
            refine no_implicit_lambda% (akc ?_)
            repeat' (first | (refine no_implicit_lambda% (awd1 ?_)) | (((with_reducible refine no_implicit_lambda% (is_aops ?_)); refine no_implicit_lambda% (o_split rfl rfl rfl (fun hc => ?_) (fun hc => ?_)) <;> first | exact decx hc | rw [hc])) | (((with_reducible refine no_implicit_lambda% (is_cond ?_)); refine no_implicit_lambda% (c_cond rfl (fun hc => ?_) (fun hc => ?_)) <;> first | exact decx hc | skip)) | (((with_reducible refine no_implicit_lambda% (is_aop ?_)); refine no_implicit_lambda% (a_pick rfl rfl (fun hc => ?_) (fun hc => ?_)) <;> first | exact decx hc | rw [hc])) | (refine no_implicit_lambda% (ans ?_)) | (with_reducible exact retN) | (with_reducible exact retP) | fail | fail)
            (refine no_implicit_lambda% (k_loopLT (((o ++ [canC x], cp', i + 1) : List Co × Nat × Nat)) 0 [0, 1, 2, 7] (by show i + 1 ≤ r.length ∧ i + 1 ≤ cp' ∧ cp' ≤ maxLen ∧ o ++ [canC x] = (r.take (i + 1)).map canC; exact ⟨hi, c1, c2, by rw [hts, List.map_append, ← ho]; rfl⟩) (by first | omega | (simp; done) | (simp; omega)) (Nat.le_of_ble_eq_true rfl) (fun _ h => h) (fun _ h => h) ?_ ?_)); (focus ((try dsimp only); exact wkl)); (focus ((try dsimp only); exact wkh))
          · have hk : k < x.l.length := (List.getElem?_eq_some_iff.1 hy).1
            have hiy := vex hy
            have hsy := (hsx y (List.mem_of_getElem? hy)).1
            have hcn := canonv_c y.v (by omega)
            have hty : x.l.take (k + 1) = x.l.take k ++ [y] := by rw [List.take_add_one, hy]; rfl
            repeat' (first | (refine no_implicit_lambda% (awd1 ?_)) | (((with_reducible refine no_implicit_lambda% (is_aops ?_)); refine no_implicit_lambda% (o_split rfl rfl rfl (fun hc => ?_) (fun hc => ?_)) <;> first | exact decx hc | rw [hc])) | (((with_reducible refine no_implicit_lambda% (is_cond ?_)); refine no_implicit_lambda% (c_cond rfl (fun hc => ?_) (fun hc => ?_)) <;> first | exact decx hc | skip)) | (((with_reducible refine no_implicit_lambda% (is_aop ?_)); refine no_implicit_lambda% (a_pick rfl rfl (fun hc => ?_) (fun hc => ?_)) <;> first | exact decx hc | rw [hc])) | (((with_reducible refine no_implicit_lambda% (is_ev ?_)); refine no_implicit_lambda% (v_split rfl rfl rfl rfl (fun hc => ?_) (fun hc => ?_)) <;> first | exact decx hc | rw [hc])) | (refine no_implicit_lambda% (ans ?_)) | (with_reducible exact retN) | (with_reducible exact retP) | (refine no_implicit_lambda% (cal [] (hcn) ?_ ?_)) | fail)
            (refine no_implicit_lambda% (k_loopLT (((vs ++ [canE y], k + 1) : List Ve × Nat)) 0 (List.range 7) (by show k + 1 ≤ x.l.length ∧ vs ++ [canE y] = (x.l.take (k + 1)).map canE; exact ⟨hk, by rw [hty, List.map_append, ← hv]; rfl⟩) (by first | omega | (simp; done) | (simp; omega)) (Nat.le_of_ble_eq_true rfl) (fun _ h => h) (fun _ h => h) ?_ ?_)); (focus ((try dsimp only); exact wkl)); (focus ((try dsimp only); exact wkh))
theorem copy_f (r : List Co) (hr : r.length < 70368744177664) (hs : RowSz r) : ACalls Try.prog 59 0 0 [rowA r] [] (fun out H' => out = .ret (rowA (copyR r)) ∧ H' = []) :=
  ((copy_s r hr hs).conv (M := 5000) (R2 := fun out H' => out = .ret (rowA (copyR r)) ∧ H' = []) (Nat.zero_le _) (Nat.le_refl _) (fun x H' hh => by
    obtain ⟨id, cp, _, h1, h2, h3, rfl⟩ := hh
    cases h3
    exact ⟨rowA (copyR r), [], 5000, Nat.le_refl _, (Conv.freezeA (coOk _) (by simp)).toN 0, (fun rows h => by cases h), rfl, rfl⟩) (fun x H' hh => by
    obtain ⟨_, _, _, _, _, h', _⟩ := hh
    cases h')).ren (Nat.zero_le _) fun out H' hh => by
      obtain ⟨rfl, rfl⟩ := hh
      exact ⟨[], .ret (rowA (copyR r)), [], List.nodup_nil, (fun i h => by cases h), (fun i h => absurd h (Nat.not_lt_zero i)), Nat.le_refl _, (by simp [rowA, AOut.ren, AV.ren, AV.renL, Own.ren]), rfl, rfl, rfl⟩
end Go.Proofs.Ytncffhgoopdfgaa
namespace Go.Proofs.Ytncffhgoopdfgaa
open Go.Am
set_option linter.unusedSimpArgs false
set_option linter.unusedVariables false
set_option maxRecDepth 100000
theorem cmpZ_refl (a : Int) : cmpZ a a = 0 := by unfold cmpZ; repeat' split <;> omega
theorem cb_refl : ∀ a : List UInt8, Lib.compareBytes a a = 0
  | [] => rfl
  | x :: a => by
    unfold Lib.compareBytes
    rw [if_neg (by simp), if_neg (by simp)]; exact cb_refl a
theorem cb_anti : ∀ a b : List UInt8, Lib.compareBytes a b = 0 - Lib.compareBytes b a
  | [], [] => rfl
  | [], _ :: _ => rfl
  | _ :: _, [] => rfl
  | x :: a, y :: b => by
    unfold Lib.compareBytes
    have h := cb_anti a b
    simp only [UInt8.lt_iff_toNat_lt]
    repeat' split <;> omega
theorem cb_bd : ∀ a b : List UInt8, -1 ≤ Lib.compareBytes a b ∧ Lib.compareBytes a b ≤ 1
  | [], [] => by decide
  | [], _ :: _ => ⟨Int.le_refl (-1), (by decide : (-1 : Int) ≤ 1)⟩
  | _ :: _, [] => ⟨(by decide : (-1 : Int) ≤ 1), Int.le_refl 1⟩
  | x :: a, y :: b => by
    unfold Lib.compareBytes
    have h := cb_bd a b
    repeat' split <;> omega
theorem cb_tr : ∀ a b c : List UInt8, Lib.compareBytes a b ≤ 0 → Lib.compareBytes b c ≤ 0 → Lib.compareBytes a c ≤ 0
  | [], [], c, _, h => h
  | [], _ :: _, [], _, _ => Int.le_refl _
  | [], _ :: _, _ :: _, _, _ => by show (-1 : Int) ≤ 0; decide
  | _ :: _, [], _, h, _ => by exfalso; revert h; show ¬ (1 : Int) ≤ 0; decide
  | _ :: _, _ :: _, [], _, h => by exfalso; revert h; show ¬ (1 : Int) ≤ 0; decide
  | x :: a, y :: b, z :: c, h1, h2 => by
    unfold Lib.compareBytes at *
    have h := cb_tr a b c
    simp only [UInt8.lt_iff_toNat_lt] at *
    repeat' split
    all_goals (repeat' split at h1)
    all_goals (repeat' split at h2)
    all_goals first | omega | (exact h h1 h2) | skip
theorem ord0_refl (x : Va) : ordV0 x x = 0 := by
  unfold ordV0
  rw [if_neg (by omega)]
  split
  · exact cb_refl _
  · split
    · exact cmpZ_refl _
    · rfl
theorem canonB_idem (n : Nat) : canonB (canonB n) = canonB n := by
  unfold canonB
  have e : nanB 9221120237041090561 = true := by kernel_rfl
  cases h : nanB n
  · simp [h]
  · simp [e]
theorem canV_idem (v : Va) : canV (canV v) = canV v := by
  unfold canV
  split
  · rfl
  · split
    · show (⟨2, [], canonB (canonB v.n)⟩ : Va) = _
      rw [canonB_idem]
    · rfl
end Go.Proofs.Ytncffhgoopdfgaa
namespace Go.Proofs.Ytncffhgoopdfgaa
open Go.Am
set_option linter.unusedSimpArgs false
set_option linter.unusedVariables false
set_option maxRecDepth 100000
theorem sLt_tr {a b c : ByteArray} (h1 : sLt a b = true) (h2 : sLt b c = true) : sLt a c = true := by
  rw [sLt_eq, decide_eq_true_eq] at *
  have h3 := cb_tr a.toList b.toList c.toList (by unfold cmpS at h1; omega) (by unfold cmpS at h2; omega)
  unfold cmpS at *
  rcases cb_three a.toList c.toList with h | h | h
  · exact h
  · -- a = c: then b < c and c < b
    have e : a.toList = c.toList := by
      have := eq_cb a.toList c.toList
      rw [decide_eq_true h] at this
      simpa using this
    rw [e] at h1
    have := cb_anti c.toList b.toList
    omega
  · omega
def npos (l : List Co) (s : ByteArray) : Nat := l.countP fun c => sLt c.n s
def Nsort (l : List Co) : Prop := l.Pairwise fun a b => sLt a.n b.n = true
theorem npos_le (l : List Co) (s : ByteArray) : npos l s ≤ l.length := List.countP_le_length
theorem npos_lt {l : List Co} {s : ByteArray} (hs : Nsort l) {i : Nat} {x : Co} (hi : l[i]? = some x) : i < npos l s ↔ sLt x.n s = true := by
  unfold npos Nsort at *
  induction l generalizing i with
  | nil => cases hi
  | cons y l ih =>
    rw [List.pairwise_cons] at hs
    rw [List.countP_cons]
    have hz : sLt y.n s = false → l.countP (fun c => sLt c.n s) = 0 := fun hc => List.countP_eq_zero.2 fun z hz h => by
      have := sLt_tr (hs.1 z hz) h
      rw [this] at hc; cases hc
    cases i with
    | zero =>
      cases hi
      cases hc : sLt x.n s with
      | true => simp
      | false => simp [hz hc]
    | succ i =>
      rw [List.getElem?_cons_succ] at hi
      have := ih hs.2 hi
      cases hc : sLt y.n s with
      | true => simp [this]
      | false =>
        have h0 := hz hc
        have h1 : sLt x.n s = false := by
          cases h2 : sLt x.n s with
          | false => rfl
          | true => rw [h0] at this; exact absurd (this.2 h2) (by omega)
        simp [h0, h1]
theorem cols_sort : ∀ {l : List Co} {p : Option ByteArray}, colsB p l = true → Nsort l ∧ ∀ q, p = some q → ∀ c ∈ l, sLt q c.n = true
  | [], p, _ => ⟨List.Pairwise.nil, fun q _ c hc => by cases hc⟩
  | c :: l, p, h => by
    unfold colsB at h
    simp only [Bool.and_eq_true] at h
    obtain ⟨h1, h2⟩ := cols_sort h.2
    refine ⟨List.pairwise_cons.2 ⟨fun b hb => h2 c.n rfl b hb, h1⟩, fun q hq b hb => ?_⟩
    subst hq
    have h3 : sLt q c.n = true := h.1.2
    rcases List.mem_cons.1 hb with rfl | hb
    · exact h3
    · exact sLt_tr h3 (h2 c.n rfl b hb)
theorem row_sort {r : List Co} (h : rowB r = true) : Nsort r := by
  unfold rowB at h
  simp only [Bool.and_eq_true] at h
  exact (cols_sort h.1).1
theorem copy_sort (r : List Co) : Nsort (copyR r) := by
  unfold copyR
  split
  · rename_i h
    have := row_sort h
    unfold Nsort at *
    rw [List.pairwise_map]
    exact this
  · exact List.Pairwise.nil
theorem copy_len (r : List Co) : (copyR r).length ≤ 4 := by
  unfold copyR
  split
  · rename_i h
    unfold rowB at h
    simp only [Bool.and_eq_true, decide_eq_true_eq] at h
    rw [List.length_map]; exact h.2
  · simp
theorem copy_col {r : List Co} {c : Co} (h : c ∈ copyR r) : 1 ≤ c.l.length ∧ c.l.length ≤ 2 := by
  unfold copyR at h
  split at h
  · rename_i hb
    obtain ⟨d, hd, rfl⟩ := List.mem_map.1 h
    have := col_len (row_mem hb hd)
    unfold canC
    simpa using this
  · cases h
theorem findf_s (c : Co) (s : ByteArray) : ACalls Try.prog 136 0 0 [.agg (corow c), .v (.string s)] [] (fun out H' => out = .ret (.v (.int .i64 (cmpS c.n s))) ∧ H' = []) := by
  refine ACalls.top0 (top := 5) ?_
  refine no_implicit_lambda% (acalls_of tok dok (f := 136) ⟨Try.func136, rfl, by kernel_rfl⟩ ?_); refine no_implicit_lambda% (c_start (fun _ h => h) ?_)
  repeat' (first | (refine no_implicit_lambda% (awd1 ?_)) | (((with_reducible refine no_implicit_lambda% (is_aops ?_)); refine no_implicit_lambda% (o_split rfl rfl rfl (fun hc => ?_) (fun hc => ?_)) <;> first | exact decx hc | rw [hc])) | (((with_reducible refine no_implicit_lambda% (is_cond ?_)); refine no_implicit_lambda% (c_cond rfl (fun hc => ?_) (fun hc => ?_)) <;> first | exact decx hc | skip)) | (((with_reducible refine no_implicit_lambda% (is_aop ?_)); refine no_implicit_lambda% (a_pick rfl rfl (fun hc => ?_) (fun hc => ?_)) <;> first | exact decx hc | rw [hc])) | (refine no_implicit_lambda% (ans ?_)) | (with_reducible exact retN) | (with_reducible exact retP) | (refine no_implicit_lambda% (cal [] (compare_s _ _) ?_ ?_)) | fail)
  exact e_ret (H' := []) (rest := _) rfl ⟨rfl, rfl⟩ permT (Nat.le_of_ble_eq_true rfl)
/-- is there one? -/
def hasN (l : List Co) (s : ByteArray) : Bool := match l[npos l s]? with
  | some c => cmpS c.n s == 0
  | none => false
def fbSt (l : List Co) (s : ByteArray) (lo hi : Nat) : ASt := ⟨([.list (l.map corow) .free, .v (.string s), .fn 136 []] ++ List.replicate 5 .dead ++ [.v (.int .i64 l.length), .v (.int .i64 lo), .v (.int .i64 hi)] ++ List.replicate 38 .dead), [], 0⟩
theorem bsearch_s (l : List Co) (s : ByteArray) (hl : l.length < 1000000) (hs : Nsort l) : ACalls Try.prog 135 0 0 [.list (l.map corow) .free, .v (.string s), .fn 136 []] [] (fun out H' => out = .ret (.tuple [.v (.int .i64 (npos l s)), .v (.bool (hasN l s))]) ∧ H' = []) := by
  refine no_implicit_lambda% (acalls_of tok dok (f := 135) ⟨Try.func135, rfl, by kernel_rfl⟩ ?_); refine no_implicit_lambda% (c_start (fun _ h => h) ?_)
  repeat' (first | (refine no_implicit_lambda% (awd1 ?_)) | (((with_reducible refine no_implicit_lambda% (is_aops ?_)); refine no_implicit_lambda% (o_split rfl rfl rfl (fun hc => ?_) (fun hc => ?_)) <;> first | exact decx hc | rw [hc])) | (((with_reducible refine no_implicit_lambda% (is_cond ?_)); refine no_implicit_lambda% (c_cond rfl (fun hc => ?_) (fun hc => ?_)) <;> first | exact decx hc | skip)) | (((with_reducible refine no_implicit_lambda% (is_aop ?_)); refine no_implicit_lambda% (a_pick rfl rfl (fun hc => ?_) (fun hc => ?_)) <;> first | exact decx hc | rw [hc])) | (refine no_implicit_lambda% (ans ?_)) | (with_reducible exact retN) | (with_reducible exact retP) | fail | fail)
  refine c_loop2 (fbSt l s) (fun lo hi => lo ≤ hi ∧ hi ≤ l.length ∧ lo ≤ npos l s ∧ npos l s ≤ hi) (fun lo hi => hi - lo) 0 l.length ⟨Nat.zero_le _, Nat.le_refl _, Nat.zero_le _, npos_le l s⟩ ?_ ?_
  · (refine no_implicit_lambda% (Conv.toT ?_ ?_ (Nat.le_of_ble_eq_true rfl))); (focus ((unfold fbSt); (try dsimp only); exact wkl)); (focus ((unfold fbSt); (try dsimp only); exact wkh))
  · intro lo hi ⟨h1, h2, h3, h4⟩
    refine c_turn (n' := 0) (fun _ h => h) (fun _ h => h) rfl ?_
    rcases Nat.lt_or_ge lo hi with hlt | hge
    · have hm : IntKind.i64.wrap ((IntKind.u64.wrap (IntKind.i64.wrap ((lo : Int) + hi))).fdiv (2 ^ min (Int.toNat 1) IntKind.u64.bits)) = (((lo + hi) / 2 : Nat) : Int) := by
        rw [show min (Int.toNat 1) IntKind.u64.bits = 1 from rfl, Int.pow_one, IntKind.wrap_i64, IntKind.wrap_u64]
        rw [Int.fdiv_eq_ediv_of_nonneg _ (by omega)]
        rw [IntKind.wrap_i64]
        omega
      obtain ⟨m, hmm⟩ : ∃ m, (lo + hi) / 2 = m := ⟨_, rfl⟩
      rw [hmm] at hm
      have hml : m < l.length := by omega
      obtain ⟨t, ht⟩ : ∃ t, l[m]? = some t := ⟨_, List.getElem?_eq_getElem hml⟩
      have hk := npos_lt (s := s) hs ht
      have hix := cox ht
      rw [← hm] at hix
      repeat' (first | (refine no_implicit_lambda% (awd1 ?_)) | (((with_reducible refine no_implicit_lambda% (is_aops ?_)); refine no_implicit_lambda% (o_split rfl rfl rfl (fun hc => ?_) (fun hc => ?_)) <;> first | exact decx hc | rw [hc])) | (((with_reducible refine no_implicit_lambda% (is_cond ?_)); refine no_implicit_lambda% (c_cond rfl (fun hc => ?_) (fun hc => ?_)) <;> first | exact decx hc | skip)) | (((with_reducible refine no_implicit_lambda% (is_aop ?_)); refine no_implicit_lambda% (a_pick rfl rfl (fun hc => ?_) (fun hc => ?_)) <;> first | exact decx hc | rw [hc])) | (refine no_implicit_lambda% (ans ?_)) | (with_reducible exact retN) | (with_reducible exact retP) | (refine no_implicit_lambda% (cal [] (findf_s t s) ?_ ?_)) | fail)
      · have hq := of_decide_eq_true hc
        have hq2 : sLt t.n s = true := by rw [sLt_eq]; exact decide_eq_true (by have := cb_bd t.n.toList s.toList; unfold cmpS at *; omega)
        rw [hm]
        (refine no_implicit_lambda% (k_loopT (((m + 1, hi) : Nat × Nat)) (by show m + 1 ≤ hi ∧ hi ≤ l.length ∧ m + 1 ≤ npos l s ∧ npos l s ≤ hi; have := hk.2 hq2; omega) (by first | omega | (simp; done) | (simp; omega)) ?_ ?_)); (focus ((unfold fbSt); (try dsimp only); exact wkl)); (focus ((unfold fbSt); (try dsimp only); exact wkh))
      · have hq := of_decide_eq_false hc
        have hq2 : ¬ sLt t.n s = true := by rw [sLt_eq, decide_eq_true_eq]; omega
        rw [hm]
        (refine no_implicit_lambda% (k_loopT (((lo, m) : Nat × Nat)) (by show lo ≤ m ∧ m ≤ l.length ∧ lo ≤ npos l s ∧ npos l s ≤ m; have := mt hk.1 hq2; omega) (by first | omega | (simp; done) | (simp; omega)) ?_ ?_)); (focus ((unfold fbSt); (try dsimp only); exact wkl)); (focus ((unfold fbSt); (try dsimp only); exact wkh))
    · have hle : lo = hi := by omega
      subst hle
      have hn : lo = npos l s := by omega
      rcases ht : l[lo]? with _ | t
      · have hge : ¬ lo < l.length := by have := List.getElem?_eq_none_iff.1 ht; omega
        have hh : hasN l s = false := by unfold hasN; rw [← hn, ht]
        rw [hh, ← hn]
        repeat' (first | (refine no_implicit_lambda% (awd1 ?_)) | (((with_reducible refine no_implicit_lambda% (is_aops ?_)); refine no_implicit_lambda% (o_split rfl rfl rfl (fun hc => ?_) (fun hc => ?_)) <;> first | exact decx hc | rw [hc])) | (((with_reducible refine no_implicit_lambda% (is_cond ?_)); refine no_implicit_lambda% (c_cond rfl (fun hc => ?_) (fun hc => ?_)) <;> first | exact decx hc | skip)) | (((with_reducible refine no_implicit_lambda% (is_aop ?_)); refine no_implicit_lambda% (a_pick rfl rfl (fun hc => ?_) (fun hc => ?_)) <;> first | exact decx hc | rw [hc])) | (refine no_implicit_lambda% (ans ?_)) | (with_reducible exact retN) | (with_reducible exact retP) | fail | fail)
        exact e_ret (H' := []) (rest := _) rfl ⟨rfl, rfl⟩ (.refl _) (Nat.le_of_ble_eq_true rfl)
      · have hix := cox ht
        have hh : hasN l s = (cmpS t.n s == 0) := by unfold hasN; rw [← hn, ht]
        rw [hh, ← hn]
        repeat' (first | (refine no_implicit_lambda% (awd1 ?_)) | (((with_reducible refine no_implicit_lambda% (is_aops ?_)); refine no_implicit_lambda% (o_split rfl rfl rfl (fun hc => ?_) (fun hc => ?_)) <;> first | exact decx hc | rw [hc])) | (((with_reducible refine no_implicit_lambda% (is_cond ?_)); refine no_implicit_lambda% (c_cond rfl (fun hc => ?_) (fun hc => ?_)) <;> first | exact decx hc | skip)) | (((with_reducible refine no_implicit_lambda% (is_aop ?_)); refine no_implicit_lambda% (a_pick rfl rfl (fun hc => ?_) (fun hc => ?_)) <;> first | exact decx hc | rw [hc])) | (refine no_implicit_lambda% (ans ?_)) | (with_reducible exact retN) | (with_reducible exact retP) | (refine no_implicit_lambda% (cal [] (findf_s t s) ?_ ?_)) | fail)
        · exact e_ret (H' := []) (rest := _) rfl ⟨rfl, rfl⟩ (.refl _) (Nat.le_of_ble_eq_true rfl)
        · exfalso
          have h5 := (List.getElem?_eq_some_iff.1 ht).1
          have := of_decide_eq_false hc
          omega
theorem find_f (l : List Co) (s : ByteArray) (hl : l.length < 1000000) (hs : Nsort l) : ACalls Try.prog 119 0 0 [rowA l, .v (.string s)] [] (fun out H' => out = .ret (.tuple [.v (.int .i64 (npos l s)), .v (.bool (hasN l s))]) ∧ H' = []) := by
  have hb := bsearch_s l s hl hs
  have h1 : ACalls Try.prog 119 0 5 [rowA l, .v (.string s)] [] (fun out H' => out = .ret (.tuple [.v (.int .i64 (npos l s)), .v (.bool (hasN l s))]) ∧ H' = []) := by
    refine no_implicit_lambda% (acalls_of tok dok (f := 119) ⟨Try.func119, rfl, by kernel_rfl⟩ ?_); refine no_implicit_lambda% (c_start (fun _ h => h) ?_)
    repeat' (first | (refine no_implicit_lambda% (awd1 ?_)) | (((with_reducible refine no_implicit_lambda% (is_aops ?_)); refine no_implicit_lambda% (o_split rfl rfl rfl (fun hc => ?_) (fun hc => ?_)) <;> first | exact decx hc | rw [hc])) | (((with_reducible refine no_implicit_lambda% (is_cond ?_)); refine no_implicit_lambda% (c_cond rfl (fun hc => ?_) (fun hc => ?_)) <;> first | exact decx hc | skip)) | (((with_reducible refine no_implicit_lambda% (is_aop ?_)); refine no_implicit_lambda% (a_pick rfl rfl (fun hc => ?_) (fun hc => ?_)) <;> first | exact decx hc | rw [hc])) | (refine no_implicit_lambda% (ans ?_)) | (with_reducible exact retN) | (with_reducible exact retP) | (refine no_implicit_lambda% (cal [] (hb) ?_ ?_)) | fail)
    exact e_ret (H' := []) (rest := _) rfl ⟨rfl, rfl⟩ permT (Nat.le_of_ble_eq_true rfl)
  exact h1.ren (Nat.zero_le _) fun out H' hh => by
    obtain ⟨rfl, rfl⟩ := hh
    exact ⟨[], .ret (.tuple [.v (.int .i64 (npos l s)), .v (.bool (hasN l s))]), [], List.nodup_nil, (fun i h => by cases h), (fun i h => absurd h (Nat.not_lt_zero i)), Nat.le_refl _, (by simp [AOut.ren, AV.ren, AV.renL]), rfl, rfl, rfl⟩
/-- the value at a time -/
def atL (l : List Ve) (t : Int) : Option Va := (l.find? fun x => decide (x.t ≤ t)).map (·.v)
def atR (r : List Co) (s : ByteArray) (t : Int) : Option Va := if hasN (copyR r) s then ((copyR r)[npos (copyR r) s]?).bind fun c => atL c.l t else none
def optA : Option Va → AV
  | some v => .tuple [vav v, .v (.bool true)]
  | none => .tuple [vav ⟨0, [], 0⟩, .v (.bool false)]
def atSt (l : List Ve) (t : Int) (i : Nat) : ASt := ⟨([.dead, .dead, .v (.int .i64 t), .dead, .dead, .dead, .ptr 1 0] ++ List.replicate 22 .dead ++ [.list (l.map verow) .free, .v (.int .i64 l.length), .v (.int .i64 i)] ++ List.replicate 11 .dead), [(1, .box [.v (.int .i64 0), .list [] .free, .v (.float .f64 0)])], 3⟩
set_option maxHeartbeats 3200000 in
theorem at_c (r : List Co) (s : ByteArray) (t : Int) (hr : r.length < 70368744177664) (hs : RowSz r) : ACalls Try.prog 107 0 5000 [rowA r, .v (.string s), .v (.int .i64 t)] [] (fun out H' => out = .ret (optA (atR r s t)) ∧ H' = []) := by
  have hcp := copy_f r hr hs
  have h4 := copy_len r
  have hf := find_f (copyR r) s (by omega) (copy_sort r)
  have hcol := fun c (h : c ∈ copyR r) => copy_col h
  unfold atR
  generalize copyR r = o at *
  refine no_implicit_lambda% (acalls_of tok dok (f := 107) ⟨Try.func107, rfl, by kernel_rfl⟩ ?_); refine no_implicit_lambda% (c_start (fun _ h => h) ?_)
  rcases hN : hasN o s with _ | _
  · rw [hN] at hf
    repeat' (first | (refine no_implicit_lambda% (awd1 ?_)) | (((with_reducible refine no_implicit_lambda% (is_aops ?_)); refine no_implicit_lambda% (o_split rfl rfl rfl (fun hc => ?_) (fun hc => ?_)) <;> first | exact decx hc | rw [hc])) | (((with_reducible refine no_implicit_lambda% (is_cond ?_)); refine no_implicit_lambda% (c_cond rfl (fun hc => ?_) (fun hc => ?_)) <;> first | exact decx hc | skip)) | (((with_reducible refine no_implicit_lambda% (is_aop ?_)); refine no_implicit_lambda% (a_pick rfl rfl (fun hc => ?_) (fun hc => ?_)) <;> first | exact decx hc | rw [hc])) | (refine no_implicit_lambda% (ans ?_)) | (with_reducible exact retN) | (with_reducible exact retP) | (refine no_implicit_lambda% (cal [] (hcp) ?_ ?_)) | (refine no_implicit_lambda% (cal [] (hf) ?_ ?_)) | fail)
    refine e_ret_to (H' := []) (rest := [(1, .box (vrowV ⟨0, [], 0⟩))]) (Conv.toT (τ := ⟨_, [(1, .box (vrowV ⟨0, [], 0⟩))], _⟩) (.refl _) ?_ (Nat.le_refl _)) rfl ⟨rfl, rfl⟩ (.of_eq rfl) (Nat.le_of_ble_eq_true rfl)
    unfold vrowV
    exact wkh
  · rw [hN] at hf
    obtain ⟨c, hc⟩ : ∃ c, o[npos o s]? = some c := by
      unfold hasN at hN
      split at hN
      · exact ⟨_, by assumption⟩
      · cases hN
    have hix := cox hc
    have hcl := hcol c (List.mem_of_getElem? hc)
    have hat : (if true = true then o[npos o s]?.bind fun c => atL c.l t else none) = atL c.l t := by rw [if_pos rfl, hc]; rfl
    rw [hat]
    repeat' (first | (refine no_implicit_lambda% (awd1 ?_)) | (((with_reducible refine no_implicit_lambda% (is_aops ?_)); refine no_implicit_lambda% (o_split rfl rfl rfl (fun hc => ?_) (fun hc => ?_)) <;> first | exact decx hc | rw [hc])) | (((with_reducible refine no_implicit_lambda% (is_cond ?_)); refine no_implicit_lambda% (c_cond rfl (fun hc => ?_) (fun hc => ?_)) <;> first | exact decx hc | skip)) | (((with_reducible refine no_implicit_lambda% (is_aop ?_)); refine no_implicit_lambda% (a_pick rfl rfl (fun hc => ?_) (fun hc => ?_)) <;> first | exact decx hc | rw [hc])) | (refine no_implicit_lambda% (ans ?_)) | (with_reducible exact retN) | (with_reducible exact retP) | (refine no_implicit_lambda% (cal [] (hcp) ?_ ?_)) | (refine no_implicit_lambda% (cal [] (hf) ?_ ?_)) | fail)
    refine c_loop' (atSt c.l t) (fun i => i ≤ c.l.length ∧ (c.l.take i).find? (fun x => decide (x.t ≤ t)) = none) (fun i => c.l.length - i) (a := 0) ⟨Nat.zero_le _, rfl⟩ ?_ ?_
    · (refine no_implicit_lambda% (Conv.toT ?_ ?_ (Nat.le_of_ble_eq_true rfl))); (focus ((unfold atSt); (try dsimp only); exact wkl)); (focus ((unfold atSt); (try dsimp only); exact wkh))
    · rintro i ⟨h1, hI⟩
      refine c_turn (n' := 3) (fun _ h => h) (fun _ h => h) rfl ?_
      rcases hx : c.l[i]? with _ | x
      · have hi : i = c.l.length := by have := List.getElem?_eq_none_iff.1 hx; omega
        rw [hi, List.take_length] at hI
        have e : atL c.l t = none := by unfold atL; rw [hI]; rfl
        rw [e]
        repeat' (first | (refine no_implicit_lambda% (awd1 ?_)) | (((with_reducible refine no_implicit_lambda% (is_aops ?_)); refine no_implicit_lambda% (o_split rfl rfl rfl (fun hc => ?_) (fun hc => ?_)) <;> first | exact decx hc | rw [hc])) | (((with_reducible refine no_implicit_lambda% (is_cond ?_)); refine no_implicit_lambda% (c_cond rfl (fun hc => ?_) (fun hc => ?_)) <;> first | exact decx hc | skip)) | (((with_reducible refine no_implicit_lambda% (is_aop ?_)); refine no_implicit_lambda% (a_pick rfl rfl (fun hc => ?_) (fun hc => ?_)) <;> first | exact decx hc | rw [hc])) | (refine no_implicit_lambda% (ans ?_)) | (with_reducible exact retN) | (with_reducible exact retP) | fail | fail)
        refine e_ret_to (H' := []) (rest := [(1, .box (vrowV ⟨0, [], 0⟩))]) (Conv.toT (τ := ⟨_, [(1, .box (vrowV ⟨0, [], 0⟩))], _⟩) (.refl _) ?_ (Nat.le_refl _)) rfl ⟨rfl, rfl⟩ (.of_eq rfl) (Nat.le_of_ble_eq_true rfl)
        unfold vrowV
        exact wkh
      · have hi : i < c.l.length := (List.getElem?_eq_some_iff.1 hx).1
        have hiy := vex hx
        have hts : c.l.take (i + 1) = c.l.take i ++ [x] := by rw [List.take_add_one, hx]; rfl
        repeat' (first | (refine no_implicit_lambda% (awd1 ?_)) | (((with_reducible refine no_implicit_lambda% (is_aops ?_)); refine no_implicit_lambda% (o_split rfl rfl rfl (fun hc => ?_) (fun hc => ?_)) <;> first | exact decx hc | rw [hc])) | (((with_reducible refine no_implicit_lambda% (is_cond ?_)); refine no_implicit_lambda% (c_cond rfl (fun hc => ?_) (fun hc => ?_)) <;> first | exact decx hc | skip)) | (((with_reducible refine no_implicit_lambda% (is_aop ?_)); refine no_implicit_lambda% (a_pick rfl rfl (fun hc => ?_) (fun hc => ?_)) <;> first | exact decx hc | rw [hc])) | (refine no_implicit_lambda% (ans ?_)) | (with_reducible exact retN) | (with_reducible exact retP) | fail | fail)
        · have e : atL c.l t = some x.v := by
            unfold atL
            have hsp : c.l = c.l.take i ++ x :: c.l.drop (i + 1) := by
              obtain ⟨hq, rfl⟩ := List.getElem?_eq_some_iff.1 hx
              rw [List.getElem_cons_drop, List.take_append_drop]
            rw [hsp, List.find?_append, hI]
            simp only [Option.none_or, List.find?_cons]
            rw [hc]; rfl
          rw [e]
          exact e_ret (H' := []) (rest := _) rfl ⟨rfl, rfl⟩ (.refl _) (Nat.le_of_ble_eq_true rfl)
        · (refine no_implicit_lambda% (k_loopLT (i + 1) 0 [0, 1, 2] (by show i + 1 ≤ c.l.length ∧ (c.l.take (i + 1)).find? (fun x => decide (x.t ≤ t)) = none; exact ⟨hi, by rw [hts, List.find?_append, hI]; simp [of_decide_eq_false hc]⟩) (by first | omega | (simp; done) | (simp; omega)) (Nat.le_of_ble_eq_true rfl) (fun _ h => h) (fun _ h => h) ?_ ?_)); (focus ((try dsimp only); exact wkl)); (focus ((try dsimp only); exact wkh))
theorem newest_c (r : List Co) (s : ByteArray) (hr : r.length < 70368744177664) (hs : RowSz r) : ACalls Try.prog 70 0 6000 [rowA r, .v (.string s)] [] (fun out H' => out = .ret (optA (atR r s 1099511627776)) ∧ H' = []) := by
  have h := at_c r s 1099511627776 hr hs
  generalize atR r s 1099511627776 = q at *
  rcases q with _ | v
  · have h1 : ACalls Try.prog 107 0 5000 [rowA r, .v (.string s), .v (.int .i64 1099511627776)] [] (fun out H' => out = .ret (.tuple [.agg (vrowV ⟨0, [], 0⟩), .v (.bool false)]) ∧ H' = []) := h
    refine no_implicit_lambda% (acalls_of tok dok (f := 70) ⟨Try.func70, rfl, by kernel_rfl⟩ ?_); refine no_implicit_lambda% (c_start (fun _ h => h) ?_)
    repeat' (first | (refine no_implicit_lambda% (awd1 ?_)) | (((with_reducible refine no_implicit_lambda% (is_aops ?_)); refine no_implicit_lambda% (o_split rfl rfl rfl (fun hc => ?_) (fun hc => ?_)) <;> first | exact decx hc | rw [hc])) | (((with_reducible refine no_implicit_lambda% (is_cond ?_)); refine no_implicit_lambda% (c_cond rfl (fun hc => ?_) (fun hc => ?_)) <;> first | exact decx hc | skip)) | (((with_reducible refine no_implicit_lambda% (is_aop ?_)); refine no_implicit_lambda% (a_pick rfl rfl (fun hc => ?_) (fun hc => ?_)) <;> first | exact decx hc | rw [hc])) | (refine no_implicit_lambda% (ans ?_)) | (with_reducible exact retN) | (with_reducible exact retP) | (refine no_implicit_lambda% (cal [] (h1) ?_ ?_)) | fail)
    exact e_ret (H' := []) (rest := _) rfl ⟨rfl, rfl⟩ (.refl _) (Nat.le_of_ble_eq_true rfl)
  · have h1 : ACalls Try.prog 107 0 5000 [rowA r, .v (.string s), .v (.int .i64 1099511627776)] [] (fun out H' => out = .ret (.tuple [.agg (vrowV v), .v (.bool true)]) ∧ H' = []) := h
    refine no_implicit_lambda% (acalls_of tok dok (f := 70) ⟨Try.func70, rfl, by kernel_rfl⟩ ?_); refine no_implicit_lambda% (c_start (fun _ h => h) ?_)
    repeat' (first | (refine no_implicit_lambda% (awd1 ?_)) | (((with_reducible refine no_implicit_lambda% (is_aops ?_)); refine no_implicit_lambda% (o_split rfl rfl rfl (fun hc => ?_) (fun hc => ?_)) <;> first | exact decx hc | rw [hc])) | (((with_reducible refine no_implicit_lambda% (is_cond ?_)); refine no_implicit_lambda% (c_cond rfl (fun hc => ?_) (fun hc => ?_)) <;> first | exact decx hc | skip)) | (((with_reducible refine no_implicit_lambda% (is_aop ?_)); refine no_implicit_lambda% (a_pick rfl rfl (fun hc => ?_) (fun hc => ?_)) <;> first | exact decx hc | rw [hc])) | (refine no_implicit_lambda% (ans ?_)) | (with_reducible exact retN) | (with_reducible exact retP) | (refine no_implicit_lambda% (cal [] (h1) ?_ ?_)) | fail)
    exact e_ret (H' := []) (rest := _) rfl ⟨rfl, rfl⟩ (.refl _) (Nat.le_of_ble_eq_true rfl)
end Go.Proofs.Ytncffhgoopdfgaa
namespace Go.Proofs.Ytncffhgoopdfgaa
open Go.Am
set_option linter.unusedSimpArgs false
set_option linter.unusedVariables false
set_option maxRecDepth 100000
end Go.Proofs.Ytncffhgoopdfgaa
namespace Go.Proofs.Ytncffhgoopdfgaa
open Go.Am
set_option linter.unusedSimpArgs false
set_option linter.unusedVariables false
set_option maxRecDepth 100000
def rr1St (r : List Co) (i : Nat) : ASt := ⟨([.dead, .ptr 0 0, .dead, .v (.int .i64 i)] ++ List.replicate 103 .dead), [(0, .box [.list (r.map corow) .free])], 1⟩
def rr2St (r : List Co) (i : Nat) (x : Co) (k : Nat) : ASt := ⟨([.dead, .ptr 0 0, .dead, .v (.int .i64 i), .ptr 1 0, .v (.int .i64 k)] ++ List.replicate 101 .dead), [(1, .box (corow x)), (0, .box [.list (r.map corow) .free])], 2⟩
def rraSt (r : List Co) (i : Nat) (x : Co) (b : Bool) : ASt := ⟨([.dead, .ptr 0 0, .dead, .v (.int .i64 i), .ptr 1 0] ++ List.replicate 48 .dead ++ [.v (.bool b)] ++ List.replicate 53 .dead), [(1, .box (corow x)), (0, .box [.list (r.map corow) .free])], 2⟩
def rrbSt (r : List Co) (i : Nat) (x : Co) (k : Nat) (b : Bool) : ASt := ⟨([.dead, .ptr 0 0, .dead, .v (.int .i64 i), .ptr 1 0, .v (.int .i64 k)] ++ List.replicate 100 .dead ++ [.v (.bool b)]), [(1, .box (corow x)), (0, .box [.list (r.map corow) .free])], 12⟩
set_option maxHeartbeats 6400000 in
theorem rright_c (r : List Co) (hr : r.length < 70368744177664) : ACalls Try.prog 116 0 400 [rowA r] [] (fun out H' => out = .ret (.v (.bool (rowB r))) ∧ H' = []) := by
  refine no_implicit_lambda% (acalls_of tok dok (f := 116) ⟨Try.func116, rfl, by kernel_rfl⟩ ?_); refine no_implicit_lambda% (c_start (fun _ h => h) ?_)
  repeat' (first | (refine no_implicit_lambda% (awd1 ?_)) | (((with_reducible refine no_implicit_lambda% (is_aops ?_)); refine no_implicit_lambda% (o_split rfl rfl rfl (fun hc => ?_) (fun hc => ?_)) <;> first | exact decx hc | rw [hc])) | (((with_reducible refine no_implicit_lambda% (is_cond ?_)); refine no_implicit_lambda% (c_cond rfl (fun hc => ?_) (fun hc => ?_)) <;> first | exact decx hc | skip)) | (((with_reducible refine no_implicit_lambda% (is_aop ?_)); refine no_implicit_lambda% (a_pick rfl rfl (fun hc => ?_) (fun hc => ?_)) <;> first | exact decx hc | rw [hc])) | (refine no_implicit_lambda% (ans ?_)) | (with_reducible exact retN) | (with_reducible exact retP) | fail | fail)
  · refine no_implicit_lambda% (e_ret (H' := []) (rest := _) rfl ⟨congrArg (fun z => AOut.ret (.v (.bool z))) ?_, rfl⟩ (.refl _) (Nat.le_of_ble_eq_true rfl))
    have : ¬ r.length ≤ 4 := by
      simp only [decide_eq_true_eq, List.length_map] at hc
      omega
    unfold rowB
    rw [decide_eq_false this]; simp
  have h4 : r.length ≤ 4 := by
    simp only [decide_eq_false_iff_not, List.length_map] at hc
    omega
  have hrow : rowB r = colsB none r := by unfold rowB; rw [decide_eq_true h4]; simp
  refine c_loop' (rr1St r) (fun i => i ≤ r.length ∧ colsB none r = colsB (prevN r i) (r.drop i)) (fun i => r.length - i) (a := 0) ⟨Nat.zero_le _, rfl⟩ ?_ ?_
  · (refine no_implicit_lambda% (Conv.toT ?_ ?_ (Nat.le_of_ble_eq_true rfl))); (focus ((unfold rr1St); (try dsimp only); exact wkl)); (focus ((unfold rr1St); (try dsimp only); exact wkh))
  · rintro i ⟨h1, hI⟩
    refine c_turn (n' := 1) (fun _ h => h) (fun _ h => h) rfl ?_
    rcases hx : r[i]? with _ | x
    · have hi : i = r.length := by have := List.getElem?_eq_none_iff.1 hx; omega
      repeat' (first | (refine no_implicit_lambda% (awd1 ?_)) | (((with_reducible refine no_implicit_lambda% (is_aops ?_)); refine no_implicit_lambda% (o_split rfl rfl rfl (fun hc => ?_) (fun hc => ?_)) <;> first | exact decx hc | rw [hc])) | (((with_reducible refine no_implicit_lambda% (is_cond ?_)); refine no_implicit_lambda% (c_cond rfl (fun hc => ?_) (fun hc => ?_)) <;> first | exact decx hc | skip)) | (((with_reducible refine no_implicit_lambda% (is_aop ?_)); refine no_implicit_lambda% (a_pick rfl rfl (fun hc => ?_) (fun hc => ?_)) <;> first | exact decx hc | rw [hc])) | (refine no_implicit_lambda% (ans ?_)) | (with_reducible exact retN) | (with_reducible exact retP) | fail | fail)
      refine no_implicit_lambda% (e_ret (H' := []) (rest := _) rfl ⟨congrArg (fun z => AOut.ret (.v (.bool z))) ?_, rfl⟩ (.refl _) (Nat.le_of_ble_eq_true rfl))
      rw [hrow, hI, hi, List.drop_length]; rfl
    · have hi : i < r.length := (List.getElem?_eq_some_iff.1 hx).1
      have hix := cox hx
      have hps := prevN_succ hx
      rw [cols_at hx] at hI
      have hnm := rname_c x.n
      have hpx : decide ((i : Int) > 0) = true → 0 ≤ IntKind.i64.wrap ((i : Int) - 1) ∧ (r.map corow)[(IntKind.i64.wrap ((i : Int) - 1)).toNat]? = some (corow (r[i - 1]?.getD x)) ∧ (corow (r[i - 1]?.getD x)).length = 2 := fun h => by
        have h0 := of_decide_eq_true h
        rw [List.getElem?_eq_getElem (by omega : i - 1 < r.length)]
        exact coxp (by omega) (by omega) (List.getElem?_eq_getElem (by omega))
      have hy0 : 0 < i → prevN r i = some (r[i - 1]?.getD x).n := fun h => by
        unfold prevN
        rw [if_neg (by omega), List.getElem?_eq_getElem (by omega : i - 1 < r.length)]; rfl
      repeat' (first | ((with_reducible refine no_implicit_lambda% (is_aops ?_)); first | (refine no_implicit_lambda% (o_op rfl ?_)) | (refine no_implicit_lambda% (o_yes rfl rfl rfl ?_)) | (refine no_implicit_lambda% (o_no rfl rfl rfl (fun _ h => h) ?_)) | (refine no_implicit_lambda% (o_not rfl rfl rfl (fun _ h => h) ?_))) | ((with_reducible refine no_implicit_lambda% (is_opK ?_)); first | (refine no_implicit_lambda% (k_op' (fun _ h => h) ?_))) | ((with_reducible refine no_implicit_lambda% (is_aop ?_)); first | (refine no_implicit_lambda% (a_q1 rfl (fun _ h => h) ?_)) | (refine no_implicit_lambda% (a_box rfl (fun _ h => h) ?_)) | (refine no_implicit_lambda% (a_alloc rfl (fun _ h => h) ?_)) | (refine no_implicit_lambda% (a_storev rfl (fun _ h => h) ?_)) | (refine no_implicit_lambda% (a_store rfl (fun _ h => h) ?_)) | (refine no_implicit_lambda% (a_panic rfl rfl ?_))) | ((with_reducible refine no_implicit_lambda% (is_aop ?_)); first | (refine no_implicit_lambda% (a_append_tok rfl rfl rfl rfl rfl rfl rfl rfl rfl rfl rfl rfl rfl rfl (by first | rfl | (simp; done)) (fun _ h => h) (by (first | assumption | (intro row hr; simp only [List.mem_cons, List.not_mem_nil, or_false] at hr; rcases hr with rfl | rfl | rfl | rfl <;> rfl) | (intro row hr; simp at hr; done) | (intro row hr; simp only [List.mem_singleton] at hr; subst hr; rfl) | (intro row hr; obtain ⟨_, _, rfl⟩ := List.mem_map.1 hr; rfl))) (by (refine ⟨?_, ?_⟩ <;> (simp only [List.length_map, List.length_append, List.length_cons, List.length_nil]; omega))) ?_)) | (refine no_implicit_lambda% (a_append_full rfl rfl rfl rfl rfl rfl rfl rfl rfl rfl rfl rfl (by (first | assumption | (intro row hr; simp only [List.mem_cons, List.not_mem_nil, or_false] at hr; rcases hr with rfl | rfl | rfl | rfl <;> rfl) | (intro row hr; simp at hr; done) | (intro row hr; simp only [List.mem_singleton] at hr; subst hr; rfl) | (intro row hr; obtain ⟨_, _, rfl⟩ := List.mem_map.1 hr; rfl))) (by (first | assumption | (intro row hr; simp only [List.mem_cons, List.not_mem_nil, or_false] at hr; rcases hr with rfl | rfl | rfl | rfl <;> rfl) | (intro row hr; simp at hr; done) | (intro row hr; simp only [List.mem_singleton] at hr; subst hr; rfl) | (intro row hr; obtain ⟨_, _, rfl⟩ := List.mem_map.1 hr; rfl))) (by (refine ⟨?_, ?_⟩ <;> (simp only [List.length_map, List.length_append, List.length_cons, List.length_nil]; omega))) ?_))) | (first | (with_reducible refine no_implicit_lambda% (c_seq ?_)) | (with_reducible refine no_implicit_lambda% (c_region ?_)) | (with_reducible refine no_implicit_lambda% (c_ret ?_)) | (with_reducible refine no_implicit_lambda% (c_skip ?_)) | (with_reducible refine no_implicit_lambda% (c_block ?_)) | (with_reducible refine no_implicit_lambda% (c_exit ?_)) | (with_reducible refine no_implicit_lambda% (o_nil ?_)) | (with_reducible refine no_implicit_lambda% (k_seq ?_)) | (with_reducible refine no_implicit_lambda% (k_seq_ret ?_)) | (with_reducible refine no_implicit_lambda% (k_seq_exit ?_)) | (with_reducible refine no_implicit_lambda% (k_seq_pan ?_)) | (with_reducible refine no_implicit_lambda% (k_block ?_)) | (with_reducible refine no_implicit_lambda% (k_block_ret ?_)) | (with_reducible refine no_implicit_lambda% (k_block_pan ?_)) | ((with_reducible refine no_implicit_lambda% (is_blockx ?_)); first | (refine no_implicit_lambda% (k_block_here rfl ?_)) | (refine no_implicit_lambda% (k_block_on rfl ?_))) | (with_reducible refine no_implicit_lambda% (k_pan ?_)) | (with_reducible refine no_implicit_lambda% (k_opP ?_)) | (with_reducible refine no_implicit_lambda% (k_loop_ret ?_)) | (with_reducible refine no_implicit_lambda% (k_loop_exit ?_)) | (with_reducible refine no_implicit_lambda% (k_loop_pan ?_)) | (with_reducible refine no_implicit_lambda% (e_end ?_))) | (((with_reducible refine no_implicit_lambda% (is_cond ?_)); first | (refine no_implicit_lambda% (c_true rfl ?_)) | (refine no_implicit_lambda% (c_false rfl ?_)))) | ((with_reducible refine no_implicit_lambda% (is_aop ?_)); refine no_implicit_lambda% (a_qS rfl (qIx (fun _ h => h)) (by first | assumption | exact hpx (by assumption) | exact hpy (by assumption)) ?_)) | (((with_reducible refine no_implicit_lambda% (is_aops ?_)); refine no_implicit_lambda% (o_split rfl rfl rfl (fun hc => ?_) (fun hc => ?_)) <;> first | exact decx hc | rw [hc])) | (((with_reducible refine no_implicit_lambda% (is_cond ?_)); refine no_implicit_lambda% (c_cond rfl (fun hc => ?_) (fun hc => ?_)) <;> first | exact decx hc | skip)) | (((with_reducible refine no_implicit_lambda% (is_aop ?_)); refine no_implicit_lambda% (a_pick rfl rfl (fun hc => ?_) (fun hc => ?_)) <;> first | exact decx hc | rw [hc])) | (refine no_implicit_lambda% (ans ?_)) | (with_reducible exact retN) | (with_reducible exact retP) | fail | fail)
      refine c_cutR (rraSt r i x) (fun b => b = !(nmB x.n && ltN (prevN r i) x.n && decide (1 ≤ x.l.length ∧ x.l.length ≤ 2))) ?_ ?_
      rotate_left
      · intro Kx kN kP kR kE
        repeat' (first | (refine no_implicit_lambda% (awd1 ?_)) | (((with_reducible refine no_implicit_lambda% (is_aops ?_)); refine no_implicit_lambda% (o_split rfl rfl rfl (fun hc => ?_) (fun hc => ?_)) <;> first | exact decx hc | rw [hc])) | (((with_reducible refine no_implicit_lambda% (is_cond ?_)); refine no_implicit_lambda% (c_cond rfl (fun hc => ?_) (fun hc => ?_)) <;> first | exact decx hc | skip)) | (((with_reducible refine no_implicit_lambda% (is_aop ?_)); refine no_implicit_lambda% (a_pick rfl rfl (fun hc => ?_) (fun hc => ?_)) <;> first | exact decx hc | rw [hc])) | (((with_reducible refine no_implicit_lambda% (is_ev ?_)); refine no_implicit_lambda% (v_split rfl rfl rfl rfl (fun hc => ?_) (fun hc => ?_)) <;> first | exact decx hc | rw [hc])) | (refine no_implicit_lambda% (ans ?_)) | (with_reducible exact retN) | (with_reducible exact retP) | (refine no_implicit_lambda% (cal [] (hnm) ?_ ?_)) | fail)
        · have hn : nmB x.n = false := by simpa using hc
          refine kN true _ _ _ (by simp [hn]) (.inl ?_)
          (refine no_implicit_lambda% (Conv.toT ?_ ?_ (Nat.le_of_ble_eq_true rfl))); (focus ((unfold rraSt); (try dsimp only); exact wkl)); (focus ((unfold rraSt); (try dsimp only); exact wkh))
        · skip
          have h0 : 0 < i := by
            simp only [decide_eq_true_eq] at *
            omega
          have hlt : ltN (prevN r i) x.n = false := by
            rw [hy0 h0]
            have : sLt (r[i - 1]?.getD x).n x.n = false := by simpa [sLt] using hc
            exact this
          refine kN true _ _ _ (by simp [hlt]) (.inl ?_)
          (refine no_implicit_lambda% (Conv.toT ?_ ?_ (Nat.le_of_ble_eq_true rfl))); (focus ((unfold rraSt); (try dsimp only); exact wkl)); (focus ((unfold rraSt); (try dsimp only); exact wkh))
        · skip
          have hl : ¬ (1 ≤ x.l.length ∧ x.l.length ≤ 2) := by
            simp only [decide_eq_true_eq, List.length_map] at hc
            omega
          refine kN true _ _ _ (by rw [decide_eq_false hl]; simp) (.inl ?_)
          (refine no_implicit_lambda% (Conv.toT ?_ ?_ (Nat.le_of_ble_eq_true rfl))); (focus ((unfold rraSt); (try dsimp only); exact wkl)); (focus ((unfold rraSt); (try dsimp only); exact wkh))
        · skip
          have h0 : 0 < i := by
            simp only [decide_eq_true_eq] at *
            omega
          have hM : ltN (prevN r i) x.n = true := by
            rw [hy0 h0]
            have hlt : sLt (r[i - 1]?.getD x).n x.n = true := by
              simp only [Bool.not_eq_false'] at *
              assumption
            exact hlt
          have hn : nmB x.n = true := by simp only [Bool.not_eq_false'] at *; assumption
          refine kN (decide (((x.l.map verow).length : Int) > 2)) _ _ _ ?_ (.inl ?_)
          · rw [hn, hM, Bool.true_and, Bool.true_and]
            have hl : ¬ ((x.l.map verow).length : Int) < 1 := of_decide_eq_false hc
            rw [List.length_map] at hl ⊢
            refine Bool.eq_iff_iff.2 ?_
            simp only [decide_eq_true_eq, Bool.not_eq_true', decide_eq_false_iff_not]
            omega
          · (refine no_implicit_lambda% (Conv.toT ?_ ?_ (Nat.le_of_ble_eq_true rfl))); (focus ((unfold rraSt); (try dsimp only); exact wkl)); (focus ((unfold rraSt); (try dsimp only); exact wkh))
        · skip
          have hl : ¬ (1 ≤ x.l.length ∧ x.l.length ≤ 2) := by
            simp only [decide_eq_true_eq, List.length_map] at hc
            omega
          refine kN true _ _ _ (by rw [decide_eq_false hl]; simp) (.inl ?_)
          (refine no_implicit_lambda% (Conv.toT ?_ ?_ (Nat.le_of_ble_eq_true rfl))); (focus ((unfold rraSt); (try dsimp only); exact wkl)); (focus ((unfold rraSt); (try dsimp only); exact wkh))
        · skip
          have h0 : i = 0 := by
            simp only [decide_eq_false_iff_not] at *
            omega
          have hM : ltN (prevN r i) x.n = true := by
            have hpy : prevN r i = none := by unfold prevN; rw [if_pos h0]
            rw [hpy]; rfl
          have hn : nmB x.n = true := by simp only [Bool.not_eq_false'] at *; assumption
          refine kN (decide (((x.l.map verow).length : Int) > 2)) _ _ _ ?_ (.inl ?_)
          · rw [hn, hM, Bool.true_and, Bool.true_and]
            have hl : ¬ ((x.l.map verow).length : Int) < 1 := of_decide_eq_false hc
            rw [List.length_map] at hl ⊢
            refine Bool.eq_iff_iff.2 ?_
            simp only [decide_eq_true_eq, Bool.not_eq_true', decide_eq_false_iff_not]
            omega
          · (refine no_implicit_lambda% (Conv.toT ?_ ?_ (Nat.le_of_ble_eq_true rfl))); (focus ((unfold rraSt); (try dsimp only); exact wkl)); (focus ((unfold rraSt); (try dsimp only); exact wkh))
      · intro b hb
        refine c_turn (n' := 2) (fun _ h => h) (fun _ h => h) rfl ?_
        rcases b with _ | _
        rotate_left
        · repeat' (first | (refine no_implicit_lambda% (awd1 ?_)) | (((with_reducible refine no_implicit_lambda% (is_aops ?_)); refine no_implicit_lambda% (o_split rfl rfl rfl (fun hc => ?_) (fun hc => ?_)) <;> first | exact decx hc | rw [hc])) | (((with_reducible refine no_implicit_lambda% (is_cond ?_)); refine no_implicit_lambda% (c_cond rfl (fun hc => ?_) (fun hc => ?_)) <;> first | exact decx hc | skip)) | (((with_reducible refine no_implicit_lambda% (is_aop ?_)); refine no_implicit_lambda% (a_pick rfl rfl (fun hc => ?_) (fun hc => ?_)) <;> first | exact decx hc | rw [hc])) | (refine no_implicit_lambda% (ans ?_)) | (with_reducible exact retN) | (with_reducible exact retP) | fail | fail)
          refine no_implicit_lambda% (e_ret (H' := []) (rest := _) rfl ⟨congrArg (fun z => AOut.ret (.v (.bool z))) ?_, rfl⟩ (.refl _) (Nat.le_of_ble_eq_true rfl))
          rw [hrow, hI]
          unfold colB
          revert hb
          cases nmB x.n <;> cases ltN (prevN r i) x.n <;> cases decide (1 ≤ x.l.length ∧ x.l.length ≤ 2) <;> simp
        have hM : ltN (prevN r i) x.n = true := by
          revert hb
          cases nmB x.n <;> cases ltN (prevN r i) x.n <;> cases decide (1 ≤ x.l.length ∧ x.l.length ≤ 2) <;> simp
        have hn : nmB x.n = true := by
          revert hb
          cases nmB x.n <;> cases ltN (prevN r i) x.n <;> cases decide (1 ≤ x.l.length ∧ x.l.length ≤ 2) <;> simp
        have hl : 1 ≤ x.l.length ∧ x.l.length ≤ 2 := by
          refine of_decide_eq_true ?_
          revert hb
          cases nmB x.n <;> cases ltN (prevN r i) x.n <;> cases decide (1 ≤ x.l.length ∧ x.l.length ≤ 2) <;> simp
        have hcx : colB x = versB none x.l := by unfold colB; rw [hn, decide_eq_true hl]; simp
        have hrv := fun v => (refRight_c v : ACalls Try.prog 115 0 10 [vav v] [] (fun out H' => out = .ret (.v (.bool (vRt v))) ∧ H' = []))
        repeat' (first | ((with_reducible refine no_implicit_lambda% (is_aops ?_)); first | (refine no_implicit_lambda% (o_op rfl ?_)) | (refine no_implicit_lambda% (o_yes rfl rfl rfl ?_)) | (refine no_implicit_lambda% (o_no rfl rfl rfl (fun _ h => h) ?_)) | (refine no_implicit_lambda% (o_not rfl rfl rfl (fun _ h => h) ?_))) | ((with_reducible refine no_implicit_lambda% (is_opK ?_)); first | (refine no_implicit_lambda% (k_op' (fun _ h => h) ?_))) | ((with_reducible refine no_implicit_lambda% (is_aop ?_)); first | (refine no_implicit_lambda% (a_q1 rfl (fun _ h => h) ?_)) | (refine no_implicit_lambda% (a_box rfl (fun _ h => h) ?_)) | (refine no_implicit_lambda% (a_alloc rfl (fun _ h => h) ?_)) | (refine no_implicit_lambda% (a_storev rfl (fun _ h => h) ?_)) | (refine no_implicit_lambda% (a_store rfl (fun _ h => h) ?_)) | (refine no_implicit_lambda% (a_panic rfl rfl ?_))) | ((with_reducible refine no_implicit_lambda% (is_aop ?_)); first | (refine no_implicit_lambda% (a_append_tok rfl rfl rfl rfl rfl rfl rfl rfl rfl rfl rfl rfl rfl rfl (by first | rfl | (simp; done)) (fun _ h => h) (by (first | assumption | (intro row hr; simp only [List.mem_cons, List.not_mem_nil, or_false] at hr; rcases hr with rfl | rfl | rfl | rfl <;> rfl) | (intro row hr; simp at hr; done) | (intro row hr; simp only [List.mem_singleton] at hr; subst hr; rfl) | (intro row hr; obtain ⟨_, _, rfl⟩ := List.mem_map.1 hr; rfl))) (by (refine ⟨?_, ?_⟩ <;> (simp only [List.length_map, List.length_append, List.length_cons, List.length_nil]; omega))) ?_)) | (refine no_implicit_lambda% (a_append_full rfl rfl rfl rfl rfl rfl rfl rfl rfl rfl rfl rfl (by (first | assumption | (intro row hr; simp only [List.mem_cons, List.not_mem_nil, or_false] at hr; rcases hr with rfl | rfl | rfl | rfl <;> rfl) | (intro row hr; simp at hr; done) | (intro row hr; simp only [List.mem_singleton] at hr; subst hr; rfl) | (intro row hr; obtain ⟨_, _, rfl⟩ := List.mem_map.1 hr; rfl))) (by (first | assumption | (intro row hr; simp only [List.mem_cons, List.not_mem_nil, or_false] at hr; rcases hr with rfl | rfl | rfl | rfl <;> rfl) | (intro row hr; simp at hr; done) | (intro row hr; simp only [List.mem_singleton] at hr; subst hr; rfl) | (intro row hr; obtain ⟨_, _, rfl⟩ := List.mem_map.1 hr; rfl))) (by (refine ⟨?_, ?_⟩ <;> (simp only [List.length_map, List.length_append, List.length_cons, List.length_nil]; omega))) ?_))) | (first | (with_reducible refine no_implicit_lambda% (c_seq ?_)) | (with_reducible refine no_implicit_lambda% (c_region ?_)) | (with_reducible refine no_implicit_lambda% (c_ret ?_)) | (with_reducible refine no_implicit_lambda% (c_skip ?_)) | (with_reducible refine no_implicit_lambda% (c_block ?_)) | (with_reducible refine no_implicit_lambda% (c_exit ?_)) | (with_reducible refine no_implicit_lambda% (o_nil ?_)) | (with_reducible refine no_implicit_lambda% (k_seq ?_)) | (with_reducible refine no_implicit_lambda% (k_seq_ret ?_)) | (with_reducible refine no_implicit_lambda% (k_seq_exit ?_)) | (with_reducible refine no_implicit_lambda% (k_seq_pan ?_)) | (with_reducible refine no_implicit_lambda% (k_block ?_)) | (with_reducible refine no_implicit_lambda% (k_block_ret ?_)) | (with_reducible refine no_implicit_lambda% (k_block_pan ?_)) | ((with_reducible refine no_implicit_lambda% (is_blockx ?_)); first | (refine no_implicit_lambda% (k_block_here rfl ?_)) | (refine no_implicit_lambda% (k_block_on rfl ?_))) | (with_reducible refine no_implicit_lambda% (k_pan ?_)) | (with_reducible refine no_implicit_lambda% (k_opP ?_)) | (with_reducible refine no_implicit_lambda% (k_loop_ret ?_)) | (with_reducible refine no_implicit_lambda% (k_loop_exit ?_)) | (with_reducible refine no_implicit_lambda% (k_loop_pan ?_)) | (with_reducible refine no_implicit_lambda% (e_end ?_))) | (((with_reducible refine no_implicit_lambda% (is_cond ?_)); first | (refine no_implicit_lambda% (c_true rfl ?_)) | (refine no_implicit_lambda% (c_false rfl ?_)))) | ((with_reducible refine no_implicit_lambda% (is_aop ?_)); refine no_implicit_lambda% (a_qS rfl (qIx (fun _ h => h)) (by first | assumption | exact hpx (by assumption) | exact hpy (by assumption)) ?_)) | (((with_reducible refine no_implicit_lambda% (is_aops ?_)); refine no_implicit_lambda% (o_split rfl rfl rfl (fun hc => ?_) (fun hc => ?_)) <;> first | exact decx hc | rw [hc])) | (((with_reducible refine no_implicit_lambda% (is_cond ?_)); refine no_implicit_lambda% (c_cond rfl (fun hc => ?_) (fun hc => ?_)) <;> first | exact decx hc | skip)) | (((with_reducible refine no_implicit_lambda% (is_aop ?_)); refine no_implicit_lambda% (a_pick rfl rfl (fun hc => ?_) (fun hc => ?_)) <;> first | exact decx hc | rw [hc])) | (refine no_implicit_lambda% (ans ?_)) | (with_reducible exact retN) | (with_reducible exact retP) | fail | fail)
        refine c_loop' (rr2St r i x) (fun k => k ≤ x.l.length ∧ versB none x.l = versB (prevT x.l k) (x.l.drop k)) (fun k => x.l.length - k) (a := 0) ⟨Nat.zero_le _, rfl⟩ ?_ ?_
        · (refine no_implicit_lambda% (Conv.toT ?_ ?_ (Nat.le_of_ble_eq_true rfl))); (focus ((unfold rr2St); (try dsimp only); exact wkl)); (focus ((unfold rr2St); (try dsimp only); exact wkh))
        · rintro k ⟨k1, hJ⟩
          refine c_turn (n' := 2) (fun _ h => h) (fun _ h => h) rfl ?_
          rcases hy : x.l[k]? with _ | y
          · have hk : k = x.l.length := by have := List.getElem?_eq_none_iff.1 hy; omega
            repeat' (first | (refine no_implicit_lambda% (awd1 ?_)) | (((with_reducible refine no_implicit_lambda% (is_aops ?_)); refine no_implicit_lambda% (o_split rfl rfl rfl (fun hc => ?_) (fun hc => ?_)) <;> first | exact decx hc | rw [hc])) | (((with_reducible refine no_implicit_lambda% (is_cond ?_)); refine no_implicit_lambda% (c_cond rfl (fun hc => ?_) (fun hc => ?_)) <;> first | exact decx hc | skip)) | (((with_reducible refine no_implicit_lambda% (is_aop ?_)); refine no_implicit_lambda% (a_pick rfl rfl (fun hc => ?_) (fun hc => ?_)) <;> first | exact decx hc | rw [hc])) | (refine no_implicit_lambda% (ans ?_)) | (with_reducible exact retN) | (with_reducible exact retP) | fail | fail)
            have hct : colB x = true := by rw [hcx, hJ, hk, List.drop_length]; rfl
            (refine no_implicit_lambda% (k_loopLT (i + 1) 0 [0] (by show i + 1 ≤ r.length ∧ colsB none r = colsB (prevN r (i + 1)) (r.drop (i + 1)); exact ⟨hi, by rw [hps, hI, hM, hct]; simp⟩) (by first | omega | (simp; done) | (simp; omega)) (Nat.le_of_ble_eq_true rfl) (fun _ h => h) (fun _ h => h) ?_ ?_)); (focus ((try dsimp only); exact wkl)); (focus ((try dsimp only); exact wkh))
          · have hk : k < x.l.length := (List.getElem?_eq_some_iff.1 hy).1
            have hiy := vex hy
            have hpt := prevT_succ hy
            rw [vers_at hy] at hJ
            have hpy : decide ((k : Int) > 0) = true → 0 ≤ IntKind.i64.wrap ((k : Int) - 1) ∧ (x.l.map verow)[(IntKind.i64.wrap ((k : Int) - 1)).toNat]? = some (verow (x.l[k - 1]?.getD y)) ∧ (verow (x.l[k - 1]?.getD y)).length = 4 := fun h => by
              have h0 := of_decide_eq_true h
              rw [List.getElem?_eq_getElem (by omega : k - 1 < x.l.length)]
              exact vexp (by omega) (by omega) (List.getElem?_eq_getElem (by omega))
            have hvr := hrv y.v
            repeat' (first | ((with_reducible refine no_implicit_lambda% (is_aops ?_)); first | (refine no_implicit_lambda% (o_op rfl ?_)) | (refine no_implicit_lambda% (o_yes rfl rfl rfl ?_)) | (refine no_implicit_lambda% (o_no rfl rfl rfl (fun _ h => h) ?_)) | (refine no_implicit_lambda% (o_not rfl rfl rfl (fun _ h => h) ?_))) | ((with_reducible refine no_implicit_lambda% (is_opK ?_)); first | (refine no_implicit_lambda% (k_op' (fun _ h => h) ?_))) | ((with_reducible refine no_implicit_lambda% (is_aop ?_)); first | (refine no_implicit_lambda% (a_q1 rfl (fun _ h => h) ?_)) | (refine no_implicit_lambda% (a_box rfl (fun _ h => h) ?_)) | (refine no_implicit_lambda% (a_alloc rfl (fun _ h => h) ?_)) | (refine no_implicit_lambda% (a_storev rfl (fun _ h => h) ?_)) | (refine no_implicit_lambda% (a_store rfl (fun _ h => h) ?_)) | (refine no_implicit_lambda% (a_panic rfl rfl ?_))) | ((with_reducible refine no_implicit_lambda% (is_aop ?_)); first | (refine no_implicit_lambda% (a_append_tok rfl rfl rfl rfl rfl rfl rfl rfl rfl rfl rfl rfl rfl rfl (by first | rfl | (simp; done)) (fun _ h => h) (by (first | assumption | (intro row hr; simp only [List.mem_cons, List.not_mem_nil, or_false] at hr; rcases hr with rfl | rfl | rfl | rfl <;> rfl) | (intro row hr; simp at hr; done) | (intro row hr; simp only [List.mem_singleton] at hr; subst hr; rfl) | (intro row hr; obtain ⟨_, _, rfl⟩ := List.mem_map.1 hr; rfl))) (by (refine ⟨?_, ?_⟩ <;> (simp only [List.length_map, List.length_append, List.length_cons, List.length_nil]; omega))) ?_)) | (refine no_implicit_lambda% (a_append_full rfl rfl rfl rfl rfl rfl rfl rfl rfl rfl rfl rfl (by (first | assumption | (intro row hr; simp only [List.mem_cons, List.not_mem_nil, or_false] at hr; rcases hr with rfl | rfl | rfl | rfl <;> rfl) | (intro row hr; simp at hr; done) | (intro row hr; simp only [List.mem_singleton] at hr; subst hr; rfl) | (intro row hr; obtain ⟨_, _, rfl⟩ := List.mem_map.1 hr; rfl))) (by (first | assumption | (intro row hr; simp only [List.mem_cons, List.not_mem_nil, or_false] at hr; rcases hr with rfl | rfl | rfl | rfl <;> rfl) | (intro row hr; simp at hr; done) | (intro row hr; simp only [List.mem_singleton] at hr; subst hr; rfl) | (intro row hr; obtain ⟨_, _, rfl⟩ := List.mem_map.1 hr; rfl))) (by (refine ⟨?_, ?_⟩ <;> (simp only [List.length_map, List.length_append, List.length_cons, List.length_nil]; omega))) ?_))) | (first | (with_reducible refine no_implicit_lambda% (c_seq ?_)) | (with_reducible refine no_implicit_lambda% (c_region ?_)) | (with_reducible refine no_implicit_lambda% (c_ret ?_)) | (with_reducible refine no_implicit_lambda% (c_skip ?_)) | (with_reducible refine no_implicit_lambda% (c_block ?_)) | (with_reducible refine no_implicit_lambda% (c_exit ?_)) | (with_reducible refine no_implicit_lambda% (o_nil ?_)) | (with_reducible refine no_implicit_lambda% (k_seq ?_)) | (with_reducible refine no_implicit_lambda% (k_seq_ret ?_)) | (with_reducible refine no_implicit_lambda% (k_seq_exit ?_)) | (with_reducible refine no_implicit_lambda% (k_seq_pan ?_)) | (with_reducible refine no_implicit_lambda% (k_block ?_)) | (with_reducible refine no_implicit_lambda% (k_block_ret ?_)) | (with_reducible refine no_implicit_lambda% (k_block_pan ?_)) | ((with_reducible refine no_implicit_lambda% (is_blockx ?_)); first | (refine no_implicit_lambda% (k_block_here rfl ?_)) | (refine no_implicit_lambda% (k_block_on rfl ?_))) | (with_reducible refine no_implicit_lambda% (k_pan ?_)) | (with_reducible refine no_implicit_lambda% (k_opP ?_)) | (with_reducible refine no_implicit_lambda% (k_loop_ret ?_)) | (with_reducible refine no_implicit_lambda% (k_loop_exit ?_)) | (with_reducible refine no_implicit_lambda% (k_loop_pan ?_)) | (with_reducible refine no_implicit_lambda% (e_end ?_))) | (((with_reducible refine no_implicit_lambda% (is_cond ?_)); first | (refine no_implicit_lambda% (c_true rfl ?_)) | (refine no_implicit_lambda% (c_false rfl ?_)))) | ((with_reducible refine no_implicit_lambda% (is_aop ?_)); refine no_implicit_lambda% (a_qS rfl (qIx (fun _ h => h)) (by first | assumption | exact hpx (by assumption) | exact hpy (by assumption)) ?_)) | (((with_reducible refine no_implicit_lambda% (is_aops ?_)); refine no_implicit_lambda% (o_split rfl rfl rfl (fun hc => ?_) (fun hc => ?_)) <;> first | exact decx hc | rw [hc])) | (((with_reducible refine no_implicit_lambda% (is_cond ?_)); refine no_implicit_lambda% (c_cond rfl (fun hc => ?_) (fun hc => ?_)) <;> first | exact decx hc | skip)) | (((with_reducible refine no_implicit_lambda% (is_aop ?_)); refine no_implicit_lambda% (a_pick rfl rfl (fun hc => ?_) (fun hc => ?_)) <;> first | exact decx hc | rw [hc])) | (refine no_implicit_lambda% (ans ?_)) | (with_reducible exact retN) | (with_reducible exact retP) | fail | fail)
            refine c_cutR (rrbSt r i x k) (fun b => b = !(tmOk y.t && vRt y.v && ltT (prevT x.l k) y.t)) ?_ ?_
            · intro b hb
              refine c_turn (n' := 12) (fun _ h => h) (fun _ h => h) rfl ?_
              rcases b with _ | _
              · repeat' (first | (refine no_implicit_lambda% (awd1 ?_)) | (((with_reducible refine no_implicit_lambda% (is_aops ?_)); refine no_implicit_lambda% (o_split rfl rfl rfl (fun hc => ?_) (fun hc => ?_)) <;> first | exact decx hc | rw [hc])) | (((with_reducible refine no_implicit_lambda% (is_cond ?_)); refine no_implicit_lambda% (c_cond rfl (fun hc => ?_) (fun hc => ?_)) <;> first | exact decx hc | skip)) | (((with_reducible refine no_implicit_lambda% (is_aop ?_)); refine no_implicit_lambda% (a_pick rfl rfl (fun hc => ?_) (fun hc => ?_)) <;> first | exact decx hc | rw [hc])) | (refine no_implicit_lambda% (ans ?_)) | (with_reducible exact retN) | (with_reducible exact retP) | fail | fail)
                have h1 : tmOk y.t = true := by
                  revert hb
                  cases tmOk y.t <;> cases vRt y.v <;> cases ltT (prevT x.l k) y.t <;> simp
                have h2 : vRt y.v = true := by
                  revert hb
                  cases tmOk y.t <;> cases vRt y.v <;> cases ltT (prevT x.l k) y.t <;> simp
                have h3 : ltT (prevT x.l k) y.t = true := by
                  revert hb
                  cases tmOk y.t <;> cases vRt y.v <;> cases ltT (prevT x.l k) y.t <;> simp
                (refine no_implicit_lambda% (k_loopLT (k + 1) 0 [0, 1] (by show k + 1 ≤ x.l.length ∧ versB none x.l = versB (prevT x.l (k + 1)) (x.l.drop (k + 1)); exact ⟨hk, by rw [hpt, hJ, h1, h2, h3]; simp⟩) (by first | omega | (simp; done) | (simp; omega)) (Nat.le_of_ble_eq_true rfl) (fun _ h => h) (fun _ h => h) ?_ ?_)); (focus ((try dsimp only); exact wkl)); (focus ((try dsimp only); exact wkh))
              · repeat' (first | (refine no_implicit_lambda% (awd1 ?_)) | (((with_reducible refine no_implicit_lambda% (is_aops ?_)); refine no_implicit_lambda% (o_split rfl rfl rfl (fun hc => ?_) (fun hc => ?_)) <;> first | exact decx hc | rw [hc])) | (((with_reducible refine no_implicit_lambda% (is_cond ?_)); refine no_implicit_lambda% (c_cond rfl (fun hc => ?_) (fun hc => ?_)) <;> first | exact decx hc | skip)) | (((with_reducible refine no_implicit_lambda% (is_aop ?_)); refine no_implicit_lambda% (a_pick rfl rfl (fun hc => ?_) (fun hc => ?_)) <;> first | exact decx hc | rw [hc])) | (refine no_implicit_lambda% (ans ?_)) | (with_reducible exact retN) | (with_reducible exact retP) | fail | fail)
                refine no_implicit_lambda% (e_ret (H' := []) (rest := _) rfl ⟨congrArg (fun z => AOut.ret (.v (.bool z))) ?_, rfl⟩ (.refl _) (Nat.le_of_ble_eq_true rfl))
                rw [hrow, hI, hcx, hJ]
                revert hb
                cases tmOk y.t <;> cases vRt y.v <;> cases ltT (prevT x.l k) y.t <;> simp
            · intro Kx kN kP kR kE
              have hz0 : 0 < k → ltT (prevT x.l k) y.t = decide (y.t < (x.l[k - 1]?.getD y).t) := fun h => by
                unfold prevT
                rw [if_neg (by omega), List.getElem?_eq_getElem (by omega : k - 1 < x.l.length)]; rfl
              repeat' (first | (refine no_implicit_lambda% (awd1 ?_)) | (((with_reducible refine no_implicit_lambda% (is_aops ?_)); refine no_implicit_lambda% (o_split rfl rfl rfl (fun hc => ?_) (fun hc => ?_)) <;> first | exact decx hc | rw [hc])) | (((with_reducible refine no_implicit_lambda% (is_cond ?_)); refine no_implicit_lambda% (c_cond rfl (fun hc => ?_) (fun hc => ?_)) <;> first | exact decx hc | skip)) | (((with_reducible refine no_implicit_lambda% (is_aop ?_)); refine no_implicit_lambda% (a_pick rfl rfl (fun hc => ?_) (fun hc => ?_)) <;> first | exact decx hc | rw [hc])) | (((with_reducible refine no_implicit_lambda% (is_ev ?_)); refine no_implicit_lambda% (v_split rfl rfl rfl rfl (fun hc => ?_) (fun hc => ?_)) <;> first | exact decx hc | rw [hc])) | (refine no_implicit_lambda% (ans ?_)) | (with_reducible exact retN) | (with_reducible exact retP) | (refine no_implicit_lambda% (cal [] (hvr) ?_ ?_)) | fail)
              · have h1 : tmOk y.t = false := decide_eq_false (by have := of_decide_eq_true hc; omega)
                refine kN true _ _ _ (by simp [h1]) (.inl ?_)
                (refine no_implicit_lambda% (Conv.toT ?_ ?_ (Nat.le_of_ble_eq_true rfl))); (focus ((unfold rrbSt); (try dsimp only); exact wkl)); (focus ((unfold rrbSt); (try dsimp only); exact wkh))
              · have h1 : tmOk y.t = false := decide_eq_false (by have := of_decide_eq_true hc; omega)
                refine kN true _ _ _ (by simp [h1]) (.inl ?_)
                (refine no_implicit_lambda% (Conv.toT ?_ ?_ (Nat.le_of_ble_eq_true rfl))); (focus ((unfold rrbSt); (try dsimp only); exact wkl)); (focus ((unfold rrbSt); (try dsimp only); exact wkh))
              · have h0 : 0 < k := by
                  simp only [decide_eq_true_eq] at *
                  omega
                have h3 : ltT (prevT x.l k) y.t = false := by
                  rw [hz0 h0]
                  exact decide_eq_false (by have := of_decide_eq_true hc; omega)
                refine kN true _ _ _ (by simp [h3]) (.inl ?_)
                (refine no_implicit_lambda% (Conv.toT ?_ ?_ (Nat.le_of_ble_eq_true rfl))); (focus ((unfold rrbSt); (try dsimp only); exact wkl)); (focus ((unfold rrbSt); (try dsimp only); exact wkh))
              · have h0 : 0 < k := by
                  simp only [decide_eq_true_eq] at *
                  omega
                have h1 : tmOk y.t = true := decide_eq_true (by simp only [decide_eq_false_iff_not] at *; omega)
                have h3 : ltT (prevT x.l k) y.t = true := by
                  rw [hz0 h0]
                  exact decide_eq_true (by have := of_decide_eq_false hc; omega)
                refine kN (!(vRt y.v)) _ _ _ (by simp [h1, h3]) (.inl ?_)
                (refine no_implicit_lambda% (Conv.toT ?_ ?_ (Nat.le_of_ble_eq_true rfl))); (focus ((unfold rrbSt); (try dsimp only); exact wkl)); (focus ((unfold rrbSt); (try dsimp only); exact wkh))
              · have h0 : k = 0 := by
                  have := of_decide_eq_false hc
                  omega
                have h1 : tmOk y.t = true := decide_eq_true (by simp only [decide_eq_false_iff_not] at *; omega)
                have h3 : ltT (prevT x.l k) y.t = true := by
                  unfold prevT
                  rw [if_pos h0]; rfl
                refine kN (!(vRt y.v)) _ _ _ (by simp [h1, h3]) (.inl ?_)
                (refine no_implicit_lambda% (Conv.toT ?_ ?_ (Nat.le_of_ble_eq_true rfl))); (focus ((unfold rrbSt); (try dsimp only); exact wkl)); (focus ((unfold rrbSt); (try dsimp only); exact wkh))
end Go.Proofs.Ytncffhgoopdfgaa
namespace Go.Proofs.Ytncffhgoopdfgaa
open Go.Am
set_option linter.unusedSimpArgs false
set_option linter.unusedVariables false
set_option maxRecDepth 100000
def qcSt (r o : List Co) (cp i : Nat) : ASt := ⟨([.dead, .ptr 0 0, .ptr 1 0, .ptr 2 0, .v (.int .i64 i)] ++ List.replicate 66 .dead), [(0, .box [.list (r.map corow) .free]), (1, .box [.list [] .full]), (2, .box [.arr 3 0 i cp]), (3, .seq (o.map corow) ((cp - i) * 2))], 4⟩
def qdSt (r o : List Co) (cp i : Nat) (c : Co) (vs : List Ve) (k : Nat) : ASt := ⟨([.dead, .ptr 0 0, .ptr 1 0, .ptr 2 0, .v (.int .i64 i), .ptr 4 0, .v (.int .i64 k)] ++ List.replicate 64 .dead), [(4, .box [.v (.string c.n), .list (vs.map verow) (.tok 5)]), (5, .tok 4 vs.length), (0, .box [.list (r.map corow) .free]), (1, .box [.list [] .full]), (2, .box [.arr 3 0 i cp]), (3, .seq (o.map corow) ((cp - i) * 2))], 6⟩
set_option maxHeartbeats 3200000 in
theorem qcopy_s (r : List Co) (hr : r.length < 70368744177664) (hs : RowSz r) : ACalls Try.prog 91 0 5000 [rowA r] [] (fun out H' => ∃ id cp, id < 5000 ∧ (copyR r).length ≤ cp ∧ cp ≤ maxLen ∧ out = .ret (.agg [.arr id 0 (copyR r).length cp]) ∧ H' = [(id, .seq ((copyR r).map corow) ((cp - (copyR r).length) * 2))]) := by
  have hrt := (rright_c r hr).top0
  refine no_implicit_lambda% (acalls_of tok dok (f := 91) ⟨Try.func91, rfl, by kernel_rfl⟩ ?_); refine no_implicit_lambda% (c_start (fun _ h => h) ?_)
  repeat' (first | (refine no_implicit_lambda% (awd1 ?_)) | (((with_reducible refine no_implicit_lambda% (is_aops ?_)); refine no_implicit_lambda% (o_split rfl rfl rfl (fun hc => ?_) (fun hc => ?_)) <;> first | exact decx hc | rw [hc])) | (((with_reducible refine no_implicit_lambda% (is_cond ?_)); refine no_implicit_lambda% (c_cond rfl (fun hc => ?_) (fun hc => ?_)) <;> first | exact decx hc | skip)) | (((with_reducible refine no_implicit_lambda% (is_aop ?_)); refine no_implicit_lambda% (a_pick rfl rfl (fun hc => ?_) (fun hc => ?_)) <;> first | exact decx hc | rw [hc])) | (refine no_implicit_lambda% (ans ?_)) | (with_reducible exact retN) | (with_reducible exact retP) | (refine no_implicit_lambda% (cal [] (hrt) ?_ ?_)) | fail)
  · have hf : rowB r = false := by simpa using hc
    have he : copyR r = [] := by unfold copyR; rw [hf]; rfl
    rw [he]
    exact e_ret_to (H' := [(3, .seq [] 0)]) (rest := _) (Conv.nilBox (id := 1) (j := 0) (cells := [.list [] .full]) rfl rfl) rfl ⟨3, 0, by omega, Nat.le_refl _, by decide, rfl, rfl⟩ permT (Nat.le_of_ble_eq_true rfl)
  · have ht : rowB r = true := by simpa using hc
    have he : copyR r = r.map canC := by unfold copyR; rw [ht]; rfl
    have h4 : r.length ≤ 4 := by
      unfold rowB at ht
      simp only [Bool.and_eq_true, decide_eq_true_eq] at ht
      exact ht.2
    rw [he]
    refine c_l3 (qcSt r) (fun o cp i => i ≤ r.length ∧ i ≤ cp ∧ cp ≤ maxLen ∧ o = (r.take i).map canC) (fun _ _ i => r.length - i) [] 0 0 ⟨Nat.zero_le _, Nat.le_refl _, by decide, rfl⟩ ((Conv.nilBox (id := 2) (j := 0) (cells := [.list [] .full]) rfl rfl).trans ?_) ?_
    · (refine no_implicit_lambda% (Conv.toT ?_ ?_ (Nat.le_of_ble_eq_true rfl))); (focus ((unfold qcSt); (try dsimp only); exact wkl)); (focus ((unfold qcSt); (try dsimp only); exact wkh))
    · rintro o cp i ⟨h1, h2, h3, ho⟩
      have hol : o.length = i := by rw [ho, List.length_map, List.length_take]; omega
      refine c_turn (n' := 4) (fun _ h => h) (fun _ h => h) rfl ?_
      rcases hx : r[i]? with _ | x
      · have hi : i = r.length := by have := List.getElem?_eq_none_iff.1 hx; omega
        subst hi
        rw [List.take_length] at ho
        subst ho
        repeat' (first | (refine no_implicit_lambda% (awd1 ?_)) | (((with_reducible refine no_implicit_lambda% (is_aops ?_)); refine no_implicit_lambda% (o_split rfl rfl rfl (fun hc => ?_) (fun hc => ?_)) <;> first | exact decx hc | rw [hc])) | (((with_reducible refine no_implicit_lambda% (is_cond ?_)); refine no_implicit_lambda% (c_cond rfl (fun hc => ?_) (fun hc => ?_)) <;> first | exact decx hc | skip)) | (((with_reducible refine no_implicit_lambda% (is_aop ?_)); refine no_implicit_lambda% (a_pick rfl rfl (fun hc => ?_) (fun hc => ?_)) <;> first | exact decx hc | rw [hc])) | (refine no_implicit_lambda% (ans ?_)) | (with_reducible exact retN) | (with_reducible exact retP) | fail | fail)
        have e : (r.map canC).length = r.length := List.length_map ..
        exact e_ret (H' := [(3, .seq ((r.map canC).map corow) ((cp - r.length) * 2))]) (rest := _) rfl ⟨3, cp, by omega, by omega, h3, (by rw [e]; rfl), by rw [e]⟩ permT (Nat.le_of_ble_eq_true rfl)
      · have hi : i < r.length := (List.getElem?_eq_some_iff.1 hx).1
        have hix := cox hx
        have hsx := hs x (List.mem_of_getElem? hx)
        have hts : r.take (i + 1) = r.take i ++ [x] := by rw [List.take_add_one, hx]; rfl
        have hxl := col_len (row_mem ht (List.mem_of_getElem? hx))
        repeat' (first | (refine no_implicit_lambda% (awd1 ?_)) | (((with_reducible refine no_implicit_lambda% (is_aops ?_)); refine no_implicit_lambda% (o_split rfl rfl rfl (fun hc => ?_) (fun hc => ?_)) <;> first | exact decx hc | rw [hc])) | (((with_reducible refine no_implicit_lambda% (is_cond ?_)); refine no_implicit_lambda% (c_cond rfl (fun hc => ?_) (fun hc => ?_)) <;> first | exact decx hc | skip)) | (((with_reducible refine no_implicit_lambda% (is_aop ?_)); refine no_implicit_lambda% (a_pick rfl rfl (fun hc => ?_) (fun hc => ?_)) <;> first | exact decx hc | rw [hc])) | (refine no_implicit_lambda% (ans ?_)) | (with_reducible exact retN) | (with_reducible exact retP) | fail | fail)
        refine c_loop2 (qdSt r o cp i x) (fun vs k => k ≤ x.l.length ∧ vs = (x.l.take k).map canE) (fun _ k => x.l.length - k) [] 0 ⟨Nat.zero_le _, rfl⟩ ((Conv.tokBox (id := 4) (j := 1) (sz := 4) (rows := []) rfl rfl (by simp)).trans ?_) ?_
        · (refine no_implicit_lambda% (Conv.toT ?_ ?_ (Nat.le_of_ble_eq_true rfl))); (focus ((unfold qdSt); (try dsimp only); exact wkl)); (focus ((unfold qdSt); (try dsimp only); exact wkh))
        · rintro vs k ⟨k1, hv⟩
          have hvl : vs.length = k := by rw [hv, List.length_map, List.length_take]; omega
          refine c_turn (n' := 6) (fun _ h => h) (fun _ h => h) rfl ?_
          rcases hy : x.l[k]? with _ | y
          · have hk : k = x.l.length := by have := List.getElem?_eq_none_iff.1 hy; omega
            rw [hk, List.take_length] at hv
            repeat' (first | (refine no_implicit_lambda% (awd1 ?_)) | (((with_reducible refine no_implicit_lambda% (is_aops ?_)); refine no_implicit_lambda% (o_split rfl rfl rfl (fun hc => ?_) (fun hc => ?_)) <;> first | exact decx hc | rw [hc])) | (((with_reducible refine no_implicit_lambda% (is_cond ?_)); refine no_implicit_lambda% (c_cond rfl (fun hc => ?_) (fun hc => ?_)) <;> first | exact decx hc | skip)) | (((with_reducible refine no_implicit_lambda% (is_aop ?_)); refine no_implicit_lambda% (a_pick rfl rfl (fun hc => ?_) (fun hc => ?_)) <;> first | exact decx hc | rw [hc])) | (refine no_implicit_lambda% (ans ?_)) | (with_reducible exact retN) | (with_reducible exact retP) | fail | fail)
            subst hv
            ((with_reducible refine no_implicit_lambda% (is_aop ?_)); refine no_implicit_lambda% (a_appS (sz := 2) (B := 40) (m2 := i + 1) (rows3 := (o ++ [canC x]).map corow) rfl rfl rfl rfl rfl rfl rfl rfl rfl rfl rfl (fun _ h => h) rfl rfl (coOk o) (coOk [canC x]) (by first | rfl | (exact List.length_map ..) | (simp; done) | (simp; omega)) rfl (by first | omega | (simp; omega)) (by first | rfl | (simp; done) | (simp; omega)) (by first | rfl | (exact map_snoc _ _) | (rw [List.map_append]; rfl) | (simp; done)) ?_))
            intro cp' c1 c2
            refine no_implicit_lambda% (akc ?_)
            repeat' (first | (refine no_implicit_lambda% (awd1 ?_)) | (((with_reducible refine no_implicit_lambda% (is_aops ?_)); refine no_implicit_lambda% (o_split rfl rfl rfl (fun hc => ?_) (fun hc => ?_)) <;> first | exact decx hc | rw [hc])) | (((with_reducible refine no_implicit_lambda% (is_cond ?_)); refine no_implicit_lambda% (c_cond rfl (fun hc => ?_) (fun hc => ?_)) <;> first | exact decx hc | skip)) | (((with_reducible refine no_implicit_lambda% (is_aop ?_)); refine no_implicit_lambda% (a_pick rfl rfl (fun hc => ?_) (fun hc => ?_)) <;> first | exact decx hc | rw [hc])) | (refine no_implicit_lambda% (ans ?_)) | (with_reducible exact retN) | (with_reducible exact retP) | fail | fail)
            (refine no_implicit_lambda% (k_loopLT (((o ++ [canC x], cp', i + 1) : List Co × Nat × Nat)) 0 [0, 1, 2, 6] (by show i + 1 ≤ r.length ∧ i + 1 ≤ cp' ∧ cp' ≤ maxLen ∧ o ++ [canC x] = (r.take (i + 1)).map canC; exact ⟨hi, c1, c2, by rw [hts, List.map_append, ← ho]; rfl⟩) (by first | omega | (simp; done) | (simp; omega)) (Nat.le_of_ble_eq_true rfl) (fun _ h => h) (fun _ h => h) ?_ ?_)); (focus ((try dsimp only); exact wkl)); (focus ((try dsimp only); exact wkh))
          · have hk : k < x.l.length := (List.getElem?_eq_some_iff.1 hy).1
            have hiy := vex hy
            have hsy := hsx y (List.mem_of_getElem? hy)
            have hcn := refCanon_c y.v (by omega) (by omega)
            have hty : x.l.take (k + 1) = x.l.take k ++ [y] := by rw [List.take_add_one, hy]; rfl
            repeat' (first | (refine no_implicit_lambda% (awd1 ?_)) | (((with_reducible refine no_implicit_lambda% (is_aops ?_)); refine no_implicit_lambda% (o_split rfl rfl rfl (fun hc => ?_) (fun hc => ?_)) <;> first | exact decx hc | rw [hc])) | (((with_reducible refine no_implicit_lambda% (is_cond ?_)); refine no_implicit_lambda% (c_cond rfl (fun hc => ?_) (fun hc => ?_)) <;> first | exact decx hc | skip)) | (((with_reducible refine no_implicit_lambda% (is_aop ?_)); refine no_implicit_lambda% (a_pick rfl rfl (fun hc => ?_) (fun hc => ?_)) <;> first | exact decx hc | rw [hc])) | (((with_reducible refine no_implicit_lambda% (is_ev ?_)); refine no_implicit_lambda% (v_split rfl rfl rfl rfl (fun hc => ?_) (fun hc => ?_)) <;> first | exact decx hc | rw [hc])) | (refine no_implicit_lambda% (ans ?_)) | (with_reducible exact retN) | (with_reducible exact retP) | (refine no_implicit_lambda% (cal [] (hcn) ?_ ?_)) | fail)
            (refine no_implicit_lambda% (k_loopLT (((vs ++ [canE y], k + 1) : List Ve × Nat)) 0 (List.range 6) (by show k + 1 ≤ x.l.length ∧ vs ++ [canE y] = (x.l.take (k + 1)).map canE; exact ⟨hk, by rw [hty, List.map_append, ← hv]; rfl⟩) (by first | omega | (simp; done) | (simp; omega)) (Nat.le_of_ble_eq_true rfl) (fun _ h => h) (fun _ h => h) ?_ ?_)); (focus ((try dsimp only); exact wkl)); (focus ((try dsimp only); exact wkh))
theorem qcopy_f (r : List Co) (hr : r.length < 70368744177664) (hs : RowSz r) : ACalls Try.prog 91 0 0 [rowA r] [] (fun out H' => out = .ret (rowA (copyR r)) ∧ H' = []) :=
  ((qcopy_s r hr hs).conv (M := 5000) (R2 := fun out H' => out = .ret (rowA (copyR r)) ∧ H' = []) (Nat.zero_le _) (Nat.le_refl _) (fun x H' hh => by
    obtain ⟨id, cp, _, h1, h2, h3, rfl⟩ := hh
    cases h3
    exact ⟨rowA (copyR r), [], 5000, Nat.le_refl _, (Conv.freezeA (coOk _) (by simp)).toN 0, (fun rows h => by cases h), rfl, rfl⟩) (fun x H' hh => by
    obtain ⟨_, _, _, _, _, h', _⟩ := hh
    cases h')).ren (Nat.zero_le _) fun out H' hh => by
      obtain ⟨rfl, rfl⟩ := hh
      exact ⟨[], .ret (rowA (copyR r)), [], List.nodup_nil, (fun i h => by cases h), (fun i h => absurd h (Nat.not_lt_zero i)), Nat.le_refl _, (by simp [rowA, AOut.ren, AV.ren, AV.renL, Own.ren]), rfl, rfl, rfl⟩
end Go.Proofs.Ytncffhgoopdfgaa
namespace Go.Proofs.Ytncffhgoopdfgaa
open Go.Am
set_option linter.unusedSimpArgs false
set_option linter.unusedVariables false
set_option maxRecDepth 100000
def qfSt (l : List Co) (s : ByteArray) (i : Nat) : ASt := ⟨([.dead, .v (.string s), .ptr 0 0, .dead, .dead, .dead, .v (.int .i64 i)] ++ List.replicate 33 .dead), [(0, .box [.list (l.map corow) .free])], 1⟩
theorem qfind_f (l : List Co) (s : ByteArray) (hl : l.length < 1000000) (hs : Nsort l) : ACalls Try.prog 104 0 0 [rowA l, .v (.string s)] [] (fun out H' => out = .ret (.tuple [.v (.int .i64 (npos l s)), .v (.bool (hasN l s))]) ∧ H' = []) := by
  have h1 : ACalls Try.prog 104 0 5 [rowA l, .v (.string s)] [] (fun out H' => out = .ret (.tuple [.v (.int .i64 (npos l s)), .v (.bool (hasN l s))]) ∧ H' = []) := by
    refine no_implicit_lambda% (acalls_of tok dok (f := 104) ⟨Try.func104, rfl, by kernel_rfl⟩ ?_); refine no_implicit_lambda% (c_start (fun _ h => h) ?_)
    repeat' (first | (refine no_implicit_lambda% (awd1 ?_)) | (((with_reducible refine no_implicit_lambda% (is_aops ?_)); refine no_implicit_lambda% (o_split rfl rfl rfl (fun hc => ?_) (fun hc => ?_)) <;> first | exact decx hc | rw [hc])) | (((with_reducible refine no_implicit_lambda% (is_cond ?_)); refine no_implicit_lambda% (c_cond rfl (fun hc => ?_) (fun hc => ?_)) <;> first | exact decx hc | skip)) | (((with_reducible refine no_implicit_lambda% (is_aop ?_)); refine no_implicit_lambda% (a_pick rfl rfl (fun hc => ?_) (fun hc => ?_)) <;> first | exact decx hc | rw [hc])) | (refine no_implicit_lambda% (ans ?_)) | (with_reducible exact retN) | (with_reducible exact retP) | fail | fail)
    refine c_loop' (qfSt l s) (fun i => i ≤ npos l s) (fun i => l.length - i) (a := 0) (Nat.zero_le _) ?_ ?_
    · (refine no_implicit_lambda% (Conv.toT ?_ ?_ (Nat.le_of_ble_eq_true rfl))); (focus ((unfold qfSt); (try dsimp only); exact wkl)); (focus ((unfold qfSt); (try dsimp only); exact wkh))
    · rintro i i1
      have hnl := npos_le l s
      refine c_turn (n' := 1) (fun _ h => h) (fun _ h => h) rfl ?_
      rcases hx : l[i]? with _ | x
      · have hi : l.length ≤ i := List.getElem?_eq_none_iff.1 hx
        have hin : i = npos l s := by omega
        have hh : hasN l s = false := by unfold hasN; rw [← hin, hx]
        rw [hh, ← hin]
        repeat' (first | (refine no_implicit_lambda% (awd1 ?_)) | (((with_reducible refine no_implicit_lambda% (is_aops ?_)); refine no_implicit_lambda% (o_split rfl rfl rfl (fun hc => ?_) (fun hc => ?_)) <;> first | exact decx hc | rw [hc])) | (((with_reducible refine no_implicit_lambda% (is_cond ?_)); refine no_implicit_lambda% (c_cond rfl (fun hc => ?_) (fun hc => ?_)) <;> first | exact decx hc | skip)) | (((with_reducible refine no_implicit_lambda% (is_aop ?_)); refine no_implicit_lambda% (a_pick rfl rfl (fun hc => ?_) (fun hc => ?_)) <;> first | exact decx hc | rw [hc])) | (((with_reducible refine no_implicit_lambda% (is_ev ?_)); refine no_implicit_lambda% (v_split rfl rfl rfl rfl (fun hc => ?_) (fun hc => ?_)) <;> first | exact decx hc | rw [hc])) | (refine no_implicit_lambda% (ans ?_)) | (with_reducible exact retN) | (with_reducible exact retP) | fail | fail)
        exact e_ret (H' := []) (rest := _) rfl ⟨rfl, rfl⟩ permT (Nat.le_of_ble_eq_true rfl)
      · have hi : i < l.length := (List.getElem?_eq_some_iff.1 hx).1
        have hix := cox hx
        have hk := npos_lt (s := s) hs hx
        repeat' (first | (refine no_implicit_lambda% (awd1 ?_)) | (((with_reducible refine no_implicit_lambda% (is_aops ?_)); refine no_implicit_lambda% (o_split rfl rfl rfl (fun hc => ?_) (fun hc => ?_)) <;> first | exact decx hc | rw [hc])) | (((with_reducible refine no_implicit_lambda% (is_cond ?_)); refine no_implicit_lambda% (c_cond rfl (fun hc => ?_) (fun hc => ?_)) <;> first | exact decx hc | skip)) | (((with_reducible refine no_implicit_lambda% (is_aop ?_)); refine no_implicit_lambda% (a_pick rfl rfl (fun hc => ?_) (fun hc => ?_)) <;> first | exact decx hc | rw [hc])) | (((with_reducible refine no_implicit_lambda% (is_ev ?_)); refine no_implicit_lambda% (v_split rfl rfl rfl rfl (fun hc => ?_) (fun hc => ?_)) <;> first | exact decx hc | rw [hc])) | (refine no_implicit_lambda% (ans ?_)) | (with_reducible exact retN) | (with_reducible exact retP) | fail | fail)
        · have := hk.2 hc
          (refine no_implicit_lambda% (k_loopLT (i + 1) 0 [0] (by show i + 1 ≤ npos l s; omega) (by first | omega | (simp; done) | (simp; omega)) (Nat.le_of_ble_eq_true rfl) (fun _ h => h) (fun _ h => h) ?_ ?_)); (focus ((try dsimp only); exact wkl)); (focus ((try dsimp only); exact wkh))
        · have hin : i = npos l s := by
            have h5 : ¬ i < npos l s := fun h => by
              have h6 : sLt x.n s = false := by assumption
              rw [hk.1 h] at h6; cases h6
            omega
          have hh : hasN l s = (x.n.toList == s.toList) := by
            unfold hasN
            rw [← hin, hx]
            rw [eq_cb]
            rfl
          rw [hh, ← hin]
          exact e_ret (H' := []) (rest := _) rfl ⟨rfl, rfl⟩ permT (Nat.le_of_ble_eq_true rfl)
  exact h1.ren (Nat.zero_le _) fun out H' hh => by
    obtain ⟨rfl, rfl⟩ := hh
    exact ⟨[], .ret (.tuple [.v (.int .i64 (npos l s)), .v (.bool (hasN l s))]), [], List.nodup_nil, (fun i h => by cases h), (fun i h => absurd h (Nat.not_lt_zero i)), Nat.le_refl _, (by simp [AOut.ren, AV.ren, AV.renL]), rfl, rfl, rfl⟩
def qaSt (o : List Co) (p : Nat) (t : Int) (i : Nat) : ASt := ⟨([.dead, .dead, .v (.int .i64 t), .dead, .dead, .dead, .ptr 1 0, .dead, .ptr 2 0, .v (.int .i64 p), .dead, .v (.int .i64 i)] ++ List.replicate 45 .dead), [(1, .box [.v (.int .i64 0), .list [] .free, .v (.float .f64 0)]), (2, .box [.list (o.map corow) .free])], 3⟩
set_option maxHeartbeats 3200000 in
theorem qat_c (r : List Co) (s : ByteArray) (t : Int) (hr : r.length < 70368744177664) (hs : RowSz r) : ACalls Try.prog 68 0 5000 [rowA r, .v (.string s), .v (.int .i64 t)] [] (fun out H' => out = .ret (optA (atR r s t)) ∧ H' = []) := by
  have hcp := qcopy_f r hr hs
  have h4 := copy_len r
  have hf := qfind_f (copyR r) s (by omega) (copy_sort r)
  have hcol := fun c (h : c ∈ copyR r) => copy_col h
  unfold atR
  generalize copyR r = o at *
  refine no_implicit_lambda% (acalls_of tok dok (f := 68) ⟨Try.func68, rfl, by kernel_rfl⟩ ?_); refine no_implicit_lambda% (c_start (fun _ h => h) ?_)
  rcases hN : hasN o s with _ | _
  · rw [hN] at hf
    repeat' (first | (refine no_implicit_lambda% (awd1 ?_)) | (((with_reducible refine no_implicit_lambda% (is_aops ?_)); refine no_implicit_lambda% (o_split rfl rfl rfl (fun hc => ?_) (fun hc => ?_)) <;> first | exact decx hc | rw [hc])) | (((with_reducible refine no_implicit_lambda% (is_cond ?_)); refine no_implicit_lambda% (c_cond rfl (fun hc => ?_) (fun hc => ?_)) <;> first | exact decx hc | skip)) | (((with_reducible refine no_implicit_lambda% (is_aop ?_)); refine no_implicit_lambda% (a_pick rfl rfl (fun hc => ?_) (fun hc => ?_)) <;> first | exact decx hc | rw [hc])) | (refine no_implicit_lambda% (ans ?_)) | (with_reducible exact retN) | (with_reducible exact retP) | (refine no_implicit_lambda% (cal [] (hcp) ?_ ?_)) | (refine no_implicit_lambda% (cal [] (hf) ?_ ?_)) | fail)
    refine e_ret_to (H' := []) (rest := [(1, .box (vrowV ⟨0, [], 0⟩))]) (Conv.toT (τ := ⟨_, [(1, .box (vrowV ⟨0, [], 0⟩))], _⟩) (.refl _) ?_ (Nat.le_refl _)) rfl ⟨rfl, rfl⟩ (.of_eq rfl) (Nat.le_of_ble_eq_true rfl)
    unfold vrowV
    exact wkh
  · rw [hN] at hf
    obtain ⟨c, hc⟩ : ∃ c, o[npos o s]? = some c := by
      unfold hasN at hN
      split at hN
      · exact ⟨_, by assumption⟩
      · cases hN
    have hix := cox hc
    have hcl := hcol c (List.mem_of_getElem? hc)
    have hat : (if true = true then o[npos o s]?.bind fun c => atL c.l t else none) = atL c.l t := by rw [if_pos rfl, hc]; rfl
    rw [hat]
    repeat' (first | (refine no_implicit_lambda% (awd1 ?_)) | (((with_reducible refine no_implicit_lambda% (is_aops ?_)); refine no_implicit_lambda% (o_split rfl rfl rfl (fun hc => ?_) (fun hc => ?_)) <;> first | exact decx hc | rw [hc])) | (((with_reducible refine no_implicit_lambda% (is_cond ?_)); refine no_implicit_lambda% (c_cond rfl (fun hc => ?_) (fun hc => ?_)) <;> first | exact decx hc | skip)) | (((with_reducible refine no_implicit_lambda% (is_aop ?_)); refine no_implicit_lambda% (a_pick rfl rfl (fun hc => ?_) (fun hc => ?_)) <;> first | exact decx hc | rw [hc])) | (refine no_implicit_lambda% (ans ?_)) | (with_reducible exact retN) | (with_reducible exact retP) | (refine no_implicit_lambda% (cal [] (hcp) ?_ ?_)) | (refine no_implicit_lambda% (cal [] (hf) ?_ ?_)) | fail)
    refine c_loop' (qaSt o (npos o s) t) (fun i => i ≤ c.l.length ∧ (c.l.take i).find? (fun x => decide (x.t ≤ t)) = none) (fun i => c.l.length - i) (a := 0) ⟨Nat.zero_le _, rfl⟩ ?_ ?_
    · (refine no_implicit_lambda% (Conv.toT ?_ ?_ (Nat.le_of_ble_eq_true rfl))); (focus ((unfold qaSt); (try dsimp only); exact wkl)); (focus ((unfold qaSt); (try dsimp only); exact wkh))
    · rintro i ⟨h1, hI⟩
      refine c_turn (n' := 3) (fun _ h => h) (fun _ h => h) rfl ?_
      rcases hx : c.l[i]? with _ | x
      · have hi : i = c.l.length := by have := List.getElem?_eq_none_iff.1 hx; omega
        rw [hi, List.take_length] at hI
        have e : atL c.l t = none := by unfold atL; rw [hI]; rfl
        rw [e]
        repeat' (first | (refine no_implicit_lambda% (awd1 ?_)) | (((with_reducible refine no_implicit_lambda% (is_aops ?_)); refine no_implicit_lambda% (o_split rfl rfl rfl (fun hc => ?_) (fun hc => ?_)) <;> first | exact decx hc | rw [hc])) | (((with_reducible refine no_implicit_lambda% (is_cond ?_)); refine no_implicit_lambda% (c_cond rfl (fun hc => ?_) (fun hc => ?_)) <;> first | exact decx hc | skip)) | (((with_reducible refine no_implicit_lambda% (is_aop ?_)); refine no_implicit_lambda% (a_pick rfl rfl (fun hc => ?_) (fun hc => ?_)) <;> first | exact decx hc | rw [hc])) | (refine no_implicit_lambda% (ans ?_)) | (with_reducible exact retN) | (with_reducible exact retP) | fail | fail)
        refine e_ret_to (H' := []) (rest := [(1, .box (vrowV ⟨0, [], 0⟩))]) (Conv.toT (τ := ⟨_, [(1, .box (vrowV ⟨0, [], 0⟩))], _⟩) (.refl _) ?_ (Nat.le_refl _)) rfl ⟨rfl, rfl⟩ (.of_eq rfl) (Nat.le_of_ble_eq_true rfl)
        unfold vrowV
        exact wkh
      · have hi : i < c.l.length := (List.getElem?_eq_some_iff.1 hx).1
        have hiy := vex hx
        have hts : c.l.take (i + 1) = c.l.take i ++ [x] := by rw [List.take_add_one, hx]; rfl
        repeat' (first | (refine no_implicit_lambda% (awd1 ?_)) | (((with_reducible refine no_implicit_lambda% (is_aops ?_)); refine no_implicit_lambda% (o_split rfl rfl rfl (fun hc => ?_) (fun hc => ?_)) <;> first | exact decx hc | rw [hc])) | (((with_reducible refine no_implicit_lambda% (is_cond ?_)); refine no_implicit_lambda% (c_cond rfl (fun hc => ?_) (fun hc => ?_)) <;> first | exact decx hc | skip)) | (((with_reducible refine no_implicit_lambda% (is_aop ?_)); refine no_implicit_lambda% (a_pick rfl rfl (fun hc => ?_) (fun hc => ?_)) <;> first | exact decx hc | rw [hc])) | (refine no_implicit_lambda% (ans ?_)) | (with_reducible exact retN) | (with_reducible exact retP) | fail | fail)
        · have e : atL c.l t = some x.v := by
            unfold atL
            have hsp : c.l = c.l.take i ++ x :: c.l.drop (i + 1) := by
              obtain ⟨hq, rfl⟩ := List.getElem?_eq_some_iff.1 hx
              rw [List.getElem_cons_drop, List.take_append_drop]
            rw [hsp, List.find?_append, hI]
            simp only [Option.none_or, List.find?_cons]
            rw [hc]; rfl
          rw [e]
          exact e_ret (H' := []) (rest := _) rfl ⟨rfl, rfl⟩ (.refl _) (Nat.le_of_ble_eq_true rfl)
        · (refine no_implicit_lambda% (k_loopLT (i + 1) 0 [0, 1, 2] (by show i + 1 ≤ c.l.length ∧ (c.l.take (i + 1)).find? (fun x => decide (x.t ≤ t)) = none; exact ⟨hi, by rw [hts, List.find?_append, hI]; simp [of_decide_eq_false hc]⟩) (by first | omega | (simp; done) | (simp; omega)) (Nat.le_of_ble_eq_true rfl) (fun _ h => h) (fun _ h => h) ?_ ?_)); (focus ((try dsimp only); exact wkl)); (focus ((try dsimp only); exact wkh))
theorem qnewest_c (r : List Co) (s : ByteArray) (hr : r.length < 70368744177664) (hs : RowSz r) : ACalls Try.prog 27 0 6000 [rowA r, .v (.string s)] [] (fun out H' => out = .ret (optA (atR r s 1099511627776)) ∧ H' = []) := by
  have h := qat_c r s 1099511627776 hr hs
  generalize atR r s 1099511627776 = q at *
  rcases q with _ | v
  · have h1 : ACalls Try.prog 68 0 5000 [rowA r, .v (.string s), .v (.int .i64 1099511627776)] [] (fun out H' => out = .ret (.tuple [.agg (vrowV ⟨0, [], 0⟩), .v (.bool false)]) ∧ H' = []) := h
    refine no_implicit_lambda% (acalls_of tok dok (f := 27) ⟨Try.func27, rfl, by kernel_rfl⟩ ?_); refine no_implicit_lambda% (c_start (fun _ h => h) ?_)
    repeat' (first | (refine no_implicit_lambda% (awd1 ?_)) | (((with_reducible refine no_implicit_lambda% (is_aops ?_)); refine no_implicit_lambda% (o_split rfl rfl rfl (fun hc => ?_) (fun hc => ?_)) <;> first | exact decx hc | rw [hc])) | (((with_reducible refine no_implicit_lambda% (is_cond ?_)); refine no_implicit_lambda% (c_cond rfl (fun hc => ?_) (fun hc => ?_)) <;> first | exact decx hc | skip)) | (((with_reducible refine no_implicit_lambda% (is_aop ?_)); refine no_implicit_lambda% (a_pick rfl rfl (fun hc => ?_) (fun hc => ?_)) <;> first | exact decx hc | rw [hc])) | (refine no_implicit_lambda% (ans ?_)) | (with_reducible exact retN) | (with_reducible exact retP) | (refine no_implicit_lambda% (cal [] (h1) ?_ ?_)) | fail)
    exact e_ret (H' := []) (rest := _) rfl ⟨rfl, rfl⟩ (.refl _) (Nat.le_of_ble_eq_true rfl)
  · have h1 : ACalls Try.prog 68 0 5000 [rowA r, .v (.string s), .v (.int .i64 1099511627776)] [] (fun out H' => out = .ret (.tuple [.agg (vrowV v), .v (.bool true)]) ∧ H' = []) := h
    refine no_implicit_lambda% (acalls_of tok dok (f := 27) ⟨Try.func27, rfl, by kernel_rfl⟩ ?_); refine no_implicit_lambda% (c_start (fun _ h => h) ?_)
    repeat' (first | (refine no_implicit_lambda% (awd1 ?_)) | (((with_reducible refine no_implicit_lambda% (is_aops ?_)); refine no_implicit_lambda% (o_split rfl rfl rfl (fun hc => ?_) (fun hc => ?_)) <;> first | exact decx hc | rw [hc])) | (((with_reducible refine no_implicit_lambda% (is_cond ?_)); refine no_implicit_lambda% (c_cond rfl (fun hc => ?_) (fun hc => ?_)) <;> first | exact decx hc | skip)) | (((with_reducible refine no_implicit_lambda% (is_aop ?_)); refine no_implicit_lambda% (a_pick rfl rfl (fun hc => ?_) (fun hc => ?_)) <;> first | exact decx hc | rw [hc])) | (refine no_implicit_lambda% (ans ?_)) | (with_reducible exact retN) | (with_reducible exact retP) | (refine no_implicit_lambda% (cal [] (h1) ?_ ?_)) | fail)
    exact e_ret (H' := []) (rest := _) rfl ⟨rfl, rfl⟩ (.refl _) (Nat.le_of_ble_eq_true rfl)
end Go.Proofs.Ytncffhgoopdfgaa
namespace Go.Proofs.Ytncffhgoopdfgaa
open Go.Am
set_option linter.unusedSimpArgs false
set_option linter.unusedVariables false
set_option maxRecDepth 100000
def dcR (r : List Co) (s : ByteArray) : List Co := if hasN (copyR r) s then (copyR r).eraseIdx (npos (copyR r) s) else copyR r
set_option maxHeartbeats 3200000 in
theorem qdropcol_c (r : List Co) (s : ByteArray) (hr : r.length < 70368744177664) (hs : RowSz r) : ACalls Try.prog 94 0 5000 [rowA r, .v (.string s)] [] (fun out H' => out = .ret (rowA (dcR r s)) ∧ H' = []) := by
  have hcp := qcopy_f r hr hs
  have h4 := copy_len r
  have hf := qfind_f (copyR r) s (by omega) (copy_sort r)
  unfold dcR
  generalize copyR r = o at *
  have hnl := npos_le o s
  refine no_implicit_lambda% (acalls_of tok dok (f := 94) ⟨Try.func94, rfl, by kernel_rfl⟩ ?_); refine no_implicit_lambda% (c_start (fun _ h => h) ?_)
  rcases hN : hasN o s with _ | _
  · rw [hN] at hf
    repeat' (first | (refine no_implicit_lambda% (awd1 ?_)) | (((with_reducible refine no_implicit_lambda% (is_aops ?_)); refine no_implicit_lambda% (o_split rfl rfl rfl (fun hc => ?_) (fun hc => ?_)) <;> first | exact decx hc | rw [hc])) | (((with_reducible refine no_implicit_lambda% (is_cond ?_)); refine no_implicit_lambda% (c_cond rfl (fun hc => ?_) (fun hc => ?_)) <;> first | exact decx hc | skip)) | (((with_reducible refine no_implicit_lambda% (is_aop ?_)); refine no_implicit_lambda% (a_pick rfl rfl (fun hc => ?_) (fun hc => ?_)) <;> first | exact decx hc | rw [hc])) | (refine no_implicit_lambda% (ans ?_)) | (with_reducible exact retN) | (with_reducible exact retP) | (refine no_implicit_lambda% (cal [] (hcp) ?_ ?_)) | (refine no_implicit_lambda% (cal [] (hf) ?_ ?_)) | fail)
    exact e_ret (H' := []) (rest := _) rfl ⟨rfl, rfl⟩ (.refl _) (Nat.le_of_ble_eq_true rfl)
  · rw [hN] at hf
    have hlt : npos o s < o.length := by
      unfold hasN at hN
      split at hN
      · exact (List.getElem?_eq_some_iff.1 (by assumption)).1
      · cases hN
    repeat' (first | (refine no_implicit_lambda% (awd1 ?_)) | (((with_reducible refine no_implicit_lambda% (is_aops ?_)); refine no_implicit_lambda% (o_split rfl rfl rfl (fun hc => ?_) (fun hc => ?_)) <;> first | exact decx hc | rw [hc])) | (((with_reducible refine no_implicit_lambda% (is_cond ?_)); refine no_implicit_lambda% (c_cond rfl (fun hc => ?_) (fun hc => ?_)) <;> first | exact decx hc | skip)) | (((with_reducible refine no_implicit_lambda% (is_aop ?_)); refine no_implicit_lambda% (a_pick rfl rfl (fun hc => ?_) (fun hc => ?_)) <;> first | exact decx hc | rw [hc])) | (((with_reducible refine no_implicit_lambda% (is_ev ?_)); refine no_implicit_lambda% (v_split rfl rfl rfl rfl (fun hc => ?_) (fun hc => ?_)) <;> first | exact decx hc | rw [hc])) | (refine no_implicit_lambda% (ans ?_)) | (with_reducible exact retN) | (with_reducible exact retP) | (refine no_implicit_lambda% (cal [] (hcp) ?_ ?_)) | (refine no_implicit_lambda% (cal [] (hf) ?_ ?_)) | fail)
    ((with_reducible refine no_implicit_lambda% (is_ev ?_)); refine no_implicit_lambda% (v_qS rfl rfl rfl rfl (qAnd5 (fun _ h => h)) (fun _ h => h) ?_ ?_)); focus ((repeat' (refine And.intro ?_ ?_)) <;> (first | exact trivial | exact (coOk o).len | exact Int.natCast_nonneg _ | omega | (simp; done) | (simp; omega) | ((show (0 : Int) ≤ _); omega)))
    repeat' (first | (refine no_implicit_lambda% (awd1 ?_)) | (((with_reducible refine no_implicit_lambda% (is_aops ?_)); refine no_implicit_lambda% (o_split rfl rfl rfl (fun hc => ?_) (fun hc => ?_)) <;> first | exact decx hc | rw [hc])) | (((with_reducible refine no_implicit_lambda% (is_cond ?_)); refine no_implicit_lambda% (c_cond rfl (fun hc => ?_) (fun hc => ?_)) <;> first | exact decx hc | skip)) | (((with_reducible refine no_implicit_lambda% (is_aop ?_)); refine no_implicit_lambda% (a_pick rfl rfl (fun hc => ?_) (fun hc => ?_)) <;> first | exact decx hc | rw [hc])) | (((with_reducible refine no_implicit_lambda% (is_ev ?_)); refine no_implicit_lambda% (v_split rfl rfl rfl rfl (fun hc => ?_) (fun hc => ?_)) <;> first | exact decx hc | rw [hc])) | (refine no_implicit_lambda% (ans ?_)) | (with_reducible exact retN) | (with_reducible exact retP) | fail | fail)
    rw [show IntKind.i64.wrap ((npos o s : Int) + 1) = ((npos o s + 1 : Nat) : Int) by rw [z64 (by omega) (by omega)]; omega]
    ((with_reducible refine no_implicit_lambda% (is_ev ?_)); refine no_implicit_lambda% (v_qS rfl rfl rfl rfl (qAnd5 (fun _ h => h)) (fun _ h => h) ?_ ?_)); focus ((repeat' (refine And.intro ?_ ?_)) <;> (first | exact trivial | exact (coOk o).len | exact Int.natCast_nonneg _ | omega | (simp; done) | (simp; omega) | ((show (0 : Int) ≤ _); omega)))
    repeat' (first | (refine no_implicit_lambda% (awd1 ?_)) | (((with_reducible refine no_implicit_lambda% (is_aops ?_)); refine no_implicit_lambda% (o_split rfl rfl rfl (fun hc => ?_) (fun hc => ?_)) <;> first | exact decx hc | rw [hc])) | (((with_reducible refine no_implicit_lambda% (is_cond ?_)); refine no_implicit_lambda% (c_cond rfl (fun hc => ?_) (fun hc => ?_)) <;> first | exact decx hc | skip)) | (((with_reducible refine no_implicit_lambda% (is_aop ?_)); refine no_implicit_lambda% (a_pick rfl rfl (fun hc => ?_) (fun hc => ?_)) <;> first | exact decx hc | rw [hc])) | (((with_reducible refine no_implicit_lambda% (is_ev ?_)); refine no_implicit_lambda% (v_split rfl rfl rfl rfl (fun hc => ?_) (fun hc => ?_)) <;> first | exact decx hc | rw [hc])) | (refine no_implicit_lambda% (ans ?_)) | (with_reducible exact retN) | (with_reducible exact retP) | fail | fail)
    have e1 : List.drop 0 (List.take (npos o s : Int).toNat (o.map corow)) = (o.take (npos o s)).map corow := by rw [Int.toNat_natCast, List.drop_zero, List.map_take]
    have e2 : List.drop ((npos o s + 1 : Nat) : Int).toNat (List.take (o.map corow).length (o.map corow)) = (o.drop (npos o s + 1)).map corow := by rw [Int.toNat_natCast, List.take_length, List.map_drop]
    rw [e1, e2]
    have r1 : ∀ row ∈ (o.take (npos o s)).map corow, row.length = 2 := (coOk _).len
    have r2 : ∀ row ∈ (o.drop (npos o s + 1)).map corow, row.length = 2 := (coOk _).len
    have b1 : ((o.take (npos o s)).map corow).length ≤ 4 := by rw [List.length_map, List.length_take]; omega
    have b2 : ((o.drop (npos o s + 1)).map corow).length ≤ 4 := by rw [List.length_map, List.length_drop]; omega
    have b3 : (o.take (npos o s)).length ≤ 4 := by rw [List.length_take]; omega
    have b4 : (o.drop (npos o s + 1)).length ≤ 4 := by rw [List.length_drop]; omega
    have b5 : ([] ++ (o.take (npos o s)).map corow).length ≤ 4 := by rw [List.nil_append]; exact b1
    repeat' (first | (refine no_implicit_lambda% (awd1 ?_)) | (((with_reducible refine no_implicit_lambda% (is_aops ?_)); refine no_implicit_lambda% (o_split rfl rfl rfl (fun hc => ?_) (fun hc => ?_)) <;> first | exact decx hc | rw [hc])) | (((with_reducible refine no_implicit_lambda% (is_cond ?_)); refine no_implicit_lambda% (c_cond rfl (fun hc => ?_) (fun hc => ?_)) <;> first | exact decx hc | skip)) | (((with_reducible refine no_implicit_lambda% (is_aop ?_)); refine no_implicit_lambda% (a_pick rfl rfl (fun hc => ?_) (fun hc => ?_)) <;> first | exact decx hc | rw [hc])) | (((with_reducible refine no_implicit_lambda% (is_ev ?_)); refine no_implicit_lambda% (v_split rfl rfl rfl rfl (fun hc => ?_) (fun hc => ?_)) <;> first | exact decx hc | rw [hc])) | (refine no_implicit_lambda% (ans ?_)) | (with_reducible exact retN) | (with_reducible exact retP) | fail | fail)
    have e3 : [] ++ (o.take (npos o s)).map corow ++ (o.drop (npos o s + 1)).map corow = (o.eraseIdx (npos o s)).map corow := by rw [List.nil_append, ← List.map_append, List.eraseIdx_eq_take_drop_succ]
    rw [e3]
    refine e_ret_to (H' := []) (rest := [(1, .box [.list ((o.eraseIdx (npos o s)).map corow) .free])]) (Conv.toT (τ := ⟨_, [(1, .box [.list ((o.eraseIdx (npos o s)).map corow) .free])], _⟩) (.refl _) ?_ (Nat.le_refl _)) rfl ⟨rfl, rfl⟩ (.of_eq rfl) (Nat.le_of_ble_eq_true rfl)
    exact wkh
end Go.Proofs.Ytncffhgoopdfgaa
namespace Go.Proofs.Ytncffhgoopdfgaa
open Go.Am
set_option linter.unusedSimpArgs false
set_option linter.unusedVariables false
set_option maxRecDepth 100000
theorem put_clearC {sz k i : Nat} {rows : List (List AV)} (h : ∀ row ∈ rows, row.length = sz) (hi : i ≤ rows.length) : putCells (seqC rows k) (i * sz) (List.replicate ((rows.length - i) * sz) .dead) = seqC (rows.take i) (k + (rows.length - i) * sz) := by
  have hl : (rows.take i).flatten.length = i * sz := by rw [flatten_length (fun row hr => h row (List.mem_of_mem_take hr)), List.length_take, Nat.min_eq_left hi]
  have hd : (rows.drop i).flatten.length = (rows.length - i) * sz := by rw [flatten_length (fun row hr => h row (List.mem_of_mem_drop hr)), List.length_drop]
  rw [seq_split h i, ← hl, put_mid _ _ _ _ (by rw [List.length_replicate, hd])]
  unfold seqC
  rw [List.replicate_append_replicate, Nat.add_comm]
theorem a_clearToC {P : Program} {TT : Types} {o : Oper} {s : List AV} {L : Heap} {n : Nat} {K KP : AV → Heap → Nat → Prop} {c : Call} {x : Operand} {t e : TypeId} {te : TI} {z : Value} {id off nn cp k k2 i sz : Nat} {rows : List (List AV)} {L0 : Heap} (ho : o.op = .call c) (hk : opKind o = .mem) (hc : c.callee = .builtin .clear) (ha : c.args.toList = [x]) (hty : c.argTypes.toList = [t])
    (hkt : kindT TT t = .slice e) (hte : TT e = some te) (hz : te.zero = some z) (hzk : zok te z = true) (hx : ev s x = .arr id off nn cp) (hta : ∀ k' : Res → Heap → Prop, k' (.seq rows k) L0 → takeO L id k') (hsz : te.size = sz) (hR : RowsOk sz rows) (hi : i ≤ rows.length) (hoff : off = i * sz) (hnn : nn = rows.length - i) (hne : rows.length + k ≠ 0) (hk2 : k + (rows.length - i) * sz = k2)
    (h : K (.tuple []) ((id, .seq (rows.take i) k2) :: L0) n) : aop P TT o s L n K KP := by
  subst hoff; subst hsz; subst hnn; subst hk2
  refine a_clearS ho hk hc ha hty hkt hte hz hzk hx hta hne ?_ (put_clearC hR.len hi) (hR.take i).pure h
  rw [seqC_len hR.len, ← Nat.add_mul]
  have : i + (rows.length - i) = rows.length := by omega
  rw [this]; omega
theorem asrc_boxd {L : Heap} {sz : Nat} {y : AV} {id off i m cp k : Nat} {rows : List (List AV)} {K : Nat → List AV → Prop} (hy : y = .arr id off m cp) (hf : findL L id = some (.box (seqC rows k))) (hR : RowsOk sz rows) (hi : i ≤ rows.length) (hoff : off = i * sz) (hm : m = rows.length - i) (h : K m (rows.drop i).flatten) : asrc L sz (fun m => m) y K := by
  subst hy
  have hmul : i * sz + (rows.length - i) * sz = rows.length * sz := by rw [← Nat.add_mul]; congr 1; omega
  have hfl := flatten_length (hR.drop i).len
  rw [List.length_drop] at hfl
  have e : ((seqC rows k).drop off).take (m * sz) = (rows.drop i).flatten := by
    rw [hoff, hm, seq_from hR.len i k hi, List.take_append_of_le_length (by omega), List.take_of_length_le (by omega)]
  unfold asrc
  simp only [hf]
  rw [e]
  refine ⟨Nat.le_refl _, ?_, (hR.drop i).one, h⟩
  rw [hoff, hm, seqC_len hR.len]; omega
theorem put_shift {sz k i : Nat} {rows : List (List AV)} {last : List AV} (h : ∀ row ∈ rows, row.length = sz) (hi : i < rows.length) (hl : rows[rows.length - 1]? = some last) : putCells (seqC rows k) (i * sz) (rows.drop (i + 1)).flatten = seqC (rows.eraseIdx i ++ [last]) k := by
  have hd : rows.drop i = (rows.drop i).take (rows.length - 1 - i) ++ [last] := by
    conv => lhs; rw [← List.take_append_drop (rows.length - 1 - i) (rows.drop i)]
    congr 1
    rw [List.drop_drop, show i + (rows.length - 1 - i) = rows.length - 1 by omega]
    obtain ⟨h1, h2⟩ := List.getElem?_eq_some_iff.1 hl
    rw [List.drop_eq_getElem_cons h1, h2, show rows.length - 1 + 1 = rows.length by omega, List.drop_length]
  have hlt : (rows.take i).flatten.length = i * sz := by rw [flatten_length (fun row hr => h row (List.mem_of_mem_take hr)), List.length_take, Nat.min_eq_left (by omega)]
  have hl1 : (rows.drop (i + 1)).flatten.length = (rows.length - (i + 1)) * sz := by rw [flatten_length (fun row hr => h row (List.mem_of_mem_drop hr)), List.length_drop]
  have hl2 : ((rows.drop i).take (rows.length - 1 - i)).flatten.length = (rows.length - (i + 1)) * sz := by
    rw [flatten_length (fun row hr => h row (List.mem_of_mem_drop (List.mem_of_mem_take hr))), List.length_take, List.length_drop, Nat.min_eq_left (by omega)]
    congr 1; omega
  rw [seq_split h i, hd, List.flatten_append, List.append_assoc, ← hlt, put_mid _ _ _ _ (by rw [hl1, hl2])]
  unfold seqC
  rw [List.eraseIdx_eq_take_drop_succ]
  simp
theorem qAnd6 {X : (AV → Prop) → Prop} {p1 p2 p3 p4 p5 p6 : Prop} {av : AV} (h : ∀ K : AV → Prop, (p1 ∧ p2 ∧ p3 ∧ p4 ∧ p5 ∧ p6 ∧ K av) → X K) : ∀ K : AV → Prop, (p1 ∧ p2 ∧ p3 ∧ p4 ∧ p5 ∧ p6) ∧ K av → X K := fun K ⟨⟨a, b, c, d, e, f⟩, g⟩ => h K ⟨a, b, c, d, e, f, g⟩
set_option maxHeartbeats 3200000 in
theorem delete_s (l : List Co) (cp i : Nat) (hi : i < l.length) (hl : l.length ≤ 1000) (hcp : l.length ≤ cp) (hcm : cp ≤ maxLen) : ACalls Try.prog 125 1 1 [.arr 0 0 l.length cp, .v (.int .i64 i), .v (.int .i64 (i + 1 : Nat))] [(0, .seq (l.map corow) ((cp - l.length) * 2))] (fun out H' => out = .ret (.arr 0 0 (l.length - 1) cp) ∧ H' = [(0, .seq ((l.eraseIdx i).map corow) ((cp - (l.length - 1)) * 2))]) := by
  obtain ⟨last, hlast⟩ : ∃ last, (l.map corow)[(l.map corow).length - 1]? = some last := ⟨_, List.getElem?_eq_getElem (by rw [List.length_map]; omega)⟩
  refine no_implicit_lambda% (acalls_of tok dok (f := 125) ⟨Try.func125, rfl, by kernel_rfl⟩ ?_); refine no_implicit_lambda% (c_start (fun _ h => h) ?_)
  refine c_seq ?_
  first | (with_reducible refine no_implicit_lambda% (c_seq ?_)) | (with_reducible refine no_implicit_lambda% (c_region ?_)) | (with_reducible refine no_implicit_lambda% (c_ret ?_)) | (with_reducible refine no_implicit_lambda% (c_skip ?_)) | (with_reducible refine no_implicit_lambda% (c_block ?_)) | (with_reducible refine no_implicit_lambda% (c_exit ?_)) | (with_reducible refine no_implicit_lambda% (o_nil ?_)) | (with_reducible refine no_implicit_lambda% (k_seq ?_)) | (with_reducible refine no_implicit_lambda% (k_seq_ret ?_)) | (with_reducible refine no_implicit_lambda% (k_seq_exit ?_)) | (with_reducible refine no_implicit_lambda% (k_seq_pan ?_)) | (with_reducible refine no_implicit_lambda% (k_block ?_)) | (with_reducible refine no_implicit_lambda% (k_block_ret ?_)) | (with_reducible refine no_implicit_lambda% (k_block_pan ?_)) | ((with_reducible refine no_implicit_lambda% (is_blockx ?_)); first | (refine no_implicit_lambda% (k_block_here rfl ?_)) | (refine no_implicit_lambda% (k_block_on rfl ?_))) | (with_reducible refine no_implicit_lambda% (k_pan ?_)) | (with_reducible refine no_implicit_lambda% (k_opP ?_)) | (with_reducible refine no_implicit_lambda% (k_loop_ret ?_)) | (with_reducible refine no_implicit_lambda% (k_loop_exit ?_)) | (with_reducible refine no_implicit_lambda% (k_loop_pan ?_)) | (with_reducible refine no_implicit_lambda% (e_end ?_))
  repeat' (first | ((with_reducible refine no_implicit_lambda% (is_aops ?_)); first | (refine no_implicit_lambda% (o_op rfl ?_)) | (refine no_implicit_lambda% (o_yes rfl rfl rfl ?_)) | (refine no_implicit_lambda% (o_no rfl rfl rfl (fun _ h => h) ?_)) | (refine no_implicit_lambda% (o_not rfl rfl rfl (fun _ h => h) ?_))) | ((with_reducible refine no_implicit_lambda% (is_opK ?_)); first | (refine no_implicit_lambda% (k_op' (fun _ h => h) ?_))) | ((with_reducible refine no_implicit_lambda% (is_aop ?_)); first | (refine no_implicit_lambda% (a_q1 rfl (fun _ h => h) ?_)) | (refine no_implicit_lambda% (a_box rfl (fun _ h => h) ?_)) | (refine no_implicit_lambda% (a_alloc rfl (fun _ h => h) ?_)) | (refine no_implicit_lambda% (a_storev rfl (fun _ h => h) ?_)) | (refine no_implicit_lambda% (a_store rfl (fun _ h => h) ?_)) | (refine no_implicit_lambda% (a_panic rfl rfl ?_))) | ((with_reducible refine no_implicit_lambda% (is_aop ?_)); refine no_implicit_lambda% (a_qS rfl (qIx (fun _ h => h)) (by first | assumption | exact hpx (by assumption) | exact hpy (by assumption)) ?_)) | (with_reducible refine no_implicit_lambda% (o_nil ?_)) | fail)
  refine k_seq_to ⟨_, _, _⟩ (Conv.unseq (L0 := []) (id := 0) (rows := l.map corow) (k := (cp - l.length) * 2) (by rw [List.length_map]; omega) (.refl _)) ?_
  repeat' (first | (refine no_implicit_lambda% (awd1 ?_)) | (((with_reducible refine no_implicit_lambda% (is_aops ?_)); refine no_implicit_lambda% (o_split rfl rfl rfl (fun hc => ?_) (fun hc => ?_)) <;> first | exact decx hc | rw [hc])) | (((with_reducible refine no_implicit_lambda% (is_cond ?_)); refine no_implicit_lambda% (c_cond rfl (fun hc => ?_) (fun hc => ?_)) <;> first | exact decx hc | skip)) | (((with_reducible refine no_implicit_lambda% (is_aop ?_)); refine no_implicit_lambda% (a_pick rfl rfl (fun hc => ?_) (fun hc => ?_)) <;> first | exact decx hc | rw [hc])) | (refine no_implicit_lambda% (ans ?_)) | (with_reducible exact retN) | (with_reducible exact retP) | fail | fail)
  (with_reducible refine is_aop ?_)
  refine a_qS rfl (qAnd6 (fun _ h => h)) ⟨Int.natCast_nonneg _, Int.natCast_nonneg _, Int.natCast_nonneg _, by simp, by simp; omega, by simp; omega⟩ ?_
  repeat' (first | (refine no_implicit_lambda% (awd1 ?_)) | (((with_reducible refine no_implicit_lambda% (is_aops ?_)); refine no_implicit_lambda% (o_split rfl rfl rfl (fun hc => ?_) (fun hc => ?_)) <;> first | exact decx hc | rw [hc])) | (((with_reducible refine no_implicit_lambda% (is_cond ?_)); refine no_implicit_lambda% (c_cond rfl (fun hc => ?_) (fun hc => ?_)) <;> first | exact decx hc | skip)) | (((with_reducible refine no_implicit_lambda% (is_aop ?_)); refine no_implicit_lambda% (a_pick rfl rfl (fun hc => ?_) (fun hc => ?_)) <;> first | exact decx hc | rw [hc])) | (refine no_implicit_lambda% (ans ?_)) | (with_reducible exact retN) | (with_reducible exact retP) | fail | fail)
  ((with_reducible refine no_implicit_lambda% (is_ev ?_)); first | (refine no_implicit_lambda% (v_qS rfl rfl rfl rfl (qAnd4 (fun _ h => h)) (fun _ h => h) ?_ ?_)) | (refine no_implicit_lambda% (v_qS rfl rfl rfl rfl (qAnd5 (fun _ h => h)) (fun _ h => h) ?_ ?_))); focus ((repeat' (refine no_implicit_lambda% (And.intro ?_ ?_))) <;> (first | exact trivial | exact Int.natCast_nonneg _ | omega | (simp; done) | (simp; omega) | ((show (0 : Int) ≤ _); omega)))
  repeat' (first | (refine no_implicit_lambda% (awd1 ?_)) | (((with_reducible refine no_implicit_lambda% (is_aops ?_)); refine no_implicit_lambda% (o_split rfl rfl rfl (fun hc => ?_) (fun hc => ?_)) <;> first | exact decx hc | rw [hc])) | (((with_reducible refine no_implicit_lambda% (is_cond ?_)); refine no_implicit_lambda% (c_cond rfl (fun hc => ?_) (fun hc => ?_)) <;> first | exact decx hc | skip)) | (((with_reducible refine no_implicit_lambda% (is_aop ?_)); refine no_implicit_lambda% (a_pick rfl rfl (fun hc => ?_) (fun hc => ?_)) <;> first | exact decx hc | rw [hc])) | (((with_reducible refine no_implicit_lambda% (is_ev ?_)); refine no_implicit_lambda% (v_split rfl rfl rfl rfl (fun hc => ?_) (fun hc => ?_)) <;> first | exact decx hc | rw [hc])) | (refine no_implicit_lambda% (ans ?_)) | (with_reducible exact retN) | (with_reducible exact retP) | fail | fail)
  ((with_reducible refine no_implicit_lambda% (is_ev ?_)); first | (refine no_implicit_lambda% (v_qS rfl rfl rfl rfl (qAnd4 (fun _ h => h)) (fun _ h => h) ?_ ?_)) | (refine no_implicit_lambda% (v_qS rfl rfl rfl rfl (qAnd5 (fun _ h => h)) (fun _ h => h) ?_ ?_))); focus ((repeat' (refine no_implicit_lambda% (And.intro ?_ ?_))) <;> (first | exact trivial | exact Int.natCast_nonneg _ | omega | (simp; done) | (simp; omega) | ((show (0 : Int) ≤ _); omega)))
  repeat' (first | (refine no_implicit_lambda% (awd1 ?_)) | (((with_reducible refine no_implicit_lambda% (is_aops ?_)); refine no_implicit_lambda% (o_split rfl rfl rfl (fun hc => ?_) (fun hc => ?_)) <;> first | exact decx hc | rw [hc])) | (((with_reducible refine no_implicit_lambda% (is_cond ?_)); refine no_implicit_lambda% (c_cond rfl (fun hc => ?_) (fun hc => ?_)) <;> first | exact decx hc | skip)) | (((with_reducible refine no_implicit_lambda% (is_aop ?_)); refine no_implicit_lambda% (a_pick rfl rfl (fun hc => ?_) (fun hc => ?_)) <;> first | exact decx hc | rw [hc])) | (((with_reducible refine no_implicit_lambda% (is_ev ?_)); refine no_implicit_lambda% (v_split rfl rfl rfl rfl (fun hc => ?_) (fun hc => ?_)) <;> first | exact decx hc | rw [hc])) | (refine no_implicit_lambda% (ans ?_)) | (with_reducible exact retN) | (with_reducible exact retP) | fail | fail)
  (with_reducible refine is_aop ?_)
  refine a_app_arr (id := 0) (off := 0) (nn := i) (cp := cp) (m := l.length - (i + 1)) (cs := ((l.map corow).drop (i + 1)).flatten) rfl rfl rfl rfl rfl rfl rfl rfl rfl ?_ (fun K h => asrc_boxd rfl rfl (coOk l) ?_ ?_ ?_ h) ?_ ?_ ?_
  · show AV.arr 0 (0 + 0 * 2) ((i : Int).toNat - 0) (cp - 0) = AV.arr 0 0 i cp
    simp
  · rw [List.length_map]; omega
  · show 0 + ((i + 1 : Nat) : Int).toNat * 2 = (i + 1) * 2
    rw [Int.toNat_natCast]; omega
  · rw [Int.toNat_natCast, List.length_map]
  · exact ⟨by show (i + (l.length - (i + 1))) * 40 ≤ _; omega, by omega⟩
  · intro _
    refine ⟨seqC (l.map corow) ((cp - l.length) * 2), rfl, ?_, ?_⟩
    · show 0 + (i + (l.length - (i + 1))) * 2 ≤ _
      rw [seqC_len (coOk l).len, List.length_map]; omega
    · have hps := put_shift (k := (cp - l.length) * 2) (coOk l).len (i := i) (by rw [List.length_map]; exact hi) hlast
      generalize hq : putCells (seqC (l.map corow) ((cp - l.length) * 2)) _ ((l.map corow).drop (i + 1)).flatten = q
      have hq2 : q = seqC ((l.map corow).eraseIdx i ++ [last]) ((cp - l.length) * 2) := by
        rw [← hq]
        show putCells _ (0 + i * 2) _ = _
        rw [Nat.zero_add]; exact hps
      rw [hq2]
      refine no_implicit_lambda% (aec (L2 := [(0, .box (seqC ((l.map corow).eraseIdx i ++ [last]) ((cp - l.length) * 2)))]) ?_ (hL := fun q hq => by rw [forceH_eq]; exact hq))
      repeat' (first | (refine no_implicit_lambda% (awd1 ?_)) | (((with_reducible refine no_implicit_lambda% (is_aops ?_)); refine no_implicit_lambda% (o_split rfl rfl rfl (fun hc => ?_) (fun hc => ?_)) <;> first | exact decx hc | rw [hc])) | (((with_reducible refine no_implicit_lambda% (is_cond ?_)); refine no_implicit_lambda% (c_cond rfl (fun hc => ?_) (fun hc => ?_)) <;> first | exact decx hc | skip)) | (((with_reducible refine no_implicit_lambda% (is_aop ?_)); refine no_implicit_lambda% (a_pick rfl rfl (fun hc => ?_) (fun hc => ?_)) <;> first | exact decx hc | rw [hc])) | (((with_reducible refine no_implicit_lambda% (is_ev ?_)); refine no_implicit_lambda% (v_split rfl rfl rfl rfl (fun hc => ?_) (fun hc => ?_)) <;> first | exact decx hc | rw [hc])) | (refine no_implicit_lambda% (ans ?_)) | (with_reducible exact retN) | (with_reducible exact retP) | fail | fail)
      (with_reducible refine is_effK ?_)
      refine no_implicit_lambda% (k_eff (L2 := [(0, .box (seqC ((l.map corow).eraseIdx i ++ [last]) ((cp - l.length) * 2)))]) (fun _ h => h) (fun q hq => by rw [forceH_eq]; exact hq) (fun _ h => h) (by intro k h; repeat (first | exact h | refine ⟨rfl, ?_⟩ | refine ⟨trivial, ?_⟩)) ?_)
      repeat' (first | (refine no_implicit_lambda% (awd1 ?_)) | (((with_reducible refine no_implicit_lambda% (is_aops ?_)); refine no_implicit_lambda% (o_split rfl rfl rfl (fun hc => ?_) (fun hc => ?_)) <;> first | exact decx hc | rw [hc])) | (((with_reducible refine no_implicit_lambda% (is_cond ?_)); refine no_implicit_lambda% (c_cond rfl (fun hc => ?_) (fun hc => ?_)) <;> first | exact decx hc | skip)) | (((with_reducible refine no_implicit_lambda% (is_aop ?_)); refine no_implicit_lambda% (a_pick rfl rfl (fun hc => ?_) (fun hc => ?_)) <;> first | exact decx hc | rw [hc])) | (((with_reducible refine no_implicit_lambda% (is_ev ?_)); refine no_implicit_lambda% (v_split rfl rfl rfl rfl (fun hc => ?_) (fun hc => ?_)) <;> first | exact decx hc | rw [hc])) | (refine no_implicit_lambda% (ans ?_)) | (with_reducible exact retN) | (with_reducible exact retP) | fail | fail)
      (with_reducible refine is_drB ?_)
      refine no_implicit_lambda% (b_end (L1 := [(0, .box (seqC ((l.map corow).eraseIdx i ++ [last]) ((cp - l.length) * 2)))]) rfl rfl (fun _ h => h) (fun q hq => by show forceH _ q; rw [forceH_eq]; exact hq) ?_)
      have hR2 : RowsOk 2 ((l.map corow).eraseIdx i ++ [last]) := by
        have h1 : RowsOk 2 ((l.map corow).eraseIdx i) := by
          rw [List.eraseIdx_eq_take_drop_succ]
          exact ((coOk l).take i).app ((coOk l).drop (i + 1))
        exact h1.app (.one1 ((coOk l).row (List.mem_of_getElem? hlast)))
      have hRl : ((l.map corow).eraseIdx i ++ [last]).length = l.length := by
        rw [List.length_append, List.length_eraseIdx_of_lt (by rw [List.length_map]; exact hi), List.length_map, List.length_singleton]; omega
      refine k_seq_to ⟨_, _, _⟩ (Conv.toSeq (L0 := []) (id := 0) (rows := (l.map corow).eraseIdx i ++ [last]) (k := (cp - l.length) * 2) (.refl _) rfl hR2.pure) ?_
      repeat' (first | (refine no_implicit_lambda% (awd1 ?_)) | (((with_reducible refine no_implicit_lambda% (is_aops ?_)); refine no_implicit_lambda% (o_split rfl rfl rfl (fun hc => ?_) (fun hc => ?_)) <;> first | exact decx hc | rw [hc])) | (((with_reducible refine no_implicit_lambda% (is_cond ?_)); refine no_implicit_lambda% (c_cond rfl (fun hc => ?_) (fun hc => ?_)) <;> first | exact decx hc | skip)) | (((with_reducible refine no_implicit_lambda% (is_aop ?_)); refine no_implicit_lambda% (a_pick rfl rfl (fun hc => ?_) (fun hc => ?_)) <;> first | exact decx hc | rw [hc])) | (refine no_implicit_lambda% (ans ?_)) | (with_reducible exact retN) | (with_reducible exact retP) | fail | fail)
      ((with_reducible refine no_implicit_lambda% (is_aop ?_)); first | (refine no_implicit_lambda% (a_qS rfl (fun _ h => h) ?_ ?_)) | (refine no_implicit_lambda% (a_qS rfl (qIx (fun _ h => h)) ?_ ?_)) | (refine no_implicit_lambda% (a_qS rfl (qAnd5 (fun _ h => h)) ?_ ?_)) | (refine no_implicit_lambda% (a_qS rfl (qStr (fun _ h => h)) ?_ ?_)) | (refine no_implicit_lambda% (a_qS rfl (qAnd4 (fun _ h => h)) ?_ ?_)) | (refine no_implicit_lambda% (a_qS rfl (qAnd2 (fun _ h => h)) ?_ ?_))); focus ((repeat' (refine no_implicit_lambda% (And.intro ?_ ?_))) <;> (first | exact trivial | exact Int.natCast_nonneg _ | omega | (simp; done) | (simp; omega) | ((show (0 : Int) ≤ _); omega)))
      repeat' (first | (refine no_implicit_lambda% (awd1 ?_)) | (((with_reducible refine no_implicit_lambda% (is_aops ?_)); refine no_implicit_lambda% (o_split rfl rfl rfl (fun hc => ?_) (fun hc => ?_)) <;> first | exact decx hc | rw [hc])) | (((with_reducible refine no_implicit_lambda% (is_cond ?_)); refine no_implicit_lambda% (c_cond rfl (fun hc => ?_) (fun hc => ?_)) <;> first | exact decx hc | skip)) | (((with_reducible refine no_implicit_lambda% (is_aop ?_)); refine no_implicit_lambda% (a_pick rfl rfl (fun hc => ?_) (fun hc => ?_)) <;> first | exact decx hc | rw [hc])) | (refine no_implicit_lambda% (ans ?_)) | (with_reducible exact retN) | (with_reducible exact retP) | fail | fail)
      (with_reducible refine is_aop ?_)
      refine a_clearToC (id := 0) (i := l.length - 1) (sz := 2) (rows := (l.map corow).eraseIdx i ++ [last]) (k2 := (cp - (l.length - 1)) * 2) rfl rfl rfl rfl rfl rfl rfl rfl rfl rfl (fun _ h => h) rfl hR2 ?_ ?_ ?_ ?_ ?_ ?_
      · omega
      · show 0 + ((i + (l.length - (i + 1)) : Nat) : Int).toNat * 2 = (l.length - 1) * 2
        rw [Int.toNat_natCast]; omega
      · rw [Int.toNat_natCast, Int.toNat_natCast, hRl]; omega
      · omega
      · rw [hRl]; omega
      · have e0 : i + (l.length - (i + 1)) = l.length - 1 := by omega
        have e1 : ((l.map corow).eraseIdx i ++ [last]).take (l.length - 1) = (l.eraseIdx i).map corow := by
          have e2 : ((l.map corow).eraseIdx i).length = l.length - 1 := by rw [List.length_eraseIdx_of_lt (by rw [List.length_map]; exact hi), List.length_map]
          rw [List.take_append_of_le_length (by omega), List.take_of_length_le (by omega), List.eraseIdx_eq_take_drop_succ, List.eraseIdx_eq_take_drop_succ, List.map_append, List.map_take, List.map_drop]
        rw [e1, e0]
        repeat' (first | (refine no_implicit_lambda% (awd1 ?_)) | (((with_reducible refine no_implicit_lambda% (is_aops ?_)); refine no_implicit_lambda% (o_split rfl rfl rfl (fun hc => ?_) (fun hc => ?_)) <;> first | exact decx hc | rw [hc])) | (((with_reducible refine no_implicit_lambda% (is_cond ?_)); refine no_implicit_lambda% (c_cond rfl (fun hc => ?_) (fun hc => ?_)) <;> first | exact decx hc | skip)) | (((with_reducible refine no_implicit_lambda% (is_aop ?_)); refine no_implicit_lambda% (a_pick rfl rfl (fun hc => ?_) (fun hc => ?_)) <;> first | exact decx hc | rw [hc])) | (refine no_implicit_lambda% (ans ?_)) | (with_reducible exact retN) | (with_reducible exact retP) | fail | fail)
        exact e_ret (H' := [(0, .seq ((l.eraseIdx i).map corow) ((cp - (l.length - 1)) * 2))]) (rest := []) rfl ⟨rfl, rfl⟩ permT (Nat.le_of_ble_eq_true rfl)
  · intro h
    exfalso
    omega
end Go.Proofs.Ytncffhgoopdfgaa
namespace Go.Proofs.Ytncffhgoopdfgaa
open Go.Am
set_option linter.unusedSimpArgs false
set_option linter.unusedVariables false
set_option maxRecDepth 100000
/-- a copy as an object -/
def CN (o : List Co) (out : AOut) (H' : Heap) : Prop := ∃ cp, o.length ≤ cp ∧ cp ≤ maxLen ∧ out = .ret (.agg [.arr 0 0 o.length cp]) ∧ H' = [(0, .seq (o.map corow) ((cp - o.length) * 2))]
theorem copy_n (r : List Co) (hr : r.length < 70368744177664) (hs : RowSz r) : ACalls Try.prog 59 0 1 [rowA r] [] (CN (copyR r)) :=
  (copy_s r hr hs).ren (Nat.zero_le _) fun out H' hh => by
    obtain ⟨id, cp, h0, h1, h2, rfl, rfl⟩ := hh
    refine ⟨[id], .ret (.agg [.arr 0 0 (copyR r).length cp]), [(0, .seq ((copyR r).map corow) ((cp - (copyR r).length) * 2))], by simp, (fun i h => by simp at h; omega), (fun i h => absurd h (Nat.not_lt_zero i)), Nat.le_refl _, ?_, ?_, cp, h1, h2, rfl, rfl⟩
    · simp [AOut.ren, AV.ren, AV.renL, rn]
    · simp [renH, Res.ren, rn]
/-- a column's place in a copy that may be written -/
theorem find_o (o : List Co) (s : ByteArray) (cp : Nat) (hl : o.length < 1000000) (hs : Nsort o) : ACalls Try.prog 119 1 1 [.agg [.arr 0 0 o.length cp], .v (.string s)] [(0, .seq (o.map corow) ((cp - o.length) * 2))] (fun out H' => out = .ret (.tuple [.v (.int .i64 (npos o s)), .v (.bool (hasN o s))]) ∧ H' = [(0, .seq (o.map corow) ((cp - o.length) * 2))]) :=
  ((find_f o s hl hs).borrow (k := 1) (top := 1) (args := [.agg [.arr 0 0 o.length cp], .v (.string s)]) (H := [(0, .seq (o.map corow) ((cp - o.length) * 2))]) rfl (fun out H' hh => by obtain ⟨rfl, rfl⟩ := hh; rfl) (fun i a' ha => by
    match i with
    | 0 =>
      simp at ha; subst ha
      refine ⟨_, rfl, .agg rfl fun j b hb => ?_⟩
      match j with
      | 0 =>
        simp at hb; subst hb
        exact ⟨_, rfl, .seq (k := (cp - o.length) * 2) (by simp) (coOk o) (by simp)⟩
      | j + 1 => simp at hb
    | 1 =>
      simp at ha; subst ha
      exact ⟨_, rfl, .data rfl⟩
    | i + 2 => simp at ha)).mono fun out H' hh => by
      obtain ⟨⟨_, h1, _⟩, h2⟩ := hh
      exact ⟨h1, h2⟩
theorem npos_len {o : List Co} {s : ByteArray} (h : hasN o s = true) : npos o s < o.length := by
  unfold hasN at h
  split at h
  · exact (List.getElem?_eq_some_iff.1 (by assumption)).1
  · cases h
end Go.Proofs.Ytncffhgoopdfgaa
