/- Part 9 of what the laws ChangeNumbers rest on: Vf, Vg, AmSl, AmBw, RwA. -/
import Derived.Test.YtncffhgoopdfgaaGreatP8
set_option linter.unusedSimpArgs false
set_option linter.unusedVariables false
namespace Go.Proofs.YtncffhgoopdfgaaGreat
open Go.Am
set_option maxRecDepth 100000
theorem nanR_canon {r : Nat} (h : nanR r) : canonB r = 9221120237041090561 := by
 have hn : nanB r = true := by
  rw [nan_def, decide_eq_true_eq]
  unfold nanR at h
  omega
 unfold canonB
 rw [hn]; rfl
theorem word_lt (neg : Bool) (r : Nat) (h : r < 9223372036854775808) : FloatKind.f64.format.word neg r < 18446744073709551616 := by
 have e : FloatKind.f64.format.signWeight = 9223372036854775808 := by decide
 unfold Ieee.Format.word
 split <;> omega
theorem write_lt (d : Ieee.Datum) : FloatKind.f64.format.write d < 18446744073709551616 := by
 have e1 : FloatKind.f64.format.infRung = 9218868437227405312 := by decide
 have e2 : FloatKind.f64.format.binade = 4503599627370496 := by decide
 unfold Ieee.Format.write
 split
 ·unfold Ieee.Format.nearest
  split
  ·exact word_lt _ _ (by decide)
  ·exact word_lt _ _ (Nat.lt_of_le_of_lt (Nat.min_le_right _ _) (by omega))
 ·exact word_lt _ _ (by omega)
 ·exact word_lt _ _ (by rw [e1, e2]; omega)
theorem add_lt {a b r : Nat} (h : FloatKind.f64.format.add a b = some r) : r < 18446744073709551616 := by
 unfold Ieee.Format.add at h
 rw [Option.map_eq_some_iff] at h
 obtain ⟨d, _, rfl⟩ := h
 exact write_lt d
theorem sum_lt {a b r : Nat} (h : match FloatKind.f64.format.add a b with | some r0 => r = r0 | none => nanR r) : r < 18446744073709551616 := by
 split at h
 ·rename_i r0 hr; rw [h]; exact add_lt hr
 ·unfold nanR at h; omega
def sumC (a b : Nat) : Nat := match FloatKind.f64.format.add a b with | some r0 => canonB r0 | none => 9221120237041090561
theorem sum_of {a b r : Nat} (h : match FloatKind.f64.format.add a b with | some r0 => r = r0 | none => nanR r) : canonB r = sumC a b := by
 unfold sumC
 split at h
 ·rw [h]
 ·exact nanR_canon h
theorem sum_c (a b : Nat) : ACalls Tryz.prog 200 0 0 [.v (.float .f64 a), .v (.float .f64 b)] [] (fun out H' => out = .ret (.v (.float .f64 (sumC a b))) ∧ H' = []) := by
 refine no_implicit_lambda% (acalls_of tok dok (f := 200) ⟨Tryz.func200, rfl, by kernel_rfl⟩ ?_); refine no_implicit_lambda% (c_start (fun _ h => h) ?_)
 refine no_implicit_lambda% (awd ?_)
 (with_reducible refine zC ?_)
 refine a_fadd rfl rfl rfl rfl fun r hr => ?_
 refine no_implicit_lambda% (awd ?_)
 refine no_implicit_lambda% (cal [] (canon_c r) ?_ ?_)
 ·rw [sum_of hr]
  refine no_implicit_lambda% (ret1 ?_); first | (refine no_implicit_lambda% (akc ?_)) | (refine no_implicit_lambda% (aec ?_))
  refine no_implicit_lambda% (awd ?_)
  exact e_ret (H' := []) (rest := _) rfl ⟨rfl, rfl⟩ (.refl _) (LE0 rfl)
 ·first | (exact zI) | (exact zJ)
def plusV (a b : Va) : Va × Int := if a.kind = 2 ∧ b.kind = 2 then (⟨2, [], sumC a.n b.n⟩, 0) else (⟨0, [], 0⟩, 24)
theorem plus_c (a b : Va) : ACalls Tryz.prog 181 0 10 [vav a, vav b] [] (fun out H' => out = .ret (.tuple [vav (plusV a b).1, .v (.int .i64 (plusV a b).2)]) ∧ H' = []) := by
 obtain ⟨ka, ba, na⟩ := a
 obtain ⟨kb, bb, nb⟩ := b
 refine no_implicit_lambda% (acalls_of tok dok (f := 181) ⟨Tryz.func181, rfl, by kernel_rfl⟩ ?_); refine no_implicit_lambda% (c_start (fun _ h => h) ?_)
 repeat' (first | (refine no_implicit_lambda% (zH ?_)) | (((with_reducible refine no_implicit_lambda% (zA ?_)); refine no_implicit_lambda% (zD rfl rfl rfl (fun hc => ?_) (fun hc => ?_)) <;> rw [hc])) | (((with_reducible refine no_implicit_lambda% (zB ?_)); refine no_implicit_lambda% (zE rfl (fun hc => ?_) (fun hc => ?_)))) | (((with_reducible refine no_implicit_lambda% (zC ?_)); refine no_implicit_lambda% (zF rfl rfl (fun hc => ?_) (fun hc => ?_)) <;> rw [hc])) | fail)
 ·have h : ¬ (ka = 2 ∧ kb = 2) := fun h => by simp at hc; exact hc h.1
  unfold plusV
  rw [if_neg h]
  exact e_ret_to (H' := []) (.wk (.refl _) (.cons (.box _ (.cons (.refl _) (.cons (.free _ _) (.cons (.refl _) .nil)))) (.refl _))) rfl ⟨rfl, rfl⟩ (.refl _) (LE0 rfl)
 ·have h : ¬ (ka = 2 ∧ kb = 2) := fun h => by simp at hc; exact hc h.2
  unfold plusV
  rw [if_neg h]
  exact e_ret_to (H' := []) (.wk (.refl _) (.cons (.box _ (.cons (.refl _) (.cons (.free _ _) (.cons (.refl _) .nil)))) (.refl _))) rfl ⟨rfl, rfl⟩ (.refl _) (LE0 rfl)
 ·have h : ka = 2 ∧ kb = 2 := ⟨by rename_i h1; simpa using h1, by simpa using hc⟩
  refine no_implicit_lambda% (cal [] (sum_c na nb) ?_ ?_)
  ·refine no_implicit_lambda% (ret1 ?_); first | (refine no_implicit_lambda% (akc ?_)) | (refine no_implicit_lambda% (aec ?_))
   refine no_implicit_lambda% (awd ?_)
   unfold plusV
   rw [if_pos h]
   exact e_ret_to (H' := []) (.wk (.refl _) (.cons (.box _ (.cons (.refl _) (.cons (.free _ _) (.cons (.refl _) .nil)))) (.refl _))) rfl ⟨rfl, rfl⟩ (.refl _) (LE0 rfl)
  ·first | (exact zI) | (exact zJ)
theorem refSum_c (a b : Nat) : ACalls Tryz.prog 139 0 0 [.v (.float .f64 a), .v (.float .f64 b)] [] (fun out H' => out = .ret (.v (.float .f64 (sumC a b))) ∧ H' = []) := by
 refine no_implicit_lambda% (acalls_of tok dok (f := 139) ⟨Tryz.func139, rfl, by kernel_rfl⟩ ?_); refine no_implicit_lambda% (c_start (fun _ h => h) ?_)
 refine no_implicit_lambda% (awd ?_)
 (with_reducible refine zC ?_)
 refine a_fadd rfl rfl rfl rfl fun r hr => ?_
 refine no_implicit_lambda% (awd ?_)
 refine no_implicit_lambda% (cal [] (bits_x r) ?_ ?_)
 ·refine no_implicit_lambda% (ret1 ?_); first | (refine no_implicit_lambda% (akc ?_)) | (refine no_implicit_lambda% (aec ?_))
  refine no_implicit_lambda% (awd ?_)
  refine no_implicit_lambda% (cal [] (refFrom_c r (sum_lt hr)) ?_ ?_)
  ·rw [sum_of hr]
   refine no_implicit_lambda% (ret1 ?_); first | (refine no_implicit_lambda% (akc ?_)) | (refine no_implicit_lambda% (aec ?_))
   refine no_implicit_lambda% (awd ?_)
   exact e_ret (H' := []) (rest := _) rfl ⟨rfl, rfl⟩ (.refl _) (LE0 rfl)
  ·first | (exact zI) | (exact zJ)
 ·first | (exact zI) | (exact zJ)
theorem refPlus_c (a b : Va) : ACalls Tryz.prog 66 0 10 [vav a, vav b] [] (fun out H' => out = .ret (.tuple [vav (plusV a b).1, .v (.int .i64 (plusV a b).2)]) ∧ H' = []) := by
 obtain ⟨ka, ba, na⟩ := a
 obtain ⟨kb, bb, nb⟩ := b
 refine no_implicit_lambda% (acalls_of tok dok (f := 66) ⟨Tryz.func66, rfl, by kernel_rfl⟩ ?_); refine no_implicit_lambda% (c_start (fun _ h => h) ?_)
 repeat' (first | (refine no_implicit_lambda% (zH ?_)) | (((with_reducible refine no_implicit_lambda% (zA ?_)); refine no_implicit_lambda% (zD rfl rfl rfl (fun hc => ?_) (fun hc => ?_)) <;> rw [hc])) | (((with_reducible refine no_implicit_lambda% (zB ?_)); refine no_implicit_lambda% (zE rfl (fun hc => ?_) (fun hc => ?_)))) | (((with_reducible refine no_implicit_lambda% (zC ?_)); refine no_implicit_lambda% (zF rfl rfl (fun hc => ?_) (fun hc => ?_)) <;> rw [hc])) | fail)
 ·have h : ¬ (ka = 2 ∧ kb = 2) := fun h => by simp at hc; exact hc h.1
  unfold plusV
  rw [if_neg h]
  exact e_ret_to (H' := []) (.wk (.refl _) (.cons (.box _ (.cons (.refl _) (.cons (.free _ _) (.cons (.refl _) .nil)))) (.refl _))) rfl ⟨rfl, rfl⟩ (.refl _) (LE0 rfl)
 ·have h : ¬ (ka = 2 ∧ kb = 2) := fun h => by simp at hc; exact hc h.2
  unfold plusV
  rw [if_neg h]
  exact e_ret_to (H' := []) (.wk (.refl _) (.cons (.box _ (.cons (.refl _) (.cons (.free _ _) (.cons (.refl _) .nil)))) (.refl _))) rfl ⟨rfl, rfl⟩ (.refl _) (LE0 rfl)
 ·have h : ka = 2 ∧ kb = 2 := ⟨by rename_i h1; simpa using h1, by simpa using hc⟩
  refine no_implicit_lambda% (cal [] (refSum_c na nb) ?_ ?_)
  ·refine no_implicit_lambda% (ret1 ?_); first | (refine no_implicit_lambda% (akc ?_)) | (refine no_implicit_lambda% (aec ?_))
   refine no_implicit_lambda% (awd ?_)
   unfold plusV
   rw [if_pos h]
   exact e_ret_to (H' := []) (.wk (.refl _) (.cons (.box _ (.cons (.refl _) (.cons (.free _ _) (.cons (.refl _) .nil)))) (.refl _))) rfl ⟨rfl, rfl⟩ (.refl _) (LE0 rfl)
  ·first | (exact zI) | (exact zJ)
end Go.Proofs.YtncffhgoopdfgaaGreat
namespace Go.Proofs.YtncffhgoopdfgaaGreat
open Go.Am
set_option maxRecDepth 100000
theorem canonB_lt {b : Nat} (h : b < 18446744073709551616) : canonB b < 18446744073709551616 := by unfold canonB; split <;> omega
def keyN (c : Nat) : Nat := if c < 9223372036854775808 then c + 9223372036854775808 else 18446744073709551615 - c
def placeN (c : Nat) : Nat := if c = 9221120237041090561 then 18446744073709551615 else keyN c
theorem canon_cases {b : Nat} (h : b < 18446744073709551616) : canonB b = 9221120237041090561 ∨ canonB b ≤ 9218868437227405312 ∨ (9223372036854775808 ≤ canonB b ∧ canonB b ≤ 18442240474082181120) := by
 unfold canonB
 cases hn : nanB b
 ·rw [nan_def, decide_eq_false_iff_not] at hn
  simp only [Bool.false_eq_true, if_false]
  omega
 ·exact .inl rfl
theorem and63 {c : Nat} (h : c < 18446744073709551616) : c &&& 9223372036854775808 = if c < 9223372036854775808 then 0 else 9223372036854775808 := by
 have e1 : (9223372036854775808 : Nat) = 1 <<< 63 := by decide
 have e2 : (c / 9223372036854775808 % 2) * 9223372036854775808 = ((c >>> 63) &&& 1) <<< 63 := by
  rw [Nat.shiftLeft_eq, Nat.shiftRight_eq_div_pow, Nat.and_two_pow_sub_one_eq_mod _ 1]
 have e3 : c &&& (1 <<< 63) = ((c >>> 63) &&& 1) <<< 63 := by
  apply Nat.eq_of_testBit_eq
  intro i
  simp only [Nat.testBit_and, Nat.testBit_shiftLeft, Nat.testBit_shiftRight]
  by_cases h : 63 ≤ i
  ·have : 63 + (i - 63) = i := by omega
   simp [h, this]
  ·simp [h]
 have e4 : c &&& 9223372036854775808 = (c / 9223372036854775808 % 2) * 9223372036854775808 := e3.trans e2.symm
 rw [e4]
 split <;> omega
theorem or63 {c : Nat} (h : c < 9223372036854775808) : c ||| 9223372036854775808 = c + 9223372036854775808 := by
 have e := Nat.two_pow_add_eq_or_of_lt (i := 63) (b := c) h 1
 rw [Nat.or_comm, Nat.add_comm]
 exact e.symm
theorem not64 {c : Nat} (h : c < 18446744073709551616) : (BitVec.ofInt IntKind.u64.bits (if IntKind.u64.signed then -1 else IntKind.u64.max) ^^^ BitVec.ofInt IntKind.u64.bits (c : Int)).toNat = 18446744073709551615 - c := by
 have e : BitVec.ofInt IntKind.u64.bits (if IntKind.u64.signed then -1 else IntKind.u64.max) = (BitVec.allOnes 64 : BitVec IntKind.u64.bits) := by rfl
 rw [e]
 show (BitVec.allOnes 64 ^^^ BitVec.ofInt 64 (c : Int)).toNat = _
 rw [BitVec.allOnes_xor, BitVec.toNat_not]
 show 2 ^ 64 - 1 - (BitVec.ofInt IntKind.u64.bits (c : Int)).toNat = _
 rw [ofInt_nat h]
theorem keyI_eq {b : Nat} (h : b < 18446744073709551616) : keyI b = (keyN (canonB b) : Nat) := by
 have hc := canonB_lt h
 unfold keyI keyN
 generalize canonB b = c at *
 rw [BitVec.toNat_and, ofInt_nat hc, show (BitVec.ofInt IntKind.u64.bits 9223372036854775808).toNat = 9223372036854775808 from by decide, and63 hc, not64 hc, BitVec.toNat_or, ofInt_nat hc, show (BitVec.ofInt IntKind.u64.bits 9223372036854775808).toNat = 9223372036854775808 from by decide]
 by_cases h1 : c < 9223372036854775808
 ·rw [if_pos h1, if_pos h1, or63 h1, if_neg (by decide), u64_of (by omega)]
 ·rw [if_neg h1, if_neg h1, if_pos (by decide), u64_of (by omega)]
theorem key_place {a b : Nat} (ha : a < 18446744073709551616) (hb : b < 18446744073709551616) : cmpZ (placeN (canonB a) : Nat) (placeN (canonB b) : Nat) = cmpZ (keyI a) (keyI b) := by
 rw [keyI_eq ha, keyI_eq hb]
 have h1 := canon_cases ha
 have h2 := canon_cases hb
 unfold placeN keyN cmpZ
 generalize canonB a = x at *
 generalize canonB b = y at *
 repeat' split
 all_goals omega
theorem place_c (b : Nat) (hb : b < 18446744073709551616) : ACalls Tryz.prog 203 0 0 [.v (.float .f64 b)] [] (fun out H' => out = .ret (.v (.int .u64 (placeN (canonB b) : Nat))) ∧ H' = []) := by
 have hl := canonB_lt hb
 have hB := refBits_c b hb
 generalize canonB b = c at *
 refine no_implicit_lambda% (acalls_of tok dok (f := 203) ⟨Tryz.func203, rfl, by kernel_rfl⟩ ?_); refine no_implicit_lambda% (c_start (fun _ h => h) ?_)
 refine no_implicit_lambda% (awd ?_)
 refine no_implicit_lambda% (cal [] (hB) ?_ ?_)
 ·refine no_implicit_lambda% (ret1 ?_); first | (refine no_implicit_lambda% (akc ?_)) | (refine no_implicit_lambda% (aec ?_))
  repeat' (first | (refine no_implicit_lambda% (zH ?_)) | (((with_reducible refine no_implicit_lambda% (zA ?_)); refine no_implicit_lambda% (zD rfl rfl rfl (fun hc => ?_) (fun hc => ?_)) <;> rw [hc])) | (((with_reducible refine no_implicit_lambda% (zB ?_)); refine no_implicit_lambda% (zE rfl (fun hc => ?_) (fun hc => ?_)))) | (((with_reducible refine no_implicit_lambda% (zC ?_)); refine no_implicit_lambda% (zF rfl rfl (fun hc => ?_) (fun hc => ?_)) <;> rw [hc])) | fail)
  ·have hc' : c = 9221120237041090561 := by simp at hc; omega
   exact e_ret (H' := []) (rest := _) rfl ⟨by rw [placeN, if_pos hc']; rfl, rfl⟩ (.refl _) (LE0 rfl)
  ·have h0 : ¬ c = 9221120237041090561 := by rename_i h1; simp at h1; omega
   have h1 : ¬ c < 9223372036854775808 := by
    rw [show min (Int.toNat 63) IntKind.u64.bits = 63 from rfl, show (2 : Int) ^ 63 = 9223372036854775808 by decide, Int.fdiv_eq_ediv_of_nonneg _ (by decide)] at hc
    simp at hc
    omega
   rw [not64 hl, u64_of (by omega)]
   exact e_ret (H' := []) (rest := _) rfl ⟨by rw [placeN, if_neg h0, keyN, if_neg h1]; rfl, rfl⟩ (.refl _) (LE0 rfl)
  ·have h0 : ¬ c = 9221120237041090561 := by rename_i h1; simp at h1; omega
   have h1 : c < 9223372036854775808 := by
    rw [show min (Int.toNat 63) IntKind.u64.bits = 63 from rfl, show (2 : Int) ^ 63 = 9223372036854775808 by decide, Int.fdiv_eq_ediv_of_nonneg _ (by decide)] at hc
    simp at hc
    omega
   rw [BitVec.toNat_or, ofInt_nat hl, show (BitVec.ofInt IntKind.u64.bits 9223372036854775808).toNat = 9223372036854775808 from by decide, or63 h1, u64_of (by omega)]
   exact e_ret (H' := []) (rest := _) rfl ⟨by rw [placeN, if_neg h0, keyN, if_pos h1]; rfl, rfl⟩ (.refl _) (LE0 rfl)
 ·first | (exact zI) | (exact zJ)
theorem refOrder1_c (a b : Nat) (ha : a < 18446744073709551616) (hb : b < 18446744073709551616) : ACalls Tryz.prog 186 0 0 [.v (.float .f64 a), .v (.float .f64 b)] [] (fun out H' => out = .ret (.v (.int .i64 (cmpZ (keyI a) (keyI b)))) ∧ H' = []) := by
 rw [← key_place ha hb]
 have h1 := place_c a ha
 have h2 := place_c b hb
 generalize placeN (canonB a) = x at *
 generalize placeN (canonB b) = y at *
 refine no_implicit_lambda% (acalls_of tok dok (f := 186) ⟨Tryz.func186, rfl, by kernel_rfl⟩ ?_); refine no_implicit_lambda% (c_start (fun _ h => h) ?_)
 refine no_implicit_lambda% (awd ?_)
 refine no_implicit_lambda% (cal [] (h1) ?_ ?_)
 ·refine no_implicit_lambda% (ret1 ?_); first | (refine no_implicit_lambda% (akc ?_)) | (refine no_implicit_lambda% (aec ?_))
  refine no_implicit_lambda% (awd ?_)
  refine no_implicit_lambda% (cal [] (h2) ?_ ?_)
  ·refine no_implicit_lambda% (ret1 ?_); first | (refine no_implicit_lambda% (akc ?_)) | (refine no_implicit_lambda% (aec ?_))
   repeat' (first | (refine no_implicit_lambda% (zH ?_)) | (((with_reducible refine no_implicit_lambda% (zA ?_)); refine no_implicit_lambda% (zD rfl rfl rfl (fun hc => ?_) (fun hc => ?_)) <;> rw [hc])) | (((with_reducible refine no_implicit_lambda% (zB ?_)); refine no_implicit_lambda% (zE rfl (fun hc => ?_) (fun hc => ?_)))) | (((with_reducible refine no_implicit_lambda% (zC ?_)); refine no_implicit_lambda% (zF rfl rfl (fun hc => ?_) (fun hc => ?_)) <;> rw [hc])) | fail)
   ·exact e_ret (H' := []) rfl ⟨by simp at hc; rw [cmpZ, if_pos (by omega)]; rfl, rfl⟩ (.refl _) (LE0 rfl)
   ·exact e_ret (H' := []) rfl ⟨by simp at *; rw [cmpZ, if_neg (by omega), if_pos (by omega)]; rfl, rfl⟩ (.refl _) (LE0 rfl)
   ·exact e_ret (H' := []) rfl ⟨by simp at *; rw [cmpZ, if_neg (by omega), if_neg (by omega)]; rfl, rfl⟩ (.refl _) (LE0 rfl)
  ·first | (exact zI) | (exact zJ)
 ·first | (exact zI) | (exact zJ)
theorem kind_c (v : Va) : ACalls Tryz.prog 185 0 10 [vav v] [] (fun out H' => out = .ret (.v (.int .i64 (canV v).kind)) ∧ H' = []) := by
 obtain ⟨kd, b, n⟩ := v
 refine no_implicit_lambda% (acalls_of tok dok (f := 185) ⟨Tryz.func185, rfl, by kernel_rfl⟩ ?_); refine no_implicit_lambda% (c_start (fun _ h => h) ?_)
 repeat' (first | (refine no_implicit_lambda% (zH ?_)) | (((with_reducible refine no_implicit_lambda% (zA ?_)); refine no_implicit_lambda% (zD rfl rfl rfl (fun hc => ?_) (fun hc => ?_)) <;> rw [hc])) | (((with_reducible refine no_implicit_lambda% (zB ?_)); refine no_implicit_lambda% (zE rfl (fun hc => ?_) (fun hc => ?_)))) | (((with_reducible refine no_implicit_lambda% (zC ?_)); refine no_implicit_lambda% (zF rfl rfl (fun hc => ?_) (fun hc => ?_)) <;> rw [hc])) | fail)
 ·have h : kd = 1 := by simpa using hc
  subst h
  exact e_ret (H' := []) (rest := _) rfl ⟨rfl, rfl⟩ (.refl _) (LE0 rfl)
 ·have h : kd = 2 := by simpa using hc
  subst h
  exact e_ret (H' := []) (rest := _) rfl ⟨rfl, rfl⟩ (.refl _) (LE0 rfl)
 ·have h1 : ¬ kd = 1 := by rename_i h1; simpa using h1
  have h2 : ¬ kd = 2 := by simpa using hc
  exact e_ret (H' := []) (rest := _) rfl ⟨by unfold canV; rw [if_neg h1, if_neg h2]; rfl, rfl⟩ (.refl _) (LE0 rfl)
theorem refCanon_w (v : Va) (h : v.kind = 1 → v.b.length < 1073741824) (hn : v.n < 18446744073709551616) : ACalls Tryz.prog 134 0 10 [vav v] [] (fun out H' => out = .ret (vav (canV v)) ∧ H' = []) := by
 obtain ⟨kd, b, n⟩ := v
 simp only at h hn
 by_cases hk1 : kd = 1
 ·subst hk1
  replace h := h rfl
  refine no_implicit_lambda% (acalls_of tok dok (f := 134) ⟨Tryz.func134, rfl, by kernel_rfl⟩ ?_); refine no_implicit_lambda% (c_start (fun _ h => h) ?_)
  repeat' (first | (refine no_implicit_lambda% (zH ?_)) | (((with_reducible refine no_implicit_lambda% (zA ?_)); refine no_implicit_lambda% (zD rfl rfl rfl (fun hc => ?_) (fun hc => ?_)) <;> rw [hc])) | (((with_reducible refine no_implicit_lambda% (zB ?_)); refine no_implicit_lambda% (zE rfl (fun hc => ?_) (fun hc => ?_)))) | (((with_reducible refine no_implicit_lambda% (zC ?_)); refine no_implicit_lambda% (zF rfl rfl (fun hc => ?_) (fun hc => ?_)) <;> rw [hc])) | fail)
  exact e_ret_to (H' := []) (rest := _) (.wk (.refl _) (.cons (.refl _) (.cons (.box _ (.cons (.refl _) (.cons (.free _ _) (.cons (.refl _) .nil)))) (.refl _)))) rfl ⟨rfl, rfl⟩ (.refl _) (LE0 rfl)
 ·by_cases hk2 : kd = 2
  ·subst hk2
   refine no_implicit_lambda% (acalls_of tok dok (f := 134) ⟨Tryz.func134, rfl, by kernel_rfl⟩ ?_); refine no_implicit_lambda% (c_start (fun _ h => h) ?_)
   repeat' (first | (refine no_implicit_lambda% (zH ?_)) | (((with_reducible refine no_implicit_lambda% (zA ?_)); refine no_implicit_lambda% (zD rfl rfl rfl (fun hc => ?_) (fun hc => ?_)) <;> rw [hc])) | (((with_reducible refine no_implicit_lambda% (zB ?_)); refine no_implicit_lambda% (zE rfl (fun hc => ?_) (fun hc => ?_)))) | (((with_reducible refine no_implicit_lambda% (zC ?_)); refine no_implicit_lambda% (zF rfl rfl (fun hc => ?_) (fun hc => ?_)) <;> rw [hc])) | fail)
   refine no_implicit_lambda% (cal [] (refBits_c n hn) ?_ ?_)
   ·refine no_implicit_lambda% (ret1 ?_); first | (refine no_implicit_lambda% (akc ?_)) | (refine no_implicit_lambda% (aec ?_))
    refine no_implicit_lambda% (awd ?_)
    refine no_implicit_lambda% (cal [] (refFrom_c (canonB n) (canonB_lt hn)) ?_ ?_)
    ·rw [canon2]
     refine no_implicit_lambda% (ret1 ?_); first | (refine no_implicit_lambda% (akc ?_)) | (refine no_implicit_lambda% (aec ?_))
     refine no_implicit_lambda% (awd ?_)
     exact e_ret_to (H' := []) (.wk (.refl _) (.cons (.box _ (.cons (.refl _) (.cons (.free _ _) (.cons (.refl _) .nil)))) (.refl _))) rfl ⟨rfl, rfl⟩ (.refl _) (LE0 rfl)
    ·first | (exact zI) | (exact zJ)
   ·first | (exact zI) | (exact zJ)
  ·have q1 : (kd == 1) = false := by simpa using hk1
   have q2 : (kd == 2) = false := by simpa using hk2
   refine no_implicit_lambda% (acalls_of tok dok (f := 134) ⟨Tryz.func134, rfl, by kernel_rfl⟩ ?_); refine no_implicit_lambda% (c_start (fun _ h => h) ?_)
   refine no_implicit_lambda% (awd ?_)
   ((with_reducible refine no_implicit_lambda% (zB ?_)); refine no_implicit_lambda% (zE rfl (fun hc => ?_) (fun hc => ?_)))
   ·rw [q1] at hc; cases hc
   refine no_implicit_lambda% (awd ?_)
   ((with_reducible refine no_implicit_lambda% (zB ?_)); refine no_implicit_lambda% (zE rfl (fun hc => ?_) (fun hc => ?_)))
   ·rw [q2] at hc; cases hc
   refine no_implicit_lambda% (awd ?_)
   refine e_ret_to (H' := []) (.wk (.refl _) (.cons (.box _ (.cons (.refl _) (.cons (.free _ _) (.cons (.refl _) .nil)))) (.refl _))) rfl ⟨?_, rfl⟩ (.refl _) (LE0 rfl)
   unfold canV
   rw [if_neg hk1, if_neg hk2]
   rfl
theorem refCanon_c (v : Va) (h : v.b.length < 1073741824) (hn : v.n < 18446744073709551616) : ACalls Tryz.prog 134 0 10 [vav v] [] (fun out H' => out = .ret (vav (canV v)) ∧ H' = []) := refCanon_w v (fun _ => h) hn
theorem refRight_c (v : Va) : ACalls Tryz.prog 133 0 10 [vav v] [] (fun out H' => out = .ret (.v (.bool (v.kind == 1 && decide ((v.b.length : Int) ≤ 16) || v.kind == 2))) ∧ H' = []) := by
 obtain ⟨kd, b, n⟩ := v
 refine no_implicit_lambda% (acalls_of tok dok (f := 133) ⟨Tryz.func133, rfl, by kernel_rfl⟩ ?_); refine no_implicit_lambda% (c_start (fun _ h => h) ?_)
 repeat' (first | (refine no_implicit_lambda% (zH ?_)) | (((with_reducible refine no_implicit_lambda% (zA ?_)); refine no_implicit_lambda% (zD rfl rfl rfl (fun hc => ?_) (fun hc => ?_)) <;> rw [hc])) | (((with_reducible refine no_implicit_lambda% (zB ?_)); refine no_implicit_lambda% (zE rfl (fun hc => ?_) (fun hc => ?_)))) | (((with_reducible refine no_implicit_lambda% (zC ?_)); refine no_implicit_lambda% (zF rfl rfl (fun hc => ?_) (fun hc => ?_)) <;> rw [hc])) | fail)
 all_goals
  refine e_ret (H' := []) (rest := _) rfl ⟨congrArg (fun z => AOut.ret (.v (.bool z))) ?_, rfl⟩ (.refl _) (LE0 rfl)
  simp only [List.length_map] at *
  simp_all
theorem less_cb : ∀ a b : List UInt8, Op.bytesLess a b = decide (Lib.compareBytes a b = -1)
 | [], [] => rfl
 | [], _ :: _ => rfl
 | _ :: _, [] => rfl
 | x :: a, y :: b => by
  have h := less_cb a b
  unfold Op.bytesLess Lib.compareBytes
  rw [h]
  by_cases h1 : x < y
  ·rw [if_pos h1]; simp [h1]
  ·rw [if_neg h1]
   by_cases h2 : y < x
   ·rw [if_pos h2]
    have : ¬ x = y := fun e => h1 (e ▸ h2)
    simp [h1, this]
   ·rw [if_neg h2]
    have : x = y := by
     rw [UInt8.lt_iff_toNat_lt] at h1 h2
     exact UInt8.toNat_inj.1 (by omega)
    subst this
    simp
theorem eq_cb : ∀ a b : List UInt8, (a == b) = decide (Lib.compareBytes a b = 0)
 | [], [] => rfl
 | [], _ :: _ => rfl
 | _ :: _, [] => rfl
 | x :: a, y :: b => by
  have h := eq_cb a b
  unfold Lib.compareBytes
  rw [List.cons_beq_cons, h]
  by_cases h1 : x < y
  ·rw [if_pos h1]
   have : ¬ x = y := fun e => by subst e; exact absurd h1 (by simp)
   simp [this]
  ·rw [if_neg h1]
   by_cases h2 : y < x
   ·rw [if_pos h2]
    have : ¬ x = y := fun e => h1 (e ▸ h2)
    simp [this]
   ·rw [if_neg h2]
    have : x = y := by
     rw [UInt8.lt_iff_toNat_lt] at h1 h2
     exact UInt8.toNat_inj.1 (by omega)
    subst this
    simp
theorem cb_three (a b : List UInt8) : Lib.compareBytes a b = -1 ∨ Lib.compareBytes a b = 0 ∨ Lib.compareBytes a b = 1 := by
 induction a generalizing b with
 | nil => cases b <;> simp [Lib.compareBytes]
 | cons x a ih =>
  cases b with
  | nil => simp [Lib.compareBytes]
  | cons y b =>
   unfold Lib.compareBytes
   repeat' split
   ·exact .inl rfl
   ·exact .inr (.inr rfl)
   ·exact ih b
theorem canV_kind3 (v : Va) : (canV v).kind = 0 ∨ (canV v).kind = 1 ∨ (canV v).kind = 2 := by
 unfold canV
 split
 ·exact .inr (.inl rfl)
 ·split
  ·exact .inr (.inr rfl)
  ·exact .inl rfl
theorem canV_b1 (v : Va) (h : (canV v).kind = 1) : (canV v).b = v.b := by
 unfold canV at *
 split
 ·rfl
 ·rename_i h1
  rw [if_neg h1] at h
  split at h <;> cases h
theorem canV_n2 (v : Va) (h : (canV v).kind = 2) : (canV v).n = canonB v.n := by
 unfold canV at *
 split
 ·rename_i h1
  rw [if_pos h1] at h
  cases h
 ·split
  ·rfl
  ·rename_i h1 h2
   rw [if_neg h1, if_neg h2] at h
   cases h
theorem keyI_canon (n : Nat) : keyI (canonB n) = keyI n := by unfold keyI; rw [canon2]
set_option maxHeartbeats 3200000 in
theorem refOrder_c (a b : Va) (ha : a.n < 18446744073709551616) (hb : b.n < 18446744073709551616) : ACalls Tryz.prog 156 0 100 [vav a, vav b] [] (fun out H' => out = .ret (.v (.int .i64 (ordV a b))) ∧ H' = []) := by
 have hka := kind_c a
 have hkb := kind_c b
 have hoo := refOrder1_c a.n b.n ha hb
 have c0 := canV_kind3 a
 have d0 := canV_kind3 b
 have c1 := canV_b1 a
 have d1 := canV_b1 b
 have c2 := canV_n2 a
 have d2 := canV_n2 b
 have ho : ordV a b = ordV0 (canV a) (canV b) := rfl
 unfold ordV0 at ho
 have o1 : (canV a).kind < (canV b).kind → ordV a b = -1 := fun h => by rw [ho, if_pos (by omega), cmpZ, if_pos h]
 have o2 : (canV a).kind > (canV b).kind → ordV a b = 1 := fun h => by rw [ho, if_pos (by omega), cmpZ, if_neg (by omega), if_pos h]
 have o3 : (canV a).kind = 2 → (canV b).kind = 2 → ordV a b = cmpZ (keyI a.n) (keyI b.n) := fun h k => by rw [ho, if_neg (by omega), if_neg (by omega), if_pos h, c2 h, d2 k, keyI_canon, keyI_canon]
 have o4 : (canV a).kind = 1 → (canV b).kind = 1 → ordV a b = Lib.compareBytes a.b b.b := fun h k => by rw [ho, if_neg (by omega), if_pos h, c1 h, d1 k]
 have o5 : (canV a).kind = 0 → (canV b).kind = 0 → ordV a b = 0 := fun h k => by rw [ho, if_neg (by omega), if_neg (by omega), if_neg (by omega)]
 clear ho c1 c2 d1 d2
 generalize ordV a b = oo at *
 generalize (canV a).kind = x at *
 generalize (canV b).kind = y at *
 obtain ⟨k1, b1, n1⟩ := a
 obtain ⟨k2, b2, n2⟩ := b
 simp only at *
 have oO : (x < y ∧ oo = -1) ∨ (x > y ∧ oo = 1) ∨ (x = 2 ∧ y = 2) ∨ (x = 1 ∧ y = 1 ∧ oo = Lib.compareBytes b1 b2) ∨ (x = 0 ∧ y = 0 ∧ oo = 0) := by
  rcases Int.lt_trichotomy x y with h | h | h
  ·exact .inl ⟨h, o1 h⟩
  ·subst h
   rcases c0 with h | h | h
   ·exact .inr (.inr (.inr (.inr ⟨h, h, o5 h h⟩)))
   ·exact .inr (.inr (.inr (.inl ⟨h, h, o4 h h⟩)))
   ·exact .inr (.inr (.inl ⟨h, h⟩))
  ·exact .inr (.inl ⟨h, o2 h⟩)
 have ol := less_cb b1 b2
 have oe := eq_cb b1 b2
 have o3' := cb_three b1 b2
 refine no_implicit_lambda% (acalls_of tok dok (f := 156) ⟨Tryz.func156, rfl, by kernel_rfl⟩ ?_); refine no_implicit_lambda% (c_start (fun _ h => h) ?_)
 refine no_implicit_lambda% (awd ?_)
 refine no_implicit_lambda% (cal [] (hka) ?_ ?_)
 ·refine no_implicit_lambda% (ret1 ?_); first | (refine no_implicit_lambda% (akc ?_)) | (refine no_implicit_lambda% (aec ?_))
  refine no_implicit_lambda% (awd ?_)
  refine no_implicit_lambda% (cal [] (hkb) ?_ ?_)
  ·refine no_implicit_lambda% (ret1 ?_); first | (refine no_implicit_lambda% (akc ?_)) | (refine no_implicit_lambda% (aec ?_))
   repeat' (first | (refine no_implicit_lambda% (zH ?_)) | (((with_reducible refine no_implicit_lambda% (zA ?_)); refine no_implicit_lambda% (zD rfl rfl rfl (fun hc => ?_) (fun hc => ?_)) <;> rw [hc])) | (((with_reducible refine no_implicit_lambda% (zB ?_)); refine no_implicit_lambda% (zE rfl (fun hc => ?_) (fun hc => ?_)))) | (((with_reducible refine no_implicit_lambda% (zC ?_)); refine no_implicit_lambda% (zF rfl rfl (fun hc => ?_) (fun hc => ?_)) <;> rw [hc])) | fail)
   ·refine e_ret (H' := []) (rest := _) rfl ⟨by rw [o1 (by simpa using hc)]; rfl, rfl⟩ (.refl _) (LE0 rfl)
   ·refine e_ret (H' := []) (rest := _) rfl ⟨by rw [o2 (by simpa using hc)]; rfl, rfl⟩ (.refl _) (LE0 rfl)
   ·have hx : x = 2 := by simpa using hc
    have hy : y = 2 := by simp at *; omega
    refine no_implicit_lambda% (cal [] (hoo) ?_ ?_)
    ·refine no_implicit_lambda% (ret1 ?_); first | (refine no_implicit_lambda% (akc ?_)) | (refine no_implicit_lambda% (aec ?_))
     refine no_implicit_lambda% (awd ?_)
     refine e_ret (H' := []) (rest := _) rfl ⟨by rw [o3 hx hy]; rfl, rfl⟩ (.refl _) (LE0 rfl)
    ·first | (exact zI) | (exact zJ)
   all_goals
    refine e_ret (H' := []) (rest := _) rfl ⟨congrArg (fun z => AOut.ret (.v (.int .i64 z))) ?_, rfl⟩ (.refl _) (LE0 rfl)
    clear hka hkb hoo
    try simp only [Lib.toList_data] at *
    simp only [ol, oe, beq_iff_eq, Bool.not_eq_true', Bool.not_eq_false', Bool.or_eq_true, Bool.or_eq_false_iff, decide_eq_true_eq, decide_eq_false_iff_not, beq_eq_false_iff_ne, ne_eq] at *
    omega
  ·first | (exact zI) | (exact zJ)
 ·first | (exact zI) | (exact zJ)
theorem refSame_c (a b : Va) (ha : a.n < 18446744073709551616) (hb : b.n < 18446744073709551616) : ACalls Tryz.prog 87 0 200 [vav a, vav b] [] (fun out H' => out = .ret (.v (.bool (ordV a b == 0))) ∧ H' = []) := by
 have cc := refOrder_c a b ha hb
 obtain ⟨ka, ba, na⟩ := a
 obtain ⟨kb, bb, nb⟩ := b
 refine no_implicit_lambda% (acalls_of tok dok (f := 87) ⟨Tryz.func87, rfl, by kernel_rfl⟩ ?_); refine no_implicit_lambda% (c_start (fun _ h => h) ?_)
 refine no_implicit_lambda% (awd ?_)
 refine no_implicit_lambda% (cal [] (cc) ?_ ?_)
 ·refine no_implicit_lambda% (ret1 ?_); first | (refine no_implicit_lambda% (akc ?_)) | (refine no_implicit_lambda% (aec ?_))
  refine no_implicit_lambda% (awd ?_)
  exact e_ret (H' := []) (rest := _) rfl ⟨rfl, rfl⟩ (.refl _) (LE0 rfl)
 ·first | (exact zI) | (exact zJ)
end Go.Proofs.YtncffhgoopdfgaaGreat
namespace Go.Am
open Go.RowKit
theorem Conv.anewS {s : List AV} {L L0 : Heap} {n j id off m cp k : Nat} {rows : List (List AV)} (hj : getA s j = .arr id off m cp) (hp : L.Perm ((id, .seq rows k) :: L0)) (hne : rows.length + k ≠ 0) :
  Conv ⟨s, L, n⟩ ⟨setA s j (.arr n off m cp), (n, .seq rows k) :: L0, n + 1⟩ := fun B G a w hr => by
 have hn : ¬ G.live n := fun h => Nat.lt_irrefl _ (hr.next n h)
 have hx := hr.slots j (fun h => h)
 simp only [hj] at hx
 have hx' : Sim G (.arr id off m cp) (a.tmps.getD j undef) := hx.down
 have h5 : Holds G w ((id, .seq rows k) :: L0) := hr.holds.perm hp
 obtain ⟨u1, u2⟩ := h5.unseq hne
 obtain ⟨m1, m2, m3⟩ := move_box u1 hn
 have hst : Step G w L (G.boxed n (G.loc id)) w ((n, .seq rows k) :: L0) := ((((Step.refl G w L).perm (.refl _) hp).unseq hne).trans m2).toSeq
 have hsim : Sim (G.boxed n (G.loc id)) (.arr n off m cp) (a.tmps.getD j undef) := by
  obtain ⟨base, hv, hlive, hnc, hcm, hbs⟩ := hx'.arr_inv
  rw [hv]
  exact .arr n off m cp base (.inr rfl) hnc hcm fun h0 => by rw [hbs h0]; simp [Ghost.boxed]
 refine ⟨G.boxed n (G.loc id), by rw [hr.size, setA_eq]; simp, fun i hi => ?_, hr.defers, m1.toSeq u2, hr.step.trans hst, fun i hi => ?_, hr.base, Nat.le_succ_of_le hr.low, fun i hi => ?_⟩
 ·show Slot _ (getA (setA s j _) i) _
  rw [getA_eq, setA_eq, List.getD, List.getElem?_set]
  by_cases e : j = i
  ·subst e
   rw [if_pos rfl]
   split
   ·exact .of hsim
   ·exact .of (.data _ _ (.dead _))
  ·rw [if_neg e]
   have := Slot.mono (G := G) (G' := G.boxed n (G.loc id)) (fun _ h => h) (fun a x h => m3 a x h) (hr.slots i hi)
   rw [getA_eq] at this
   exact this
 ·rcases hi with hi | rfl
  ·exact Nat.lt_succ_of_lt (hr.next i hi)
  ·exact Nat.lt_succ_self _
 ·rcases hi with hi | rfl
  ·exact hr.old i hi
  ·exact .inr hr.low
theorem box_more {G : Ghost} {w : World} {bid j : Nat} {cells : List AV} {a : AV} {L0 : Heap} (h : Holds G w ((bid, .box cells) :: L0)) (hs : ∀ arr E fr, w.heap[G.loc bid]? = some (.cells arr E fr) → Sim G a (arr.getD j undef)) :
  Holds G w ((bid, .box (setA cells j a)) :: L0) ∧ ∀ G0 w0 H0, Step G0 w0 H0 G w ((bid, .box cells) :: L0) → Step G0 w0 H0 G w ((bid, .box (setA cells j a)) :: L0) := by
 have hb0 : blocksOf G ((bid, .box (setA cells j a)) :: L0) = blocksOf G ((bid, .box cells) :: L0) := by unfold blocksOf; simp [List.filterMap_cons, Ghost.placed]
 have hnew : ResHolds G w (bid, .box (setA cells j a)) := by
  obtain ⟨g0, arr, E, fr, g1, g2, g3, g4⟩ := h.res (bid, .box cells) (by simp)
  refine ⟨g0, arr, E, fr, g1, by rw [setA_eq]; simpa using g2, g3, fun i b hb => ?_⟩
  rw [setA_eq, List.getElem?_set] at hb
  split at hb
  ·rename_i e
   subst e
   split at hb
   ·cases hb; exact hs _ _ _ g1
   ·cases hb
  ·exact g4 i b hb
 refine ⟨⟨h.X, fun r hm => ?_, by simpa using h.ids, fun r hm => ?_, by rw [hb0]; exact h.blocks, by rw [hb0]; exact h.lits⟩, fun G0 w0 H0 st => ⟨st.os, st.tape, st.output, st.size, st.base, st.X, st.frame, st.newX, by rw [hb0]; exact st.newB, st.live, by simpa using st.newI, st.lits, st.newL⟩⟩
 ·simp only [List.mem_cons] at hm
  rcases hm with rfl | hm
  ·exact hnew
  ·exact h.res _ (by simp [hm])
 ·simp only [List.mem_cons] at hm
  rcases hm with rfl | hm
  ·exact h.live (bid, .box cells) (by simp)
  ·exact h.live _ (by simp [hm])
theorem run_overlaps_box {P : Program} (w : World) (tS tR e : TypeId) (ht : P.underlying tS = some (.slice e)) (size : Nat) (hz : ∀ w, (Go.sizeOf e).run P w = .ok size w)
  (a : Addr) (base : Option Addr) (la ca lb cb : Nat) {va : Value} (hva : w.cell? a = some va) (hb : lb ≠ 0 → ∃ b, base = some b ∧ a.block ≠ b.block ∧ b.spot = none ∧ (∃ q, w.shape? b.block = some q) ∧ ∀ i, w.frozen? ⟨b.block, i, none⟩ = false) :
  (Extern.SlicesOverlaps.overlaps #[tS, tS] #[tR] #[.slice (some a) la ca, .slice base lb cb]).run P w = .ok (.bool false) w := by
 obtain ⟨tA, kA, hsa, hlt, hsp⟩ : ∃ tA kA, w.shape? a.block = some (tA, kA) ∧ a.off < kA ∧ a.spot = none := by
  unfold World.cell? at hva; unfold World.shape?
  split at hva
  ·rename_i c e fr hh
   split at hva
   ·cases hva
   ·rename_i h
    exact ⟨_, _, rfl, (Array.getElem?_eq_some_iff.1 hva).1, by simpa using h⟩
  ·cases hva
 cases kA with
 | zero => omega
 | succ kA =>
 by_cases h0 : la = 0 ∨ lb = 0 ∨ size = 0
 ·have key : ∀ (m1 m2 : String) (q : Sem Nat), Sem.run P (α := Value) (do
   let some t := (#[tS, tS] : Array TypeId)[0]? | stuck m1
   let .slice elem ← underlying t | stuck m2
   let size ← sizeOf elem
   match (some a : Option Addr), base with
   | some a, some b =>
    if la = 0 ∨ lb = 0 ∨ size = 0 then pure (Value.bool false)
    else if a.block != b.block && (← frozen a) && (← frozen b) then unsupported .addressObserved
    else do
     if a.block != b.block then do
      noView a; noView b
      if ← mayBeOne a b then return Value.bool ((← q) == 1)
     pure (Value.bool (a.block == b.block && a.off < b.off + lb * size && b.off < a.off + la * size))
   | _, _ => pure (Value.bool false)) w = .ok (.bool false) w := by
   intro m1 m2 q
   cases base with
   | none => simp [run_underlying ht, hz]
   | some b => simp [run_underlying ht, hz, h0]
  exact key "" _ _
 ·obtain ⟨b, rfl, hne, hbs', ⟨⟨tB, kB⟩, hshb⟩, hfz⟩ := hb fun h => h0 (.inr (.inl h))
  have hnb : (a.block != b.block) = true := by simpa using hne
  have hnb' : (a.block == b.block) = false := by simpa using hne
  have hfb : w.frozen? b = false := by
   have := hfz b.off
   unfold World.frozen? at this ⊢
   exact this
  have key : ∀ (m1 m2 : String) (q : Sem Nat), Sem.run P (α := Value) (do
   let some t := (#[tS, tS] : Array TypeId)[0]? | stuck m1
   let .slice elem ← underlying t | stuck m2
   let size ← sizeOf elem
   match (some a : Option Addr), (some b : Option Addr) with
   | some a, some b =>
    if la = 0 ∨ lb = 0 ∨ size = 0 then pure (Value.bool false)
    else if a.block != b.block && (← frozen a) && (← frozen b) then unsupported .addressObserved
    else do
     if a.block != b.block then do
      noView a; noView b
      if ← mayBeOne a b then return Value.bool ((← q) == 1)
     pure (Value.bool (a.block == b.block && a.off < b.off + lb * size && b.off < a.off + la * size))
   | _, _ => pure (Value.bool false)) w = .ok (.bool false) w := by
   intro m1 m2 q
   cases hfa : w.frozen? a <;>
   simp [run_underlying ht, hz, h0, hnb, hnb', frozen, noView, viewAt, mayBeOne, stringish, shape, Sem.run, hsa, hshb, hfb, hfa, hfz, hsp, hbs']
  exact key "" _ _
theorem ext_ov {P : Program} {f : FuncId} {fn : Func} {tS tR e : TypeId} (hf : P.funcs[f]? = some fn) (hname : (fn.name == "runtime.NumGoroutine") = false) (hb : fn.body.isNone = true) (hn : Extern.findNext fn = none) (he : Extern.find fn = some (Extern.SlicesOverlaps.overlaps #[tS, tS] #[tR]))
    (ht : P.underlying tS = some (.slice e)) (size : Nat) (hz : ∀ w, (Go.sizeOf e).run P w = .ok size w) {row : List AV} {rs : List (List AV)} {off m c k : Nat} {rows : List (List AV)} (hrow : row ≠ []) (hne : rows.length + k ≠ 0) :
    ACalls P f 1 1 [.list (row :: rs) .free, .arr 0 off m c] [(0, .seq rows k)] fun out H' => out = .ret (.v (.bool false)) ∧ H' = [(0, .seq rows k)] := by
  intro G w vals h1 h2 h3 h4 h5 h6
  obtain ⟨va, vb, rfl⟩ : ∃ va vb, vals = #[va, vb] := by
    have h7 : vals.size = 2 := by simpa using h5.symm
    refine ⟨vals.getD 0 undef, vals.getD 1 undef, ?_⟩
    apply Array.ext
    · rw [h7]; rfl
    · intro i hi hi2
      have : i = 0 ∨ i = 1 := by have : i < 2 := by simpa using hi2
                                 omega
      rcases this with rfl | rfl <;> simp [Array.getD, hi]
  have ha : Sim G (.list (row :: rs) .free) va := h6 0 _ rfl
  have hb' : Sim G (.arr 0 off m c) vb := h6 1 _ rfl
  obtain ⟨b, o, c', s, y, rfl, hr, hX, hS, h1c⟩ := ha.list_inv.1.pos (by simp)
  obtain ⟨base, rfl, hlive, hnc, hcm, hbs⟩ := hb'.arr_inv
  cases row with
  | nil => exact absurd rfl hrow
  | cons a0 row =>
  have hx0 := hX 0 (a0 :: row) 0 a0 rfl rfl
  have hcell := h4.X _ _ _ hx0
  simp only [Nat.zero_mul, Nat.add_zero] at hcell hx0
  obtain ⟨⟨g0, arr, E, fr, g1, g2, g3, g4⟩, _⟩ := h4.res (0, .seq rows k) (by simp) hne
  refine .inr ⟨.bool false, w, ?_, G, .ret (.v (.bool false)), [(0, .seq rows k)], ⟨rfl, rfl⟩, .data _ _ (.v _), h4, Step.refl _ _ _, fun id h => .inl h⟩
  rw [Go.run_callFunc_extern hf hname hb hn he, run_overlaps_box w tS tR e ht size hz ⟨b, o, none⟩ base _ c' m c hcell fun hm => ?_]
  · rfl
  · refine ⟨_, hbs (by omega), fun e => ?_, rfl, ⟨(E, arr.size), by unfold World.shape?; rw [g1]⟩, g3⟩
    have e' : b = G.loc 0 := e
    rw [e', g0] at hx0; cases hx0
theorem asrc_seq {L : Heap} {sz : Nat} {y : AV} {lim : Nat → Nat} {id off m cp k : Nat} {rows : List (List AV)} {cs : List AV} {K : Nat → List AV → Prop} (hy : y = .arr id off m cp) (hf : findL L id = some (.seq rows k)) (h0 : lim m ≤ m) (h1 : off + lim m * sz ≤ (seqC rows k).length)
  (hcs : ((seqC rows k).drop off).take (lim m * sz) = cs) (h2 : cs.all AV.one = true) (h : K m cs) : asrc L sz lim y K := by
 subst hy; subst hcs
 unfold asrc
 simp only [hf]
 exact ⟨h0, h1, h2, h⟩
theorem seqC_len {sz k : Nat} {rows : List (List AV)} (h : ∀ row ∈ rows, row.length = sz) : (seqC rows k).length = rows.length * sz + k := by
 unfold seqC; rw [List.length_append, List.length_replicate, flatten_length h]
theorem put_mid (A B C cs : List AV) (h : cs.length = B.length) : putCells (A ++ (B ++ C)) A.length cs = A ++ (cs ++ C) := by
 unfold putCells
 rw [List.take_left, h, ← List.append_assoc A, List.drop_append, List.drop_eq_nil_of_le (by simp)]
 simp
theorem RowsOk.take {sz : Nat} {rows : List (List AV)} (h : RowsOk sz rows) (i : Nat) : RowsOk sz (rows.take i) := by
 have hm : ∀ a ∈ (rows.take i).flatten, a ∈ rows.flatten := fun a ha => by
  obtain ⟨r, h1, h2⟩ := List.mem_flatten.1 ha
  exact List.mem_flatten.2 ⟨r, List.mem_of_mem_take h1, h2⟩
 exact ⟨fun row hr => h.len row (List.mem_of_mem_take hr), List.all_eq_true.2 fun a ha => List.all_eq_true.1 h.one a (hm a ha), fun a ha => h.pure a (hm a ha)⟩
theorem RowsOk.drop {sz : Nat} {rows : List (List AV)} (h : RowsOk sz rows) (i : Nat) : RowsOk sz (rows.drop i) := by
 have hm : ∀ a ∈ (rows.drop i).flatten, a ∈ rows.flatten := fun a ha => by
  obtain ⟨r, h1, h2⟩ := List.mem_flatten.1 ha
  exact List.mem_flatten.2 ⟨r, List.mem_of_mem_drop h1, h2⟩
 exact ⟨fun row hr => h.len row (List.mem_of_mem_drop hr), List.all_eq_true.2 fun a ha => List.all_eq_true.1 h.one a (hm a ha), fun a ha => h.pure a (hm a ha)⟩
theorem seq_from {sz : Nat} {rows : List (List AV)} (h : ∀ row ∈ rows, row.length = sz) (i k : Nat) (hi : i ≤ rows.length) : (seqC rows k).drop (i * sz) = (rows.drop i).flatten ++ List.replicate k .dead := by
 unfold seqC
 have hl : (rows.take i).flatten.length = i * sz := by rw [flatten_length (fun row hr => h row (List.mem_of_mem_take hr)), List.length_take, Nat.min_eq_left hi]
 conv => lhs; rw [← List.take_append_drop i rows, List.flatten_append, List.append_assoc, ← hl, List.drop_left]
theorem seq_split {sz : Nat} {rows : List (List AV)} (h : ∀ row ∈ rows, row.length = sz) (i k : Nat) : seqC rows k = (rows.take i).flatten ++ ((rows.drop i).flatten ++ List.replicate k .dead) := by
 unfold seqC
 conv => lhs; rw [← List.take_append_drop i rows, List.flatten_append, List.append_assoc]
theorem put_up {sz k i : Nat} {rows : List (List AV)} {r : List AV} (h : ∀ row ∈ rows, row.length = sz) (hi : rows[i]? = some r) (hk : sz ≤ k) : putCells (seqC rows k) ((i + 1) * sz) (rows.drop i).flatten = seqC (rows.take i ++ r :: rows.drop i) (k - sz) := by
 obtain ⟨hlt, hr⟩ := List.getElem?_eq_some_iff.1 hi
 have hd : rows.drop i = r :: rows.drop (i + 1) := by rw [List.drop_eq_getElem_cons hlt, hr]
 have hrl : r.length = sz := h r (List.mem_of_getElem? hi)
 have hA : ((rows.take i).flatten ++ r).length = (i + 1) * sz := by
  rw [List.length_append, flatten_length (fun row hr => h row (List.mem_of_mem_take hr)), List.length_take, Nat.min_eq_left (by omega), hrl, Nat.succ_mul]
 have hB : ∀ m, (rows.drop m).flatten.length = (rows.length - m) * sz := fun m => by
  rw [flatten_length (fun row hr => h row (List.mem_of_mem_drop hr)), List.length_drop]
 obtain ⟨j, hj⟩ : ∃ j, rows.length - i = j + 1 := ⟨rows.length - i - 1, by omega⟩
 have e1 : seqC rows k = ((rows.take i).flatten ++ r) ++ (((rows.drop (i + 1)).flatten ++ List.replicate sz .dead) ++ List.replicate (k - sz) .dead) := by
  rw [seq_split h i, hd, List.flatten_cons]
  simp only [List.append_assoc]
  congr 3
  rw [List.replicate_append_replicate]
  congr 1; omega
 rw [e1, ← hA, put_mid]
 ·unfold seqC
  rw [List.flatten_append, List.flatten_cons]
  simp only [List.append_assoc]
 ·rw [hB, List.length_append, hB, List.length_replicate, hj, show rows.length - (i + 1) = j by omega, Nat.succ_mul]
theorem put_one {sz k i : Nat} {rows : List (List AV)} {row : List AV} (h : ∀ row ∈ rows, row.length = sz) (hi : i < rows.length) (hr : row.length = sz) : putCells (seqC rows k) (i * sz) row = seqC (rows.set i row) k := by
 have hg : rows[i]? = some rows[i] := List.getElem?_eq_getElem hi
 have := flat_put (j := 0) (l := row) h hg (by omega) k
 rw [Nat.add_zero] at this
 rw [this]
 congr 2
 have hrl : rows[i].length = sz := h _ (List.getElem_mem hi)
 unfold putCells
 rw [List.take_zero, List.nil_append, List.drop_eq_nil_of_le (by omega), List.append_nil]
theorem put_end {sz k : Nat} {rows rows2 : List (List AV)} (h : ∀ row ∈ rows, row.length = sz) (h2 : ∀ row ∈ rows2, row.length = sz) (hk : rows2.length * sz ≤ k) : putCells (seqC rows k) (rows.length * sz) rows2.flatten = seqC (rows ++ rows2) (k - rows2.length * sz) := by
 unfold seqC
 rw [← flatten_length h, putCells_end (by rw [flatten_length h2]; exact hk), flatten_length h2, List.flatten_append]
section
variable {P : Program} {TT : Types} {o : Oper} {s : List AV} {L : Heap} {n : Nat}
theorem a_copyUp {K KP : AV → Heap → Nat → Prop} {c : Call} {x y : Operand} {t tx e : TypeId} {te : TI} {id off off2 nn mm cp cp2 k k2 i sz : Nat} {r : List AV} {rows : List (List AV)} {L0 : Heap} (ho : o.op = .call c) (hk : opKind o = .mem) (hc : c.callee = .builtin .copy) (ha : c.args.toList = [x, y]) (hty : c.argTypes.toList = [t, tx])
  (hkt : kindT TT t = .slice e) (hte : TT e = some te) (hx : ev s x = .arr id off nn cp) (hy : ev s y = .arr id off2 mm cp2) (hta : ∀ k' : Res → Heap → Prop, k' (.seq rows k) L0 → takeO L id k') (hf : findL L id = some (.seq rows k)) (hsz : te.size = sz) (hR : RowsOk sz rows) (hr : rows[i]? = some r)
  (hoff : off = (i + 1) * sz) (hoff2 : off2 = i * sz) (hnn : nn = rows.length - i) (hmm : mm = rows.length + 1 - i) (hkk : sz ≤ k) (hk2 : k - sz = k2) (h : ∀ q : Int, K (.v (.int .i64 q)) ((id, .seq (rows.take i ++ r :: rows.drop i) k2) :: L0) n) : aop P TT o s L n K KP := by
 subst hk2
 subst hoff; subst hoff2; subst hsz; subst hnn
 have hlt := (List.getElem?_eq_some_iff.1 hr).1
 have hmin : Nat.min mm (rows.length - i) = rows.length - i := Nat.min_eq_right (by omega)
 have hmul : i * te.size + (rows.length - i) * te.size = rows.length * te.size := by rw [← Nat.add_mul]; congr 1; omega
 refine a_copyS ho hk hc ha hty hkt hte hx hta (m := mm) (cs := (rows.drop i).flatten) (fun K h => asrc_seq hy hf (Nat.min_le_left _ _) ?_ ?_ ?_ h) (by omega) ?_ (put_up hR.len hr hkk) ?_ (h _)
 ·rw [hmin, seqC_len hR.len]; omega
 ·rw [hmin, seq_from hR.len i k (by omega), List.take_append_of_le_length]
  ·rw [List.take_of_length_le]
   rw [flatten_length (hR.drop i).len, List.length_drop]; exact Nat.le_refl _
  ·rw [flatten_length (hR.drop i).len, List.length_drop]; exact Nat.le_refl _
 ·exact (hR.drop i).one
 ·rw [hmin, seqC_len hR.len, Nat.succ_mul]; omega
 ·intro a ha
  have h1 := (hR.take i).pure
  have h2 := (hR.drop i).pure
  rw [List.flatten_append, List.flatten_cons, List.mem_append, List.mem_append] at ha
  rcases ha with ha | ha | ha
  ·exact h1 a ha
  ·exact hR.pure a (List.mem_flatten.2 ⟨r, List.mem_of_getElem? hr, ha⟩)
  ·exact h2 a ha
theorem a_copyOne {K KP : AV → Heap → Nat → Prop} {c : Call} {x y : Operand} {t tx e : TypeId} {te : TI} {id off nn cp k i sz : Nat} {row : List AV} {own : Own} {rows rows' : List (List AV)} {L0 : Heap} (ho : o.op = .call c) (hk : opKind o = .mem) (hc : c.callee = .builtin .copy) (ha : c.args.toList = [x, y]) (hty : c.argTypes.toList = [t, tx])
  (hkt : kindT TT t = .slice e) (hte : TT e = some te) (hx : ev s x = .arr id off nn cp) (hy : ev s y = .list [row] own) (hta : ∀ k' : Res → Heap → Prop, k' (.seq rows k) L0 → takeO L id k') (hsz : te.size = sz) (hR : RowsOk sz rows) (hrow : row.length = sz) (hpr : ∀ a ∈ row, a.pure = true) (hi : i < rows.length)
  (hoff : off = i * sz) (hnn : 1 ≤ nn) (hrows : rows.set i row = rows') (h : ∀ q : Int, K (.v (.int .i64 q)) ((id, .seq rows' k) :: L0) n) : aop P TT o s L n K KP := by
 subst hoff; subst hsz; subst hrows
 have hmin : Nat.min 1 nn = 1 := Nat.min_eq_left hnn
 refine a_copyS ho hk hc ha hty hkt hte hx hta (m := 1) (cs := row) (fun K h => ?_) (by omega) ?_ (put_one hR.len hi hrow) ?_ (h _)
 ·rw [hy]
  refine ⟨fun q hq => ?_, Nat.min_le_left _ _, ?_⟩
  ·rw [List.mem_singleton.1 hq]; exact hrow
  ·show K 1 (List.take (Nat.min 1 nn * te.size) [row].flatten)
   rw [hmin, Nat.one_mul, List.flatten_cons, List.flatten_nil, List.append_nil, List.take_of_length_le (Nat.le_of_eq hrow)]
   exact h
 ·rw [hmin, seqC_len hR.len, Nat.one_mul, ← Nat.succ_mul]
  exact Nat.le_trans (Nat.mul_le_mul_right te.size hi) (Nat.le_add_right _ _)
 ·intro a ha
  obtain ⟨q, hq, hm⟩ := List.mem_flatten.1 ha
  rcases List.mem_or_eq_of_mem_set hq with h1 | rfl
  ·exact hR.pure a (List.mem_flatten.2 ⟨q, h1, hm⟩)
  ·exact hpr a hm
theorem a_copyEnd {K KP : AV → Heap → Nat → Prop} {c : Call} {x y : Operand} {t tx e : TypeId} {te : TI} {id off nn cp k k2 m sz : Nat} {rows rows2 rows' : List (List AV)} {L0 : Heap} (ho : o.op = .call c) (hk : opKind o = .mem) (hc : c.callee = .builtin .copy) (ha : c.args.toList = [x, y]) (hty : c.argTypes.toList = [t, tx])
  (hkt : kindT TT t = .slice e) (hte : TT e = some te) (hx : ev s x = .arr id off nn cp) (hy : ∀ K : Nat → List AV → Prop, K m rows2.flatten → asrc L te.size (fun m => Nat.min m nn) (ev s y) K) (hta : ∀ k' : Res → Heap → Prop, k' (.seq rows k) L0 → takeO L id k') (hsz : te.size = sz) (hR : RowsOk sz rows) (hR2 : RowsOk sz rows2)
  (hm : Nat.min m nn = rows2.length) (hoff : off = rows.length * sz) (hkk : rows2.length * sz ≤ k) (hne : rows.length + k ≠ 0) (hrows : rows ++ rows2 = rows') (hk2 : k - rows2.length * sz = k2) (h : ∀ q : Int, K (.v (.int .i64 q)) ((id, .seq rows' k2) :: L0) n) : aop P TT o s L n K KP := by
 subst hoff; subst hsz; subst hrows; subst hk2
 refine a_copyS ho hk hc ha hty hkt hte hx hta (m := m) (cs := rows2.flatten) hy hne ?_ (put_end hR.len hR2.len hkk) (pure_app hR.pure hR2.pure) (h _)
 rw [hm, seqC_len hR.len]; omega
theorem asrc_rows {L : Heap} {sz : Nat} {y : AV} {rows : List (List AV)} {own : Own} {nn : Nat} {K : Nat → List AV → Prop} (hy : y = .list rows own) (hr : ∀ row ∈ rows, row.length = sz) (hn : rows.length ≤ nn) (h : K rows.length rows.flatten) : asrc L sz (fun m => Nat.min m nn) y K := by
 subst hy
 refine ⟨hr, Nat.min_le_left _ _, ?_⟩
 show K _ (List.take (Nat.min rows.length nn * sz) _)
 rw [show Nat.min rows.length nn = rows.length from Nat.min_eq_left hn, ← flatten_length hr, List.take_length]; exact h
theorem asrc_drop {L : Heap} {sz : Nat} {y : AV} {id off i m cp k nn : Nat} {rows : List (List AV)} {K : Nat → List AV → Prop} (hy : y = .arr id off m cp) (hf : findL L id = some (.seq rows k)) (hR : RowsOk sz rows) (hi : i ≤ rows.length) (hoff : off = i * sz) (hm : m = rows.length - i) (hn : m ≤ nn) (h : K m (rows.drop i).flatten) : asrc L sz (fun m => Nat.min m nn) y K := by
 have hmin : Nat.min m nn = m := Nat.min_eq_left hn
 have hmul : i * sz + (rows.length - i) * sz = rows.length * sz := by rw [← Nat.add_mul]; congr 1; omega
 subst hoff
 refine asrc_seq hy hf (Nat.min_le_left _ _) ?_ ?_ (hR.drop i).one h
 ·show i * sz + Nat.min m nn * sz ≤ _
  rw [hmin, seqC_len hR.len, hm]; omega
 ·show List.take (Nat.min m nn * sz) _ = _
  have hfl := flatten_length (hR.drop i).len
  rw [List.length_drop] at hfl
  rw [hmin, hm, seq_from hR.len i k hi, List.take_append_of_le_length (by omega), List.take_of_length_le (by omega)]
end
section
variable {P : Program} {TT : Types} {s : List AV} {L : Heap} {n : Nat}
theorem c_l3 {D : Dr} {Kk : Kc} {x : Code} {α β γ : Type} (S : α → β → γ → ASt) (C : α → β → γ → Prop) (μ : α → β → γ → Nat) (a : α) (b : β) (c : γ) (ha : C a b c) (hc : Conv ⟨s, L, n⟩ (S a b c))
  (hround : ∀ a b c, C a b c → acode P TT D x (S a b c).slots (S a b c).L (S a b c).next (loopK D.low (fun p : α × β × γ => S p.1 p.2.1 p.2.2) (fun p => C p.1 p.2.1 p.2.2) (fun p => μ p.1 p.2.1 p.2.2) (a, b, c) Kk)) : acode P TT D (.loop x) s L n Kk :=
 c_loop' (fun p : α × β × γ => S p.1 p.2.1 p.2.2) (fun p => C p.1 p.2.1 p.2.2) (fun p => μ p.1 p.2.1 p.2.2) (a := (a, b, c)) ha hc fun p h => hround p.1 p.2.1 p.2.2 h
end
theorem q_loadAt {P : Program} {TT : Types} {o : Oper} {s : List AV} {L : Heap} {t : TypeId} {x : Operand} {ti : TI} {id off : Nat} {cells : List AV} {av : AV} (ho : o.op = .load t x) (ht : TT t = some ti) (hx : ev s x = .ptr id off) (hf : findL L id = some (.box cells)) (hk : isAggK ti.kind = false) (hc : cells[off]? = some av) : ∀ K : AV → Prop, K av → aq P TT L (ev s) (raw s) o fun x => fv x K := fun K h => by
 unfold aq; simp only [ho]; rw [ht, hx]
 simp only [opt1, aload, hf, hk, hc, Bool.false_eq_true, if_false, fv_eq]
 exact h
theorem aolds_take {L : Heap} {sz id off i cp k : Nat} {rows : List (List AV)} (hf : findL L id = some (.seq rows k)) (hR : RowsOk sz rows) (hi : i ≤ rows.length) (hoff : off = 0) : aolds L sz (.arr id off i cp) (rows.take i).flatten i cp := by
 subst hoff
 have hfl := flatten_length (hR.take i).len
 rw [List.length_take, Nat.min_eq_left hi] at hfl
 have hcut : ((seqC rows k).drop 0).take (i * sz) = (rows.take i).flatten := by
  rw [List.drop_zero, seq_split hR.len i, ← hfl, List.take_left]
 refine ⟨rfl, rfl, .inr (.inl ⟨rows, k, hf, ?_, ?_, hcut.symm⟩)⟩
 ·rw [seqC_len hR.len]
  have := Nat.mul_le_mul_right sz hi
  omega
 ·rw [hcut]; exact (hR.take i).one
def insAt {α : Type} (l : List α) (i : Nat) (x : α) : List α := l.take i ++ x :: l.drop i
theorem insAt_len {α : Type} {l : List α} {i : Nat} (x : α) (h : i ≤ l.length) : (insAt l i x).length = l.length + 1 := by simp [insAt]; omega
theorem insAt_end {α : Type} (l : List α) (x : α) : insAt l l.length x = l ++ [x] := by simp [insAt]
theorem insAt_map {α β : Type} (f : α → β) (l : List α) (i : Nat) (x : α) : insAt (l.map f) i (f x) = (insAt l i x).map f := by simp [insAt, List.map_take, List.map_drop]
theorem ins_set {rows : List (List AV)} {i : Nat} {r row : List AV} (hi : i < rows.length) : (rows.take i ++ r :: rows.drop i).set i row = insAt rows i row := by
 unfold insAt
 rw [List.set_append_right _ _ (by simp; omega), List.length_take, Nat.min_eq_left (by omega), Nat.sub_self, List.set_cons_zero]
end Go.Am
namespace Go.Am
open Go.RowKit
theorem seal_rel {B : Base} {G : Ghost} {a : Act} {w : World} {s : List AV} {L L0 : Heap} {n id off m cp sz : Nat} {cells : List AV} {rows : List (List AV)} (hrel : Rel B No G ⟨s, L, n⟩ a w) (hp : L.Perm ((id, .box cells) :: L0)) (hr : ∀ row ∈ rows, row.length = sz) (hm : rows.length = m)
  (hd : ∀ i a', rows.flatten[i]? = some a' → ∃ a, cells[off + i]? = some a ∧ a.seal = some a' ∧ a.one = true) : ∃ G', Rel B No G' ⟨s, L0, n⟩ a w ∧ (∀ x, Sim G (.arr id off m cp) x → Sim G' (.list rows .free) x) ∧ G'.loc = G.loc := by
 have h5 : Holds G w ((id, .box cells) :: L0) := hrel.holds.perm hp
 have hst : Step B.G B.w B.H G w ((id, .box cells) :: L0) := hrel.step.perm (.refl _) hp
 obtain ⟨h0, arr, E, fr, hh, hsz, hf, hcs⟩ := h5.res (id, .box cells) (by simp)
 have hbl : blocksOf G ((id, .box cells) :: L0) = G.loc id :: blocksOf G L0 := rfl
 have hnd := h5.blocks
 rw [hbl] at hnd
 obtain ⟨hnd1, hnd2⟩ := List.nodup_cons.1 hnd
 have hids := h5.ids
 simp only [List.map_cons] at hids
 obtain ⟨hi1, hi2⟩ := List.nodup_cons.1 hids
 generalize hG : G.sealed (G.loc id) arr cells.length = G'
 have e1 : ∀ b i, G'.X b i = if b = G.loc id then (if i < cells.length then arr[i]? else none) else G.X b i := fun b i => by rw [← hG]; rfl
 have e2 : G'.loc = G.loc := by rw [← hG]; rfl
 have e3 : G'.tk = G.tk := by rw [← hG]; rfl
 have e4 : G'.live = G.live := by rw [← hG]; rfl
 have e5 : G'.lits = G.lits := by rw [← hG]; rfl
 have e6 : G'.base = G.base := by rw [← hG]; rfl
 have hX : ∀ b i v, G.X b i = some v → G'.X b i = some v := fun b i v h => by
  rw [e1, if_neg]
  ·exact h
  ·rintro rfl
   rw [h0 i] at h; cases h
 have hsim : ∀ a x, Sim G a x → Sim G' a x := fun a x h => h.mono hX fun i hi => ⟨by rw [e4]; exact hi, by rw [e2], .inl (by rw [e3])⟩
 have hbl' : blocksOf G' L0 = blocksOf G L0 := filterMap_same fun r _ => placed_same (by rw [e2]) (by rw [e3])
 have hcell : ∀ (i : Nat) (a' : AV), rows.flatten[i]? = some a' → G'.X (G.loc id) (off + i) = some (arr.getD (off + i) undef) ∧ SimD G'.X a' (arr.getD (off + i) undef) ∧ (arr.getD (off + i) undef).oneCell' = true := fun i a' h => by
  obtain ⟨a, k1, k2, k3⟩ := hd i a' h
  have h2 := (List.getElem?_eq_some_iff.1 k1).1
  have h3 := hcs _ a k1
  refine ⟨?_, ((h3.seal k2).mono hX), h3.one k3⟩
  rw [e1, if_pos rfl, if_pos h2]
  have : off + i < arr.size := by omega
  simp [this]
 have hlist : ∀ x, Sim G (.arr id off m cp) x → SimD G'.X (.list rows .free) x := fun x hx => by
  obtain ⟨base, rfl, hlive, hnc, hcm, hbs⟩ := hx.arr_inv
  subst hm
  by_cases h00 : rows = []
  ·subst h00
   exact .nil .free base cp hcm (by simp) (.inl rfl)
  ·have hpos : 0 < rows.length := List.length_pos_iff.2 h00
   obtain rfl := hbs (by omega)
   refine .list rows .free (G.loc id) off cp sz (fun i j => arr.getD (off + (i * sz + j)) undef) hnc hcm (by simp) (.inl rfl) hr (fun i row q a h1 h2 => ?_) (fun i row q a h1 h2 => ?_) (fun i row q a h1 h2 => ?_)
   all_goals
    obtain ⟨c1, c2, c3⟩ := hcell _ _ (flat_get hr h1 h2)
   ·rw [Nat.add_assoc]; exact c1
   ·exact c2
   ·exact c3
 refine ⟨G', ⟨hrel.size, fun i hi => (hrel.slots i hi).mono (by rw [e5]; exact fun _ h => h) hsim, hrel.defers, ⟨fun b i v hxv => ?_, fun r hr' => ?_, hi2, fun r hr' => ?_, by rw [hbl']; exact hnd2, fun b hb => ?_⟩, ⟨hst.os, hst.tape, hst.output, hst.size, by rw [e6]; exact hst.base, fun b i v h => hX _ _ _ (hst.X b i v h), hst.frame, fun b i v hxv => ?_, fun b hb => ?_, fun i hi => ?_, fun i hi => ?_, by rw [e5]; exact hst.lits, by rw [e5]; exact hst.newL⟩, by rw [e4]; exact hrel.next, by rw [e6]; exact hrel.base, hrel.low, by rw [e4]; exact hrel.old⟩, fun x hx => .data _ _ (hlist x hx), e2⟩
 ·rw [e1] at hxv
  split at hxv
  ·rename_i hb
   subst hb
   split at hxv
   ·simp only [World.cell?, hh]
    simpa using hxv
   ·cases hxv
  ·exact h5.X _ _ _ hxv
 ·refine (h5.res r (List.mem_cons_of_mem _ hr')).keep (by rw [e2]) (by rw [e3]) hsim fun b hb => ⟨rfl, fun i v hxv => ?_⟩
  rw [e1, if_neg] at hxv
  ·exact hxv
  ·rintro rfl
   exact hnd1 (List.mem_filterMap.2 ⟨r, hr', hb⟩)
 ·rw [e4]; exact h5.live r (List.mem_cons_of_mem _ hr')
 ·rw [e5] at hb
  obtain ⟨q1, q2, q3⟩ := h5.lits b hb
  refine ⟨by rw [e6]; exact q1, q2, ?_⟩
  rw [hbl']
  rw [hbl] at q3
  exact fun hm' => q3 (List.mem_cons_of_mem _ hm')
 ·rw [e1] at hxv
  split at hxv
  ·rename_i hb
   subst hb
   rcases hst.newB (G.loc id) (by rw [hbl]; simp) with h | h
   ·exact .inr (.inr h)
   ·exact .inr (.inl h)
  ·exact hst.newX _ _ _ hxv
 ·rw [hbl'] at hb
  exact hst.newB b (by rw [hbl]; exact List.mem_cons_of_mem _ hb)
 ·rw [e4, e2, e3]; 
  obtain ⟨k1, k2, k3⟩ := hst.live i hi
  exact ⟨k1, k2, k3⟩
 ·exact hst.newI i (by simp only [List.map_cons]; exact List.mem_cons_of_mem _ hi)
theorem Conv.freezeBox {s : List AV} {L L0 : Heap} {n j id bid m cp k sz : Nat} {rows : List (List AV)} {cells : List AV} (hp : L.Perm ((id, .seq rows k) :: (bid, .box cells) :: L0)) (hj : cells[j]? = some (.arr id 0 m cp)) (hR : RowsOk sz rows) (hm : rows.length = m) :
  Conv ⟨s, L, n⟩ ⟨s, (bid, .box (setA cells j (.list rows .free))) :: L0, n⟩ := fun B G a w hr => by
 by_cases hne : rows.length + k = 0
 ·have e1 : rows = [] := List.eq_nil_of_length_eq_zero (by omega)
  subst e1
  simp only [List.length_nil] at hm
  subst hm
  obtain ⟨G1, h1⟩ := (Conv.to (τ := ⟨s, (bid, .box cells) :: L0, n⟩) [(id, .seq [] k)] (.refl s) (hp.trans (List.perm_append_comm (l₁ := [(id, Res.seq [] k)]))) (Nat.le_refl _)) B G a w hr
  obtain ⟨g0, arr, E, fr, g1, g2, g3, g4⟩ := h1.holds.res (bid, .box cells) (by simp)
  obtain ⟨r1, r2⟩ := box_more (j := j) h1.holds (a := .list [] .free) fun arr' E' fr' h => by
   rw [g1] at h
   simp only [Option.some.injEq, Obj.cells.injEq] at h
   obtain ⟨rfl, rfl, rfl⟩ := h
   obtain ⟨base, hv, _, _, hc, _⟩ := (g4 j _ hj).arr_inv
   rw [hv]
   exact .data _ _ (.nil _ _ _ hc (by simp) (.inl rfl))
  exact ⟨G1, h1.size, h1.slots, h1.defers, r1, r2 _ _ _ h1.step, h1.next, h1.base, h1.low, h1.old⟩
 ·obtain ⟨G0, h0⟩ := Conv.unseq hne hp B G a w hr
  obtain ⟨g0, arr, E, fr, g1, g2, g3, g4⟩ := h0.holds.res (bid, .box cells) (by simp)
  obtain ⟨G1, h1, h2, h3⟩ := seal_rel (off := 0) (cp := cp) h0 (.refl _) hR.len hm fun i a ha => ⟨a, by
   rw [Nat.zero_add]; unfold seqC
   rw [List.getElem?_append_left (List.getElem?_eq_some_iff.1 ha).1]; exact ha, AV.seal_pure (hR.pure a (List.mem_of_getElem? ha)), List.all_eq_true.1 hR.one a (List.mem_of_getElem? ha)⟩
  obtain ⟨r1, r2⟩ := box_more (j := j) h1.holds (a := .list rows .free) fun arr' E' fr' h => by
   rw [h3, g1] at h
   simp only [Option.some.injEq, Obj.cells.injEq] at h
   obtain ⟨rfl, rfl, rfl⟩ := h
   exact h2 _ (g4 j _ hj)
  exact ⟨G1, h1.size, h1.slots, h1.defers, r1, r2 _ _ _ h1.step, h1.next, h1.base, h1.low, h1.old⟩
/-! BORROW -/
def Ghost.mem (G : Ghost) (w : World) : Ghost := ⟨fun b i => w.cell? ⟨b, i, none⟩, G.loc, G.tk, fun _ => False, fun _ => False, w.heap.size⟩
def Reads (H : Heap) (a a' : AV) : Prop := ∀ G w x, Holds G w H → Sim G a x → Sim (G.mem w) a' x
theorem Reads.data {H : Heap} {a : AV} (hp : a.pure = true) : Reads H a a := fun G w x hh hs => by
 cases hs with
 | data _ _ h => exact .data _ _ (h.mono fun b i v hx => hh.X b i v hx)
 | tok => simp [AV.pure] at hp
 | _ => simp [AV.pure] at hp
theorem Sim.dataP {G : Ghost} {a : AV} {x : Value} (h : Sim G a x) (hp : a.pure = true) : SimD G.X a x := by
 cases h with
 | data _ _ h => exact h
 | _ => simp [AV.pure] at hp
theorem Reads.fn {H : Heap} {f : FuncId} : Reads H (.fn f []) (.fn f []) := fun G w x hh hs => by
 cases hs with
 | data _ _ h => cases h
 | fn _ _ vs hl h => exact .fn f [] vs hl fun i a ha => by simp at ha
theorem Reads.agg {H : Heap} {l l' : List AV} (hl : l.length = l'.length) (h : ∀ (i : Nat) (a' : AV), l'[i]? = some a' → ∃ a, l[i]? = some a ∧ Reads H a a') : Reads H (.agg l) (.agg l') := fun G w x hh hs => by
 cases hs with
 | data _ _ h => cases h
 | agg _ vs h1 h2 =>
  refine .agg l' vs (by omega) fun i a' ha => ?_
  obtain ⟨a, h3, h4⟩ := h i a' ha
  exact h4 G w _ hh (h2 i a h3)
theorem Reads.box {H : Heap} {id off m cp sz : Nat} {cells : List AV} {rows : List (List AV)} (hb : ∀ G w, Holds G w H → rows ≠ [] → BoxHolds G w id cells) (hr : ∀ row ∈ rows, row.length = sz) (hm : rows.length = m)
  (hd : ∀ i a', rows.flatten[i]? = some a' → ∃ a, cells[off + i]? = some a ∧ Reads H a a' ∧ a'.pure = true ∧ a.one = true) : Reads H (.arr id off m cp) (.list rows .free) := fun G w x hh hs => by
 obtain ⟨base, rfl, hlive, hnc, hcm, hbs⟩ := hs.arr_inv
 by_cases h00 : rows = []
 ·subst h00
  simp only [List.length_nil] at hm
  subst hm
  exact .data _ _ (.nil .free base cp hcm (by simp) (.inl rfl))
 ·obtain ⟨g0, arr, E, fr, g1, g2, g3, g4⟩ := hb G w hh h00
  have hpos : 0 < rows.length := List.length_pos_iff.2 h00
  subst hm
  obtain rfl := hbs (by omega)
  have hcell : ∀ (i : Nat) (a' : AV), rows.flatten[i]? = some a' → (G.mem w).X (G.loc id) (off + i) = some (arr.getD (off + i) undef) ∧ SimD (G.mem w).X a' (arr.getD (off + i) undef) ∧ (arr.getD (off + i) undef).oneCell' = true := fun i a' h => by
   obtain ⟨a, k1, k2, k3, k4⟩ := hd i a' h
   have h2 := (List.getElem?_eq_some_iff.1 k1).1
   have h3 := g4 _ a k1
   have h5 := k2 G w _ hh h3
   refine ⟨?_, ?_, h3.one k4⟩
   ·show w.cell? ⟨G.loc id, off + i, none⟩ = _
    have : off + i < arr.size := by omega
    simp [World.cell?, g1, this]
   ·exact h5.dataP k3
  refine .data _ _ (.list rows .free (G.loc id) off cp sz (fun i j => arr.getD (off + (i * sz + j)) undef) hnc hcm (by simp) (.inl rfl) hr (fun i row q a h1 h2 => ?_) (fun i row q a h1 h2 => ?_) (fun i row q a h1 h2 => ?_))
  all_goals
   obtain ⟨c1, c2, c3⟩ := hcell _ _ (flat_get hr h1 h2)
  ·rw [Nat.add_assoc]; exact c1
  ·exact c2
  ·exact c3
theorem Reads.boxes {H : Heap} {id off m cp sz : Nat} {cells : List AV} {rows : List (List AV)} (hm0 : (id, Res.box cells) ∈ H) (hr : ∀ row ∈ rows, row.length = sz) (hm : rows.length = m)
  (hd : ∀ i a', rows.flatten[i]? = some a' → ∃ a, cells[off + i]? = some a ∧ Reads H a a' ∧ a'.pure = true ∧ a.one = true) : Reads H (.arr id off m cp) (.list rows .free) :=
 .box (fun G w hh _ => hh.res _ hm0) hr hm hd
theorem Reads.seq {H : Heap} {id m cp k sz : Nat} {rows : List (List AV)} (hm0 : (id, Res.seq rows k) ∈ H) (hR : RowsOk sz rows) (hm : rows.length = m) : Reads H (.arr id 0 m cp) (.list rows .free) :=
 .box (cells := seqC rows k) (fun G w hh hne => (hh.res _ hm0 (by have := List.length_pos_iff.2 hne; omega)).1) hR.len hm fun i a ha => ⟨a, by
  rw [Nat.zero_add]; unfold seqC
  rw [List.getElem?_append_left (List.getElem?_eq_some_iff.1 ha).1]; exact ha, .data (hR.pure a (List.mem_of_getElem? ha)), hR.pure a (List.mem_of_getElem? ha), List.all_eq_true.1 hR.one a (List.mem_of_getElem? ha)⟩
def AV.isV : AV → Bool
 | .v _ => true
 | _ => false
def AV.valB : AV → Bool
 | .v _ => true
 | .tuple l => l.all AV.isV
 | _ => false
def AOut.valB : AOut → Bool
 | .ret a => a.valB
 | .panic a => a.valB
theorem Sim.valV {G G' : Ghost} {a : AV} {x : Value} (h : Sim G a x) (hv : a.isV = true) : Sim G' a x := by
 cases h with
 | data _ _ h => cases h <;> first | exact .data _ _ (.v _) | (simp [AV.isV] at hv)
 | _ => simp [AV.isV] at hv
theorem Sim.val {G G' : Ghost} {a : AV} {x : Value} (h : Sim G a x) (hv : a.valB = true) : Sim G' a x := by
 cases h with
 | data _ _ h => cases h <;> first | exact .data _ _ (.v _) | (simp [AV.valB] at hv)
 | tuple l vs hl h =>
  exact .tuple l vs hl fun i a ha => (h i a ha).valV (List.all_eq_true.1 hv a (List.mem_of_getElem? ha))
 | _ => simp [AV.valB] at hv
theorem OSim.val {G G' : Ghost} {out : AOut} {e : Ending} (h : OSim G out e) (hv : out.valB = true) : OSim G' out e := by
 cases out with
 | ret a =>
  cases e with
  | returned v => exact Sim.val (G := G) h hv
  | _ => exact h.elim
 | panic a =>
  cases e with
  | panicked c => obtain ⟨v, h1, h2⟩ := h; exact ⟨v, h1, h2.val hv⟩
  | _ => exact h.elim
theorem ACalls.borrow {P : Program} {f : FuncId} {k top top0 : Nat} {args args' : List AV} {H : Heap} {R : AOut → Heap → Prop} (h : ACalls P f 0 top0 args' [] R) (hl : args.length = args'.length) (hR : ∀ out H', R out H' → out.valB = true)
  (hr : ∀ (i : Nat) (a' : AV), args'[i]? = some a' → ∃ a, args[i]? = some a ∧ Reads H a a') : ACalls P f k top args H (fun out H2 => (∃ H', R out H') ∧ H2 = H) := by
 intro G w vals h1 h2 h3 h4 h5 h6
 have key : ∀ (G' : Ghost) (w' : World) (out : AOut) (H' : Heap) (e : Ending), R out H' → OSim G' out e → Step (G.mem w) w [] G' w' H' →
   ∃ G2 out2 H2, ((∃ H', R out2 H') ∧ H2 = H) ∧ OSim G2 out2 e ∧ Holds G2 w' H2 ∧ Step G w H G2 w' H2 ∧ ∀ id, G2.live id → G.live id ∨ (k ≤ id ∧ id < top) := fun G' w' out H' e r1 r2 st => by
  have hfr : ∀ b, b < w.heap.size → w'.heap[b]? = w.heap[b]? := fun b hb => (st.frame b hb (by simp [blocksOf])).2 fun h => h
  refine ⟨G, out, H, ⟨⟨H', r1⟩, rfl⟩, r2.val (hR _ _ r1), ⟨fun b i v hx => ?_, fun r hm => ?_, h4.ids, h4.live, h4.blocks, fun b hb => absurd hb (h2 b)⟩, ⟨st.os, st.tape, st.output, st.size, rfl, fun _ _ _ h => h, fun b hb hn => ⟨.inl (hfr b hb), fun _ => hfr b hb⟩, fun _ _ _ h => .inl h, fun _ h => .inl h, fun _ h => ⟨h, rfl, .inl rfl⟩, fun _ h => .inl h, fun _ h => h, fun _ h => .inl h⟩, fun id h => .inl h⟩
  ·have hc := h4.X b i v hx
   have hb : b < w.heap.size := by
    rcases Nat.lt_or_ge b w.heap.size with h | h
    ·exact h
    ·have : w.heap[b]? = none := Array.getElem?_eq_none h
     simp [World.cell?, this] at hc
   exact (Alike.cell (w := w) (w' := w') (.inl (hfr b hb)) hc)
  ·exact (h4.res r hm).keep rfl rfl (fun _ _ h => h) fun b hb => ⟨hfr b ((h4.res r hm).lt hb), fun _ _ h => h⟩
 have h0 := h (G.mem w) w vals (fun _ h => h.elim) (fun _ h => h) rfl ⟨fun b i v hx => hx, fun r hm => (by cases hm), List.nodup_nil, fun r hm => (by cases hm), List.nodup_nil, fun b hb => False.elim hb⟩ (by omega) fun i a' ha => by
  obtain ⟨a, q1, q2⟩ := hr i a' ha
  exact q2 G w _ h4 (h6 i a q1)
 rcases h0 with ⟨k1, k2⟩ | ⟨v, w', k1, G', out, H', r1, r2, r3, st, r5⟩
 ·exact .inl ⟨k1, k2.mono fun e w' ⟨G', out, H', r1, r2, r3, st, r5⟩ => key G' w' out H' e r1 r2 st⟩
 ·exact .inr ⟨v, w', k1, key G' w' out H' _ r1 r2 st⟩
theorem ACalls.top0 {P : Program} {f : FuncId} {top : Nat} {args : List AV} {x : Value} (h : ACalls P f 0 top args [] (fun out H' => out = .ret (.v x) ∧ H' = [])) : ACalls P f 0 0 args [] (fun out H' => out = .ret (.v x) ∧ H' = []) :=
 h.ren (Nat.zero_le _) fun out H' hh => by
  obtain ⟨rfl, rfl⟩ := hh
  exact ⟨[], .ret (.v x), [], List.nodup_nil, (fun i h => by cases h), (fun i h => absurd h (Nat.not_lt_zero i)), Nat.le_refl _, (by simp [AOut.ren, AV.ren]), rfl, rfl, rfl⟩
theorem Conv.freezeA {id m cp k sz n : Nat} {rows : List (List AV)} (hR : RowsOk sz rows) (hm : rows.length = m) : Conv ⟨[.agg [.arr id 0 m cp]], [(id, .seq rows k)], n⟩ ⟨[.agg [.list rows .free]], [], n⟩ := fun B G a w hr => by
 have key : ∀ G1, Rel B No G1 ⟨[.agg [.arr id 0 m cp]], [], n⟩ a w → (∀ x, Sim G (.arr id 0 m cp) x → Sim G1 (.list rows .free) x) → ∃ G', Rel B No G' ⟨[.agg [.list rows .free]], [], n⟩ a w := fun G1 h1 h2 => by
  refine ⟨G1, ⟨h1.size, fun t ht => ?_, h1.defers, h1.holds, h1.step, h1.next, h1.base, h1.low, h1.old⟩⟩
  cases t with
  | zero =>
   have h3 : Sim G (.agg [.arr id 0 m cp]) (a.tmps.getD 0 undef) := (hr.slots 0 ht).down
   obtain ⟨vs, h4, h5, h6⟩ := h3.agg_inv
   show Slot G1 (.agg [.list rows .free]) (a.tmps.getD 0 undef)
   rw [h4]
   refine .of (.agg _ vs h5 fun i b hb => ?_)
   cases i with
   | zero =>
    simp only [List.getElem?_cons_zero, Option.some.injEq] at hb
    subst hb
    exact h2 _ (h6 0 _ rfl)
   | succ i => simp at hb
  | succ t => exact h1.slots (t + 1) ht
 by_cases hne : rows.length + k = 0
 ·have e1 : rows = [] := List.eq_nil_of_length_eq_zero (by omega)
  subst e1
  simp only [List.length_nil] at hm
  subst hm
  obtain ⟨G1, h1⟩ := (Conv.to (τ := ⟨[.agg [.arr id 0 0 cp]], [], n⟩) [(id, .seq [] k)] (.refl _) (.of_eq rfl) (Nat.le_refl _)) B G a w hr
  exact key G1 h1 fun x hx => by
   obtain ⟨base, rfl, _, _, hc, _⟩ := hx.arr_inv
   exact .data _ _ (.nil _ _ _ hc (by simp) (.inl rfl))
 ·have hh := hr.holds
  have hu := hh.unseq hne
  have h0 : Rel B No G ⟨[.agg [.arr id 0 m cp]], [(id, .box (seqC rows k))], n⟩ a w := ⟨hr.size, hr.slots, hr.defers, hu.1, hr.step.unseq hne, hr.next, hr.base, hr.low, hr.old⟩
  obtain ⟨G1, h1, h2, h3⟩ := seal_rel (off := 0) (cp := cp) h0 (.refl _) hR.len hm fun i a ha => ⟨a, by
   rw [Nat.zero_add]; unfold seqC
   rw [List.getElem?_append_left (List.getElem?_eq_some_iff.1 ha).1]; exact ha, AV.seal_pure (hR.pure a (List.mem_of_getElem? ha)), List.all_eq_true.1 hR.one a (List.mem_of_getElem? ha)⟩
  exact key G1 h1 h2
/-! a field of a struct that is a value -/
end Go.Am
namespace Go.Proofs.YtncffhgoopdfgaaGreat
open Go.Am
set_option maxRecDepth 100000
theorem isNaN_s (s : ByteArray) : ACalls Tryz.prog 216 0 0 [.v (.string s)] [] (fun out H' => out = .ret (.v (.bool false)) ∧ H' = []) := by
 refine no_implicit_lambda% (acalls_of tok dok (f := 216) ⟨Tryz.func216, rfl, by kernel_rfl⟩ ?_); refine no_implicit_lambda% (c_start (fun _ h => h) ?_)
 repeat' (first | (refine no_implicit_lambda% (zH ?_)) | (refine no_implicit_lambda% (spl (fun hc => ?_) (fun hc => ?_)) <;> first | exact zG hc | skip) | (refine no_implicit_lambda% (ans ?_)) | (with_reducible first | exact zI | exact zJ))
 refine no_implicit_lambda% (e_ret (H' := []) (rest := _) rfl ⟨congrArg (fun z => AOut.ret (.v (.bool z))) ?_, rfl⟩ (.refl _) (LE0 rfl))
 simp
def sLt (a b : ByteArray) : Bool := Op.bytesLess a.toList b.toList
def cmpS (a b : ByteArray) : Int := Lib.compareBytes a.toList b.toList
theorem sLt_eq (a b : ByteArray) : sLt a b = decide (cmpS a b = -1) := less_cb _ _
theorem compare_s (a b : ByteArray) : ACalls Tryz.prog 206 0 0 [.v (.string a), .v (.string b)] [] (fun out H' => out = .ret (.v (.int .i64 (cmpS a b))) ∧ H' = []) := by
 refine no_implicit_lambda% (acalls_of tok dok (f := 206) ⟨Tryz.func206, rfl, by kernel_rfl⟩ ?_); refine no_implicit_lambda% (c_start (fun _ h => h) ?_)
 repeat' (first | (refine no_implicit_lambda% (zH ?_)) | (refine no_implicit_lambda% (spl (fun hc => ?_) (fun hc => ?_)) <;> first | exact zG hc | skip) | (refine no_implicit_lambda% (ans ?_)) | (with_reducible first | exact zI | exact zJ) | (refine no_implicit_lambda% (cal [] (isNaN_s _) ?_ ?_)) | fail)
 all_goals
  refine e_ret (H' := []) (rest := _) rfl ⟨congrArg (fun z => AOut.ret (.v (.int .i64 z))) ?_, rfl⟩ (.refl _) (LE0 rfl)
  simp only [less_cb, eq_cb] at *
  rcases cb_three a.toList b.toList with h | h | h
  all_goals first | (unfold cmpS; exact h.symm) | (exfalso; simp [h] at *; done)
structure Ve where
 t : Int
 v : Va
structure Co where
 n : ByteArray
 l : List Ve
def verow (x : Ve) : List AV := .v (.int .i64 x.t) :: vrowV x.v
def corow (c : Co) : List AV := [.v (.string c.n), .list (c.l.map verow) .free]
def rowA (r : List Co) : AV := .agg [.list (r.map corow) .free]
def nmB (s : ByteArray) : Bool := decide ((1 : Int) ≤ s.size ∧ (s.size : Int) ≤ 16)
theorem name_c (s : ByteArray) : ACalls Tryz.prog 116 0 0 [.v (.string s)] [] (fun out H' => out = .ret (.v (.bool (nmB s))) ∧ H' = []) := by
 refine no_implicit_lambda% (acalls_of tok dok (f := 116) ⟨Tryz.func116, rfl, by kernel_rfl⟩ ?_); refine no_implicit_lambda% (c_start (fun _ h => h) ?_)
 repeat' (first | (refine no_implicit_lambda% (zH ?_)) | (refine no_implicit_lambda% (spl (fun hc => ?_) (fun hc => ?_)) <;> first | exact zG hc | skip) | (refine no_implicit_lambda% (ans ?_)) | (with_reducible first | exact zI | exact zJ))
 all_goals (refine no_implicit_lambda% (e_ret (H' := []) (rest := _) rfl ⟨congrArg (fun z => AOut.ret (.v (.bool z))) ?_, rfl⟩ (.refl _) (LE0 rfl)); unfold nmB; (refine no_implicit_lambda% (Bool.eq_iff_iff.2 ?_); simp only [decide_eq_true_eq, decide_eq_false_iff_not, Bool.false_eq_true, Bool.and_eq_true, Bool.or_eq_true, Bool.not_eq_true', beq_iff_eq, List.length_map, true_iff, false_iff, iff_false, iff_true] at *; omega))
theorem rname_c (s : ByteArray) : ACalls Tryz.prog 106 0 0 [.v (.string s)] [] (fun out H' => out = .ret (.v (.bool (nmB s))) ∧ H' = []) := by
 refine no_implicit_lambda% (acalls_of tok dok (f := 106) ⟨Tryz.func106, rfl, by kernel_rfl⟩ ?_); refine no_implicit_lambda% (c_start (fun _ h => h) ?_)
 repeat' (first | (refine no_implicit_lambda% (zH ?_)) | (refine no_implicit_lambda% (spl (fun hc => ?_) (fun hc => ?_)) <;> first | exact zG hc | skip) | (refine no_implicit_lambda% (ans ?_)) | (with_reducible first | exact zI | exact zJ))
 all_goals (refine no_implicit_lambda% (e_ret (H' := []) (rest := _) rfl ⟨congrArg (fun z => AOut.ret (.v (.bool z))) ?_, rfl⟩ (.refl _) (LE0 rfl)); unfold nmB; (refine no_implicit_lambda% (Bool.eq_iff_iff.2 ?_); simp only [decide_eq_true_eq, decide_eq_false_iff_not, Bool.false_eq_true, Bool.and_eq_true, Bool.or_eq_true, Bool.not_eq_true', beq_iff_eq, List.length_map, true_iff, false_iff, iff_false, iff_true] at *; omega))
def vRt (v : Va) : Bool := v.kind == 1 && decide ((v.b.length : Int) ≤ 16) || v.kind == 2
def tmOk (t : Int) : Bool := decide (0 ≤ t ∧ t ≤ 1099511627776)
def ltT : Option Int → Int → Bool
 | none, _ => true
 | some q, t => decide (t < q)
def ltN : Option ByteArray → ByteArray → Bool
 | none, _ => true
 | some q, n => sLt q n
def versB : Option Int → List Ve → Bool
 | _, [] => true
 | p, x :: l => tmOk x.t && vRt x.v && ltT p x.t && versB (some x.t) l
def prevT (l : List Ve) (i : Nat) : Option Int := if i = 0 then none else l[i - 1]?.map (·.t)
def colB (c : Co) : Bool := nmB c.n && decide (1 ≤ c.l.length ∧ c.l.length ≤ 2) && versB none c.l
theorem vex {l : List Ve} {i : Nat} {t : Ve} (h : l[i]? = some t) : 0 ≤ (i : Int) ∧ (l.map verow)[(i : Int).toNat]? = some (verow t) ∧ (verow t).length = 4 := ⟨Int.natCast_nonneg _, by rw [Int.toNat_natCast, List.getElem?_map, h]; rfl, rfl⟩
theorem vexp {l : List Ve} {i : Nat} {t : Ve} (hi : 0 < i) (hb : i < 1000000) (h : l[i - 1]? = some t) : 0 ≤ IntKind.i64.wrap ((i : Int) - 1) ∧ (l.map verow)[(IntKind.i64.wrap ((i : Int) - 1)).toNat]? = some (verow t) ∧ (verow t).length = 4 := by
 have e : IntKind.i64.wrap ((i : Int) - 1) = ((i - 1 : Nat) : Int) := by rw [z64 (by omega) (by omega)]; omega
 rw [e]
 exact vex h
theorem vers_at {p : Option Int} {l : List Ve} {i : Nat} {x : Ve} (h : l[i]? = some x) : versB p (l.drop i) = (tmOk x.t && vRt x.v && ltT p x.t && versB (some x.t) (l.drop (i + 1))) := by
 have : l.drop i = x :: l.drop (i + 1) := by
  obtain ⟨hi, rfl⟩ := List.getElem?_eq_some_iff.1 h
  exact List.drop_eq_getElem_cons hi
 rw [this]; rfl
theorem prevT_succ {l : List Ve} {i : Nat} {x : Ve} (h : l[i]? = some x) : prevT l (i + 1) = some x.t := by
 unfold prevT
 rw [if_neg (by omega), Nat.add_sub_cancel, h]; rfl
def clSt (c : Co) (i : Nat) : ASt := ⟨([.dead, .ptr 0 0] ++ List.replicate 20 .dead ++ [.list (c.l.map verow) .free, .v (.int .i64 c.l.length), .v (.int .i64 i)] ++ List.replicate 35 .dead), [(0, .box (corow c))], 1⟩
set_option maxHeartbeats 3200000 in
theorem column_c (c : Co) : ACalls Tryz.prog 192 0 400 [.agg (corow c)] [] (fun out H' => out = .ret (.v (.bool (colB c))) ∧ H' = []) := by
 refine no_implicit_lambda% (acalls_of tok dok (f := 192) ⟨Tryz.func192, rfl, by kernel_rfl⟩ ?_); refine no_implicit_lambda% (c_start (fun _ h => h) ?_)
 repeat' (first | (refine no_implicit_lambda% (zH ?_)) | (refine no_implicit_lambda% (spl (fun hc => ?_) (fun hc => ?_)) <;> first | exact zG hc | skip) | (refine no_implicit_lambda% (ans ?_)) | (with_reducible first | exact zI | exact zJ) | (refine no_implicit_lambda% (cal [] (name_c _) ?_ ?_)) | fail)
 ·refine no_implicit_lambda% (e_ret (H' := []) (rest := _) rfl ⟨congrArg (fun z => AOut.ret (.v (.bool z))) ?_, rfl⟩ (.refl _) (LE0 rfl))
  unfold colB
  simp at hc
  simp [hc]
 ·refine no_implicit_lambda% (e_ret (H' := []) (rest := _) rfl ⟨congrArg (fun z => AOut.ret (.v (.bool z))) ?_, rfl⟩ (.refl _) (LE0 rfl))
  unfold colB
  have : ¬ (1 ≤ c.l.length ∧ c.l.length ≤ 2) := by
   simp only [decide_eq_true_eq, List.length_map] at hc
   omega
  rw [decide_eq_false this]; simp
 ·refine no_implicit_lambda% (e_ret (H' := []) (rest := _) rfl ⟨congrArg (fun z => AOut.ret (.v (.bool z))) ?_, rfl⟩ (.refl _) (LE0 rfl))
  unfold colB
  have : ¬ (1 ≤ c.l.length ∧ c.l.length ≤ 2) := by
   simp only [decide_eq_true_eq, List.length_map] at hc
   omega
  rw [decide_eq_false this]; simp
 ·have hlen : 1 ≤ c.l.length ∧ c.l.length ≤ 2 := by
   simp only [decide_eq_false_iff_not, List.length_map] at *
   omega
  have hn : nmB c.n = true := by
   simp only [Bool.not_eq_false'] at *
   assumption
  have hcol : colB c = versB none c.l := by unfold colB; rw [hn, decide_eq_true hlen]; simp
  refine c_loop' (clSt c) (fun i => i ≤ c.l.length ∧ versB none c.l = versB (prevT c.l i) (c.l.drop i)) (fun i => c.l.length - i) (a := 0) ⟨Nat.zero_le _, rfl⟩ ?_ ?_
  ·(refine no_implicit_lambda% (Conv.toT ?_ ?_ (LE0 rfl))); (focus ((unfold clSt); (try dsimp only); exact wkl)); (focus ((unfold clSt); (try dsimp only); exact wkh))
  ·rintro i ⟨h1, hI⟩
   refine c_turn (n' := 1) (fun _ h => h) (fun _ h => h) rfl ?_
   rcases hx : c.l[i]? with _ | x
   ·have hi : i = c.l.length := by have := List.getElem?_eq_none_iff.1 hx; omega
    repeat' (first | (refine no_implicit_lambda% (zH ?_)) | (refine no_implicit_lambda% (spl (fun hc => ?_) (fun hc => ?_)) <;> first | exact zG hc | skip) | (refine no_implicit_lambda% (ans ?_)) | (with_reducible first | exact zI | exact zJ))
    refine no_implicit_lambda% (e_ret (H' := []) (rest := _) rfl ⟨congrArg (fun z => AOut.ret (.v (.bool z))) ?_, rfl⟩ (.refl _) (LE0 rfl))
    rw [hcol, hI, hi, List.drop_length]; rfl
   ·have hi : i < c.l.length := (List.getElem?_eq_some_iff.1 hx).1
    have hix := vex hx
    have hps := prevT_succ hx
    rw [vers_at hx] at hI
    have hvr : ACalls Tryz.prog 145 0 10 [vav x.v] [] (fun out H' => out = .ret (.v (.bool (vRt x.v))) ∧ H' = []) := vright_c x.v
    have hpx : decide ((i : Int) > 0) = true → 0 ≤ IntKind.i64.wrap ((i : Int) - 1) ∧ (c.l.map verow)[(IntKind.i64.wrap ((i : Int) - 1)).toNat]? = some (verow (c.l[i - 1]?.getD x)) ∧ (verow (c.l[i - 1]?.getD x)).length = 4 := fun h => by
     have h0 := of_decide_eq_true h
     rw [List.getElem?_eq_getElem (by omega : i - 1 < c.l.length)]
     exact vexp (by omega) (by omega) (List.getElem?_eq_getElem (by omega))
    repeat' (first | (refine no_implicit_lambda% (zH ?_)) | (refine no_implicit_lambda% (splv (fun hc => ?_) (fun hc => ?_)) <;> first | exact zG hc | skip) | (refine no_implicit_lambda% (ans ?_)) | (with_reducible first | exact zI | exact zJ) | (refine no_implicit_lambda% (cal [] (hvr) ?_ ?_)) | fail)
    ·refine no_implicit_lambda% (e_ret (H' := []) (rest := _) rfl ⟨congrArg (fun z => AOut.ret (.v (.bool z))) ?_, rfl⟩ (.refl _) (LE0 rfl))
     have : tmOk x.t = false := decide_eq_false (by have := of_decide_eq_true hc; omega)
     rw [hcol, hI, this]; simp
    ·refine no_implicit_lambda% (e_ret (H' := []) (rest := _) rfl ⟨congrArg (fun z => AOut.ret (.v (.bool z))) ?_, rfl⟩ (.refl _) (LE0 rfl))
     have : tmOk x.t = false := decide_eq_false (by have := of_decide_eq_true hc; omega)
     rw [hcol, hI, this]; simp
    ·refine no_implicit_lambda% (e_ret (H' := []) (rest := _) rfl ⟨congrArg (fun z => AOut.ret (.v (.bool z))) ?_, rfl⟩ (.refl _) (LE0 rfl))
     have : vRt x.v = false := by simpa using hc
     rw [hcol, hI, this]; simp
    ·refine no_implicit_lambda% (e_ret (H' := []) (rest := _) rfl ⟨congrArg (fun z => AOut.ret (.v (.bool z))) ?_, rfl⟩ (.refl _) (LE0 rfl))
     have h0 : 0 < i := by
      simp only [decide_eq_true_eq] at *
      omega
     have hy : c.l[i - 1]? = some (c.l[i - 1]?.getD x) := by rw [List.getElem?_eq_getElem (by omega : i - 1 < c.l.length)]; rfl
     have hpy : prevT c.l i = some (c.l[i - 1]?.getD x).t := by unfold prevT; rw [if_neg (by omega), hy]; rfl
     have : decide (x.t < (c.l[i - 1]?.getD x).t) = false := decide_eq_false (by have := of_decide_eq_true hc; omega)
     rw [hcol, hI, hpy]
     simp [this, ltT, ltN]
    ·have htm : tmOk x.t = true := decide_eq_true (by simp only [decide_eq_false_iff_not] at *; omega)
     have hvt : vRt x.v = true := by simp only [Bool.not_eq_false'] at *; assumption
     have h0 : 0 < i := by
      simp only [decide_eq_true_eq] at *
      omega
     have hy : c.l[i - 1]? = some (c.l[i - 1]?.getD x) := by rw [List.getElem?_eq_getElem (by omega : i - 1 < c.l.length)]; rfl
     have hpy : prevT c.l i = some (c.l[i - 1]?.getD x).t := by unfold prevT; rw [if_neg (by omega), hy]; rfl
     have hlt : decide (x.t < (c.l[i - 1]?.getD x).t) = true := decide_eq_true (by have := of_decide_eq_false hc; omega)
     (refine no_implicit_lambda% (k_loopLT (i + 1) 0 [0] (by show i + 1 ≤ c.l.length ∧ versB none c.l = versB (prevT c.l (i + 1)) (c.l.drop (i + 1)); exact ⟨hi, by rw [hps, hI, hpy]; simp [htm, hvt, hlt, ltT]⟩) (by first | omega | (simp; done) | (simp; omega)) (LE0 rfl) (fun _ h => h) (fun _ h => h) ?_ ?_)); (focus ((try dsimp only); exact wkl)); (focus ((try dsimp only); exact wkh))
    ·have htm : tmOk x.t = true := decide_eq_true (by simp only [decide_eq_false_iff_not] at *; omega)
     have hvt : vRt x.v = true := by simp only [Bool.not_eq_false'] at *; assumption
     have h0 : i = 0 := by
      have := of_decide_eq_false hc
      omega
     have hpy : prevT c.l i = none := by unfold prevT; rw [if_pos h0]
     (refine no_implicit_lambda% (k_loopLT (i + 1) 0 [0] (by show i + 1 ≤ c.l.length ∧ versB none c.l = versB (prevT c.l (i + 1)) (c.l.drop (i + 1)); exact ⟨hi, by rw [hps, hI, hpy]; simp [htm, hvt, ltT]⟩) (by first | omega | (simp; done) | (simp; omega)) (LE0 rfl) (fun _ h => h) (fun _ h => h) ?_ ?_)); (focus ((try dsimp only); exact wkl)); (focus ((try dsimp only); exact wkh))
def colsB : Option ByteArray → List Co → Bool
 | _, [] => true
 | p, c :: l => colB c && ltN p c.n && colsB (some c.n) l
def prevN (l : List Co) (i : Nat) : Option ByteArray := if i = 0 then none else l[i - 1]?.map (·.n)
def rowB (r : List Co) : Bool := colsB none r && decide (r.length ≤ 4)
theorem cox {l : List Co} {i : Nat} {t : Co} (h : l[i]? = some t) : 0 ≤ (i : Int) ∧ (l.map corow)[(i : Int).toNat]? = some (corow t) ∧ (corow t).length = 2 := ⟨Int.natCast_nonneg _, by rw [Int.toNat_natCast, List.getElem?_map, h]; rfl, rfl⟩
theorem coxp {l : List Co} {i : Nat} {t : Co} (hi : 0 < i) (hb : i < 70368744177664) (h : l[i - 1]? = some t) : 0 ≤ IntKind.i64.wrap ((i : Int) - 1) ∧ (l.map corow)[(IntKind.i64.wrap ((i : Int) - 1)).toNat]? = some (corow t) ∧ (corow t).length = 2 := by
 have e : IntKind.i64.wrap ((i : Int) - 1) = ((i - 1 : Nat) : Int) := by rw [z64 (by omega) (by omega)]; omega
 rw [e]
 exact cox h
theorem cols_at {p : Option ByteArray} {l : List Co} {i : Nat} {x : Co} (h : l[i]? = some x) : colsB p (l.drop i) = (colB x && ltN p x.n && colsB (some x.n) (l.drop (i + 1))) := by
 have : l.drop i = x :: l.drop (i + 1) := by
  obtain ⟨hi, rfl⟩ := List.getElem?_eq_some_iff.1 h
  exact List.drop_eq_getElem_cons hi
 rw [this]; rfl
theorem prevN_succ {l : List Co} {i : Nat} {x : Co} (h : l[i]? = some x) : prevN l (i + 1) = some x.n := by
 unfold prevN
 rw [if_neg (by omega), Nat.add_sub_cancel, h]; rfl
def rtSt (r : List Co) (i : Nat) : ASt := ⟨([.dead, .ptr 0 0, .dead, .dead, .dead, .dead, .list (r.map corow) .free, .v (.int .i64 r.length), .v (.int .i64 i)] ++ List.replicate 28 .dead), [(0, .box [.list (r.map corow) .free])], 1⟩
set_option maxHeartbeats 3200000 in
theorem right_c (r : List Co) (hr : r.length < 70368744177664) : ACalls Tryz.prog 166 0 600 [rowA r] [] (fun out H' => out = .ret (.v (.bool (rowB r))) ∧ H' = []) := by
 refine no_implicit_lambda% (acalls_of tok dok (f := 166) ⟨Tryz.func166, rfl, by kernel_rfl⟩ ?_); refine no_implicit_lambda% (c_start (fun _ h => h) ?_)
 repeat' (first | (refine no_implicit_lambda% (zH ?_)) | (refine no_implicit_lambda% (spl (fun hc => ?_) (fun hc => ?_)) <;> first | exact zG hc | skip) | (refine no_implicit_lambda% (ans ?_)) | (with_reducible first | exact zI | exact zJ))
 refine c_loop' (rtSt r) (fun i => i ≤ r.length ∧ colsB none r = colsB (prevN r i) (r.drop i)) (fun i => r.length - i) (a := 0) ⟨Nat.zero_le _, rfl⟩ ?_ ?_
 ·(refine no_implicit_lambda% (Conv.toT ?_ ?_ (LE0 rfl))); (focus ((unfold rtSt); (try dsimp only); exact wkl)); (focus ((unfold rtSt); (try dsimp only); exact wkh))
 ·rintro i ⟨h1, hI⟩
  refine c_turn (n' := 1) (fun _ h => h) (fun _ h => h) rfl ?_
  rcases hx : r[i]? with _ | x
  ·have hi : i = r.length := by have := List.getElem?_eq_none_iff.1 hx; omega
   repeat' (first | (refine no_implicit_lambda% (zH ?_)) | (refine no_implicit_lambda% (spl (fun hc => ?_) (fun hc => ?_)) <;> first | exact zG hc | skip) | (refine no_implicit_lambda% (ans ?_)) | (with_reducible first | exact zI | exact zJ))
   refine no_implicit_lambda% (e_ret (H' := []) (rest := _) rfl ⟨congrArg (fun z => AOut.ret (.v (.bool z))) ?_, rfl⟩ (.refl _) (LE0 rfl))
   rw [hi, List.drop_length] at hI
   unfold rowB
   rw [hI]
   show _ = (true && _)
   rw [Bool.true_and, List.length_map]
   exact decide_eq_decide.2 (by omega)
  ·have hi : i < r.length := (List.getElem?_eq_some_iff.1 hx).1
   have hix := cox hx
   have hps := prevN_succ hx
   rw [cols_at hx] at hI
   have hcl := column_c x
   have hpx : decide ((i : Int) > 0) = true → 0 ≤ IntKind.i64.wrap ((i : Int) - 1) ∧ (r.map corow)[(IntKind.i64.wrap ((i : Int) - 1)).toNat]? = some (corow (r[i - 1]?.getD x)) ∧ (corow (r[i - 1]?.getD x)).length = 2 := fun h => by
    have h0 := of_decide_eq_true h
    rw [List.getElem?_eq_getElem (by omega : i - 1 < r.length)]
    exact coxp (by omega) (by omega) (List.getElem?_eq_getElem (by omega))
   repeat' (first | (refine no_implicit_lambda% (zH ?_)) | (refine no_implicit_lambda% (splv (fun hc => ?_) (fun hc => ?_)) <;> first | exact zG hc | skip) | (refine no_implicit_lambda% (ans ?_)) | (with_reducible first | exact zI | exact zJ) | (refine no_implicit_lambda% (cal [] (hcl) ?_ ?_)) | fail)
   ·refine no_implicit_lambda% (e_ret (H' := []) (rest := _) rfl ⟨congrArg (fun z => AOut.ret (.v (.bool z))) ?_, rfl⟩ (.refl _) (LE0 rfl))
    have : colB x = false := by simpa using hc
    unfold rowB
    rw [hI, this]; simp
   ·refine no_implicit_lambda% (e_ret (H' := []) (rest := _) rfl ⟨congrArg (fun z => AOut.ret (.v (.bool z))) ?_, rfl⟩ (.refl _) (LE0 rfl))
    have h0 : 0 < i := by
     simp only [decide_eq_true_eq] at *
     omega
    have hy : r[i - 1]? = some (r[i - 1]?.getD x) := by rw [List.getElem?_eq_getElem (by omega : i - 1 < r.length)]; rfl
    have hpy : prevN r i = some (r[i - 1]?.getD x).n := by unfold prevN; rw [if_neg (by omega), hy]; rfl
    have : sLt (r[i - 1]?.getD x).n x.n = false := by simpa [sLt] using hc
    unfold rowB
    rw [hI, hpy]
    simp [this, ltT, ltN]
   ·have hcx : colB x = true := by simp only [Bool.not_eq_false'] at *; assumption
    have h0 : 0 < i := by
     simp only [decide_eq_true_eq] at *
     omega
    have hy : r[i - 1]? = some (r[i - 1]?.getD x) := by rw [List.getElem?_eq_getElem (by omega : i - 1 < r.length)]; rfl
    have hpy : prevN r i = some (r[i - 1]?.getD x).n := by unfold prevN; rw [if_neg (by omega), hy]; rfl
    have hlt : sLt (r[i - 1]?.getD x).n x.n = true := by simpa [sLt] using hc
    (refine no_implicit_lambda% (k_loopLT (i + 1) 0 [0] (by show i + 1 ≤ r.length ∧ colsB none r = colsB (prevN r (i + 1)) (r.drop (i + 1)); exact ⟨hi, by rw [hps, hI, hpy]; simp [hcx, hlt, ltN]⟩) (by first | omega | (simp; done) | (simp; omega)) (LE0 rfl) (fun _ h => h) (fun _ h => h) ?_ ?_)); (focus ((try dsimp only); exact wkl)); (focus ((try dsimp only); exact wkh))
   ·have hcx : colB x = true := by simp only [Bool.not_eq_false'] at *; assumption
    have h0 : i = 0 := by
     have := of_decide_eq_false hc
     omega
    have hpy : prevN r i = none := by unfold prevN; rw [if_pos h0]
    (refine no_implicit_lambda% (k_loopLT (i + 1) 0 [0] (by show i + 1 ≤ r.length ∧ colsB none r = colsB (prevN r (i + 1)) (r.drop (i + 1)); exact ⟨hi, by rw [hps, hI, hpy]; simp [hcx, ltN]⟩) (by first | omega | (simp; done) | (simp; omega)) (LE0 rfl) (fun _ h => h) (fun _ h => h) ?_ ?_)); (focus ((try dsimp only); exact wkl)); (focus ((try dsimp only); exact wkh))
end Go.Proofs.YtncffhgoopdfgaaGreat
