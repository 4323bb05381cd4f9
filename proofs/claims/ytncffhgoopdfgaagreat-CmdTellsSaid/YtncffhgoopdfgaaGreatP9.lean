/- Part 9 of what the laws CmdTells rest on: Vg, AmSl, AmBw, RwA, RwC, Vc, RwD, RwE, RwB, RwF, RwG, RwH, RwI, RwJ, RwK, RwL, RwN, RwO, RwP, RwQ, AmSp, RwS, RwT, RwU, RwV, RwW, RwX, RwY, RwM, RwZ, RxA, AmOp, Vd, RxC, RxD, ChA, ChB, ChC, Vi, RyA, OcR, RyC, Vj. -/
import Derived.Test.YtncffhgoopdfgaaGreatP8
import Derived.ChangeSlices
import Derived.ShutString
set_option linter.unusedSimpArgs false
set_option linter.unusedVariables false
namespace Go.Proofs.YtncffhgoopdfgaaGreat
open Go.Am
set_option maxRecDepth 100000
theorem canonB_lt {b : Nat} (h : b < 18446744073709551616) : canonB b < 18446744073709551616 := by unfold canonB; split <;> omega
def keyN (c : Nat) : Nat := if c < 9223372036854775808 then c + 9223372036854775808 else 18446744073709551615 - c
def placeN (c : Nat) : Nat := if c = 9221120237041090561 then 18446744073709551615 else keyN c
theorem canon_cases {b : Nat} (h : b < 18446744073709551616) : canonB b = 9221120237041090561 ∨ canonB b ≤ 9218868437227405312 ∨ (9223372036854775808 ≤ canonB b ∧ canonB b ≤ 18442240474082181120) := by
 unfold canonB
 cases hn : nanB b
 ·rw [nan_def, decide_eq_false_iff_not] at hn
  simp only [Bool.false_eq_true, if_false]
  omega
 ·exact .inl rfl
theorem and63 {c : Nat} (h : c < 18446744073709551616) : c &&& 9223372036854775808 = if c < 9223372036854775808 then 0 else 9223372036854775808 := by
 have e1 : (9223372036854775808 : Nat) = 1 <<< 63 := by decide
 have e2 : (c / 9223372036854775808 % 2) * 9223372036854775808 = ((c >>> 63) &&& 1) <<< 63 := by
  rw [Nat.shiftLeft_eq, Nat.shiftRight_eq_div_pow, Nat.and_two_pow_sub_one_eq_mod _ 1]
 have e3 : c &&& (1 <<< 63) = ((c >>> 63) &&& 1) <<< 63 := by
  apply Nat.eq_of_testBit_eq
  intro i
  simp only [Nat.testBit_and, Nat.testBit_shiftLeft, Nat.testBit_shiftRight]
  by_cases h : 63 ≤ i
  ·have : 63 + (i - 63) = i := by omega
   simp [h, this]
  ·simp [h]
 have e4 : c &&& 9223372036854775808 = (c / 9223372036854775808 % 2) * 9223372036854775808 := e3.trans e2.symm
 rw [e4]
 split <;> omega
theorem or63 {c : Nat} (h : c < 9223372036854775808) : c ||| 9223372036854775808 = c + 9223372036854775808 := by
 have e := Nat.two_pow_add_eq_or_of_lt (i := 63) (b := c) h 1
 rw [Nat.or_comm, Nat.add_comm]
 exact e.symm
theorem not64 {c : Nat} (h : c < 18446744073709551616) : (BitVec.ofInt IntKind.u64.bits (if IntKind.u64.signed then -1 else IntKind.u64.max) ^^^ BitVec.ofInt IntKind.u64.bits (c : Int)).toNat = 18446744073709551615 - c := by
 have e : BitVec.ofInt IntKind.u64.bits (if IntKind.u64.signed then -1 else IntKind.u64.max) = (BitVec.allOnes 64 : BitVec IntKind.u64.bits) := by rfl
 rw [e]
 show (BitVec.allOnes 64 ^^^ BitVec.ofInt 64 (c : Int)).toNat = _
 rw [BitVec.allOnes_xor, BitVec.toNat_not]
 show 2 ^ 64 - 1 - (BitVec.ofInt IntKind.u64.bits (c : Int)).toNat = _
 rw [ofInt_nat h]
theorem keyI_eq {b : Nat} (h : b < 18446744073709551616) : keyI b = (keyN (canonB b) : Nat) := by
 have hc := canonB_lt h
 unfold keyI keyN
 generalize canonB b = c at *
 rw [BitVec.toNat_and, ofInt_nat hc, show (BitVec.ofInt IntKind.u64.bits 9223372036854775808).toNat = 9223372036854775808 from by decide, and63 hc, not64 hc, BitVec.toNat_or, ofInt_nat hc, show (BitVec.ofInt IntKind.u64.bits 9223372036854775808).toNat = 9223372036854775808 from by decide]
 by_cases h1 : c < 9223372036854775808
 ·rw [if_pos h1, if_pos h1, or63 h1, if_neg (by decide), u64_of (by omega)]
 ·rw [if_neg h1, if_neg h1, if_pos (by decide), u64_of (by omega)]
theorem key_place {a b : Nat} (ha : a < 18446744073709551616) (hb : b < 18446744073709551616) : cmpZ (placeN (canonB a) : Nat) (placeN (canonB b) : Nat) = cmpZ (keyI a) (keyI b) := by
 rw [keyI_eq ha, keyI_eq hb]
 have h1 := canon_cases ha
 have h2 := canon_cases hb
 unfold placeN keyN cmpZ
 generalize canonB a = x at *
 generalize canonB b = y at *
 repeat' split
 all_goals omega
theorem place_c (b : Nat) (hb : b < 18446744073709551616) : ACalls Tryz.prog 203 0 0 [.v (.float .f64 b)] [] (fun out H' => out = .ret (.v (.int .u64 (placeN (canonB b) : Nat))) ∧ H' = []) := by
 have hl := canonB_lt hb
 have hB := refBits_c b hb
 generalize canonB b = c at *
 refine no_implicit_lambda% (acalls_of tok dok (f := 203) ⟨Tryz.func203, rfl, by kernel_rfl⟩ ?_); refine no_implicit_lambda% (c_start (fun _ h => h) ?_)
 refine no_implicit_lambda% (awd ?_)
 refine no_implicit_lambda% (cal [] (hB) ?_ ?_)
 ·refine no_implicit_lambda% (ret1 ?_); first | (refine no_implicit_lambda% (akc ?_)) | (refine no_implicit_lambda% (aec ?_))
  repeat' (first | (refine no_implicit_lambda% (zH ?_)) | (((with_reducible refine no_implicit_lambda% (zA ?_)); refine no_implicit_lambda% (zD rfl rfl rfl (fun hc => ?_) (fun hc => ?_)) <;> rw [hc])) | (((with_reducible refine no_implicit_lambda% (zB ?_)); refine no_implicit_lambda% (zE rfl (fun hc => ?_) (fun hc => ?_)))) | (((with_reducible refine no_implicit_lambda% (zC ?_)); refine no_implicit_lambda% (zF rfl rfl (fun hc => ?_) (fun hc => ?_)) <;> rw [hc])) | fail)
  ·have hc' : c = 9221120237041090561 := by simp at hc; omega
   exact e_ret (H' := []) (rest := _) rfl ⟨by rw [placeN, if_pos hc']; rfl, rfl⟩ (.refl _) (LE0 rfl)
  ·have h0 : ¬ c = 9221120237041090561 := by rename_i h1; simp at h1; omega
   have h1 : ¬ c < 9223372036854775808 := by
    rw [show min (Int.toNat 63) IntKind.u64.bits = 63 from rfl, show (2 : Int) ^ 63 = 9223372036854775808 by decide, Int.fdiv_eq_ediv_of_nonneg _ (by decide)] at hc
    simp at hc
    omega
   rw [not64 hl, u64_of (by omega)]
   exact e_ret (H' := []) (rest := _) rfl ⟨by rw [placeN, if_neg h0, keyN, if_neg h1]; rfl, rfl⟩ (.refl _) (LE0 rfl)
  ·have h0 : ¬ c = 9221120237041090561 := by rename_i h1; simp at h1; omega
   have h1 : c < 9223372036854775808 := by
    rw [show min (Int.toNat 63) IntKind.u64.bits = 63 from rfl, show (2 : Int) ^ 63 = 9223372036854775808 by decide, Int.fdiv_eq_ediv_of_nonneg _ (by decide)] at hc
    simp at hc
    omega
   rw [BitVec.toNat_or, ofInt_nat hl, show (BitVec.ofInt IntKind.u64.bits 9223372036854775808).toNat = 9223372036854775808 from by decide, or63 h1, u64_of (by omega)]
   exact e_ret (H' := []) (rest := _) rfl ⟨by rw [placeN, if_neg h0, keyN, if_pos h1]; rfl, rfl⟩ (.refl _) (LE0 rfl)
 ·first | (exact zI) | (exact zJ)
theorem refOrder1_c (a b : Nat) (ha : a < 18446744073709551616) (hb : b < 18446744073709551616) : ACalls Tryz.prog 186 0 0 [.v (.float .f64 a), .v (.float .f64 b)] [] (fun out H' => out = .ret (.v (.int .i64 (cmpZ (keyI a) (keyI b)))) ∧ H' = []) := by
 rw [← key_place ha hb]
 have h1 := place_c a ha
 have h2 := place_c b hb
 generalize placeN (canonB a) = x at *
 generalize placeN (canonB b) = y at *
 refine no_implicit_lambda% (acalls_of tok dok (f := 186) ⟨Tryz.func186, rfl, by kernel_rfl⟩ ?_); refine no_implicit_lambda% (c_start (fun _ h => h) ?_)
 refine no_implicit_lambda% (awd ?_)
 refine no_implicit_lambda% (cal [] (h1) ?_ ?_)
 ·refine no_implicit_lambda% (ret1 ?_); first | (refine no_implicit_lambda% (akc ?_)) | (refine no_implicit_lambda% (aec ?_))
  refine no_implicit_lambda% (awd ?_)
  refine no_implicit_lambda% (cal [] (h2) ?_ ?_)
  ·refine no_implicit_lambda% (ret1 ?_); first | (refine no_implicit_lambda% (akc ?_)) | (refine no_implicit_lambda% (aec ?_))
   repeat' (first | (refine no_implicit_lambda% (zH ?_)) | (((with_reducible refine no_implicit_lambda% (zA ?_)); refine no_implicit_lambda% (zD rfl rfl rfl (fun hc => ?_) (fun hc => ?_)) <;> rw [hc])) | (((with_reducible refine no_implicit_lambda% (zB ?_)); refine no_implicit_lambda% (zE rfl (fun hc => ?_) (fun hc => ?_)))) | (((with_reducible refine no_implicit_lambda% (zC ?_)); refine no_implicit_lambda% (zF rfl rfl (fun hc => ?_) (fun hc => ?_)) <;> rw [hc])) | fail)
   ·exact e_ret (H' := []) rfl ⟨by simp at hc; rw [cmpZ, if_pos (by omega)]; rfl, rfl⟩ (.refl _) (LE0 rfl)
   ·exact e_ret (H' := []) rfl ⟨by simp at *; rw [cmpZ, if_neg (by omega), if_pos (by omega)]; rfl, rfl⟩ (.refl _) (LE0 rfl)
   ·exact e_ret (H' := []) rfl ⟨by simp at *; rw [cmpZ, if_neg (by omega), if_neg (by omega)]; rfl, rfl⟩ (.refl _) (LE0 rfl)
  ·first | (exact zI) | (exact zJ)
 ·first | (exact zI) | (exact zJ)
theorem kind_c (v : Va) : ACalls Tryz.prog 185 0 10 [vav v] [] (fun out H' => out = .ret (.v (.int .i64 (canV v).kind)) ∧ H' = []) := by
 obtain ⟨kd, b, n⟩ := v
 refine no_implicit_lambda% (acalls_of tok dok (f := 185) ⟨Tryz.func185, rfl, by kernel_rfl⟩ ?_); refine no_implicit_lambda% (c_start (fun _ h => h) ?_)
 repeat' (first | (refine no_implicit_lambda% (zH ?_)) | (((with_reducible refine no_implicit_lambda% (zA ?_)); refine no_implicit_lambda% (zD rfl rfl rfl (fun hc => ?_) (fun hc => ?_)) <;> rw [hc])) | (((with_reducible refine no_implicit_lambda% (zB ?_)); refine no_implicit_lambda% (zE rfl (fun hc => ?_) (fun hc => ?_)))) | (((with_reducible refine no_implicit_lambda% (zC ?_)); refine no_implicit_lambda% (zF rfl rfl (fun hc => ?_) (fun hc => ?_)) <;> rw [hc])) | fail)
 ·have h : kd = 1 := by simpa using hc
  subst h
  exact e_ret (H' := []) (rest := _) rfl ⟨rfl, rfl⟩ (.refl _) (LE0 rfl)
 ·have h : kd = 2 := by simpa using hc
  subst h
  exact e_ret (H' := []) (rest := _) rfl ⟨rfl, rfl⟩ (.refl _) (LE0 rfl)
 ·have h1 : ¬ kd = 1 := by rename_i h1; simpa using h1
  have h2 : ¬ kd = 2 := by simpa using hc
  exact e_ret (H' := []) (rest := _) rfl ⟨by unfold canV; rw [if_neg h1, if_neg h2]; rfl, rfl⟩ (.refl _) (LE0 rfl)
theorem refRight_c (v : Va) : ACalls Tryz.prog 133 0 10 [vav v] [] (fun out H' => out = .ret (.v (.bool (v.kind == 1 && decide ((v.b.length : Int) ≤ 16) || v.kind == 2))) ∧ H' = []) := by
 obtain ⟨kd, b, n⟩ := v
 refine no_implicit_lambda% (acalls_of tok dok (f := 133) ⟨Tryz.func133, rfl, by kernel_rfl⟩ ?_); refine no_implicit_lambda% (c_start (fun _ h => h) ?_)
 repeat' (first | (refine no_implicit_lambda% (zH ?_)) | (((with_reducible refine no_implicit_lambda% (zA ?_)); refine no_implicit_lambda% (zD rfl rfl rfl (fun hc => ?_) (fun hc => ?_)) <;> rw [hc])) | (((with_reducible refine no_implicit_lambda% (zB ?_)); refine no_implicit_lambda% (zE rfl (fun hc => ?_) (fun hc => ?_)))) | (((with_reducible refine no_implicit_lambda% (zC ?_)); refine no_implicit_lambda% (zF rfl rfl (fun hc => ?_) (fun hc => ?_)) <;> rw [hc])) | fail)
 all_goals
  refine e_ret (H' := []) (rest := _) rfl ⟨congrArg (fun z => AOut.ret (.v (.bool z))) ?_, rfl⟩ (.refl _) (LE0 rfl)
  simp only [List.length_map] at *
  simp_all
theorem less_cb : ∀ a b : List UInt8, Op.bytesLess a b = decide (Lib.compareBytes a b = -1)
 | [], [] => rfl
 | [], _ :: _ => rfl
 | _ :: _, [] => rfl
 | x :: a, y :: b => by
  have h := less_cb a b
  unfold Op.bytesLess Lib.compareBytes
  rw [h]
  by_cases h1 : x < y
  ·rw [if_pos h1]; simp [h1]
  ·rw [if_neg h1]
   by_cases h2 : y < x
   ·rw [if_pos h2]
    have : ¬ x = y := fun e => h1 (e ▸ h2)
    simp [h1, this]
   ·rw [if_neg h2]
    have : x = y := by
     rw [UInt8.lt_iff_toNat_lt] at h1 h2
     exact UInt8.toNat_inj.1 (by omega)
    subst this
    simp
theorem eq_cb : ∀ a b : List UInt8, (a == b) = decide (Lib.compareBytes a b = 0)
 | [], [] => rfl
 | [], _ :: _ => rfl
 | _ :: _, [] => rfl
 | x :: a, y :: b => by
  have h := eq_cb a b
  unfold Lib.compareBytes
  rw [List.cons_beq_cons, h]
  by_cases h1 : x < y
  ·rw [if_pos h1]
   have : ¬ x = y := fun e => by subst e; exact absurd h1 (by simp)
   simp [this]
  ·rw [if_neg h1]
   by_cases h2 : y < x
   ·rw [if_pos h2]
    have : ¬ x = y := fun e => h1 (e ▸ h2)
    simp [this]
   ·rw [if_neg h2]
    have : x = y := by
     rw [UInt8.lt_iff_toNat_lt] at h1 h2
     exact UInt8.toNat_inj.1 (by omega)
    subst this
    simp
theorem cb_three (a b : List UInt8) : Lib.compareBytes a b = -1 ∨ Lib.compareBytes a b = 0 ∨ Lib.compareBytes a b = 1 := by
 induction a generalizing b with
 | nil => cases b <;> simp [Lib.compareBytes]
 | cons x a ih =>
  cases b with
  | nil => simp [Lib.compareBytes]
  | cons y b =>
   unfold Lib.compareBytes
   repeat' split
   ·exact .inl rfl
   ·exact .inr (.inr rfl)
   ·exact ih b
theorem canV_kind3 (v : Va) : (canV v).kind = 0 ∨ (canV v).kind = 1 ∨ (canV v).kind = 2 := by
 unfold canV
 split
 ·exact .inr (.inl rfl)
 ·split
  ·exact .inr (.inr rfl)
  ·exact .inl rfl
theorem canV_b1 (v : Va) (h : (canV v).kind = 1) : (canV v).b = v.b := by
 unfold canV at *
 split
 ·rfl
 ·rename_i h1
  rw [if_neg h1] at h
  split at h <;> cases h
theorem canV_n2 (v : Va) (h : (canV v).kind = 2) : (canV v).n = canonB v.n := by
 unfold canV at *
 split
 ·rename_i h1
  rw [if_pos h1] at h
  cases h
 ·split
  ·rfl
  ·rename_i h1 h2
   rw [if_neg h1, if_neg h2] at h
   cases h
theorem keyI_canon (n : Nat) : keyI (canonB n) = keyI n := by unfold keyI; rw [canon2]
set_option maxHeartbeats 3200000 in
theorem refOrder_c (a b : Va) (ha : a.n < 18446744073709551616) (hb : b.n < 18446744073709551616) : ACalls Tryz.prog 156 0 100 [vav a, vav b] [] (fun out H' => out = .ret (.v (.int .i64 (ordV a b))) ∧ H' = []) := by
 have hka := kind_c a
 have hkb := kind_c b
 have hoo := refOrder1_c a.n b.n ha hb
 have c0 := canV_kind3 a
 have d0 := canV_kind3 b
 have c1 := canV_b1 a
 have d1 := canV_b1 b
 have c2 := canV_n2 a
 have d2 := canV_n2 b
 have ho : ordV a b = ordV0 (canV a) (canV b) := rfl
 unfold ordV0 at ho
 have o1 : (canV a).kind < (canV b).kind → ordV a b = -1 := fun h => by rw [ho, if_pos (by omega), cmpZ, if_pos h]
 have o2 : (canV a).kind > (canV b).kind → ordV a b = 1 := fun h => by rw [ho, if_pos (by omega), cmpZ, if_neg (by omega), if_pos h]
 have o3 : (canV a).kind = 2 → (canV b).kind = 2 → ordV a b = cmpZ (keyI a.n) (keyI b.n) := fun h k => by rw [ho, if_neg (by omega), if_neg (by omega), if_pos h, c2 h, d2 k, keyI_canon, keyI_canon]
 have o4 : (canV a).kind = 1 → (canV b).kind = 1 → ordV a b = Lib.compareBytes a.b b.b := fun h k => by rw [ho, if_neg (by omega), if_pos h, c1 h, d1 k]
 have o5 : (canV a).kind = 0 → (canV b).kind = 0 → ordV a b = 0 := fun h k => by rw [ho, if_neg (by omega), if_neg (by omega), if_neg (by omega)]
 clear ho c1 c2 d1 d2
 generalize ordV a b = oo at *
 generalize (canV a).kind = x at *
 generalize (canV b).kind = y at *
 obtain ⟨k1, b1, n1⟩ := a
 obtain ⟨k2, b2, n2⟩ := b
 simp only at *
 have oO : (x < y ∧ oo = -1) ∨ (x > y ∧ oo = 1) ∨ (x = 2 ∧ y = 2) ∨ (x = 1 ∧ y = 1 ∧ oo = Lib.compareBytes b1 b2) ∨ (x = 0 ∧ y = 0 ∧ oo = 0) := by
  rcases Int.lt_trichotomy x y with h | h | h
  ·exact .inl ⟨h, o1 h⟩
  ·subst h
   rcases c0 with h | h | h
   ·exact .inr (.inr (.inr (.inr ⟨h, h, o5 h h⟩)))
   ·exact .inr (.inr (.inr (.inl ⟨h, h, o4 h h⟩)))
   ·exact .inr (.inr (.inl ⟨h, h⟩))
  ·exact .inr (.inl ⟨h, o2 h⟩)
 have ol := less_cb b1 b2
 have oe := eq_cb b1 b2
 have o3' := cb_three b1 b2
 refine no_implicit_lambda% (acalls_of tok dok (f := 156) ⟨Tryz.func156, rfl, by kernel_rfl⟩ ?_); refine no_implicit_lambda% (c_start (fun _ h => h) ?_)
 refine no_implicit_lambda% (awd ?_)
 refine no_implicit_lambda% (cal [] (hka) ?_ ?_)
 ·refine no_implicit_lambda% (ret1 ?_); first | (refine no_implicit_lambda% (akc ?_)) | (refine no_implicit_lambda% (aec ?_))
  refine no_implicit_lambda% (awd ?_)
  refine no_implicit_lambda% (cal [] (hkb) ?_ ?_)
  ·refine no_implicit_lambda% (ret1 ?_); first | (refine no_implicit_lambda% (akc ?_)) | (refine no_implicit_lambda% (aec ?_))
   repeat' (first | (refine no_implicit_lambda% (zH ?_)) | (((with_reducible refine no_implicit_lambda% (zA ?_)); refine no_implicit_lambda% (zD rfl rfl rfl (fun hc => ?_) (fun hc => ?_)) <;> rw [hc])) | (((with_reducible refine no_implicit_lambda% (zB ?_)); refine no_implicit_lambda% (zE rfl (fun hc => ?_) (fun hc => ?_)))) | (((with_reducible refine no_implicit_lambda% (zC ?_)); refine no_implicit_lambda% (zF rfl rfl (fun hc => ?_) (fun hc => ?_)) <;> rw [hc])) | fail)
   ·refine e_ret (H' := []) (rest := _) rfl ⟨by rw [o1 (by simpa using hc)]; rfl, rfl⟩ (.refl _) (LE0 rfl)
   ·refine e_ret (H' := []) (rest := _) rfl ⟨by rw [o2 (by simpa using hc)]; rfl, rfl⟩ (.refl _) (LE0 rfl)
   ·have hx : x = 2 := by simpa using hc
    have hy : y = 2 := by simp at *; omega
    refine no_implicit_lambda% (cal [] (hoo) ?_ ?_)
    ·refine no_implicit_lambda% (ret1 ?_); first | (refine no_implicit_lambda% (akc ?_)) | (refine no_implicit_lambda% (aec ?_))
     refine no_implicit_lambda% (awd ?_)
     refine e_ret (H' := []) (rest := _) rfl ⟨by rw [o3 hx hy]; rfl, rfl⟩ (.refl _) (LE0 rfl)
    ·first | (exact zI) | (exact zJ)
   all_goals
    refine e_ret (H' := []) (rest := _) rfl ⟨congrArg (fun z => AOut.ret (.v (.int .i64 z))) ?_, rfl⟩ (.refl _) (LE0 rfl)
    clear hka hkb hoo
    try simp only [Lib.toList_data] at *
    simp only [ol, oe, beq_iff_eq, Bool.not_eq_true', Bool.not_eq_false', Bool.or_eq_true, Bool.or_eq_false_iff, decide_eq_true_eq, decide_eq_false_iff_not, beq_eq_false_iff_ne, ne_eq] at *
    omega
  ·first | (exact zI) | (exact zJ)
 ·first | (exact zI) | (exact zJ)
theorem refSame_c (a b : Va) (ha : a.n < 18446744073709551616) (hb : b.n < 18446744073709551616) : ACalls Tryz.prog 87 0 200 [vav a, vav b] [] (fun out H' => out = .ret (.v (.bool (ordV a b == 0))) ∧ H' = []) := by
 have cc := refOrder_c a b ha hb
 obtain ⟨ka, ba, na⟩ := a
 obtain ⟨kb, bb, nb⟩ := b
 refine no_implicit_lambda% (acalls_of tok dok (f := 87) ⟨Tryz.func87, rfl, by kernel_rfl⟩ ?_); refine no_implicit_lambda% (c_start (fun _ h => h) ?_)
 refine no_implicit_lambda% (awd ?_)
 refine no_implicit_lambda% (cal [] (cc) ?_ ?_)
 ·refine no_implicit_lambda% (ret1 ?_); first | (refine no_implicit_lambda% (akc ?_)) | (refine no_implicit_lambda% (aec ?_))
  refine no_implicit_lambda% (awd ?_)
  exact e_ret (H' := []) (rest := _) rfl ⟨rfl, rfl⟩ (.refl _) (LE0 rfl)
 ·first | (exact zI) | (exact zJ)
end Go.Proofs.YtncffhgoopdfgaaGreat
namespace Go.Am
open Go.RowKit
theorem RowsOk.take {sz : Nat} {rows : List (List AV)} (h : RowsOk sz rows) (i : Nat) : RowsOk sz (rows.take i) := by
 have hm : ∀ a ∈ (rows.take i).flatten, a ∈ rows.flatten := fun a ha => by
  obtain ⟨r, h1, h2⟩ := List.mem_flatten.1 ha
  exact List.mem_flatten.2 ⟨r, List.mem_of_mem_take h1, h2⟩
 exact ⟨fun row hr => h.len row (List.mem_of_mem_take hr), List.all_eq_true.2 fun a ha => List.all_eq_true.1 h.one a (hm a ha), fun a ha => h.pure a (hm a ha)⟩
theorem RowsOk.drop {sz : Nat} {rows : List (List AV)} (h : RowsOk sz rows) (i : Nat) : RowsOk sz (rows.drop i) := by
 have hm : ∀ a ∈ (rows.drop i).flatten, a ∈ rows.flatten := fun a ha => by
  obtain ⟨r, h1, h2⟩ := List.mem_flatten.1 ha
  exact List.mem_flatten.2 ⟨r, List.mem_of_mem_drop h1, h2⟩
 exact ⟨fun row hr => h.len row (List.mem_of_mem_drop hr), List.all_eq_true.2 fun a ha => List.all_eq_true.1 h.one a (hm a ha), fun a ha => h.pure a (hm a ha)⟩
section
variable {P : Program} {TT : Types} {o : Oper} {s : List AV} {L : Heap} {n : Nat}
end
section
variable {P : Program} {TT : Types} {s : List AV} {L : Heap} {n : Nat}
theorem c_l3 {D : Dr} {Kk : Kc} {x : Code} {α β γ : Type} (S : α → β → γ → ASt) (C : α → β → γ → Prop) (μ : α → β → γ → Nat) (a : α) (b : β) (c : γ) (ha : C a b c) (hc : Conv ⟨s, L, n⟩ (S a b c))
  (hround : ∀ a b c, C a b c → acode P TT D x (S a b c).slots (S a b c).L (S a b c).next (loopK D.low (fun p : α × β × γ => S p.1 p.2.1 p.2.2) (fun p => C p.1 p.2.1 p.2.2) (fun p => μ p.1 p.2.1 p.2.2) (a, b, c) Kk)) : acode P TT D (.loop x) s L n Kk :=
 c_loop' (fun p : α × β × γ => S p.1 p.2.1 p.2.2) (fun p => C p.1 p.2.1 p.2.2) (fun p => μ p.1 p.2.1 p.2.2) (a := (a, b, c)) ha hc fun p h => hround p.1 p.2.1 p.2.2 h
theorem c_l4 {D : Dr} {Kk : Kc} {x : Code} {α β γ δ : Type} (S : α → β → γ → δ → ASt) (C : α → β → γ → δ → Prop) (μ : α → β → γ → δ → Nat) (a : α) (b : β) (c : γ) (d : δ) (ha : C a b c d) (hc : Conv ⟨s, L, n⟩ (S a b c d))
  (hround : ∀ a b c d, C a b c d → acode P TT D x (S a b c d).slots (S a b c d).L (S a b c d).next (loopK D.low (fun p : α × β × γ × δ => S p.1 p.2.1 p.2.2.1 p.2.2.2) (fun p => C p.1 p.2.1 p.2.2.1 p.2.2.2) (fun p => μ p.1 p.2.1 p.2.2.1 p.2.2.2) (a, b, c, d) Kk)) : acode P TT D (.loop x) s L n Kk :=
 c_loop' (fun p : α × β × γ × δ => S p.1 p.2.1 p.2.2.1 p.2.2.2) (fun p => C p.1 p.2.1 p.2.2.1 p.2.2.2) (fun p => μ p.1 p.2.1 p.2.2.1 p.2.2.2) (a := (a, b, c, d)) ha hc fun p h => hround p.1 p.2.1 p.2.2.1 p.2.2.2 h
end
end Go.Am
namespace Go.Am
open Go.RowKit
/-! BORROW -/
def Ghost.mem (G : Ghost) (w : World) : Ghost := ⟨fun b i => w.cell? ⟨b, i, none⟩, G.loc, G.tk, fun _ => False, fun _ => False, w.heap.size⟩
def Reads (H : Heap) (a a' : AV) : Prop := ∀ G w x, Holds G w H → Sim G a x → Sim (G.mem w) a' x
theorem Reads.data {H : Heap} {a : AV} (hp : a.pure = true) : Reads H a a := fun G w x hh hs => by
 cases hs with
 | data _ _ h => exact .data _ _ (h.mono fun b i v hx => hh.X b i v hx)
 | tok => simp [AV.pure] at hp
 | _ => simp [AV.pure] at hp
theorem Sim.dataP {G : Ghost} {a : AV} {x : Value} (h : Sim G a x) (hp : a.pure = true) : SimD G.X a x := by
 cases h with
 | data _ _ h => exact h
 | _ => simp [AV.pure] at hp
theorem Reads.fn {H : Heap} {f : FuncId} : Reads H (.fn f []) (.fn f []) := fun G w x hh hs => by
 cases hs with
 | data _ _ h => cases h
 | fn _ _ vs hl h => exact .fn f [] vs hl fun i a ha => by simp at ha
theorem Reads.agg {H : Heap} {l l' : List AV} (hl : l.length = l'.length) (h : ∀ (i : Nat) (a' : AV), l'[i]? = some a' → ∃ a, l[i]? = some a ∧ Reads H a a') : Reads H (.agg l) (.agg l') := fun G w x hh hs => by
 cases hs with
 | data _ _ h => cases h
 | agg _ vs h1 h2 =>
  refine .agg l' vs (by omega) fun i a' ha => ?_
  obtain ⟨a, h3, h4⟩ := h i a' ha
  exact h4 G w _ hh (h2 i a h3)
theorem Reads.box {H : Heap} {id off m cp sz : Nat} {cells : List AV} {rows : List (List AV)} (hb : ∀ G w, Holds G w H → rows ≠ [] → BoxHolds G w id cells) (hr : ∀ row ∈ rows, row.length = sz) (hm : rows.length = m)
  (hd : ∀ i a', rows.flatten[i]? = some a' → ∃ a, cells[off + i]? = some a ∧ Reads H a a' ∧ a'.pure = true ∧ a.one = true) : Reads H (.arr id off m cp) (.list rows .free) := fun G w x hh hs => by
 obtain ⟨base, rfl, hlive, hnc, hcm, hbs⟩ := hs.arr_inv
 by_cases h00 : rows = []
 ·subst h00
  simp only [List.length_nil] at hm
  subst hm
  exact .data _ _ (.nil .free base cp hcm (by simp) (.inl rfl))
 ·obtain ⟨g0, arr, E, fr, g1, g2, g3, g4⟩ := hb G w hh h00
  have hpos : 0 < rows.length := List.length_pos_iff.2 h00
  subst hm
  obtain rfl := hbs (by omega)
  have hcell : ∀ (i : Nat) (a' : AV), rows.flatten[i]? = some a' → (G.mem w).X (G.loc id) (off + i) = some (arr.getD (off + i) undef) ∧ SimD (G.mem w).X a' (arr.getD (off + i) undef) ∧ (arr.getD (off + i) undef).oneCell' = true := fun i a' h => by
   obtain ⟨a, k1, k2, k3, k4⟩ := hd i a' h
   have h2 := (List.getElem?_eq_some_iff.1 k1).1
   have h3 := g4 _ a k1
   have h5 := k2 G w _ hh h3
   refine ⟨?_, ?_, h3.one k4⟩
   ·show w.cell? ⟨G.loc id, off + i, none⟩ = _
    have : off + i < arr.size := by omega
    simp [World.cell?, g1, this]
   ·exact h5.dataP k3
  refine .data _ _ (.list rows .free (G.loc id) off cp sz (fun i j => arr.getD (off + (i * sz + j)) undef) hnc hcm (by simp) (.inl rfl) hr (fun i row q a h1 h2 => ?_) (fun i row q a h1 h2 => ?_) (fun i row q a h1 h2 => ?_))
  all_goals
   obtain ⟨c1, c2, c3⟩ := hcell _ _ (flat_get hr h1 h2)
  ·rw [Nat.add_assoc]; exact c1
  ·exact c2
  ·exact c3
theorem Reads.seq {H : Heap} {id m cp k sz : Nat} {rows : List (List AV)} (hm0 : (id, Res.seq rows k) ∈ H) (hR : RowsOk sz rows) (hm : rows.length = m) : Reads H (.arr id 0 m cp) (.list rows .free) :=
 .box (cells := seqC rows k) (fun G w hh hne => (hh.res _ hm0 (by have := List.length_pos_iff.2 hne; omega)).1) hR.len hm fun i a ha => ⟨a, by
  rw [Nat.zero_add]; unfold seqC
  rw [List.getElem?_append_left (List.getElem?_eq_some_iff.1 ha).1]; exact ha, .data (hR.pure a (List.mem_of_getElem? ha)), hR.pure a (List.mem_of_getElem? ha), List.all_eq_true.1 hR.one a (List.mem_of_getElem? ha)⟩
def AV.isV : AV → Bool
 | .v _ => true
 | _ => false
def AV.valB : AV → Bool
 | .v _ => true
 | .tuple l => l.all AV.isV
 | _ => false
def AOut.valB : AOut → Bool
 | .ret a => a.valB
 | .panic a => a.valB
theorem Sim.valV {G G' : Ghost} {a : AV} {x : Value} (h : Sim G a x) (hv : a.isV = true) : Sim G' a x := by
 cases h with
 | data _ _ h => cases h <;> first | exact .data _ _ (.v _) | (simp [AV.isV] at hv)
 | _ => simp [AV.isV] at hv
theorem Sim.val {G G' : Ghost} {a : AV} {x : Value} (h : Sim G a x) (hv : a.valB = true) : Sim G' a x := by
 cases h with
 | data _ _ h => cases h <;> first | exact .data _ _ (.v _) | (simp [AV.valB] at hv)
 | tuple l vs hl h =>
  exact .tuple l vs hl fun i a ha => (h i a ha).valV (List.all_eq_true.1 hv a (List.mem_of_getElem? ha))
 | _ => simp [AV.valB] at hv
theorem OSim.val {G G' : Ghost} {out : AOut} {e : Ending} (h : OSim G out e) (hv : out.valB = true) : OSim G' out e := by
 cases out with
 | ret a =>
  cases e with
  | returned v => exact Sim.val (G := G) h hv
  | _ => exact h.elim
 | panic a =>
  cases e with
  | panicked c => obtain ⟨v, h1, h2⟩ := h; exact ⟨v, h1, h2.val hv⟩
  | _ => exact h.elim
theorem ACalls.borrow {P : Program} {f : FuncId} {k top top0 : Nat} {args args' : List AV} {H : Heap} {R : AOut → Heap → Prop} (h : ACalls P f 0 top0 args' [] R) (hl : args.length = args'.length) (hR : ∀ out H', R out H' → out.valB = true)
  (hr : ∀ (i : Nat) (a' : AV), args'[i]? = some a' → ∃ a, args[i]? = some a ∧ Reads H a a') : ACalls P f k top args H (fun out H2 => (∃ H', R out H') ∧ H2 = H) := by
 intro G w vals h1 h2 h3 h4 h5 h6
 have key : ∀ (G' : Ghost) (w' : World) (out : AOut) (H' : Heap) (e : Ending), R out H' → OSim G' out e → Step (G.mem w) w [] G' w' H' →
   ∃ G2 out2 H2, ((∃ H', R out2 H') ∧ H2 = H) ∧ OSim G2 out2 e ∧ Holds G2 w' H2 ∧ Step G w H G2 w' H2 ∧ ∀ id, G2.live id → G.live id ∨ (k ≤ id ∧ id < top) := fun G' w' out H' e r1 r2 st => by
  have hfr : ∀ b, b < w.heap.size → w'.heap[b]? = w.heap[b]? := fun b hb => (st.frame b hb (by simp [blocksOf])).2 fun h => h
  refine ⟨G, out, H, ⟨⟨H', r1⟩, rfl⟩, r2.val (hR _ _ r1), ⟨fun b i v hx => ?_, fun r hm => ?_, h4.ids, h4.live, h4.blocks, fun b hb => absurd hb (h2 b)⟩, ⟨st.os, st.tape, st.output, st.size, rfl, fun _ _ _ h => h, fun b hb hn => ⟨.inl (hfr b hb), fun _ => hfr b hb⟩, fun _ _ _ h => .inl h, fun _ h => .inl h, fun _ h => ⟨h, rfl, .inl rfl⟩, fun _ h => .inl h, fun _ h => h, fun _ h => .inl h⟩, fun id h => .inl h⟩
  ·have hc := h4.X b i v hx
   have hb : b < w.heap.size := by
    rcases Nat.lt_or_ge b w.heap.size with h | h
    ·exact h
    ·have : w.heap[b]? = none := Array.getElem?_eq_none h
     simp [World.cell?, this] at hc
   exact (Alike.cell (w := w) (w' := w') (.inl (hfr b hb)) hc)
  ·exact (h4.res r hm).keep rfl rfl (fun _ _ h => h) fun b hb => ⟨hfr b ((h4.res r hm).lt hb), fun _ _ h => h⟩
 have h0 := h (G.mem w) w vals (fun _ h => h.elim) (fun _ h => h) rfl ⟨fun b i v hx => hx, fun r hm => (by cases hm), List.nodup_nil, fun r hm => (by cases hm), List.nodup_nil, fun b hb => False.elim hb⟩ (by omega) fun i a' ha => by
  obtain ⟨a, q1, q2⟩ := hr i a' ha
  exact q2 G w _ h4 (h6 i a q1)
 rcases h0 with ⟨k1, k2⟩ | ⟨v, w', k1, G', out, H', r1, r2, r3, st, r5⟩
 ·exact .inl ⟨k1, k2.mono fun e w' ⟨G', out, H', r1, r2, r3, st, r5⟩ => key G' w' out H' e r1 r2 st⟩
 ·exact .inr ⟨v, w', k1, key G' w' out H' _ r1 r2 st⟩
theorem ACalls.top0 {P : Program} {f : FuncId} {top : Nat} {args : List AV} {x : Value} (h : ACalls P f 0 top args [] (fun out H' => out = .ret (.v x) ∧ H' = [])) : ACalls P f 0 0 args [] (fun out H' => out = .ret (.v x) ∧ H' = []) :=
 h.ren (Nat.zero_le _) fun out H' hh => by
  obtain ⟨rfl, rfl⟩ := hh
  exact ⟨[], .ret (.v x), [], List.nodup_nil, (fun i h => by cases h), (fun i h => absurd h (Nat.not_lt_zero i)), Nat.le_refl _, (by simp [AOut.ren, AV.ren]), rfl, rfl, rfl⟩
/-! a field of a struct that is a value -/
end Go.Am
namespace Go.Proofs.YtncffhgoopdfgaaGreat
open Go.Am
set_option maxRecDepth 100000
def sLt (a b : ByteArray) : Bool := Op.bytesLess a.toList b.toList
structure Ve where
 t : Int
 v : Va
structure Co where
 n : ByteArray
 l : List Ve
def nmB (s : ByteArray) : Bool := decide ((1 : Int) ≤ s.size ∧ (s.size : Int) ≤ 16)
theorem name_c (s : ByteArray) : ACalls Tryz.prog 116 0 0 [.v (.string s)] [] (fun out H' => out = .ret (.v (.bool (nmB s))) ∧ H' = []) := by
 refine no_implicit_lambda% (acalls_of tok dok (f := 116) ⟨Tryz.func116, rfl, by kernel_rfl⟩ ?_); refine no_implicit_lambda% (c_start (fun _ h => h) ?_)
 repeat' (first | (refine no_implicit_lambda% (zH ?_)) | (refine no_implicit_lambda% (spl (fun hc => ?_) (fun hc => ?_)) <;> first | exact zG hc | skip) | (refine no_implicit_lambda% (ans ?_)) | (with_reducible first | exact zI | exact zJ))
 all_goals (refine no_implicit_lambda% (e_ret (H' := []) (rest := _) rfl ⟨congrArg (fun z => AOut.ret (.v (.bool z))) ?_, rfl⟩ (.refl _) (LE0 rfl)); unfold nmB; (refine no_implicit_lambda% (Bool.eq_iff_iff.2 ?_); simp only [decide_eq_true_eq, decide_eq_false_iff_not, Bool.false_eq_true, Bool.and_eq_true, Bool.or_eq_true, Bool.not_eq_true', beq_iff_eq, List.length_map, true_iff, false_iff, iff_false, iff_true] at *; omega))
theorem rname_c (s : ByteArray) : ACalls Tryz.prog 106 0 0 [.v (.string s)] [] (fun out H' => out = .ret (.v (.bool (nmB s))) ∧ H' = []) := by
 refine no_implicit_lambda% (acalls_of tok dok (f := 106) ⟨Tryz.func106, rfl, by kernel_rfl⟩ ?_); refine no_implicit_lambda% (c_start (fun _ h => h) ?_)
 repeat' (first | (refine no_implicit_lambda% (zH ?_)) | (refine no_implicit_lambda% (spl (fun hc => ?_) (fun hc => ?_)) <;> first | exact zG hc | skip) | (refine no_implicit_lambda% (ans ?_)) | (with_reducible first | exact zI | exact zJ))
 all_goals (refine no_implicit_lambda% (e_ret (H' := []) (rest := _) rfl ⟨congrArg (fun z => AOut.ret (.v (.bool z))) ?_, rfl⟩ (.refl _) (LE0 rfl)); unfold nmB; (refine no_implicit_lambda% (Bool.eq_iff_iff.2 ?_); simp only [decide_eq_true_eq, decide_eq_false_iff_not, Bool.false_eq_true, Bool.and_eq_true, Bool.or_eq_true, Bool.not_eq_true', beq_iff_eq, List.length_map, true_iff, false_iff, iff_false, iff_true] at *; omega))
def vRt (v : Va) : Bool := v.kind == 1 && decide ((v.b.length : Int) ≤ 16) || v.kind == 2
def tmOk (t : Int) : Bool := decide (0 ≤ t ∧ t ≤ 1099511627776)
def ltT : Option Int → Int → Bool
 | none, _ => true
 | some q, t => decide (t < q)
def ltN : Option ByteArray → ByteArray → Bool
 | none, _ => true
 | some q, n => sLt q n
def versB : Option Int → List Ve → Bool
 | _, [] => true
 | p, x :: l => tmOk x.t && vRt x.v && ltT p x.t && versB (some x.t) l
def colB (c : Co) : Bool := nmB c.n && decide (1 ≤ c.l.length ∧ c.l.length ≤ 2) && versB none c.l
def colsB : Option ByteArray → List Co → Bool
 | _, [] => true
 | p, c :: l => colB c && ltN p c.n && colsB (some c.n) l
def rowB (r : List Co) : Bool := colsB none r && decide (r.length ≤ 4)
end Go.Proofs.YtncffhgoopdfgaaGreat
namespace Go.Proofs.YtncffhgoopdfgaaGreat
open Go.Am
set_option maxRecDepth 100000
def canE (x : Ve) : Ve := ⟨x.t, canV x.v⟩
def canC (c : Co) : Co := ⟨c.n, c.l.map canE⟩
end Go.Proofs.YtncffhgoopdfgaaGreat
namespace Go.Proofs.YtncffhgoopdfgaaGreat
open Go.Am
set_option maxRecDepth 100000
theorem cmpZ_refl (a : Int) : cmpZ a a = 0 := by unfold cmpZ; repeat' split <;> omega
theorem cb_refl : ∀ a : List UInt8, Lib.compareBytes a a = 0
 | [] => rfl
 | x :: a => by
  unfold Lib.compareBytes
  rw [if_neg (by simp), if_neg (by simp)]; exact cb_refl a
theorem cb_anti : ∀ a b : List UInt8, Lib.compareBytes a b = 0 - Lib.compareBytes b a
 | [], [] => rfl
 | [], _ :: _ => rfl
 | _ :: _, [] => rfl
 | x :: a, y :: b => by
  unfold Lib.compareBytes
  have h := cb_anti a b
  simp only [UInt8.lt_iff_toNat_lt]
  repeat' split <;> omega
theorem ord0_refl (x : Va) : ordV0 x x = 0 := by
 unfold ordV0
 rw [if_neg (by omega)]
 split
 ·exact cb_refl _
 ·split
  ·exact cmpZ_refl _
  ·rfl
end Go.Proofs.YtncffhgoopdfgaaGreat
namespace Go.Proofs.YtncffhgoopdfgaaGreat
open Go.Am
set_option maxRecDepth 100000
def Nsort (l : List Co) : Prop := l.Pairwise fun a b => sLt a.n b.n = true
end Go.Proofs.YtncffhgoopdfgaaGreat
namespace Go.Proofs.YtncffhgoopdfgaaGreat
open Go.Am
set_option maxRecDepth 100000
theorem ordV_refl (v : Va) : ordV v v = 0 := ord0_refl _
end Go.Proofs.YtncffhgoopdfgaaGreat
namespace Go.Proofs.YtncffhgoopdfgaaGreat
open Go.Am
set_option maxRecDepth 100000
end Go.Proofs.YtncffhgoopdfgaaGreat
namespace Go.Proofs.YtncffhgoopdfgaaGreat
open Go.Am
set_option maxRecDepth 100000
end Go.Proofs.YtncffhgoopdfgaaGreat
namespace Go.Proofs.YtncffhgoopdfgaaGreat
open Go.Am
set_option maxRecDepth 100000
end Go.Proofs.YtncffhgoopdfgaaGreat
namespace Go.Proofs.YtncffhgoopdfgaaGreat
open Go.Am
set_option maxRecDepth 100000
end Go.Proofs.YtncffhgoopdfgaaGreat
namespace Go.Proofs.YtncffhgoopdfgaaGreat
open Go.Am
set_option maxRecDepth 100000
end Go.Proofs.YtncffhgoopdfgaaGreat
namespace Go.Proofs.YtncffhgoopdfgaaGreat
open Go.Am
set_option maxRecDepth 100000
end Go.Proofs.YtncffhgoopdfgaaGreat
namespace Go.Proofs.YtncffhgoopdfgaaGreat
open Go.Am
set_option maxRecDepth 100000
end Go.Proofs.YtncffhgoopdfgaaGreat
namespace Go.Proofs.YtncffhgoopdfgaaGreat
open Go.Am
structure Fine (o : List Co) : Prop where
 len : o.length ≤ 4
 col : ∀ c ∈ o, colB c = true
 can : ∀ c ∈ o, canC c = c
 srt : Nsort o
theorem cols_of : ∀ (l : List Co) (p : Option ByteArray), (∀ c ∈ l, colB c = true) → Nsort l → (∀ q, p = some q → ∀ c ∈ l, sLt q c.n = true) → colsB p l = true
 | [], p, _, _, _ => rfl
 | c :: l, p, h1, h2, h3 => by
  unfold Nsort at h2
  rw [List.pairwise_cons] at h2
  unfold colsB
  simp only [Bool.and_eq_true]
  refine ⟨⟨h1 c (by simp), ?_⟩, cols_of l _ (fun d hd => h1 d (by simp [hd])) h2.2 fun q hq d hd => ?_⟩
  ·cases p with
   | none => rfl
   | some q => exact h3 q rfl c (by simp)
  ·cases hq; exact h2.1 d hd
theorem Fine.row {o : List Co} (h : Fine o) : rowB o = true := by
 unfold rowB
 rw [cols_of o none h.col h.srt (fun q hq => by cases hq), decide_eq_true h.len]; rfl
end Go.Proofs.YtncffhgoopdfgaaGreat
namespace Go.Proofs.YtncffhgoopdfgaaGreat
open Go.Am
end Go.Proofs.YtncffhgoopdfgaaGreat
namespace Go.Proofs.YtncffhgoopdfgaaGreat
open Go.Am
set_option maxRecDepth 100000
end Go.Proofs.YtncffhgoopdfgaaGreat
namespace Go.Proofs.YtncffhgoopdfgaaGreat
open Go.Am
set_option maxRecDepth 100000
end Go.Proofs.YtncffhgoopdfgaaGreat
namespace Go.Proofs.YtncffhgoopdfgaaGreat
open Go.Am
set_option maxRecDepth 100000
end Go.Proofs.YtncffhgoopdfgaaGreat
namespace Go.Am
open Go.RowKit
section
variable {P : Program} {TT : Types} {D : Dr} {all rest : List Oper} {o : Oper} {s s' : List AV} {L L' L'' : Heap} {n n' : Nat} {K : Kn} {KP : AV → Kn} {av : AV} {Kk : Kc}
end
theorem WkL.dead : ∀ (l : List AV), WkL l (List.replicate l.length .dead)
 | [] => .nil
 | a :: l => .cons (.dead a) (WkL.dead l)
end Go.Am
namespace Go.Proofs.YtncffhgoopdfgaaGreat
open Go.Am
set_option maxRecDepth 100000
end Go.Proofs.YtncffhgoopdfgaaGreat
namespace Go.Proofs.YtncffhgoopdfgaaGreat
open Go.Am
set_option maxRecDepth 100000
end Go.Proofs.YtncffhgoopdfgaaGreat
namespace Go.Proofs.YtncffhgoopdfgaaGreat
open Go.Am
set_option maxRecDepth 100000
end Go.Proofs.YtncffhgoopdfgaaGreat
namespace Go.Proofs.YtncffhgoopdfgaaGreat
open Go.Am
set_option maxRecDepth 100000
end Go.Proofs.YtncffhgoopdfgaaGreat
namespace Go.Proofs.YtncffhgoopdfgaaGreat
open Go.Am
set_option maxRecDepth 100000
end Go.Proofs.YtncffhgoopdfgaaGreat
namespace Go.Proofs.YtncffhgoopdfgaaGreat
open Go.Am
set_option maxRecDepth 100000
end Go.Proofs.YtncffhgoopdfgaaGreat
namespace Go.Proofs.YtncffhgoopdfgaaGreat
open Go.Am
set_option maxRecDepth 100000
end Go.Proofs.YtncffhgoopdfgaaGreat
namespace Go.Proofs.YtncffhgoopdfgaaGreat
open Go.Am
set_option maxRecDepth 100000
theorem pick_c (l : List ByteArray) (n : Int) (hl : 0 < l.length ∧ l.length < 1000) (h1 : -9223372036854775808 ≤ n) (h2 : n ≤ 9223372036854775807) : ACalls Tryz.prog 110 0 0 [.list (l.map fun s => [.v (.string s)]) .free, .v (.int .i64 n)] [] (fun out H' => ∃ t ∈ l, out = .ret (.v (.string t)) ∧ H' = []) := by
 have hw := wthn_c n 0 1048576 h1 h2 (by decide) (by decide) (by decide) (by decide)
 refine no_implicit_lambda% (acalls_of tok dok (f := 110) ⟨Tryz.func110, rfl, by kernel_rfl⟩ ?_); refine no_implicit_lambda% (c_start (fun _ h => h) ?_)
 have hb := wthn_bd n 0 1048576 (by decide)
 generalize wthn n 0 1048576 = w at *
 repeat' (first | (refine no_implicit_lambda% (zH ?_)) | (refine no_implicit_lambda% (spl (fun hc => ?_) (fun hc => ?_)) <;> first | exact zG hc | skip) | (refine no_implicit_lambda% (ans ?_)) | (with_reducible first | exact zI | exact zJ) | (refine no_implicit_lambda% (cal [] (hw) ?_ ?_)) | fail)
 refine no_implicit_lambda% (aqs ?_ ?_)
 ·rw [List.length_map]; omega
 have hj : 0 ≤ w.tmod ((l.map fun s => [AV.v (.string s)]).length : Int) ∧ w.tmod ((l.map fun s => [AV.v (.string s)]).length : Int) < l.length := by
  rw [List.length_map]
  exact ⟨Int.tmod_nonneg _ hb.1, Int.tmod_lt_of_pos _ (by omega)⟩
 generalize w.tmod ((l.map fun s => [AV.v (.string s)]).length : Int) = j at *
 obtain ⟨t, ht⟩ : ∃ t, l[j.toNat]? = some t := ⟨_, List.getElem?_eq_getElem (by omega)⟩
 have hix : 0 ≤ j ∧ (l.map fun s => [AV.v (.string s)])[j.toNat]? = some [.v (.string t)] ∧ ([AV.v (.string t)] : List AV).length = 1 := ⟨hj.1, by rw [List.getElem?_map, ht]; rfl, rfl⟩
 repeat' (first | (refine no_implicit_lambda% (zH ?_)) | (refine no_implicit_lambda% (spl (fun hc => ?_) (fun hc => ?_)) <;> first | exact zG hc | skip) | (refine no_implicit_lambda% (ans ?_)) | (with_reducible first | exact zI | exact zJ))
 exact e_ret (H' := []) (rest := _) rfl ⟨t, List.mem_of_getElem? ht, rfl, rfl⟩ (.refl _) (LE0 rfl)
def bsS (l : List UInt8) : ByteArray := ⟨l.toArray⟩
def colL : List ByteArray := [bsS [120], bsS [121], bsS [119], bsS [118], bsS [108, 111, 110, 103, 46, 110, 97, 109, 101, 46, 49, 54, 46, 98, 121, 116]]
theorem keepcol_c (n : Int) (h1 : -9223372036854775808 ≤ n) (h2 : n ≤ 9223372036854775807) : ACalls Tryz.prog 92 0 5 [.v (.int .i64 n)] [] (fun out H' => ∃ t ∈ colL, out = .ret (.v (.string t)) ∧ H' = []) := by
 have hp := pick_c colL n (by decide) h1 h2
 refine no_implicit_lambda% (acalls_of tok dok (f := 92) ⟨Tryz.func92, rfl, by kernel_rfl⟩ ?_); refine no_implicit_lambda% (c_start (fun _ h => h) ?_)
 repeat' (first | (refine no_implicit_lambda% (zH ?_)) | (refine no_implicit_lambda% (spl (fun hc => ?_) (fun hc => ?_)) <;> first | exact zG hc | skip) | (refine no_implicit_lambda% (ans ?_)) | (with_reducible first | exact zI | exact zJ))
 (refine no_implicit_lambda% (calw [] (hp) ?_ ?_))
 ·intro xx H' hh
  obtain ⟨t, ht, h', rfl⟩ := hh
  cases h'
  first | (refine no_implicit_lambda% (akc ?_)) | (refine no_implicit_lambda% (aec ?_))
  repeat' (first | (refine no_implicit_lambda% (zH ?_)) | (refine no_implicit_lambda% (spl (fun hc => ?_) (fun hc => ?_)) <;> first | exact zG hc | skip) | (refine no_implicit_lambda% (ans ?_)) | (with_reducible first | exact zI | exact zJ))
  exact e_ret (H' := []) (rest := _) rfl ⟨t, ht, rfl, rfl⟩ permT (LE0 rfl)
 ·intro xx H' hh
  obtain ⟨_, _, h', _⟩ := hh
  cases h'
structure Rk where
 k : Int
 c : Int
 nm : ByteArray
 t : Int
 tx : Bool
 n : Int
 x : Nat
 b : List UInt8
structure RkOk (a : Rk) : Prop where
 c : -9223372036854775808 ≤ a.c ∧ a.c ≤ 9223372036854775807
 t : -9223372036854775808 ≤ a.t ∧ a.t ≤ 9223372036854775807
 n : -9223372036854775808 ≤ a.n ∧ a.n ≤ 9223372036854775807
 x : a.x < 18446744073709551616
end Go.Proofs.YtncffhgoopdfgaaGreat
namespace Go.Proofs.YtncffhgoopdfgaaGreat
open Go.Am
set_option maxRecDepth 100000
end Go.Proofs.YtncffhgoopdfgaaGreat
namespace Go.Proofs.YtncffhgoopdfgaaGreat
open Go.Am
set_option maxRecDepth 100000
end Go.Proofs.YtncffhgoopdfgaaGreat
namespace Go.Am
open Go.RowKit Go.ChangeShapes Go.WideShapes
def cellsX (w : World) : Nat → Nat → Option Value := fun b i => w.cell? ⟨b, i, none⟩
def RowSim (X : Nat → Nat → Option Value) (row : List AV) (cs : List Value) : Prop :=
 row.length = cs.length ∧ ∀ (j : Nat) a y, row[j]? = some a → cs[j]? = some y → SimD X a y ∧ y.oneCell' = true
section
variable {H : Type} (enc : TypeId × Value → H) (P : Program) (w : World) (base : Nat) (sp : Nat → Bool) (held : Bool)
def Opn (t : TypeId) (R : List AV → Prop) : Prop := ∀ fuel cs x, DataW.trod enc P w base sp held fuel t cs = some x → ∃ row, RowSim (cellsX w) row cs ∧ R row
end
section
variable {H : Type} {enc : TypeId × Value → H} {P : Program} {w : World} {base : Nat} {sp : Nat → Bool} {held : Bool}
theorem RowSim.one {X : Nat → Nat → Option Value} {a : AV} {y : Value} (h : SimD X a y) (h1 : y.oneCell' = true) : RowSim X [a] [y] :=
 ⟨rfl, fun j b z hb hz => by
  cases j with
  | zero => simp at hb hz; subst hb; subst hz; exact ⟨h, h1⟩
  | succ j => simp at hb⟩
theorem RowSim.app {X : Nat → Nat → Option Value} {r s : List AV} {c d : List Value} (h : RowSim X r c) (k : RowSim X s d) : RowSim X (r ++ s) (c ++ d) :=
 ⟨by simp [h.1, k.1], fun j a y ha hy => by
  rw [List.getElem?_append] at ha hy
  rw [h.1] at ha
  split at ha
  ·rw [if_pos (by assumption)] at hy; exact h.2 j a y ha hy
  ·rw [if_neg (by assumption)] at hy; exact k.2 _ a y ha hy⟩
theorem opn_int {t : TypeId} {k : IntKind} (ht : P.underlying t = some (.int k)) : Opn enc P w base sp held t fun row => ∃ n, row = [.v (.int k n)] ∧ k.min ≤ n ∧ n ≤ k.max := fun fuel cs x h => by
 obtain ⟨n, rfl, _, hw⟩ := DataW.trod_int ht h
 simp only [Lit.wf, Bool.and_eq_true, decide_eq_true_eq] at hw
 exact ⟨_, .one (.v _) rfl, n, rfl, hw⟩
theorem opn_bool {t : TypeId} (ht : P.underlying t = some .bool) : Opn enc P w base sp held t fun row => ∃ b, row = [.v (.bool b)] := fun fuel cs x h => by
 obtain ⟨b, rfl, _⟩ := DataW.trod_bool ht h
 exact ⟨_, .one (.v _) rfl, b, rfl⟩
theorem opn_string {t : TypeId} (ht : P.underlying t = some .string) : Opn enc P w base sp held t fun row => ∃ s : ByteArray, row = [.v (.string s)] ∧ s.size ≤ maxLen := fun fuel cs x h => by
 obtain ⟨s, rfl, _, hs⟩ := DataW.trod_string ht h
 exact ⟨_, .one (.v _) rfl, s, rfl, hs⟩
theorem opn_float {t : TypeId} (ht : P.underlying t = some (.float .f64)) : Opn enc P w base sp held t fun row => ∃ b, row = [.v (.float .f64 b)] ∧ b < 18446744073709551616 := fun fuel cs x h => by
 cases fuel with
 | zero => simp [DataW.trod] at h
 | succ n =>
  unfold DataW.trod at h
  rw [ht] at h
  match cs, h with
  | [.float k' b], h =>
   simp only at h
   split at h
   ·rename_i hw
    obtain ⟨rfl, hw⟩ := hw
    simp only [Lit.wf, decide_eq_true_eq] at hw
    exact ⟨_, .one (.v _) rfl, b, rfl, hw⟩
   ·cases h
theorem cells_get {a : Addr} {n : Nat} {cs : List Value} (h : w.cells? base a n = some cs) : cs.length = n ∧ ∀ j, j < n → w.cell? (a.add j) = cs[j]? := by
 unfold World.cells? at h
 split at h
 ·have h1 := mapM_some_length h
  refine ⟨by simpa using h1, fun j hj => ?_⟩
  have h2 := mapM_some_get h j j (by simp [hj])
  exact h2
 ·cases h
theorem cell_spot {a : Addr} {v : Value} (h : w.cell? a = some v) : a.spot = none := by
 unfold World.cell? at h
 split at h
 ·split at h
  ·cases h
  ·rename_i h1; simpa using h1
 ·cases h
theorem add_at {a : Addr} (h : a.spot = none) (n : Nat) : a.add n = ⟨a.block, a.off + n, none⟩ := by
 obtain ⟨b, o, s⟩ := a
 simp only at h
 subst h
 unfold Addr.add
 split
 ·rename_i h0; subst h0; rfl
 ·rfl
theorem opn_slice {t e : TypeId} {s : Nat} {R : List AV → Prop} (ht : P.underlying t = some (.slice e)) (hs : P.cellsOf e = s) (h0 : 0 < s) (he : Opn enc P w base sp held e R) :
  Opn enc P w base sp held t fun row => ∃ rows, row = [.list rows .free] ∧ rows.length ≤ maxLen ∧ ∀ r ∈ rows, R r ∧ r.length = s := fun fuel cs x h => by
 rcases DataW.trod_slice ht h with ⟨rfl, _⟩ | ⟨a, len, cap, elems, rest, n, _, rfl, _, hb, hl, hm, hlen, hel, _, _⟩
 ·exact ⟨_, .one (.nil .free none 0 (Nat.zero_le _) (fun h => by cases h) (.inl rfl)) rfl, [], rfl, Nat.zero_le _, fun r hr => (List.not_mem_nil hr).elim⟩
 subst hs
 have each : ∀ i, i < len → ∃ row cs', RowSim (cellsX w) row cs' ∧ R row ∧ cs'.length = P.cellsOf e ∧ ∀ j, j < P.cellsOf e → w.cell? ((a.add (i * P.cellsOf e)).add j) = cs'[j]? := fun i hi => by
  have h1 := hel i hi
  have hi' : i < elems.length := by omega
  rw [List.getElem?_eq_getElem hi', Option.bind_eq_some_iff] at h1
  obtain ⟨cs', hcs, hy⟩ := h1
  obtain ⟨row, k1, k2⟩ := he _ _ _ hy
  obtain ⟨k3, k4⟩ := cells_get hcs
  exact ⟨row, cs', k1, k2, k3, k4⟩
 rcases Nat.eq_zero_or_pos len with rfl | hpos
 ·exact ⟨_, .one (.nil .free (some a) cap hm (fun h => by cases h) (.inl rfl)) rfl, [], rfl, Nat.zero_le _, fun r hr => (List.not_mem_nil hr).elim⟩
 have hspot : a.spot = none := by
  obtain ⟨row, cs', k1, k2, k3, k4⟩ := each 0 hpos
  have h2 := k4 0 h0
  have : cs'[0]? = some cs'[0] := List.getElem?_eq_getElem (by omega)
  rw [this] at h2
  have e : ((a.add (0 * P.cellsOf e)).add 0) = a := by simp [Addr.add]
  rw [e] at h2
  exact cell_spot h2
 have hex : ∀ m, m ≤ len → ∃ rows : List (List AV), rows.length = m ∧ (∀ r ∈ rows, R r ∧ r.length = P.cellsOf e) ∧ ∀ i row, rows[i]? = some row → ∃ cs', RowSim (cellsX w) row cs' ∧ cs'.length = P.cellsOf e ∧ ∀ j, j < P.cellsOf e → w.cell? ((a.add (i * P.cellsOf e)).add j) = cs'[j]? := by
  intro m
  induction m with
  | zero => intro _; exact ⟨[], rfl, fun r hr => (List.not_mem_nil hr).elim, fun i row h => by simp at h⟩
  | succ m ih =>
   intro hm'
   obtain ⟨rows, r1, r2, r3⟩ := ih (by omega)
   obtain ⟨row, cs', k1, k2, k3, k4⟩ := each m (by omega)
   refine ⟨rows ++ [row], by simp [r1], fun r hr => ?_, fun i row' h => ?_⟩
   ·rcases List.mem_append.1 hr with hr | hr
    ·exact r2 r hr
    ·obtain rfl := List.mem_singleton.1 hr
     exact ⟨k2, by rw [k1.1, k3]⟩
   ·rw [List.getElem?_append] at h
    split at h
    ·exact r3 i row' h
    ·rename_i hge
     have hi : i = m := by
      have := (List.getElem?_eq_some_iff.1 h).1
      simp at this; omega
     subst hi
     rw [r1, Nat.sub_self] at h
     simp at h
     subst h
     exact ⟨cs', k1, k3, k4⟩
 obtain ⟨rows, r1, r2, r3⟩ := hex len (Nat.le_refl _)
 obtain ⟨b, off, sp'⟩ := a
 simp only at hspot
 subst hspot
 refine ⟨_, .one (?_ : SimD (cellsX w) (.list rows .free) _) rfl, rows, rfl, by rw [r1]; exact Nat.le_trans hl hm, r2⟩
 have key : ∀ i row j av, rows[i]? = some row → row[j]? = some av → ∃ y, cellsX w b (off + i * P.cellsOf e + j) = some y ∧ SimD (cellsX w) av y ∧ y.oneCell' = true := fun i row j av h1 h2 => by
  obtain ⟨cs', k1, k3, k4⟩ := r3 i row h1
  have hj : j < P.cellsOf e := by
   have := (List.getElem?_eq_some_iff.1 h2).1
   rw [k1.1, k3] at this; exact this
  have hj' : j < cs'.length := by omega
  have h4 := k4 j hj
  rw [List.getElem?_eq_getElem hj'] at h4
  obtain ⟨m1, m2⟩ := k1.2 j av cs'[j] h2 (List.getElem?_eq_getElem hj')
  refine ⟨cs'[j], ?_, m1, m2⟩
  rw [add_at (a := ⟨b, off, none⟩) rfl, add_at rfl] at h4
  exact h4
 have := SimD.list (X := cellsX w) rows .free b off cap (P.cellsOf e) (fun i j => (cellsX w b (off + i * P.cellsOf e + j)).getD undef) (by omega) hm (fun h => by cases h) (.inl rfl) (fun r hr => (r2 r hr).2)
  (fun i row j av h1 h2 => by obtain ⟨y, e1, _⟩ := key i row j av h1 h2; rw [e1]; rfl) (fun i row j av h1 h2 => by obtain ⟨y, e1, e2, _⟩ := key i row j av h1 h2; rw [e1]; exact e2) (fun i row j av h1 h2 => by obtain ⟨y, e1, _, e3⟩ := key i row j av h1 h2; rw [e1]; exact e3)
 rw [r1] at this
 exact this
theorem Opn.mono {t : TypeId} {R R' : List AV → Prop} (h : Opn enc P w base sp held t R) (hr : ∀ row, R row → R' row) : Opn enc P w base sp held t R' := fun fuel cs x hx => let ⟨row, h1, h2⟩ := h fuel cs x hx; ⟨row, h1, hr row h2⟩
def AllR : List (List AV → Prop) → List AV → Prop
 | [], row => row = []
 | R :: Rs, row => ∃ r r', row = r ++ r' ∧ R r ∧ AllR Rs r'
def OpnAll (enc : TypeId × Value → H) (P : Program) (w : World) (base : Nat) (sp : Nat → Bool) (held : Bool) : Nat → List Field → List (List AV → Prop) → Nat → Prop
 | off, [], [], total => off = total
 | off, f :: fs, R :: Rs, total => f.offset = off ∧ Opn enc P w base sp held f.type R ∧ OpnAll enc P w base sp held (off + P.cellsOf f.type) fs Rs total
 | _, _, _, _ => False
theorem opn_fields : ∀ (fs : List Field) (Rs : List (List AV → Prop)) (off total n : Nat) (cs : List Value) (xs : List (DataW H × List MemPlace)), OpnAll enc P w base sp held off fs Rs total → cs.length = total →
  (∀ (i : Nat) (f : Field), fs[i]? = some f → ∃ x, DataW.trod enc P w base sp held n f.type ((cs.drop f.offset).take (P.cellsOf f.type)) = some x) → off ≤ total → ∃ row, RowSim (cellsX w) row (cs.drop off) ∧ AllR Rs row
 | [], [], off, total, n, cs, xs, h, hl, hx, ho => by
  have : off = total := h
  subst this
  refine ⟨[], ⟨by simp [hl], fun j a y h => by simp at h⟩, rfl⟩
 | f :: fs, R :: Rs, off, total, n, cs, xs, h, hl, hx, ho => by
  obtain ⟨rfl, h1, h2⟩ := h
  obtain ⟨x, hx0⟩ := hx 0 f rfl
  obtain ⟨r, k1, k2⟩ := h1 _ _ _ hx0
  have hle : f.offset + P.cellsOf f.type ≤ total := by
   have : ∀ (fs : List Field) (Rs : List (List AV → Prop)) (off total : Nat), OpnAll enc P w base sp held off fs Rs total → off ≤ total := by
    intro fs
    induction fs with
    | nil => intro Rs off total h; cases Rs with
     | nil => exact Nat.le_of_eq h
     | cons _ _ => exact h.elim
    | cons g gs ih => intro Rs off total h; cases Rs with
     | nil => exact h.elim
     | cons R Rs => exact Nat.le_trans (Nat.le_add_right _ _) (ih _ _ _ h.2.2)
   exact this _ _ _ _ h2
  obtain ⟨r', m1, m2⟩ := opn_fields fs Rs _ total n cs xs h2 hl (fun i g hg => hx (i + 1) g (by simpa using hg)) hle
  refine ⟨r ++ r', ?_, r, r', rfl, k2, m2⟩
  have e : cs.drop f.offset = (cs.drop f.offset).take (P.cellsOf f.type) ++ cs.drop (f.offset + P.cellsOf f.type) := by
   rw [← List.drop_drop, List.take_append_drop]
  rw [e]
  exact k1.app m1
 | [], _ :: _, _, _, _, _, _, h, _, _, _ => h.elim
 | _ :: _, [], _, _, _, _, _, h, _, _, _ => h.elim
theorem opn_struct {t : TypeId} {fs : Array Field} {Rs : List (List AV → Prop)} (ht : P.underlying t = some (.struct fs)) (h : OpnAll enc P w base sp held 0 fs.toList Rs (P.cellsOf t)) : Opn enc P w base sp held t (AllR Rs) := fun fuel cs x hx => by
 obtain ⟨xs, n, _, _, h1, h2, h3⟩ := DataW.trod_struct ht hx
 exact opn_fields fs.toList Rs 0 (P.cellsOf t) n cs xs h h1 (fun i f hf => by
  rw [Array.getElem?_toList] at hf
  have := h3 i f hf
  have hi : i < xs.length := by rw [h2]; exact (Array.getElem?_eq_some_iff.1 hf).1
  rw [List.getElem?_eq_getElem hi] at this
  exact ⟨_, this⟩) (Nat.zero_le _)
theorem listOf {α : Type} {f : α → List AV} {Q : α → Prop} : ∀ {rows : List (List AV)}, (∀ r ∈ rows, ∃ a, Q a ∧ r = f a) → ∃ l : List α, (∀ a ∈ l, Q a) ∧ rows = l.map f
 | [], _ => ⟨[], fun a ha => (List.not_mem_nil ha).elim, rfl⟩
 | r :: rows, h => by
  obtain ⟨a, ha, rfl⟩ := h r (by simp)
  obtain ⟨l, hl, rfl⟩ := listOf (rows := rows) fun r hr => h r (List.mem_cons_of_mem _ hr)
  exact ⟨a :: l, fun b hb => by rcases List.mem_cons.1 hb with rfl | hb; exact ha; exact hl b hb, rfl⟩
theorem opn_bytes {t e : TypeId} (ht : P.underlying t = some (.slice e)) (he : P.underlying e = some (.int .u8)) (hc : P.cellsOf e = 1) : Opn enc P w base sp held t fun row => ∃ l : List UInt8, row = [.list (l.map brow) .free] ∧ l.length ≤ maxLen :=
 (opn_slice ht hc (by decide) (opn_int he)).mono fun row ⟨rows, h1, h2, h3⟩ => by
  obtain ⟨l, _, rfl⟩ := listOf (f := brow) (Q := fun _ => True) fun r hr => by
   obtain ⟨⟨n, rfl, h4, h5⟩, _⟩ := h3 r hr
   have h4' : 0 ≤ n := h4
   have h5' : n ≤ 255 := h5
   refine ⟨UInt8.ofNat n.toNat, trivial, ?_⟩
   unfold brow
   rw [UInt8.toNat_ofNat']
   congr 3
   omega
  exact ⟨l, h1, by simpa using h2⟩
theorem Opn.arg {t : TypeId} {v : Value} {d : DataW H} {ps : List MemPlace} {R : List AV → Prop} (h : Opn enc P w base sp held t R) (hd : DataW.Trod enc P w base sp held t v d ps) (hv : v.cells = #[v]) : ∃ a, R [a] ∧ SimD (cellsX w) a v := by
 obtain ⟨fuel, hf⟩ := hd
 obtain ⟨row, h1, h2⟩ := h _ _ _ hf
 rw [hv] at h1
 have hl : row.length = 1 := h1.1
 obtain ⟨a, rfl⟩ := List.length_eq_one_iff.1 hl
 exact ⟨a, h2, (h1.2 0 a v rfl rfl).1⟩
end
end Go.Am
namespace Go.Am
section
variable {H : Type} {enc : TypeId × Value → H} {P : Program} {w : World} {base : Nat} {sp : Nat → Bool} {held : Bool}
theorem Opn.argS {t : TypeId} {cs : Array Value} {d : DataW H} {ps : List MemPlace} {R : List AV → Prop} (h : Opn enc P w base sp held t R) (hd : DataW.Trod enc P w base sp held t (.agg cs) d ps) : ∃ row, R row ∧ RowSim (cellsX w) row cs.toList := by
 obtain ⟨fuel, hf⟩ := hd
 obtain ⟨row, h1, h2⟩ := h _ _ _ hf
 exact ⟨row, h2, h1⟩
theorem RowSim.agg {G : Ghost} {row : List AV} {cs : Array Value} (h : RowSim G.X row cs.toList) : Sim G (.agg row) (.agg cs) :=
 .agg _ _ (by have := h.1; simpa using this) fun i a ha => by
  have hi : i < cs.size := by
   have := (List.getElem?_eq_some_iff.1 ha).1
   have h1 := h.1
   simp at h1; omega
  have : cs.getD i undef = cs[i] := by simp [hi]
  rw [this]
  exact .data _ _ (h.2 i a cs[i] ha (by simp [hi])).1
end
end Go.Am
namespace Go.Proofs.YtncffhgoopdfgaaGreat
open Go.Am
section
variable {H : Type} {enc : TypeId × Value → H} {w : World} {base : Nat} {sp : Nat → Bool} {held : Bool}
theorem opnBytes : Opn enc Tryz.prog w base sp held 23 fun row => ∃ l : List UInt8, row = [.list (l.map brow) .free] ∧ l.length ≤ maxLen := opn_bytes Tryz.underlying23 Tryz.underlying5 (by kernel_rfl)
def dvrow (tx : Bool) (n : Int) (x : Nat) (b : List UInt8) : List AV := [.v (.bool tx), .v (.int .i64 n), .v (.float .f64 x), .list (b.map brow) .free]
theorem opnV : Opn enc Tryz.prog w base sp held 25 fun row => ∃ tx n x b, ((-9223372036854775808 ≤ n ∧ n ≤ 9223372036854775807) ∧ x < 18446744073709551616) ∧ row = dvrow tx n x b :=
 (opn_struct Tryz.underlying25 (Rs := [fun row => ∃ b, row = [.v (.bool b)], fun row => ∃ n, row = [.v (.int .i64 n)] ∧ IntKind.i64.min ≤ n ∧ n ≤ IntKind.i64.max, fun row => ∃ b, row = [.v (.float .f64 b)] ∧ b < 18446744073709551616, fun row => ∃ l : List UInt8, row = [.list (l.map brow) .free] ∧ l.length ≤ maxLen])
  ⟨rfl, opn_bool Tryz.underlying4, by kernel_rfl, opn_int Tryz.underlying3, by kernel_rfl, opn_float Tryz.underlying22, by kernel_rfl, opnBytes, (show (_ : Nat) = _ by kernel_rfl)⟩).mono
  fun row hrow => by
   obtain ⟨_, _, e0, ⟨tx, rfl⟩, _, _, e1, ⟨n, rfl, h1, h2⟩, _, _, e2, ⟨x, rfl, hx⟩, _, _, e3, ⟨l, rfl, _⟩, e4⟩ := hrow
   refine ⟨tx, n, x, l, ⟨⟨h1, h2⟩, hx⟩, ?_⟩
   rw [e0, e1, e2, e3, e4]
   rfl
end
end Go.Proofs.YtncffhgoopdfgaaGreat
namespace Go.Proofs.YtncffhgoopdfgaaGreat
open Go.Am
set_option maxRecDepth 100000
def okV (v : Va) : Prop := v.b.length < 1073741824 ∧ v.n < 18446744073709551616 ∧ vRt v = true
theorem VOk.ok {v : Va} (h : VOk v) : okV v := by
 unfold okV vRt
 rcases h with ⟨h1, h2, h3⟩ | ⟨h1, h2, h3⟩
 ·rw [h1, h2]; exact ⟨by omega, by decide, by simp; omega⟩
 ·rw [h1, h2]; exact ⟨by decide, h3, by simp⟩
structure Dv where
 tx : Bool
 n : Int
 x : Nat
 b : List UInt8
def dvr (a : Dv) : List AV := dvrow a.tx a.n a.x a.b
def DvOk (a : Dv) : Prop := (-9223372036854775808 ≤ a.n ∧ a.n ≤ 9223372036854775807) ∧ a.x < 18446744073709551616
theorem dvmade_c (a : Dv) (h : DvOk a) : ACalls Tryz.prog 19 0 10 [.agg (dvr a)] [] (fun out H' => ∃ v, okV v ∧ out = .ret (vav v) ∧ H' = []) :=
 (vmade_c a.tx a.n a.x a.b h.1.1 h.1.2 h.2).mono fun out H' ⟨v, h1, h2, h3⟩ => ⟨v, h1.ok, h2, h3⟩
end Go.Proofs.YtncffhgoopdfgaaGreat
namespace Go.Proofs.YtncffhgoopdfgaaGreat
open Go.Am
set_option maxRecDepth 100000
end Go.Proofs.YtncffhgoopdfgaaGreat
namespace Go.Proofs.YtncffhgoopdfgaaGreat
open Go.Am
set_option maxRecDepth 100000
structure Ch where
 k : Int
 c : ByteArray
 t : Int
 v : Va
def chrow (x : Ch) : List AV := [.v (.int .i64 x.k), .v (.string x.c), .v (.int .i64 x.t)] ++ vrowV x.v
def rightC (x : Ch) : Int := if x.k < 1 ∨ 5 < x.k then 24 else if x.k = 4 then 0 else if nmB x.c = false then 1 else if x.k = 3 then 0 else if tmOk x.t = false then 1 else if x.k = 2 then 0 else if vRt x.v = false then 1 else if x.k = 5 ∧ x.v.kind ≠ 2 then 24 else 0
set_option maxHeartbeats 3200000 in
theorem refRightC_c (x : Ch) : ACalls Tryz.prog 59 0 50 [.agg (chrow x)] [] (fun out H' => out = .ret (.v (.int .i64 (rightC x))) ∧ H' = []) := by
 have h1 := rname_c x.c
 have h2 : ACalls Tryz.prog 133 0 10 [vav x.v] [] (fun out H' => out = .ret (.v (.bool (vRt x.v))) ∧ H' = []) := refRight_c x.v
 refine no_implicit_lambda% (acalls_of tok dok (f := 59) ⟨Tryz.func59, rfl, by kernel_rfl⟩ ?_); refine no_implicit_lambda% (c_start (fun _ h => h) ?_)
 repeat' (first | (refine no_implicit_lambda% (zH ?_)) | (refine no_implicit_lambda% (spl (fun hc => ?_) (fun hc => ?_)) <;> first | exact zG hc | skip) | (refine no_implicit_lambda% (ans ?_)) | (with_reducible first | exact zI | exact zJ) | (refine no_implicit_lambda% (cal [] (h1) ?_ ?_)) | (refine no_implicit_lambda% (cal [] (h2) ?_ ?_)) | fail)
 all_goals
  refine e_ret (H' := []) (rest := _) rfl ⟨congrArg (fun z => AOut.ret (.v (.int .i64 z))) ?_, rfl⟩ permT (LE0 rfl)
  clear h1 h2
  unfold rightC tmOk
  simp only [decide_eq_true_eq, decide_eq_false_iff_not, beq_iff_eq, beq_eq_false_iff_ne, bne_iff_ne, bne_eq_false_iff_eq, Bool.not_eq_true', Bool.not_eq_false', ne_eq] at *
  repeat' split
  all_goals first | rfl | (exfalso; omega) | (exfalso; simp_all; done) | (exfalso; simp_all; omega)
def ChSz (x : Ch) : Prop := x.v.b.length < 1073741824 ∧ x.v.n < 18446744073709551616
theorem chx {l : List Ch} {i : Nat} {t : Ch} (h : l[i]? = some t) : 0 ≤ (i : Int) ∧ (l.map chrow)[(i : Int).toNat]? = some (chrow t) ∧ (chrow t).length = 6 := ⟨Int.natCast_nonneg _, by rw [Int.toNat_natCast, List.getElem?_map, h]; rfl, rfl⟩
end Go.Proofs.YtncffhgoopdfgaaGreat
namespace Go.Proofs.YtncffhgoopdfgaaGreat
open Go.Am
set_option maxRecDepth 100000
structure Cw where
 k : Int
 c : Int
 t : Int
 v : Dv
def cwrow (a : Cw) : List AV := [.v (.int .i64 a.k), .v (.int .i64 a.c), .v (.int .i64 a.t)] ++ dvr a.v
structure CwOk (a : Cw) : Prop where
 k : -9223372036854775808 ≤ a.k ∧ a.k ≤ 9223372036854775807
 c : -9223372036854775808 ≤ a.c ∧ a.c ≤ 9223372036854775807
 t : -9223372036854775808 ≤ a.t ∧ a.t ≤ 9223372036854775807
 v : DvOk a.v
theorem colL_nm {s : ByteArray} (h : s ∈ colL) : nmB s = true := by
 unfold colL at h
 simp only [List.mem_cons, List.not_mem_nil, or_false] at h
 rcases h with rfl | rfl | rfl | rfl | rfl <;> decide
def ChOk (x : Ch) : Prop := ChSz x ∧ rightC x = 0
set_option maxHeartbeats 3200000 in
theorem chmade_c (a : Cw) (h : CwOk a) : ACalls Tryz.prog 91 0 100 [.agg (cwrow a)] [] (fun out H' => ∃ x, ChOk x ∧ out = .ret (.agg (chrow x)) ∧ H' = []) := by
 have w1 := wthn_c a.k 0 1048576 h.k.1 h.k.2 (by decide) (by decide) (by decide) (by decide)
 have w2 := wthn_c a.t 0 30 h.t.1 h.t.2 (by decide) (by decide) (by decide) (by decide)
 have b1 := wthn_bd a.k 0 1048576 (by decide)
 have b2 := wthn_bd a.t 0 30 (by decide)
 generalize wthn a.k 0 1048576 = k0 at *
 generalize wthn a.t 0 30 = t at *
 have hk5 := Int.tmod_lt_of_pos k0 (show (0 : Int) < 5 by decide)
 have hk0 : 0 ≤ k0.tmod 5 := Int.tmod_nonneg _ b1.1
 have hw : IntKind.i64.wrap (1 + k0.tmod 5) = 1 + k0.tmod 5 := z64 (by omega) (by omega)
 have hft := flt_c a.v.n a.v.x h.v.1.1 h.v.1.2 h.v.2
 refine no_implicit_lambda% (acalls_of tok dok (f := 91) ⟨Tryz.func91, rfl, by kernel_rfl⟩ ?_); refine no_implicit_lambda% (c_start (fun _ h => h) ?_)
 repeat' (first | (refine no_implicit_lambda% (zH ?_)) | (refine no_implicit_lambda% (spl (fun hc => ?_) (fun hc => ?_)) <;> first | exact zG hc | skip) | (refine no_implicit_lambda% (ans ?_)) | (with_reducible first | exact zI | exact zJ) | (refine no_implicit_lambda% (cal [] (w1) ?_ ?_)) | fail)
 (refine no_implicit_lambda% (cal [] (keepcol_c a.c h.c.1 h.c.2) ?_ ?_))
 ·intro xx H' hh
  obtain ⟨s, hs, h', rfl⟩ := hh
  cases h'
  first | (refine no_implicit_lambda% (akc ?_)) | (refine no_implicit_lambda% (aec ?_))
  have hsn := colL_nm hs
  repeat' (first | (refine no_implicit_lambda% (zH ?_)) | (refine no_implicit_lambda% (spl (fun hc => ?_) (fun hc => ?_)) <;> first | exact zG hc | skip) | (refine no_implicit_lambda% (ans ?_)) | (with_reducible first | exact zI | exact zJ) | (refine no_implicit_lambda% (cal [] (w2) ?_ ?_)) | fail)
  (refine no_implicit_lambda% (cal [] (dvmade_c a.v h.v) ?_ ?_))
  ·intro xx H' hh
   obtain ⟨v, hv, h', rfl⟩ := hh
   cases h'
   first | (refine no_implicit_lambda% (akc ?_)) | (refine no_implicit_lambda% (aec ?_))
   have hk : 1 ≤ IntKind.i64.wrap (1 + k0.tmod 5) ∧ IntKind.i64.wrap (1 + k0.tmod 5) ≤ 5 := by omega
   generalize IntKind.i64.wrap (1 + k0.tmod 5) = kk at *
   have htk : tmOk t = true := decide_eq_true (by omega)
   repeat' (first | (refine no_implicit_lambda% (zH ?_)) | (refine no_implicit_lambda% (spl (fun hc => ?_) (fun hc => ?_)) <;> first | exact zG hc | skip) | (refine no_implicit_lambda% (ans ?_)) | (with_reducible first | exact zI | exact zJ))
   ·(refine no_implicit_lambda% (cal [] (hft) ?_ ?_))
    ·intro xx H' hh
     obtain ⟨fb, hfb, h', rfl⟩ := hh
     cases h'
     first | (refine no_implicit_lambda% (akc ?_)) | (refine no_implicit_lambda% (aec ?_))
     repeat' (first | (refine no_implicit_lambda% (zH ?_)) | (refine no_implicit_lambda% (spl (fun hc => ?_) (fun hc => ?_)) <;> first | exact zG hc | skip) | (refine no_implicit_lambda% (ans ?_)) | (with_reducible first | exact zI | exact zJ))
     have hk5 : kk = 5 := by simpa using hc
     subst hk5
     refine e_ret_to (H' := []) (rest := _) (Conv.toT (τ := ⟨_, [(1, .box (chrow ⟨5, s, t, ⟨2, [], fb⟩⟩))], _⟩) (.refl _) ?_ (Nat.le_refl _)) rfl ⟨⟨5, s, t, ⟨2, [], fb⟩⟩, ⟨?_, ?_⟩, rfl, rfl⟩ (.of_eq rfl) (LE0 rfl)
     ·exact wkh
     ·exact ⟨show 0 < 1073741824 by decide, hfb⟩
     ·unfold rightC; rw [hsn, htk]; rfl
    ·intro xx H' hh
     obtain ⟨_, _, h', _⟩ := hh
     cases h'
   ·have hk5 : kk = 2 := by simpa using hc
    subst hk5
    refine e_ret_to (H' := []) (rest := _) (Conv.toT (τ := ⟨_, [(1, .box (chrow ⟨2, s, t, ⟨0, [], 0⟩⟩))], _⟩) (.refl _) ?_ (Nat.le_refl _)) rfl ⟨⟨2, s, t, ⟨0, [], 0⟩⟩, ⟨?_, ?_⟩, rfl, rfl⟩ (.of_eq rfl) (LE0 rfl)
    ·exact wkh
    ·exact ⟨show 0 < 1073741824 by decide, show 0 < 18446744073709551616 by decide⟩
    ·unfold rightC; rw [hsn, htk]; rfl
   ·have hk5 : kk = 3 := by simpa using hc
    subst hk5
    refine e_ret_to (H' := []) (rest := _) (Conv.toT (τ := ⟨_, [(1, .box (chrow ⟨3, s, 0, ⟨0, [], 0⟩⟩))], _⟩) (.refl _) ?_ (Nat.le_refl _)) rfl ⟨⟨3, s, 0, ⟨0, [], 0⟩⟩, ⟨?_, ?_⟩, rfl, rfl⟩ (.of_eq rfl) (LE0 rfl)
    ·exact wkh
    ·exact ⟨show 0 < 1073741824 by decide, show 0 < 18446744073709551616 by decide⟩
    ·unfold rightC; rw [hsn]; rfl
   ·have hk5 : kk = 4 := by simpa using hc
    subst hk5
    refine e_ret_to (H' := []) (rest := _) (Conv.toT (τ := ⟨_, [(1, .box (chrow ⟨4, ByteArray.empty, 0, ⟨0, [], 0⟩⟩))], _⟩) (.refl _) ?_ (Nat.le_refl _)) rfl ⟨⟨4, ByteArray.empty, 0, ⟨0, [], 0⟩⟩, ⟨?_, ?_⟩, rfl, rfl⟩ (.of_eq rfl) (LE0 rfl)
    ·exact wkh
    ·exact ⟨show 0 < 1073741824 by decide, show 0 < 18446744073709551616 by decide⟩
    ·rfl
   ·have hk5 : kk = 1 := by
     simp only [beq_eq_false_iff_ne] at *
     omega
    subst hk5
    refine e_ret_to (H' := []) (rest := _) (Conv.toT (τ := ⟨_, [(1, .box (chrow ⟨1, s, t, v⟩))], _⟩) (.refl _) ?_ (Nat.le_refl _)) rfl ⟨⟨1, s, t, v⟩, ⟨?_, ?_⟩, rfl, rfl⟩ (.of_eq rfl) (LE0 rfl)
    ·exact wkh
    ·exact ⟨hv.1, hv.2.1⟩
    ·unfold rightC; rw [hsn, htk, hv.2.2]; rfl
  ·intro xx H' hh
   obtain ⟨_, _, h', _⟩ := hh
   cases h'
 ·intro xx H' hh
  obtain ⟨_, _, h', _⟩ := hh
  cases h'
end Go.Proofs.YtncffhgoopdfgaaGreat
namespace Go.Proofs.YtncffhgoopdfgaaGreat
open Go.Am
set_option maxRecDepth 100000
def askC (k : Int) : Bool × Bool × Bool × Bool := if k = 1 ∨ k = 5 then (true, true, true, true) else if k = 2 then (true, true, false, true) else if k = 3 then (true, false, false, true) else if k = 4 then (false, false, false, true) else (false, false, false, false)
theorem asks_c (k : Int) : ACalls Tryz.prog 144 0 0 [.v (.int .i64 k)] [] (fun out H' => out = .ret (.tuple [.v (.bool (askC k).1), .v (.bool (askC k).2.1), .v (.bool (askC k).2.2.1), .v (.bool (askC k).2.2.2)]) ∧ H' = []) := by
 have hk : k = 1 ∨ k = 2 ∨ k = 3 ∨ k = 4 ∨ k = 5 ∨ (k < 1 ∨ 5 < k) := by omega
 rcases hk with hk | hk | hk | hk | hk | hk
 all_goals
  have ha : askC k = askC k := rfl
  conv at ha => rhs; unfold askC
  first
   | rw [if_pos (by omega)] at ha
   | rw [if_neg (by omega), if_pos (by omega)] at ha
   | rw [if_neg (by omega), if_neg (by omega), if_pos (by omega)] at ha
   | rw [if_neg (by omega), if_neg (by omega), if_neg (by omega), if_pos (by omega)] at ha
   | rw [if_neg (by omega), if_neg (by omega), if_neg (by omega), if_neg (by omega)] at ha
  rw [ha]
  refine no_implicit_lambda% (acalls_of tok dok (f := 144) ⟨Tryz.func144, rfl, by kernel_rfl⟩ ?_); refine no_implicit_lambda% (c_start (fun _ h => h) ?_)
  repeat' (first | (refine no_implicit_lambda% (zH ?_)) | (refine no_implicit_lambda% (spl (fun hc => ?_) (fun hc => ?_)) <;> first | exact zG hc | skip) | (refine no_implicit_lambda% (ans ?_)) | (with_reducible first | exact zI | exact zJ))
  all_goals exact e_ret (H' := []) (rest := _) rfl ⟨rfl, rfl⟩ permT (LE0 rfl)
set_option maxHeartbeats 6400000 in
theorem right5_c (x : Ch) : ACalls Tryz.prog 70 0 50 [.agg (chrow x)] [] (fun out H' => out = .ret (.v (.int .i64 (rightC x))) ∧ H' = []) := by
 have h1 := name_c x.c
 have h2 : ACalls Tryz.prog 145 0 10 [vav x.v] [] (fun out H' => out = .ret (.v (.bool (vRt x.v))) ∧ H' = []) := vright_c x.v
 have h0 := asks_c x.k
 have hk : x.k = 1 ∨ x.k = 2 ∨ x.k = 3 ∨ x.k = 4 ∨ x.k = 5 ∨ (x.k < 1 ∨ 5 < x.k) := by omega
 rcases hk with hk | hk | hk | hk | hk | hk
 all_goals
  have ha : askC x.k = askC x.k := rfl
  conv at ha => rhs; unfold askC
  first
   | rw [if_pos (by omega)] at ha
   | rw [if_neg (by omega), if_pos (by omega)] at ha
   | rw [if_neg (by omega), if_neg (by omega), if_pos (by omega)] at ha
   | rw [if_neg (by omega), if_neg (by omega), if_neg (by omega), if_pos (by omega)] at ha
   | rw [if_neg (by omega), if_neg (by omega), if_neg (by omega), if_neg (by omega)] at ha
  rw [ha] at h0
  dsimp only at h0
  refine no_implicit_lambda% (acalls_of tok dok (f := 70) ⟨Tryz.func70, rfl, by kernel_rfl⟩ ?_); refine no_implicit_lambda% (c_start (fun _ h => h) ?_)
  repeat' (first | (refine no_implicit_lambda% (zH ?_)) | (refine no_implicit_lambda% (spl (fun hc => ?_) (fun hc => ?_)) <;> first | exact zG hc | skip) | (refine no_implicit_lambda% (ans ?_)) | (with_reducible first | exact zI | exact zJ) | (refine no_implicit_lambda% (cal [] (h0) ?_ ?_)) | (refine no_implicit_lambda% (cal [] (h1) ?_ ?_)) | (refine no_implicit_lambda% (cal [] (h2) ?_ ?_)) | fail)
  all_goals
   refine e_ret (H' := []) (rest := _) rfl ⟨congrArg (fun z => AOut.ret (.v (.int .i64 z))) ?_, rfl⟩ permT (LE0 rfl)
   clear h0 h1 h2 ha
   unfold rightC tmOk
   simp only [decide_eq_true_eq, decide_eq_false_iff_not, beq_iff_eq, beq_eq_false_iff_ne, bne_iff_ne, bne_eq_false_iff_eq, Bool.not_eq_true', Bool.not_eq_false', ne_eq] at *
   repeat' split
   all_goals first | rfl | (exfalso; omega) | (exfalso; simp_all; done) | (exfalso; simp_all; omega)
end Go.Proofs.YtncffhgoopdfgaaGreat
namespace Go.Proofs.YtncffhgoopdfgaaGreat
open Go.Am
set_option maxRecDepth 100000
def encA (v : Va) : List UInt8 := if v.kind = 1 then 1 :: (be v.b.length 4 ++ v.b) else if v.kind = 2 then 2 :: be (canonB v.n) 8 else [0]
theorem k_ne {k c : Int} (h : ¬ k = c) : (k == c) = false := by simpa using h
theorem putA_w (v : Va) (hb : v.kind = 1 → v.b.length ≤ 20) (hn : v.n < 18446744073709551616) (l : List UInt8) (hl : l.length < 100000000) : ACalls Tryz.prog 147 2 10 [.ptr 0 0, vav v] (wr l) (fun out H' => out = .ret (.tuple []) ∧ H' = wr (l ++ encA v)) := by
 obtain ⟨kd, b, n⟩ := v
 simp only at hb hn
 by_cases h1 : kd = 1
 ·subst h1
  replace hb := hb rfl
  have ee : l ++ encA ⟨1, b, n⟩ = l ++ [1] ++ (be b.length 4 ++ b) := by simp [encA]
  rw [ee]
  have hT := text_c (l ++ [1]) b (by omega) (by simp; omega)
  rw [if_pos (show b.length ≤ 1048576 by omega)] at hT
  refine no_implicit_lambda% (acalls_of tok dok (f := 147) ⟨Tryz.func147, rfl, by kernel_rfl⟩ ?_); refine no_implicit_lambda% (c_start (fun _ h => h) ?_)
  refine no_implicit_lambda% (awd ?_)
  refine no_implicit_lambda% (cal [0, 1] (byte_c l 1 (by omega)) ?_ ?_)
  ·refine no_implicit_lambda% (ret1 ?_); first | (refine no_implicit_lambda% (akc ?_)) | (refine no_implicit_lambda% (aec ?_))
   refine no_implicit_lambda% (awd ?_)
   refine no_implicit_lambda% (cal [0, 1] (hT) ?_ ?_)
   ·refine no_implicit_lambda% (ret1 ?_); first | (refine no_implicit_lambda% (akc ?_)) | (refine no_implicit_lambda% (aec ?_))
    refine no_implicit_lambda% (awd ?_)
    exact e_ret (H' := wr (l ++ [1] ++ (be b.length 4 ++ b))) (rest := _) rfl ⟨rfl, rfl⟩ (.of_eq rfl) (LE0 rfl)
   ·first | (exact zI) | (exact zJ)
  ·first | (exact zI) | (exact zJ)
 ·by_cases h2 : kd = 2
  ·subst h2
   have ee : l ++ encA ⟨2, b, n⟩ = l ++ [2] ++ be (canonB n) 8 := by simp [encA]
   rw [ee]
   refine no_implicit_lambda% (acalls_of tok dok (f := 147) ⟨Tryz.func147, rfl, by kernel_rfl⟩ ?_); refine no_implicit_lambda% (c_start (fun _ h => h) ?_)
   refine no_implicit_lambda% (awd ?_)
   refine no_implicit_lambda% (cal [0, 1] (byte_c l 2 (by omega)) ?_ ?_)
   ·refine no_implicit_lambda% (ret1 ?_); first | (refine no_implicit_lambda% (akc ?_)) | (refine no_implicit_lambda% (aec ?_))
    refine no_implicit_lambda% (awd ?_)
    refine no_implicit_lambda% (cal [0, 1] (float_c (l ++ [2]) n hn (by simp; omega)) ?_ ?_)
    ·refine no_implicit_lambda% (ret1 ?_); first | (refine no_implicit_lambda% (akc ?_)) | (refine no_implicit_lambda% (aec ?_))
     refine no_implicit_lambda% (awd ?_)
     exact e_ret (H' := wr (l ++ [2] ++ be (canonB n) 8)) (rest := _) rfl ⟨rfl, rfl⟩ (.of_eq rfl) (LE0 rfl)
    ·first | (exact zI) | (exact zJ)
   ·first | (exact zI) | (exact zJ)
  ·have ee : l ++ encA ⟨kd, b, n⟩ = l ++ [0] := by simp [encA, h1, h2]
   rw [ee]
   have e1 := k_ne h1
   have e2 := k_ne h2
   refine no_implicit_lambda% (acalls_of tok dok (f := 147) ⟨Tryz.func147, rfl, by kernel_rfl⟩ ?_); refine no_implicit_lambda% (c_start (fun _ h => h) ?_)
   repeat' (first | (refine no_implicit_lambda% (zH ?_)) | (((with_reducible refine no_implicit_lambda% (zA ?_)); refine no_implicit_lambda% (zD rfl rfl rfl (fun hc => ?_) (fun hc => ?_)) <;> rw [hc])) | (((with_reducible refine no_implicit_lambda% (zB ?_)); refine no_implicit_lambda% (zE rfl (fun hc => ?_) (fun hc => ?_)))) | (((with_reducible refine no_implicit_lambda% (zC ?_)); refine no_implicit_lambda% (zF rfl rfl (fun hc => ?_) (fun hc => ?_)) <;> rw [hc])) | fail)
   ·rw [e1] at hc; cases hc
   ·rw [e2] at hc; cases hc
   ·refine no_implicit_lambda% (cal [0, 1] (byte_c l 0 (by omega)) ?_ ?_)
    ·refine no_implicit_lambda% (ret1 ?_); first | (refine no_implicit_lambda% (akc ?_)) | (refine no_implicit_lambda% (aec ?_))
     refine no_implicit_lambda% (awd ?_)
     exact e_ret (H' := wr (l ++ [0])) (rest := _) rfl ⟨rfl, rfl⟩ (.of_eq rfl) (LE0 rfl)
    ·first | (exact zI) | (exact zJ)
def GV (b : List UInt8) (v : Va) (r : List UInt8) : Prop :=
 1 ≤ b.length ∧ ((ubn (b.take 1) 0 = 1 ∧ tOk (b.drop 1) 16 ∧ v = ⟨1, ((b.drop 1).drop 4).take (ubn ((b.drop 1).take 4) 0), 0⟩ ∧ r = ((b.drop 1).drop 4).drop (ubn ((b.drop 1).take 4) 0)) ∨
  (ubn (b.take 1) 0 = 2 ∧ fOk (b.drop 1) ∧ v = ⟨2, [], ubn ((b.drop 1).take 8) 0⟩ ∧ r = (b.drop 1).drop 8))
theorem GV.fn {b : List UInt8} {v v' : Va} {r r' : List UInt8} (h : GV b v r) (h' : GV b v' r') : v = v' ∧ r = r' := by
 obtain ⟨_, ⟨h1, _, rfl, rfl⟩ | ⟨h1, _, rfl, rfl⟩⟩ := h <;> obtain ⟨_, ⟨h2, _, rfl, rfl⟩ | ⟨h2, _, rfl, rfl⟩⟩ := h'
 ·exact ⟨rfl, rfl⟩
 ·omega
 ·omega
 ·exact ⟨rfl, rfl⟩
theorem GV.n {b : List UInt8} {v : Va} {r : List UInt8} (h : GV b v r) : v.n < 18446744073709551616 := by
 obtain ⟨_, ⟨h1, _, rfl, rfl⟩ | ⟨h1, _, rfl, rfl⟩⟩ := h
 ·show 0 < _; decide
 ·exact ubn_take _ 8
theorem getA_c (b : List UInt8) (hb : b.length < 281474976710656) : ACalls Tryz.prog 152 1 20 [.ptr 0 0] (rd b) (fun out H' => (∃ v r, GV b v r ∧ out = .ret (vav v) ∧ H' = rd r) ∨ ((∀ v r, ¬ GV b v r) ∧ out = gone ∧ H' = [])) := by
 have hC := rByte_c b (by omega)
 have hT := rText_c (b.drop 1) 16 (by simp; omega)
 have hF := rFloat_c (b.drop 1) (by simp; omega)
 have g1 : tOk (b.drop 1) 16 → 1 ≤ b.length → ubn (b.take 1) 0 = 1 → GV b ⟨1, ((b.drop 1).drop 4).take (ubn ((b.drop 1).take 4) 0), 0⟩ (((b.drop 1).drop 4).drop (ubn ((b.drop 1).take 4) 0)) := fun h1 h2 h3 => ⟨h2, .inl ⟨h3, h1, rfl, rfl⟩⟩
 have g2 : fOk (b.drop 1) → 1 ≤ b.length → ubn (b.take 1) 0 = 2 → GV b ⟨2, [], ubn ((b.drop 1).take 8) 0⟩ ((b.drop 1).drop 8) := fun h1 h2 h3 => ⟨h2, .inr ⟨h3, h1, rfl, rfl⟩⟩
 have n1 : ¬ tOk (b.drop 1) 16 → ubn (b.take 1) 0 = 1 → ∀ v r, ¬ GV b v r := fun h1 h2 v r h => by
  obtain ⟨_, ⟨_, h4, _⟩ | ⟨h4, _⟩⟩ := h
  ·exact h1 h4
  ·omega
 have n2 : ¬ fOk (b.drop 1) → ubn (b.take 1) 0 = 2 → ∀ v r, ¬ GV b v r := fun h1 h2 v r h => by
  obtain ⟨_, ⟨h4, _⟩ | ⟨_, h4, _⟩⟩ := h
  ·omega
  ·exact h1 h4
 have n3 : ¬ ubn (b.take 1) 0 = 1 → ¬ ubn (b.take 1) 0 = 2 → ∀ v r, ¬ GV b v r := fun h1 h2 v r h => by
  obtain ⟨_, ⟨h4, _⟩ | ⟨h4, _⟩⟩ := h <;> omega
 have n0 : b.length < 1 → ∀ v r, ¬ GV b v r := fun h1 v r h => by
  have := h.1; omega
 have hk := ubn_take b 1
 generalize ubn (b.take 1) 0 = k at *
 generalize ((b.drop 1).drop 4).take (ubn ((b.drop 1).take 4) 0) = tx at *
 generalize ((b.drop 1).drop 4).drop (ubn ((b.drop 1).take 4) 0) = r1 at *
 generalize ubn ((b.drop 1).take 8) 0 = x at *
 generalize (b.drop 1).drop 8 = r2 at *
 have hkk : IntKind.i64.wrap (k : Int) = (k : Int) := by rw [IntKind.wrap_i64]; omega
 refine no_implicit_lambda% (acalls_of tok dok (f := 152) ⟨Tryz.func152, rfl, by kernel_rfl⟩ ?_); refine no_implicit_lambda% (c_start (fun _ h => h) ?_)
 refine no_implicit_lambda% (awd ?_)
 refine no_implicit_lambda% (cal [0] (hC) ?_ ?_)
 ·intro x H' h; rcases h with ⟨hg, h1, h2⟩ | ⟨hg, h1, h2⟩ <;> first | (cases h1; done) | (cases h1; subst h2)
  first | (refine no_implicit_lambda% (akc ?_)) | (refine no_implicit_lambda% (aec ?_))
  refine no_implicit_lambda% (awd ?_)
  rw [hkk]
  repeat' (first | (refine no_implicit_lambda% (zH ?_)) | (((with_reducible refine no_implicit_lambda% (zA ?_)); refine no_implicit_lambda% (zD rfl rfl rfl (fun hc => ?_) (fun hc => ?_)) <;> rw [hc])) | (((with_reducible refine no_implicit_lambda% (zB ?_)); refine no_implicit_lambda% (zE rfl (fun hc => ?_) (fun hc => ?_)))) | (((with_reducible refine no_implicit_lambda% (zC ?_)); refine no_implicit_lambda% (zF rfl rfl (fun hc => ?_) (fun hc => ?_)) <;> rw [hc])) | fail)
  ·obtain rfl : k = 1 := by simp at hc; omega
   refine no_implicit_lambda% (cal [0] (hT) ?_ ?_)
   ·intro x H' h; rcases h with ⟨hg, h1, h2⟩ | ⟨hg, h1, h2⟩ <;> first | (cases h1; done) | (cases h1; subst h2)
    first | (refine no_implicit_lambda% (akc ?_)) | (refine no_implicit_lambda% (aec ?_))
    refine no_implicit_lambda% (awd ?_)
    exact e_ret (H' := rd r1) (rest := _) rfl (.inl ⟨_, _, g1 hg (by assumption) rfl, rfl, rfl⟩) (.of_eq rfl) (LE0 rfl)
   ·intro x H' h; rcases h with ⟨hg, h1, h2⟩ | ⟨hg, h1, h2⟩ <;> first | (cases h1; done) | (cases h1; subst h2)
    refine no_implicit_lambda% (awd ?_)
    exact e_pan (H' := []) (rest := _) (.inr ⟨n1 hg rfl, rfl, rfl⟩) (.refl _) (LE0 rfl)
  ·obtain rfl : k = 2 := by simp at hc; omega
   refine no_implicit_lambda% (cal [0] (hF) ?_ ?_)
   ·intro x H' h; rcases h with ⟨hg, h1, h2⟩ | ⟨hg, h1, h2⟩ <;> first | (cases h1; done) | (cases h1; subst h2)
    first | (refine no_implicit_lambda% (akc ?_)) | (refine no_implicit_lambda% (aec ?_))
    refine no_implicit_lambda% (awd ?_)
    exact e_ret_to (H' := rd r2) (rest := _) (.wk (.refl _) (.cons (.refl _) (.cons (.refl _) (.cons (.box _ (.cons (.refl _) (.cons (.free _ _) (.cons (.refl _) .nil)))) (.refl _))))) rfl (.inl ⟨_, _, g2 hg (by assumption) rfl, rfl, rfl⟩) (.of_eq rfl) (LE0 rfl)
   ·intro x H' h; rcases h with ⟨hg, h1, h2⟩ | ⟨hg, h1, h2⟩ <;> first | (cases h1; done) | (cases h1; subst h2)
    refine no_implicit_lambda% (awd ?_)
    exact e_pan (H' := []) (rest := _) (.inr ⟨n2 hg rfl, rfl, rfl⟩) (.refl _) (LE0 rfl)
  ·rename_i hc1
   refine no_implicit_lambda% (cal [0] (fail_c (b.drop 1)) ?_ ?_)
   ·first | (exact zI) | (exact zJ)
   ·intro xx H' hh
    obtain ⟨h1, rfl⟩ := hh
    cases h1
    refine no_implicit_lambda% (awd ?_)
    exact e_pan (H' := []) (rest := _) (.inr ⟨n3 (by simp at hc1; omega) (by simp at hc; omega), rfl, rfl⟩) (.refl _) (LE0 rfl)
 ·intro x H' h; rcases h with ⟨hg, h1, h2⟩ | ⟨hg, h1, h2⟩ <;> first | (cases h1; done) | (cases h1; subst h2)
  refine no_implicit_lambda% (awd ?_)
  exact e_pan (H' := []) (rest := _) (.inr ⟨n0 hg, rfl, rfl⟩) (.refl _) (LE0 rfl)
end Go.Proofs.YtncffhgoopdfgaaGreat
namespace Go.Proofs.YtncffhgoopdfgaaGreat
open Go.Am
set_option maxRecDepth 100000
theorem flat_len {α : Type} (f : α → List UInt8) (k : Nat) : ∀ l : List α, (∀ x ∈ l, (f x).length ≤ k) → (l.flatMap f).length ≤ l.length * k
 | [], _ => Nat.zero_le _
 | x :: l, h => by
  have h1 := flat_len f k l fun y hy => h y (List.mem_cons_of_mem _ hy)
  have h2 := h x (by simp)
  rw [List.flatMap_cons, List.length_append, List.length_cons, Nat.add_mul]
  omega
theorem u8len (x : Nat) : IntKind.u8.wrap (x : Int) = ((UInt8.ofNat x).toNat : Int) := by
 rw [IntKind.wrap_u8]
 simp
end Go.Proofs.YtncffhgoopdfgaaGreat
namespace Go.Proofs.YtncffhgoopdfgaaGreat
open Go.Am
set_option maxRecDepth 100000
def pB (l : List UInt8) : Option (Nat × List UInt8) := if 1 ≤ l.length then some (ubn (l.take 1) 0, l.drop 1) else none
def pN (l : List UInt8) : Option (Nat × List UInt8) := if 4 ≤ l.length then some (ubn (l.take 4) 0, l.drop 4) else none
instance (l : List UInt8) (m : Int) : Decidable (tOk l m) := by unfold tOk; infer_instance
def pT (l : List UInt8) : Option (List UInt8 × List UInt8) := if tOk l 1048576 then some ((l.drop 4).take (ubn (l.take 4) 0), (l.drop 4).drop (ubn (l.take 4) 0)) else none
def bnd {α β : Type} (o : Option (α × List UInt8)) (q : α → List UInt8 → Option β) : Option β := match o with
 | some (a, r) => q a r
 | none => none
theorem bnd_some {α β : Type} (a : α) (r : List UInt8) (q : α → List UInt8 → Option β) : bnd (some (a, r)) q = q a r := rfl
def Mono {α : Type} (p : List UInt8 → Option (α × List UInt8)) : Prop := ∀ l x r y, p l = some (x, r) → p (l ++ y) = some (x, r ++ y)
theorem Mono.bnd {α β : Type} {p : List UInt8 → Option (α × List UInt8)} {q : α → List UInt8 → Option (β × List UInt8)} (hp : Mono p) (hq : ∀ a, Mono (q a)) : Mono fun l => @Go.Proofs.YtncffhgoopdfgaaGreat.bnd α (β × List UInt8) (p l) q := fun l x r y h => by
 simp only at h ⊢
 cases e : p l with
 | none => rw [e] at h; cases h
 | some a =>
  obtain ⟨a, r1⟩ := a
  rw [e] at h
  rw [hp l a r1 y e]
  exact hq a r1 x r y h
theorem pB_enc {x : Nat} (h : x < 256) (r : List UInt8) : pB ([UInt8.ofNat x] ++ r) = some (x, r) := by
 unfold pB
 rw [if_pos (by simp)]
 have : ubn (([UInt8.ofNat x] ++ r).take 1) 0 = x := by
  simp [ubn]
  omega
 rw [this]; rfl
theorem pN_enc {x : Nat} (h : x < 4294967296) (r : List UInt8) : pN (be x 4 ++ r) = some (x, r) := by
 unfold pN
 rw [if_pos (by simp [be_len]), back_be _ 4 _ (by omega), drop_be]
theorem pT_enc {b : List UInt8} (h : b.length ≤ 1048576) (r : List UInt8) : pT (be b.length 4 ++ b ++ r) = some (b, r) := by
 unfold pT
 rw [List.append_assoc]
 have hf : tOk (be b.length 4 ++ (b ++ r)) 1048576 := by
  refine ⟨by simp [be_len], ?_, fun h => ?_, ?_⟩
  ·rw [back_be _ 4 _ (by omega)]; omega
  ·rw [back_be _ 4 _ (by omega)]; omega
  ·rw [back_be _ 4 _ (by omega), drop_be]; simp
 rw [if_pos hf, back_be _ 4 _ (by omega), drop_be, List.take_append_of_le_length (Nat.le_refl _), List.take_length, List.drop_append_of_le_length (Nat.le_refl _), List.drop_length, List.nil_append]
theorem rB_c (l : List UInt8) (h : l.length < 281474976710656) : ACalls Tryz.prog 130 1 2 [.ptr 0 0] (rd l) (fun out H' => (∃ x r, pB l = some (x, r) ∧ (x < 256 ∧ r.length ≤ l.length) ∧ out = .ret (.v (.int .u8 (x : Int))) ∧ H' = rd r) ∨ (pB l = none ∧ out = gone ∧ H' = [])) :=
 (rByte_c l h).mono fun o H' hh => by
  unfold pB
  rcases hh with ⟨h1, h2, h3⟩ | ⟨h1, h2, h3⟩
  ·refine .inl ⟨_, _, if_pos h1, ⟨?_, ?_⟩, h2, h3⟩
   ·have := ubn_take l 1; omega
   ·rw [List.length_drop]; omega
  ·exact .inr ⟨if_neg (by omega), h2, h3⟩
theorem rN_c (l : List UInt8) (h : l.length < 281474976710656) : ACalls Tryz.prog 131 1 2 [.ptr 0 0] (rd l) (fun out H' => (∃ x r, pN l = some (x, r) ∧ (x < 4294967296 ∧ r.length ≤ l.length) ∧ out = .ret (.v (.int .u32 (x : Int))) ∧ H' = rd r) ∨ (pN l = none ∧ out = gone ∧ H' = [])) :=
 (rNum_c l h).mono fun o H' hh => by
  unfold pN
  rcases hh with ⟨h1, h2, h3⟩ | ⟨h1, h2, h3⟩
  ·refine .inl ⟨_, _, if_pos h1, ⟨?_, ?_⟩, h2, h3⟩
   ·have := ubn_take l 4; omega
   ·rw [List.length_drop]; omega
  ·exact .inr ⟨if_neg (by omega), h2, h3⟩
theorem rT_c (l : List UInt8) (h : l.length < 281474976710656) : ACalls Tryz.prog 132 1 3 [.ptr 0 0, .v (.int .i64 1048576)] (rd l) (fun out H' => (∃ x r, pT l = some (x, r) ∧ (x.length ≤ 1048576 ∧ r.length ≤ l.length) ∧ out = .ret (.list (x.map brow) .free) ∧ H' = rd r) ∨ (pT l = none ∧ out = gone ∧ H' = [])) :=
 (rText_c l 1048576 h).mono fun o H' hh => by
  unfold pT
  rcases hh with ⟨h1, h2, h3⟩ | ⟨h1, h2, h3⟩
  ·refine .inl ⟨_, _, if_pos h1, ⟨?_, ?_⟩, h2, h3⟩
   ·obtain ⟨_, h4, _⟩ := h1
    rw [List.length_take]; omega
   ·rw [List.length_drop, List.length_drop]; omega
  ·exact .inr ⟨if_neg h1, h2, h3⟩
end Go.Proofs.YtncffhgoopdfgaaGreat
namespace Go.Proofs.YtncffhgoopdfgaaGreat
open Go.Am
set_option maxRecDepth 100000
def pL (l : List UInt8) : Option (Nat × List UInt8) := if 8 ≤ l.length then some (ubn (l.take 8) 0, l.drop 8) else none
def pX (l : List UInt8) : Option (List UInt8 × List UInt8) := if tOk l 16 then some ((l.drop 4).take (ubn (l.take 4) 0), (l.drop 4).drop (ubn (l.take 4) 0)) else none
open Classical in
noncomputable def pV (l : List UInt8) : Option (Va × List UInt8) := if h : ∃ p : Va × List UInt8, GV l p.1 p.2 then some h.choose else none
theorem pV_some {l : List UInt8} {v : Va} {r : List UInt8} (h : GV l v r) : pV l = some (v, r) := by
 unfold pV
 have hx : ∃ p : Va × List UInt8, GV l p.1 p.2 := ⟨(v, r), h⟩
 rw [dif_pos hx]
 obtain ⟨h1, h2⟩ := GV.fn hx.choose_spec h
 rw [← h1, ← h2]
theorem pV_none {l : List UInt8} (h : ∀ v r, ¬ GV l v r) : pV l = none := by
 unfold pV
 rw [dif_neg (fun ⟨p, hp⟩ => h _ _ hp)]
theorem bnd_assoc {α β γ : Type} (p : Option (α × List UInt8)) (f : α → List UInt8 → Option (β × List UInt8)) (g : β → List UInt8 → Option γ) : bnd (bnd p f) g = bnd p fun a r => bnd (f a r) g := by
 cases p <;> rfl
theorem rL_c (l : List UInt8) (h : l.length < 281474976710656) : ACalls Tryz.prog 151 1 2 [.ptr 0 0] (rd l) (fun out H' => (∃ x r, pL l = some (x, r) ∧ (x < 18446744073709551616 ∧ r.length ≤ l.length) ∧ out = .ret (.v (.int .u64 (x : Int))) ∧ H' = rd r) ∨ (pL l = none ∧ out = gone ∧ H' = [])) :=
 (rLong_c l h).mono fun o H' hh => by
  unfold pL
  rcases hh with ⟨h1, h2, h3⟩ | ⟨h1, h2, h3⟩
  ·refine .inl ⟨_, _, if_pos h1, ⟨?_, ?_⟩, h2, h3⟩
   ·have := ubn_take l 8; omega
   ·rw [List.length_drop]; omega
  ·exact .inr ⟨if_neg (by omega), h2, h3⟩
theorem rX_c (l : List UInt8) (h : l.length < 281474976710656) : ACalls Tryz.prog 132 1 3 [.ptr 0 0, .v (.int .i64 16)] (rd l) (fun out H' => (∃ x r, pX l = some (x, r) ∧ (x.length ≤ 16 ∧ r.length ≤ l.length) ∧ out = .ret (.list (x.map brow) .free) ∧ H' = rd r) ∨ (pX l = none ∧ out = gone ∧ H' = [])) :=
 (rText_c l 16 h).mono fun o H' hh => by
  unfold pX
  rcases hh with ⟨h1, h2, h3⟩ | ⟨h1, h2, h3⟩
  ·refine .inl ⟨_, _, if_pos h1, ⟨?_, ?_⟩, h2, h3⟩
   ·have := h1.2.2.1 (by decide)
    rw [List.length_take]; omega
   ·simp only [List.length_drop]; omega
  ·exact .inr ⟨if_neg h1, h2, h3⟩
theorem GV.len {b : List UInt8} {v : Va} {r : List UInt8} (h : GV b v r) : v.b.length ≤ 16 ∧ r.length ≤ b.length := by
 obtain ⟨_, ⟨h1, h2, rfl, rfl⟩ | ⟨h1, _, rfl, rfl⟩⟩ := h
 ·have := h2.2.2.1 (by decide)
  refine ⟨?_, ?_⟩
  ·show List.length (List.take _ _) ≤ 16
   rw [List.length_take]; omega
  ·simp only [List.length_drop]; omega
 ·refine ⟨Nat.zero_le _, ?_⟩
  simp only [List.length_drop]; omega
theorem rV_c (l : List UInt8) (h : l.length < 281474976710656) : ACalls Tryz.prog 152 1 20 [.ptr 0 0] (rd l) (fun out H' => (∃ v r, pV l = some (v, r) ∧ ((v.b.length ≤ 16 ∧ v.n < 18446744073709551616) ∧ r.length ≤ l.length) ∧ out = .ret (vav v) ∧ H' = rd r) ∨ (pV l = none ∧ out = gone ∧ H' = [])) :=
 (getA_c l h).mono fun o H' hh => by
  rcases hh with ⟨v, r, hg, h2, h3⟩ | ⟨h1, h2, h3⟩
  ·exact .inl ⟨v, r, pV_some hg, ⟨⟨hg.len.1, hg.n⟩, hg.len.2⟩, h2, h3⟩
  ·exact .inr ⟨pV_none h1, h2, h3⟩
end Go.Proofs.YtncffhgoopdfgaaGreat
namespace Go.Proofs.YtncffhgoopdfgaaGreat
open Go.Am
set_option maxRecDepth 100000
end Go.Proofs.YtncffhgoopdfgaaGreat
