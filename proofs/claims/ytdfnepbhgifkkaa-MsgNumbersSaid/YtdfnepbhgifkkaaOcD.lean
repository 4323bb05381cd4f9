/- The document's writer of octets, by contracts. -/
import Derived.Test.YtdfnepbhgifkkaaOcC

namespace Go.Proofs.Ytdfnepbhgifkkaa
open Go.Am
set_option linter.unusedSimpArgs false
set_option maxRecDepth 100000
set_option linter.unusedVariables false

theorem cut_c (b : List UInt8) (n : Nat) (hn : n < 1000) : ACalls Try.prog 26 0 0 [.list (b.map brow) .free, .v (.int .i64 n)] [] (fun out H' => out = .ret (.list ((b.take n).map brow) .free) ∧ H' = []) := by
  refine acalls_of tok dok (f := 26) ⟨Try.func26, rfl, by kernel_rfl⟩ ?_; refine c_start (fun _ h => h) ?_
  refine awd ?_
  ((with_reducible refine is_cond ?_); refine c_cond rfl (fun hc => ?_) (fun hc => ?_))
  · simp only [List.length_map, gt_iff_lt, decide_eq_true_eq] at hc
    refine awd ?_
    (with_reducible refine is_aop ?_); first | (refine a_qS rfl (fun _ h => h) ?_ ?_) | (refine a_qS rfl (qIx (fun _ h => h)) ?_ ?_) | (refine a_qS rfl (qAnd5 (fun _ h => h)) ?_ ?_) | (refine a_qS rfl (qStr (fun _ h => h)) ?_ ?_) | (refine a_qS rfl (qAnd4 (fun _ h => h)) ?_ ?_) | (refine a_qS rfl (qAnd2 (fun _ h => h)) ?_ ?_)
    · refine ⟨trivial, Int.natCast_nonneg n, Nat.zero_le _, ?_, brows b⟩
      simp; omega
    refine k_as (.list ((b.take n).map brow) .free) (by simp [List.map_take, orFull, isFull, isNone]) ?_
    refine awd ?_
    exact e_ret (H' := []) rfl ⟨rfl, rfl⟩ (.refl _) (Nat.le_of_ble_eq_true rfl)
  · simp only [List.length_map, gt_iff_lt, decide_eq_false_iff_not] at hc
    refine awd ?_
    exact e_ret (H' := []) rfl ⟨by rw [List.take_of_length_le (by omega)]; rfl, rfl⟩ (.refl _) (Nat.le_of_ble_eq_true rfl)
theorem oct_of (x k m : Nat) (e : m = k) : IntKind.u8.wrap ((x : Int).fdiv (2 ^ m)) = ((UInt8.ofNat (x >>> k)).toNat : Int) := by
  subst e
  rw [IntKind.wrap_u8, UInt8.toNat_ofNat', Nat.shiftRight_eq_div_pow, Int.fdiv_eq_ediv_of_nonneg _ (Int.le_of_lt (Int.pow_pos (by decide)))]
  simp
theorem oct_0 (x : Nat) : IntKind.u8.wrap (x : Int) = ((UInt8.ofNat (x >>> 0)).toNat : Int) := by
  rw [IntKind.wrap_u8, UInt8.toNat_ofNat']; simp
def tokH (k n : Nat) : Heap := [(k, .tok 1 n)]
theorem refNum_c (b : List UInt8) (x : Nat) (hx : x < 4294967296) (h : b.length < 1073741824) : ACalls Try.prog 91 0 1 [.list (b.map brow) .free, .v (.int .u32 x)] [] (fun out H' => out = .ret (.list ((b ++ be x 4).map brow) (.tok 0)) ∧ H' = tokH 0 (b ++ be x 4).length) := by
  refine acalls_of tok dok (f := 91) ⟨Try.func91, rfl, by kernel_rfl⟩ ?_; refine c_start (fun _ h => h) ?_
  refine awd ?_
  refine e_ret (H' := tokH 0 (b ++ be x 4).length) (rest := []) rfl ⟨congrArg (fun l => AOut.ret (.list l (.tok 0))) ?_, rfl⟩ (.of_eq ?_) (Nat.le_of_ble_eq_true rfl)
  · rw [oct_of x 24 (min (Int.toNat 24) IntKind.u32.bits) rfl, oct_of x 16 (min (Int.toNat 16) IntKind.u32.bits) rfl, oct_of x 8 (min (Int.toNat 8) IntKind.u32.bits) rfl, oct_0, List.nil_append, List.map_append]
    rfl
  · simp [tokH, be_len]
theorem be_split (x : Nat) : be (x / 4294967296) 4 ++ be (x % 4294967296) 4 = be x 8 := by
  have e : ∀ k, k ≤ 3 → UInt8.ofNat ((x % 4294967296) >>> (8 * k)) = UInt8.ofNat (x >>> (8 * k)) := fun k hk => by
    apply UInt8.toNat_inj.1
    rw [UInt8.toNat_ofNat', UInt8.toNat_ofNat', Nat.shiftRight_eq_div_pow, Nat.shiftRight_eq_div_pow]
    match k, hk with
    | 0, _ => simp <;> omega
    | 1, _ => simp <;> omega
    | 2, _ => simp <;> omega
    | 3, _ => simp <;> omega
  have e2 : ∀ k, (x / 4294967296) >>> (8 * k) = x >>> (8 * (k + 4)) := fun k => by
    rw [Nat.shiftRight_eq_div_pow, Nat.shiftRight_eq_div_pow, Nat.mul_add, Nat.pow_add, Nat.mul_comm (2 ^ (8 * k)), ← Nat.div_div_eq_div_mul]
  simp only [be, e 0 (by omega), e 1 (by omega), e 2 (by omega), e 3 (by omega), e2, List.cons_append, List.nil_append]
theorem hi32 (x m : Nat) (hx : x < 18446744073709551616) (e : m = 32) : IntKind.u32.wrap ((x : Int).fdiv (2 ^ m)) = ((x / 4294967296 : Nat) : Int) := by
  subst e
  rw [IntKind.wrap_u32, Int.fdiv_eq_ediv_of_nonneg _ (Int.le_of_lt (Int.pow_pos (by decide)))]
  have : (2 : Int) ^ 32 = 4294967296 := by decide
  rw [this]
  omega
theorem lo32 (x : Nat) : IntKind.u32.wrap (x : Int) = ((x % 4294967296 : Nat) : Int) := by
  rw [IntKind.wrap_u32]; omega
theorem refLong_c (b : List UInt8) (x : Nat) (hx : x < 18446744073709551616) (h : b.length < 1073741000) : ACalls Try.prog 101 0 2 [.list (b.map brow) .free, .v (.int .u64 x)] [] (fun out H' => out = .ret (.list ((b ++ be x 8).map brow) (.tok 1)) ∧ H' = tokH 1 (b ++ be x 8).length) := by
  refine acalls_of tok dok (f := 101) ⟨Try.func101, rfl, by kernel_rfl⟩ ?_; refine c_start (fun _ h => h) ?_
  refine awd ?_
  rw [hi32 x (min (Int.toNat 32) IntKind.u64.bits) hx rfl]
  refine calw [] (refNum_c b (x / 4294967296) (by omega) (by omega)) ?_ ?_
  · refine ret1 ?_; first | (refine akc ?_) | (refine aec ?_)
    refine awd ?_
    rw [lo32]
    refine calw [] (refNum_c (b ++ be (x / 4294967296) 4) (x % 4294967296) (by omega) (by simp [be_len]; omega)) ?_ ?_
    · refine ret1 ?_; first | (refine akc ?_) | (refine aec ?_)
      refine awd ?_
      refine e_ret (H' := tokH 1 (b ++ be x 8).length) (rest := tokH 0 (b ++ be (x / 4294967296) 4).length) rfl ⟨?_, rfl⟩ (.of_eq ?_) (Nat.le_of_ble_eq_true rfl)
      · rw [← be_split x, ← List.append_assoc]; rfl
      · rw [← be_split x, ← List.append_assoc]; rfl
    · first | (exact retN) | (exact retP)
  · first | (exact retN) | (exact retP)
theorem nan_def (b : Nat) : nanB b = decide (9218868437227405312 < b % 9223372036854775808) := by
  have h : ∀ d : Ieee.Datum, (d.order d != some .eq) = d.isNaN := fun d => by
    cases d <;> simp [Ieee.Datum.order, Ieee.Datum.isNaN]
  have e1 : FloatKind.f64.format.signWeight = 9223372036854775808 := by decide
  have e2 : FloatKind.f64.format.infRung = 9218868437227405312 := by decide
  have e3 : FloatKind.f64.format.binade = 4503599627370496 := by decide
  unfold nanB Ieee.Format.order
  rw [h]
  unfold Ieee.Format.read
  simp only [e1, e2, e3]
  generalize b % 9223372036854775808 = r
  by_cases k1 : r < 4503599627370496
  · rw [if_pos k1]
    simp [Ieee.Datum.isNaN]; omega
  · rw [if_neg k1]
    by_cases k2 : r < 9218868437227405312
    · rw [if_pos k2]
      simp [Ieee.Datum.isNaN]; omega
    · rw [if_neg k2]
      by_cases k3 : r = 9218868437227405312
      · rw [if_pos k3]
        simp [Ieee.Datum.isNaN]; omega
      · rw [if_neg k3]
        simp [Ieee.Datum.isNaN]; omega
theorem and64 {a c : Nat} (ha : a < 18446744073709551616) (hc : c < 18446744073709551616) : IntKind.u64.wrap ((BitVec.ofInt IntKind.u64.bits (a : Int) &&& BitVec.ofInt IntKind.u64.bits (c : Int)).toNat : Int) = ((a &&& c : Nat) : Int) := by
  rw [BitVec.toNat_and, ofInt_nat ha, ofInt_nat hc]
  exact u64_of (Nat.lt_of_le_of_lt Nat.and_le_left ha)
theorem and_frac (b : Nat) : b &&& 4503599627370495 = b % 4503599627370496 := Nat.and_two_pow_sub_one_eq_mod b 52
theorem and_exp (b : Nat) : b &&& 9218868437227405312 = (b / 4503599627370496 % 2048) * 4503599627370496 := by
  have e1 : (9218868437227405312 : Nat) = 2047 <<< 52 := by decide
  have e2 : (b / 4503599627370496 % 2048) * 4503599627370496 = ((b >>> 52) &&& 2047) <<< 52 := by
    rw [Nat.shiftLeft_eq, Nat.shiftRight_eq_div_pow, Nat.and_two_pow_sub_one_eq_mod _ 11]
  rw [e1, e2]
  apply Nat.eq_of_testBit_eq
  intro i
  simp only [Nat.testBit_and, Nat.testBit_shiftLeft, Nat.testBit_shiftRight]
  by_cases h : 52 ≤ i
  · have : 52 + (i - 52) = i := by omega
    simp [h, this]
  · simp [h]
theorem nan_bits (b : Nat) : (b &&& 9218868437227405312 = 9218868437227405312 ∧ b &&& 4503599627370495 ≠ 0) ↔ nanB b = true := by
  rw [and_frac, and_exp, nan_def, decide_eq_true_eq]
  omega
theorem refBits_c (b : Nat) (hb : b < 18446744073709551616) : ACalls Try.prog 98 0 0 [.v (.float .f64 b)] [] (fun out H' => out = .ret (.v (.int .u64 (canonB b))) ∧ H' = []) := by
  refine acalls_of tok dok (f := 98) ⟨Try.func98, rfl, by kernel_rfl⟩ ?_; refine c_start (fun _ h => h) ?_
  refine awd ?_
  refine cal [] (bits_x b) ?_ ?_
  · refine ret1 ?_; first | (refine akc ?_) | (refine aec ?_)
    refine awd ?_
    rw [show (9218868437227405312 : Int) = ((9218868437227405312 : Nat) : Int) by rfl, and64 hb (by decide)]
    repeat' (first | (refine awd1 ?_) | (((with_reducible refine is_aops ?_); refine o_split rfl rfl rfl (fun hc => ?_) (fun hc => ?_) <;> rw [hc])) | (((with_reducible refine is_cond ?_); refine c_cond rfl (fun hc => ?_) (fun hc => ?_))) | (((with_reducible refine is_aop ?_); refine a_pick rfl rfl (fun hc => ?_) (fun hc => ?_) <;> rw [hc])) | fail)
    · rename_i h1
      have h2 := hc
      rw [show (4503599627370495 : Int) = ((4503599627370495 : Nat) : Int) by rfl, and64 hb (by decide)] at h2
      have h := (nan_bits b).1 ⟨by simp at h1; omega, by simp at h2; omega⟩
      exact e_ret (H' := []) rfl ⟨by simp [canonB, h]; rfl, rfl⟩ (.refl _) (Nat.le_of_ble_eq_true rfl)
    · rename_i h1
      have h2 := hc
      rw [show (4503599627370495 : Int) = ((4503599627370495 : Nat) : Int) by rfl, and64 hb (by decide)] at h2
      have h : nanB b = false := by
        cases hn : nanB b
        · rfl
        · have := (nan_bits b).2 hn
          simp at h2; omega
      exact e_ret (H' := []) rfl ⟨by simp [canonB, h]; rfl, rfl⟩ (.refl _) (Nat.le_of_ble_eq_true rfl)
    · have h1 := hc
      have h : nanB b = false := by
        cases hn : nanB b
        · rfl
        · have := (nan_bits b).2 hn
          simp at h1; omega
      exact e_ret (H' := []) rfl ⟨by simp [canonB, h]; rfl, rfl⟩ (.refl _) (Nat.le_of_ble_eq_true rfl)
  · first | (exact retN) | (exact retP)
theorem refFloat_c (b : List UInt8) (x : Nat) (hx : x < 18446744073709551616) (h : b.length < 1073741000) : ACalls Try.prog 66 0 2 [.list (b.map brow) .free, .v (.float .f64 x)] [] (fun out H' => out = .ret (.list ((b ++ be (canonB x) 8).map brow) (.tok 1)) ∧ H' = tokH 1 (b ++ be (canonB x) 8).length) := by
  refine acalls_of tok dok (f := 66) ⟨Try.func66, rfl, by kernel_rfl⟩ ?_; refine c_start (fun _ h => h) ?_
  refine awd ?_
  refine cal [] (refBits_c x hx) ?_ ?_
  · refine ret1 ?_; first | (refine akc ?_) | (refine aec ?_)
    refine awd ?_
    refine cal [] (refLong_c b (canonB x) (by unfold canonB; split <;> omega) h) ?_ ?_
    · refine ret1 ?_; first | (refine akc ?_) | (refine aec ?_)
      refine awd ?_
      exact e_ret (H' := tokH 1 (b ++ be (canonB x) 8).length) (rest := []) rfl ⟨rfl, rfl⟩ (.of_eq rfl) (Nat.le_of_ble_eq_true rfl)
    · first | (exact retN) | (exact retP)
  · first | (exact retN) | (exact retP)
theorem refText_c (b x : List UInt8) (h : b.length < 1073741000) (hx : x.length < 1048577) : ACalls Try.prog 56 0 1 [.list (b.map brow) .free, .list (x.map brow) .free] [] (fun out H' => out = .ret (.list ((b ++ (be x.length 4 ++ x)).map brow) (.tok 0)) ∧ H' = tokH 0 (b ++ (be x.length 4 ++ x)).length) := by
  refine acalls_of tok dok (f := 56) ⟨Try.func56, rfl, by kernel_rfl⟩ ?_; refine c_start (fun _ h => h) ?_
  refine awd ?_
  rw [show IntKind.u32.wrap ((x.map brow).length : Int) = x.length by rw [IntKind.wrap_u32, List.length_map]; omega]
  refine cal [] (refNum_c b x.length (by omega) (by omega)) ?_ ?_
  · refine ret1 ?_; first | (refine akc ?_) | (refine aec ?_)
    have hbl := be_len x.length 4
    refine awd ?_
    refine e_ret (H' := tokH 0 (b ++ (be x.length 4 ++ x)).length) (rest := []) rfl ⟨?_, rfl⟩ (.of_eq ?_) (Nat.le_of_ble_eq_true rfl)
    · rw [← List.append_assoc, List.map_append (l₁ := b ++ be x.length 4)]; rfl
    · simp [tokH, rn, Nat.add_assoc]
  · first | (exact retN) | (exact retP)
end Go.Proofs.Ytdfnepbhgifkkaa
