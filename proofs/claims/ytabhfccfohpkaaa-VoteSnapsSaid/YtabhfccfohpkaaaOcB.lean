/- The reader of octets, by contracts. -/
import Derived.Test.YtabhfccfohpkaaaOcA

namespace Go.Proofs.Ytabhfccfohpkaaa
open Go.Am
set_option linter.unusedSimpArgs false
set_option linter.unusedVariables false

/-! the reader -/
def rd (l : List UInt8) : Heap := [(0, .box [.list (l.map brow) .free])]
abbrev gone : AOut := .panic (.iface 145 (.ptr 0 0))
theorem fail_c (l : List UInt8) : ACalls Try.prog 107 1 1 [.ptr 0 0] (rd l) (fun out H' => out = gone ∧ H' = rd l) := by
  refine no_implicit_lambda% (acalls_of tok dok (f := 107) ⟨Try.func107, rfl, by kernel_rfl⟩ ?_); refine no_implicit_lambda% (c_start (fun _ h => h) ?_)
  refine no_implicit_lambda% (awd ?_)
  exact e_pan (H' := rd l) (rest := []) ⟨rfl, rfl⟩ (.of_eq rfl) (Nat.le_of_ble_eq_true rfl)
theorem take_c (l : List UInt8) (n : Nat) (h : l.length < 70368744177664) : ACalls Try.prog 128 1 2 [.ptr 0 0, .v (.int .i64 n)] (rd l) (fun out H' => (n ≤ l.length ∧ out = .ret (.list ((l.take n).map brow) .free) ∧ H' = rd (l.drop n)) ∨ (l.length < n ∧ out = gone ∧ H' = [])) := by
  refine no_implicit_lambda% (acalls_of tok dok (f := 128) ⟨Try.func128, rfl, by kernel_rfl⟩ ?_); refine no_implicit_lambda% (c_start (fun _ h => h) ?_)
  refine no_implicit_lambda% (awd ?_)
  ((with_reducible refine no_implicit_lambda% (is_cond ?_)); refine no_implicit_lambda% (c_cond rfl (fun hc => ?_) (fun hc => ?_)))
  · refine no_implicit_lambda% (awd ?_)
    refine no_implicit_lambda% (cal [0] (fail_c l) ?_ ?_)
    · first | (exact retN) | (exact retP)
    · intro x H' h
      obtain ⟨h1, h2⟩ := h
      cases h1; subst h2
      refine no_implicit_lambda% (awd ?_)
      simp only [List.length_map, gt_iff_lt, decide_eq_true_eq] at hc
      exact e_pan (H' := []) (rest := rd l) (.inr ⟨by omega, rfl, rfl⟩) (.of_eq rfl) (Nat.le_of_ble_eq_true rfl)
  · simp only [List.length_map, gt_iff_lt, decide_eq_false_iff_not] at hc
    have hn : n ≤ l.length := by omega
    refine no_implicit_lambda% (awd ?_)
    (with_reducible refine no_implicit_lambda% (is_aop ?_)); first | (refine no_implicit_lambda% (a_qS rfl (fun _ h => h) ?_ ?_)) | (refine no_implicit_lambda% (a_qS rfl (qIx (fun _ h => h)) ?_ ?_)) | (refine no_implicit_lambda% (a_qS rfl (qAnd5 (fun _ h => h)) ?_ ?_)) | (refine no_implicit_lambda% (a_qS rfl (qStr (fun _ h => h)) ?_ ?_)) | (refine no_implicit_lambda% (a_qS rfl (qAnd4 (fun _ h => h)) ?_ ?_)) | (refine no_implicit_lambda% (a_qS rfl (qAnd2 (fun _ h => h)) ?_ ?_))
    · refine ⟨trivial, Int.natCast_nonneg n, Nat.zero_le _, ?_, brows l⟩
      simpa using hn
    refine k_as (.list ((l.take n).map brow) .free) (by simp [List.map_take, orFull, isFull, isNone]) ?_
    refine no_implicit_lambda% (awd ?_)
    refine no_implicit_lambda% (cal [] (clone_c _ (brows (l.take n)) (by simp; omega)) ?_ ?_)
    · refine no_implicit_lambda% (ret1 ?_); first | (refine no_implicit_lambda% (akc ?_)) | (refine no_implicit_lambda% (aec ?_))
      refine no_implicit_lambda% (awd ?_)
      (with_reducible refine no_implicit_lambda% (is_aop ?_)); first | (refine no_implicit_lambda% (a_qS rfl (fun _ h => h) ?_ ?_)) | (refine no_implicit_lambda% (a_qS rfl (qIx (fun _ h => h)) ?_ ?_)) | (refine no_implicit_lambda% (a_qS rfl (qAnd5 (fun _ h => h)) ?_ ?_)) | (refine no_implicit_lambda% (a_qS rfl (qStr (fun _ h => h)) ?_ ?_)) | (refine no_implicit_lambda% (a_qS rfl (qAnd4 (fun _ h => h)) ?_ ?_)) | (refine no_implicit_lambda% (a_qS rfl (qAnd2 (fun _ h => h)) ?_ ?_))
      · refine ⟨Int.natCast_nonneg n, trivial, ?_, Nat.le_refl _, brows l⟩
        simpa using hn
      refine k_as (.list ((l.drop n).map brow) .free) (by rw [Int.toNat_natCast, List.take_of_length_le (Nat.le_refl _), List.map_drop]) ?_
      refine no_implicit_lambda% (awd ?_)
      exact e_ret (H' := rd (l.drop n)) (rest := []) rfl (.inl ⟨hn, rfl, rfl⟩) (.of_eq rfl) (Nat.le_of_ble_eq_true rfl)
    · first | (exact retN) | (exact retP)
/-- octets as a number, the highest first -/
def ubn : List UInt8 → Nat → Nat
  | [], a => a
  | c :: l, a => ubn l (a * 256 + c.toNat)
theorem u64_of {n : Nat} (h : n < 18446744073709551616) : IntKind.u64.wrap (n : Int) = n := by rw [IntKind.wrap_u64]; omega
theorem ofInt_nat {n : Nat} (h : n < 18446744073709551616) : (BitVec.ofInt IntKind.u64.bits (n : Int)).toNat = n := by
  show (BitVec.ofInt 64 (n : Int)).toNat = n
  rw [BitVec.toNat_ofInt]
  omega
theorem shift_in (a c : Nat) (ha : a * 256 + c < 18446744073709551616) (hc : c < 256) :
    IntKind.u64.wrap (BitVec.ofInt IntKind.u64.bits (IntKind.u64.wrap ((a : Int) * 2 ^ min (Int.toNat 8) IntKind.u64.bits)) ||| BitVec.ofInt IntKind.u64.bits (IntKind.u64.wrap (c : Int))).toNat = ((a * 256 + c : Nat) : Int) := by
  have k1 : a * 256 < 18446744073709551616 := Nat.lt_of_le_of_lt (Nat.le_add_right _ _) ha
  have k2 : c < 18446744073709551616 := Nat.lt_of_le_of_lt (Nat.le_add_left _ _) ha
  have k3 : c < 2 ^ 8 := hc
  have e1 : (a : Int) * 2 ^ min (Int.toNat 8) IntKind.u64.bits = ((a * 256 : Nat) : Int) := by
    have : min (Int.toNat 8) IntKind.u64.bits = 8 := rfl
    rw [this, Int.natCast_mul]
    have : (2 : Int) ^ 8 = ((256 : Nat) : Int) := by decide
    rw [this]
  rw [e1, u64_of k1, u64_of k2, BitVec.toNat_or, ofInt_nat k1, ofInt_nat k2]
  have e2 : a * 256 = a <<< 8 := by rw [Nat.shiftLeft_eq]
  rw [e2, ← Nat.shiftLeft_add_eq_or_of_lt k3, ← e2]
  exact u64_of ha
def numSt (l r : List UInt8) (n a i : Nat) : ASt :=
  ⟨[.ptr 0 0, .v (.int .i64 n), .dead, .dead, .v (.int .u64 0), .v (.int .u64 a), .dead, .dead, .dead, .dead, .list (l.map brow) .free, .v (.int .i64 l.length), .v (.int .i64 i), .dead, .dead, .dead, .dead, .dead, .dead, .dead, .dead, .dead, .dead], rd r, 2⟩
theorem number_c (l : List UInt8) (n : Nat) (hn : n ≤ 8) (h : l.length < 70368744177664) : ACalls Try.prog 127 1 2 [.ptr 0 0, .v (.int .i64 n)] (rd l) (fun out H' => (n ≤ l.length ∧ out = .ret (.v (.int .u64 (ubn (l.take n) 0))) ∧ H' = rd (l.drop n)) ∨ (l.length < n ∧ out = gone ∧ H' = [])) := by
  refine no_implicit_lambda% (acalls_of tok dok (f := 127) ⟨Try.func127, rfl, by kernel_rfl⟩ ?_); refine no_implicit_lambda% (c_start (fun _ h => h) ?_)
  refine no_implicit_lambda% (awd ?_)
  refine no_implicit_lambda% (cal [0] (take_c l n h) ?_ ?_)
  · intro x H' h; rcases h with ⟨hg, h1, h2⟩ | ⟨hg, h1, h2⟩ <;> first | (cases h1; done) | (cases h1; subst h2)
    refine no_implicit_lambda% (akc ?_)
    refine no_implicit_lambda% (awd ?_)
    refine c_loop2 (numSt (l.take n) (l.drop n) n) (fun a i => i ≤ (l.take n).length ∧ a < 256 ^ i ∧ ubn ((l.take n).drop i) a = ubn (l.take n) 0) (fun _ i => (l.take n).length - i) 0 0 ⟨Nat.zero_le _, by decide, rfl⟩ (.to [] ?_ (.of_eq ?_) (Nat.le_of_ble_eq_true rfl)) ?_
    · unfold numSt
      (repeat' (first | (with_reducible exact .nil) | (refine no_implicit_lambda% (.cons ?_ ?_)) | (exact Wk.dead _) | (with_reducible exact Wk.refl _) | (exact WkL.nil))) <;> first | (exact Wk.eq rfl) | (exact Wk.free _ _) | (exact Wk.int (w64 (by omega) (by omega))) | (exact Wk.int (by simp)) | (exact Wk.int (by simp; omega)) | (exact Wk.eq (by simp))
    · rfl
    · rintro a i ⟨h1, h2, h3⟩
      refine no_implicit_lambda% (c_turn (fun _ h => h) (fun _ h => h) rfl ?_)
      refine no_implicit_lambda% (awd ?_)
      generalize hL : l.take n = q at *
      ((with_reducible refine no_implicit_lambda% (is_cond ?_)); refine no_implicit_lambda% (c_cond rfl (fun hc => ?_) (fun hc => ?_)))
      · simp only [decide_eq_true_eq] at hc
        have hi : i < q.length := by omega
        have h8 : (q[i]).toNat < 256 := (q[i]).toNat_lt
        have hq : q.length ≤ n := by rw [← hL]; simp [Nat.min_le_left]
        have hb : a * 256 + (q[i]).toNat < 18446744073709551616 := by
          have h5 : 256 ^ i ≤ 256 ^ 7 := Nat.pow_le_pow_right (by decide) (by omega)
          have h6 : (256 : Nat) ^ 7 = 72057594037927936 := by decide
          omega
        refine no_implicit_lambda% (awd ?_)
        (with_reducible refine no_implicit_lambda% (is_aop ?_)); refine no_implicit_lambda% (a_qS rfl (qIx (row := [.v (.int .u8 (q[i]).toNat)]) (fun _ h => h)) ?_ ?_)
        · exact ⟨Int.natCast_nonneg i, (by rw [Int.toNat_natCast, List.getElem?_map, List.getElem?_eq_getElem hi]; rfl), rfl⟩
        refine no_implicit_lambda% (awd ?_)
        refine k_loop (a * 256 + (q[i]).toNat, i + 1) ⟨hi, ?_, ?_⟩ (by show q.length - (i + 1) < q.length - i; omega) (.to [] ?_ (.of_eq rfl) (Nat.le_of_ble_eq_true rfl))
        · show a * 256 + (q[i]).toNat < 256 ^ (i + 1)
          rw [Nat.pow_succ]; omega
        · show ubn (q.drop (i + 1)) (a * 256 + (q[i]).toNat) = ubn q 0
          rw [← h3, List.drop_eq_getElem_cons hi]; rfl
        · unfold numSt
          repeat' (first | (with_reducible exact .nil) | (refine no_implicit_lambda% (.cons ?_ ?_)) | (exact Wk.dead _) | (with_reducible exact Wk.refl _) | (exact WkL.nil))
          · exact .int (shift_in a _ hb h8)
          · exact .int (w64 (by omega) (by omega))
      · refine no_implicit_lambda% (awd ?_)
        simp only [decide_eq_false_iff_not] at hc
        have hi : i = q.length := by omega
        subst hi
        have h4 : a = ubn q 0 := by simpa [ubn] using h3
        exact e_ret (H' := rd (l.drop n)) (rest := []) rfl (.inl ⟨hg, by rw [h4]; rfl, rfl⟩) (.of_eq rfl) (Nat.le_of_ble_eq_true rfl)
  · intro x H' h; rcases h with ⟨hg, h1, h2⟩ | ⟨hg, h1, h2⟩ <;> first | (cases h1; done) | (cases h1; subst h2)
    refine no_implicit_lambda% (awd ?_)
    exact e_pan (H' := []) (rest := _) (.inr ⟨hg, rfl, rfl⟩) (.of_eq rfl) (Nat.le_of_ble_eq_true rfl)
theorem ubn_lt : ∀ (l : List UInt8) (a : Nat), ubn l a < (a + 1) * 256 ^ l.length
  | [], a => by simp [ubn]
  | c :: l, a => by
    have h := ubn_lt l (a * 256 + c.toNat)
    have hc := c.toNat_lt
    rw [ubn, List.length_cons, Nat.pow_succ, Nat.mul_comm (256 ^ l.length) 256, ← Nat.mul_assoc]
    exact Nat.lt_of_lt_of_le h (Nat.mul_le_mul_right _ (by omega))
theorem ubn_take (l : List UInt8) (n : Nat) : ubn (l.take n) 0 < 256 ^ n := by
  have h := ubn_lt (l.take n) 0
  rw [Nat.zero_add, Nat.one_mul] at h
  exact Nat.lt_of_lt_of_le h (Nat.pow_le_pow_right (by decide) (by simp [Nat.min_le_left]))
theorem rByte_c (l : List UInt8) (h : l.length < 70368744177664) : ACalls Try.prog 103 1 2 [.ptr 0 0] (rd l) (fun out H' => (1 ≤ l.length ∧ out = .ret (.v (.int .u8 (ubn (l.take 1) 0))) ∧ H' = rd (l.drop 1)) ∨ (l.length < 1 ∧ out = gone ∧ H' = [])) := by
  refine no_implicit_lambda% (acalls_of tok dok (f := 103) ⟨Try.func103, rfl, by kernel_rfl⟩ ?_); refine no_implicit_lambda% (c_start (fun _ h => h) ?_)
  refine no_implicit_lambda% (awd ?_)
  refine no_implicit_lambda% (cal [0] (number_c l 1 (by decide) h) ?_ ?_)
  · intro x H' h; rcases h with ⟨hg, h1, h2⟩ | ⟨hg, h1, h2⟩ <;> first | (cases h1; done) | (cases h1; subst h2)
    refine no_implicit_lambda% (akc ?_)
    refine no_implicit_lambda% (awd ?_)
    have hb := ubn_take l 1
    rw [show IntKind.u8.wrap (ubn (l.take 1) 0 : Int) = ubn (l.take 1) 0 by rw [IntKind.wrap_u8]; omega]
    exact e_ret (H' := rd (l.drop 1)) (rest := []) rfl (.inl ⟨hg, rfl, rfl⟩) (.of_eq rfl) (Nat.le_of_ble_eq_true rfl)
  · intro x H' h; rcases h with ⟨hg, h1, h2⟩ | ⟨hg, h1, h2⟩ <;> first | (cases h1; done) | (cases h1; subst h2)
    refine no_implicit_lambda% (awd ?_)
    exact e_pan (H' := []) (rest := _) (.inr ⟨hg, rfl, rfl⟩) (.of_eq rfl) (Nat.le_of_ble_eq_true rfl)
theorem rNum_c (l : List UInt8) (h : l.length < 70368744177664) : ACalls Try.prog 104 1 2 [.ptr 0 0] (rd l) (fun out H' => (4 ≤ l.length ∧ out = .ret (.v (.int .u32 (ubn (l.take 4) 0))) ∧ H' = rd (l.drop 4)) ∨ (l.length < 4 ∧ out = gone ∧ H' = [])) := by
  refine no_implicit_lambda% (acalls_of tok dok (f := 104) ⟨Try.func104, rfl, by kernel_rfl⟩ ?_); refine no_implicit_lambda% (c_start (fun _ h => h) ?_)
  refine no_implicit_lambda% (awd ?_)
  refine no_implicit_lambda% (cal [0] (number_c l 4 (by decide) h) ?_ ?_)
  · intro x H' h; rcases h with ⟨hg, h1, h2⟩ | ⟨hg, h1, h2⟩ <;> first | (cases h1; done) | (cases h1; subst h2)
    refine no_implicit_lambda% (akc ?_)
    refine no_implicit_lambda% (awd ?_)
    have hb := ubn_take l 4
    rw [show IntKind.u32.wrap (ubn (l.take 4) 0 : Int) = ubn (l.take 4) 0 by rw [IntKind.wrap_u32]; omega]
    exact e_ret (H' := rd (l.drop 4)) (rest := []) rfl (.inl ⟨hg, rfl, rfl⟩) (.of_eq rfl) (Nat.le_of_ble_eq_true rfl)
  · intro x H' h; rcases h with ⟨hg, h1, h2⟩ | ⟨hg, h1, h2⟩ <;> first | (cases h1; done) | (cases h1; subst h2)
    refine no_implicit_lambda% (awd ?_)
    exact e_pan (H' := []) (rest := _) (.inr ⟨hg, rfl, rfl⟩) (.of_eq rfl) (Nat.le_of_ble_eq_true rfl)
theorem canon2 (b : Nat) : canonB (canonB b) = canonB b := by
  have h : nanB 9221120237041090561 = true := by decide
  unfold canonB
  cases hb : nanB b <;> simp [hb, h]
/-- what a float's octets must be -/
def fOk (l : List UInt8) : Prop := 8 ≤ l.length ∧ canonB (ubn (l.take 8) 0) = ubn (l.take 8) 0
/-- what a text's octets must be -/
def tOk (l : List UInt8) (most : Int) : Prop := 4 ≤ l.length ∧ ubn (l.take 4) 0 ≤ 1048576 ∧ (0 ≤ most → (ubn (l.take 4) 0 : Int) ≤ most) ∧ ubn (l.take 4) 0 ≤ (l.drop 4).length
theorem rText_c (l : List UInt8) (most : Int) (h : l.length < 70368744177664) : ACalls Try.prog 106 1 3 [.ptr 0 0, .v (.int .i64 most)] (rd l) (fun out H' => (tOk l most ∧ out = .ret (.list (((l.drop 4).take (ubn (l.take 4) 0)).map brow) .free) ∧ H' = rd ((l.drop 4).drop (ubn (l.take 4) 0))) ∨ (¬ tOk l most ∧ out = gone ∧ H' = [])) := by
  refine no_implicit_lambda% (acalls_of tok dok (f := 106) ⟨Try.func106, rfl, by kernel_rfl⟩ ?_); refine no_implicit_lambda% (c_start (fun _ h => h) ?_)
  refine no_implicit_lambda% (awd ?_)
  refine no_implicit_lambda% (cal [0] (rNum_c l h) ?_ ?_)
  · intro x H' h; rcases h with ⟨hg, h1, h2⟩ | ⟨hg, h1, h2⟩ <;> first | (cases h1; done) | (cases h1; subst h2)
    refine no_implicit_lambda% (akc ?_)
    refine no_implicit_lambda% (awd ?_)
    have hb := ubn_take l 4
    rw [show IntKind.i64.wrap (ubn (l.take 4) 0 : Int) = ubn (l.take 4) 0 by rw [w64] <;> omega]
    repeat' (first | (refine no_implicit_lambda% (awd1 ?_)) | (((with_reducible refine no_implicit_lambda% (is_aops ?_)); refine no_implicit_lambda% (o_split rfl rfl rfl (fun hc => ?_) (fun hc => ?_)) <;> rw [hc])) | (((with_reducible refine no_implicit_lambda% (is_cond ?_)); refine no_implicit_lambda% (c_cond rfl (fun hc => ?_) (fun hc => ?_)))) | (((with_reducible refine no_implicit_lambda% (is_aop ?_)); refine no_implicit_lambda% (a_pick rfl rfl (fun hc => ?_) (fun hc => ?_)) <;> rw [hc])) | fail)
    · have hno : ¬ tOk l most := fun hf => by obtain ⟨_, h2, _⟩ := hf; simp at *; omega
      refine no_implicit_lambda% (cal [0] (fail_c (l.drop 4)) ?_ ?_)
      · first | (exact retN) | (exact retP)
      · intro x H' h
        obtain ⟨h1, h2⟩ := h
        cases h1; subst h2
        refine no_implicit_lambda% (awd ?_)
        exact e_pan (H' := []) (rest := _) (.inr ⟨hno, rfl, rfl⟩) (.of_eq rfl) (Nat.le_of_ble_eq_true rfl)
    · have hno : ¬ tOk l most := fun hf => by obtain ⟨_, _, h3, _⟩ := hf; simp at *; omega
      refine no_implicit_lambda% (cal [0] (fail_c (l.drop 4)) ?_ ?_)
      · first | (exact retN) | (exact retP)
      · intro x H' h
        obtain ⟨h1, h2⟩ := h
        cases h1; subst h2
        refine no_implicit_lambda% (awd ?_)
        exact e_pan (H' := []) (rest := _) (.inr ⟨hno, rfl, rfl⟩) (.of_eq rfl) (Nat.le_of_ble_eq_true rfl)
    · have hk : 4 ≤ l.length ∧ ubn (l.take 4) 0 ≤ 1048576 ∧ (0 ≤ most → (ubn (l.take 4) 0 : Int) ≤ most) := by simp at *; omega
      refine no_implicit_lambda% (cal [0] (take_c (l.drop 4) (ubn (l.take 4) 0) (by simp; omega)) ?_ ?_)
      · intro x H' h; rcases h with ⟨hg, h1, h2⟩ | ⟨hg, h1, h2⟩ <;> first | (cases h1; done) | (cases h1; subst h2)
        refine no_implicit_lambda% (akc ?_)
        refine no_implicit_lambda% (awd ?_)
        exact e_ret (H' := rd ((l.drop 4).drop (ubn (l.take 4) 0))) (rest := []) rfl (.inl ⟨⟨hk.1, hk.2.1, hk.2.2, hg⟩, rfl, rfl⟩) (.of_eq rfl) (Nat.le_of_ble_eq_true rfl)
      · intro x H' h; rcases h with ⟨hg, h1, h2⟩ | ⟨hg, h1, h2⟩ <;> first | (cases h1; done) | (cases h1; subst h2)
        refine no_implicit_lambda% (awd ?_)
        exact e_pan (H' := []) (rest := _) (.inr ⟨fun hf => by have := hf.2.2.2; omega, rfl, rfl⟩) (.of_eq rfl) (Nat.le_of_ble_eq_true rfl)
    · have hk : 4 ≤ l.length ∧ ubn (l.take 4) 0 ≤ 1048576 ∧ (0 ≤ most → (ubn (l.take 4) 0 : Int) ≤ most) := by simp at *; omega
      refine no_implicit_lambda% (cal [0] (take_c (l.drop 4) (ubn (l.take 4) 0) (by simp; omega)) ?_ ?_)
      · intro x H' h; rcases h with ⟨hg, h1, h2⟩ | ⟨hg, h1, h2⟩ <;> first | (cases h1; done) | (cases h1; subst h2)
        refine no_implicit_lambda% (akc ?_)
        refine no_implicit_lambda% (awd ?_)
        exact e_ret (H' := rd ((l.drop 4).drop (ubn (l.take 4) 0))) (rest := []) rfl (.inl ⟨⟨hk.1, hk.2.1, hk.2.2, hg⟩, rfl, rfl⟩) (.of_eq rfl) (Nat.le_of_ble_eq_true rfl)
      · intro x H' h; rcases h with ⟨hg, h1, h2⟩ | ⟨hg, h1, h2⟩ <;> first | (cases h1; done) | (cases h1; subst h2)
        refine no_implicit_lambda% (awd ?_)
        exact e_pan (H' := []) (rest := _) (.inr ⟨fun hf => by have := hf.2.2.2; omega, rfl, rfl⟩) (.of_eq rfl) (Nat.le_of_ble_eq_true rfl)
  · intro x H' h; rcases h with ⟨hg, h1, h2⟩ | ⟨hg, h1, h2⟩ <;> first | (cases h1; done) | (cases h1; subst h2)
    refine no_implicit_lambda% (awd ?_)
    exact e_pan (H' := []) (rest := _) (.inr ⟨fun hf => by have := hf.1; omega, rfl, rfl⟩) (.of_eq rfl) (Nat.le_of_ble_eq_true rfl)
theorem ubn_app : ∀ (l m : List UInt8) (a : Nat), ubn (l ++ m) a = ubn m (ubn l a)
  | [], m, a => rfl
  | c :: l, m, a => by simp [ubn, ubn_app l m]
theorem ubn_be (x : Nat) : ∀ n a, ubn (be x n) a = a * 256 ^ n + x % 256 ^ n
  | 0, a => by simp [ubn, be, Nat.mod_one]
  | n + 1, a => by
    rw [be, ubn, ubn_be x n, UInt8.toNat_ofNat', Nat.shiftRight_eq_div_pow]
    have e : 2 ^ (8 * n) = 256 ^ n := by rw [Nat.pow_mul]
    have e8 : (2 : Nat) ^ 8 = 256 := by decide
    rw [e, e8, Nat.pow_succ, Nat.mul_comm (256 ^ n) 256, Nat.add_mul, Nat.mul_assoc, Nat.add_assoc]
    congr 1
    rw [Nat.mul_comm 256 (256 ^ n), Nat.mod_mul, Nat.mul_comm (x / 256 ^ n % 256)]
    omega
theorem take_be (x n : Nat) (r : List UInt8) : (be x n ++ r).take n = be x n := by
  rw [List.take_append_of_le_length (by rw [be_len]; exact Nat.le_refl _), List.take_of_length_le (by rw [be_len]; exact Nat.le_refl _)]
theorem drop_be (x n : Nat) (r : List UInt8) : (be x n ++ r).drop n = r := by
  rw [List.drop_append_of_le_length (by rw [be_len]; exact Nat.le_refl _), List.drop_of_length_le (by rw [be_len]; exact Nat.le_refl _)]; rfl
theorem back_be (x n : Nat) (r : List UInt8) (h : x < 256 ^ n) : ubn ((be x n ++ r).take n) 0 = x := by
  rw [take_be, ubn_be, Nat.mod_eq_of_lt h, Nat.zero_mul, Nat.zero_add]
theorem cut_c (b : List UInt8) (n : Nat) (hn : n < 1000) : ACalls Try.prog 30 0 0 [.list (b.map brow) .free, .v (.int .i64 n)] [] (fun out H' => out = .ret (.list ((b.take n).map brow) .free) ∧ H' = []) := by
  refine no_implicit_lambda% (acalls_of tok dok (f := 30) ⟨Try.func30, rfl, by kernel_rfl⟩ ?_); refine no_implicit_lambda% (c_start (fun _ h => h) ?_)
  refine no_implicit_lambda% (awd ?_)
  ((with_reducible refine no_implicit_lambda% (is_cond ?_)); refine no_implicit_lambda% (c_cond rfl (fun hc => ?_) (fun hc => ?_)))
  · simp only [List.length_map, gt_iff_lt, decide_eq_true_eq] at hc
    refine no_implicit_lambda% (awd ?_)
    (with_reducible refine no_implicit_lambda% (is_aop ?_)); first | (refine no_implicit_lambda% (a_qS rfl (fun _ h => h) ?_ ?_)) | (refine no_implicit_lambda% (a_qS rfl (qIx (fun _ h => h)) ?_ ?_)) | (refine no_implicit_lambda% (a_qS rfl (qAnd5 (fun _ h => h)) ?_ ?_)) | (refine no_implicit_lambda% (a_qS rfl (qStr (fun _ h => h)) ?_ ?_)) | (refine no_implicit_lambda% (a_qS rfl (qAnd4 (fun _ h => h)) ?_ ?_)) | (refine no_implicit_lambda% (a_qS rfl (qAnd2 (fun _ h => h)) ?_ ?_))
    · refine ⟨trivial, Int.natCast_nonneg n, Nat.zero_le _, ?_, brows b⟩
      simp; omega
    refine k_as (.list ((b.take n).map brow) .free) (by simp [List.map_take, orFull, isFull, isNone]) ?_
    refine no_implicit_lambda% (awd ?_)
    exact e_ret (H' := []) rfl ⟨rfl, rfl⟩ (.refl _) (Nat.le_of_ble_eq_true rfl)
  · simp only [List.length_map, gt_iff_lt, decide_eq_false_iff_not] at hc
    refine no_implicit_lambda% (awd ?_)
    exact e_ret (H' := []) rfl ⟨by rw [List.take_of_length_le (by omega)]; rfl, rfl⟩ (.refl _) (Nat.le_of_ble_eq_true rfl)
end Go.Proofs.Ytabhfccfohpkaaa
