/- Part 4 of what the laws RowsBytes rest on: OcB, AmDf, OcC, OcD, Vb, Rd, Vf, Vg, AmSl, AmBw, RwA, RwC, Vc, RwD, RwE. -/
import Derived.Test.YtjepgbpcpcahgaaGreatP3
import Derived.Recover
import Derived.LaidEql
set_option linter.unusedSimpArgs false
set_option linter.unusedVariables false
namespace Go.Proofs.YtjepgbpcpcahgaaGreat
open Go.Am
/-! the reader -/
def rd (l : List UInt8) : Heap := [(0, .box [.list (l.map brow) .free])]
abbrev gone : AOut := .panic (.iface 75 (.ptr 0 0))
theorem fail_c (l : List UInt8) : ACalls Tryz.prog 91 1 1 [.ptr 0 0] (rd l) (fun out H' => out = gone ∧ H' = rd l) := by
 refine no_implicit_lambda% (acalls_of tok dok (f := 91) ⟨Tryz.func91, rfl, by kernel_rfl⟩ ?_); refine no_implicit_lambda% (c_start (fun _ h => h) ?_)
 refine no_implicit_lambda% (awd ?_)
 exact e_pan (H' := rd l) (rest := []) ⟨rfl, rfl⟩ (.of_eq rfl) (LE0 rfl)
theorem take_c (l : List UInt8) (n : Nat) (h : l.length < 70368744177664) : ACalls Tryz.prog 136 1 2 [.ptr 0 0, .v (.int .i64 n)] (rd l) (fun out H' => (n ≤ l.length ∧ out = .ret (.list ((l.take n).map brow) .free) ∧ H' = rd (l.drop n)) ∨ (l.length < n ∧ out = gone ∧ H' = [])) := by
 refine no_implicit_lambda% (acalls_of tok dok (f := 136) ⟨Tryz.func136, rfl, by kernel_rfl⟩ ?_); refine no_implicit_lambda% (c_start (fun _ h => h) ?_)
 refine no_implicit_lambda% (awd ?_)
 ((with_reducible refine no_implicit_lambda% (zB ?_)); refine no_implicit_lambda% (zE rfl (fun hc => ?_) (fun hc => ?_)))
 ·refine no_implicit_lambda% (awd ?_)
  refine no_implicit_lambda% (cal [0] (fail_c l) ?_ ?_)
  ·first | (exact zI) | (exact zJ)
  ·intro x H' h
   obtain ⟨h1, h2⟩ := h
   cases h1; subst h2
   refine no_implicit_lambda% (awd ?_)
   simp only [List.length_map, gt_iff_lt, decide_eq_true_eq] at hc
   exact e_pan (H' := []) (rest := rd l) (.inr ⟨by omega, rfl, rfl⟩) (.of_eq rfl) (LE0 rfl)
 ·simp only [List.length_map, gt_iff_lt, decide_eq_false_iff_not] at hc
  have hn : n ≤ l.length := by omega
  refine no_implicit_lambda% (awd ?_)
  (with_reducible refine no_implicit_lambda% (zC ?_)); first | (refine no_implicit_lambda% (a_qS rfl (fun _ h => h) ?_ ?_)) | (refine no_implicit_lambda% (a_qS rfl (qIx (fun _ h => h)) ?_ ?_)) | (refine no_implicit_lambda% (a_qS rfl (qAnd5 (fun _ h => h)) ?_ ?_)) | (refine no_implicit_lambda% (a_qS rfl (qStr (fun _ h => h)) ?_ ?_)) | (refine no_implicit_lambda% (a_qS rfl (qAnd4 (fun _ h => h)) ?_ ?_)) | (refine no_implicit_lambda% (a_qS rfl (qAnd2 (fun _ h => h)) ?_ ?_))
  ·refine ⟨trivial, Int.natCast_nonneg n, Nat.zero_le _, ?_, brows l⟩
   simpa using hn
  refine k_as (.list ((l.take n).map brow) .free) (by simp [List.map_take, orFull, isFull, isNone]) ?_
  refine no_implicit_lambda% (awd ?_)
  refine no_implicit_lambda% (cal [] (clone_c _ (brows (l.take n)) (by simp; omega)) ?_ ?_)
  ·refine no_implicit_lambda% (ret1 ?_); first | (refine no_implicit_lambda% (akc ?_)) | (refine no_implicit_lambda% (aec ?_))
   refine no_implicit_lambda% (awd ?_)
   (with_reducible refine no_implicit_lambda% (zC ?_)); first | (refine no_implicit_lambda% (a_qS rfl (fun _ h => h) ?_ ?_)) | (refine no_implicit_lambda% (a_qS rfl (qIx (fun _ h => h)) ?_ ?_)) | (refine no_implicit_lambda% (a_qS rfl (qAnd5 (fun _ h => h)) ?_ ?_)) | (refine no_implicit_lambda% (a_qS rfl (qStr (fun _ h => h)) ?_ ?_)) | (refine no_implicit_lambda% (a_qS rfl (qAnd4 (fun _ h => h)) ?_ ?_)) | (refine no_implicit_lambda% (a_qS rfl (qAnd2 (fun _ h => h)) ?_ ?_))
   ·refine ⟨Int.natCast_nonneg n, trivial, ?_, Nat.le_refl _, brows l⟩
    simpa using hn
   refine k_as (.list ((l.drop n).map brow) .free) (by rw [Int.toNat_natCast, List.take_of_length_le (Nat.le_refl _), List.map_drop]) ?_
   refine no_implicit_lambda% (awd ?_)
   exact e_ret (H' := rd (l.drop n)) (rest := []) rfl (.inl ⟨hn, rfl, rfl⟩) (.of_eq rfl) (LE0 rfl)
  ·first | (exact zI) | (exact zJ)
def ubn : List UInt8 → Nat → Nat
 | [], a => a
 | c :: l, a => ubn l (a * 256 + c.toNat)
theorem u64_of {n : Nat} (h : n < 18446744073709551616) : IntKind.u64.wrap (n : Int) = n := by rw [IntKind.wrap_u64]; omega
theorem ofInt_nat {n : Nat} (h : n < 18446744073709551616) : (BitVec.ofInt IntKind.u64.bits (n : Int)).toNat = n := by
 show (BitVec.ofInt 64 (n : Int)).toNat = n
 rw [BitVec.toNat_ofInt]
 omega
theorem shift_in (a c : Nat) (ha : a * 256 + c < 18446744073709551616) (hc : c < 256) :
  IntKind.u64.wrap (BitVec.ofInt IntKind.u64.bits (IntKind.u64.wrap ((a : Int) * 2 ^ min (Int.toNat 8) IntKind.u64.bits)) ||| BitVec.ofInt IntKind.u64.bits (IntKind.u64.wrap (c : Int))).toNat = ((a * 256 + c : Nat) : Int) := by
 have k1 : a * 256 < 18446744073709551616 := Nat.lt_of_le_of_lt (Nat.le_add_right _ _) ha
 have k2 : c < 18446744073709551616 := Nat.lt_of_le_of_lt (Nat.le_add_left _ _) ha
 have k3 : c < 2 ^ 8 := hc
 have e1 : (a : Int) * 2 ^ min (Int.toNat 8) IntKind.u64.bits = ((a * 256 : Nat) : Int) := by
  have : min (Int.toNat 8) IntKind.u64.bits = 8 := rfl
  rw [this, Int.natCast_mul]
  have : (2 : Int) ^ 8 = ((256 : Nat) : Int) := by decide
  rw [this]
 rw [e1, u64_of k1, u64_of k2, BitVec.toNat_or, ofInt_nat k1, ofInt_nat k2]
 have e2 : a * 256 = a <<< 8 := by rw [Nat.shiftLeft_eq]
 rw [e2, ← Nat.shiftLeft_add_eq_or_of_lt k3, ← e2]
 exact u64_of ha
def numSt (l r : List UInt8) (n a i : Nat) : ASt :=
 ⟨[.ptr 0 0, .v (.int .i64 n), .dead, .dead, .v (.int .u64 0), .v (.int .u64 a), .dead, .dead, .dead, .dead, .list (l.map brow) .free, .v (.int .i64 l.length), .v (.int .i64 i), .dead, .dead, .dead, .dead, .dead, .dead, .dead, .dead, .dead, .dead], rd r, 2⟩
theorem number_c (l : List UInt8) (n : Nat) (hn : n ≤ 8) (h : l.length < 70368744177664) : ACalls Tryz.prog 135 1 2 [.ptr 0 0, .v (.int .i64 n)] (rd l) (fun out H' => (n ≤ l.length ∧ out = .ret (.v (.int .u64 (ubn (l.take n) 0))) ∧ H' = rd (l.drop n)) ∨ (l.length < n ∧ out = gone ∧ H' = [])) := by
 refine no_implicit_lambda% (acalls_of tok dok (f := 135) ⟨Tryz.func135, rfl, by kernel_rfl⟩ ?_); refine no_implicit_lambda% (c_start (fun _ h => h) ?_)
 refine no_implicit_lambda% (awd ?_)
 refine no_implicit_lambda% (cal [0] (take_c l n h) ?_ ?_)
 ·intro x H' h; rcases h with ⟨hg, h1, h2⟩ | ⟨hg, h1, h2⟩ <;> first | (cases h1; done) | (cases h1; subst h2)
  refine no_implicit_lambda% (akc ?_)
  refine no_implicit_lambda% (awd ?_)
  refine c_loop2 (numSt (l.take n) (l.drop n) n) (fun a i => i ≤ (l.take n).length ∧ a < 256 ^ i ∧ ubn ((l.take n).drop i) a = ubn (l.take n) 0) (fun _ i => (l.take n).length - i) 0 0 ⟨Nat.zero_le _, by decide, rfl⟩ (.to [] ?_ (.of_eq ?_) (LE0 rfl)) ?_
  ·unfold numSt
   (repeat' (first | (with_reducible exact .nil) | (refine no_implicit_lambda% (.cons ?_ ?_)) | (exact Wk.dead _) | (with_reducible exact Wk.refl _) | (exact WkL.nil))) <;> first | (exact Wk.eq rfl) | (exact Wk.free _ _) | (exact Wk.int (w64 (by omega) (by omega))) | (exact Wk.int (by simp)) | (exact Wk.int (by simp; omega)) | (exact Wk.eq (by simp))
  ·rfl
  ·rintro a i ⟨h1, h2, h3⟩
   refine no_implicit_lambda% (c_turn (fun _ h => h) (fun _ h => h) rfl ?_)
   refine no_implicit_lambda% (awd ?_)
   generalize hL : l.take n = q at *
   ((with_reducible refine no_implicit_lambda% (zB ?_)); refine no_implicit_lambda% (zE rfl (fun hc => ?_) (fun hc => ?_)))
   ·simp only [decide_eq_true_eq] at hc
    have hi : i < q.length := by omega
    have h8 : (q[i]).toNat < 256 := (q[i]).toNat_lt
    have hq : q.length ≤ n := by rw [← hL]; simp [Nat.min_le_left]
    have hb : a * 256 + (q[i]).toNat < 18446744073709551616 := by
     have h5 : 256 ^ i ≤ 256 ^ 7 := Nat.pow_le_pow_right (by decide) (by omega)
     have h6 : (256 : Nat) ^ 7 = 72057594037927936 := by decide
     omega
    refine no_implicit_lambda% (awd ?_)
    (with_reducible refine no_implicit_lambda% (zC ?_)); refine no_implicit_lambda% (a_qS rfl (qIx (row := [.v (.int .u8 (q[i]).toNat)]) (fun _ h => h)) ?_ ?_)
    ·exact ⟨Int.natCast_nonneg i, (by rw [Int.toNat_natCast, List.getElem?_map, List.getElem?_eq_getElem hi]; rfl), rfl⟩
    refine no_implicit_lambda% (awd ?_)
    refine k_loop (a * 256 + (q[i]).toNat, i + 1) ⟨hi, ?_, ?_⟩ (by show q.length - (i + 1) < q.length - i; omega) (.to [] ?_ (.of_eq rfl) (LE0 rfl))
    ·show a * 256 + (q[i]).toNat < 256 ^ (i + 1)
     rw [Nat.pow_succ]; omega
    ·show ubn (q.drop (i + 1)) (a * 256 + (q[i]).toNat) = ubn q 0
     rw [← h3, List.drop_eq_getElem_cons hi]; rfl
    ·unfold numSt
     repeat' (first | (with_reducible exact .nil) | (refine no_implicit_lambda% (.cons ?_ ?_)) | (exact Wk.dead _) | (with_reducible exact Wk.refl _) | (exact WkL.nil))
     ·exact .int (shift_in a _ hb h8)
     ·exact .int (w64 (by omega) (by omega))
   ·refine no_implicit_lambda% (awd ?_)
    simp only [decide_eq_false_iff_not] at hc
    have hi : i = q.length := by omega
    subst hi
    have h4 : a = ubn q 0 := by simpa [ubn] using h3
    exact e_ret (H' := rd (l.drop n)) (rest := []) rfl (.inl ⟨hg, by rw [h4]; rfl, rfl⟩) (.of_eq rfl) (LE0 rfl)
 ·intro x H' h; rcases h with ⟨hg, h1, h2⟩ | ⟨hg, h1, h2⟩ <;> first | (cases h1; done) | (cases h1; subst h2)
  refine no_implicit_lambda% (awd ?_)
  exact e_pan (H' := []) (rest := _) (.inr ⟨hg, rfl, rfl⟩) (.of_eq rfl) (LE0 rfl)
theorem ubn_lt : ∀ (l : List UInt8) (a : Nat), ubn l a < (a + 1) * 256 ^ l.length
 | [], a => by simp [ubn]
 | c :: l, a => by
  have h := ubn_lt l (a * 256 + c.toNat)
  have hc := c.toNat_lt
  rw [ubn, List.length_cons, Nat.pow_succ, Nat.mul_comm (256 ^ l.length) 256, ← Nat.mul_assoc]
  exact Nat.lt_of_lt_of_le h (Nat.mul_le_mul_right _ (by omega))
theorem ubn_take (l : List UInt8) (n : Nat) : ubn (l.take n) 0 < 256 ^ n := by
 have h := ubn_lt (l.take n) 0
 rw [Nat.zero_add, Nat.one_mul] at h
 exact Nat.lt_of_lt_of_le h (Nat.pow_le_pow_right (by decide) (by simp [Nat.min_le_left]))
theorem rByte_c (l : List UInt8) (h : l.length < 70368744177664) : ACalls Tryz.prog 87 1 2 [.ptr 0 0] (rd l) (fun out H' => (1 ≤ l.length ∧ out = .ret (.v (.int .u8 (ubn (l.take 1) 0))) ∧ H' = rd (l.drop 1)) ∨ (l.length < 1 ∧ out = gone ∧ H' = [])) := by
 refine no_implicit_lambda% (acalls_of tok dok (f := 87) ⟨Tryz.func87, rfl, by kernel_rfl⟩ ?_); refine no_implicit_lambda% (c_start (fun _ h => h) ?_)
 refine no_implicit_lambda% (awd ?_)
 refine no_implicit_lambda% (cal [0] (number_c l 1 (by decide) h) ?_ ?_)
 ·intro x H' h; rcases h with ⟨hg, h1, h2⟩ | ⟨hg, h1, h2⟩ <;> first | (cases h1; done) | (cases h1; subst h2)
  refine no_implicit_lambda% (akc ?_)
  refine no_implicit_lambda% (awd ?_)
  have hb := ubn_take l 1
  rw [show IntKind.u8.wrap (ubn (l.take 1) 0 : Int) = ubn (l.take 1) 0 by rw [IntKind.wrap_u8]; omega]
  exact e_ret (H' := rd (l.drop 1)) (rest := []) rfl (.inl ⟨hg, rfl, rfl⟩) (.of_eq rfl) (LE0 rfl)
 ·intro x H' h; rcases h with ⟨hg, h1, h2⟩ | ⟨hg, h1, h2⟩ <;> first | (cases h1; done) | (cases h1; subst h2)
  refine no_implicit_lambda% (awd ?_)
  exact e_pan (H' := []) (rest := _) (.inr ⟨hg, rfl, rfl⟩) (.of_eq rfl) (LE0 rfl)
theorem rNum_c (l : List UInt8) (h : l.length < 70368744177664) : ACalls Tryz.prog 107 1 2 [.ptr 0 0] (rd l) (fun out H' => (4 ≤ l.length ∧ out = .ret (.v (.int .u32 (ubn (l.take 4) 0))) ∧ H' = rd (l.drop 4)) ∨ (l.length < 4 ∧ out = gone ∧ H' = [])) := by
 refine no_implicit_lambda% (acalls_of tok dok (f := 107) ⟨Tryz.func107, rfl, by kernel_rfl⟩ ?_); refine no_implicit_lambda% (c_start (fun _ h => h) ?_)
 refine no_implicit_lambda% (awd ?_)
 refine no_implicit_lambda% (cal [0] (number_c l 4 (by decide) h) ?_ ?_)
 ·intro x H' h; rcases h with ⟨hg, h1, h2⟩ | ⟨hg, h1, h2⟩ <;> first | (cases h1; done) | (cases h1; subst h2)
  refine no_implicit_lambda% (akc ?_)
  refine no_implicit_lambda% (awd ?_)
  have hb := ubn_take l 4
  rw [show IntKind.u32.wrap (ubn (l.take 4) 0 : Int) = ubn (l.take 4) 0 by rw [IntKind.wrap_u32]; omega]
  exact e_ret (H' := rd (l.drop 4)) (rest := []) rfl (.inl ⟨hg, rfl, rfl⟩) (.of_eq rfl) (LE0 rfl)
 ·intro x H' h; rcases h with ⟨hg, h1, h2⟩ | ⟨hg, h1, h2⟩ <;> first | (cases h1; done) | (cases h1; subst h2)
  refine no_implicit_lambda% (awd ?_)
  exact e_pan (H' := []) (rest := _) (.inr ⟨hg, rfl, rfl⟩) (.of_eq rfl) (LE0 rfl)
theorem rLong_c (l : List UInt8) (h : l.length < 70368744177664) : ACalls Tryz.prog 89 1 2 [.ptr 0 0] (rd l) (fun out H' => (8 ≤ l.length ∧ out = .ret (.v (.int .u64 (ubn (l.take 8) 0))) ∧ H' = rd (l.drop 8)) ∨ (l.length < 8 ∧ out = gone ∧ H' = [])) := by
 refine no_implicit_lambda% (acalls_of tok dok (f := 89) ⟨Tryz.func89, rfl, by kernel_rfl⟩ ?_); refine no_implicit_lambda% (c_start (fun _ h => h) ?_)
 refine no_implicit_lambda% (awd ?_)
 refine no_implicit_lambda% (cal [0] (number_c l 8 (by decide) h) ?_ ?_)
 ·intro x H' h; rcases h with ⟨hg, h1, h2⟩ | ⟨hg, h1, h2⟩ <;> first | (cases h1; done) | (cases h1; subst h2)
  refine no_implicit_lambda% (akc ?_)
  refine no_implicit_lambda% (awd ?_)
  exact e_ret (H' := rd (l.drop 8)) (rest := []) rfl (.inl ⟨hg, rfl, rfl⟩) (.of_eq rfl) (LE0 rfl)
 ·intro x H' h; rcases h with ⟨hg, h1, h2⟩ | ⟨hg, h1, h2⟩ <;> first | (cases h1; done) | (cases h1; subst h2)
  refine no_implicit_lambda% (awd ?_)
  exact e_pan (H' := []) (rest := _) (.inr ⟨hg, rfl, rfl⟩) (.of_eq rfl) (LE0 rfl)
theorem canon2 (b : Nat) : canonB (canonB b) = canonB b := by
 have h : nanB 9221120237041090561 = true := by decide
 unfold canonB
 cases hb : nanB b <;> simp [hb, h]
def fOk (l : List UInt8) : Prop := 8 ≤ l.length ∧ canonB (ubn (l.take 8) 0) = ubn (l.take 8) 0
theorem rFloat_c (l : List UInt8) (h : l.length < 70368744177664) : ACalls Tryz.prog 137 1 2 [.ptr 0 0] (rd l) (fun out H' => (fOk l ∧ out = .ret (.v (.float .f64 (ubn (l.take 8) 0))) ∧ H' = rd (l.drop 8)) ∨ (¬ fOk l ∧ out = gone ∧ H' = [])) := by
 refine no_implicit_lambda% (acalls_of tok dok (f := 137) ⟨Tryz.func137, rfl, by kernel_rfl⟩ ?_); refine no_implicit_lambda% (c_start (fun _ h => h) ?_)
 refine no_implicit_lambda% (awd ?_)
 refine no_implicit_lambda% (cal [0] (rLong_c l h) ?_ ?_)
 ·intro x H' h; rcases h with ⟨hg, h1, h2⟩ | ⟨hg, h1, h2⟩ <;> first | (cases h1; done) | (cases h1; subst h2)
  refine no_implicit_lambda% (akc ?_)
  refine no_implicit_lambda% (awd ?_)
  refine no_implicit_lambda% (cal [] (from_c (ubn (l.take 8) 0)) ?_ ?_)
  ·refine no_implicit_lambda% (ret1 ?_); first | (refine no_implicit_lambda% (akc ?_)) | (refine no_implicit_lambda% (aec ?_))
   refine no_implicit_lambda% (awd ?_)
   refine no_implicit_lambda% (cal [] (bits_c _) ?_ ?_)
   ·refine no_implicit_lambda% (ret1 ?_); first | (refine no_implicit_lambda% (akc ?_)) | (refine no_implicit_lambda% (aec ?_))
    refine no_implicit_lambda% (awd ?_)
    ((with_reducible refine no_implicit_lambda% (zB ?_)); refine no_implicit_lambda% (zE rfl (fun hc => ?_) (fun hc => ?_)))
    ·rw [canon2] at hc; simp at hc
     refine no_implicit_lambda% (awd ?_)
     refine no_implicit_lambda% (cal [0] (fail_c (l.drop 8)) ?_ ?_)
     ·first | (exact zI) | (exact zJ)
     ·intro x H' h
      obtain ⟨h1, h2⟩ := h
      cases h1; subst h2
      refine no_implicit_lambda% (awd ?_)
      exact e_pan (H' := []) (rest := _) (.inr ⟨fun hf => hc (by first | exact hf.2 | rw [hf.2]), rfl, rfl⟩) (.of_eq rfl) (LE0 rfl)
    ·rw [canon2] at hc; simp at hc
     refine no_implicit_lambda% (awd ?_)
     have hf : canonB (ubn (l.take 8) 0) = ubn (l.take 8) 0 := Int.ofNat_inj.1 hc
     exact e_ret (H' := rd (l.drop 8)) (rest := []) rfl (.inl ⟨⟨hg, hf⟩, by rw [hf]; rfl, rfl⟩) (.of_eq rfl) (LE0 rfl)
   ·first | (exact zI) | (exact zJ)
  ·first | (exact zI) | (exact zJ)
 ·intro x H' h; rcases h with ⟨hg, h1, h2⟩ | ⟨hg, h1, h2⟩ <;> first | (cases h1; done) | (cases h1; subst h2)
  refine no_implicit_lambda% (awd ?_)
  exact e_pan (H' := []) (rest := _) (.inr ⟨fun hf => by have := hf.1; omega, rfl, rfl⟩) (.of_eq rfl) (LE0 rfl)
def tOk (l : List UInt8) (most : Int) : Prop := 4 ≤ l.length ∧ ubn (l.take 4) 0 ≤ 1048576 ∧ (0 ≤ most → (ubn (l.take 4) 0 : Int) ≤ most) ∧ ubn (l.take 4) 0 ≤ (l.drop 4).length
theorem rText_c (l : List UInt8) (most : Int) (h : l.length < 70368744177664) : ACalls Tryz.prog 88 1 3 [.ptr 0 0, .v (.int .i64 most)] (rd l) (fun out H' => (tOk l most ∧ out = .ret (.list (((l.drop 4).take (ubn (l.take 4) 0)).map brow) .free) ∧ H' = rd ((l.drop 4).drop (ubn (l.take 4) 0))) ∨ (¬ tOk l most ∧ out = gone ∧ H' = [])) := by
 refine no_implicit_lambda% (acalls_of tok dok (f := 88) ⟨Tryz.func88, rfl, by kernel_rfl⟩ ?_); refine no_implicit_lambda% (c_start (fun _ h => h) ?_)
 refine no_implicit_lambda% (awd ?_)
 refine no_implicit_lambda% (cal [0] (rNum_c l h) ?_ ?_)
 ·intro x H' h; rcases h with ⟨hg, h1, h2⟩ | ⟨hg, h1, h2⟩ <;> first | (cases h1; done) | (cases h1; subst h2)
  refine no_implicit_lambda% (akc ?_)
  refine no_implicit_lambda% (awd ?_)
  have hb := ubn_take l 4
  rw [show IntKind.i64.wrap (ubn (l.take 4) 0 : Int) = ubn (l.take 4) 0 by rw [w64] <;> omega]
  repeat' (first | (refine no_implicit_lambda% (zH ?_)) | (((with_reducible refine no_implicit_lambda% (zA ?_)); refine no_implicit_lambda% (zD rfl rfl rfl (fun hc => ?_) (fun hc => ?_)) <;> rw [hc])) | (((with_reducible refine no_implicit_lambda% (zB ?_)); refine no_implicit_lambda% (zE rfl (fun hc => ?_) (fun hc => ?_)))) | (((with_reducible refine no_implicit_lambda% (zC ?_)); refine no_implicit_lambda% (zF rfl rfl (fun hc => ?_) (fun hc => ?_)) <;> rw [hc])) | fail)
  ·have hno : ¬ tOk l most := fun hf => by obtain ⟨_, h2, _⟩ := hf; simp at *; omega
   refine no_implicit_lambda% (cal [0] (fail_c (l.drop 4)) ?_ ?_)
   ·first | (exact zI) | (exact zJ)
   ·intro x H' h
    obtain ⟨h1, h2⟩ := h
    cases h1; subst h2
    refine no_implicit_lambda% (awd ?_)
    exact e_pan (H' := []) (rest := _) (.inr ⟨hno, rfl, rfl⟩) (.of_eq rfl) (LE0 rfl)
  ·have hno : ¬ tOk l most := fun hf => by obtain ⟨_, _, h3, _⟩ := hf; simp at *; omega
   refine no_implicit_lambda% (cal [0] (fail_c (l.drop 4)) ?_ ?_)
   ·first | (exact zI) | (exact zJ)
   ·intro x H' h
    obtain ⟨h1, h2⟩ := h
    cases h1; subst h2
    refine no_implicit_lambda% (awd ?_)
    exact e_pan (H' := []) (rest := _) (.inr ⟨hno, rfl, rfl⟩) (.of_eq rfl) (LE0 rfl)
  ·have hk : 4 ≤ l.length ∧ ubn (l.take 4) 0 ≤ 1048576 ∧ (0 ≤ most → (ubn (l.take 4) 0 : Int) ≤ most) := by simp at *; omega
   refine no_implicit_lambda% (cal [0] (take_c (l.drop 4) (ubn (l.take 4) 0) (by simp; omega)) ?_ ?_)
   ·intro x H' h; rcases h with ⟨hg, h1, h2⟩ | ⟨hg, h1, h2⟩ <;> first | (cases h1; done) | (cases h1; subst h2)
    refine no_implicit_lambda% (akc ?_)
    refine no_implicit_lambda% (awd ?_)
    exact e_ret (H' := rd ((l.drop 4).drop (ubn (l.take 4) 0))) (rest := []) rfl (.inl ⟨⟨hk.1, hk.2.1, hk.2.2, hg⟩, rfl, rfl⟩) (.of_eq rfl) (LE0 rfl)
   ·intro x H' h; rcases h with ⟨hg, h1, h2⟩ | ⟨hg, h1, h2⟩ <;> first | (cases h1; done) | (cases h1; subst h2)
    refine no_implicit_lambda% (awd ?_)
    exact e_pan (H' := []) (rest := _) (.inr ⟨fun hf => by have := hf.2.2.2; omega, rfl, rfl⟩) (.of_eq rfl) (LE0 rfl)
  ·have hk : 4 ≤ l.length ∧ ubn (l.take 4) 0 ≤ 1048576 ∧ (0 ≤ most → (ubn (l.take 4) 0 : Int) ≤ most) := by simp at *; omega
   refine no_implicit_lambda% (cal [0] (take_c (l.drop 4) (ubn (l.take 4) 0) (by simp; omega)) ?_ ?_)
   ·intro x H' h; rcases h with ⟨hg, h1, h2⟩ | ⟨hg, h1, h2⟩ <;> first | (cases h1; done) | (cases h1; subst h2)
    refine no_implicit_lambda% (akc ?_)
    refine no_implicit_lambda% (awd ?_)
    exact e_ret (H' := rd ((l.drop 4).drop (ubn (l.take 4) 0))) (rest := []) rfl (.inl ⟨⟨hk.1, hk.2.1, hk.2.2, hg⟩, rfl, rfl⟩) (.of_eq rfl) (LE0 rfl)
   ·intro x H' h; rcases h with ⟨hg, h1, h2⟩ | ⟨hg, h1, h2⟩ <;> first | (cases h1; done) | (cases h1; subst h2)
    refine no_implicit_lambda% (awd ?_)
    exact e_pan (H' := []) (rest := _) (.inr ⟨fun hf => by have := hf.2.2.2; omega, rfl, rfl⟩) (.of_eq rfl) (LE0 rfl)
 ·intro x H' h; rcases h with ⟨hg, h1, h2⟩ | ⟨hg, h1, h2⟩ <;> first | (cases h1; done) | (cases h1; subst h2)
  refine no_implicit_lambda% (awd ?_)
  exact e_pan (H' := []) (rest := _) (.inr ⟨fun hf => by have := hf.1; omega, rfl, rfl⟩) (.of_eq rfl) (LE0 rfl)
theorem ubn_app : ∀ (l m : List UInt8) (a : Nat), ubn (l ++ m) a = ubn m (ubn l a)
 | [], m, a => rfl
 | c :: l, m, a => by simp [ubn, ubn_app l m]
theorem cut_c (b : List UInt8) (n : Nat) (hn : n < 1000) : ACalls Tryz.prog 10 0 0 [.list (b.map brow) .free, .v (.int .i64 n)] [] (fun out H' => out = .ret (.list ((b.take n).map brow) .free) ∧ H' = []) := by
 refine no_implicit_lambda% (acalls_of tok dok (f := 10) ⟨Tryz.func10, rfl, by kernel_rfl⟩ ?_); refine no_implicit_lambda% (c_start (fun _ h => h) ?_)
 refine no_implicit_lambda% (awd ?_)
 ((with_reducible refine no_implicit_lambda% (zB ?_)); refine no_implicit_lambda% (zE rfl (fun hc => ?_) (fun hc => ?_)))
 ·simp only [List.length_map, gt_iff_lt, decide_eq_true_eq] at hc
  refine no_implicit_lambda% (awd ?_)
  (with_reducible refine no_implicit_lambda% (zC ?_)); first | (refine no_implicit_lambda% (a_qS rfl (fun _ h => h) ?_ ?_)) | (refine no_implicit_lambda% (a_qS rfl (qIx (fun _ h => h)) ?_ ?_)) | (refine no_implicit_lambda% (a_qS rfl (qAnd5 (fun _ h => h)) ?_ ?_)) | (refine no_implicit_lambda% (a_qS rfl (qStr (fun _ h => h)) ?_ ?_)) | (refine no_implicit_lambda% (a_qS rfl (qAnd4 (fun _ h => h)) ?_ ?_)) | (refine no_implicit_lambda% (a_qS rfl (qAnd2 (fun _ h => h)) ?_ ?_))
  ·refine ⟨trivial, Int.natCast_nonneg n, Nat.zero_le _, ?_, brows b⟩
   simp; omega
  refine k_as (.list ((b.take n).map brow) .free) (by simp [List.map_take, orFull, isFull, isNone]) ?_
  refine no_implicit_lambda% (awd ?_)
  exact e_ret (H' := []) rfl ⟨rfl, rfl⟩ (.refl _) (LE0 rfl)
 ·simp only [List.length_map, gt_iff_lt, decide_eq_false_iff_not] at hc
  refine no_implicit_lambda% (awd ?_)
  exact e_ret (H' := []) rfl ⟨by rw [List.take_of_length_le (by omega)]; rfl, rfl⟩ (.refl _) (LE0 rfl)
end Go.Proofs.YtjepgbpcpcahgaaGreat
namespace Go.Am
open Go.RowKit
section
variable {P : Program} {TT : Types} {B : Base}
theorem rel_start {G : Ghost} {w : World} {vals : Array Value} {H : Heap} {k m : Nat} {args : List AV} (hk : ∀ id, G.live id → id < k) (hbase : G.base = w.heap.size) (hh : Holds G w H) (hlen : args.length = vals.size) (hsim : ∀ i a, args[i]? = some a → Sim G a (vals.getD i undef)) :
  Rel ⟨G, w, H, k, []⟩ No G ⟨args ++ List.replicate (m - args.length) .dead, H, k⟩ { tmps := vals ++ Array.replicate (m - vals.size) undef, defers := [] } w := by
 refine ⟨by simp [hlen], fun t _ => ?_, rfl, hh, Step.refl _ _ _, hk, by rw [hbase]; exact Nat.le_refl _, Nat.le_refl _, fun id hid => .inl hid⟩
 rw [getA_eq]
 by_cases ht : t < args.length
 ·have e1 : (args ++ List.replicate (m - args.length) AV.dead).getD t .dead = args[t] := by simp [List.getElem?_append, ht]
  have e2 : (vals ++ Array.replicate (m - vals.size) undef).getD t undef = vals.getD t undef := by
   have : t < vals.size := by omega
   rw [Array.getD_eq_getD_getElem?, Array.getElem?_append_left this, Array.getD_eq_getD_getElem?]
  rw [e1, e2]
  exact .of (hsim t _ (List.getElem?_eq_getElem ht))
 ·have e1 : (args ++ List.replicate (m - args.length) AV.dead).getD t .dead = .dead := by
   rw [List.getD, List.getElem?_append_right (by omega), List.getElem?_replicate]
   split <;> rfl
  rw [e1]
  exact .of (.data _ _ (.dead _))
theorem Rel.anew {G : Ghost} {σ : ASt} {a : Act} {w : World} (h : Rel B No G σ a w) : Rel ⟨G, w, σ.L, σ.next, B.D⟩ No G σ a w :=
 ⟨h.size, h.slots, h.defers, h.holds, Step.refl _ _ _, h.next, h.base, Nat.le_refl _, fun id hid => .inl hid⟩
theorem Rel.join {G2 G3 : Ghost} {σ τ : ASt} {a a3 : Act} {w w3 : World} {D : List Deferred} (h : Rel B No G2 σ a w) (h2 : Rel ⟨G2, w, σ.L, σ.next, D⟩ No G3 τ a3 w3) : Rel ⟨B.G, B.w, B.H, B.k, D⟩ No G3 τ a3 w3 :=
 ⟨h2.size, h2.slots, h2.defers, h2.holds, h.step.trans h2.step, h2.next, h2.base, Nat.le_trans h.low h2.low, fun id hid => (h2.old id hid).elim (h.old id) fun k => .inr (Nat.le_trans h.low k)⟩
theorem Rel.perm {G : Ghost} {s : List AV} {L L' : Heap} {n : Nat} {a : Act} {w : World} (hr : Rel B No G ⟨s, L, n⟩ a w) (hp : L.Perm L') : Rel B No G ⟨s, L', n⟩ a w :=
 ⟨hr.size, hr.slots, hr.defers, hr.holds.perm hp, hr.step.perm (.refl _) hp, hr.next, hr.base, hr.low, hr.old⟩
def keepH (m : Nat) (H : Heap) : Prop := ∀ f : Nat → Nat, (∀ i, i < m → f i = i) → renH f H = H
def keepL (m : Nat) (l : List AV) : Prop := ∀ f : Nat → Nat, (∀ i, i < m → f i = i) → AV.renL f l = l
def idsTo (m j : Nat) : List Nat := List.range m ++ [j]
theorem idsTo_lt {m j n i : Nat} (h : i < m) : rn (idsTo m j) n i = i := by
 unfold rn idsTo
 rw [List.getElem?_append_left (by simpa using h)]
 simp [h]
theorem idsTo_at {m j n : Nat} : rn (idsTo m j) n m = j := by
 unfold rn idsTo
 rw [List.getElem?_append_right (by simp)]
 simp
theorem idsTo_nodup {m j : Nat} (h : m ≤ j) : (idsTo m j).Nodup := by
 unfold idsTo
 rw [List.nodup_append]
 refine ⟨List.nodup_range, by simp, fun a ha b hb => ?_⟩
 simp at ha hb
 omega
def thenK (B : Base) (next : Act → World → Prop) : Kc := fun e s L n => e = .normal ∧ ∀ G' a' w', Rel B No G' ⟨s, L, n⟩ a' w' → next a' w'
theorem wp_then (hT : TOk P TT) {d : Nat → List Oper → List AV → Heap → Nat → Kc → Prop} (hD : DOk P d) {c : Code} {s : List AV} {L : Heap} {n : Nat} {G : Ghost} {a : Act} {w : World} {next : Act → World → Prop} {Q : Exit → Act → World → Prop}
  (hr : Rel B No G ⟨s, L, n⟩ a w) (h : acode P TT ⟨d, fun _ => False⟩ c s L n (thenK B next)) : c.wp P (Exit.then next Q) a w :=
 wp_mono (acode_sound0 hT hD c s L n _ G a w h hr) fun e a' w' ⟨e', s', L', n', G', k1, k2, k3⟩ => by
  obtain ⟨rfl, k1⟩ := k1
  cases e <;> first | exact k2.elim | exact k1 G' a' w' k3
theorem defer_run {o : Oper} {c : Call} {x : Operand} {f : FuncId} {vs : Array Value} {ρ : Operand → Value} {w : World} (ho : o.op = .defer c) (hc : c.callee = .value x) (ha : c.args = #[]) (hx : ρ x = .func (.func f) #[] vs) :
  (execOp ρ o).run P w = .ok (.defer ⟨.fn (.func f) vs, #[]⟩) w := by
 simp only [execOp, ho, resolve, hc, hx, ha, Deferred.ofValue]
 simp [Sem.run_bind, Sem.run_pure, Result.andThen]
theorem wpL_at (hT : TOk P TT) {ops : Array Oper} {rest : List Oper} {o : Oper} {s : List AV} {L : Heap} {n : Nat} {G : Ghost} {a : Act} {w : World} {Q : Exit → Act → World → Prop} (hr : Rel B No G ⟨s, L, n⟩ a w) (hg : o.guard = none)
  (h : aop P TT o s L n (fun x L' n' => putD s o.dst x fun s' => ∀ G' a' w', Rel B No G' ⟨s', L', n'⟩ a' w' → wpList P ops Q rest a' w') (fun _ _ _ => False)) : wpList P ops Q (o :: rest) a w := by
 unfold wpList
 rw [if_pos (by simp [Region.wanted, hg])]
 refine .inl (aop_sound hT hr (fun _ _ h => h) h ⟨fun x L' n' v G' w' k1 k2 k3 k4 => ?_, fun _ _ _ _ _ _ k => k.elim⟩)
 simp only [putD_eq] at k1
 exact k1 G' _ w' ((k4.put o.dst k2).weakU fun t ht => ht.1)
theorem wpL_defer {ops : Array Oper} {rest : List Oper} {o : Oper} {c : Call} {x : Operand} {f : FuncId} {cap : List AV} {s : List AV} {L : Heap} {n : Nat} {G : Ghost} {a : Act} {w : World} {Q : Exit → Act → World → Prop} (hr : Rel B No G ⟨s, L, n⟩ a w) (hg : o.guard = none) (hd : o.dst = none)
  (ho : o.op = .defer c) (hc : c.callee = .value x) (ha : c.args = #[]) (hx : ev s x = .fn f cap)
  (hn : ∀ vs a', cap.length = vs.size → (∀ i b, cap[i]? = some b → Sim G b (vs.getD i undef)) → Rel ⟨B.G, B.w, B.H, B.k, ⟨.fn (.func f) vs, #[]⟩ :: B.D⟩ No G ⟨s, L, n⟩ a' w → wpList P ops Q rest a' w) : wpList P ops Q (o :: rest) a w := by
 unfold wpList
 rw [if_pos (by simp [Region.wanted, hg])]
 have h1 := (hr.op (x := x) (fun _ _ h => h)).1
 rw [hx] at h1
 obtain ⟨vs, h2, h3, h4⟩ := h1.fn_inv
 refine .inl ?_
 unfold Oper.wp
 rw [defer_run ho hc ha h2, Oper.upon_defer, hd]
 exact hn vs _ h3 h4 ⟨hr.size, hr.slots, by rw [← hr.defers]; rfl, hr.holds, hr.step, hr.next, hr.base, hr.low, hr.old⟩
end
end Go.Am
namespace Go.Proofs.YtjepgbpcpcahgaaGreat
open Go.Am
set_option maxRecDepth 100000
theorem dRel {G : Ghost} {w : World} {L : Heap} {n ic io : Nat} {vs : Array Value} {B : Base} {s : List AV} {a0 : Act} (hr : Rel B No G ⟨s, L, n⟩ a0 w) (hvs : 2 = vs.size) (h0 : Sim G (.ptr ic 0) (vs.getD 0 undef)) (h1 : Sim G (.ptr io 0) (vs.getD 1 undef)) {x : AV} (v : Value) (hx : Sim G x v) :
  Rel ⟨G, w, L, n, []⟩ No G ⟨[.ptr ic 0, .ptr io 0, x, x, .dead, .dead, .dead, .dead, .dead, .dead, .dead, .dead], L, n⟩ { tmps := ((vs ++ Array.replicate (12 - vs.size) undef).setIfInBounds 3 v).setIfInBounds 2 (if 3 < vs.size + (12 - vs.size) then v else undef), defers := [] } w := by
 have hex : ∃ x0 x1, vs = #[x0, x1] := by
  obtain ⟨l⟩ := vs
  match l, hvs with
  | [x0, x1], _ => exact ⟨x0, x1, rfl⟩
 obtain ⟨x0, x1, rfl⟩ := hex
 have e : ((#[x0, x1] ++ Array.replicate (12 - (#[x0, x1] : Array Value).size) undef).setIfInBounds 3 v).setIfInBounds 2 (if 3 < (#[x0, x1] : Array Value).size + (12 - (#[x0, x1] : Array Value).size) then v else undef) = #[x0, x1, v, v, undef, undef, undef, undef, undef, undef, undef, undef] := by
  generalize undef = u
  rfl
 rw [e]
 refine ⟨rfl, fun t _ => ?_, rfl, hr.holds, Step.refl _ _ _, hr.next, hr.base, Nat.le_refl _, fun id h => .inl h⟩
 match t with
 | 0 => exact .of h0
 | 1 => exact .of h1
 | 2 => exact .of hx
 | 3 => exact .of hx
 | 4 | 5 | 6 | 7 | 8 | 9 | 10 | 11 => exact .of (.data _ _ (.dead _))
 | t + 12 => exact .of (.data _ _ (.dead _))
def restK (L1 : Heap) (n1 : Nat) : Kc := fun e s L n => e = .normal ∧ L = L1 ∧ n = n1
theorem readD {G : Ghost} {w : World} {L : Heap} {n m ic io : Nat} {vs : Array Value} {b : Bool} (B : Base) (s : List AV) (a0 : Act) (hr0 : Rel B No G ⟨s, L, n⟩ a0 w) (hvs : 2 = vs.size) (h0 : Sim G (.ptr ic 0) (vs.getD 0 undef)) (h1 : Sim G (.ptr io 0) (vs.getD 1 undef))
  (hc : findL L ic = some (.box [.ptr m 0])) (ho : findL L io = some (.box [.v (.bool b)])) :
  CallsD Tryz.prog 86 vs .returning w fun e u' w' => (∃ v, e = .returned v) ∧ u' = .returning ∧ ∃ G', Rel B No G' ⟨s, L, n⟩ a0 w' := by
 refine callsD_of_wpS Tryz.func86 rfl fun c₀ cs hu => ?_
 refine wpS_seq ?_
 refine wpS_region ?_
 refine (show wpOpsS Tryz.prog _ _ [0, 1] _ _ _ from ?_)
 have hrec : recoverD (c₀ :: cs) = none := by unfold recoverD; simp only [hu]
 simp [wpOpsS, Region.wanted, execOp, resolve, go_sem, hrec]
 refine wpS_of_wp ?_
 have hB2 : Rel ⟨G, w, L, n, []⟩ No G ⟨[.ptr ic 0, .ptr io 0, .v .nilIface, .v .nilIface, .dead, .dead, .dead, .dead, .dead, .dead, .dead, .dead], L, n⟩ _ w := dRel hr0 hvs h0 h1 .nilIface (.data _ _ (.v _))
 refine wp_mono (acode_sound0 tok dok _ _ _ _ (restK L n) _ _ _ ?_ hB2) ?_
 ·refine no_implicit_lambda% (awd ?_)
  (with_reducible refine zC ?_)
  refine a_q1 rfl (qFall true (fun _ h => h) (fun w => by rfl)) ?_
  refine no_implicit_lambda% (awd ?_)
  exact ⟨rfl, rfl, rfl⟩
 ·rintro e a' w' ⟨e', s', L', n', G', ⟨rfl, rfl, rfl⟩, k2, k3⟩
  cases e <;> first | exact k2.elim | skip
  refine ⟨k3.defers, .returning, by rw [← hu], .tuple #[], (by simp [results, Tryz.results86, go_sem]), ⟨_, rfl⟩, rfl, G', ?_⟩
  exact hr0.stepped k3.holds k3.step (Nat.le_refl _) fun id hid => ⟨k3.next id hid, (k3.old id hid).imp_right fun h => h⟩
theorem readDp {G : Ghost} {w : World} {L : Heap} {n m ic io : Nat} {vs : Array Value} {b : Bool} {v : Value} (B : Base) (s : List AV) (a0 : Act) (hr0 : Rel B No G ⟨s, L, n⟩ a0 w) (hvs : 2 = vs.size) (h0 : Sim G (.ptr ic 0) (vs.getD 0 undef)) (h1 : Sim G (.ptr io 0) (vs.getD 1 undef))
  (hv : Sim G (.iface 75 (.ptr m 0)) v) (hc : findL L ic = some (.box [.ptr m 0])) (ho : findL L io = some (.box [.v (.bool b)])) :
  CallsD Tryz.prog 86 vs (.panicking [{ v := v, recovered := false }]) w fun e u' w' => (∃ v, e = .returned v) ∧ settle u' = .returning ∧ ∃ G', Rel B No G' ⟨s, setL L io (.box [.v (.bool false)]), n⟩ a0 w' := by
 refine callsD_of_wpS Tryz.func86 rfl fun c₀ cs hu => ?_
 refine wpS_seq ?_
 refine wpS_region ?_
 refine (show wpOpsS Tryz.prog _ _ [0, 1] _ _ _ from ?_)
 have hrec : recoverD (c₀ :: cs) = some (v, { c₀ with mode := .panicking [{ v := v, recovered := true }] } :: cs) := by unfold recoverD; simp only [hu]
 simp [wpOpsS, Region.wanted, execOp, resolve, go_sem, hrec]
 refine wpS_of_wp ?_
 have hB2 : Rel ⟨G, w, L, n, []⟩ No G ⟨[.ptr ic 0, .ptr io 0, .iface 75 (.ptr m 0), .iface 75 (.ptr m 0), .dead, .dead, .dead, .dead, .dead, .dead, .dead, .dead], L, n⟩ _ w := dRel hr0 hvs h0 h1 v hv
 refine wp_mono (acode_sound0 tok dok _ _ _ _ (restK (setL L io (.box [.v (.bool false)])) n) _ _ _ ?_ hB2) ?_
 ·refine no_implicit_lambda% (awd ?_)
  (with_reducible refine zC ?_)
  refine a_q1 rfl (qIfN false (fun _ h => h) (fun u w => by rfl)) ?_
  refine no_implicit_lambda% (awd ?_)
  (with_reducible refine zC ?_)
  refine a_loadAt rfl rfl rfl hc rfl rfl ?_
  refine no_implicit_lambda% (awd ?_)
  (with_reducible refine zC ?_)
  refine a_q1 rfl (qIfP true (fun _ h => h) (fun u w => run_eql_iface_ptr_same (P := Tryz.prog) w ⟨u, 0, none⟩ rfl rfl rfl rfl rfl)) ?_
  refine no_implicit_lambda% (awd ?_)
  (with_reducible refine zC ?_)
  refine a_storeAt rfl rfl rfl ho rfl rfl rfl ?_
  refine no_implicit_lambda% (awd ?_)
  exact ⟨rfl, rfl, rfl⟩
 ·rintro e a' w' ⟨e', s', L', n', G', ⟨rfl, rfl, rfl⟩, k2, k3⟩
  cases e <;> first | exact k2.elim | skip
  refine ⟨k3.defers, _, rfl, .tuple #[], (by simp [results, Tryz.results86, go_sem]), ⟨_, rfl⟩, rfl, G', ?_⟩
  exact hr0.stepped k3.holds k3.step (Nat.le_refl _) fun id hid => ⟨k3.next id hid, (k3.old id hid).imp_right fun h => h⟩
theorem findL_here {i : Nat} {r : Res} {H : Heap} : findL ((i, r) :: H) i = some r := if_pos rfl
theorem findL_skip {i j : Nat} {r : Res} {H : Heap} (h : j ≠ i) : findL ((j, r) :: H) i = findL H i := if_neg h
abbrev rpan (m : Nat) : AOut := .panic (.iface 75 (.ptr m 0))
abbrev cbR (m : Nat) (Rok : List UInt8 → Heap → Prop) (Rbad : Heap → Prop) : AOut → Heap → Prop := fun out H' => (∃ (x : AV) (l' : List UInt8) (H1' : Heap), Rok l' H1' ∧ out = .ret x ∧ H' = (m, .box [.list (l'.map brow) .free]) :: H1') ∨ ∃ H1', Rbad H1' ∧ out = rpan m ∧ H' = H1'
def afterK (m nn : Nat) (Rok : List UInt8 → Heap → Prop) (Rbad : Heap → Prop) : Kc := fun e s L n =>
 n = nn ∧ s.getD 4 .dead = .ptr m 0 ∧ ((∃ l' H1', Rok l' H1' ∧ e = .ret ∧ L = (m, .box [.v (.bool (decide ((((l'.map brow).length : Nat) : Int) = 0)))]) :: (m + 2, .box [.ptr (m + 1) 0]) :: (m + 1, .box [.list (l'.map brow) .free]) :: H1') ∨
  (∃ H1', Rbad H1' ∧ e = .panic (.iface 75 (.ptr (m + 1) 0)) ∧ L = H1' ++ [(m, .box [.v (.bool false)]), (m + 2, .box [.ptr (m + 1) 0])]))
def RokG (m : Nat) (Rok : List UInt8 → Heap → Prop) (l' : List UInt8) (H' : Heap) : Prop := ∃ H1', Rok l' H1' ∧ H' = renH (rn (idsTo m (m + 1)) (m + 1 + 1 + 1)) H1'
def RbadG (m : Nat) (Rbad : Heap → Prop) (H' : Heap) : Prop := ∃ H1', Rbad H1' ∧ H' = renH (rn (idsTo m (m + 1)) (m + 1 + 1 + 1)) H1'
theorem read_g {cb : FuncId} {m top : Nat} {cap : List AV} {H1 : Heap} {l : List UInt8} {Rok : List UInt8 → Heap → Prop} {Rbad : Heap → Prop} (htop : m + 1 ≤ top)
  (hcb : ACalls Tryz.prog cb (m + 1) top (.ptr m 0 :: cap) ((m, .box [.list (l.map brow) .free]) :: H1) (cbR m Rok Rbad))
  (hcap : keepL m cap) (hH1 : keepH m H1) :
  ACalls Tryz.prog 36 m (top + 2) [.list (l.map brow) .free, .fn cb cap] H1 fun out H' => (∃ l', RokG m Rok l' H' ∧ out = .ret (.v (.bool (decide ((((l'.map brow).length : Nat) : Int) = 0))))) ∨ (RbadG m Rbad H' ∧ out = .ret (.v (.bool false))) := by
 intro G w vals hk hlits hbase hh hlen hsim
 left
 refine ⟨by rfl, ?_⟩
 refine calls_of_wp_defers Tryz.func36 rfl ?_
 have hr : Rel ⟨G, w, H1, m, []⟩ No G ⟨[.list (l.map brow) .free, .fn cb cap, .dead, .dead, .dead, .dead, .dead, .dead, .dead, .dead, .dead, .dead, .dead, .dead, .dead, .dead, .dead, .dead, .dead, .dead, .dead, .dead, .dead, .dead], H1, m⟩ _ w := rel_start (m := 24) hk hbase hh hlen hsim
 refine wp_seq (wp_then tok dok hr ?_)
 refine no_implicit_lambda% (awd ?_)
 refine ⟨rfl, fun G1 a1 w1 hr1 => ?_⟩
 refine wp_seq (wp_then tok dok hr1 ?_)
 refine no_implicit_lambda% (awd ?_)
 (with_reducible refine zC ?_)
 refine a_move (av := .fn cb cap) rfl rfl ?_
 refine no_implicit_lambda% (awd ?_)
 refine ⟨rfl, fun G2 a2 w2 hr2 => ?_⟩
 refine wp_seq (wp_then tok dok hr2 ?_)
 refine no_implicit_lambda% (awd ?_)
 (with_reducible refine zC ?_)
 refine a_storeAt rfl rfl rfl findL_here rfl rfl (cells' := [.ptr (m + 1) 0]) rfl ?_
 simp only [setL, if_true]
 refine no_implicit_lambda% (awd ?_)
 refine ⟨rfl, fun G3 a3 w3 hr3 => ?_⟩
 refine wp_seq (wp_region_list ?_)
 refine wpL_at tok hr3 rfl (a_q1 (av := .fn 86 [.ptr (m + 1 + 1) 0, .ptr m 0]) rfl (fun _ h => h) ?_)
 intro G4 a4 w4 hr4
 refine wpL_defer hr4 rfl rfl rfl rfl rfl rfl ?_
 intro vs a5 hvs hcs hr5
 show Code.wp _ _ _ a5 w4
 refine wp_mono (acode_sound0 tok dok _ _ _ _ (afterK m (top + 2) (RokG m Rok) (RbadG m Rbad)) _ _ _ ?_ hr5.anew) ?_
 ·refine no_implicit_lambda% (awd ?_)
  (with_reducible refine zC ?_)
  refine a_move (av := .fn cb cap) rfl rfl ?_
  refine no_implicit_lambda% (awd ?_)
  (with_reducible refine zC ?_)
  refine a_loadAt rfl rfl rfl findL_here rfl rfl ?_
  refine no_implicit_lambda% (awd ?_)
  (with_reducible refine zC ?_)
  refine a_callS rfl rfl rfl rfl (args := .ptr (m + 1) 0 :: cap) rfl ?_
  refine by_contract (idsTo m (m + 1)) hcb (by simp [idsTo]; exact ⟨fun i hi => by omega, htop⟩) (idsTo_nodup (by omega)) (.of_eq ?_) (rest := [(m, .box [.v (.bool false)]), (m + 1 + 1, .box [.ptr (m + 1) 0])]) ?_ ?_ ?_
  ·simp only [AV.renL, AV.ren, idsTo_at]
   rw [hcap _ fun i hi => idsTo_lt hi]
  ·simp only [renH, Res.ren, AV.renL, AV.ren, idsTo_at]
   rw [hH1 _ fun i hi => idsTo_lt hi]
   refine (List.Perm.swap _ _ _).trans (.cons _ ?_)
   have e : ∀ (a b : Nat × Res) (H : Heap), (a :: b :: H).Perm (H ++ [b, a]) := fun a b H => (List.Perm.swap _ _ _).trans (show ([b, a] ++ H).Perm (H ++ [b, a]) from List.perm_append_comm)
   exact e _ _ _
  ·intro x H' h
   rcases h with ⟨x', l', H1', hR, h1, h2⟩ | ⟨H1', hR, h1, h2⟩
   ·cases h1; subst h2
    simp only [renH, Res.ren, AV.renL, AV.ren, idsTo_at, Own.ren]
    have hR' : RokG m Rok l' (renH (rn (idsTo m (m + 1)) (m + 1 + 1 + 1)) H1') := ⟨H1', hR, rfl⟩
    generalize renH (rn (idsTo m (m + 1)) (m + 1 + 1 + 1)) H1' = H1' at *
    (with_reducible refine is_opK ?_)
    refine k_op' (fun _ h => h) ?_
    (with_reducible refine o_nil ?_)
    refine k_seq_to ⟨_, (m, .box [.v (.bool false)]) :: (m + 1 + 1, .box [.ptr (m + 1) 0]) :: (m + 1, .box [.list (l'.map brow) .free]) :: H1', _⟩ (.drop (rest := []) ?_ (Nat.le_refl _)) ?_
    ·rw [List.append_nil]
     exact (List.perm_append_comm (l₁ := (m + 1, .box [.list (l'.map brow) .free]) :: H1'))
    refine no_implicit_lambda% (awd ?_)
    (with_reducible refine zC ?_)
    refine a_loadAt rfl rfl rfl ((findL_skip (by omega)).trans findL_here) rfl rfl ?_
    refine no_implicit_lambda% (awd ?_)
    (with_reducible refine zC ?_)
    refine a_loadAt rfl rfl rfl ((findL_skip (by omega)).trans ((findL_skip (by omega)).trans findL_here)) rfl rfl ?_
    refine no_implicit_lambda% (awd ?_)
    (with_reducible refine zC ?_)
    refine a_storeAt rfl rfl rfl findL_here rfl rfl (cells' := [.v (.bool (decide ((((l'.map brow).length : Nat) : Int) = 0)))]) rfl ?_
    simp only [setL, if_true]
    refine no_implicit_lambda% (awd ?_)
    exact ⟨by omega, rfl, .inl ⟨l', H1', hR', rfl, rfl⟩⟩
   ·cases h1
  ·intro x H' h
   rcases h with ⟨x', l', H1', hR, h1, h2⟩ | ⟨H1', hR, h1, h2⟩
   ·cases h1
   ·cases h1; subst h2
    have hR' : RbadG m Rbad (renH (rn (idsTo m (m + 1)) (m + 1 + 1 + 1)) H') := ⟨H', hR, rfl⟩
    generalize renH (rn (idsTo m (m + 1)) (m + 1 + 1 + 1)) H' = H' at *
    simp only [AV.ren, idsTo_at]
    refine no_implicit_lambda% (awd ?_)
    exact ⟨by omega, rfl, .inr ⟨H', hR', rfl, rfl⟩⟩
 ·rintro e a' w' ⟨e', s', L', n', G', ⟨rfl, hs4, k1⟩, k2, k3⟩
  have hS := k3.step
  have hic : Sim G' (.ptr (m + 1 + 1) 0) (vs.getD 0 undef) := hS.sim (hcs 0 _ rfl)
  have hio : Sim G' (.ptr m 0) (vs.getD 1 undef) := hS.sim (hcs 1 _ rfl)
  have hJ := hr5.join k3
  have fin : ∀ (G3 : Ghost) (w3 : World) (L3 H' rest : Heap) (b : Bool) (R : AOut → Heap → Prop), Rel ⟨G, w, H1, m, [{ target := .fn (.func 86) vs, args := #[] }]⟩ No G3 ⟨s', (m, .box [.v (.bool b)]) :: L3, top + 2⟩ a' w3 → L3.Perm (H' ++ rest) → R (.ret (.v (.bool b))) H' → ∃ v, (results Tryz.f36 a'.tmps).run Tryz.prog w3 = .ok v w3 ∧ ∃ G' out H', R out H' ∧ OSim G' out (.returned v) ∧ Holds G' w3 H' ∧ Step G w H1 G' w3 H' ∧ ∀ id, G'.live id → G.live id ∨ (m ≤ id ∧ id < top + 2) := by
   intro G3 w3 L3 H' rest b R hR hp hRR
   obtain ⟨v, h1, h2⟩ := results_run (P := Tryz.prog) tok hR (fn := Tryz.f36) (l := [.v (.bool b)]) (by
    show aresults TT s' _ [.cell 4 4] = _
    unfold aresults
    rw [getA_eq, hs4]
    simp [aresults, AV.down, aload, findL]
    rfl)
   have hp2 : ((m, Res.box [.v (.bool b)]) :: L3).Perm (H' ++ ((m, Res.box [.v (.bool b)]) :: rest)) := (hp.cons _).trans List.perm_middle.symm
   exact ⟨v, h1, G3, _, H', hRR, h2, (hR.holds.perm hp2).left, hR.step.sub hp2, fun id hid => (hR.old id hid).imp_right fun h => ⟨h, hR.next id hid⟩⟩
  have hde : a'.defers = [{ target := .fn (.func 86) vs, args := #[] }] := hJ.defers
  have hinv : ∀ w : World, (invoke (.fn (.func 86) vs) #[]).run Tryz.prog w = .ok (.enter 86 vs) w := fun w => by
   simp only [invoke, Array.empty_append]
   rfl
  rcases k1 with ⟨l', H1', hR, rfl, rfl⟩ | ⟨H1', hR, rfl, rfl⟩
  ·cases e <;> first | exact k2.elim | skip
   show Leaves Tryz.prog Tryz.f36 a'.tmps _ a'.defers .returning w'
   rw [hde]
   refine leaves_cons (by simp) (hinv w') ((readD _ _ _ hJ hvs hic hio (m := m + 1) (b := decide ((((l'.map brow).length : Nat) : Int) = 0)) ((findL_skip (by omega)).trans findL_here) findL_here).mono ?_)
   rintro e u' w3 ⟨⟨v, rfl⟩, rfl, G3, hr3⟩
   exact fin G3 w3 _ H1' [(m + 2, .box [.ptr (m + 1) 0]), (m + 1, .box [.list (l'.map brow) .free])] _ _ hr3 (by exact (List.perm_append_comm (l₁ := [_, _]))) (.inl ⟨l', hR, rfl⟩)
  ·cases e <;> first | exact k2.elim | skip
   obtain ⟨v, rfl, hv⟩ := k2
   show Leaves Tryz.prog Tryz.f36 a'.tmps _ a'.defers (.panicking [{ v := v, recovered := false }]) w'
   rw [hde]
   have hJ5 := hJ.perm (L' := (m, .box [.v (.bool false)]) :: (m + 2, .box [.ptr (m + 1) 0]) :: H1') List.perm_append_comm
   refine leaves_cons (by simp) (hinv w') ((readDp _ _ _ hJ5 hvs hic hio hv (b := false) ((findL_skip (by omega)).trans findL_here) findL_here).mono ?_)
   rintro e u' w3 ⟨⟨v, rfl⟩, hu, G3, hr3⟩
   show Leaves Tryz.prog Tryz.f36 a'.tmps _ [] (settle u') w3
   rw [hu]
   simp only [setL, if_true] at hr3
   exact fin G3 w3 _ H1' [(m + 2, .box [.ptr (m + 1) 0])] _ _ hr3 (by exact (List.perm_append_comm (l₁ := [_]))) (.inr ⟨hR, rfl⟩)
end Go.Proofs.YtjepgbpcpcahgaaGreat
namespace Go.Proofs.YtjepgbpcpcahgaaGreat
open Go.Am
set_option maxRecDepth 100000
theorem oct_of (x k m : Nat) (e : m = k) : IntKind.u8.wrap ((x : Int).fdiv (2 ^ m)) = ((UInt8.ofNat (x >>> k)).toNat : Int) := by
 subst e
 rw [IntKind.wrap_u8, UInt8.toNat_ofNat', Nat.shiftRight_eq_div_pow, Int.fdiv_eq_ediv_of_nonneg _ (Int.le_of_lt (Int.pow_pos (by decide)))]
 simp
theorem oct_0 (x : Nat) : IntKind.u8.wrap (x : Int) = ((UInt8.ofNat (x >>> 0)).toNat : Int) := by
 rw [IntKind.wrap_u8, UInt8.toNat_ofNat']; simp
def tokH (k n : Nat) : Heap := [(k, .tok 1 n)]
theorem refNum_c (b : List UInt8) (x : Nat) (hx : x < 4294967296) (h : b.length < 1073741824) : ACalls Tryz.prog 50 0 1 [.list (b.map brow) .free, .v (.int .u32 x)] [] (fun out H' => out = .ret (.list ((b ++ be x 4).map brow) (.tok 0)) ∧ H' = tokH 0 (b ++ be x 4).length) := by
 refine no_implicit_lambda% (acalls_of tok dok (f := 50) ⟨Tryz.func50, rfl, by kernel_rfl⟩ ?_); refine no_implicit_lambda% (c_start (fun _ h => h) ?_)
 refine no_implicit_lambda% (awd ?_)
 refine e_ret (H' := tokH 0 (b ++ be x 4).length) (rest := []) rfl ⟨congrArg (fun l => AOut.ret (.list l (.tok 0))) ?_, rfl⟩ (.of_eq ?_) (LE0 rfl)
 ·rw [oct_of x 24 (min (Int.toNat 24) IntKind.u32.bits) rfl, oct_of x 16 (min (Int.toNat 16) IntKind.u32.bits) rfl, oct_of x 8 (min (Int.toNat 8) IntKind.u32.bits) rfl, oct_0, List.nil_append, List.map_append]
  rfl
 ·simp [tokH, be_len]
theorem be_split (x : Nat) : be (x / 4294967296) 4 ++ be (x % 4294967296) 4 = be x 8 := by
 have e : ∀ k, k ≤ 3 → UInt8.ofNat ((x % 4294967296) >>> (8 * k)) = UInt8.ofNat (x >>> (8 * k)) := fun k hk => by
  apply UInt8.toNat_inj.1
  rw [UInt8.toNat_ofNat', UInt8.toNat_ofNat', Nat.shiftRight_eq_div_pow, Nat.shiftRight_eq_div_pow]
  match k, hk with
  | 0, _ => simp <;> omega
  | 1, _ => simp <;> omega
  | 2, _ => simp <;> omega
  | 3, _ => simp <;> omega
 have e2 : ∀ k, (x / 4294967296) >>> (8 * k) = x >>> (8 * (k + 4)) := fun k => by
  rw [Nat.shiftRight_eq_div_pow, Nat.shiftRight_eq_div_pow, Nat.mul_add, Nat.pow_add, Nat.mul_comm (2 ^ (8 * k)), ← Nat.div_div_eq_div_mul]
 simp only [be, e 0 (by omega), e 1 (by omega), e 2 (by omega), e 3 (by omega), e2, List.cons_append, List.nil_append]
theorem hi32 (x m : Nat) (hx : x < 18446744073709551616) (e : m = 32) : IntKind.u32.wrap ((x : Int).fdiv (2 ^ m)) = ((x / 4294967296 : Nat) : Int) := by
 subst e
 rw [IntKind.wrap_u32, Int.fdiv_eq_ediv_of_nonneg _ (Int.le_of_lt (Int.pow_pos (by decide)))]
 have : (2 : Int) ^ 32 = 4294967296 := by decide
 rw [this]
 omega
theorem lo32 (x : Nat) : IntKind.u32.wrap (x : Int) = ((x % 4294967296 : Nat) : Int) := by
 rw [IntKind.wrap_u32]; omega
theorem refLong_c (b : List UInt8) (x : Nat) (hx : x < 18446744073709551616) (h : b.length < 1073741000) : ACalls Tryz.prog 34 0 2 [.list (b.map brow) .free, .v (.int .u64 x)] [] (fun out H' => out = .ret (.list ((b ++ be x 8).map brow) (.tok 1)) ∧ H' = tokH 1 (b ++ be x 8).length) := by
 refine no_implicit_lambda% (acalls_of tok dok (f := 34) ⟨Tryz.func34, rfl, by kernel_rfl⟩ ?_); refine no_implicit_lambda% (c_start (fun _ h => h) ?_)
 refine no_implicit_lambda% (awd ?_)
 rw [hi32 x (min (Int.toNat 32) IntKind.u64.bits) hx rfl]
 refine no_implicit_lambda% (calw [] (refNum_c b (x / 4294967296) (by omega) (by omega)) ?_ ?_)
 ·refine no_implicit_lambda% (ret1 ?_); first | (refine no_implicit_lambda% (akc ?_)) | (refine no_implicit_lambda% (aec ?_))
  refine no_implicit_lambda% (awd ?_)
  rw [lo32]
  refine no_implicit_lambda% (calw [] (refNum_c (b ++ be (x / 4294967296) 4) (x % 4294967296) (by omega) (by simp [be_len]; omega)) ?_ ?_)
  ·refine no_implicit_lambda% (ret1 ?_); first | (refine no_implicit_lambda% (akc ?_)) | (refine no_implicit_lambda% (aec ?_))
   refine no_implicit_lambda% (awd ?_)
   refine e_ret (H' := tokH 1 (b ++ be x 8).length) (rest := tokH 0 (b ++ be (x / 4294967296) 4).length) rfl ⟨?_, rfl⟩ (.of_eq ?_) (LE0 rfl)
   ·rw [← be_split x, ← List.append_assoc]; rfl
   ·rw [← be_split x, ← List.append_assoc]; rfl
  ·first | (exact zI) | (exact zJ)
 ·first | (exact zI) | (exact zJ)
theorem nan_def (b : Nat) : nanB b = decide (9218868437227405312 < b % 9223372036854775808) := by
 have h : ∀ d : Ieee.Datum, (d.order d != some .eq) = d.isNaN := fun d => by
  cases d <;> simp [Ieee.Datum.order, Ieee.Datum.isNaN]
 have e1 : FloatKind.f64.format.signWeight = 9223372036854775808 := by decide
 have e2 : FloatKind.f64.format.infRung = 9218868437227405312 := by decide
 have e3 : FloatKind.f64.format.binade = 4503599627370496 := by decide
 unfold nanB Ieee.Format.order
 rw [h]
 unfold Ieee.Format.read
 simp only [e1, e2, e3]
 generalize b % 9223372036854775808 = r
 by_cases k1 : r < 4503599627370496
 ·rw [if_pos k1]
  simp [Ieee.Datum.isNaN]; omega
 ·rw [if_neg k1]
  by_cases k2 : r < 9218868437227405312
  ·rw [if_pos k2]
   simp [Ieee.Datum.isNaN]; omega
  ·rw [if_neg k2]
   by_cases k3 : r = 9218868437227405312
   ·rw [if_pos k3]
    simp [Ieee.Datum.isNaN]; omega
   ·rw [if_neg k3]
    simp [Ieee.Datum.isNaN]; omega
theorem and64 {a c : Nat} (ha : a < 18446744073709551616) (hc : c < 18446744073709551616) : IntKind.u64.wrap ((BitVec.ofInt IntKind.u64.bits (a : Int) &&& BitVec.ofInt IntKind.u64.bits (c : Int)).toNat : Int) = ((a &&& c : Nat) : Int) := by
 rw [BitVec.toNat_and, ofInt_nat ha, ofInt_nat hc]
 exact u64_of (Nat.lt_of_le_of_lt Nat.and_le_left ha)
theorem and_frac (b : Nat) : b &&& 4503599627370495 = b % 4503599627370496 := Nat.and_two_pow_sub_one_eq_mod b 52
theorem and_exp (b : Nat) : b &&& 9218868437227405312 = (b / 4503599627370496 % 2048) * 4503599627370496 := by
 have e1 : (9218868437227405312 : Nat) = 2047 <<< 52 := by decide
 have e2 : (b / 4503599627370496 % 2048) * 4503599627370496 = ((b >>> 52) &&& 2047) <<< 52 := by
  rw [Nat.shiftLeft_eq, Nat.shiftRight_eq_div_pow, Nat.and_two_pow_sub_one_eq_mod _ 11]
 rw [e1, e2]
 apply Nat.eq_of_testBit_eq
 intro i
 simp only [Nat.testBit_and, Nat.testBit_shiftLeft, Nat.testBit_shiftRight]
 by_cases h : 52 ≤ i
 ·have : 52 + (i - 52) = i := by omega
  simp [h, this]
 ·simp [h]
theorem nan_bits (b : Nat) : (b &&& 9218868437227405312 = 9218868437227405312 ∧ b &&& 4503599627370495 ≠ 0) ↔ nanB b = true := by
 rw [and_frac, and_exp, nan_def, decide_eq_true_eq]
 omega
theorem refBits_c (b : Nat) (hb : b < 18446744073709551616) : ACalls Tryz.prog 114 0 0 [.v (.float .f64 b)] [] (fun out H' => out = .ret (.v (.int .u64 (canonB b))) ∧ H' = []) := by
 refine no_implicit_lambda% (acalls_of tok dok (f := 114) ⟨Tryz.func114, rfl, by kernel_rfl⟩ ?_); refine no_implicit_lambda% (c_start (fun _ h => h) ?_)
 refine no_implicit_lambda% (awd ?_)
 refine no_implicit_lambda% (cal [] (bits_x b) ?_ ?_)
 ·refine no_implicit_lambda% (ret1 ?_); first | (refine no_implicit_lambda% (akc ?_)) | (refine no_implicit_lambda% (aec ?_))
  refine no_implicit_lambda% (awd ?_)
  rw [show (9218868437227405312 : Int) = ((9218868437227405312 : Nat) : Int) by rfl, and64 hb (by decide)]
  repeat' (first | (refine no_implicit_lambda% (zH ?_)) | (((with_reducible refine no_implicit_lambda% (zA ?_)); refine no_implicit_lambda% (zD rfl rfl rfl (fun hc => ?_) (fun hc => ?_)) <;> rw [hc])) | (((with_reducible refine no_implicit_lambda% (zB ?_)); refine no_implicit_lambda% (zE rfl (fun hc => ?_) (fun hc => ?_)))) | (((with_reducible refine no_implicit_lambda% (zC ?_)); refine no_implicit_lambda% (zF rfl rfl (fun hc => ?_) (fun hc => ?_)) <;> rw [hc])) | fail)
  ·rename_i h1
   have h2 := hc
   rw [show (4503599627370495 : Int) = ((4503599627370495 : Nat) : Int) by rfl, and64 hb (by decide)] at h2
   have h := (nan_bits b).1 ⟨by simp at h1; omega, by simp at h2; omega⟩
   exact e_ret (H' := []) rfl ⟨by simp [canonB, h]; rfl, rfl⟩ (.refl _) (LE0 rfl)
  ·rename_i h1
   have h2 := hc
   rw [show (4503599627370495 : Int) = ((4503599627370495 : Nat) : Int) by rfl, and64 hb (by decide)] at h2
   have h : nanB b = false := by
    cases hn : nanB b
    ·rfl
    ·have := (nan_bits b).2 hn
     simp at h2; omega
   exact e_ret (H' := []) rfl ⟨by simp [canonB, h]; rfl, rfl⟩ (.refl _) (LE0 rfl)
  ·have h1 := hc
   have h : nanB b = false := by
    cases hn : nanB b
    ·rfl
    ·have := (nan_bits b).2 hn
     simp at h1; omega
   exact e_ret (H' := []) rfl ⟨by simp [canonB, h]; rfl, rfl⟩ (.refl _) (LE0 rfl)
 ·first | (exact zI) | (exact zJ)
theorem refFloat_c (b : List UInt8) (x : Nat) (hx : x < 18446744073709551616) (h : b.length < 1073741000) : ACalls Tryz.prog 82 0 2 [.list (b.map brow) .free, .v (.float .f64 x)] [] (fun out H' => out = .ret (.list ((b ++ be (canonB x) 8).map brow) (.tok 1)) ∧ H' = tokH 1 (b ++ be (canonB x) 8).length) := by
 refine no_implicit_lambda% (acalls_of tok dok (f := 82) ⟨Tryz.func82, rfl, by kernel_rfl⟩ ?_); refine no_implicit_lambda% (c_start (fun _ h => h) ?_)
 refine no_implicit_lambda% (awd ?_)
 refine no_implicit_lambda% (cal [] (refBits_c x hx) ?_ ?_)
 ·refine no_implicit_lambda% (ret1 ?_); first | (refine no_implicit_lambda% (akc ?_)) | (refine no_implicit_lambda% (aec ?_))
  refine no_implicit_lambda% (awd ?_)
  refine no_implicit_lambda% (cal [] (refLong_c b (canonB x) (by unfold canonB; split <;> omega) h) ?_ ?_)
  ·refine no_implicit_lambda% (ret1 ?_); first | (refine no_implicit_lambda% (akc ?_)) | (refine no_implicit_lambda% (aec ?_))
   refine no_implicit_lambda% (awd ?_)
   exact e_ret (H' := tokH 1 (b ++ be (canonB x) 8).length) (rest := []) rfl ⟨rfl, rfl⟩ (.of_eq rfl) (LE0 rfl)
  ·first | (exact zI) | (exact zJ)
 ·first | (exact zI) | (exact zJ)
theorem refText_c (b x : List UInt8) (h : b.length < 1073741000) (hx : x.length < 1048577) : ACalls Tryz.prog 32 0 1 [.list (b.map brow) .free, .list (x.map brow) .free] [] (fun out H' => out = .ret (.list ((b ++ (be x.length 4 ++ x)).map brow) (.tok 0)) ∧ H' = tokH 0 (b ++ (be x.length 4 ++ x)).length) := by
 refine no_implicit_lambda% (acalls_of tok dok (f := 32) ⟨Tryz.func32, rfl, by kernel_rfl⟩ ?_); refine no_implicit_lambda% (c_start (fun _ h => h) ?_)
 refine no_implicit_lambda% (awd ?_)
 rw [show IntKind.u32.wrap ((x.map brow).length : Int) = x.length by rw [IntKind.wrap_u32, List.length_map]; omega]
 refine no_implicit_lambda% (cal [] (refNum_c b x.length (by omega) (by omega)) ?_ ?_)
 ·refine no_implicit_lambda% (ret1 ?_); first | (refine no_implicit_lambda% (akc ?_)) | (refine no_implicit_lambda% (aec ?_))
  have hbl := be_len x.length 4
  refine no_implicit_lambda% (awd ?_)
  refine e_ret (H' := tokH 0 (b ++ (be x.length 4 ++ x)).length) (rest := []) rfl ⟨?_, rfl⟩ (.of_eq ?_) (LE0 rfl)
  ·rw [← List.append_assoc, List.map_append (l₁ := b ++ be x.length 4)]; rfl
  ·simp [tokH, rn, Nat.add_assoc]
 ·first | (exact zI) | (exact zJ)
end Go.Proofs.YtjepgbpcpcahgaaGreat
namespace Go.Proofs.YtjepgbpcpcahgaaGreat
open Go.Am
set_option maxRecDepth 100000
theorem LeA.agg {l l' : List AV} (h : LeL l l') : LeA (.agg l) (.agg l') := fun G x hx => by
 obtain ⟨vs, rfl, h1, h2⟩ := Sim.agg_inv hx
 refine .agg _ _ (by rw [← h.len]; exact h1) fun i a ha => ?_
 obtain ⟨b, hb, hle⟩ := h.get i a ha
 exact hle _ _ (h2 i b hb)
structure Va where
 kind : Int
 b : List UInt8
 n : Nat
def vrowV (v : Va) : List AV := [.v (.int .i64 v.kind), .list (v.b.map brow) .free, .v (.float .f64 v.n)]
def vav (v : Va) : AV := .agg (vrowV v)
def canV (v : Va) : Va := if v.kind = 1 then ⟨1, v.b, 0⟩ else if v.kind = 2 then ⟨2, [], canonB v.n⟩ else ⟨0, [], 0⟩
def ordV0 (a b : Va) : Int := if a.kind ≠ b.kind then cmpZ a.kind b.kind else if a.kind = 1 then Lib.compareBytes a.b b.b else if a.kind = 2 then cmpZ (keyI a.n) (keyI b.n) else 0
def ordV (a b : Va) : Int := ordV0 (canV a) (canV b)
theorem canonv_c (v : Va) (h : v.b.length < 70368744177664) : ACalls Tryz.prog 68 0 10 [vav v] [] (fun out H' => out = .ret (vav (canV v)) ∧ H' = []) := by
 obtain ⟨kd, b, n⟩ := v
 refine no_implicit_lambda% (acalls_of tok dok (f := 68) ⟨Tryz.func68, rfl, by kernel_rfl⟩ ?_); refine no_implicit_lambda% (c_start (fun _ h => h) ?_)
 repeat' (first | (refine no_implicit_lambda% (zH ?_)) | (((with_reducible refine no_implicit_lambda% (zA ?_)); refine no_implicit_lambda% (zD rfl rfl rfl (fun hc => ?_) (fun hc => ?_)) <;> rw [hc])) | (((with_reducible refine no_implicit_lambda% (zB ?_)); refine no_implicit_lambda% (zE rfl (fun hc => ?_) (fun hc => ?_)))) | (((with_reducible refine no_implicit_lambda% (zC ?_)); refine no_implicit_lambda% (zF rfl rfl (fun hc => ?_) (fun hc => ?_)) <;> rw [hc])) | fail)
 ·have hk : kd = 1 := by simpa using hc
  subst hk
  refine no_implicit_lambda% (cal [] (clone_c (b.map brow) (brows b) (by rw [List.length_map]; exact h)) ?_ ?_)
  ·refine no_implicit_lambda% (ret1 ?_); first | (refine no_implicit_lambda% (akc ?_)) | (refine no_implicit_lambda% (aec ?_))
   refine no_implicit_lambda% (awd ?_)
   exact e_ret (H' := []) (rest := _) rfl ⟨rfl, rfl⟩ (.refl _) (LE0 rfl)
  ·first | (exact zI) | (exact zJ)
 ·have hk : kd = 2 := by simpa using hc
  subst hk
  refine no_implicit_lambda% (cal [] (canon_c n) ?_ ?_)
  ·refine no_implicit_lambda% (ret1 ?_); first | (refine no_implicit_lambda% (akc ?_)) | (refine no_implicit_lambda% (aec ?_))
   refine no_implicit_lambda% (awd ?_)
   exact e_ret_to (H' := []) (.wk (.refl _) (.cons (.box _ (.cons (.refl _) (.cons (.free _ _) (.cons (.refl _) .nil)))) (.refl _))) rfl ⟨rfl, rfl⟩ (.refl _) (LE0 rfl)
  ·first | (exact zI) | (exact zJ)
 ·have hk1 : kd ≠ 1 := by rename_i hc1; simpa using hc1
  have hk2 : kd ≠ 2 := by simpa using hc
  refine e_ret_to (H' := []) (.wk (.refl _) (.cons (.box _ (.cons (.refl _) (.cons (.free _ _) (.cons (.refl _) .nil)))) (.refl _))) rfl ⟨?_, rfl⟩ (.refl _) (LE0 rfl)
  unfold canV
  rw [if_neg hk1, if_neg hk2]
  rfl
def VOk (v : Va) : Prop := (v.kind = 1 ∧ v.n = 0 ∧ v.b.length ≤ 16) ∨ (v.kind = 2 ∧ v.b = [] ∧ v.n < 18446744073709551616)
theorem VOk.len {v : Va} (h : VOk v) : v.b.length < 70368744177664 := by
 rcases h with h | h
 ·omega
 ·rw [h.2.1]; decide
theorem vmade_c (tx : Bool) (n : Int) (x : Nat) (b : List UInt8) (hn1 : -9223372036854775808 ≤ n) (hn2 : n ≤ 9223372036854775807) (hx : x < 18446744073709551616) : ACalls Tryz.prog 31 0 10 [.agg [.v (.bool tx), .v (.int .i64 n), .v (.float .f64 x), .list (b.map brow) .free]] [] (fun out H' => ∃ v, VOk v ∧ out = .ret (vav v) ∧ H' = []) := by
 refine no_implicit_lambda% (acalls_of tok dok (f := 31) ⟨Tryz.func31, rfl, by kernel_rfl⟩ ?_); refine no_implicit_lambda% (c_start (fun _ h => h) ?_)
 repeat' (first | (refine no_implicit_lambda% (zH ?_)) | (((with_reducible refine no_implicit_lambda% (zA ?_)); refine no_implicit_lambda% (zD rfl rfl rfl (fun hc => ?_) (fun hc => ?_)) <;> rw [hc])) | (((with_reducible refine no_implicit_lambda% (zB ?_)); refine no_implicit_lambda% (zE rfl (fun hc => ?_) (fun hc => ?_)))) | (((with_reducible refine no_implicit_lambda% (zC ?_)); refine no_implicit_lambda% (zF rfl rfl (fun hc => ?_) (fun hc => ?_)) <;> rw [hc])) | fail)
 ·refine no_implicit_lambda% (cal [] (cut_c b 16 (by decide)) ?_ ?_)
  ·refine no_implicit_lambda% (ret1 ?_); first | (refine no_implicit_lambda% (akc ?_)) | (refine no_implicit_lambda% (aec ?_))
   refine no_implicit_lambda% (awd ?_)
   refine e_ret (H' := []) (rest := _) rfl ⟨⟨1, b.take 16, 0⟩, .inl ⟨rfl, rfl, by simp; omega⟩, rfl, rfl⟩ (.refl _) (LE0 rfl)
  ·first | (exact zI) | (exact zJ)
 ·refine no_implicit_lambda% (cal [] (flt_c n x hn1 hn2 hx) ?_ ?_)
  ·intro x H' h; obtain ⟨fb, hfb, h1, rfl⟩ := h; cases h1; first | (refine no_implicit_lambda% (akc ?_)) | (refine no_implicit_lambda% (aec ?_))
   refine no_implicit_lambda% (awd ?_)
   exact e_ret_to (H' := []) (.wk (.refl _) (.cons (.box _ (.cons (.refl _) (.cons (.free _ _) (.cons (.refl _) .nil)))) (.refl _))) rfl ⟨⟨2, [], fb⟩, .inr ⟨rfl, rfl, hfb⟩, rfl, rfl⟩ (.refl _) (LE0 rfl)
  ·intro x H' h; obtain ⟨_, _, h1, _⟩ := h; cases h1
theorem vright_c (v : Va) : ACalls Tryz.prog 62 0 10 [vav v] [] (fun out H' => out = .ret (.v (.bool (v.kind == 1 && decide ((v.b.length : Int) ≤ 16) || v.kind == 2))) ∧ H' = []) := by
 obtain ⟨kd, b, n⟩ := v
 refine no_implicit_lambda% (acalls_of tok dok (f := 62) ⟨Tryz.func62, rfl, by kernel_rfl⟩ ?_); refine no_implicit_lambda% (c_start (fun _ h => h) ?_)
 repeat' (first | (refine no_implicit_lambda% (zH ?_)) | (((with_reducible refine no_implicit_lambda% (zA ?_)); refine no_implicit_lambda% (zD rfl rfl rfl (fun hc => ?_) (fun hc => ?_)) <;> rw [hc])) | (((with_reducible refine no_implicit_lambda% (zB ?_)); refine no_implicit_lambda% (zE rfl (fun hc => ?_) (fun hc => ?_)))) | (((with_reducible refine no_implicit_lambda% (zC ?_)); refine no_implicit_lambda% (zF rfl rfl (fun hc => ?_) (fun hc => ?_)) <;> rw [hc])) | fail)
 all_goals
  refine e_ret (H' := []) (rest := _) rfl ⟨congrArg (fun z => AOut.ret (.v (.bool z))) ?_, rfl⟩ (.refl _) (LE0 rfl)
  simp only [List.length_map] at *
  simp_all
end Go.Proofs.YtjepgbpcpcahgaaGreat
namespace Go.Proofs.YtjepgbpcpcahgaaGreat
open Go.Am
set_option maxRecDepth 100000
def rr (b : List UInt8) (bad : Bool) : Heap := [(0, .box [.list (b.map brow) .free, .v (.bool bad)])]
theorem rr_free (s : List AV) (n : Nat) (bad : Bool) (rows : List (List AV)) (o : Own) : Conv ⟨s, [(0, .box [.list rows o, .v (.bool bad)])], n⟩ ⟨s, [(0, .box [.list rows .free, .v (.bool bad)])], n⟩ :=
 .wk (.refl _) (.cons (.box _ (.cons (.free _ _) (.refl _))) (.refl _))
theorem refFail_c (b : List UInt8) (bad : Bool) : ACalls Tryz.prog 95 1 1 [.ptr 0 0] (rr b bad) (fun out H' => out = .ret (.tuple []) ∧ H' = rr [] true) := by
 refine no_implicit_lambda% (acalls_of tok dok (f := 95) ⟨Tryz.func95, rfl, by kernel_rfl⟩ ?_); refine no_implicit_lambda% (c_start (fun _ h => h) ?_)
 refine no_implicit_lambda% (awd ?_)
 exact e_ret_to (H' := rr [] true) (rest := []) (rr_free _ _ _ _ _) rfl ⟨rfl, rfl⟩ (.of_eq rfl) (LE0 rfl)
def rSome (n : Nat) (b : List UInt8) (bad : Bool) : List UInt8 := if bad = false ∧ n ≤ b.length then b.take n else List.replicate (min n 8) 0
def rBad (n : Nat) (b : List UInt8) (bad : Bool) : Bool := !decide (bad = false ∧ n ≤ b.length)
def rLeft (n : Nat) (b : List UInt8) (bad : Bool) : List UInt8 := if bad = false ∧ n ≤ b.length then b.drop n else []
theorem rSome_len (n : Nat) (b : List UInt8) (bad : Bool) (hn : n ≤ 8) : (rSome n b bad).length = n := by
 unfold rSome
 split
 ·rename_i h; rw [List.length_take]; omega
 ·rw [List.length_replicate]; omega
theorem refSome_c (b : List UInt8) (bad : Bool) (n : Nat) (hn : n ≤ 8) (h : b.length < 70368744177664) : ACalls Tryz.prog 138 1 3 [.ptr 0 0, .v (.int .i64 n)] (rr b bad) (fun out H' => out = .ret (.list ((rSome n b bad).map brow) .free) ∧ H' = rr (rLeft n b bad) (rBad n b bad)) := by
 refine no_implicit_lambda% (acalls_of tok dok (f := 138) ⟨Tryz.func138, rfl, by kernel_rfl⟩ ?_); refine no_implicit_lambda% (c_start (fun _ h => h) ?_)
 repeat' (first | (refine no_implicit_lambda% (zH ?_)) | (((with_reducible refine no_implicit_lambda% (zA ?_)); refine no_implicit_lambda% (zD rfl rfl rfl (fun hc => ?_) (fun hc => ?_)) <;> rw [hc])) | (((with_reducible refine no_implicit_lambda% (zB ?_)); refine no_implicit_lambda% (zE rfl (fun hc => ?_) (fun hc => ?_)))) | (((with_reducible refine no_implicit_lambda% (zC ?_)); refine no_implicit_lambda% (zF rfl rfl (fun hc => ?_) (fun hc => ?_)) <;> rw [hc])) | fail)
 ·have e1 : rSome n b true = List.replicate n 0 := by unfold rSome; rw [if_neg (by simp), Nat.min_eq_left hn]
  have e2 : rBad n b true = true := by unfold rBad; rw [decide_eq_false (by simp)]; rfl
  have e3 : rLeft n b true = [] := by unfold rLeft; rw [if_neg (by simp)]
  rw [e1, e2, e3]
  refine no_implicit_lambda% (cal [0] (refFail_c b true) ?_ ?_)
  ·refine no_implicit_lambda% (ret1 ?_); first | (refine no_implicit_lambda% (akc ?_)) | (refine no_implicit_lambda% (aec ?_))
   refine no_implicit_lambda% (awd ?_)
   rw [show (if (8 : Int) < (n : Int) then (8 : Int) else (n : Int)) = (n : Int) by rw [if_neg (by omega)]]
   (with_reducible refine no_implicit_lambda% (zC ?_)); first | (refine no_implicit_lambda% (a_qS rfl (fun _ h => h) ?_ ?_)) | (refine no_implicit_lambda% (a_qS rfl (qIx (fun _ h => h)) ?_ ?_)) | (refine no_implicit_lambda% (a_qS rfl (qAnd5 (fun _ h => h)) ?_ ?_)) | (refine no_implicit_lambda% (a_qS rfl (qStr (fun _ h => h)) ?_ ?_)) | (refine no_implicit_lambda% (a_qS rfl (qAnd4 (fun _ h => h)) ?_ ?_)) | (refine no_implicit_lambda% (a_qS rfl (qAnd2 (fun _ h => h)) ?_ ?_))
   ·exact ⟨rfl, Int.natCast_nonneg n, by omega, by show ((1 : Nat) : Int) * (n : Int) ≤ 140737488355328; omega⟩
   refine no_implicit_lambda% (awd ?_)
   refine e_ret_to (H' := rr [] true) (rest := []) (.freeSlot 4 rfl) rfl ⟨congrArg (fun l => AOut.ret (.list l .free)) ?_, rfl⟩ (.of_eq rfl) (LE0 rfl)
   rw [Int.toNat_natCast, List.map_replicate]
   rfl
  ·first | (exact zI) | (exact zJ)
 ·have e1 : rSome n b false = List.replicate n 0 := by unfold rSome; rw [if_neg (by simp at *; omega), Nat.min_eq_left hn]
  have e2 : rBad n b false = true := by unfold rBad; rw [decide_eq_false (by simp at *; omega)]; rfl
  have e3 : rLeft n b false = [] := by unfold rLeft; rw [if_neg (by simp at *; omega)]
  rw [e1, e2, e3]
  refine no_implicit_lambda% (cal [0] (refFail_c b false) ?_ ?_)
  ·refine no_implicit_lambda% (ret1 ?_); first | (refine no_implicit_lambda% (akc ?_)) | (refine no_implicit_lambda% (aec ?_))
   refine no_implicit_lambda% (awd ?_)
   rw [show (if (8 : Int) < (n : Int) then (8 : Int) else (n : Int)) = (n : Int) by rw [if_neg (by omega)]]
   (with_reducible refine no_implicit_lambda% (zC ?_)); first | (refine no_implicit_lambda% (a_qS rfl (fun _ h => h) ?_ ?_)) | (refine no_implicit_lambda% (a_qS rfl (qIx (fun _ h => h)) ?_ ?_)) | (refine no_implicit_lambda% (a_qS rfl (qAnd5 (fun _ h => h)) ?_ ?_)) | (refine no_implicit_lambda% (a_qS rfl (qStr (fun _ h => h)) ?_ ?_)) | (refine no_implicit_lambda% (a_qS rfl (qAnd4 (fun _ h => h)) ?_ ?_)) | (refine no_implicit_lambda% (a_qS rfl (qAnd2 (fun _ h => h)) ?_ ?_))
   ·exact ⟨rfl, Int.natCast_nonneg n, by omega, by show ((1 : Nat) : Int) * (n : Int) ≤ 140737488355328; omega⟩
   refine no_implicit_lambda% (awd ?_)
   refine e_ret_to (H' := rr [] true) (rest := []) (.freeSlot 4 rfl) rfl ⟨congrArg (fun l => AOut.ret (.list l .free)) ?_, rfl⟩ (.of_eq rfl) (LE0 rfl)
   rw [Int.toNat_natCast, List.map_replicate]
   rfl
  ·first | (exact zI) | (exact zJ)
 ·have hn' : n ≤ b.length := by simp at *; omega
  have e1 : rSome n b false = b.take n := by unfold rSome; rw [if_pos ⟨rfl, hn'⟩]
  have e2 : rBad n b false = false := by unfold rBad; rw [decide_eq_true ⟨rfl, hn'⟩]; rfl
  have e3 : rLeft n b false = b.drop n := by unfold rLeft; rw [if_pos ⟨rfl, hn'⟩]
  rw [e1, e2, e3]
  (with_reducible refine no_implicit_lambda% (zC ?_)); first | (refine no_implicit_lambda% (a_qS rfl (fun _ h => h) ?_ ?_)) | (refine no_implicit_lambda% (a_qS rfl (qIx (fun _ h => h)) ?_ ?_)) | (refine no_implicit_lambda% (a_qS rfl (qAnd5 (fun _ h => h)) ?_ ?_)) | (refine no_implicit_lambda% (a_qS rfl (qStr (fun _ h => h)) ?_ ?_)) | (refine no_implicit_lambda% (a_qS rfl (qAnd4 (fun _ h => h)) ?_ ?_)) | (refine no_implicit_lambda% (a_qS rfl (qAnd2 (fun _ h => h)) ?_ ?_))
  ·refine ⟨trivial, Int.natCast_nonneg n, Nat.zero_le _, ?_, brows b⟩
   simpa using hn'
  refine k_as (.list ((b.take n).map brow) .free) (by simp [List.map_take, orFull, isFull, isNone]) ?_
  have hl : (b.take n).length ≤ 8 := by rw [List.length_take]; omega
  refine no_implicit_lambda% (awd ?_)
  (with_reducible refine no_implicit_lambda% (zC ?_)); first | (refine no_implicit_lambda% (a_qS rfl (fun _ h => h) ?_ ?_)) | (refine no_implicit_lambda% (a_qS rfl (qIx (fun _ h => h)) ?_ ?_)) | (refine no_implicit_lambda% (a_qS rfl (qAnd5 (fun _ h => h)) ?_ ?_)) | (refine no_implicit_lambda% (a_qS rfl (qStr (fun _ h => h)) ?_ ?_)) | (refine no_implicit_lambda% (a_qS rfl (qAnd4 (fun _ h => h)) ?_ ?_)) | (refine no_implicit_lambda% (a_qS rfl (qAnd2 (fun _ h => h)) ?_ ?_))
  ·refine ⟨Int.natCast_nonneg n, trivial, ?_, Nat.le_refl _, brows b⟩
   simpa using hn'
  refine k_as (.list ((b.drop n).map brow) .free) (by rw [Int.toNat_natCast, List.take_of_length_le (Nat.le_refl _), List.map_drop]) ?_
  refine no_implicit_lambda% (awd ?_)
  exact e_ret_to (H' := rr (b.drop n) false) (rest := [(1, .tok 1 (([] : List AV).length + ((b.take n).map brow).length))]) (.freeSlot 4 rfl) rfl ⟨rfl, rfl⟩ (.swap _ _ _) (LE0 rfl)
theorem shl32 {a k : Nat} (h : a * 2 ^ k < 4294967296) (m : Nat) (hm : m = k) : IntKind.u32.wrap ((a : Int) * 2 ^ m) = ((a * 2 ^ k : Nat) : Int) := by
 subst hm
 have : ((a : Int) * 2 ^ m) = ((a * 2 ^ m : Nat) : Int) := by rw [Int.natCast_mul, Int.natCast_pow]; rfl
 rw [IntKind.wrap_u32, this]
 omega
theorem or32 {a c k : Nat} (ha : a * 2 ^ k + c < 4294967296) (hc : c < 2 ^ k) : IntKind.u32.wrap ((BitVec.ofInt IntKind.u32.bits ((a * 2 ^ k : Nat) : Int) ||| BitVec.ofInt IntKind.u32.bits (c : Int)).toNat : Int) = ((a * 2 ^ k + c : Nat) : Int) := by
 have e : ∀ {n : Nat}, n < 4294967296 → (BitVec.ofInt IntKind.u32.bits (n : Int)).toNat = n := fun {n} h => by
  show (BitVec.ofInt 32 (n : Int)).toNat = n
  rw [BitVec.toNat_ofInt]; omega
 rw [BitVec.toNat_or, e (by omega), e (by omega), ← Nat.shiftLeft_eq, ← Nat.shiftLeft_add_eq_or_of_lt hc, Nat.shiftLeft_eq, IntKind.wrap_u32]
 omega
theorem w32 {n : Nat} (h : n < 4294967296) : IntKind.u32.wrap (n : Int) = n := by rw [IntKind.wrap_u32]; omega
theorem num4 {x0 x1 x2 x3 : Nat} (h0 : x0 < 256) (h1 : x1 < 256) (h2 : x2 < 256) (h3 : x3 < 256) :
  IntKind.u32.wrap (BitVec.ofInt IntKind.u32.bits (IntKind.u32.wrap (BitVec.ofInt IntKind.u32.bits (IntKind.u32.wrap (BitVec.ofInt IntKind.u32.bits (IntKind.u32.wrap (IntKind.u32.wrap (x0 : Int) * 2 ^ min (Int.toNat 24) IntKind.u32.bits)) ||| BitVec.ofInt IntKind.u32.bits (IntKind.u32.wrap (IntKind.u32.wrap (x1 : Int) * 2 ^ min (Int.toNat 16) IntKind.u32.bits))).toNat) ||| BitVec.ofInt IntKind.u32.bits (IntKind.u32.wrap (IntKind.u32.wrap (x2 : Int) * 2 ^ min (Int.toNat 8) IntKind.u32.bits))).toNat) ||| BitVec.ofInt IntKind.u32.bits (IntKind.u32.wrap (x3 : Int))).toNat = ((((x0 * 256 + x1) * 256 + x2) * 256 + x3 : Nat) : Int) := by
 rw [w32 (n := x0) (by omega), w32 (n := x1) (by omega), w32 (n := x2) (by omega), w32 (n := x3) (by omega)]
 rw [shl32 (a := x0) (k := 24) (by omega) (min (Int.toNat 24) IntKind.u32.bits) rfl, shl32 (a := x1) (k := 16) (by omega) (min (Int.toNat 16) IntKind.u32.bits) rfl, shl32 (a := x2) (k := 8) (by omega) (min (Int.toNat 8) IntKind.u32.bits) rfl]
 rw [or32 (a := x0) (k := 24) (c := x1 * 2 ^ 16) (by omega) (by omega)]
 rw [show x0 * 2 ^ 24 + x1 * 2 ^ 16 = (x0 * 256 + x1) * 2 ^ 16 by omega, or32 (by omega) (by omega)]
 rw [show (x0 * 256 + x1) * 2 ^ 16 + x2 * 2 ^ 8 = ((x0 * 256 + x1) * 256 + x2) * 2 ^ 8 by omega, or32 (by omega) (by omega)]
theorem refByte_c (b : List UInt8) (bad : Bool) (h : b.length < 70368744177664) : ACalls Tryz.prog 92 1 4 [.ptr 0 0] (rr b bad) (fun out H' => out = .ret (.v (.int .u8 (ubn (rSome 1 b bad) 0))) ∧ H' = rr (rLeft 1 b bad) (rBad 1 b bad)) := by
 refine no_implicit_lambda% (acalls_of tok dok (f := 92) ⟨Tryz.func92, rfl, by kernel_rfl⟩ ?_); refine no_implicit_lambda% (c_start (fun _ h => h) ?_)
 refine no_implicit_lambda% (awd ?_)
 refine no_implicit_lambda% (cal [0] (refSome_c b bad 1 (by decide) h) ?_ ?_)
 ·refine no_implicit_lambda% (ret1 ?_); first | (refine no_implicit_lambda% (akc ?_)) | (refine no_implicit_lambda% (aec ?_))
  have hl := rSome_len 1 b bad (by decide)
  generalize rSome 1 b bad = q at *
  match q, hl with
  | [c], _ =>
   have h0 : 0 ≤ (0 : Int) ∧ (List.map brow [c])[Int.toNat 0]? = some (brow c) ∧ (brow c).length = 1 := ⟨by decide, rfl, rfl⟩
   refine no_implicit_lambda% (awd ?_)
   refine e_ret (H' := rr (rLeft 1 b bad) (rBad 1 b bad)) (rest := []) rfl ⟨?_, rfl⟩ (.of_eq rfl) (LE0 rfl)
   simp [ubn]
   rfl
 ·first | (exact zI) | (exact zJ)
theorem refRNum_c (b : List UInt8) (bad : Bool) (h : b.length < 70368744177664) : ACalls Tryz.prog 108 1 4 [.ptr 0 0] (rr b bad) (fun out H' => out = .ret (.v (.int .u32 (ubn (rSome 4 b bad) 0))) ∧ H' = rr (rLeft 4 b bad) (rBad 4 b bad)) := by
 refine no_implicit_lambda% (acalls_of tok dok (f := 108) ⟨Tryz.func108, rfl, by kernel_rfl⟩ ?_); refine no_implicit_lambda% (c_start (fun _ h => h) ?_)
 refine no_implicit_lambda% (awd ?_)
 refine no_implicit_lambda% (cal [0] (refSome_c b bad 4 (by decide) h) ?_ ?_)
 ·refine no_implicit_lambda% (ret1 ?_); first | (refine no_implicit_lambda% (akc ?_)) | (refine no_implicit_lambda% (aec ?_))
  have hl := rSome_len 4 b bad (by decide)
  generalize rSome 4 b bad = q at *
  match q, hl with
  | [c0, c1, c2, c3], _ =>
   have h0 : 0 ≤ (0 : Int) ∧ (List.map brow [c0, c1, c2, c3])[Int.toNat 0]? = some (brow c0) ∧ (brow c0).length = 1 := ⟨by decide, rfl, rfl⟩
   have h1 : 0 ≤ (1 : Int) ∧ (List.map brow [c0, c1, c2, c3])[Int.toNat 1]? = some (brow c1) ∧ (brow c1).length = 1 := ⟨by decide, rfl, rfl⟩
   have h2 : 0 ≤ (2 : Int) ∧ (List.map brow [c0, c1, c2, c3])[Int.toNat 2]? = some (brow c2) ∧ (brow c2).length = 1 := ⟨by decide, rfl, rfl⟩
   have h3 : 0 ≤ (3 : Int) ∧ (List.map brow [c0, c1, c2, c3])[Int.toNat 3]? = some (brow c3) ∧ (brow c3).length = 1 := ⟨by decide, rfl, rfl⟩
   refine no_implicit_lambda% (awd ?_)
   rw [num4 c0.toNat_lt c1.toNat_lt c2.toNat_lt c3.toNat_lt]
   refine e_ret (H' := rr (rLeft 4 b bad) (rBad 4 b bad)) (rest := []) rfl ⟨?_, rfl⟩ (.of_eq rfl) (LE0 rfl)
   simp [ubn]
   rfl
 ·first | (exact zI) | (exact zJ)
theorem shl_or64 {a c : Nat} (ha : a < 4294967296) (hc : c < 4294967296) : IntKind.u64.wrap (BitVec.ofInt IntKind.u64.bits (IntKind.u64.wrap (IntKind.u64.wrap (a : Int) * 2 ^ min (Int.toNat 32) IntKind.u64.bits)) ||| BitVec.ofInt IntKind.u64.bits (IntKind.u64.wrap (c : Int))).toNat = ((a * 4294967296 + c : Nat) : Int) := by
 rw [u64_of (n := a) (by omega), u64_of (n := c) (by omega)]
 have e : ((a : Int) * 2 ^ min (Int.toNat 32) IntKind.u64.bits) = ((a * 4294967296 : Nat) : Int) := by
  have : min (Int.toNat 32) IntKind.u64.bits = 32 := rfl
  rw [this, Int.natCast_mul]
  have : (2 : Int) ^ 32 = ((4294967296 : Nat) : Int) := by decide
  rw [this]
 rw [e, u64_of (n := a * 4294967296) (by omega), BitVec.toNat_or, ofInt_nat (by omega), ofInt_nat (by omega)]
 have e2 : a * 4294967296 = a <<< 32 := by rw [Nat.shiftLeft_eq]
 rw [e2, ← Nat.shiftLeft_add_eq_or_of_lt (show c < 2 ^ 32 from hc), ← e2]
 exact u64_of (by omega)
def rLong (b : List UInt8) (bad : Bool) : Nat := ubn (rSome 4 b bad) 0 * 4294967296 + ubn (rSome 4 (rLeft 4 b bad) (rBad 4 b bad)) 0
theorem some4_lt (b : List UInt8) (bad : Bool) : ubn (rSome 4 b bad) 0 < 4294967296 := by
 have h := ubn_lt (rSome 4 b bad) 0
 rw [rSome_len 4 b bad (by decide)] at h
 have : (256 : Nat) ^ 4 = 4294967296 := by decide
 omega
theorem rLeft_len (n : Nat) (b : List UInt8) (bad : Bool) : (rLeft n b bad).length ≤ b.length := by
 unfold rLeft; split
 ·rw [List.length_drop]; omega
 ·simp
theorem refRLong_c (b : List UInt8) (bad : Bool) (h : b.length < 70368744177664) : ACalls Tryz.prog 94 1 7 [.ptr 0 0] (rr b bad) (fun out H' => out = .ret (.v (.int .u64 (rLong b bad))) ∧ H' = rr (rLeft 4 (rLeft 4 b bad) (rBad 4 b bad)) (rBad 4 (rLeft 4 b bad) (rBad 4 b bad))) := by
 have hl1 := rLeft_len 4 b bad
 refine no_implicit_lambda% (acalls_of tok dok (f := 94) ⟨Tryz.func94, rfl, by kernel_rfl⟩ ?_); refine no_implicit_lambda% (c_start (fun _ h => h) ?_)
 refine no_implicit_lambda% (awd ?_)
 refine no_implicit_lambda% (cal [0] (refRNum_c b bad h) ?_ ?_)
 ·refine no_implicit_lambda% (ret1 ?_); first | (refine no_implicit_lambda% (akc ?_)) | (refine no_implicit_lambda% (aec ?_))
  refine no_implicit_lambda% (awd ?_)
  refine no_implicit_lambda% (cal [0] (refRNum_c (rLeft 4 b bad) (rBad 4 b bad) (by omega)) ?_ ?_)
  ·refine no_implicit_lambda% (ret1 ?_); first | (refine no_implicit_lambda% (akc ?_)) | (refine no_implicit_lambda% (aec ?_))
   refine no_implicit_lambda% (awd ?_)
   rw [shl_or64 (some4_lt _ _) (some4_lt _ _)]
   exact e_ret (H' := rr (rLeft 4 (rLeft 4 b bad) (rBad 4 b bad)) (rBad 4 (rLeft 4 b bad) (rBad 4 b bad))) (rest := []) rfl ⟨rfl, rfl⟩ (.of_eq rfl) (LE0 rfl)
  ·first | (exact zI) | (exact zJ)
 ·first | (exact zI) | (exact zJ)
theorem refFrom_c (b : Nat) (hb : b < 18446744073709551616) : ACalls Tryz.prog 113 0 0 [.v (.int .u64 b)] [] (fun out H' => out = .ret (.v (.float .f64 (canonB b))) ∧ H' = []) := by
 refine no_implicit_lambda% (acalls_of tok dok (f := 113) ⟨Tryz.func113, rfl, by kernel_rfl⟩ ?_); refine no_implicit_lambda% (c_start (fun _ h => h) ?_)
 refine no_implicit_lambda% (awd ?_)
 refine no_implicit_lambda% (cal [] (from_x b) ?_ ?_)
 ·refine no_implicit_lambda% (ret1 ?_); first | (refine no_implicit_lambda% (akc ?_)) | (refine no_implicit_lambda% (aec ?_))
  refine no_implicit_lambda% (awd ?_)
  refine no_implicit_lambda% (cal [] (refBits_c b hb) ?_ ?_)
  ·refine no_implicit_lambda% (ret1 ?_); first | (refine no_implicit_lambda% (akc ?_)) | (refine no_implicit_lambda% (aec ?_))
   refine no_implicit_lambda% (awd ?_)
   refine no_implicit_lambda% (cal [] (from_x (canonB b)) ?_ ?_)
   ·refine no_implicit_lambda% (ret1 ?_); first | (refine no_implicit_lambda% (akc ?_)) | (refine no_implicit_lambda% (aec ?_))
    refine no_implicit_lambda% (awd ?_)
    exact e_ret (H' := []) rfl ⟨rfl, rfl⟩ (.refl _) (LE0 rfl)
   ·first | (exact zI) | (exact zJ)
  ·first | (exact zI) | (exact zJ)
 ·first | (exact zI) | (exact zJ)
theorem rLong_lt (b : List UInt8) (bad : Bool) : rLong b bad < 18446744073709551616 := by
 have h1 := some4_lt b bad
 have h2 := some4_lt (rLeft 4 b bad) (rBad 4 b bad)
 unfold rLong; omega
theorem some_ok {n : Nat} {b : List UInt8} (h : n ≤ b.length) : rSome n b false = b.take n ∧ rLeft n b false = b.drop n ∧ rBad n b false = false := by
 refine ⟨by unfold rSome; rw [if_pos ⟨rfl, h⟩], by unfold rLeft; rw [if_pos ⟨rfl, h⟩], by unfold rBad; rw [decide_eq_true ⟨rfl, h⟩]; rfl⟩
theorem some_no {n : Nat} {b : List UInt8} (h : b.length < n) : rLeft n b false = [] ∧ rBad n b false = true := by
 refine ⟨by unfold rLeft; rw [if_neg (by omega)], by unfold rBad; rw [decide_eq_false (by omega)]; rfl⟩
theorem bad_no {n : Nat} {b : List UInt8} : rLeft n b true = [] ∧ rBad n b true = true := by
 refine ⟨by unfold rLeft; rw [if_neg (by simp)], by unfold rBad; rw [decide_eq_false (by simp)]; rfl⟩
theorem ubn_two (b : List UInt8) (h : 8 ≤ b.length) : ubn (b.take 4) 0 * 4294967296 + ubn ((b.drop 4).take 4) 0 = ubn (b.take 8) 0 := by
 have e : b.take 8 = b.take 4 ++ (b.drop 4).take 4 := by rw [← List.take_add]
 have k : ∀ (l : List UInt8) (a : Nat), ubn l a = a * 256 ^ l.length + ubn l 0 := by
  intro l
  induction l with
  | nil => intro a; simp [ubn]
  | cons c l ih =>
   intro a
   rw [ubn, ubn, ih (a * 256 + c.toNat), ih (0 * 256 + c.toNat), List.length_cons, Nat.pow_succ, Nat.mul_comm (256 ^ l.length) 256, ← Nat.mul_assoc, Nat.add_mul, Nat.add_mul]
   omega
 rw [e, ubn_app, k ((b.drop 4).take 4) (ubn (b.take 4) 0)]
 have h4 : ((b.drop 4).take 4).length = 4 := by rw [List.length_take, List.length_drop]; omega
 rw [h4]
theorem long_ok {b : List UInt8} (h : 8 ≤ b.length) : rLong b false = ubn (b.take 8) 0 ∧ rLeft 4 (rLeft 4 b false) (rBad 4 b false) = b.drop 8 ∧ rBad 4 (rLeft 4 b false) (rBad 4 b false) = false := by
 obtain ⟨a1, a2, a3⟩ := some_ok (n := 4) (b := b) (by omega)
 have hl : 4 ≤ (b.drop 4).length := by rw [List.length_drop]; omega
 obtain ⟨c1, c2, c3⟩ := some_ok (n := 4) (b := b.drop 4) hl
 unfold rLong
 rw [a2, a3, a1, c1, c2, c3, ubn_two b h, List.drop_drop]
 exact ⟨rfl, rfl, rfl⟩
theorem long_no {b : List UInt8} (h : b.length < 8) : rLeft 4 (rLeft 4 b false) (rBad 4 b false) = [] ∧ rBad 4 (rLeft 4 b false) (rBad 4 b false) = true := by
 by_cases h4 : 4 ≤ b.length
 ·obtain ⟨a1, a2, a3⟩ := some_ok (n := 4) (b := b) h4
  rw [a2, a3]
  exact some_no (by rw [List.length_drop]; omega)
 ·obtain ⟨a2, a3⟩ := some_no (n := 4) (b := b) (by omega)
  rw [a2, a3]
  exact bad_no
set_option maxRecDepth 100000 in
set_option maxHeartbeats 1600000 in
theorem refRText_c (b : List UInt8) (most : Int) (h : b.length < 70368744177664) : ACalls Tryz.prog 93 1 8 [.ptr 0 0, .v (.int .i64 most)] (rr b false) (fun out H' => (tOk b most ∧ out = .ret (.list (((b.drop 4).take (ubn (b.take 4) 0)).map brow) .free) ∧ H' = rr ((b.drop 4).drop (ubn (b.take 4) 0)) false) ∨ (¬ tOk b most ∧ (∃ x, out = .ret (.list x .free)) ∧ H' = rr [] true)) := by
 have hlt := some4_lt b false
 by_cases h4 : 4 ≤ b.length
 ·have hC := refRNum_c b false h
  obtain ⟨e1, e2, e3⟩ := some_ok h4
  rw [e1] at hlt
  rw [e1, e2, e3] at hC
  generalize hn : ubn (b.take 4) 0 = n at *
  refine no_implicit_lambda% (acalls_of tok dok (f := 93) ⟨Tryz.func93, rfl, by kernel_rfl⟩ ?_); refine no_implicit_lambda% (c_start (fun _ h => h) ?_)
  refine no_implicit_lambda% (awd ?_)
  refine no_implicit_lambda% (cal [0] (hC) ?_ ?_)
  ·refine no_implicit_lambda% (ret1 ?_); first | (refine no_implicit_lambda% (akc ?_)) | (refine no_implicit_lambda% (aec ?_))
   refine no_implicit_lambda% (awd ?_)
   rw [show IntKind.i64.wrap (n : Int) = n from w64 (by omega) (by omega)]
   repeat' (first | (refine no_implicit_lambda% (zH ?_)) | (((with_reducible refine no_implicit_lambda% (zA ?_)); refine no_implicit_lambda% (zD rfl rfl rfl (fun hc => ?_) (fun hc => ?_)) <;> rw [hc])) | (((with_reducible refine no_implicit_lambda% (zB ?_)); refine no_implicit_lambda% (zE rfl (fun hc => ?_) (fun hc => ?_)))) | (((with_reducible refine no_implicit_lambda% (zC ?_)); refine no_implicit_lambda% (zF rfl rfl (fun hc => ?_) (fun hc => ?_)) <;> rw [hc])) | fail)
   ·have hf : ¬ tOk b most := by
     rintro ⟨_, k2, k3, k4⟩
     rw [hn] at k2 k3 k4
     simp at *
     omega
    refine no_implicit_lambda% (cal [0] (refFail_c (b.drop 4) false) ?_ ?_)
    ·refine no_implicit_lambda% (ret1 ?_); first | (refine no_implicit_lambda% (akc ?_)) | (refine no_implicit_lambda% (aec ?_))
     refine no_implicit_lambda% (awd ?_)
     exact e_ret_to (H' := rr [] true) (rest := []) (.freeSlot 4 rfl) rfl (.inr ⟨hf, ⟨_, rfl⟩, rfl⟩) (.of_eq rfl) (LE0 rfl)
    ·first | (exact zI) | (exact zJ)
   ·have hf : ¬ tOk b most := by
     rintro ⟨_, k2, k3, k4⟩
     rw [hn] at k2 k3 k4
     simp at *
     omega
    refine no_implicit_lambda% (cal [0] (refFail_c (b.drop 4) false) ?_ ?_)
    ·refine no_implicit_lambda% (ret1 ?_); first | (refine no_implicit_lambda% (akc ?_)) | (refine no_implicit_lambda% (aec ?_))
     refine no_implicit_lambda% (awd ?_)
     exact e_ret_to (H' := rr [] true) (rest := []) (.freeSlot 4 rfl) rfl (.inr ⟨hf, ⟨_, rfl⟩, rfl⟩) (.of_eq rfl) (LE0 rfl)
    ·first | (exact zI) | (exact zJ)
   ·have hf : ¬ tOk b most := by
     rintro ⟨_, k2, k3, k4⟩
     rw [hn] at k2 k3 k4
     simp at *
     omega
    refine no_implicit_lambda% (cal [0] (refFail_c (b.drop 4) false) ?_ ?_)
    ·refine no_implicit_lambda% (ret1 ?_); first | (refine no_implicit_lambda% (akc ?_)) | (refine no_implicit_lambda% (aec ?_))
     refine no_implicit_lambda% (awd ?_)
     exact e_ret_to (H' := rr [] true) (rest := []) (.freeSlot 4 rfl) rfl (.inr ⟨hf, ⟨_, rfl⟩, rfl⟩) (.of_eq rfl) (LE0 rfl)
    ·first | (exact zI) | (exact zJ)
   ·have hf : tOk b most := by
     refine ⟨h4, ?_, ?_, ?_⟩ <;> (rw [hn]; simp at *; omega)
    have hle : n ≤ (b.drop 4).length := by
     have := hf.2.2.2
     rwa [hn] at this
    have hdl : (b.drop 4).length ≤ b.length := by rw [List.length_drop]; omega
    have htl : ((b.drop 4).take n).length = n := by rw [List.length_take]; omega
    generalize b.drop 4 = c at *
    (with_reducible refine no_implicit_lambda% (zC ?_)); first | (refine no_implicit_lambda% (a_qS rfl (fun _ h => h) ?_ ?_)) | (refine no_implicit_lambda% (a_qS rfl (qIx (fun _ h => h)) ?_ ?_)) | (refine no_implicit_lambda% (a_qS rfl (qAnd5 (fun _ h => h)) ?_ ?_)) | (refine no_implicit_lambda% (a_qS rfl (qStr (fun _ h => h)) ?_ ?_)) | (refine no_implicit_lambda% (a_qS rfl (qAnd4 (fun _ h => h)) ?_ ?_)) | (refine no_implicit_lambda% (a_qS rfl (qAnd2 (fun _ h => h)) ?_ ?_))
    ·refine ⟨trivial, Int.natCast_nonneg n, Nat.zero_le _, ?_, brows c⟩
     simpa using hle
    refine k_as (.list ((c.take n).map brow) .free) (by simp [List.map_take, orFull, isFull, isNone]) ?_
    refine no_implicit_lambda% (awd ?_)
    (with_reducible refine no_implicit_lambda% (zC ?_)); first | (refine no_implicit_lambda% (a_qS rfl (fun _ h => h) ?_ ?_)) | (refine no_implicit_lambda% (a_qS rfl (qIx (fun _ h => h)) ?_ ?_)) | (refine no_implicit_lambda% (a_qS rfl (qAnd5 (fun _ h => h)) ?_ ?_)) | (refine no_implicit_lambda% (a_qS rfl (qStr (fun _ h => h)) ?_ ?_)) | (refine no_implicit_lambda% (a_qS rfl (qAnd4 (fun _ h => h)) ?_ ?_)) | (refine no_implicit_lambda% (a_qS rfl (qAnd2 (fun _ h => h)) ?_ ?_))
    ·refine ⟨Int.natCast_nonneg n, trivial, ?_, Nat.le_refl _, brows c⟩
     simpa using hle
    refine k_as (.list ((c.drop n).map brow) .free) (by rw [Int.toNat_natCast, List.take_of_length_le (Nat.le_refl _), List.map_drop]) ?_
    refine no_implicit_lambda% (awd ?_)
    exact e_ret_to (H' := rr (c.drop n) false) (rest := [_]) (.freeSlot 4 rfl) rfl (.inl ⟨hf, rfl, rfl⟩) (.swap _ _ _) (LE0 rfl)
   ·have hf : ¬ tOk b most := by
     rintro ⟨_, k2, k3, k4⟩
     rw [hn] at k2 k3 k4
     simp at *
     omega
    refine no_implicit_lambda% (cal [0] (refFail_c (b.drop 4) false) ?_ ?_)
    ·refine no_implicit_lambda% (ret1 ?_); first | (refine no_implicit_lambda% (akc ?_)) | (refine no_implicit_lambda% (aec ?_))
     refine no_implicit_lambda% (awd ?_)
     exact e_ret_to (H' := rr [] true) (rest := []) (.freeSlot 4 rfl) rfl (.inr ⟨hf, ⟨_, rfl⟩, rfl⟩) (.of_eq rfl) (LE0 rfl)
    ·first | (exact zI) | (exact zJ)
   ·have hf : tOk b most := by
     refine ⟨h4, ?_, ?_, ?_⟩ <;> (rw [hn]; simp at *; omega)
    have hle : n ≤ (b.drop 4).length := by
     have := hf.2.2.2
     rwa [hn] at this
    have hdl : (b.drop 4).length ≤ b.length := by rw [List.length_drop]; omega
    have htl : ((b.drop 4).take n).length = n := by rw [List.length_take]; omega
    generalize b.drop 4 = c at *
    (with_reducible refine no_implicit_lambda% (zC ?_)); first | (refine no_implicit_lambda% (a_qS rfl (fun _ h => h) ?_ ?_)) | (refine no_implicit_lambda% (a_qS rfl (qIx (fun _ h => h)) ?_ ?_)) | (refine no_implicit_lambda% (a_qS rfl (qAnd5 (fun _ h => h)) ?_ ?_)) | (refine no_implicit_lambda% (a_qS rfl (qStr (fun _ h => h)) ?_ ?_)) | (refine no_implicit_lambda% (a_qS rfl (qAnd4 (fun _ h => h)) ?_ ?_)) | (refine no_implicit_lambda% (a_qS rfl (qAnd2 (fun _ h => h)) ?_ ?_))
    ·refine ⟨trivial, Int.natCast_nonneg n, Nat.zero_le _, ?_, brows c⟩
     simpa using hle
    refine k_as (.list ((c.take n).map brow) .free) (by simp [List.map_take, orFull, isFull, isNone]) ?_
    refine no_implicit_lambda% (awd ?_)
    (with_reducible refine no_implicit_lambda% (zC ?_)); first | (refine no_implicit_lambda% (a_qS rfl (fun _ h => h) ?_ ?_)) | (refine no_implicit_lambda% (a_qS rfl (qIx (fun _ h => h)) ?_ ?_)) | (refine no_implicit_lambda% (a_qS rfl (qAnd5 (fun _ h => h)) ?_ ?_)) | (refine no_implicit_lambda% (a_qS rfl (qStr (fun _ h => h)) ?_ ?_)) | (refine no_implicit_lambda% (a_qS rfl (qAnd4 (fun _ h => h)) ?_ ?_)) | (refine no_implicit_lambda% (a_qS rfl (qAnd2 (fun _ h => h)) ?_ ?_))
    ·refine ⟨Int.natCast_nonneg n, trivial, ?_, Nat.le_refl _, brows c⟩
     simpa using hle
    refine k_as (.list ((c.drop n).map brow) .free) (by rw [Int.toNat_natCast, List.take_of_length_le (Nat.le_refl _), List.map_drop]) ?_
    refine no_implicit_lambda% (awd ?_)
    exact e_ret_to (H' := rr (c.drop n) false) (rest := [_]) (.freeSlot 4 rfl) rfl (.inl ⟨hf, rfl, rfl⟩) (.swap _ _ _) (LE0 rfl)
  ·first | (exact zI) | (exact zJ)
 ·have hC := refRNum_c b false h
  obtain ⟨e2, e3⟩ := some_no (n := 4) (b := b) (by omega)
  rw [e2, e3] at hC
  have hf : ¬ tOk b most := fun hf => h4 hf.1
  refine no_implicit_lambda% (acalls_of tok dok (f := 93) ⟨Tryz.func93, rfl, by kernel_rfl⟩ ?_); refine no_implicit_lambda% (c_start (fun _ h => h) ?_)
  refine no_implicit_lambda% (awd ?_)
  refine no_implicit_lambda% (cal [0] (hC) ?_ ?_)
  ·refine no_implicit_lambda% (ret1 ?_); first | (refine no_implicit_lambda% (akc ?_)) | (refine no_implicit_lambda% (aec ?_))
   refine no_implicit_lambda% (awd ?_)
   refine no_implicit_lambda% (cal [0] (refFail_c [] true) ?_ ?_)
   ·refine no_implicit_lambda% (ret1 ?_); first | (refine no_implicit_lambda% (akc ?_)) | (refine no_implicit_lambda% (aec ?_))
    refine no_implicit_lambda% (awd ?_)
    exact e_ret_to (H' := rr [] true) (rest := []) (.freeSlot 4 rfl) rfl (.inr ⟨hf, ⟨_, rfl⟩, rfl⟩) (.of_eq rfl) (LE0 rfl)
   ·first | (exact zI) | (exact zJ)
  ·first | (exact zI) | (exact zJ)
theorem refWhole_c (b : List UInt8) (bad : Bool) : ACalls Tryz.prog 40 1 1 [.ptr 0 0] (rr b bad) (fun out H' => out = .ret (.v (.bool (!bad && decide (((b.map brow).length : Int) = 0)))) ∧ H' = rr b bad) := by
 refine no_implicit_lambda% (acalls_of tok dok (f := 40) ⟨Tryz.func40, rfl, by kernel_rfl⟩ ?_); refine no_implicit_lambda% (c_start (fun _ h => h) ?_)
 cases bad
 ·refine no_implicit_lambda% (awd ?_)
  exact e_ret (H' := rr b false) (rest := []) rfl ⟨rfl, rfl⟩ (.of_eq rfl) (LE0 rfl)
 ·refine no_implicit_lambda% (awd ?_)
  exact e_ret (H' := rr b true) (rest := []) rfl ⟨rfl, rfl⟩ (.of_eq rfl) (LE0 rfl)
end Go.Proofs.YtjepgbpcpcahgaaGreat
namespace Go.Proofs.YtjepgbpcpcahgaaGreat
open Go.Am
set_option maxRecDepth 100000
theorem nanR_canon {r : Nat} (h : nanR r) : canonB r = 9221120237041090561 := by
 have hn : nanB r = true := by
  rw [nan_def, decide_eq_true_eq]
  unfold nanR at h
  omega
 unfold canonB
 rw [hn]; rfl
theorem word_lt (neg : Bool) (r : Nat) (h : r < 9223372036854775808) : FloatKind.f64.format.word neg r < 18446744073709551616 := by
 have e : FloatKind.f64.format.signWeight = 9223372036854775808 := by decide
 unfold Ieee.Format.word
 split <;> omega
theorem write_lt (d : Ieee.Datum) : FloatKind.f64.format.write d < 18446744073709551616 := by
 have e1 : FloatKind.f64.format.infRung = 9218868437227405312 := by decide
 have e2 : FloatKind.f64.format.binade = 4503599627370496 := by decide
 unfold Ieee.Format.write
 split
 ·unfold Ieee.Format.nearest
  split
  ·exact word_lt _ _ (by decide)
  ·exact word_lt _ _ (Nat.lt_of_le_of_lt (Nat.min_le_right _ _) (by omega))
 ·exact word_lt _ _ (by omega)
 ·exact word_lt _ _ (by rw [e1, e2]; omega)
theorem add_lt {a b r : Nat} (h : FloatKind.f64.format.add a b = some r) : r < 18446744073709551616 := by
 unfold Ieee.Format.add at h
 rw [Option.map_eq_some_iff] at h
 obtain ⟨d, _, rfl⟩ := h
 exact write_lt d
theorem sum_lt {a b r : Nat} (h : match FloatKind.f64.format.add a b with | some r0 => r = r0 | none => nanR r) : r < 18446744073709551616 := by
 split at h
 ·rename_i r0 hr; rw [h]; exact add_lt hr
 ·unfold nanR at h; omega
def sumC (a b : Nat) : Nat := match FloatKind.f64.format.add a b with | some r0 => canonB r0 | none => 9221120237041090561
theorem sum_of {a b r : Nat} (h : match FloatKind.f64.format.add a b with | some r0 => r = r0 | none => nanR r) : canonB r = sumC a b := by
 unfold sumC
 split at h
 ·rw [h]
 ·exact nanR_canon h
def plusV (a b : Va) : Va × Int := if a.kind = 2 ∧ b.kind = 2 then (⟨2, [], sumC a.n b.n⟩, 0) else (⟨0, [], 0⟩, 24)
theorem refSum_c (a b : Nat) : ACalls Tryz.prog 159 0 0 [.v (.float .f64 a), .v (.float .f64 b)] [] (fun out H' => out = .ret (.v (.float .f64 (sumC a b))) ∧ H' = []) := by
 refine no_implicit_lambda% (acalls_of tok dok (f := 159) ⟨Tryz.func159, rfl, by kernel_rfl⟩ ?_); refine no_implicit_lambda% (c_start (fun _ h => h) ?_)
 refine no_implicit_lambda% (awd ?_)
 (with_reducible refine zC ?_)
 refine a_fadd rfl rfl rfl rfl fun r hr => ?_
 refine no_implicit_lambda% (awd ?_)
 refine no_implicit_lambda% (cal [] (bits_x r) ?_ ?_)
 ·refine no_implicit_lambda% (ret1 ?_); first | (refine no_implicit_lambda% (akc ?_)) | (refine no_implicit_lambda% (aec ?_))
  refine no_implicit_lambda% (awd ?_)
  refine no_implicit_lambda% (cal [] (refFrom_c r (sum_lt hr)) ?_ ?_)
  ·rw [sum_of hr]
   refine no_implicit_lambda% (ret1 ?_); first | (refine no_implicit_lambda% (akc ?_)) | (refine no_implicit_lambda% (aec ?_))
   refine no_implicit_lambda% (awd ?_)
   exact e_ret (H' := []) (rest := _) rfl ⟨rfl, rfl⟩ (.refl _) (LE0 rfl)
  ·first | (exact zI) | (exact zJ)
 ·first | (exact zI) | (exact zJ)
theorem refPlus_c (a b : Va) : ACalls Tryz.prog 141 0 10 [vav a, vav b] [] (fun out H' => out = .ret (.tuple [vav (plusV a b).1, .v (.int .i64 (plusV a b).2)]) ∧ H' = []) := by
 obtain ⟨ka, ba, na⟩ := a
 obtain ⟨kb, bb, nb⟩ := b
 refine no_implicit_lambda% (acalls_of tok dok (f := 141) ⟨Tryz.func141, rfl, by kernel_rfl⟩ ?_); refine no_implicit_lambda% (c_start (fun _ h => h) ?_)
 repeat' (first | (refine no_implicit_lambda% (zH ?_)) | (((with_reducible refine no_implicit_lambda% (zA ?_)); refine no_implicit_lambda% (zD rfl rfl rfl (fun hc => ?_) (fun hc => ?_)) <;> rw [hc])) | (((with_reducible refine no_implicit_lambda% (zB ?_)); refine no_implicit_lambda% (zE rfl (fun hc => ?_) (fun hc => ?_)))) | (((with_reducible refine no_implicit_lambda% (zC ?_)); refine no_implicit_lambda% (zF rfl rfl (fun hc => ?_) (fun hc => ?_)) <;> rw [hc])) | fail)
 ·have h : ¬ (ka = 2 ∧ kb = 2) := fun h => by simp at hc; exact hc h.1
  unfold plusV
  rw [if_neg h]
  exact e_ret_to (H' := []) (.wk (.refl _) (.cons (.box _ (.cons (.refl _) (.cons (.free _ _) (.cons (.refl _) .nil)))) (.refl _))) rfl ⟨rfl, rfl⟩ (.refl _) (LE0 rfl)
 ·have h : ¬ (ka = 2 ∧ kb = 2) := fun h => by simp at hc; exact hc h.2
  unfold plusV
  rw [if_neg h]
  exact e_ret_to (H' := []) (.wk (.refl _) (.cons (.box _ (.cons (.refl _) (.cons (.free _ _) (.cons (.refl _) .nil)))) (.refl _))) rfl ⟨rfl, rfl⟩ (.refl _) (LE0 rfl)
 ·have h : ka = 2 ∧ kb = 2 := ⟨by rename_i h1; simpa using h1, by simpa using hc⟩
  refine no_implicit_lambda% (cal [] (refSum_c na nb) ?_ ?_)
  ·refine no_implicit_lambda% (ret1 ?_); first | (refine no_implicit_lambda% (akc ?_)) | (refine no_implicit_lambda% (aec ?_))
   refine no_implicit_lambda% (awd ?_)
   unfold plusV
   rw [if_pos h]
   exact e_ret_to (H' := []) (.wk (.refl _) (.cons (.box _ (.cons (.refl _) (.cons (.free _ _) (.cons (.refl _) .nil)))) (.refl _))) rfl ⟨rfl, rfl⟩ (.refl _) (LE0 rfl)
  ·first | (exact zI) | (exact zJ)
end Go.Proofs.YtjepgbpcpcahgaaGreat
namespace Go.Proofs.YtjepgbpcpcahgaaGreat
open Go.Am
set_option maxRecDepth 100000
theorem canonB_lt {b : Nat} (h : b < 18446744073709551616) : canonB b < 18446744073709551616 := by unfold canonB; split <;> omega
def keyN (c : Nat) : Nat := if c < 9223372036854775808 then c + 9223372036854775808 else 18446744073709551615 - c
def placeN (c : Nat) : Nat := if c = 9221120237041090561 then 18446744073709551615 else keyN c
theorem canon_cases {b : Nat} (h : b < 18446744073709551616) : canonB b = 9221120237041090561 ∨ canonB b ≤ 9218868437227405312 ∨ (9223372036854775808 ≤ canonB b ∧ canonB b ≤ 18442240474082181120) := by
 unfold canonB
 cases hn : nanB b
 ·rw [nan_def, decide_eq_false_iff_not] at hn
  simp only [Bool.false_eq_true, if_false]
  omega
 ·exact .inl rfl
theorem and63 {c : Nat} (h : c < 18446744073709551616) : c &&& 9223372036854775808 = if c < 9223372036854775808 then 0 else 9223372036854775808 := by
 have e1 : (9223372036854775808 : Nat) = 1 <<< 63 := by decide
 have e2 : (c / 9223372036854775808 % 2) * 9223372036854775808 = ((c >>> 63) &&& 1) <<< 63 := by
  rw [Nat.shiftLeft_eq, Nat.shiftRight_eq_div_pow, Nat.and_two_pow_sub_one_eq_mod _ 1]
 have e3 : c &&& (1 <<< 63) = ((c >>> 63) &&& 1) <<< 63 := by
  apply Nat.eq_of_testBit_eq
  intro i
  simp only [Nat.testBit_and, Nat.testBit_shiftLeft, Nat.testBit_shiftRight]
  by_cases h : 63 ≤ i
  ·have : 63 + (i - 63) = i := by omega
   simp [h, this]
  ·simp [h]
 have e4 : c &&& 9223372036854775808 = (c / 9223372036854775808 % 2) * 9223372036854775808 := e3.trans e2.symm
 rw [e4]
 split <;> omega
theorem or63 {c : Nat} (h : c < 9223372036854775808) : c ||| 9223372036854775808 = c + 9223372036854775808 := by
 have e := Nat.two_pow_add_eq_or_of_lt (i := 63) (b := c) h 1
 rw [Nat.or_comm, Nat.add_comm]
 exact e.symm
theorem not64 {c : Nat} (h : c < 18446744073709551616) : (BitVec.ofInt IntKind.u64.bits (if IntKind.u64.signed then -1 else IntKind.u64.max) ^^^ BitVec.ofInt IntKind.u64.bits (c : Int)).toNat = 18446744073709551615 - c := by
 have e : BitVec.ofInt IntKind.u64.bits (if IntKind.u64.signed then -1 else IntKind.u64.max) = (BitVec.allOnes 64 : BitVec IntKind.u64.bits) := by rfl
 rw [e]
 show (BitVec.allOnes 64 ^^^ BitVec.ofInt 64 (c : Int)).toNat = _
 rw [BitVec.allOnes_xor, BitVec.toNat_not]
 show 2 ^ 64 - 1 - (BitVec.ofInt IntKind.u64.bits (c : Int)).toNat = _
 rw [ofInt_nat h]
theorem keyI_eq {b : Nat} (h : b < 18446744073709551616) : keyI b = (keyN (canonB b) : Nat) := by
 have hc := canonB_lt h
 unfold keyI keyN
 generalize canonB b = c at *
 rw [BitVec.toNat_and, ofInt_nat hc, show (BitVec.ofInt IntKind.u64.bits 9223372036854775808).toNat = 9223372036854775808 from by decide, and63 hc, not64 hc, BitVec.toNat_or, ofInt_nat hc, show (BitVec.ofInt IntKind.u64.bits 9223372036854775808).toNat = 9223372036854775808 from by decide]
 by_cases h1 : c < 9223372036854775808
 ·rw [if_pos h1, if_pos h1, or63 h1, if_neg (by decide), u64_of (by omega)]
 ·rw [if_neg h1, if_neg h1, if_pos (by decide), u64_of (by omega)]
theorem key_place {a b : Nat} (ha : a < 18446744073709551616) (hb : b < 18446744073709551616) : cmpZ (placeN (canonB a) : Nat) (placeN (canonB b) : Nat) = cmpZ (keyI a) (keyI b) := by
 rw [keyI_eq ha, keyI_eq hb]
 have h1 := canon_cases ha
 have h2 := canon_cases hb
 unfold placeN keyN cmpZ
 generalize canonB a = x at *
 generalize canonB b = y at *
 repeat' split
 all_goals omega
theorem place_c (b : Nat) (hb : b < 18446744073709551616) : ACalls Tryz.prog 151 0 0 [.v (.float .f64 b)] [] (fun out H' => out = .ret (.v (.int .u64 (placeN (canonB b) : Nat))) ∧ H' = []) := by
 have hl := canonB_lt hb
 have hB := refBits_c b hb
 generalize canonB b = c at *
 refine no_implicit_lambda% (acalls_of tok dok (f := 151) ⟨Tryz.func151, rfl, by kernel_rfl⟩ ?_); refine no_implicit_lambda% (c_start (fun _ h => h) ?_)
 refine no_implicit_lambda% (awd ?_)
 refine no_implicit_lambda% (cal [] (hB) ?_ ?_)
 ·refine no_implicit_lambda% (ret1 ?_); first | (refine no_implicit_lambda% (akc ?_)) | (refine no_implicit_lambda% (aec ?_))
  repeat' (first | (refine no_implicit_lambda% (zH ?_)) | (((with_reducible refine no_implicit_lambda% (zA ?_)); refine no_implicit_lambda% (zD rfl rfl rfl (fun hc => ?_) (fun hc => ?_)) <;> rw [hc])) | (((with_reducible refine no_implicit_lambda% (zB ?_)); refine no_implicit_lambda% (zE rfl (fun hc => ?_) (fun hc => ?_)))) | (((with_reducible refine no_implicit_lambda% (zC ?_)); refine no_implicit_lambda% (zF rfl rfl (fun hc => ?_) (fun hc => ?_)) <;> rw [hc])) | fail)
  ·have hc' : c = 9221120237041090561 := by simp at hc; omega
   exact e_ret (H' := []) (rest := _) rfl ⟨by rw [placeN, if_pos hc']; rfl, rfl⟩ (.refl _) (LE0 rfl)
  ·have h0 : ¬ c = 9221120237041090561 := by rename_i h1; simp at h1; omega
   have h1 : ¬ c < 9223372036854775808 := by
    rw [show min (Int.toNat 63) IntKind.u64.bits = 63 from rfl, show (2 : Int) ^ 63 = 9223372036854775808 by decide, Int.fdiv_eq_ediv_of_nonneg _ (by decide)] at hc
    simp at hc
    omega
   rw [not64 hl, u64_of (by omega)]
   exact e_ret (H' := []) (rest := _) rfl ⟨by rw [placeN, if_neg h0, keyN, if_neg h1]; rfl, rfl⟩ (.refl _) (LE0 rfl)
  ·have h0 : ¬ c = 9221120237041090561 := by rename_i h1; simp at h1; omega
   have h1 : c < 9223372036854775808 := by
    rw [show min (Int.toNat 63) IntKind.u64.bits = 63 from rfl, show (2 : Int) ^ 63 = 9223372036854775808 by decide, Int.fdiv_eq_ediv_of_nonneg _ (by decide)] at hc
    simp at hc
    omega
   rw [BitVec.toNat_or, ofInt_nat hl, show (BitVec.ofInt IntKind.u64.bits 9223372036854775808).toNat = 9223372036854775808 from by decide, or63 h1, u64_of (by omega)]
   exact e_ret (H' := []) (rest := _) rfl ⟨by rw [placeN, if_neg h0, keyN, if_pos h1]; rfl, rfl⟩ (.refl _) (LE0 rfl)
 ·first | (exact zI) | (exact zJ)
theorem refOrder1_c (a b : Nat) (ha : a < 18446744073709551616) (hb : b < 18446744073709551616) : ACalls Tryz.prog 125 0 0 [.v (.float .f64 a), .v (.float .f64 b)] [] (fun out H' => out = .ret (.v (.int .i64 (cmpZ (keyI a) (keyI b)))) ∧ H' = []) := by
 rw [← key_place ha hb]
 have h1 := place_c a ha
 have h2 := place_c b hb
 generalize placeN (canonB a) = x at *
 generalize placeN (canonB b) = y at *
 refine no_implicit_lambda% (acalls_of tok dok (f := 125) ⟨Tryz.func125, rfl, by kernel_rfl⟩ ?_); refine no_implicit_lambda% (c_start (fun _ h => h) ?_)
 refine no_implicit_lambda% (awd ?_)
 refine no_implicit_lambda% (cal [] (h1) ?_ ?_)
 ·refine no_implicit_lambda% (ret1 ?_); first | (refine no_implicit_lambda% (akc ?_)) | (refine no_implicit_lambda% (aec ?_))
  refine no_implicit_lambda% (awd ?_)
  refine no_implicit_lambda% (cal [] (h2) ?_ ?_)
  ·refine no_implicit_lambda% (ret1 ?_); first | (refine no_implicit_lambda% (akc ?_)) | (refine no_implicit_lambda% (aec ?_))
   repeat' (first | (refine no_implicit_lambda% (zH ?_)) | (((with_reducible refine no_implicit_lambda% (zA ?_)); refine no_implicit_lambda% (zD rfl rfl rfl (fun hc => ?_) (fun hc => ?_)) <;> rw [hc])) | (((with_reducible refine no_implicit_lambda% (zB ?_)); refine no_implicit_lambda% (zE rfl (fun hc => ?_) (fun hc => ?_)))) | (((with_reducible refine no_implicit_lambda% (zC ?_)); refine no_implicit_lambda% (zF rfl rfl (fun hc => ?_) (fun hc => ?_)) <;> rw [hc])) | fail)
   ·exact e_ret (H' := []) rfl ⟨by simp at hc; rw [cmpZ, if_pos (by omega)]; rfl, rfl⟩ (.refl _) (LE0 rfl)
   ·exact e_ret (H' := []) rfl ⟨by simp at *; rw [cmpZ, if_neg (by omega), if_pos (by omega)]; rfl, rfl⟩ (.refl _) (LE0 rfl)
   ·exact e_ret (H' := []) rfl ⟨by simp at *; rw [cmpZ, if_neg (by omega), if_neg (by omega)]; rfl, rfl⟩ (.refl _) (LE0 rfl)
  ·first | (exact zI) | (exact zJ)
 ·first | (exact zI) | (exact zJ)
theorem kind_c (v : Va) : ACalls Tryz.prog 124 0 10 [vav v] [] (fun out H' => out = .ret (.v (.int .i64 (canV v).kind)) ∧ H' = []) := by
 obtain ⟨kd, b, n⟩ := v
 refine no_implicit_lambda% (acalls_of tok dok (f := 124) ⟨Tryz.func124, rfl, by kernel_rfl⟩ ?_); refine no_implicit_lambda% (c_start (fun _ h => h) ?_)
 repeat' (first | (refine no_implicit_lambda% (zH ?_)) | (((with_reducible refine no_implicit_lambda% (zA ?_)); refine no_implicit_lambda% (zD rfl rfl rfl (fun hc => ?_) (fun hc => ?_)) <;> rw [hc])) | (((with_reducible refine no_implicit_lambda% (zB ?_)); refine no_implicit_lambda% (zE rfl (fun hc => ?_) (fun hc => ?_)))) | (((with_reducible refine no_implicit_lambda% (zC ?_)); refine no_implicit_lambda% (zF rfl rfl (fun hc => ?_) (fun hc => ?_)) <;> rw [hc])) | fail)
 ·have h : kd = 1 := by simpa using hc
  subst h
  exact e_ret (H' := []) (rest := _) rfl ⟨rfl, rfl⟩ (.refl _) (LE0 rfl)
 ·have h : kd = 2 := by simpa using hc
  subst h
  exact e_ret (H' := []) (rest := _) rfl ⟨rfl, rfl⟩ (.refl _) (LE0 rfl)
 ·have h1 : ¬ kd = 1 := by rename_i h1; simpa using h1
  have h2 : ¬ kd = 2 := by simpa using hc
  exact e_ret (H' := []) (rest := _) rfl ⟨by unfold canV; rw [if_neg h1, if_neg h2]; rfl, rfl⟩ (.refl _) (LE0 rfl)
theorem refCanon_c (v : Va) (h : v.b.length < 1073741824) (hn : v.n < 18446744073709551616) : ACalls Tryz.prog 61 0 10 [vav v] [] (fun out H' => out = .ret (vav (canV v)) ∧ H' = []) := by
 obtain ⟨kd, b, n⟩ := v
 simp only at h hn
 refine no_implicit_lambda% (acalls_of tok dok (f := 61) ⟨Tryz.func61, rfl, by kernel_rfl⟩ ?_); refine no_implicit_lambda% (c_start (fun _ h => h) ?_)
 repeat' (first | (refine no_implicit_lambda% (zH ?_)) | (((with_reducible refine no_implicit_lambda% (zA ?_)); refine no_implicit_lambda% (zD rfl rfl rfl (fun hc => ?_) (fun hc => ?_)) <;> rw [hc])) | (((with_reducible refine no_implicit_lambda% (zB ?_)); refine no_implicit_lambda% (zE rfl (fun hc => ?_) (fun hc => ?_)))) | (((with_reducible refine no_implicit_lambda% (zC ?_)); refine no_implicit_lambda% (zF rfl rfl (fun hc => ?_) (fun hc => ?_)) <;> rw [hc])) | fail)
 ·have hk : kd = 1 := by simpa using hc
  subst hk
  exact e_ret_to (H' := []) (rest := _) (.wk (.refl _) (.cons (.refl _) (.cons (.box _ (.cons (.refl _) (.cons (.free _ _) (.cons (.refl _) .nil)))) (.refl _)))) rfl ⟨rfl, rfl⟩ (.refl _) (LE0 rfl)
 ·have hk : kd = 2 := by simpa using hc
  subst hk
  refine no_implicit_lambda% (cal [] (refBits_c n hn) ?_ ?_)
  ·refine no_implicit_lambda% (ret1 ?_); first | (refine no_implicit_lambda% (akc ?_)) | (refine no_implicit_lambda% (aec ?_))
   refine no_implicit_lambda% (awd ?_)
   refine no_implicit_lambda% (cal [] (refFrom_c (canonB n) (canonB_lt hn)) ?_ ?_)
   ·rw [canon2]
    refine no_implicit_lambda% (ret1 ?_); first | (refine no_implicit_lambda% (akc ?_)) | (refine no_implicit_lambda% (aec ?_))
    refine no_implicit_lambda% (awd ?_)
    exact e_ret_to (H' := []) (.wk (.refl _) (.cons (.box _ (.cons (.refl _) (.cons (.free _ _) (.cons (.refl _) .nil)))) (.refl _))) rfl ⟨rfl, rfl⟩ (.refl _) (LE0 rfl)
   ·first | (exact zI) | (exact zJ)
  ·first | (exact zI) | (exact zJ)
 ·have hk1 : kd ≠ 1 := by rename_i hc1; simpa using hc1
  have hk2 : kd ≠ 2 := by simpa using hc
  refine e_ret_to (H' := []) (.wk (.refl _) (.cons (.box _ (.cons (.refl _) (.cons (.free _ _) (.cons (.refl _) .nil)))) (.refl _))) rfl ⟨?_, rfl⟩ (.refl _) (LE0 rfl)
  unfold canV
  rw [if_neg hk1, if_neg hk2]
  rfl
theorem refRight_c (v : Va) : ACalls Tryz.prog 59 0 10 [vav v] [] (fun out H' => out = .ret (.v (.bool (v.kind == 1 && decide ((v.b.length : Int) ≤ 16) || v.kind == 2))) ∧ H' = []) := by
 obtain ⟨kd, b, n⟩ := v
 refine no_implicit_lambda% (acalls_of tok dok (f := 59) ⟨Tryz.func59, rfl, by kernel_rfl⟩ ?_); refine no_implicit_lambda% (c_start (fun _ h => h) ?_)
 repeat' (first | (refine no_implicit_lambda% (zH ?_)) | (((with_reducible refine no_implicit_lambda% (zA ?_)); refine no_implicit_lambda% (zD rfl rfl rfl (fun hc => ?_) (fun hc => ?_)) <;> rw [hc])) | (((with_reducible refine no_implicit_lambda% (zB ?_)); refine no_implicit_lambda% (zE rfl (fun hc => ?_) (fun hc => ?_)))) | (((with_reducible refine no_implicit_lambda% (zC ?_)); refine no_implicit_lambda% (zF rfl rfl (fun hc => ?_) (fun hc => ?_)) <;> rw [hc])) | fail)
 all_goals
  refine e_ret (H' := []) (rest := _) rfl ⟨congrArg (fun z => AOut.ret (.v (.bool z))) ?_, rfl⟩ (.refl _) (LE0 rfl)
  simp only [List.length_map] at *
  simp_all
theorem less_cb : ∀ a b : List UInt8, Op.bytesLess a b = decide (Lib.compareBytes a b = -1)
 | [], [] => rfl
 | [], _ :: _ => rfl
 | _ :: _, [] => rfl
 | x :: a, y :: b => by
  have h := less_cb a b
  unfold Op.bytesLess Lib.compareBytes
  rw [h]
  by_cases h1 : x < y
  ·rw [if_pos h1]; simp [h1]
  ·rw [if_neg h1]
   by_cases h2 : y < x
   ·rw [if_pos h2]
    have : ¬ x = y := fun e => h1 (e ▸ h2)
    simp [h1, this]
   ·rw [if_neg h2]
    have : x = y := by
     rw [UInt8.lt_iff_toNat_lt] at h1 h2
     exact UInt8.toNat_inj.1 (by omega)
    subst this
    simp
theorem eq_cb : ∀ a b : List UInt8, (a == b) = decide (Lib.compareBytes a b = 0)
 | [], [] => rfl
 | [], _ :: _ => rfl
 | _ :: _, [] => rfl
 | x :: a, y :: b => by
  have h := eq_cb a b
  unfold Lib.compareBytes
  rw [List.cons_beq_cons, h]
  by_cases h1 : x < y
  ·rw [if_pos h1]
   have : ¬ x = y := fun e => by subst e; exact absurd h1 (by simp)
   simp [this]
  ·rw [if_neg h1]
   by_cases h2 : y < x
   ·rw [if_pos h2]
    have : ¬ x = y := fun e => h1 (e ▸ h2)
    simp [this]
   ·rw [if_neg h2]
    have : x = y := by
     rw [UInt8.lt_iff_toNat_lt] at h1 h2
     exact UInt8.toNat_inj.1 (by omega)
    subst this
    simp
theorem cb_three (a b : List UInt8) : Lib.compareBytes a b = -1 ∨ Lib.compareBytes a b = 0 ∨ Lib.compareBytes a b = 1 := by
 induction a generalizing b with
 | nil => cases b <;> simp [Lib.compareBytes]
 | cons x a ih =>
  cases b with
  | nil => simp [Lib.compareBytes]
  | cons y b =>
   unfold Lib.compareBytes
   repeat' split
   ·exact .inl rfl
   ·exact .inr (.inr rfl)
   ·exact ih b
theorem canV_kind3 (v : Va) : (canV v).kind = 0 ∨ (canV v).kind = 1 ∨ (canV v).kind = 2 := by
 unfold canV
 split
 ·exact .inr (.inl rfl)
 ·split
  ·exact .inr (.inr rfl)
  ·exact .inl rfl
theorem canV_b1 (v : Va) (h : (canV v).kind = 1) : (canV v).b = v.b := by
 unfold canV at *
 split
 ·rfl
 ·rename_i h1
  rw [if_neg h1] at h
  split at h <;> cases h
theorem canV_n2 (v : Va) (h : (canV v).kind = 2) : (canV v).n = canonB v.n := by
 unfold canV at *
 split
 ·rename_i h1
  rw [if_pos h1] at h
  cases h
 ·split
  ·rfl
  ·rename_i h1 h2
   rw [if_neg h1, if_neg h2] at h
   cases h
theorem keyI_canon (n : Nat) : keyI (canonB n) = keyI n := by unfold keyI; rw [canon2]
set_option maxHeartbeats 3200000 in
theorem refOrder_c (a b : Va) (ha : a.n < 18446744073709551616) (hb : b.n < 18446744073709551616) : ACalls Tryz.prog 73 0 100 [vav a, vav b] [] (fun out H' => out = .ret (.v (.int .i64 (ordV a b))) ∧ H' = []) := by
 have hka := kind_c a
 have hkb := kind_c b
 have hoo := refOrder1_c a.n b.n ha hb
 have c0 := canV_kind3 a
 have d0 := canV_kind3 b
 have c1 := canV_b1 a
 have d1 := canV_b1 b
 have c2 := canV_n2 a
 have d2 := canV_n2 b
 have ho : ordV a b = ordV0 (canV a) (canV b) := rfl
 unfold ordV0 at ho
 have o1 : (canV a).kind < (canV b).kind → ordV a b = -1 := fun h => by rw [ho, if_pos (by omega), cmpZ, if_pos h]
 have o2 : (canV a).kind > (canV b).kind → ordV a b = 1 := fun h => by rw [ho, if_pos (by omega), cmpZ, if_neg (by omega), if_pos h]
 have o3 : (canV a).kind = 2 → (canV b).kind = 2 → ordV a b = cmpZ (keyI a.n) (keyI b.n) := fun h k => by rw [ho, if_neg (by omega), if_neg (by omega), if_pos h, c2 h, d2 k, keyI_canon, keyI_canon]
 have o4 : (canV a).kind = 1 → (canV b).kind = 1 → ordV a b = Lib.compareBytes a.b b.b := fun h k => by rw [ho, if_neg (by omega), if_pos h, c1 h, d1 k]
 have o5 : (canV a).kind = 0 → (canV b).kind = 0 → ordV a b = 0 := fun h k => by rw [ho, if_neg (by omega), if_neg (by omega), if_neg (by omega)]
 clear ho c1 c2 d1 d2
 generalize ordV a b = oo at *
 generalize (canV a).kind = x at *
 generalize (canV b).kind = y at *
 obtain ⟨k1, b1, n1⟩ := a
 obtain ⟨k2, b2, n2⟩ := b
 simp only at *
 have oO : (x < y ∧ oo = -1) ∨ (x > y ∧ oo = 1) ∨ (x = 2 ∧ y = 2) ∨ (x = 1 ∧ y = 1 ∧ oo = Lib.compareBytes b1 b2) ∨ (x = 0 ∧ y = 0 ∧ oo = 0) := by
  rcases Int.lt_trichotomy x y with h | h | h
  ·exact .inl ⟨h, o1 h⟩
  ·subst h
   rcases c0 with h | h | h
   ·exact .inr (.inr (.inr (.inr ⟨h, h, o5 h h⟩)))
   ·exact .inr (.inr (.inr (.inl ⟨h, h, o4 h h⟩)))
   ·exact .inr (.inr (.inl ⟨h, h⟩))
  ·exact .inr (.inl ⟨h, o2 h⟩)
 have ol := less_cb b1 b2
 have oe := eq_cb b1 b2
 have o3' := cb_three b1 b2
 refine no_implicit_lambda% (acalls_of tok dok (f := 73) ⟨Tryz.func73, rfl, by kernel_rfl⟩ ?_); refine no_implicit_lambda% (c_start (fun _ h => h) ?_)
 refine no_implicit_lambda% (awd ?_)
 refine no_implicit_lambda% (cal [] (hka) ?_ ?_)
 ·refine no_implicit_lambda% (ret1 ?_); first | (refine no_implicit_lambda% (akc ?_)) | (refine no_implicit_lambda% (aec ?_))
  refine no_implicit_lambda% (awd ?_)
  refine no_implicit_lambda% (cal [] (hkb) ?_ ?_)
  ·refine no_implicit_lambda% (ret1 ?_); first | (refine no_implicit_lambda% (akc ?_)) | (refine no_implicit_lambda% (aec ?_))
   repeat' (first | (refine no_implicit_lambda% (zH ?_)) | (((with_reducible refine no_implicit_lambda% (zA ?_)); refine no_implicit_lambda% (zD rfl rfl rfl (fun hc => ?_) (fun hc => ?_)) <;> rw [hc])) | (((with_reducible refine no_implicit_lambda% (zB ?_)); refine no_implicit_lambda% (zE rfl (fun hc => ?_) (fun hc => ?_)))) | (((with_reducible refine no_implicit_lambda% (zC ?_)); refine no_implicit_lambda% (zF rfl rfl (fun hc => ?_) (fun hc => ?_)) <;> rw [hc])) | fail)
   ·refine e_ret (H' := []) (rest := _) rfl ⟨by rw [o1 (by simpa using hc)]; rfl, rfl⟩ (.refl _) (LE0 rfl)
   ·refine e_ret (H' := []) (rest := _) rfl ⟨by rw [o2 (by simpa using hc)]; rfl, rfl⟩ (.refl _) (LE0 rfl)
   ·have hx : x = 2 := by simpa using hc
    have hy : y = 2 := by simp at *; omega
    refine no_implicit_lambda% (cal [] (hoo) ?_ ?_)
    ·refine no_implicit_lambda% (ret1 ?_); first | (refine no_implicit_lambda% (akc ?_)) | (refine no_implicit_lambda% (aec ?_))
     refine no_implicit_lambda% (awd ?_)
     refine e_ret (H' := []) (rest := _) rfl ⟨by rw [o3 hx hy]; rfl, rfl⟩ (.refl _) (LE0 rfl)
    ·first | (exact zI) | (exact zJ)
   all_goals
    refine e_ret (H' := []) (rest := _) rfl ⟨congrArg (fun z => AOut.ret (.v (.int .i64 z))) ?_, rfl⟩ (.refl _) (LE0 rfl)
    clear hka hkb hoo
    try simp only [Lib.toList_data] at *
    simp only [ol, oe, beq_iff_eq, Bool.not_eq_true', Bool.not_eq_false', Bool.or_eq_true, Bool.or_eq_false_iff, decide_eq_true_eq, decide_eq_false_iff_not, beq_eq_false_iff_ne, ne_eq] at *
    omega
  ·first | (exact zI) | (exact zJ)
 ·first | (exact zI) | (exact zJ)
theorem refSame_c (a b : Va) (ha : a.n < 18446744073709551616) (hb : b.n < 18446744073709551616) : ACalls Tryz.prog 27 0 200 [vav a, vav b] [] (fun out H' => out = .ret (.v (.bool (ordV a b == 0))) ∧ H' = []) := by
 have cc := refOrder_c a b ha hb
 obtain ⟨ka, ba, na⟩ := a
 obtain ⟨kb, bb, nb⟩ := b
 refine no_implicit_lambda% (acalls_of tok dok (f := 27) ⟨Tryz.func27, rfl, by kernel_rfl⟩ ?_); refine no_implicit_lambda% (c_start (fun _ h => h) ?_)
 refine no_implicit_lambda% (awd ?_)
 refine no_implicit_lambda% (cal [] (cc) ?_ ?_)
 ·refine no_implicit_lambda% (ret1 ?_); first | (refine no_implicit_lambda% (akc ?_)) | (refine no_implicit_lambda% (aec ?_))
  refine no_implicit_lambda% (awd ?_)
  exact e_ret (H' := []) (rest := _) rfl ⟨rfl, rfl⟩ (.refl _) (LE0 rfl)
 ·first | (exact zI) | (exact zJ)
end Go.Proofs.YtjepgbpcpcahgaaGreat
namespace Go.Am
open Go.RowKit
theorem Conv.anewS {s : List AV} {L L0 : Heap} {n j id off m cp k : Nat} {rows : List (List AV)} (hj : getA s j = .arr id off m cp) (hp : L.Perm ((id, .seq rows k) :: L0)) (hne : rows.length + k ≠ 0) :
  Conv ⟨s, L, n⟩ ⟨setA s j (.arr n off m cp), (n, .seq rows k) :: L0, n + 1⟩ := fun B G a w hr => by
 have hn : ¬ G.live n := fun h => Nat.lt_irrefl _ (hr.next n h)
 have hx := hr.slots j (fun h => h)
 simp only [hj] at hx
 have hx' : Sim G (.arr id off m cp) (a.tmps.getD j undef) := hx.down
 have h5 : Holds G w ((id, .seq rows k) :: L0) := hr.holds.perm hp
 obtain ⟨u1, u2⟩ := h5.unseq hne
 obtain ⟨m1, m2, m3⟩ := move_box u1 hn
 have hst : Step G w L (G.boxed n (G.loc id)) w ((n, .seq rows k) :: L0) := ((((Step.refl G w L).perm (.refl _) hp).unseq hne).trans m2).toSeq
 have hsim : Sim (G.boxed n (G.loc id)) (.arr n off m cp) (a.tmps.getD j undef) := by
  obtain ⟨base, hv, hlive, hnc, hcm, hbs⟩ := hx'.arr_inv
  rw [hv]
  exact .arr n off m cp base (.inr rfl) hnc hcm fun h0 => by rw [hbs h0]; simp [Ghost.boxed]
 refine ⟨G.boxed n (G.loc id), by rw [hr.size, setA_eq]; simp, fun i hi => ?_, hr.defers, m1.toSeq u2, hr.step.trans hst, fun i hi => ?_, hr.base, Nat.le_succ_of_le hr.low, fun i hi => ?_⟩
 ·show Slot _ (getA (setA s j _) i) _
  rw [getA_eq, setA_eq, List.getD, List.getElem?_set]
  by_cases e : j = i
  ·subst e
   rw [if_pos rfl]
   split
   ·exact .of hsim
   ·exact .of (.data _ _ (.dead _))
  ·rw [if_neg e]
   have := Slot.mono (G := G) (G' := G.boxed n (G.loc id)) (fun _ h => h) (fun a x h => m3 a x h) (hr.slots i hi)
   rw [getA_eq] at this
   exact this
 ·rcases hi with hi | rfl
  ·exact Nat.lt_succ_of_lt (hr.next i hi)
  ·exact Nat.lt_succ_self _
 ·rcases hi with hi | rfl
  ·exact hr.old i hi
  ·exact .inr hr.low
theorem box_more {G : Ghost} {w : World} {bid j : Nat} {cells : List AV} {a : AV} {L0 : Heap} (h : Holds G w ((bid, .box cells) :: L0)) (hs : ∀ arr E fr, w.heap[G.loc bid]? = some (.cells arr E fr) → Sim G a (arr.getD j undef)) :
  Holds G w ((bid, .box (setA cells j a)) :: L0) ∧ ∀ G0 w0 H0, Step G0 w0 H0 G w ((bid, .box cells) :: L0) → Step G0 w0 H0 G w ((bid, .box (setA cells j a)) :: L0) := by
 have hb0 : blocksOf G ((bid, .box (setA cells j a)) :: L0) = blocksOf G ((bid, .box cells) :: L0) := by unfold blocksOf; simp [List.filterMap_cons, Ghost.placed]
 have hnew : ResHolds G w (bid, .box (setA cells j a)) := by
  obtain ⟨g0, arr, E, fr, g1, g2, g3, g4⟩ := h.res (bid, .box cells) (by simp)
  refine ⟨g0, arr, E, fr, g1, by rw [setA_eq]; simpa using g2, g3, fun i b hb => ?_⟩
  rw [setA_eq, List.getElem?_set] at hb
  split at hb
  ·rename_i e
   subst e
   split at hb
   ·cases hb; exact hs _ _ _ g1
   ·cases hb
  ·exact g4 i b hb
 refine ⟨⟨h.X, fun r hm => ?_, by simpa using h.ids, fun r hm => ?_, by rw [hb0]; exact h.blocks, by rw [hb0]; exact h.lits⟩, fun G0 w0 H0 st => ⟨st.os, st.tape, st.output, st.size, st.base, st.X, st.frame, st.newX, by rw [hb0]; exact st.newB, st.live, by simpa using st.newI, st.lits, st.newL⟩⟩
 ·simp only [List.mem_cons] at hm
  rcases hm with rfl | hm
  ·exact hnew
  ·exact h.res _ (by simp [hm])
 ·simp only [List.mem_cons] at hm
  rcases hm with rfl | hm
  ·exact h.live (bid, .box cells) (by simp)
  ·exact h.live _ (by simp [hm])
theorem Conv.anewBox {s : List AV} {L L0 : Heap} {n j id bid off m c k : Nat} {rows : List (List AV)} {cells : List AV} (hp : L.Perm ((id, .seq rows k) :: (bid, .box cells) :: L0)) (hj : cells[j]? = some (.arr id off m c)) (hc : rows.length + k = 0 → c = 0) :
  Conv ⟨s, L, n⟩ ⟨s, (n, .seq rows k) :: (bid, .box (setA cells j (.arr n off m c))) :: L0, n + 1⟩ := fun B G a w hr => by
 have hn : ¬ G.live n := fun h => Nat.lt_irrefl _ (hr.next n h)
 have hH : Holds G w ((id, .seq rows k) :: (bid, .box cells) :: L0) := hr.holds.perm hp
 have hst : Step B.G B.w B.H G w ((id, .seq rows k) :: (bid, .box cells) :: L0) := hr.step.perm (.refl _) hp
 obtain ⟨g0, arr, E, fr, g1, g2, g3, g4⟩ := hH.res (bid, .box cells) (by simp)
 have hx := g4 j _ hj
 obtain ⟨base, hv, hlive, hnc, hcm, hbs⟩ := hx.arr_inv
 have hbl : G.live bid := hH.live (bid, .box cells) (by simp)
 have hbn : bid ≠ n := fun e => hn (e ▸ hbl)
 obtain ⟨b, m1, m2, m3, m4⟩ : ∃ b, Holds (G.boxed n b) w ((n, .seq rows k) :: (bid, .box cells) :: L0) ∧ Step B.G B.w B.H (G.boxed n b) w ((n, .seq rows k) :: (bid, .box cells) :: L0) ∧ (∀ a x, Sim G a x → Sim (G.boxed n b) a x) ∧ (c ≠ 0 → b = G.loc id) := by
  by_cases hne : rows.length + k = 0
  ·have e1 : rows = [] := List.eq_nil_of_length_eq_zero (by omega)
   have e2 : k = 0 := by omega
   subst e1; subst e2
   have hH2 : Holds G w ([] ++ ((bid, .box cells) :: L0)) := (hH.perm (List.perm_append_comm (l₁ := [(id, Res.seq [] 0)]))).left
   obtain ⟨k1, k2⟩ := new_void hH2.left hn
   obtain ⟨q1, q2⟩ := hH2.beside k1 k2
   exact ⟨0, q1, hst.forget.trans q2, fun a x h => k2.sim h, fun h => absurd (hc rfl) h⟩
  ·obtain ⟨u1, u2⟩ := hH.unseq hne
   obtain ⟨q1, q2, q3⟩ := move_box u1 hn
   exact ⟨G.loc id, q1.toSeq u2, ((hst.unseq hne).trans q2).toSeq, q3, fun _ => rfl⟩
 have hloc : (G.boxed n b).loc bid = G.loc bid := by simp [Ghost.boxed, hbn]
 have hsim : Sim (G.boxed n b) (.arr n off m c) (arr.getD j undef) := by
  rw [hv]
  exact .arr n off m c base (.inr rfl) hnc hcm fun h0 => by rw [hbs h0, ← m4 h0]; simp [Ghost.boxed]
 obtain ⟨r1, r2⟩ := box_more (j := j) (m1.perm (.swap _ _ _)) (a := .arr n off m c) fun arr' E' fr' h => by
  rw [hloc, g1] at h
  simp only [Option.some.injEq, Obj.cells.injEq] at h
  obtain ⟨rfl, rfl, rfl⟩ := h
  exact hsim
 have r3 := r2 _ _ _ (m2.perm (.refl _) (.swap _ _ _))
 refine ⟨G.boxed n b, hr.size, fun i hi => Slot.mono (G := G) (G' := G.boxed n b) (fun _ h => h) m3 (hr.slots i hi), hr.defers, r1.perm (.swap _ _ _), r3.perm (.refl _) (.swap _ _ _), fun i hi => ?_, hr.base, Nat.le_succ_of_le hr.low, fun i hi => ?_⟩
 ·rcases hi with hi | rfl
  ·exact Nat.lt_succ_of_lt (hr.next i hi)
  ·exact Nat.lt_succ_self _
 ·rcases hi with hi | rfl
  ·exact hr.old i hi
  ·exact .inr hr.low
theorem run_overlaps_box {P : Program} (w : World) (tS tR e : TypeId) (ht : P.underlying tS = some (.slice e)) (size : Nat) (hz : ∀ w, (Go.sizeOf e).run P w = .ok size w)
    (a : Addr) (base : Option Addr) (la ca lb cb : Nat) {va : Value} (hva : w.cell? a = some va) (hb : lb ≠ 0 → ∃ b, base = some b ∧ a.block ≠ b.block ∧ b.spot = none ∧ (∃ q, w.shape? b.block = some q) ∧ ∀ i, w.frozen? ⟨b.block, i, none⟩ = false) :
    (Extern.SlicesOverlaps.overlaps #[tS, tS] #[tR] #[.slice (some a) la ca, .slice base lb cb]).run P w = .ok (.bool false) w := by
  obtain ⟨tA, kA, hsa, hlt, hsp⟩ : ∃ tA kA, w.shape? a.block = some (tA, kA) ∧ a.off < kA ∧ a.spot = none := by
    unfold World.cell? at hva; unfold World.shape?
    split at hva
    · rename_i c e fr hh
      split at hva
      · cases hva
      · rename_i h
        exact ⟨_, _, rfl, (Array.getElem?_eq_some_iff.1 hva).1, by simpa using h⟩
    · cases hva
  cases kA with
  | zero => omega
  | succ kA =>
  by_cases h0 : la = 0 ∨ lb = 0 ∨ size = 0
  · have key : ∀ (m1 m2 : String) (q : Sem Nat), Sem.run P (α := Value) (do
      let some t := (#[tS, tS] : Array TypeId)[0]? | stuck m1
      let .slice elem ← underlying t | stuck m2
      let size ← sizeOf elem
      match (some a : Option Addr), base with
      | some a, some b =>
        if la = 0 ∨ lb = 0 ∨ size = 0 then pure (Value.bool false)
        else if a.block != b.block && (← frozen a) && (← frozen b) then unsupported .addressObserved
        else do
          if a.block != b.block then do
            noView a; noView b
            if ← mayBeOne a b then return Value.bool ((← q) == 1)
          pure (Value.bool (a.block == b.block && a.off < b.off + lb * size && b.off < a.off + la * size))
      | _, _ => pure (Value.bool false)) w = .ok (.bool false) w := by
      intro m1 m2 q
      cases base with
      | none => simp [run_underlying ht, hz]
      | some b => simp [run_underlying ht, hz, h0]
    exact key "" _ _
  · obtain ⟨b, rfl, hne, hbs', ⟨⟨tB, kB⟩, hshb⟩, hfz⟩ := hb fun h => h0 (.inr (.inl h))
    have hnb : (a.block != b.block) = true := by simpa using hne
    have hnb' : (a.block == b.block) = false := by simpa using hne
    have hfb : w.frozen? b = false := by
      have := hfz b.off
      unfold World.frozen? at this ⊢
      exact this
    have key : ∀ (m1 m2 : String) (q : Sem Nat), Sem.run P (α := Value) (do
      let some t := (#[tS, tS] : Array TypeId)[0]? | stuck m1
      let .slice elem ← underlying t | stuck m2
      let size ← sizeOf elem
      match (some a : Option Addr), (some b : Option Addr) with
      | some a, some b =>
        if la = 0 ∨ lb = 0 ∨ size = 0 then pure (Value.bool false)
        else if a.block != b.block && (← frozen a) && (← frozen b) then unsupported .addressObserved
        else do
          if a.block != b.block then do
            noView a; noView b
            if ← mayBeOne a b then return Value.bool ((← q) == 1)
          pure (Value.bool (a.block == b.block && a.off < b.off + lb * size && b.off < a.off + la * size))
      | _, _ => pure (Value.bool false)) w = .ok (.bool false) w := by
      intro m1 m2 q
      cases hfa : w.frozen? a <;>
      simp [run_underlying ht, hz, h0, hnb, hnb', frozen, noView, viewAt, mayBeOne, stringish, shape, Sem.run, hsa, hshb, hfb, hfa, hfz, hsp, hbs']
    exact key "" _ _
theorem ext_ov {P : Program} {f : FuncId} {fn : Func} {tS tR e : TypeId} (hf : P.funcs[f]? = some fn) (hname : (fn.name == "runtime.NumGoroutine") = false) (hb : fn.body.isNone = true) (hn : Extern.findNext fn = none) (he : Extern.find fn = some (Extern.SlicesOverlaps.overlaps #[tS, tS] #[tR]))
    (ht : P.underlying tS = some (.slice e)) (size : Nat) (hz : ∀ w, (Go.sizeOf e).run P w = .ok size w) {row : List AV} {rs : List (List AV)} {off m c k : Nat} {rows : List (List AV)} (hrow : row ≠ []) (hne : rows.length + k ≠ 0) :
    ACalls P f 1 1 [.list (row :: rs) .free, .arr 0 off m c] [(0, .seq rows k)] fun out H' => out = .ret (.v (.bool false)) ∧ H' = [(0, .seq rows k)] := by
  intro G w vals h1 h2 h3 h4 h5 h6
  obtain ⟨va, vb, rfl⟩ : ∃ va vb, vals = #[va, vb] := by
    have h7 : vals.size = 2 := by simpa using h5.symm
    refine ⟨vals.getD 0 undef, vals.getD 1 undef, ?_⟩
    apply Array.ext
    · rw [h7]; rfl
    · intro i hi hi2
      have : i = 0 ∨ i = 1 := by have : i < 2 := by simpa using hi2
                                 omega
      rcases this with rfl | rfl <;> simp [Array.getD, hi]
  have ha : Sim G (.list (row :: rs) .free) va := h6 0 _ rfl
  have hb' : Sim G (.arr 0 off m c) vb := h6 1 _ rfl
  obtain ⟨b, o, c', s, y, rfl, hr, hX, hS, h1c⟩ := ha.list_inv.1.pos (by simp)
  obtain ⟨base, rfl, hlive, hnc, hcm, hbs⟩ := hb'.arr_inv
  cases row with
  | nil => exact absurd rfl hrow
  | cons a0 row =>
  have hx0 := hX 0 (a0 :: row) 0 a0 rfl rfl
  have hcell := h4.X _ _ _ hx0
  simp only [Nat.zero_mul, Nat.add_zero] at hcell hx0
  obtain ⟨⟨g0, arr, E, fr, g1, g2, g3, g4⟩, _⟩ := h4.res (0, .seq rows k) (by simp) hne
  refine .inr ⟨.bool false, w, ?_, G, .ret (.v (.bool false)), [(0, .seq rows k)], ⟨rfl, rfl⟩, .data _ _ (.v _), h4, Step.refl _ _ _, fun id h => .inl h⟩
  rw [Go.run_callFunc_extern hf hname hb hn he, run_overlaps_box w tS tR e ht size hz ⟨b, o, none⟩ base _ c' m c hcell fun hm => ?_]
  · rfl
  · refine ⟨_, hbs (by omega), fun e => ?_, rfl, ⟨(E, arr.size), by unfold World.shape?; rw [g1]⟩, g3⟩
    have e' : b = G.loc 0 := e
    rw [e', g0] at hx0; cases hx0
theorem asrc_seq {L : Heap} {sz : Nat} {y : AV} {lim : Nat → Nat} {id off m cp k : Nat} {rows : List (List AV)} {cs : List AV} {K : Nat → List AV → Prop} (hy : y = .arr id off m cp) (hf : findL L id = some (.seq rows k)) (h0 : lim m ≤ m) (h1 : off + lim m * sz ≤ (seqC rows k).length)
  (hcs : ((seqC rows k).drop off).take (lim m * sz) = cs) (h2 : cs.all AV.one = true) (h : K m cs) : asrc L sz lim y K := by
 subst hy; subst hcs
 unfold asrc
 simp only [hf]
 exact ⟨h0, h1, h2, h⟩
theorem seqC_len {sz k : Nat} {rows : List (List AV)} (h : ∀ row ∈ rows, row.length = sz) : (seqC rows k).length = rows.length * sz + k := by
 unfold seqC; rw [List.length_append, List.length_replicate, flatten_length h]
theorem put_mid (A B C cs : List AV) (h : cs.length = B.length) : putCells (A ++ (B ++ C)) A.length cs = A ++ (cs ++ C) := by
 unfold putCells
 rw [List.take_left, h, ← List.append_assoc A, List.drop_append, List.drop_eq_nil_of_le (by simp)]
 simp
theorem RowsOk.take {sz : Nat} {rows : List (List AV)} (h : RowsOk sz rows) (i : Nat) : RowsOk sz (rows.take i) := by
 have hm : ∀ a ∈ (rows.take i).flatten, a ∈ rows.flatten := fun a ha => by
  obtain ⟨r, h1, h2⟩ := List.mem_flatten.1 ha
  exact List.mem_flatten.2 ⟨r, List.mem_of_mem_take h1, h2⟩
 exact ⟨fun row hr => h.len row (List.mem_of_mem_take hr), List.all_eq_true.2 fun a ha => List.all_eq_true.1 h.one a (hm a ha), fun a ha => h.pure a (hm a ha)⟩
theorem RowsOk.drop {sz : Nat} {rows : List (List AV)} (h : RowsOk sz rows) (i : Nat) : RowsOk sz (rows.drop i) := by
 have hm : ∀ a ∈ (rows.drop i).flatten, a ∈ rows.flatten := fun a ha => by
  obtain ⟨r, h1, h2⟩ := List.mem_flatten.1 ha
  exact List.mem_flatten.2 ⟨r, List.mem_of_mem_drop h1, h2⟩
 exact ⟨fun row hr => h.len row (List.mem_of_mem_drop hr), List.all_eq_true.2 fun a ha => List.all_eq_true.1 h.one a (hm a ha), fun a ha => h.pure a (hm a ha)⟩
theorem seq_from {sz : Nat} {rows : List (List AV)} (h : ∀ row ∈ rows, row.length = sz) (i k : Nat) (hi : i ≤ rows.length) : (seqC rows k).drop (i * sz) = (rows.drop i).flatten ++ List.replicate k .dead := by
 unfold seqC
 have hl : (rows.take i).flatten.length = i * sz := by rw [flatten_length (fun row hr => h row (List.mem_of_mem_take hr)), List.length_take, Nat.min_eq_left hi]
 conv => lhs; rw [← List.take_append_drop i rows, List.flatten_append, List.append_assoc, ← hl, List.drop_left]
theorem seq_split {sz : Nat} {rows : List (List AV)} (h : ∀ row ∈ rows, row.length = sz) (i k : Nat) : seqC rows k = (rows.take i).flatten ++ ((rows.drop i).flatten ++ List.replicate k .dead) := by
 unfold seqC
 conv => lhs; rw [← List.take_append_drop i rows, List.flatten_append, List.append_assoc]
theorem put_up {sz k i : Nat} {rows : List (List AV)} {r : List AV} (h : ∀ row ∈ rows, row.length = sz) (hi : rows[i]? = some r) (hk : sz ≤ k) : putCells (seqC rows k) ((i + 1) * sz) (rows.drop i).flatten = seqC (rows.take i ++ r :: rows.drop i) (k - sz) := by
 obtain ⟨hlt, hr⟩ := List.getElem?_eq_some_iff.1 hi
 have hd : rows.drop i = r :: rows.drop (i + 1) := by rw [List.drop_eq_getElem_cons hlt, hr]
 have hrl : r.length = sz := h r (List.mem_of_getElem? hi)
 have hA : ((rows.take i).flatten ++ r).length = (i + 1) * sz := by
  rw [List.length_append, flatten_length (fun row hr => h row (List.mem_of_mem_take hr)), List.length_take, Nat.min_eq_left (by omega), hrl, Nat.succ_mul]
 have hB : ∀ m, (rows.drop m).flatten.length = (rows.length - m) * sz := fun m => by
  rw [flatten_length (fun row hr => h row (List.mem_of_mem_drop hr)), List.length_drop]
 obtain ⟨j, hj⟩ : ∃ j, rows.length - i = j + 1 := ⟨rows.length - i - 1, by omega⟩
 have e1 : seqC rows k = ((rows.take i).flatten ++ r) ++ (((rows.drop (i + 1)).flatten ++ List.replicate sz .dead) ++ List.replicate (k - sz) .dead) := by
  rw [seq_split h i, hd, List.flatten_cons]
  simp only [List.append_assoc]
  congr 3
  rw [List.replicate_append_replicate]
  congr 1; omega
 rw [e1, ← hA, put_mid]
 ·unfold seqC
  rw [List.flatten_append, List.flatten_cons]
  simp only [List.append_assoc]
 ·rw [hB, List.length_append, hB, List.length_replicate, hj, show rows.length - (i + 1) = j by omega, Nat.succ_mul]
theorem put_one {sz k i : Nat} {rows : List (List AV)} {row : List AV} (h : ∀ row ∈ rows, row.length = sz) (hi : i < rows.length) (hr : row.length = sz) : putCells (seqC rows k) (i * sz) row = seqC (rows.set i row) k := by
 have hg : rows[i]? = some rows[i] := List.getElem?_eq_getElem hi
 have := flat_put (j := 0) (l := row) h hg (by omega) k
 rw [Nat.add_zero] at this
 rw [this]
 congr 2
 have hrl : rows[i].length = sz := h _ (List.getElem_mem hi)
 unfold putCells
 rw [List.take_zero, List.nil_append, List.drop_eq_nil_of_le (by omega), List.append_nil]
theorem put_end {sz k : Nat} {rows rows2 : List (List AV)} (h : ∀ row ∈ rows, row.length = sz) (h2 : ∀ row ∈ rows2, row.length = sz) (hk : rows2.length * sz ≤ k) : putCells (seqC rows k) (rows.length * sz) rows2.flatten = seqC (rows ++ rows2) (k - rows2.length * sz) := by
 unfold seqC
 rw [← flatten_length h, putCells_end (by rw [flatten_length h2]; exact hk), flatten_length h2, List.flatten_append]
section
variable {P : Program} {TT : Types} {o : Oper} {s : List AV} {L : Heap} {n : Nat}
theorem a_copyUp {K KP : AV → Heap → Nat → Prop} {c : Call} {x y : Operand} {t tx e : TypeId} {te : TI} {id off off2 nn mm cp cp2 k k2 i sz : Nat} {r : List AV} {rows : List (List AV)} {L0 : Heap} (ho : o.op = .call c) (hk : opKind o = .mem) (hc : c.callee = .builtin .copy) (ha : c.args.toList = [x, y]) (hty : c.argTypes.toList = [t, tx])
  (hkt : kindT TT t = .slice e) (hte : TT e = some te) (hx : ev s x = .arr id off nn cp) (hy : ev s y = .arr id off2 mm cp2) (hta : ∀ k' : Res → Heap → Prop, k' (.seq rows k) L0 → takeO L id k') (hf : findL L id = some (.seq rows k)) (hsz : te.size = sz) (hR : RowsOk sz rows) (hr : rows[i]? = some r)
  (hoff : off = (i + 1) * sz) (hoff2 : off2 = i * sz) (hnn : nn = rows.length - i) (hmm : mm = rows.length + 1 - i) (hkk : sz ≤ k) (hk2 : k - sz = k2) (h : ∀ q : Int, K (.v (.int .i64 q)) ((id, .seq (rows.take i ++ r :: rows.drop i) k2) :: L0) n) : aop P TT o s L n K KP := by
 subst hk2
 subst hoff; subst hoff2; subst hsz; subst hnn
 have hlt := (List.getElem?_eq_some_iff.1 hr).1
 have hmin : Nat.min mm (rows.length - i) = rows.length - i := Nat.min_eq_right (by omega)
 have hmul : i * te.size + (rows.length - i) * te.size = rows.length * te.size := by rw [← Nat.add_mul]; congr 1; omega
 refine a_copyS ho hk hc ha hty hkt hte hx hta (m := mm) (cs := (rows.drop i).flatten) (fun K h => asrc_seq hy hf (Nat.min_le_left _ _) ?_ ?_ ?_ h) (by omega) ?_ (put_up hR.len hr hkk) ?_ (h _)
 ·rw [hmin, seqC_len hR.len]; omega
 ·rw [hmin, seq_from hR.len i k (by omega), List.take_append_of_le_length]
  ·rw [List.take_of_length_le]
   rw [flatten_length (hR.drop i).len, List.length_drop]; exact Nat.le_refl _
  ·rw [flatten_length (hR.drop i).len, List.length_drop]; exact Nat.le_refl _
 ·exact (hR.drop i).one
 ·rw [hmin, seqC_len hR.len, Nat.succ_mul]; omega
 ·intro a ha
  have h1 := (hR.take i).pure
  have h2 := (hR.drop i).pure
  rw [List.flatten_append, List.flatten_cons, List.mem_append, List.mem_append] at ha
  rcases ha with ha | ha | ha
  ·exact h1 a ha
  ·exact hR.pure a (List.mem_flatten.2 ⟨r, List.mem_of_getElem? hr, ha⟩)
  ·exact h2 a ha
theorem a_copyOne {K KP : AV → Heap → Nat → Prop} {c : Call} {x y : Operand} {t tx e : TypeId} {te : TI} {id off nn cp k i sz : Nat} {row : List AV} {own : Own} {rows rows' : List (List AV)} {L0 : Heap} (ho : o.op = .call c) (hk : opKind o = .mem) (hc : c.callee = .builtin .copy) (ha : c.args.toList = [x, y]) (hty : c.argTypes.toList = [t, tx])
  (hkt : kindT TT t = .slice e) (hte : TT e = some te) (hx : ev s x = .arr id off nn cp) (hy : ev s y = .list [row] own) (hta : ∀ k' : Res → Heap → Prop, k' (.seq rows k) L0 → takeO L id k') (hsz : te.size = sz) (hR : RowsOk sz rows) (hrow : row.length = sz) (hpr : ∀ a ∈ row, a.pure = true) (hi : i < rows.length)
  (hoff : off = i * sz) (hnn : 1 ≤ nn) (hrows : rows.set i row = rows') (h : ∀ q : Int, K (.v (.int .i64 q)) ((id, .seq rows' k) :: L0) n) : aop P TT o s L n K KP := by
 subst hoff; subst hsz; subst hrows
 have hmin : Nat.min 1 nn = 1 := Nat.min_eq_left hnn
 refine a_copyS ho hk hc ha hty hkt hte hx hta (m := 1) (cs := row) (fun K h => ?_) (by omega) ?_ (put_one hR.len hi hrow) ?_ (h _)
 ·rw [hy]
  refine ⟨fun q hq => ?_, Nat.min_le_left _ _, ?_⟩
  ·rw [List.mem_singleton.1 hq]; exact hrow
  ·show K 1 (List.take (Nat.min 1 nn * te.size) [row].flatten)
   rw [hmin, Nat.one_mul, List.flatten_cons, List.flatten_nil, List.append_nil, List.take_of_length_le (Nat.le_of_eq hrow)]
   exact h
 ·rw [hmin, seqC_len hR.len, Nat.one_mul, ← Nat.succ_mul]
  exact Nat.le_trans (Nat.mul_le_mul_right te.size hi) (Nat.le_add_right _ _)
 ·intro a ha
  obtain ⟨q, hq, hm⟩ := List.mem_flatten.1 ha
  rcases List.mem_or_eq_of_mem_set hq with h1 | rfl
  ·exact hR.pure a (List.mem_flatten.2 ⟨q, h1, hm⟩)
  ·exact hpr a hm
theorem a_copyEnd {K KP : AV → Heap → Nat → Prop} {c : Call} {x y : Operand} {t tx e : TypeId} {te : TI} {id off nn cp k k2 m sz : Nat} {rows rows2 rows' : List (List AV)} {L0 : Heap} (ho : o.op = .call c) (hk : opKind o = .mem) (hc : c.callee = .builtin .copy) (ha : c.args.toList = [x, y]) (hty : c.argTypes.toList = [t, tx])
  (hkt : kindT TT t = .slice e) (hte : TT e = some te) (hx : ev s x = .arr id off nn cp) (hy : ∀ K : Nat → List AV → Prop, K m rows2.flatten → asrc L te.size (fun m => Nat.min m nn) (ev s y) K) (hta : ∀ k' : Res → Heap → Prop, k' (.seq rows k) L0 → takeO L id k') (hsz : te.size = sz) (hR : RowsOk sz rows) (hR2 : RowsOk sz rows2)
  (hm : Nat.min m nn = rows2.length) (hoff : off = rows.length * sz) (hkk : rows2.length * sz ≤ k) (hne : rows.length + k ≠ 0) (hrows : rows ++ rows2 = rows') (hk2 : k - rows2.length * sz = k2) (h : ∀ q : Int, K (.v (.int .i64 q)) ((id, .seq rows' k2) :: L0) n) : aop P TT o s L n K KP := by
 subst hoff; subst hsz; subst hrows; subst hk2
 refine a_copyS ho hk hc ha hty hkt hte hx hta (m := m) (cs := rows2.flatten) hy hne ?_ (put_end hR.len hR2.len hkk) (pure_app hR.pure hR2.pure) (h _)
 rw [hm, seqC_len hR.len]; omega
theorem asrc_rows {L : Heap} {sz : Nat} {y : AV} {rows : List (List AV)} {own : Own} {nn : Nat} {K : Nat → List AV → Prop} (hy : y = .list rows own) (hr : ∀ row ∈ rows, row.length = sz) (hn : rows.length ≤ nn) (h : K rows.length rows.flatten) : asrc L sz (fun m => Nat.min m nn) y K := by
 subst hy
 refine ⟨hr, Nat.min_le_left _ _, ?_⟩
 show K _ (List.take (Nat.min rows.length nn * sz) _)
 rw [show Nat.min rows.length nn = rows.length from Nat.min_eq_left hn, ← flatten_length hr, List.take_length]; exact h
theorem asrc_drop {L : Heap} {sz : Nat} {y : AV} {id off i m cp k nn : Nat} {rows : List (List AV)} {K : Nat → List AV → Prop} (hy : y = .arr id off m cp) (hf : findL L id = some (.seq rows k)) (hR : RowsOk sz rows) (hi : i ≤ rows.length) (hoff : off = i * sz) (hm : m = rows.length - i) (hn : m ≤ nn) (h : K m (rows.drop i).flatten) : asrc L sz (fun m => Nat.min m nn) y K := by
 have hmin : Nat.min m nn = m := Nat.min_eq_left hn
 have hmul : i * sz + (rows.length - i) * sz = rows.length * sz := by rw [← Nat.add_mul]; congr 1; omega
 subst hoff
 refine asrc_seq hy hf (Nat.min_le_left _ _) ?_ ?_ (hR.drop i).one h
 ·show i * sz + Nat.min m nn * sz ≤ _
  rw [hmin, seqC_len hR.len, hm]; omega
 ·show List.take (Nat.min m nn * sz) _ = _
  have hfl := flatten_length (hR.drop i).len
  rw [List.length_drop] at hfl
  rw [hmin, hm, seq_from hR.len i k hi, List.take_append_of_le_length (by omega), List.take_of_length_le (by omega)]
end
section
variable {P : Program} {TT : Types} {s : List AV} {L : Heap} {n : Nat}
theorem c_l3 {D : Dr} {Kk : Kc} {x : Code} {α β γ : Type} (S : α → β → γ → ASt) (C : α → β → γ → Prop) (μ : α → β → γ → Nat) (a : α) (b : β) (c : γ) (ha : C a b c) (hc : Conv ⟨s, L, n⟩ (S a b c))
  (hround : ∀ a b c, C a b c → acode P TT D x (S a b c).slots (S a b c).L (S a b c).next (loopK D.low (fun p : α × β × γ => S p.1 p.2.1 p.2.2) (fun p => C p.1 p.2.1 p.2.2) (fun p => μ p.1 p.2.1 p.2.2) (a, b, c) Kk)) : acode P TT D (.loop x) s L n Kk :=
 c_loop' (fun p : α × β × γ => S p.1 p.2.1 p.2.2) (fun p => C p.1 p.2.1 p.2.2) (fun p => μ p.1 p.2.1 p.2.2) (a := (a, b, c)) ha hc fun p h => hround p.1 p.2.1 p.2.2 h
theorem c_l4 {D : Dr} {Kk : Kc} {x : Code} {α β γ δ : Type} (S : α → β → γ → δ → ASt) (C : α → β → γ → δ → Prop) (μ : α → β → γ → δ → Nat) (a : α) (b : β) (c : γ) (d : δ) (ha : C a b c d) (hc : Conv ⟨s, L, n⟩ (S a b c d))
  (hround : ∀ a b c d, C a b c d → acode P TT D x (S a b c d).slots (S a b c d).L (S a b c d).next (loopK D.low (fun p : α × β × γ × δ => S p.1 p.2.1 p.2.2.1 p.2.2.2) (fun p => C p.1 p.2.1 p.2.2.1 p.2.2.2) (fun p => μ p.1 p.2.1 p.2.2.1 p.2.2.2) (a, b, c, d) Kk)) : acode P TT D (.loop x) s L n Kk :=
 c_loop' (fun p : α × β × γ × δ => S p.1 p.2.1 p.2.2.1 p.2.2.2) (fun p => C p.1 p.2.1 p.2.2.1 p.2.2.2) (fun p => μ p.1 p.2.1 p.2.2.1 p.2.2.2) (a := (a, b, c, d)) ha hc fun p h => hround p.1 p.2.1 p.2.2.1 p.2.2.2 h
theorem c_l5 {D : Dr} {Kk : Kc} {x : Code} {α β γ δ ε : Type} (S : α → β → γ → δ → ε → ASt) (C : α → β → γ → δ → ε → Prop) (μ : α → β → γ → δ → ε → Nat) (a : α) (b : β) (c : γ) (d : δ) (e : ε) (ha : C a b c d e) (hc : Conv ⟨s, L, n⟩ (S a b c d e))
  (hround : ∀ a b c d e, C a b c d e → acode P TT D x (S a b c d e).slots (S a b c d e).L (S a b c d e).next (loopK D.low (fun p : α × β × γ × δ × ε => S p.1 p.2.1 p.2.2.1 p.2.2.2.1 p.2.2.2.2) (fun p => C p.1 p.2.1 p.2.2.1 p.2.2.2.1 p.2.2.2.2) (fun p => μ p.1 p.2.1 p.2.2.1 p.2.2.2.1 p.2.2.2.2) (a, b, c, d, e) Kk)) : acode P TT D (.loop x) s L n Kk :=
 c_loop' (fun p : α × β × γ × δ × ε => S p.1 p.2.1 p.2.2.1 p.2.2.2.1 p.2.2.2.2) (fun p => C p.1 p.2.1 p.2.2.1 p.2.2.2.1 p.2.2.2.2) (fun p => μ p.1 p.2.1 p.2.2.1 p.2.2.2.1 p.2.2.2.2) (a := (a, b, c, d, e)) ha hc fun p h => hround p.1 p.2.1 p.2.2.1 p.2.2.2.1 p.2.2.2.2 h
end
theorem aolds_take {L : Heap} {sz id off i cp k : Nat} {rows : List (List AV)} (hf : findL L id = some (.seq rows k)) (hR : RowsOk sz rows) (hi : i ≤ rows.length) (hoff : off = 0) : aolds L sz (.arr id off i cp) (rows.take i).flatten i cp := by
 subst hoff
 have hfl := flatten_length (hR.take i).len
 rw [List.length_take, Nat.min_eq_left hi] at hfl
 have hcut : ((seqC rows k).drop 0).take (i * sz) = (rows.take i).flatten := by
  rw [List.drop_zero, seq_split hR.len i, ← hfl, List.take_left]
 refine ⟨rfl, rfl, .inr (.inl ⟨rows, k, hf, ?_, ?_, hcut.symm⟩)⟩
 ·rw [seqC_len hR.len]
  have := Nat.mul_le_mul_right sz hi
  omega
 ·rw [hcut]; exact (hR.take i).one
def insAt {α : Type} (l : List α) (i : Nat) (x : α) : List α := l.take i ++ x :: l.drop i
theorem insAt_len {α : Type} {l : List α} {i : Nat} (x : α) (h : i ≤ l.length) : (insAt l i x).length = l.length + 1 := by simp [insAt]; omega
theorem insAt_end {α : Type} (l : List α) (x : α) : insAt l l.length x = l ++ [x] := by simp [insAt]
theorem insAt_map {α β : Type} (f : α → β) (l : List α) (i : Nat) (x : α) : insAt (l.map f) i (f x) = (insAt l i x).map f := by simp [insAt, List.map_take, List.map_drop]
theorem ins_set {rows : List (List AV)} {i : Nat} {r row : List AV} (hi : i < rows.length) : (rows.take i ++ r :: rows.drop i).set i row = insAt rows i row := by
 unfold insAt
 rw [List.set_append_right _ _ (by simp; omega), List.length_take, Nat.min_eq_left (by omega), Nat.sub_self, List.set_cons_zero]
end Go.Am
namespace Go.Am
open Go.RowKit
theorem seal_rel {B : Base} {G : Ghost} {a : Act} {w : World} {s : List AV} {L L0 : Heap} {n id off m cp sz : Nat} {cells : List AV} {rows : List (List AV)} (hrel : Rel B No G ⟨s, L, n⟩ a w) (hp : L.Perm ((id, .box cells) :: L0)) (hr : ∀ row ∈ rows, row.length = sz) (hm : rows.length = m)
  (hd : ∀ i a', rows.flatten[i]? = some a' → ∃ a, cells[off + i]? = some a ∧ a.seal = some a' ∧ a.one = true) : ∃ G', Rel B No G' ⟨s, L0, n⟩ a w ∧ (∀ x, Sim G (.arr id off m cp) x → Sim G' (.list rows .free) x) ∧ G'.loc = G.loc := by
 have h5 : Holds G w ((id, .box cells) :: L0) := hrel.holds.perm hp
 have hst : Step B.G B.w B.H G w ((id, .box cells) :: L0) := hrel.step.perm (.refl _) hp
 obtain ⟨h0, arr, E, fr, hh, hsz, hf, hcs⟩ := h5.res (id, .box cells) (by simp)
 have hbl : blocksOf G ((id, .box cells) :: L0) = G.loc id :: blocksOf G L0 := rfl
 have hnd := h5.blocks
 rw [hbl] at hnd
 obtain ⟨hnd1, hnd2⟩ := List.nodup_cons.1 hnd
 have hids := h5.ids
 simp only [List.map_cons] at hids
 obtain ⟨hi1, hi2⟩ := List.nodup_cons.1 hids
 generalize hG : G.sealed (G.loc id) arr cells.length = G'
 have e1 : ∀ b i, G'.X b i = if b = G.loc id then (if i < cells.length then arr[i]? else none) else G.X b i := fun b i => by rw [← hG]; rfl
 have e2 : G'.loc = G.loc := by rw [← hG]; rfl
 have e3 : G'.tk = G.tk := by rw [← hG]; rfl
 have e4 : G'.live = G.live := by rw [← hG]; rfl
 have e5 : G'.lits = G.lits := by rw [← hG]; rfl
 have e6 : G'.base = G.base := by rw [← hG]; rfl
 have hX : ∀ b i v, G.X b i = some v → G'.X b i = some v := fun b i v h => by
  rw [e1, if_neg]
  ·exact h
  ·rintro rfl
   rw [h0 i] at h; cases h
 have hsim : ∀ a x, Sim G a x → Sim G' a x := fun a x h => h.mono hX fun i hi => ⟨by rw [e4]; exact hi, by rw [e2], .inl (by rw [e3])⟩
 have hbl' : blocksOf G' L0 = blocksOf G L0 := filterMap_same fun r _ => placed_same (by rw [e2]) (by rw [e3])
 have hcell : ∀ (i : Nat) (a' : AV), rows.flatten[i]? = some a' → G'.X (G.loc id) (off + i) = some (arr.getD (off + i) undef) ∧ SimD G'.X a' (arr.getD (off + i) undef) ∧ (arr.getD (off + i) undef).oneCell' = true := fun i a' h => by
  obtain ⟨a, k1, k2, k3⟩ := hd i a' h
  have h2 := (List.getElem?_eq_some_iff.1 k1).1
  have h3 := hcs _ a k1
  refine ⟨?_, ((h3.seal k2).mono hX), h3.one k3⟩
  rw [e1, if_pos rfl, if_pos h2]
  have : off + i < arr.size := by omega
  simp [this]
 have hlist : ∀ x, Sim G (.arr id off m cp) x → SimD G'.X (.list rows .free) x := fun x hx => by
  obtain ⟨base, rfl, hlive, hnc, hcm, hbs⟩ := hx.arr_inv
  subst hm
  by_cases h00 : rows = []
  ·subst h00
   exact .nil .free base cp hcm (by simp) (.inl rfl)
  ·have hpos : 0 < rows.length := List.length_pos_iff.2 h00
   obtain rfl := hbs (by omega)
   refine .list rows .free (G.loc id) off cp sz (fun i j => arr.getD (off + (i * sz + j)) undef) hnc hcm (by simp) (.inl rfl) hr (fun i row q a h1 h2 => ?_) (fun i row q a h1 h2 => ?_) (fun i row q a h1 h2 => ?_)
   all_goals
    obtain ⟨c1, c2, c3⟩ := hcell _ _ (flat_get hr h1 h2)
   ·rw [Nat.add_assoc]; exact c1
   ·exact c2
   ·exact c3
 refine ⟨G', ⟨hrel.size, fun i hi => (hrel.slots i hi).mono (by rw [e5]; exact fun _ h => h) hsim, hrel.defers, ⟨fun b i v hxv => ?_, fun r hr' => ?_, hi2, fun r hr' => ?_, by rw [hbl']; exact hnd2, fun b hb => ?_⟩, ⟨hst.os, hst.tape, hst.output, hst.size, by rw [e6]; exact hst.base, fun b i v h => hX _ _ _ (hst.X b i v h), hst.frame, fun b i v hxv => ?_, fun b hb => ?_, fun i hi => ?_, fun i hi => ?_, by rw [e5]; exact hst.lits, by rw [e5]; exact hst.newL⟩, by rw [e4]; exact hrel.next, by rw [e6]; exact hrel.base, hrel.low, by rw [e4]; exact hrel.old⟩, fun x hx => .data _ _ (hlist x hx), e2⟩
 ·rw [e1] at hxv
  split at hxv
  ·rename_i hb
   subst hb
   split at hxv
   ·simp only [World.cell?, hh]
    simpa using hxv
   ·cases hxv
  ·exact h5.X _ _ _ hxv
 ·refine (h5.res r (List.mem_cons_of_mem _ hr')).keep (by rw [e2]) (by rw [e3]) hsim fun b hb => ⟨rfl, fun i v hxv => ?_⟩
  rw [e1, if_neg] at hxv
  ·exact hxv
  ·rintro rfl
   exact hnd1 (List.mem_filterMap.2 ⟨r, hr', hb⟩)
 ·rw [e4]; exact h5.live r (List.mem_cons_of_mem _ hr')
 ·rw [e5] at hb
  obtain ⟨q1, q2, q3⟩ := h5.lits b hb
  refine ⟨by rw [e6]; exact q1, q2, ?_⟩
  rw [hbl']
  rw [hbl] at q3
  exact fun hm' => q3 (List.mem_cons_of_mem _ hm')
 ·rw [e1] at hxv
  split at hxv
  ·rename_i hb
   subst hb
   rcases hst.newB (G.loc id) (by rw [hbl]; simp) with h | h
   ·exact .inr (.inr h)
   ·exact .inr (.inl h)
  ·exact hst.newX _ _ _ hxv
 ·rw [hbl'] at hb
  exact hst.newB b (by rw [hbl]; exact List.mem_cons_of_mem _ hb)
 ·rw [e4, e2, e3]; 
  obtain ⟨k1, k2, k3⟩ := hst.live i hi
  exact ⟨k1, k2, k3⟩
 ·exact hst.newI i (by simp only [List.map_cons]; exact List.mem_cons_of_mem _ hi)
theorem Conv.freezeBox {s : List AV} {L L0 : Heap} {n j id bid m cp k sz : Nat} {rows : List (List AV)} {cells : List AV} (hp : L.Perm ((id, .seq rows k) :: (bid, .box cells) :: L0)) (hj : cells[j]? = some (.arr id 0 m cp)) (hR : RowsOk sz rows) (hm : rows.length = m) :
  Conv ⟨s, L, n⟩ ⟨s, (bid, .box (setA cells j (.list rows .free))) :: L0, n⟩ := fun B G a w hr => by
 by_cases hne : rows.length + k = 0
 ·have e1 : rows = [] := List.eq_nil_of_length_eq_zero (by omega)
  subst e1
  simp only [List.length_nil] at hm
  subst hm
  obtain ⟨G1, h1⟩ := (Conv.to (τ := ⟨s, (bid, .box cells) :: L0, n⟩) [(id, .seq [] k)] (.refl s) (hp.trans (List.perm_append_comm (l₁ := [(id, Res.seq [] k)]))) (Nat.le_refl _)) B G a w hr
  obtain ⟨g0, arr, E, fr, g1, g2, g3, g4⟩ := h1.holds.res (bid, .box cells) (by simp)
  obtain ⟨r1, r2⟩ := box_more (j := j) h1.holds (a := .list [] .free) fun arr' E' fr' h => by
   rw [g1] at h
   simp only [Option.some.injEq, Obj.cells.injEq] at h
   obtain ⟨rfl, rfl, rfl⟩ := h
   obtain ⟨base, hv, _, _, hc, _⟩ := (g4 j _ hj).arr_inv
   rw [hv]
   exact .data _ _ (.nil _ _ _ hc (by simp) (.inl rfl))
  exact ⟨G1, h1.size, h1.slots, h1.defers, r1, r2 _ _ _ h1.step, h1.next, h1.base, h1.low, h1.old⟩
 ·obtain ⟨G0, h0⟩ := Conv.unseq hne hp B G a w hr
  obtain ⟨g0, arr, E, fr, g1, g2, g3, g4⟩ := h0.holds.res (bid, .box cells) (by simp)
  obtain ⟨G1, h1, h2, h3⟩ := seal_rel (off := 0) (cp := cp) h0 (.refl _) hR.len hm fun i a ha => ⟨a, by
   rw [Nat.zero_add]; unfold seqC
   rw [List.getElem?_append_left (List.getElem?_eq_some_iff.1 ha).1]; exact ha, AV.seal_pure (hR.pure a (List.mem_of_getElem? ha)), List.all_eq_true.1 hR.one a (List.mem_of_getElem? ha)⟩
  obtain ⟨r1, r2⟩ := box_more (j := j) h1.holds (a := .list rows .free) fun arr' E' fr' h => by
   rw [h3, g1] at h
   simp only [Option.some.injEq, Obj.cells.injEq] at h
   obtain ⟨rfl, rfl, rfl⟩ := h
   exact h2 _ (g4 j _ hj)
  exact ⟨G1, h1.size, h1.slots, h1.defers, r1, r2 _ _ _ h1.step, h1.next, h1.base, h1.low, h1.old⟩
/-! BORROW -/
def Ghost.mem (G : Ghost) (w : World) : Ghost := ⟨fun b i => w.cell? ⟨b, i, none⟩, G.loc, G.tk, fun _ => False, fun _ => False, w.heap.size⟩
def Reads (H : Heap) (a a' : AV) : Prop := ∀ G w x, Holds G w H → Sim G a x → Sim (G.mem w) a' x
theorem Reads.data {H : Heap} {a : AV} (hp : a.pure = true) : Reads H a a := fun G w x hh hs => by
 cases hs with
 | data _ _ h => exact .data _ _ (h.mono fun b i v hx => hh.X b i v hx)
 | tok => simp [AV.pure] at hp
 | _ => simp [AV.pure] at hp
theorem Sim.dataP {G : Ghost} {a : AV} {x : Value} (h : Sim G a x) (hp : a.pure = true) : SimD G.X a x := by
 cases h with
 | data _ _ h => exact h
 | _ => simp [AV.pure] at hp
theorem Reads.fn {H : Heap} {f : FuncId} : Reads H (.fn f []) (.fn f []) := fun G w x hh hs => by
 cases hs with
 | data _ _ h => cases h
 | fn _ _ vs hl h => exact .fn f [] vs hl fun i a ha => by simp at ha
theorem Reads.agg {H : Heap} {l l' : List AV} (hl : l.length = l'.length) (h : ∀ (i : Nat) (a' : AV), l'[i]? = some a' → ∃ a, l[i]? = some a ∧ Reads H a a') : Reads H (.agg l) (.agg l') := fun G w x hh hs => by
 cases hs with
 | data _ _ h => cases h
 | agg _ vs h1 h2 =>
  refine .agg l' vs (by omega) fun i a' ha => ?_
  obtain ⟨a, h3, h4⟩ := h i a' ha
  exact h4 G w _ hh (h2 i a h3)
theorem Reads.box {H : Heap} {id off m cp sz : Nat} {cells : List AV} {rows : List (List AV)} (hb : ∀ G w, Holds G w H → rows ≠ [] → BoxHolds G w id cells) (hr : ∀ row ∈ rows, row.length = sz) (hm : rows.length = m)
  (hd : ∀ i a', rows.flatten[i]? = some a' → ∃ a, cells[off + i]? = some a ∧ Reads H a a' ∧ a'.pure = true ∧ a.one = true) : Reads H (.arr id off m cp) (.list rows .free) := fun G w x hh hs => by
 obtain ⟨base, rfl, hlive, hnc, hcm, hbs⟩ := hs.arr_inv
 by_cases h00 : rows = []
 ·subst h00
  simp only [List.length_nil] at hm
  subst hm
  exact .data _ _ (.nil .free base cp hcm (by simp) (.inl rfl))
 ·obtain ⟨g0, arr, E, fr, g1, g2, g3, g4⟩ := hb G w hh h00
  have hpos : 0 < rows.length := List.length_pos_iff.2 h00
  subst hm
  obtain rfl := hbs (by omega)
  have hcell : ∀ (i : Nat) (a' : AV), rows.flatten[i]? = some a' → (G.mem w).X (G.loc id) (off + i) = some (arr.getD (off + i) undef) ∧ SimD (G.mem w).X a' (arr.getD (off + i) undef) ∧ (arr.getD (off + i) undef).oneCell' = true := fun i a' h => by
   obtain ⟨a, k1, k2, k3, k4⟩ := hd i a' h
   have h2 := (List.getElem?_eq_some_iff.1 k1).1
   have h3 := g4 _ a k1
   have h5 := k2 G w _ hh h3
   refine ⟨?_, ?_, h3.one k4⟩
   ·show w.cell? ⟨G.loc id, off + i, none⟩ = _
    have : off + i < arr.size := by omega
    simp [World.cell?, g1, this]
   ·exact h5.dataP k3
  refine .data _ _ (.list rows .free (G.loc id) off cp sz (fun i j => arr.getD (off + (i * sz + j)) undef) hnc hcm (by simp) (.inl rfl) hr (fun i row q a h1 h2 => ?_) (fun i row q a h1 h2 => ?_) (fun i row q a h1 h2 => ?_))
  all_goals
   obtain ⟨c1, c2, c3⟩ := hcell _ _ (flat_get hr h1 h2)
  ·rw [Nat.add_assoc]; exact c1
  ·exact c2
  ·exact c3
theorem Reads.seq {H : Heap} {id m cp k sz : Nat} {rows : List (List AV)} (hm0 : (id, Res.seq rows k) ∈ H) (hR : RowsOk sz rows) (hm : rows.length = m) : Reads H (.arr id 0 m cp) (.list rows .free) :=
 .box (cells := seqC rows k) (fun G w hh hne => (hh.res _ hm0 (by have := List.length_pos_iff.2 hne; omega)).1) hR.len hm fun i a ha => ⟨a, by
  rw [Nat.zero_add]; unfold seqC
  rw [List.getElem?_append_left (List.getElem?_eq_some_iff.1 ha).1]; exact ha, .data (hR.pure a (List.mem_of_getElem? ha)), hR.pure a (List.mem_of_getElem? ha), List.all_eq_true.1 hR.one a (List.mem_of_getElem? ha)⟩
def AV.isV : AV → Bool
 | .v _ => true
 | _ => false
def AV.valB : AV → Bool
 | .v _ => true
 | .tuple l => l.all AV.isV
 | _ => false
def AOut.valB : AOut → Bool
 | .ret a => a.valB
 | .panic a => a.valB
theorem Sim.valV {G G' : Ghost} {a : AV} {x : Value} (h : Sim G a x) (hv : a.isV = true) : Sim G' a x := by
 cases h with
 | data _ _ h => cases h <;> first | exact .data _ _ (.v _) | (simp [AV.isV] at hv)
 | _ => simp [AV.isV] at hv
theorem Sim.val {G G' : Ghost} {a : AV} {x : Value} (h : Sim G a x) (hv : a.valB = true) : Sim G' a x := by
 cases h with
 | data _ _ h => cases h <;> first | exact .data _ _ (.v _) | (simp [AV.valB] at hv)
 | tuple l vs hl h =>
  exact .tuple l vs hl fun i a ha => (h i a ha).valV (List.all_eq_true.1 hv a (List.mem_of_getElem? ha))
 | _ => simp [AV.valB] at hv
theorem OSim.val {G G' : Ghost} {out : AOut} {e : Ending} (h : OSim G out e) (hv : out.valB = true) : OSim G' out e := by
 cases out with
 | ret a =>
  cases e with
  | returned v => exact Sim.val (G := G) h hv
  | _ => exact h.elim
 | panic a =>
  cases e with
  | panicked c => obtain ⟨v, h1, h2⟩ := h; exact ⟨v, h1, h2.val hv⟩
  | _ => exact h.elim
theorem ACalls.borrow {P : Program} {f : FuncId} {k top top0 : Nat} {args args' : List AV} {H : Heap} {R : AOut → Heap → Prop} (h : ACalls P f 0 top0 args' [] R) (hl : args.length = args'.length) (hR : ∀ out H', R out H' → out.valB = true)
  (hr : ∀ (i : Nat) (a' : AV), args'[i]? = some a' → ∃ a, args[i]? = some a ∧ Reads H a a') : ACalls P f k top args H (fun out H2 => (∃ H', R out H') ∧ H2 = H) := by
 intro G w vals h1 h2 h3 h4 h5 h6
 have key : ∀ (G' : Ghost) (w' : World) (out : AOut) (H' : Heap) (e : Ending), R out H' → OSim G' out e → Step (G.mem w) w [] G' w' H' →
   ∃ G2 out2 H2, ((∃ H', R out2 H') ∧ H2 = H) ∧ OSim G2 out2 e ∧ Holds G2 w' H2 ∧ Step G w H G2 w' H2 ∧ ∀ id, G2.live id → G.live id ∨ (k ≤ id ∧ id < top) := fun G' w' out H' e r1 r2 st => by
  have hfr : ∀ b, b < w.heap.size → w'.heap[b]? = w.heap[b]? := fun b hb => (st.frame b hb (by simp [blocksOf])).2 fun h => h
  refine ⟨G, out, H, ⟨⟨H', r1⟩, rfl⟩, r2.val (hR _ _ r1), ⟨fun b i v hx => ?_, fun r hm => ?_, h4.ids, h4.live, h4.blocks, fun b hb => absurd hb (h2 b)⟩, ⟨st.os, st.tape, st.output, st.size, rfl, fun _ _ _ h => h, fun b hb hn => ⟨.inl (hfr b hb), fun _ => hfr b hb⟩, fun _ _ _ h => .inl h, fun _ h => .inl h, fun _ h => ⟨h, rfl, .inl rfl⟩, fun _ h => .inl h, fun _ h => h, fun _ h => .inl h⟩, fun id h => .inl h⟩
  ·have hc := h4.X b i v hx
   have hb : b < w.heap.size := by
    rcases Nat.lt_or_ge b w.heap.size with h | h
    ·exact h
    ·have : w.heap[b]? = none := Array.getElem?_eq_none h
     simp [World.cell?, this] at hc
   exact (Alike.cell (w := w) (w' := w') (.inl (hfr b hb)) hc)
  ·exact (h4.res r hm).keep rfl rfl (fun _ _ h => h) fun b hb => ⟨hfr b ((h4.res r hm).lt hb), fun _ _ h => h⟩
 have h0 := h (G.mem w) w vals (fun _ h => h.elim) (fun _ h => h) rfl ⟨fun b i v hx => hx, fun r hm => (by cases hm), List.nodup_nil, fun r hm => (by cases hm), List.nodup_nil, fun b hb => False.elim hb⟩ (by omega) fun i a' ha => by
  obtain ⟨a, q1, q2⟩ := hr i a' ha
  exact q2 G w _ h4 (h6 i a q1)
 rcases h0 with ⟨k1, k2⟩ | ⟨v, w', k1, G', out, H', r1, r2, r3, st, r5⟩
 ·exact .inl ⟨k1, k2.mono fun e w' ⟨G', out, H', r1, r2, r3, st, r5⟩ => key G' w' out H' e r1 r2 st⟩
 ·exact .inr ⟨v, w', k1, key G' w' out H' _ r1 r2 st⟩
theorem ACalls.top0 {P : Program} {f : FuncId} {top : Nat} {args : List AV} {x : Value} (h : ACalls P f 0 top args [] (fun out H' => out = .ret (.v x) ∧ H' = [])) : ACalls P f 0 0 args [] (fun out H' => out = .ret (.v x) ∧ H' = []) :=
 h.ren (Nat.zero_le _) fun out H' hh => by
  obtain ⟨rfl, rfl⟩ := hh
  exact ⟨[], .ret (.v x), [], List.nodup_nil, (fun i h => by cases h), (fun i h => absurd h (Nat.not_lt_zero i)), Nat.le_refl _, (by simp [AOut.ren, AV.ren]), rfl, rfl, rfl⟩
theorem Conv.freezeA {id m cp k sz n : Nat} {rows : List (List AV)} (hR : RowsOk sz rows) (hm : rows.length = m) : Conv ⟨[.agg [.arr id 0 m cp]], [(id, .seq rows k)], n⟩ ⟨[.agg [.list rows .free]], [], n⟩ := fun B G a w hr => by
 have key : ∀ G1, Rel B No G1 ⟨[.agg [.arr id 0 m cp]], [], n⟩ a w → (∀ x, Sim G (.arr id 0 m cp) x → Sim G1 (.list rows .free) x) → ∃ G', Rel B No G' ⟨[.agg [.list rows .free]], [], n⟩ a w := fun G1 h1 h2 => by
  refine ⟨G1, ⟨h1.size, fun t ht => ?_, h1.defers, h1.holds, h1.step, h1.next, h1.base, h1.low, h1.old⟩⟩
  cases t with
  | zero =>
   have h3 : Sim G (.agg [.arr id 0 m cp]) (a.tmps.getD 0 undef) := (hr.slots 0 ht).down
   obtain ⟨vs, h4, h5, h6⟩ := h3.agg_inv
   show Slot G1 (.agg [.list rows .free]) (a.tmps.getD 0 undef)
   rw [h4]
   refine .of (.agg _ vs h5 fun i b hb => ?_)
   cases i with
   | zero =>
    simp only [List.getElem?_cons_zero, Option.some.injEq] at hb
    subst hb
    exact h2 _ (h6 0 _ rfl)
   | succ i => simp at hb
  | succ t => exact h1.slots (t + 1) ht
 by_cases hne : rows.length + k = 0
 ·have e1 : rows = [] := List.eq_nil_of_length_eq_zero (by omega)
  subst e1
  simp only [List.length_nil] at hm
  subst hm
  obtain ⟨G1, h1⟩ := (Conv.to (τ := ⟨[.agg [.arr id 0 0 cp]], [], n⟩) [(id, .seq [] k)] (.refl _) (.of_eq rfl) (Nat.le_refl _)) B G a w hr
  exact key G1 h1 fun x hx => by
   obtain ⟨base, rfl, _, _, hc, _⟩ := hx.arr_inv
   exact .data _ _ (.nil _ _ _ hc (by simp) (.inl rfl))
 ·have hh := hr.holds
  have hu := hh.unseq hne
  have h0 : Rel B No G ⟨[.agg [.arr id 0 m cp]], [(id, .box (seqC rows k))], n⟩ a w := ⟨hr.size, hr.slots, hr.defers, hu.1, hr.step.unseq hne, hr.next, hr.base, hr.low, hr.old⟩
  obtain ⟨G1, h1, h2, h3⟩ := seal_rel (off := 0) (cp := cp) h0 (.refl _) hR.len hm fun i a ha => ⟨a, by
   rw [Nat.zero_add]; unfold seqC
   rw [List.getElem?_append_left (List.getElem?_eq_some_iff.1 ha).1]; exact ha, AV.seal_pure (hR.pure a (List.mem_of_getElem? ha)), List.all_eq_true.1 hR.one a (List.mem_of_getElem? ha)⟩
  exact key G1 h1 h2
/-! a field of a struct that is a value -/
end Go.Am
namespace Go.Proofs.YtjepgbpcpcahgaaGreat
open Go.Am
set_option maxRecDepth 100000
theorem isNaN_s (s : ByteArray) : ACalls Tryz.prog 147 0 0 [.v (.string s)] [] (fun out H' => out = .ret (.v (.bool false)) ∧ H' = []) := by
 refine no_implicit_lambda% (acalls_of tok dok (f := 147) ⟨Tryz.func147, rfl, by kernel_rfl⟩ ?_); refine no_implicit_lambda% (c_start (fun _ h => h) ?_)
 repeat' (first | (refine no_implicit_lambda% (zH ?_)) | (((with_reducible refine no_implicit_lambda% (zA ?_)); refine no_implicit_lambda% (zD rfl rfl rfl (fun hc => ?_) (fun hc => ?_)) <;> first | exact zG hc | rw [hc])) | (((with_reducible refine no_implicit_lambda% (zB ?_)); refine no_implicit_lambda% (zE rfl (fun hc => ?_) (fun hc => ?_)) <;> first | exact zG hc | skip)) | (((with_reducible refine no_implicit_lambda% (zC ?_)); refine no_implicit_lambda% (zF rfl rfl (fun hc => ?_) (fun hc => ?_)) <;> first | exact zG hc | rw [hc])) | (refine no_implicit_lambda% (ans ?_)) | (with_reducible first | exact zI | exact zJ))
 refine no_implicit_lambda% (e_ret (H' := []) (rest := _) rfl ⟨congrArg (fun z => AOut.ret (.v (.bool z))) ?_, rfl⟩ (.refl _) (LE0 rfl))
 simp
def sLt (a b : ByteArray) : Bool := Op.bytesLess a.toList b.toList
def cmpS (a b : ByteArray) : Int := Lib.compareBytes a.toList b.toList
theorem sLt_eq (a b : ByteArray) : sLt a b = decide (cmpS a b = -1) := less_cb _ _
theorem compare_s (a b : ByteArray) : ACalls Tryz.prog 117 0 0 [.v (.string a), .v (.string b)] [] (fun out H' => out = .ret (.v (.int .i64 (cmpS a b))) ∧ H' = []) := by
 refine no_implicit_lambda% (acalls_of tok dok (f := 117) ⟨Tryz.func117, rfl, by kernel_rfl⟩ ?_); refine no_implicit_lambda% (c_start (fun _ h => h) ?_)
 repeat' (first | (refine no_implicit_lambda% (zH ?_)) | (((with_reducible refine no_implicit_lambda% (zA ?_)); refine no_implicit_lambda% (zD rfl rfl rfl (fun hc => ?_) (fun hc => ?_)) <;> first | exact zG hc | rw [hc])) | (((with_reducible refine no_implicit_lambda% (zB ?_)); refine no_implicit_lambda% (zE rfl (fun hc => ?_) (fun hc => ?_)) <;> first | exact zG hc | skip)) | (((with_reducible refine no_implicit_lambda% (zC ?_)); refine no_implicit_lambda% (zF rfl rfl (fun hc => ?_) (fun hc => ?_)) <;> first | exact zG hc | rw [hc])) | (refine no_implicit_lambda% (ans ?_)) | (with_reducible first | exact zI | exact zJ) | (refine no_implicit_lambda% (cal [] (isNaN_s _) ?_ ?_)) | fail)
 all_goals
  refine e_ret (H' := []) (rest := _) rfl ⟨congrArg (fun z => AOut.ret (.v (.int .i64 z))) ?_, rfl⟩ (.refl _) (LE0 rfl)
  simp only [less_cb, eq_cb] at *
  rcases cb_three a.toList b.toList with h | h | h
  all_goals first | (unfold cmpS; exact h.symm) | (exfalso; simp [h] at *; done)
structure Ve where
 t : Int
 v : Va
structure Co where
 n : ByteArray
 l : List Ve
def verow (x : Ve) : List AV := .v (.int .i64 x.t) :: vrowV x.v
def corow (c : Co) : List AV := [.v (.string c.n), .list (c.l.map verow) .free]
def rowA (r : List Co) : AV := .agg [.list (r.map corow) .free]
def nmB (s : ByteArray) : Bool := decide ((1 : Int) ≤ s.size ∧ (s.size : Int) ≤ 16)
theorem name_c (s : ByteArray) : ACalls Tryz.prog 41 0 0 [.v (.string s)] [] (fun out H' => out = .ret (.v (.bool (nmB s))) ∧ H' = []) := by
 refine no_implicit_lambda% (acalls_of tok dok (f := 41) ⟨Tryz.func41, rfl, by kernel_rfl⟩ ?_); refine no_implicit_lambda% (c_start (fun _ h => h) ?_)
 repeat' (first | (refine no_implicit_lambda% (zH ?_)) | (((with_reducible refine no_implicit_lambda% (zA ?_)); refine no_implicit_lambda% (zD rfl rfl rfl (fun hc => ?_) (fun hc => ?_)) <;> first | exact zG hc | rw [hc])) | (((with_reducible refine no_implicit_lambda% (zB ?_)); refine no_implicit_lambda% (zE rfl (fun hc => ?_) (fun hc => ?_)) <;> first | exact zG hc | skip)) | (((with_reducible refine no_implicit_lambda% (zC ?_)); refine no_implicit_lambda% (zF rfl rfl (fun hc => ?_) (fun hc => ?_)) <;> first | exact zG hc | rw [hc])) | (refine no_implicit_lambda% (ans ?_)) | (with_reducible first | exact zI | exact zJ))
 all_goals (refine no_implicit_lambda% (e_ret (H' := []) (rest := _) rfl ⟨congrArg (fun z => AOut.ret (.v (.bool z))) ?_, rfl⟩ (.refl _) (LE0 rfl)); unfold nmB; (refine no_implicit_lambda% (Bool.eq_iff_iff.2 ?_); simp only [decide_eq_true_eq, decide_eq_false_iff_not, Bool.false_eq_true, Bool.and_eq_true, Bool.or_eq_true, Bool.not_eq_true', beq_iff_eq, List.length_map, true_iff, false_iff, iff_false, iff_true] at *; omega))
theorem rname_c (s : ByteArray) : ACalls Tryz.prog 58 0 0 [.v (.string s)] [] (fun out H' => out = .ret (.v (.bool (nmB s))) ∧ H' = []) := by
 refine no_implicit_lambda% (acalls_of tok dok (f := 58) ⟨Tryz.func58, rfl, by kernel_rfl⟩ ?_); refine no_implicit_lambda% (c_start (fun _ h => h) ?_)
 repeat' (first | (refine no_implicit_lambda% (zH ?_)) | (((with_reducible refine no_implicit_lambda% (zA ?_)); refine no_implicit_lambda% (zD rfl rfl rfl (fun hc => ?_) (fun hc => ?_)) <;> first | exact zG hc | rw [hc])) | (((with_reducible refine no_implicit_lambda% (zB ?_)); refine no_implicit_lambda% (zE rfl (fun hc => ?_) (fun hc => ?_)) <;> first | exact zG hc | skip)) | (((with_reducible refine no_implicit_lambda% (zC ?_)); refine no_implicit_lambda% (zF rfl rfl (fun hc => ?_) (fun hc => ?_)) <;> first | exact zG hc | rw [hc])) | (refine no_implicit_lambda% (ans ?_)) | (with_reducible first | exact zI | exact zJ))
 all_goals (refine no_implicit_lambda% (e_ret (H' := []) (rest := _) rfl ⟨congrArg (fun z => AOut.ret (.v (.bool z))) ?_, rfl⟩ (.refl _) (LE0 rfl)); unfold nmB; (refine no_implicit_lambda% (Bool.eq_iff_iff.2 ?_); simp only [decide_eq_true_eq, decide_eq_false_iff_not, Bool.false_eq_true, Bool.and_eq_true, Bool.or_eq_true, Bool.not_eq_true', beq_iff_eq, List.length_map, true_iff, false_iff, iff_false, iff_true] at *; omega))
def vRt (v : Va) : Bool := v.kind == 1 && decide ((v.b.length : Int) ≤ 16) || v.kind == 2
def tmOk (t : Int) : Bool := decide (0 ≤ t ∧ t ≤ 1099511627776)
def ltT : Option Int → Int → Bool
 | none, _ => true
 | some q, t => decide (t < q)
def ltN : Option ByteArray → ByteArray → Bool
 | none, _ => true
 | some q, n => sLt q n
def versB : Option Int → List Ve → Bool
 | _, [] => true
 | p, x :: l => tmOk x.t && vRt x.v && ltT p x.t && versB (some x.t) l
def prevT (l : List Ve) (i : Nat) : Option Int := if i = 0 then none else l[i - 1]?.map (·.t)
def colB (c : Co) : Bool := nmB c.n && decide (1 ≤ c.l.length ∧ c.l.length ≤ 2) && versB none c.l
theorem vex {l : List Ve} {i : Nat} {t : Ve} (h : l[i]? = some t) : 0 ≤ (i : Int) ∧ (l.map verow)[(i : Int).toNat]? = some (verow t) ∧ (verow t).length = 4 := ⟨Int.natCast_nonneg _, by rw [Int.toNat_natCast, List.getElem?_map, h]; rfl, rfl⟩
theorem vexp {l : List Ve} {i : Nat} {t : Ve} (hi : 0 < i) (hb : i < 1000000) (h : l[i - 1]? = some t) : 0 ≤ IntKind.i64.wrap ((i : Int) - 1) ∧ (l.map verow)[(IntKind.i64.wrap ((i : Int) - 1)).toNat]? = some (verow t) ∧ (verow t).length = 4 := by
 have e : IntKind.i64.wrap ((i : Int) - 1) = ((i - 1 : Nat) : Int) := by rw [z64 (by omega) (by omega)]; omega
 rw [e]
 exact vex h
theorem vers_at {p : Option Int} {l : List Ve} {i : Nat} {x : Ve} (h : l[i]? = some x) : versB p (l.drop i) = (tmOk x.t && vRt x.v && ltT p x.t && versB (some x.t) (l.drop (i + 1))) := by
 have : l.drop i = x :: l.drop (i + 1) := by
  obtain ⟨hi, rfl⟩ := List.getElem?_eq_some_iff.1 h
  exact List.drop_eq_getElem_cons hi
 rw [this]; rfl
theorem prevT_succ {l : List Ve} {i : Nat} {x : Ve} (h : l[i]? = some x) : prevT l (i + 1) = some x.t := by
 unfold prevT
 rw [if_neg (by omega), Nat.add_sub_cancel, h]; rfl
def clSt (c : Co) (i : Nat) : ASt := ⟨([.dead, .ptr 0 0] ++ List.replicate 20 .dead ++ [.list (c.l.map verow) .free, .v (.int .i64 c.l.length), .v (.int .i64 i)] ++ List.replicate 35 .dead), [(0, .box (corow c))], 1⟩
set_option maxHeartbeats 3200000 in
theorem column_c (c : Co) : ACalls Tryz.prog 72 0 400 [.agg (corow c)] [] (fun out H' => out = .ret (.v (.bool (colB c))) ∧ H' = []) := by
 refine no_implicit_lambda% (acalls_of tok dok (f := 72) ⟨Tryz.func72, rfl, by kernel_rfl⟩ ?_); refine no_implicit_lambda% (c_start (fun _ h => h) ?_)
 repeat' (first | (refine no_implicit_lambda% (zH ?_)) | (((with_reducible refine no_implicit_lambda% (zA ?_)); refine no_implicit_lambda% (zD rfl rfl rfl (fun hc => ?_) (fun hc => ?_)) <;> first | exact zG hc | rw [hc])) | (((with_reducible refine no_implicit_lambda% (zB ?_)); refine no_implicit_lambda% (zE rfl (fun hc => ?_) (fun hc => ?_)) <;> first | exact zG hc | skip)) | (((with_reducible refine no_implicit_lambda% (zC ?_)); refine no_implicit_lambda% (zF rfl rfl (fun hc => ?_) (fun hc => ?_)) <;> first | exact zG hc | rw [hc])) | (refine no_implicit_lambda% (ans ?_)) | (with_reducible first | exact zI | exact zJ) | (refine no_implicit_lambda% (cal [] (name_c _) ?_ ?_)) | fail)
 ·refine no_implicit_lambda% (e_ret (H' := []) (rest := _) rfl ⟨congrArg (fun z => AOut.ret (.v (.bool z))) ?_, rfl⟩ (.refl _) (LE0 rfl))
  unfold colB
  simp at hc
  simp [hc]
 ·refine no_implicit_lambda% (e_ret (H' := []) (rest := _) rfl ⟨congrArg (fun z => AOut.ret (.v (.bool z))) ?_, rfl⟩ (.refl _) (LE0 rfl))
  unfold colB
  have : ¬ (1 ≤ c.l.length ∧ c.l.length ≤ 2) := by
   simp only [decide_eq_true_eq, List.length_map] at hc
   omega
  rw [decide_eq_false this]; simp
 ·refine no_implicit_lambda% (e_ret (H' := []) (rest := _) rfl ⟨congrArg (fun z => AOut.ret (.v (.bool z))) ?_, rfl⟩ (.refl _) (LE0 rfl))
  unfold colB
  have : ¬ (1 ≤ c.l.length ∧ c.l.length ≤ 2) := by
   simp only [decide_eq_true_eq, List.length_map] at hc
   omega
  rw [decide_eq_false this]; simp
 ·have hlen : 1 ≤ c.l.length ∧ c.l.length ≤ 2 := by
   simp only [decide_eq_false_iff_not, List.length_map] at *
   omega
  have hn : nmB c.n = true := by
   simp only [Bool.not_eq_false'] at *
   assumption
  have hcol : colB c = versB none c.l := by unfold colB; rw [hn, decide_eq_true hlen]; simp
  refine c_loop' (clSt c) (fun i => i ≤ c.l.length ∧ versB none c.l = versB (prevT c.l i) (c.l.drop i)) (fun i => c.l.length - i) (a := 0) ⟨Nat.zero_le _, rfl⟩ ?_ ?_
  ·(refine no_implicit_lambda% (Conv.toT ?_ ?_ (LE0 rfl))); (focus ((unfold clSt); (try dsimp only); exact wkl)); (focus ((unfold clSt); (try dsimp only); exact wkh))
  ·rintro i ⟨h1, hI⟩
   refine c_turn (n' := 1) (fun _ h => h) (fun _ h => h) rfl ?_
   rcases hx : c.l[i]? with _ | x
   ·have hi : i = c.l.length := by have := List.getElem?_eq_none_iff.1 hx; omega
    repeat' (first | (refine no_implicit_lambda% (zH ?_)) | (((with_reducible refine no_implicit_lambda% (zA ?_)); refine no_implicit_lambda% (zD rfl rfl rfl (fun hc => ?_) (fun hc => ?_)) <;> first | exact zG hc | rw [hc])) | (((with_reducible refine no_implicit_lambda% (zB ?_)); refine no_implicit_lambda% (zE rfl (fun hc => ?_) (fun hc => ?_)) <;> first | exact zG hc | skip)) | (((with_reducible refine no_implicit_lambda% (zC ?_)); refine no_implicit_lambda% (zF rfl rfl (fun hc => ?_) (fun hc => ?_)) <;> first | exact zG hc | rw [hc])) | (refine no_implicit_lambda% (ans ?_)) | (with_reducible first | exact zI | exact zJ))
    refine no_implicit_lambda% (e_ret (H' := []) (rest := _) rfl ⟨congrArg (fun z => AOut.ret (.v (.bool z))) ?_, rfl⟩ (.refl _) (LE0 rfl))
    rw [hcol, hI, hi, List.drop_length]; rfl
   ·have hi : i < c.l.length := (List.getElem?_eq_some_iff.1 hx).1
    have hix := vex hx
    have hps := prevT_succ hx
    rw [vers_at hx] at hI
    have hvr : ACalls Tryz.prog 62 0 10 [vav x.v] [] (fun out H' => out = .ret (.v (.bool (vRt x.v))) ∧ H' = []) := vright_c x.v
    have hpx : decide ((i : Int) > 0) = true → 0 ≤ IntKind.i64.wrap ((i : Int) - 1) ∧ (c.l.map verow)[(IntKind.i64.wrap ((i : Int) - 1)).toNat]? = some (verow (c.l[i - 1]?.getD x)) ∧ (verow (c.l[i - 1]?.getD x)).length = 4 := fun h => by
     have h0 := of_decide_eq_true h
     rw [List.getElem?_eq_getElem (by omega : i - 1 < c.l.length)]
     exact vexp (by omega) (by omega) (List.getElem?_eq_getElem (by omega))
    repeat' (first | (refine no_implicit_lambda% (zH ?_)) | (((with_reducible refine no_implicit_lambda% (zA ?_)); refine no_implicit_lambda% (zD rfl rfl rfl (fun hc => ?_) (fun hc => ?_)) <;> first | exact zG hc | rw [hc])) | (((with_reducible refine no_implicit_lambda% (zB ?_)); refine no_implicit_lambda% (zE rfl (fun hc => ?_) (fun hc => ?_)) <;> first | exact zG hc | skip)) | (((with_reducible refine no_implicit_lambda% (zC ?_)); refine no_implicit_lambda% (zF rfl rfl (fun hc => ?_) (fun hc => ?_)) <;> first | exact zG hc | rw [hc])) | (((with_reducible refine no_implicit_lambda% (is_ev ?_)); refine no_implicit_lambda% (v_split rfl rfl rfl rfl (fun hc => ?_) (fun hc => ?_)) <;> first | exact zG hc | rw [hc])) | (refine no_implicit_lambda% (ans ?_)) | (with_reducible first | exact zI | exact zJ) | (refine no_implicit_lambda% (cal [] (hvr) ?_ ?_)) | fail)
    ·refine no_implicit_lambda% (e_ret (H' := []) (rest := _) rfl ⟨congrArg (fun z => AOut.ret (.v (.bool z))) ?_, rfl⟩ (.refl _) (LE0 rfl))
     have : tmOk x.t = false := decide_eq_false (by have := of_decide_eq_true hc; omega)
     rw [hcol, hI, this]; simp
    ·refine no_implicit_lambda% (e_ret (H' := []) (rest := _) rfl ⟨congrArg (fun z => AOut.ret (.v (.bool z))) ?_, rfl⟩ (.refl _) (LE0 rfl))
     have : tmOk x.t = false := decide_eq_false (by have := of_decide_eq_true hc; omega)
     rw [hcol, hI, this]; simp
    ·refine no_implicit_lambda% (e_ret (H' := []) (rest := _) rfl ⟨congrArg (fun z => AOut.ret (.v (.bool z))) ?_, rfl⟩ (.refl _) (LE0 rfl))
     have : vRt x.v = false := by simpa using hc
     rw [hcol, hI, this]; simp
    ·refine no_implicit_lambda% (e_ret (H' := []) (rest := _) rfl ⟨congrArg (fun z => AOut.ret (.v (.bool z))) ?_, rfl⟩ (.refl _) (LE0 rfl))
     have h0 : 0 < i := by
      simp only [decide_eq_true_eq] at *
      omega
     have hy : c.l[i - 1]? = some (c.l[i - 1]?.getD x) := by rw [List.getElem?_eq_getElem (by omega : i - 1 < c.l.length)]; rfl
     have hpy : prevT c.l i = some (c.l[i - 1]?.getD x).t := by unfold prevT; rw [if_neg (by omega), hy]; rfl
     have : decide (x.t < (c.l[i - 1]?.getD x).t) = false := decide_eq_false (by have := of_decide_eq_true hc; omega)
     rw [hcol, hI, hpy]
     simp [this, ltT, ltN]
    ·have htm : tmOk x.t = true := decide_eq_true (by simp only [decide_eq_false_iff_not] at *; omega)
     have hvt : vRt x.v = true := by simp only [Bool.not_eq_false'] at *; assumption
     have h0 : 0 < i := by
      simp only [decide_eq_true_eq] at *
      omega
     have hy : c.l[i - 1]? = some (c.l[i - 1]?.getD x) := by rw [List.getElem?_eq_getElem (by omega : i - 1 < c.l.length)]; rfl
     have hpy : prevT c.l i = some (c.l[i - 1]?.getD x).t := by unfold prevT; rw [if_neg (by omega), hy]; rfl
     have hlt : decide (x.t < (c.l[i - 1]?.getD x).t) = true := decide_eq_true (by have := of_decide_eq_false hc; omega)
     (refine no_implicit_lambda% (k_loopLT (i + 1) 0 [0] (by show i + 1 ≤ c.l.length ∧ versB none c.l = versB (prevT c.l (i + 1)) (c.l.drop (i + 1)); exact ⟨hi, by rw [hps, hI, hpy]; simp [htm, hvt, hlt, ltT]⟩) (by first | omega | (simp; done) | (simp; omega)) (LE0 rfl) (fun _ h => h) (fun _ h => h) ?_ ?_)); (focus ((try dsimp only); exact wkl)); (focus ((try dsimp only); exact wkh))
    ·have htm : tmOk x.t = true := decide_eq_true (by simp only [decide_eq_false_iff_not] at *; omega)
     have hvt : vRt x.v = true := by simp only [Bool.not_eq_false'] at *; assumption
     have h0 : i = 0 := by
      have := of_decide_eq_false hc
      omega
     have hpy : prevT c.l i = none := by unfold prevT; rw [if_pos h0]
     (refine no_implicit_lambda% (k_loopLT (i + 1) 0 [0] (by show i + 1 ≤ c.l.length ∧ versB none c.l = versB (prevT c.l (i + 1)) (c.l.drop (i + 1)); exact ⟨hi, by rw [hps, hI, hpy]; simp [htm, hvt, ltT]⟩) (by first | omega | (simp; done) | (simp; omega)) (LE0 rfl) (fun _ h => h) (fun _ h => h) ?_ ?_)); (focus ((try dsimp only); exact wkl)); (focus ((try dsimp only); exact wkh))
def colsB : Option ByteArray → List Co → Bool
 | _, [] => true
 | p, c :: l => colB c && ltN p c.n && colsB (some c.n) l
def prevN (l : List Co) (i : Nat) : Option ByteArray := if i = 0 then none else l[i - 1]?.map (·.n)
def rowB (r : List Co) : Bool := colsB none r && decide (r.length ≤ 4)
theorem cox {l : List Co} {i : Nat} {t : Co} (h : l[i]? = some t) : 0 ≤ (i : Int) ∧ (l.map corow)[(i : Int).toNat]? = some (corow t) ∧ (corow t).length = 2 := ⟨Int.natCast_nonneg _, by rw [Int.toNat_natCast, List.getElem?_map, h]; rfl, rfl⟩
theorem coxp {l : List Co} {i : Nat} {t : Co} (hi : 0 < i) (hb : i < 70368744177664) (h : l[i - 1]? = some t) : 0 ≤ IntKind.i64.wrap ((i : Int) - 1) ∧ (l.map corow)[(IntKind.i64.wrap ((i : Int) - 1)).toNat]? = some (corow t) ∧ (corow t).length = 2 := by
 have e : IntKind.i64.wrap ((i : Int) - 1) = ((i - 1 : Nat) : Int) := by rw [z64 (by omega) (by omega)]; omega
 rw [e]
 exact cox h
theorem cols_at {p : Option ByteArray} {l : List Co} {i : Nat} {x : Co} (h : l[i]? = some x) : colsB p (l.drop i) = (colB x && ltN p x.n && colsB (some x.n) (l.drop (i + 1))) := by
 have : l.drop i = x :: l.drop (i + 1) := by
  obtain ⟨hi, rfl⟩ := List.getElem?_eq_some_iff.1 h
  exact List.drop_eq_getElem_cons hi
 rw [this]; rfl
theorem prevN_succ {l : List Co} {i : Nat} {x : Co} (h : l[i]? = some x) : prevN l (i + 1) = some x.n := by
 unfold prevN
 rw [if_neg (by omega), Nat.add_sub_cancel, h]; rfl
def rtSt (r : List Co) (i : Nat) : ASt := ⟨([.dead, .ptr 0 0, .dead, .dead, .dead, .dead, .list (r.map corow) .free, .v (.int .i64 r.length), .v (.int .i64 i)] ++ List.replicate 28 .dead), [(0, .box [.list (r.map corow) .free])], 1⟩
set_option maxHeartbeats 3200000 in
theorem right_c (r : List Co) (hr : r.length < 70368744177664) : ACalls Tryz.prog 26 0 600 [rowA r] [] (fun out H' => out = .ret (.v (.bool (rowB r))) ∧ H' = []) := by
 refine no_implicit_lambda% (acalls_of tok dok (f := 26) ⟨Tryz.func26, rfl, by kernel_rfl⟩ ?_); refine no_implicit_lambda% (c_start (fun _ h => h) ?_)
 repeat' (first | (refine no_implicit_lambda% (zH ?_)) | (((with_reducible refine no_implicit_lambda% (zA ?_)); refine no_implicit_lambda% (zD rfl rfl rfl (fun hc => ?_) (fun hc => ?_)) <;> first | exact zG hc | rw [hc])) | (((with_reducible refine no_implicit_lambda% (zB ?_)); refine no_implicit_lambda% (zE rfl (fun hc => ?_) (fun hc => ?_)) <;> first | exact zG hc | skip)) | (((with_reducible refine no_implicit_lambda% (zC ?_)); refine no_implicit_lambda% (zF rfl rfl (fun hc => ?_) (fun hc => ?_)) <;> first | exact zG hc | rw [hc])) | (refine no_implicit_lambda% (ans ?_)) | (with_reducible first | exact zI | exact zJ))
 refine c_loop' (rtSt r) (fun i => i ≤ r.length ∧ colsB none r = colsB (prevN r i) (r.drop i)) (fun i => r.length - i) (a := 0) ⟨Nat.zero_le _, rfl⟩ ?_ ?_
 ·(refine no_implicit_lambda% (Conv.toT ?_ ?_ (LE0 rfl))); (focus ((unfold rtSt); (try dsimp only); exact wkl)); (focus ((unfold rtSt); (try dsimp only); exact wkh))
 ·rintro i ⟨h1, hI⟩
  refine c_turn (n' := 1) (fun _ h => h) (fun _ h => h) rfl ?_
  rcases hx : r[i]? with _ | x
  ·have hi : i = r.length := by have := List.getElem?_eq_none_iff.1 hx; omega
   repeat' (first | (refine no_implicit_lambda% (zH ?_)) | (((with_reducible refine no_implicit_lambda% (zA ?_)); refine no_implicit_lambda% (zD rfl rfl rfl (fun hc => ?_) (fun hc => ?_)) <;> first | exact zG hc | rw [hc])) | (((with_reducible refine no_implicit_lambda% (zB ?_)); refine no_implicit_lambda% (zE rfl (fun hc => ?_) (fun hc => ?_)) <;> first | exact zG hc | skip)) | (((with_reducible refine no_implicit_lambda% (zC ?_)); refine no_implicit_lambda% (zF rfl rfl (fun hc => ?_) (fun hc => ?_)) <;> first | exact zG hc | rw [hc])) | (refine no_implicit_lambda% (ans ?_)) | (with_reducible first | exact zI | exact zJ))
   refine no_implicit_lambda% (e_ret (H' := []) (rest := _) rfl ⟨congrArg (fun z => AOut.ret (.v (.bool z))) ?_, rfl⟩ (.refl _) (LE0 rfl))
   rw [hi, List.drop_length] at hI
   unfold rowB
   rw [hI]
   show _ = (true && _)
   rw [Bool.true_and, List.length_map]
   exact decide_eq_decide.2 (by omega)
  ·have hi : i < r.length := (List.getElem?_eq_some_iff.1 hx).1
   have hix := cox hx
   have hps := prevN_succ hx
   rw [cols_at hx] at hI
   have hcl := column_c x
   have hpx : decide ((i : Int) > 0) = true → 0 ≤ IntKind.i64.wrap ((i : Int) - 1) ∧ (r.map corow)[(IntKind.i64.wrap ((i : Int) - 1)).toNat]? = some (corow (r[i - 1]?.getD x)) ∧ (corow (r[i - 1]?.getD x)).length = 2 := fun h => by
    have h0 := of_decide_eq_true h
    rw [List.getElem?_eq_getElem (by omega : i - 1 < r.length)]
    exact coxp (by omega) (by omega) (List.getElem?_eq_getElem (by omega))
   repeat' (first | (refine no_implicit_lambda% (zH ?_)) | (((with_reducible refine no_implicit_lambda% (zA ?_)); refine no_implicit_lambda% (zD rfl rfl rfl (fun hc => ?_) (fun hc => ?_)) <;> first | exact zG hc | rw [hc])) | (((with_reducible refine no_implicit_lambda% (zB ?_)); refine no_implicit_lambda% (zE rfl (fun hc => ?_) (fun hc => ?_)) <;> first | exact zG hc | skip)) | (((with_reducible refine no_implicit_lambda% (zC ?_)); refine no_implicit_lambda% (zF rfl rfl (fun hc => ?_) (fun hc => ?_)) <;> first | exact zG hc | rw [hc])) | (((with_reducible refine no_implicit_lambda% (is_ev ?_)); refine no_implicit_lambda% (v_split rfl rfl rfl rfl (fun hc => ?_) (fun hc => ?_)) <;> first | exact zG hc | rw [hc])) | (refine no_implicit_lambda% (ans ?_)) | (with_reducible first | exact zI | exact zJ) | (refine no_implicit_lambda% (cal [] (hcl) ?_ ?_)) | fail)
   ·refine no_implicit_lambda% (e_ret (H' := []) (rest := _) rfl ⟨congrArg (fun z => AOut.ret (.v (.bool z))) ?_, rfl⟩ (.refl _) (LE0 rfl))
    have : colB x = false := by simpa using hc
    unfold rowB
    rw [hI, this]; simp
   ·refine no_implicit_lambda% (e_ret (H' := []) (rest := _) rfl ⟨congrArg (fun z => AOut.ret (.v (.bool z))) ?_, rfl⟩ (.refl _) (LE0 rfl))
    have h0 : 0 < i := by
     simp only [decide_eq_true_eq] at *
     omega
    have hy : r[i - 1]? = some (r[i - 1]?.getD x) := by rw [List.getElem?_eq_getElem (by omega : i - 1 < r.length)]; rfl
    have hpy : prevN r i = some (r[i - 1]?.getD x).n := by unfold prevN; rw [if_neg (by omega), hy]; rfl
    have : sLt (r[i - 1]?.getD x).n x.n = false := by simpa [sLt] using hc
    unfold rowB
    rw [hI, hpy]
    simp [this, ltT, ltN]
   ·have hcx : colB x = true := by simp only [Bool.not_eq_false'] at *; assumption
    have h0 : 0 < i := by
     simp only [decide_eq_true_eq] at *
     omega
    have hy : r[i - 1]? = some (r[i - 1]?.getD x) := by rw [List.getElem?_eq_getElem (by omega : i - 1 < r.length)]; rfl
    have hpy : prevN r i = some (r[i - 1]?.getD x).n := by unfold prevN; rw [if_neg (by omega), hy]; rfl
    have hlt : sLt (r[i - 1]?.getD x).n x.n = true := by simpa [sLt] using hc
    (refine no_implicit_lambda% (k_loopLT (i + 1) 0 [0] (by show i + 1 ≤ r.length ∧ colsB none r = colsB (prevN r (i + 1)) (r.drop (i + 1)); exact ⟨hi, by rw [hps, hI, hpy]; simp [hcx, hlt, ltN]⟩) (by first | omega | (simp; done) | (simp; omega)) (LE0 rfl) (fun _ h => h) (fun _ h => h) ?_ ?_)); (focus ((try dsimp only); exact wkl)); (focus ((try dsimp only); exact wkh))
   ·have hcx : colB x = true := by simp only [Bool.not_eq_false'] at *; assumption
    have h0 : i = 0 := by
     have := of_decide_eq_false hc
     omega
    have hpy : prevN r i = none := by unfold prevN; rw [if_pos h0]
    (refine no_implicit_lambda% (k_loopLT (i + 1) 0 [0] (by show i + 1 ≤ r.length ∧ colsB none r = colsB (prevN r (i + 1)) (r.drop (i + 1)); exact ⟨hi, by rw [hps, hI, hpy]; simp [hcx, ltN]⟩) (by first | omega | (simp; done) | (simp; omega)) (LE0 rfl) (fun _ h => h) (fun _ h => h) ?_ ?_)); (focus ((try dsimp only); exact wkl)); (focus ((try dsimp only); exact wkh))
end Go.Proofs.YtjepgbpcpcahgaaGreat
namespace Go.Proofs.YtjepgbpcpcahgaaGreat
open Go.Am
set_option maxRecDepth 100000
def canE (x : Ve) : Ve := ⟨x.t, canV x.v⟩
def canC (c : Co) : Co := ⟨c.n, c.l.map canE⟩
def copyR (r : List Co) : List Co := if rowB r then r.map canC else []
def RowSz (r : List Co) : Prop := ∀ c ∈ r, ∀ x ∈ c.l, x.v.b.length < 1073741824 ∧ x.v.n < 18446744073709551616
theorem cols_mem : ∀ {l : List Co} {p : Option ByteArray} {x : Co}, colsB p l = true → x ∈ l → colB x = true
 | c :: l, p, x, h, hm => by
  unfold colsB at h
  simp only [Bool.and_eq_true] at h
  rcases List.mem_cons.1 hm with rfl | hm
  ·exact h.1.1
  ·exact cols_mem h.2 hm
theorem row_mem {r : List Co} (h : rowB r = true) {x : Co} (hx : x ∈ r) : colB x = true := by
 unfold rowB at h
 simp only [Bool.and_eq_true] at h
 exact cols_mem h.1 hx
theorem col_len {c : Co} (h : colB c = true) : 1 ≤ c.l.length ∧ c.l.length ≤ 2 := by
 unfold colB at h
 simp only [Bool.and_eq_true, decide_eq_true_eq] at h
 exact h.1.2
theorem coOk (l : List Co) : RowsOk 2 (l.map corow) := .map (f := corow) (fun _ => ⟨rfl, rfl, rfl⟩) l
theorem veOk (l : List Ve) : RowsOk 4 (l.map verow) := .map (f := verow) (fun _ => ⟨rfl, rfl, rfl⟩) l
def rcSt (r o : List Co) (cp i : Nat) : ASt := ⟨([.dead, .dead, .ptr 1 0, .ptr 2 0] ++ List.replicate 10 .dead ++ [.list (r.map corow) .free, .v (.int .i64 r.length), .v (.int .i64 i)] ++ List.replicate 33 .dead), [(1, .box [.list [] .full]), (2, .box [.arr 3 0 i cp]), (3, .seq (o.map corow) ((cp - i) * 2))], 4⟩
def rdSt (r o : List Co) (cp i : Nat) (c : Co) (vs : List Ve) (k : Nat) : ASt := ⟨([.dead, .dead, .ptr 1 0, .ptr 2 0, .dead, .dead, .ptr 5 0] ++ List.replicate 7 .dead ++ [.list (r.map corow) .free, .v (.int .i64 r.length), .v (.int .i64 i)] ++ List.replicate 7 .dead ++ [.list (c.l.map verow) .free, .v (.int .i64 c.l.length), .v (.int .i64 k)] ++ List.replicate 23 .dead), [(5, .box [.v (.string c.n), .list (vs.map verow) (.tok 6)]), (6, .tok 4 vs.length), (1, .box [.list [] .full]), (2, .box [.arr 3 0 i cp]), (3, .seq (o.map corow) ((cp - i) * 2))], 7⟩
set_option maxHeartbeats 3200000 in
theorem copy_s (r : List Co) (hr : r.length < 70368744177664) (hs : RowSz r) : ACalls Tryz.prog 28 0 5000 [rowA r] [] (fun out H' => ∃ id cp, id < 5000 ∧ (copyR r).length ≤ cp ∧ cp ≤ maxLen ∧ out = .ret (.agg [.arr id 0 (copyR r).length cp]) ∧ H' = [(id, .seq ((copyR r).map corow) ((cp - (copyR r).length) * 2))]) := by
 have hrt := (right_c r hr).top0
 refine no_implicit_lambda% (acalls_of tok dok (f := 28) ⟨Tryz.func28, rfl, by kernel_rfl⟩ ?_); refine no_implicit_lambda% (c_start (fun _ h => h) ?_)
 repeat' (first | (refine no_implicit_lambda% (zH ?_)) | (((with_reducible refine no_implicit_lambda% (zA ?_)); refine no_implicit_lambda% (zD rfl rfl rfl (fun hc => ?_) (fun hc => ?_)) <;> first | exact zG hc | rw [hc])) | (((with_reducible refine no_implicit_lambda% (zB ?_)); refine no_implicit_lambda% (zE rfl (fun hc => ?_) (fun hc => ?_)) <;> first | exact zG hc | skip)) | (((with_reducible refine no_implicit_lambda% (zC ?_)); refine no_implicit_lambda% (zF rfl rfl (fun hc => ?_) (fun hc => ?_)) <;> first | exact zG hc | rw [hc])) | (refine no_implicit_lambda% (ans ?_)) | (with_reducible first | exact zI | exact zJ) | (refine no_implicit_lambda% (cal [] (hrt) ?_ ?_)) | fail)
 ·have hf : rowB r = false := by simpa using hc
  have he : copyR r = [] := by unfold copyR; rw [hf]; rfl
  rw [he]
  exact e_ret_to (H' := [(3, .seq [] 0)]) (rest := _) (Conv.nilBox (id := 1) (j := 0) (cells := [.list [] .full]) rfl rfl) rfl ⟨3, 0, by omega, Nat.le_refl _, by decide, rfl, rfl⟩ permT (LE0 rfl)
 ·have ht : rowB r = true := by simpa using hc
  have he : copyR r = r.map canC := by unfold copyR; rw [ht]; rfl
  have h4 : r.length ≤ 4 := by
   unfold rowB at ht
   simp only [Bool.and_eq_true, decide_eq_true_eq] at ht
   exact ht.2
  rw [he]
  refine c_l3 (rcSt r) (fun o cp i => i ≤ r.length ∧ i ≤ cp ∧ cp ≤ maxLen ∧ o = (r.take i).map canC) (fun _ _ i => r.length - i) [] 0 0 ⟨Nat.zero_le _, Nat.le_refl _, by decide, rfl⟩ ((Conv.nilBox (id := 2) (j := 0) (cells := [.list [] .full]) rfl rfl).trans ?_) ?_
  ·(refine no_implicit_lambda% (Conv.toT ?_ ?_ (LE0 rfl))); (focus ((unfold rcSt); (try dsimp only); exact wkl)); (focus ((unfold rcSt); (try dsimp only); exact wkh))
  ·rintro o cp i ⟨h1, h2, h3, ho⟩
   have hol : o.length = i := by rw [ho, List.length_map, List.length_take]; omega
   refine c_turn (n' := 4) (fun _ h => h) (fun _ h => h) rfl ?_
   rcases hx : r[i]? with _ | x
   ·have hi : i = r.length := by have := List.getElem?_eq_none_iff.1 hx; omega
    subst hi
    rw [List.take_length] at ho
    subst ho
    repeat' (first | (refine no_implicit_lambda% (zH ?_)) | (((with_reducible refine no_implicit_lambda% (zA ?_)); refine no_implicit_lambda% (zD rfl rfl rfl (fun hc => ?_) (fun hc => ?_)) <;> first | exact zG hc | rw [hc])) | (((with_reducible refine no_implicit_lambda% (zB ?_)); refine no_implicit_lambda% (zE rfl (fun hc => ?_) (fun hc => ?_)) <;> first | exact zG hc | skip)) | (((with_reducible refine no_implicit_lambda% (zC ?_)); refine no_implicit_lambda% (zF rfl rfl (fun hc => ?_) (fun hc => ?_)) <;> first | exact zG hc | rw [hc])) | (refine no_implicit_lambda% (ans ?_)) | (with_reducible first | exact zI | exact zJ))
    have e : (r.map canC).length = r.length := List.length_map ..
    exact e_ret (H' := [(3, .seq ((r.map canC).map corow) ((cp - r.length) * 2))]) (rest := _) rfl ⟨3, cp, by omega, by omega, h3, (by rw [e]; rfl), by rw [e]⟩ permT (LE0 rfl)
   ·have hi : i < r.length := (List.getElem?_eq_some_iff.1 hx).1
    have hix := cox hx
    have hsx := hs x (List.mem_of_getElem? hx)
    have hts : r.take (i + 1) = r.take i ++ [x] := by rw [List.take_add_one, hx]; rfl
    have hxl := col_len (row_mem ht (List.mem_of_getElem? hx))
    repeat' (first | (refine no_implicit_lambda% (zH ?_)) | (((with_reducible refine no_implicit_lambda% (zA ?_)); refine no_implicit_lambda% (zD rfl rfl rfl (fun hc => ?_) (fun hc => ?_)) <;> first | exact zG hc | rw [hc])) | (((with_reducible refine no_implicit_lambda% (zB ?_)); refine no_implicit_lambda% (zE rfl (fun hc => ?_) (fun hc => ?_)) <;> first | exact zG hc | skip)) | (((with_reducible refine no_implicit_lambda% (zC ?_)); refine no_implicit_lambda% (zF rfl rfl (fun hc => ?_) (fun hc => ?_)) <;> first | exact zG hc | rw [hc])) | (refine no_implicit_lambda% (ans ?_)) | (with_reducible first | exact zI | exact zJ))
    refine c_loop2 (rdSt r o cp i x) (fun vs k => k ≤ x.l.length ∧ vs = (x.l.take k).map canE) (fun _ k => x.l.length - k) [] 0 ⟨Nat.zero_le _, rfl⟩ ((Conv.tokBox (id := 5) (j := 1) (sz := 4) (rows := []) rfl rfl (by simp)).trans ?_) ?_
    ·(refine no_implicit_lambda% (Conv.toT ?_ ?_ (LE0 rfl))); (focus ((unfold rdSt); (try dsimp only); exact wkl)); (focus ((unfold rdSt); (try dsimp only); exact wkh))
    ·rintro vs k ⟨k1, hv⟩
     have hvl : vs.length = k := by rw [hv, List.length_map, List.length_take]; omega
     refine c_turn (n' := 7) (fun _ h => h) (fun _ h => h) rfl ?_
     rcases hy : x.l[k]? with _ | y
     ·have hk : k = x.l.length := by have := List.getElem?_eq_none_iff.1 hy; omega
      subst hk
      rw [List.take_length] at hv
      repeat' (first | (refine no_implicit_lambda% (zH ?_)) | (((with_reducible refine no_implicit_lambda% (zA ?_)); refine no_implicit_lambda% (zD rfl rfl rfl (fun hc => ?_) (fun hc => ?_)) <;> first | exact zG hc | rw [hc])) | (((with_reducible refine no_implicit_lambda% (zB ?_)); refine no_implicit_lambda% (zE rfl (fun hc => ?_) (fun hc => ?_)) <;> first | exact zG hc | skip)) | (((with_reducible refine no_implicit_lambda% (zC ?_)); refine no_implicit_lambda% (zF rfl rfl (fun hc => ?_) (fun hc => ?_)) <;> first | exact zG hc | rw [hc])) | (refine no_implicit_lambda% (ans ?_)) | (with_reducible first | exact zI | exact zJ))
      subst hv
      ((with_reducible refine no_implicit_lambda% (zC ?_)); refine no_implicit_lambda% (a_appS (sz := 2) (B := 40) (m2 := i + 1) (rows3 := (o ++ [canC x]).map corow) rfl rfl rfl rfl rfl rfl rfl rfl rfl rfl rfl (fun _ h => h) rfl rfl (coOk o) (coOk [canC x]) (by first | rfl | (exact List.length_map ..) | (simp; done) | (simp; omega)) rfl (by first | omega | (simp; omega)) (by first | rfl | (simp; done) | (simp; omega)) (by first | rfl | (exact map_snoc _ _) | (rw [List.map_append]; rfl) | (simp; done)) ?_))
      intro cp' c1 c2
      refine no_implicit_lambda% (akc ?_)
      repeat' (first | (refine no_implicit_lambda% (zH ?_)) | (((with_reducible refine no_implicit_lambda% (zA ?_)); refine no_implicit_lambda% (zD rfl rfl rfl (fun hc => ?_) (fun hc => ?_)) <;> first | exact zG hc | rw [hc])) | (((with_reducible refine no_implicit_lambda% (zB ?_)); refine no_implicit_lambda% (zE rfl (fun hc => ?_) (fun hc => ?_)) <;> first | exact zG hc | skip)) | (((with_reducible refine no_implicit_lambda% (zC ?_)); refine no_implicit_lambda% (zF rfl rfl (fun hc => ?_) (fun hc => ?_)) <;> first | exact zG hc | rw [hc])) | (refine no_implicit_lambda% (ans ?_)) | (with_reducible first | exact zI | exact zJ))
      (refine no_implicit_lambda% (k_loopLT (((o ++ [canC x], cp', i + 1) : List Co × Nat × Nat)) 0 [0, 1, 2, 7] (by show i + 1 ≤ r.length ∧ i + 1 ≤ cp' ∧ cp' ≤ maxLen ∧ o ++ [canC x] = (r.take (i + 1)).map canC; exact ⟨hi, c1, c2, by rw [hts, List.map_append, ← ho]; rfl⟩) (by first | omega | (simp; done) | (simp; omega)) (LE0 rfl) (fun _ h => h) (fun _ h => h) ?_ ?_)); (focus ((try dsimp only); exact wkl)); (focus ((try dsimp only); exact wkh))
     ·have hk : k < x.l.length := (List.getElem?_eq_some_iff.1 hy).1
      have hiy := vex hy
      have hsy := (hsx y (List.mem_of_getElem? hy)).1
      have hcn := canonv_c y.v (by omega)
      have hty : x.l.take (k + 1) = x.l.take k ++ [y] := by rw [List.take_add_one, hy]; rfl
      repeat' (first | (refine no_implicit_lambda% (zH ?_)) | (((with_reducible refine no_implicit_lambda% (zA ?_)); refine no_implicit_lambda% (zD rfl rfl rfl (fun hc => ?_) (fun hc => ?_)) <;> first | exact zG hc | rw [hc])) | (((with_reducible refine no_implicit_lambda% (zB ?_)); refine no_implicit_lambda% (zE rfl (fun hc => ?_) (fun hc => ?_)) <;> first | exact zG hc | skip)) | (((with_reducible refine no_implicit_lambda% (zC ?_)); refine no_implicit_lambda% (zF rfl rfl (fun hc => ?_) (fun hc => ?_)) <;> first | exact zG hc | rw [hc])) | (((with_reducible refine no_implicit_lambda% (is_ev ?_)); refine no_implicit_lambda% (v_split rfl rfl rfl rfl (fun hc => ?_) (fun hc => ?_)) <;> first | exact zG hc | rw [hc])) | (refine no_implicit_lambda% (ans ?_)) | (with_reducible first | exact zI | exact zJ) | (refine no_implicit_lambda% (cal [] (hcn) ?_ ?_)) | fail)
      (refine no_implicit_lambda% (k_loopLT (((vs ++ [canE y], k + 1) : List Ve × Nat)) 0 (List.range 7) (by show k + 1 ≤ x.l.length ∧ vs ++ [canE y] = (x.l.take (k + 1)).map canE; exact ⟨hk, by rw [hty, List.map_append, ← hv]; rfl⟩) (by first | omega | (simp; done) | (simp; omega)) (LE0 rfl) (fun _ h => h) (fun _ h => h) ?_ ?_)); (focus ((try dsimp only); exact wkl)); (focus ((try dsimp only); exact wkh))
theorem copy_f (r : List Co) (hr : r.length < 70368744177664) (hs : RowSz r) : ACalls Tryz.prog 28 0 0 [rowA r] [] (fun out H' => out = .ret (rowA (copyR r)) ∧ H' = []) :=
 ((copy_s r hr hs).conv (M := 5000) (R2 := fun out H' => out = .ret (rowA (copyR r)) ∧ H' = []) (Nat.zero_le _) (Nat.le_refl _) (fun x H' hh => by
  obtain ⟨id, cp, _, h1, h2, h3, rfl⟩ := hh
  cases h3
  exact ⟨rowA (copyR r), [], 5000, Nat.le_refl _, (Conv.freezeA (coOk _) (by simp)).toN 0, (fun rows h => by cases h), rfl, rfl⟩) (fun x H' hh => by
  obtain ⟨_, _, _, _, _, h', _⟩ := hh
  cases h')).ren (Nat.zero_le _) fun out H' hh => by
   obtain ⟨rfl, rfl⟩ := hh
   exact ⟨[], .ret (rowA (copyR r)), [], List.nodup_nil, (fun i h => by cases h), (fun i h => absurd h (Nat.not_lt_zero i)), Nat.le_refl _, (by simp [rowA, AOut.ren, AV.ren, AV.renL, Own.ren]), rfl, rfl, rfl⟩
end Go.Proofs.YtjepgbpcpcahgaaGreat
namespace Go.Proofs.YtjepgbpcpcahgaaGreat
open Go.Am
set_option maxRecDepth 100000
theorem cmpZ_refl (a : Int) : cmpZ a a = 0 := by unfold cmpZ; repeat' split <;> omega
theorem cb_refl : ∀ a : List UInt8, Lib.compareBytes a a = 0
 | [] => rfl
 | x :: a => by
  unfold Lib.compareBytes
  rw [if_neg (by simp), if_neg (by simp)]; exact cb_refl a
theorem cb_anti : ∀ a b : List UInt8, Lib.compareBytes a b = 0 - Lib.compareBytes b a
 | [], [] => rfl
 | [], _ :: _ => rfl
 | _ :: _, [] => rfl
 | x :: a, y :: b => by
  unfold Lib.compareBytes
  have h := cb_anti a b
  simp only [UInt8.lt_iff_toNat_lt]
  repeat' split <;> omega
theorem cb_bd : ∀ a b : List UInt8, -1 ≤ Lib.compareBytes a b ∧ Lib.compareBytes a b ≤ 1
 | [], [] => by decide
 | [], _ :: _ => ⟨Int.le_refl (-1), (by decide : (-1 : Int) ≤ 1)⟩
 | _ :: _, [] => ⟨(by decide : (-1 : Int) ≤ 1), Int.le_refl 1⟩
 | x :: a, y :: b => by
  unfold Lib.compareBytes
  have h := cb_bd a b
  repeat' split <;> omega
theorem cb_tr : ∀ a b c : List UInt8, Lib.compareBytes a b ≤ 0 → Lib.compareBytes b c ≤ 0 → Lib.compareBytes a c ≤ 0
 | [], [], c, _, h => h
 | [], _ :: _, [], _, _ => Int.le_refl _
 | [], _ :: _, _ :: _, _, _ => by show (-1 : Int) ≤ 0; decide
 | _ :: _, [], _, h, _ => by exfalso; revert h; show ¬ (1 : Int) ≤ 0; decide
 | _ :: _, _ :: _, [], _, h => by exfalso; revert h; show ¬ (1 : Int) ≤ 0; decide
 | x :: a, y :: b, z :: c, h1, h2 => by
  unfold Lib.compareBytes at *
  have h := cb_tr a b c
  simp only [UInt8.lt_iff_toNat_lt] at *
  repeat' split
  all_goals (repeat' split at h1)
  all_goals (repeat' split at h2)
  all_goals first | omega | (exact h h1 h2) | skip
theorem ord0_refl (x : Va) : ordV0 x x = 0 := by
 unfold ordV0
 rw [if_neg (by omega)]
 split
 ·exact cb_refl _
 ·split
  ·exact cmpZ_refl _
  ·rfl
theorem canonB_idem (n : Nat) : canonB (canonB n) = canonB n := by
 unfold canonB
 have e : nanB 9221120237041090561 = true := by kernel_rfl
 cases h : nanB n
 ·simp [h]
 ·simp [e]
theorem canV_idem (v : Va) : canV (canV v) = canV v := by
 unfold canV
 split
 ·rfl
 ·split
  ·show (⟨2, [], canonB (canonB v.n)⟩ : Va) = _
   rw [canonB_idem]
  ·rfl
end Go.Proofs.YtjepgbpcpcahgaaGreat
namespace Go.Proofs.YtjepgbpcpcahgaaGreat
open Go.Am
set_option maxRecDepth 100000
theorem sLt_tr {a b c : ByteArray} (h1 : sLt a b = true) (h2 : sLt b c = true) : sLt a c = true := by
 rw [sLt_eq, decide_eq_true_eq] at *
 have h3 := cb_tr a.toList b.toList c.toList (by unfold cmpS at h1; omega) (by unfold cmpS at h2; omega)
 unfold cmpS at *
 rcases cb_three a.toList c.toList with h | h | h
 ·exact h
 ·
  have e : a.toList = c.toList := by
   have := eq_cb a.toList c.toList
   rw [decide_eq_true h] at this
   simpa using this
  rw [e] at h1
  have := cb_anti c.toList b.toList
  omega
 ·omega
def npos (l : List Co) (s : ByteArray) : Nat := l.countP fun c => sLt c.n s
def Nsort (l : List Co) : Prop := l.Pairwise fun a b => sLt a.n b.n = true
theorem npos_le (l : List Co) (s : ByteArray) : npos l s ≤ l.length := List.countP_le_length
theorem npos_lt {l : List Co} {s : ByteArray} (hs : Nsort l) {i : Nat} {x : Co} (hi : l[i]? = some x) : i < npos l s ↔ sLt x.n s = true := by
 unfold npos Nsort at *
 induction l generalizing i with
 | nil => cases hi
 | cons y l ih =>
  rw [List.pairwise_cons] at hs
  rw [List.countP_cons]
  have hz : sLt y.n s = false → l.countP (fun c => sLt c.n s) = 0 := fun hc => List.countP_eq_zero.2 fun z hz h => by
   have := sLt_tr (hs.1 z hz) h
   rw [this] at hc; cases hc
  cases i with
  | zero =>
   cases hi
   cases hc : sLt x.n s with
   | true => simp
   | false => simp [hz hc]
  | succ i =>
   rw [List.getElem?_cons_succ] at hi
   have := ih hs.2 hi
   cases hc : sLt y.n s with
   | true => simp [this]
   | false =>
    have h0 := hz hc
    have h1 : sLt x.n s = false := by
     cases h2 : sLt x.n s with
     | false => rfl
     | true => rw [h0] at this; exact absurd (this.2 h2) (by omega)
    simp [h0, h1]
theorem cols_sort : ∀ {l : List Co} {p : Option ByteArray}, colsB p l = true → Nsort l ∧ ∀ q, p = some q → ∀ c ∈ l, sLt q c.n = true
 | [], p, _ => ⟨List.Pairwise.nil, fun q _ c hc => by cases hc⟩
 | c :: l, p, h => by
  unfold colsB at h
  simp only [Bool.and_eq_true] at h
  obtain ⟨h1, h2⟩ := cols_sort h.2
  refine ⟨List.pairwise_cons.2 ⟨fun b hb => h2 c.n rfl b hb, h1⟩, fun q hq b hb => ?_⟩
  subst hq
  have h3 : sLt q c.n = true := h.1.2
  rcases List.mem_cons.1 hb with rfl | hb
  ·exact h3
  ·exact sLt_tr h3 (h2 c.n rfl b hb)
theorem row_sort {r : List Co} (h : rowB r = true) : Nsort r := by
 unfold rowB at h
 simp only [Bool.and_eq_true] at h
 exact (cols_sort h.1).1
theorem copy_sort (r : List Co) : Nsort (copyR r) := by
 unfold copyR
 split
 ·rename_i h
  have := row_sort h
  unfold Nsort at *
  rw [List.pairwise_map]
  exact this
 ·exact List.Pairwise.nil
theorem copy_len (r : List Co) : (copyR r).length ≤ 4 := by
 unfold copyR
 split
 ·rename_i h
  unfold rowB at h
  simp only [Bool.and_eq_true, decide_eq_true_eq] at h
  rw [List.length_map]; exact h.2
 ·simp
theorem copy_col {r : List Co} {c : Co} (h : c ∈ copyR r) : 1 ≤ c.l.length ∧ c.l.length ≤ 2 := by
 unfold copyR at h
 split at h
 ·rename_i hb
  obtain ⟨d, hd, rfl⟩ := List.mem_map.1 h
  have := col_len (row_mem hb hd)
  unfold canC
  simpa using this
 ·cases h
def hasN (l : List Co) (s : ByteArray) : Bool := match l[npos l s]? with
 | some c => cmpS c.n s == 0
 | none => false
def atL (l : List Ve) (t : Int) : Option Va := (l.find? fun x => decide (x.t ≤ t)).map (·.v)
def atR (r : List Co) (s : ByteArray) (t : Int) : Option Va := if hasN (copyR r) s then ((copyR r)[npos (copyR r) s]?).bind fun c => atL c.l t else none
def optA : Option Va → AV
 | some v => .tuple [vav v, .v (.bool true)]
 | none => .tuple [vav ⟨0, [], 0⟩, .v (.bool false)]
end Go.Proofs.YtjepgbpcpcahgaaGreat
namespace Go.Proofs.YtjepgbpcpcahgaaGreat
open Go.Am
set_option maxRecDepth 100000
theorem ordV_refl (v : Va) : ordV v v = 0 := ord0_refl _
def rfSt (r : List Co) (i : Nat) : ASt := ⟨([.dead, .dead, .ptr 0 0, .ptr 1 0, .dead, .v (.int .i64 i)] ++ List.replicate 101 .dead), [(0, .box [.list (r.map corow) .free]), (1, .box [.list (r.map corow) .free])], 2⟩
def rgSt (r : List Co) (i k : Nat) : ASt := ⟨([.dead, .dead, .ptr 0 0, .ptr 1 0, .dead, .v (.int .i64 i), .v (.int .i64 k)] ++ List.replicate 100 .dead), [(0, .box [.list (r.map corow) .free]), (1, .box [.list (r.map corow) .free])], 2⟩
theorem refsame_v (v : Va) (hn : v.n < 18446744073709551616) : ACalls Tryz.prog 27 0 0 [vav v, vav v] [] (fun out H' => out = .ret (.v (.bool true)) ∧ H' = []) := by
 have h := refSame_c v v hn hn
 rw [ordV_refl] at h
 exact h.top0
set_option maxHeartbeats 3200000 in
theorem refsame_r (r : List Co) (hr : r.length < 1000000) (hl : ∀ c ∈ r, c.l.length < 1000000) (hs : ∀ c ∈ r, ∀ x ∈ c.l, x.v.n < 18446744073709551616) : ACalls Tryz.prog 22 0 0 [rowA r, rowA r] [] (fun out H' => out = .ret (.v (.bool true)) ∧ H' = []) := by
 refine ACalls.top0 (top := 400) ?_
 refine no_implicit_lambda% (acalls_of tok dok (f := 22) ⟨Tryz.func22, rfl, by kernel_rfl⟩ ?_); refine no_implicit_lambda% (c_start (fun _ h => h) ?_)
 repeat' (first | (refine no_implicit_lambda% (zH ?_)) | (((with_reducible refine no_implicit_lambda% (zA ?_)); refine no_implicit_lambda% (zD rfl rfl rfl (fun hc => ?_) (fun hc => ?_)) <;> first | exact zG hc | rw [hc])) | (((with_reducible refine no_implicit_lambda% (zB ?_)); refine no_implicit_lambda% (zE rfl (fun hc => ?_) (fun hc => ?_)) <;> first | exact zG hc | skip)) | (((with_reducible refine no_implicit_lambda% (zC ?_)); refine no_implicit_lambda% (zF rfl rfl (fun hc => ?_) (fun hc => ?_)) <;> first | exact zG hc | rw [hc])) | (refine no_implicit_lambda% (ans ?_)) | (with_reducible first | exact zI | exact zJ))
 refine c_loop' (rfSt r) (fun i => i ≤ r.length) (fun i => r.length - i) (a := 0) (Nat.zero_le _) ?_ ?_
 ·(refine no_implicit_lambda% (Conv.toT ?_ ?_ (LE0 rfl))); (focus ((unfold rfSt); (try dsimp only); exact wkl)); (focus ((unfold rfSt); (try dsimp only); exact wkh))
 ·rintro i i1
  refine c_turn (n' := 2) (fun _ h => h) (fun _ h => h) rfl ?_
  rcases hx : r[i]? with _ | x
  ·have hi : i = r.length := by have := List.getElem?_eq_none_iff.1 hx; omega
   repeat' (first | (refine no_implicit_lambda% (zH ?_)) | (((with_reducible refine no_implicit_lambda% (zA ?_)); refine no_implicit_lambda% (zD rfl rfl rfl (fun hc => ?_) (fun hc => ?_)) <;> first | exact zG hc | rw [hc])) | (((with_reducible refine no_implicit_lambda% (zB ?_)); refine no_implicit_lambda% (zE rfl (fun hc => ?_) (fun hc => ?_)) <;> first | exact zG hc | skip)) | (((with_reducible refine no_implicit_lambda% (zC ?_)); refine no_implicit_lambda% (zF rfl rfl (fun hc => ?_) (fun hc => ?_)) <;> first | exact zG hc | rw [hc])) | (refine no_implicit_lambda% (ans ?_)) | (with_reducible first | exact zI | exact zJ))
   exact e_ret (H' := []) (rest := _) rfl ⟨rfl, rfl⟩ permT (LE0 rfl)
  ·have hi : i < r.length := (List.getElem?_eq_some_iff.1 hx).1
   have hix := cox hx
   have hlx := hl x (List.mem_of_getElem? hx)
   have hsx := hs x (List.mem_of_getElem? hx)
   repeat' (first | (refine no_implicit_lambda% (zH ?_)) | (((with_reducible refine no_implicit_lambda% (zA ?_)); refine no_implicit_lambda% (zD rfl rfl rfl (fun hc => ?_) (fun hc => ?_)) <;> first | exact zG hc | rw [hc])) | (((with_reducible refine no_implicit_lambda% (zB ?_)); refine no_implicit_lambda% (zE rfl (fun hc => ?_) (fun hc => ?_)) <;> first | exact zG hc | skip)) | (((with_reducible refine no_implicit_lambda% (zC ?_)); refine no_implicit_lambda% (zF rfl rfl (fun hc => ?_) (fun hc => ?_)) <;> first | exact zG hc | rw [hc])) | (((with_reducible refine no_implicit_lambda% (is_ev ?_)); refine no_implicit_lambda% (v_split rfl rfl rfl rfl (fun hc => ?_) (fun hc => ?_)) <;> first | exact zG hc | rw [hc])) | (refine no_implicit_lambda% (ans ?_)) | (with_reducible first | exact zI | exact zJ))
   ·exfalso; simp at hc
   refine c_loop' (rgSt r i) (fun k => k ≤ x.l.length) (fun k => x.l.length - k) (a := 0) (Nat.zero_le _) ?_ ?_
   ·(refine no_implicit_lambda% (Conv.toT ?_ ?_ (LE0 rfl))); (focus ((unfold rgSt); (try dsimp only); exact wkl)); (focus ((unfold rgSt); (try dsimp only); exact wkh))
   ·rintro k k1
    refine c_turn (n' := 2) (fun _ h => h) (fun _ h => h) rfl ?_
    rcases hy : x.l[k]? with _ | y
    ·have hk : k = x.l.length := by have := List.getElem?_eq_none_iff.1 hy; omega
     repeat' (first | (refine no_implicit_lambda% (zH ?_)) | (((with_reducible refine no_implicit_lambda% (zA ?_)); refine no_implicit_lambda% (zD rfl rfl rfl (fun hc => ?_) (fun hc => ?_)) <;> first | exact zG hc | rw [hc])) | (((with_reducible refine no_implicit_lambda% (zB ?_)); refine no_implicit_lambda% (zE rfl (fun hc => ?_) (fun hc => ?_)) <;> first | exact zG hc | skip)) | (((with_reducible refine no_implicit_lambda% (zC ?_)); refine no_implicit_lambda% (zF rfl rfl (fun hc => ?_) (fun hc => ?_)) <;> first | exact zG hc | rw [hc])) | (refine no_implicit_lambda% (ans ?_)) | (with_reducible first | exact zI | exact zJ))
     (refine no_implicit_lambda% (k_loopLT (i + 1) 0 [0, 1] (by show i + 1 ≤ r.length; exact hi) (by first | omega | (simp; done) | (simp; omega)) (LE0 rfl) (fun _ h => h) (fun _ h => h) ?_ ?_)); (focus ((try dsimp only); exact wkl)); (focus ((try dsimp only); exact wkh))
    ·have hk : k < x.l.length := (List.getElem?_eq_some_iff.1 hy).1
     have hiy := vex hy
     have he := refsame_v y.v (hsx y (List.mem_of_getElem? hy))
     repeat' (first | (refine no_implicit_lambda% (zH ?_)) | (((with_reducible refine no_implicit_lambda% (zA ?_)); refine no_implicit_lambda% (zD rfl rfl rfl (fun hc => ?_) (fun hc => ?_)) <;> first | exact zG hc | rw [hc])) | (((with_reducible refine no_implicit_lambda% (zB ?_)); refine no_implicit_lambda% (zE rfl (fun hc => ?_) (fun hc => ?_)) <;> first | exact zG hc | skip)) | (((with_reducible refine no_implicit_lambda% (zC ?_)); refine no_implicit_lambda% (zF rfl rfl (fun hc => ?_) (fun hc => ?_)) <;> first | exact zG hc | rw [hc])) | (((with_reducible refine no_implicit_lambda% (is_ev ?_)); refine no_implicit_lambda% (v_split rfl rfl rfl rfl (fun hc => ?_) (fun hc => ?_)) <;> first | exact zG hc | rw [hc])) | (refine no_implicit_lambda% (ans ?_)) | (with_reducible first | exact zI | exact zJ) | (refine no_implicit_lambda% (cal [] (he) ?_ ?_)) | fail)
     (refine no_implicit_lambda% (k_loopLT (k + 1) 0 [0, 1] (by show k + 1 ≤ x.l.length; exact hk) (by first | omega | (simp; done) | (simp; omega)) (LE0 rfl) (fun _ h => h) (fun _ h => h) ?_ ?_)); (focus ((try dsimp only); exact wkl)); (focus ((try dsimp only); exact wkh))
end Go.Proofs.YtjepgbpcpcahgaaGreat
