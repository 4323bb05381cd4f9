/- Part 8 of what the laws CmdTells rest on: OcB, AmDf, OcC, OcD, Vb, Rd, Vf. -/
import Derived.Test.YtncffhgoopdfgaaGreatP7
import Derived.Recover
import Derived.LaidEql
set_option linter.unusedSimpArgs false
set_option linter.unusedVariables false
namespace Go.Proofs.YtncffhgoopdfgaaGreat
open Go.Am
/-! the reader -/
def rd (l : List UInt8) : Heap := [(0, .box [.list (l.map brow) .free])]
abbrev gone : AOut := .panic (.iface 130 (.ptr 0 0))
theorem fail_c (l : List UInt8) : ACalls Tryz.prog 153 1 1 [.ptr 0 0] (rd l) (fun out H' => out = gone ∧ H' = rd l) := by
 refine no_implicit_lambda% (acalls_of tok dok (f := 153) ⟨Tryz.func153, rfl, by kernel_rfl⟩ ?_); refine no_implicit_lambda% (c_start (fun _ h => h) ?_)
 refine no_implicit_lambda% (awd ?_)
 exact e_pan (H' := rd l) (rest := []) ⟨rfl, rfl⟩ (.of_eq rfl) (LE0 rfl)
theorem take_c (l : List UInt8) (n : Nat) (h : l.length < 281474976710656) (hn46 : n < 70368744177664 := by omega) : ACalls Tryz.prog 174 1 2 [.ptr 0 0, .v (.int .i64 n)] (rd l) (fun out H' => (n ≤ l.length ∧ out = .ret (.list ((l.take n).map brow) .free) ∧ H' = rd (l.drop n)) ∨ (l.length < n ∧ out = gone ∧ H' = [])) := by
 refine no_implicit_lambda% (acalls_of tok dok (f := 174) ⟨Tryz.func174, rfl, by kernel_rfl⟩ ?_); refine no_implicit_lambda% (c_start (fun _ h => h) ?_)
 refine no_implicit_lambda% (awd ?_)
 ((with_reducible refine no_implicit_lambda% (zB ?_)); refine no_implicit_lambda% (zE rfl (fun hc => ?_) (fun hc => ?_)))
 ·refine no_implicit_lambda% (awd ?_)
  refine no_implicit_lambda% (cal [0] (fail_c l) ?_ ?_)
  ·first | (exact zI) | (exact zJ)
  ·intro x H' h
   obtain ⟨h1, h2⟩ := h
   cases h1; subst h2
   refine no_implicit_lambda% (awd ?_)
   simp only [List.length_map, gt_iff_lt, decide_eq_true_eq] at hc
   exact e_pan (H' := []) (rest := rd l) (.inr ⟨by omega, rfl, rfl⟩) (.of_eq rfl) (LE0 rfl)
 ·simp only [List.length_map, gt_iff_lt, decide_eq_false_iff_not] at hc
  have hn : n ≤ l.length := by omega
  refine no_implicit_lambda% (awd ?_)
  refine no_implicit_lambda% (aqs ?_ ?_)
  ·refine ⟨trivial, Int.natCast_nonneg n, Nat.zero_le _, ?_, brows l⟩
   simpa using hn
  refine k_as (.list ((l.take n).map brow) .free) (by simp [List.map_take, orFull, isFull, isNone]) ?_
  refine no_implicit_lambda% (awd ?_)
  refine no_implicit_lambda% (cal [] (clone_c _ (brows (l.take n)) (by simp; omega)) ?_ ?_)
  ·refine no_implicit_lambda% (ret1 ?_); first | (refine no_implicit_lambda% (akc ?_)) | (refine no_implicit_lambda% (aec ?_))
   refine no_implicit_lambda% (awd ?_)
   refine no_implicit_lambda% (aqs ?_ ?_)
   ·refine ⟨Int.natCast_nonneg n, trivial, ?_, Nat.le_refl _, brows l⟩
    simpa using hn
   refine k_as (.list ((l.drop n).map brow) .free) (by rw [Int.toNat_natCast, List.take_of_length_le (Nat.le_refl _), List.map_drop]) ?_
   refine no_implicit_lambda% (awd ?_)
   exact e_ret (H' := rd (l.drop n)) (rest := []) rfl (.inl ⟨hn, rfl, rfl⟩) (.of_eq rfl) (LE0 rfl)
  ·first | (exact zI) | (exact zJ)
def ubn : List UInt8 → Nat → Nat
 | [], a => a
 | c :: l, a => ubn l (a * 256 + c.toNat)
theorem u64_of {n : Nat} (h : n < 18446744073709551616) : IntKind.u64.wrap (n : Int) = n := by rw [IntKind.wrap_u64]; omega
theorem ofInt_nat {n : Nat} (h : n < 18446744073709551616) : (BitVec.ofInt IntKind.u64.bits (n : Int)).toNat = n := by
 show (BitVec.ofInt 64 (n : Int)).toNat = n
 rw [BitVec.toNat_ofInt]
 omega
theorem shift_in (a c : Nat) (ha : a * 256 + c < 18446744073709551616) (hc : c < 256) :
  IntKind.u64.wrap (BitVec.ofInt IntKind.u64.bits (IntKind.u64.wrap ((a : Int) * 2 ^ min (Int.toNat 8) IntKind.u64.bits)) ||| BitVec.ofInt IntKind.u64.bits (IntKind.u64.wrap (c : Int))).toNat = ((a * 256 + c : Nat) : Int) := by
 have k1 : a * 256 < 18446744073709551616 := Nat.lt_of_le_of_lt (Nat.le_add_right _ _) ha
 have k2 : c < 18446744073709551616 := Nat.lt_of_le_of_lt (Nat.le_add_left _ _) ha
 have k3 : c < 2 ^ 8 := hc
 have e1 : (a : Int) * 2 ^ min (Int.toNat 8) IntKind.u64.bits = ((a * 256 : Nat) : Int) := by
  have : min (Int.toNat 8) IntKind.u64.bits = 8 := rfl
  rw [this, Int.natCast_mul]
  have : (2 : Int) ^ 8 = ((256 : Nat) : Int) := by decide
  rw [this]
 rw [e1, u64_of k1, u64_of k2, BitVec.toNat_or, ofInt_nat k1, ofInt_nat k2]
 have e2 : a * 256 = a <<< 8 := by rw [Nat.shiftLeft_eq]
 rw [e2, ← Nat.shiftLeft_add_eq_or_of_lt k3, ← e2]
 exact u64_of ha
def numSt (l r : List UInt8) (n a i : Nat) : ASt :=
 ⟨[.ptr 0 0, .v (.int .i64 n), .dead, .dead, .v (.int .u64 0), .v (.int .u64 a), .dead, .dead, .dead, .dead, .list (l.map brow) .free, .v (.int .i64 l.length), .v (.int .i64 i), .dead, .dead, .dead, .dead, .dead, .dead, .dead, .dead, .dead, .dead], rd r, 2⟩
theorem number_c (l : List UInt8) (n : Nat) (hn : n ≤ 8) (h : l.length < 281474976710656) : ACalls Tryz.prog 173 1 2 [.ptr 0 0, .v (.int .i64 n)] (rd l) (fun out H' => (n ≤ l.length ∧ out = .ret (.v (.int .u64 (ubn (l.take n) 0))) ∧ H' = rd (l.drop n)) ∨ (l.length < n ∧ out = gone ∧ H' = [])) := by
 refine no_implicit_lambda% (acalls_of tok dok (f := 173) ⟨Tryz.func173, rfl, by kernel_rfl⟩ ?_); refine no_implicit_lambda% (c_start (fun _ h => h) ?_)
 refine no_implicit_lambda% (awd ?_)
 refine no_implicit_lambda% (cal [0] (take_c l n h) ?_ ?_)
 ·intro x H' h; rcases h with ⟨hg, h1, h2⟩ | ⟨hg, h1, h2⟩ <;> first | (cases h1; done) | (cases h1; subst h2)
  refine no_implicit_lambda% (akc ?_)
  refine no_implicit_lambda% (awd ?_)
  refine c_loop2 (numSt (l.take n) (l.drop n) n) (fun a i => i ≤ (l.take n).length ∧ a < 256 ^ i ∧ ubn ((l.take n).drop i) a = ubn (l.take n) 0) (fun _ i => (l.take n).length - i) 0 0 ⟨Nat.zero_le _, by decide, rfl⟩ (.to [] ?_ (.of_eq ?_) (LE0 rfl)) ?_
  ·unfold numSt
   (repeat' (first | (with_reducible exact .nil) | (refine no_implicit_lambda% (.cons ?_ ?_)) | (exact Wk.dead _) | (with_reducible exact Wk.refl _) | (exact WkL.nil))) <;> first | (exact Wk.eq rfl) | (exact Wk.free _ _) | (exact Wk.int (w64 (by omega) (by omega))) | (exact Wk.int (by simp)) | (exact Wk.int (by simp; omega)) | (exact Wk.eq (by simp))
  ·rfl
  ·rintro a i ⟨h1, h2, h3⟩
   refine no_implicit_lambda% (c_turn (fun _ h => h) (fun _ h => h) rfl ?_)
   refine no_implicit_lambda% (awd ?_)
   generalize hL : l.take n = q at *
   ((with_reducible refine no_implicit_lambda% (zB ?_)); refine no_implicit_lambda% (zE rfl (fun hc => ?_) (fun hc => ?_)))
   ·simp only [decide_eq_true_eq] at hc
    have hi : i < q.length := by omega
    have h8 : (q[i]).toNat < 256 := (q[i]).toNat_lt
    have hq : q.length ≤ n := by rw [← hL]; simp [Nat.min_le_left]
    have hb : a * 256 + (q[i]).toNat < 18446744073709551616 := by
     have h5 : 256 ^ i ≤ 256 ^ 7 := Nat.pow_le_pow_right (by decide) (by omega)
     have h6 : (256 : Nat) ^ 7 = 72057594037927936 := by decide
     omega
    refine no_implicit_lambda% (awd ?_)
    (with_reducible refine no_implicit_lambda% (zC ?_)); refine no_implicit_lambda% (a_qS rfl (qIx (row := [.v (.int .u8 (q[i]).toNat)]) (fun _ h => h)) ?_ ?_)
    ·exact ⟨Int.natCast_nonneg i, (by rw [Int.toNat_natCast, List.getElem?_map, List.getElem?_eq_getElem hi]; rfl), rfl⟩
    refine no_implicit_lambda% (awd ?_)
    refine k_loop (a * 256 + (q[i]).toNat, i + 1) ⟨hi, ?_, ?_⟩ (by show q.length - (i + 1) < q.length - i; omega) (.to [] ?_ (.of_eq rfl) (LE0 rfl))
    ·show a * 256 + (q[i]).toNat < 256 ^ (i + 1)
     rw [Nat.pow_succ]; omega
    ·show ubn (q.drop (i + 1)) (a * 256 + (q[i]).toNat) = ubn q 0
     rw [← h3, List.drop_eq_getElem_cons hi]; rfl
    ·unfold numSt
     repeat' (first | (with_reducible exact .nil) | (refine no_implicit_lambda% (.cons ?_ ?_)) | (exact Wk.dead _) | (with_reducible exact Wk.refl _) | (exact WkL.nil))
     ·exact .int (shift_in a _ hb h8)
     ·exact .int (w64 (by omega) (by omega))
   ·refine no_implicit_lambda% (awd ?_)
    simp only [decide_eq_false_iff_not] at hc
    have hi : i = q.length := by omega
    subst hi
    have h4 : a = ubn q 0 := by simpa [ubn] using h3
    exact e_ret (H' := rd (l.drop n)) (rest := []) rfl (.inl ⟨hg, by rw [h4]; rfl, rfl⟩) (.of_eq rfl) (LE0 rfl)
 ·intro x H' h; rcases h with ⟨hg, h1, h2⟩ | ⟨hg, h1, h2⟩ <;> first | (cases h1; done) | (cases h1; subst h2)
  refine no_implicit_lambda% (awd ?_)
  exact e_pan (H' := []) (rest := _) (.inr ⟨hg, rfl, rfl⟩) (.of_eq rfl) (LE0 rfl)
theorem ubn_lt : ∀ (l : List UInt8) (a : Nat), ubn l a < (a + 1) * 256 ^ l.length
 | [], a => by simp [ubn]
 | c :: l, a => by
  have h := ubn_lt l (a * 256 + c.toNat)
  have hc := c.toNat_lt
  rw [ubn, List.length_cons, Nat.pow_succ, Nat.mul_comm (256 ^ l.length) 256, ← Nat.mul_assoc]
  exact Nat.lt_of_lt_of_le h (Nat.mul_le_mul_right _ (by omega))
theorem ubn_take (l : List UInt8) (n : Nat) : ubn (l.take n) 0 < 256 ^ n := by
 have h := ubn_lt (l.take n) 0
 rw [Nat.zero_add, Nat.one_mul] at h
 exact Nat.lt_of_lt_of_le h (Nat.pow_le_pow_right (by decide) (by simp [Nat.min_le_left]))
theorem rByte_c (l : List UInt8) (h : l.length < 281474976710656) : ACalls Tryz.prog 130 1 2 [.ptr 0 0] (rd l) (fun out H' => (1 ≤ l.length ∧ out = .ret (.v (.int .u8 (ubn (l.take 1) 0))) ∧ H' = rd (l.drop 1)) ∨ (l.length < 1 ∧ out = gone ∧ H' = [])) := by
 refine no_implicit_lambda% (acalls_of tok dok (f := 130) ⟨Tryz.func130, rfl, by kernel_rfl⟩ ?_); refine no_implicit_lambda% (c_start (fun _ h => h) ?_)
 refine no_implicit_lambda% (awd ?_)
 refine no_implicit_lambda% (cal [0] (number_c l 1 (by decide) h) ?_ ?_)
 ·intro x H' h; rcases h with ⟨hg, h1, h2⟩ | ⟨hg, h1, h2⟩ <;> first | (cases h1; done) | (cases h1; subst h2)
  refine no_implicit_lambda% (akc ?_)
  refine no_implicit_lambda% (awd ?_)
  have hb := ubn_take l 1
  rw [show IntKind.u8.wrap (ubn (l.take 1) 0 : Int) = ubn (l.take 1) 0 by rw [IntKind.wrap_u8]; omega]
  exact e_ret (H' := rd (l.drop 1)) (rest := []) rfl (.inl ⟨hg, rfl, rfl⟩) (.of_eq rfl) (LE0 rfl)
 ·intro x H' h; rcases h with ⟨hg, h1, h2⟩ | ⟨hg, h1, h2⟩ <;> first | (cases h1; done) | (cases h1; subst h2)
  refine no_implicit_lambda% (awd ?_)
  exact e_pan (H' := []) (rest := _) (.inr ⟨hg, rfl, rfl⟩) (.of_eq rfl) (LE0 rfl)
theorem rNum_c (l : List UInt8) (h : l.length < 281474976710656) : ACalls Tryz.prog 131 1 2 [.ptr 0 0] (rd l) (fun out H' => (4 ≤ l.length ∧ out = .ret (.v (.int .u32 (ubn (l.take 4) 0))) ∧ H' = rd (l.drop 4)) ∨ (l.length < 4 ∧ out = gone ∧ H' = [])) := by
 refine no_implicit_lambda% (acalls_of tok dok (f := 131) ⟨Tryz.func131, rfl, by kernel_rfl⟩ ?_); refine no_implicit_lambda% (c_start (fun _ h => h) ?_)
 refine no_implicit_lambda% (awd ?_)
 refine no_implicit_lambda% (cal [0] (number_c l 4 (by decide) h) ?_ ?_)
 ·intro x H' h; rcases h with ⟨hg, h1, h2⟩ | ⟨hg, h1, h2⟩ <;> first | (cases h1; done) | (cases h1; subst h2)
  refine no_implicit_lambda% (akc ?_)
  refine no_implicit_lambda% (awd ?_)
  have hb := ubn_take l 4
  rw [show IntKind.u32.wrap (ubn (l.take 4) 0 : Int) = ubn (l.take 4) 0 by rw [IntKind.wrap_u32]; omega]
  exact e_ret (H' := rd (l.drop 4)) (rest := []) rfl (.inl ⟨hg, rfl, rfl⟩) (.of_eq rfl) (LE0 rfl)
 ·intro x H' h; rcases h with ⟨hg, h1, h2⟩ | ⟨hg, h1, h2⟩ <;> first | (cases h1; done) | (cases h1; subst h2)
  refine no_implicit_lambda% (awd ?_)
  exact e_pan (H' := []) (rest := _) (.inr ⟨hg, rfl, rfl⟩) (.of_eq rfl) (LE0 rfl)
theorem rLong_c (l : List UInt8) (h : l.length < 281474976710656) : ACalls Tryz.prog 151 1 2 [.ptr 0 0] (rd l) (fun out H' => (8 ≤ l.length ∧ out = .ret (.v (.int .u64 (ubn (l.take 8) 0))) ∧ H' = rd (l.drop 8)) ∨ (l.length < 8 ∧ out = gone ∧ H' = [])) := by
 refine no_implicit_lambda% (acalls_of tok dok (f := 151) ⟨Tryz.func151, rfl, by kernel_rfl⟩ ?_); refine no_implicit_lambda% (c_start (fun _ h => h) ?_)
 refine no_implicit_lambda% (awd ?_)
 refine no_implicit_lambda% (cal [0] (number_c l 8 (by decide) h) ?_ ?_)
 ·intro x H' h; rcases h with ⟨hg, h1, h2⟩ | ⟨hg, h1, h2⟩ <;> first | (cases h1; done) | (cases h1; subst h2)
  refine no_implicit_lambda% (akc ?_)
  refine no_implicit_lambda% (awd ?_)
  exact e_ret (H' := rd (l.drop 8)) (rest := []) rfl (.inl ⟨hg, rfl, rfl⟩) (.of_eq rfl) (LE0 rfl)
 ·intro x H' h; rcases h with ⟨hg, h1, h2⟩ | ⟨hg, h1, h2⟩ <;> first | (cases h1; done) | (cases h1; subst h2)
  refine no_implicit_lambda% (awd ?_)
  exact e_pan (H' := []) (rest := _) (.inr ⟨hg, rfl, rfl⟩) (.of_eq rfl) (LE0 rfl)
theorem canon2 (b : Nat) : canonB (canonB b) = canonB b := by
 have h : nanB 9221120237041090561 = true := by decide
 unfold canonB
 cases hb : nanB b <;> simp [hb, h]
def fOk (l : List UInt8) : Prop := 8 ≤ l.length ∧ canonB (ubn (l.take 8) 0) = ubn (l.take 8) 0
theorem rFloat_c (l : List UInt8) (h : l.length < 281474976710656) : ACalls Tryz.prog 183 1 2 [.ptr 0 0] (rd l) (fun out H' => (fOk l ∧ out = .ret (.v (.float .f64 (ubn (l.take 8) 0))) ∧ H' = rd (l.drop 8)) ∨ (¬ fOk l ∧ out = gone ∧ H' = [])) := by
 refine no_implicit_lambda% (acalls_of tok dok (f := 183) ⟨Tryz.func183, rfl, by kernel_rfl⟩ ?_); refine no_implicit_lambda% (c_start (fun _ h => h) ?_)
 refine no_implicit_lambda% (awd ?_)
 refine no_implicit_lambda% (cal [0] (rLong_c l h) ?_ ?_)
 ·intro x H' h; rcases h with ⟨hg, h1, h2⟩ | ⟨hg, h1, h2⟩ <;> first | (cases h1; done) | (cases h1; subst h2)
  refine no_implicit_lambda% (akc ?_)
  refine no_implicit_lambda% (awd ?_)
  refine no_implicit_lambda% (cal [] (from_c (ubn (l.take 8) 0)) ?_ ?_)
  ·refine no_implicit_lambda% (ret1 ?_); first | (refine no_implicit_lambda% (akc ?_)) | (refine no_implicit_lambda% (aec ?_))
   refine no_implicit_lambda% (awd ?_)
   refine no_implicit_lambda% (cal [] (bits_c _) ?_ ?_)
   ·refine no_implicit_lambda% (ret1 ?_); first | (refine no_implicit_lambda% (akc ?_)) | (refine no_implicit_lambda% (aec ?_))
    refine no_implicit_lambda% (awd ?_)
    ((with_reducible refine no_implicit_lambda% (zB ?_)); refine no_implicit_lambda% (zE rfl (fun hc => ?_) (fun hc => ?_)))
    ·rw [canon2] at hc; simp at hc
     refine no_implicit_lambda% (awd ?_)
     refine no_implicit_lambda% (cal [0] (fail_c (l.drop 8)) ?_ ?_)
     ·first | (exact zI) | (exact zJ)
     ·intro x H' h
      obtain ⟨h1, h2⟩ := h
      cases h1; subst h2
      refine no_implicit_lambda% (awd ?_)
      exact e_pan (H' := []) (rest := _) (.inr ⟨fun hf => hc (by first | exact hf.2 | rw [hf.2]), rfl, rfl⟩) (.of_eq rfl) (LE0 rfl)
    ·rw [canon2] at hc; simp at hc
     refine no_implicit_lambda% (awd ?_)
     have hf : canonB (ubn (l.take 8) 0) = ubn (l.take 8) 0 := Int.ofNat_inj.1 hc
     exact e_ret (H' := rd (l.drop 8)) (rest := []) rfl (.inl ⟨⟨hg, hf⟩, by rw [hf]; rfl, rfl⟩) (.of_eq rfl) (LE0 rfl)
   ·first | (exact zI) | (exact zJ)
  ·first | (exact zI) | (exact zJ)
 ·intro x H' h; rcases h with ⟨hg, h1, h2⟩ | ⟨hg, h1, h2⟩ <;> first | (cases h1; done) | (cases h1; subst h2)
  refine no_implicit_lambda% (awd ?_)
  exact e_pan (H' := []) (rest := _) (.inr ⟨fun hf => by have := hf.1; omega, rfl, rfl⟩) (.of_eq rfl) (LE0 rfl)
def tOk (l : List UInt8) (most : Int) : Prop := 4 ≤ l.length ∧ ubn (l.take 4) 0 ≤ 1048576 ∧ (0 ≤ most → (ubn (l.take 4) 0 : Int) ≤ most) ∧ ubn (l.take 4) 0 ≤ (l.drop 4).length
theorem rText_c (l : List UInt8) (most : Int) (h : l.length < 281474976710656) : ACalls Tryz.prog 132 1 3 [.ptr 0 0, .v (.int .i64 most)] (rd l) (fun out H' => (tOk l most ∧ out = .ret (.list (((l.drop 4).take (ubn (l.take 4) 0)).map brow) .free) ∧ H' = rd ((l.drop 4).drop (ubn (l.take 4) 0))) ∨ (¬ tOk l most ∧ out = gone ∧ H' = [])) := by
 refine no_implicit_lambda% (acalls_of tok dok (f := 132) ⟨Tryz.func132, rfl, by kernel_rfl⟩ ?_); refine no_implicit_lambda% (c_start (fun _ h => h) ?_)
 refine no_implicit_lambda% (awd ?_)
 refine no_implicit_lambda% (cal [0] (rNum_c l h) ?_ ?_)
 ·intro x H' h; rcases h with ⟨hg, h1, h2⟩ | ⟨hg, h1, h2⟩ <;> first | (cases h1; done) | (cases h1; subst h2)
  refine no_implicit_lambda% (akc ?_)
  refine no_implicit_lambda% (awd ?_)
  have hb := ubn_take l 4
  rw [show IntKind.i64.wrap (ubn (l.take 4) 0 : Int) = ubn (l.take 4) 0 by rw [w64] <;> omega]
  repeat' (first | (refine no_implicit_lambda% (zH ?_)) | (((with_reducible refine no_implicit_lambda% (zA ?_)); refine no_implicit_lambda% (zD rfl rfl rfl (fun hc => ?_) (fun hc => ?_)) <;> rw [hc])) | (((with_reducible refine no_implicit_lambda% (zB ?_)); refine no_implicit_lambda% (zE rfl (fun hc => ?_) (fun hc => ?_)))) | (((with_reducible refine no_implicit_lambda% (zC ?_)); refine no_implicit_lambda% (zF rfl rfl (fun hc => ?_) (fun hc => ?_)) <;> rw [hc])) | fail)
  ·have hno : ¬ tOk l most := fun hf => by obtain ⟨_, h2, _⟩ := hf; simp at *; omega
   refine no_implicit_lambda% (cal [0] (fail_c (l.drop 4)) ?_ ?_)
   ·first | (exact zI) | (exact zJ)
   ·intro x H' h
    obtain ⟨h1, h2⟩ := h
    cases h1; subst h2
    refine no_implicit_lambda% (awd ?_)
    exact e_pan (H' := []) (rest := _) (.inr ⟨hno, rfl, rfl⟩) (.of_eq rfl) (LE0 rfl)
  ·have hno : ¬ tOk l most := fun hf => by obtain ⟨_, _, h3, _⟩ := hf; simp at *; omega
   refine no_implicit_lambda% (cal [0] (fail_c (l.drop 4)) ?_ ?_)
   ·first | (exact zI) | (exact zJ)
   ·intro x H' h
    obtain ⟨h1, h2⟩ := h
    cases h1; subst h2
    refine no_implicit_lambda% (awd ?_)
    exact e_pan (H' := []) (rest := _) (.inr ⟨hno, rfl, rfl⟩) (.of_eq rfl) (LE0 rfl)
  ·have hk : 4 ≤ l.length ∧ ubn (l.take 4) 0 ≤ 1048576 ∧ (0 ≤ most → (ubn (l.take 4) 0 : Int) ≤ most) := by simp at *; omega
   refine no_implicit_lambda% (cal [0] (take_c (l.drop 4) (ubn (l.take 4) 0) (by simp; omega)) ?_ ?_)
   ·intro x H' h; rcases h with ⟨hg, h1, h2⟩ | ⟨hg, h1, h2⟩ <;> first | (cases h1; done) | (cases h1; subst h2)
    refine no_implicit_lambda% (akc ?_)
    refine no_implicit_lambda% (awd ?_)
    exact e_ret (H' := rd ((l.drop 4).drop (ubn (l.take 4) 0))) (rest := []) rfl (.inl ⟨⟨hk.1, hk.2.1, hk.2.2, hg⟩, rfl, rfl⟩) (.of_eq rfl) (LE0 rfl)
   ·intro x H' h; rcases h with ⟨hg, h1, h2⟩ | ⟨hg, h1, h2⟩ <;> first | (cases h1; done) | (cases h1; subst h2)
    refine no_implicit_lambda% (awd ?_)
    exact e_pan (H' := []) (rest := _) (.inr ⟨fun hf => by have := hf.2.2.2; omega, rfl, rfl⟩) (.of_eq rfl) (LE0 rfl)
  ·have hk : 4 ≤ l.length ∧ ubn (l.take 4) 0 ≤ 1048576 ∧ (0 ≤ most → (ubn (l.take 4) 0 : Int) ≤ most) := by simp at *; omega
   refine no_implicit_lambda% (cal [0] (take_c (l.drop 4) (ubn (l.take 4) 0) (by simp; omega)) ?_ ?_)
   ·intro x H' h; rcases h with ⟨hg, h1, h2⟩ | ⟨hg, h1, h2⟩ <;> first | (cases h1; done) | (cases h1; subst h2)
    refine no_implicit_lambda% (akc ?_)
    refine no_implicit_lambda% (awd ?_)
    exact e_ret (H' := rd ((l.drop 4).drop (ubn (l.take 4) 0))) (rest := []) rfl (.inl ⟨⟨hk.1, hk.2.1, hk.2.2, hg⟩, rfl, rfl⟩) (.of_eq rfl) (LE0 rfl)
   ·intro x H' h; rcases h with ⟨hg, h1, h2⟩ | ⟨hg, h1, h2⟩ <;> first | (cases h1; done) | (cases h1; subst h2)
    refine no_implicit_lambda% (awd ?_)
    exact e_pan (H' := []) (rest := _) (.inr ⟨fun hf => by have := hf.2.2.2; omega, rfl, rfl⟩) (.of_eq rfl) (LE0 rfl)
 ·intro x H' h; rcases h with ⟨hg, h1, h2⟩ | ⟨hg, h1, h2⟩ <;> first | (cases h1; done) | (cases h1; subst h2)
  refine no_implicit_lambda% (awd ?_)
  exact e_pan (H' := []) (rest := _) (.inr ⟨fun hf => by have := hf.1; omega, rfl, rfl⟩) (.of_eq rfl) (LE0 rfl)
theorem ubn_app : ∀ (l m : List UInt8) (a : Nat), ubn (l ++ m) a = ubn m (ubn l a)
 | [], m, a => rfl
 | c :: l, m, a => by simp [ubn, ubn_app l m]
theorem ubn_be (x : Nat) : ∀ n a, ubn (be x n) a = a * 256 ^ n + x % 256 ^ n
 | 0, a => by simp [ubn, be, Nat.mod_one]
 | n + 1, a => by
  rw [be, ubn, ubn_be x n, UInt8.toNat_ofNat', Nat.shiftRight_eq_div_pow]
  have e : 2 ^ (8 * n) = 256 ^ n := by rw [Nat.pow_mul]
  have e8 : (2 : Nat) ^ 8 = 256 := by decide
  rw [e, e8, Nat.pow_succ, Nat.mul_comm (256 ^ n) 256, Nat.add_mul, Nat.mul_assoc, Nat.add_assoc]
  congr 1
  rw [Nat.mul_comm 256 (256 ^ n), Nat.mod_mul, Nat.mul_comm (x / 256 ^ n % 256)]
  omega
theorem take_be (x n : Nat) (r : List UInt8) : (be x n ++ r).take n = be x n := by
 rw [List.take_append_of_le_length (by rw [be_len]; exact Nat.le_refl _), List.take_of_length_le (by rw [be_len]; exact Nat.le_refl _)]
theorem drop_be (x n : Nat) (r : List UInt8) : (be x n ++ r).drop n = r := by
 rw [List.drop_append_of_le_length (by rw [be_len]; exact Nat.le_refl _), List.drop_of_length_le (by rw [be_len]; exact Nat.le_refl _)]; rfl
theorem back_be (x n : Nat) (r : List UInt8) (h : x < 256 ^ n) : ubn ((be x n ++ r).take n) 0 = x := by
 rw [take_be, ubn_be, Nat.mod_eq_of_lt h, Nat.zero_mul, Nat.zero_add]
theorem cut_c (b : List UInt8) (n : Nat) (hn : n < 1000) : ACalls Tryz.prog 10 0 0 [.list (b.map brow) .free, .v (.int .i64 n)] [] (fun out H' => out = .ret (.list ((b.take n).map brow) .free) ∧ H' = []) := by
 refine no_implicit_lambda% (acalls_of tok dok (f := 10) ⟨Tryz.func10, rfl, by kernel_rfl⟩ ?_); refine no_implicit_lambda% (c_start (fun _ h => h) ?_)
 refine no_implicit_lambda% (awd ?_)
 ((with_reducible refine no_implicit_lambda% (zB ?_)); refine no_implicit_lambda% (zE rfl (fun hc => ?_) (fun hc => ?_)))
 ·simp only [List.length_map, gt_iff_lt, decide_eq_true_eq] at hc
  refine no_implicit_lambda% (awd ?_)
  refine no_implicit_lambda% (aqs ?_ ?_)
  ·refine ⟨trivial, Int.natCast_nonneg n, Nat.zero_le _, ?_, brows b⟩
   simp; omega
  refine k_as (.list ((b.take n).map brow) .free) (by simp [List.map_take, orFull, isFull, isNone]) ?_
  refine no_implicit_lambda% (awd ?_)
  exact e_ret (H' := []) rfl ⟨rfl, rfl⟩ (.refl _) (LE0 rfl)
 ·simp only [List.length_map, gt_iff_lt, decide_eq_false_iff_not] at hc
  refine no_implicit_lambda% (awd ?_)
  exact e_ret (H' := []) rfl ⟨by rw [List.take_of_length_le (by omega)]; rfl, rfl⟩ (.refl _) (LE0 rfl)
end Go.Proofs.YtncffhgoopdfgaaGreat
namespace Go.Am
open Go.RowKit
section
variable {P : Program} {TT : Types} {B : Base}
theorem rel_start {G : Ghost} {w : World} {vals : Array Value} {H : Heap} {k m : Nat} {args : List AV} (hk : ∀ id, G.live id → id < k) (hbase : G.base = w.heap.size) (hh : Holds G w H) (hlen : args.length = vals.size) (hsim : ∀ i a, args[i]? = some a → Sim G a (vals.getD i undef)) :
  Rel ⟨G, w, H, k, []⟩ No G ⟨args ++ List.replicate (m - args.length) .dead, H, k⟩ { tmps := vals ++ Array.replicate (m - vals.size) undef, defers := [] } w := by
 refine ⟨by simp [hlen], fun t _ => ?_, rfl, hh, Step.refl _ _ _, hk, by rw [hbase]; exact Nat.le_refl _, Nat.le_refl _, fun id hid => .inl hid⟩
 rw [getA_eq]
 by_cases ht : t < args.length
 ·have e1 : (args ++ List.replicate (m - args.length) AV.dead).getD t .dead = args[t] := by simp [List.getElem?_append, ht]
  have e2 : (vals ++ Array.replicate (m - vals.size) undef).getD t undef = vals.getD t undef := by
   have : t < vals.size := by omega
   rw [Array.getD_eq_getD_getElem?, Array.getElem?_append_left this, Array.getD_eq_getD_getElem?]
  rw [e1, e2]
  exact .of (hsim t _ (List.getElem?_eq_getElem ht))
 ·have e1 : (args ++ List.replicate (m - args.length) AV.dead).getD t .dead = .dead := by
   rw [List.getD, List.getElem?_append_right (by omega), List.getElem?_replicate]
   split <;> rfl
  rw [e1]
  exact .of (.data _ _ (.dead _))
theorem Rel.anew {G : Ghost} {σ : ASt} {a : Act} {w : World} (h : Rel B No G σ a w) : Rel ⟨G, w, σ.L, σ.next, B.D⟩ No G σ a w :=
 ⟨h.size, h.slots, h.defers, h.holds, Step.refl _ _ _, h.next, h.base, Nat.le_refl _, fun id hid => .inl hid⟩
theorem Rel.join {G2 G3 : Ghost} {σ τ : ASt} {a a3 : Act} {w w3 : World} {D : List Deferred} (h : Rel B No G2 σ a w) (h2 : Rel ⟨G2, w, σ.L, σ.next, D⟩ No G3 τ a3 w3) : Rel ⟨B.G, B.w, B.H, B.k, D⟩ No G3 τ a3 w3 :=
 ⟨h2.size, h2.slots, h2.defers, h2.holds, h.step.trans h2.step, h2.next, h2.base, Nat.le_trans h.low h2.low, fun id hid => (h2.old id hid).elim (h.old id) fun k => .inr (Nat.le_trans h.low k)⟩
theorem Rel.perm {G : Ghost} {s : List AV} {L L' : Heap} {n : Nat} {a : Act} {w : World} (hr : Rel B No G ⟨s, L, n⟩ a w) (hp : L.Perm L') : Rel B No G ⟨s, L', n⟩ a w :=
 ⟨hr.size, hr.slots, hr.defers, hr.holds.perm hp, hr.step.perm (.refl _) hp, hr.next, hr.base, hr.low, hr.old⟩
def keepH (m : Nat) (H : Heap) : Prop := ∀ f : Nat → Nat, (∀ i, i < m → f i = i) → renH f H = H
def keepL (m : Nat) (l : List AV) : Prop := ∀ f : Nat → Nat, (∀ i, i < m → f i = i) → AV.renL f l = l
def idsTo (m j : Nat) : List Nat := List.range m ++ [j]
theorem idsTo_lt {m j n i : Nat} (h : i < m) : rn (idsTo m j) n i = i := by
 unfold rn idsTo
 rw [List.getElem?_append_left (by simpa using h)]
 simp [h]
theorem idsTo_at {m j n : Nat} : rn (idsTo m j) n m = j := by
 unfold rn idsTo
 rw [List.getElem?_append_right (by simp)]
 simp
theorem idsTo_nodup {m j : Nat} (h : m ≤ j) : (idsTo m j).Nodup := by
 unfold idsTo
 rw [List.nodup_append]
 refine ⟨List.nodup_range, by simp, fun a ha b hb => ?_⟩
 simp at ha hb
 omega
def thenK (B : Base) (next : Act → World → Prop) : Kc := fun e s L n => e = .normal ∧ ∀ G' a' w', Rel B No G' ⟨s, L, n⟩ a' w' → next a' w'
theorem wp_then (hT : TOk P TT) {d : Nat → List Oper → List AV → Heap → Nat → Kc → Prop} (hD : DOk P d) {c : Code} {s : List AV} {L : Heap} {n : Nat} {G : Ghost} {a : Act} {w : World} {next : Act → World → Prop} {Q : Exit → Act → World → Prop}
  (hr : Rel B No G ⟨s, L, n⟩ a w) (h : acode P TT ⟨d, fun _ => False⟩ c s L n (thenK B next)) : c.wp P (Exit.then next Q) a w :=
 wp_mono (acode_sound0 hT hD c s L n _ G a w h hr) fun e a' w' ⟨e', s', L', n', G', k1, k2, k3⟩ => by
  obtain ⟨rfl, k1⟩ := k1
  cases e <;> first | exact k2.elim | exact k1 G' a' w' k3
theorem defer_run {o : Oper} {c : Call} {x : Operand} {f : FuncId} {vs : Array Value} {ρ : Operand → Value} {w : World} (ho : o.op = .defer c) (hc : c.callee = .value x) (ha : c.args = #[]) (hx : ρ x = .func (.func f) #[] vs) :
  (execOp ρ o).run P w = .ok (.defer ⟨.fn (.func f) vs, #[]⟩) w := by
 simp only [execOp, ho, resolve, hc, hx, ha, Deferred.ofValue]
 simp [Sem.run_bind, Sem.run_pure, Result.andThen]
theorem wpL_at (hT : TOk P TT) {ops : Array Oper} {rest : List Oper} {o : Oper} {s : List AV} {L : Heap} {n : Nat} {G : Ghost} {a : Act} {w : World} {Q : Exit → Act → World → Prop} (hr : Rel B No G ⟨s, L, n⟩ a w) (hg : o.guard = none)
  (h : aop P TT o s L n (fun x L' n' => putD s o.dst x fun s' => ∀ G' a' w', Rel B No G' ⟨s', L', n'⟩ a' w' → wpList P ops Q rest a' w') (fun _ _ _ => False)) : wpList P ops Q (o :: rest) a w := by
 unfold wpList
 rw [if_pos (by simp [Region.wanted, hg])]
 refine .inl (aop_sound hT hr (fun _ _ h => h) h ⟨fun x L' n' v G' w' k1 k2 k3 k4 => ?_, fun _ _ _ _ _ _ k => k.elim⟩)
 simp only [putD_eq] at k1
 exact k1 G' _ w' ((k4.put o.dst k2).weakU fun t ht => ht.1)
theorem wpL_defer {ops : Array Oper} {rest : List Oper} {o : Oper} {c : Call} {x : Operand} {f : FuncId} {cap : List AV} {s : List AV} {L : Heap} {n : Nat} {G : Ghost} {a : Act} {w : World} {Q : Exit → Act → World → Prop} (hr : Rel B No G ⟨s, L, n⟩ a w) (hg : o.guard = none) (hd : o.dst = none)
  (ho : o.op = .defer c) (hc : c.callee = .value x) (ha : c.args = #[]) (hx : ev s x = .fn f cap)
  (hn : ∀ vs a', cap.length = vs.size → (∀ i b, cap[i]? = some b → Sim G b (vs.getD i undef)) → Rel ⟨B.G, B.w, B.H, B.k, ⟨.fn (.func f) vs, #[]⟩ :: B.D⟩ No G ⟨s, L, n⟩ a' w → wpList P ops Q rest a' w) : wpList P ops Q (o :: rest) a w := by
 unfold wpList
 rw [if_pos (by simp [Region.wanted, hg])]
 have h1 := (hr.op (x := x) (fun _ _ h => h)).1
 rw [hx] at h1
 obtain ⟨vs, h2, h3, h4⟩ := h1.fn_inv
 refine .inl ?_
 unfold Oper.wp
 rw [defer_run ho hc ha h2, Oper.upon_defer, hd]
 exact hn vs _ h3 h4 ⟨hr.size, hr.slots, by rw [← hr.defers]; rfl, hr.holds, hr.step, hr.next, hr.base, hr.low, hr.old⟩
end
end Go.Am
namespace Go.Proofs.YtncffhgoopdfgaaGreat
open Go.Am
set_option maxRecDepth 100000
theorem dRel {G : Ghost} {w : World} {L : Heap} {n ic io : Nat} {vs : Array Value} {B : Base} {s : List AV} {a0 : Act} (hr : Rel B No G ⟨s, L, n⟩ a0 w) (hvs : 2 = vs.size) (h0 : Sim G (.ptr ic 0) (vs.getD 0 undef)) (h1 : Sim G (.ptr io 0) (vs.getD 1 undef)) {x : AV} (v : Value) (hx : Sim G x v) :
  Rel ⟨G, w, L, n, []⟩ No G ⟨[.ptr ic 0, .ptr io 0, x, x, .dead, .dead, .dead, .dead, .dead, .dead, .dead, .dead], L, n⟩ { tmps := ((vs ++ Array.replicate (12 - vs.size) undef).setIfInBounds 3 v).setIfInBounds 2 (if 3 < vs.size + (12 - vs.size) then v else undef), defers := [] } w := by
 have hex : ∃ x0 x1, vs = #[x0, x1] := by
  obtain ⟨l⟩ := vs
  match l, hvs with
  | [x0, x1], _ => exact ⟨x0, x1, rfl⟩
 obtain ⟨x0, x1, rfl⟩ := hex
 have e : ((#[x0, x1] ++ Array.replicate (12 - (#[x0, x1] : Array Value).size) undef).setIfInBounds 3 v).setIfInBounds 2 (if 3 < (#[x0, x1] : Array Value).size + (12 - (#[x0, x1] : Array Value).size) then v else undef) = #[x0, x1, v, v, undef, undef, undef, undef, undef, undef, undef, undef] := by
  generalize undef = u
  rfl
 rw [e]
 refine ⟨rfl, fun t _ => ?_, rfl, hr.holds, Step.refl _ _ _, hr.next, hr.base, Nat.le_refl _, fun id h => .inl h⟩
 match t with
 | 0 => exact .of h0
 | 1 => exact .of h1
 | 2 => exact .of hx
 | 3 => exact .of hx
 | 4 | 5 | 6 | 7 | 8 | 9 | 10 | 11 => exact .of (.data _ _ (.dead _))
 | t + 12 => exact .of (.data _ _ (.dead _))
def restK (L1 : Heap) (n1 : Nat) : Kc := fun e s L n => e = .normal ∧ L = L1 ∧ n = n1
theorem readD {G : Ghost} {w : World} {L : Heap} {n m ic io : Nat} {vs : Array Value} {b : Bool} (B : Base) (s : List AV) (a0 : Act) (hr0 : Rel B No G ⟨s, L, n⟩ a0 w) (hvs : 2 = vs.size) (h0 : Sim G (.ptr ic 0) (vs.getD 0 undef)) (h1 : Sim G (.ptr io 0) (vs.getD 1 undef))
  (hc : findL L ic = some (.box [.ptr m 0])) (ho : findL L io = some (.box [.v (.bool b)])) :
  CallsD Tryz.prog 150 vs .returning w fun e u' w' => (∃ v, e = .returned v) ∧ u' = .returning ∧ ∃ G', Rel B No G' ⟨s, L, n⟩ a0 w' := by
 refine callsD_of_wpS Tryz.func150 rfl fun c₀ cs hu => ?_
 refine wpS_seq ?_
 refine wpS_region ?_
 refine (show wpOpsS Tryz.prog _ _ [0, 1] _ _ _ from ?_)
 have hrec : recoverD (c₀ :: cs) = none := by unfold recoverD; simp only [hu]
 simp [wpOpsS, Region.wanted, execOp, resolve, go_sem, hrec]
 refine wpS_of_wp ?_
 have hB2 : Rel ⟨G, w, L, n, []⟩ No G ⟨[.ptr ic 0, .ptr io 0, .v .nilIface, .v .nilIface, .dead, .dead, .dead, .dead, .dead, .dead, .dead, .dead], L, n⟩ _ w := dRel hr0 hvs h0 h1 .nilIface (.data _ _ (.v _))
 refine wp_mono (acode_sound0 tok dok _ _ _ _ (restK L n) _ _ _ ?_ hB2) ?_
 ·refine no_implicit_lambda% (awd ?_)
  (with_reducible refine zC ?_)
  refine a_q1 rfl (qFall true (fun _ h => h) (fun w => by rfl)) ?_
  refine no_implicit_lambda% (awd ?_)
  exact ⟨rfl, rfl, rfl⟩
 ·rintro e a' w' ⟨e', s', L', n', G', ⟨rfl, rfl, rfl⟩, k2, k3⟩
  cases e <;> first | exact k2.elim | skip
  refine ⟨k3.defers, .returning, by rw [← hu], .tuple #[], (by simp [results, Tryz.results150, go_sem]), ⟨_, rfl⟩, rfl, G', ?_⟩
  exact hr0.stepped k3.holds k3.step (Nat.le_refl _) fun id hid => ⟨k3.next id hid, (k3.old id hid).imp_right fun h => h⟩
theorem readDp {G : Ghost} {w : World} {L : Heap} {n m ic io : Nat} {vs : Array Value} {b : Bool} {v : Value} (B : Base) (s : List AV) (a0 : Act) (hr0 : Rel B No G ⟨s, L, n⟩ a0 w) (hvs : 2 = vs.size) (h0 : Sim G (.ptr ic 0) (vs.getD 0 undef)) (h1 : Sim G (.ptr io 0) (vs.getD 1 undef))
  (hv : Sim G (.iface 130 (.ptr m 0)) v) (hc : findL L ic = some (.box [.ptr m 0])) (ho : findL L io = some (.box [.v (.bool b)])) :
  CallsD Tryz.prog 150 vs (.panicking [{ v := v, recovered := false }]) w fun e u' w' => (∃ v, e = .returned v) ∧ settle u' = .returning ∧ ∃ G', Rel B No G' ⟨s, setL L io (.box [.v (.bool false)]), n⟩ a0 w' := by
 refine callsD_of_wpS Tryz.func150 rfl fun c₀ cs hu => ?_
 refine wpS_seq ?_
 refine wpS_region ?_
 refine (show wpOpsS Tryz.prog _ _ [0, 1] _ _ _ from ?_)
 have hrec : recoverD (c₀ :: cs) = some (v, { c₀ with mode := .panicking [{ v := v, recovered := true }] } :: cs) := by unfold recoverD; simp only [hu]
 simp [wpOpsS, Region.wanted, execOp, resolve, go_sem, hrec]
 refine wpS_of_wp ?_
 have hB2 : Rel ⟨G, w, L, n, []⟩ No G ⟨[.ptr ic 0, .ptr io 0, .iface 130 (.ptr m 0), .iface 130 (.ptr m 0), .dead, .dead, .dead, .dead, .dead, .dead, .dead, .dead], L, n⟩ _ w := dRel hr0 hvs h0 h1 v hv
 refine wp_mono (acode_sound0 tok dok _ _ _ _ (restK (setL L io (.box [.v (.bool false)])) n) _ _ _ ?_ hB2) ?_
 ·refine no_implicit_lambda% (awd ?_)
  (with_reducible refine zC ?_)
  refine a_q1 rfl (qIfN false (fun _ h => h) (fun u w => by rfl)) ?_
  refine no_implicit_lambda% (awd ?_)
  (with_reducible refine zC ?_)
  refine a_loadAt rfl rfl rfl hc rfl rfl ?_
  refine no_implicit_lambda% (awd ?_)
  (with_reducible refine zC ?_)
  refine a_q1 rfl (qIfP true (fun _ h => h) (fun u w => run_eql_iface_ptr_same (P := Tryz.prog) w ⟨u, 0, none⟩ rfl rfl rfl rfl rfl)) ?_
  refine no_implicit_lambda% (awd ?_)
  (with_reducible refine zC ?_)
  refine a_storeAt rfl rfl rfl ho rfl rfl rfl ?_
  refine no_implicit_lambda% (awd ?_)
  exact ⟨rfl, rfl, rfl⟩
 ·rintro e a' w' ⟨e', s', L', n', G', ⟨rfl, rfl, rfl⟩, k2, k3⟩
  cases e <;> first | exact k2.elim | skip
  refine ⟨k3.defers, _, rfl, .tuple #[], (by simp [results, Tryz.results150, go_sem]), ⟨_, rfl⟩, rfl, G', ?_⟩
  exact hr0.stepped k3.holds k3.step (Nat.le_refl _) fun id hid => ⟨k3.next id hid, (k3.old id hid).imp_right fun h => h⟩
theorem findL_here {i : Nat} {r : Res} {H : Heap} : findL ((i, r) :: H) i = some r := if_pos rfl
theorem findL_skip {i j : Nat} {r : Res} {H : Heap} (h : j ≠ i) : findL ((j, r) :: H) i = findL H i := if_neg h
abbrev rpan (m : Nat) : AOut := .panic (.iface 130 (.ptr m 0))
abbrev cbR (m : Nat) (Rok : List UInt8 → Heap → Prop) (Rbad : Heap → Prop) : AOut → Heap → Prop := fun out H' => (∃ (x : AV) (l' : List UInt8) (H1' : Heap), Rok l' H1' ∧ out = .ret x ∧ H' = (m, .box [.list (l'.map brow) .free]) :: H1') ∨ ∃ H1', Rbad H1' ∧ out = rpan m ∧ H' = H1'
def afterK (m nn : Nat) (Rok : List UInt8 → Heap → Prop) (Rbad : Heap → Prop) : Kc := fun e s L n =>
 n = nn ∧ s.getD 4 .dead = .ptr m 0 ∧ ((∃ l' H1', Rok l' H1' ∧ e = .ret ∧ L = (m, .box [.v (.bool (decide ((((l'.map brow).length : Nat) : Int) = 0)))]) :: (m + 2, .box [.ptr (m + 1) 0]) :: (m + 1, .box [.list (l'.map brow) .free]) :: H1') ∨
  (∃ H1', Rbad H1' ∧ e = .panic (.iface 130 (.ptr (m + 1) 0)) ∧ L = H1' ++ [(m, .box [.v (.bool false)]), (m + 2, .box [.ptr (m + 1) 0])]))
def RokG (m : Nat) (Rok : List UInt8 → Heap → Prop) (l' : List UInt8) (H' : Heap) : Prop := ∃ H1', Rok l' H1' ∧ H' = renH (rn (idsTo m (m + 1)) (m + 1 + 1 + 1)) H1'
def RbadG (m : Nat) (Rbad : Heap → Prop) (H' : Heap) : Prop := ∃ H1', Rbad H1' ∧ H' = renH (rn (idsTo m (m + 1)) (m + 1 + 1 + 1)) H1'
theorem read_g {cb : FuncId} {m top : Nat} {cap : List AV} {H1 : Heap} {l : List UInt8} {Rok : List UInt8 → Heap → Prop} {Rbad : Heap → Prop} (htop : m + 1 ≤ top)
  (hcb : ACalls Tryz.prog cb (m + 1) top (.ptr m 0 :: cap) ((m, .box [.list (l.map brow) .free]) :: H1) (cbR m Rok Rbad))
  (hcap : keepL m cap) (hH1 : keepH m H1) :
  ACalls Tryz.prog 78 m (top + 2) [.list (l.map brow) .free, .fn cb cap] H1 fun out H' => (∃ l', RokG m Rok l' H' ∧ out = .ret (.v (.bool (decide ((((l'.map brow).length : Nat) : Int) = 0))))) ∨ (RbadG m Rbad H' ∧ out = .ret (.v (.bool false))) := by
 intro G w vals hk hlits hbase hh hlen hsim
 left
 refine ⟨by rfl, ?_⟩
 refine calls_of_wp_defers Tryz.func78 rfl ?_
 have hr : Rel ⟨G, w, H1, m, []⟩ No G ⟨[.list (l.map brow) .free, .fn cb cap, .dead, .dead, .dead, .dead, .dead, .dead, .dead, .dead, .dead, .dead, .dead, .dead, .dead, .dead, .dead, .dead, .dead, .dead, .dead, .dead, .dead, .dead], H1, m⟩ _ w := rel_start (m := 24) hk hbase hh hlen hsim
 refine wp_seq (wp_then tok dok hr ?_)
 refine no_implicit_lambda% (awd ?_)
 refine ⟨rfl, fun G1 a1 w1 hr1 => ?_⟩
 refine wp_seq (wp_then tok dok hr1 ?_)
 refine no_implicit_lambda% (awd ?_)
 (with_reducible refine zC ?_)
 refine a_move (av := .fn cb cap) rfl rfl ?_
 refine no_implicit_lambda% (awd ?_)
 refine ⟨rfl, fun G2 a2 w2 hr2 => ?_⟩
 refine wp_seq (wp_then tok dok hr2 ?_)
 refine no_implicit_lambda% (awd ?_)
 (with_reducible refine zC ?_)
 refine a_storeAt rfl rfl rfl findL_here rfl rfl (cells' := [.ptr (m + 1) 0]) rfl ?_
 simp only [setL, if_true]
 refine no_implicit_lambda% (awd ?_)
 refine ⟨rfl, fun G3 a3 w3 hr3 => ?_⟩
 refine wp_seq (wp_region_list ?_)
 refine wpL_at tok hr3 rfl (a_q1 (av := .fn 150 [.ptr (m + 1 + 1) 0, .ptr m 0]) rfl (fun _ h => h) ?_)
 intro G4 a4 w4 hr4
 refine wpL_defer hr4 rfl rfl rfl rfl rfl rfl ?_
 intro vs a5 hvs hcs hr5
 show Code.wp _ _ _ a5 w4
 refine wp_mono (acode_sound0 tok dok _ _ _ _ (afterK m (top + 2) (RokG m Rok) (RbadG m Rbad)) _ _ _ ?_ hr5.anew) ?_
 ·refine no_implicit_lambda% (awd ?_)
  (with_reducible refine zC ?_)
  refine a_move (av := .fn cb cap) rfl rfl ?_
  refine no_implicit_lambda% (awd ?_)
  (with_reducible refine zC ?_)
  refine a_loadAt rfl rfl rfl findL_here rfl rfl ?_
  refine no_implicit_lambda% (awd ?_)
  (with_reducible refine zC ?_)
  refine a_callS rfl rfl rfl rfl (args := .ptr (m + 1) 0 :: cap) rfl ?_
  refine by_contract (idsTo m (m + 1)) hcb (by simp [idsTo]; exact ⟨fun i hi => by omega, htop⟩) (idsTo_nodup (by omega)) (.of_eq ?_) (rest := [(m, .box [.v (.bool false)]), (m + 1 + 1, .box [.ptr (m + 1) 0])]) ?_ ?_ ?_
  ·simp only [AV.renL, AV.ren, idsTo_at]
   rw [hcap _ fun i hi => idsTo_lt hi]
  ·simp only [renH, Res.ren, AV.renL, AV.ren, idsTo_at]
   rw [hH1 _ fun i hi => idsTo_lt hi]
   refine (List.Perm.swap _ _ _).trans (.cons _ ?_)
   have e : ∀ (a b : Nat × Res) (H : Heap), (a :: b :: H).Perm (H ++ [b, a]) := fun a b H => (List.Perm.swap _ _ _).trans (show ([b, a] ++ H).Perm (H ++ [b, a]) from List.perm_append_comm)
   exact e _ _ _
  ·intro x H' h
   rcases h with ⟨x', l', H1', hR, h1, h2⟩ | ⟨H1', hR, h1, h2⟩
   ·cases h1; subst h2
    simp only [renH, Res.ren, AV.renL, AV.ren, idsTo_at, Own.ren]
    have hR' : RokG m Rok l' (renH (rn (idsTo m (m + 1)) (m + 1 + 1 + 1)) H1') := ⟨H1', hR, rfl⟩
    generalize renH (rn (idsTo m (m + 1)) (m + 1 + 1 + 1)) H1' = H1' at *
    (with_reducible refine is_opK ?_)
    refine k_op' (fun _ h => h) ?_
    (with_reducible refine o_nil ?_)
    refine k_seq_to ⟨_, (m, .box [.v (.bool false)]) :: (m + 1 + 1, .box [.ptr (m + 1) 0]) :: (m + 1, .box [.list (l'.map brow) .free]) :: H1', _⟩ (.drop (rest := []) ?_ (Nat.le_refl _)) ?_
    ·rw [List.append_nil]
     exact (List.perm_append_comm (l₁ := (m + 1, .box [.list (l'.map brow) .free]) :: H1'))
    refine no_implicit_lambda% (awd ?_)
    (with_reducible refine zC ?_)
    refine a_loadAt rfl rfl rfl ((findL_skip (by omega)).trans findL_here) rfl rfl ?_
    refine no_implicit_lambda% (awd ?_)
    (with_reducible refine zC ?_)
    refine a_loadAt rfl rfl rfl ((findL_skip (by omega)).trans ((findL_skip (by omega)).trans findL_here)) rfl rfl ?_
    refine no_implicit_lambda% (awd ?_)
    (with_reducible refine zC ?_)
    refine a_storeAt rfl rfl rfl findL_here rfl rfl (cells' := [.v (.bool (decide ((((l'.map brow).length : Nat) : Int) = 0)))]) rfl ?_
    simp only [setL, if_true]
    refine no_implicit_lambda% (awd ?_)
    exact ⟨by omega, rfl, .inl ⟨l', H1', hR', rfl, rfl⟩⟩
   ·cases h1
  ·intro x H' h
   rcases h with ⟨x', l', H1', hR, h1, h2⟩ | ⟨H1', hR, h1, h2⟩
   ·cases h1
   ·cases h1; subst h2
    have hR' : RbadG m Rbad (renH (rn (idsTo m (m + 1)) (m + 1 + 1 + 1)) H') := ⟨H', hR, rfl⟩
    generalize renH (rn (idsTo m (m + 1)) (m + 1 + 1 + 1)) H' = H' at *
    simp only [AV.ren, idsTo_at]
    refine no_implicit_lambda% (awd ?_)
    exact ⟨by omega, rfl, .inr ⟨H', hR', rfl, rfl⟩⟩
 ·rintro e a' w' ⟨e', s', L', n', G', ⟨rfl, hs4, k1⟩, k2, k3⟩
  have hS := k3.step
  have hic : Sim G' (.ptr (m + 1 + 1) 0) (vs.getD 0 undef) := hS.sim (hcs 0 _ rfl)
  have hio : Sim G' (.ptr m 0) (vs.getD 1 undef) := hS.sim (hcs 1 _ rfl)
  have hJ := hr5.join k3
  have fin : ∀ (G3 : Ghost) (w3 : World) (L3 H' rest : Heap) (b : Bool) (R : AOut → Heap → Prop), Rel ⟨G, w, H1, m, [{ target := .fn (.func 150) vs, args := #[] }]⟩ No G3 ⟨s', (m, .box [.v (.bool b)]) :: L3, top + 2⟩ a' w3 → L3.Perm (H' ++ rest) → R (.ret (.v (.bool b))) H' → ∃ v, (results Tryz.f78 a'.tmps).run Tryz.prog w3 = .ok v w3 ∧ ∃ G' out H', R out H' ∧ OSim G' out (.returned v) ∧ Holds G' w3 H' ∧ Step G w H1 G' w3 H' ∧ ∀ id, G'.live id → G.live id ∨ (m ≤ id ∧ id < top + 2) := by
   intro G3 w3 L3 H' rest b R hR hp hRR
   obtain ⟨v, h1, h2⟩ := results_run (P := Tryz.prog) tok hR (fn := Tryz.f78) (l := [.v (.bool b)]) (by
    show aresults TT s' _ [.cell 4 4] = _
    unfold aresults
    rw [getA_eq, hs4]
    simp [aresults, AV.down, aload, findL]
    rfl)
   have hp2 : ((m, Res.box [.v (.bool b)]) :: L3).Perm (H' ++ ((m, Res.box [.v (.bool b)]) :: rest)) := (hp.cons _).trans List.perm_middle.symm
   exact ⟨v, h1, G3, _, H', hRR, h2, (hR.holds.perm hp2).left, hR.step.sub hp2, fun id hid => (hR.old id hid).imp_right fun h => ⟨h, hR.next id hid⟩⟩
  have hde : a'.defers = [{ target := .fn (.func 150) vs, args := #[] }] := hJ.defers
  have hinv : ∀ w : World, (invoke (.fn (.func 150) vs) #[]).run Tryz.prog w = .ok (.enter 150 vs) w := fun w => by
   simp only [invoke, Array.empty_append]
   rfl
  rcases k1 with ⟨l', H1', hR, rfl, rfl⟩ | ⟨H1', hR, rfl, rfl⟩
  ·cases e <;> first | exact k2.elim | skip
   show Leaves Tryz.prog Tryz.f78 a'.tmps _ a'.defers .returning w'
   rw [hde]
   refine leaves_cons (by simp) (hinv w') ((readD _ _ _ hJ hvs hic hio (m := m + 1) (b := decide ((((l'.map brow).length : Nat) : Int) = 0)) ((findL_skip (by omega)).trans findL_here) findL_here).mono ?_)
   rintro e u' w3 ⟨⟨v, rfl⟩, rfl, G3, hr3⟩
   exact fin G3 w3 _ H1' [(m + 2, .box [.ptr (m + 1) 0]), (m + 1, .box [.list (l'.map brow) .free])] _ _ hr3 (by exact (List.perm_append_comm (l₁ := [_, _]))) (.inl ⟨l', hR, rfl⟩)
  ·cases e <;> first | exact k2.elim | skip
   obtain ⟨v, rfl, hv⟩ := k2
   show Leaves Tryz.prog Tryz.f78 a'.tmps _ a'.defers (.panicking [{ v := v, recovered := false }]) w'
   rw [hde]
   have hJ5 := hJ.perm (L' := (m, .box [.v (.bool false)]) :: (m + 2, .box [.ptr (m + 1) 0]) :: H1') List.perm_append_comm
   refine leaves_cons (by simp) (hinv w') ((readDp _ _ _ hJ5 hvs hic hio hv (b := false) ((findL_skip (by omega)).trans findL_here) findL_here).mono ?_)
   rintro e u' w3 ⟨⟨v, rfl⟩, hu, G3, hr3⟩
   show Leaves Tryz.prog Tryz.f78 a'.tmps _ [] (settle u') w3
   rw [hu]
   simp only [setL, if_true] at hr3
   exact fin G3 w3 _ H1' [(m + 2, .box [.ptr (m + 1) 0])] _ _ hr3 (by exact (List.perm_append_comm (l₁ := [_]))) (.inr ⟨hR, rfl⟩)
theorem read_c {cb : FuncId} {m top : Nat} {cap : List AV} {H1 : Heap} {l : List UInt8} {Rok : List UInt8 → Heap → Prop} {Rbad : Heap → Prop} (htop : m + 1 ≤ top)
  (hcb : ACalls Tryz.prog cb (m + 1) top (.ptr m 0 :: cap) ((m, .box [.list (l.map brow) .free]) :: H1) (cbR m Rok Rbad))
  (hcap : keepL m cap) (hH1 : keepH m H1) (hok : ∀ l' H1', Rok l' H1' → keepH m H1') (hbad : ∀ H1', Rbad H1' → keepH m H1') :
  ACalls Tryz.prog 78 m (top + 2) [.list (l.map brow) .free, .fn cb cap] H1 fun out H' => (∃ l', Rok l' H' ∧ out = .ret (.v (.bool (decide ((((l'.map brow).length : Nat) : Int) = 0))))) ∨ (Rbad H' ∧ out = .ret (.v (.bool false))) :=
 (read_g htop hcb hcap hH1).mono fun out H' hh => by
  rcases hh with ⟨l', ⟨H1', hR, rfl⟩, h⟩ | ⟨⟨H1', hR, rfl⟩, h⟩
  ·rw [hok l' H1' hR _ fun i hi => idsTo_lt hi]
   exact .inl ⟨l', hR, h⟩
  ·rw [hbad H1' hR _ fun i hi => idsTo_lt hi]
   exact .inr ⟨hR, h⟩
end Go.Proofs.YtncffhgoopdfgaaGreat
namespace Go.Proofs.YtncffhgoopdfgaaGreat
open Go.Am
set_option maxRecDepth 100000
theorem oct_of (x k m : Nat) (e : m = k) : IntKind.u8.wrap ((x : Int).fdiv (2 ^ m)) = ((UInt8.ofNat (x >>> k)).toNat : Int) := by
 subst e
 rw [IntKind.wrap_u8, UInt8.toNat_ofNat', Nat.shiftRight_eq_div_pow, Int.fdiv_eq_ediv_of_nonneg _ (Int.le_of_lt (Int.pow_pos (by decide)))]
 simp
theorem oct_0 (x : Nat) : IntKind.u8.wrap (x : Int) = ((UInt8.ofNat (x >>> 0)).toNat : Int) := by
 rw [IntKind.wrap_u8, UInt8.toNat_ofNat']; simp
def tokH (k n : Nat) : Heap := [(k, .tok 1 n)]
theorem refNum_c (b : List UInt8) (x : Nat) (hx : x < 4294967296) (h : b.length < 1073741824) : ACalls Tryz.prog 56 0 1 [.list (b.map brow) .free, .v (.int .u32 x)] [] (fun out H' => out = .ret (.list ((b ++ be x 4).map brow) (.tok 0)) ∧ H' = tokH 0 (b ++ be x 4).length) := by
 refine no_implicit_lambda% (acalls_of tok dok (f := 56) ⟨Tryz.func56, rfl, by kernel_rfl⟩ ?_); refine no_implicit_lambda% (c_start (fun _ h => h) ?_)
 refine no_implicit_lambda% (awd ?_)
 refine e_ret (H' := tokH 0 (b ++ be x 4).length) (rest := []) rfl ⟨congrArg (fun l => AOut.ret (.list l (.tok 0))) ?_, rfl⟩ (.of_eq ?_) (LE0 rfl)
 ·rw [oct_of x 24 (min (Int.toNat 24) IntKind.u32.bits) rfl, oct_of x 16 (min (Int.toNat 16) IntKind.u32.bits) rfl, oct_of x 8 (min (Int.toNat 8) IntKind.u32.bits) rfl, oct_0, List.nil_append, List.map_append]
  rfl
 ·simp [tokH, be_len]
theorem be_split (x : Nat) : be (x / 4294967296) 4 ++ be (x % 4294967296) 4 = be x 8 := by
 have e : ∀ k, k ≤ 3 → UInt8.ofNat ((x % 4294967296) >>> (8 * k)) = UInt8.ofNat (x >>> (8 * k)) := fun k hk => by
  apply UInt8.toNat_inj.1
  rw [UInt8.toNat_ofNat', UInt8.toNat_ofNat', Nat.shiftRight_eq_div_pow, Nat.shiftRight_eq_div_pow]
  match k, hk with
  | 0, _ => simp <;> omega
  | 1, _ => simp <;> omega
  | 2, _ => simp <;> omega
  | 3, _ => simp <;> omega
 have e2 : ∀ k, (x / 4294967296) >>> (8 * k) = x >>> (8 * (k + 4)) := fun k => by
  rw [Nat.shiftRight_eq_div_pow, Nat.shiftRight_eq_div_pow, Nat.mul_add, Nat.pow_add, Nat.mul_comm (2 ^ (8 * k)), ← Nat.div_div_eq_div_mul]
 simp only [be, e 0 (by omega), e 1 (by omega), e 2 (by omega), e 3 (by omega), e2, List.cons_append, List.nil_append]
theorem hi32 (x m : Nat) (hx : x < 18446744073709551616) (e : m = 32) : IntKind.u32.wrap ((x : Int).fdiv (2 ^ m)) = ((x / 4294967296 : Nat) : Int) := by
 subst e
 rw [IntKind.wrap_u32, Int.fdiv_eq_ediv_of_nonneg _ (Int.le_of_lt (Int.pow_pos (by decide)))]
 have : (2 : Int) ^ 32 = 4294967296 := by decide
 rw [this]
 omega
theorem lo32 (x : Nat) : IntKind.u32.wrap (x : Int) = ((x % 4294967296 : Nat) : Int) := by
 rw [IntKind.wrap_u32]; omega
theorem refLong_c (b : List UInt8) (x : Nat) (hx : x < 18446744073709551616) (h : b.length < 1073741000) : ACalls Tryz.prog 76 0 2 [.list (b.map brow) .free, .v (.int .u64 x)] [] (fun out H' => out = .ret (.list ((b ++ be x 8).map brow) (.tok 1)) ∧ H' = tokH 1 (b ++ be x 8).length) := by
 refine no_implicit_lambda% (acalls_of tok dok (f := 76) ⟨Tryz.func76, rfl, by kernel_rfl⟩ ?_); refine no_implicit_lambda% (c_start (fun _ h => h) ?_)
 refine no_implicit_lambda% (awd ?_)
 rw [hi32 x (min (Int.toNat 32) IntKind.u64.bits) hx rfl]
 refine no_implicit_lambda% (calw [] (refNum_c b (x / 4294967296) (by omega) (by omega)) ?_ ?_)
 ·refine no_implicit_lambda% (ret1 ?_); first | (refine no_implicit_lambda% (akc ?_)) | (refine no_implicit_lambda% (aec ?_))
  refine no_implicit_lambda% (awd ?_)
  rw [lo32]
  refine no_implicit_lambda% (calw [] (refNum_c (b ++ be (x / 4294967296) 4) (x % 4294967296) (by omega) (by simp [be_len]; omega)) ?_ ?_)
  ·refine no_implicit_lambda% (ret1 ?_); first | (refine no_implicit_lambda% (akc ?_)) | (refine no_implicit_lambda% (aec ?_))
   refine no_implicit_lambda% (awd ?_)
   refine e_ret (H' := tokH 1 (b ++ be x 8).length) (rest := tokH 0 (b ++ be (x / 4294967296) 4).length) rfl ⟨?_, rfl⟩ (.of_eq ?_) (LE0 rfl)
   ·rw [← be_split x, ← List.append_assoc]; rfl
   ·rw [← be_split x, ← List.append_assoc]; rfl
  ·first | (exact zI) | (exact zJ)
 ·first | (exact zI) | (exact zJ)
theorem nan_def (b : Nat) : nanB b = decide (9218868437227405312 < b % 9223372036854775808) := by
 have h : ∀ d : Ieee.Datum, (d.order d != some .eq) = d.isNaN := fun d => by
  cases d <;> simp [Ieee.Datum.order, Ieee.Datum.isNaN]
 have e1 : FloatKind.f64.format.signWeight = 9223372036854775808 := by decide
 have e2 : FloatKind.f64.format.infRung = 9218868437227405312 := by decide
 have e3 : FloatKind.f64.format.binade = 4503599627370496 := by decide
 unfold nanB Ieee.Format.order
 rw [h]
 unfold Ieee.Format.read
 simp only [e1, e2, e3]
 generalize b % 9223372036854775808 = r
 by_cases k1 : r < 4503599627370496
 ·rw [if_pos k1]
  simp [Ieee.Datum.isNaN]; omega
 ·rw [if_neg k1]
  by_cases k2 : r < 9218868437227405312
  ·rw [if_pos k2]
   simp [Ieee.Datum.isNaN]; omega
  ·rw [if_neg k2]
   by_cases k3 : r = 9218868437227405312
   ·rw [if_pos k3]
    simp [Ieee.Datum.isNaN]; omega
   ·rw [if_neg k3]
    simp [Ieee.Datum.isNaN]; omega
theorem and64 {a c : Nat} (ha : a < 18446744073709551616) (hc : c < 18446744073709551616) : IntKind.u64.wrap ((BitVec.ofInt IntKind.u64.bits (a : Int) &&& BitVec.ofInt IntKind.u64.bits (c : Int)).toNat : Int) = ((a &&& c : Nat) : Int) := by
 rw [BitVec.toNat_and, ofInt_nat ha, ofInt_nat hc]
 exact u64_of (Nat.lt_of_le_of_lt Nat.and_le_left ha)
theorem and_frac (b : Nat) : b &&& 4503599627370495 = b % 4503599627370496 := Nat.and_two_pow_sub_one_eq_mod b 52
theorem and_exp (b : Nat) : b &&& 9218868437227405312 = (b / 4503599627370496 % 2048) * 4503599627370496 := by
 have e1 : (9218868437227405312 : Nat) = 2047 <<< 52 := by decide
 have e2 : (b / 4503599627370496 % 2048) * 4503599627370496 = ((b >>> 52) &&& 2047) <<< 52 := by
  rw [Nat.shiftLeft_eq, Nat.shiftRight_eq_div_pow, Nat.and_two_pow_sub_one_eq_mod _ 11]
 rw [e1, e2]
 apply Nat.eq_of_testBit_eq
 intro i
 simp only [Nat.testBit_and, Nat.testBit_shiftLeft, Nat.testBit_shiftRight]
 by_cases h : 52 ≤ i
 ·have : 52 + (i - 52) = i := by omega
  simp [h, this]
 ·simp [h]
theorem nan_bits (b : Nat) : (b &&& 9218868437227405312 = 9218868437227405312 ∧ b &&& 4503599627370495 ≠ 0) ↔ nanB b = true := by
 rw [and_frac, and_exp, nan_def, decide_eq_true_eq]
 omega
theorem refBits_c (b : Nat) (hb : b < 18446744073709551616) : ACalls Tryz.prog 176 0 0 [.v (.float .f64 b)] [] (fun out H' => out = .ret (.v (.int .u64 (canonB b))) ∧ H' = []) := by
 refine no_implicit_lambda% (acalls_of tok dok (f := 176) ⟨Tryz.func176, rfl, by kernel_rfl⟩ ?_); refine no_implicit_lambda% (c_start (fun _ h => h) ?_)
 refine no_implicit_lambda% (awd ?_)
 refine no_implicit_lambda% (cal [] (bits_x b) ?_ ?_)
 ·refine no_implicit_lambda% (ret1 ?_); first | (refine no_implicit_lambda% (akc ?_)) | (refine no_implicit_lambda% (aec ?_))
  refine no_implicit_lambda% (awd ?_)
  rw [show (9218868437227405312 : Int) = ((9218868437227405312 : Nat) : Int) by rfl, and64 hb (by decide)]
  repeat' (first | (refine no_implicit_lambda% (zH ?_)) | (((with_reducible refine no_implicit_lambda% (zA ?_)); refine no_implicit_lambda% (zD rfl rfl rfl (fun hc => ?_) (fun hc => ?_)) <;> rw [hc])) | (((with_reducible refine no_implicit_lambda% (zB ?_)); refine no_implicit_lambda% (zE rfl (fun hc => ?_) (fun hc => ?_)))) | (((with_reducible refine no_implicit_lambda% (zC ?_)); refine no_implicit_lambda% (zF rfl rfl (fun hc => ?_) (fun hc => ?_)) <;> rw [hc])) | fail)
  ·rename_i h1
   have h2 := hc
   rw [show (4503599627370495 : Int) = ((4503599627370495 : Nat) : Int) by rfl, and64 hb (by decide)] at h2
   have h := (nan_bits b).1 ⟨by simp at h1; omega, by simp at h2; omega⟩
   exact e_ret (H' := []) rfl ⟨by simp [canonB, h]; rfl, rfl⟩ (.refl _) (LE0 rfl)
  ·rename_i h1
   have h2 := hc
   rw [show (4503599627370495 : Int) = ((4503599627370495 : Nat) : Int) by rfl, and64 hb (by decide)] at h2
   have h : nanB b = false := by
    cases hn : nanB b
    ·rfl
    ·have := (nan_bits b).2 hn
     simp at h2; omega
   exact e_ret (H' := []) rfl ⟨by simp [canonB, h]; rfl, rfl⟩ (.refl _) (LE0 rfl)
  ·have h1 := hc
   have h : nanB b = false := by
    cases hn : nanB b
    ·rfl
    ·have := (nan_bits b).2 hn
     simp at h1; omega
   exact e_ret (H' := []) rfl ⟨by simp [canonB, h]; rfl, rfl⟩ (.refl _) (LE0 rfl)
 ·first | (exact zI) | (exact zJ)
theorem refFloat_c (b : List UInt8) (x : Nat) (hx : x < 18446744073709551616) (h : b.length < 1073741000) : ACalls Tryz.prog 149 0 2 [.list (b.map brow) .free, .v (.float .f64 x)] [] (fun out H' => out = .ret (.list ((b ++ be (canonB x) 8).map brow) (.tok 1)) ∧ H' = tokH 1 (b ++ be (canonB x) 8).length) := by
 refine no_implicit_lambda% (acalls_of tok dok (f := 149) ⟨Tryz.func149, rfl, by kernel_rfl⟩ ?_); refine no_implicit_lambda% (c_start (fun _ h => h) ?_)
 refine no_implicit_lambda% (awd ?_)
 refine no_implicit_lambda% (cal [] (refBits_c x hx) ?_ ?_)
 ·refine no_implicit_lambda% (ret1 ?_); first | (refine no_implicit_lambda% (akc ?_)) | (refine no_implicit_lambda% (aec ?_))
  refine no_implicit_lambda% (awd ?_)
  refine no_implicit_lambda% (cal [] (refLong_c b (canonB x) (by unfold canonB; split <;> omega) h) ?_ ?_)
  ·refine no_implicit_lambda% (ret1 ?_); first | (refine no_implicit_lambda% (akc ?_)) | (refine no_implicit_lambda% (aec ?_))
   refine no_implicit_lambda% (awd ?_)
   exact e_ret (H' := tokH 1 (b ++ be (canonB x) 8).length) (rest := []) rfl ⟨rfl, rfl⟩ (.of_eq rfl) (LE0 rfl)
  ·first | (exact zI) | (exact zJ)
 ·first | (exact zI) | (exact zJ)
theorem refText_c (b x : List UInt8) (h : b.length < 1073741000) (hx : x.length < 1048577) : ACalls Tryz.prog 58 0 1 [.list (b.map brow) .free, .list (x.map brow) .free] [] (fun out H' => out = .ret (.list ((b ++ (be x.length 4 ++ x)).map brow) (.tok 0)) ∧ H' = tokH 0 (b ++ (be x.length 4 ++ x)).length) := by
 refine no_implicit_lambda% (acalls_of tok dok (f := 58) ⟨Tryz.func58, rfl, by kernel_rfl⟩ ?_); refine no_implicit_lambda% (c_start (fun _ h => h) ?_)
 refine no_implicit_lambda% (awd ?_)
 rw [show IntKind.u32.wrap ((x.map brow).length : Int) = x.length by rw [IntKind.wrap_u32, List.length_map]; omega]
 refine no_implicit_lambda% (cal [] (refNum_c b x.length (by omega) (by omega)) ?_ ?_)
 ·refine no_implicit_lambda% (ret1 ?_); first | (refine no_implicit_lambda% (akc ?_)) | (refine no_implicit_lambda% (aec ?_))
  have hbl := be_len x.length 4
  refine no_implicit_lambda% (awd ?_)
  refine e_ret (H' := tokH 0 (b ++ (be x.length 4 ++ x)).length) (rest := []) rfl ⟨?_, rfl⟩ (.of_eq ?_) (LE0 rfl)
  ·rw [← List.append_assoc, List.map_append (l₁ := b ++ be x.length 4)]; rfl
  ·simp [tokH, rn, Nat.add_assoc]
 ·first | (exact zI) | (exact zJ)
end Go.Proofs.YtncffhgoopdfgaaGreat
namespace Go.Proofs.YtncffhgoopdfgaaGreat
open Go.Am
set_option maxRecDepth 100000
theorem LeA.agg {l l' : List AV} (h : LeL l l') : LeA (.agg l) (.agg l') := fun G x hx => by
 obtain ⟨vs, rfl, h1, h2⟩ := Sim.agg_inv hx
 refine .agg _ _ (by rw [← h.len]; exact h1) fun i a ha => ?_
 obtain ⟨b, hb, hle⟩ := h.get i a ha
 exact hle _ _ (h2 i b hb)
structure Va where
 kind : Int
 b : List UInt8
 n : Nat
def vrowV (v : Va) : List AV := [.v (.int .i64 v.kind), .list (v.b.map brow) .free, .v (.float .f64 v.n)]
def vav (v : Va) : AV := .agg (vrowV v)
def canV (v : Va) : Va := if v.kind = 1 then ⟨1, v.b, 0⟩ else if v.kind = 2 then ⟨2, [], canonB v.n⟩ else ⟨0, [], 0⟩
def ordV0 (a b : Va) : Int := if a.kind ≠ b.kind then cmpZ a.kind b.kind else if a.kind = 1 then Lib.compareBytes a.b b.b else if a.kind = 2 then cmpZ (keyI a.n) (keyI b.n) else 0
def ordV (a b : Va) : Int := ordV0 (canV a) (canV b)
def VOk (v : Va) : Prop := (v.kind = 1 ∧ v.n = 0 ∧ v.b.length ≤ 16) ∨ (v.kind = 2 ∧ v.b = [] ∧ v.n < 18446744073709551616)
theorem VOk.len {v : Va} (h : VOk v) : v.b.length < 70368744177664 := by
 rcases h with h | h
 ·omega
 ·rw [h.2.1]; decide
theorem vmade_c (tx : Bool) (n : Int) (x : Nat) (b : List UInt8) (hn1 : -9223372036854775808 ≤ n) (hn2 : n ≤ 9223372036854775807) (hx : x < 18446744073709551616) : ACalls Tryz.prog 19 0 10 [.agg [.v (.bool tx), .v (.int .i64 n), .v (.float .f64 x), .list (b.map brow) .free]] [] (fun out H' => ∃ v, VOk v ∧ out = .ret (vav v) ∧ H' = []) := by
 refine no_implicit_lambda% (acalls_of tok dok (f := 19) ⟨Tryz.func19, rfl, by kernel_rfl⟩ ?_); refine no_implicit_lambda% (c_start (fun _ h => h) ?_)
 repeat' (first | (refine no_implicit_lambda% (zH ?_)) | (((with_reducible refine no_implicit_lambda% (zA ?_)); refine no_implicit_lambda% (zD rfl rfl rfl (fun hc => ?_) (fun hc => ?_)) <;> rw [hc])) | (((with_reducible refine no_implicit_lambda% (zB ?_)); refine no_implicit_lambda% (zE rfl (fun hc => ?_) (fun hc => ?_)))) | (((with_reducible refine no_implicit_lambda% (zC ?_)); refine no_implicit_lambda% (zF rfl rfl (fun hc => ?_) (fun hc => ?_)) <;> rw [hc])) | fail)
 ·refine no_implicit_lambda% (cal [] (cut_c b 16 (by decide)) ?_ ?_)
  ·refine no_implicit_lambda% (ret1 ?_); first | (refine no_implicit_lambda% (akc ?_)) | (refine no_implicit_lambda% (aec ?_))
   refine no_implicit_lambda% (awd ?_)
   refine e_ret (H' := []) (rest := _) rfl ⟨⟨1, b.take 16, 0⟩, .inl ⟨rfl, rfl, by simp; omega⟩, rfl, rfl⟩ (.refl _) (LE0 rfl)
  ·first | (exact zI) | (exact zJ)
 ·refine no_implicit_lambda% (cal [] (flt_c n x hn1 hn2 hx) ?_ ?_)
  ·intro x H' h; obtain ⟨fb, hfb, h1, rfl⟩ := h; cases h1; first | (refine no_implicit_lambda% (akc ?_)) | (refine no_implicit_lambda% (aec ?_))
   refine no_implicit_lambda% (awd ?_)
   exact e_ret_to (H' := []) (.wk (.refl _) (.cons (.box _ (.cons (.refl _) (.cons (.free _ _) (.cons (.refl _) .nil)))) (.refl _))) rfl ⟨⟨2, [], fb⟩, .inr ⟨rfl, rfl, hfb⟩, rfl, rfl⟩ (.refl _) (LE0 rfl)
  ·intro x H' h; obtain ⟨_, _, h1, _⟩ := h; cases h1
theorem vright_c (v : Va) : ACalls Tryz.prog 145 0 10 [vav v] [] (fun out H' => out = .ret (.v (.bool (v.kind == 1 && decide ((v.b.length : Int) ≤ 16) || v.kind == 2))) ∧ H' = []) := by
 obtain ⟨kd, b, n⟩ := v
 refine no_implicit_lambda% (acalls_of tok dok (f := 145) ⟨Tryz.func145, rfl, by kernel_rfl⟩ ?_); refine no_implicit_lambda% (c_start (fun _ h => h) ?_)
 repeat' (first | (refine no_implicit_lambda% (zH ?_)) | (((with_reducible refine no_implicit_lambda% (zA ?_)); refine no_implicit_lambda% (zD rfl rfl rfl (fun hc => ?_) (fun hc => ?_)) <;> rw [hc])) | (((with_reducible refine no_implicit_lambda% (zB ?_)); refine no_implicit_lambda% (zE rfl (fun hc => ?_) (fun hc => ?_)))) | (((with_reducible refine no_implicit_lambda% (zC ?_)); refine no_implicit_lambda% (zF rfl rfl (fun hc => ?_) (fun hc => ?_)) <;> rw [hc])) | fail)
 all_goals
  refine e_ret (H' := []) (rest := _) rfl ⟨congrArg (fun z => AOut.ret (.v (.bool z))) ?_, rfl⟩ (.refl _) (LE0 rfl)
  simp only [List.length_map] at *
  simp_all
end Go.Proofs.YtncffhgoopdfgaaGreat
namespace Go.Proofs.YtncffhgoopdfgaaGreat
open Go.Am
set_option maxRecDepth 100000
def rr (b : List UInt8) (bad : Bool) : Heap := [(0, .box [.list (b.map brow) .free, .v (.bool bad)])]
theorem rr_free (s : List AV) (n : Nat) (bad : Bool) (rows : List (List AV)) (o : Own) : Conv ⟨s, [(0, .box [.list rows o, .v (.bool bad)])], n⟩ ⟨s, [(0, .box [.list rows .free, .v (.bool bad)])], n⟩ :=
 .wk (.refl _) (.cons (.box _ (.cons (.free _ _) (.refl _))) (.refl _))
theorem refFail_c (b : List UInt8) (bad : Bool) : ACalls Tryz.prog 127 1 1 [.ptr 0 0] (rr b bad) (fun out H' => out = .ret (.tuple []) ∧ H' = rr [] true) := by
 refine no_implicit_lambda% (acalls_of tok dok (f := 127) ⟨Tryz.func127, rfl, by kernel_rfl⟩ ?_); refine no_implicit_lambda% (c_start (fun _ h => h) ?_)
 refine no_implicit_lambda% (awd ?_)
 exact e_ret_to (H' := rr [] true) (rest := []) (rr_free _ _ _ _ _) rfl ⟨rfl, rfl⟩ (.of_eq rfl) (LE0 rfl)
def rSome (n : Nat) (b : List UInt8) (bad : Bool) : List UInt8 := if bad = false ∧ n ≤ b.length then b.take n else List.replicate (min n 8) 0
def rBad (n : Nat) (b : List UInt8) (bad : Bool) : Bool := !decide (bad = false ∧ n ≤ b.length)
def rLeft (n : Nat) (b : List UInt8) (bad : Bool) : List UInt8 := if bad = false ∧ n ≤ b.length then b.drop n else []
theorem rSome_len (n : Nat) (b : List UInt8) (bad : Bool) (hn : n ≤ 8) : (rSome n b bad).length = n := by
 unfold rSome
 split
 ·rename_i h; rw [List.length_take]; omega
 ·rw [List.length_replicate]; omega
theorem refSome_c (b : List UInt8) (bad : Bool) (n : Nat) (hn : n ≤ 8) (h : b.length < 281474976710656) : ACalls Tryz.prog 172 1 3 [.ptr 0 0, .v (.int .i64 n)] (rr b bad) (fun out H' => out = .ret (.list ((rSome n b bad).map brow) .free) ∧ H' = rr (rLeft n b bad) (rBad n b bad)) := by
 refine no_implicit_lambda% (acalls_of tok dok (f := 172) ⟨Tryz.func172, rfl, by kernel_rfl⟩ ?_); refine no_implicit_lambda% (c_start (fun _ h => h) ?_)
 repeat' (first | (refine no_implicit_lambda% (zH ?_)) | (((with_reducible refine no_implicit_lambda% (zA ?_)); refine no_implicit_lambda% (zD rfl rfl rfl (fun hc => ?_) (fun hc => ?_)) <;> rw [hc])) | (((with_reducible refine no_implicit_lambda% (zB ?_)); refine no_implicit_lambda% (zE rfl (fun hc => ?_) (fun hc => ?_)))) | (((with_reducible refine no_implicit_lambda% (zC ?_)); refine no_implicit_lambda% (zF rfl rfl (fun hc => ?_) (fun hc => ?_)) <;> rw [hc])) | fail)
 ·have e1 : rSome n b true = List.replicate n 0 := by unfold rSome; rw [if_neg (by simp), Nat.min_eq_left hn]
  have e2 : rBad n b true = true := by unfold rBad; rw [decide_eq_false (by simp)]; rfl
  have e3 : rLeft n b true = [] := by unfold rLeft; rw [if_neg (by simp)]
  rw [e1, e2, e3]
  refine no_implicit_lambda% (cal [0] (refFail_c b true) ?_ ?_)
  ·refine no_implicit_lambda% (ret1 ?_); first | (refine no_implicit_lambda% (akc ?_)) | (refine no_implicit_lambda% (aec ?_))
   refine no_implicit_lambda% (awd ?_)
   rw [show (if (8 : Int) < (n : Int) then (8 : Int) else (n : Int)) = (n : Int) by rw [if_neg (by omega)]]
   refine no_implicit_lambda% (aqs ?_ ?_)
   ·exact ⟨rfl, Int.natCast_nonneg n, by omega, by show ((1 : Nat) : Int) * (n : Int) ≤ 140737488355328; omega⟩
   refine no_implicit_lambda% (awd ?_)
   refine e_ret_to (H' := rr [] true) (rest := []) (.freeSlot 4 rfl) rfl ⟨congrArg (fun l => AOut.ret (.list l .free)) ?_, rfl⟩ (.of_eq rfl) (LE0 rfl)
   rw [Int.toNat_natCast, List.map_replicate]
   rfl
  ·first | (exact zI) | (exact zJ)
 ·have e1 : rSome n b false = List.replicate n 0 := by unfold rSome; rw [if_neg (by simp at *; omega), Nat.min_eq_left hn]
  have e2 : rBad n b false = true := by unfold rBad; rw [decide_eq_false (by simp at *; omega)]; rfl
  have e3 : rLeft n b false = [] := by unfold rLeft; rw [if_neg (by simp at *; omega)]
  rw [e1, e2, e3]
  refine no_implicit_lambda% (cal [0] (refFail_c b false) ?_ ?_)
  ·refine no_implicit_lambda% (ret1 ?_); first | (refine no_implicit_lambda% (akc ?_)) | (refine no_implicit_lambda% (aec ?_))
   refine no_implicit_lambda% (awd ?_)
   rw [show (if (8 : Int) < (n : Int) then (8 : Int) else (n : Int)) = (n : Int) by rw [if_neg (by omega)]]
   refine no_implicit_lambda% (aqs ?_ ?_)
   ·exact ⟨rfl, Int.natCast_nonneg n, by omega, by show ((1 : Nat) : Int) * (n : Int) ≤ 140737488355328; omega⟩
   refine no_implicit_lambda% (awd ?_)
   refine e_ret_to (H' := rr [] true) (rest := []) (.freeSlot 4 rfl) rfl ⟨congrArg (fun l => AOut.ret (.list l .free)) ?_, rfl⟩ (.of_eq rfl) (LE0 rfl)
   rw [Int.toNat_natCast, List.map_replicate]
   rfl
  ·first | (exact zI) | (exact zJ)
 ·have hn' : n ≤ b.length := by simp at *; omega
  have e1 : rSome n b false = b.take n := by unfold rSome; rw [if_pos ⟨rfl, hn'⟩]
  have e2 : rBad n b false = false := by unfold rBad; rw [decide_eq_true ⟨rfl, hn'⟩]; rfl
  have e3 : rLeft n b false = b.drop n := by unfold rLeft; rw [if_pos ⟨rfl, hn'⟩]
  rw [e1, e2, e3]
  refine no_implicit_lambda% (aqs ?_ ?_)
  ·refine ⟨trivial, Int.natCast_nonneg n, Nat.zero_le _, ?_, brows b⟩
   simpa using hn'
  refine k_as (.list ((b.take n).map brow) .free) (by simp [List.map_take, orFull, isFull, isNone]) ?_
  have hl : (b.take n).length ≤ 8 := by rw [List.length_take]; omega
  refine no_implicit_lambda% (awd ?_)
  refine no_implicit_lambda% (aqs ?_ ?_)
  ·refine ⟨Int.natCast_nonneg n, trivial, ?_, Nat.le_refl _, brows b⟩
   simpa using hn'
  refine k_as (.list ((b.drop n).map brow) .free) (by rw [Int.toNat_natCast, List.take_of_length_le (Nat.le_refl _), List.map_drop]) ?_
  refine no_implicit_lambda% (awd ?_)
  exact e_ret_to (H' := rr (b.drop n) false) (rest := [(1, .tok 1 (([] : List AV).length + ((b.take n).map brow).length))]) (.freeSlot 4 rfl) rfl ⟨rfl, rfl⟩ (.swap _ _ _) (LE0 rfl)
theorem shl32 {a k : Nat} (h : a * 2 ^ k < 4294967296) (m : Nat) (hm : m = k) : IntKind.u32.wrap ((a : Int) * 2 ^ m) = ((a * 2 ^ k : Nat) : Int) := by
 subst hm
 have : ((a : Int) * 2 ^ m) = ((a * 2 ^ m : Nat) : Int) := by rw [Int.natCast_mul, Int.natCast_pow]; rfl
 rw [IntKind.wrap_u32, this]
 omega
theorem or32 {a c k : Nat} (ha : a * 2 ^ k + c < 4294967296) (hc : c < 2 ^ k) : IntKind.u32.wrap ((BitVec.ofInt IntKind.u32.bits ((a * 2 ^ k : Nat) : Int) ||| BitVec.ofInt IntKind.u32.bits (c : Int)).toNat : Int) = ((a * 2 ^ k + c : Nat) : Int) := by
 have e : ∀ {n : Nat}, n < 4294967296 → (BitVec.ofInt IntKind.u32.bits (n : Int)).toNat = n := fun {n} h => by
  show (BitVec.ofInt 32 (n : Int)).toNat = n
  rw [BitVec.toNat_ofInt]; omega
 rw [BitVec.toNat_or, e (by omega), e (by omega), ← Nat.shiftLeft_eq, ← Nat.shiftLeft_add_eq_or_of_lt hc, Nat.shiftLeft_eq, IntKind.wrap_u32]
 omega
theorem w32 {n : Nat} (h : n < 4294967296) : IntKind.u32.wrap (n : Int) = n := by rw [IntKind.wrap_u32]; omega
theorem num4 {x0 x1 x2 x3 : Nat} (h0 : x0 < 256) (h1 : x1 < 256) (h2 : x2 < 256) (h3 : x3 < 256) :
  IntKind.u32.wrap (BitVec.ofInt IntKind.u32.bits (IntKind.u32.wrap (BitVec.ofInt IntKind.u32.bits (IntKind.u32.wrap (BitVec.ofInt IntKind.u32.bits (IntKind.u32.wrap (IntKind.u32.wrap (x0 : Int) * 2 ^ min (Int.toNat 24) IntKind.u32.bits)) ||| BitVec.ofInt IntKind.u32.bits (IntKind.u32.wrap (IntKind.u32.wrap (x1 : Int) * 2 ^ min (Int.toNat 16) IntKind.u32.bits))).toNat) ||| BitVec.ofInt IntKind.u32.bits (IntKind.u32.wrap (IntKind.u32.wrap (x2 : Int) * 2 ^ min (Int.toNat 8) IntKind.u32.bits))).toNat) ||| BitVec.ofInt IntKind.u32.bits (IntKind.u32.wrap (x3 : Int))).toNat = ((((x0 * 256 + x1) * 256 + x2) * 256 + x3 : Nat) : Int) := by
 rw [w32 (n := x0) (by omega), w32 (n := x1) (by omega), w32 (n := x2) (by omega), w32 (n := x3) (by omega)]
 rw [shl32 (a := x0) (k := 24) (by omega) (min (Int.toNat 24) IntKind.u32.bits) rfl, shl32 (a := x1) (k := 16) (by omega) (min (Int.toNat 16) IntKind.u32.bits) rfl, shl32 (a := x2) (k := 8) (by omega) (min (Int.toNat 8) IntKind.u32.bits) rfl]
 rw [or32 (a := x0) (k := 24) (c := x1 * 2 ^ 16) (by omega) (by omega)]
 rw [show x0 * 2 ^ 24 + x1 * 2 ^ 16 = (x0 * 256 + x1) * 2 ^ 16 by omega, or32 (by omega) (by omega)]
 rw [show (x0 * 256 + x1) * 2 ^ 16 + x2 * 2 ^ 8 = ((x0 * 256 + x1) * 256 + x2) * 2 ^ 8 by omega, or32 (by omega) (by omega)]
theorem refByte_c (b : List UInt8) (bad : Bool) (h : b.length < 281474976710656) : ACalls Tryz.prog 122 1 4 [.ptr 0 0] (rr b bad) (fun out H' => out = .ret (.v (.int .u8 (ubn (rSome 1 b bad) 0))) ∧ H' = rr (rLeft 1 b bad) (rBad 1 b bad)) := by
 refine no_implicit_lambda% (acalls_of tok dok (f := 122) ⟨Tryz.func122, rfl, by kernel_rfl⟩ ?_); refine no_implicit_lambda% (c_start (fun _ h => h) ?_)
 refine no_implicit_lambda% (awd ?_)
 refine no_implicit_lambda% (cal [0] (refSome_c b bad 1 (by decide) h) ?_ ?_)
 ·refine no_implicit_lambda% (ret1 ?_); first | (refine no_implicit_lambda% (akc ?_)) | (refine no_implicit_lambda% (aec ?_))
  have hl := rSome_len 1 b bad (by decide)
  generalize rSome 1 b bad = q at *
  match q, hl with
  | [c], _ =>
   have h0 : 0 ≤ (0 : Int) ∧ (List.map brow [c])[Int.toNat 0]? = some (brow c) ∧ (brow c).length = 1 := ⟨by decide, rfl, rfl⟩
   refine no_implicit_lambda% (awd ?_)
   refine e_ret (H' := rr (rLeft 1 b bad) (rBad 1 b bad)) (rest := []) rfl ⟨?_, rfl⟩ (.of_eq rfl) (LE0 rfl)
   simp [ubn]
   rfl
 ·first | (exact zI) | (exact zJ)
theorem refRNum_c (b : List UInt8) (bad : Bool) (h : b.length < 281474976710656) : ACalls Tryz.prog 125 1 4 [.ptr 0 0] (rr b bad) (fun out H' => out = .ret (.v (.int .u32 (ubn (rSome 4 b bad) 0))) ∧ H' = rr (rLeft 4 b bad) (rBad 4 b bad)) := by
 refine no_implicit_lambda% (acalls_of tok dok (f := 125) ⟨Tryz.func125, rfl, by kernel_rfl⟩ ?_); refine no_implicit_lambda% (c_start (fun _ h => h) ?_)
 refine no_implicit_lambda% (awd ?_)
 refine no_implicit_lambda% (cal [0] (refSome_c b bad 4 (by decide) h) ?_ ?_)
 ·refine no_implicit_lambda% (ret1 ?_); first | (refine no_implicit_lambda% (akc ?_)) | (refine no_implicit_lambda% (aec ?_))
  have hl := rSome_len 4 b bad (by decide)
  generalize rSome 4 b bad = q at *
  match q, hl with
  | [c0, c1, c2, c3], _ =>
   have h0 : 0 ≤ (0 : Int) ∧ (List.map brow [c0, c1, c2, c3])[Int.toNat 0]? = some (brow c0) ∧ (brow c0).length = 1 := ⟨by decide, rfl, rfl⟩
   have h1 : 0 ≤ (1 : Int) ∧ (List.map brow [c0, c1, c2, c3])[Int.toNat 1]? = some (brow c1) ∧ (brow c1).length = 1 := ⟨by decide, rfl, rfl⟩
   have h2 : 0 ≤ (2 : Int) ∧ (List.map brow [c0, c1, c2, c3])[Int.toNat 2]? = some (brow c2) ∧ (brow c2).length = 1 := ⟨by decide, rfl, rfl⟩
   have h3 : 0 ≤ (3 : Int) ∧ (List.map brow [c0, c1, c2, c3])[Int.toNat 3]? = some (brow c3) ∧ (brow c3).length = 1 := ⟨by decide, rfl, rfl⟩
   refine no_implicit_lambda% (awd ?_)
   rw [num4 c0.toNat_lt c1.toNat_lt c2.toNat_lt c3.toNat_lt]
   refine e_ret (H' := rr (rLeft 4 b bad) (rBad 4 b bad)) (rest := []) rfl ⟨?_, rfl⟩ (.of_eq rfl) (LE0 rfl)
   simp [ubn]
   rfl
 ·first | (exact zI) | (exact zJ)
theorem shl_or64 {a c : Nat} (ha : a < 4294967296) (hc : c < 4294967296) : IntKind.u64.wrap (BitVec.ofInt IntKind.u64.bits (IntKind.u64.wrap (IntKind.u64.wrap (a : Int) * 2 ^ min (Int.toNat 32) IntKind.u64.bits)) ||| BitVec.ofInt IntKind.u64.bits (IntKind.u64.wrap (c : Int))).toNat = ((a * 4294967296 + c : Nat) : Int) := by
 rw [u64_of (n := a) (by omega), u64_of (n := c) (by omega)]
 have e : ((a : Int) * 2 ^ min (Int.toNat 32) IntKind.u64.bits) = ((a * 4294967296 : Nat) : Int) := by
  have : min (Int.toNat 32) IntKind.u64.bits = 32 := rfl
  rw [this, Int.natCast_mul]
  have : (2 : Int) ^ 32 = ((4294967296 : Nat) : Int) := by decide
  rw [this]
 rw [e, u64_of (n := a * 4294967296) (by omega), BitVec.toNat_or, ofInt_nat (by omega), ofInt_nat (by omega)]
 have e2 : a * 4294967296 = a <<< 32 := by rw [Nat.shiftLeft_eq]
 rw [e2, ← Nat.shiftLeft_add_eq_or_of_lt (show c < 2 ^ 32 from hc), ← e2]
 exact u64_of (by omega)
def rLong (b : List UInt8) (bad : Bool) : Nat := ubn (rSome 4 b bad) 0 * 4294967296 + ubn (rSome 4 (rLeft 4 b bad) (rBad 4 b bad)) 0
theorem some4_lt (b : List UInt8) (bad : Bool) : ubn (rSome 4 b bad) 0 < 4294967296 := by
 have h := ubn_lt (rSome 4 b bad) 0
 rw [rSome_len 4 b bad (by decide)] at h
 have : (256 : Nat) ^ 4 = 4294967296 := by decide
 omega
theorem rLeft_len (n : Nat) (b : List UInt8) (bad : Bool) : (rLeft n b bad).length ≤ b.length := by
 unfold rLeft; split
 ·rw [List.length_drop]; omega
 ·simp
theorem refRLong_c (b : List UInt8) (bad : Bool) (h : b.length < 281474976710656) : ACalls Tryz.prog 154 1 7 [.ptr 0 0] (rr b bad) (fun out H' => out = .ret (.v (.int .u64 (rLong b bad))) ∧ H' = rr (rLeft 4 (rLeft 4 b bad) (rBad 4 b bad)) (rBad 4 (rLeft 4 b bad) (rBad 4 b bad))) := by
 have hl1 := rLeft_len 4 b bad
 refine no_implicit_lambda% (acalls_of tok dok (f := 154) ⟨Tryz.func154, rfl, by kernel_rfl⟩ ?_); refine no_implicit_lambda% (c_start (fun _ h => h) ?_)
 refine no_implicit_lambda% (awd ?_)
 refine no_implicit_lambda% (cal [0] (refRNum_c b bad h) ?_ ?_)
 ·refine no_implicit_lambda% (ret1 ?_); first | (refine no_implicit_lambda% (akc ?_)) | (refine no_implicit_lambda% (aec ?_))
  refine no_implicit_lambda% (awd ?_)
  refine no_implicit_lambda% (cal [0] (refRNum_c (rLeft 4 b bad) (rBad 4 b bad) (by omega)) ?_ ?_)
  ·refine no_implicit_lambda% (ret1 ?_); first | (refine no_implicit_lambda% (akc ?_)) | (refine no_implicit_lambda% (aec ?_))
   refine no_implicit_lambda% (awd ?_)
   rw [shl_or64 (some4_lt _ _) (some4_lt _ _)]
   exact e_ret (H' := rr (rLeft 4 (rLeft 4 b bad) (rBad 4 b bad)) (rBad 4 (rLeft 4 b bad) (rBad 4 b bad))) (rest := []) rfl ⟨rfl, rfl⟩ (.of_eq rfl) (LE0 rfl)
  ·first | (exact zI) | (exact zJ)
 ·first | (exact zI) | (exact zJ)
theorem refFrom_c (b : Nat) (hb : b < 18446744073709551616) : ACalls Tryz.prog 175 0 0 [.v (.int .u64 b)] [] (fun out H' => out = .ret (.v (.float .f64 (canonB b))) ∧ H' = []) := by
 refine no_implicit_lambda% (acalls_of tok dok (f := 175) ⟨Tryz.func175, rfl, by kernel_rfl⟩ ?_); refine no_implicit_lambda% (c_start (fun _ h => h) ?_)
 refine no_implicit_lambda% (awd ?_)
 refine no_implicit_lambda% (cal [] (from_x b) ?_ ?_)
 ·refine no_implicit_lambda% (ret1 ?_); first | (refine no_implicit_lambda% (akc ?_)) | (refine no_implicit_lambda% (aec ?_))
  refine no_implicit_lambda% (awd ?_)
  refine no_implicit_lambda% (cal [] (refBits_c b hb) ?_ ?_)
  ·refine no_implicit_lambda% (ret1 ?_); first | (refine no_implicit_lambda% (akc ?_)) | (refine no_implicit_lambda% (aec ?_))
   refine no_implicit_lambda% (awd ?_)
   refine no_implicit_lambda% (cal [] (from_x (canonB b)) ?_ ?_)
   ·refine no_implicit_lambda% (ret1 ?_); first | (refine no_implicit_lambda% (akc ?_)) | (refine no_implicit_lambda% (aec ?_))
    refine no_implicit_lambda% (awd ?_)
    exact e_ret (H' := []) rfl ⟨rfl, rfl⟩ (.refl _) (LE0 rfl)
   ·first | (exact zI) | (exact zJ)
  ·first | (exact zI) | (exact zJ)
 ·first | (exact zI) | (exact zJ)
theorem rLong_lt (b : List UInt8) (bad : Bool) : rLong b bad < 18446744073709551616 := by
 have h1 := some4_lt b bad
 have h2 := some4_lt (rLeft 4 b bad) (rBad 4 b bad)
 unfold rLong; omega
theorem some_ok {n : Nat} {b : List UInt8} (h : n ≤ b.length) : rSome n b false = b.take n ∧ rLeft n b false = b.drop n ∧ rBad n b false = false := by
 refine ⟨by unfold rSome; rw [if_pos ⟨rfl, h⟩], by unfold rLeft; rw [if_pos ⟨rfl, h⟩], by unfold rBad; rw [decide_eq_true ⟨rfl, h⟩]; rfl⟩
theorem some_no {n : Nat} {b : List UInt8} (h : b.length < n) : rLeft n b false = [] ∧ rBad n b false = true := by
 refine ⟨by unfold rLeft; rw [if_neg (by omega)], by unfold rBad; rw [decide_eq_false (by omega)]; rfl⟩
theorem bad_no {n : Nat} {b : List UInt8} : rLeft n b true = [] ∧ rBad n b true = true := by
 refine ⟨by unfold rLeft; rw [if_neg (by simp)], by unfold rBad; rw [decide_eq_false (by simp)]; rfl⟩
theorem ubn_two (b : List UInt8) (h : 8 ≤ b.length) : ubn (b.take 4) 0 * 4294967296 + ubn ((b.drop 4).take 4) 0 = ubn (b.take 8) 0 := by
 have e : b.take 8 = b.take 4 ++ (b.drop 4).take 4 := by rw [← List.take_add]
 have k : ∀ (l : List UInt8) (a : Nat), ubn l a = a * 256 ^ l.length + ubn l 0 := by
  intro l
  induction l with
  | nil => intro a; simp [ubn]
  | cons c l ih =>
   intro a
   rw [ubn, ubn, ih (a * 256 + c.toNat), ih (0 * 256 + c.toNat), List.length_cons, Nat.pow_succ, Nat.mul_comm (256 ^ l.length) 256, ← Nat.mul_assoc, Nat.add_mul, Nat.add_mul]
   omega
 rw [e, ubn_app, k ((b.drop 4).take 4) (ubn (b.take 4) 0)]
 have h4 : ((b.drop 4).take 4).length = 4 := by rw [List.length_take, List.length_drop]; omega
 rw [h4]
theorem long_ok {b : List UInt8} (h : 8 ≤ b.length) : rLong b false = ubn (b.take 8) 0 ∧ rLeft 4 (rLeft 4 b false) (rBad 4 b false) = b.drop 8 ∧ rBad 4 (rLeft 4 b false) (rBad 4 b false) = false := by
 obtain ⟨a1, a2, a3⟩ := some_ok (n := 4) (b := b) (by omega)
 have hl : 4 ≤ (b.drop 4).length := by rw [List.length_drop]; omega
 obtain ⟨c1, c2, c3⟩ := some_ok (n := 4) (b := b.drop 4) hl
 unfold rLong
 rw [a2, a3, a1, c1, c2, c3, ubn_two b h, List.drop_drop]
 exact ⟨rfl, rfl, rfl⟩
theorem long_no {b : List UInt8} (h : b.length < 8) : rLeft 4 (rLeft 4 b false) (rBad 4 b false) = [] ∧ rBad 4 (rLeft 4 b false) (rBad 4 b false) = true := by
 by_cases h4 : 4 ≤ b.length
 ·obtain ⟨a1, a2, a3⟩ := some_ok (n := 4) (b := b) h4
  rw [a2, a3]
  exact some_no (by rw [List.length_drop]; omega)
 ·obtain ⟨a2, a3⟩ := some_no (n := 4) (b := b) (by omega)
  rw [a2, a3]
  exact bad_no
set_option maxRecDepth 100000 in
set_option maxHeartbeats 1600000 in
theorem refRText_c (b : List UInt8) (most : Int) (h : b.length < 281474976710656) : ACalls Tryz.prog 126 1 8 [.ptr 0 0, .v (.int .i64 most)] (rr b false) (fun out H' => (tOk b most ∧ out = .ret (.list (((b.drop 4).take (ubn (b.take 4) 0)).map brow) .free) ∧ H' = rr ((b.drop 4).drop (ubn (b.take 4) 0)) false) ∨ (¬ tOk b most ∧ (∃ x, out = .ret (.list x .free)) ∧ H' = rr [] true)) := by
 have hlt := some4_lt b false
 by_cases h4 : 4 ≤ b.length
 ·have hC := refRNum_c b false h
  obtain ⟨e1, e2, e3⟩ := some_ok h4
  rw [e1] at hlt
  rw [e1, e2, e3] at hC
  generalize hn : ubn (b.take 4) 0 = n at *
  refine no_implicit_lambda% (acalls_of tok dok (f := 126) ⟨Tryz.func126, rfl, by kernel_rfl⟩ ?_); refine no_implicit_lambda% (c_start (fun _ h => h) ?_)
  refine no_implicit_lambda% (awd ?_)
  refine no_implicit_lambda% (cal [0] (hC) ?_ ?_)
  ·refine no_implicit_lambda% (ret1 ?_); first | (refine no_implicit_lambda% (akc ?_)) | (refine no_implicit_lambda% (aec ?_))
   refine no_implicit_lambda% (awd ?_)
   rw [show IntKind.i64.wrap (n : Int) = n from w64 (by omega) (by omega)]
   repeat' (first | (refine no_implicit_lambda% (zH ?_)) | (((with_reducible refine no_implicit_lambda% (zA ?_)); refine no_implicit_lambda% (zD rfl rfl rfl (fun hc => ?_) (fun hc => ?_)) <;> rw [hc])) | (((with_reducible refine no_implicit_lambda% (zB ?_)); refine no_implicit_lambda% (zE rfl (fun hc => ?_) (fun hc => ?_)))) | (((with_reducible refine no_implicit_lambda% (zC ?_)); refine no_implicit_lambda% (zF rfl rfl (fun hc => ?_) (fun hc => ?_)) <;> rw [hc])) | fail)
   ·have hf : ¬ tOk b most := by
     rintro ⟨_, k2, k3, k4⟩
     rw [hn] at k2 k3 k4
     simp at *
     omega
    refine no_implicit_lambda% (cal [0] (refFail_c (b.drop 4) false) ?_ ?_)
    ·refine no_implicit_lambda% (ret1 ?_); first | (refine no_implicit_lambda% (akc ?_)) | (refine no_implicit_lambda% (aec ?_))
     refine no_implicit_lambda% (awd ?_)
     exact e_ret_to (H' := rr [] true) (rest := []) (.freeSlot 4 rfl) rfl (.inr ⟨hf, ⟨_, rfl⟩, rfl⟩) (.of_eq rfl) (LE0 rfl)
    ·first | (exact zI) | (exact zJ)
   ·have hf : ¬ tOk b most := by
     rintro ⟨_, k2, k3, k4⟩
     rw [hn] at k2 k3 k4
     simp at *
     omega
    refine no_implicit_lambda% (cal [0] (refFail_c (b.drop 4) false) ?_ ?_)
    ·refine no_implicit_lambda% (ret1 ?_); first | (refine no_implicit_lambda% (akc ?_)) | (refine no_implicit_lambda% (aec ?_))
     refine no_implicit_lambda% (awd ?_)
     exact e_ret_to (H' := rr [] true) (rest := []) (.freeSlot 4 rfl) rfl (.inr ⟨hf, ⟨_, rfl⟩, rfl⟩) (.of_eq rfl) (LE0 rfl)
    ·first | (exact zI) | (exact zJ)
   ·have hf : ¬ tOk b most := by
     rintro ⟨_, k2, k3, k4⟩
     rw [hn] at k2 k3 k4
     simp at *
     omega
    refine no_implicit_lambda% (cal [0] (refFail_c (b.drop 4) false) ?_ ?_)
    ·refine no_implicit_lambda% (ret1 ?_); first | (refine no_implicit_lambda% (akc ?_)) | (refine no_implicit_lambda% (aec ?_))
     refine no_implicit_lambda% (awd ?_)
     exact e_ret_to (H' := rr [] true) (rest := []) (.freeSlot 4 rfl) rfl (.inr ⟨hf, ⟨_, rfl⟩, rfl⟩) (.of_eq rfl) (LE0 rfl)
    ·first | (exact zI) | (exact zJ)
   ·have hf : tOk b most := by
     refine ⟨h4, ?_, ?_, ?_⟩ <;> (rw [hn]; simp at *; omega)
    have hle : n ≤ (b.drop 4).length := by
     have := hf.2.2.2
     rwa [hn] at this
    have hdl : (b.drop 4).length ≤ b.length := by rw [List.length_drop]; omega
    have htl : ((b.drop 4).take n).length = n := by rw [List.length_take]; omega
    generalize b.drop 4 = c at *
    refine no_implicit_lambda% (aqs ?_ ?_)
    ·refine ⟨trivial, Int.natCast_nonneg n, Nat.zero_le _, ?_, brows c⟩
     simpa using hle
    refine k_as (.list ((c.take n).map brow) .free) (by simp [List.map_take, orFull, isFull, isNone]) ?_
    refine no_implicit_lambda% (awd ?_)
    refine no_implicit_lambda% (aqs ?_ ?_)
    ·refine ⟨Int.natCast_nonneg n, trivial, ?_, Nat.le_refl _, brows c⟩
     simpa using hle
    refine k_as (.list ((c.drop n).map brow) .free) (by rw [Int.toNat_natCast, List.take_of_length_le (Nat.le_refl _), List.map_drop]) ?_
    refine no_implicit_lambda% (awd ?_)
    exact e_ret_to (H' := rr (c.drop n) false) (rest := [_]) (.freeSlot 4 rfl) rfl (.inl ⟨hf, rfl, rfl⟩) (.swap _ _ _) (LE0 rfl)
   ·have hf : ¬ tOk b most := by
     rintro ⟨_, k2, k3, k4⟩
     rw [hn] at k2 k3 k4
     simp at *
     omega
    refine no_implicit_lambda% (cal [0] (refFail_c (b.drop 4) false) ?_ ?_)
    ·refine no_implicit_lambda% (ret1 ?_); first | (refine no_implicit_lambda% (akc ?_)) | (refine no_implicit_lambda% (aec ?_))
     refine no_implicit_lambda% (awd ?_)
     exact e_ret_to (H' := rr [] true) (rest := []) (.freeSlot 4 rfl) rfl (.inr ⟨hf, ⟨_, rfl⟩, rfl⟩) (.of_eq rfl) (LE0 rfl)
    ·first | (exact zI) | (exact zJ)
   ·have hf : tOk b most := by
     refine ⟨h4, ?_, ?_, ?_⟩ <;> (rw [hn]; simp at *; omega)
    have hle : n ≤ (b.drop 4).length := by
     have := hf.2.2.2
     rwa [hn] at this
    have hdl : (b.drop 4).length ≤ b.length := by rw [List.length_drop]; omega
    have htl : ((b.drop 4).take n).length = n := by rw [List.length_take]; omega
    generalize b.drop 4 = c at *
    refine no_implicit_lambda% (aqs ?_ ?_)
    ·refine ⟨trivial, Int.natCast_nonneg n, Nat.zero_le _, ?_, brows c⟩
     simpa using hle
    refine k_as (.list ((c.take n).map brow) .free) (by simp [List.map_take, orFull, isFull, isNone]) ?_
    refine no_implicit_lambda% (awd ?_)
    refine no_implicit_lambda% (aqs ?_ ?_)
    ·refine ⟨Int.natCast_nonneg n, trivial, ?_, Nat.le_refl _, brows c⟩
     simpa using hle
    refine k_as (.list ((c.drop n).map brow) .free) (by rw [Int.toNat_natCast, List.take_of_length_le (Nat.le_refl _), List.map_drop]) ?_
    refine no_implicit_lambda% (awd ?_)
    exact e_ret_to (H' := rr (c.drop n) false) (rest := [_]) (.freeSlot 4 rfl) rfl (.inl ⟨hf, rfl, rfl⟩) (.swap _ _ _) (LE0 rfl)
  ·first | (exact zI) | (exact zJ)
 ·have hC := refRNum_c b false h
  obtain ⟨e2, e3⟩ := some_no (n := 4) (b := b) (by omega)
  rw [e2, e3] at hC
  have hf : ¬ tOk b most := fun hf => h4 hf.1
  refine no_implicit_lambda% (acalls_of tok dok (f := 126) ⟨Tryz.func126, rfl, by kernel_rfl⟩ ?_); refine no_implicit_lambda% (c_start (fun _ h => h) ?_)
  refine no_implicit_lambda% (awd ?_)
  refine no_implicit_lambda% (cal [0] (hC) ?_ ?_)
  ·refine no_implicit_lambda% (ret1 ?_); first | (refine no_implicit_lambda% (akc ?_)) | (refine no_implicit_lambda% (aec ?_))
   refine no_implicit_lambda% (awd ?_)
   refine no_implicit_lambda% (cal [0] (refFail_c [] true) ?_ ?_)
   ·refine no_implicit_lambda% (ret1 ?_); first | (refine no_implicit_lambda% (akc ?_)) | (refine no_implicit_lambda% (aec ?_))
    refine no_implicit_lambda% (awd ?_)
    exact e_ret_to (H' := rr [] true) (rest := []) (.freeSlot 4 rfl) rfl (.inr ⟨hf, ⟨_, rfl⟩, rfl⟩) (.of_eq rfl) (LE0 rfl)
   ·first | (exact zI) | (exact zJ)
  ·first | (exact zI) | (exact zJ)
theorem refWhole_c (b : List UInt8) (bad : Bool) : ACalls Tryz.prog 85 1 1 [.ptr 0 0] (rr b bad) (fun out H' => out = .ret (.v (.bool (!bad && decide (((b.map brow).length : Int) = 0)))) ∧ H' = rr b bad) := by
 refine no_implicit_lambda% (acalls_of tok dok (f := 85) ⟨Tryz.func85, rfl, by kernel_rfl⟩ ?_); refine no_implicit_lambda% (c_start (fun _ h => h) ?_)
 cases bad
 ·refine no_implicit_lambda% (awd ?_)
  exact e_ret (H' := rr b false) (rest := []) rfl ⟨rfl, rfl⟩ (.of_eq rfl) (LE0 rfl)
 ·refine no_implicit_lambda% (awd ?_)
  exact e_ret (H' := rr b true) (rest := []) rfl ⟨rfl, rfl⟩ (.of_eq rfl) (LE0 rfl)
end Go.Proofs.YtncffhgoopdfgaaGreat
namespace Go.Proofs.YtncffhgoopdfgaaGreat
open Go.Am
set_option maxRecDepth 100000
end Go.Proofs.YtncffhgoopdfgaaGreat
