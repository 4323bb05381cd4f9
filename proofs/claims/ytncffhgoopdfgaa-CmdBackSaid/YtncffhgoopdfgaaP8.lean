/- Part 8 of what the laws CmdBack rest on: OcB, AmDf, OcC, OcD, Vb, Rd, Vf, Vg, AmSl, AmBw, RwA, RwC, Vc, RwD, RwE, RwB, RwF, RwG, RwH, RwI, RwJ, RwK, RwL, RwN, RwO, RwP, RwQ, AmSp, RwS, RwT, RwU, RwV, RwW, RwX, RwY, RwM, RwZ, RxA. -/
import Derived.Test.YtncffhgoopdfgaaP7
import Derived.Recover
import Derived.LaidEql
set_option linter.unusedSimpArgs false
set_option linter.unusedVariables false
namespace Go.Proofs.Ytncffhgoopdfgaa
open Go.Am
/-! the reader -/
def rd (l : List UInt8) : Heap := [(0, .box [.list (l.map brow) .free])]
abbrev gone : AOut := .panic (.iface 100 (.ptr 0 0))
theorem fail_c (l : List UInt8) : ACalls Try.prog 85 1 1 [.ptr 0 0] (rd l) (fun out H' => out = gone ∧ H' = rd l) := by
 refine no_implicit_lambda% (acalls_of tok dok (f := 85) ⟨Try.func85, rfl, by kernel_rfl⟩ ?_); refine no_implicit_lambda% (c_start (fun _ h => h) ?_)
 refine no_implicit_lambda% (awd ?_)
 exact e_pan (H' := rd l) (rest := []) ⟨rfl, rfl⟩ (.of_eq rfl) (LE0 rfl)
theorem take_c (l : List UInt8) (n : Nat) (h : l.length < 281474976710656) (hn46 : n < 70368744177664 := by omega) : ACalls Try.prog 89 1 2 [.ptr 0 0, .v (.int .i64 n)] (rd l) (fun out H' => (n ≤ l.length ∧ out = .ret (.list ((l.take n).map brow) .free) ∧ H' = rd (l.drop n)) ∨ (l.length < n ∧ out = gone ∧ H' = [])) := by
 refine no_implicit_lambda% (acalls_of tok dok (f := 89) ⟨Try.func89, rfl, by kernel_rfl⟩ ?_); refine no_implicit_lambda% (c_start (fun _ h => h) ?_)
 refine no_implicit_lambda% (awd ?_)
 ((with_reducible refine no_implicit_lambda% (zB ?_)); refine no_implicit_lambda% (zE rfl (fun hc => ?_) (fun hc => ?_)))
 ·refine no_implicit_lambda% (awd ?_)
  refine no_implicit_lambda% (cal [0] (fail_c l) ?_ ?_)
  ·first | (exact zI) | (exact zJ)
  ·intro x H' h
   obtain ⟨h1, h2⟩ := h
   cases h1; subst h2
   refine no_implicit_lambda% (awd ?_)
   simp only [List.length_map, gt_iff_lt, decide_eq_true_eq] at hc
   exact e_pan (H' := []) (rest := rd l) (.inr ⟨by omega, rfl, rfl⟩) (.of_eq rfl) (LE0 rfl)
 ·simp only [List.length_map, gt_iff_lt, decide_eq_false_iff_not] at hc
  have hn : n ≤ l.length := by omega
  refine no_implicit_lambda% (awd ?_)
  refine no_implicit_lambda% (aqs ?_ ?_)
  ·refine ⟨trivial, Int.natCast_nonneg n, Nat.zero_le _, ?_, brows l⟩
   simpa using hn
  refine k_as (.list ((l.take n).map brow) .free) (by simp [List.map_take, orFull, isFull, isNone]) ?_
  refine no_implicit_lambda% (awd ?_)
  refine no_implicit_lambda% (cal [] (clone_c _ (brows (l.take n)) (by simp; omega)) ?_ ?_)
  ·refine no_implicit_lambda% (ret1 ?_); first | (refine no_implicit_lambda% (akc ?_)) | (refine no_implicit_lambda% (aec ?_))
   refine no_implicit_lambda% (awd ?_)
   refine no_implicit_lambda% (aqs ?_ ?_)
   ·refine ⟨Int.natCast_nonneg n, trivial, ?_, Nat.le_refl _, brows l⟩
    simpa using hn
   refine k_as (.list ((l.drop n).map brow) .free) (by rw [Int.toNat_natCast, List.take_of_length_le (Nat.le_refl _), List.map_drop]) ?_
   refine no_implicit_lambda% (awd ?_)
   exact e_ret (H' := rd (l.drop n)) (rest := []) rfl (.inl ⟨hn, rfl, rfl⟩) (.of_eq rfl) (LE0 rfl)
  ·first | (exact zI) | (exact zJ)
def ubn : List UInt8 → Nat → Nat
 | [], a => a
 | c :: l, a => ubn l (a * 256 + c.toNat)
theorem u64_of {n : Nat} (h : n < 18446744073709551616) : IntKind.u64.wrap (n : Int) = n := by rw [IntKind.wrap_u64]; omega
theorem ofInt_nat {n : Nat} (h : n < 18446744073709551616) : (BitVec.ofInt IntKind.u64.bits (n : Int)).toNat = n := by
 show (BitVec.ofInt 64 (n : Int)).toNat = n
 rw [BitVec.toNat_ofInt]
 omega
theorem shift_in (a c : Nat) (ha : a * 256 + c < 18446744073709551616) (hc : c < 256) :
  IntKind.u64.wrap (BitVec.ofInt IntKind.u64.bits (IntKind.u64.wrap ((a : Int) * 2 ^ min (Int.toNat 8) IntKind.u64.bits)) ||| BitVec.ofInt IntKind.u64.bits (IntKind.u64.wrap (c : Int))).toNat = ((a * 256 + c : Nat) : Int) := by
 have k1 : a * 256 < 18446744073709551616 := Nat.lt_of_le_of_lt (Nat.le_add_right _ _) ha
 have k2 : c < 18446744073709551616 := Nat.lt_of_le_of_lt (Nat.le_add_left _ _) ha
 have k3 : c < 2 ^ 8 := hc
 have e1 : (a : Int) * 2 ^ min (Int.toNat 8) IntKind.u64.bits = ((a * 256 : Nat) : Int) := by
  have : min (Int.toNat 8) IntKind.u64.bits = 8 := rfl
  rw [this, Int.natCast_mul]
  have : (2 : Int) ^ 8 = ((256 : Nat) : Int) := by decide
  rw [this]
 rw [e1, u64_of k1, u64_of k2, BitVec.toNat_or, ofInt_nat k1, ofInt_nat k2]
 have e2 : a * 256 = a <<< 8 := by rw [Nat.shiftLeft_eq]
 rw [e2, ← Nat.shiftLeft_add_eq_or_of_lt k3, ← e2]
 exact u64_of ha
def numSt (l r : List UInt8) (n a i : Nat) : ASt :=
 ⟨[.ptr 0 0, .v (.int .i64 n), .dead, .dead, .v (.int .u64 0), .v (.int .u64 a), .dead, .dead, .dead, .dead, .list (l.map brow) .free, .v (.int .i64 l.length), .v (.int .i64 i), .dead, .dead, .dead, .dead, .dead, .dead, .dead, .dead, .dead, .dead], rd r, 2⟩
theorem number_c (l : List UInt8) (n : Nat) (hn : n ≤ 8) (h : l.length < 281474976710656) : ACalls Try.prog 88 1 2 [.ptr 0 0, .v (.int .i64 n)] (rd l) (fun out H' => (n ≤ l.length ∧ out = .ret (.v (.int .u64 (ubn (l.take n) 0))) ∧ H' = rd (l.drop n)) ∨ (l.length < n ∧ out = gone ∧ H' = [])) := by
 refine no_implicit_lambda% (acalls_of tok dok (f := 88) ⟨Try.func88, rfl, by kernel_rfl⟩ ?_); refine no_implicit_lambda% (c_start (fun _ h => h) ?_)
 refine no_implicit_lambda% (awd ?_)
 refine no_implicit_lambda% (cal [0] (take_c l n h) ?_ ?_)
 ·intro x H' h; rcases h with ⟨hg, h1, h2⟩ | ⟨hg, h1, h2⟩ <;> first | (cases h1; done) | (cases h1; subst h2)
  refine no_implicit_lambda% (akc ?_)
  refine no_implicit_lambda% (awd ?_)
  refine c_loop2 (numSt (l.take n) (l.drop n) n) (fun a i => i ≤ (l.take n).length ∧ a < 256 ^ i ∧ ubn ((l.take n).drop i) a = ubn (l.take n) 0) (fun _ i => (l.take n).length - i) 0 0 ⟨Nat.zero_le _, by decide, rfl⟩ (.to [] ?_ (.of_eq ?_) (LE0 rfl)) ?_
  ·unfold numSt
   (repeat' (first | (with_reducible exact .nil) | (refine no_implicit_lambda% (.cons ?_ ?_)) | (exact Wk.dead _) | (with_reducible exact Wk.refl _) | (exact WkL.nil))) <;> first | (exact Wk.eq rfl) | (exact Wk.free _ _) | (exact Wk.int (w64 (by omega) (by omega))) | (exact Wk.int (by simp)) | (exact Wk.int (by simp; omega)) | (exact Wk.eq (by simp))
  ·rfl
  ·rintro a i ⟨h1, h2, h3⟩
   refine no_implicit_lambda% (c_turn (fun _ h => h) (fun _ h => h) rfl ?_)
   refine no_implicit_lambda% (awd ?_)
   generalize hL : l.take n = q at *
   ((with_reducible refine no_implicit_lambda% (zB ?_)); refine no_implicit_lambda% (zE rfl (fun hc => ?_) (fun hc => ?_)))
   ·simp only [decide_eq_true_eq] at hc
    have hi : i < q.length := by omega
    have h8 : (q[i]).toNat < 256 := (q[i]).toNat_lt
    have hq : q.length ≤ n := by rw [← hL]; simp [Nat.min_le_left]
    have hb : a * 256 + (q[i]).toNat < 18446744073709551616 := by
     have h5 : 256 ^ i ≤ 256 ^ 7 := Nat.pow_le_pow_right (by decide) (by omega)
     have h6 : (256 : Nat) ^ 7 = 72057594037927936 := by decide
     omega
    refine no_implicit_lambda% (awd ?_)
    (with_reducible refine no_implicit_lambda% (zC ?_)); refine no_implicit_lambda% (a_qS rfl (qIx (row := [.v (.int .u8 (q[i]).toNat)]) (fun _ h => h)) ?_ ?_)
    ·exact ⟨Int.natCast_nonneg i, (by rw [Int.toNat_natCast, List.getElem?_map, List.getElem?_eq_getElem hi]; rfl), rfl⟩
    refine no_implicit_lambda% (awd ?_)
    refine k_loop (a * 256 + (q[i]).toNat, i + 1) ⟨hi, ?_, ?_⟩ (by show q.length - (i + 1) < q.length - i; omega) (.to [] ?_ (.of_eq rfl) (LE0 rfl))
    ·show a * 256 + (q[i]).toNat < 256 ^ (i + 1)
     rw [Nat.pow_succ]; omega
    ·show ubn (q.drop (i + 1)) (a * 256 + (q[i]).toNat) = ubn q 0
     rw [← h3, List.drop_eq_getElem_cons hi]; rfl
    ·unfold numSt
     repeat' (first | (with_reducible exact .nil) | (refine no_implicit_lambda% (.cons ?_ ?_)) | (exact Wk.dead _) | (with_reducible exact Wk.refl _) | (exact WkL.nil))
     ·exact .int (shift_in a _ hb h8)
     ·exact .int (w64 (by omega) (by omega))
   ·refine no_implicit_lambda% (awd ?_)
    simp only [decide_eq_false_iff_not] at hc
    have hi : i = q.length := by omega
    subst hi
    have h4 : a = ubn q 0 := by simpa [ubn] using h3
    exact e_ret (H' := rd (l.drop n)) (rest := []) rfl (.inl ⟨hg, by rw [h4]; rfl, rfl⟩) (.of_eq rfl) (LE0 rfl)
 ·intro x H' h; rcases h with ⟨hg, h1, h2⟩ | ⟨hg, h1, h2⟩ <;> first | (cases h1; done) | (cases h1; subst h2)
  refine no_implicit_lambda% (awd ?_)
  exact e_pan (H' := []) (rest := _) (.inr ⟨hg, rfl, rfl⟩) (.of_eq rfl) (LE0 rfl)
theorem ubn_lt : ∀ (l : List UInt8) (a : Nat), ubn l a < (a + 1) * 256 ^ l.length
 | [], a => by simp [ubn]
 | c :: l, a => by
  have h := ubn_lt l (a * 256 + c.toNat)
  have hc := c.toNat_lt
  rw [ubn, List.length_cons, Nat.pow_succ, Nat.mul_comm (256 ^ l.length) 256, ← Nat.mul_assoc]
  exact Nat.lt_of_lt_of_le h (Nat.mul_le_mul_right _ (by omega))
theorem ubn_take (l : List UInt8) (n : Nat) : ubn (l.take n) 0 < 256 ^ n := by
 have h := ubn_lt (l.take n) 0
 rw [Nat.zero_add, Nat.one_mul] at h
 exact Nat.lt_of_lt_of_le h (Nat.pow_le_pow_right (by decide) (by simp [Nat.min_le_left]))
theorem rByte_c (l : List UInt8) (h : l.length < 281474976710656) : ACalls Try.prog 51 1 2 [.ptr 0 0] (rd l) (fun out H' => (1 ≤ l.length ∧ out = .ret (.v (.int .u8 (ubn (l.take 1) 0))) ∧ H' = rd (l.drop 1)) ∨ (l.length < 1 ∧ out = gone ∧ H' = [])) := by
 refine no_implicit_lambda% (acalls_of tok dok (f := 51) ⟨Try.func51, rfl, by kernel_rfl⟩ ?_); refine no_implicit_lambda% (c_start (fun _ h => h) ?_)
 refine no_implicit_lambda% (awd ?_)
 refine no_implicit_lambda% (cal [0] (number_c l 1 (by decide) h) ?_ ?_)
 ·intro x H' h; rcases h with ⟨hg, h1, h2⟩ | ⟨hg, h1, h2⟩ <;> first | (cases h1; done) | (cases h1; subst h2)
  refine no_implicit_lambda% (akc ?_)
  refine no_implicit_lambda% (awd ?_)
  have hb := ubn_take l 1
  rw [show IntKind.u8.wrap (ubn (l.take 1) 0 : Int) = ubn (l.take 1) 0 by rw [IntKind.wrap_u8]; omega]
  exact e_ret (H' := rd (l.drop 1)) (rest := []) rfl (.inl ⟨hg, rfl, rfl⟩) (.of_eq rfl) (LE0 rfl)
 ·intro x H' h; rcases h with ⟨hg, h1, h2⟩ | ⟨hg, h1, h2⟩ <;> first | (cases h1; done) | (cases h1; subst h2)
  refine no_implicit_lambda% (awd ?_)
  exact e_pan (H' := []) (rest := _) (.inr ⟨hg, rfl, rfl⟩) (.of_eq rfl) (LE0 rfl)
theorem rNum_c (l : List UInt8) (h : l.length < 281474976710656) : ACalls Try.prog 52 1 2 [.ptr 0 0] (rd l) (fun out H' => (4 ≤ l.length ∧ out = .ret (.v (.int .u32 (ubn (l.take 4) 0))) ∧ H' = rd (l.drop 4)) ∨ (l.length < 4 ∧ out = gone ∧ H' = [])) := by
 refine no_implicit_lambda% (acalls_of tok dok (f := 52) ⟨Try.func52, rfl, by kernel_rfl⟩ ?_); refine no_implicit_lambda% (c_start (fun _ h => h) ?_)
 refine no_implicit_lambda% (awd ?_)
 refine no_implicit_lambda% (cal [0] (number_c l 4 (by decide) h) ?_ ?_)
 ·intro x H' h; rcases h with ⟨hg, h1, h2⟩ | ⟨hg, h1, h2⟩ <;> first | (cases h1; done) | (cases h1; subst h2)
  refine no_implicit_lambda% (akc ?_)
  refine no_implicit_lambda% (awd ?_)
  have hb := ubn_take l 4
  rw [show IntKind.u32.wrap (ubn (l.take 4) 0 : Int) = ubn (l.take 4) 0 by rw [IntKind.wrap_u32]; omega]
  exact e_ret (H' := rd (l.drop 4)) (rest := []) rfl (.inl ⟨hg, rfl, rfl⟩) (.of_eq rfl) (LE0 rfl)
 ·intro x H' h; rcases h with ⟨hg, h1, h2⟩ | ⟨hg, h1, h2⟩ <;> first | (cases h1; done) | (cases h1; subst h2)
  refine no_implicit_lambda% (awd ?_)
  exact e_pan (H' := []) (rest := _) (.inr ⟨hg, rfl, rfl⟩) (.of_eq rfl) (LE0 rfl)
theorem rLong_c (l : List UInt8) (h : l.length < 281474976710656) : ACalls Try.prog 133 1 2 [.ptr 0 0] (rd l) (fun out H' => (8 ≤ l.length ∧ out = .ret (.v (.int .u64 (ubn (l.take 8) 0))) ∧ H' = rd (l.drop 8)) ∨ (l.length < 8 ∧ out = gone ∧ H' = [])) := by
 refine no_implicit_lambda% (acalls_of tok dok (f := 133) ⟨Try.func133, rfl, by kernel_rfl⟩ ?_); refine no_implicit_lambda% (c_start (fun _ h => h) ?_)
 refine no_implicit_lambda% (awd ?_)
 refine no_implicit_lambda% (cal [0] (number_c l 8 (by decide) h) ?_ ?_)
 ·intro x H' h; rcases h with ⟨hg, h1, h2⟩ | ⟨hg, h1, h2⟩ <;> first | (cases h1; done) | (cases h1; subst h2)
  refine no_implicit_lambda% (akc ?_)
  refine no_implicit_lambda% (awd ?_)
  exact e_ret (H' := rd (l.drop 8)) (rest := []) rfl (.inl ⟨hg, rfl, rfl⟩) (.of_eq rfl) (LE0 rfl)
 ·intro x H' h; rcases h with ⟨hg, h1, h2⟩ | ⟨hg, h1, h2⟩ <;> first | (cases h1; done) | (cases h1; subst h2)
  refine no_implicit_lambda% (awd ?_)
  exact e_pan (H' := []) (rest := _) (.inr ⟨hg, rfl, rfl⟩) (.of_eq rfl) (LE0 rfl)
theorem canon2 (b : Nat) : canonB (canonB b) = canonB b := by
 have h : nanB 9221120237041090561 = true := by decide
 unfold canonB
 cases hb : nanB b <;> simp [hb, h]
def fOk (l : List UInt8) : Prop := 8 ≤ l.length ∧ canonB (ubn (l.take 8) 0) = ubn (l.take 8) 0
theorem rFloat_c (l : List UInt8) (h : l.length < 281474976710656) : ACalls Try.prog 147 1 2 [.ptr 0 0] (rd l) (fun out H' => (fOk l ∧ out = .ret (.v (.float .f64 (ubn (l.take 8) 0))) ∧ H' = rd (l.drop 8)) ∨ (¬ fOk l ∧ out = gone ∧ H' = [])) := by
 refine no_implicit_lambda% (acalls_of tok dok (f := 147) ⟨Try.func147, rfl, by kernel_rfl⟩ ?_); refine no_implicit_lambda% (c_start (fun _ h => h) ?_)
 refine no_implicit_lambda% (awd ?_)
 refine no_implicit_lambda% (cal [0] (rLong_c l h) ?_ ?_)
 ·intro x H' h; rcases h with ⟨hg, h1, h2⟩ | ⟨hg, h1, h2⟩ <;> first | (cases h1; done) | (cases h1; subst h2)
  refine no_implicit_lambda% (akc ?_)
  refine no_implicit_lambda% (awd ?_)
  refine no_implicit_lambda% (cal [] (from_c (ubn (l.take 8) 0)) ?_ ?_)
  ·refine no_implicit_lambda% (ret1 ?_); first | (refine no_implicit_lambda% (akc ?_)) | (refine no_implicit_lambda% (aec ?_))
   refine no_implicit_lambda% (awd ?_)
   refine no_implicit_lambda% (cal [] (bits_c _) ?_ ?_)
   ·refine no_implicit_lambda% (ret1 ?_); first | (refine no_implicit_lambda% (akc ?_)) | (refine no_implicit_lambda% (aec ?_))
    refine no_implicit_lambda% (awd ?_)
    ((with_reducible refine no_implicit_lambda% (zB ?_)); refine no_implicit_lambda% (zE rfl (fun hc => ?_) (fun hc => ?_)))
    ·rw [canon2] at hc; simp at hc
     refine no_implicit_lambda% (awd ?_)
     refine no_implicit_lambda% (cal [0] (fail_c (l.drop 8)) ?_ ?_)
     ·first | (exact zI) | (exact zJ)
     ·intro x H' h
      obtain ⟨h1, h2⟩ := h
      cases h1; subst h2
      refine no_implicit_lambda% (awd ?_)
      exact e_pan (H' := []) (rest := _) (.inr ⟨fun hf => hc (by first | exact hf.2 | rw [hf.2]), rfl, rfl⟩) (.of_eq rfl) (LE0 rfl)
    ·rw [canon2] at hc; simp at hc
     refine no_implicit_lambda% (awd ?_)
     have hf : canonB (ubn (l.take 8) 0) = ubn (l.take 8) 0 := Int.ofNat_inj.1 hc
     exact e_ret (H' := rd (l.drop 8)) (rest := []) rfl (.inl ⟨⟨hg, hf⟩, by rw [hf]; rfl, rfl⟩) (.of_eq rfl) (LE0 rfl)
   ·first | (exact zI) | (exact zJ)
  ·first | (exact zI) | (exact zJ)
 ·intro x H' h; rcases h with ⟨hg, h1, h2⟩ | ⟨hg, h1, h2⟩ <;> first | (cases h1; done) | (cases h1; subst h2)
  refine no_implicit_lambda% (awd ?_)
  exact e_pan (H' := []) (rest := _) (.inr ⟨fun hf => by have := hf.1; omega, rfl, rfl⟩) (.of_eq rfl) (LE0 rfl)
def tOk (l : List UInt8) (most : Int) : Prop := 4 ≤ l.length ∧ ubn (l.take 4) 0 ≤ 1048576 ∧ (0 ≤ most → (ubn (l.take 4) 0 : Int) ≤ most) ∧ ubn (l.take 4) 0 ≤ (l.drop 4).length
theorem rText_c (l : List UInt8) (most : Int) (h : l.length < 281474976710656) : ACalls Try.prog 53 1 3 [.ptr 0 0, .v (.int .i64 most)] (rd l) (fun out H' => (tOk l most ∧ out = .ret (.list (((l.drop 4).take (ubn (l.take 4) 0)).map brow) .free) ∧ H' = rd ((l.drop 4).drop (ubn (l.take 4) 0))) ∨ (¬ tOk l most ∧ out = gone ∧ H' = [])) := by
 refine no_implicit_lambda% (acalls_of tok dok (f := 53) ⟨Try.func53, rfl, by kernel_rfl⟩ ?_); refine no_implicit_lambda% (c_start (fun _ h => h) ?_)
 refine no_implicit_lambda% (awd ?_)
 refine no_implicit_lambda% (cal [0] (rNum_c l h) ?_ ?_)
 ·intro x H' h; rcases h with ⟨hg, h1, h2⟩ | ⟨hg, h1, h2⟩ <;> first | (cases h1; done) | (cases h1; subst h2)
  refine no_implicit_lambda% (akc ?_)
  refine no_implicit_lambda% (awd ?_)
  have hb := ubn_take l 4
  rw [show IntKind.i64.wrap (ubn (l.take 4) 0 : Int) = ubn (l.take 4) 0 by rw [w64] <;> omega]
  repeat' (first | (refine no_implicit_lambda% (zH ?_)) | (((with_reducible refine no_implicit_lambda% (zA ?_)); refine no_implicit_lambda% (zD rfl rfl rfl (fun hc => ?_) (fun hc => ?_)) <;> rw [hc])) | (((with_reducible refine no_implicit_lambda% (zB ?_)); refine no_implicit_lambda% (zE rfl (fun hc => ?_) (fun hc => ?_)))) | (((with_reducible refine no_implicit_lambda% (zC ?_)); refine no_implicit_lambda% (zF rfl rfl (fun hc => ?_) (fun hc => ?_)) <;> rw [hc])) | fail)
  ·have hno : ¬ tOk l most := fun hf => by obtain ⟨_, h2, _⟩ := hf; simp at *; omega
   refine no_implicit_lambda% (cal [0] (fail_c (l.drop 4)) ?_ ?_)
   ·first | (exact zI) | (exact zJ)
   ·intro x H' h
    obtain ⟨h1, h2⟩ := h
    cases h1; subst h2
    refine no_implicit_lambda% (awd ?_)
    exact e_pan (H' := []) (rest := _) (.inr ⟨hno, rfl, rfl⟩) (.of_eq rfl) (LE0 rfl)
  ·have hno : ¬ tOk l most := fun hf => by obtain ⟨_, _, h3, _⟩ := hf; simp at *; omega
   refine no_implicit_lambda% (cal [0] (fail_c (l.drop 4)) ?_ ?_)
   ·first | (exact zI) | (exact zJ)
   ·intro x H' h
    obtain ⟨h1, h2⟩ := h
    cases h1; subst h2
    refine no_implicit_lambda% (awd ?_)
    exact e_pan (H' := []) (rest := _) (.inr ⟨hno, rfl, rfl⟩) (.of_eq rfl) (LE0 rfl)
  ·have hk : 4 ≤ l.length ∧ ubn (l.take 4) 0 ≤ 1048576 ∧ (0 ≤ most → (ubn (l.take 4) 0 : Int) ≤ most) := by simp at *; omega
   refine no_implicit_lambda% (cal [0] (take_c (l.drop 4) (ubn (l.take 4) 0) (by simp; omega)) ?_ ?_)
   ·intro x H' h; rcases h with ⟨hg, h1, h2⟩ | ⟨hg, h1, h2⟩ <;> first | (cases h1; done) | (cases h1; subst h2)
    refine no_implicit_lambda% (akc ?_)
    refine no_implicit_lambda% (awd ?_)
    exact e_ret (H' := rd ((l.drop 4).drop (ubn (l.take 4) 0))) (rest := []) rfl (.inl ⟨⟨hk.1, hk.2.1, hk.2.2, hg⟩, rfl, rfl⟩) (.of_eq rfl) (LE0 rfl)
   ·intro x H' h; rcases h with ⟨hg, h1, h2⟩ | ⟨hg, h1, h2⟩ <;> first | (cases h1; done) | (cases h1; subst h2)
    refine no_implicit_lambda% (awd ?_)
    exact e_pan (H' := []) (rest := _) (.inr ⟨fun hf => by have := hf.2.2.2; omega, rfl, rfl⟩) (.of_eq rfl) (LE0 rfl)
  ·have hk : 4 ≤ l.length ∧ ubn (l.take 4) 0 ≤ 1048576 ∧ (0 ≤ most → (ubn (l.take 4) 0 : Int) ≤ most) := by simp at *; omega
   refine no_implicit_lambda% (cal [0] (take_c (l.drop 4) (ubn (l.take 4) 0) (by simp; omega)) ?_ ?_)
   ·intro x H' h; rcases h with ⟨hg, h1, h2⟩ | ⟨hg, h1, h2⟩ <;> first | (cases h1; done) | (cases h1; subst h2)
    refine no_implicit_lambda% (akc ?_)
    refine no_implicit_lambda% (awd ?_)
    exact e_ret (H' := rd ((l.drop 4).drop (ubn (l.take 4) 0))) (rest := []) rfl (.inl ⟨⟨hk.1, hk.2.1, hk.2.2, hg⟩, rfl, rfl⟩) (.of_eq rfl) (LE0 rfl)
   ·intro x H' h; rcases h with ⟨hg, h1, h2⟩ | ⟨hg, h1, h2⟩ <;> first | (cases h1; done) | (cases h1; subst h2)
    refine no_implicit_lambda% (awd ?_)
    exact e_pan (H' := []) (rest := _) (.inr ⟨fun hf => by have := hf.2.2.2; omega, rfl, rfl⟩) (.of_eq rfl) (LE0 rfl)
 ·intro x H' h; rcases h with ⟨hg, h1, h2⟩ | ⟨hg, h1, h2⟩ <;> first | (cases h1; done) | (cases h1; subst h2)
  refine no_implicit_lambda% (awd ?_)
  exact e_pan (H' := []) (rest := _) (.inr ⟨fun hf => by have := hf.1; omega, rfl, rfl⟩) (.of_eq rfl) (LE0 rfl)
theorem ubn_be (x : Nat) : ∀ n a, ubn (be x n) a = a * 256 ^ n + x % 256 ^ n
 | 0, a => by simp [ubn, be, Nat.mod_one]
 | n + 1, a => by
  rw [be, ubn, ubn_be x n, UInt8.toNat_ofNat', Nat.shiftRight_eq_div_pow]
  have e : 2 ^ (8 * n) = 256 ^ n := by rw [Nat.pow_mul]
  have e8 : (2 : Nat) ^ 8 = 256 := by decide
  rw [e, e8, Nat.pow_succ, Nat.mul_comm (256 ^ n) 256, Nat.add_mul, Nat.mul_assoc, Nat.add_assoc]
  congr 1
  rw [Nat.mul_comm 256 (256 ^ n), Nat.mod_mul, Nat.mul_comm (x / 256 ^ n % 256)]
  omega
theorem take_be (x n : Nat) (r : List UInt8) : (be x n ++ r).take n = be x n := by
 rw [List.take_append_of_le_length (by rw [be_len]; exact Nat.le_refl _), List.take_of_length_le (by rw [be_len]; exact Nat.le_refl _)]
theorem drop_be (x n : Nat) (r : List UInt8) : (be x n ++ r).drop n = r := by
 rw [List.drop_append_of_le_length (by rw [be_len]; exact Nat.le_refl _), List.drop_of_length_le (by rw [be_len]; exact Nat.le_refl _)]; rfl
theorem back_be (x n : Nat) (r : List UInt8) (h : x < 256 ^ n) : ubn ((be x n ++ r).take n) 0 = x := by
 rw [take_be, ubn_be, Nat.mod_eq_of_lt h, Nat.zero_mul, Nat.zero_add]
theorem cut_c (b : List UInt8) (n : Nat) (hn : n < 1000) : ACalls Try.prog 13 0 0 [.list (b.map brow) .free, .v (.int .i64 n)] [] (fun out H' => out = .ret (.list ((b.take n).map brow) .free) ∧ H' = []) := by
 refine no_implicit_lambda% (acalls_of tok dok (f := 13) ⟨Try.func13, rfl, by kernel_rfl⟩ ?_); refine no_implicit_lambda% (c_start (fun _ h => h) ?_)
 refine no_implicit_lambda% (awd ?_)
 ((with_reducible refine no_implicit_lambda% (zB ?_)); refine no_implicit_lambda% (zE rfl (fun hc => ?_) (fun hc => ?_)))
 ·simp only [List.length_map, gt_iff_lt, decide_eq_true_eq] at hc
  refine no_implicit_lambda% (awd ?_)
  refine no_implicit_lambda% (aqs ?_ ?_)
  ·refine ⟨trivial, Int.natCast_nonneg n, Nat.zero_le _, ?_, brows b⟩
   simp; omega
  refine k_as (.list ((b.take n).map brow) .free) (by simp [List.map_take, orFull, isFull, isNone]) ?_
  refine no_implicit_lambda% (awd ?_)
  exact e_ret (H' := []) rfl ⟨rfl, rfl⟩ (.refl _) (LE0 rfl)
 ·simp only [List.length_map, gt_iff_lt, decide_eq_false_iff_not] at hc
  refine no_implicit_lambda% (awd ?_)
  exact e_ret (H' := []) rfl ⟨by rw [List.take_of_length_le (by omega)]; rfl, rfl⟩ (.refl _) (LE0 rfl)
end Go.Proofs.Ytncffhgoopdfgaa
namespace Go.Am
open Go.RowKit
section
variable {P : Program} {TT : Types} {B : Base}
theorem rel_start {G : Ghost} {w : World} {vals : Array Value} {H : Heap} {k m : Nat} {args : List AV} (hk : ∀ id, G.live id → id < k) (hbase : G.base = w.heap.size) (hh : Holds G w H) (hlen : args.length = vals.size) (hsim : ∀ i a, args[i]? = some a → Sim G a (vals.getD i undef)) :
  Rel ⟨G, w, H, k, []⟩ No G ⟨args ++ List.replicate (m - args.length) .dead, H, k⟩ { tmps := vals ++ Array.replicate (m - vals.size) undef, defers := [] } w := by
 refine ⟨by simp [hlen], fun t _ => ?_, rfl, hh, Step.refl _ _ _, hk, by rw [hbase]; exact Nat.le_refl _, Nat.le_refl _, fun id hid => .inl hid⟩
 rw [getA_eq]
 by_cases ht : t < args.length
 ·have e1 : (args ++ List.replicate (m - args.length) AV.dead).getD t .dead = args[t] := by simp [List.getElem?_append, ht]
  have e2 : (vals ++ Array.replicate (m - vals.size) undef).getD t undef = vals.getD t undef := by
   have : t < vals.size := by omega
   rw [Array.getD_eq_getD_getElem?, Array.getElem?_append_left this, Array.getD_eq_getD_getElem?]
  rw [e1, e2]
  exact .of (hsim t _ (List.getElem?_eq_getElem ht))
 ·have e1 : (args ++ List.replicate (m - args.length) AV.dead).getD t .dead = .dead := by
   rw [List.getD, List.getElem?_append_right (by omega), List.getElem?_replicate]
   split <;> rfl
  rw [e1]
  exact .of (.data _ _ (.dead _))
theorem Rel.anew {G : Ghost} {σ : ASt} {a : Act} {w : World} (h : Rel B No G σ a w) : Rel ⟨G, w, σ.L, σ.next, B.D⟩ No G σ a w :=
 ⟨h.size, h.slots, h.defers, h.holds, Step.refl _ _ _, h.next, h.base, Nat.le_refl _, fun id hid => .inl hid⟩
theorem Rel.join {G2 G3 : Ghost} {σ τ : ASt} {a a3 : Act} {w w3 : World} {D : List Deferred} (h : Rel B No G2 σ a w) (h2 : Rel ⟨G2, w, σ.L, σ.next, D⟩ No G3 τ a3 w3) : Rel ⟨B.G, B.w, B.H, B.k, D⟩ No G3 τ a3 w3 :=
 ⟨h2.size, h2.slots, h2.defers, h2.holds, h.step.trans h2.step, h2.next, h2.base, Nat.le_trans h.low h2.low, fun id hid => (h2.old id hid).elim (h.old id) fun k => .inr (Nat.le_trans h.low k)⟩
theorem Rel.perm {G : Ghost} {s : List AV} {L L' : Heap} {n : Nat} {a : Act} {w : World} (hr : Rel B No G ⟨s, L, n⟩ a w) (hp : L.Perm L') : Rel B No G ⟨s, L', n⟩ a w :=
 ⟨hr.size, hr.slots, hr.defers, hr.holds.perm hp, hr.step.perm (.refl _) hp, hr.next, hr.base, hr.low, hr.old⟩
def keepH (m : Nat) (H : Heap) : Prop := ∀ f : Nat → Nat, (∀ i, i < m → f i = i) → renH f H = H
def keepL (m : Nat) (l : List AV) : Prop := ∀ f : Nat → Nat, (∀ i, i < m → f i = i) → AV.renL f l = l
def idsTo (m j : Nat) : List Nat := List.range m ++ [j]
theorem idsTo_lt {m j n i : Nat} (h : i < m) : rn (idsTo m j) n i = i := by
 unfold rn idsTo
 rw [List.getElem?_append_left (by simpa using h)]
 simp [h]
theorem idsTo_at {m j n : Nat} : rn (idsTo m j) n m = j := by
 unfold rn idsTo
 rw [List.getElem?_append_right (by simp)]
 simp
theorem idsTo_nodup {m j : Nat} (h : m ≤ j) : (idsTo m j).Nodup := by
 unfold idsTo
 rw [List.nodup_append]
 refine ⟨List.nodup_range, by simp, fun a ha b hb => ?_⟩
 simp at ha hb
 omega
def thenK (B : Base) (next : Act → World → Prop) : Kc := fun e s L n => e = .normal ∧ ∀ G' a' w', Rel B No G' ⟨s, L, n⟩ a' w' → next a' w'
theorem wp_then (hT : TOk P TT) {d : Nat → List Oper → List AV → Heap → Nat → Kc → Prop} (hD : DOk P d) {c : Code} {s : List AV} {L : Heap} {n : Nat} {G : Ghost} {a : Act} {w : World} {next : Act → World → Prop} {Q : Exit → Act → World → Prop}
  (hr : Rel B No G ⟨s, L, n⟩ a w) (h : acode P TT ⟨d, fun _ => False⟩ c s L n (thenK B next)) : c.wp P (Exit.then next Q) a w :=
 wp_mono (acode_sound0 hT hD c s L n _ G a w h hr) fun e a' w' ⟨e', s', L', n', G', k1, k2, k3⟩ => by
  obtain ⟨rfl, k1⟩ := k1
  cases e <;> first | exact k2.elim | exact k1 G' a' w' k3
theorem defer_run {o : Oper} {c : Call} {x : Operand} {f : FuncId} {vs : Array Value} {ρ : Operand → Value} {w : World} (ho : o.op = .defer c) (hc : c.callee = .value x) (ha : c.args = #[]) (hx : ρ x = .func (.func f) #[] vs) :
  (execOp ρ o).run P w = .ok (.defer ⟨.fn (.func f) vs, #[]⟩) w := by
 simp only [execOp, ho, resolve, hc, hx, ha, Deferred.ofValue]
 simp [Sem.run_bind, Sem.run_pure, Result.andThen]
theorem wpL_at (hT : TOk P TT) {ops : Array Oper} {rest : List Oper} {o : Oper} {s : List AV} {L : Heap} {n : Nat} {G : Ghost} {a : Act} {w : World} {Q : Exit → Act → World → Prop} (hr : Rel B No G ⟨s, L, n⟩ a w) (hg : o.guard = none)
  (h : aop P TT o s L n (fun x L' n' => putD s o.dst x fun s' => ∀ G' a' w', Rel B No G' ⟨s', L', n'⟩ a' w' → wpList P ops Q rest a' w') (fun _ _ _ => False)) : wpList P ops Q (o :: rest) a w := by
 unfold wpList
 rw [if_pos (by simp [Region.wanted, hg])]
 refine .inl (aop_sound hT hr (fun _ _ h => h) h ⟨fun x L' n' v G' w' k1 k2 k3 k4 => ?_, fun _ _ _ _ _ _ k => k.elim⟩)
 simp only [putD_eq] at k1
 exact k1 G' _ w' ((k4.put o.dst k2).weakU fun t ht => ht.1)
theorem wpL_defer {ops : Array Oper} {rest : List Oper} {o : Oper} {c : Call} {x : Operand} {f : FuncId} {cap : List AV} {s : List AV} {L : Heap} {n : Nat} {G : Ghost} {a : Act} {w : World} {Q : Exit → Act → World → Prop} (hr : Rel B No G ⟨s, L, n⟩ a w) (hg : o.guard = none) (hd : o.dst = none)
  (ho : o.op = .defer c) (hc : c.callee = .value x) (ha : c.args = #[]) (hx : ev s x = .fn f cap)
  (hn : ∀ vs a', cap.length = vs.size → (∀ i b, cap[i]? = some b → Sim G b (vs.getD i undef)) → Rel ⟨B.G, B.w, B.H, B.k, ⟨.fn (.func f) vs, #[]⟩ :: B.D⟩ No G ⟨s, L, n⟩ a' w → wpList P ops Q rest a' w) : wpList P ops Q (o :: rest) a w := by
 unfold wpList
 rw [if_pos (by simp [Region.wanted, hg])]
 have h1 := (hr.op (x := x) (fun _ _ h => h)).1
 rw [hx] at h1
 obtain ⟨vs, h2, h3, h4⟩ := h1.fn_inv
 refine .inl ?_
 unfold Oper.wp
 rw [defer_run ho hc ha h2, Oper.upon_defer, hd]
 exact hn vs _ h3 h4 ⟨hr.size, hr.slots, by rw [← hr.defers]; rfl, hr.holds, hr.step, hr.next, hr.base, hr.low, hr.old⟩
end
end Go.Am
namespace Go.Proofs.Ytncffhgoopdfgaa
open Go.Am
set_option maxRecDepth 100000
theorem dRel {G : Ghost} {w : World} {L : Heap} {n ic io : Nat} {vs : Array Value} {B : Base} {s : List AV} {a0 : Act} (hr : Rel B No G ⟨s, L, n⟩ a0 w) (hvs : 2 = vs.size) (h0 : Sim G (.ptr ic 0) (vs.getD 0 undef)) (h1 : Sim G (.ptr io 0) (vs.getD 1 undef)) {x : AV} (v : Value) (hx : Sim G x v) :
  Rel ⟨G, w, L, n, []⟩ No G ⟨[.ptr ic 0, .ptr io 0, x, x, .dead, .dead, .dead, .dead, .dead, .dead, .dead, .dead], L, n⟩ { tmps := ((vs ++ Array.replicate (12 - vs.size) undef).setIfInBounds 3 v).setIfInBounds 2 (if 3 < vs.size + (12 - vs.size) then v else undef), defers := [] } w := by
 have hex : ∃ x0 x1, vs = #[x0, x1] := by
  obtain ⟨l⟩ := vs
  match l, hvs with
  | [x0, x1], _ => exact ⟨x0, x1, rfl⟩
 obtain ⟨x0, x1, rfl⟩ := hex
 have e : ((#[x0, x1] ++ Array.replicate (12 - (#[x0, x1] : Array Value).size) undef).setIfInBounds 3 v).setIfInBounds 2 (if 3 < (#[x0, x1] : Array Value).size + (12 - (#[x0, x1] : Array Value).size) then v else undef) = #[x0, x1, v, v, undef, undef, undef, undef, undef, undef, undef, undef] := by
  generalize undef = u
  rfl
 rw [e]
 refine ⟨rfl, fun t _ => ?_, rfl, hr.holds, Step.refl _ _ _, hr.next, hr.base, Nat.le_refl _, fun id h => .inl h⟩
 match t with
 | 0 => exact .of h0
 | 1 => exact .of h1
 | 2 => exact .of hx
 | 3 => exact .of hx
 | 4 | 5 | 6 | 7 | 8 | 9 | 10 | 11 => exact .of (.data _ _ (.dead _))
 | t + 12 => exact .of (.data _ _ (.dead _))
def restK (L1 : Heap) (n1 : Nat) : Kc := fun e s L n => e = .normal ∧ L = L1 ∧ n = n1
theorem readD {G : Ghost} {w : World} {L : Heap} {n m ic io : Nat} {vs : Array Value} {b : Bool} (B : Base) (s : List AV) (a0 : Act) (hr0 : Rel B No G ⟨s, L, n⟩ a0 w) (hvs : 2 = vs.size) (h0 : Sim G (.ptr ic 0) (vs.getD 0 undef)) (h1 : Sim G (.ptr io 0) (vs.getD 1 undef))
  (hc : findL L ic = some (.box [.ptr m 0])) (ho : findL L io = some (.box [.v (.bool b)])) :
  CallsD Try.prog 82 vs .returning w fun e u' w' => (∃ v, e = .returned v) ∧ u' = .returning ∧ ∃ G', Rel B No G' ⟨s, L, n⟩ a0 w' := by
 refine callsD_of_wpS Try.func82 rfl fun c₀ cs hu => ?_
 refine wpS_seq ?_
 refine wpS_region ?_
 refine (show wpOpsS Try.prog _ _ [0, 1] _ _ _ from ?_)
 have hrec : recoverD (c₀ :: cs) = none := by unfold recoverD; simp only [hu]
 simp [wpOpsS, Region.wanted, execOp, resolve, go_sem, hrec]
 refine wpS_of_wp ?_
 have hB2 : Rel ⟨G, w, L, n, []⟩ No G ⟨[.ptr ic 0, .ptr io 0, .v .nilIface, .v .nilIface, .dead, .dead, .dead, .dead, .dead, .dead, .dead, .dead], L, n⟩ _ w := dRel hr0 hvs h0 h1 .nilIface (.data _ _ (.v _))
 refine wp_mono (acode_sound0 tok dok _ _ _ _ (restK L n) _ _ _ ?_ hB2) ?_
 ·refine no_implicit_lambda% (awd ?_)
  (with_reducible refine zC ?_)
  refine a_q1 rfl (qFall true (fun _ h => h) (fun w => by rfl)) ?_
  refine no_implicit_lambda% (awd ?_)
  exact ⟨rfl, rfl, rfl⟩
 ·rintro e a' w' ⟨e', s', L', n', G', ⟨rfl, rfl, rfl⟩, k2, k3⟩
  cases e <;> first | exact k2.elim | skip
  refine ⟨k3.defers, .returning, by rw [← hu], .tuple #[], (by simp [results, Try.results82, go_sem]), ⟨_, rfl⟩, rfl, G', ?_⟩
  exact hr0.stepped k3.holds k3.step (Nat.le_refl _) fun id hid => ⟨k3.next id hid, (k3.old id hid).imp_right fun h => h⟩
theorem readDp {G : Ghost} {w : World} {L : Heap} {n m ic io : Nat} {vs : Array Value} {b : Bool} {v : Value} (B : Base) (s : List AV) (a0 : Act) (hr0 : Rel B No G ⟨s, L, n⟩ a0 w) (hvs : 2 = vs.size) (h0 : Sim G (.ptr ic 0) (vs.getD 0 undef)) (h1 : Sim G (.ptr io 0) (vs.getD 1 undef))
  (hv : Sim G (.iface 100 (.ptr m 0)) v) (hc : findL L ic = some (.box [.ptr m 0])) (ho : findL L io = some (.box [.v (.bool b)])) :
  CallsD Try.prog 82 vs (.panicking [{ v := v, recovered := false }]) w fun e u' w' => (∃ v, e = .returned v) ∧ settle u' = .returning ∧ ∃ G', Rel B No G' ⟨s, setL L io (.box [.v (.bool false)]), n⟩ a0 w' := by
 refine callsD_of_wpS Try.func82 rfl fun c₀ cs hu => ?_
 refine wpS_seq ?_
 refine wpS_region ?_
 refine (show wpOpsS Try.prog _ _ [0, 1] _ _ _ from ?_)
 have hrec : recoverD (c₀ :: cs) = some (v, { c₀ with mode := .panicking [{ v := v, recovered := true }] } :: cs) := by unfold recoverD; simp only [hu]
 simp [wpOpsS, Region.wanted, execOp, resolve, go_sem, hrec]
 refine wpS_of_wp ?_
 have hB2 : Rel ⟨G, w, L, n, []⟩ No G ⟨[.ptr ic 0, .ptr io 0, .iface 100 (.ptr m 0), .iface 100 (.ptr m 0), .dead, .dead, .dead, .dead, .dead, .dead, .dead, .dead], L, n⟩ _ w := dRel hr0 hvs h0 h1 v hv
 refine wp_mono (acode_sound0 tok dok _ _ _ _ (restK (setL L io (.box [.v (.bool false)])) n) _ _ _ ?_ hB2) ?_
 ·refine no_implicit_lambda% (awd ?_)
  (with_reducible refine zC ?_)
  refine a_q1 rfl (qIfN false (fun _ h => h) (fun u w => by rfl)) ?_
  refine no_implicit_lambda% (awd ?_)
  (with_reducible refine zC ?_)
  refine a_loadAt rfl rfl rfl hc rfl rfl ?_
  refine no_implicit_lambda% (awd ?_)
  (with_reducible refine zC ?_)
  refine a_q1 rfl (qIfP true (fun _ h => h) (fun u w => run_eql_iface_ptr_same (P := Try.prog) w ⟨u, 0, none⟩ rfl rfl rfl rfl rfl)) ?_
  refine no_implicit_lambda% (awd ?_)
  (with_reducible refine zC ?_)
  refine a_storeAt rfl rfl rfl ho rfl rfl rfl ?_
  refine no_implicit_lambda% (awd ?_)
  exact ⟨rfl, rfl, rfl⟩
 ·rintro e a' w' ⟨e', s', L', n', G', ⟨rfl, rfl, rfl⟩, k2, k3⟩
  cases e <;> first | exact k2.elim | skip
  refine ⟨k3.defers, _, rfl, .tuple #[], (by simp [results, Try.results82, go_sem]), ⟨_, rfl⟩, rfl, G', ?_⟩
  exact hr0.stepped k3.holds k3.step (Nat.le_refl _) fun id hid => ⟨k3.next id hid, (k3.old id hid).imp_right fun h => h⟩
theorem findL_here {i : Nat} {r : Res} {H : Heap} : findL ((i, r) :: H) i = some r := if_pos rfl
theorem findL_skip {i j : Nat} {r : Res} {H : Heap} (h : j ≠ i) : findL ((j, r) :: H) i = findL H i := if_neg h
abbrev rpan (m : Nat) : AOut := .panic (.iface 100 (.ptr m 0))
abbrev cbR (m : Nat) (Rok : List UInt8 → Heap → Prop) (Rbad : Heap → Prop) : AOut → Heap → Prop := fun out H' => (∃ (x : AV) (l' : List UInt8) (H1' : Heap), Rok l' H1' ∧ out = .ret x ∧ H' = (m, .box [.list (l'.map brow) .free]) :: H1') ∨ ∃ H1', Rbad H1' ∧ out = rpan m ∧ H' = H1'
def afterK (m nn : Nat) (Rok : List UInt8 → Heap → Prop) (Rbad : Heap → Prop) : Kc := fun e s L n =>
 n = nn ∧ s.getD 4 .dead = .ptr m 0 ∧ ((∃ l' H1', Rok l' H1' ∧ e = .ret ∧ L = (m, .box [.v (.bool (decide ((((l'.map brow).length : Nat) : Int) = 0)))]) :: (m + 2, .box [.ptr (m + 1) 0]) :: (m + 1, .box [.list (l'.map brow) .free]) :: H1') ∨
  (∃ H1', Rbad H1' ∧ e = .panic (.iface 100 (.ptr (m + 1) 0)) ∧ L = H1' ++ [(m, .box [.v (.bool false)]), (m + 2, .box [.ptr (m + 1) 0])]))
def RokG (m : Nat) (Rok : List UInt8 → Heap → Prop) (l' : List UInt8) (H' : Heap) : Prop := ∃ H1', Rok l' H1' ∧ H' = renH (rn (idsTo m (m + 1)) (m + 1 + 1 + 1)) H1'
def RbadG (m : Nat) (Rbad : Heap → Prop) (H' : Heap) : Prop := ∃ H1', Rbad H1' ∧ H' = renH (rn (idsTo m (m + 1)) (m + 1 + 1 + 1)) H1'
theorem read_g {cb : FuncId} {m top : Nat} {cap : List AV} {H1 : Heap} {l : List UInt8} {Rok : List UInt8 → Heap → Prop} {Rbad : Heap → Prop} (htop : m + 1 ≤ top)
  (hcb : ACalls Try.prog cb (m + 1) top (.ptr m 0 :: cap) ((m, .box [.list (l.map brow) .free]) :: H1) (cbR m Rok Rbad))
  (hcap : keepL m cap) (hH1 : keepH m H1) :
  ACalls Try.prog 46 m (top + 2) [.list (l.map brow) .free, .fn cb cap] H1 fun out H' => (∃ l', RokG m Rok l' H' ∧ out = .ret (.v (.bool (decide ((((l'.map brow).length : Nat) : Int) = 0))))) ∨ (RbadG m Rbad H' ∧ out = .ret (.v (.bool false))) := by
 intro G w vals hk hlits hbase hh hlen hsim
 left
 refine ⟨by rfl, ?_⟩
 refine calls_of_wp_defers Try.func46 rfl ?_
 have hr : Rel ⟨G, w, H1, m, []⟩ No G ⟨[.list (l.map brow) .free, .fn cb cap, .dead, .dead, .dead, .dead, .dead, .dead, .dead, .dead, .dead, .dead, .dead, .dead, .dead, .dead, .dead, .dead, .dead, .dead, .dead, .dead, .dead, .dead], H1, m⟩ _ w := rel_start (m := 24) hk hbase hh hlen hsim
 refine wp_seq (wp_then tok dok hr ?_)
 refine no_implicit_lambda% (awd ?_)
 refine ⟨rfl, fun G1 a1 w1 hr1 => ?_⟩
 refine wp_seq (wp_then tok dok hr1 ?_)
 refine no_implicit_lambda% (awd ?_)
 (with_reducible refine zC ?_)
 refine a_move (av := .fn cb cap) rfl rfl ?_
 refine no_implicit_lambda% (awd ?_)
 refine ⟨rfl, fun G2 a2 w2 hr2 => ?_⟩
 refine wp_seq (wp_then tok dok hr2 ?_)
 refine no_implicit_lambda% (awd ?_)
 (with_reducible refine zC ?_)
 refine a_storeAt rfl rfl rfl findL_here rfl rfl (cells' := [.ptr (m + 1) 0]) rfl ?_
 simp only [setL, if_true]
 refine no_implicit_lambda% (awd ?_)
 refine ⟨rfl, fun G3 a3 w3 hr3 => ?_⟩
 refine wp_seq (wp_region_list ?_)
 refine wpL_at tok hr3 rfl (a_q1 (av := .fn 82 [.ptr (m + 1 + 1) 0, .ptr m 0]) rfl (fun _ h => h) ?_)
 intro G4 a4 w4 hr4
 refine wpL_defer hr4 rfl rfl rfl rfl rfl rfl ?_
 intro vs a5 hvs hcs hr5
 show Code.wp _ _ _ a5 w4
 refine wp_mono (acode_sound0 tok dok _ _ _ _ (afterK m (top + 2) (RokG m Rok) (RbadG m Rbad)) _ _ _ ?_ hr5.anew) ?_
 ·refine no_implicit_lambda% (awd ?_)
  (with_reducible refine zC ?_)
  refine a_move (av := .fn cb cap) rfl rfl ?_
  refine no_implicit_lambda% (awd ?_)
  (with_reducible refine zC ?_)
  refine a_loadAt rfl rfl rfl findL_here rfl rfl ?_
  refine no_implicit_lambda% (awd ?_)
  (with_reducible refine zC ?_)
  refine a_callS rfl rfl rfl rfl (args := .ptr (m + 1) 0 :: cap) rfl ?_
  refine by_contract (idsTo m (m + 1)) hcb (by simp [idsTo]; exact ⟨fun i hi => by omega, htop⟩) (idsTo_nodup (by omega)) (.of_eq ?_) (rest := [(m, .box [.v (.bool false)]), (m + 1 + 1, .box [.ptr (m + 1) 0])]) ?_ ?_ ?_
  ·simp only [AV.renL, AV.ren, idsTo_at]
   rw [hcap _ fun i hi => idsTo_lt hi]
  ·simp only [renH, Res.ren, AV.renL, AV.ren, idsTo_at]
   rw [hH1 _ fun i hi => idsTo_lt hi]
   refine (List.Perm.swap _ _ _).trans (.cons _ ?_)
   have e : ∀ (a b : Nat × Res) (H : Heap), (a :: b :: H).Perm (H ++ [b, a]) := fun a b H => (List.Perm.swap _ _ _).trans (show ([b, a] ++ H).Perm (H ++ [b, a]) from List.perm_append_comm)
   exact e _ _ _
  ·intro x H' h
   rcases h with ⟨x', l', H1', hR, h1, h2⟩ | ⟨H1', hR, h1, h2⟩
   ·cases h1; subst h2
    simp only [renH, Res.ren, AV.renL, AV.ren, idsTo_at, Own.ren]
    have hR' : RokG m Rok l' (renH (rn (idsTo m (m + 1)) (m + 1 + 1 + 1)) H1') := ⟨H1', hR, rfl⟩
    generalize renH (rn (idsTo m (m + 1)) (m + 1 + 1 + 1)) H1' = H1' at *
    (with_reducible refine is_opK ?_)
    refine k_op' (fun _ h => h) ?_
    (with_reducible refine o_nil ?_)
    refine k_seq_to ⟨_, (m, .box [.v (.bool false)]) :: (m + 1 + 1, .box [.ptr (m + 1) 0]) :: (m + 1, .box [.list (l'.map brow) .free]) :: H1', _⟩ (.drop (rest := []) ?_ (Nat.le_refl _)) ?_
    ·rw [List.append_nil]
     exact (List.perm_append_comm (l₁ := (m + 1, .box [.list (l'.map brow) .free]) :: H1'))
    refine no_implicit_lambda% (awd ?_)
    (with_reducible refine zC ?_)
    refine a_loadAt rfl rfl rfl ((findL_skip (by omega)).trans findL_here) rfl rfl ?_
    refine no_implicit_lambda% (awd ?_)
    (with_reducible refine zC ?_)
    refine a_loadAt rfl rfl rfl ((findL_skip (by omega)).trans ((findL_skip (by omega)).trans findL_here)) rfl rfl ?_
    refine no_implicit_lambda% (awd ?_)
    (with_reducible refine zC ?_)
    refine a_storeAt rfl rfl rfl findL_here rfl rfl (cells' := [.v (.bool (decide ((((l'.map brow).length : Nat) : Int) = 0)))]) rfl ?_
    simp only [setL, if_true]
    refine no_implicit_lambda% (awd ?_)
    exact ⟨by omega, rfl, .inl ⟨l', H1', hR', rfl, rfl⟩⟩
   ·cases h1
  ·intro x H' h
   rcases h with ⟨x', l', H1', hR, h1, h2⟩ | ⟨H1', hR, h1, h2⟩
   ·cases h1
   ·cases h1; subst h2
    have hR' : RbadG m Rbad (renH (rn (idsTo m (m + 1)) (m + 1 + 1 + 1)) H') := ⟨H', hR, rfl⟩
    generalize renH (rn (idsTo m (m + 1)) (m + 1 + 1 + 1)) H' = H' at *
    simp only [AV.ren, idsTo_at]
    refine no_implicit_lambda% (awd ?_)
    exact ⟨by omega, rfl, .inr ⟨H', hR', rfl, rfl⟩⟩
 ·rintro e a' w' ⟨e', s', L', n', G', ⟨rfl, hs4, k1⟩, k2, k3⟩
  have hS := k3.step
  have hic : Sim G' (.ptr (m + 1 + 1) 0) (vs.getD 0 undef) := hS.sim (hcs 0 _ rfl)
  have hio : Sim G' (.ptr m 0) (vs.getD 1 undef) := hS.sim (hcs 1 _ rfl)
  have hJ := hr5.join k3
  have fin : ∀ (G3 : Ghost) (w3 : World) (L3 H' rest : Heap) (b : Bool) (R : AOut → Heap → Prop), Rel ⟨G, w, H1, m, [{ target := .fn (.func 82) vs, args := #[] }]⟩ No G3 ⟨s', (m, .box [.v (.bool b)]) :: L3, top + 2⟩ a' w3 → L3.Perm (H' ++ rest) → R (.ret (.v (.bool b))) H' → ∃ v, (results Try.f46 a'.tmps).run Try.prog w3 = .ok v w3 ∧ ∃ G' out H', R out H' ∧ OSim G' out (.returned v) ∧ Holds G' w3 H' ∧ Step G w H1 G' w3 H' ∧ ∀ id, G'.live id → G.live id ∨ (m ≤ id ∧ id < top + 2) := by
   intro G3 w3 L3 H' rest b R hR hp hRR
   obtain ⟨v, h1, h2⟩ := results_run (P := Try.prog) tok hR (fn := Try.f46) (l := [.v (.bool b)]) (by
    show aresults TT s' _ [.cell 4 4] = _
    unfold aresults
    rw [getA_eq, hs4]
    simp [aresults, AV.down, aload, findL]
    rfl)
   have hp2 : ((m, Res.box [.v (.bool b)]) :: L3).Perm (H' ++ ((m, Res.box [.v (.bool b)]) :: rest)) := (hp.cons _).trans List.perm_middle.symm
   exact ⟨v, h1, G3, _, H', hRR, h2, (hR.holds.perm hp2).left, hR.step.sub hp2, fun id hid => (hR.old id hid).imp_right fun h => ⟨h, hR.next id hid⟩⟩
  have hde : a'.defers = [{ target := .fn (.func 82) vs, args := #[] }] := hJ.defers
  have hinv : ∀ w : World, (invoke (.fn (.func 82) vs) #[]).run Try.prog w = .ok (.enter 82 vs) w := fun w => by
   simp only [invoke, Array.empty_append]
   rfl
  rcases k1 with ⟨l', H1', hR, rfl, rfl⟩ | ⟨H1', hR, rfl, rfl⟩
  ·cases e <;> first | exact k2.elim | skip
   show Leaves Try.prog Try.f46 a'.tmps _ a'.defers .returning w'
   rw [hde]
   refine leaves_cons (by simp) (hinv w') ((readD _ _ _ hJ hvs hic hio (m := m + 1) (b := decide ((((l'.map brow).length : Nat) : Int) = 0)) ((findL_skip (by omega)).trans findL_here) findL_here).mono ?_)
   rintro e u' w3 ⟨⟨v, rfl⟩, rfl, G3, hr3⟩
   exact fin G3 w3 _ H1' [(m + 2, .box [.ptr (m + 1) 0]), (m + 1, .box [.list (l'.map brow) .free])] _ _ hr3 (by exact (List.perm_append_comm (l₁ := [_, _]))) (.inl ⟨l', hR, rfl⟩)
  ·cases e <;> first | exact k2.elim | skip
   obtain ⟨v, rfl, hv⟩ := k2
   show Leaves Try.prog Try.f46 a'.tmps _ a'.defers (.panicking [{ v := v, recovered := false }]) w'
   rw [hde]
   have hJ5 := hJ.perm (L' := (m, .box [.v (.bool false)]) :: (m + 2, .box [.ptr (m + 1) 0]) :: H1') List.perm_append_comm
   refine leaves_cons (by simp) (hinv w') ((readDp _ _ _ hJ5 hvs hic hio hv (b := false) ((findL_skip (by omega)).trans findL_here) findL_here).mono ?_)
   rintro e u' w3 ⟨⟨v, rfl⟩, hu, G3, hr3⟩
   show Leaves Try.prog Try.f46 a'.tmps _ [] (settle u') w3
   rw [hu]
   simp only [setL, if_true] at hr3
   exact fin G3 w3 _ H1' [(m + 2, .box [.ptr (m + 1) 0])] _ _ hr3 (by exact (List.perm_append_comm (l₁ := [_]))) (.inr ⟨hR, rfl⟩)
theorem read_c {cb : FuncId} {m top : Nat} {cap : List AV} {H1 : Heap} {l : List UInt8} {Rok : List UInt8 → Heap → Prop} {Rbad : Heap → Prop} (htop : m + 1 ≤ top)
  (hcb : ACalls Try.prog cb (m + 1) top (.ptr m 0 :: cap) ((m, .box [.list (l.map brow) .free]) :: H1) (cbR m Rok Rbad))
  (hcap : keepL m cap) (hH1 : keepH m H1) (hok : ∀ l' H1', Rok l' H1' → keepH m H1') (hbad : ∀ H1', Rbad H1' → keepH m H1') :
  ACalls Try.prog 46 m (top + 2) [.list (l.map brow) .free, .fn cb cap] H1 fun out H' => (∃ l', Rok l' H' ∧ out = .ret (.v (.bool (decide ((((l'.map brow).length : Nat) : Int) = 0))))) ∨ (Rbad H' ∧ out = .ret (.v (.bool false))) :=
 (read_g htop hcb hcap hH1).mono fun out H' hh => by
  rcases hh with ⟨l', ⟨H1', hR, rfl⟩, h⟩ | ⟨⟨H1', hR, rfl⟩, h⟩
  ·rw [hok l' H1' hR _ fun i hi => idsTo_lt hi]
   exact .inl ⟨l', hR, h⟩
  ·rw [hbad H1' hR _ fun i hi => idsTo_lt hi]
   exact .inr ⟨hR, h⟩
end Go.Proofs.Ytncffhgoopdfgaa
namespace Go.Proofs.Ytncffhgoopdfgaa
open Go.Am
set_option maxRecDepth 100000
theorem oct_of (x k m : Nat) (e : m = k) : IntKind.u8.wrap ((x : Int).fdiv (2 ^ m)) = ((UInt8.ofNat (x >>> k)).toNat : Int) := by
 subst e
 rw [IntKind.wrap_u8, UInt8.toNat_ofNat', Nat.shiftRight_eq_div_pow, Int.fdiv_eq_ediv_of_nonneg _ (Int.le_of_lt (Int.pow_pos (by decide)))]
 simp
theorem oct_0 (x : Nat) : IntKind.u8.wrap (x : Int) = ((UInt8.ofNat (x >>> 0)).toNat : Int) := by
 rw [IntKind.wrap_u8, UInt8.toNat_ofNat']; simp
theorem nan_def (b : Nat) : nanB b = decide (9218868437227405312 < b % 9223372036854775808) := by
 have h : ∀ d : Ieee.Datum, (d.order d != some .eq) = d.isNaN := fun d => by
  cases d <;> simp [Ieee.Datum.order, Ieee.Datum.isNaN]
 have e1 : FloatKind.f64.format.signWeight = 9223372036854775808 := by decide
 have e2 : FloatKind.f64.format.infRung = 9218868437227405312 := by decide
 have e3 : FloatKind.f64.format.binade = 4503599627370496 := by decide
 unfold nanB Ieee.Format.order
 rw [h]
 unfold Ieee.Format.read
 simp only [e1, e2, e3]
 generalize b % 9223372036854775808 = r
 by_cases k1 : r < 4503599627370496
 ·rw [if_pos k1]
  simp [Ieee.Datum.isNaN]; omega
 ·rw [if_neg k1]
  by_cases k2 : r < 9218868437227405312
  ·rw [if_pos k2]
   simp [Ieee.Datum.isNaN]; omega
  ·rw [if_neg k2]
   by_cases k3 : r = 9218868437227405312
   ·rw [if_pos k3]
    simp [Ieee.Datum.isNaN]; omega
   ·rw [if_neg k3]
    simp [Ieee.Datum.isNaN]; omega
theorem and64 {a c : Nat} (ha : a < 18446744073709551616) (hc : c < 18446744073709551616) : IntKind.u64.wrap ((BitVec.ofInt IntKind.u64.bits (a : Int) &&& BitVec.ofInt IntKind.u64.bits (c : Int)).toNat : Int) = ((a &&& c : Nat) : Int) := by
 rw [BitVec.toNat_and, ofInt_nat ha, ofInt_nat hc]
 exact u64_of (Nat.lt_of_le_of_lt Nat.and_le_left ha)
theorem and_frac (b : Nat) : b &&& 4503599627370495 = b % 4503599627370496 := Nat.and_two_pow_sub_one_eq_mod b 52
theorem and_exp (b : Nat) : b &&& 9218868437227405312 = (b / 4503599627370496 % 2048) * 4503599627370496 := by
 have e1 : (9218868437227405312 : Nat) = 2047 <<< 52 := by decide
 have e2 : (b / 4503599627370496 % 2048) * 4503599627370496 = ((b >>> 52) &&& 2047) <<< 52 := by
  rw [Nat.shiftLeft_eq, Nat.shiftRight_eq_div_pow, Nat.and_two_pow_sub_one_eq_mod _ 11]
 rw [e1, e2]
 apply Nat.eq_of_testBit_eq
 intro i
 simp only [Nat.testBit_and, Nat.testBit_shiftLeft, Nat.testBit_shiftRight]
 by_cases h : 52 ≤ i
 ·have : 52 + (i - 52) = i := by omega
  simp [h, this]
 ·simp [h]
theorem nan_bits (b : Nat) : (b &&& 9218868437227405312 = 9218868437227405312 ∧ b &&& 4503599627370495 ≠ 0) ↔ nanB b = true := by
 rw [and_frac, and_exp, nan_def, decide_eq_true_eq]
 omega
theorem refBits_c (b : Nat) (hb : b < 18446744073709551616) : ACalls Try.prog 66 0 0 [.v (.float .f64 b)] [] (fun out H' => out = .ret (.v (.int .u64 (canonB b))) ∧ H' = []) := by
 refine no_implicit_lambda% (acalls_of tok dok (f := 66) ⟨Try.func66, rfl, by kernel_rfl⟩ ?_); refine no_implicit_lambda% (c_start (fun _ h => h) ?_)
 refine no_implicit_lambda% (awd ?_)
 refine no_implicit_lambda% (cal [] (bits_x b) ?_ ?_)
 ·refine no_implicit_lambda% (ret1 ?_); first | (refine no_implicit_lambda% (akc ?_)) | (refine no_implicit_lambda% (aec ?_))
  refine no_implicit_lambda% (awd ?_)
  rw [show (9218868437227405312 : Int) = ((9218868437227405312 : Nat) : Int) by rfl, and64 hb (by decide)]
  repeat' (first | (refine no_implicit_lambda% (zH ?_)) | (((with_reducible refine no_implicit_lambda% (zA ?_)); refine no_implicit_lambda% (zD rfl rfl rfl (fun hc => ?_) (fun hc => ?_)) <;> rw [hc])) | (((with_reducible refine no_implicit_lambda% (zB ?_)); refine no_implicit_lambda% (zE rfl (fun hc => ?_) (fun hc => ?_)))) | (((with_reducible refine no_implicit_lambda% (zC ?_)); refine no_implicit_lambda% (zF rfl rfl (fun hc => ?_) (fun hc => ?_)) <;> rw [hc])) | fail)
  ·rename_i h1
   have h2 := hc
   rw [show (4503599627370495 : Int) = ((4503599627370495 : Nat) : Int) by rfl, and64 hb (by decide)] at h2
   have h := (nan_bits b).1 ⟨by simp at h1; omega, by simp at h2; omega⟩
   exact e_ret (H' := []) rfl ⟨by simp [canonB, h]; rfl, rfl⟩ (.refl _) (LE0 rfl)
  ·rename_i h1
   have h2 := hc
   rw [show (4503599627370495 : Int) = ((4503599627370495 : Nat) : Int) by rfl, and64 hb (by decide)] at h2
   have h : nanB b = false := by
    cases hn : nanB b
    ·rfl
    ·have := (nan_bits b).2 hn
     simp at h2; omega
   exact e_ret (H' := []) rfl ⟨by simp [canonB, h]; rfl, rfl⟩ (.refl _) (LE0 rfl)
  ·have h1 := hc
   have h : nanB b = false := by
    cases hn : nanB b
    ·rfl
    ·have := (nan_bits b).2 hn
     simp at h1; omega
   exact e_ret (H' := []) rfl ⟨by simp [canonB, h]; rfl, rfl⟩ (.refl _) (LE0 rfl)
 ·first | (exact zI) | (exact zJ)
end Go.Proofs.Ytncffhgoopdfgaa
namespace Go.Proofs.Ytncffhgoopdfgaa
open Go.Am
set_option maxRecDepth 100000
theorem LeA.agg {l l' : List AV} (h : LeL l l') : LeA (.agg l) (.agg l') := fun G x hx => by
 obtain ⟨vs, rfl, h1, h2⟩ := Sim.agg_inv hx
 refine .agg _ _ (by rw [← h.len]; exact h1) fun i a ha => ?_
 obtain ⟨b, hb, hle⟩ := h.get i a ha
 exact hle _ _ (h2 i b hb)
structure Va where
 kind : Int
 b : List UInt8
 n : Nat
def vrowV (v : Va) : List AV := [.v (.int .i64 v.kind), .list (v.b.map brow) .free, .v (.float .f64 v.n)]
def vav (v : Va) : AV := .agg (vrowV v)
def canV (v : Va) : Va := if v.kind = 1 then ⟨1, v.b, 0⟩ else if v.kind = 2 then ⟨2, [], canonB v.n⟩ else ⟨0, [], 0⟩
def ordV0 (a b : Va) : Int := if a.kind ≠ b.kind then cmpZ a.kind b.kind else if a.kind = 1 then Lib.compareBytes a.b b.b else if a.kind = 2 then cmpZ (keyI a.n) (keyI b.n) else 0
def ordV (a b : Va) : Int := ordV0 (canV a) (canV b)
def VOk (v : Va) : Prop := (v.kind = 1 ∧ v.n = 0 ∧ v.b.length ≤ 16) ∨ (v.kind = 2 ∧ v.b = [] ∧ v.n < 18446744073709551616)
theorem VOk.len {v : Va} (h : VOk v) : v.b.length < 70368744177664 := by
 rcases h with h | h
 ·omega
 ·rw [h.2.1]; decide
theorem vmade_c (tx : Bool) (n : Int) (x : Nat) (b : List UInt8) (hn1 : -9223372036854775808 ≤ n) (hn2 : n ≤ 9223372036854775807) (hx : x < 18446744073709551616) : ACalls Try.prog 29 0 10 [.agg [.v (.bool tx), .v (.int .i64 n), .v (.float .f64 x), .list (b.map brow) .free]] [] (fun out H' => ∃ v, VOk v ∧ out = .ret (vav v) ∧ H' = []) := by
 refine no_implicit_lambda% (acalls_of tok dok (f := 29) ⟨Try.func29, rfl, by kernel_rfl⟩ ?_); refine no_implicit_lambda% (c_start (fun _ h => h) ?_)
 repeat' (first | (refine no_implicit_lambda% (zH ?_)) | (((with_reducible refine no_implicit_lambda% (zA ?_)); refine no_implicit_lambda% (zD rfl rfl rfl (fun hc => ?_) (fun hc => ?_)) <;> rw [hc])) | (((with_reducible refine no_implicit_lambda% (zB ?_)); refine no_implicit_lambda% (zE rfl (fun hc => ?_) (fun hc => ?_)))) | (((with_reducible refine no_implicit_lambda% (zC ?_)); refine no_implicit_lambda% (zF rfl rfl (fun hc => ?_) (fun hc => ?_)) <;> rw [hc])) | fail)
 ·refine no_implicit_lambda% (cal [] (cut_c b 16 (by decide)) ?_ ?_)
  ·refine no_implicit_lambda% (ret1 ?_); first | (refine no_implicit_lambda% (akc ?_)) | (refine no_implicit_lambda% (aec ?_))
   refine no_implicit_lambda% (awd ?_)
   refine e_ret (H' := []) (rest := _) rfl ⟨⟨1, b.take 16, 0⟩, .inl ⟨rfl, rfl, by simp; omega⟩, rfl, rfl⟩ (.refl _) (LE0 rfl)
  ·first | (exact zI) | (exact zJ)
 ·refine no_implicit_lambda% (cal [] (flt_c n x hn1 hn2 hx) ?_ ?_)
  ·intro x H' h; obtain ⟨fb, hfb, h1, rfl⟩ := h; cases h1; first | (refine no_implicit_lambda% (akc ?_)) | (refine no_implicit_lambda% (aec ?_))
   refine no_implicit_lambda% (awd ?_)
   exact e_ret_to (H' := []) (.wk (.refl _) (.cons (.box _ (.cons (.refl _) (.cons (.free _ _) (.cons (.refl _) .nil)))) (.refl _))) rfl ⟨⟨2, [], fb⟩, .inr ⟨rfl, rfl, hfb⟩, rfl, rfl⟩ (.refl _) (LE0 rfl)
  ·intro x H' h; obtain ⟨_, _, h1, _⟩ := h; cases h1
theorem vright_c (v : Va) : ACalls Try.prog 96 0 10 [vav v] [] (fun out H' => out = .ret (.v (.bool (v.kind == 1 && decide ((v.b.length : Int) ≤ 16) || v.kind == 2))) ∧ H' = []) := by
 obtain ⟨kd, b, n⟩ := v
 refine no_implicit_lambda% (acalls_of tok dok (f := 96) ⟨Try.func96, rfl, by kernel_rfl⟩ ?_); refine no_implicit_lambda% (c_start (fun _ h => h) ?_)
 repeat' (first | (refine no_implicit_lambda% (zH ?_)) | (((with_reducible refine no_implicit_lambda% (zA ?_)); refine no_implicit_lambda% (zD rfl rfl rfl (fun hc => ?_) (fun hc => ?_)) <;> rw [hc])) | (((with_reducible refine no_implicit_lambda% (zB ?_)); refine no_implicit_lambda% (zE rfl (fun hc => ?_) (fun hc => ?_)))) | (((with_reducible refine no_implicit_lambda% (zC ?_)); refine no_implicit_lambda% (zF rfl rfl (fun hc => ?_) (fun hc => ?_)) <;> rw [hc])) | fail)
 all_goals
  refine e_ret (H' := []) (rest := _) rfl ⟨congrArg (fun z => AOut.ret (.v (.bool z))) ?_, rfl⟩ (.refl _) (LE0 rfl)
  simp only [List.length_map] at *
  simp_all
end Go.Proofs.Ytncffhgoopdfgaa
namespace Go.Proofs.Ytncffhgoopdfgaa
open Go.Am
set_option maxRecDepth 100000
end Go.Proofs.Ytncffhgoopdfgaa
namespace Go.Proofs.Ytncffhgoopdfgaa
open Go.Am
set_option maxRecDepth 100000
end Go.Proofs.Ytncffhgoopdfgaa
namespace Go.Proofs.Ytncffhgoopdfgaa
open Go.Am
set_option maxRecDepth 100000
theorem canonB_lt {b : Nat} (h : b < 18446744073709551616) : canonB b < 18446744073709551616 := by unfold canonB; split <;> omega
def keyN (c : Nat) : Nat := if c < 9223372036854775808 then c + 9223372036854775808 else 18446744073709551615 - c
def placeN (c : Nat) : Nat := if c = 9221120237041090561 then 18446744073709551615 else keyN c
theorem canon_cases {b : Nat} (h : b < 18446744073709551616) : canonB b = 9221120237041090561 ∨ canonB b ≤ 9218868437227405312 ∨ (9223372036854775808 ≤ canonB b ∧ canonB b ≤ 18442240474082181120) := by
 unfold canonB
 cases hn : nanB b
 ·rw [nan_def, decide_eq_false_iff_not] at hn
  simp only [Bool.false_eq_true, if_false]
  omega
 ·exact .inl rfl
theorem and63 {c : Nat} (h : c < 18446744073709551616) : c &&& 9223372036854775808 = if c < 9223372036854775808 then 0 else 9223372036854775808 := by
 have e1 : (9223372036854775808 : Nat) = 1 <<< 63 := by decide
 have e2 : (c / 9223372036854775808 % 2) * 9223372036854775808 = ((c >>> 63) &&& 1) <<< 63 := by
  rw [Nat.shiftLeft_eq, Nat.shiftRight_eq_div_pow, Nat.and_two_pow_sub_one_eq_mod _ 1]
 have e3 : c &&& (1 <<< 63) = ((c >>> 63) &&& 1) <<< 63 := by
  apply Nat.eq_of_testBit_eq
  intro i
  simp only [Nat.testBit_and, Nat.testBit_shiftLeft, Nat.testBit_shiftRight]
  by_cases h : 63 ≤ i
  ·have : 63 + (i - 63) = i := by omega
   simp [h, this]
  ·simp [h]
 have e4 : c &&& 9223372036854775808 = (c / 9223372036854775808 % 2) * 9223372036854775808 := e3.trans e2.symm
 rw [e4]
 split <;> omega
theorem or63 {c : Nat} (h : c < 9223372036854775808) : c ||| 9223372036854775808 = c + 9223372036854775808 := by
 have e := Nat.two_pow_add_eq_or_of_lt (i := 63) (b := c) h 1
 rw [Nat.or_comm, Nat.add_comm]
 exact e.symm
theorem not64 {c : Nat} (h : c < 18446744073709551616) : (BitVec.ofInt IntKind.u64.bits (if IntKind.u64.signed then -1 else IntKind.u64.max) ^^^ BitVec.ofInt IntKind.u64.bits (c : Int)).toNat = 18446744073709551615 - c := by
 have e : BitVec.ofInt IntKind.u64.bits (if IntKind.u64.signed then -1 else IntKind.u64.max) = (BitVec.allOnes 64 : BitVec IntKind.u64.bits) := by rfl
 rw [e]
 show (BitVec.allOnes 64 ^^^ BitVec.ofInt 64 (c : Int)).toNat = _
 rw [BitVec.allOnes_xor, BitVec.toNat_not]
 show 2 ^ 64 - 1 - (BitVec.ofInt IntKind.u64.bits (c : Int)).toNat = _
 rw [ofInt_nat h]
theorem keyI_eq {b : Nat} (h : b < 18446744073709551616) : keyI b = (keyN (canonB b) : Nat) := by
 have hc := canonB_lt h
 unfold keyI keyN
 generalize canonB b = c at *
 rw [BitVec.toNat_and, ofInt_nat hc, show (BitVec.ofInt IntKind.u64.bits 9223372036854775808).toNat = 9223372036854775808 from by decide, and63 hc, not64 hc, BitVec.toNat_or, ofInt_nat hc, show (BitVec.ofInt IntKind.u64.bits 9223372036854775808).toNat = 9223372036854775808 from by decide]
 by_cases h1 : c < 9223372036854775808
 ·rw [if_pos h1, if_pos h1, or63 h1, if_neg (by decide), u64_of (by omega)]
 ·rw [if_neg h1, if_neg h1, if_pos (by decide), u64_of (by omega)]
theorem key_place {a b : Nat} (ha : a < 18446744073709551616) (hb : b < 18446744073709551616) : cmpZ (placeN (canonB a) : Nat) (placeN (canonB b) : Nat) = cmpZ (keyI a) (keyI b) := by
 rw [keyI_eq ha, keyI_eq hb]
 have h1 := canon_cases ha
 have h2 := canon_cases hb
 unfold placeN keyN cmpZ
 generalize canonB a = x at *
 generalize canonB b = y at *
 repeat' split
 all_goals omega
theorem place_c (b : Nat) (hb : b < 18446744073709551616) : ACalls Try.prog 127 0 0 [.v (.float .f64 b)] [] (fun out H' => out = .ret (.v (.int .u64 (placeN (canonB b) : Nat))) ∧ H' = []) := by
 have hl := canonB_lt hb
 have hB := refBits_c b hb
 generalize canonB b = c at *
 refine no_implicit_lambda% (acalls_of tok dok (f := 127) ⟨Try.func127, rfl, by kernel_rfl⟩ ?_); refine no_implicit_lambda% (c_start (fun _ h => h) ?_)
 refine no_implicit_lambda% (awd ?_)
 refine no_implicit_lambda% (cal [] (hB) ?_ ?_)
 ·refine no_implicit_lambda% (ret1 ?_); first | (refine no_implicit_lambda% (akc ?_)) | (refine no_implicit_lambda% (aec ?_))
  repeat' (first | (refine no_implicit_lambda% (zH ?_)) | (((with_reducible refine no_implicit_lambda% (zA ?_)); refine no_implicit_lambda% (zD rfl rfl rfl (fun hc => ?_) (fun hc => ?_)) <;> rw [hc])) | (((with_reducible refine no_implicit_lambda% (zB ?_)); refine no_implicit_lambda% (zE rfl (fun hc => ?_) (fun hc => ?_)))) | (((with_reducible refine no_implicit_lambda% (zC ?_)); refine no_implicit_lambda% (zF rfl rfl (fun hc => ?_) (fun hc => ?_)) <;> rw [hc])) | fail)
  ·have hc' : c = 9221120237041090561 := by simp at hc; omega
   exact e_ret (H' := []) (rest := _) rfl ⟨by rw [placeN, if_pos hc']; rfl, rfl⟩ (.refl _) (LE0 rfl)
  ·have h0 : ¬ c = 9221120237041090561 := by rename_i h1; simp at h1; omega
   have h1 : ¬ c < 9223372036854775808 := by
    rw [show min (Int.toNat 63) IntKind.u64.bits = 63 from rfl, show (2 : Int) ^ 63 = 9223372036854775808 by decide, Int.fdiv_eq_ediv_of_nonneg _ (by decide)] at hc
    simp at hc
    omega
   rw [not64 hl, u64_of (by omega)]
   exact e_ret (H' := []) (rest := _) rfl ⟨by rw [placeN, if_neg h0, keyN, if_neg h1]; rfl, rfl⟩ (.refl _) (LE0 rfl)
  ·have h0 : ¬ c = 9221120237041090561 := by rename_i h1; simp at h1; omega
   have h1 : c < 9223372036854775808 := by
    rw [show min (Int.toNat 63) IntKind.u64.bits = 63 from rfl, show (2 : Int) ^ 63 = 9223372036854775808 by decide, Int.fdiv_eq_ediv_of_nonneg _ (by decide)] at hc
    simp at hc
    omega
   rw [BitVec.toNat_or, ofInt_nat hl, show (BitVec.ofInt IntKind.u64.bits 9223372036854775808).toNat = 9223372036854775808 from by decide, or63 h1, u64_of (by omega)]
   exact e_ret (H' := []) (rest := _) rfl ⟨by rw [placeN, if_neg h0, keyN, if_pos h1]; rfl, rfl⟩ (.refl _) (LE0 rfl)
 ·first | (exact zI) | (exact zJ)
theorem refOrder1_c (a b : Nat) (ha : a < 18446744073709551616) (hb : b < 18446744073709551616) : ACalls Try.prog 106 0 0 [.v (.float .f64 a), .v (.float .f64 b)] [] (fun out H' => out = .ret (.v (.int .i64 (cmpZ (keyI a) (keyI b)))) ∧ H' = []) := by
 rw [← key_place ha hb]
 have h1 := place_c a ha
 have h2 := place_c b hb
 generalize placeN (canonB a) = x at *
 generalize placeN (canonB b) = y at *
 refine no_implicit_lambda% (acalls_of tok dok (f := 106) ⟨Try.func106, rfl, by kernel_rfl⟩ ?_); refine no_implicit_lambda% (c_start (fun _ h => h) ?_)
 refine no_implicit_lambda% (awd ?_)
 refine no_implicit_lambda% (cal [] (h1) ?_ ?_)
 ·refine no_implicit_lambda% (ret1 ?_); first | (refine no_implicit_lambda% (akc ?_)) | (refine no_implicit_lambda% (aec ?_))
  refine no_implicit_lambda% (awd ?_)
  refine no_implicit_lambda% (cal [] (h2) ?_ ?_)
  ·refine no_implicit_lambda% (ret1 ?_); first | (refine no_implicit_lambda% (akc ?_)) | (refine no_implicit_lambda% (aec ?_))
   repeat' (first | (refine no_implicit_lambda% (zH ?_)) | (((with_reducible refine no_implicit_lambda% (zA ?_)); refine no_implicit_lambda% (zD rfl rfl rfl (fun hc => ?_) (fun hc => ?_)) <;> rw [hc])) | (((with_reducible refine no_implicit_lambda% (zB ?_)); refine no_implicit_lambda% (zE rfl (fun hc => ?_) (fun hc => ?_)))) | (((with_reducible refine no_implicit_lambda% (zC ?_)); refine no_implicit_lambda% (zF rfl rfl (fun hc => ?_) (fun hc => ?_)) <;> rw [hc])) | fail)
   ·exact e_ret (H' := []) rfl ⟨by simp at hc; rw [cmpZ, if_pos (by omega)]; rfl, rfl⟩ (.refl _) (LE0 rfl)
   ·exact e_ret (H' := []) rfl ⟨by simp at *; rw [cmpZ, if_neg (by omega), if_pos (by omega)]; rfl, rfl⟩ (.refl _) (LE0 rfl)
   ·exact e_ret (H' := []) rfl ⟨by simp at *; rw [cmpZ, if_neg (by omega), if_neg (by omega)]; rfl, rfl⟩ (.refl _) (LE0 rfl)
  ·first | (exact zI) | (exact zJ)
 ·first | (exact zI) | (exact zJ)
theorem kind_c (v : Va) : ACalls Try.prog 105 0 10 [vav v] [] (fun out H' => out = .ret (.v (.int .i64 (canV v).kind)) ∧ H' = []) := by
 obtain ⟨kd, b, n⟩ := v
 refine no_implicit_lambda% (acalls_of tok dok (f := 105) ⟨Try.func105, rfl, by kernel_rfl⟩ ?_); refine no_implicit_lambda% (c_start (fun _ h => h) ?_)
 repeat' (first | (refine no_implicit_lambda% (zH ?_)) | (((with_reducible refine no_implicit_lambda% (zA ?_)); refine no_implicit_lambda% (zD rfl rfl rfl (fun hc => ?_) (fun hc => ?_)) <;> rw [hc])) | (((with_reducible refine no_implicit_lambda% (zB ?_)); refine no_implicit_lambda% (zE rfl (fun hc => ?_) (fun hc => ?_)))) | (((with_reducible refine no_implicit_lambda% (zC ?_)); refine no_implicit_lambda% (zF rfl rfl (fun hc => ?_) (fun hc => ?_)) <;> rw [hc])) | fail)
 ·have h : kd = 1 := by simpa using hc
  subst h
  exact e_ret (H' := []) (rest := _) rfl ⟨rfl, rfl⟩ (.refl _) (LE0 rfl)
 ·have h : kd = 2 := by simpa using hc
  subst h
  exact e_ret (H' := []) (rest := _) rfl ⟨rfl, rfl⟩ (.refl _) (LE0 rfl)
 ·have h1 : ¬ kd = 1 := by rename_i h1; simpa using h1
  have h2 : ¬ kd = 2 := by simpa using hc
  exact e_ret (H' := []) (rest := _) rfl ⟨by unfold canV; rw [if_neg h1, if_neg h2]; rfl, rfl⟩ (.refl _) (LE0 rfl)
theorem less_cb : ∀ a b : List UInt8, Op.bytesLess a b = decide (Lib.compareBytes a b = -1)
 | [], [] => rfl
 | [], _ :: _ => rfl
 | _ :: _, [] => rfl
 | x :: a, y :: b => by
  have h := less_cb a b
  unfold Op.bytesLess Lib.compareBytes
  rw [h]
  by_cases h1 : x < y
  ·rw [if_pos h1]; simp [h1]
  ·rw [if_neg h1]
   by_cases h2 : y < x
   ·rw [if_pos h2]
    have : ¬ x = y := fun e => h1 (e ▸ h2)
    simp [h1, this]
   ·rw [if_neg h2]
    have : x = y := by
     rw [UInt8.lt_iff_toNat_lt] at h1 h2
     exact UInt8.toNat_inj.1 (by omega)
    subst this
    simp
theorem eq_cb : ∀ a b : List UInt8, (a == b) = decide (Lib.compareBytes a b = 0)
 | [], [] => rfl
 | [], _ :: _ => rfl
 | _ :: _, [] => rfl
 | x :: a, y :: b => by
  have h := eq_cb a b
  unfold Lib.compareBytes
  rw [List.cons_beq_cons, h]
  by_cases h1 : x < y
  ·rw [if_pos h1]
   have : ¬ x = y := fun e => by subst e; exact absurd h1 (by simp)
   simp [this]
  ·rw [if_neg h1]
   by_cases h2 : y < x
   ·rw [if_pos h2]
    have : ¬ x = y := fun e => h1 (e ▸ h2)
    simp [this]
   ·rw [if_neg h2]
    have : x = y := by
     rw [UInt8.lt_iff_toNat_lt] at h1 h2
     exact UInt8.toNat_inj.1 (by omega)
    subst this
    simp
theorem cb_three (a b : List UInt8) : Lib.compareBytes a b = -1 ∨ Lib.compareBytes a b = 0 ∨ Lib.compareBytes a b = 1 := by
 induction a generalizing b with
 | nil => cases b <;> simp [Lib.compareBytes]
 | cons x a ih =>
  cases b with
  | nil => simp [Lib.compareBytes]
  | cons y b =>
   unfold Lib.compareBytes
   repeat' split
   ·exact .inl rfl
   ·exact .inr (.inr rfl)
   ·exact ih b
theorem canV_kind3 (v : Va) : (canV v).kind = 0 ∨ (canV v).kind = 1 ∨ (canV v).kind = 2 := by
 unfold canV
 split
 ·exact .inr (.inl rfl)
 ·split
  ·exact .inr (.inr rfl)
  ·exact .inl rfl
theorem canV_b1 (v : Va) (h : (canV v).kind = 1) : (canV v).b = v.b := by
 unfold canV at *
 split
 ·rfl
 ·rename_i h1
  rw [if_neg h1] at h
  split at h <;> cases h
theorem canV_n2 (v : Va) (h : (canV v).kind = 2) : (canV v).n = canonB v.n := by
 unfold canV at *
 split
 ·rename_i h1
  rw [if_pos h1] at h
  cases h
 ·split
  ·rfl
  ·rename_i h1 h2
   rw [if_neg h1, if_neg h2] at h
   cases h
theorem keyI_canon (n : Nat) : keyI (canonB n) = keyI n := by unfold keyI; rw [canon2]
set_option maxHeartbeats 3200000 in
theorem refOrder_c (a b : Va) (ha : a.n < 18446744073709551616) (hb : b.n < 18446744073709551616) : ACalls Try.prog 69 0 100 [vav a, vav b] [] (fun out H' => out = .ret (.v (.int .i64 (ordV a b))) ∧ H' = []) := by
 have hka := kind_c a
 have hkb := kind_c b
 have hoo := refOrder1_c a.n b.n ha hb
 have c0 := canV_kind3 a
 have d0 := canV_kind3 b
 have c1 := canV_b1 a
 have d1 := canV_b1 b
 have c2 := canV_n2 a
 have d2 := canV_n2 b
 have ho : ordV a b = ordV0 (canV a) (canV b) := rfl
 unfold ordV0 at ho
 have o1 : (canV a).kind < (canV b).kind → ordV a b = -1 := fun h => by rw [ho, if_pos (by omega), cmpZ, if_pos h]
 have o2 : (canV a).kind > (canV b).kind → ordV a b = 1 := fun h => by rw [ho, if_pos (by omega), cmpZ, if_neg (by omega), if_pos h]
 have o3 : (canV a).kind = 2 → (canV b).kind = 2 → ordV a b = cmpZ (keyI a.n) (keyI b.n) := fun h k => by rw [ho, if_neg (by omega), if_neg (by omega), if_pos h, c2 h, d2 k, keyI_canon, keyI_canon]
 have o4 : (canV a).kind = 1 → (canV b).kind = 1 → ordV a b = Lib.compareBytes a.b b.b := fun h k => by rw [ho, if_neg (by omega), if_pos h, c1 h, d1 k]
 have o5 : (canV a).kind = 0 → (canV b).kind = 0 → ordV a b = 0 := fun h k => by rw [ho, if_neg (by omega), if_neg (by omega), if_neg (by omega)]
 clear ho c1 c2 d1 d2
 generalize ordV a b = oo at *
 generalize (canV a).kind = x at *
 generalize (canV b).kind = y at *
 obtain ⟨k1, b1, n1⟩ := a
 obtain ⟨k2, b2, n2⟩ := b
 simp only at *
 have oO : (x < y ∧ oo = -1) ∨ (x > y ∧ oo = 1) ∨ (x = 2 ∧ y = 2) ∨ (x = 1 ∧ y = 1 ∧ oo = Lib.compareBytes b1 b2) ∨ (x = 0 ∧ y = 0 ∧ oo = 0) := by
  rcases Int.lt_trichotomy x y with h | h | h
  ·exact .inl ⟨h, o1 h⟩
  ·subst h
   rcases c0 with h | h | h
   ·exact .inr (.inr (.inr (.inr ⟨h, h, o5 h h⟩)))
   ·exact .inr (.inr (.inr (.inl ⟨h, h, o4 h h⟩)))
   ·exact .inr (.inr (.inl ⟨h, h⟩))
  ·exact .inr (.inl ⟨h, o2 h⟩)
 have ol := less_cb b1 b2
 have oe := eq_cb b1 b2
 have o3' := cb_three b1 b2
 refine no_implicit_lambda% (acalls_of tok dok (f := 69) ⟨Try.func69, rfl, by kernel_rfl⟩ ?_); refine no_implicit_lambda% (c_start (fun _ h => h) ?_)
 refine no_implicit_lambda% (awd ?_)
 refine no_implicit_lambda% (cal [] (hka) ?_ ?_)
 ·refine no_implicit_lambda% (ret1 ?_); first | (refine no_implicit_lambda% (akc ?_)) | (refine no_implicit_lambda% (aec ?_))
  refine no_implicit_lambda% (awd ?_)
  refine no_implicit_lambda% (cal [] (hkb) ?_ ?_)
  ·refine no_implicit_lambda% (ret1 ?_); first | (refine no_implicit_lambda% (akc ?_)) | (refine no_implicit_lambda% (aec ?_))
   repeat' (first | (refine no_implicit_lambda% (zH ?_)) | (((with_reducible refine no_implicit_lambda% (zA ?_)); refine no_implicit_lambda% (zD rfl rfl rfl (fun hc => ?_) (fun hc => ?_)) <;> rw [hc])) | (((with_reducible refine no_implicit_lambda% (zB ?_)); refine no_implicit_lambda% (zE rfl (fun hc => ?_) (fun hc => ?_)))) | (((with_reducible refine no_implicit_lambda% (zC ?_)); refine no_implicit_lambda% (zF rfl rfl (fun hc => ?_) (fun hc => ?_)) <;> rw [hc])) | fail)
   ·refine e_ret (H' := []) (rest := _) rfl ⟨by rw [o1 (by simpa using hc)]; rfl, rfl⟩ (.refl _) (LE0 rfl)
   ·refine e_ret (H' := []) (rest := _) rfl ⟨by rw [o2 (by simpa using hc)]; rfl, rfl⟩ (.refl _) (LE0 rfl)
   ·have hx : x = 2 := by simpa using hc
    have hy : y = 2 := by simp at *; omega
    refine no_implicit_lambda% (cal [] (hoo) ?_ ?_)
    ·refine no_implicit_lambda% (ret1 ?_); first | (refine no_implicit_lambda% (akc ?_)) | (refine no_implicit_lambda% (aec ?_))
     refine no_implicit_lambda% (awd ?_)
     refine e_ret (H' := []) (rest := _) rfl ⟨by rw [o3 hx hy]; rfl, rfl⟩ (.refl _) (LE0 rfl)
    ·first | (exact zI) | (exact zJ)
   all_goals
    refine e_ret (H' := []) (rest := _) rfl ⟨congrArg (fun z => AOut.ret (.v (.int .i64 z))) ?_, rfl⟩ (.refl _) (LE0 rfl)
    clear hka hkb hoo
    try simp only [Lib.toList_data] at *
    simp only [ol, oe, beq_iff_eq, Bool.not_eq_true', Bool.not_eq_false', Bool.or_eq_true, Bool.or_eq_false_iff, decide_eq_true_eq, decide_eq_false_iff_not, beq_eq_false_iff_ne, ne_eq] at *
    omega
  ·first | (exact zI) | (exact zJ)
 ·first | (exact zI) | (exact zJ)
theorem refSame_c (a b : Va) (ha : a.n < 18446744073709551616) (hb : b.n < 18446744073709551616) : ACalls Try.prog 28 0 200 [vav a, vav b] [] (fun out H' => out = .ret (.v (.bool (ordV a b == 0))) ∧ H' = []) := by
 have cc := refOrder_c a b ha hb
 obtain ⟨ka, ba, na⟩ := a
 obtain ⟨kb, bb, nb⟩ := b
 refine no_implicit_lambda% (acalls_of tok dok (f := 28) ⟨Try.func28, rfl, by kernel_rfl⟩ ?_); refine no_implicit_lambda% (c_start (fun _ h => h) ?_)
 refine no_implicit_lambda% (awd ?_)
 refine no_implicit_lambda% (cal [] (cc) ?_ ?_)
 ·refine no_implicit_lambda% (ret1 ?_); first | (refine no_implicit_lambda% (akc ?_)) | (refine no_implicit_lambda% (aec ?_))
  refine no_implicit_lambda% (awd ?_)
  exact e_ret (H' := []) (rest := _) rfl ⟨rfl, rfl⟩ (.refl _) (LE0 rfl)
 ·first | (exact zI) | (exact zJ)
end Go.Proofs.Ytncffhgoopdfgaa
namespace Go.Am
open Go.RowKit
theorem RowsOk.take {sz : Nat} {rows : List (List AV)} (h : RowsOk sz rows) (i : Nat) : RowsOk sz (rows.take i) := by
 have hm : ∀ a ∈ (rows.take i).flatten, a ∈ rows.flatten := fun a ha => by
  obtain ⟨r, h1, h2⟩ := List.mem_flatten.1 ha
  exact List.mem_flatten.2 ⟨r, List.mem_of_mem_take h1, h2⟩
 exact ⟨fun row hr => h.len row (List.mem_of_mem_take hr), List.all_eq_true.2 fun a ha => List.all_eq_true.1 h.one a (hm a ha), fun a ha => h.pure a (hm a ha)⟩
section
variable {P : Program} {TT : Types} {o : Oper} {s : List AV} {L : Heap} {n : Nat}
end
section
variable {P : Program} {TT : Types} {s : List AV} {L : Heap} {n : Nat}
theorem c_l3 {D : Dr} {Kk : Kc} {x : Code} {α β γ : Type} (S : α → β → γ → ASt) (C : α → β → γ → Prop) (μ : α → β → γ → Nat) (a : α) (b : β) (c : γ) (ha : C a b c) (hc : Conv ⟨s, L, n⟩ (S a b c))
  (hround : ∀ a b c, C a b c → acode P TT D x (S a b c).slots (S a b c).L (S a b c).next (loopK D.low (fun p : α × β × γ => S p.1 p.2.1 p.2.2) (fun p => C p.1 p.2.1 p.2.2) (fun p => μ p.1 p.2.1 p.2.2) (a, b, c) Kk)) : acode P TT D (.loop x) s L n Kk :=
 c_loop' (fun p : α × β × γ => S p.1 p.2.1 p.2.2) (fun p => C p.1 p.2.1 p.2.2) (fun p => μ p.1 p.2.1 p.2.2) (a := (a, b, c)) ha hc fun p h => hround p.1 p.2.1 p.2.2 h
end
end Go.Am
namespace Go.Am
open Go.RowKit
/-! BORROW -/
def Ghost.mem (G : Ghost) (w : World) : Ghost := ⟨fun b i => w.cell? ⟨b, i, none⟩, G.loc, G.tk, fun _ => False, fun _ => False, w.heap.size⟩
def Reads (H : Heap) (a a' : AV) : Prop := ∀ G w x, Holds G w H → Sim G a x → Sim (G.mem w) a' x
theorem Reads.data {H : Heap} {a : AV} (hp : a.pure = true) : Reads H a a := fun G w x hh hs => by
 cases hs with
 | data _ _ h => exact .data _ _ (h.mono fun b i v hx => hh.X b i v hx)
 | tok => simp [AV.pure] at hp
 | _ => simp [AV.pure] at hp
theorem Sim.dataP {G : Ghost} {a : AV} {x : Value} (h : Sim G a x) (hp : a.pure = true) : SimD G.X a x := by
 cases h with
 | data _ _ h => exact h
 | _ => simp [AV.pure] at hp
theorem Reads.fn {H : Heap} {f : FuncId} : Reads H (.fn f []) (.fn f []) := fun G w x hh hs => by
 cases hs with
 | data _ _ h => cases h
 | fn _ _ vs hl h => exact .fn f [] vs hl fun i a ha => by simp at ha
theorem Reads.agg {H : Heap} {l l' : List AV} (hl : l.length = l'.length) (h : ∀ (i : Nat) (a' : AV), l'[i]? = some a' → ∃ a, l[i]? = some a ∧ Reads H a a') : Reads H (.agg l) (.agg l') := fun G w x hh hs => by
 cases hs with
 | data _ _ h => cases h
 | agg _ vs h1 h2 =>
  refine .agg l' vs (by omega) fun i a' ha => ?_
  obtain ⟨a, h3, h4⟩ := h i a' ha
  exact h4 G w _ hh (h2 i a h3)
theorem Reads.box {H : Heap} {id off m cp sz : Nat} {cells : List AV} {rows : List (List AV)} (hb : ∀ G w, Holds G w H → rows ≠ [] → BoxHolds G w id cells) (hr : ∀ row ∈ rows, row.length = sz) (hm : rows.length = m)
  (hd : ∀ i a', rows.flatten[i]? = some a' → ∃ a, cells[off + i]? = some a ∧ Reads H a a' ∧ a'.pure = true ∧ a.one = true) : Reads H (.arr id off m cp) (.list rows .free) := fun G w x hh hs => by
 obtain ⟨base, rfl, hlive, hnc, hcm, hbs⟩ := hs.arr_inv
 by_cases h00 : rows = []
 ·subst h00
  simp only [List.length_nil] at hm
  subst hm
  exact .data _ _ (.nil .free base cp hcm (by simp) (.inl rfl))
 ·obtain ⟨g0, arr, E, fr, g1, g2, g3, g4⟩ := hb G w hh h00
  have hpos : 0 < rows.length := List.length_pos_iff.2 h00
  subst hm
  obtain rfl := hbs (by omega)
  have hcell : ∀ (i : Nat) (a' : AV), rows.flatten[i]? = some a' → (G.mem w).X (G.loc id) (off + i) = some (arr.getD (off + i) undef) ∧ SimD (G.mem w).X a' (arr.getD (off + i) undef) ∧ (arr.getD (off + i) undef).oneCell' = true := fun i a' h => by
   obtain ⟨a, k1, k2, k3, k4⟩ := hd i a' h
   have h2 := (List.getElem?_eq_some_iff.1 k1).1
   have h3 := g4 _ a k1
   have h5 := k2 G w _ hh h3
   refine ⟨?_, ?_, h3.one k4⟩
   ·show w.cell? ⟨G.loc id, off + i, none⟩ = _
    have : off + i < arr.size := by omega
    simp [World.cell?, g1, this]
   ·exact h5.dataP k3
  refine .data _ _ (.list rows .free (G.loc id) off cp sz (fun i j => arr.getD (off + (i * sz + j)) undef) hnc hcm (by simp) (.inl rfl) hr (fun i row q a h1 h2 => ?_) (fun i row q a h1 h2 => ?_) (fun i row q a h1 h2 => ?_))
  all_goals
   obtain ⟨c1, c2, c3⟩ := hcell _ _ (flat_get hr h1 h2)
  ·rw [Nat.add_assoc]; exact c1
  ·exact c2
  ·exact c3
theorem Reads.seq {H : Heap} {id m cp k sz : Nat} {rows : List (List AV)} (hm0 : (id, Res.seq rows k) ∈ H) (hR : RowsOk sz rows) (hm : rows.length = m) : Reads H (.arr id 0 m cp) (.list rows .free) :=
 .box (cells := seqC rows k) (fun G w hh hne => (hh.res _ hm0 (by have := List.length_pos_iff.2 hne; omega)).1) hR.len hm fun i a ha => ⟨a, by
  rw [Nat.zero_add]; unfold seqC
  rw [List.getElem?_append_left (List.getElem?_eq_some_iff.1 ha).1]; exact ha, .data (hR.pure a (List.mem_of_getElem? ha)), hR.pure a (List.mem_of_getElem? ha), List.all_eq_true.1 hR.one a (List.mem_of_getElem? ha)⟩
theorem ACalls.top0 {P : Program} {f : FuncId} {top : Nat} {args : List AV} {x : Value} (h : ACalls P f 0 top args [] (fun out H' => out = .ret (.v x) ∧ H' = [])) : ACalls P f 0 0 args [] (fun out H' => out = .ret (.v x) ∧ H' = []) :=
 h.ren (Nat.zero_le _) fun out H' hh => by
  obtain ⟨rfl, rfl⟩ := hh
  exact ⟨[], .ret (.v x), [], List.nodup_nil, (fun i h => by cases h), (fun i h => absurd h (Nat.not_lt_zero i)), Nat.le_refl _, (by simp [AOut.ren, AV.ren]), rfl, rfl, rfl⟩
/-! a field of a struct that is a value -/
end Go.Am
namespace Go.Proofs.Ytncffhgoopdfgaa
open Go.Am
set_option maxRecDepth 100000
def sLt (a b : ByteArray) : Bool := Op.bytesLess a.toList b.toList
structure Ve where
 t : Int
 v : Va
structure Co where
 n : ByteArray
 l : List Ve
def nmB (s : ByteArray) : Bool := decide ((1 : Int) ≤ s.size ∧ (s.size : Int) ≤ 16)
theorem name_c (s : ByteArray) : ACalls Try.prog 74 0 0 [.v (.string s)] [] (fun out H' => out = .ret (.v (.bool (nmB s))) ∧ H' = []) := by
 refine no_implicit_lambda% (acalls_of tok dok (f := 74) ⟨Try.func74, rfl, by kernel_rfl⟩ ?_); refine no_implicit_lambda% (c_start (fun _ h => h) ?_)
 repeat' (first | (refine no_implicit_lambda% (zH ?_)) | (refine no_implicit_lambda% (spl (fun hc => ?_) (fun hc => ?_)) <;> first | exact zG hc | skip) | (refine no_implicit_lambda% (ans ?_)) | (with_reducible first | exact zI | exact zJ))
 all_goals (refine no_implicit_lambda% (e_ret (H' := []) (rest := _) rfl ⟨congrArg (fun z => AOut.ret (.v (.bool z))) ?_, rfl⟩ (.refl _) (LE0 rfl)); unfold nmB; (refine no_implicit_lambda% (Bool.eq_iff_iff.2 ?_); simp only [decide_eq_true_eq, decide_eq_false_iff_not, Bool.false_eq_true, Bool.and_eq_true, Bool.or_eq_true, Bool.not_eq_true', beq_iff_eq, List.length_map, true_iff, false_iff, iff_false, iff_true] at *; omega))
def vRt (v : Va) : Bool := v.kind == 1 && decide ((v.b.length : Int) ≤ 16) || v.kind == 2
def tmOk (t : Int) : Bool := decide (0 ≤ t ∧ t ≤ 1099511627776)
def ltT : Option Int → Int → Bool
 | none, _ => true
 | some q, t => decide (t < q)
def ltN : Option ByteArray → ByteArray → Bool
 | none, _ => true
 | some q, n => sLt q n
def versB : Option Int → List Ve → Bool
 | _, [] => true
 | p, x :: l => tmOk x.t && vRt x.v && ltT p x.t && versB (some x.t) l
def colB (c : Co) : Bool := nmB c.n && decide (1 ≤ c.l.length ∧ c.l.length ≤ 2) && versB none c.l
def colsB : Option ByteArray → List Co → Bool
 | _, [] => true
 | p, c :: l => colB c && ltN p c.n && colsB (some c.n) l
def rowB (r : List Co) : Bool := colsB none r && decide (r.length ≤ 4)
end Go.Proofs.Ytncffhgoopdfgaa
namespace Go.Proofs.Ytncffhgoopdfgaa
open Go.Am
set_option maxRecDepth 100000
def canE (x : Ve) : Ve := ⟨x.t, canV x.v⟩
def canC (c : Co) : Co := ⟨c.n, c.l.map canE⟩
end Go.Proofs.Ytncffhgoopdfgaa
namespace Go.Proofs.Ytncffhgoopdfgaa
open Go.Am
set_option maxRecDepth 100000
theorem cmpZ_refl (a : Int) : cmpZ a a = 0 := by unfold cmpZ; repeat' split <;> omega
theorem cb_refl : ∀ a : List UInt8, Lib.compareBytes a a = 0
 | [] => rfl
 | x :: a => by
  unfold Lib.compareBytes
  rw [if_neg (by simp), if_neg (by simp)]; exact cb_refl a
theorem cb_anti : ∀ a b : List UInt8, Lib.compareBytes a b = 0 - Lib.compareBytes b a
 | [], [] => rfl
 | [], _ :: _ => rfl
 | _ :: _, [] => rfl
 | x :: a, y :: b => by
  unfold Lib.compareBytes
  have h := cb_anti a b
  simp only [UInt8.lt_iff_toNat_lt]
  repeat' split <;> omega
theorem ord0_refl (x : Va) : ordV0 x x = 0 := by
 unfold ordV0
 rw [if_neg (by omega)]
 split
 ·exact cb_refl _
 ·split
  ·exact cmpZ_refl _
  ·rfl
theorem canonB_idem (n : Nat) : canonB (canonB n) = canonB n := by
 unfold canonB
 have e : nanB 9221120237041090561 = true := by kernel_rfl
 cases h : nanB n
 ·simp [h]
 ·simp [e]
theorem canV_idem (v : Va) : canV (canV v) = canV v := by
 unfold canV
 split
 ·rfl
 ·split
  ·show (⟨2, [], canonB (canonB v.n)⟩ : Va) = _
   rw [canonB_idem]
  ·rfl
theorem ord_can (v : Va) : ordV v (canV v) = 0 := by
 unfold ordV
 rw [canV_idem]; exact ord0_refl _
end Go.Proofs.Ytncffhgoopdfgaa
namespace Go.Proofs.Ytncffhgoopdfgaa
open Go.Am
set_option maxRecDepth 100000
def Nsort (l : List Co) : Prop := l.Pairwise fun a b => sLt a.n b.n = true
end Go.Proofs.Ytncffhgoopdfgaa
namespace Go.Proofs.Ytncffhgoopdfgaa
open Go.Am
set_option maxRecDepth 100000
end Go.Proofs.Ytncffhgoopdfgaa
namespace Go.Proofs.Ytncffhgoopdfgaa
open Go.Am
set_option maxRecDepth 100000
end Go.Proofs.Ytncffhgoopdfgaa
namespace Go.Proofs.Ytncffhgoopdfgaa
open Go.Am
set_option maxRecDepth 100000
end Go.Proofs.Ytncffhgoopdfgaa
namespace Go.Proofs.Ytncffhgoopdfgaa
open Go.Am
set_option maxRecDepth 100000
end Go.Proofs.Ytncffhgoopdfgaa
namespace Go.Proofs.Ytncffhgoopdfgaa
open Go.Am
set_option maxRecDepth 100000
end Go.Proofs.Ytncffhgoopdfgaa
namespace Go.Proofs.Ytncffhgoopdfgaa
open Go.Am
set_option maxRecDepth 100000
end Go.Proofs.Ytncffhgoopdfgaa
namespace Go.Proofs.Ytncffhgoopdfgaa
open Go.Am
set_option maxRecDepth 100000
end Go.Proofs.Ytncffhgoopdfgaa
namespace Go.Proofs.Ytncffhgoopdfgaa
open Go.Am
set_option maxRecDepth 100000
end Go.Proofs.Ytncffhgoopdfgaa
namespace Go.Proofs.Ytncffhgoopdfgaa
open Go.Am
structure Fine (o : List Co) : Prop where
 len : o.length ≤ 4
 col : ∀ c ∈ o, colB c = true
 can : ∀ c ∈ o, canC c = c
 srt : Nsort o
theorem cols_of : ∀ (l : List Co) (p : Option ByteArray), (∀ c ∈ l, colB c = true) → Nsort l → (∀ q, p = some q → ∀ c ∈ l, sLt q c.n = true) → colsB p l = true
 | [], p, _, _, _ => rfl
 | c :: l, p, h1, h2, h3 => by
  unfold Nsort at h2
  rw [List.pairwise_cons] at h2
  unfold colsB
  simp only [Bool.and_eq_true]
  refine ⟨⟨h1 c (by simp), ?_⟩, cols_of l _ (fun d hd => h1 d (by simp [hd])) h2.2 fun q hq d hd => ?_⟩
  ·cases p with
   | none => rfl
   | some q => exact h3 q rfl c (by simp)
  ·cases hq; exact h2.1 d hd
theorem Fine.row {o : List Co} (h : Fine o) : rowB o = true := by
 unfold rowB
 rw [cols_of o none h.col h.srt (fun q hq => by cases hq), decide_eq_true h.len]; rfl
end Go.Proofs.Ytncffhgoopdfgaa
namespace Go.Proofs.Ytncffhgoopdfgaa
open Go.Am
end Go.Proofs.Ytncffhgoopdfgaa
namespace Go.Proofs.Ytncffhgoopdfgaa
open Go.Am
set_option maxRecDepth 100000
end Go.Proofs.Ytncffhgoopdfgaa
namespace Go.Proofs.Ytncffhgoopdfgaa
open Go.Am
set_option maxRecDepth 100000
end Go.Proofs.Ytncffhgoopdfgaa
namespace Go.Proofs.Ytncffhgoopdfgaa
open Go.Am
set_option maxRecDepth 100000
end Go.Proofs.Ytncffhgoopdfgaa
namespace Go.Am
open Go.RowKit
section
variable {P : Program} {TT : Types} {D : Dr} {all rest : List Oper} {o : Oper} {s s' : List AV} {L L' L'' : Heap} {n n' : Nat} {K : Kn} {KP : AV → Kn} {av : AV} {Kk : Kc}
end
theorem WkL.dead : ∀ (l : List AV), WkL l (List.replicate l.length .dead)
 | [] => .nil
 | a :: l => .cons (.dead a) (WkL.dead l)
end Go.Am
namespace Go.Proofs.Ytncffhgoopdfgaa
open Go.Am
set_option maxRecDepth 100000
end Go.Proofs.Ytncffhgoopdfgaa
namespace Go.Proofs.Ytncffhgoopdfgaa
open Go.Am
set_option maxRecDepth 100000
end Go.Proofs.Ytncffhgoopdfgaa
namespace Go.Proofs.Ytncffhgoopdfgaa
open Go.Am
set_option maxRecDepth 100000
end Go.Proofs.Ytncffhgoopdfgaa
namespace Go.Proofs.Ytncffhgoopdfgaa
open Go.Am
set_option maxRecDepth 100000
end Go.Proofs.Ytncffhgoopdfgaa
namespace Go.Proofs.Ytncffhgoopdfgaa
open Go.Am
set_option maxRecDepth 100000
end Go.Proofs.Ytncffhgoopdfgaa
namespace Go.Proofs.Ytncffhgoopdfgaa
open Go.Am
set_option maxRecDepth 100000
end Go.Proofs.Ytncffhgoopdfgaa
namespace Go.Proofs.Ytncffhgoopdfgaa
open Go.Am
set_option maxRecDepth 100000
end Go.Proofs.Ytncffhgoopdfgaa
namespace Go.Proofs.Ytncffhgoopdfgaa
open Go.Am
set_option maxRecDepth 100000
theorem pick_c (l : List ByteArray) (n : Int) (hl : 0 < l.length ∧ l.length < 1000) (h1 : -9223372036854775808 ≤ n) (h2 : n ≤ 9223372036854775807) : ACalls Try.prog 72 0 0 [.list (l.map fun s => [.v (.string s)]) .free, .v (.int .i64 n)] [] (fun out H' => ∃ t ∈ l, out = .ret (.v (.string t)) ∧ H' = []) := by
 have hw := wthn_c n 0 1048576 h1 h2 (by decide) (by decide) (by decide) (by decide)
 refine no_implicit_lambda% (acalls_of tok dok (f := 72) ⟨Try.func72, rfl, by kernel_rfl⟩ ?_); refine no_implicit_lambda% (c_start (fun _ h => h) ?_)
 have hb := wthn_bd n 0 1048576 (by decide)
 generalize wthn n 0 1048576 = w at *
 repeat' (first | (refine no_implicit_lambda% (zH ?_)) | (refine no_implicit_lambda% (spl (fun hc => ?_) (fun hc => ?_)) <;> first | exact zG hc | skip) | (refine no_implicit_lambda% (ans ?_)) | (with_reducible first | exact zI | exact zJ) | (refine no_implicit_lambda% (cal [] (hw) ?_ ?_)) | fail)
 refine no_implicit_lambda% (aqs ?_ ?_)
 ·rw [List.length_map]; omega
 have hj : 0 ≤ w.tmod ((l.map fun s => [AV.v (.string s)]).length : Int) ∧ w.tmod ((l.map fun s => [AV.v (.string s)]).length : Int) < l.length := by
  rw [List.length_map]
  exact ⟨Int.tmod_nonneg _ hb.1, Int.tmod_lt_of_pos _ (by omega)⟩
 generalize w.tmod ((l.map fun s => [AV.v (.string s)]).length : Int) = j at *
 obtain ⟨t, ht⟩ : ∃ t, l[j.toNat]? = some t := ⟨_, List.getElem?_eq_getElem (by omega)⟩
 have hix : 0 ≤ j ∧ (l.map fun s => [AV.v (.string s)])[j.toNat]? = some [.v (.string t)] ∧ ([AV.v (.string t)] : List AV).length = 1 := ⟨hj.1, by rw [List.getElem?_map, ht]; rfl, rfl⟩
 repeat' (first | (refine no_implicit_lambda% (zH ?_)) | (refine no_implicit_lambda% (spl (fun hc => ?_) (fun hc => ?_)) <;> first | exact zG hc | skip) | (refine no_implicit_lambda% (ans ?_)) | (with_reducible first | exact zI | exact zJ))
 exact e_ret (H' := []) (rest := _) rfl ⟨t, List.mem_of_getElem? ht, rfl, rfl⟩ (.refl _) (LE0 rfl)
def bsS (l : List UInt8) : ByteArray := ⟨l.toArray⟩
def colL : List ByteArray := [bsS [120], bsS [121], bsS [119], bsS [118], bsS [108, 111, 110, 103, 46, 110, 97, 109, 101, 46, 49, 54, 46, 98, 121, 116]]
theorem keepcol_c (n : Int) (h1 : -9223372036854775808 ≤ n) (h2 : n ≤ 9223372036854775807) : ACalls Try.prog 73 0 5 [.v (.int .i64 n)] [] (fun out H' => ∃ t ∈ colL, out = .ret (.v (.string t)) ∧ H' = []) := by
 have hp := pick_c colL n (by decide) h1 h2
 refine no_implicit_lambda% (acalls_of tok dok (f := 73) ⟨Try.func73, rfl, by kernel_rfl⟩ ?_); refine no_implicit_lambda% (c_start (fun _ h => h) ?_)
 repeat' (first | (refine no_implicit_lambda% (zH ?_)) | (refine no_implicit_lambda% (spl (fun hc => ?_) (fun hc => ?_)) <;> first | exact zG hc | skip) | (refine no_implicit_lambda% (ans ?_)) | (with_reducible first | exact zI | exact zJ))
 (refine no_implicit_lambda% (calw [] (hp) ?_ ?_))
 ·intro xx H' hh
  obtain ⟨t, ht, h', rfl⟩ := hh
  cases h'
  first | (refine no_implicit_lambda% (akc ?_)) | (refine no_implicit_lambda% (aec ?_))
  repeat' (first | (refine no_implicit_lambda% (zH ?_)) | (refine no_implicit_lambda% (spl (fun hc => ?_) (fun hc => ?_)) <;> first | exact zG hc | skip) | (refine no_implicit_lambda% (ans ?_)) | (with_reducible first | exact zI | exact zJ))
  exact e_ret (H' := []) (rest := _) rfl ⟨t, ht, rfl, rfl⟩ permT (LE0 rfl)
 ·intro xx H' hh
  obtain ⟨_, _, h', _⟩ := hh
  cases h'
structure Rk where
 k : Int
 c : Int
 nm : ByteArray
 t : Int
 tx : Bool
 n : Int
 x : Nat
 b : List UInt8
structure RkOk (a : Rk) : Prop where
 c : -9223372036854775808 ≤ a.c ∧ a.c ≤ 9223372036854775807
 t : -9223372036854775808 ≤ a.t ∧ a.t ≤ 9223372036854775807
 n : -9223372036854775808 ≤ a.n ∧ a.n ≤ 9223372036854775807
 x : a.x < 18446744073709551616
end Go.Proofs.Ytncffhgoopdfgaa
namespace Go.Proofs.Ytncffhgoopdfgaa
open Go.Am
set_option maxRecDepth 100000
end Go.Proofs.Ytncffhgoopdfgaa
namespace Go.Proofs.Ytncffhgoopdfgaa
open Go.Am
set_option maxRecDepth 100000
end Go.Proofs.Ytncffhgoopdfgaa
