/- Part 9 of what the laws ChangeTells rest on: Rd, Vf, Vg, AmSl. -/
import Derived.Test.YtncffhgoopdfgaaGreatP8
set_option linter.unusedSimpArgs false
set_option linter.unusedVariables false
namespace Go.Proofs.YtncffhgoopdfgaaGreat
open Go.Am
set_option maxRecDepth 100000
def rr (b : List UInt8) (bad : Bool) : Heap := [(0, .box [.list (b.map brow) .free, .v (.bool bad)])]
theorem rr_free (s : List AV) (n : Nat) (bad : Bool) (rows : List (List AV)) (o : Own) : Conv ⟨s, [(0, .box [.list rows o, .v (.bool bad)])], n⟩ ⟨s, [(0, .box [.list rows .free, .v (.bool bad)])], n⟩ :=
 .wk (.refl _) (.cons (.box _ (.cons (.free _ _) (.refl _))) (.refl _))
theorem refFail_c (b : List UInt8) (bad : Bool) : ACalls Tryz.prog 127 1 1 [.ptr 0 0] (rr b bad) (fun out H' => out = .ret (.tuple []) ∧ H' = rr [] true) := by
 refine no_implicit_lambda% (acalls_of tok dok (f := 127) ⟨Tryz.func127, rfl, by kernel_rfl⟩ ?_); refine no_implicit_lambda% (c_start (fun _ h => h) ?_)
 refine no_implicit_lambda% (awd ?_)
 exact e_ret_to (H' := rr [] true) (rest := []) (rr_free _ _ _ _ _) rfl ⟨rfl, rfl⟩ (.of_eq rfl) (LE0 rfl)
def rSome (n : Nat) (b : List UInt8) (bad : Bool) : List UInt8 := if bad = false ∧ n ≤ b.length then b.take n else List.replicate (min n 8) 0
def rBad (n : Nat) (b : List UInt8) (bad : Bool) : Bool := !decide (bad = false ∧ n ≤ b.length)
def rLeft (n : Nat) (b : List UInt8) (bad : Bool) : List UInt8 := if bad = false ∧ n ≤ b.length then b.drop n else []
theorem rSome_len (n : Nat) (b : List UInt8) (bad : Bool) (hn : n ≤ 8) : (rSome n b bad).length = n := by
 unfold rSome
 split
 ·rename_i h; rw [List.length_take]; omega
 ·rw [List.length_replicate]; omega
theorem refSome_c (b : List UInt8) (bad : Bool) (n : Nat) (hn : n ≤ 8) (h : b.length < 70368744177664) : ACalls Tryz.prog 172 1 3 [.ptr 0 0, .v (.int .i64 n)] (rr b bad) (fun out H' => out = .ret (.list ((rSome n b bad).map brow) .free) ∧ H' = rr (rLeft n b bad) (rBad n b bad)) := by
 refine no_implicit_lambda% (acalls_of tok dok (f := 172) ⟨Tryz.func172, rfl, by kernel_rfl⟩ ?_); refine no_implicit_lambda% (c_start (fun _ h => h) ?_)
 repeat' (first | (refine no_implicit_lambda% (zH ?_)) | (((with_reducible refine no_implicit_lambda% (zA ?_)); refine no_implicit_lambda% (zD rfl rfl rfl (fun hc => ?_) (fun hc => ?_)) <;> rw [hc])) | (((with_reducible refine no_implicit_lambda% (zB ?_)); refine no_implicit_lambda% (zE rfl (fun hc => ?_) (fun hc => ?_)))) | (((with_reducible refine no_implicit_lambda% (zC ?_)); refine no_implicit_lambda% (zF rfl rfl (fun hc => ?_) (fun hc => ?_)) <;> rw [hc])) | fail)
 ·have e1 : rSome n b true = List.replicate n 0 := by unfold rSome; rw [if_neg (by simp), Nat.min_eq_left hn]
  have e2 : rBad n b true = true := by unfold rBad; rw [decide_eq_false (by simp)]; rfl
  have e3 : rLeft n b true = [] := by unfold rLeft; rw [if_neg (by simp)]
  rw [e1, e2, e3]
  refine no_implicit_lambda% (cal [0] (refFail_c b true) ?_ ?_)
  ·refine no_implicit_lambda% (ret1 ?_); first | (refine no_implicit_lambda% (akc ?_)) | (refine no_implicit_lambda% (aec ?_))
   refine no_implicit_lambda% (awd ?_)
   rw [show (if (8 : Int) < (n : Int) then (8 : Int) else (n : Int)) = (n : Int) by rw [if_neg (by omega)]]
   refine no_implicit_lambda% (aqs ?_ ?_)
   ·exact ⟨rfl, Int.natCast_nonneg n, by omega, by show ((1 : Nat) : Int) * (n : Int) ≤ 140737488355328; omega⟩
   refine no_implicit_lambda% (awd ?_)
   refine e_ret_to (H' := rr [] true) (rest := []) (.freeSlot 4 rfl) rfl ⟨congrArg (fun l => AOut.ret (.list l .free)) ?_, rfl⟩ (.of_eq rfl) (LE0 rfl)
   rw [Int.toNat_natCast, List.map_replicate]
   rfl
  ·first | (exact zI) | (exact zJ)
 ·have e1 : rSome n b false = List.replicate n 0 := by unfold rSome; rw [if_neg (by simp at *; omega), Nat.min_eq_left hn]
  have e2 : rBad n b false = true := by unfold rBad; rw [decide_eq_false (by simp at *; omega)]; rfl
  have e3 : rLeft n b false = [] := by unfold rLeft; rw [if_neg (by simp at *; omega)]
  rw [e1, e2, e3]
  refine no_implicit_lambda% (cal [0] (refFail_c b false) ?_ ?_)
  ·refine no_implicit_lambda% (ret1 ?_); first | (refine no_implicit_lambda% (akc ?_)) | (refine no_implicit_lambda% (aec ?_))
   refine no_implicit_lambda% (awd ?_)
   rw [show (if (8 : Int) < (n : Int) then (8 : Int) else (n : Int)) = (n : Int) by rw [if_neg (by omega)]]
   refine no_implicit_lambda% (aqs ?_ ?_)
   ·exact ⟨rfl, Int.natCast_nonneg n, by omega, by show ((1 : Nat) : Int) * (n : Int) ≤ 140737488355328; omega⟩
   refine no_implicit_lambda% (awd ?_)
   refine e_ret_to (H' := rr [] true) (rest := []) (.freeSlot 4 rfl) rfl ⟨congrArg (fun l => AOut.ret (.list l .free)) ?_, rfl⟩ (.of_eq rfl) (LE0 rfl)
   rw [Int.toNat_natCast, List.map_replicate]
   rfl
  ·first | (exact zI) | (exact zJ)
 ·have hn' : n ≤ b.length := by simp at *; omega
  have e1 : rSome n b false = b.take n := by unfold rSome; rw [if_pos ⟨rfl, hn'⟩]
  have e2 : rBad n b false = false := by unfold rBad; rw [decide_eq_true ⟨rfl, hn'⟩]; rfl
  have e3 : rLeft n b false = b.drop n := by unfold rLeft; rw [if_pos ⟨rfl, hn'⟩]
  rw [e1, e2, e3]
  refine no_implicit_lambda% (aqs ?_ ?_)
  ·refine ⟨trivial, Int.natCast_nonneg n, Nat.zero_le _, ?_, brows b⟩
   simpa using hn'
  refine k_as (.list ((b.take n).map brow) .free) (by simp [List.map_take, orFull, isFull, isNone]) ?_
  have hl : (b.take n).length ≤ 8 := by rw [List.length_take]; omega
  refine no_implicit_lambda% (awd ?_)
  refine no_implicit_lambda% (aqs ?_ ?_)
  ·refine ⟨Int.natCast_nonneg n, trivial, ?_, Nat.le_refl _, brows b⟩
   simpa using hn'
  refine k_as (.list ((b.drop n).map brow) .free) (by rw [Int.toNat_natCast, List.take_of_length_le (Nat.le_refl _), List.map_drop]) ?_
  refine no_implicit_lambda% (awd ?_)
  exact e_ret_to (H' := rr (b.drop n) false) (rest := [(1, .tok 1 (([] : List AV).length + ((b.take n).map brow).length))]) (.freeSlot 4 rfl) rfl ⟨rfl, rfl⟩ (.swap _ _ _) (LE0 rfl)
theorem shl32 {a k : Nat} (h : a * 2 ^ k < 4294967296) (m : Nat) (hm : m = k) : IntKind.u32.wrap ((a : Int) * 2 ^ m) = ((a * 2 ^ k : Nat) : Int) := by
 subst hm
 have : ((a : Int) * 2 ^ m) = ((a * 2 ^ m : Nat) : Int) := by rw [Int.natCast_mul, Int.natCast_pow]; rfl
 rw [IntKind.wrap_u32, this]
 omega
theorem or32 {a c k : Nat} (ha : a * 2 ^ k + c < 4294967296) (hc : c < 2 ^ k) : IntKind.u32.wrap ((BitVec.ofInt IntKind.u32.bits ((a * 2 ^ k : Nat) : Int) ||| BitVec.ofInt IntKind.u32.bits (c : Int)).toNat : Int) = ((a * 2 ^ k + c : Nat) : Int) := by
 have e : ∀ {n : Nat}, n < 4294967296 → (BitVec.ofInt IntKind.u32.bits (n : Int)).toNat = n := fun {n} h => by
  show (BitVec.ofInt 32 (n : Int)).toNat = n
  rw [BitVec.toNat_ofInt]; omega
 rw [BitVec.toNat_or, e (by omega), e (by omega), ← Nat.shiftLeft_eq, ← Nat.shiftLeft_add_eq_or_of_lt hc, Nat.shiftLeft_eq, IntKind.wrap_u32]
 omega
theorem w32 {n : Nat} (h : n < 4294967296) : IntKind.u32.wrap (n : Int) = n := by rw [IntKind.wrap_u32]; omega
theorem num4 {x0 x1 x2 x3 : Nat} (h0 : x0 < 256) (h1 : x1 < 256) (h2 : x2 < 256) (h3 : x3 < 256) :
  IntKind.u32.wrap (BitVec.ofInt IntKind.u32.bits (IntKind.u32.wrap (BitVec.ofInt IntKind.u32.bits (IntKind.u32.wrap (BitVec.ofInt IntKind.u32.bits (IntKind.u32.wrap (IntKind.u32.wrap (x0 : Int) * 2 ^ min (Int.toNat 24) IntKind.u32.bits)) ||| BitVec.ofInt IntKind.u32.bits (IntKind.u32.wrap (IntKind.u32.wrap (x1 : Int) * 2 ^ min (Int.toNat 16) IntKind.u32.bits))).toNat) ||| BitVec.ofInt IntKind.u32.bits (IntKind.u32.wrap (IntKind.u32.wrap (x2 : Int) * 2 ^ min (Int.toNat 8) IntKind.u32.bits))).toNat) ||| BitVec.ofInt IntKind.u32.bits (IntKind.u32.wrap (x3 : Int))).toNat = ((((x0 * 256 + x1) * 256 + x2) * 256 + x3 : Nat) : Int) := by
 rw [w32 (n := x0) (by omega), w32 (n := x1) (by omega), w32 (n := x2) (by omega), w32 (n := x3) (by omega)]
 rw [shl32 (a := x0) (k := 24) (by omega) (min (Int.toNat 24) IntKind.u32.bits) rfl, shl32 (a := x1) (k := 16) (by omega) (min (Int.toNat 16) IntKind.u32.bits) rfl, shl32 (a := x2) (k := 8) (by omega) (min (Int.toNat 8) IntKind.u32.bits) rfl]
 rw [or32 (a := x0) (k := 24) (c := x1 * 2 ^ 16) (by omega) (by omega)]
 rw [show x0 * 2 ^ 24 + x1 * 2 ^ 16 = (x0 * 256 + x1) * 2 ^ 16 by omega, or32 (by omega) (by omega)]
 rw [show (x0 * 256 + x1) * 2 ^ 16 + x2 * 2 ^ 8 = ((x0 * 256 + x1) * 256 + x2) * 2 ^ 8 by omega, or32 (by omega) (by omega)]
theorem refByte_c (b : List UInt8) (bad : Bool) (h : b.length < 70368744177664) : ACalls Tryz.prog 122 1 4 [.ptr 0 0] (rr b bad) (fun out H' => out = .ret (.v (.int .u8 (ubn (rSome 1 b bad) 0))) ∧ H' = rr (rLeft 1 b bad) (rBad 1 b bad)) := by
 refine no_implicit_lambda% (acalls_of tok dok (f := 122) ⟨Tryz.func122, rfl, by kernel_rfl⟩ ?_); refine no_implicit_lambda% (c_start (fun _ h => h) ?_)
 refine no_implicit_lambda% (awd ?_)
 refine no_implicit_lambda% (cal [0] (refSome_c b bad 1 (by decide) h) ?_ ?_)
 ·refine no_implicit_lambda% (ret1 ?_); first | (refine no_implicit_lambda% (akc ?_)) | (refine no_implicit_lambda% (aec ?_))
  have hl := rSome_len 1 b bad (by decide)
  generalize rSome 1 b bad = q at *
  match q, hl with
  | [c], _ =>
   have h0 : 0 ≤ (0 : Int) ∧ (List.map brow [c])[Int.toNat 0]? = some (brow c) ∧ (brow c).length = 1 := ⟨by decide, rfl, rfl⟩
   refine no_implicit_lambda% (awd ?_)
   refine e_ret (H' := rr (rLeft 1 b bad) (rBad 1 b bad)) (rest := []) rfl ⟨?_, rfl⟩ (.of_eq rfl) (LE0 rfl)
   simp [ubn]
   rfl
 ·first | (exact zI) | (exact zJ)
theorem refRNum_c (b : List UInt8) (bad : Bool) (h : b.length < 70368744177664) : ACalls Tryz.prog 125 1 4 [.ptr 0 0] (rr b bad) (fun out H' => out = .ret (.v (.int .u32 (ubn (rSome 4 b bad) 0))) ∧ H' = rr (rLeft 4 b bad) (rBad 4 b bad)) := by
 refine no_implicit_lambda% (acalls_of tok dok (f := 125) ⟨Tryz.func125, rfl, by kernel_rfl⟩ ?_); refine no_implicit_lambda% (c_start (fun _ h => h) ?_)
 refine no_implicit_lambda% (awd ?_)
 refine no_implicit_lambda% (cal [0] (refSome_c b bad 4 (by decide) h) ?_ ?_)
 ·refine no_implicit_lambda% (ret1 ?_); first | (refine no_implicit_lambda% (akc ?_)) | (refine no_implicit_lambda% (aec ?_))
  have hl := rSome_len 4 b bad (by decide)
  generalize rSome 4 b bad = q at *
  match q, hl with
  | [c0, c1, c2, c3], _ =>
   have h0 : 0 ≤ (0 : Int) ∧ (List.map brow [c0, c1, c2, c3])[Int.toNat 0]? = some (brow c0) ∧ (brow c0).length = 1 := ⟨by decide, rfl, rfl⟩
   have h1 : 0 ≤ (1 : Int) ∧ (List.map brow [c0, c1, c2, c3])[Int.toNat 1]? = some (brow c1) ∧ (brow c1).length = 1 := ⟨by decide, rfl, rfl⟩
   have h2 : 0 ≤ (2 : Int) ∧ (List.map brow [c0, c1, c2, c3])[Int.toNat 2]? = some (brow c2) ∧ (brow c2).length = 1 := ⟨by decide, rfl, rfl⟩
   have h3 : 0 ≤ (3 : Int) ∧ (List.map brow [c0, c1, c2, c3])[Int.toNat 3]? = some (brow c3) ∧ (brow c3).length = 1 := ⟨by decide, rfl, rfl⟩
   refine no_implicit_lambda% (awd ?_)
   rw [num4 c0.toNat_lt c1.toNat_lt c2.toNat_lt c3.toNat_lt]
   refine e_ret (H' := rr (rLeft 4 b bad) (rBad 4 b bad)) (rest := []) rfl ⟨?_, rfl⟩ (.of_eq rfl) (LE0 rfl)
   simp [ubn]
   rfl
 ·first | (exact zI) | (exact zJ)
theorem shl_or64 {a c : Nat} (ha : a < 4294967296) (hc : c < 4294967296) : IntKind.u64.wrap (BitVec.ofInt IntKind.u64.bits (IntKind.u64.wrap (IntKind.u64.wrap (a : Int) * 2 ^ min (Int.toNat 32) IntKind.u64.bits)) ||| BitVec.ofInt IntKind.u64.bits (IntKind.u64.wrap (c : Int))).toNat = ((a * 4294967296 + c : Nat) : Int) := by
 rw [u64_of (n := a) (by omega), u64_of (n := c) (by omega)]
 have e : ((a : Int) * 2 ^ min (Int.toNat 32) IntKind.u64.bits) = ((a * 4294967296 : Nat) : Int) := by
  have : min (Int.toNat 32) IntKind.u64.bits = 32 := rfl
  rw [this, Int.natCast_mul]
  have : (2 : Int) ^ 32 = ((4294967296 : Nat) : Int) := by decide
  rw [this]
 rw [e, u64_of (n := a * 4294967296) (by omega), BitVec.toNat_or, ofInt_nat (by omega), ofInt_nat (by omega)]
 have e2 : a * 4294967296 = a <<< 32 := by rw [Nat.shiftLeft_eq]
 rw [e2, ← Nat.shiftLeft_add_eq_or_of_lt (show c < 2 ^ 32 from hc), ← e2]
 exact u64_of (by omega)
def rLong (b : List UInt8) (bad : Bool) : Nat := ubn (rSome 4 b bad) 0 * 4294967296 + ubn (rSome 4 (rLeft 4 b bad) (rBad 4 b bad)) 0
theorem some4_lt (b : List UInt8) (bad : Bool) : ubn (rSome 4 b bad) 0 < 4294967296 := by
 have h := ubn_lt (rSome 4 b bad) 0
 rw [rSome_len 4 b bad (by decide)] at h
 have : (256 : Nat) ^ 4 = 4294967296 := by decide
 omega
theorem rLeft_len (n : Nat) (b : List UInt8) (bad : Bool) : (rLeft n b bad).length ≤ b.length := by
 unfold rLeft; split
 ·rw [List.length_drop]; omega
 ·simp
theorem refRLong_c (b : List UInt8) (bad : Bool) (h : b.length < 70368744177664) : ACalls Tryz.prog 154 1 7 [.ptr 0 0] (rr b bad) (fun out H' => out = .ret (.v (.int .u64 (rLong b bad))) ∧ H' = rr (rLeft 4 (rLeft 4 b bad) (rBad 4 b bad)) (rBad 4 (rLeft 4 b bad) (rBad 4 b bad))) := by
 have hl1 := rLeft_len 4 b bad
 refine no_implicit_lambda% (acalls_of tok dok (f := 154) ⟨Tryz.func154, rfl, by kernel_rfl⟩ ?_); refine no_implicit_lambda% (c_start (fun _ h => h) ?_)
 refine no_implicit_lambda% (awd ?_)
 refine no_implicit_lambda% (cal [0] (refRNum_c b bad h) ?_ ?_)
 ·refine no_implicit_lambda% (ret1 ?_); first | (refine no_implicit_lambda% (akc ?_)) | (refine no_implicit_lambda% (aec ?_))
  refine no_implicit_lambda% (awd ?_)
  refine no_implicit_lambda% (cal [0] (refRNum_c (rLeft 4 b bad) (rBad 4 b bad) (by omega)) ?_ ?_)
  ·refine no_implicit_lambda% (ret1 ?_); first | (refine no_implicit_lambda% (akc ?_)) | (refine no_implicit_lambda% (aec ?_))
   refine no_implicit_lambda% (awd ?_)
   rw [shl_or64 (some4_lt _ _) (some4_lt _ _)]
   exact e_ret (H' := rr (rLeft 4 (rLeft 4 b bad) (rBad 4 b bad)) (rBad 4 (rLeft 4 b bad) (rBad 4 b bad))) (rest := []) rfl ⟨rfl, rfl⟩ (.of_eq rfl) (LE0 rfl)
  ·first | (exact zI) | (exact zJ)
 ·first | (exact zI) | (exact zJ)
theorem refFrom_c (b : Nat) (hb : b < 18446744073709551616) : ACalls Tryz.prog 175 0 0 [.v (.int .u64 b)] [] (fun out H' => out = .ret (.v (.float .f64 (canonB b))) ∧ H' = []) := by
 refine no_implicit_lambda% (acalls_of tok dok (f := 175) ⟨Tryz.func175, rfl, by kernel_rfl⟩ ?_); refine no_implicit_lambda% (c_start (fun _ h => h) ?_)
 refine no_implicit_lambda% (awd ?_)
 refine no_implicit_lambda% (cal [] (from_x b) ?_ ?_)
 ·refine no_implicit_lambda% (ret1 ?_); first | (refine no_implicit_lambda% (akc ?_)) | (refine no_implicit_lambda% (aec ?_))
  refine no_implicit_lambda% (awd ?_)
  refine no_implicit_lambda% (cal [] (refBits_c b hb) ?_ ?_)
  ·refine no_implicit_lambda% (ret1 ?_); first | (refine no_implicit_lambda% (akc ?_)) | (refine no_implicit_lambda% (aec ?_))
   refine no_implicit_lambda% (awd ?_)
   refine no_implicit_lambda% (cal [] (from_x (canonB b)) ?_ ?_)
   ·refine no_implicit_lambda% (ret1 ?_); first | (refine no_implicit_lambda% (akc ?_)) | (refine no_implicit_lambda% (aec ?_))
    refine no_implicit_lambda% (awd ?_)
    exact e_ret (H' := []) rfl ⟨rfl, rfl⟩ (.refl _) (LE0 rfl)
   ·first | (exact zI) | (exact zJ)
  ·first | (exact zI) | (exact zJ)
 ·first | (exact zI) | (exact zJ)
theorem rLong_lt (b : List UInt8) (bad : Bool) : rLong b bad < 18446744073709551616 := by
 have h1 := some4_lt b bad
 have h2 := some4_lt (rLeft 4 b bad) (rBad 4 b bad)
 unfold rLong; omega
theorem some_ok {n : Nat} {b : List UInt8} (h : n ≤ b.length) : rSome n b false = b.take n ∧ rLeft n b false = b.drop n ∧ rBad n b false = false := by
 refine ⟨by unfold rSome; rw [if_pos ⟨rfl, h⟩], by unfold rLeft; rw [if_pos ⟨rfl, h⟩], by unfold rBad; rw [decide_eq_true ⟨rfl, h⟩]; rfl⟩
theorem some_no {n : Nat} {b : List UInt8} (h : b.length < n) : rLeft n b false = [] ∧ rBad n b false = true := by
 refine ⟨by unfold rLeft; rw [if_neg (by omega)], by unfold rBad; rw [decide_eq_false (by omega)]; rfl⟩
theorem bad_no {n : Nat} {b : List UInt8} : rLeft n b true = [] ∧ rBad n b true = true := by
 refine ⟨by unfold rLeft; rw [if_neg (by simp)], by unfold rBad; rw [decide_eq_false (by simp)]; rfl⟩
theorem ubn_two (b : List UInt8) (h : 8 ≤ b.length) : ubn (b.take 4) 0 * 4294967296 + ubn ((b.drop 4).take 4) 0 = ubn (b.take 8) 0 := by
 have e : b.take 8 = b.take 4 ++ (b.drop 4).take 4 := by rw [← List.take_add]
 have k : ∀ (l : List UInt8) (a : Nat), ubn l a = a * 256 ^ l.length + ubn l 0 := by
  intro l
  induction l with
  | nil => intro a; simp [ubn]
  | cons c l ih =>
   intro a
   rw [ubn, ubn, ih (a * 256 + c.toNat), ih (0 * 256 + c.toNat), List.length_cons, Nat.pow_succ, Nat.mul_comm (256 ^ l.length) 256, ← Nat.mul_assoc, Nat.add_mul, Nat.add_mul]
   omega
 rw [e, ubn_app, k ((b.drop 4).take 4) (ubn (b.take 4) 0)]
 have h4 : ((b.drop 4).take 4).length = 4 := by rw [List.length_take, List.length_drop]; omega
 rw [h4]
theorem long_ok {b : List UInt8} (h : 8 ≤ b.length) : rLong b false = ubn (b.take 8) 0 ∧ rLeft 4 (rLeft 4 b false) (rBad 4 b false) = b.drop 8 ∧ rBad 4 (rLeft 4 b false) (rBad 4 b false) = false := by
 obtain ⟨a1, a2, a3⟩ := some_ok (n := 4) (b := b) (by omega)
 have hl : 4 ≤ (b.drop 4).length := by rw [List.length_drop]; omega
 obtain ⟨c1, c2, c3⟩ := some_ok (n := 4) (b := b.drop 4) hl
 unfold rLong
 rw [a2, a3, a1, c1, c2, c3, ubn_two b h, List.drop_drop]
 exact ⟨rfl, rfl, rfl⟩
theorem long_no {b : List UInt8} (h : b.length < 8) : rLeft 4 (rLeft 4 b false) (rBad 4 b false) = [] ∧ rBad 4 (rLeft 4 b false) (rBad 4 b false) = true := by
 by_cases h4 : 4 ≤ b.length
 ·obtain ⟨a1, a2, a3⟩ := some_ok (n := 4) (b := b) h4
  rw [a2, a3]
  exact some_no (by rw [List.length_drop]; omega)
 ·obtain ⟨a2, a3⟩ := some_no (n := 4) (b := b) (by omega)
  rw [a2, a3]
  exact bad_no
set_option maxRecDepth 100000 in
set_option maxHeartbeats 1600000 in
theorem refRText_c (b : List UInt8) (most : Int) (h : b.length < 70368744177664) : ACalls Tryz.prog 126 1 8 [.ptr 0 0, .v (.int .i64 most)] (rr b false) (fun out H' => (tOk b most ∧ out = .ret (.list (((b.drop 4).take (ubn (b.take 4) 0)).map brow) .free) ∧ H' = rr ((b.drop 4).drop (ubn (b.take 4) 0)) false) ∨ (¬ tOk b most ∧ (∃ x, out = .ret (.list x .free)) ∧ H' = rr [] true)) := by
 have hlt := some4_lt b false
 by_cases h4 : 4 ≤ b.length
 ·have hC := refRNum_c b false h
  obtain ⟨e1, e2, e3⟩ := some_ok h4
  rw [e1] at hlt
  rw [e1, e2, e3] at hC
  generalize hn : ubn (b.take 4) 0 = n at *
  refine no_implicit_lambda% (acalls_of tok dok (f := 126) ⟨Tryz.func126, rfl, by kernel_rfl⟩ ?_); refine no_implicit_lambda% (c_start (fun _ h => h) ?_)
  refine no_implicit_lambda% (awd ?_)
  refine no_implicit_lambda% (cal [0] (hC) ?_ ?_)
  ·refine no_implicit_lambda% (ret1 ?_); first | (refine no_implicit_lambda% (akc ?_)) | (refine no_implicit_lambda% (aec ?_))
   refine no_implicit_lambda% (awd ?_)
   rw [show IntKind.i64.wrap (n : Int) = n from w64 (by omega) (by omega)]
   repeat' (first | (refine no_implicit_lambda% (zH ?_)) | (((with_reducible refine no_implicit_lambda% (zA ?_)); refine no_implicit_lambda% (zD rfl rfl rfl (fun hc => ?_) (fun hc => ?_)) <;> rw [hc])) | (((with_reducible refine no_implicit_lambda% (zB ?_)); refine no_implicit_lambda% (zE rfl (fun hc => ?_) (fun hc => ?_)))) | (((with_reducible refine no_implicit_lambda% (zC ?_)); refine no_implicit_lambda% (zF rfl rfl (fun hc => ?_) (fun hc => ?_)) <;> rw [hc])) | fail)
   ·have hf : ¬ tOk b most := by
     rintro ⟨_, k2, k3, k4⟩
     rw [hn] at k2 k3 k4
     simp at *
     omega
    refine no_implicit_lambda% (cal [0] (refFail_c (b.drop 4) false) ?_ ?_)
    ·refine no_implicit_lambda% (ret1 ?_); first | (refine no_implicit_lambda% (akc ?_)) | (refine no_implicit_lambda% (aec ?_))
     refine no_implicit_lambda% (awd ?_)
     exact e_ret_to (H' := rr [] true) (rest := []) (.freeSlot 4 rfl) rfl (.inr ⟨hf, ⟨_, rfl⟩, rfl⟩) (.of_eq rfl) (LE0 rfl)
    ·first | (exact zI) | (exact zJ)
   ·have hf : ¬ tOk b most := by
     rintro ⟨_, k2, k3, k4⟩
     rw [hn] at k2 k3 k4
     simp at *
     omega
    refine no_implicit_lambda% (cal [0] (refFail_c (b.drop 4) false) ?_ ?_)
    ·refine no_implicit_lambda% (ret1 ?_); first | (refine no_implicit_lambda% (akc ?_)) | (refine no_implicit_lambda% (aec ?_))
     refine no_implicit_lambda% (awd ?_)
     exact e_ret_to (H' := rr [] true) (rest := []) (.freeSlot 4 rfl) rfl (.inr ⟨hf, ⟨_, rfl⟩, rfl⟩) (.of_eq rfl) (LE0 rfl)
    ·first | (exact zI) | (exact zJ)
   ·have hf : ¬ tOk b most := by
     rintro ⟨_, k2, k3, k4⟩
     rw [hn] at k2 k3 k4
     simp at *
     omega
    refine no_implicit_lambda% (cal [0] (refFail_c (b.drop 4) false) ?_ ?_)
    ·refine no_implicit_lambda% (ret1 ?_); first | (refine no_implicit_lambda% (akc ?_)) | (refine no_implicit_lambda% (aec ?_))
     refine no_implicit_lambda% (awd ?_)
     exact e_ret_to (H' := rr [] true) (rest := []) (.freeSlot 4 rfl) rfl (.inr ⟨hf, ⟨_, rfl⟩, rfl⟩) (.of_eq rfl) (LE0 rfl)
    ·first | (exact zI) | (exact zJ)
   ·have hf : tOk b most := by
     refine ⟨h4, ?_, ?_, ?_⟩ <;> (rw [hn]; simp at *; omega)
    have hle : n ≤ (b.drop 4).length := by
     have := hf.2.2.2
     rwa [hn] at this
    have hdl : (b.drop 4).length ≤ b.length := by rw [List.length_drop]; omega
    have htl : ((b.drop 4).take n).length = n := by rw [List.length_take]; omega
    generalize b.drop 4 = c at *
    refine no_implicit_lambda% (aqs ?_ ?_)
    ·refine ⟨trivial, Int.natCast_nonneg n, Nat.zero_le _, ?_, brows c⟩
     simpa using hle
    refine k_as (.list ((c.take n).map brow) .free) (by simp [List.map_take, orFull, isFull, isNone]) ?_
    refine no_implicit_lambda% (awd ?_)
    refine no_implicit_lambda% (aqs ?_ ?_)
    ·refine ⟨Int.natCast_nonneg n, trivial, ?_, Nat.le_refl _, brows c⟩
     simpa using hle
    refine k_as (.list ((c.drop n).map brow) .free) (by rw [Int.toNat_natCast, List.take_of_length_le (Nat.le_refl _), List.map_drop]) ?_
    refine no_implicit_lambda% (awd ?_)
    exact e_ret_to (H' := rr (c.drop n) false) (rest := [_]) (.freeSlot 4 rfl) rfl (.inl ⟨hf, rfl, rfl⟩) (.swap _ _ _) (LE0 rfl)
   ·have hf : ¬ tOk b most := by
     rintro ⟨_, k2, k3, k4⟩
     rw [hn] at k2 k3 k4
     simp at *
     omega
    refine no_implicit_lambda% (cal [0] (refFail_c (b.drop 4) false) ?_ ?_)
    ·refine no_implicit_lambda% (ret1 ?_); first | (refine no_implicit_lambda% (akc ?_)) | (refine no_implicit_lambda% (aec ?_))
     refine no_implicit_lambda% (awd ?_)
     exact e_ret_to (H' := rr [] true) (rest := []) (.freeSlot 4 rfl) rfl (.inr ⟨hf, ⟨_, rfl⟩, rfl⟩) (.of_eq rfl) (LE0 rfl)
    ·first | (exact zI) | (exact zJ)
   ·have hf : tOk b most := by
     refine ⟨h4, ?_, ?_, ?_⟩ <;> (rw [hn]; simp at *; omega)
    have hle : n ≤ (b.drop 4).length := by
     have := hf.2.2.2
     rwa [hn] at this
    have hdl : (b.drop 4).length ≤ b.length := by rw [List.length_drop]; omega
    have htl : ((b.drop 4).take n).length = n := by rw [List.length_take]; omega
    generalize b.drop 4 = c at *
    refine no_implicit_lambda% (aqs ?_ ?_)
    ·refine ⟨trivial, Int.natCast_nonneg n, Nat.zero_le _, ?_, brows c⟩
     simpa using hle
    refine k_as (.list ((c.take n).map brow) .free) (by simp [List.map_take, orFull, isFull, isNone]) ?_
    refine no_implicit_lambda% (awd ?_)
    refine no_implicit_lambda% (aqs ?_ ?_)
    ·refine ⟨Int.natCast_nonneg n, trivial, ?_, Nat.le_refl _, brows c⟩
     simpa using hle
    refine k_as (.list ((c.drop n).map brow) .free) (by rw [Int.toNat_natCast, List.take_of_length_le (Nat.le_refl _), List.map_drop]) ?_
    refine no_implicit_lambda% (awd ?_)
    exact e_ret_to (H' := rr (c.drop n) false) (rest := [_]) (.freeSlot 4 rfl) rfl (.inl ⟨hf, rfl, rfl⟩) (.swap _ _ _) (LE0 rfl)
  ·first | (exact zI) | (exact zJ)
 ·have hC := refRNum_c b false h
  obtain ⟨e2, e3⟩ := some_no (n := 4) (b := b) (by omega)
  rw [e2, e3] at hC
  have hf : ¬ tOk b most := fun hf => h4 hf.1
  refine no_implicit_lambda% (acalls_of tok dok (f := 126) ⟨Tryz.func126, rfl, by kernel_rfl⟩ ?_); refine no_implicit_lambda% (c_start (fun _ h => h) ?_)
  refine no_implicit_lambda% (awd ?_)
  refine no_implicit_lambda% (cal [0] (hC) ?_ ?_)
  ·refine no_implicit_lambda% (ret1 ?_); first | (refine no_implicit_lambda% (akc ?_)) | (refine no_implicit_lambda% (aec ?_))
   refine no_implicit_lambda% (awd ?_)
   refine no_implicit_lambda% (cal [0] (refFail_c [] true) ?_ ?_)
   ·refine no_implicit_lambda% (ret1 ?_); first | (refine no_implicit_lambda% (akc ?_)) | (refine no_implicit_lambda% (aec ?_))
    refine no_implicit_lambda% (awd ?_)
    exact e_ret_to (H' := rr [] true) (rest := []) (.freeSlot 4 rfl) rfl (.inr ⟨hf, ⟨_, rfl⟩, rfl⟩) (.of_eq rfl) (LE0 rfl)
   ·first | (exact zI) | (exact zJ)
  ·first | (exact zI) | (exact zJ)
theorem refWhole_c (b : List UInt8) (bad : Bool) : ACalls Tryz.prog 85 1 1 [.ptr 0 0] (rr b bad) (fun out H' => out = .ret (.v (.bool (!bad && decide (((b.map brow).length : Int) = 0)))) ∧ H' = rr b bad) := by
 refine no_implicit_lambda% (acalls_of tok dok (f := 85) ⟨Tryz.func85, rfl, by kernel_rfl⟩ ?_); refine no_implicit_lambda% (c_start (fun _ h => h) ?_)
 cases bad
 ·refine no_implicit_lambda% (awd ?_)
  exact e_ret (H' := rr b false) (rest := []) rfl ⟨rfl, rfl⟩ (.of_eq rfl) (LE0 rfl)
 ·refine no_implicit_lambda% (awd ?_)
  exact e_ret (H' := rr b true) (rest := []) rfl ⟨rfl, rfl⟩ (.of_eq rfl) (LE0 rfl)
end Go.Proofs.YtncffhgoopdfgaaGreat
namespace Go.Proofs.YtncffhgoopdfgaaGreat
open Go.Am
set_option maxRecDepth 100000
theorem nanR_canon {r : Nat} (h : nanR r) : canonB r = 9221120237041090561 := by
 have hn : nanB r = true := by
  rw [nan_def, decide_eq_true_eq]
  unfold nanR at h
  omega
 unfold canonB
 rw [hn]; rfl
theorem word_lt (neg : Bool) (r : Nat) (h : r < 9223372036854775808) : FloatKind.f64.format.word neg r < 18446744073709551616 := by
 have e : FloatKind.f64.format.signWeight = 9223372036854775808 := by decide
 unfold Ieee.Format.word
 split <;> omega
theorem write_lt (d : Ieee.Datum) : FloatKind.f64.format.write d < 18446744073709551616 := by
 have e1 : FloatKind.f64.format.infRung = 9218868437227405312 := by decide
 have e2 : FloatKind.f64.format.binade = 4503599627370496 := by decide
 unfold Ieee.Format.write
 split
 ·unfold Ieee.Format.nearest
  split
  ·exact word_lt _ _ (by decide)
  ·exact word_lt _ _ (Nat.lt_of_le_of_lt (Nat.min_le_right _ _) (by omega))
 ·exact word_lt _ _ (by omega)
 ·exact word_lt _ _ (by rw [e1, e2]; omega)
theorem add_lt {a b r : Nat} (h : FloatKind.f64.format.add a b = some r) : r < 18446744073709551616 := by
 unfold Ieee.Format.add at h
 rw [Option.map_eq_some_iff] at h
 obtain ⟨d, _, rfl⟩ := h
 exact write_lt d
theorem sum_lt {a b r : Nat} (h : match FloatKind.f64.format.add a b with | some r0 => r = r0 | none => nanR r) : r < 18446744073709551616 := by
 split at h
 ·rename_i r0 hr; rw [h]; exact add_lt hr
 ·unfold nanR at h; omega
def sumC (a b : Nat) : Nat := match FloatKind.f64.format.add a b with | some r0 => canonB r0 | none => 9221120237041090561
theorem sum_of {a b r : Nat} (h : match FloatKind.f64.format.add a b with | some r0 => r = r0 | none => nanR r) : canonB r = sumC a b := by
 unfold sumC
 split at h
 ·rw [h]
 ·exact nanR_canon h
theorem sum_c (a b : Nat) : ACalls Tryz.prog 200 0 0 [.v (.float .f64 a), .v (.float .f64 b)] [] (fun out H' => out = .ret (.v (.float .f64 (sumC a b))) ∧ H' = []) := by
 refine no_implicit_lambda% (acalls_of tok dok (f := 200) ⟨Tryz.func200, rfl, by kernel_rfl⟩ ?_); refine no_implicit_lambda% (c_start (fun _ h => h) ?_)
 refine no_implicit_lambda% (awd ?_)
 (with_reducible refine zC ?_)
 refine a_fadd rfl rfl rfl rfl fun r hr => ?_
 refine no_implicit_lambda% (awd ?_)
 refine no_implicit_lambda% (cal [] (canon_c r) ?_ ?_)
 ·rw [sum_of hr]
  refine no_implicit_lambda% (ret1 ?_); first | (refine no_implicit_lambda% (akc ?_)) | (refine no_implicit_lambda% (aec ?_))
  refine no_implicit_lambda% (awd ?_)
  exact e_ret (H' := []) (rest := _) rfl ⟨rfl, rfl⟩ (.refl _) (LE0 rfl)
 ·first | (exact zI) | (exact zJ)
def plusV (a b : Va) : Va × Int := if a.kind = 2 ∧ b.kind = 2 then (⟨2, [], sumC a.n b.n⟩, 0) else (⟨0, [], 0⟩, 24)
theorem plus_c (a b : Va) : ACalls Tryz.prog 181 0 10 [vav a, vav b] [] (fun out H' => out = .ret (.tuple [vav (plusV a b).1, .v (.int .i64 (plusV a b).2)]) ∧ H' = []) := by
 obtain ⟨ka, ba, na⟩ := a
 obtain ⟨kb, bb, nb⟩ := b
 refine no_implicit_lambda% (acalls_of tok dok (f := 181) ⟨Tryz.func181, rfl, by kernel_rfl⟩ ?_); refine no_implicit_lambda% (c_start (fun _ h => h) ?_)
 repeat' (first | (refine no_implicit_lambda% (zH ?_)) | (((with_reducible refine no_implicit_lambda% (zA ?_)); refine no_implicit_lambda% (zD rfl rfl rfl (fun hc => ?_) (fun hc => ?_)) <;> rw [hc])) | (((with_reducible refine no_implicit_lambda% (zB ?_)); refine no_implicit_lambda% (zE rfl (fun hc => ?_) (fun hc => ?_)))) | (((with_reducible refine no_implicit_lambda% (zC ?_)); refine no_implicit_lambda% (zF rfl rfl (fun hc => ?_) (fun hc => ?_)) <;> rw [hc])) | fail)
 ·have h : ¬ (ka = 2 ∧ kb = 2) := fun h => by simp at hc; exact hc h.1
  unfold plusV
  rw [if_neg h]
  exact e_ret_to (H' := []) (.wk (.refl _) (.cons (.box _ (.cons (.refl _) (.cons (.free _ _) (.cons (.refl _) .nil)))) (.refl _))) rfl ⟨rfl, rfl⟩ (.refl _) (LE0 rfl)
 ·have h : ¬ (ka = 2 ∧ kb = 2) := fun h => by simp at hc; exact hc h.2
  unfold plusV
  rw [if_neg h]
  exact e_ret_to (H' := []) (.wk (.refl _) (.cons (.box _ (.cons (.refl _) (.cons (.free _ _) (.cons (.refl _) .nil)))) (.refl _))) rfl ⟨rfl, rfl⟩ (.refl _) (LE0 rfl)
 ·have h : ka = 2 ∧ kb = 2 := ⟨by rename_i h1; simpa using h1, by simpa using hc⟩
  refine no_implicit_lambda% (cal [] (sum_c na nb) ?_ ?_)
  ·refine no_implicit_lambda% (ret1 ?_); first | (refine no_implicit_lambda% (akc ?_)) | (refine no_implicit_lambda% (aec ?_))
   refine no_implicit_lambda% (awd ?_)
   unfold plusV
   rw [if_pos h]
   exact e_ret_to (H' := []) (.wk (.refl _) (.cons (.box _ (.cons (.refl _) (.cons (.free _ _) (.cons (.refl _) .nil)))) (.refl _))) rfl ⟨rfl, rfl⟩ (.refl _) (LE0 rfl)
  ·first | (exact zI) | (exact zJ)
theorem refSum_c (a b : Nat) : ACalls Tryz.prog 139 0 0 [.v (.float .f64 a), .v (.float .f64 b)] [] (fun out H' => out = .ret (.v (.float .f64 (sumC a b))) ∧ H' = []) := by
 refine no_implicit_lambda% (acalls_of tok dok (f := 139) ⟨Tryz.func139, rfl, by kernel_rfl⟩ ?_); refine no_implicit_lambda% (c_start (fun _ h => h) ?_)
 refine no_implicit_lambda% (awd ?_)
 (with_reducible refine zC ?_)
 refine a_fadd rfl rfl rfl rfl fun r hr => ?_
 refine no_implicit_lambda% (awd ?_)
 refine no_implicit_lambda% (cal [] (bits_x r) ?_ ?_)
 ·refine no_implicit_lambda% (ret1 ?_); first | (refine no_implicit_lambda% (akc ?_)) | (refine no_implicit_lambda% (aec ?_))
  refine no_implicit_lambda% (awd ?_)
  refine no_implicit_lambda% (cal [] (refFrom_c r (sum_lt hr)) ?_ ?_)
  ·rw [sum_of hr]
   refine no_implicit_lambda% (ret1 ?_); first | (refine no_implicit_lambda% (akc ?_)) | (refine no_implicit_lambda% (aec ?_))
   refine no_implicit_lambda% (awd ?_)
   exact e_ret (H' := []) (rest := _) rfl ⟨rfl, rfl⟩ (.refl _) (LE0 rfl)
  ·first | (exact zI) | (exact zJ)
 ·first | (exact zI) | (exact zJ)
theorem refPlus_c (a b : Va) : ACalls Tryz.prog 66 0 10 [vav a, vav b] [] (fun out H' => out = .ret (.tuple [vav (plusV a b).1, .v (.int .i64 (plusV a b).2)]) ∧ H' = []) := by
 obtain ⟨ka, ba, na⟩ := a
 obtain ⟨kb, bb, nb⟩ := b
 refine no_implicit_lambda% (acalls_of tok dok (f := 66) ⟨Tryz.func66, rfl, by kernel_rfl⟩ ?_); refine no_implicit_lambda% (c_start (fun _ h => h) ?_)
 repeat' (first | (refine no_implicit_lambda% (zH ?_)) | (((with_reducible refine no_implicit_lambda% (zA ?_)); refine no_implicit_lambda% (zD rfl rfl rfl (fun hc => ?_) (fun hc => ?_)) <;> rw [hc])) | (((with_reducible refine no_implicit_lambda% (zB ?_)); refine no_implicit_lambda% (zE rfl (fun hc => ?_) (fun hc => ?_)))) | (((with_reducible refine no_implicit_lambda% (zC ?_)); refine no_implicit_lambda% (zF rfl rfl (fun hc => ?_) (fun hc => ?_)) <;> rw [hc])) | fail)
 ·have h : ¬ (ka = 2 ∧ kb = 2) := fun h => by simp at hc; exact hc h.1
  unfold plusV
  rw [if_neg h]
  exact e_ret_to (H' := []) (.wk (.refl _) (.cons (.box _ (.cons (.refl _) (.cons (.free _ _) (.cons (.refl _) .nil)))) (.refl _))) rfl ⟨rfl, rfl⟩ (.refl _) (LE0 rfl)
 ·have h : ¬ (ka = 2 ∧ kb = 2) := fun h => by simp at hc; exact hc h.2
  unfold plusV
  rw [if_neg h]
  exact e_ret_to (H' := []) (.wk (.refl _) (.cons (.box _ (.cons (.refl _) (.cons (.free _ _) (.cons (.refl _) .nil)))) (.refl _))) rfl ⟨rfl, rfl⟩ (.refl _) (LE0 rfl)
 ·have h : ka = 2 ∧ kb = 2 := ⟨by rename_i h1; simpa using h1, by simpa using hc⟩
  refine no_implicit_lambda% (cal [] (refSum_c na nb) ?_ ?_)
  ·refine no_implicit_lambda% (ret1 ?_); first | (refine no_implicit_lambda% (akc ?_)) | (refine no_implicit_lambda% (aec ?_))
   refine no_implicit_lambda% (awd ?_)
   unfold plusV
   rw [if_pos h]
   exact e_ret_to (H' := []) (.wk (.refl _) (.cons (.box _ (.cons (.refl _) (.cons (.free _ _) (.cons (.refl _) .nil)))) (.refl _))) rfl ⟨rfl, rfl⟩ (.refl _) (LE0 rfl)
  ·first | (exact zI) | (exact zJ)
end Go.Proofs.YtncffhgoopdfgaaGreat
namespace Go.Proofs.YtncffhgoopdfgaaGreat
open Go.Am
set_option maxRecDepth 100000
theorem canonB_lt {b : Nat} (h : b < 18446744073709551616) : canonB b < 18446744073709551616 := by unfold canonB; split <;> omega
def keyN (c : Nat) : Nat := if c < 9223372036854775808 then c + 9223372036854775808 else 18446744073709551615 - c
def placeN (c : Nat) : Nat := if c = 9221120237041090561 then 18446744073709551615 else keyN c
theorem canon_cases {b : Nat} (h : b < 18446744073709551616) : canonB b = 9221120237041090561 ∨ canonB b ≤ 9218868437227405312 ∨ (9223372036854775808 ≤ canonB b ∧ canonB b ≤ 18442240474082181120) := by
 unfold canonB
 cases hn : nanB b
 ·rw [nan_def, decide_eq_false_iff_not] at hn
  simp only [Bool.false_eq_true, if_false]
  omega
 ·exact .inl rfl
theorem and63 {c : Nat} (h : c < 18446744073709551616) : c &&& 9223372036854775808 = if c < 9223372036854775808 then 0 else 9223372036854775808 := by
 have e1 : (9223372036854775808 : Nat) = 1 <<< 63 := by decide
 have e2 : (c / 9223372036854775808 % 2) * 9223372036854775808 = ((c >>> 63) &&& 1) <<< 63 := by
  rw [Nat.shiftLeft_eq, Nat.shiftRight_eq_div_pow, Nat.and_two_pow_sub_one_eq_mod _ 1]
 have e3 : c &&& (1 <<< 63) = ((c >>> 63) &&& 1) <<< 63 := by
  apply Nat.eq_of_testBit_eq
  intro i
  simp only [Nat.testBit_and, Nat.testBit_shiftLeft, Nat.testBit_shiftRight]
  by_cases h : 63 ≤ i
  ·have : 63 + (i - 63) = i := by omega
   simp [h, this]
  ·simp [h]
 have e4 : c &&& 9223372036854775808 = (c / 9223372036854775808 % 2) * 9223372036854775808 := e3.trans e2.symm
 rw [e4]
 split <;> omega
theorem or63 {c : Nat} (h : c < 9223372036854775808) : c ||| 9223372036854775808 = c + 9223372036854775808 := by
 have e := Nat.two_pow_add_eq_or_of_lt (i := 63) (b := c) h 1
 rw [Nat.or_comm, Nat.add_comm]
 exact e.symm
theorem not64 {c : Nat} (h : c < 18446744073709551616) : (BitVec.ofInt IntKind.u64.bits (if IntKind.u64.signed then -1 else IntKind.u64.max) ^^^ BitVec.ofInt IntKind.u64.bits (c : Int)).toNat = 18446744073709551615 - c := by
 have e : BitVec.ofInt IntKind.u64.bits (if IntKind.u64.signed then -1 else IntKind.u64.max) = (BitVec.allOnes 64 : BitVec IntKind.u64.bits) := by rfl
 rw [e]
 show (BitVec.allOnes 64 ^^^ BitVec.ofInt 64 (c : Int)).toNat = _
 rw [BitVec.allOnes_xor, BitVec.toNat_not]
 show 2 ^ 64 - 1 - (BitVec.ofInt IntKind.u64.bits (c : Int)).toNat = _
 rw [ofInt_nat h]
theorem keyI_eq {b : Nat} (h : b < 18446744073709551616) : keyI b = (keyN (canonB b) : Nat) := by
 have hc := canonB_lt h
 unfold keyI keyN
 generalize canonB b = c at *
 rw [BitVec.toNat_and, ofInt_nat hc, show (BitVec.ofInt IntKind.u64.bits 9223372036854775808).toNat = 9223372036854775808 from by decide, and63 hc, not64 hc, BitVec.toNat_or, ofInt_nat hc, show (BitVec.ofInt IntKind.u64.bits 9223372036854775808).toNat = 9223372036854775808 from by decide]
 by_cases h1 : c < 9223372036854775808
 ·rw [if_pos h1, if_pos h1, or63 h1, if_neg (by decide), u64_of (by omega)]
 ·rw [if_neg h1, if_neg h1, if_pos (by decide), u64_of (by omega)]
theorem key_place {a b : Nat} (ha : a < 18446744073709551616) (hb : b < 18446744073709551616) : cmpZ (placeN (canonB a) : Nat) (placeN (canonB b) : Nat) = cmpZ (keyI a) (keyI b) := by
 rw [keyI_eq ha, keyI_eq hb]
 have h1 := canon_cases ha
 have h2 := canon_cases hb
 unfold placeN keyN cmpZ
 generalize canonB a = x at *
 generalize canonB b = y at *
 repeat' split
 all_goals omega
theorem place_c (b : Nat) (hb : b < 18446744073709551616) : ACalls Tryz.prog 203 0 0 [.v (.float .f64 b)] [] (fun out H' => out = .ret (.v (.int .u64 (placeN (canonB b) : Nat))) ∧ H' = []) := by
 have hl := canonB_lt hb
 have hB := refBits_c b hb
 generalize canonB b = c at *
 refine no_implicit_lambda% (acalls_of tok dok (f := 203) ⟨Tryz.func203, rfl, by kernel_rfl⟩ ?_); refine no_implicit_lambda% (c_start (fun _ h => h) ?_)
 refine no_implicit_lambda% (awd ?_)
 refine no_implicit_lambda% (cal [] (hB) ?_ ?_)
 ·refine no_implicit_lambda% (ret1 ?_); first | (refine no_implicit_lambda% (akc ?_)) | (refine no_implicit_lambda% (aec ?_))
  repeat' (first | (refine no_implicit_lambda% (zH ?_)) | (((with_reducible refine no_implicit_lambda% (zA ?_)); refine no_implicit_lambda% (zD rfl rfl rfl (fun hc => ?_) (fun hc => ?_)) <;> rw [hc])) | (((with_reducible refine no_implicit_lambda% (zB ?_)); refine no_implicit_lambda% (zE rfl (fun hc => ?_) (fun hc => ?_)))) | (((with_reducible refine no_implicit_lambda% (zC ?_)); refine no_implicit_lambda% (zF rfl rfl (fun hc => ?_) (fun hc => ?_)) <;> rw [hc])) | fail)
  ·have hc' : c = 9221120237041090561 := by simp at hc; omega
   exact e_ret (H' := []) (rest := _) rfl ⟨by rw [placeN, if_pos hc']; rfl, rfl⟩ (.refl _) (LE0 rfl)
  ·have h0 : ¬ c = 9221120237041090561 := by rename_i h1; simp at h1; omega
   have h1 : ¬ c < 9223372036854775808 := by
    rw [show min (Int.toNat 63) IntKind.u64.bits = 63 from rfl, show (2 : Int) ^ 63 = 9223372036854775808 by decide, Int.fdiv_eq_ediv_of_nonneg _ (by decide)] at hc
    simp at hc
    omega
   rw [not64 hl, u64_of (by omega)]
   exact e_ret (H' := []) (rest := _) rfl ⟨by rw [placeN, if_neg h0, keyN, if_neg h1]; rfl, rfl⟩ (.refl _) (LE0 rfl)
  ·have h0 : ¬ c = 9221120237041090561 := by rename_i h1; simp at h1; omega
   have h1 : c < 9223372036854775808 := by
    rw [show min (Int.toNat 63) IntKind.u64.bits = 63 from rfl, show (2 : Int) ^ 63 = 9223372036854775808 by decide, Int.fdiv_eq_ediv_of_nonneg _ (by decide)] at hc
    simp at hc
    omega
   rw [BitVec.toNat_or, ofInt_nat hl, show (BitVec.ofInt IntKind.u64.bits 9223372036854775808).toNat = 9223372036854775808 from by decide, or63 h1, u64_of (by omega)]
   exact e_ret (H' := []) (rest := _) rfl ⟨by rw [placeN, if_neg h0, keyN, if_pos h1]; rfl, rfl⟩ (.refl _) (LE0 rfl)
 ·first | (exact zI) | (exact zJ)
theorem refOrder1_c (a b : Nat) (ha : a < 18446744073709551616) (hb : b < 18446744073709551616) : ACalls Tryz.prog 186 0 0 [.v (.float .f64 a), .v (.float .f64 b)] [] (fun out H' => out = .ret (.v (.int .i64 (cmpZ (keyI a) (keyI b)))) ∧ H' = []) := by
 rw [← key_place ha hb]
 have h1 := place_c a ha
 have h2 := place_c b hb
 generalize placeN (canonB a) = x at *
 generalize placeN (canonB b) = y at *
 refine no_implicit_lambda% (acalls_of tok dok (f := 186) ⟨Tryz.func186, rfl, by kernel_rfl⟩ ?_); refine no_implicit_lambda% (c_start (fun _ h => h) ?_)
 refine no_implicit_lambda% (awd ?_)
 refine no_implicit_lambda% (cal [] (h1) ?_ ?_)
 ·refine no_implicit_lambda% (ret1 ?_); first | (refine no_implicit_lambda% (akc ?_)) | (refine no_implicit_lambda% (aec ?_))
  refine no_implicit_lambda% (awd ?_)
  refine no_implicit_lambda% (cal [] (h2) ?_ ?_)
  ·refine no_implicit_lambda% (ret1 ?_); first | (refine no_implicit_lambda% (akc ?_)) | (refine no_implicit_lambda% (aec ?_))
   repeat' (first | (refine no_implicit_lambda% (zH ?_)) | (((with_reducible refine no_implicit_lambda% (zA ?_)); refine no_implicit_lambda% (zD rfl rfl rfl (fun hc => ?_) (fun hc => ?_)) <;> rw [hc])) | (((with_reducible refine no_implicit_lambda% (zB ?_)); refine no_implicit_lambda% (zE rfl (fun hc => ?_) (fun hc => ?_)))) | (((with_reducible refine no_implicit_lambda% (zC ?_)); refine no_implicit_lambda% (zF rfl rfl (fun hc => ?_) (fun hc => ?_)) <;> rw [hc])) | fail)
   ·exact e_ret (H' := []) rfl ⟨by simp at hc; rw [cmpZ, if_pos (by omega)]; rfl, rfl⟩ (.refl _) (LE0 rfl)
   ·exact e_ret (H' := []) rfl ⟨by simp at *; rw [cmpZ, if_neg (by omega), if_pos (by omega)]; rfl, rfl⟩ (.refl _) (LE0 rfl)
   ·exact e_ret (H' := []) rfl ⟨by simp at *; rw [cmpZ, if_neg (by omega), if_neg (by omega)]; rfl, rfl⟩ (.refl _) (LE0 rfl)
  ·first | (exact zI) | (exact zJ)
 ·first | (exact zI) | (exact zJ)
theorem kind_c (v : Va) : ACalls Tryz.prog 185 0 10 [vav v] [] (fun out H' => out = .ret (.v (.int .i64 (canV v).kind)) ∧ H' = []) := by
 obtain ⟨kd, b, n⟩ := v
 refine no_implicit_lambda% (acalls_of tok dok (f := 185) ⟨Tryz.func185, rfl, by kernel_rfl⟩ ?_); refine no_implicit_lambda% (c_start (fun _ h => h) ?_)
 repeat' (first | (refine no_implicit_lambda% (zH ?_)) | (((with_reducible refine no_implicit_lambda% (zA ?_)); refine no_implicit_lambda% (zD rfl rfl rfl (fun hc => ?_) (fun hc => ?_)) <;> rw [hc])) | (((with_reducible refine no_implicit_lambda% (zB ?_)); refine no_implicit_lambda% (zE rfl (fun hc => ?_) (fun hc => ?_)))) | (((with_reducible refine no_implicit_lambda% (zC ?_)); refine no_implicit_lambda% (zF rfl rfl (fun hc => ?_) (fun hc => ?_)) <;> rw [hc])) | fail)
 ·have h : kd = 1 := by simpa using hc
  subst h
  exact e_ret (H' := []) (rest := _) rfl ⟨rfl, rfl⟩ (.refl _) (LE0 rfl)
 ·have h : kd = 2 := by simpa using hc
  subst h
  exact e_ret (H' := []) (rest := _) rfl ⟨rfl, rfl⟩ (.refl _) (LE0 rfl)
 ·have h1 : ¬ kd = 1 := by rename_i h1; simpa using h1
  have h2 : ¬ kd = 2 := by simpa using hc
  exact e_ret (H' := []) (rest := _) rfl ⟨by unfold canV; rw [if_neg h1, if_neg h2]; rfl, rfl⟩ (.refl _) (LE0 rfl)
theorem refCanon_w (v : Va) (h : v.kind = 1 → v.b.length < 1073741824) (hn : v.n < 18446744073709551616) : ACalls Tryz.prog 134 0 10 [vav v] [] (fun out H' => out = .ret (vav (canV v)) ∧ H' = []) := by
 obtain ⟨kd, b, n⟩ := v
 simp only at h hn
 by_cases hk1 : kd = 1
 ·subst hk1
  replace h := h rfl
  refine no_implicit_lambda% (acalls_of tok dok (f := 134) ⟨Tryz.func134, rfl, by kernel_rfl⟩ ?_); refine no_implicit_lambda% (c_start (fun _ h => h) ?_)
  repeat' (first | (refine no_implicit_lambda% (zH ?_)) | (((with_reducible refine no_implicit_lambda% (zA ?_)); refine no_implicit_lambda% (zD rfl rfl rfl (fun hc => ?_) (fun hc => ?_)) <;> rw [hc])) | (((with_reducible refine no_implicit_lambda% (zB ?_)); refine no_implicit_lambda% (zE rfl (fun hc => ?_) (fun hc => ?_)))) | (((with_reducible refine no_implicit_lambda% (zC ?_)); refine no_implicit_lambda% (zF rfl rfl (fun hc => ?_) (fun hc => ?_)) <;> rw [hc])) | fail)
  exact e_ret_to (H' := []) (rest := _) (.wk (.refl _) (.cons (.refl _) (.cons (.box _ (.cons (.refl _) (.cons (.free _ _) (.cons (.refl _) .nil)))) (.refl _)))) rfl ⟨rfl, rfl⟩ (.refl _) (LE0 rfl)
 ·by_cases hk2 : kd = 2
  ·subst hk2
   refine no_implicit_lambda% (acalls_of tok dok (f := 134) ⟨Tryz.func134, rfl, by kernel_rfl⟩ ?_); refine no_implicit_lambda% (c_start (fun _ h => h) ?_)
   repeat' (first | (refine no_implicit_lambda% (zH ?_)) | (((with_reducible refine no_implicit_lambda% (zA ?_)); refine no_implicit_lambda% (zD rfl rfl rfl (fun hc => ?_) (fun hc => ?_)) <;> rw [hc])) | (((with_reducible refine no_implicit_lambda% (zB ?_)); refine no_implicit_lambda% (zE rfl (fun hc => ?_) (fun hc => ?_)))) | (((with_reducible refine no_implicit_lambda% (zC ?_)); refine no_implicit_lambda% (zF rfl rfl (fun hc => ?_) (fun hc => ?_)) <;> rw [hc])) | fail)
   refine no_implicit_lambda% (cal [] (refBits_c n hn) ?_ ?_)
   ·refine no_implicit_lambda% (ret1 ?_); first | (refine no_implicit_lambda% (akc ?_)) | (refine no_implicit_lambda% (aec ?_))
    refine no_implicit_lambda% (awd ?_)
    refine no_implicit_lambda% (cal [] (refFrom_c (canonB n) (canonB_lt hn)) ?_ ?_)
    ·rw [canon2]
     refine no_implicit_lambda% (ret1 ?_); first | (refine no_implicit_lambda% (akc ?_)) | (refine no_implicit_lambda% (aec ?_))
     refine no_implicit_lambda% (awd ?_)
     exact e_ret_to (H' := []) (.wk (.refl _) (.cons (.box _ (.cons (.refl _) (.cons (.free _ _) (.cons (.refl _) .nil)))) (.refl _))) rfl ⟨rfl, rfl⟩ (.refl _) (LE0 rfl)
    ·first | (exact zI) | (exact zJ)
   ·first | (exact zI) | (exact zJ)
  ·have q1 : (kd == 1) = false := by simpa using hk1
   have q2 : (kd == 2) = false := by simpa using hk2
   refine no_implicit_lambda% (acalls_of tok dok (f := 134) ⟨Tryz.func134, rfl, by kernel_rfl⟩ ?_); refine no_implicit_lambda% (c_start (fun _ h => h) ?_)
   refine no_implicit_lambda% (awd ?_)
   ((with_reducible refine no_implicit_lambda% (zB ?_)); refine no_implicit_lambda% (zE rfl (fun hc => ?_) (fun hc => ?_)))
   ·rw [q1] at hc; cases hc
   refine no_implicit_lambda% (awd ?_)
   ((with_reducible refine no_implicit_lambda% (zB ?_)); refine no_implicit_lambda% (zE rfl (fun hc => ?_) (fun hc => ?_)))
   ·rw [q2] at hc; cases hc
   refine no_implicit_lambda% (awd ?_)
   refine e_ret_to (H' := []) (.wk (.refl _) (.cons (.box _ (.cons (.refl _) (.cons (.free _ _) (.cons (.refl _) .nil)))) (.refl _))) rfl ⟨?_, rfl⟩ (.refl _) (LE0 rfl)
   unfold canV
   rw [if_neg hk1, if_neg hk2]
   rfl
theorem refCanon_c (v : Va) (h : v.b.length < 1073741824) (hn : v.n < 18446744073709551616) : ACalls Tryz.prog 134 0 10 [vav v] [] (fun out H' => out = .ret (vav (canV v)) ∧ H' = []) := refCanon_w v (fun _ => h) hn
theorem refRight_c (v : Va) : ACalls Tryz.prog 133 0 10 [vav v] [] (fun out H' => out = .ret (.v (.bool (v.kind == 1 && decide ((v.b.length : Int) ≤ 16) || v.kind == 2))) ∧ H' = []) := by
 obtain ⟨kd, b, n⟩ := v
 refine no_implicit_lambda% (acalls_of tok dok (f := 133) ⟨Tryz.func133, rfl, by kernel_rfl⟩ ?_); refine no_implicit_lambda% (c_start (fun _ h => h) ?_)
 repeat' (first | (refine no_implicit_lambda% (zH ?_)) | (((with_reducible refine no_implicit_lambda% (zA ?_)); refine no_implicit_lambda% (zD rfl rfl rfl (fun hc => ?_) (fun hc => ?_)) <;> rw [hc])) | (((with_reducible refine no_implicit_lambda% (zB ?_)); refine no_implicit_lambda% (zE rfl (fun hc => ?_) (fun hc => ?_)))) | (((with_reducible refine no_implicit_lambda% (zC ?_)); refine no_implicit_lambda% (zF rfl rfl (fun hc => ?_) (fun hc => ?_)) <;> rw [hc])) | fail)
 all_goals
  refine e_ret (H' := []) (rest := _) rfl ⟨congrArg (fun z => AOut.ret (.v (.bool z))) ?_, rfl⟩ (.refl _) (LE0 rfl)
  simp only [List.length_map] at *
  simp_all
theorem less_cb : ∀ a b : List UInt8, Op.bytesLess a b = decide (Lib.compareBytes a b = -1)
 | [], [] => rfl
 | [], _ :: _ => rfl
 | _ :: _, [] => rfl
 | x :: a, y :: b => by
  have h := less_cb a b
  unfold Op.bytesLess Lib.compareBytes
  rw [h]
  by_cases h1 : x < y
  ·rw [if_pos h1]; simp [h1]
  ·rw [if_neg h1]
   by_cases h2 : y < x
   ·rw [if_pos h2]
    have : ¬ x = y := fun e => h1 (e ▸ h2)
    simp [h1, this]
   ·rw [if_neg h2]
    have : x = y := by
     rw [UInt8.lt_iff_toNat_lt] at h1 h2
     exact UInt8.toNat_inj.1 (by omega)
    subst this
    simp
theorem eq_cb : ∀ a b : List UInt8, (a == b) = decide (Lib.compareBytes a b = 0)
 | [], [] => rfl
 | [], _ :: _ => rfl
 | _ :: _, [] => rfl
 | x :: a, y :: b => by
  have h := eq_cb a b
  unfold Lib.compareBytes
  rw [List.cons_beq_cons, h]
  by_cases h1 : x < y
  ·rw [if_pos h1]
   have : ¬ x = y := fun e => by subst e; exact absurd h1 (by simp)
   simp [this]
  ·rw [if_neg h1]
   by_cases h2 : y < x
   ·rw [if_pos h2]
    have : ¬ x = y := fun e => h1 (e ▸ h2)
    simp [this]
   ·rw [if_neg h2]
    have : x = y := by
     rw [UInt8.lt_iff_toNat_lt] at h1 h2
     exact UInt8.toNat_inj.1 (by omega)
    subst this
    simp
theorem cb_three (a b : List UInt8) : Lib.compareBytes a b = -1 ∨ Lib.compareBytes a b = 0 ∨ Lib.compareBytes a b = 1 := by
 induction a generalizing b with
 | nil => cases b <;> simp [Lib.compareBytes]
 | cons x a ih =>
  cases b with
  | nil => simp [Lib.compareBytes]
  | cons y b =>
   unfold Lib.compareBytes
   repeat' split
   ·exact .inl rfl
   ·exact .inr (.inr rfl)
   ·exact ih b
theorem canV_kind3 (v : Va) : (canV v).kind = 0 ∨ (canV v).kind = 1 ∨ (canV v).kind = 2 := by
 unfold canV
 split
 ·exact .inr (.inl rfl)
 ·split
  ·exact .inr (.inr rfl)
  ·exact .inl rfl
theorem canV_b1 (v : Va) (h : (canV v).kind = 1) : (canV v).b = v.b := by
 unfold canV at *
 split
 ·rfl
 ·rename_i h1
  rw [if_neg h1] at h
  split at h <;> cases h
theorem canV_n2 (v : Va) (h : (canV v).kind = 2) : (canV v).n = canonB v.n := by
 unfold canV at *
 split
 ·rename_i h1
  rw [if_pos h1] at h
  cases h
 ·split
  ·rfl
  ·rename_i h1 h2
   rw [if_neg h1, if_neg h2] at h
   cases h
theorem keyI_canon (n : Nat) : keyI (canonB n) = keyI n := by unfold keyI; rw [canon2]
set_option maxHeartbeats 3200000 in
theorem refOrder_c (a b : Va) (ha : a.n < 18446744073709551616) (hb : b.n < 18446744073709551616) : ACalls Tryz.prog 156 0 100 [vav a, vav b] [] (fun out H' => out = .ret (.v (.int .i64 (ordV a b))) ∧ H' = []) := by
 have hka := kind_c a
 have hkb := kind_c b
 have hoo := refOrder1_c a.n b.n ha hb
 have c0 := canV_kind3 a
 have d0 := canV_kind3 b
 have c1 := canV_b1 a
 have d1 := canV_b1 b
 have c2 := canV_n2 a
 have d2 := canV_n2 b
 have ho : ordV a b = ordV0 (canV a) (canV b) := rfl
 unfold ordV0 at ho
 have o1 : (canV a).kind < (canV b).kind → ordV a b = -1 := fun h => by rw [ho, if_pos (by omega), cmpZ, if_pos h]
 have o2 : (canV a).kind > (canV b).kind → ordV a b = 1 := fun h => by rw [ho, if_pos (by omega), cmpZ, if_neg (by omega), if_pos h]
 have o3 : (canV a).kind = 2 → (canV b).kind = 2 → ordV a b = cmpZ (keyI a.n) (keyI b.n) := fun h k => by rw [ho, if_neg (by omega), if_neg (by omega), if_pos h, c2 h, d2 k, keyI_canon, keyI_canon]
 have o4 : (canV a).kind = 1 → (canV b).kind = 1 → ordV a b = Lib.compareBytes a.b b.b := fun h k => by rw [ho, if_neg (by omega), if_pos h, c1 h, d1 k]
 have o5 : (canV a).kind = 0 → (canV b).kind = 0 → ordV a b = 0 := fun h k => by rw [ho, if_neg (by omega), if_neg (by omega), if_neg (by omega)]
 clear ho c1 c2 d1 d2
 generalize ordV a b = oo at *
 generalize (canV a).kind = x at *
 generalize (canV b).kind = y at *
 obtain ⟨k1, b1, n1⟩ := a
 obtain ⟨k2, b2, n2⟩ := b
 simp only at *
 have oO : (x < y ∧ oo = -1) ∨ (x > y ∧ oo = 1) ∨ (x = 2 ∧ y = 2) ∨ (x = 1 ∧ y = 1 ∧ oo = Lib.compareBytes b1 b2) ∨ (x = 0 ∧ y = 0 ∧ oo = 0) := by
  rcases Int.lt_trichotomy x y with h | h | h
  ·exact .inl ⟨h, o1 h⟩
  ·subst h
   rcases c0 with h | h | h
   ·exact .inr (.inr (.inr (.inr ⟨h, h, o5 h h⟩)))
   ·exact .inr (.inr (.inr (.inl ⟨h, h, o4 h h⟩)))
   ·exact .inr (.inr (.inl ⟨h, h⟩))
  ·exact .inr (.inl ⟨h, o2 h⟩)
 have ol := less_cb b1 b2
 have oe := eq_cb b1 b2
 have o3' := cb_three b1 b2
 refine no_implicit_lambda% (acalls_of tok dok (f := 156) ⟨Tryz.func156, rfl, by kernel_rfl⟩ ?_); refine no_implicit_lambda% (c_start (fun _ h => h) ?_)
 refine no_implicit_lambda% (awd ?_)
 refine no_implicit_lambda% (cal [] (hka) ?_ ?_)
 ·refine no_implicit_lambda% (ret1 ?_); first | (refine no_implicit_lambda% (akc ?_)) | (refine no_implicit_lambda% (aec ?_))
  refine no_implicit_lambda% (awd ?_)
  refine no_implicit_lambda% (cal [] (hkb) ?_ ?_)
  ·refine no_implicit_lambda% (ret1 ?_); first | (refine no_implicit_lambda% (akc ?_)) | (refine no_implicit_lambda% (aec ?_))
   repeat' (first | (refine no_implicit_lambda% (zH ?_)) | (((with_reducible refine no_implicit_lambda% (zA ?_)); refine no_implicit_lambda% (zD rfl rfl rfl (fun hc => ?_) (fun hc => ?_)) <;> rw [hc])) | (((with_reducible refine no_implicit_lambda% (zB ?_)); refine no_implicit_lambda% (zE rfl (fun hc => ?_) (fun hc => ?_)))) | (((with_reducible refine no_implicit_lambda% (zC ?_)); refine no_implicit_lambda% (zF rfl rfl (fun hc => ?_) (fun hc => ?_)) <;> rw [hc])) | fail)
   ·refine e_ret (H' := []) (rest := _) rfl ⟨by rw [o1 (by simpa using hc)]; rfl, rfl⟩ (.refl _) (LE0 rfl)
   ·refine e_ret (H' := []) (rest := _) rfl ⟨by rw [o2 (by simpa using hc)]; rfl, rfl⟩ (.refl _) (LE0 rfl)
   ·have hx : x = 2 := by simpa using hc
    have hy : y = 2 := by simp at *; omega
    refine no_implicit_lambda% (cal [] (hoo) ?_ ?_)
    ·refine no_implicit_lambda% (ret1 ?_); first | (refine no_implicit_lambda% (akc ?_)) | (refine no_implicit_lambda% (aec ?_))
     refine no_implicit_lambda% (awd ?_)
     refine e_ret (H' := []) (rest := _) rfl ⟨by rw [o3 hx hy]; rfl, rfl⟩ (.refl _) (LE0 rfl)
    ·first | (exact zI) | (exact zJ)
   all_goals
    refine e_ret (H' := []) (rest := _) rfl ⟨congrArg (fun z => AOut.ret (.v (.int .i64 z))) ?_, rfl⟩ (.refl _) (LE0 rfl)
    clear hka hkb hoo
    try simp only [Lib.toList_data] at *
    simp only [ol, oe, beq_iff_eq, Bool.not_eq_true', Bool.not_eq_false', Bool.or_eq_true, Bool.or_eq_false_iff, decide_eq_true_eq, decide_eq_false_iff_not, beq_eq_false_iff_ne, ne_eq] at *
    omega
  ·first | (exact zI) | (exact zJ)
 ·first | (exact zI) | (exact zJ)
theorem refSame_c (a b : Va) (ha : a.n < 18446744073709551616) (hb : b.n < 18446744073709551616) : ACalls Tryz.prog 87 0 200 [vav a, vav b] [] (fun out H' => out = .ret (.v (.bool (ordV a b == 0))) ∧ H' = []) := by
 have cc := refOrder_c a b ha hb
 obtain ⟨ka, ba, na⟩ := a
 obtain ⟨kb, bb, nb⟩ := b
 refine no_implicit_lambda% (acalls_of tok dok (f := 87) ⟨Tryz.func87, rfl, by kernel_rfl⟩ ?_); refine no_implicit_lambda% (c_start (fun _ h => h) ?_)
 refine no_implicit_lambda% (awd ?_)
 refine no_implicit_lambda% (cal [] (cc) ?_ ?_)
 ·refine no_implicit_lambda% (ret1 ?_); first | (refine no_implicit_lambda% (akc ?_)) | (refine no_implicit_lambda% (aec ?_))
  refine no_implicit_lambda% (awd ?_)
  exact e_ret (H' := []) (rest := _) rfl ⟨rfl, rfl⟩ (.refl _) (LE0 rfl)
 ·first | (exact zI) | (exact zJ)
end Go.Proofs.YtncffhgoopdfgaaGreat
namespace Go.Am
open Go.RowKit
theorem Conv.anewS {s : List AV} {L L0 : Heap} {n j id off m cp k : Nat} {rows : List (List AV)} (hj : getA s j = .arr id off m cp) (hp : L.Perm ((id, .seq rows k) :: L0)) (hne : rows.length + k ≠ 0) :
  Conv ⟨s, L, n⟩ ⟨setA s j (.arr n off m cp), (n, .seq rows k) :: L0, n + 1⟩ := fun B G a w hr => by
 have hn : ¬ G.live n := fun h => Nat.lt_irrefl _ (hr.next n h)
 have hx := hr.slots j (fun h => h)
 simp only [hj] at hx
 have hx' : Sim G (.arr id off m cp) (a.tmps.getD j undef) := hx.down
 have h5 : Holds G w ((id, .seq rows k) :: L0) := hr.holds.perm hp
 obtain ⟨u1, u2⟩ := h5.unseq hne
 obtain ⟨m1, m2, m3⟩ := move_box u1 hn
 have hst : Step G w L (G.boxed n (G.loc id)) w ((n, .seq rows k) :: L0) := ((((Step.refl G w L).perm (.refl _) hp).unseq hne).trans m2).toSeq
 have hsim : Sim (G.boxed n (G.loc id)) (.arr n off m cp) (a.tmps.getD j undef) := by
  obtain ⟨base, hv, hlive, hnc, hcm, hbs⟩ := hx'.arr_inv
  rw [hv]
  exact .arr n off m cp base (.inr rfl) hnc hcm fun h0 => by rw [hbs h0]; simp [Ghost.boxed]
 refine ⟨G.boxed n (G.loc id), by rw [hr.size, setA_eq]; simp, fun i hi => ?_, hr.defers, m1.toSeq u2, hr.step.trans hst, fun i hi => ?_, hr.base, Nat.le_succ_of_le hr.low, fun i hi => ?_⟩
 ·show Slot _ (getA (setA s j _) i) _
  rw [getA_eq, setA_eq, List.getD, List.getElem?_set]
  by_cases e : j = i
  ·subst e
   rw [if_pos rfl]
   split
   ·exact .of hsim
   ·exact .of (.data _ _ (.dead _))
  ·rw [if_neg e]
   have := Slot.mono (G := G) (G' := G.boxed n (G.loc id)) (fun _ h => h) (fun a x h => m3 a x h) (hr.slots i hi)
   rw [getA_eq] at this
   exact this
 ·rcases hi with hi | rfl
  ·exact Nat.lt_succ_of_lt (hr.next i hi)
  ·exact Nat.lt_succ_self _
 ·rcases hi with hi | rfl
  ·exact hr.old i hi
  ·exact .inr hr.low
theorem box_more {G : Ghost} {w : World} {bid j : Nat} {cells : List AV} {a : AV} {L0 : Heap} (h : Holds G w ((bid, .box cells) :: L0)) (hs : ∀ arr E fr, w.heap[G.loc bid]? = some (.cells arr E fr) → Sim G a (arr.getD j undef)) :
  Holds G w ((bid, .box (setA cells j a)) :: L0) ∧ ∀ G0 w0 H0, Step G0 w0 H0 G w ((bid, .box cells) :: L0) → Step G0 w0 H0 G w ((bid, .box (setA cells j a)) :: L0) := by
 have hb0 : blocksOf G ((bid, .box (setA cells j a)) :: L0) = blocksOf G ((bid, .box cells) :: L0) := by unfold blocksOf; simp [List.filterMap_cons, Ghost.placed]
 have hnew : ResHolds G w (bid, .box (setA cells j a)) := by
  obtain ⟨g0, arr, E, fr, g1, g2, g3, g4⟩ := h.res (bid, .box cells) (by simp)
  refine ⟨g0, arr, E, fr, g1, by rw [setA_eq]; simpa using g2, g3, fun i b hb => ?_⟩
  rw [setA_eq, List.getElem?_set] at hb
  split at hb
  ·rename_i e
   subst e
   split at hb
   ·cases hb; exact hs _ _ _ g1
   ·cases hb
  ·exact g4 i b hb
 refine ⟨⟨h.X, fun r hm => ?_, by simpa using h.ids, fun r hm => ?_, by rw [hb0]; exact h.blocks, by rw [hb0]; exact h.lits⟩, fun G0 w0 H0 st => ⟨st.os, st.tape, st.output, st.size, st.base, st.X, st.frame, st.newX, by rw [hb0]; exact st.newB, st.live, by simpa using st.newI, st.lits, st.newL⟩⟩
 ·simp only [List.mem_cons] at hm
  rcases hm with rfl | hm
  ·exact hnew
  ·exact h.res _ (by simp [hm])
 ·simp only [List.mem_cons] at hm
  rcases hm with rfl | hm
  ·exact h.live (bid, .box cells) (by simp)
  ·exact h.live _ (by simp [hm])
theorem run_overlaps_box {P : Program} (w : World) (tS tR e : TypeId) (ht : P.underlying tS = some (.slice e)) (size : Nat) (hz : ∀ w, (Go.sizeOf e).run P w = .ok size w)
  (a : Addr) (base : Option Addr) (la ca lb cb : Nat) {va : Value} (hva : w.cell? a = some va) (hb : lb ≠ 0 → ∃ b, base = some b ∧ a.block ≠ b.block ∧ b.spot = none ∧ (∃ q, w.shape? b.block = some q) ∧ ∀ i, w.frozen? ⟨b.block, i, none⟩ = false) :
  (Extern.SlicesOverlaps.overlaps #[tS, tS] #[tR] #[.slice (some a) la ca, .slice base lb cb]).run P w = .ok (.bool false) w := by
 obtain ⟨tA, kA, hsa, hlt, hsp⟩ : ∃ tA kA, w.shape? a.block = some (tA, kA) ∧ a.off < kA ∧ a.spot = none := by
  unfold World.cell? at hva; unfold World.shape?
  split at hva
  ·rename_i c e fr hh
   split at hva
   ·cases hva
   ·rename_i h
    exact ⟨_, _, rfl, (Array.getElem?_eq_some_iff.1 hva).1, by simpa using h⟩
  ·cases hva
 cases kA with
 | zero => omega
 | succ kA =>
 by_cases h0 : la = 0 ∨ lb = 0 ∨ size = 0
 ·have key : ∀ (m1 m2 : String) (q : Sem Nat), Sem.run P (α := Value) (do
   let some t := (#[tS, tS] : Array TypeId)[0]? | stuck m1
   let .slice elem ← underlying t | stuck m2
   let size ← sizeOf elem
   match (some a : Option Addr), base with
   | some a, some b =>
    if la = 0 ∨ lb = 0 ∨ size = 0 then pure (Value.bool false)
    else if a.block != b.block && (← frozen a) && (← frozen b) then unsupported .addressObserved
    else do
     if a.block != b.block then do
      noView a; noView b
      if ← mayBeOne a b then return Value.bool ((← q) == 1)
     pure (Value.bool (a.block == b.block && a.off < b.off + lb * size && b.off < a.off + la * size))
   | _, _ => pure (Value.bool false)) w = .ok (.bool false) w := by
   intro m1 m2 q
   cases base with
   | none => simp [run_underlying ht, hz]
   | some b => simp [run_underlying ht, hz, h0]
  exact key "" _ _
 ·obtain ⟨b, rfl, hne, hbs', ⟨⟨tB, kB⟩, hshb⟩, hfz⟩ := hb fun h => h0 (.inr (.inl h))
  have hnb : (a.block != b.block) = true := by simpa using hne
  have hnb' : (a.block == b.block) = false := by simpa using hne
  have hfb : w.frozen? b = false := by
   have := hfz b.off
   unfold World.frozen? at this ⊢
   exact this
  have key : ∀ (m1 m2 : String) (q : Sem Nat), Sem.run P (α := Value) (do
   let some t := (#[tS, tS] : Array TypeId)[0]? | stuck m1
   let .slice elem ← underlying t | stuck m2
   let size ← sizeOf elem
   match (some a : Option Addr), (some b : Option Addr) with
   | some a, some b =>
    if la = 0 ∨ lb = 0 ∨ size = 0 then pure (Value.bool false)
    else if a.block != b.block && (← frozen a) && (← frozen b) then unsupported .addressObserved
    else do
     if a.block != b.block then do
      noView a; noView b
      if ← mayBeOne a b then return Value.bool ((← q) == 1)
     pure (Value.bool (a.block == b.block && a.off < b.off + lb * size && b.off < a.off + la * size))
   | _, _ => pure (Value.bool false)) w = .ok (.bool false) w := by
   intro m1 m2 q
   cases hfa : w.frozen? a <;>
   simp [run_underlying ht, hz, h0, hnb, hnb', frozen, noView, viewAt, mayBeOne, stringish, shape, Sem.run, hsa, hshb, hfb, hfa, hfz, hsp, hbs']
  exact key "" _ _
theorem ext_ov {P : Program} {f : FuncId} {fn : Func} {tS tR e : TypeId} (hf : P.funcs[f]? = some fn) (hname : (fn.name == "runtime.NumGoroutine") = false) (hb : fn.body.isNone = true) (hn : Extern.findNext fn = none) (he : Extern.find fn = some (Extern.SlicesOverlaps.overlaps #[tS, tS] #[tR]))
    (ht : P.underlying tS = some (.slice e)) (size : Nat) (hz : ∀ w, (Go.sizeOf e).run P w = .ok size w) {row : List AV} {rs : List (List AV)} {off m c k : Nat} {rows : List (List AV)} (hrow : row ≠ []) (hne : rows.length + k ≠ 0) :
    ACalls P f 1 1 [.list (row :: rs) .free, .arr 0 off m c] [(0, .seq rows k)] fun out H' => out = .ret (.v (.bool false)) ∧ H' = [(0, .seq rows k)] := by
  intro G w vals h1 h2 h3 h4 h5 h6
  obtain ⟨va, vb, rfl⟩ : ∃ va vb, vals = #[va, vb] := by
    have h7 : vals.size = 2 := by simpa using h5.symm
    refine ⟨vals.getD 0 undef, vals.getD 1 undef, ?_⟩
    apply Array.ext
    · rw [h7]; rfl
    · intro i hi hi2
      have : i = 0 ∨ i = 1 := by have : i < 2 := by simpa using hi2
                                 omega
      rcases this with rfl | rfl <;> simp [Array.getD, hi]
  have ha : Sim G (.list (row :: rs) .free) va := h6 0 _ rfl
  have hb' : Sim G (.arr 0 off m c) vb := h6 1 _ rfl
  obtain ⟨b, o, c', s, y, rfl, hr, hX, hS, h1c⟩ := ha.list_inv.1.pos (by simp)
  obtain ⟨base, rfl, hlive, hnc, hcm, hbs⟩ := hb'.arr_inv
  cases row with
  | nil => exact absurd rfl hrow
  | cons a0 row =>
  have hx0 := hX 0 (a0 :: row) 0 a0 rfl rfl
  have hcell := h4.X _ _ _ hx0
  simp only [Nat.zero_mul, Nat.add_zero] at hcell hx0
  obtain ⟨⟨g0, arr, E, fr, g1, g2, g3, g4⟩, _⟩ := h4.res (0, .seq rows k) (by simp) hne
  refine .inr ⟨.bool false, w, ?_, G, .ret (.v (.bool false)), [(0, .seq rows k)], ⟨rfl, rfl⟩, .data _ _ (.v _), h4, Step.refl _ _ _, fun id h => .inl h⟩
  rw [Go.run_callFunc_extern hf hname hb hn he, run_overlaps_box w tS tR e ht size hz ⟨b, o, none⟩ base _ c' m c hcell fun hm => ?_]
  · rfl
  · refine ⟨_, hbs (by omega), fun e => ?_, rfl, ⟨(E, arr.size), by unfold World.shape?; rw [g1]⟩, g3⟩
    have e' : b = G.loc 0 := e
    rw [e', g0] at hx0; cases hx0
theorem asrc_seq {L : Heap} {sz : Nat} {y : AV} {lim : Nat → Nat} {id off m cp k : Nat} {rows : List (List AV)} {cs : List AV} {K : Nat → List AV → Prop} (hy : y = .arr id off m cp) (hf : findL L id = some (.seq rows k)) (h0 : lim m ≤ m) (h1 : off + lim m * sz ≤ (seqC rows k).length)
  (hcs : ((seqC rows k).drop off).take (lim m * sz) = cs) (h2 : cs.all AV.one = true) (h : K m cs) : asrc L sz lim y K := by
 subst hy; subst hcs
 unfold asrc
 simp only [hf]
 exact ⟨h0, h1, h2, h⟩
theorem seqC_len {sz k : Nat} {rows : List (List AV)} (h : ∀ row ∈ rows, row.length = sz) : (seqC rows k).length = rows.length * sz + k := by
 unfold seqC; rw [List.length_append, List.length_replicate, flatten_length h]
theorem put_mid (A B C cs : List AV) (h : cs.length = B.length) : putCells (A ++ (B ++ C)) A.length cs = A ++ (cs ++ C) := by
 unfold putCells
 rw [List.take_left, h, ← List.append_assoc A, List.drop_append, List.drop_eq_nil_of_le (by simp)]
 simp
theorem RowsOk.take {sz : Nat} {rows : List (List AV)} (h : RowsOk sz rows) (i : Nat) : RowsOk sz (rows.take i) := by
 have hm : ∀ a ∈ (rows.take i).flatten, a ∈ rows.flatten := fun a ha => by
  obtain ⟨r, h1, h2⟩ := List.mem_flatten.1 ha
  exact List.mem_flatten.2 ⟨r, List.mem_of_mem_take h1, h2⟩
 exact ⟨fun row hr => h.len row (List.mem_of_mem_take hr), List.all_eq_true.2 fun a ha => List.all_eq_true.1 h.one a (hm a ha), fun a ha => h.pure a (hm a ha)⟩
theorem RowsOk.drop {sz : Nat} {rows : List (List AV)} (h : RowsOk sz rows) (i : Nat) : RowsOk sz (rows.drop i) := by
 have hm : ∀ a ∈ (rows.drop i).flatten, a ∈ rows.flatten := fun a ha => by
  obtain ⟨r, h1, h2⟩ := List.mem_flatten.1 ha
  exact List.mem_flatten.2 ⟨r, List.mem_of_mem_drop h1, h2⟩
 exact ⟨fun row hr => h.len row (List.mem_of_mem_drop hr), List.all_eq_true.2 fun a ha => List.all_eq_true.1 h.one a (hm a ha), fun a ha => h.pure a (hm a ha)⟩
theorem seq_from {sz : Nat} {rows : List (List AV)} (h : ∀ row ∈ rows, row.length = sz) (i k : Nat) (hi : i ≤ rows.length) : (seqC rows k).drop (i * sz) = (rows.drop i).flatten ++ List.replicate k .dead := by
 unfold seqC
 have hl : (rows.take i).flatten.length = i * sz := by rw [flatten_length (fun row hr => h row (List.mem_of_mem_take hr)), List.length_take, Nat.min_eq_left hi]
 conv => lhs; rw [← List.take_append_drop i rows, List.flatten_append, List.append_assoc, ← hl, List.drop_left]
theorem seq_split {sz : Nat} {rows : List (List AV)} (h : ∀ row ∈ rows, row.length = sz) (i k : Nat) : seqC rows k = (rows.take i).flatten ++ ((rows.drop i).flatten ++ List.replicate k .dead) := by
 unfold seqC
 conv => lhs; rw [← List.take_append_drop i rows, List.flatten_append, List.append_assoc]
theorem put_up {sz k i : Nat} {rows : List (List AV)} {r : List AV} (h : ∀ row ∈ rows, row.length = sz) (hi : rows[i]? = some r) (hk : sz ≤ k) : putCells (seqC rows k) ((i + 1) * sz) (rows.drop i).flatten = seqC (rows.take i ++ r :: rows.drop i) (k - sz) := by
 obtain ⟨hlt, hr⟩ := List.getElem?_eq_some_iff.1 hi
 have hd : rows.drop i = r :: rows.drop (i + 1) := by rw [List.drop_eq_getElem_cons hlt, hr]
 have hrl : r.length = sz := h r (List.mem_of_getElem? hi)
 have hA : ((rows.take i).flatten ++ r).length = (i + 1) * sz := by
  rw [List.length_append, flatten_length (fun row hr => h row (List.mem_of_mem_take hr)), List.length_take, Nat.min_eq_left (by omega), hrl, Nat.succ_mul]
 have hB : ∀ m, (rows.drop m).flatten.length = (rows.length - m) * sz := fun m => by
  rw [flatten_length (fun row hr => h row (List.mem_of_mem_drop hr)), List.length_drop]
 obtain ⟨j, hj⟩ : ∃ j, rows.length - i = j + 1 := ⟨rows.length - i - 1, by omega⟩
 have e1 : seqC rows k = ((rows.take i).flatten ++ r) ++ (((rows.drop (i + 1)).flatten ++ List.replicate sz .dead) ++ List.replicate (k - sz) .dead) := by
  rw [seq_split h i, hd, List.flatten_cons]
  simp only [List.append_assoc]
  congr 3
  rw [List.replicate_append_replicate]
  congr 1; omega
 rw [e1, ← hA, put_mid]
 ·unfold seqC
  rw [List.flatten_append, List.flatten_cons]
  simp only [List.append_assoc]
 ·rw [hB, List.length_append, hB, List.length_replicate, hj, show rows.length - (i + 1) = j by omega, Nat.succ_mul]
theorem put_one {sz k i : Nat} {rows : List (List AV)} {row : List AV} (h : ∀ row ∈ rows, row.length = sz) (hi : i < rows.length) (hr : row.length = sz) : putCells (seqC rows k) (i * sz) row = seqC (rows.set i row) k := by
 have hg : rows[i]? = some rows[i] := List.getElem?_eq_getElem hi
 have := flat_put (j := 0) (l := row) h hg (by omega) k
 rw [Nat.add_zero] at this
 rw [this]
 congr 2
 have hrl : rows[i].length = sz := h _ (List.getElem_mem hi)
 unfold putCells
 rw [List.take_zero, List.nil_append, List.drop_eq_nil_of_le (by omega), List.append_nil]
theorem put_end {sz k : Nat} {rows rows2 : List (List AV)} (h : ∀ row ∈ rows, row.length = sz) (h2 : ∀ row ∈ rows2, row.length = sz) (hk : rows2.length * sz ≤ k) : putCells (seqC rows k) (rows.length * sz) rows2.flatten = seqC (rows ++ rows2) (k - rows2.length * sz) := by
 unfold seqC
 rw [← flatten_length h, putCells_end (by rw [flatten_length h2]; exact hk), flatten_length h2, List.flatten_append]
section
variable {P : Program} {TT : Types} {o : Oper} {s : List AV} {L : Heap} {n : Nat}
theorem a_copyUp {K KP : AV → Heap → Nat → Prop} {c : Call} {x y : Operand} {t tx e : TypeId} {te : TI} {id off off2 nn mm cp cp2 k k2 i sz : Nat} {r : List AV} {rows : List (List AV)} {L0 : Heap} (ho : o.op = .call c) (hk : opKind o = .mem) (hc : c.callee = .builtin .copy) (ha : c.args.toList = [x, y]) (hty : c.argTypes.toList = [t, tx])
  (hkt : kindT TT t = .slice e) (hte : TT e = some te) (hx : ev s x = .arr id off nn cp) (hy : ev s y = .arr id off2 mm cp2) (hta : ∀ k' : Res → Heap → Prop, k' (.seq rows k) L0 → takeO L id k') (hf : findL L id = some (.seq rows k)) (hsz : te.size = sz) (hR : RowsOk sz rows) (hr : rows[i]? = some r)
  (hoff : off = (i + 1) * sz) (hoff2 : off2 = i * sz) (hnn : nn = rows.length - i) (hmm : mm = rows.length + 1 - i) (hkk : sz ≤ k) (hk2 : k - sz = k2) (h : ∀ q : Int, K (.v (.int .i64 q)) ((id, .seq (rows.take i ++ r :: rows.drop i) k2) :: L0) n) : aop P TT o s L n K KP := by
 subst hk2
 subst hoff; subst hoff2; subst hsz; subst hnn
 have hlt := (List.getElem?_eq_some_iff.1 hr).1
 have hmin : Nat.min mm (rows.length - i) = rows.length - i := Nat.min_eq_right (by omega)
 have hmul : i * te.size + (rows.length - i) * te.size = rows.length * te.size := by rw [← Nat.add_mul]; congr 1; omega
 refine a_copyS ho hk hc ha hty hkt hte hx hta (m := mm) (cs := (rows.drop i).flatten) (fun K h => asrc_seq hy hf (Nat.min_le_left _ _) ?_ ?_ ?_ h) (by omega) ?_ (put_up hR.len hr hkk) ?_ (h _)
 ·rw [hmin, seqC_len hR.len]; omega
 ·rw [hmin, seq_from hR.len i k (by omega), List.take_append_of_le_length]
  ·rw [List.take_of_length_le]
   rw [flatten_length (hR.drop i).len, List.length_drop]; exact Nat.le_refl _
  ·rw [flatten_length (hR.drop i).len, List.length_drop]; exact Nat.le_refl _
 ·exact (hR.drop i).one
 ·rw [hmin, seqC_len hR.len, Nat.succ_mul]; omega
 ·intro a ha
  have h1 := (hR.take i).pure
  have h2 := (hR.drop i).pure
  rw [List.flatten_append, List.flatten_cons, List.mem_append, List.mem_append] at ha
  rcases ha with ha | ha | ha
  ·exact h1 a ha
  ·exact hR.pure a (List.mem_flatten.2 ⟨r, List.mem_of_getElem? hr, ha⟩)
  ·exact h2 a ha
theorem a_copyOne {K KP : AV → Heap → Nat → Prop} {c : Call} {x y : Operand} {t tx e : TypeId} {te : TI} {id off nn cp k i sz : Nat} {row : List AV} {own : Own} {rows rows' : List (List AV)} {L0 : Heap} (ho : o.op = .call c) (hk : opKind o = .mem) (hc : c.callee = .builtin .copy) (ha : c.args.toList = [x, y]) (hty : c.argTypes.toList = [t, tx])
  (hkt : kindT TT t = .slice e) (hte : TT e = some te) (hx : ev s x = .arr id off nn cp) (hy : ev s y = .list [row] own) (hta : ∀ k' : Res → Heap → Prop, k' (.seq rows k) L0 → takeO L id k') (hsz : te.size = sz) (hR : RowsOk sz rows) (hrow : row.length = sz) (hpr : ∀ a ∈ row, a.pure = true) (hi : i < rows.length)
  (hoff : off = i * sz) (hnn : 1 ≤ nn) (hrows : rows.set i row = rows') (h : ∀ q : Int, K (.v (.int .i64 q)) ((id, .seq rows' k) :: L0) n) : aop P TT o s L n K KP := by
 subst hoff; subst hsz; subst hrows
 have hmin : Nat.min 1 nn = 1 := Nat.min_eq_left hnn
 refine a_copyS ho hk hc ha hty hkt hte hx hta (m := 1) (cs := row) (fun K h => ?_) (by omega) ?_ (put_one hR.len hi hrow) ?_ (h _)
 ·rw [hy]
  refine ⟨fun q hq => ?_, Nat.min_le_left _ _, ?_⟩
  ·rw [List.mem_singleton.1 hq]; exact hrow
  ·show K 1 (List.take (Nat.min 1 nn * te.size) [row].flatten)
   rw [hmin, Nat.one_mul, List.flatten_cons, List.flatten_nil, List.append_nil, List.take_of_length_le (Nat.le_of_eq hrow)]
   exact h
 ·rw [hmin, seqC_len hR.len, Nat.one_mul, ← Nat.succ_mul]
  exact Nat.le_trans (Nat.mul_le_mul_right te.size hi) (Nat.le_add_right _ _)
 ·intro a ha
  obtain ⟨q, hq, hm⟩ := List.mem_flatten.1 ha
  rcases List.mem_or_eq_of_mem_set hq with h1 | rfl
  ·exact hR.pure a (List.mem_flatten.2 ⟨q, h1, hm⟩)
  ·exact hpr a hm
theorem a_copyEnd {K KP : AV → Heap → Nat → Prop} {c : Call} {x y : Operand} {t tx e : TypeId} {te : TI} {id off nn cp k k2 m sz : Nat} {rows rows2 rows' : List (List AV)} {L0 : Heap} (ho : o.op = .call c) (hk : opKind o = .mem) (hc : c.callee = .builtin .copy) (ha : c.args.toList = [x, y]) (hty : c.argTypes.toList = [t, tx])
  (hkt : kindT TT t = .slice e) (hte : TT e = some te) (hx : ev s x = .arr id off nn cp) (hy : ∀ K : Nat → List AV → Prop, K m rows2.flatten → asrc L te.size (fun m => Nat.min m nn) (ev s y) K) (hta : ∀ k' : Res → Heap → Prop, k' (.seq rows k) L0 → takeO L id k') (hsz : te.size = sz) (hR : RowsOk sz rows) (hR2 : RowsOk sz rows2)
  (hm : Nat.min m nn = rows2.length) (hoff : off = rows.length * sz) (hkk : rows2.length * sz ≤ k) (hne : rows.length + k ≠ 0) (hrows : rows ++ rows2 = rows') (hk2 : k - rows2.length * sz = k2) (h : ∀ q : Int, K (.v (.int .i64 q)) ((id, .seq rows' k2) :: L0) n) : aop P TT o s L n K KP := by
 subst hoff; subst hsz; subst hrows; subst hk2
 refine a_copyS ho hk hc ha hty hkt hte hx hta (m := m) (cs := rows2.flatten) hy hne ?_ (put_end hR.len hR2.len hkk) (pure_app hR.pure hR2.pure) (h _)
 rw [hm, seqC_len hR.len]; omega
theorem asrc_rows {L : Heap} {sz : Nat} {y : AV} {rows : List (List AV)} {own : Own} {nn : Nat} {K : Nat → List AV → Prop} (hy : y = .list rows own) (hr : ∀ row ∈ rows, row.length = sz) (hn : rows.length ≤ nn) (h : K rows.length rows.flatten) : asrc L sz (fun m => Nat.min m nn) y K := by
 subst hy
 refine ⟨hr, Nat.min_le_left _ _, ?_⟩
 show K _ (List.take (Nat.min rows.length nn * sz) _)
 rw [show Nat.min rows.length nn = rows.length from Nat.min_eq_left hn, ← flatten_length hr, List.take_length]; exact h
theorem asrc_drop {L : Heap} {sz : Nat} {y : AV} {id off i m cp k nn : Nat} {rows : List (List AV)} {K : Nat → List AV → Prop} (hy : y = .arr id off m cp) (hf : findL L id = some (.seq rows k)) (hR : RowsOk sz rows) (hi : i ≤ rows.length) (hoff : off = i * sz) (hm : m = rows.length - i) (hn : m ≤ nn) (h : K m (rows.drop i).flatten) : asrc L sz (fun m => Nat.min m nn) y K := by
 have hmin : Nat.min m nn = m := Nat.min_eq_left hn
 have hmul : i * sz + (rows.length - i) * sz = rows.length * sz := by rw [← Nat.add_mul]; congr 1; omega
 subst hoff
 refine asrc_seq hy hf (Nat.min_le_left _ _) ?_ ?_ (hR.drop i).one h
 ·show i * sz + Nat.min m nn * sz ≤ _
  rw [hmin, seqC_len hR.len, hm]; omega
 ·show List.take (Nat.min m nn * sz) _ = _
  have hfl := flatten_length (hR.drop i).len
  rw [List.length_drop] at hfl
  rw [hmin, hm, seq_from hR.len i k hi, List.take_append_of_le_length (by omega), List.take_of_length_le (by omega)]
end
section
variable {P : Program} {TT : Types} {s : List AV} {L : Heap} {n : Nat}
theorem c_l3 {D : Dr} {Kk : Kc} {x : Code} {α β γ : Type} (S : α → β → γ → ASt) (C : α → β → γ → Prop) (μ : α → β → γ → Nat) (a : α) (b : β) (c : γ) (ha : C a b c) (hc : Conv ⟨s, L, n⟩ (S a b c))
  (hround : ∀ a b c, C a b c → acode P TT D x (S a b c).slots (S a b c).L (S a b c).next (loopK D.low (fun p : α × β × γ => S p.1 p.2.1 p.2.2) (fun p => C p.1 p.2.1 p.2.2) (fun p => μ p.1 p.2.1 p.2.2) (a, b, c) Kk)) : acode P TT D (.loop x) s L n Kk :=
 c_loop' (fun p : α × β × γ => S p.1 p.2.1 p.2.2) (fun p => C p.1 p.2.1 p.2.2) (fun p => μ p.1 p.2.1 p.2.2) (a := (a, b, c)) ha hc fun p h => hround p.1 p.2.1 p.2.2 h
end
theorem q_loadAt {P : Program} {TT : Types} {o : Oper} {s : List AV} {L : Heap} {t : TypeId} {x : Operand} {ti : TI} {id off : Nat} {cells : List AV} {av : AV} (ho : o.op = .load t x) (ht : TT t = some ti) (hx : ev s x = .ptr id off) (hf : findL L id = some (.box cells)) (hk : isAggK ti.kind = false) (hc : cells[off]? = some av) : ∀ K : AV → Prop, K av → aq P TT L (ev s) (raw s) o fun x => fv x K := fun K h => by
 unfold aq; simp only [ho]; rw [ht, hx]
 simp only [opt1, aload, hf, hk, hc, Bool.false_eq_true, if_false, fv_eq]
 exact h
theorem aolds_take {L : Heap} {sz id off i cp k : Nat} {rows : List (List AV)} (hf : findL L id = some (.seq rows k)) (hR : RowsOk sz rows) (hi : i ≤ rows.length) (hoff : off = 0) : aolds L sz (.arr id off i cp) (rows.take i).flatten i cp := by
 subst hoff
 have hfl := flatten_length (hR.take i).len
 rw [List.length_take, Nat.min_eq_left hi] at hfl
 have hcut : ((seqC rows k).drop 0).take (i * sz) = (rows.take i).flatten := by
  rw [List.drop_zero, seq_split hR.len i, ← hfl, List.take_left]
 refine ⟨rfl, rfl, .inr (.inl ⟨rows, k, hf, ?_, ?_, hcut.symm⟩)⟩
 ·rw [seqC_len hR.len]
  have := Nat.mul_le_mul_right sz hi
  omega
 ·rw [hcut]; exact (hR.take i).one
def insAt {α : Type} (l : List α) (i : Nat) (x : α) : List α := l.take i ++ x :: l.drop i
theorem insAt_len {α : Type} {l : List α} {i : Nat} (x : α) (h : i ≤ l.length) : (insAt l i x).length = l.length + 1 := by simp [insAt]; omega
theorem insAt_end {α : Type} (l : List α) (x : α) : insAt l l.length x = l ++ [x] := by simp [insAt]
theorem insAt_map {α β : Type} (f : α → β) (l : List α) (i : Nat) (x : α) : insAt (l.map f) i (f x) = (insAt l i x).map f := by simp [insAt, List.map_take, List.map_drop]
theorem ins_set {rows : List (List AV)} {i : Nat} {r row : List AV} (hi : i < rows.length) : (rows.take i ++ r :: rows.drop i).set i row = insAt rows i row := by
 unfold insAt
 rw [List.set_append_right _ _ (by simp; omega), List.length_take, Nat.min_eq_left (by omega), Nat.sub_self, List.set_cons_zero]
end Go.Am
