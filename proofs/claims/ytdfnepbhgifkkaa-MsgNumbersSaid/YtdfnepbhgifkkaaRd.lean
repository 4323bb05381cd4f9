/- The document's reader of octets by itself, by contracts. -/
import Derived.Test.YtdfnepbhgifkkaaOcD

namespace Go.Proofs.Ytdfnepbhgifkkaa
open Go.Am
set_option linter.unusedSimpArgs false
set_option linter.unusedVariables false

def rr (b : List UInt8) (bad : Bool) : Heap := [(0, .box [.list (b.map brow) .free, .v (.bool bad)])]
theorem rr_free (s : List AV) (n : Nat) (bad : Bool) (rows : List (List AV)) (o : Own) : Conv ⟨s, [(0, .box [.list rows o, .v (.bool bad)])], n⟩ ⟨s, [(0, .box [.list rows .free, .v (.bool bad)])], n⟩ :=
  .wk (.refl _) (.cons (.box _ (.cons (.free _ _) (.refl _))) (.refl _))
theorem refFail_c (b : List UInt8) (bad : Bool) : ACalls Try.prog 103 1 1 [.ptr 0 0] (rr b bad) (fun out H' => out = .ret (.tuple []) ∧ H' = rr [] true) := by
  refine acalls_of tok dok (f := 103) ⟨Try.func103, rfl, by kernel_rfl⟩ ?_; refine c_start (fun _ h => h) ?_
  refine awd ?_
  exact e_ret_to (H' := rr [] true) (rest := []) (rr_free _ _ _ _ _) rfl ⟨rfl, rfl⟩ (.of_eq rfl) (Nat.le_of_ble_eq_true rfl)
/-- so many octets off the left: what comes of it, and what is left -/
def rSome (n : Nat) (b : List UInt8) (bad : Bool) : List UInt8 := if bad = false ∧ n ≤ b.length then b.take n else List.replicate (min n 8) 0
def rBad (n : Nat) (b : List UInt8) (bad : Bool) : Bool := !decide (bad = false ∧ n ≤ b.length)
def rLeft (n : Nat) (b : List UInt8) (bad : Bool) : List UInt8 := if bad = false ∧ n ≤ b.length then b.drop n else []
theorem rSome_len (n : Nat) (b : List UInt8) (bad : Bool) (hn : n ≤ 8) : (rSome n b bad).length = n := by
  unfold rSome
  split
  · rename_i h; rw [List.length_take]; omega
  · rw [List.length_replicate]; omega
theorem refSome_c (b : List UInt8) (bad : Bool) (n : Nat) (hn : n ≤ 8) (h : b.length < 70368744177664) : ACalls Try.prog 112 1 3 [.ptr 0 0, .v (.int .i64 n)] (rr b bad) (fun out H' => out = .ret (.list ((rSome n b bad).map brow) .free) ∧ H' = rr (rLeft n b bad) (rBad n b bad)) := by
  refine acalls_of tok dok (f := 112) ⟨Try.func112, rfl, by kernel_rfl⟩ ?_; refine c_start (fun _ h => h) ?_
  repeat' (first | (refine awd1 ?_) | (((with_reducible refine is_aops ?_); refine o_split rfl rfl rfl (fun hc => ?_) (fun hc => ?_) <;> rw [hc])) | (((with_reducible refine is_cond ?_); refine c_cond rfl (fun hc => ?_) (fun hc => ?_))) | (((with_reducible refine is_aop ?_); refine a_pick rfl rfl (fun hc => ?_) (fun hc => ?_) <;> rw [hc])) | fail)
  · have e1 : rSome n b true = List.replicate n 0 := by unfold rSome; rw [if_neg (by simp), Nat.min_eq_left hn]
    have e2 : rBad n b true = true := by unfold rBad; rw [decide_eq_false (by simp)]; rfl
    have e3 : rLeft n b true = [] := by unfold rLeft; rw [if_neg (by simp)]
    rw [e1, e2, e3]
    refine cal [0] (refFail_c b true) ?_ ?_
    · refine ret1 ?_; first | (refine akc ?_) | (refine aec ?_)
      refine awd ?_
      rw [show (if (8 : Int) < (n : Int) then (8 : Int) else (n : Int)) = (n : Int) by rw [if_neg (by omega)]]
      (with_reducible refine is_aop ?_); first | (refine a_qS rfl (fun _ h => h) ?_ ?_) | (refine a_qS rfl (qIx (fun _ h => h)) ?_ ?_) | (refine a_qS rfl (qAnd5 (fun _ h => h)) ?_ ?_) | (refine a_qS rfl (qStr (fun _ h => h)) ?_ ?_) | (refine a_qS rfl (qAnd4 (fun _ h => h)) ?_ ?_) | (refine a_qS rfl (qAnd2 (fun _ h => h)) ?_ ?_)
      · exact ⟨rfl, Int.natCast_nonneg n, by omega, by show ((1 : Nat) : Int) * (n : Int) ≤ 140737488355328; omega⟩
      refine awd ?_
      refine e_ret_to (H' := rr [] true) (rest := []) (.freeSlot 4 rfl) rfl ⟨congrArg (fun l => AOut.ret (.list l .free)) ?_, rfl⟩ (.of_eq rfl) (Nat.le_of_ble_eq_true rfl)
      rw [Int.toNat_natCast, List.map_replicate]
      rfl
    · first | (exact retN) | (exact retP)
  · have e1 : rSome n b false = List.replicate n 0 := by unfold rSome; rw [if_neg (by simp at *; omega), Nat.min_eq_left hn]
    have e2 : rBad n b false = true := by unfold rBad; rw [decide_eq_false (by simp at *; omega)]; rfl
    have e3 : rLeft n b false = [] := by unfold rLeft; rw [if_neg (by simp at *; omega)]
    rw [e1, e2, e3]
    refine cal [0] (refFail_c b false) ?_ ?_
    · refine ret1 ?_; first | (refine akc ?_) | (refine aec ?_)
      refine awd ?_
      rw [show (if (8 : Int) < (n : Int) then (8 : Int) else (n : Int)) = (n : Int) by rw [if_neg (by omega)]]
      (with_reducible refine is_aop ?_); first | (refine a_qS rfl (fun _ h => h) ?_ ?_) | (refine a_qS rfl (qIx (fun _ h => h)) ?_ ?_) | (refine a_qS rfl (qAnd5 (fun _ h => h)) ?_ ?_) | (refine a_qS rfl (qStr (fun _ h => h)) ?_ ?_) | (refine a_qS rfl (qAnd4 (fun _ h => h)) ?_ ?_) | (refine a_qS rfl (qAnd2 (fun _ h => h)) ?_ ?_)
      · exact ⟨rfl, Int.natCast_nonneg n, by omega, by show ((1 : Nat) : Int) * (n : Int) ≤ 140737488355328; omega⟩
      refine awd ?_
      refine e_ret_to (H' := rr [] true) (rest := []) (.freeSlot 4 rfl) rfl ⟨congrArg (fun l => AOut.ret (.list l .free)) ?_, rfl⟩ (.of_eq rfl) (Nat.le_of_ble_eq_true rfl)
      rw [Int.toNat_natCast, List.map_replicate]
      rfl
    · first | (exact retN) | (exact retP)
  · have hn' : n ≤ b.length := by simp at *; omega
    have e1 : rSome n b false = b.take n := by unfold rSome; rw [if_pos ⟨rfl, hn'⟩]
    have e2 : rBad n b false = false := by unfold rBad; rw [decide_eq_true ⟨rfl, hn'⟩]; rfl
    have e3 : rLeft n b false = b.drop n := by unfold rLeft; rw [if_pos ⟨rfl, hn'⟩]
    rw [e1, e2, e3]
    (with_reducible refine is_aop ?_); first | (refine a_qS rfl (fun _ h => h) ?_ ?_) | (refine a_qS rfl (qIx (fun _ h => h)) ?_ ?_) | (refine a_qS rfl (qAnd5 (fun _ h => h)) ?_ ?_) | (refine a_qS rfl (qStr (fun _ h => h)) ?_ ?_) | (refine a_qS rfl (qAnd4 (fun _ h => h)) ?_ ?_) | (refine a_qS rfl (qAnd2 (fun _ h => h)) ?_ ?_)
    · refine ⟨trivial, Int.natCast_nonneg n, Nat.zero_le _, ?_, brows b⟩
      simpa using hn'
    refine k_as (.list ((b.take n).map brow) .free) (by simp [List.map_take, orFull, isFull, isNone]) ?_
    have hl : (b.take n).length ≤ 8 := by rw [List.length_take]; omega
    refine awd ?_
    (with_reducible refine is_aop ?_); first | (refine a_qS rfl (fun _ h => h) ?_ ?_) | (refine a_qS rfl (qIx (fun _ h => h)) ?_ ?_) | (refine a_qS rfl (qAnd5 (fun _ h => h)) ?_ ?_) | (refine a_qS rfl (qStr (fun _ h => h)) ?_ ?_) | (refine a_qS rfl (qAnd4 (fun _ h => h)) ?_ ?_) | (refine a_qS rfl (qAnd2 (fun _ h => h)) ?_ ?_)
    · refine ⟨Int.natCast_nonneg n, trivial, ?_, Nat.le_refl _, brows b⟩
      simpa using hn'
    refine k_as (.list ((b.drop n).map brow) .free) (by rw [Int.toNat_natCast, List.take_of_length_le (Nat.le_refl _), List.map_drop]) ?_
    refine awd ?_
    exact e_ret_to (H' := rr (b.drop n) false) (rest := [(1, .tok 1 (([] : List AV).length + ((b.take n).map brow).length))]) (.freeSlot 4 rfl) rfl ⟨rfl, rfl⟩ (.swap _ _ _) (Nat.le_of_ble_eq_true rfl)
/-- a number of octets, the highest first -/
theorem shl32 {a k : Nat} (h : a * 2 ^ k < 4294967296) (m : Nat) (hm : m = k) : IntKind.u32.wrap ((a : Int) * 2 ^ m) = ((a * 2 ^ k : Nat) : Int) := by
  subst hm
  have : ((a : Int) * 2 ^ m) = ((a * 2 ^ m : Nat) : Int) := by rw [Int.natCast_mul, Int.natCast_pow]; rfl
  rw [IntKind.wrap_u32, this]
  omega
theorem or32 {a c k : Nat} (ha : a * 2 ^ k + c < 4294967296) (hc : c < 2 ^ k) : IntKind.u32.wrap ((BitVec.ofInt IntKind.u32.bits ((a * 2 ^ k : Nat) : Int) ||| BitVec.ofInt IntKind.u32.bits (c : Int)).toNat : Int) = ((a * 2 ^ k + c : Nat) : Int) := by
  have e : ∀ {n : Nat}, n < 4294967296 → (BitVec.ofInt IntKind.u32.bits (n : Int)).toNat = n := fun {n} h => by
    show (BitVec.ofInt 32 (n : Int)).toNat = n
    rw [BitVec.toNat_ofInt]; omega
  rw [BitVec.toNat_or, e (by omega), e (by omega), ← Nat.shiftLeft_eq, ← Nat.shiftLeft_add_eq_or_of_lt hc, Nat.shiftLeft_eq, IntKind.wrap_u32]
  omega
theorem w32 {n : Nat} (h : n < 4294967296) : IntKind.u32.wrap (n : Int) = n := by rw [IntKind.wrap_u32]; omega
theorem num4 {x0 x1 x2 x3 : Nat} (h0 : x0 < 256) (h1 : x1 < 256) (h2 : x2 < 256) (h3 : x3 < 256) :
    IntKind.u32.wrap (BitVec.ofInt IntKind.u32.bits (IntKind.u32.wrap (BitVec.ofInt IntKind.u32.bits (IntKind.u32.wrap (BitVec.ofInt IntKind.u32.bits (IntKind.u32.wrap (IntKind.u32.wrap (x0 : Int) * 2 ^ min (Int.toNat 24) IntKind.u32.bits)) ||| BitVec.ofInt IntKind.u32.bits (IntKind.u32.wrap (IntKind.u32.wrap (x1 : Int) * 2 ^ min (Int.toNat 16) IntKind.u32.bits))).toNat) ||| BitVec.ofInt IntKind.u32.bits (IntKind.u32.wrap (IntKind.u32.wrap (x2 : Int) * 2 ^ min (Int.toNat 8) IntKind.u32.bits))).toNat) ||| BitVec.ofInt IntKind.u32.bits (IntKind.u32.wrap (x3 : Int))).toNat = ((((x0 * 256 + x1) * 256 + x2) * 256 + x3 : Nat) : Int) := by
  rw [w32 (n := x0) (by omega), w32 (n := x1) (by omega), w32 (n := x2) (by omega), w32 (n := x3) (by omega)]
  rw [shl32 (a := x0) (k := 24) (by omega) (min (Int.toNat 24) IntKind.u32.bits) rfl, shl32 (a := x1) (k := 16) (by omega) (min (Int.toNat 16) IntKind.u32.bits) rfl, shl32 (a := x2) (k := 8) (by omega) (min (Int.toNat 8) IntKind.u32.bits) rfl]
  rw [or32 (a := x0) (k := 24) (c := x1 * 2 ^ 16) (by omega) (by omega)]
  rw [show x0 * 2 ^ 24 + x1 * 2 ^ 16 = (x0 * 256 + x1) * 2 ^ 16 by omega, or32 (by omega) (by omega)]
  rw [show (x0 * 256 + x1) * 2 ^ 16 + x2 * 2 ^ 8 = ((x0 * 256 + x1) * 256 + x2) * 2 ^ 8 by omega, or32 (by omega) (by omega)]
theorem refByte_c (b : List UInt8) (bad : Bool) (h : b.length < 70368744177664) : ACalls Try.prog 93 1 4 [.ptr 0 0] (rr b bad) (fun out H' => out = .ret (.v (.int .u8 (ubn (rSome 1 b bad) 0))) ∧ H' = rr (rLeft 1 b bad) (rBad 1 b bad)) := by
  refine acalls_of tok dok (f := 93) ⟨Try.func93, rfl, by kernel_rfl⟩ ?_; refine c_start (fun _ h => h) ?_
  refine awd ?_
  refine cal [0] (refSome_c b bad 1 (by decide) h) ?_ ?_
  · refine ret1 ?_; first | (refine akc ?_) | (refine aec ?_)
    have hl := rSome_len 1 b bad (by decide)
    generalize rSome 1 b bad = q at *
    match q, hl with
    | [c], _ =>
      have h0 : 0 ≤ (0 : Int) ∧ (List.map brow [c])[Int.toNat 0]? = some (brow c) ∧ (brow c).length = 1 := ⟨by decide, rfl, rfl⟩
      refine awd ?_
      refine e_ret (H' := rr (rLeft 1 b bad) (rBad 1 b bad)) (rest := []) rfl ⟨?_, rfl⟩ (.of_eq rfl) (Nat.le_of_ble_eq_true rfl)
      simp [ubn]
      rfl
  · first | (exact retN) | (exact retP)
theorem refRNum_c (b : List UInt8) (bad : Bool) (h : b.length < 70368744177664) : ACalls Try.prog 94 1 4 [.ptr 0 0] (rr b bad) (fun out H' => out = .ret (.v (.int .u32 (ubn (rSome 4 b bad) 0))) ∧ H' = rr (rLeft 4 b bad) (rBad 4 b bad)) := by
  refine acalls_of tok dok (f := 94) ⟨Try.func94, rfl, by kernel_rfl⟩ ?_; refine c_start (fun _ h => h) ?_
  refine awd ?_
  refine cal [0] (refSome_c b bad 4 (by decide) h) ?_ ?_
  · refine ret1 ?_; first | (refine akc ?_) | (refine aec ?_)
    have hl := rSome_len 4 b bad (by decide)
    generalize rSome 4 b bad = q at *
    match q, hl with
    | [c0, c1, c2, c3], _ =>
      have h0 : 0 ≤ (0 : Int) ∧ (List.map brow [c0, c1, c2, c3])[Int.toNat 0]? = some (brow c0) ∧ (brow c0).length = 1 := ⟨by decide, rfl, rfl⟩
      have h1 : 0 ≤ (1 : Int) ∧ (List.map brow [c0, c1, c2, c3])[Int.toNat 1]? = some (brow c1) ∧ (brow c1).length = 1 := ⟨by decide, rfl, rfl⟩
      have h2 : 0 ≤ (2 : Int) ∧ (List.map brow [c0, c1, c2, c3])[Int.toNat 2]? = some (brow c2) ∧ (brow c2).length = 1 := ⟨by decide, rfl, rfl⟩
      have h3 : 0 ≤ (3 : Int) ∧ (List.map brow [c0, c1, c2, c3])[Int.toNat 3]? = some (brow c3) ∧ (brow c3).length = 1 := ⟨by decide, rfl, rfl⟩
      refine awd ?_
      rw [num4 c0.toNat_lt c1.toNat_lt c2.toNat_lt c3.toNat_lt]
      refine e_ret (H' := rr (rLeft 4 b bad) (rBad 4 b bad)) (rest := []) rfl ⟨?_, rfl⟩ (.of_eq rfl) (Nat.le_of_ble_eq_true rfl)
      simp [ubn]
      rfl
  · first | (exact retN) | (exact retP)
theorem shl_or64 {a c : Nat} (ha : a < 4294967296) (hc : c < 4294967296) : IntKind.u64.wrap (BitVec.ofInt IntKind.u64.bits (IntKind.u64.wrap (IntKind.u64.wrap (a : Int) * 2 ^ min (Int.toNat 32) IntKind.u64.bits)) ||| BitVec.ofInt IntKind.u64.bits (IntKind.u64.wrap (c : Int))).toNat = ((a * 4294967296 + c : Nat) : Int) := by
  rw [u64_of (n := a) (by omega), u64_of (n := c) (by omega)]
  have e : ((a : Int) * 2 ^ min (Int.toNat 32) IntKind.u64.bits) = ((a * 4294967296 : Nat) : Int) := by
    have : min (Int.toNat 32) IntKind.u64.bits = 32 := rfl
    rw [this, Int.natCast_mul]
    have : (2 : Int) ^ 32 = ((4294967296 : Nat) : Int) := by decide
    rw [this]
  rw [e, u64_of (n := a * 4294967296) (by omega), BitVec.toNat_or, ofInt_nat (by omega), ofInt_nat (by omega)]
  have e2 : a * 4294967296 = a <<< 32 := by rw [Nat.shiftLeft_eq]
  rw [e2, ← Nat.shiftLeft_add_eq_or_of_lt (show c < 2 ^ 32 from hc), ← e2]
  exact u64_of (by omega)
def rLong (b : List UInt8) (bad : Bool) : Nat := ubn (rSome 4 b bad) 0 * 4294967296 + ubn (rSome 4 (rLeft 4 b bad) (rBad 4 b bad)) 0
theorem some4_lt (b : List UInt8) (bad : Bool) : ubn (rSome 4 b bad) 0 < 4294967296 := by
  have h := ubn_lt (rSome 4 b bad) 0
  rw [rSome_len 4 b bad (by decide)] at h
  have : (256 : Nat) ^ 4 = 4294967296 := by decide
  omega
theorem rLeft_len (n : Nat) (b : List UInt8) (bad : Bool) : (rLeft n b bad).length ≤ b.length := by
  unfold rLeft; split
  · rw [List.length_drop]; omega
  · simp
theorem refRLong_c (b : List UInt8) (bad : Bool) (h : b.length < 70368744177664) : ACalls Try.prog 114 1 7 [.ptr 0 0] (rr b bad) (fun out H' => out = .ret (.v (.int .u64 (rLong b bad))) ∧ H' = rr (rLeft 4 (rLeft 4 b bad) (rBad 4 b bad)) (rBad 4 (rLeft 4 b bad) (rBad 4 b bad))) := by
  have hl1 := rLeft_len 4 b bad
  refine acalls_of tok dok (f := 114) ⟨Try.func114, rfl, by kernel_rfl⟩ ?_; refine c_start (fun _ h => h) ?_
  refine awd ?_
  refine cal [0] (refRNum_c b bad h) ?_ ?_
  · refine ret1 ?_; first | (refine akc ?_) | (refine aec ?_)
    refine awd ?_
    refine cal [0] (refRNum_c (rLeft 4 b bad) (rBad 4 b bad) (by omega)) ?_ ?_
    · refine ret1 ?_; first | (refine akc ?_) | (refine aec ?_)
      refine awd ?_
      rw [shl_or64 (some4_lt _ _) (some4_lt _ _)]
      exact e_ret (H' := rr (rLeft 4 (rLeft 4 b bad) (rBad 4 b bad)) (rBad 4 (rLeft 4 b bad) (rBad 4 b bad))) (rest := []) rfl ⟨rfl, rfl⟩ (.of_eq rfl) (Nat.le_of_ble_eq_true rfl)
    · first | (exact retN) | (exact retP)
  · first | (exact retN) | (exact retP)
theorem refFrom_c (b : Nat) (hb : b < 18446744073709551616) : ACalls Try.prog 97 0 0 [.v (.int .u64 b)] [] (fun out H' => out = .ret (.v (.float .f64 (canonB b))) ∧ H' = []) := by
  refine acalls_of tok dok (f := 97) ⟨Try.func97, rfl, by kernel_rfl⟩ ?_; refine c_start (fun _ h => h) ?_
  refine awd ?_
  refine cal [] (from_x b) ?_ ?_
  · refine ret1 ?_; first | (refine akc ?_) | (refine aec ?_)
    refine awd ?_
    refine cal [] (refBits_c b hb) ?_ ?_
    · refine ret1 ?_; first | (refine akc ?_) | (refine aec ?_)
      refine awd ?_
      refine cal [] (from_x (canonB b)) ?_ ?_
      · refine ret1 ?_; first | (refine akc ?_) | (refine aec ?_)
        refine awd ?_
        exact e_ret (H' := []) rfl ⟨rfl, rfl⟩ (.refl _) (Nat.le_of_ble_eq_true rfl)
      · first | (exact retN) | (exact retP)
    · first | (exact retN) | (exact retP)
  · first | (exact retN) | (exact retP)
theorem rLong_lt (b : List UInt8) (bad : Bool) : rLong b bad < 18446744073709551616 := by
  have h1 := some4_lt b bad
  have h2 := some4_lt (rLeft 4 b bad) (rBad 4 b bad)
  unfold rLong; omega
theorem some_ok {n : Nat} {b : List UInt8} (h : n ≤ b.length) : rSome n b false = b.take n ∧ rLeft n b false = b.drop n ∧ rBad n b false = false := by
  refine ⟨by unfold rSome; rw [if_pos ⟨rfl, h⟩], by unfold rLeft; rw [if_pos ⟨rfl, h⟩], by unfold rBad; rw [decide_eq_true ⟨rfl, h⟩]; rfl⟩
theorem some_no {n : Nat} {b : List UInt8} (h : b.length < n) : rLeft n b false = [] ∧ rBad n b false = true := by
  refine ⟨by unfold rLeft; rw [if_neg (by omega)], by unfold rBad; rw [decide_eq_false (by omega)]; rfl⟩
theorem bad_no {n : Nat} {b : List UInt8} : rLeft n b true = [] ∧ rBad n b true = true := by
  refine ⟨by unfold rLeft; rw [if_neg (by simp)], by unfold rBad; rw [decide_eq_false (by simp)]; rfl⟩
theorem ubn_two (b : List UInt8) (h : 8 ≤ b.length) : ubn (b.take 4) 0 * 4294967296 + ubn ((b.drop 4).take 4) 0 = ubn (b.take 8) 0 := by
  have e : b.take 8 = b.take 4 ++ (b.drop 4).take 4 := by rw [← List.take_add]
  have k : ∀ (l : List UInt8) (a : Nat), ubn l a = a * 256 ^ l.length + ubn l 0 := by
    intro l
    induction l with
    | nil => intro a; simp [ubn]
    | cons c l ih =>
      intro a
      rw [ubn, ubn, ih (a * 256 + c.toNat), ih (0 * 256 + c.toNat), List.length_cons, Nat.pow_succ, Nat.mul_comm (256 ^ l.length) 256, ← Nat.mul_assoc, Nat.add_mul, Nat.add_mul]
      omega
  rw [e, ubn_app, k ((b.drop 4).take 4) (ubn (b.take 4) 0)]
  have h4 : ((b.drop 4).take 4).length = 4 := by rw [List.length_take, List.length_drop]; omega
  rw [h4]
theorem long_ok {b : List UInt8} (h : 8 ≤ b.length) : rLong b false = ubn (b.take 8) 0 ∧ rLeft 4 (rLeft 4 b false) (rBad 4 b false) = b.drop 8 ∧ rBad 4 (rLeft 4 b false) (rBad 4 b false) = false := by
  obtain ⟨a1, a2, a3⟩ := some_ok (n := 4) (b := b) (by omega)
  have hl : 4 ≤ (b.drop 4).length := by rw [List.length_drop]; omega
  obtain ⟨c1, c2, c3⟩ := some_ok (n := 4) (b := b.drop 4) hl
  unfold rLong
  rw [a2, a3, a1, c1, c2, c3, ubn_two b h, List.drop_drop]
  exact ⟨rfl, rfl, rfl⟩
theorem long_no {b : List UInt8} (h : b.length < 8) : rLeft 4 (rLeft 4 b false) (rBad 4 b false) = [] ∧ rBad 4 (rLeft 4 b false) (rBad 4 b false) = true := by
  by_cases h4 : 4 ≤ b.length
  · obtain ⟨a1, a2, a3⟩ := some_ok (n := 4) (b := b) h4
    rw [a2, a3]
    exact some_no (by rw [List.length_drop]; omega)
  · obtain ⟨a2, a3⟩ := some_no (n := 4) (b := b) (by omega)
    rw [a2, a3]
    exact bad_no
theorem refRFloat_c (b : List UInt8) (h : b.length < 70368744177664) : ACalls Try.prog 102 1 8 [.ptr 0 0] (rr b false) (fun out H' => (fOk b ∧ out = .ret (.v (.float .f64 (ubn (b.take 8) 0))) ∧ H' = rr (b.drop 8) false) ∨ (¬ fOk b ∧ (∃ x, out = .ret (.v (.float .f64 x))) ∧ H' = rr [] true)) := by
  have hlt := rLong_lt b false
  refine acalls_of tok dok (f := 102) ⟨Try.func102, rfl, by kernel_rfl⟩ ?_; refine c_start (fun _ h => h) ?_
  refine awd ?_
  refine cal [0] (refRLong_c b false h) ?_ ?_
  · refine ret1 ?_; first | (refine akc ?_) | (refine aec ?_)
    refine awd ?_
    refine cal [] (refFrom_c (rLong b false) hlt) ?_ ?_
    · refine ret1 ?_; first | (refine akc ?_) | (refine aec ?_)
      refine awd ?_
      refine cal [] (refBits_c (canonB (rLong b false)) (by unfold canonB; split <;> omega)) ?_ ?_
      · refine ret1 ?_; first | (refine akc ?_) | (refine aec ?_)
        rw [canon2]
        refine awd ?_
        ((with_reducible refine is_cond ?_); refine c_cond rfl (fun hc => ?_) (fun hc => ?_))
        · refine awd ?_
          have hn : ¬ fOk b := fun hf => by
            obtain ⟨e1, e2, e3⟩ := long_ok hf.1
            rw [e1] at hc
            have := hf.2
            simp at hc; omega
          refine cal [0] (refFail_c _ _) ?_ ?_
          · refine ret1 ?_; first | (refine akc ?_) | (refine aec ?_)
            refine awd ?_
            exact e_ret (H' := rr [] true) (rest := []) rfl (.inr ⟨hn, ⟨_, rfl⟩, rfl⟩) (.of_eq rfl) (Nat.le_of_ble_eq_true rfl)
          · first | (exact retN) | (exact retP)
        · refine awd ?_
          by_cases h8 : 8 ≤ b.length
          · obtain ⟨e1, e2, e3⟩ := long_ok h8
            have hcc : canonB (ubn (b.take 8) 0) = ubn (b.take 8) 0 := by rw [e1] at hc; simp at hc; omega
            rw [e1, e2, e3, hcc]
            exact e_ret (H' := rr (b.drop 8) false) (rest := []) rfl (.inl ⟨⟨h8, hcc⟩, rfl, rfl⟩) (.of_eq rfl) (Nat.le_of_ble_eq_true rfl)
          · obtain ⟨e2, e3⟩ := long_no (b := b) (by omega)
            rw [e2, e3]
            exact e_ret (H' := rr [] true) (rest := []) rfl (.inr ⟨fun hf => h8 hf.1, ⟨_, rfl⟩, rfl⟩) (.of_eq rfl) (Nat.le_of_ble_eq_true rfl)
      · first | (exact retN) | (exact retP)
    · first | (exact retN) | (exact retP)
  · first | (exact retN) | (exact retP)
set_option maxRecDepth 100000 in
set_option maxHeartbeats 1600000 in
theorem refRText_c (b : List UInt8) (most : Int) (h : b.length < 70368744177664) : ACalls Try.prog 95 1 8 [.ptr 0 0, .v (.int .i64 most)] (rr b false) (fun out H' => (tOk b most ∧ out = .ret (.list (((b.drop 4).take (ubn (b.take 4) 0)).map brow) .free) ∧ H' = rr ((b.drop 4).drop (ubn (b.take 4) 0)) false) ∨ (¬ tOk b most ∧ (∃ x, out = .ret (.list x .free)) ∧ H' = rr [] true)) := by
  have hlt := some4_lt b false
  by_cases h4 : 4 ≤ b.length
  · have hC := refRNum_c b false h
    obtain ⟨e1, e2, e3⟩ := some_ok h4
    rw [e1] at hlt
    rw [e1, e2, e3] at hC
    generalize hn : ubn (b.take 4) 0 = n at *
    refine acalls_of tok dok (f := 95) ⟨Try.func95, rfl, by kernel_rfl⟩ ?_; refine c_start (fun _ h => h) ?_
    refine awd ?_
    refine cal [0] (hC) ?_ ?_
    · refine ret1 ?_; first | (refine akc ?_) | (refine aec ?_)
      refine awd ?_
      rw [show IntKind.i64.wrap (n : Int) = n from w64 (by omega) (by omega)]
      repeat' (first | (refine awd1 ?_) | (((with_reducible refine is_aops ?_); refine o_split rfl rfl rfl (fun hc => ?_) (fun hc => ?_) <;> rw [hc])) | (((with_reducible refine is_cond ?_); refine c_cond rfl (fun hc => ?_) (fun hc => ?_))) | (((with_reducible refine is_aop ?_); refine a_pick rfl rfl (fun hc => ?_) (fun hc => ?_) <;> rw [hc])) | fail)
      · have hf : ¬ tOk b most := by
          rintro ⟨_, k2, k3, k4⟩
          rw [hn] at k2 k3 k4
          simp at *
          omega
        refine cal [0] (refFail_c (b.drop 4) false) ?_ ?_
        · refine ret1 ?_; first | (refine akc ?_) | (refine aec ?_)
          refine awd ?_
          exact e_ret_to (H' := rr [] true) (rest := []) (.freeSlot 4 rfl) rfl (.inr ⟨hf, ⟨_, rfl⟩, rfl⟩) (.of_eq rfl) (Nat.le_of_ble_eq_true rfl)
        · first | (exact retN) | (exact retP)
      · have hf : ¬ tOk b most := by
          rintro ⟨_, k2, k3, k4⟩
          rw [hn] at k2 k3 k4
          simp at *
          omega
        refine cal [0] (refFail_c (b.drop 4) false) ?_ ?_
        · refine ret1 ?_; first | (refine akc ?_) | (refine aec ?_)
          refine awd ?_
          exact e_ret_to (H' := rr [] true) (rest := []) (.freeSlot 4 rfl) rfl (.inr ⟨hf, ⟨_, rfl⟩, rfl⟩) (.of_eq rfl) (Nat.le_of_ble_eq_true rfl)
        · first | (exact retN) | (exact retP)
      · have hf : ¬ tOk b most := by
          rintro ⟨_, k2, k3, k4⟩
          rw [hn] at k2 k3 k4
          simp at *
          omega
        refine cal [0] (refFail_c (b.drop 4) false) ?_ ?_
        · refine ret1 ?_; first | (refine akc ?_) | (refine aec ?_)
          refine awd ?_
          exact e_ret_to (H' := rr [] true) (rest := []) (.freeSlot 4 rfl) rfl (.inr ⟨hf, ⟨_, rfl⟩, rfl⟩) (.of_eq rfl) (Nat.le_of_ble_eq_true rfl)
        · first | (exact retN) | (exact retP)
      · have hf : tOk b most := by
          refine ⟨h4, ?_, ?_, ?_⟩ <;> (rw [hn]; simp at *; omega)
        have hle : n ≤ (b.drop 4).length := by
          have := hf.2.2.2
          rwa [hn] at this
        have hdl : (b.drop 4).length ≤ b.length := by rw [List.length_drop]; omega
        have htl : ((b.drop 4).take n).length = n := by rw [List.length_take]; omega
        generalize b.drop 4 = c at *
        (with_reducible refine is_aop ?_); first | (refine a_qS rfl (fun _ h => h) ?_ ?_) | (refine a_qS rfl (qIx (fun _ h => h)) ?_ ?_) | (refine a_qS rfl (qAnd5 (fun _ h => h)) ?_ ?_) | (refine a_qS rfl (qStr (fun _ h => h)) ?_ ?_) | (refine a_qS rfl (qAnd4 (fun _ h => h)) ?_ ?_) | (refine a_qS rfl (qAnd2 (fun _ h => h)) ?_ ?_)
        · refine ⟨trivial, Int.natCast_nonneg n, Nat.zero_le _, ?_, brows c⟩
          simpa using hle
        refine k_as (.list ((c.take n).map brow) .free) (by simp [List.map_take, orFull, isFull, isNone]) ?_
        refine awd ?_
        (with_reducible refine is_aop ?_); first | (refine a_qS rfl (fun _ h => h) ?_ ?_) | (refine a_qS rfl (qIx (fun _ h => h)) ?_ ?_) | (refine a_qS rfl (qAnd5 (fun _ h => h)) ?_ ?_) | (refine a_qS rfl (qStr (fun _ h => h)) ?_ ?_) | (refine a_qS rfl (qAnd4 (fun _ h => h)) ?_ ?_) | (refine a_qS rfl (qAnd2 (fun _ h => h)) ?_ ?_)
        · refine ⟨Int.natCast_nonneg n, trivial, ?_, Nat.le_refl _, brows c⟩
          simpa using hle
        refine k_as (.list ((c.drop n).map brow) .free) (by rw [Int.toNat_natCast, List.take_of_length_le (Nat.le_refl _), List.map_drop]) ?_
        refine awd ?_
        exact e_ret_to (H' := rr (c.drop n) false) (rest := [_]) (.freeSlot 4 rfl) rfl (.inl ⟨hf, rfl, rfl⟩) (.swap _ _ _) (Nat.le_of_ble_eq_true rfl)
      · have hf : ¬ tOk b most := by
          rintro ⟨_, k2, k3, k4⟩
          rw [hn] at k2 k3 k4
          simp at *
          omega
        refine cal [0] (refFail_c (b.drop 4) false) ?_ ?_
        · refine ret1 ?_; first | (refine akc ?_) | (refine aec ?_)
          refine awd ?_
          exact e_ret_to (H' := rr [] true) (rest := []) (.freeSlot 4 rfl) rfl (.inr ⟨hf, ⟨_, rfl⟩, rfl⟩) (.of_eq rfl) (Nat.le_of_ble_eq_true rfl)
        · first | (exact retN) | (exact retP)
      · have hf : tOk b most := by
          refine ⟨h4, ?_, ?_, ?_⟩ <;> (rw [hn]; simp at *; omega)
        have hle : n ≤ (b.drop 4).length := by
          have := hf.2.2.2
          rwa [hn] at this
        have hdl : (b.drop 4).length ≤ b.length := by rw [List.length_drop]; omega
        have htl : ((b.drop 4).take n).length = n := by rw [List.length_take]; omega
        generalize b.drop 4 = c at *
        (with_reducible refine is_aop ?_); first | (refine a_qS rfl (fun _ h => h) ?_ ?_) | (refine a_qS rfl (qIx (fun _ h => h)) ?_ ?_) | (refine a_qS rfl (qAnd5 (fun _ h => h)) ?_ ?_) | (refine a_qS rfl (qStr (fun _ h => h)) ?_ ?_) | (refine a_qS rfl (qAnd4 (fun _ h => h)) ?_ ?_) | (refine a_qS rfl (qAnd2 (fun _ h => h)) ?_ ?_)
        · refine ⟨trivial, Int.natCast_nonneg n, Nat.zero_le _, ?_, brows c⟩
          simpa using hle
        refine k_as (.list ((c.take n).map brow) .free) (by simp [List.map_take, orFull, isFull, isNone]) ?_
        refine awd ?_
        (with_reducible refine is_aop ?_); first | (refine a_qS rfl (fun _ h => h) ?_ ?_) | (refine a_qS rfl (qIx (fun _ h => h)) ?_ ?_) | (refine a_qS rfl (qAnd5 (fun _ h => h)) ?_ ?_) | (refine a_qS rfl (qStr (fun _ h => h)) ?_ ?_) | (refine a_qS rfl (qAnd4 (fun _ h => h)) ?_ ?_) | (refine a_qS rfl (qAnd2 (fun _ h => h)) ?_ ?_)
        · refine ⟨Int.natCast_nonneg n, trivial, ?_, Nat.le_refl _, brows c⟩
          simpa using hle
        refine k_as (.list ((c.drop n).map brow) .free) (by rw [Int.toNat_natCast, List.take_of_length_le (Nat.le_refl _), List.map_drop]) ?_
        refine awd ?_
        exact e_ret_to (H' := rr (c.drop n) false) (rest := [_]) (.freeSlot 4 rfl) rfl (.inl ⟨hf, rfl, rfl⟩) (.swap _ _ _) (Nat.le_of_ble_eq_true rfl)
    · first | (exact retN) | (exact retP)
  · have hC := refRNum_c b false h
    obtain ⟨e2, e3⟩ := some_no (n := 4) (b := b) (by omega)
    rw [e2, e3] at hC
    have hf : ¬ tOk b most := fun hf => h4 hf.1
    refine acalls_of tok dok (f := 95) ⟨Try.func95, rfl, by kernel_rfl⟩ ?_; refine c_start (fun _ h => h) ?_
    refine awd ?_
    refine cal [0] (hC) ?_ ?_
    · refine ret1 ?_; first | (refine akc ?_) | (refine aec ?_)
      refine awd ?_
      refine cal [0] (refFail_c [] true) ?_ ?_
      · refine ret1 ?_; first | (refine akc ?_) | (refine aec ?_)
        refine awd ?_
        exact e_ret_to (H' := rr [] true) (rest := []) (.freeSlot 4 rfl) rfl (.inr ⟨hf, ⟨_, rfl⟩, rfl⟩) (.of_eq rfl) (Nat.le_of_ble_eq_true rfl)
      · first | (exact retN) | (exact retP)
    · first | (exact retN) | (exact retP)
theorem refWhole_c (b : List UInt8) (bad : Bool) : ACalls Try.prog 69 1 1 [.ptr 0 0] (rr b bad) (fun out H' => out = .ret (.v (.bool (!bad && decide (((b.map brow).length : Int) = 0)))) ∧ H' = rr b bad) := by
  refine acalls_of tok dok (f := 69) ⟨Try.func69, rfl, by kernel_rfl⟩ ?_; refine c_start (fun _ h => h) ?_
  cases bad
  · refine awd ?_
    exact e_ret (H' := rr b false) (rest := []) rfl ⟨rfl, rfl⟩ (.of_eq rfl) (Nat.le_of_ble_eq_true rfl)
  · refine awd ?_
    exact e_ret (H' := rr b true) (rest := []) rfl ⟨rfl, rfl⟩ (.of_eq rfl) (Nat.le_of_ble_eq_true rfl)
end Go.Proofs.Ytdfnepbhgifkkaa
