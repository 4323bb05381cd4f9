/- The writer of octets, by contracts. -/
import Derived.Test.YtabhfccfohpkaaaAmT
import Derived.Test.YtabhfccfohpkaaaAmTc
namespace Go.Proofs.Ytabhfccfohpkaaa
open Go.Am
set_option linter.unusedSimpArgs false
set_option linter.unusedVariables false

def wr (l : List UInt8) : Heap := [(0, .box [.list (l.map brow) (.tok 1)]), (1, .tok 1 (l.map brow).length)]
theorem byte_c (l : List UInt8) (b : UInt8) (h : l.length < 1073741824) : ACalls Try.prog 62 2 2 [.ptr 0 0, .v (.int .u8 b.toNat)] (wr l) (fun out H' => out = .ret (.tuple []) ∧ H' = wr (l ++ [b])) := by
  refine no_implicit_lambda% (acalls_of tok dok (f := 62) ⟨Try.func62, rfl, by kernel_rfl⟩ ?_); refine no_implicit_lambda% (c_start (fun _ h => h) ?_)
  refine no_implicit_lambda% (awd ?_)
  refine e_ret (H' := wr (l ++ [b])) (rest := []) rfl ⟨rfl, rfl⟩ (.of_eq (by simp [wr, brow])) (Nat.le_of_ble_eq_true rfl)
/-- the low n octets of x, the highest first -/
def be (x : Nat) : Nat → List UInt8
  | 0 => []
  | n + 1 => UInt8.ofNat (x >>> (8 * n)) :: be x n
theorem cons_eq {α : Type} {a b : α} {l m : List α} (h : a = b) (k : l = m) : a :: l = b :: m := by rw [h, k]
theorem be_len (x : Nat) : ∀ n, (be x n).length = n
  | 0 => rfl
  | n + 1 => by simp [be, be_len x n]
theorem w64 {n : Int} (h1 : -9223372036854775808 ≤ n) (h2 : n ≤ 9223372036854775807) : IntKind.i64.wrap n = n := by rw [IntKind.wrap_i64]; omega
theorem z64 {n : Int} (h1 : -9223372036854775808 ≤ n) (h2 : n ≤ 9223372036854775807) : IntKind.i64.wrap n = n := by rw [IntKind.wrap_i64]; omega
theorem i64n {x : Nat} (h : x < 4294967296) : IntKind.i64.wrap (x : Int) = (x : Int) := by rw [IntKind.wrap_i64]; omega
theorem oct_at (x j : Nat) (hj : j < 8) : IntKind.u8.wrap ((x : Int).fdiv (2 ^ min (IntKind.i64.wrap (8 * (((j + 1 : Nat) : Int) - 1))).toNat IntKind.u64.bits)) = ((UInt8.ofNat (x >>> (8 * j))).toNat : Int) := by
  rw [w64 (by omega) (by omega)]
  have e : (8 * (((j + 1 : Nat) : Int) - 1)).toNat = 8 * j := by omega
  have e2 : min (8 * j) IntKind.u64.bits = 8 * j := Nat.min_eq_left (by show 8 * j ≤ 64; omega)
  rw [e, e2, IntKind.wrap_u8, UInt8.toNat_ofNat', Nat.shiftRight_eq_div_pow, Int.fdiv_eq_ediv_of_nonneg _ (Int.le_of_lt (Int.pow_pos (by decide)))]
  simp
def laySt (l : List UInt8) (x n : Nat) (b : List UInt8) (i : Nat) : ASt :=
  ⟨[.ptr 0 0, .v (.int .u64 x), .v (.int .i64 n), .dead, .dead, .dead, .v (.int .i64 ((i : Int) - 1)), .dead, .dead, .dead, .dead, .dead, .dead, .dead, .dead, .dead, .dead, .dead, .dead, .dead, .dead, .dead, .dead, .dead, .dead, .dead, .dead], wr (l ++ b), 2⟩
theorem lay_c (l : List UInt8) (x n : Nat) (hx : x < 18446744073709551616) (hn : n ≤ 8) (h : l.length < 1073741824) : ACalls Try.prog 108 2 2 [.ptr 0 0, .v (.int .u64 x), .v (.int .i64 n)] (wr l) (fun out H' => out = .ret (.tuple []) ∧ H' = wr (l ++ be x n)) := by
  refine no_implicit_lambda% (acalls_of tok dok (f := 108) ⟨Try.func108, rfl, by kernel_rfl⟩ ?_); refine no_implicit_lambda% (c_start (fun _ h => h) ?_)
  refine no_implicit_lambda% (awd ?_)
  refine c_loop2 (laySt l x n) (fun b i => i ≤ n ∧ b ++ be x i = be x n) (fun _ i => i) [] n ⟨Nat.le_refl _, rfl⟩ (.to [] ?_ (.of_eq (by simp [laySt])) (Nat.le_refl _)) ?_
  · unfold laySt
    repeat' (first | (with_reducible exact .nil) | (refine no_implicit_lambda% (.cons ?_ ?_)) | (exact Wk.dead _) | (with_reducible exact Wk.refl _) | (exact WkL.nil))
    refine .int (w64 ?_ ?_) <;> omega
  rintro b i ⟨h1, h2⟩
  have hl := congrArg List.length h2
  rw [List.length_append, be_len, be_len] at hl
  refine no_implicit_lambda% (c_turn (fun _ h => h) (fun _ h => h) rfl ?_)
  refine no_implicit_lambda% (awd ?_)
  ((with_reducible refine no_implicit_lambda% (is_cond ?_)); refine no_implicit_lambda% (c_cond rfl (fun hc => ?_) (fun hc => ?_)))
  · refine no_implicit_lambda% (awd ?_)
    (with_reducible refine no_implicit_lambda% (is_ev ?_)); first | (refine no_implicit_lambda% (v_qS rfl rfl rfl rfl (fun _ h => h) (fun _ h => h) ?_ ?_)) | (refine no_implicit_lambda% (v_qS rfl rfl rfl rfl (qIx (fun _ h => h)) (fun _ h => h) ?_ ?_)) | (refine no_implicit_lambda% (v_qS rfl rfl rfl rfl (qAnd5 (fun _ h => h)) (fun _ h => h) ?_ ?_)) | (refine no_implicit_lambda% (v_qS rfl rfl rfl rfl (qStr (fun _ h => h)) (fun _ h => h) ?_ ?_))
    · rw [w64 (by omega) (by omega)]; simp at hc; omega
    refine no_implicit_lambda% (awd ?_)
    obtain ⟨j, rfl⟩ : ∃ j, i = j + 1 := ⟨i - 1, by simp at hc; omega⟩
    refine k_loop (b ++ [UInt8.ofNat (x >>> (8 * j))], j) ⟨by omega, by rw [← h2]; simp [be]⟩ (Nat.lt_succ_self j) (.to [] ?_ (.of_eq ?_) (Nat.le_refl _))
    · unfold laySt
      repeat' (first | (with_reducible exact .nil) | (refine no_implicit_lambda% (.cons ?_ ?_)) | (exact Wk.dead _) | (with_reducible exact Wk.refl _) | (exact WkL.nil))
      exact .int (by rw [w64 (by omega) (by omega)]; simp)
    · simp only [List.append_nil]
      refine cons_eq ?_ ?_
      · rw [oct_at x j (by omega)]; simp [brow]
      · simp [Nat.add_assoc]
  · refine no_implicit_lambda% (awd ?_)
    simp at hc
    obtain rfl : i = 0 := by omega
    refine e_ret (H' := wr (l ++ be x n)) (rest := []) rfl ⟨rfl, rfl⟩ (.of_eq (by rw [← h2]; simp [wr, be])) (Nat.le_refl _)
theorem num_c (l : List UInt8) (x : Nat) (hx : x < 4294967296) (h : l.length < 1073741824) : ACalls Try.prog 63 2 2 [.ptr 0 0, .v (.int .u32 x)] (wr l) (fun out H' => out = .ret (.tuple []) ∧ H' = wr (l ++ be x 4)) := by
  refine no_implicit_lambda% (acalls_of tok dok (f := 63) ⟨Try.func63, rfl, by kernel_rfl⟩ ?_); refine no_implicit_lambda% (c_start (fun _ h => h) ?_)
  refine no_implicit_lambda% (awd ?_)
  rw [show IntKind.u64.wrap (x : Int) = x by rw [IntKind.wrap_u64]; omega]
  refine no_implicit_lambda% (cal [0, 1] (lay_c l x 4 (by omega) (by omega) h) ?_ ?_)
  · refine no_implicit_lambda% (ret1 ?_); first | (refine no_implicit_lambda% (akc ?_)) | (refine no_implicit_lambda% (aec ?_))
    refine no_implicit_lambda% (awd ?_)
    refine e_ret (H' := wr (l ++ be x 4)) (rest := []) rfl ⟨rfl, rfl⟩ (.of_eq rfl) (Nat.le_of_ble_eq_true rfl)
  · first | (exact retN) | (exact retP)
theorem text_c (l s : List UInt8) (hs : s.length < 9223372036854775807) (h : l.length < 1000000000) : ACalls Try.prog 71 2 2 [.ptr 0 0, .list (s.map brow) .free] (wr l) (fun out H' => out = .ret (.v (.bool (decide (s.length ≤ 1048576)))) ∧ H' = wr (if s.length ≤ 1048576 then l ++ (be s.length 4 ++ s) else l)) := by
  refine no_implicit_lambda% (acalls_of tok dok (f := 71) ⟨Try.func71, rfl, by kernel_rfl⟩ ?_); refine no_implicit_lambda% (c_start (fun _ h => h) ?_)
  refine no_implicit_lambda% (awd ?_)
  ((with_reducible refine no_implicit_lambda% (is_cond ?_)); refine no_implicit_lambda% (c_cond rfl (fun hc => ?_) (fun hc => ?_)))
  · refine no_implicit_lambda% (awd ?_)
    simp only [List.length_map, gt_iff_lt, decide_eq_true_eq] at hc
    have hn : ¬ s.length ≤ 1048576 := by omega
    refine e_ret (H' := wr l) (rest := []) rfl ⟨?_, ?_⟩ (.of_eq rfl) (Nat.le_of_ble_eq_true rfl)
    · simp [hn]; rfl
    · simp [hn]
  · refine no_implicit_lambda% (awd ?_)
    simp only [List.length_map, gt_iff_lt, decide_eq_false_iff_not] at hc
    have hn : s.length ≤ 1048576 := by omega
    rw [show IntKind.u32.wrap ((s.map brow).length : Int) = s.length by rw [IntKind.wrap_u32, List.length_map]; omega]
    refine no_implicit_lambda% (cal [0, 1] (num_c l s.length (by omega) (by omega)) ?_ ?_)
    · refine no_implicit_lambda% (ret1 ?_); first | (refine no_implicit_lambda% (akc ?_)) | (refine no_implicit_lambda% (aec ?_))
      have hbl := be_len s.length 4
      refine no_implicit_lambda% (awd ?_)
      refine e_ret (H' := wr (l ++ (be s.length 4 ++ s))) (rest := []) rfl ⟨?_, ?_⟩ (.of_eq ?_) (Nat.le_of_ble_eq_true rfl)
      · simp [hn]; rfl
      · simp [hn]
      · simp [wr, rn, Nat.add_assoc]
    · first | (exact retN) | (exact retP)
theorem new_c : ACalls Try.prog 61 0 2 [] [] (fun out H' => out = .ret (.ptr 0 0) ∧ H' = wr []) := by
  refine no_implicit_lambda% (acalls_of tok dok (f := 61) ⟨Try.func61, rfl, by kernel_rfl⟩ ?_); refine no_implicit_lambda% (c_start (fun _ h => h) ?_)
  refine no_implicit_lambda% (awd ?_)
  refine e_ret_to (H' := wr []) (rest := []) ((Conv.tokBox (id := 0) (j := 0) (sz := 1) (rows := []) rfl rfl (by simp)).trans (.drop (n' := 2) (H := wr []) (rest := []) (.swap _ _ _) (by decide))) rfl ⟨rfl, rfl⟩ (.of_eq rfl) (Nat.le_of_ble_eq_true rfl)
theorem clone_c (rows : List (List AV)) (hr : ∀ row ∈ rows, row.length = 1) (h : rows.length < 70368744177664) : ACalls Try.prog 60 0 1 [.list rows .free] [] (fun out H' => out = .ret (.list rows .free) ∧ H' = []) := by
  refine no_implicit_lambda% (acalls_of tok dok (f := 60) ⟨Try.func60, rfl, by kernel_rfl⟩ ?_); refine no_implicit_lambda% (c_start (fun _ h => h) ?_)
  refine no_implicit_lambda% (awd ?_)
  (with_reducible refine no_implicit_lambda% (is_aop ?_)); refine no_implicit_lambda% (a_nilq rfl rfl rfl (fun _ h => h) (fun _ h => h) (fun hl => ?_) ?_)
  · refine no_implicit_lambda% (awd ?_)
    subst hl
    exact e_ret_to (H' := []) (.freeSlot 2 rfl) rfl ⟨rfl, rfl⟩ (.refl _) (Nat.le_of_ble_eq_true rfl)
  · refine no_implicit_lambda% (awd ?_)
    exact e_ret_to (H' := []) (.freeSlot 2 rfl) rfl ⟨rfl, rfl⟩ (.refl _) (Nat.le_of_ble_eq_true rfl)
theorem brows (l : List UInt8) : ∀ row ∈ l.map brow, row.length = 1 := fun row h => by obtain ⟨_, _, rfl⟩ := List.mem_map.1 h; rfl
theorem done_c (l : List UInt8) (h : l.length < 1073741824) : ACalls Try.prog 65 2 3 [.ptr 0 0] (wr l) (fun out H' => out = .ret (.list (l.map brow) .free) ∧ H' = []) := by
  refine no_implicit_lambda% (acalls_of tok dok (f := 65) ⟨Try.func65, rfl, by kernel_rfl⟩ ?_); refine no_implicit_lambda% (c_start (fun _ h => h) ?_)
  refine no_implicit_lambda% (awd ?_)
  refine no_implicit_lambda% (calw [] (clone_c (l.map brow) (brows l) (by simp; omega)) ?_ ?_)
  · refine no_implicit_lambda% (ret1 ?_); first | (refine no_implicit_lambda% (akc ?_)) | (refine no_implicit_lambda% (aec ?_))
    refine no_implicit_lambda% (awd ?_)
    refine e_ret (H' := []) rfl ⟨rfl, rfl⟩ (.refl _) (Nat.le_of_ble_eq_true rfl)
  · first | (exact retN) | (exact retP)
/-- is it no number? -/
def nanB (b : Nat) : Bool := FloatKind.f64.format.order b b != some .eq
def canonB (b : Nat) : Nat := if nanB b then 9221120237041090561 else b
theorem bits_x (b : Nat) : ACalls Try.prog 119 0 0 [.v (.float .f64 b)] [] (fun out H' => out = .ret (.v (.int .u64 b)) ∧ H' = []) :=
  ext_c (fn := Try.f119) (e := Extern.MathFloatBits.float64bits) (by kernel_rfl) (by kernel_rfl) rfl (by kernel_rfl) (by kernel_rfl) fun w => rfl
theorem from_x (n : Int) : ACalls Try.prog 84 0 0 [.v (.int .u64 n)] [] (fun out H' => out = .ret (.v (.float .f64 n.toNat)) ∧ H' = []) :=
  ext_c (fn := Try.f84) (e := Extern.MathFloatBits.float64frombits) (by kernel_rfl) (by kernel_rfl) rfl (by kernel_rfl) (by kernel_rfl) fun w => rfl
theorem isNaN_c (b : Nat) : ACalls Try.prog 123 0 0 [.v (.float .f64 b)] [] (fun out H' => out = .ret (.v (.bool (nanB b))) ∧ H' = []) := by
  refine no_implicit_lambda% (acalls_of tok dok (f := 123) ⟨Try.func123, rfl, by kernel_rfl⟩ ?_); refine no_implicit_lambda% (c_start (fun _ h => h) ?_)
  refine no_implicit_lambda% (awd ?_)
  exact e_ret (H' := []) rfl ⟨rfl, rfl⟩ (.refl _) (Nat.le_of_ble_eq_true rfl)
theorem canon_c (b : Nat) : ACalls Try.prog 93 0 0 [.v (.float .f64 b)] [] (fun out H' => out = .ret (.v (.float .f64 (canonB b))) ∧ H' = []) := by
  refine no_implicit_lambda% (acalls_of tok dok (f := 93) ⟨Try.func93, rfl, by kernel_rfl⟩ ?_); refine no_implicit_lambda% (c_start (fun _ h => h) ?_)
  refine no_implicit_lambda% (awd ?_)
  refine no_implicit_lambda% (cal [] (isNaN_c b) ?_ ?_)
  · refine no_implicit_lambda% (ret1 ?_); first | (refine no_implicit_lambda% (akc ?_)) | (refine no_implicit_lambda% (aec ?_))
    refine no_implicit_lambda% (awd ?_)
    ((with_reducible refine no_implicit_lambda% (is_cond ?_)); refine no_implicit_lambda% (c_cond rfl (fun hc => ?_) (fun hc => ?_)))
    · refine no_implicit_lambda% (awd ?_)
      refine no_implicit_lambda% (cal [] (from_x 9221120237041090561) ?_ ?_)
      · refine no_implicit_lambda% (ret1 ?_); first | (refine no_implicit_lambda% (akc ?_)) | (refine no_implicit_lambda% (aec ?_))
        refine no_implicit_lambda% (awd ?_)
        exact e_ret (H' := []) rfl ⟨by simp [canonB, hc]; rfl, rfl⟩ (.refl _) (Nat.le_of_ble_eq_true rfl)
      · first | (exact retN) | (exact retP)
    · refine no_implicit_lambda% (awd ?_)
      exact e_ret (H' := []) rfl ⟨by simp [canonB, hc]; rfl, rfl⟩ (.refl _) (Nat.le_of_ble_eq_true rfl)
  · first | (exact retN) | (exact retP)
theorem bits_c (b : Nat) : ACalls Try.prog 146 0 0 [.v (.float .f64 b)] [] (fun out H' => out = .ret (.v (.int .u64 (canonB b))) ∧ H' = []) := by
  refine no_implicit_lambda% (acalls_of tok dok (f := 146) ⟨Try.func146, rfl, by kernel_rfl⟩ ?_); refine no_implicit_lambda% (c_start (fun _ h => h) ?_)
  refine no_implicit_lambda% (awd ?_)
  refine no_implicit_lambda% (cal [] (canon_c b) ?_ ?_)
  · refine no_implicit_lambda% (ret1 ?_); first | (refine no_implicit_lambda% (akc ?_)) | (refine no_implicit_lambda% (aec ?_))
    refine no_implicit_lambda% (awd ?_)
    refine no_implicit_lambda% (cal [] (bits_x (canonB b)) ?_ ?_)
    · refine no_implicit_lambda% (ret1 ?_); first | (refine no_implicit_lambda% (akc ?_)) | (refine no_implicit_lambda% (aec ?_))
      refine no_implicit_lambda% (awd ?_)
      exact e_ret (H' := []) rfl ⟨rfl, rfl⟩ (.refl _) (Nat.le_of_ble_eq_true rfl)
    · first | (exact retN) | (exact retP)
  · first | (exact retN) | (exact retP)
end Go.Proofs.Ytabhfccfohpkaaa
