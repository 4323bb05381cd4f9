/- Values (chapter 3): what they are made of, by contracts. -/
import Derived.Test.YtdfnepbhgifkkaaOcA
import Derived.Lib.BytesEntry
import Derived.Lib.Bytealg
namespace Go.Proofs.Ytdfnepbhgifkkaa
open Go.Am
set_option linter.unusedSimpArgs false
set_option linter.unusedVariables false
theorem qFallV {P : Program} {X : (AV → Prop) → Prop} {op : BinOp} {t : TypeId} {x y : Operand} {a b : Value} (v : Value) (h : ∀ K : AV → Prop, fallB P op t x y (some a) (some b) (fun z => fv z K) → X K) (hv : ∀ w, (do eqGuard op t x y a b; binOp op t a b : Sem Value).run P w = .ok v w) : ∀ K : AV → Prop, K (.ofValue v) → X K := fun K hK => h K ⟨v, hv, by show fv (.ofValue v) K; rw [fv_eq]; exact hK⟩
theorem z64 {n : Int} (h1 : -9223372036854775808 ≤ n) (h2 : n ≤ 9223372036854775807) : IntKind.i64.wrap n = n := by rw [IntKind.wrap_i64]; omega
/-- a number brought within bounds -/
def wthn (n lo hi : Int) : Int := if lo ≤ n ∧ n ≤ hi then n else lo + (if n.tmod (hi - lo + 1) < 0 then n.tmod (hi - lo + 1) + (hi - lo + 1) else n.tmod (hi - lo + 1))
theorem wthn_bd (n lo hi : Int) (h : lo ≤ hi) : lo ≤ wthn n lo hi ∧ wthn n lo hi ≤ hi := by
  unfold wthn
  split
  · omega
  · have h1 := Int.tmod_lt_of_pos n (b := hi - lo + 1) (by omega)
    have h2 := Int.lt_tmod_of_pos n (b := hi - lo + 1) (by omega)
    split <;> omega
theorem wthn_c (n lo hi : Int) (hn1 : -9223372036854775808 ≤ n) (hn2 : n ≤ 9223372036854775807) (h0 : -4611686018427387904 ≤ lo) (h : lo ≤ hi) (h2 : hi ≤ 2147483648) (h3 : hi - lo ≤ 2147483648) : ACalls Try.prog 19 0 0 [.v (.int .i64 n), .v (.int .i64 lo), .v (.int .i64 hi)] [] (fun out H' => out = .ret (.v (.int .i64 (wthn n lo hi))) ∧ H' = []) := by
  have h4 := Int.tmod_lt_of_pos n (b := hi - lo + 1) (by omega)
  have h5 := Int.lt_tmod_of_pos n (b := hi - lo + 1) (by omega)
  refine acalls_of tok dok (f := 19) ⟨Try.func19, rfl, by kernel_rfl⟩ ?_; refine c_start (fun _ h => h) ?_
  repeat' (first | (refine awd1 ?_) | (((with_reducible refine is_aops ?_); refine o_split rfl rfl rfl (fun hc => ?_) (fun hc => ?_) <;> rw [hc])) | (((with_reducible refine is_cond ?_); refine c_cond rfl (fun hc => ?_) (fun hc => ?_))) | (((with_reducible refine is_aop ?_); refine a_pick rfl rfl (fun hc => ?_) (fun hc => ?_) <;> rw [hc])) | fail)
  · exact e_ret (H' := []) rfl ⟨by simp at *; rw [wthn, if_pos (by omega)]; rfl, rfl⟩ (.refl _) (Nat.le_of_ble_eq_true rfl)
  all_goals
    rw [z64 (n := hi - lo) (by omega) (by omega), z64 (n := hi - lo + 1) (by omega) (by omega)]
    (with_reducible refine is_aop ?_); first | (refine a_qS rfl (fun _ h => h) ?_ ?_) | (refine a_qS rfl (qIx (fun _ h => h)) ?_ ?_) | (refine a_qS rfl (qAnd5 (fun _ h => h)) ?_ ?_) | (refine a_qS rfl (qStr (fun _ h => h)) ?_ ?_) | (refine a_qS rfl (qAnd4 (fun _ h => h)) ?_ ?_) | (refine a_qS rfl (qAnd2 (fun _ h => h)) ?_ ?_)
    · omega
    generalize ht : n.tmod (hi - lo + 1) = t at *
    repeat' (first | (refine awd1 ?_) | (((with_reducible refine is_aops ?_); refine o_split rfl rfl rfl (fun hc => ?_) (fun hc => ?_) <;> rw [hc])) | (((with_reducible refine is_cond ?_); refine c_cond rfl (fun hc => ?_) (fun hc => ?_))) | (((with_reducible refine is_aop ?_); refine a_pick rfl rfl (fun hc => ?_) (fun hc => ?_) <;> rw [hc])) | fail)
  all_goals
    refine e_ret (H' := []) rfl ⟨congrArg (fun z => AOut.ret (.v (.int .i64 z))) ?_, rfl⟩ (.refl _) (Nat.le_of_ble_eq_true rfl)
    simp only [decide_eq_true_eq, decide_eq_false_iff_not] at *
    unfold wthn
    rw [ht, if_neg (by omega)]
    simp only [IntKind.wrap_i64]
    split <;> omega
theorem isNaNi_c (n : Int) : ACalls Try.prog 80 0 0 [.v (.int .i64 n)] [] (fun out H' => out = .ret (.v (.bool false)) ∧ H' = []) := by
  refine acalls_of tok dok (f := 80) ⟨Try.func80, rfl, by kernel_rfl⟩ ?_; refine c_start (fun _ h => h) ?_
  refine awd ?_
  exact e_ret (H' := []) rfl ⟨by rw [bne_self_eq_false]; rfl, rfl⟩ (.refl _) (Nat.le_of_ble_eq_true rfl)
def cmpZ (a b : Int) : Int := if a < b then -1 else if b < a then 1 else 0
theorem cmpi_c (a b : Int) : ACalls Try.prog 40 0 0 [.v (.int .i64 a), .v (.int .i64 b)] [] (fun out H' => out = .ret (.v (.int .i64 (cmpZ a b))) ∧ H' = []) := by
  refine acalls_of tok dok (f := 40) ⟨Try.func40, rfl, by kernel_rfl⟩ ?_; refine c_start (fun _ h => h) ?_
  refine awd ?_
  refine cal [] (isNaNi_c a) ?_ ?_
  · refine ret1 ?_; first | (refine akc ?_) | (refine aec ?_)
    refine awd ?_
    refine cal [] (isNaNi_c b) ?_ ?_
    · refine ret1 ?_; first | (refine akc ?_) | (refine aec ?_)
      repeat' (first | (refine awd1 ?_) | (((with_reducible refine is_aops ?_); refine o_split rfl rfl rfl (fun hc => ?_) (fun hc => ?_) <;> rw [hc])) | (((with_reducible refine is_cond ?_); refine c_cond rfl (fun hc => ?_) (fun hc => ?_))) | (((with_reducible refine is_aop ?_); refine a_pick rfl rfl (fun hc => ?_) (fun hc => ?_) <;> rw [hc])) | fail)
      · exact e_ret (H' := []) rfl ⟨by simp at hc; rw [cmpZ, if_pos hc]; rfl, rfl⟩ (.refl _) (Nat.le_of_ble_eq_true rfl)
      · exact e_ret (H' := []) rfl ⟨by simp at *; rw [cmpZ, if_neg (by omega), if_pos (by omega)]; rfl, rfl⟩ (.refl _) (Nat.le_of_ble_eq_true rfl)
      · exact e_ret (H' := []) rfl ⟨by simp at *; rw [cmpZ, if_neg (by omega), if_neg (by omega)]; rfl, rfl⟩ (.refl _) (Nat.le_of_ble_eq_true rfl)
    · first | (exact retN) | (exact retP)
  · first | (exact retN) | (exact retP)
/-- a float's place in the order -/
def keyI (b : Nat) : Int := if (IntKind.u64.wrap ((BitVec.ofInt IntKind.u64.bits (canonB b : Int) &&& BitVec.ofInt IntKind.u64.bits 9223372036854775808).toNat : Int) != 0) = true then IntKind.u64.wrap ((BitVec.ofInt IntKind.u64.bits (if IntKind.u64.signed then -1 else IntKind.u64.max) ^^^ BitVec.ofInt IntKind.u64.bits (canonB b : Int)).toNat : Int) else IntKind.u64.wrap ((BitVec.ofInt IntKind.u64.bits (canonB b : Int) ||| BitVec.ofInt IntKind.u64.bits 9223372036854775808).toNat : Int)
theorem key_c (b : Nat) : ACalls Try.prog 82 0 0 [.v (.float .f64 b)] [] (fun out H' => out = .ret (.v (.int .u64 (keyI b))) ∧ H' = []) := by
  refine acalls_of tok dok (f := 82) ⟨Try.func82, rfl, by kernel_rfl⟩ ?_; refine c_start (fun _ h => h) ?_
  refine awd ?_
  refine cal [] (bits_c b) ?_ ?_
  · refine ret1 ?_; first | (refine akc ?_) | (refine aec ?_)
    repeat' (first | (refine awd1 ?_) | (((with_reducible refine is_aops ?_); refine o_split rfl rfl rfl (fun hc => ?_) (fun hc => ?_) <;> rw [hc])) | (((with_reducible refine is_cond ?_); refine c_cond rfl (fun hc => ?_) (fun hc => ?_))) | (((with_reducible refine is_aop ?_); refine a_pick rfl rfl (fun hc => ?_) (fun hc => ?_) <;> rw [hc])) | fail)
    · exact e_ret (H' := []) rfl ⟨by rw [keyI, if_pos hc]; rfl, rfl⟩ (.refl _) (Nat.le_of_ble_eq_true rfl)
    · exact e_ret (H' := []) rfl ⟨by rw [keyI, if_neg (by rw [hc]; decide)]; rfl, rfl⟩ (.refl _) (Nat.le_of_ble_eq_true rfl)
  · first | (exact retN) | (exact retP)
theorem norder_c (a b : Nat) : ACalls Try.prog 42 0 0 [.v (.float .f64 a), .v (.float .f64 b)] [] (fun out H' => out = .ret (.v (.int .i64 (cmpZ (keyI a) (keyI b)))) ∧ H' = []) := by
  refine acalls_of tok dok (f := 42) ⟨Try.func42, rfl, by kernel_rfl⟩ ?_; refine c_start (fun _ h => h) ?_
  refine awd ?_
  refine cal [] (key_c a) ?_ ?_
  · refine ret1 ?_; first | (refine akc ?_) | (refine aec ?_)
    refine awd ?_
    refine cal [] (key_c b) ?_ ?_
    · refine ret1 ?_; first | (refine akc ?_) | (refine aec ?_)
      generalize keyI a = x
      generalize keyI b = y
      repeat' (first | (refine awd1 ?_) | (((with_reducible refine is_aops ?_); refine o_split rfl rfl rfl (fun hc => ?_) (fun hc => ?_) <;> rw [hc])) | (((with_reducible refine is_cond ?_); refine c_cond rfl (fun hc => ?_) (fun hc => ?_))) | (((with_reducible refine is_aop ?_); refine a_pick rfl rfl (fun hc => ?_) (fun hc => ?_) <;> rw [hc])) | fail)
      · exact e_ret (H' := []) rfl ⟨by simp at hc; rw [cmpZ, if_pos hc]; rfl, rfl⟩ (.refl _) (Nat.le_of_ble_eq_true rfl)
      · exact e_ret (H' := []) rfl ⟨by simp at *; rw [cmpZ, if_neg (by omega), if_pos (by omega)]; rfl, rfl⟩ (.refl _) (Nat.le_of_ble_eq_true rfl)
      · exact e_ret (H' := []) rfl ⟨by simp at *; rw [cmpZ, if_neg (by omega), if_neg (by omega)]; rfl, rfl⟩ (.refl _) (Nat.le_of_ble_eq_true rfl)
    · first | (exact retN) | (exact retP)
  · first | (exact retN) | (exact retP)
theorem bytesOf_run {P : Program} {X : Nat → Nat → Option Value} {w : World} {l : List UInt8} {v : Value} (h : SimD X (.list (l.map brow) .free) v) (hw : ∀ b i v, X b i = some v → w.cell? ⟨b, i, none⟩ = some v) : (Extern.Bytes.bytesOf v).run P w = .ok ⟨l.toArray⟩ w := by
  have hb : Lib.bytesOf (l.map fun c => (c.toNat : Int)) = l := by
    unfold Lib.bytesOf
    rw [List.map_map]
    conv => rhs; rw [← List.map_id l]
    refine List.map_congr_left fun c _ => ?_
    simp
  cases hl : l with
  | nil =>
    subst hl
    obtain ⟨base, c, rfl, _⟩ := h.slice
    cases base <;> rfl
  | cons b0 l0 =>
    rw [← hl]
    obtain ⟨b, off, c, s', y, rfl, hr, hX, hS, h1'⟩ := h.pos (by simp [hl])
    have hs1 : s' = 1 := by
      have := hr (brow b0) (by rw [hl]; simp)
      simpa [brow] using this.symm
    subst hs1
    have h2 := Lib.run_loadBytesX (P := P) w (l.map fun c => (c.toNat : Int)) ⟨b, off, none⟩ .empty (fun j x hj => by
      rw [List.getElem?_map, Option.map_eq_some_iff] at hj
      obtain ⟨u, hu, rfl⟩ := hj
      have k1 : (l.map brow)[j]? = some (brow u) := by simp [hu]
      have k2 := hX j _ 0 _ k1 (by simp [brow]; rfl)
      have k3 := hS j _ 0 _ k1 (by simp [brow]; rfl)
      have k4 := hw _ _ _ k2
      rw [add_mk]
      have k5 : y j 0 = .int .u8 u.toNat := by
        generalize y j 0 = z at k3
        cases k3; rfl
      rw [k5] at k4
      simpa using k4)
    rw [hb] at h2
    simp only [List.length_map] at h2 ⊢
    unfold Extern.Bytes.bytesOf
    rw [h2]
    simp [ByteArray.empty, ByteArray.emptyWithCapacity]
    rfl
theorem bcmpx_c (a b : List UInt8) : ACalls Try.prog 81 0 0 [.list (a.map brow) .free, .list (b.map brow) .free] [] (fun out H' => out = .ret (.v (.int .i64 (Lib.compareBytes a b))) ∧ H' = []) := by
  intro G w vals h1 h2 h3 h4 h5 h6
  have hv : vals.size = 2 := by simpa using h5.symm
  have s0 := (h6 0 _ rfl).list_inv.1
  have s1 := (h6 1 _ rfl).list_inv.1
  obtain ⟨x0, x1, rfl⟩ : ∃ x0 x1, vals = #[x0, x1] := by
    refine ⟨vals.getD 0 undef, vals.getD 1 undef, ?_⟩
    apply Array.ext
    · rw [hv]; rfl
    · intro i hi _
      match i with
      | 0 => simp [Array.getD, hi]
      | 1 => simp [Array.getD, hi]
      | i + 2 => omega
  have hr : (Extern.BytealgCompare.compare #[x0, x1]).run Try.prog w = .ok (.int .i64 (Lib.compareBytes a b)) w := by
    change Sem.run Try.prog (do pure (goInt (Extern.BytealgCompare.cmp (← Extern.Bytes.bytesOf x0) (← Extern.Bytes.bytesOf x1)))) w = _
    have r0 := bytesOf_run (P := Try.prog) (v := x0) s0 h4.X
    have r1 := bytesOf_run (P := Try.prog) (v := x1) s1 h4.X
    simp only [Sem.run_bind, Sem.run_pure, r0, r1, Result.andThen, Lib.cmp_eq]
    rfl
  refine .inr ⟨_, w, ?_, G, .ret (.v (.int .i64 (Lib.compareBytes a b))), [], ⟨rfl, rfl⟩, .data _ _ (.v _), h4, Step.refl _ _ _, fun id h => .inl h⟩
  rw [Go.run_callFunc_extern (fn := Try.f81) (e := Extern.BytealgCompare.compare) (by kernel_rfl) (by kernel_rfl) rfl (by kernel_rfl) (by kernel_rfl), hr]
  rfl
theorem bcmp_c (a b : List UInt8) : ACalls Try.prog 41 0 0 [.list (a.map brow) .free, .list (b.map brow) .free] [] (fun out H' => out = .ret (.v (.int .i64 (Lib.compareBytes a b))) ∧ H' = []) := by
  refine acalls_of tok dok (f := 41) ⟨Try.func41, rfl, by kernel_rfl⟩ ?_; refine c_start (fun _ h => h) ?_
  refine awd ?_
  refine cal [] (bcmpx_c a b) ?_ ?_
  · refine ret1 ?_; first | (refine akc ?_) | (refine aec ?_)
    refine awd ?_
    exact e_ret (H' := []) rfl ⟨rfl, rfl⟩ (.refl _) (Nat.le_of_ble_eq_true rfl)
  · first | (exact retN) | (exact retP)
/-- some float -/
abbrev anyF (out : AOut) (H' : Heap) : Prop := ∃ b, b < 18446744073709551616 ∧ out = .ret (.v (.float .f64 b)) ∧ H' = []
theorem csign_c : ACalls Try.prog 76 0 0 [.v (.float .f64 0), .v (.float .f64 13830554455654793216)] [] (fun out H' => out = .ret (.v (.float .f64 9223372036854775808)) ∧ H' = []) := by
  refine acalls_of tok dok (f := 76) ⟨Try.func76, rfl, by kernel_rfl⟩ ?_; refine c_start (fun _ h => h) ?_
  refine awd ?_
  refine cal [] (bits_x 0) ?_ ?_
  · refine ret1 ?_; first | (refine akc ?_) | (refine aec ?_)
    refine awd ?_
    refine cal [] (bits_x 13830554455654793216) ?_ ?_
    · refine ret1 ?_; first | (refine akc ?_) | (refine aec ?_)
      refine awd ?_
      refine cal [] (from_x 9223372036854775808) ?_ ?_
      · refine ret1 ?_; first | (refine akc ?_) | (refine aec ?_)
        refine awd ?_
        exact e_ret (H' := []) rfl ⟨rfl, rfl⟩ (.refl _) (Nat.le_of_ble_eq_true rfl)
      · first | (exact retN) | (exact retP)
    · first | (exact retN) | (exact retP)
  · first | (exact retN) | (exact retP)
theorem inf_c (n : Int) (h : n = 1 ∨ n = -1) : ACalls Try.prog 77 0 0 [.v (.int .i64 n)] [] anyF := by
  refine acalls_of tok dok (f := 77) ⟨Try.func77, rfl, by kernel_rfl⟩ ?_; refine c_start (fun _ h => h) ?_
  repeat' (first | (refine awd1 ?_) | (((with_reducible refine is_aops ?_); refine o_split rfl rfl rfl (fun hc => ?_) (fun hc => ?_) <;> rw [hc])) | (((with_reducible refine is_cond ?_); refine c_cond rfl (fun hc => ?_) (fun hc => ?_))) | (((with_reducible refine is_aop ?_); refine a_pick rfl rfl (fun hc => ?_) (fun hc => ?_) <;> rw [hc])) | fail)
  · refine cal [] (from_x 9218868437227405312) ?_ ?_
    · refine ret1 ?_; first | (refine akc ?_) | (refine aec ?_)
      refine awd ?_
      exact e_ret (H' := []) rfl ⟨_, by decide, rfl, rfl⟩ (.refl _) (Nat.le_of_ble_eq_true rfl)
    · first | (exact retN) | (exact retP)
  · refine cal [] (from_x 18442240474082181120) ?_ ?_
    · refine ret1 ?_; first | (refine akc ?_) | (refine aec ?_)
      refine awd ?_
      exact e_ret (H' := []) rfl ⟨_, by decide, rfl, rfl⟩ (.refl _) (Nat.le_of_ble_eq_true rfl)
    · first | (exact retN) | (exact retP)
theorem nanf_c : ACalls Try.prog 78 0 0 [] [] anyF := by
  refine acalls_of tok dok (f := 78) ⟨Try.func78, rfl, by kernel_rfl⟩ ?_; refine c_start (fun _ h => h) ?_
  refine awd ?_
  refine cal [] (from_x 9221120237041090561) ?_ ?_
  · refine ret1 ?_; first | (refine akc ?_) | (refine aec ?_)
    refine awd ?_
    exact e_ret (H' := []) rfl ⟨_, by decide, rfl, rfl⟩ (.refl _) (Nat.le_of_ble_eq_true rfl)
  · first | (exact retN) | (exact retP)
theorem near_lt (n : Int) (h1 : -9 ≤ n) (h2 : n ≤ 10) : FloatKind.f64.nearest n < 18446744073709551616 := by
  obtain ⟨k, rfl, hk⟩ : ∃ k : Fin 20, n = (k.val : Int) - 9 ∧ True := ⟨⟨(n + 9).toNat, by omega⟩, by simp; omega, trivial⟩
  have h : ∀ k : Fin 20, FloatKind.f64.nearest ((k.val : Int) - 9) < 18446744073709551616 := by decide +kernel
  exact h k
theorem flt_c (n : Int) (x : Nat) (hn1 : -9223372036854775808 ≤ n) (hn2 : n ≤ 9223372036854775807) (hx : x < 18446744073709551616) : ACalls Try.prog 39 0 0 [.v (.int .i64 n), .v (.float .f64 x)] [] anyF := by
  have hb := wthn_bd n 0 1048576 (by decide)
  have hw := wthn_c n 0 1048576 hn1 hn2 (by decide) (by decide) (by decide) (by decide)
  generalize wthn n 0 1048576 = q at *
  refine acalls_of tok dok (f := 39) ⟨Try.func39, rfl, by kernel_rfl⟩ ?_; refine c_start (fun _ h => h) ?_
  refine awd ?_
  refine cal [] (hw) ?_ ?_
  · refine ret1 ?_; first | (refine akc ?_) | (refine aec ?_)
    repeat' (first | (refine awd1 ?_) | (((with_reducible refine is_aops ?_); refine o_split rfl rfl rfl (fun hc => ?_) (fun hc => ?_) <;> rw [hc])) | (((with_reducible refine is_cond ?_); refine c_cond rfl (fun hc => ?_) (fun hc => ?_))) | (((with_reducible refine is_aop ?_); refine a_pick rfl rfl (fun hc => ?_) (fun hc => ?_) <;> rw [hc])) | fail)
    · exact e_ret (H' := []) rfl ⟨0, by decide, rfl, rfl⟩ (.refl _) (Nat.le_of_ble_eq_true rfl)
    · refine cal [] (csign_c) ?_ ?_
      · refine ret1 ?_; first | (refine akc ?_) | (refine aec ?_)
        refine awd ?_
        exact e_ret (H' := []) rfl ⟨_, by decide, rfl, rfl⟩ (.refl _) (Nat.le_of_ble_eq_true rfl)
      · first | (exact retN) | (exact retP)
    · refine cal [] (inf_c 1 (.inl rfl)) ?_ ?_
      · intro x H' h; obtain ⟨fb, hfb, h1, rfl⟩ := h; cases h1; first | (refine akc ?_) | (refine aec ?_)
        refine awd ?_
        exact e_ret (H' := []) rfl ⟨_, hfb, rfl, rfl⟩ (.refl _) (Nat.le_of_ble_eq_true rfl)
      · intro x H' h; obtain ⟨_, _, h1, _⟩ := h; cases h1
    · refine cal [] (inf_c (-1) (.inr rfl)) ?_ ?_
      · intro x H' h; obtain ⟨fb, hfb, h1, rfl⟩ := h; cases h1; first | (refine akc ?_) | (refine aec ?_)
        refine awd ?_
        exact e_ret (H' := []) rfl ⟨_, hfb, rfl, rfl⟩ (.refl _) (Nat.le_of_ble_eq_true rfl)
      · intro x H' h; obtain ⟨_, _, h1, _⟩ := h; cases h1
    · refine cal [] (nanf_c) ?_ ?_
      · intro x H' h; obtain ⟨fb, hfb, h1, rfl⟩ := h; cases h1; first | (refine akc ?_) | (refine aec ?_)
        refine awd ?_
        exact e_ret (H' := []) rfl ⟨_, hfb, rfl, rfl⟩ (.refl _) (Nat.le_of_ble_eq_true rfl)
      · intro x H' h; obtain ⟨_, _, h1, _⟩ := h; cases h1
    · refine cal [] (from_x 18444492273895866659) ?_ ?_
      · refine ret1 ?_; first | (refine akc ?_) | (refine aec ?_)
        refine awd ?_
        exact e_ret (H' := []) rfl ⟨_, by decide, rfl, rfl⟩ (.refl _) (Nat.le_of_ble_eq_true rfl)
      · first | (exact retN) | (exact retP)
    · refine cal [] (hw) ?_ ?_
      · refine ret1 ?_; first | (refine akc ?_) | (refine aec ?_)
        refine awd ?_
        have h1 : 0 ≤ q.tmod 20 := by rw [Int.tmod_eq_emod_of_nonneg hb.1]; omega
        have h2 : q.tmod 20 < 20 := by rw [Int.tmod_eq_emod_of_nonneg hb.1]; omega
        rw [z64 (n := q.tmod 20 - 9) (by omega) (by omega)]
        exact e_ret (H' := []) rfl ⟨_, near_lt _ (by omega) (by omega), rfl, rfl⟩ (.refl _) (Nat.le_of_ble_eq_true rfl)
      · first | (exact retN) | (exact retP)
    · exact e_ret (H' := []) rfl ⟨x, hx, rfl, rfl⟩ (.refl _) (Nat.le_of_ble_eq_true rfl)
  · first | (exact retN) | (exact retP)
end Go.Proofs.Ytdfnepbhgifkkaa
