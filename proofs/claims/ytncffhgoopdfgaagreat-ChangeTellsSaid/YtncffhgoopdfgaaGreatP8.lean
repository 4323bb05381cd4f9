/- Part 8 of what the laws ChangeTells rest on: Va, OcB, AmDf, OcC, OcD, Vb. -/
import Derived.Test.YtncffhgoopdfgaaGreatP7
import Derived.Lib.BytesEntry
import Derived.Lib.Bytealg
import Derived.Recover
import Derived.LaidEql
set_option linter.unusedSimpArgs false
set_option linter.unusedVariables false
namespace Go.Proofs.YtncffhgoopdfgaaGreat
open Go.Am
theorem isNaNi_c (n : Int) : ACalls Tryz.prog 207 0 0 [.v (.int .i64 n)] [] (fun out H' => out = .ret (.v (.bool false)) ∧ H' = []) := by
 refine no_implicit_lambda% (acalls_of tok dok (f := 207) ⟨Tryz.func207, rfl, by kernel_rfl⟩ ?_); refine no_implicit_lambda% (c_start (fun _ h => h) ?_)
 refine no_implicit_lambda% (awd ?_)
 exact e_ret (H' := []) rfl ⟨by rw [bne_self_eq_false]; rfl, rfl⟩ (.refl _) (LE0 rfl)
def cmpZ (a b : Int) : Int := if a < b then -1 else if b < a then 1 else 0
theorem cmpi_c (a b : Int) : ACalls Tryz.prog 188 0 0 [.v (.int .i64 a), .v (.int .i64 b)] [] (fun out H' => out = .ret (.v (.int .i64 (cmpZ a b))) ∧ H' = []) := by
 refine no_implicit_lambda% (acalls_of tok dok (f := 188) ⟨Tryz.func188, rfl, by kernel_rfl⟩ ?_); refine no_implicit_lambda% (c_start (fun _ h => h) ?_)
 refine no_implicit_lambda% (awd ?_)
 refine no_implicit_lambda% (cal [] (isNaNi_c a) ?_ ?_)
 ·refine no_implicit_lambda% (ret1 ?_); first | (refine no_implicit_lambda% (akc ?_)) | (refine no_implicit_lambda% (aec ?_))
  refine no_implicit_lambda% (awd ?_)
  refine no_implicit_lambda% (cal [] (isNaNi_c b) ?_ ?_)
  ·refine no_implicit_lambda% (ret1 ?_); first | (refine no_implicit_lambda% (akc ?_)) | (refine no_implicit_lambda% (aec ?_))
   repeat' (first | (refine no_implicit_lambda% (zH ?_)) | (((with_reducible refine no_implicit_lambda% (zA ?_)); refine no_implicit_lambda% (zD rfl rfl rfl (fun hc => ?_) (fun hc => ?_)) <;> rw [hc])) | (((with_reducible refine no_implicit_lambda% (zB ?_)); refine no_implicit_lambda% (zE rfl (fun hc => ?_) (fun hc => ?_)))) | (((with_reducible refine no_implicit_lambda% (zC ?_)); refine no_implicit_lambda% (zF rfl rfl (fun hc => ?_) (fun hc => ?_)) <;> rw [hc])) | fail)
   ·exact e_ret (H' := []) rfl ⟨by simp at hc; rw [cmpZ, if_pos hc]; rfl, rfl⟩ (.refl _) (LE0 rfl)
   ·exact e_ret (H' := []) rfl ⟨by simp at *; rw [cmpZ, if_neg (by omega), if_pos (by omega)]; rfl, rfl⟩ (.refl _) (LE0 rfl)
   ·exact e_ret (H' := []) rfl ⟨by simp at *; rw [cmpZ, if_neg (by omega), if_neg (by omega)]; rfl, rfl⟩ (.refl _) (LE0 rfl)
  ·first | (exact zI) | (exact zJ)
 ·first | (exact zI) | (exact zJ)
def keyI (b : Nat) : Int := if (IntKind.u64.wrap ((BitVec.ofInt IntKind.u64.bits (canonB b : Int) &&& BitVec.ofInt IntKind.u64.bits 9223372036854775808).toNat : Int) != 0) = true then IntKind.u64.wrap ((BitVec.ofInt IntKind.u64.bits (if IntKind.u64.signed then -1 else IntKind.u64.max) ^^^ BitVec.ofInt IntKind.u64.bits (canonB b : Int)).toNat : Int) else IntKind.u64.wrap ((BitVec.ofInt IntKind.u64.bits (canonB b : Int) ||| BitVec.ofInt IntKind.u64.bits 9223372036854775808).toNat : Int)
theorem key_c (b : Nat) : ACalls Tryz.prog 209 0 0 [.v (.float .f64 b)] [] (fun out H' => out = .ret (.v (.int .u64 (keyI b))) ∧ H' = []) := by
 refine no_implicit_lambda% (acalls_of tok dok (f := 209) ⟨Tryz.func209, rfl, by kernel_rfl⟩ ?_); refine no_implicit_lambda% (c_start (fun _ h => h) ?_)
 refine no_implicit_lambda% (awd ?_)
 refine no_implicit_lambda% (cal [] (bits_c b) ?_ ?_)
 ·refine no_implicit_lambda% (ret1 ?_); first | (refine no_implicit_lambda% (akc ?_)) | (refine no_implicit_lambda% (aec ?_))
  repeat' (first | (refine no_implicit_lambda% (zH ?_)) | (((with_reducible refine no_implicit_lambda% (zA ?_)); refine no_implicit_lambda% (zD rfl rfl rfl (fun hc => ?_) (fun hc => ?_)) <;> rw [hc])) | (((with_reducible refine no_implicit_lambda% (zB ?_)); refine no_implicit_lambda% (zE rfl (fun hc => ?_) (fun hc => ?_)))) | (((with_reducible refine no_implicit_lambda% (zC ?_)); refine no_implicit_lambda% (zF rfl rfl (fun hc => ?_) (fun hc => ?_)) <;> rw [hc])) | fail)
  ·exact e_ret (H' := []) rfl ⟨by rw [keyI, if_pos hc]; rfl, rfl⟩ (.refl _) (LE0 rfl)
  ·exact e_ret (H' := []) rfl ⟨by rw [keyI, if_neg (by rw [hc]; decide)]; rfl, rfl⟩ (.refl _) (LE0 rfl)
 ·first | (exact zI) | (exact zJ)
theorem norder_c (a b : Nat) : ACalls Tryz.prog 190 0 0 [.v (.float .f64 a), .v (.float .f64 b)] [] (fun out H' => out = .ret (.v (.int .i64 (cmpZ (keyI a) (keyI b)))) ∧ H' = []) := by
 refine no_implicit_lambda% (acalls_of tok dok (f := 190) ⟨Tryz.func190, rfl, by kernel_rfl⟩ ?_); refine no_implicit_lambda% (c_start (fun _ h => h) ?_)
 refine no_implicit_lambda% (awd ?_)
 refine no_implicit_lambda% (cal [] (key_c a) ?_ ?_)
 ·refine no_implicit_lambda% (ret1 ?_); first | (refine no_implicit_lambda% (akc ?_)) | (refine no_implicit_lambda% (aec ?_))
  refine no_implicit_lambda% (awd ?_)
  refine no_implicit_lambda% (cal [] (key_c b) ?_ ?_)
  ·refine no_implicit_lambda% (ret1 ?_); first | (refine no_implicit_lambda% (akc ?_)) | (refine no_implicit_lambda% (aec ?_))
   generalize keyI a = x
   generalize keyI b = y
   repeat' (first | (refine no_implicit_lambda% (zH ?_)) | (((with_reducible refine no_implicit_lambda% (zA ?_)); refine no_implicit_lambda% (zD rfl rfl rfl (fun hc => ?_) (fun hc => ?_)) <;> rw [hc])) | (((with_reducible refine no_implicit_lambda% (zB ?_)); refine no_implicit_lambda% (zE rfl (fun hc => ?_) (fun hc => ?_)))) | (((with_reducible refine no_implicit_lambda% (zC ?_)); refine no_implicit_lambda% (zF rfl rfl (fun hc => ?_) (fun hc => ?_)) <;> rw [hc])) | fail)
   ·exact e_ret (H' := []) rfl ⟨by simp at hc; rw [cmpZ, if_pos hc]; rfl, rfl⟩ (.refl _) (LE0 rfl)
   ·exact e_ret (H' := []) rfl ⟨by simp at *; rw [cmpZ, if_neg (by omega), if_pos (by omega)]; rfl, rfl⟩ (.refl _) (LE0 rfl)
   ·exact e_ret (H' := []) rfl ⟨by simp at *; rw [cmpZ, if_neg (by omega), if_neg (by omega)]; rfl, rfl⟩ (.refl _) (LE0 rfl)
  ·first | (exact zI) | (exact zJ)
 ·first | (exact zI) | (exact zJ)
theorem bytesOf_run {P : Program} {X : Nat → Nat → Option Value} {w : World} {l : List UInt8} {v : Value} (h : SimD X (.list (l.map brow) .free) v) (hw : ∀ b i v, X b i = some v → w.cell? ⟨b, i, none⟩ = some v) : (Extern.Bytes.bytesOf v).run P w = .ok ⟨l.toArray⟩ w := by
 have hb : Lib.bytesOf (l.map fun c => (c.toNat : Int)) = l := by
  unfold Lib.bytesOf
  rw [List.map_map]
  conv => rhs; rw [← List.map_id l]
  refine List.map_congr_left fun c _ => ?_
  simp
 cases hl : l with
 | nil =>
  subst hl
  obtain ⟨base, c, rfl, _⟩ := h.slice
  cases base <;> rfl
 | cons b0 l0 =>
  rw [← hl]
  obtain ⟨b, off, c, s', y, rfl, hr, hX, hS, h1'⟩ := h.pos (by simp [hl])
  have hs1 : s' = 1 := by
   have := hr (brow b0) (by rw [hl]; simp)
   simpa [brow] using this.symm
  subst hs1
  have h2 := Lib.run_loadBytesX (P := P) w (l.map fun c => (c.toNat : Int)) ⟨b, off, none⟩ .empty (fun j x hj => by
   rw [List.getElem?_map, Option.map_eq_some_iff] at hj
   obtain ⟨u, hu, rfl⟩ := hj
   have k1 : (l.map brow)[j]? = some (brow u) := by simp [hu]
   have k2 := hX j _ 0 _ k1 (by simp [brow]; rfl)
   have k3 := hS j _ 0 _ k1 (by simp [brow]; rfl)
   have k4 := hw _ _ _ k2
   rw [add_mk]
   have k5 : y j 0 = .int .u8 u.toNat := by
    generalize y j 0 = z at k3
    cases k3; rfl
   rw [k5] at k4
   simpa using k4)
  rw [hb] at h2
  simp only [List.length_map] at h2 ⊢
  unfold Extern.Bytes.bytesOf
  rw [h2]
  simp [ByteArray.empty, ByteArray.emptyWithCapacity]
  rfl
theorem bcmpx_c (a b : List UInt8) : ACalls Tryz.prog 208 0 0 [.list (a.map brow) .free, .list (b.map brow) .free] [] (fun out H' => out = .ret (.v (.int .i64 (Lib.compareBytes a b))) ∧ H' = []) := by
 intro G w vals h1 h2 h3 h4 h5 h6
 have hv : vals.size = 2 := by simpa using h5.symm
 have s0 := (h6 0 _ rfl).list_inv.1
 have s1 := (h6 1 _ rfl).list_inv.1
 obtain ⟨x0, x1, rfl⟩ : ∃ x0 x1, vals = #[x0, x1] := by
  refine ⟨vals.getD 0 undef, vals.getD 1 undef, ?_⟩
  apply Array.ext
  ·rw [hv]; rfl
  ·intro i hi _
   match i with
   | 0 => simp [Array.getD, hi]
   | 1 => simp [Array.getD, hi]
   | i + 2 => omega
 have hr : (Extern.BytealgCompare.compare #[x0, x1]).run Tryz.prog w = .ok (.int .i64 (Lib.compareBytes a b)) w := by
  change Sem.run Tryz.prog (do pure (goInt (Extern.BytealgCompare.cmp (← Extern.Bytes.bytesOf x0) (← Extern.Bytes.bytesOf x1)))) w = _
  have r0 := bytesOf_run (P := Tryz.prog) (v := x0) s0 h4.X
  have r1 := bytesOf_run (P := Tryz.prog) (v := x1) s1 h4.X
  simp only [Sem.run_bind, Sem.run_pure, r0, r1, Result.andThen, Lib.cmp_eq]
  rfl
 refine .inr ⟨_, w, ?_, G, .ret (.v (.int .i64 (Lib.compareBytes a b))), [], ⟨rfl, rfl⟩, .data _ _ (.v _), h4, Step.refl _ _ _, fun id h => .inl h⟩
 rw [Go.run_callFunc_extern (fn := Tryz.f208) (e := Extern.BytealgCompare.compare) (by kernel_rfl) (by kernel_rfl) rfl (by kernel_rfl) (by kernel_rfl), hr]
 rfl
theorem bcmp_c (a b : List UInt8) : ACalls Tryz.prog 189 0 0 [.list (a.map brow) .free, .list (b.map brow) .free] [] (fun out H' => out = .ret (.v (.int .i64 (Lib.compareBytes a b))) ∧ H' = []) := by
 refine no_implicit_lambda% (acalls_of tok dok (f := 189) ⟨Tryz.func189, rfl, by kernel_rfl⟩ ?_); refine no_implicit_lambda% (c_start (fun _ h => h) ?_)
 refine no_implicit_lambda% (awd ?_)
 refine no_implicit_lambda% (cal [] (bcmpx_c a b) ?_ ?_)
 ·refine no_implicit_lambda% (ret1 ?_); first | (refine no_implicit_lambda% (akc ?_)) | (refine no_implicit_lambda% (aec ?_))
  refine no_implicit_lambda% (awd ?_)
  exact e_ret (H' := []) rfl ⟨rfl, rfl⟩ (.refl _) (LE0 rfl)
 ·first | (exact zI) | (exact zJ)
abbrev anyF (out : AOut) (H' : Heap) : Prop := ∃ b, b < 18446744073709551616 ∧ out = .ret (.v (.float .f64 b)) ∧ H' = []
theorem csign_c : ACalls Tryz.prog 65 0 0 [.v (.float .f64 0), .v (.float .f64 13830554455654793216)] [] (fun out H' => out = .ret (.v (.float .f64 9223372036854775808)) ∧ H' = []) := by
 refine no_implicit_lambda% (acalls_of tok dok (f := 65) ⟨Tryz.func65, rfl, by kernel_rfl⟩ ?_); refine no_implicit_lambda% (c_start (fun _ h => h) ?_)
 refine no_implicit_lambda% (awd ?_)
 refine no_implicit_lambda% (cal [] (bits_x 0) ?_ ?_)
 ·refine no_implicit_lambda% (ret1 ?_); first | (refine no_implicit_lambda% (akc ?_)) | (refine no_implicit_lambda% (aec ?_))
  refine no_implicit_lambda% (awd ?_)
  refine no_implicit_lambda% (cal [] (bits_x 13830554455654793216) ?_ ?_)
  ·refine no_implicit_lambda% (ret1 ?_); first | (refine no_implicit_lambda% (akc ?_)) | (refine no_implicit_lambda% (aec ?_))
   refine no_implicit_lambda% (awd ?_)
   refine no_implicit_lambda% (cal [] (from_x 9223372036854775808) ?_ ?_)
   ·refine no_implicit_lambda% (ret1 ?_); first | (refine no_implicit_lambda% (akc ?_)) | (refine no_implicit_lambda% (aec ?_))
    refine no_implicit_lambda% (awd ?_)
    exact e_ret (H' := []) rfl ⟨rfl, rfl⟩ (.refl _) (LE0 rfl)
   ·first | (exact zI) | (exact zJ)
  ·first | (exact zI) | (exact zJ)
 ·first | (exact zI) | (exact zJ)
theorem inf_c (n : Int) (h : n = 1 ∨ n = -1) : ACalls Tryz.prog 140 0 0 [.v (.int .i64 n)] [] anyF := by
 refine no_implicit_lambda% (acalls_of tok dok (f := 140) ⟨Tryz.func140, rfl, by kernel_rfl⟩ ?_); refine no_implicit_lambda% (c_start (fun _ h => h) ?_)
 repeat' (first | (refine no_implicit_lambda% (zH ?_)) | (((with_reducible refine no_implicit_lambda% (zA ?_)); refine no_implicit_lambda% (zD rfl rfl rfl (fun hc => ?_) (fun hc => ?_)) <;> rw [hc])) | (((with_reducible refine no_implicit_lambda% (zB ?_)); refine no_implicit_lambda% (zE rfl (fun hc => ?_) (fun hc => ?_)))) | (((with_reducible refine no_implicit_lambda% (zC ?_)); refine no_implicit_lambda% (zF rfl rfl (fun hc => ?_) (fun hc => ?_)) <;> rw [hc])) | fail)
 ·refine no_implicit_lambda% (cal [] (from_x 9218868437227405312) ?_ ?_)
  ·refine no_implicit_lambda% (ret1 ?_); first | (refine no_implicit_lambda% (akc ?_)) | (refine no_implicit_lambda% (aec ?_))
   refine no_implicit_lambda% (awd ?_)
   exact e_ret (H' := []) rfl ⟨_, by decide, rfl, rfl⟩ (.refl _) (LE0 rfl)
  ·first | (exact zI) | (exact zJ)
 ·refine no_implicit_lambda% (cal [] (from_x 18442240474082181120) ?_ ?_)
  ·refine no_implicit_lambda% (ret1 ?_); first | (refine no_implicit_lambda% (akc ?_)) | (refine no_implicit_lambda% (aec ?_))
   refine no_implicit_lambda% (awd ?_)
   exact e_ret (H' := []) rfl ⟨_, by decide, rfl, rfl⟩ (.refl _) (LE0 rfl)
  ·first | (exact zI) | (exact zJ)
theorem nanf_c : ACalls Tryz.prog 141 0 0 [] [] anyF := by
 refine no_implicit_lambda% (acalls_of tok dok (f := 141) ⟨Tryz.func141, rfl, by kernel_rfl⟩ ?_); refine no_implicit_lambda% (c_start (fun _ h => h) ?_)
 refine no_implicit_lambda% (awd ?_)
 refine no_implicit_lambda% (cal [] (from_x 9221120237041090561) ?_ ?_)
 ·refine no_implicit_lambda% (ret1 ?_); first | (refine no_implicit_lambda% (akc ?_)) | (refine no_implicit_lambda% (aec ?_))
  refine no_implicit_lambda% (awd ?_)
  exact e_ret (H' := []) rfl ⟨_, by decide, rfl, rfl⟩ (.refl _) (LE0 rfl)
 ·first | (exact zI) | (exact zJ)
theorem near_lt (n : Int) (h1 : -9 ≤ n) (h2 : n ≤ 10) : FloatKind.f64.nearest n < 18446744073709551616 := by
 obtain ⟨k, rfl, hk⟩ : ∃ k : Fin 20, n = (k.val : Int) - 9 ∧ True := ⟨⟨(n + 9).toNat, by omega⟩, by simp; omega, trivial⟩
 have h : ∀ k : Fin 20, FloatKind.f64.nearest ((k.val : Int) - 9) < 18446744073709551616 := by decide +kernel
 exact h k
theorem flt_c (n : Int) (x : Nat) (hn1 : -9223372036854775808 ≤ n) (hn2 : n ≤ 9223372036854775807) (hx : x < 18446744073709551616) : ACalls Tryz.prog 67 0 0 [.v (.int .i64 n), .v (.float .f64 x)] [] anyF := by
 have hb := wthn_bd n 0 1048576 (by decide)
 have hw := wthn_c n 0 1048576 hn1 hn2 (by decide) (by decide) (by decide) (by decide)
 generalize wthn n 0 1048576 = q at *
 refine no_implicit_lambda% (acalls_of tok dok (f := 67) ⟨Tryz.func67, rfl, by kernel_rfl⟩ ?_); refine no_implicit_lambda% (c_start (fun _ h => h) ?_)
 refine no_implicit_lambda% (awd ?_)
 refine no_implicit_lambda% (cal [] (hw) ?_ ?_)
 ·refine no_implicit_lambda% (ret1 ?_); first | (refine no_implicit_lambda% (akc ?_)) | (refine no_implicit_lambda% (aec ?_))
  repeat' (first | (refine no_implicit_lambda% (zH ?_)) | (((with_reducible refine no_implicit_lambda% (zA ?_)); refine no_implicit_lambda% (zD rfl rfl rfl (fun hc => ?_) (fun hc => ?_)) <;> rw [hc])) | (((with_reducible refine no_implicit_lambda% (zB ?_)); refine no_implicit_lambda% (zE rfl (fun hc => ?_) (fun hc => ?_)))) | (((with_reducible refine no_implicit_lambda% (zC ?_)); refine no_implicit_lambda% (zF rfl rfl (fun hc => ?_) (fun hc => ?_)) <;> rw [hc])) | fail)
  ·exact e_ret (H' := []) rfl ⟨0, by decide, rfl, rfl⟩ (.refl _) (LE0 rfl)
  ·refine no_implicit_lambda% (cal [] (csign_c) ?_ ?_)
   ·refine no_implicit_lambda% (ret1 ?_); first | (refine no_implicit_lambda% (akc ?_)) | (refine no_implicit_lambda% (aec ?_))
    refine no_implicit_lambda% (awd ?_)
    exact e_ret (H' := []) rfl ⟨_, by decide, rfl, rfl⟩ (.refl _) (LE0 rfl)
   ·first | (exact zI) | (exact zJ)
  ·refine no_implicit_lambda% (cal [] (inf_c 1 (.inl rfl)) ?_ ?_)
   ·intro x H' h; obtain ⟨fb, hfb, h1, rfl⟩ := h; cases h1; first | (refine no_implicit_lambda% (akc ?_)) | (refine no_implicit_lambda% (aec ?_))
    refine no_implicit_lambda% (awd ?_)
    exact e_ret (H' := []) rfl ⟨_, hfb, rfl, rfl⟩ (.refl _) (LE0 rfl)
   ·intro x H' h; obtain ⟨_, _, h1, _⟩ := h; cases h1
  ·refine no_implicit_lambda% (cal [] (inf_c (-1) (.inr rfl)) ?_ ?_)
   ·intro x H' h; obtain ⟨fb, hfb, h1, rfl⟩ := h; cases h1; first | (refine no_implicit_lambda% (akc ?_)) | (refine no_implicit_lambda% (aec ?_))
    refine no_implicit_lambda% (awd ?_)
    exact e_ret (H' := []) rfl ⟨_, hfb, rfl, rfl⟩ (.refl _) (LE0 rfl)
   ·intro x H' h; obtain ⟨_, _, h1, _⟩ := h; cases h1
  ·refine no_implicit_lambda% (cal [] (nanf_c) ?_ ?_)
   ·intro x H' h; obtain ⟨fb, hfb, h1, rfl⟩ := h; cases h1; first | (refine no_implicit_lambda% (akc ?_)) | (refine no_implicit_lambda% (aec ?_))
    refine no_implicit_lambda% (awd ?_)
    exact e_ret (H' := []) rfl ⟨_, hfb, rfl, rfl⟩ (.refl _) (LE0 rfl)
   ·intro x H' h; obtain ⟨_, _, h1, _⟩ := h; cases h1
  ·refine no_implicit_lambda% (cal [] (from_x 18444492273895866659) ?_ ?_)
   ·refine no_implicit_lambda% (ret1 ?_); first | (refine no_implicit_lambda% (akc ?_)) | (refine no_implicit_lambda% (aec ?_))
    refine no_implicit_lambda% (awd ?_)
    exact e_ret (H' := []) rfl ⟨_, by decide, rfl, rfl⟩ (.refl _) (LE0 rfl)
   ·first | (exact zI) | (exact zJ)
  ·refine no_implicit_lambda% (cal [] (hw) ?_ ?_)
   ·refine no_implicit_lambda% (ret1 ?_); first | (refine no_implicit_lambda% (akc ?_)) | (refine no_implicit_lambda% (aec ?_))
    refine no_implicit_lambda% (awd ?_)
    have h1 : 0 ≤ q.tmod 20 := by rw [Int.tmod_eq_emod_of_nonneg hb.1]; omega
    have h2 : q.tmod 20 < 20 := by rw [Int.tmod_eq_emod_of_nonneg hb.1]; omega
    rw [z64 (n := q.tmod 20 - 9) (by omega) (by omega)]
    exact e_ret (H' := []) rfl ⟨_, near_lt _ (by omega) (by omega), rfl, rfl⟩ (.refl _) (LE0 rfl)
   ·first | (exact zI) | (exact zJ)
  ·exact e_ret (H' := []) rfl ⟨x, hx, rfl, rfl⟩ (.refl _) (LE0 rfl)
 ·first | (exact zI) | (exact zJ)
end Go.Proofs.YtncffhgoopdfgaaGreat
namespace Go.Proofs.YtncffhgoopdfgaaGreat
open Go.Am
/-! the reader -/
def rd (l : List UInt8) : Heap := [(0, .box [.list (l.map brow) .free])]
abbrev gone : AOut := .panic (.iface 130 (.ptr 0 0))
theorem fail_c (l : List UInt8) : ACalls Tryz.prog 153 1 1 [.ptr 0 0] (rd l) (fun out H' => out = gone ∧ H' = rd l) := by
 refine no_implicit_lambda% (acalls_of tok dok (f := 153) ⟨Tryz.func153, rfl, by kernel_rfl⟩ ?_); refine no_implicit_lambda% (c_start (fun _ h => h) ?_)
 refine no_implicit_lambda% (awd ?_)
 exact e_pan (H' := rd l) (rest := []) ⟨rfl, rfl⟩ (.of_eq rfl) (LE0 rfl)
theorem take_c (l : List UInt8) (n : Nat) (h : l.length < 70368744177664) : ACalls Tryz.prog 174 1 2 [.ptr 0 0, .v (.int .i64 n)] (rd l) (fun out H' => (n ≤ l.length ∧ out = .ret (.list ((l.take n).map brow) .free) ∧ H' = rd (l.drop n)) ∨ (l.length < n ∧ out = gone ∧ H' = [])) := by
 refine no_implicit_lambda% (acalls_of tok dok (f := 174) ⟨Tryz.func174, rfl, by kernel_rfl⟩ ?_); refine no_implicit_lambda% (c_start (fun _ h => h) ?_)
 refine no_implicit_lambda% (awd ?_)
 ((with_reducible refine no_implicit_lambda% (zB ?_)); refine no_implicit_lambda% (zE rfl (fun hc => ?_) (fun hc => ?_)))
 ·refine no_implicit_lambda% (awd ?_)
  refine no_implicit_lambda% (cal [0] (fail_c l) ?_ ?_)
  ·first | (exact zI) | (exact zJ)
  ·intro x H' h
   obtain ⟨h1, h2⟩ := h
   cases h1; subst h2
   refine no_implicit_lambda% (awd ?_)
   simp only [List.length_map, gt_iff_lt, decide_eq_true_eq] at hc
   exact e_pan (H' := []) (rest := rd l) (.inr ⟨by omega, rfl, rfl⟩) (.of_eq rfl) (LE0 rfl)
 ·simp only [List.length_map, gt_iff_lt, decide_eq_false_iff_not] at hc
  have hn : n ≤ l.length := by omega
  refine no_implicit_lambda% (awd ?_)
  refine no_implicit_lambda% (aqs ?_ ?_)
  ·refine ⟨trivial, Int.natCast_nonneg n, Nat.zero_le _, ?_, brows l⟩
   simpa using hn
  refine k_as (.list ((l.take n).map brow) .free) (by simp [List.map_take, orFull, isFull, isNone]) ?_
  refine no_implicit_lambda% (awd ?_)
  refine no_implicit_lambda% (cal [] (clone_c _ (brows (l.take n)) (by simp; omega)) ?_ ?_)
  ·refine no_implicit_lambda% (ret1 ?_); first | (refine no_implicit_lambda% (akc ?_)) | (refine no_implicit_lambda% (aec ?_))
   refine no_implicit_lambda% (awd ?_)
   refine no_implicit_lambda% (aqs ?_ ?_)
   ·refine ⟨Int.natCast_nonneg n, trivial, ?_, Nat.le_refl _, brows l⟩
    simpa using hn
   refine k_as (.list ((l.drop n).map brow) .free) (by rw [Int.toNat_natCast, List.take_of_length_le (Nat.le_refl _), List.map_drop]) ?_
   refine no_implicit_lambda% (awd ?_)
   exact e_ret (H' := rd (l.drop n)) (rest := []) rfl (.inl ⟨hn, rfl, rfl⟩) (.of_eq rfl) (LE0 rfl)
  ·first | (exact zI) | (exact zJ)
def ubn : List UInt8 → Nat → Nat
 | [], a => a
 | c :: l, a => ubn l (a * 256 + c.toNat)
theorem u64_of {n : Nat} (h : n < 18446744073709551616) : IntKind.u64.wrap (n : Int) = n := by rw [IntKind.wrap_u64]; omega
theorem ofInt_nat {n : Nat} (h : n < 18446744073709551616) : (BitVec.ofInt IntKind.u64.bits (n : Int)).toNat = n := by
 show (BitVec.ofInt 64 (n : Int)).toNat = n
 rw [BitVec.toNat_ofInt]
 omega
theorem shift_in (a c : Nat) (ha : a * 256 + c < 18446744073709551616) (hc : c < 256) :
  IntKind.u64.wrap (BitVec.ofInt IntKind.u64.bits (IntKind.u64.wrap ((a : Int) * 2 ^ min (Int.toNat 8) IntKind.u64.bits)) ||| BitVec.ofInt IntKind.u64.bits (IntKind.u64.wrap (c : Int))).toNat = ((a * 256 + c : Nat) : Int) := by
 have k1 : a * 256 < 18446744073709551616 := Nat.lt_of_le_of_lt (Nat.le_add_right _ _) ha
 have k2 : c < 18446744073709551616 := Nat.lt_of_le_of_lt (Nat.le_add_left _ _) ha
 have k3 : c < 2 ^ 8 := hc
 have e1 : (a : Int) * 2 ^ min (Int.toNat 8) IntKind.u64.bits = ((a * 256 : Nat) : Int) := by
  have : min (Int.toNat 8) IntKind.u64.bits = 8 := rfl
  rw [this, Int.natCast_mul]
  have : (2 : Int) ^ 8 = ((256 : Nat) : Int) := by decide
  rw [this]
 rw [e1, u64_of k1, u64_of k2, BitVec.toNat_or, ofInt_nat k1, ofInt_nat k2]
 have e2 : a * 256 = a <<< 8 := by rw [Nat.shiftLeft_eq]
 rw [e2, ← Nat.shiftLeft_add_eq_or_of_lt k3, ← e2]
 exact u64_of ha
def numSt (l r : List UInt8) (n a i : Nat) : ASt :=
 ⟨[.ptr 0 0, .v (.int .i64 n), .dead, .dead, .v (.int .u64 0), .v (.int .u64 a), .dead, .dead, .dead, .dead, .list (l.map brow) .free, .v (.int .i64 l.length), .v (.int .i64 i), .dead, .dead, .dead, .dead, .dead, .dead, .dead, .dead, .dead, .dead], rd r, 2⟩
theorem number_c (l : List UInt8) (n : Nat) (hn : n ≤ 8) (h : l.length < 70368744177664) : ACalls Tryz.prog 173 1 2 [.ptr 0 0, .v (.int .i64 n)] (rd l) (fun out H' => (n ≤ l.length ∧ out = .ret (.v (.int .u64 (ubn (l.take n) 0))) ∧ H' = rd (l.drop n)) ∨ (l.length < n ∧ out = gone ∧ H' = [])) := by
 refine no_implicit_lambda% (acalls_of tok dok (f := 173) ⟨Tryz.func173, rfl, by kernel_rfl⟩ ?_); refine no_implicit_lambda% (c_start (fun _ h => h) ?_)
 refine no_implicit_lambda% (awd ?_)
 refine no_implicit_lambda% (cal [0] (take_c l n h) ?_ ?_)
 ·intro x H' h; rcases h with ⟨hg, h1, h2⟩ | ⟨hg, h1, h2⟩ <;> first | (cases h1; done) | (cases h1; subst h2)
  refine no_implicit_lambda% (akc ?_)
  refine no_implicit_lambda% (awd ?_)
  refine c_loop2 (numSt (l.take n) (l.drop n) n) (fun a i => i ≤ (l.take n).length ∧ a < 256 ^ i ∧ ubn ((l.take n).drop i) a = ubn (l.take n) 0) (fun _ i => (l.take n).length - i) 0 0 ⟨Nat.zero_le _, by decide, rfl⟩ (.to [] ?_ (.of_eq ?_) (LE0 rfl)) ?_
  ·unfold numSt
   (repeat' (first | (with_reducible exact .nil) | (refine no_implicit_lambda% (.cons ?_ ?_)) | (exact Wk.dead _) | (with_reducible exact Wk.refl _) | (exact WkL.nil))) <;> first | (exact Wk.eq rfl) | (exact Wk.free _ _) | (exact Wk.int (w64 (by omega) (by omega))) | (exact Wk.int (by simp)) | (exact Wk.int (by simp; omega)) | (exact Wk.eq (by simp))
  ·rfl
  ·rintro a i ⟨h1, h2, h3⟩
   refine no_implicit_lambda% (c_turn (fun _ h => h) (fun _ h => h) rfl ?_)
   refine no_implicit_lambda% (awd ?_)
   generalize hL : l.take n = q at *
   ((with_reducible refine no_implicit_lambda% (zB ?_)); refine no_implicit_lambda% (zE rfl (fun hc => ?_) (fun hc => ?_)))
   ·simp only [decide_eq_true_eq] at hc
    have hi : i < q.length := by omega
    have h8 : (q[i]).toNat < 256 := (q[i]).toNat_lt
    have hq : q.length ≤ n := by rw [← hL]; simp [Nat.min_le_left]
    have hb : a * 256 + (q[i]).toNat < 18446744073709551616 := by
     have h5 : 256 ^ i ≤ 256 ^ 7 := Nat.pow_le_pow_right (by decide) (by omega)
     have h6 : (256 : Nat) ^ 7 = 72057594037927936 := by decide
     omega
    refine no_implicit_lambda% (awd ?_)
    (with_reducible refine no_implicit_lambda% (zC ?_)); refine no_implicit_lambda% (a_qS rfl (qIx (row := [.v (.int .u8 (q[i]).toNat)]) (fun _ h => h)) ?_ ?_)
    ·exact ⟨Int.natCast_nonneg i, (by rw [Int.toNat_natCast, List.getElem?_map, List.getElem?_eq_getElem hi]; rfl), rfl⟩
    refine no_implicit_lambda% (awd ?_)
    refine k_loop (a * 256 + (q[i]).toNat, i + 1) ⟨hi, ?_, ?_⟩ (by show q.length - (i + 1) < q.length - i; omega) (.to [] ?_ (.of_eq rfl) (LE0 rfl))
    ·show a * 256 + (q[i]).toNat < 256 ^ (i + 1)
     rw [Nat.pow_succ]; omega
    ·show ubn (q.drop (i + 1)) (a * 256 + (q[i]).toNat) = ubn q 0
     rw [← h3, List.drop_eq_getElem_cons hi]; rfl
    ·unfold numSt
     repeat' (first | (with_reducible exact .nil) | (refine no_implicit_lambda% (.cons ?_ ?_)) | (exact Wk.dead _) | (with_reducible exact Wk.refl _) | (exact WkL.nil))
     ·exact .int (shift_in a _ hb h8)
     ·exact .int (w64 (by omega) (by omega))
   ·refine no_implicit_lambda% (awd ?_)
    simp only [decide_eq_false_iff_not] at hc
    have hi : i = q.length := by omega
    subst hi
    have h4 : a = ubn q 0 := by simpa [ubn] using h3
    exact e_ret (H' := rd (l.drop n)) (rest := []) rfl (.inl ⟨hg, by rw [h4]; rfl, rfl⟩) (.of_eq rfl) (LE0 rfl)
 ·intro x H' h; rcases h with ⟨hg, h1, h2⟩ | ⟨hg, h1, h2⟩ <;> first | (cases h1; done) | (cases h1; subst h2)
  refine no_implicit_lambda% (awd ?_)
  exact e_pan (H' := []) (rest := _) (.inr ⟨hg, rfl, rfl⟩) (.of_eq rfl) (LE0 rfl)
theorem ubn_lt : ∀ (l : List UInt8) (a : Nat), ubn l a < (a + 1) * 256 ^ l.length
 | [], a => by simp [ubn]
 | c :: l, a => by
  have h := ubn_lt l (a * 256 + c.toNat)
  have hc := c.toNat_lt
  rw [ubn, List.length_cons, Nat.pow_succ, Nat.mul_comm (256 ^ l.length) 256, ← Nat.mul_assoc]
  exact Nat.lt_of_lt_of_le h (Nat.mul_le_mul_right _ (by omega))
theorem ubn_take (l : List UInt8) (n : Nat) : ubn (l.take n) 0 < 256 ^ n := by
 have h := ubn_lt (l.take n) 0
 rw [Nat.zero_add, Nat.one_mul] at h
 exact Nat.lt_of_lt_of_le h (Nat.pow_le_pow_right (by decide) (by simp [Nat.min_le_left]))
theorem rByte_c (l : List UInt8) (h : l.length < 70368744177664) : ACalls Tryz.prog 130 1 2 [.ptr 0 0] (rd l) (fun out H' => (1 ≤ l.length ∧ out = .ret (.v (.int .u8 (ubn (l.take 1) 0))) ∧ H' = rd (l.drop 1)) ∨ (l.length < 1 ∧ out = gone ∧ H' = [])) := by
 refine no_implicit_lambda% (acalls_of tok dok (f := 130) ⟨Tryz.func130, rfl, by kernel_rfl⟩ ?_); refine no_implicit_lambda% (c_start (fun _ h => h) ?_)
 refine no_implicit_lambda% (awd ?_)
 refine no_implicit_lambda% (cal [0] (number_c l 1 (by decide) h) ?_ ?_)
 ·intro x H' h; rcases h with ⟨hg, h1, h2⟩ | ⟨hg, h1, h2⟩ <;> first | (cases h1; done) | (cases h1; subst h2)
  refine no_implicit_lambda% (akc ?_)
  refine no_implicit_lambda% (awd ?_)
  have hb := ubn_take l 1
  rw [show IntKind.u8.wrap (ubn (l.take 1) 0 : Int) = ubn (l.take 1) 0 by rw [IntKind.wrap_u8]; omega]
  exact e_ret (H' := rd (l.drop 1)) (rest := []) rfl (.inl ⟨hg, rfl, rfl⟩) (.of_eq rfl) (LE0 rfl)
 ·intro x H' h; rcases h with ⟨hg, h1, h2⟩ | ⟨hg, h1, h2⟩ <;> first | (cases h1; done) | (cases h1; subst h2)
  refine no_implicit_lambda% (awd ?_)
  exact e_pan (H' := []) (rest := _) (.inr ⟨hg, rfl, rfl⟩) (.of_eq rfl) (LE0 rfl)
theorem rNum_c (l : List UInt8) (h : l.length < 70368744177664) : ACalls Tryz.prog 131 1 2 [.ptr 0 0] (rd l) (fun out H' => (4 ≤ l.length ∧ out = .ret (.v (.int .u32 (ubn (l.take 4) 0))) ∧ H' = rd (l.drop 4)) ∨ (l.length < 4 ∧ out = gone ∧ H' = [])) := by
 refine no_implicit_lambda% (acalls_of tok dok (f := 131) ⟨Tryz.func131, rfl, by kernel_rfl⟩ ?_); refine no_implicit_lambda% (c_start (fun _ h => h) ?_)
 refine no_implicit_lambda% (awd ?_)
 refine no_implicit_lambda% (cal [0] (number_c l 4 (by decide) h) ?_ ?_)
 ·intro x H' h; rcases h with ⟨hg, h1, h2⟩ | ⟨hg, h1, h2⟩ <;> first | (cases h1; done) | (cases h1; subst h2)
  refine no_implicit_lambda% (akc ?_)
  refine no_implicit_lambda% (awd ?_)
  have hb := ubn_take l 4
  rw [show IntKind.u32.wrap (ubn (l.take 4) 0 : Int) = ubn (l.take 4) 0 by rw [IntKind.wrap_u32]; omega]
  exact e_ret (H' := rd (l.drop 4)) (rest := []) rfl (.inl ⟨hg, rfl, rfl⟩) (.of_eq rfl) (LE0 rfl)
 ·intro x H' h; rcases h with ⟨hg, h1, h2⟩ | ⟨hg, h1, h2⟩ <;> first | (cases h1; done) | (cases h1; subst h2)
  refine no_implicit_lambda% (awd ?_)
  exact e_pan (H' := []) (rest := _) (.inr ⟨hg, rfl, rfl⟩) (.of_eq rfl) (LE0 rfl)
theorem rLong_c (l : List UInt8) (h : l.length < 70368744177664) : ACalls Tryz.prog 151 1 2 [.ptr 0 0] (rd l) (fun out H' => (8 ≤ l.length ∧ out = .ret (.v (.int .u64 (ubn (l.take 8) 0))) ∧ H' = rd (l.drop 8)) ∨ (l.length < 8 ∧ out = gone ∧ H' = [])) := by
 refine no_implicit_lambda% (acalls_of tok dok (f := 151) ⟨Tryz.func151, rfl, by kernel_rfl⟩ ?_); refine no_implicit_lambda% (c_start (fun _ h => h) ?_)
 refine no_implicit_lambda% (awd ?_)
 refine no_implicit_lambda% (cal [0] (number_c l 8 (by decide) h) ?_ ?_)
 ·intro x H' h; rcases h with ⟨hg, h1, h2⟩ | ⟨hg, h1, h2⟩ <;> first | (cases h1; done) | (cases h1; subst h2)
  refine no_implicit_lambda% (akc ?_)
  refine no_implicit_lambda% (awd ?_)
  exact e_ret (H' := rd (l.drop 8)) (rest := []) rfl (.inl ⟨hg, rfl, rfl⟩) (.of_eq rfl) (LE0 rfl)
 ·intro x H' h; rcases h with ⟨hg, h1, h2⟩ | ⟨hg, h1, h2⟩ <;> first | (cases h1; done) | (cases h1; subst h2)
  refine no_implicit_lambda% (awd ?_)
  exact e_pan (H' := []) (rest := _) (.inr ⟨hg, rfl, rfl⟩) (.of_eq rfl) (LE0 rfl)
theorem canon2 (b : Nat) : canonB (canonB b) = canonB b := by
 have h : nanB 9221120237041090561 = true := by decide
 unfold canonB
 cases hb : nanB b <;> simp [hb, h]
def fOk (l : List UInt8) : Prop := 8 ≤ l.length ∧ canonB (ubn (l.take 8) 0) = ubn (l.take 8) 0
theorem rFloat_c (l : List UInt8) (h : l.length < 70368744177664) : ACalls Tryz.prog 183 1 2 [.ptr 0 0] (rd l) (fun out H' => (fOk l ∧ out = .ret (.v (.float .f64 (ubn (l.take 8) 0))) ∧ H' = rd (l.drop 8)) ∨ (¬ fOk l ∧ out = gone ∧ H' = [])) := by
 refine no_implicit_lambda% (acalls_of tok dok (f := 183) ⟨Tryz.func183, rfl, by kernel_rfl⟩ ?_); refine no_implicit_lambda% (c_start (fun _ h => h) ?_)
 refine no_implicit_lambda% (awd ?_)
 refine no_implicit_lambda% (cal [0] (rLong_c l h) ?_ ?_)
 ·intro x H' h; rcases h with ⟨hg, h1, h2⟩ | ⟨hg, h1, h2⟩ <;> first | (cases h1; done) | (cases h1; subst h2)
  refine no_implicit_lambda% (akc ?_)
  refine no_implicit_lambda% (awd ?_)
  refine no_implicit_lambda% (cal [] (from_c (ubn (l.take 8) 0)) ?_ ?_)
  ·refine no_implicit_lambda% (ret1 ?_); first | (refine no_implicit_lambda% (akc ?_)) | (refine no_implicit_lambda% (aec ?_))
   refine no_implicit_lambda% (awd ?_)
   refine no_implicit_lambda% (cal [] (bits_c _) ?_ ?_)
   ·refine no_implicit_lambda% (ret1 ?_); first | (refine no_implicit_lambda% (akc ?_)) | (refine no_implicit_lambda% (aec ?_))
    refine no_implicit_lambda% (awd ?_)
    ((with_reducible refine no_implicit_lambda% (zB ?_)); refine no_implicit_lambda% (zE rfl (fun hc => ?_) (fun hc => ?_)))
    ·rw [canon2] at hc; simp at hc
     refine no_implicit_lambda% (awd ?_)
     refine no_implicit_lambda% (cal [0] (fail_c (l.drop 8)) ?_ ?_)
     ·first | (exact zI) | (exact zJ)
     ·intro x H' h
      obtain ⟨h1, h2⟩ := h
      cases h1; subst h2
      refine no_implicit_lambda% (awd ?_)
      exact e_pan (H' := []) (rest := _) (.inr ⟨fun hf => hc (by first | exact hf.2 | rw [hf.2]), rfl, rfl⟩) (.of_eq rfl) (LE0 rfl)
    ·rw [canon2] at hc; simp at hc
     refine no_implicit_lambda% (awd ?_)
     have hf : canonB (ubn (l.take 8) 0) = ubn (l.take 8) 0 := Int.ofNat_inj.1 hc
     exact e_ret (H' := rd (l.drop 8)) (rest := []) rfl (.inl ⟨⟨hg, hf⟩, by rw [hf]; rfl, rfl⟩) (.of_eq rfl) (LE0 rfl)
   ·first | (exact zI) | (exact zJ)
  ·first | (exact zI) | (exact zJ)
 ·intro x H' h; rcases h with ⟨hg, h1, h2⟩ | ⟨hg, h1, h2⟩ <;> first | (cases h1; done) | (cases h1; subst h2)
  refine no_implicit_lambda% (awd ?_)
  exact e_pan (H' := []) (rest := _) (.inr ⟨fun hf => by have := hf.1; omega, rfl, rfl⟩) (.of_eq rfl) (LE0 rfl)
def tOk (l : List UInt8) (most : Int) : Prop := 4 ≤ l.length ∧ ubn (l.take 4) 0 ≤ 1048576 ∧ (0 ≤ most → (ubn (l.take 4) 0 : Int) ≤ most) ∧ ubn (l.take 4) 0 ≤ (l.drop 4).length
theorem rText_c (l : List UInt8) (most : Int) (h : l.length < 70368744177664) : ACalls Tryz.prog 132 1 3 [.ptr 0 0, .v (.int .i64 most)] (rd l) (fun out H' => (tOk l most ∧ out = .ret (.list (((l.drop 4).take (ubn (l.take 4) 0)).map brow) .free) ∧ H' = rd ((l.drop 4).drop (ubn (l.take 4) 0))) ∨ (¬ tOk l most ∧ out = gone ∧ H' = [])) := by
 refine no_implicit_lambda% (acalls_of tok dok (f := 132) ⟨Tryz.func132, rfl, by kernel_rfl⟩ ?_); refine no_implicit_lambda% (c_start (fun _ h => h) ?_)
 refine no_implicit_lambda% (awd ?_)
 refine no_implicit_lambda% (cal [0] (rNum_c l h) ?_ ?_)
 ·intro x H' h; rcases h with ⟨hg, h1, h2⟩ | ⟨hg, h1, h2⟩ <;> first | (cases h1; done) | (cases h1; subst h2)
  refine no_implicit_lambda% (akc ?_)
  refine no_implicit_lambda% (awd ?_)
  have hb := ubn_take l 4
  rw [show IntKind.i64.wrap (ubn (l.take 4) 0 : Int) = ubn (l.take 4) 0 by rw [w64] <;> omega]
  repeat' (first | (refine no_implicit_lambda% (zH ?_)) | (((with_reducible refine no_implicit_lambda% (zA ?_)); refine no_implicit_lambda% (zD rfl rfl rfl (fun hc => ?_) (fun hc => ?_)) <;> rw [hc])) | (((with_reducible refine no_implicit_lambda% (zB ?_)); refine no_implicit_lambda% (zE rfl (fun hc => ?_) (fun hc => ?_)))) | (((with_reducible refine no_implicit_lambda% (zC ?_)); refine no_implicit_lambda% (zF rfl rfl (fun hc => ?_) (fun hc => ?_)) <;> rw [hc])) | fail)
  ·have hno : ¬ tOk l most := fun hf => by obtain ⟨_, h2, _⟩ := hf; simp at *; omega
   refine no_implicit_lambda% (cal [0] (fail_c (l.drop 4)) ?_ ?_)
   ·first | (exact zI) | (exact zJ)
   ·intro x H' h
    obtain ⟨h1, h2⟩ := h
    cases h1; subst h2
    refine no_implicit_lambda% (awd ?_)
    exact e_pan (H' := []) (rest := _) (.inr ⟨hno, rfl, rfl⟩) (.of_eq rfl) (LE0 rfl)
  ·have hno : ¬ tOk l most := fun hf => by obtain ⟨_, _, h3, _⟩ := hf; simp at *; omega
   refine no_implicit_lambda% (cal [0] (fail_c (l.drop 4)) ?_ ?_)
   ·first | (exact zI) | (exact zJ)
   ·intro x H' h
    obtain ⟨h1, h2⟩ := h
    cases h1; subst h2
    refine no_implicit_lambda% (awd ?_)
    exact e_pan (H' := []) (rest := _) (.inr ⟨hno, rfl, rfl⟩) (.of_eq rfl) (LE0 rfl)
  ·have hk : 4 ≤ l.length ∧ ubn (l.take 4) 0 ≤ 1048576 ∧ (0 ≤ most → (ubn (l.take 4) 0 : Int) ≤ most) := by simp at *; omega
   refine no_implicit_lambda% (cal [0] (take_c (l.drop 4) (ubn (l.take 4) 0) (by simp; omega)) ?_ ?_)
   ·intro x H' h; rcases h with ⟨hg, h1, h2⟩ | ⟨hg, h1, h2⟩ <;> first | (cases h1; done) | (cases h1; subst h2)
    refine no_implicit_lambda% (akc ?_)
    refine no_implicit_lambda% (awd ?_)
    exact e_ret (H' := rd ((l.drop 4).drop (ubn (l.take 4) 0))) (rest := []) rfl (.inl ⟨⟨hk.1, hk.2.1, hk.2.2, hg⟩, rfl, rfl⟩) (.of_eq rfl) (LE0 rfl)
   ·intro x H' h; rcases h with ⟨hg, h1, h2⟩ | ⟨hg, h1, h2⟩ <;> first | (cases h1; done) | (cases h1; subst h2)
    refine no_implicit_lambda% (awd ?_)
    exact e_pan (H' := []) (rest := _) (.inr ⟨fun hf => by have := hf.2.2.2; omega, rfl, rfl⟩) (.of_eq rfl) (LE0 rfl)
  ·have hk : 4 ≤ l.length ∧ ubn (l.take 4) 0 ≤ 1048576 ∧ (0 ≤ most → (ubn (l.take 4) 0 : Int) ≤ most) := by simp at *; omega
   refine no_implicit_lambda% (cal [0] (take_c (l.drop 4) (ubn (l.take 4) 0) (by simp; omega)) ?_ ?_)
   ·intro x H' h; rcases h with ⟨hg, h1, h2⟩ | ⟨hg, h1, h2⟩ <;> first | (cases h1; done) | (cases h1; subst h2)
    refine no_implicit_lambda% (akc ?_)
    refine no_implicit_lambda% (awd ?_)
    exact e_ret (H' := rd ((l.drop 4).drop (ubn (l.take 4) 0))) (rest := []) rfl (.inl ⟨⟨hk.1, hk.2.1, hk.2.2, hg⟩, rfl, rfl⟩) (.of_eq rfl) (LE0 rfl)
   ·intro x H' h; rcases h with ⟨hg, h1, h2⟩ | ⟨hg, h1, h2⟩ <;> first | (cases h1; done) | (cases h1; subst h2)
    refine no_implicit_lambda% (awd ?_)
    exact e_pan (H' := []) (rest := _) (.inr ⟨fun hf => by have := hf.2.2.2; omega, rfl, rfl⟩) (.of_eq rfl) (LE0 rfl)
 ·intro x H' h; rcases h with ⟨hg, h1, h2⟩ | ⟨hg, h1, h2⟩ <;> first | (cases h1; done) | (cases h1; subst h2)
  refine no_implicit_lambda% (awd ?_)
  exact e_pan (H' := []) (rest := _) (.inr ⟨fun hf => by have := hf.1; omega, rfl, rfl⟩) (.of_eq rfl) (LE0 rfl)
theorem ubn_app : ∀ (l m : List UInt8) (a : Nat), ubn (l ++ m) a = ubn m (ubn l a)
 | [], m, a => rfl
 | c :: l, m, a => by simp [ubn, ubn_app l m]
theorem cut_c (b : List UInt8) (n : Nat) (hn : n < 1000) : ACalls Tryz.prog 10 0 0 [.list (b.map brow) .free, .v (.int .i64 n)] [] (fun out H' => out = .ret (.list ((b.take n).map brow) .free) ∧ H' = []) := by
 refine no_implicit_lambda% (acalls_of tok dok (f := 10) ⟨Tryz.func10, rfl, by kernel_rfl⟩ ?_); refine no_implicit_lambda% (c_start (fun _ h => h) ?_)
 refine no_implicit_lambda% (awd ?_)
 ((with_reducible refine no_implicit_lambda% (zB ?_)); refine no_implicit_lambda% (zE rfl (fun hc => ?_) (fun hc => ?_)))
 ·simp only [List.length_map, gt_iff_lt, decide_eq_true_eq] at hc
  refine no_implicit_lambda% (awd ?_)
  refine no_implicit_lambda% (aqs ?_ ?_)
  ·refine ⟨trivial, Int.natCast_nonneg n, Nat.zero_le _, ?_, brows b⟩
   simp; omega
  refine k_as (.list ((b.take n).map brow) .free) (by simp [List.map_take, orFull, isFull, isNone]) ?_
  refine no_implicit_lambda% (awd ?_)
  exact e_ret (H' := []) rfl ⟨rfl, rfl⟩ (.refl _) (LE0 rfl)
 ·simp only [List.length_map, gt_iff_lt, decide_eq_false_iff_not] at hc
  refine no_implicit_lambda% (awd ?_)
  exact e_ret (H' := []) rfl ⟨by rw [List.take_of_length_le (by omega)]; rfl, rfl⟩ (.refl _) (LE0 rfl)
end Go.Proofs.YtncffhgoopdfgaaGreat
namespace Go.Am
open Go.RowKit
section
variable {P : Program} {TT : Types} {B : Base}
theorem rel_start {G : Ghost} {w : World} {vals : Array Value} {H : Heap} {k m : Nat} {args : List AV} (hk : ∀ id, G.live id → id < k) (hbase : G.base = w.heap.size) (hh : Holds G w H) (hlen : args.length = vals.size) (hsim : ∀ i a, args[i]? = some a → Sim G a (vals.getD i undef)) :
  Rel ⟨G, w, H, k, []⟩ No G ⟨args ++ List.replicate (m - args.length) .dead, H, k⟩ { tmps := vals ++ Array.replicate (m - vals.size) undef, defers := [] } w := by
 refine ⟨by simp [hlen], fun t _ => ?_, rfl, hh, Step.refl _ _ _, hk, by rw [hbase]; exact Nat.le_refl _, Nat.le_refl _, fun id hid => .inl hid⟩
 rw [getA_eq]
 by_cases ht : t < args.length
 ·have e1 : (args ++ List.replicate (m - args.length) AV.dead).getD t .dead = args[t] := by simp [List.getElem?_append, ht]
  have e2 : (vals ++ Array.replicate (m - vals.size) undef).getD t undef = vals.getD t undef := by
   have : t < vals.size := by omega
   rw [Array.getD_eq_getD_getElem?, Array.getElem?_append_left this, Array.getD_eq_getD_getElem?]
  rw [e1, e2]
  exact .of (hsim t _ (List.getElem?_eq_getElem ht))
 ·have e1 : (args ++ List.replicate (m - args.length) AV.dead).getD t .dead = .dead := by
   rw [List.getD, List.getElem?_append_right (by omega), List.getElem?_replicate]
   split <;> rfl
  rw [e1]
  exact .of (.data _ _ (.dead _))
theorem Rel.anew {G : Ghost} {σ : ASt} {a : Act} {w : World} (h : Rel B No G σ a w) : Rel ⟨G, w, σ.L, σ.next, B.D⟩ No G σ a w :=
 ⟨h.size, h.slots, h.defers, h.holds, Step.refl _ _ _, h.next, h.base, Nat.le_refl _, fun id hid => .inl hid⟩
theorem Rel.join {G2 G3 : Ghost} {σ τ : ASt} {a a3 : Act} {w w3 : World} {D : List Deferred} (h : Rel B No G2 σ a w) (h2 : Rel ⟨G2, w, σ.L, σ.next, D⟩ No G3 τ a3 w3) : Rel ⟨B.G, B.w, B.H, B.k, D⟩ No G3 τ a3 w3 :=
 ⟨h2.size, h2.slots, h2.defers, h2.holds, h.step.trans h2.step, h2.next, h2.base, Nat.le_trans h.low h2.low, fun id hid => (h2.old id hid).elim (h.old id) fun k => .inr (Nat.le_trans h.low k)⟩
theorem Rel.perm {G : Ghost} {s : List AV} {L L' : Heap} {n : Nat} {a : Act} {w : World} (hr : Rel B No G ⟨s, L, n⟩ a w) (hp : L.Perm L') : Rel B No G ⟨s, L', n⟩ a w :=
 ⟨hr.size, hr.slots, hr.defers, hr.holds.perm hp, hr.step.perm (.refl _) hp, hr.next, hr.base, hr.low, hr.old⟩
def keepH (m : Nat) (H : Heap) : Prop := ∀ f : Nat → Nat, (∀ i, i < m → f i = i) → renH f H = H
def keepL (m : Nat) (l : List AV) : Prop := ∀ f : Nat → Nat, (∀ i, i < m → f i = i) → AV.renL f l = l
def idsTo (m j : Nat) : List Nat := List.range m ++ [j]
theorem idsTo_lt {m j n i : Nat} (h : i < m) : rn (idsTo m j) n i = i := by
 unfold rn idsTo
 rw [List.getElem?_append_left (by simpa using h)]
 simp [h]
theorem idsTo_at {m j n : Nat} : rn (idsTo m j) n m = j := by
 unfold rn idsTo
 rw [List.getElem?_append_right (by simp)]
 simp
theorem idsTo_nodup {m j : Nat} (h : m ≤ j) : (idsTo m j).Nodup := by
 unfold idsTo
 rw [List.nodup_append]
 refine ⟨List.nodup_range, by simp, fun a ha b hb => ?_⟩
 simp at ha hb
 omega
def thenK (B : Base) (next : Act → World → Prop) : Kc := fun e s L n => e = .normal ∧ ∀ G' a' w', Rel B No G' ⟨s, L, n⟩ a' w' → next a' w'
theorem wp_then (hT : TOk P TT) {d : Nat → List Oper → List AV → Heap → Nat → Kc → Prop} (hD : DOk P d) {c : Code} {s : List AV} {L : Heap} {n : Nat} {G : Ghost} {a : Act} {w : World} {next : Act → World → Prop} {Q : Exit → Act → World → Prop}
  (hr : Rel B No G ⟨s, L, n⟩ a w) (h : acode P TT ⟨d, fun _ => False⟩ c s L n (thenK B next)) : c.wp P (Exit.then next Q) a w :=
 wp_mono (acode_sound0 hT hD c s L n _ G a w h hr) fun e a' w' ⟨e', s', L', n', G', k1, k2, k3⟩ => by
  obtain ⟨rfl, k1⟩ := k1
  cases e <;> first | exact k2.elim | exact k1 G' a' w' k3
theorem defer_run {o : Oper} {c : Call} {x : Operand} {f : FuncId} {vs : Array Value} {ρ : Operand → Value} {w : World} (ho : o.op = .defer c) (hc : c.callee = .value x) (ha : c.args = #[]) (hx : ρ x = .func (.func f) #[] vs) :
  (execOp ρ o).run P w = .ok (.defer ⟨.fn (.func f) vs, #[]⟩) w := by
 simp only [execOp, ho, resolve, hc, hx, ha, Deferred.ofValue]
 simp [Sem.run_bind, Sem.run_pure, Result.andThen]
theorem wpL_at (hT : TOk P TT) {ops : Array Oper} {rest : List Oper} {o : Oper} {s : List AV} {L : Heap} {n : Nat} {G : Ghost} {a : Act} {w : World} {Q : Exit → Act → World → Prop} (hr : Rel B No G ⟨s, L, n⟩ a w) (hg : o.guard = none)
  (h : aop P TT o s L n (fun x L' n' => putD s o.dst x fun s' => ∀ G' a' w', Rel B No G' ⟨s', L', n'⟩ a' w' → wpList P ops Q rest a' w') (fun _ _ _ => False)) : wpList P ops Q (o :: rest) a w := by
 unfold wpList
 rw [if_pos (by simp [Region.wanted, hg])]
 refine .inl (aop_sound hT hr (fun _ _ h => h) h ⟨fun x L' n' v G' w' k1 k2 k3 k4 => ?_, fun _ _ _ _ _ _ k => k.elim⟩)
 simp only [putD_eq] at k1
 exact k1 G' _ w' ((k4.put o.dst k2).weakU fun t ht => ht.1)
theorem wpL_defer {ops : Array Oper} {rest : List Oper} {o : Oper} {c : Call} {x : Operand} {f : FuncId} {cap : List AV} {s : List AV} {L : Heap} {n : Nat} {G : Ghost} {a : Act} {w : World} {Q : Exit → Act → World → Prop} (hr : Rel B No G ⟨s, L, n⟩ a w) (hg : o.guard = none) (hd : o.dst = none)
  (ho : o.op = .defer c) (hc : c.callee = .value x) (ha : c.args = #[]) (hx : ev s x = .fn f cap)
  (hn : ∀ vs a', cap.length = vs.size → (∀ i b, cap[i]? = some b → Sim G b (vs.getD i undef)) → Rel ⟨B.G, B.w, B.H, B.k, ⟨.fn (.func f) vs, #[]⟩ :: B.D⟩ No G ⟨s, L, n⟩ a' w → wpList P ops Q rest a' w) : wpList P ops Q (o :: rest) a w := by
 unfold wpList
 rw [if_pos (by simp [Region.wanted, hg])]
 have h1 := (hr.op (x := x) (fun _ _ h => h)).1
 rw [hx] at h1
 obtain ⟨vs, h2, h3, h4⟩ := h1.fn_inv
 refine .inl ?_
 unfold Oper.wp
 rw [defer_run ho hc ha h2, Oper.upon_defer, hd]
 exact hn vs _ h3 h4 ⟨hr.size, hr.slots, by rw [← hr.defers]; rfl, hr.holds, hr.step, hr.next, hr.base, hr.low, hr.old⟩
end
end Go.Am
namespace Go.Proofs.YtncffhgoopdfgaaGreat
open Go.Am
set_option maxRecDepth 100000
theorem dRel {G : Ghost} {w : World} {L : Heap} {n ic io : Nat} {vs : Array Value} {B : Base} {s : List AV} {a0 : Act} (hr : Rel B No G ⟨s, L, n⟩ a0 w) (hvs : 2 = vs.size) (h0 : Sim G (.ptr ic 0) (vs.getD 0 undef)) (h1 : Sim G (.ptr io 0) (vs.getD 1 undef)) {x : AV} (v : Value) (hx : Sim G x v) :
  Rel ⟨G, w, L, n, []⟩ No G ⟨[.ptr ic 0, .ptr io 0, x, x, .dead, .dead, .dead, .dead, .dead, .dead, .dead, .dead], L, n⟩ { tmps := ((vs ++ Array.replicate (12 - vs.size) undef).setIfInBounds 3 v).setIfInBounds 2 (if 3 < vs.size + (12 - vs.size) then v else undef), defers := [] } w := by
 have hex : ∃ x0 x1, vs = #[x0, x1] := by
  obtain ⟨l⟩ := vs
  match l, hvs with
  | [x0, x1], _ => exact ⟨x0, x1, rfl⟩
 obtain ⟨x0, x1, rfl⟩ := hex
 have e : ((#[x0, x1] ++ Array.replicate (12 - (#[x0, x1] : Array Value).size) undef).setIfInBounds 3 v).setIfInBounds 2 (if 3 < (#[x0, x1] : Array Value).size + (12 - (#[x0, x1] : Array Value).size) then v else undef) = #[x0, x1, v, v, undef, undef, undef, undef, undef, undef, undef, undef] := by
  generalize undef = u
  rfl
 rw [e]
 refine ⟨rfl, fun t _ => ?_, rfl, hr.holds, Step.refl _ _ _, hr.next, hr.base, Nat.le_refl _, fun id h => .inl h⟩
 match t with
 | 0 => exact .of h0
 | 1 => exact .of h1
 | 2 => exact .of hx
 | 3 => exact .of hx
 | 4 | 5 | 6 | 7 | 8 | 9 | 10 | 11 => exact .of (.data _ _ (.dead _))
 | t + 12 => exact .of (.data _ _ (.dead _))
def restK (L1 : Heap) (n1 : Nat) : Kc := fun e s L n => e = .normal ∧ L = L1 ∧ n = n1
theorem readD {G : Ghost} {w : World} {L : Heap} {n m ic io : Nat} {vs : Array Value} {b : Bool} (B : Base) (s : List AV) (a0 : Act) (hr0 : Rel B No G ⟨s, L, n⟩ a0 w) (hvs : 2 = vs.size) (h0 : Sim G (.ptr ic 0) (vs.getD 0 undef)) (h1 : Sim G (.ptr io 0) (vs.getD 1 undef))
  (hc : findL L ic = some (.box [.ptr m 0])) (ho : findL L io = some (.box [.v (.bool b)])) :
  CallsD Tryz.prog 150 vs .returning w fun e u' w' => (∃ v, e = .returned v) ∧ u' = .returning ∧ ∃ G', Rel B No G' ⟨s, L, n⟩ a0 w' := by
 refine callsD_of_wpS Tryz.func150 rfl fun c₀ cs hu => ?_
 refine wpS_seq ?_
 refine wpS_region ?_
 refine (show wpOpsS Tryz.prog _ _ [0, 1] _ _ _ from ?_)
 have hrec : recoverD (c₀ :: cs) = none := by unfold recoverD; simp only [hu]
 simp [wpOpsS, Region.wanted, execOp, resolve, go_sem, hrec]
 refine wpS_of_wp ?_
 have hB2 : Rel ⟨G, w, L, n, []⟩ No G ⟨[.ptr ic 0, .ptr io 0, .v .nilIface, .v .nilIface, .dead, .dead, .dead, .dead, .dead, .dead, .dead, .dead], L, n⟩ _ w := dRel hr0 hvs h0 h1 .nilIface (.data _ _ (.v _))
 refine wp_mono (acode_sound0 tok dok _ _ _ _ (restK L n) _ _ _ ?_ hB2) ?_
 ·refine no_implicit_lambda% (awd ?_)
  (with_reducible refine zC ?_)
  refine a_q1 rfl (qFall true (fun _ h => h) (fun w => by rfl)) ?_
  refine no_implicit_lambda% (awd ?_)
  exact ⟨rfl, rfl, rfl⟩
 ·rintro e a' w' ⟨e', s', L', n', G', ⟨rfl, rfl, rfl⟩, k2, k3⟩
  cases e <;> first | exact k2.elim | skip
  refine ⟨k3.defers, .returning, by rw [← hu], .tuple #[], (by simp [results, Tryz.results150, go_sem]), ⟨_, rfl⟩, rfl, G', ?_⟩
  exact hr0.stepped k3.holds k3.step (Nat.le_refl _) fun id hid => ⟨k3.next id hid, (k3.old id hid).imp_right fun h => h⟩
theorem readDp {G : Ghost} {w : World} {L : Heap} {n m ic io : Nat} {vs : Array Value} {b : Bool} {v : Value} (B : Base) (s : List AV) (a0 : Act) (hr0 : Rel B No G ⟨s, L, n⟩ a0 w) (hvs : 2 = vs.size) (h0 : Sim G (.ptr ic 0) (vs.getD 0 undef)) (h1 : Sim G (.ptr io 0) (vs.getD 1 undef))
  (hv : Sim G (.iface 130 (.ptr m 0)) v) (hc : findL L ic = some (.box [.ptr m 0])) (ho : findL L io = some (.box [.v (.bool b)])) :
  CallsD Tryz.prog 150 vs (.panicking [{ v := v, recovered := false }]) w fun e u' w' => (∃ v, e = .returned v) ∧ settle u' = .returning ∧ ∃ G', Rel B No G' ⟨s, setL L io (.box [.v (.bool false)]), n⟩ a0 w' := by
 refine callsD_of_wpS Tryz.func150 rfl fun c₀ cs hu => ?_
 refine wpS_seq ?_
 refine wpS_region ?_
 refine (show wpOpsS Tryz.prog _ _ [0, 1] _ _ _ from ?_)
 have hrec : recoverD (c₀ :: cs) = some (v, { c₀ with mode := .panicking [{ v := v, recovered := true }] } :: cs) := by unfold recoverD; simp only [hu]
 simp [wpOpsS, Region.wanted, execOp, resolve, go_sem, hrec]
 refine wpS_of_wp ?_
 have hB2 : Rel ⟨G, w, L, n, []⟩ No G ⟨[.ptr ic 0, .ptr io 0, .iface 130 (.ptr m 0), .iface 130 (.ptr m 0), .dead, .dead, .dead, .dead, .dead, .dead, .dead, .dead], L, n⟩ _ w := dRel hr0 hvs h0 h1 v hv
 refine wp_mono (acode_sound0 tok dok _ _ _ _ (restK (setL L io (.box [.v (.bool false)])) n) _ _ _ ?_ hB2) ?_
 ·refine no_implicit_lambda% (awd ?_)
  (with_reducible refine zC ?_)
  refine a_q1 rfl (qIfN false (fun _ h => h) (fun u w => by rfl)) ?_
  refine no_implicit_lambda% (awd ?_)
  (with_reducible refine zC ?_)
  refine a_loadAt rfl rfl rfl hc rfl rfl ?_
  refine no_implicit_lambda% (awd ?_)
  (with_reducible refine zC ?_)
  refine a_q1 rfl (qIfP true (fun _ h => h) (fun u w => run_eql_iface_ptr_same (P := Tryz.prog) w ⟨u, 0, none⟩ rfl rfl rfl rfl rfl)) ?_
  refine no_implicit_lambda% (awd ?_)
  (with_reducible refine zC ?_)
  refine a_storeAt rfl rfl rfl ho rfl rfl rfl ?_
  refine no_implicit_lambda% (awd ?_)
  exact ⟨rfl, rfl, rfl⟩
 ·rintro e a' w' ⟨e', s', L', n', G', ⟨rfl, rfl, rfl⟩, k2, k3⟩
  cases e <;> first | exact k2.elim | skip
  refine ⟨k3.defers, _, rfl, .tuple #[], (by simp [results, Tryz.results150, go_sem]), ⟨_, rfl⟩, rfl, G', ?_⟩
  exact hr0.stepped k3.holds k3.step (Nat.le_refl _) fun id hid => ⟨k3.next id hid, (k3.old id hid).imp_right fun h => h⟩
theorem findL_here {i : Nat} {r : Res} {H : Heap} : findL ((i, r) :: H) i = some r := if_pos rfl
theorem findL_skip {i j : Nat} {r : Res} {H : Heap} (h : j ≠ i) : findL ((j, r) :: H) i = findL H i := if_neg h
abbrev rpan (m : Nat) : AOut := .panic (.iface 130 (.ptr m 0))
abbrev cbR (m : Nat) (Rok : List UInt8 → Heap → Prop) (Rbad : Heap → Prop) : AOut → Heap → Prop := fun out H' => (∃ (x : AV) (l' : List UInt8) (H1' : Heap), Rok l' H1' ∧ out = .ret x ∧ H' = (m, .box [.list (l'.map brow) .free]) :: H1') ∨ ∃ H1', Rbad H1' ∧ out = rpan m ∧ H' = H1'
def afterK (m nn : Nat) (Rok : List UInt8 → Heap → Prop) (Rbad : Heap → Prop) : Kc := fun e s L n =>
 n = nn ∧ s.getD 4 .dead = .ptr m 0 ∧ ((∃ l' H1', Rok l' H1' ∧ e = .ret ∧ L = (m, .box [.v (.bool (decide ((((l'.map brow).length : Nat) : Int) = 0)))]) :: (m + 2, .box [.ptr (m + 1) 0]) :: (m + 1, .box [.list (l'.map brow) .free]) :: H1') ∨
  (∃ H1', Rbad H1' ∧ e = .panic (.iface 130 (.ptr (m + 1) 0)) ∧ L = H1' ++ [(m, .box [.v (.bool false)]), (m + 2, .box [.ptr (m + 1) 0])]))
def RokG (m : Nat) (Rok : List UInt8 → Heap → Prop) (l' : List UInt8) (H' : Heap) : Prop := ∃ H1', Rok l' H1' ∧ H' = renH (rn (idsTo m (m + 1)) (m + 1 + 1 + 1)) H1'
def RbadG (m : Nat) (Rbad : Heap → Prop) (H' : Heap) : Prop := ∃ H1', Rbad H1' ∧ H' = renH (rn (idsTo m (m + 1)) (m + 1 + 1 + 1)) H1'
theorem read_g {cb : FuncId} {m top : Nat} {cap : List AV} {H1 : Heap} {l : List UInt8} {Rok : List UInt8 → Heap → Prop} {Rbad : Heap → Prop} (htop : m + 1 ≤ top)
  (hcb : ACalls Tryz.prog cb (m + 1) top (.ptr m 0 :: cap) ((m, .box [.list (l.map brow) .free]) :: H1) (cbR m Rok Rbad))
  (hcap : keepL m cap) (hH1 : keepH m H1) :
  ACalls Tryz.prog 78 m (top + 2) [.list (l.map brow) .free, .fn cb cap] H1 fun out H' => (∃ l', RokG m Rok l' H' ∧ out = .ret (.v (.bool (decide ((((l'.map brow).length : Nat) : Int) = 0))))) ∨ (RbadG m Rbad H' ∧ out = .ret (.v (.bool false))) := by
 intro G w vals hk hlits hbase hh hlen hsim
 left
 refine ⟨by rfl, ?_⟩
 refine calls_of_wp_defers Tryz.func78 rfl ?_
 have hr : Rel ⟨G, w, H1, m, []⟩ No G ⟨[.list (l.map brow) .free, .fn cb cap, .dead, .dead, .dead, .dead, .dead, .dead, .dead, .dead, .dead, .dead, .dead, .dead, .dead, .dead, .dead, .dead, .dead, .dead, .dead, .dead, .dead, .dead], H1, m⟩ _ w := rel_start (m := 24) hk hbase hh hlen hsim
 refine wp_seq (wp_then tok dok hr ?_)
 refine no_implicit_lambda% (awd ?_)
 refine ⟨rfl, fun G1 a1 w1 hr1 => ?_⟩
 refine wp_seq (wp_then tok dok hr1 ?_)
 refine no_implicit_lambda% (awd ?_)
 (with_reducible refine zC ?_)
 refine a_move (av := .fn cb cap) rfl rfl ?_
 refine no_implicit_lambda% (awd ?_)
 refine ⟨rfl, fun G2 a2 w2 hr2 => ?_⟩
 refine wp_seq (wp_then tok dok hr2 ?_)
 refine no_implicit_lambda% (awd ?_)
 (with_reducible refine zC ?_)
 refine a_storeAt rfl rfl rfl findL_here rfl rfl (cells' := [.ptr (m + 1) 0]) rfl ?_
 simp only [setL, if_true]
 refine no_implicit_lambda% (awd ?_)
 refine ⟨rfl, fun G3 a3 w3 hr3 => ?_⟩
 refine wp_seq (wp_region_list ?_)
 refine wpL_at tok hr3 rfl (a_q1 (av := .fn 150 [.ptr (m + 1 + 1) 0, .ptr m 0]) rfl (fun _ h => h) ?_)
 intro G4 a4 w4 hr4
 refine wpL_defer hr4 rfl rfl rfl rfl rfl rfl ?_
 intro vs a5 hvs hcs hr5
 show Code.wp _ _ _ a5 w4
 refine wp_mono (acode_sound0 tok dok _ _ _ _ (afterK m (top + 2) (RokG m Rok) (RbadG m Rbad)) _ _ _ ?_ hr5.anew) ?_
 ·refine no_implicit_lambda% (awd ?_)
  (with_reducible refine zC ?_)
  refine a_move (av := .fn cb cap) rfl rfl ?_
  refine no_implicit_lambda% (awd ?_)
  (with_reducible refine zC ?_)
  refine a_loadAt rfl rfl rfl findL_here rfl rfl ?_
  refine no_implicit_lambda% (awd ?_)
  (with_reducible refine zC ?_)
  refine a_callS rfl rfl rfl rfl (args := .ptr (m + 1) 0 :: cap) rfl ?_
  refine by_contract (idsTo m (m + 1)) hcb (by simp [idsTo]; exact ⟨fun i hi => by omega, htop⟩) (idsTo_nodup (by omega)) (.of_eq ?_) (rest := [(m, .box [.v (.bool false)]), (m + 1 + 1, .box [.ptr (m + 1) 0])]) ?_ ?_ ?_
  ·simp only [AV.renL, AV.ren, idsTo_at]
   rw [hcap _ fun i hi => idsTo_lt hi]
  ·simp only [renH, Res.ren, AV.renL, AV.ren, idsTo_at]
   rw [hH1 _ fun i hi => idsTo_lt hi]
   refine (List.Perm.swap _ _ _).trans (.cons _ ?_)
   have e : ∀ (a b : Nat × Res) (H : Heap), (a :: b :: H).Perm (H ++ [b, a]) := fun a b H => (List.Perm.swap _ _ _).trans (show ([b, a] ++ H).Perm (H ++ [b, a]) from List.perm_append_comm)
   exact e _ _ _
  ·intro x H' h
   rcases h with ⟨x', l', H1', hR, h1, h2⟩ | ⟨H1', hR, h1, h2⟩
   ·cases h1; subst h2
    simp only [renH, Res.ren, AV.renL, AV.ren, idsTo_at, Own.ren]
    have hR' : RokG m Rok l' (renH (rn (idsTo m (m + 1)) (m + 1 + 1 + 1)) H1') := ⟨H1', hR, rfl⟩
    generalize renH (rn (idsTo m (m + 1)) (m + 1 + 1 + 1)) H1' = H1' at *
    (with_reducible refine is_opK ?_)
    refine k_op' (fun _ h => h) ?_
    (with_reducible refine o_nil ?_)
    refine k_seq_to ⟨_, (m, .box [.v (.bool false)]) :: (m + 1 + 1, .box [.ptr (m + 1) 0]) :: (m + 1, .box [.list (l'.map brow) .free]) :: H1', _⟩ (.drop (rest := []) ?_ (Nat.le_refl _)) ?_
    ·rw [List.append_nil]
     exact (List.perm_append_comm (l₁ := (m + 1, .box [.list (l'.map brow) .free]) :: H1'))
    refine no_implicit_lambda% (awd ?_)
    (with_reducible refine zC ?_)
    refine a_loadAt rfl rfl rfl ((findL_skip (by omega)).trans findL_here) rfl rfl ?_
    refine no_implicit_lambda% (awd ?_)
    (with_reducible refine zC ?_)
    refine a_loadAt rfl rfl rfl ((findL_skip (by omega)).trans ((findL_skip (by omega)).trans findL_here)) rfl rfl ?_
    refine no_implicit_lambda% (awd ?_)
    (with_reducible refine zC ?_)
    refine a_storeAt rfl rfl rfl findL_here rfl rfl (cells' := [.v (.bool (decide ((((l'.map brow).length : Nat) : Int) = 0)))]) rfl ?_
    simp only [setL, if_true]
    refine no_implicit_lambda% (awd ?_)
    exact ⟨by omega, rfl, .inl ⟨l', H1', hR', rfl, rfl⟩⟩
   ·cases h1
  ·intro x H' h
   rcases h with ⟨x', l', H1', hR, h1, h2⟩ | ⟨H1', hR, h1, h2⟩
   ·cases h1
   ·cases h1; subst h2
    have hR' : RbadG m Rbad (renH (rn (idsTo m (m + 1)) (m + 1 + 1 + 1)) H') := ⟨H', hR, rfl⟩
    generalize renH (rn (idsTo m (m + 1)) (m + 1 + 1 + 1)) H' = H' at *
    simp only [AV.ren, idsTo_at]
    refine no_implicit_lambda% (awd ?_)
    exact ⟨by omega, rfl, .inr ⟨H', hR', rfl, rfl⟩⟩
 ·rintro e a' w' ⟨e', s', L', n', G', ⟨rfl, hs4, k1⟩, k2, k3⟩
  have hS := k3.step
  have hic : Sim G' (.ptr (m + 1 + 1) 0) (vs.getD 0 undef) := hS.sim (hcs 0 _ rfl)
  have hio : Sim G' (.ptr m 0) (vs.getD 1 undef) := hS.sim (hcs 1 _ rfl)
  have hJ := hr5.join k3
  have fin : ∀ (G3 : Ghost) (w3 : World) (L3 H' rest : Heap) (b : Bool) (R : AOut → Heap → Prop), Rel ⟨G, w, H1, m, [{ target := .fn (.func 150) vs, args := #[] }]⟩ No G3 ⟨s', (m, .box [.v (.bool b)]) :: L3, top + 2⟩ a' w3 → L3.Perm (H' ++ rest) → R (.ret (.v (.bool b))) H' → ∃ v, (results Tryz.f78 a'.tmps).run Tryz.prog w3 = .ok v w3 ∧ ∃ G' out H', R out H' ∧ OSim G' out (.returned v) ∧ Holds G' w3 H' ∧ Step G w H1 G' w3 H' ∧ ∀ id, G'.live id → G.live id ∨ (m ≤ id ∧ id < top + 2) := by
   intro G3 w3 L3 H' rest b R hR hp hRR
   obtain ⟨v, h1, h2⟩ := results_run (P := Tryz.prog) tok hR (fn := Tryz.f78) (l := [.v (.bool b)]) (by
    show aresults TT s' _ [.cell 4 4] = _
    unfold aresults
    rw [getA_eq, hs4]
    simp [aresults, AV.down, aload, findL]
    rfl)
   have hp2 : ((m, Res.box [.v (.bool b)]) :: L3).Perm (H' ++ ((m, Res.box [.v (.bool b)]) :: rest)) := (hp.cons _).trans List.perm_middle.symm
   exact ⟨v, h1, G3, _, H', hRR, h2, (hR.holds.perm hp2).left, hR.step.sub hp2, fun id hid => (hR.old id hid).imp_right fun h => ⟨h, hR.next id hid⟩⟩
  have hde : a'.defers = [{ target := .fn (.func 150) vs, args := #[] }] := hJ.defers
  have hinv : ∀ w : World, (invoke (.fn (.func 150) vs) #[]).run Tryz.prog w = .ok (.enter 150 vs) w := fun w => by
   simp only [invoke, Array.empty_append]
   rfl
  rcases k1 with ⟨l', H1', hR, rfl, rfl⟩ | ⟨H1', hR, rfl, rfl⟩
  ·cases e <;> first | exact k2.elim | skip
   show Leaves Tryz.prog Tryz.f78 a'.tmps _ a'.defers .returning w'
   rw [hde]
   refine leaves_cons (by simp) (hinv w') ((readD _ _ _ hJ hvs hic hio (m := m + 1) (b := decide ((((l'.map brow).length : Nat) : Int) = 0)) ((findL_skip (by omega)).trans findL_here) findL_here).mono ?_)
   rintro e u' w3 ⟨⟨v, rfl⟩, rfl, G3, hr3⟩
   exact fin G3 w3 _ H1' [(m + 2, .box [.ptr (m + 1) 0]), (m + 1, .box [.list (l'.map brow) .free])] _ _ hr3 (by exact (List.perm_append_comm (l₁ := [_, _]))) (.inl ⟨l', hR, rfl⟩)
  ·cases e <;> first | exact k2.elim | skip
   obtain ⟨v, rfl, hv⟩ := k2
   show Leaves Tryz.prog Tryz.f78 a'.tmps _ a'.defers (.panicking [{ v := v, recovered := false }]) w'
   rw [hde]
   have hJ5 := hJ.perm (L' := (m, .box [.v (.bool false)]) :: (m + 2, .box [.ptr (m + 1) 0]) :: H1') List.perm_append_comm
   refine leaves_cons (by simp) (hinv w') ((readDp _ _ _ hJ5 hvs hic hio hv (b := false) ((findL_skip (by omega)).trans findL_here) findL_here).mono ?_)
   rintro e u' w3 ⟨⟨v, rfl⟩, hu, G3, hr3⟩
   show Leaves Tryz.prog Tryz.f78 a'.tmps _ [] (settle u') w3
   rw [hu]
   simp only [setL, if_true] at hr3
   exact fin G3 w3 _ H1' [(m + 2, .box [.ptr (m + 1) 0])] _ _ hr3 (by exact (List.perm_append_comm (l₁ := [_]))) (.inr ⟨hR, rfl⟩)
theorem read_c {cb : FuncId} {m top : Nat} {cap : List AV} {H1 : Heap} {l : List UInt8} {Rok : List UInt8 → Heap → Prop} {Rbad : Heap → Prop} (htop : m + 1 ≤ top)
  (hcb : ACalls Tryz.prog cb (m + 1) top (.ptr m 0 :: cap) ((m, .box [.list (l.map brow) .free]) :: H1) (cbR m Rok Rbad))
  (hcap : keepL m cap) (hH1 : keepH m H1) (hok : ∀ l' H1', Rok l' H1' → keepH m H1') (hbad : ∀ H1', Rbad H1' → keepH m H1') :
  ACalls Tryz.prog 78 m (top + 2) [.list (l.map brow) .free, .fn cb cap] H1 fun out H' => (∃ l', Rok l' H' ∧ out = .ret (.v (.bool (decide ((((l'.map brow).length : Nat) : Int) = 0))))) ∨ (Rbad H' ∧ out = .ret (.v (.bool false))) :=
 (read_g htop hcb hcap hH1).mono fun out H' hh => by
  rcases hh with ⟨l', ⟨H1', hR, rfl⟩, h⟩ | ⟨⟨H1', hR, rfl⟩, h⟩
  ·rw [hok l' H1' hR _ fun i hi => idsTo_lt hi]
   exact .inl ⟨l', hR, h⟩
  ·rw [hbad H1' hR _ fun i hi => idsTo_lt hi]
   exact .inr ⟨hR, h⟩
end Go.Proofs.YtncffhgoopdfgaaGreat
namespace Go.Proofs.YtncffhgoopdfgaaGreat
open Go.Am
set_option maxRecDepth 100000
theorem oct_of (x k m : Nat) (e : m = k) : IntKind.u8.wrap ((x : Int).fdiv (2 ^ m)) = ((UInt8.ofNat (x >>> k)).toNat : Int) := by
 subst e
 rw [IntKind.wrap_u8, UInt8.toNat_ofNat', Nat.shiftRight_eq_div_pow, Int.fdiv_eq_ediv_of_nonneg _ (Int.le_of_lt (Int.pow_pos (by decide)))]
 simp
theorem oct_0 (x : Nat) : IntKind.u8.wrap (x : Int) = ((UInt8.ofNat (x >>> 0)).toNat : Int) := by
 rw [IntKind.wrap_u8, UInt8.toNat_ofNat']; simp
def tokH (k n : Nat) : Heap := [(k, .tok 1 n)]
theorem refNum_c (b : List UInt8) (x : Nat) (hx : x < 4294967296) (h : b.length < 1073741824) : ACalls Tryz.prog 56 0 1 [.list (b.map brow) .free, .v (.int .u32 x)] [] (fun out H' => out = .ret (.list ((b ++ be x 4).map brow) (.tok 0)) ∧ H' = tokH 0 (b ++ be x 4).length) := by
 refine no_implicit_lambda% (acalls_of tok dok (f := 56) ⟨Tryz.func56, rfl, by kernel_rfl⟩ ?_); refine no_implicit_lambda% (c_start (fun _ h => h) ?_)
 refine no_implicit_lambda% (awd ?_)
 refine e_ret (H' := tokH 0 (b ++ be x 4).length) (rest := []) rfl ⟨congrArg (fun l => AOut.ret (.list l (.tok 0))) ?_, rfl⟩ (.of_eq ?_) (LE0 rfl)
 ·rw [oct_of x 24 (min (Int.toNat 24) IntKind.u32.bits) rfl, oct_of x 16 (min (Int.toNat 16) IntKind.u32.bits) rfl, oct_of x 8 (min (Int.toNat 8) IntKind.u32.bits) rfl, oct_0, List.nil_append, List.map_append]
  rfl
 ·simp [tokH, be_len]
theorem be_split (x : Nat) : be (x / 4294967296) 4 ++ be (x % 4294967296) 4 = be x 8 := by
 have e : ∀ k, k ≤ 3 → UInt8.ofNat ((x % 4294967296) >>> (8 * k)) = UInt8.ofNat (x >>> (8 * k)) := fun k hk => by
  apply UInt8.toNat_inj.1
  rw [UInt8.toNat_ofNat', UInt8.toNat_ofNat', Nat.shiftRight_eq_div_pow, Nat.shiftRight_eq_div_pow]
  match k, hk with
  | 0, _ => simp <;> omega
  | 1, _ => simp <;> omega
  | 2, _ => simp <;> omega
  | 3, _ => simp <;> omega
 have e2 : ∀ k, (x / 4294967296) >>> (8 * k) = x >>> (8 * (k + 4)) := fun k => by
  rw [Nat.shiftRight_eq_div_pow, Nat.shiftRight_eq_div_pow, Nat.mul_add, Nat.pow_add, Nat.mul_comm (2 ^ (8 * k)), ← Nat.div_div_eq_div_mul]
 simp only [be, e 0 (by omega), e 1 (by omega), e 2 (by omega), e 3 (by omega), e2, List.cons_append, List.nil_append]
theorem hi32 (x m : Nat) (hx : x < 18446744073709551616) (e : m = 32) : IntKind.u32.wrap ((x : Int).fdiv (2 ^ m)) = ((x / 4294967296 : Nat) : Int) := by
 subst e
 rw [IntKind.wrap_u32, Int.fdiv_eq_ediv_of_nonneg _ (Int.le_of_lt (Int.pow_pos (by decide)))]
 have : (2 : Int) ^ 32 = 4294967296 := by decide
 rw [this]
 omega
theorem lo32 (x : Nat) : IntKind.u32.wrap (x : Int) = ((x % 4294967296 : Nat) : Int) := by
 rw [IntKind.wrap_u32]; omega
theorem refLong_c (b : List UInt8) (x : Nat) (hx : x < 18446744073709551616) (h : b.length < 1073741000) : ACalls Tryz.prog 76 0 2 [.list (b.map brow) .free, .v (.int .u64 x)] [] (fun out H' => out = .ret (.list ((b ++ be x 8).map brow) (.tok 1)) ∧ H' = tokH 1 (b ++ be x 8).length) := by
 refine no_implicit_lambda% (acalls_of tok dok (f := 76) ⟨Tryz.func76, rfl, by kernel_rfl⟩ ?_); refine no_implicit_lambda% (c_start (fun _ h => h) ?_)
 refine no_implicit_lambda% (awd ?_)
 rw [hi32 x (min (Int.toNat 32) IntKind.u64.bits) hx rfl]
 refine no_implicit_lambda% (calw [] (refNum_c b (x / 4294967296) (by omega) (by omega)) ?_ ?_)
 ·refine no_implicit_lambda% (ret1 ?_); first | (refine no_implicit_lambda% (akc ?_)) | (refine no_implicit_lambda% (aec ?_))
  refine no_implicit_lambda% (awd ?_)
  rw [lo32]
  refine no_implicit_lambda% (calw [] (refNum_c (b ++ be (x / 4294967296) 4) (x % 4294967296) (by omega) (by simp [be_len]; omega)) ?_ ?_)
  ·refine no_implicit_lambda% (ret1 ?_); first | (refine no_implicit_lambda% (akc ?_)) | (refine no_implicit_lambda% (aec ?_))
   refine no_implicit_lambda% (awd ?_)
   refine e_ret (H' := tokH 1 (b ++ be x 8).length) (rest := tokH 0 (b ++ be (x / 4294967296) 4).length) rfl ⟨?_, rfl⟩ (.of_eq ?_) (LE0 rfl)
   ·rw [← be_split x, ← List.append_assoc]; rfl
   ·rw [← be_split x, ← List.append_assoc]; rfl
  ·first | (exact zI) | (exact zJ)
 ·first | (exact zI) | (exact zJ)
theorem nan_def (b : Nat) : nanB b = decide (9218868437227405312 < b % 9223372036854775808) := by
 have h : ∀ d : Ieee.Datum, (d.order d != some .eq) = d.isNaN := fun d => by
  cases d <;> simp [Ieee.Datum.order, Ieee.Datum.isNaN]
 have e1 : FloatKind.f64.format.signWeight = 9223372036854775808 := by decide
 have e2 : FloatKind.f64.format.infRung = 9218868437227405312 := by decide
 have e3 : FloatKind.f64.format.binade = 4503599627370496 := by decide
 unfold nanB Ieee.Format.order
 rw [h]
 unfold Ieee.Format.read
 simp only [e1, e2, e3]
 generalize b % 9223372036854775808 = r
 by_cases k1 : r < 4503599627370496
 ·rw [if_pos k1]
  simp [Ieee.Datum.isNaN]; omega
 ·rw [if_neg k1]
  by_cases k2 : r < 9218868437227405312
  ·rw [if_pos k2]
   simp [Ieee.Datum.isNaN]; omega
  ·rw [if_neg k2]
   by_cases k3 : r = 9218868437227405312
   ·rw [if_pos k3]
    simp [Ieee.Datum.isNaN]; omega
   ·rw [if_neg k3]
    simp [Ieee.Datum.isNaN]; omega
theorem and64 {a c : Nat} (ha : a < 18446744073709551616) (hc : c < 18446744073709551616) : IntKind.u64.wrap ((BitVec.ofInt IntKind.u64.bits (a : Int) &&& BitVec.ofInt IntKind.u64.bits (c : Int)).toNat : Int) = ((a &&& c : Nat) : Int) := by
 rw [BitVec.toNat_and, ofInt_nat ha, ofInt_nat hc]
 exact u64_of (Nat.lt_of_le_of_lt Nat.and_le_left ha)
theorem and_frac (b : Nat) : b &&& 4503599627370495 = b % 4503599627370496 := Nat.and_two_pow_sub_one_eq_mod b 52
theorem and_exp (b : Nat) : b &&& 9218868437227405312 = (b / 4503599627370496 % 2048) * 4503599627370496 := by
 have e1 : (9218868437227405312 : Nat) = 2047 <<< 52 := by decide
 have e2 : (b / 4503599627370496 % 2048) * 4503599627370496 = ((b >>> 52) &&& 2047) <<< 52 := by
  rw [Nat.shiftLeft_eq, Nat.shiftRight_eq_div_pow, Nat.and_two_pow_sub_one_eq_mod _ 11]
 rw [e1, e2]
 apply Nat.eq_of_testBit_eq
 intro i
 simp only [Nat.testBit_and, Nat.testBit_shiftLeft, Nat.testBit_shiftRight]
 by_cases h : 52 ≤ i
 ·have : 52 + (i - 52) = i := by omega
  simp [h, this]
 ·simp [h]
theorem nan_bits (b : Nat) : (b &&& 9218868437227405312 = 9218868437227405312 ∧ b &&& 4503599627370495 ≠ 0) ↔ nanB b = true := by
 rw [and_frac, and_exp, nan_def, decide_eq_true_eq]
 omega
theorem refBits_c (b : Nat) (hb : b < 18446744073709551616) : ACalls Tryz.prog 176 0 0 [.v (.float .f64 b)] [] (fun out H' => out = .ret (.v (.int .u64 (canonB b))) ∧ H' = []) := by
 refine no_implicit_lambda% (acalls_of tok dok (f := 176) ⟨Tryz.func176, rfl, by kernel_rfl⟩ ?_); refine no_implicit_lambda% (c_start (fun _ h => h) ?_)
 refine no_implicit_lambda% (awd ?_)
 refine no_implicit_lambda% (cal [] (bits_x b) ?_ ?_)
 ·refine no_implicit_lambda% (ret1 ?_); first | (refine no_implicit_lambda% (akc ?_)) | (refine no_implicit_lambda% (aec ?_))
  refine no_implicit_lambda% (awd ?_)
  rw [show (9218868437227405312 : Int) = ((9218868437227405312 : Nat) : Int) by rfl, and64 hb (by decide)]
  repeat' (first | (refine no_implicit_lambda% (zH ?_)) | (((with_reducible refine no_implicit_lambda% (zA ?_)); refine no_implicit_lambda% (zD rfl rfl rfl (fun hc => ?_) (fun hc => ?_)) <;> rw [hc])) | (((with_reducible refine no_implicit_lambda% (zB ?_)); refine no_implicit_lambda% (zE rfl (fun hc => ?_) (fun hc => ?_)))) | (((with_reducible refine no_implicit_lambda% (zC ?_)); refine no_implicit_lambda% (zF rfl rfl (fun hc => ?_) (fun hc => ?_)) <;> rw [hc])) | fail)
  ·rename_i h1
   have h2 := hc
   rw [show (4503599627370495 : Int) = ((4503599627370495 : Nat) : Int) by rfl, and64 hb (by decide)] at h2
   have h := (nan_bits b).1 ⟨by simp at h1; omega, by simp at h2; omega⟩
   exact e_ret (H' := []) rfl ⟨by simp [canonB, h]; rfl, rfl⟩ (.refl _) (LE0 rfl)
  ·rename_i h1
   have h2 := hc
   rw [show (4503599627370495 : Int) = ((4503599627370495 : Nat) : Int) by rfl, and64 hb (by decide)] at h2
   have h : nanB b = false := by
    cases hn : nanB b
    ·rfl
    ·have := (nan_bits b).2 hn
     simp at h2; omega
   exact e_ret (H' := []) rfl ⟨by simp [canonB, h]; rfl, rfl⟩ (.refl _) (LE0 rfl)
  ·have h1 := hc
   have h : nanB b = false := by
    cases hn : nanB b
    ·rfl
    ·have := (nan_bits b).2 hn
     simp at h1; omega
   exact e_ret (H' := []) rfl ⟨by simp [canonB, h]; rfl, rfl⟩ (.refl _) (LE0 rfl)
 ·first | (exact zI) | (exact zJ)
theorem refFloat_c (b : List UInt8) (x : Nat) (hx : x < 18446744073709551616) (h : b.length < 1073741000) : ACalls Tryz.prog 149 0 2 [.list (b.map brow) .free, .v (.float .f64 x)] [] (fun out H' => out = .ret (.list ((b ++ be (canonB x) 8).map brow) (.tok 1)) ∧ H' = tokH 1 (b ++ be (canonB x) 8).length) := by
 refine no_implicit_lambda% (acalls_of tok dok (f := 149) ⟨Tryz.func149, rfl, by kernel_rfl⟩ ?_); refine no_implicit_lambda% (c_start (fun _ h => h) ?_)
 refine no_implicit_lambda% (awd ?_)
 refine no_implicit_lambda% (cal [] (refBits_c x hx) ?_ ?_)
 ·refine no_implicit_lambda% (ret1 ?_); first | (refine no_implicit_lambda% (akc ?_)) | (refine no_implicit_lambda% (aec ?_))
  refine no_implicit_lambda% (awd ?_)
  refine no_implicit_lambda% (cal [] (refLong_c b (canonB x) (by unfold canonB; split <;> omega) h) ?_ ?_)
  ·refine no_implicit_lambda% (ret1 ?_); first | (refine no_implicit_lambda% (akc ?_)) | (refine no_implicit_lambda% (aec ?_))
   refine no_implicit_lambda% (awd ?_)
   exact e_ret (H' := tokH 1 (b ++ be (canonB x) 8).length) (rest := []) rfl ⟨rfl, rfl⟩ (.of_eq rfl) (LE0 rfl)
  ·first | (exact zI) | (exact zJ)
 ·first | (exact zI) | (exact zJ)
theorem refText_c (b x : List UInt8) (h : b.length < 1073741000) (hx : x.length < 1048577) : ACalls Tryz.prog 58 0 1 [.list (b.map brow) .free, .list (x.map brow) .free] [] (fun out H' => out = .ret (.list ((b ++ (be x.length 4 ++ x)).map brow) (.tok 0)) ∧ H' = tokH 0 (b ++ (be x.length 4 ++ x)).length) := by
 refine no_implicit_lambda% (acalls_of tok dok (f := 58) ⟨Tryz.func58, rfl, by kernel_rfl⟩ ?_); refine no_implicit_lambda% (c_start (fun _ h => h) ?_)
 refine no_implicit_lambda% (awd ?_)
 rw [show IntKind.u32.wrap ((x.map brow).length : Int) = x.length by rw [IntKind.wrap_u32, List.length_map]; omega]
 refine no_implicit_lambda% (cal [] (refNum_c b x.length (by omega) (by omega)) ?_ ?_)
 ·refine no_implicit_lambda% (ret1 ?_); first | (refine no_implicit_lambda% (akc ?_)) | (refine no_implicit_lambda% (aec ?_))
  have hbl := be_len x.length 4
  refine no_implicit_lambda% (awd ?_)
  refine e_ret (H' := tokH 0 (b ++ (be x.length 4 ++ x)).length) (rest := []) rfl ⟨?_, rfl⟩ (.of_eq ?_) (LE0 rfl)
  ·rw [← List.append_assoc, List.map_append (l₁ := b ++ be x.length 4)]; rfl
  ·simp [tokH, rn, Nat.add_assoc]
 ·first | (exact zI) | (exact zJ)
end Go.Proofs.YtncffhgoopdfgaaGreat
namespace Go.Proofs.YtncffhgoopdfgaaGreat
open Go.Am
set_option maxRecDepth 100000
theorem LeA.agg {l l' : List AV} (h : LeL l l') : LeA (.agg l) (.agg l') := fun G x hx => by
 obtain ⟨vs, rfl, h1, h2⟩ := Sim.agg_inv hx
 refine .agg _ _ (by rw [← h.len]; exact h1) fun i a ha => ?_
 obtain ⟨b, hb, hle⟩ := h.get i a ha
 exact hle _ _ (h2 i b hb)
structure Va where
 kind : Int
 b : List UInt8
 n : Nat
def vrowV (v : Va) : List AV := [.v (.int .i64 v.kind), .list (v.b.map brow) .free, .v (.float .f64 v.n)]
def vav (v : Va) : AV := .agg (vrowV v)
def canV (v : Va) : Va := if v.kind = 1 then ⟨1, v.b, 0⟩ else if v.kind = 2 then ⟨2, [], canonB v.n⟩ else ⟨0, [], 0⟩
def ordV0 (a b : Va) : Int := if a.kind ≠ b.kind then cmpZ a.kind b.kind else if a.kind = 1 then Lib.compareBytes a.b b.b else if a.kind = 2 then cmpZ (keyI a.n) (keyI b.n) else 0
def ordV (a b : Va) : Int := ordV0 (canV a) (canV b)
theorem canonv_w (v : Va) (h : v.kind = 1 → v.b.length < 70368744177664) : ACalls Tryz.prog 177 0 10 [vav v] [] (fun out H' => out = .ret (vav (canV v)) ∧ H' = []) := by
 obtain ⟨kd, b, n⟩ := v
 refine no_implicit_lambda% (acalls_of tok dok (f := 177) ⟨Tryz.func177, rfl, by kernel_rfl⟩ ?_); refine no_implicit_lambda% (c_start (fun _ h => h) ?_)
 repeat' (first | (refine no_implicit_lambda% (zH ?_)) | (((with_reducible refine no_implicit_lambda% (zA ?_)); refine no_implicit_lambda% (zD rfl rfl rfl (fun hc => ?_) (fun hc => ?_)) <;> rw [hc])) | (((with_reducible refine no_implicit_lambda% (zB ?_)); refine no_implicit_lambda% (zE rfl (fun hc => ?_) (fun hc => ?_)))) | (((with_reducible refine no_implicit_lambda% (zC ?_)); refine no_implicit_lambda% (zF rfl rfl (fun hc => ?_) (fun hc => ?_)) <;> rw [hc])) | fail)
 ·have hk : kd = 1 := by simpa using hc
  subst hk
  refine no_implicit_lambda% (cal [] (clone_c (b.map brow) (brows b) (by rw [List.length_map]; exact h rfl)) ?_ ?_)
  ·refine no_implicit_lambda% (ret1 ?_); first | (refine no_implicit_lambda% (akc ?_)) | (refine no_implicit_lambda% (aec ?_))
   refine no_implicit_lambda% (awd ?_)
   exact e_ret (H' := []) (rest := _) rfl ⟨rfl, rfl⟩ (.refl _) (LE0 rfl)
  ·first | (exact zI) | (exact zJ)
 ·have hk : kd = 2 := by simpa using hc
  subst hk
  refine no_implicit_lambda% (cal [] (canon_c n) ?_ ?_)
  ·refine no_implicit_lambda% (ret1 ?_); first | (refine no_implicit_lambda% (akc ?_)) | (refine no_implicit_lambda% (aec ?_))
   refine no_implicit_lambda% (awd ?_)
   exact e_ret_to (H' := []) (.wk (.refl _) (.cons (.box _ (.cons (.refl _) (.cons (.free _ _) (.cons (.refl _) .nil)))) (.refl _))) rfl ⟨rfl, rfl⟩ (.refl _) (LE0 rfl)
  ·first | (exact zI) | (exact zJ)
 ·have hk1 : kd ≠ 1 := by rename_i hc1; simpa using hc1
  have hk2 : kd ≠ 2 := by simpa using hc
  refine e_ret_to (H' := []) (.wk (.refl _) (.cons (.box _ (.cons (.refl _) (.cons (.free _ _) (.cons (.refl _) .nil)))) (.refl _))) rfl ⟨?_, rfl⟩ (.refl _) (LE0 rfl)
  unfold canV
  rw [if_neg hk1, if_neg hk2]
  rfl
theorem canonv_c (v : Va) (h : v.b.length < 70368744177664) : ACalls Tryz.prog 177 0 10 [vav v] [] (fun out H' => out = .ret (vav (canV v)) ∧ H' = []) := canonv_w v fun _ => h
theorem order_c (a b : Va) (ha : a.b.length < 70368744177664) (hb : b.b.length < 70368744177664) : ACalls Tryz.prog 158 0 100 [vav a, vav b] [] (fun out H' => out = .ret (.v (.int .i64 (ordV a b))) ∧ H' = []) := by
 have ca := canonv_c a ha
 have cb := canonv_c b hb
 unfold ordV
 generalize canV a = x at *
 generalize canV b = y at *
 obtain ⟨k1, b1, n1⟩ := x
 obtain ⟨k2, b2, n2⟩ := y
 obtain ⟨ka, ba, na⟩ := a
 obtain ⟨kb, bb, nb⟩ := b
 refine no_implicit_lambda% (acalls_of tok dok (f := 158) ⟨Tryz.func158, rfl, by kernel_rfl⟩ ?_); refine no_implicit_lambda% (c_start (fun _ h => h) ?_)
 refine no_implicit_lambda% (awd ?_)
 refine no_implicit_lambda% (cal [] (ca) ?_ ?_)
 ·refine no_implicit_lambda% (ret1 ?_); first | (refine no_implicit_lambda% (akc ?_)) | (refine no_implicit_lambda% (aec ?_))
  refine no_implicit_lambda% (awd ?_)
  refine no_implicit_lambda% (cal [] (cb) ?_ ?_)
  ·refine no_implicit_lambda% (ret1 ?_); first | (refine no_implicit_lambda% (akc ?_)) | (refine no_implicit_lambda% (aec ?_))
   repeat' (first | (refine no_implicit_lambda% (zH ?_)) | (((with_reducible refine no_implicit_lambda% (zA ?_)); refine no_implicit_lambda% (zD rfl rfl rfl (fun hc => ?_) (fun hc => ?_)) <;> rw [hc])) | (((with_reducible refine no_implicit_lambda% (zB ?_)); refine no_implicit_lambda% (zE rfl (fun hc => ?_) (fun hc => ?_)))) | (((with_reducible refine no_implicit_lambda% (zC ?_)); refine no_implicit_lambda% (zF rfl rfl (fun hc => ?_) (fun hc => ?_)) <;> rw [hc])) | fail)
   ·have hk : k1 ≠ k2 := by simpa using hc
    refine no_implicit_lambda% (cal [] (cmpi_c k1 k2) ?_ ?_)
    ·refine no_implicit_lambda% (ret1 ?_); first | (refine no_implicit_lambda% (akc ?_)) | (refine no_implicit_lambda% (aec ?_))
     refine no_implicit_lambda% (awd ?_)
     exact e_ret (H' := []) (rest := _) rfl ⟨by unfold ordV0; rw [if_pos hk]; rfl, rfl⟩ (.refl _) (LE0 rfl)
    ·first | (exact zI) | (exact zJ)
   ·have hk : ¬ k1 ≠ k2 := by rename_i h1; simpa using h1
    have hk1 : k1 = 1 := by simpa using hc
    refine no_implicit_lambda% (cal [] (bcmp_c b1 b2) ?_ ?_)
    ·refine no_implicit_lambda% (ret1 ?_); first | (refine no_implicit_lambda% (akc ?_)) | (refine no_implicit_lambda% (aec ?_))
     refine no_implicit_lambda% (awd ?_)
     exact e_ret (H' := []) (rest := _) rfl ⟨by unfold ordV0; rw [if_neg hk, if_pos hk1]; rfl, rfl⟩ (.refl _) (LE0 rfl)
    ·first | (exact zI) | (exact zJ)
   ·have hk : ¬ k1 ≠ k2 := by rename_i h1 _; simpa using h1
    have hk1 : ¬ k1 = 1 := by rename_i _ h1; simpa using h1
    have hk2 : k1 = 2 := by simpa using hc
    refine no_implicit_lambda% (cal [] (norder_c n1 n2) ?_ ?_)
    ·refine no_implicit_lambda% (ret1 ?_); first | (refine no_implicit_lambda% (akc ?_)) | (refine no_implicit_lambda% (aec ?_))
     refine no_implicit_lambda% (awd ?_)
     exact e_ret (H' := []) (rest := _) rfl ⟨by unfold ordV0; rw [if_neg hk, if_neg hk1, if_pos hk2]; rfl, rfl⟩ (.refl _) (LE0 rfl)
    ·first | (exact zI) | (exact zJ)
   ·have hk : ¬ k1 ≠ k2 := by rename_i h1 _; simpa using h1
    have hk1 : ¬ k1 = 1 := by rename_i _ h1; simpa using h1
    have hk2 : ¬ k1 = 2 := by simpa using hc
    exact e_ret (H' := []) (rest := _) rfl ⟨by unfold ordV0; rw [if_neg hk, if_neg hk1, if_neg hk2]; rfl, rfl⟩ (.refl _) (LE0 rfl)
  ·first | (exact zI) | (exact zJ)
 ·first | (exact zI) | (exact zJ)
theorem same3_c (a b : Va) (ha : a.b.length < 70368744177664) (hb : b.b.length < 70368744177664) : ACalls Tryz.prog 90 0 200 [vav a, vav b] [] (fun out H' => out = .ret (.v (.bool (ordV a b == 0))) ∧ H' = []) := by
 have cc := order_c a b ha hb
 obtain ⟨ka, ba, na⟩ := a
 obtain ⟨kb, bb, nb⟩ := b
 refine no_implicit_lambda% (acalls_of tok dok (f := 90) ⟨Tryz.func90, rfl, by kernel_rfl⟩ ?_); refine no_implicit_lambda% (c_start (fun _ h => h) ?_)
 refine no_implicit_lambda% (awd ?_)
 refine no_implicit_lambda% (cal [] (cc) ?_ ?_)
 ·refine no_implicit_lambda% (ret1 ?_); first | (refine no_implicit_lambda% (akc ?_)) | (refine no_implicit_lambda% (aec ?_))
  refine no_implicit_lambda% (awd ?_)
  exact e_ret (H' := []) (rest := _) rfl ⟨rfl, rfl⟩ (.refl _) (LE0 rfl)
 ·first | (exact zI) | (exact zJ)
def VOk (v : Va) : Prop := (v.kind = 1 ∧ v.n = 0 ∧ v.b.length ≤ 16) ∨ (v.kind = 2 ∧ v.b = [] ∧ v.n < 18446744073709551616)
theorem VOk.len {v : Va} (h : VOk v) : v.b.length < 70368744177664 := by
 rcases h with h | h
 ·omega
 ·rw [h.2.1]; decide
theorem vmade_c (tx : Bool) (n : Int) (x : Nat) (b : List UInt8) (hn1 : -9223372036854775808 ≤ n) (hn2 : n ≤ 9223372036854775807) (hx : x < 18446744073709551616) : ACalls Tryz.prog 19 0 10 [.agg [.v (.bool tx), .v (.int .i64 n), .v (.float .f64 x), .list (b.map brow) .free]] [] (fun out H' => ∃ v, VOk v ∧ out = .ret (vav v) ∧ H' = []) := by
 refine no_implicit_lambda% (acalls_of tok dok (f := 19) ⟨Tryz.func19, rfl, by kernel_rfl⟩ ?_); refine no_implicit_lambda% (c_start (fun _ h => h) ?_)
 repeat' (first | (refine no_implicit_lambda% (zH ?_)) | (((with_reducible refine no_implicit_lambda% (zA ?_)); refine no_implicit_lambda% (zD rfl rfl rfl (fun hc => ?_) (fun hc => ?_)) <;> rw [hc])) | (((with_reducible refine no_implicit_lambda% (zB ?_)); refine no_implicit_lambda% (zE rfl (fun hc => ?_) (fun hc => ?_)))) | (((with_reducible refine no_implicit_lambda% (zC ?_)); refine no_implicit_lambda% (zF rfl rfl (fun hc => ?_) (fun hc => ?_)) <;> rw [hc])) | fail)
 ·refine no_implicit_lambda% (cal [] (cut_c b 16 (by decide)) ?_ ?_)
  ·refine no_implicit_lambda% (ret1 ?_); first | (refine no_implicit_lambda% (akc ?_)) | (refine no_implicit_lambda% (aec ?_))
   refine no_implicit_lambda% (awd ?_)
   refine e_ret (H' := []) (rest := _) rfl ⟨⟨1, b.take 16, 0⟩, .inl ⟨rfl, rfl, by simp; omega⟩, rfl, rfl⟩ (.refl _) (LE0 rfl)
  ·first | (exact zI) | (exact zJ)
 ·refine no_implicit_lambda% (cal [] (flt_c n x hn1 hn2 hx) ?_ ?_)
  ·intro x H' h; obtain ⟨fb, hfb, h1, rfl⟩ := h; cases h1; first | (refine no_implicit_lambda% (akc ?_)) | (refine no_implicit_lambda% (aec ?_))
   refine no_implicit_lambda% (awd ?_)
   exact e_ret_to (H' := []) (.wk (.refl _) (.cons (.box _ (.cons (.refl _) (.cons (.free _ _) (.cons (.refl _) .nil)))) (.refl _))) rfl ⟨⟨2, [], fb⟩, .inr ⟨rfl, rfl, hfb⟩, rfl, rfl⟩ (.refl _) (LE0 rfl)
  ·intro x H' h; obtain ⟨_, _, h1, _⟩ := h; cases h1
theorem vright_c (v : Va) : ACalls Tryz.prog 145 0 10 [vav v] [] (fun out H' => out = .ret (.v (.bool (v.kind == 1 && decide ((v.b.length : Int) ≤ 16) || v.kind == 2))) ∧ H' = []) := by
 obtain ⟨kd, b, n⟩ := v
 refine no_implicit_lambda% (acalls_of tok dok (f := 145) ⟨Tryz.func145, rfl, by kernel_rfl⟩ ?_); refine no_implicit_lambda% (c_start (fun _ h => h) ?_)
 repeat' (first | (refine no_implicit_lambda% (zH ?_)) | (((with_reducible refine no_implicit_lambda% (zA ?_)); refine no_implicit_lambda% (zD rfl rfl rfl (fun hc => ?_) (fun hc => ?_)) <;> rw [hc])) | (((with_reducible refine no_implicit_lambda% (zB ?_)); refine no_implicit_lambda% (zE rfl (fun hc => ?_) (fun hc => ?_)))) | (((with_reducible refine no_implicit_lambda% (zC ?_)); refine no_implicit_lambda% (zF rfl rfl (fun hc => ?_) (fun hc => ?_)) <;> rw [hc])) | fail)
 all_goals
  refine e_ret (H' := []) (rest := _) rfl ⟨congrArg (fun z => AOut.ret (.v (.bool z))) ?_, rfl⟩ (.refl _) (LE0 rfl)
  simp only [List.length_map] at *
  simp_all
end Go.Proofs.YtncffhgoopdfgaaGreat
