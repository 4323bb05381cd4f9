/- Part 18 of what the laws ChangeTells rest on: RxB, ChI, Vl, CtG, OcN, CtN, AmFs, CtH. -/
import Derived.Test.YtncffhgoopdfgaaGreatP17
set_option linter.unusedSimpArgs false
set_option linter.unusedVariables false
namespace Go.Proofs.YtncffhgoopdfgaaGreat
open Go.Am
section
variable {H : Type} {enc : TypeId × Value → H} {w : World} {base : Nat} {sp : Nat → Bool} {held : Bool}
theorem opnDv : Opn enc Tryz.prog w base sp held 25 fun row => ∃ a : Dv, DvOk a ∧ row = dvr a := opnV.mono fun row ⟨tx, n, x, b, h, e⟩ => ⟨⟨tx, n, x, b⟩, h, e⟩
end
end Go.Proofs.YtncffhgoopdfgaaGreat
namespace Go.Proofs.YtncffhgoopdfgaaGreat
open Go.Am
section
variable {H : Type} {enc : TypeId × Value → H} {w : World} {base : Nat} {sp : Nat → Bool} {held : Bool}
theorem opnCw : Opn enc Tryz.prog w base sp held 144 fun row => ∃ a : Cw, CwOk a ∧ row = cwrow a :=
 (opn_struct Tryz.underlying144 (Rs := [fun row => ∃ n, row = [.v (.int .i64 n)] ∧ IntKind.i64.min ≤ n ∧ n ≤ IntKind.i64.max, fun row => ∃ n, row = [.v (.int .i64 n)] ∧ IntKind.i64.min ≤ n ∧ n ≤ IntKind.i64.max, fun row => ∃ n, row = [.v (.int .i64 n)] ∧ IntKind.i64.min ≤ n ∧ n ≤ IntKind.i64.max, fun row => ∃ a : Dv, DvOk a ∧ row = dvr a])
  ⟨rfl, opn_int Tryz.underlying3, by kernel_rfl, opn_int Tryz.underlying3, by kernel_rfl, opn_int Tryz.underlying2, by kernel_rfl, opnDv, (show (_ : Nat) = _ by kernel_rfl)⟩).mono
  fun row hrow => by
   obtain ⟨_, _, e0, ⟨k, rfl, k1, k2⟩, _, _, e1, ⟨c, rfl, c1, c2⟩, _, _, e2, ⟨t, rfl, t1, t2⟩, _, _, e3, ⟨v, hv, rfl⟩, e4⟩ := hrow
   refine ⟨⟨k, c, t, v⟩, ⟨⟨k1, k2⟩, ⟨c1, c2⟩, ⟨t1, t2⟩, hv⟩, ?_⟩
   rw [e0, e1, e2, e3, e4]
   simp [cwrow]
theorem opnCws : Opn enc Tryz.prog w base sp held 26 fun row => ∃ l : List Cw, (∀ a ∈ l, CwOk a) ∧ l.length ≤ 9223372036854775807 ∧ row = [.list (l.map cwrow) .free] :=
  (opn_slice Tryz.underlying26 (by kernel_rfl : Tryz.prog.cellsOf 144 = 7) (by decide) opnCw).mono fun row ⟨rows, h1, h2, h3⟩ => by
    obtain ⟨l, hl, rfl⟩ := listOf (f := cwrow) (Q := CwOk) fun r hr => (h3 r hr).1
    exact ⟨l, hl, by have : maxLen = 9223372036854775807 := by decide
                     simpa [this] using h2, h1⟩
end
end Go.Proofs.YtncffhgoopdfgaaGreat
namespace Go.Proofs.YtncffhgoopdfgaaGreat
open Go.Am
section
variable {H : Type} {enc : TypeId × Value → H} {w : World} {base : Nat} {sp : Nat → Bool} {held : Bool}
theorem opnA : Opn enc Tryz.prog w base sp held 32 fun row => ∃ v : Va, v.n < 18446744073709551616 ∧ row = vrowV v :=
 (opn_struct Tryz.underlying32 (Rs := [fun row => ∃ n, row = [.v (.int .i64 n)] ∧ IntKind.i64.min ≤ n ∧ n ≤ IntKind.i64.max, fun row => ∃ l : List UInt8, row = [.list (l.map brow) .free] ∧ l.length ≤ maxLen, fun row => ∃ b, row = [.v (.float .f64 b)] ∧ b < 18446744073709551616])
  ⟨rfl, opn_int Tryz.underlying3, by kernel_rfl, opnBytes, by kernel_rfl, opn_float Tryz.underlying22, (show (_ : Nat) = _ by kernel_rfl)⟩).mono
  fun row hrow => by
   obtain ⟨_, _, e0, ⟨n, rfl, h1, h2⟩, _, _, e1, ⟨l, rfl, _⟩, _, _, e2, ⟨x, rfl, hx⟩, e3⟩ := hrow
   refine ⟨⟨n, l, x⟩, hx, ?_⟩
   rw [e0, e1, e2, e3]
   rfl
end
end Go.Proofs.YtncffhgoopdfgaaGreat
namespace Go.Proofs.YtncffhgoopdfgaaGreat
open Go.Am
set_option maxRecDepth 100000
structure Ow where
 k : Int
 r : Int
 h : Int
 m : Int
 c : Int
 has : Bool
 want : Bool
 v : Dv
 l : List Cw
def owrow (o : Ow) : List AV := [.v (.int .i64 o.k), .v (.int .i64 o.r), .v (.int .i64 o.h), .v (.int .i64 o.m), .v (.int .i64 o.c), .v (.bool o.has), .v (.bool o.want)] ++ dvr o.v ++ [.list (o.l.map cwrow) .free]
structure OwOk (o : Ow) : Prop where
 k : -9223372036854775808 ≤ o.k ∧ o.k ≤ 9223372036854775807
 r : -9223372036854775808 ≤ o.r ∧ o.r ≤ 9223372036854775807
 h : -9223372036854775808 ≤ o.h ∧ o.h ≤ 9223372036854775807
 m : -9223372036854775808 ≤ o.m ∧ o.m ≤ 9223372036854775807
 c : -9223372036854775808 ≤ o.c ∧ o.c ≤ 9223372036854775807
 v : DvOk o.v
 l : ∀ a ∈ o.l, CwOk a
 n : o.l.length ≤ 9223372036854775807
structure Oq where
 k : Int
 row : ByteArray
 hi : ByteArray
 d : Cd
 l : List Ch
 most : Int
def oqrow (q : Oq) : List AV := [.v (.int .i64 q.k), .v (.string q.row), .v (.string q.hi)] ++ cdrow q.d ++ [.list (q.l.map chrow) .free, .v (.int .i64 q.most)]
def CdSz (d : Cd) : Prop := d.v.b.length < 1073741824 ∧ d.v.n < 18446744073709551616
def OqOk (q : Oq) : Prop := CdSz q.d ∧ (∀ x ∈ q.l, ChSz x) ∧ q.l.length ≤ 4
section
variable {H : Type} {enc : TypeId × Value → H} {w : World} {base : Nat} {sp : Nat → Bool} {held : Bool}
theorem opnOw : Opn enc Tryz.prog w base sp held 28 fun row => ∃ o : Ow, OwOk o ∧ row = owrow o :=
 (opn_struct Tryz.underlying28 (Rs := [fun row => ∃ n, row = [.v (.int .i64 n)] ∧ IntKind.i64.min ≤ n ∧ n ≤ IntKind.i64.max, fun row => ∃ n, row = [.v (.int .i64 n)] ∧ IntKind.i64.min ≤ n ∧ n ≤ IntKind.i64.max, fun row => ∃ n, row = [.v (.int .i64 n)] ∧ IntKind.i64.min ≤ n ∧ n ≤ IntKind.i64.max, fun row => ∃ n, row = [.v (.int .i64 n)] ∧ IntKind.i64.min ≤ n ∧ n ≤ IntKind.i64.max, fun row => ∃ n, row = [.v (.int .i64 n)] ∧ IntKind.i64.min ≤ n ∧ n ≤ IntKind.i64.max, fun row => ∃ b, row = [.v (.bool b)], fun row => ∃ b, row = [.v (.bool b)], fun row => ∃ a : Dv, DvOk a ∧ row = dvr a, fun row => ∃ l : List Cw, (∀ a ∈ l, CwOk a) ∧ l.length ≤ 9223372036854775807 ∧ row = [.list (l.map cwrow) .free]])
  ⟨rfl, opn_int Tryz.underlying3, by kernel_rfl, opn_int Tryz.underlying3, by kernel_rfl, opn_int Tryz.underlying3, by kernel_rfl, opn_int Tryz.underlying3, by kernel_rfl, opn_int Tryz.underlying3, by kernel_rfl, opn_bool Tryz.underlying4, by kernel_rfl, opn_bool Tryz.underlying4, by kernel_rfl, opnDv, by kernel_rfl, opnCws, (show (_ : Nat) = _ by kernel_rfl)⟩).mono
  fun row hrow => by
   obtain ⟨_, _, e0, ⟨k, rfl, k1, k2⟩, _, _, e1, ⟨r, rfl, r1, r2⟩, _, _, e2, ⟨h, rfl, h1, h2⟩, _, _, e3, ⟨m, rfl, m1, m2⟩, _, _, e4, ⟨c, rfl, c1, c2⟩, _, _, e5, ⟨has, rfl⟩, _, _, e6, ⟨want, rfl⟩, _, _, e7, ⟨v, hv, rfl⟩, _, _, e8, ⟨l, hl, hn, rfl⟩, e9⟩ := hrow
   refine ⟨⟨k, r, h, m, c, has, want, v, l⟩, ⟨⟨k1, k2⟩, ⟨r1, r2⟩, ⟨h1, h2⟩, ⟨m1, m2⟩, ⟨c1, c2⟩, hv, hl, hn⟩, ?_⟩
   rw [e0, e1, e2, e3, e4, e5, e6, e7, e8, e9]
   simp [owrow]
theorem opnCh : Opn enc Tryz.prog w base sp held 58 fun row => ∃ x : Ch, x.v.n < 18446744073709551616 ∧ row = chrow x :=
 (opn_struct Tryz.underlying58 (Rs := [fun row => ∃ n, row = [.v (.int .i64 n)] ∧ IntKind.i64.min ≤ n ∧ n ≤ IntKind.i64.max, fun row => ∃ s : ByteArray, row = [.v (.string s)] ∧ s.size ≤ maxLen, fun row => ∃ n, row = [.v (.int .i64 n)] ∧ IntKind.i64.min ≤ n ∧ n ≤ IntKind.i64.max, fun row => ∃ v : Va, v.n < 18446744073709551616 ∧ row = vrowV v])
  ⟨rfl, opn_int Tryz.underlying3, by kernel_rfl, opn_string Tryz.underlying9, by kernel_rfl, opn_int Tryz.underlying2, by kernel_rfl, opnA, (show (_ : Nat) = _ by kernel_rfl)⟩).mono
  fun row hrow => by
   obtain ⟨_, _, e0, ⟨k, rfl, k1, k2⟩, _, _, e1, ⟨s, rfl, _⟩, _, _, e2, ⟨t, rfl, t1, t2⟩, _, _, e3, ⟨v, hv, rfl⟩, e4⟩ := hrow
   refine ⟨⟨k, s, t, v⟩, hv, ?_⟩
   rw [e0, e1, e2, e3, e4]
   simp [chrow]
theorem opnChs : Opn enc Tryz.prog w base sp held 35 fun row => ∃ l : List Ch, (∀ x ∈ l, x.v.n < 18446744073709551616) ∧ l.length ≤ 9223372036854775807 ∧ row = [.list (l.map chrow) .free] :=
  (opn_slice Tryz.underlying35 (by kernel_rfl : Tryz.prog.cellsOf 58 = 6) (by decide) opnCh).mono fun row ⟨rows, h1, h2, h3⟩ => by
    obtain ⟨l, hl, rfl⟩ := listOf (f := chrow) (Q := fun x => x.v.n < 18446744073709551616) fun r hr => (h3 r hr).1
    exact ⟨l, hl, by have : maxLen = 9223372036854775807 := by decide
                     simpa [this] using h2, h1⟩
end
def rwL : List ByteArray := [bsS [97], bsS [98], bsS [109], bsS [110], bsS [122], bsS [109, 97], bsS [122, 122], bsS [48]]
theorem keeprow_c (n : Int) (h1 : -9223372036854775808 ≤ n) (h2 : n ≤ 9223372036854775807) : ACalls Tryz.prog 40 0 5 [.v (.int .i64 n)] [] (fun out H' => ∃ t ∈ rwL, out = .ret (.v (.string t)) ∧ H' = []) := by
 have hp := pick_c rwL n (by decide) h1 h2
 refine no_implicit_lambda% (acalls_of tok dok (f := 40) ⟨Tryz.func40, rfl, by kernel_rfl⟩ ?_); refine no_implicit_lambda% (c_start (fun _ h => h) ?_)
 repeat' (first | (refine no_implicit_lambda% (zH ?_)) | (refine no_implicit_lambda% (spl (fun hc => ?_) (fun hc => ?_)) <;> first | exact zG hc | skip) | (refine no_implicit_lambda% (ans ?_)) | (with_reducible first | exact zI | exact zJ))
 (refine no_implicit_lambda% (calw [] (hp) ?_ ?_))
 ·intro xx H' hh
  obtain ⟨t, ht, h', rfl⟩ := hh
  cases h'
  first | (refine no_implicit_lambda% (akc ?_)) | (refine no_implicit_lambda% (aec ?_))
  repeat' (first | (refine no_implicit_lambda% (zH ?_)) | (refine no_implicit_lambda% (spl (fun hc => ?_) (fun hc => ?_)) <;> first | exact zG hc | skip) | (refine no_implicit_lambda% (ans ?_)) | (with_reducible first | exact zI | exact zJ))
  exact e_ret (H' := []) (rest := _) rfl ⟨t, ht, rfl, rfl⟩ permT (LE0 rfl)
 ·intro xx H' hh
  obtain ⟨_, _, h', _⟩ := hh
  cases h'
def zd0 : Cd := ⟨false, false, ⟨#[]⟩, ⟨0, [], 0⟩⟩
def ch0 : Ch := ⟨5, bsS [120], 5, ⟨2, [], 4607182418800017408⟩⟩
theorem ch0_ok : ∀ x ∈ [ch0], ChSz x := fun x hx => by rw [List.mem_singleton.1 hx]; exact ⟨by decide, by decide⟩
theorem zd0_ok : CdSz zd0 := ⟨by decide, by decide⟩
set_option maxHeartbeats 6400000 in
theorem op_c (o : Ow) (ho : OwOk o) : ACalls Tryz.prog 41 0 90000 [.agg (owrow o)] [] (fun out H' => ∃ q, OqOk q ∧ out = .ret (.agg (oqrow q)) ∧ H' = []) := by
 obtain ⟨k, r, h, m, c, has, want, v, l⟩ := o
 obtain ⟨hk, hr, hH, hm, hcc, hv, hl, hn⟩ := ho
 dsimp only at *
 have w1 := wthn_c k 0 1048576 hk.1 hk.2 (by decide) (by decide) (by decide) (by decide)
 have w2 := wthn_c m 0 1048576 hm.1 hm.2 (by decide) (by decide) (by decide) (by decide)
 have b1 := wthn_bd k 0 1048576 (by decide)
 have b2 := wthn_bd m 0 1048576 (by decide)
 generalize wthn k 0 1048576 = k0 at *
 generalize wthn m 0 1048576 = m0 at *
 refine no_implicit_lambda% (acalls_of tok dok (f := 41) ⟨Tryz.func41, rfl, by kernel_rfl⟩ ?_); refine no_implicit_lambda% (c_start (fun _ h => h) ?_)
 repeat' (first | (refine no_implicit_lambda% (zH ?_)) | (refine no_implicit_lambda% (spl (fun hc => ?_) (fun hc => ?_)) <;> first | exact zG hc | skip) | (refine no_implicit_lambda% (ans ?_)) | (with_reducible first | exact zI | exact zJ) | (refine no_implicit_lambda% (cal [] (w1) ?_ ?_)) | fail)
 ·(refine no_implicit_lambda% (cal [] (keeprow_c r hr.1 hr.2) ?_ ?_))
  rotate_left
  ·intro xx H' hx
   obtain ⟨_, _, h', _⟩ := hx
   cases h'
  intro xx H' hx
  obtain ⟨s, hs, h', rfl⟩ := hx
  cases h'
  first | (refine no_implicit_lambda% (akc ?_)) | (refine no_implicit_lambda% (aec ?_))
  repeat' (first | (refine no_implicit_lambda% (zH ?_)) | (refine no_implicit_lambda% (spl (fun hc => ?_) (fun hc => ?_)) <;> first | exact zG hc | skip) | (refine no_implicit_lambda% (ans ?_)) | (with_reducible first | exact zI | exact zJ))
  (refine e_ret_to (H' := []) (rest := [(1, .box (oqrow (⟨1, s, ⟨#[]⟩, zd0, [], 0⟩ : Oq)))]) (Conv.toT (τ := ⟨_, [(1, .box (oqrow (⟨1, s, ⟨#[]⟩, zd0, [], 0⟩ : Oq)))], _⟩) (.refl _) ?_ (Nat.le_refl _)) rfl ⟨(⟨1, s, ⟨#[]⟩, zd0, [], 0⟩ : Oq), ⟨zd0_ok, (fun x hx => by cases hx), Nat.zero_le _⟩, rfl, rfl⟩ permT (LE0 rfl); exact wkh)
 ·(refine no_implicit_lambda% (cal [] (keeprow_c r hr.1 hr.2) ?_ ?_))
  rotate_left
  ·intro xx H' hx
   obtain ⟨_, _, h', _⟩ := hx
   cases h'
  intro xx H' hx
  obtain ⟨s, hs, h', rfl⟩ := hx
  cases h'
  first | (refine no_implicit_lambda% (akc ?_)) | (refine no_implicit_lambda% (aec ?_))
  repeat' (first | (refine no_implicit_lambda% (zH ?_)) | (refine no_implicit_lambda% (splv (fun hc => ?_) (fun hc => ?_)) <;> first | exact zG hc | skip) | (refine no_implicit_lambda% (ans ?_)) | (with_reducible first | exact zI | exact zJ))
  (refine no_implicit_lambda% (cal [] (keeprow_c h hH.1 hH.2) ?_ ?_))
  rotate_left
  ·intro xx H' hx
   obtain ⟨_, _, h', _⟩ := hx
   cases h'
  intro xx H' hx
  obtain ⟨t, ht, h', rfl⟩ := hx
  cases h'
  first | (refine no_implicit_lambda% (akc ?_)) | (refine no_implicit_lambda% (aec ?_))
  repeat' (first | (refine no_implicit_lambda% (zH ?_)) | (refine no_implicit_lambda% (splv (fun hc => ?_) (fun hc => ?_)) <;> first | exact zG hc | skip) | (refine no_implicit_lambda% (ans ?_)) | (with_reducible first | exact zI | exact zJ) | (refine no_implicit_lambda% (cal [] (w2) ?_ ?_)) | fail)
  all_goals rw [show IntKind.i64.wrap (1 + m0.tmod 16) = 1 + m0.tmod 16 from z64 (by have := Int.tmod_nonneg 16 b2.1; omega) (by have := Int.tmod_lt_of_pos m0 (show (0 : Int) < 16 by decide); omega)]
  all_goals first | ((refine e_ret_to (H' := []) (rest := [(1, .box (oqrow (⟨3, s, t, zd0, [], 1 + m0.tmod 16⟩ : Oq)))]) (Conv.toT (τ := ⟨_, [(1, .box (oqrow (⟨3, s, t, zd0, [], 1 + m0.tmod 16⟩ : Oq)))], _⟩) (.refl _) ?_ (Nat.le_refl _)) rfl ⟨(⟨3, s, t, zd0, [], 1 + m0.tmod 16⟩ : Oq), ⟨zd0_ok, (fun x hx => by cases hx), Nat.zero_le _⟩, rfl, rfl⟩ permT (LE0 rfl); exact wkh); done) | ((refine e_ret_to (H' := []) (rest := [(1, .box (oqrow (⟨3, s, ⟨#[]⟩, zd0, [], 1 + m0.tmod 16⟩ : Oq)))]) (Conv.toT (τ := ⟨_, [(1, .box (oqrow (⟨3, s, ⟨#[]⟩, zd0, [], 1 + m0.tmod 16⟩ : Oq)))], _⟩) (.refl _) ?_ (Nat.le_refl _)) rfl ⟨(⟨3, s, ⟨#[]⟩, zd0, [], 1 + m0.tmod 16⟩ : Oq), ⟨zd0_ok, (fun x hx => by cases hx), Nat.zero_le _⟩, rfl, rfl⟩ permT (LE0 rfl); exact wkh); done) | ((refine e_ret_to (H' := []) (rest := [(1, .box (oqrow (⟨3, ⟨#[]⟩, t, zd0, [], 1 + m0.tmod 16⟩ : Oq)))]) (Conv.toT (τ := ⟨_, [(1, .box (oqrow (⟨3, ⟨#[]⟩, t, zd0, [], 1 + m0.tmod 16⟩ : Oq)))], _⟩) (.refl _) ?_ (Nat.le_refl _)) rfl ⟨(⟨3, ⟨#[]⟩, t, zd0, [], 1 + m0.tmod 16⟩ : Oq), ⟨zd0_ok, (fun x hx => by cases hx), Nat.zero_le _⟩, rfl, rfl⟩ permT (LE0 rfl); exact wkh); done) | ((refine e_ret_to (H' := []) (rest := [(1, .box (oqrow (⟨3, ⟨#[]⟩, ⟨#[]⟩, zd0, [], 1 + m0.tmod 16⟩ : Oq)))]) (Conv.toT (τ := ⟨_, [(1, .box (oqrow (⟨3, ⟨#[]⟩, ⟨#[]⟩, zd0, [], 1 + m0.tmod 16⟩ : Oq)))], _⟩) (.refl _) ?_ (Nat.le_refl _)) rfl ⟨(⟨3, ⟨#[]⟩, ⟨#[]⟩, zd0, [], 1 + m0.tmod 16⟩ : Oq), ⟨zd0_ok, (fun x hx => by cases hx), Nat.zero_le _⟩, rfl, rfl⟩ permT (LE0 rfl); exact wkh); done)
 ·(refine no_implicit_lambda% (cal [] (keeprow_c r hr.1 hr.2) ?_ ?_))
  rotate_left
  ·intro xx H' hx
   obtain ⟨_, _, h', _⟩ := hx
   cases h'
  intro xx H' hx
  obtain ⟨s, hs, h', rfl⟩ := hx
  cases h'
  first | (refine no_implicit_lambda% (akc ?_)) | (refine no_implicit_lambda% (aec ?_))
  repeat' (first | (refine no_implicit_lambda% (zH ?_)) | (refine no_implicit_lambda% (splv (fun hc => ?_) (fun hc => ?_)) <;> first | exact zG hc | skip) | (refine no_implicit_lambda% (ans ?_)) | (with_reducible first | exact zI | exact zJ))
  (refine no_implicit_lambda% (cal [] (changes_d l 4 (by decide) hl hn) ?_ ?_))
  rotate_left
  ·intro xx H' hx
   obtain ⟨_, _, h', _⟩ := hx
   cases h'
  intro xx H' hx
  obtain ⟨xs, ⟨hx4, hok⟩, h', rfl⟩ := hx
  cases h'
  first | (refine no_implicit_lambda% (akc ?_)) | (refine no_implicit_lambda% (aec ?_))
  have hsz : ∀ x ∈ xs, ChSz x := fun x hx => (hok x hx).1
  rcases xs with _ | ⟨x0, xs⟩
  ·cases has
   ·repeat' (first | (refine no_implicit_lambda% (zH ?_)) | (refine no_implicit_lambda% (spl (fun hc => ?_) (fun hc => ?_)) <;> first | exact zG hc | skip) | (refine no_implicit_lambda% (ans ?_)) | (with_reducible first | exact zI | exact zJ))
    (refine e_ret_to (H' := []) (rest := [(1, .box (oqrow (⟨2, s, ⟨#[]⟩, zd0, [ch0], 0⟩ : Oq)))]) (Conv.toT (τ := ⟨_, [(1, .box (oqrow (⟨2, s, ⟨#[]⟩, zd0, [ch0], 0⟩ : Oq)))], _⟩) (.refl _) ?_ (Nat.le_refl _)) rfl ⟨(⟨2, s, ⟨#[]⟩, zd0, [ch0], 0⟩ : Oq), ⟨zd0_ok, ch0_ok, (by show 1 ≤ 4; decide)⟩, rfl, rfl⟩ permT (LE0 rfl); exact wkh)
   ·repeat' (first | (refine no_implicit_lambda% (zH ?_)) | (refine no_implicit_lambda% (spl (fun hc => ?_) (fun hc => ?_)) <;> first | exact zG hc | skip) | (refine no_implicit_lambda% (ans ?_)) | (with_reducible first | exact zI | exact zJ))
    (refine no_implicit_lambda% (cal [] (keepcol_c c hcc.1 hcc.2) ?_ ?_))
    rotate_left
    ·intro xx H' hx
     obtain ⟨_, _, h', _⟩ := hx
     cases h'
    intro xx H' hx
    obtain ⟨cn, hcn, h', rfl⟩ := hx
    cases h'
    first | (refine no_implicit_lambda% (akc ?_)) | (refine no_implicit_lambda% (aec ?_))

    cases want
    ·repeat' (first | (refine no_implicit_lambda% (zH ?_)) | (refine no_implicit_lambda% (spl (fun hc => ?_) (fun hc => ?_)) <;> first | exact zG hc | skip) | (refine no_implicit_lambda% (ans ?_)) | (with_reducible first | exact zI | exact zJ))
     (refine e_ret_to (H' := []) (rest := [(1, .box (oqrow (⟨2, s, ⟨#[]⟩, ⟨true, false, cn, ⟨0, [], 0⟩⟩, [ch0], 0⟩ : Oq)))]) (Conv.toT (τ := ⟨_, [(1, .box (oqrow (⟨2, s, ⟨#[]⟩, ⟨true, false, cn, ⟨0, [], 0⟩⟩, [ch0], 0⟩ : Oq)))], _⟩) (.refl _) ?_ (Nat.le_refl _)) rfl ⟨(⟨2, s, ⟨#[]⟩, ⟨true, false, cn, ⟨0, [], 0⟩⟩, [ch0], 0⟩ : Oq), ⟨zd0_ok, ch0_ok, (by show 1 ≤ 4; decide)⟩, rfl, rfl⟩ permT (LE0 rfl); exact wkh)
    ·repeat' (first | (refine no_implicit_lambda% (zH ?_)) | (refine no_implicit_lambda% (spl (fun hc => ?_) (fun hc => ?_)) <;> first | exact zG hc | skip) | (refine no_implicit_lambda% (ans ?_)) | (with_reducible first | exact zI | exact zJ))
     (refine no_implicit_lambda% (cal [] (dvmade_d v hv) ?_ ?_))
     rotate_left
     ·intro xx H' hx
      obtain ⟨_, _, h', _⟩ := hx
      cases h'
     intro xx H' hx
     obtain ⟨y, hy, h', rfl⟩ := hx
     cases h'
     first | (refine no_implicit_lambda% (akc ?_)) | (refine no_implicit_lambda% (aec ?_))

     repeat' (first | (refine no_implicit_lambda% (zH ?_)) | (refine no_implicit_lambda% (spl (fun hc => ?_) (fun hc => ?_)) <;> first | exact zG hc | skip) | (refine no_implicit_lambda% (ans ?_)) | (with_reducible first | exact zI | exact zJ))
     (refine e_ret_to (H' := []) (rest := [(1, .box (oqrow (⟨2, s, ⟨#[]⟩, ⟨true, true, cn, y⟩, [ch0], 0⟩ : Oq)))]) (Conv.toT (τ := ⟨_, [(1, .box (oqrow (⟨2, s, ⟨#[]⟩, ⟨true, true, cn, y⟩, [ch0], 0⟩ : Oq)))], _⟩) (.refl _) ?_ (Nat.le_refl _)) rfl ⟨(⟨2, s, ⟨#[]⟩, ⟨true, true, cn, y⟩, [ch0], 0⟩ : Oq), ⟨⟨hy.1, hy.2.1⟩, ch0_ok, (by show 1 ≤ 4; decide)⟩, rfl, rfl⟩ permT (LE0 rfl); exact wkh)

  ·cases has
   ·repeat' (first | (refine no_implicit_lambda% (zH ?_)) | (refine no_implicit_lambda% (spl (fun hc => ?_) (fun hc => ?_)) <;> first | exact zG hc | skip) | (refine no_implicit_lambda% (ans ?_)) | (with_reducible first | exact zI | exact zJ))
    (refine e_ret_to (H' := []) (rest := [(1, .box (oqrow (⟨2, s, ⟨#[]⟩, zd0, x0 :: xs, 0⟩ : Oq)))]) (Conv.toT (τ := ⟨_, [(1, .box (oqrow (⟨2, s, ⟨#[]⟩, zd0, x0 :: xs, 0⟩ : Oq)))], _⟩) (.refl _) ?_ (Nat.le_refl _)) rfl ⟨(⟨2, s, ⟨#[]⟩, zd0, x0 :: xs, 0⟩ : Oq), ⟨zd0_ok, hsz, hx4⟩, rfl, rfl⟩ permT (LE0 rfl); exact wkh)
   ·repeat' (first | (refine no_implicit_lambda% (zH ?_)) | (refine no_implicit_lambda% (spl (fun hc => ?_) (fun hc => ?_)) <;> first | exact zG hc | skip) | (refine no_implicit_lambda% (ans ?_)) | (with_reducible first | exact zI | exact zJ))
    (refine no_implicit_lambda% (cal [] (keepcol_c c hcc.1 hcc.2) ?_ ?_))
    rotate_left
    ·intro xx H' hx
     obtain ⟨_, _, h', _⟩ := hx
     cases h'
    intro xx H' hx
    obtain ⟨cn, hcn, h', rfl⟩ := hx
    cases h'
    first | (refine no_implicit_lambda% (akc ?_)) | (refine no_implicit_lambda% (aec ?_))

    cases want
    ·repeat' (first | (refine no_implicit_lambda% (zH ?_)) | (refine no_implicit_lambda% (spl (fun hc => ?_) (fun hc => ?_)) <;> first | exact zG hc | skip) | (refine no_implicit_lambda% (ans ?_)) | (with_reducible first | exact zI | exact zJ))
     (refine e_ret_to (H' := []) (rest := [(1, .box (oqrow (⟨2, s, ⟨#[]⟩, ⟨true, false, cn, ⟨0, [], 0⟩⟩, x0 :: xs, 0⟩ : Oq)))]) (Conv.toT (τ := ⟨_, [(1, .box (oqrow (⟨2, s, ⟨#[]⟩, ⟨true, false, cn, ⟨0, [], 0⟩⟩, x0 :: xs, 0⟩ : Oq)))], _⟩) (.refl _) ?_ (Nat.le_refl _)) rfl ⟨(⟨2, s, ⟨#[]⟩, ⟨true, false, cn, ⟨0, [], 0⟩⟩, x0 :: xs, 0⟩ : Oq), ⟨zd0_ok, hsz, hx4⟩, rfl, rfl⟩ permT (LE0 rfl); exact wkh)
    ·repeat' (first | (refine no_implicit_lambda% (zH ?_)) | (refine no_implicit_lambda% (spl (fun hc => ?_) (fun hc => ?_)) <;> first | exact zG hc | skip) | (refine no_implicit_lambda% (ans ?_)) | (with_reducible first | exact zI | exact zJ))
     (refine no_implicit_lambda% (cal [] (dvmade_d v hv) ?_ ?_))
     rotate_left
     ·intro xx H' hx
      obtain ⟨_, _, h', _⟩ := hx
      cases h'
     intro xx H' hx
     obtain ⟨y, hy, h', rfl⟩ := hx
     cases h'
     first | (refine no_implicit_lambda% (akc ?_)) | (refine no_implicit_lambda% (aec ?_))

     repeat' (first | (refine no_implicit_lambda% (zH ?_)) | (refine no_implicit_lambda% (spl (fun hc => ?_) (fun hc => ?_)) <;> first | exact zG hc | skip) | (refine no_implicit_lambda% (ans ?_)) | (with_reducible first | exact zI | exact zJ))
     (refine e_ret_to (H' := []) (rest := [(1, .box (oqrow (⟨2, s, ⟨#[]⟩, ⟨true, true, cn, y⟩, x0 :: xs, 0⟩ : Oq)))]) (Conv.toT (τ := ⟨_, [(1, .box (oqrow (⟨2, s, ⟨#[]⟩, ⟨true, true, cn, y⟩, x0 :: xs, 0⟩ : Oq)))], _⟩) (.refl _) ?_ (Nat.le_refl _)) rfl ⟨(⟨2, s, ⟨#[]⟩, ⟨true, true, cn, y⟩, x0 :: xs, 0⟩ : Oq), ⟨⟨hy.1, hy.2.1⟩, hsz, hx4⟩, rfl, rfl⟩ permT (LE0 rfl); exact wkh)
end Go.Proofs.YtncffhgoopdfgaaGreat
namespace Go.Proofs.YtncffhgoopdfgaaGreat
open Go.Am
set_option maxRecDepth 100000
theorem broOk (l : List UInt8) : RowsOk 1 (l.map brow) := .map (f := brow) (fun _ => ⟨rfl, rfl, rfl⟩) l
def bA (id : Nat) (l : List UInt8) (cp : Nat) : Heap := [(id, .seq (l.map brow) ((cp - l.length) * 1))]
abbrev bAR (id : Nat) (l : List UInt8) (out : AOut) (H' : Heap) : Prop := ∃ cp, l.length ≤ cp ∧ cp ≤ maxLen ∧ out = .ret (.arr id 0 l.length cp) ∧ H' = bA id l cp
theorem refNumA_c (b : List UInt8) (hb : 0 < b.length) (x : Nat) (hx : x < 4294967296) (h : b.length < 1073741824) : ACalls Tryz.prog 56 0 2 [.list (b.map brow) .free, .v (.int .u32 x)] [] (bAR 1 (b ++ be x 4)) := by
 have hbe := be_len x 4
 refine no_implicit_lambda% (acalls_of tok dok (f := 56) ⟨Tryz.func56, rfl, by kernel_rfl⟩ ?_); refine no_implicit_lambda% (c_start (fun _ h => h) ?_)
 refine no_implicit_lambda% (awdz ?_)
 ((with_reducible refine no_implicit_lambda% (zC ?_)); refine no_implicit_lambda% (a_appS0 (sz := 1) (B := 1) (m2 := b.length) rfl rfl rfl rfl rfl rfl rfl rfl rfl (by first | exact .inl rfl | exact .inr ⟨_, _, rfl⟩) rfl rfl rfl (broOk b) (by first | omega | (simp; done) | (simp; omega)) (by first | omega | (simp; omega)) (by first | rfl | (exact List.length_map ..) | (simp; done)) ?_))
 intro cp h1 h2
 refine no_implicit_lambda% (akc ?_)
 refine no_implicit_lambda% (awdz ?_)
 rw [oct_of x 24 (min (Int.toNat 24) IntKind.u32.bits) rfl, oct_of x 16 (min (Int.toNat 16) IntKind.u32.bits) rfl, oct_of x 8 (min (Int.toNat 8) IntKind.u32.bits) rfl, oct_0]
 ((with_reducible refine no_implicit_lambda% (zC ?_)); refine no_implicit_lambda% (a_appS (sz := 1) (B := 1) (m2 := (b ++ be x 4).length) (rows3 := (b ++ be x 4).map brow) rfl rfl rfl rfl rfl rfl rfl rfl rfl rfl rfl (fun _ h => h) rfl rfl (broOk b) (broOk (be x 4)) (by first | rfl | (exact List.length_map ..) | (simp; done) | (simp; omega)) rfl (by first | omega | (simp; omega)) (by first | rfl | (simp; done) | (simp; omega)) (by first | rfl | (exact map_snoc _ _) | (rw [List.map_append]; rfl) | (simp; done)) ?_))
 intro cp' h1' h2'
 refine no_implicit_lambda% (akc ?_)
 refine no_implicit_lambda% (awdz ?_)
 exact e_ret (H' := bA 1 (b ++ be x 4) cp') (rest := []) rfl ⟨cp', h1', h2', rfl, rfl⟩ (.of_eq rfl) (LE0 rfl)
theorem refTextA_c (b x : List UInt8) (hb : 0 < b.length) (h : b.length < 1073741000) (hx : x.length < 1048577) : ACalls Tryz.prog 58 0 20 [.list (b.map brow) .free, .list (x.map brow) .free] [] (bAR 2 (b ++ (be x.length 4 ++ x))) := by
 have hbe := be_len x.length 4
 refine no_implicit_lambda% (acalls_of tok dok (f := 58) ⟨Tryz.func58, rfl, by kernel_rfl⟩ ?_); refine no_implicit_lambda% (c_start (fun _ h => h) ?_)
 refine no_implicit_lambda% (awdz ?_)
 rw [show IntKind.u32.wrap ((x.map brow).length : Int) = x.length by rw [IntKind.wrap_u32, List.length_map]; omega]
 refine no_implicit_lambda% (cal [] (refNumA_c b hb x.length (by omega) (by omega)) ?_ ?_)
 ·intro xx H' hh
  obtain ⟨cp, c1, c2, h', rfl⟩ := hh
  cases h'
  first | (refine no_implicit_lambda% (akc ?_)) | (refine no_implicit_lambda% (aec ?_))
  refine no_implicit_lambda% (awdz ?_)
  ((with_reducible refine no_implicit_lambda% (zC ?_)); refine no_implicit_lambda% (a_appS (sz := 1) (B := 1) (m2 := (b ++ (be x.length 4 ++ x)).length) (rows3 := (b ++ (be x.length 4 ++ x)).map brow) rfl rfl rfl rfl rfl rfl rfl rfl rfl rfl rfl (fun _ h => h) rfl rfl (broOk (b ++ be x.length 4)) (broOk x) (by first | rfl | (exact List.length_map ..) | (simp; done) | (simp; omega)) rfl (by first | omega | (simp; omega)) (by first | rfl | (simp; done) | (simp; omega)) (by first | rfl | (exact map_snoc _ _) | (rw [List.map_append]; rfl) | (simp; done)) ?_))
  intro cp' h1' h2'
  refine no_implicit_lambda% (akc ?_)
  refine no_implicit_lambda% (awdz ?_)
  exact e_ret (H' := bA 2 (b ++ (be x.length 4 ++ x)) cp') (rest := []) rfl ⟨cp', h1', h2', rfl, rfl⟩ (.of_eq rfl) (LE0 rfl)
 ·intro x H' hh
  obtain ⟨_, _, _, h', _⟩ := hh
  cases h'
theorem u8_any (z : Int) : ∃ u : UInt8, IntKind.u8.wrap z = (u.toNat : Int) := by
 refine ⟨UInt8.ofNat (IntKind.u8.wrap z).toNat, ?_⟩
 have h1 : 0 ≤ IntKind.u8.wrap z ∧ IntKind.u8.wrap z < 256 := by rw [IntKind.wrap_u8]; omega
 generalize IntKind.u8.wrap z = x at *
 rw [UInt8.toNat_ofNat_of_lt' (by show x.toNat < 256; omega)]
 omega
theorem bAR_ren {P : Program} {f : FuncId} {top : Nat} {args : List AV} {l : List UInt8} (h : ACalls P f 0 top args [] fun out H' => ∃ id, id < top ∧ bAR id l out H') : ACalls P f 0 1 args [] (bAR 0 l) :=
 h.ren (Nat.zero_le _) fun out H' hh => by
  obtain ⟨id, hid, cp, c1, c2, rfl, rfl⟩ := hh
  exact ⟨[id], .ret (.arr 0 0 l.length cp), bA 0 l cp, by simp, by simpa using hid, fun i h => by omega, Nat.le_refl _, by simp [AOut.ren, AV.ren, rn], by simp [bA, renH, Res.ren, rn], cp, c1, c2, rfl, rfl⟩
end Go.Proofs.YtncffhgoopdfgaaGreat
namespace Go.Proofs.YtncffhgoopdfgaaGreat
open Go.Am
set_option maxRecDepth 100000
theorem refNumO_c (b : List UInt8) (hb : 0 < b.length) (x : Nat) (hx : x < 4294967296) (h : b.length < 1073741824) : ACalls Tryz.prog 56 0 1 [.list (b.map brow) .free, .v (.int .u32 x)] [] (bAR 0 (b ++ be x 4)) := bAR_ren ((refNumA_c b hb x hx h).mono fun _ _ h => ⟨1, by decide, h⟩)
theorem refTextO_c (b x : List UInt8) (hb : 0 < b.length) (h : b.length < 1073741000) (hx : x.length < 1048577) : ACalls Tryz.prog 58 0 1 [.list (b.map brow) .free, .list (x.map brow) .free] [] (bAR 0 (b ++ (be x.length 4 ++ x))) := bAR_ren ((refTextA_c b x hb h hx).mono fun _ _ h => ⟨2, by decide, h⟩)
theorem refLongO_c (b : List UInt8) (hb : 0 < b.length) (x : Nat) (hx : x < 18446744073709551616) (h : b.length < 1073741000) : ACalls Tryz.prog 76 0 1 [.list (b.map brow) .free, .v (.int .u64 x)] [] (bAR 0 (b ++ be x 8)) := by
 refine bAR_ren (top := 10) ?_
 refine no_implicit_lambda% (acalls_of tok dok (f := 76) ⟨Tryz.func76, rfl, by kernel_rfl⟩ ?_); refine no_implicit_lambda% (c_start (fun _ h => h) ?_)
 refine no_implicit_lambda% (awd ?_)
 rw [hi32 x (min (Int.toNat 32) IntKind.u64.bits) hx rfl]
 refine no_implicit_lambda% (calw [] (refNum_c b (x / 4294967296) (by omega) (by omega)) ?_ ?_)
 ·refine no_implicit_lambda% (ret1 ?_); first | (refine no_implicit_lambda% (akc ?_)) | (refine no_implicit_lambda% (aec ?_))
  refine no_implicit_lambda% (awd ?_)
  rw [lo32]
  have h2 := refNumO_c (b ++ be (x / 4294967296) 4) (by simp; omega) (x % 4294967296) (by omega) (by simp [be_len]; omega)
  rw [List.append_assoc, be_split x] at h2
  ((refine no_implicit_lambda% (calw [] (h2) ?_ ?_)); rotate_left; (intro x H' hh; obtain ⟨_, _, _, h', _⟩ := hh; cases h'); intro xx H' hh; obtain ⟨cp, c1, c2, h', rfl⟩ := hh; cases h'; first | (refine no_implicit_lambda% (akc ?_)) | (refine no_implicit_lambda% (aec ?_)))
  refine no_implicit_lambda% (awd ?_)
  exact e_ret (H' := bA 1 (b ++ be x 8) cp) (rest := tokH 0 (b ++ be (x / 4294967296) 4).length) rfl ⟨1, by decide, cp, c1, c2, rfl, rfl⟩ permT (LE0 rfl)
 ·first | (exact zI) | (exact zJ)
theorem refFloatO_c (b : List UInt8) (hb : 0 < b.length) (x : Nat) (hx : x < 18446744073709551616) (h : b.length < 1073741000) : ACalls Tryz.prog 149 0 1 [.list (b.map brow) .free, .v (.float .f64 x)] [] (bAR 0 (b ++ be (canonB x) 8)) := by
 refine bAR_ren (top := 10) ?_
 refine no_implicit_lambda% (acalls_of tok dok (f := 149) ⟨Tryz.func149, rfl, by kernel_rfl⟩ ?_); refine no_implicit_lambda% (c_start (fun _ h => h) ?_)
 refine no_implicit_lambda% (awd ?_)
 refine no_implicit_lambda% (cal [] (refBits_c x hx) ?_ ?_)
 ·refine no_implicit_lambda% (ret1 ?_); first | (refine no_implicit_lambda% (akc ?_)) | (refine no_implicit_lambda% (aec ?_))
  refine no_implicit_lambda% (awd ?_)
  ((refine no_implicit_lambda% (cal [] (refLongO_c b hb (canonB x) (by unfold canonB; split <;> omega) h) ?_ ?_)); rotate_left; (intro x H' hh; obtain ⟨_, _, _, h', _⟩ := hh; cases h'); intro xx H' hh; obtain ⟨cp, c1, c2, h', rfl⟩ := hh; cases h'; first | (refine no_implicit_lambda% (akc ?_)) | (refine no_implicit_lambda% (aec ?_)))
  refine no_implicit_lambda% (awd ?_)
  exact e_ret (H' := bA 0 (b ++ be (canonB x) 8) cp) (rest := []) rfl ⟨0, by decide, cp, c1, c2, rfl, rfl⟩ permT (LE0 rfl)
 ·first | (exact zI) | (exact zJ)
theorem refPutO_c (p : List UInt8) (v : Va) (hp : p.length < 100000000) (hr : vRt v = true) (hn : v.n < 18446744073709551616) : ACalls Tryz.prog 77 0 1 [.list (p.map brow) .free, vav v] [] (bAR 0 (p ++ encA v)) := by
 have hb20 := vRt_len hr
 have hk : v.kind = 1 ∨ v.kind = 2 := by unfold vRt at hr; simp at hr; omega
 obtain ⟨kd, b, n⟩ := v
 simp only at hn hk hb20
 have r1 : ∀ row ∈ p.map brow, row.length = 1 := fun row h => by obtain ⟨_, _, rfl⟩ := List.mem_map.1 h; rfl
 have b1 : (p.map brow).length < 100000000 := by rw [List.length_map]; exact hp
 have b2 : ([] ++ p.map brow).length < 100000000 := b1
 refine bAR_ren (top := 20) ?_
 rcases hk with rfl | rfl
 ·replace hb20 := hb20 rfl
  have ee : p ++ encA ⟨1, b, n⟩ = p ++ [1] ++ (be b.length 4 ++ b) := by simp [encA]
  rw [ee]
  refine no_implicit_lambda% (acalls_of tok dok (f := 77) ⟨Tryz.func77, rfl, by kernel_rfl⟩ ?_); refine no_implicit_lambda% (c_start (fun _ h => h) ?_)
  repeat' (first | (refine no_implicit_lambda% (zH ?_)) | (refine no_implicit_lambda% (spl (fun hc => ?_) (fun hc => ?_)) <;> first | exact zG hc | skip) | (refine no_implicit_lambda% (ans ?_)) | (with_reducible first | exact zI | exact zJ))
  rw [show [] ++ p.map brow ++ [[AV.v (.int .u8 1)]] = (p ++ [1]).map brow by simp [brow]]
  ((refine no_implicit_lambda% (calw [] (refTextO_c (p ++ [1]) b (by simp) (by simp; omega) (by omega)) ?_ ?_)); rotate_left; (intro x H' hh; obtain ⟨_, _, _, h', _⟩ := hh; cases h'); intro xx H' hh; obtain ⟨cp, c1, c2, h', rfl⟩ := hh; cases h'; first | (refine no_implicit_lambda% (akc ?_)) | (refine no_implicit_lambda% (aec ?_)))
  refine no_implicit_lambda% (awd ?_)
  exact e_ret (H' := bA 2 (p ++ [1] ++ (be b.length 4 ++ b)) cp) (rest := _) rfl ⟨2, by decide, cp, c1, c2, rfl, rfl⟩ permT (LE0 rfl)
 ·have ee : p ++ encA ⟨2, b, n⟩ = p ++ [2] ++ be (canonB n) 8 := by simp [encA]
  rw [ee]
  refine no_implicit_lambda% (acalls_of tok dok (f := 77) ⟨Tryz.func77, rfl, by kernel_rfl⟩ ?_); refine no_implicit_lambda% (c_start (fun _ h => h) ?_)
  repeat' (first | (refine no_implicit_lambda% (zH ?_)) | (refine no_implicit_lambda% (spl (fun hc => ?_) (fun hc => ?_)) <;> first | exact zG hc | skip) | (refine no_implicit_lambda% (ans ?_)) | (with_reducible first | exact zI | exact zJ))
  rw [show [] ++ p.map brow ++ [[AV.v (.int .u8 2)]] = (p ++ [2]).map brow by simp [brow]]
  ((refine no_implicit_lambda% (calw [] (refFloatO_c (p ++ [2]) (by simp) n hn (by simp; omega)) ?_ ?_)); rotate_left; (intro x H' hh; obtain ⟨_, _, _, h', _⟩ := hh; cases h'); intro xx H' hh; obtain ⟨cp, c1, c2, h', rfl⟩ := hh; cases h'; first | (refine no_implicit_lambda% (akc ?_)) | (refine no_implicit_lambda% (aec ?_)))
  refine no_implicit_lambda% (awd ?_)
  exact e_ret (H' := bA 2 (p ++ [2] ++ be (canonB n) 8) cp) (rest := _) rfl ⟨2, by decide, cp, c1, c2, rfl, rfl⟩ permT (LE0 rfl)
set_option maxHeartbeats 6400000 in
theorem rwrite5O_c (x : Ch) (hx : rightC x = 0) (hn : x.v.n < 18446744073709551616) : ACalls Tryz.prog 22 0 1 [.list [] .free, .agg (chrow x)] [] (bAR 0 (encCh x)) := by
 obtain ⟨h1, h2, h3, h4, h5⟩ := rightC_inv hx
 obtain ⟨k, c, t, v⟩ := x
 dsimp only at *
 refine bAR_ren (top := 40) ?_
 have hk : k = 1 ∨ k = 5 ∨ k = 2 ∨ k = 3 ∨ k = 4 := by omega
 rcases hk with rfl | rfl | rfl | rfl | rfl
 ·(have hc16 := nmB_len (h2 (by decide)); have ht := refText_c [1] c.data.toList (by simp) (by omega))
  (have ht0 := h3 (by decide); unfold tmOk at ht0; have htt := of_decide_eq_true ht0)
  (have hl8 := refLong_c ([1] ++ encT c) t.toNat (by omega) (by simp only [List.length_append, encT_len, List.length_singleton]; omega))
  have hp := refPutO_c ([1] ++ encT c ++ be t.toNat 8) v (by simp only [List.length_append, encT_len, List.length_singleton, be_len]; omega) (h4 (by decide)) hn
  refine no_implicit_lambda% (acalls_of tok dok (f := 22) ⟨Tryz.func22, rfl, by kernel_rfl⟩ ?_); refine no_implicit_lambda% (c_start (fun _ h => h) ?_)
  repeat' (first | (refine no_implicit_lambda% (zH ?_)) | (refine no_implicit_lambda% (splv (fun hc => ?_) (fun hc => ?_)) <;> first | exact zG hc | skip) | (refine no_implicit_lambda% (ans ?_)) | (with_reducible first | exact zI | exact zJ))
  rw [show [] ++ [] ++ [[AV.v (.int .u8 (IntKind.u8.wrap (⟨1, c, t, v⟩ : Ch).k))]] = ([1] : List UInt8).map brow from rfl]
  refine no_implicit_lambda% (aqs ?_ ?_)
  ·show c.data.toList.length ≤ 4611686018427387904
   omega
  repeat' (first | (refine no_implicit_lambda% (zH ?_)) | (refine no_implicit_lambda% (splv (fun hc => ?_) (fun hc => ?_)) <;> first | exact zG hc | skip) | (refine no_implicit_lambda% (ans ?_)) | (with_reducible first | exact zI | exact zJ))
  (refine no_implicit_lambda% (calw [] (ht) ?_ ?_))
  rotate_left
  ·first | (exact zI) | (exact zJ)
  refine no_implicit_lambda% (ret1 ?_); first | (refine no_implicit_lambda% (akc ?_)) | (refine no_implicit_lambda% (aec ?_))
  repeat' (first | (refine no_implicit_lambda% (zH ?_)) | (refine no_implicit_lambda% (splv (fun hc => ?_) (fun hc => ?_)) <;> first | exact zG hc | skip) | (refine no_implicit_lambda% (ans ?_)) | (with_reducible first | exact zI | exact zJ))
  (rw [show IntKind.u64.wrap t = (t.toNat : Int) by rw [IntKind.wrap_u64]; omega])
  (refine no_implicit_lambda% (calw [] (hl8) ?_ ?_))
  rotate_left
  ·first | (exact zI) | (exact zJ)
  refine no_implicit_lambda% (ret1 ?_); first | (refine no_implicit_lambda% (akc ?_)) | (refine no_implicit_lambda% (aec ?_))
  repeat' (first | (refine no_implicit_lambda% (zH ?_)) | (refine no_implicit_lambda% (splv (fun hc => ?_) (fun hc => ?_)) <;> first | exact zG hc | skip) | (refine no_implicit_lambda% (ans ?_)) | (with_reducible first | exact zI | exact zJ))
  ((refine no_implicit_lambda% (calw [] (hp) ?_ ?_)); rotate_left; (intro x H' hh; obtain ⟨_, _, _, h', _⟩ := hh; cases h'); intro xx H' hh; obtain ⟨cp, c1, c2, h', rfl⟩ := hh; cases h'; first | (refine no_implicit_lambda% (akc ?_)) | (refine no_implicit_lambda% (aec ?_)))
  repeat' (first | (refine no_implicit_lambda% (zH ?_)) | (refine no_implicit_lambda% (splv (fun hc => ?_) (fun hc => ?_)) <;> first | exact zG hc | skip) | (refine no_implicit_lambda% (ans ?_)) | (with_reducible first | exact zI | exact zJ))
  exact e_ret (H' := bA _ ([1] ++ encT c ++ be t.toNat 8 ++ encA v) cp) (rest := _) rfl ⟨_, by decide, cp, c1, c2, rfl, rfl⟩ permT (LE0 rfl)
 ·(have hc16 := nmB_len (h2 (by decide)); have ht := refText_c [5] c.data.toList (by simp) (by omega))
  (have ht0 := h3 (by decide); unfold tmOk at ht0; have htt := of_decide_eq_true ht0)
  (have hl8 := refLong_c ([5] ++ encT c) t.toNat (by omega) (by simp only [List.length_append, encT_len, List.length_singleton]; omega))
  have hp := refPutO_c ([5] ++ encT c ++ be t.toNat 8) v (by simp only [List.length_append, encT_len, List.length_singleton, be_len]; omega) (h4 (by decide)) hn
  refine no_implicit_lambda% (acalls_of tok dok (f := 22) ⟨Tryz.func22, rfl, by kernel_rfl⟩ ?_); refine no_implicit_lambda% (c_start (fun _ h => h) ?_)
  repeat' (first | (refine no_implicit_lambda% (zH ?_)) | (refine no_implicit_lambda% (splv (fun hc => ?_) (fun hc => ?_)) <;> first | exact zG hc | skip) | (refine no_implicit_lambda% (ans ?_)) | (with_reducible first | exact zI | exact zJ))
  rw [show [] ++ [] ++ [[AV.v (.int .u8 (IntKind.u8.wrap (⟨5, c, t, v⟩ : Ch).k))]] = ([5] : List UInt8).map brow from rfl]
  refine no_implicit_lambda% (aqs ?_ ?_)
  ·show c.data.toList.length ≤ 4611686018427387904
   omega
  repeat' (first | (refine no_implicit_lambda% (zH ?_)) | (refine no_implicit_lambda% (splv (fun hc => ?_) (fun hc => ?_)) <;> first | exact zG hc | skip) | (refine no_implicit_lambda% (ans ?_)) | (with_reducible first | exact zI | exact zJ))
  (refine no_implicit_lambda% (calw [] (ht) ?_ ?_))
  rotate_left
  ·first | (exact zI) | (exact zJ)
  refine no_implicit_lambda% (ret1 ?_); first | (refine no_implicit_lambda% (akc ?_)) | (refine no_implicit_lambda% (aec ?_))
  repeat' (first | (refine no_implicit_lambda% (zH ?_)) | (refine no_implicit_lambda% (splv (fun hc => ?_) (fun hc => ?_)) <;> first | exact zG hc | skip) | (refine no_implicit_lambda% (ans ?_)) | (with_reducible first | exact zI | exact zJ))
  (rw [show IntKind.u64.wrap t = (t.toNat : Int) by rw [IntKind.wrap_u64]; omega])
  (refine no_implicit_lambda% (calw [] (hl8) ?_ ?_))
  rotate_left
  ·first | (exact zI) | (exact zJ)
  refine no_implicit_lambda% (ret1 ?_); first | (refine no_implicit_lambda% (akc ?_)) | (refine no_implicit_lambda% (aec ?_))
  repeat' (first | (refine no_implicit_lambda% (zH ?_)) | (refine no_implicit_lambda% (splv (fun hc => ?_) (fun hc => ?_)) <;> first | exact zG hc | skip) | (refine no_implicit_lambda% (ans ?_)) | (with_reducible first | exact zI | exact zJ))
  ((refine no_implicit_lambda% (calw [] (hp) ?_ ?_)); rotate_left; (intro x H' hh; obtain ⟨_, _, _, h', _⟩ := hh; cases h'); intro xx H' hh; obtain ⟨cp, c1, c2, h', rfl⟩ := hh; cases h'; first | (refine no_implicit_lambda% (akc ?_)) | (refine no_implicit_lambda% (aec ?_)))
  repeat' (first | (refine no_implicit_lambda% (zH ?_)) | (refine no_implicit_lambda% (splv (fun hc => ?_) (fun hc => ?_)) <;> first | exact zG hc | skip) | (refine no_implicit_lambda% (ans ?_)) | (with_reducible first | exact zI | exact zJ))
  exact e_ret (H' := bA _ ([5] ++ encT c ++ be t.toNat 8 ++ encA v) cp) (rest := _) rfl ⟨_, by decide, cp, c1, c2, rfl, rfl⟩ permT (LE0 rfl)
 ·(have hc16 := nmB_len (h2 (by decide)); have ht := refText_c [2] c.data.toList (by simp) (by omega))
  (have ht0 := h3 (by decide); unfold tmOk at ht0; have htt := of_decide_eq_true ht0)
  have hp := refLongO_c ([2] ++ encT c) (by simp) t.toNat (by omega) (by simp only [List.length_append, encT_len, List.length_singleton]; omega)
  refine no_implicit_lambda% (acalls_of tok dok (f := 22) ⟨Tryz.func22, rfl, by kernel_rfl⟩ ?_); refine no_implicit_lambda% (c_start (fun _ h => h) ?_)
  repeat' (first | (refine no_implicit_lambda% (zH ?_)) | (refine no_implicit_lambda% (splv (fun hc => ?_) (fun hc => ?_)) <;> first | exact zG hc | skip) | (refine no_implicit_lambda% (ans ?_)) | (with_reducible first | exact zI | exact zJ))
  rw [show [] ++ [] ++ [[AV.v (.int .u8 (IntKind.u8.wrap (⟨2, c, t, v⟩ : Ch).k))]] = ([2] : List UInt8).map brow from rfl]
  refine no_implicit_lambda% (aqs ?_ ?_)
  ·show c.data.toList.length ≤ 4611686018427387904
   omega
  repeat' (first | (refine no_implicit_lambda% (zH ?_)) | (refine no_implicit_lambda% (splv (fun hc => ?_) (fun hc => ?_)) <;> first | exact zG hc | skip) | (refine no_implicit_lambda% (ans ?_)) | (with_reducible first | exact zI | exact zJ))
  (refine no_implicit_lambda% (calw [] (ht) ?_ ?_))
  rotate_left
  ·first | (exact zI) | (exact zJ)
  refine no_implicit_lambda% (ret1 ?_); first | (refine no_implicit_lambda% (akc ?_)) | (refine no_implicit_lambda% (aec ?_))
  repeat' (first | (refine no_implicit_lambda% (zH ?_)) | (refine no_implicit_lambda% (splv (fun hc => ?_) (fun hc => ?_)) <;> first | exact zG hc | skip) | (refine no_implicit_lambda% (ans ?_)) | (with_reducible first | exact zI | exact zJ))
  (rw [show IntKind.u64.wrap t = (t.toNat : Int) by rw [IntKind.wrap_u64]; omega])
  ((refine no_implicit_lambda% (calw [] (hp) ?_ ?_)); rotate_left; (intro x H' hh; obtain ⟨_, _, _, h', _⟩ := hh; cases h'); intro xx H' hh; obtain ⟨cp, c1, c2, h', rfl⟩ := hh; cases h'; first | (refine no_implicit_lambda% (akc ?_)) | (refine no_implicit_lambda% (aec ?_)))
  repeat' (first | (refine no_implicit_lambda% (zH ?_)) | (refine no_implicit_lambda% (splv (fun hc => ?_) (fun hc => ?_)) <;> first | exact zG hc | skip) | (refine no_implicit_lambda% (ans ?_)) | (with_reducible first | exact zI | exact zJ))
  exact e_ret (H' := bA _ ([2] ++ encT c ++ be t.toNat 8) cp) (rest := _) rfl ⟨_, by decide, cp, c1, c2, rfl, rfl⟩ permT (LE0 rfl)
 ·have hc16 := nmB_len (h2 (by decide))
  have hp := refTextO_c [3] c.data.toList (by decide) (by decide) (by omega)
  refine no_implicit_lambda% (acalls_of tok dok (f := 22) ⟨Tryz.func22, rfl, by kernel_rfl⟩ ?_); refine no_implicit_lambda% (c_start (fun _ h => h) ?_)
  repeat' (first | (refine no_implicit_lambda% (zH ?_)) | (refine no_implicit_lambda% (splv (fun hc => ?_) (fun hc => ?_)) <;> first | exact zG hc | skip) | (refine no_implicit_lambda% (ans ?_)) | (with_reducible first | exact zI | exact zJ))
  rw [show [] ++ [] ++ [[AV.v (.int .u8 (IntKind.u8.wrap (⟨3, c, t, v⟩ : Ch).k))]] = ([3] : List UInt8).map brow from rfl]
  refine no_implicit_lambda% (aqs ?_ ?_)
  ·show c.data.toList.length ≤ 4611686018427387904
   omega
  repeat' (first | (refine no_implicit_lambda% (zH ?_)) | (refine no_implicit_lambda% (splv (fun hc => ?_) (fun hc => ?_)) <;> first | exact zG hc | skip) | (refine no_implicit_lambda% (ans ?_)) | (with_reducible first | exact zI | exact zJ))
  ((refine no_implicit_lambda% (calw [] (hp) ?_ ?_)); rotate_left; (intro x H' hh; obtain ⟨_, _, _, h', _⟩ := hh; cases h'); intro xx H' hh; obtain ⟨cp, c1, c2, h', rfl⟩ := hh; cases h'; first | (refine no_implicit_lambda% (akc ?_)) | (refine no_implicit_lambda% (aec ?_)))
  repeat' (first | (refine no_implicit_lambda% (zH ?_)) | (refine no_implicit_lambda% (splv (fun hc => ?_) (fun hc => ?_)) <;> first | exact zG hc | skip) | (refine no_implicit_lambda% (ans ?_)) | (with_reducible first | exact zI | exact zJ))
  exact e_ret (H' := bA _ ([3] ++ encT c) cp) (rest := _) rfl ⟨_, by decide, cp, c1, c2, rfl, rfl⟩ permT (LE0 rfl)
 ·refine no_implicit_lambda% (acalls_of tok dok (f := 22) ⟨Tryz.func22, rfl, by kernel_rfl⟩ ?_); refine no_implicit_lambda% (c_start (fun _ h => h) ?_)
  refine no_implicit_lambda% (awdz ?_)
  ((with_reducible refine no_implicit_lambda% (zC ?_)); refine no_implicit_lambda% (a_appS0 (sz := 1) (B := 1) (m2 := 0) rfl rfl rfl rfl rfl rfl rfl rfl rfl (by first | exact .inl rfl | exact .inr ⟨_, _, rfl⟩) rfl rfl rfl (broOk ([] : List UInt8)) (by first | omega | (simp; done) | (simp; omega)) (by first | omega | (simp; done) | (simp; omega)) (by first | rfl | (exact List.length_map ..) | (simp; done)) ?_))
  intro cp0 d1 d2
  refine no_implicit_lambda% (aec ?_)
  refine no_implicit_lambda% (awdz ?_)
  ((with_reducible refine no_implicit_lambda% (zC ?_)); refine no_implicit_lambda% (a_appS (sz := 1) (B := 1) (m2 := 1) (rows3 := ([4] : List UInt8).map brow) rfl rfl rfl rfl rfl rfl rfl rfl rfl rfl rfl (fun _ h => h) rfl rfl (broOk ([] : List UInt8)) (broOk ([4] : List UInt8)) (by first | rfl | (exact List.length_map ..) | (simp; done) | (simp; omega)) rfl (by first | omega | (simp; done) | (simp; omega)) (by first | rfl | (simp; done) | (simp; omega)) (by first | rfl | (exact map_snoc _ _) | (rw [List.map_append]; rfl) | (simp; done)) ?_))
  intro cp c1 c2
  refine no_implicit_lambda% (aec ?_)
  refine no_implicit_lambda% (awdz ?_)
  exact e_ret (H' := bA _ [4] cp) (rest := _) rfl ⟨_, by decide, cp, c1, c2, rfl, rfl⟩ permT (LE0 rfl)
end Go.Proofs.YtncffhgoopdfgaaGreat
namespace Go.Am
open Go.RowKit
def fieldSB (P : Program) (t : TypeId) (i off n : Nat) : Bool := match P.underlying t with
 | some (.struct flds) => match flds[i]? with
  | some f => Nat.beq f.offset off && ((match P.underlying f.type with
   | some (.struct _) => true
   | _ => false) && (match P.info? f.type with
   | some j => Nat.beq j.size n
   | none => false))
  | none => false
 | _ => false
theorem q_fieldS {P : Program} {L : Heap} {ev raw : Operand → AV} {o : Oper} {t : TypeId} {x : Operand} {i off n : Nat} {l m : List AV} (ho : o.op = .field t x i) (hb : fieldSB P t i off n = true) (hx : ev x = .agg l) (hn : off + n ≤ l.length) (hl : (l.drop off).take n = m) : QOk P L ev raw o (.agg m) :=
 .still fun G w ρ hh => by
  have h1 := hh.ev x (by rw [ho]; simp [Op.operands])
  rw [hx] at h1
  obtain ⟨vs, h2, h3, h4⟩ := h1.agg_inv
  subst hl
  refine ⟨.agg (vs.extract off (off + n)), ?_, .agg _ _ (by simp; omega) fun j a ha => ?_⟩
  rotate_left
  ·have hj : j < n := by have := (List.getElem?_eq_some_iff.1 ha).1; simp at this; omega
   rw [List.getElem?_take_of_lt hj, List.getElem?_drop] at ha
   have h5 := h4 (off + j) a ha
   have h6 : off + j < vs.size := by omega
   have h7 : (vs.extract off (off + n)).getD j undef = vs.getD (off + j) undef := by
    have h8 : j < (vs.extract off (off + n)).size := by simp; omega
    rw [Array.getD_eq_getD_getElem?, Array.getD_eq_getD_getElem?, Array.getElem?_eq_getElem h8, Array.getElem?_eq_getElem h6]
    simp
   rw [h7]; exact h5
  unfold fieldSB at hb
  split at hb
  ·rename_i flds hu
   split at hb
   ·rename_i f hf
    simp only [Bool.and_eq_true] at hb
    obtain ⟨b1, b2, b3⟩ := hb
    have hoff := Nat.eq_of_beq_eq_true b1
    have hagg : (isAgg f.type).run P w = .ok true w := by
     unfold isAgg
     split at b2
     ·rename_i d hd
      rw [Sem.run_bind, run_underlying hd]
      rfl
     ·cases b2
    have hsz : (sizeOf f.type).run P w = .ok n w := by
     split at b3
     ·rename_i j hj
      have := Nat.eq_of_beq_eq_true b3
      subst this
      simp [sizeOf, typeInfo, hj]
     ·cases b3
    simp only [execOp, ho, h2]
    have hrun : (Instr.field t (.agg vs) i).run P w = .ok (.agg (vs.extract off (off + n))) w := by
     unfold Instr.field
     rw [Sem.run_bind, run_underlying hu]
     simp only [Result.andThen, hf]
     rw [Sem.run_bind]
     show Result.andThen ((pure vs : Sem (Array Value)).run P w) _ = _
     rw [Sem.run_pure]
     simp only [Result.andThen]
     unfold part
     rw [Sem.run_bind, hagg]
     simp only [Result.andThen, hoff, if_true]
     rw [Sem.run_bind, hsz]
     rfl
    rw [Sem.run_bind, hrun]
    rfl
   ·cases hb
  ·cases hb
end Go.Am
namespace Go.Proofs.YtncffhgoopdfgaaGreat
open Go.Am
set_option maxRecDepth 100000
set_option maxHeartbeats 3200000 in
theorem cond5_c (o : Ow) (ho : OwOk o) : ACalls Tryz.prog 30 0 100000 [.agg (owrow o)] [] (fun out H' => ∃ d, CdSz d ∧ out = .ret (.agg (cdrow d)) ∧ H' = []) := by
 have z0 : (-9223372036854775808 : Int) ≤ 0 ∧ (0 : Int) ≤ 9223372036854775807 := by decide
 have z2 : (-9223372036854775808 : Int) ≤ 2 ∧ (2 : Int) ≤ 9223372036854775807 := by decide
 have hop := op_c ⟨2, 0, 0, 0, o.c, true, o.want, o.v, []⟩ ⟨z2, z0, z0, z0, ho.c, ho.v, (fun a ha => by cases ha), Nat.zero_le _⟩
 refine no_implicit_lambda% (acalls_of tok dok (f := 30) ⟨Tryz.func30, rfl, by kernel_rfl⟩ ?_); refine no_implicit_lambda% (c_start (fun _ h => h) ?_)
 repeat' (first | (refine no_implicit_lambda% (zH ?_)) | (refine no_implicit_lambda% (spl (fun hc => ?_) (fun hc => ?_)) <;> first | exact zG hc | skip) | (refine no_implicit_lambda% (ans ?_)) | (with_reducible first | exact zI | exact zJ))
 refine no_implicit_lambda% (calw [] hop ?_ ?_ (hargs := .cons (LeA.agg' (.cons (.refl _) (.cons (.refl _) (.cons (.refl _) (.cons (.refl _) (.cons (.refl _) (.cons (.refl _) (.cons (.refl _) (.cons (.refl _) (.cons (.refl _) (.cons (.refl _) (.cons (.refl _) (.cons (LeA.free _ _) .nil))))))))))))) .nil))
 rotate_left
 ·intro xx H' hx
  obtain ⟨_, _, h', _⟩ := hx
  cases h'
 intro xx H' hx
 obtain ⟨q, hq, h', rfl⟩ := hx
 cases h'
 first | (refine no_implicit_lambda% (akc ?_)) | (refine no_implicit_lambda% (aec ?_))
 repeat' (first | (refine no_implicit_lambda% (zH ?_)) | (refine no_implicit_lambda% (spl (fun hc => ?_) (fun hc => ?_)) <;> first | exact zG hc | skip) | (refine no_implicit_lambda% (ans ?_)) | (with_reducible first | exact zI | exact zJ))
 ((with_reducible refine no_implicit_lambda% (zC ?_)); refine no_implicit_lambda% (a_known rfl (q_fieldS (off := 3) (n := 6) rfl (by kernel_rfl) rfl (LE0 rfl) rfl) ?_))
 repeat' (first | (refine no_implicit_lambda% (zH ?_)) | (refine no_implicit_lambda% (spl (fun hc => ?_) (fun hc => ?_)) <;> first | exact zG hc | skip) | (refine no_implicit_lambda% (ans ?_)) | (with_reducible first | exact zI | exact zJ))
 exact e_ret (H' := []) (rest := _) rfl ⟨q.d, hq.1, rfl, rfl⟩ permT (LE0 rfl)
theorem cond5_d (o : Ow) (ho : OwOk o) : ACalls Tryz.prog 30 0 0 [.agg (owrow o)] [] (fun out H' => ∃ d, CdSz d ∧ out = .ret (.agg (cdrow d)) ∧ H' = []) :=
 ACalls.ren (cond5_c o ho) (Nat.zero_le _) fun out H' hh => by
  obtain ⟨d, h1, rfl, rfl⟩ := hh
  exact ⟨[], .ret (.agg (cdrow d)), [], List.nodup_nil, (fun q h => by cases h), (fun q h => by omega), Nat.le_refl _, rfl, rfl, d, h1, rfl, rfl⟩
theorem atR_sz {r : List Co} {s : ByteArray} {t : Int} {v : Va} (hz : RowSz r) (h : atR r s t = some v) : v.b.length < 1073741824 ∧ v.n < 18446744073709551616 := by
 unfold atR at h
 split at h
 ·rcases hc : (copyR r)[npos (copyR r) s]? with _ | c
  ·rw [hc] at h; cases h
  ·rw [hc] at h
   have h2 : atL c.l t = some v := h
   unfold atL at h2
   rcases hf : c.l.find? (fun x => decide (x.t ≤ t)) with _ | y
   ·rw [hf] at h2; cases h2
   ·rw [hf] at h2
    cases h2
    exact copy_sz hz c (List.mem_of_getElem? hc) y (List.mem_of_find?_eq_some hf)
 ·cases h
theorem reads5A_c (l : List UInt8) (cp n : Nat) (hn : n = l.length) (hl : l.length < 10000000) : ACalls Tryz.prog 24 1 1 [.arr 0 0 n cp] [(0, .seq (l.map brow) ((cp - n) * 1))] (fun out H' => out = .ret (.v (.bool true)) ∧ H' = [(0, .seq (l.map brow) ((cp - n) * 1))]) := by
 subst hn
 refine (((reads5_c l hl).top0).borrow (k := 1) (top := 1) (args := [.arr 0 0 l.length cp]) (H := [(0, .seq (l.map brow) ((cp - l.length) * 1))]) rfl (fun out H' hh => by obtain ⟨rfl, rfl⟩ := hh; rfl) (fun i a' ha => ?_)).mono fun out H' hh => ?_
 ·match i with
  | 0 =>
   simp at ha; subst ha
   exact ⟨_, rfl, .seq (k := (cp - l.length) * 1) (by simp) (broOk l) (by simp)⟩
  | i + 1 => simp at ha
 ·obtain ⟨⟨_, h1, _⟩, h2⟩ := hh
  exact ⟨h1, h2⟩
def ctSt (d : Cd) (xs : List Ch) (at' : Int) (turn : UInt8) (i : Nat) : ASt := ⟨(List.replicate 5 .dead ++ [.v (.int .i64 at'), .v (.int .u8 turn.toNat)] ++ List.replicate 9 .dead ++ [.list (xs.map chrow) .free, .ptr 2 0, .v (.int .i64 i)] ++ List.replicate 82 .dead), [(2, .box (cdrow d))], 3⟩
def ctqSt (r : List Co) (o : Ow) (xs : List Ch) (b : List UInt8) (at' : Int) (turn : UInt8) (raw : List Ch) : ASt := ⟨([.dead, .dead, .dead, .list (raw.map chrow) .free, .list (b.map brow) .free, .v (.int .i64 at'), .v (.int .u8 turn.toNat), .dead, .dead, .ptr 0 0] ++ List.replicate 5 .dead ++ [.ptr 1 0, .list (xs.map chrow) .free] ++ List.replicate 84 .dead), [(0, .box (owrow o)), (1, .box [.list (r.map corow) .free])], 2⟩
set_option maxHeartbeats 6400000 in
theorem tells5_rc (l m : List Cw) (o : Ow) (raw : List Ch) (b : List UInt8) (at' : Int) (turn : UInt8) (hl : ∀ a ∈ l, CwOk a) (h1 : l.length ≤ 9223372036854775807) (hm : ∀ a ∈ m, CwOk a) (h2 : m.length ≤ 9223372036854775807) (ho : OwOk o) (hraw : ∀ x ∈ raw, x.v.n < 18446744073709551616) (ha : -9223372036854775808 ≤ at' ∧ at' ≤ 9223372036854775807) : ACalls Tryz.prog 5 0 90000000 [.list (l.map cwrow) .free, .list (m.map cwrow) .free, .agg (owrow o), .list (raw.map chrow) .free, .list (b.map brow) .free, .v (.int .i64 at'), .v (.int .u8 turn.toNat)] [] (fun out H' => out = .ret (.v (.bool true)) ∧ H' = []) := by
 have hk := known5_c.top0
 refine no_implicit_lambda% (acalls_of tok dok (f := 5) ⟨Tryz.func5, rfl, by kernel_rfl⟩ ?_); refine no_implicit_lambda% (c_start (fun _ h => h) ?_)
 repeat' (first | (refine no_implicit_lambda% (zH ?_)) | (refine no_implicit_lambda% (splv (fun hc => ?_) (fun hc => ?_)) <;> first | exact zG hc | skip) | (refine no_implicit_lambda% (ans ?_)) | (with_reducible first | exact zI | exact zJ) | (refine no_implicit_lambda% (wsp ?_)) | fail )
 (refine no_implicit_lambda% (cal [] (made5_d l hl h1) ?_ ?_))
 rotate_left
 ·intro xx H' hx
  obtain ⟨_, _, h', _⟩ := hx
  cases h'
 intro xx H' hx
 obtain ⟨r, ⟨hF, hz⟩, h', rfl⟩ := hx
 cases h'
 first | (refine no_implicit_lambda% (akc ?_)) | (refine no_implicit_lambda% (aec ?_))
 repeat' (first | (refine no_implicit_lambda% (zH ?_)) | (refine no_implicit_lambda% (splv (fun hc => ?_) (fun hc => ?_)) <;> first | exact zG hc | skip) | (refine no_implicit_lambda% (ans ?_)) | (with_reducible first | exact zI | exact zJ) | (refine no_implicit_lambda% (wsp ?_)) | fail )
 (refine no_implicit_lambda% (cal [] (changes_d m 9 (by decide) hm h2) ?_ ?_))
 rotate_left
 ·intro xx H' hx
  obtain ⟨_, _, h', _⟩ := hx
  cases h'
 intro xx H' hx
 obtain ⟨xs, ⟨hx9, hok⟩, h', rfl⟩ := hx
 cases h'
 first | (refine no_implicit_lambda% (akc ?_)) | (refine no_implicit_lambda% (aec ?_))
 repeat' (first | (refine no_implicit_lambda% (sx1 ?_)) | (refine no_implicit_lambda% (spl (fun hc => ?_) (fun hc => ?_)) <;> first | exact zG hc | skip) | fail)
 refine k_seq ?_
 refine c_cutR (fun q => ctqSt r o xs b at' turn q) (fun q => (∀ x ∈ q, x.v.n < 18446744073709551616) ∧ q.length ≤ 4) ?_ ?_
 ·rintro q ⟨hq, hq4⟩
  refine c_turn (n' := 2) (fun _ h => h) (fun _ h => h) rfl ?_
  repeat' (first | (refine no_implicit_lambda% (zH ?_)) | (refine no_implicit_lambda% (spl (fun hc => ?_) (fun hc => ?_)) <;> first | exact zG hc | skip) | (refine no_implicit_lambda% (ans ?_)) | (with_reducible first | exact zI | exact zJ))
  (refine no_implicit_lambda% (cal [] (cond5_d o ho) ?_ ?_))
  rotate_left
  ·intro xx H' hx
   obtain ⟨_, _, h', _⟩ := hx
   cases h'
  intro xx H' hx
  obtain ⟨d, hd, h', rfl⟩ := hx
  cases h'
  first | (refine no_implicit_lambda% (akc ?_)) | (refine no_implicit_lambda% (aec ?_))
  have hr4 := hF.len
  have a1 := (applies5_c r xs hF hz (fun x hx => (hok x hx).1.2) (by omega)).top0
  have a2 := (applies5_c r q hF hz hq (by omega)).top0
  have hat := fun v (hv : atR r d.c 1099511627776 = some v) => atR_sz hz hv
  have q1 := (holds_c r d (by omega) hz (by have := hd.1; omega) (fun v hv => by have := (hat v hv).1; omega)).top0
  have q2 := (qholds_c r d (by omega) hz hd.2 (fun v hv => (hat v hv).2)).top0
  have q3 := cut_c b 40 (by decide)
  have q4 := (reads5_c (b.take 40) (by rw [List.length_take]; omega)).top0
  repeat' (first | (refine no_implicit_lambda% (zH ?_)) | (refine no_implicit_lambda% (spl (fun hc => ?_) (fun hc => ?_)) <;> first | exact zG hc | skip) | (refine no_implicit_lambda% (ans ?_)) | (with_reducible first | exact zI | exact zJ))
  repeat' (first | (refine no_implicit_lambda% (zH ?_)) | (refine no_implicit_lambda% (splv (fun hc => ?_) (fun hc => ?_)) <;> first | exact zG hc | skip) | (refine no_implicit_lambda% (ans ?_)) | (with_reducible first | exact zI | exact zJ) | (refine no_implicit_lambda% (wsp ?_)) | (refine no_implicit_lambda% (cal [] (a1) ?_ ?_)) | (refine no_implicit_lambda% (cal [] (a2) ?_ ?_)) | (refine no_implicit_lambda% (cal [] (q1) ?_ ?_)) | (refine no_implicit_lambda% (cal [] (q2) ?_ ?_)) | (refine no_implicit_lambda% (cal [] (q3) ?_ ?_)) | (refine no_implicit_lambda% (cal [] (q4) ?_ ?_)) | fail)
  ·exfalso; simp at hc
  refine c_loop' (ctSt d xs at' turn) (fun i => i ≤ xs.length) (fun i => xs.length - i) (a := 0) (Nat.zero_le _) ?_ ?_
  ·(refine no_implicit_lambda% (Conv.toT ?_ ?_ (LE0 rfl))); (focus ((unfold ctSt); (try dsimp only); exact wkl)); (focus ((unfold ctSt); (try dsimp only); exact wkh))
  ·rintro i i1
   refine c_turn (n' := 3) (fun _ h => h) (fun _ h => h) rfl ?_
   have hlm : ((xs.map chrow).length : Int) = xs.length := by rw [List.length_map]
   rcases hx : xs[i]? with _ | x
   ·have hi : i = xs.length := by have := List.getElem?_eq_none_iff.1 hx; omega
    repeat' (first | (refine no_implicit_lambda% (zH ?_)) | (refine no_implicit_lambda% (spl (fun hc => ?_) (fun hc => ?_)) <;> first | exact zG hc | skip) | (refine no_implicit_lambda% (ans ?_)) | (with_reducible first | exact zI | exact zJ) | (refine no_implicit_lambda% (cal [] (hk) ?_ ?_)) | fail)
    exact e_ret (H' := []) (rest := _) rfl ⟨rfl, rfl⟩ permT (LE0 rfl)
   ·have hi : i < xs.length := (List.getElem?_eq_some_iff.1 hx).1
    have hxo := hok x (List.mem_of_getElem? hx)
    have hix := chx hx
    have hel := encCh_len hxo.2
    have hw := rwrite5O_c x hxo.2 hxo.1.2
    have hws := (writes5_c x d hxo.1.2 hd.2).top0
    generalize encCh x = e at *
    repeat' (first | (refine no_implicit_lambda% (zH ?_)) | (refine no_implicit_lambda% (spl (fun hc => ?_) (fun hc => ?_)) <;> first | exact zG hc | skip) | (refine no_implicit_lambda% (ans ?_)) | (with_reducible first | exact zI | exact zJ))
    (refine no_implicit_lambda% (calw [] (hw) ?_ ?_))
    rotate_left
    ·intro xx H' hx
     obtain ⟨_, _, _, h', _⟩ := hx
     cases h'
    intro xx H' hx
    obtain ⟨cp, c1, c2, h', rfl⟩ := hx
    cases h'
    first | (refine no_implicit_lambda% (akc ?_)) | (refine no_implicit_lambda% (aec ?_))
    repeat' (first | (refine no_implicit_lambda% (zH ?_)) | (refine no_implicit_lambda% (spl (fun hc => ?_) (fun hc => ?_)) <;> first | exact zG hc | skip) | (refine no_implicit_lambda% (ans ?_)) | (with_reducible first | exact zI | exact zJ))
    refine no_implicit_lambda% (aqs ?_ ?_)
    ·omega
    have ht : -(e.length : Int) < at'.tmod e.length ∧ at'.tmod e.length < e.length := ⟨Int.lt_tmod_of_pos _ (by omega), Int.tmod_lt_of_pos _ (by omega)⟩
    generalize at'.tmod (e.length : Int) = k0 at *
    repeat' (first | (refine no_implicit_lambda% (zH ?_)) | (refine no_implicit_lambda% (spl (fun hc => ?_) (fun hc => ?_)) <;> first | exact zG hc | skip) | (refine no_implicit_lambda% (ans ?_)) | (with_reducible first | exact zI | exact zJ))
    refine no_implicit_lambda% (aqs ?_ ?_)
    ·omega
    obtain ⟨j, hj, hje⟩ : ∃ j : Nat, j < e.length ∧ (IntKind.i64.wrap (k0 + e.length)).tmod e.length = (j : Int) := by
     refine ⟨(k0 + e.length).toNat % e.length, Nat.mod_lt _ (by omega), ?_⟩
     rw [z64 (by omega) (by omega), show k0 + (e.length : Int) = (((k0 + e.length).toNat : Nat) : Int) by omega, Int.toNat_natCast, ← Int.ofNat_tmod]
    rw [hje]
    have hA := reads5A_c e cp e.length rfl (by omega)
    repeat' (first | (refine no_implicit_lambda% (zH ?_)) | (refine no_implicit_lambda% (spl (fun hc => ?_) (fun hc => ?_)) <;> first | exact zG hc | skip) | (refine no_implicit_lambda% (ans ?_)) | (with_reducible first | exact zI | exact zJ))
    repeat' (first | (refine no_implicit_lambda% (zH ?_)) | (refine no_implicit_lambda% (splv (fun hc => ?_) (fun hc => ?_)) <;> first | exact zG hc | skip) | (refine no_implicit_lambda% (ans ?_)) | (with_reducible first | exact zI | exact zJ) | (refine no_implicit_lambda% (wsp ?_)) | (refine no_implicit_lambda% (cal [] (hws) ?_ ?_)) | (refine no_implicit_lambda% (cal [3] (hA) ?_ ?_)) | fail)
    all_goals try (exfalso; simp at hc; done)
    refine no_implicit_lambda% (aqs ?_ ?_)
    ·exact ⟨Int.natCast_nonneg j, by omega⟩
    refine no_implicit_lambda% (awdz ?_)
    have hrow : (e.map brow)[j]? = some (brow e[j]) := by rw [List.getElem?_map, List.getElem?_eq_getElem hj]; rfl
    generalize e[j] = c at *
    ((with_reducible refine no_implicit_lambda% (zC ?_)); refine no_implicit_lambda% (a_loadSeq (sz := 1) (rows := e.map brow) (i := j) (j := 0) rfl rfl rfl rfl rfl (broOk e) (hrow) rfl (by first | rfl | (simp; done) | (simp; omega)) ?_))
    refine no_implicit_lambda% (awdz ?_)
    obtain ⟨u, hu⟩ := u8_any ((BitVec.ofInt IntKind.u8.bits (c.toNat : Int) ^^^ BitVec.ofInt IntKind.u8.bits (turn.toNat : Int)).toNat : Nat)
    rw [hu]
    refine no_implicit_lambda% (aqs ?_ ?_)
    ·exact ⟨Int.natCast_nonneg j, by omega⟩
    refine no_implicit_lambda% (awdz ?_)
    ((with_reducible refine no_implicit_lambda% (zC ?_)); refine no_implicit_lambda% (a_storeSeq (sz := 1) (rows := e.map brow) (i := j) (j := 0) (row' := brow u) rfl rfl rfl (fun _ h => h) rfl rfl (broOk e) (hrow) (by first | decide | (simp; done)) (by first | rfl | (simp; done)) (by first | rfl | (simp; done) | (simp; omega)) ?_))
    rw [← List.map_set]
    obtain ⟨Z, hZ⟩ : ∃ Z, Z = e.set j u := ⟨_, rfl⟩
    have hZl : e.length = Z.length := by rw [hZ, List.length_set]
    rw [← hZ]
    have hA2 := reads5A_c Z cp e.length hZl (by omega)
    refine no_implicit_lambda% (akc ?_)
    repeat' (first | (refine no_implicit_lambda% (zH ?_)) | (refine no_implicit_lambda% (splv (fun hc => ?_) (fun hc => ?_)) <;> first | exact zG hc | skip) | (refine no_implicit_lambda% (ans ?_)) | (with_reducible first | exact zI | exact zJ) | (refine no_implicit_lambda% (wsp ?_)) | (refine no_implicit_lambda% (cal [3] (hA2) ?_ ?_)) | fail)
    (refine no_implicit_lambda% (k_loopLT (i + 1) 0 [0, 1, 2] (show i + 1 ≤ xs.length from hi) (by first | omega | (simp; done) | (simp; omega)) (LE0 rfl) (fun _ h => h) (fun _ h => h) ?_ ?_)); (focus ((try dsimp only); exact wkl)); (focus ((try dsimp only); exact wkh))
 ·intro Kx kN kP kR kE
  repeat' (first | (refine no_implicit_lambda% (zH ?_)) | (refine no_implicit_lambda% (spl (fun hc => ?_) (fun hc => ?_)) <;> first | exact zG hc | skip) | (refine no_implicit_lambda% (ans ?_)) | (with_reducible first | exact zI | exact zJ))
  ·refine no_implicit_lambda% (aqs ?_ ?_)
   ·have h9 := of_decide_eq_true hc
    rw [List.length_map] at h9
    refine ⟨trivial, (by show (0 : Int) ≤ 4; decide), Nat.zero_le _, ?_, chOk6 raw⟩
    rw [List.length_map]
    show 4 ≤ raw.length
    omega
   refine k_as (.list ((raw.take 4).map chrow) .free) (by simp [List.map_take, orFull, isFull, isNone]) ?_
   repeat' (first | (refine no_implicit_lambda% (zH ?_)) | (refine no_implicit_lambda% (spl (fun hc => ?_) (fun hc => ?_)) <;> first | exact zG hc | skip) | (refine no_implicit_lambda% (ans ?_)) | (with_reducible first | exact zI | exact zJ))
   refine kN (raw.take 4) _ _ _ ⟨fun x hx => hraw x (List.mem_of_mem_take hx), by rw [List.length_take]; omega⟩ (.inl ?_)
   (refine no_implicit_lambda% (Conv.toT ?_ ?_ (LE0 rfl))); (focus ((unfold ctqSt); (try dsimp only); exact wkl)); (focus ((unfold ctqSt); (try dsimp only); exact wkh))
  ·refine kN raw _ _ _ ⟨hraw, ?_⟩ (.inl ?_)
   ·have h9 := of_decide_eq_false hc
    rw [List.length_map] at h9; omega
   ·(refine no_implicit_lambda% (Conv.toT ?_ ?_ (LE0 rfl))); (focus ((unfold ctqSt); (try dsimp only); exact wkl)); (focus ((unfold ctqSt); (try dsimp only); exact wkh))
end Go.Proofs.YtncffhgoopdfgaaGreat
