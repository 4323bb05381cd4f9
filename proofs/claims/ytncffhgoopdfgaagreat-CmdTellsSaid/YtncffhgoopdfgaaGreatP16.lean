/- Part 16 of what the laws CmdTells rest on: CdO, CdS, CdU, CdT. -/
import Derived.Test.YtncffhgoopdfgaaGreatP15
import Derived.SizedLaws
set_option linter.unusedSimpArgs false
set_option linter.unusedVariables false
namespace Go.Proofs.YtncffhgoopdfgaaGreat
open Go.Am
set_option maxRecDepth 100000
structure Dw where
 k : Int
 a : Int
 b : Int
 at' : Int
 gen : Int
 to : Int
 o : Ow
 st : List UInt8
def dwrow (x : Dw) : List AV := [.v (.int .i64 x.k), .v (.int .i64 x.a), .v (.int .i64 x.b), .v (.int .i64 x.at'), .v (.int .i64 x.gen), .v (.int .i64 x.to)] ++ owrow x.o ++ [.list (x.st.map brow) .free]
abbrev I64 (n : Int) : Prop := -9223372036854775808 ≤ n ∧ n ≤ 9223372036854775807
structure DwOk (x : Dw) : Prop where
 k : I64 x.k
 a : I64 x.a
 b : I64 x.b
 at' : I64 x.at'
 gen : I64 x.gen
 to : I64 x.to
 o : OwOk x.o
theorem op_d (o : Ow) (ho : OwOk o) : ACalls Tryz.prog 41 0 0 [.agg (owrow o)] [] (fun out H' => ∃ q, OqOk q ∧ out = .ret (.agg (oqrow q)) ∧ H' = []) :=
 ACalls.ren (op_c o ho) (Nat.zero_le _) fun out H' hh => by
  obtain ⟨q, h1, rfl, rfl⟩ := hh
  exact ⟨[], .ret (.agg (oqrow q)), [], List.nodup_nil, (fun q h => by cases h), (fun q h => by omega), Nat.le_refl _, rfl, rfl, q, h1, rfl, rfl⟩
theorem keeprow_d (n : Int) (hn : I64 n) : ACalls Tryz.prog 40 0 0 [.v (.int .i64 n)] [] (fun out H' => ∃ t ∈ rwL, out = .ret (.v (.string t)) ∧ H' = []) :=
 ACalls.ren (keeprow_c n hn.1 hn.2) (Nat.zero_le _) fun out H' hh => by
  obtain ⟨t, h1, rfl, rfl⟩ := hh
  exact ⟨[], .ret (.v (.string t)), [], List.nodup_nil, (fun q h => by cases h), (fun q h => by omega), Nat.le_refl _, rfl, rfl, t, h1, rfl, rfl⟩
set_option maxHeartbeats 6400000 in
theorem made8_c (x : Dw) (hx : DwOk x) : ACalls Tryz.prog 9 0 1000 [.agg (dwrow x)] [] (fun out H' => ∃ c : Cm, OqOk c.op ∧ out = .ret (.agg (cmrow c)) ∧ H' = []) := by
 obtain ⟨k, a, b, at', gen, to, o, st⟩ := x
 obtain ⟨hk, ha, hb, hat, hg, ht, ho⟩ := hx
 dsimp only at *
 have w1 := wthn_c k 0 1048576 hk.1 hk.2 (by decide) (by decide) (by decide) (by decide)
 have w2 := wthn_c gen 0 1073741824 hg.1 hg.2 (by decide) (by decide) (by decide) (by decide)
 have w3 := wthn_c to 0 255 ht.1 ht.2 (by decide) (by decide) (by decide) (by decide)
 have w4 := wthn_c to 0 1048576 ht.1 ht.2 (by decide) (by decide) (by decide) (by decide)
 have q3 := cut_c st 40 (by decide)
 have b1 := wthn_bd k 0 1048576 (by decide)
 have b4 := wthn_bd to 0 1048576 (by decide)
 generalize wthn k 0 1048576 = k0 at *
 generalize wthn to 0 1048576 = d0 at *
 generalize wthn to 0 255 = t0 at *
 generalize wthn gen 0 1073741824 = g0 at *
 refine no_implicit_lambda% (acalls_of tok dok (f := 9) ⟨Tryz.func9, rfl, by kernel_rfl⟩ ?_); refine no_implicit_lambda% (c_start (fun _ h => h) ?_)
 repeat' (first | (refine no_implicit_lambda% (zH ?_)) | (refine no_implicit_lambda% (splv (fun hc => ?_) (fun hc => ?_)) <;> first | exact zG hc | skip) | (refine no_implicit_lambda% (ans ?_)) | (with_reducible first | exact zI | exact zJ) | (refine no_implicit_lambda% (cal [] (w1) ?_ ?_)) | (refine no_implicit_lambda% (cal [] (w2) ?_ ?_)) | fail)
 (refine no_implicit_lambda% (cal [] (keeprow_d at' hat) ?_ ?_))
 (rotate_left; (intro xx H' hh; obtain ⟨_, _, h', _⟩ := hh; cases h'); intro xx H' hh)
 obtain ⟨s, hs, h', rfl⟩ := hh
 cases h'
 first | (refine no_implicit_lambda% (akc ?_)) | (refine no_implicit_lambda% (aec ?_))
 repeat' (first | (refine no_implicit_lambda% (zH ?_)) | (refine no_implicit_lambda% (splv (fun hc => ?_) (fun hc => ?_)) <;> first | exact zG hc | skip) | (refine no_implicit_lambda% (ans ?_)) | (with_reducible first | exact zI | exact zJ) | (refine no_implicit_lambda% (cal [] (w3) ?_ ?_)) | (refine no_implicit_lambda% (cal [] (w4) ?_ ?_)) | (refine no_implicit_lambda% (cal [] (q3) ?_ ?_)) | fail)
 (refine no_implicit_lambda% (cal [] (op_d o ho) ?_ ?_))
 (rotate_left; (intro xx H' hh; obtain ⟨_, _, h', _⟩ := hh; cases h'); intro xx H' hh)
 obtain ⟨q, hq, h', rfl⟩ := hh
 cases h'
 first | (refine no_implicit_lambda% (akc ?_)) | (refine no_implicit_lambda% (aec ?_))
 repeat' (first | (refine no_implicit_lambda% (zH ?_)) | (refine no_implicit_lambda% (splv (fun hc => ?_) (fun hc => ?_)) <;> first | exact zG hc | skip) | (refine no_implicit_lambda% (ans ?_)) | (with_reducible first | exact zI | exact zJ))
 (refine no_implicit_lambda% (cal [] (keeprow_d a ha) ?_ ?_))
 (rotate_left; (intro xx H' hh; obtain ⟨_, _, h', _⟩ := hh; cases h'); intro xx H' hh)
 obtain ⟨lo, hlo, h', rfl⟩ := hh
 cases h'
 first | (refine no_implicit_lambda% (akc ?_)) | (refine no_implicit_lambda% (aec ?_))
 repeat' (first | (refine no_implicit_lambda% (zH ?_)) | (refine no_implicit_lambda% (splv (fun hc => ?_) (fun hc => ?_)) <;> first | exact zG hc | skip) | (refine no_implicit_lambda% (ans ?_)) | (with_reducible first | exact zI | exact zJ))
 (refine no_implicit_lambda% (cal [] (keeprow_d b hb) ?_ ?_))
 (rotate_left; (intro xx H' hh; obtain ⟨_, _, h', _⟩ := hh; cases h'); intro xx H' hh)
 obtain ⟨hi, hhi, h', rfl⟩ := hh
 cases h'
 first | (refine no_implicit_lambda% (akc ?_)) | (refine no_implicit_lambda% (aec ?_))
 repeat' (first | (refine no_implicit_lambda% (zH ?_)) | (refine no_implicit_lambda% (splv (fun hc => ?_) (fun hc => ?_)) <;> first | exact zG hc | skip) | (refine no_implicit_lambda% (ans ?_)) | (with_reducible first | exact zI | exact zJ))
 all_goals first | (exact e_ret (H' := []) (rest := _) rfl ⟨(⟨_, q, ⟨_, _⟩, _, _, _, _, _⟩ : Cm), hq, rfl, rfl⟩ permT (LE0 rfl))
end Go.Proofs.YtncffhgoopdfgaaGreat
namespace Go.Proofs.YtncffhgoopdfgaaGreat
open Go.Am
set_option maxRecDepth 100000
theorem oq_n {q : Oq} (h : OqOk q) : OqN q := ⟨h.1.2, fun x hx => (h.2.1 x hx).2⟩
theorem made8_d (x : Dw) (hx : DwOk x) : ACalls Tryz.prog 9 0 0 [.agg (dwrow x)] [] (fun out H' => ∃ c : Cm, OqOk c.op ∧ out = .ret (.agg (cmrow c)) ∧ H' = []) :=
 ACalls.ren (made8_c x hx) (Nat.zero_le _) fun out H' hh => by
  obtain ⟨c, h1, rfl, rfl⟩ := hh
  exact ⟨[], .ret (.agg (cmrow c)), [], List.nodup_nil, (fun q h => by cases h), (fun q h => by omega), Nat.le_refl _, (by simp [AOut.ren, cmrow, oqrow, cdrow, vrowV, snrow, AV.ren, AV.renL, Own.ren]), rfl, c, h1, rfl, rfl⟩
section
variable {H : Type} {enc : TypeId × Value → H} {w : World} {base : Nat} {sp : Nat → Bool} {held : Bool}
theorem opnDw : Opn enc Tryz.prog w base sp held 30 fun row => ∃ x : Dw, DwOk x ∧ row = dwrow x :=
 (opn_struct Tryz.underlying30 (Rs := [fun row => ∃ n, row = [.v (.int .i64 n)] ∧ IntKind.i64.min ≤ n ∧ n ≤ IntKind.i64.max, fun row => ∃ n, row = [.v (.int .i64 n)] ∧ IntKind.i64.min ≤ n ∧ n ≤ IntKind.i64.max, fun row => ∃ n, row = [.v (.int .i64 n)] ∧ IntKind.i64.min ≤ n ∧ n ≤ IntKind.i64.max, fun row => ∃ n, row = [.v (.int .i64 n)] ∧ IntKind.i64.min ≤ n ∧ n ≤ IntKind.i64.max, fun row => ∃ n, row = [.v (.int .i64 n)] ∧ IntKind.i64.min ≤ n ∧ n ≤ IntKind.i64.max, fun row => ∃ n, row = [.v (.int .i64 n)] ∧ IntKind.i64.min ≤ n ∧ n ≤ IntKind.i64.max, fun row => ∃ o : Ow, OwOk o ∧ row = owrow o, fun row => ∃ l : List UInt8, row = [.list (l.map brow) .free] ∧ l.length ≤ 9223372036854775807])
  ⟨rfl, opn_int Tryz.underlying3, by kernel_rfl, opn_int Tryz.underlying3, by kernel_rfl, opn_int Tryz.underlying3, by kernel_rfl, opn_int Tryz.underlying3, by kernel_rfl, opn_int Tryz.underlying3, by kernel_rfl, opn_int Tryz.underlying3, by kernel_rfl, opnOw, by kernel_rfl, opnBytes, (show (_ : Nat) = _ by kernel_rfl)⟩).mono
  fun row hrow => by
   obtain ⟨_, _, e0, ⟨k, rfl, k1, k2⟩, _, _, e1, ⟨a, rfl, a1, a2⟩, _, _, e2, ⟨b, rfl, b1, b2⟩, _, _, e3, ⟨t, rfl, t1, t2⟩, _, _, e4, ⟨g, rfl, g1, g2⟩, _, _, e5, ⟨to, rfl, to1, to2⟩, _, _, e6, ⟨o, ho, rfl⟩, _, _, e7, ⟨l, rfl, hl⟩, e8⟩ := hrow
   refine ⟨⟨k, a, b, t, g, to, o, l⟩, ⟨⟨k1, k2⟩, ⟨a1, a2⟩, ⟨b1, b2⟩, ⟨t1, t2⟩, ⟨g1, g2⟩, ⟨to1, to2⟩, ho⟩, ?_⟩
   rw [e0, e1, e2, e3, e4, e5, e6, e7, e8]
   simp [dwrow]
end
end Go.Proofs.YtncffhgoopdfgaaGreat
namespace Go.Proofs.YtncffhgoopdfgaaGreat
open Go.Am
set_option maxRecDepth 100000
section
variable {H : Type} {enc : TypeId × Value → H} {w : World} {base : Nat} {sp : Nat → Bool} {held : Bool}
theorem opnCd8 : Opn enc Tryz.prog w base sp held 34 fun row => ∃ d : Cd, d.v.n < 18446744073709551616 ∧ row = cdrow d :=
 (opn_struct Tryz.underlying34 (Rs := [fun row => ∃ b, row = [.v (.bool b)], fun row => ∃ b, row = [.v (.bool b)], fun row => ∃ s : ByteArray, row = [.v (.string s)] ∧ s.size ≤ maxLen, fun row => ∃ v : Va, v.n < 18446744073709551616 ∧ row = vrowV v])
  ⟨rfl, opn_bool Tryz.underlying4, by kernel_rfl, opn_bool Tryz.underlying4, by kernel_rfl, opn_string Tryz.underlying9, by kernel_rfl, opnA, (show (_ : Nat) = _ by kernel_rfl)⟩).mono
  fun row hrow => by
   obtain ⟨_, _, e0, ⟨a, rfl⟩, _, _, e1, ⟨b, rfl⟩, _, _, e2, ⟨s, rfl, _⟩, _, _, e3, ⟨v, hv, rfl⟩, e4⟩ := hrow
   refine ⟨⟨a, b, s, v⟩, hv, ?_⟩
   rw [e0, e1, e2, e3, e4]
   simp [cdrow]
theorem opnOq8 : Opn enc Tryz.prog w base sp held 37 fun row => ∃ q : Oq, (q.d.v.n < 18446744073709551616 ∧ ∀ x ∈ q.l, x.v.n < 18446744073709551616) ∧ row = oqrow q :=
 (opn_struct Tryz.underlying37 (Rs := [fun row => ∃ n, row = [.v (.int .i64 n)] ∧ IntKind.i64.min ≤ n ∧ n ≤ IntKind.i64.max, fun row => ∃ s : ByteArray, row = [.v (.string s)] ∧ s.size ≤ maxLen, fun row => ∃ s : ByteArray, row = [.v (.string s)] ∧ s.size ≤ maxLen, fun row => ∃ d : Cd, d.v.n < 18446744073709551616 ∧ row = cdrow d, fun row => ∃ l : List Ch, (∀ x ∈ l, x.v.n < 18446744073709551616) ∧ l.length ≤ 9223372036854775807 ∧ row = [.list (l.map chrow) .free], fun row => ∃ n, row = [.v (.int .i64 n)] ∧ IntKind.i64.min ≤ n ∧ n ≤ IntKind.i64.max])
  ⟨rfl, opn_int Tryz.underlying3, by kernel_rfl, opn_string Tryz.underlying9, by kernel_rfl, opn_string Tryz.underlying9, by kernel_rfl, opnCd8, by kernel_rfl, opnChs, by kernel_rfl, opn_int Tryz.underlying3, (show (_ : Nat) = _ by kernel_rfl)⟩).mono
  fun row hrow => by
   obtain ⟨_, _, e0, ⟨k, rfl, _, _⟩, _, _, e1, ⟨r, rfl, _⟩, _, _, e2, ⟨h, rfl, _⟩, _, _, e3, ⟨d, hd, rfl⟩, _, _, e4, ⟨l, hl, _, rfl⟩, _, _, e5, ⟨m, rfl, _, _⟩, e6⟩ := hrow
   refine ⟨⟨k, r, h, d, l, m⟩, ⟨hd, hl⟩, ?_⟩
   rw [e0, e1, e2, e3, e4, e5, e6]
   simp [oqrow]
theorem opnSn8 : Opn enc Tryz.prog w base sp held 39 fun row => ∃ s : Sn, row = snrow s :=
 (opn_struct Tryz.underlying39 (Rs := [fun row => ∃ s : ByteArray, row = [.v (.string s)] ∧ s.size ≤ maxLen, fun row => ∃ s : ByteArray, row = [.v (.string s)] ∧ s.size ≤ maxLen])
  ⟨rfl, opn_string Tryz.underlying9, by kernel_rfl, opn_string Tryz.underlying9, (show (_ : Nat) = _ by kernel_rfl)⟩).mono
  fun row hrow => by
   obtain ⟨_, _, e0, ⟨r, rfl, _⟩, _, _, e1, ⟨h, rfl, _⟩, e2⟩ := hrow
   refine ⟨⟨r, h⟩, ?_⟩
   rw [e0, e1, e2]
   simp [snrow]
theorem opnCm8 : Opn enc Tryz.prog w base sp held 41 fun row => ∃ c : Cm, (c.op.d.v.n < 18446744073709551616 ∧ ∀ x ∈ c.op.l, x.v.n < 18446744073709551616) ∧ row = cmrow c :=
 (opn_struct Tryz.underlying41 (Rs := [fun row => ∃ n, row = [.v (.int .i64 n)] ∧ IntKind.i64.min ≤ n ∧ n ≤ IntKind.i64.max, fun row => ∃ q : Oq, (q.d.v.n < 18446744073709551616 ∧ ∀ x ∈ q.l, x.v.n < 18446744073709551616) ∧ row = oqrow q, fun row => ∃ s : Sn, row = snrow s, fun row => ∃ n, row = [.v (.int .i64 n)] ∧ IntKind.i64.min ≤ n ∧ n ≤ IntKind.i64.max, fun row => ∃ s : ByteArray, row = [.v (.string s)] ∧ s.size ≤ maxLen, fun row => ∃ n, row = [.v (.int .i64 n)] ∧ IntKind.i64.min ≤ n ∧ n ≤ IntKind.i64.max, fun row => ∃ n, row = [.v (.int .i64 n)] ∧ IntKind.i64.min ≤ n ∧ n ≤ IntKind.i64.max, fun row => ∃ l : List UInt8, row = [.list (l.map brow) .free] ∧ l.length ≤ 9223372036854775807])
  ⟨rfl, opn_int Tryz.underlying3, by kernel_rfl, opnOq8, by kernel_rfl, opnSn8, by kernel_rfl, opn_int Tryz.underlying3, by kernel_rfl, opn_string Tryz.underlying9, by kernel_rfl, opn_int Tryz.underlying3, by kernel_rfl, opn_int Tryz.underlying3, by kernel_rfl, opnBytes, (show (_ : Nat) = _ by kernel_rfl)⟩).mono
  fun row hrow => by
   obtain ⟨_, _, e0, ⟨k, rfl, _, _⟩, _, _, e1, ⟨q, hq, rfl⟩, _, _, e2, ⟨s, rfl⟩, _, _, e3, ⟨g, rfl, _, _⟩, _, _, e4, ⟨a, rfl, _⟩, _, _, e5, ⟨t, rfl, _, _⟩, _, _, e6, ⟨d, rfl, _, _⟩, _, _, e7, ⟨l, rfl, _⟩, e8⟩ := hrow
   refine ⟨⟨k, q, s, g, a, t, d, l⟩, hq, ?_⟩
   rw [e0, e1, e2, e3, e4, e5, e6, e7, e8]
   simp [cmrow]
open DataW in
theorem bytes_len {t e : TypeId} {v : Value} {d : DataW H} {ps : List MemPlace} {l : List UInt8} (ht : Tryz.prog.underlying t = some (.slice e)) (hd : DataW.Trod enc Tryz.prog w base sp held t v d ps) (hv : v.cells = #[v]) (hs : SimD (cellsX w) (.list (l.map brow) .free) v) : l = [] ∨ ∃ elems spare, d = .slice elems spare ∧ l.length = elems.length := by
 obtain ⟨fuel, hf⟩ := hd
 rw [hv] at hf
 obtain ⟨b0, c0, rfl, _⟩ := hs.slice
 rcases DataW.trod_slice ht hf with ⟨h1, _⟩ | ⟨a, len, cap, elems, rest, n, _, h1, h2, _, _, _, h3, _⟩
 ·have h4 : (l.map brow).length = 0 := by
   have h5 := List.head_eq_of_cons_eq h1
   injection h5
  rw [List.length_map] at h4
  exact .inl (List.eq_nil_of_length_eq_zero h4)
 ·have h4 : (l.map brow).length = len := by
   have h5 := List.head_eq_of_cons_eq h1
   injection h5
  rw [List.length_map] at h4
  have h6 := (Prod.mk.inj h2).1
  exact .inr ⟨_, _, h6, by rw [List.length_map, h4, h3]⟩
theorem bytes_sz {ts : List TypeId} {ds : List (DataW H)} {v : Value} {d : DataW H} {ps : List MemPlace} {l : List UInt8} (hsz : (DataW.weightsEach Tryz.prog ts ds).all (· ≤ reachBytes) = true) {j : Nat} (ht : ts[j]? = some 23) (hj : ds[j]? = some d) (hd : DataW.Trod enc Tryz.prog w base sp held 23 v d ps) (hv : v.cells = #[v]) (hs : SimD (cellsX w) (.list (l.map brow) .free) v) : l.length ≤ 140737488351232 := by
 rcases bytes_len Tryz.underlying23 hd hv hs with rfl | ⟨el, spx, hdd, hlen⟩
 ·exact Nat.zero_le _
 ·subst hdd
  have hz := sized_slice hsz (j := j) (t := 23) ht hj Tryz.underlying23
  rw [show Tryz.prog.bytesOf 5 = 1 by kernel_rfl] at hz
  have hr : reachBytes = 140737488351232 := rfl
  omega
end
end Go.Proofs.YtncffhgoopdfgaaGreat
namespace Go.Proofs.YtncffhgoopdfgaaGreat
open Go.Am
set_option maxRecDepth 100000
theorem encCm_len {c : Cm} (h : cmB c = true) : 1 ≤ (encCm c).length ∧ (encCm c).length ≤ 1100000 := by
 refine ⟨by unfold encCm; rw [List.length_cons]; omega, ?_⟩
 obtain ⟨k, op, sp, gen, at', to, dw, st⟩ := c
 rcases kd10 k with rfl | rfl | rfl | rfl | rfl | rfl | rfl | rfl | rfl | hk
 ·have h1 := encOp_len (show opB op = true from h)
  show List.length (_ :: encOp op) ≤ 1100000
  rw [List.length_cons]; omega
 ·have h1 := encSn_len (Bool.and_eq_true_iff.1 (show (spB sp && genB gen) = true from h)).1
  show List.length (_ :: (encSn sp ++ be gen.toNat 4)) ≤ 1100000
  rw [List.length_cons, List.length_append, be_len]; omega
 ·have h1 := encSn_len (Bool.and_eq_true_iff.1 (show (spB sp && genB gen) = true from h)).1
  show List.length (_ :: (encSn sp ++ be gen.toNat 4)) ≤ 1100000
  rw [List.length_cons, List.length_append, be_len]; omega
 ·obtain ⟨hs, hg⟩ := Bool.and_eq_true_iff.1 (show (spB sp && (genB gen && decide (st.length ≤ 1048576))) = true from h)
  have h1 := encSn_len hs
  have h2 := of_decide_eq_true (Bool.and_eq_true_iff.1 hg).2
  show List.length (_ :: (encSn sp ++ (be gen.toNat 4 ++ (be st.length 4 ++ st)))) ≤ 1100000
  simp only [List.length_cons, List.length_append, be_len]; omega
 ·obtain ⟨hs, hg⟩ := Bool.and_eq_true_iff.1 (show (spliB sp at' && genB gen) = true from h)
  obtain ⟨hs, ha⟩ := spliB_n hs
  have h1 := encSn_len hs
  show List.length (_ :: (encSn sp ++ (be gen.toNat 4 ++ encT at'))) ≤ 1100000
  simp only [List.length_cons, List.length_append, be_len, encT_len]; omega
 ·obtain ⟨hs, hg⟩ := Bool.and_eq_true_iff.1 (show (spliB sp at' && genB gen) = true from h)
  obtain ⟨hs, ha⟩ := spliB_n hs
  have h1 := encSn_len hs
  show List.length (_ :: (encSn sp ++ (be gen.toNat 4 ++ encT at'))) ≤ 1100000
  simp only [List.length_cons, List.length_append, be_len, encT_len]; omega
 ·have ha := le16_n (show le16 at' = true from h)
  show List.length (_ :: encT at') ≤ 1100000
  simp only [List.length_cons, encT_len]; omega
 ·by_cases hz : dw = 0
  ·subst hz
   show List.length (_ :: _ :: []) ≤ 1100000
   simp
  ·have hc2 : (decide (dw = 0) || (decide (1 ≤ dw) && (decide (dw ≤ 3) && (le16 at' && (decide (0 ≤ to) && decide (to ≤ 255)))))) = true := h
   rw [decide_eq_false hz, Bool.false_or] at hc2
   simp only [Bool.and_eq_true] at hc2
   have ha := le16_n hc2.2.2.1
   show List.length (8 :: UInt8.ofNat dw.toNat :: (if dw = 0 then [] else encT at' ++ [UInt8.ofNat to.toNat])) ≤ 1100000
   rw [if_neg hz]
   simp only [List.length_cons, List.length_append, encT_len, List.length_nil]; omega
 ·show List.length (9 :: (be gen.toNat 4 ++ [UInt8.ofNat (-to).toNat])) ≤ 1100000
  simp only [List.length_cons, List.length_append, be_len, List.length_nil]; omega
 ·rw [cmB0 hk] at h
  have h10 : k = 10 := of_decide_eq_true h
  subst h10
  show List.length (_ :: []) ≤ 1100000
  simp
theorem decodes8A_c (l : List UInt8) (cp n : Nat) (hn : n = l.length) (hl : l.length < 281474976710656) : ACalls Tryz.prog 12 1 1 [.arr 0 0 n cp] [(0, .seq (l.map brow) ((cp - n) * 1))] (fun out H' => out = .ret (.v (.bool true)) ∧ H' = [(0, .seq (l.map brow) ((cp - n) * 1))]) := by
 subst hn
 refine (((decodes8_c l hl).top0).borrow (k := 1) (top := 1) (args := [.arr 0 0 l.length cp]) (H := [(0, .seq (l.map brow) ((cp - l.length) * 1))]) rfl (fun out H' hh => by obtain ⟨rfl, rfl⟩ := hh; rfl) (fun i a' ha => ?_)).mono fun out H' hh => ?_
 ·match i with
  | 0 =>
   simp at ha; subst ha
   exact ⟨_, rfl, .seq (k := (cp - l.length) * 1) (by simp) (broOk l) (by simp)⟩
  | i + 1 => simp at ha
 ·obtain ⟨⟨_, h1, _⟩, h2⟩ := hh
  exact ⟨h1, h2⟩
theorem ch_len (l : List Ch) : ∀ row ∈ l.map chrow, row.length = 6 := fun row h => by obtain ⟨_, _, rfl⟩ := List.mem_map.1 h; rfl
def rawL (c : Cm) (q : List Ch) : Cm := ⟨c.k, ⟨c.op.k, c.op.row, c.op.hi, c.op.d, q, c.op.most⟩, c.sp, c.gen, c.at', c.to, c.dw, c.st⟩
def RawOk (c : Cm) : Prop := c.op.d.v.n < 18446744073709551616 ∧ ∀ x ∈ c.op.l, x.v.n < 18446744073709551616
def tl8St (c raw : Cm) (b : List UInt8) (at' : Int) (turn : UInt8) (q : List Ch) : ASt := ⟨([.dead, .dead, .list (b.map brow) .free, .v (.int .i64 at'), .v (.int .u8 turn.toNat), .dead, .ptr 1 0, .dead, .dead, .dead, .dead, .ptr 2 0] ++ List.replicate 60 .dead), [(2, .box (cmrow c)), (1, .box (cmrow (rawL raw q)))], 3⟩
set_option maxHeartbeats 6400000 in
theorem tells8_rc (x : Dw) (hx : DwOk x) (raw : Cm) (hraw : RawOk raw) (b : List UInt8) (hb : b.length ≤ 140737488351232) (at' : Int) (hat : I64 at') (turn : UInt8) : ACalls Tryz.prog 3 0 90000000 [.agg (dwrow x), .agg (cmrow raw), .list (b.map brow) .free, .v (.int .i64 at'), .v (.int .u8 turn.toNat)] [] (fun out H' => out = .ret (.v (.bool true)) ∧ H' = []) := by
 have hk := known8_c.top0
 obtain ⟨rk, ⟨qk, qrow, qhi, qd, ql, qm⟩, rsp, rgen, rat, rto, rdw, rst⟩ := raw
 refine no_implicit_lambda% (acalls_of tok dok (f := 3) ⟨Tryz.func3, rfl, by kernel_rfl⟩ ?_); refine no_implicit_lambda% (c_start (fun _ h => h) ?_)
 repeat' (first | (refine no_implicit_lambda% (zH ?_)) | (refine no_implicit_lambda% (spl (fun hc => ?_) (fun hc => ?_)) <;> first | exact zG hc | skip) | (refine no_implicit_lambda% (ans ?_)) | (with_reducible first | exact zI | exact zJ))
 (refine no_implicit_lambda% (cal [] (made8_d x hx) ?_ ?_))
 (rotate_left; (intro xx H' hh; obtain ⟨_, _, h', _⟩ := hh; cases h'); intro xx H' hh)
 obtain ⟨c, hq, h', rfl⟩ := hh
 cases h'
 first | (refine no_implicit_lambda% (akc ?_)) | (refine no_implicit_lambda% (aec ?_))
 have hN : OqN c.op := oq_n hq
 have hl : c.op.l.length < 1000000000000 := by have := hq.2.2; omega
 repeat' (first | (refine no_implicit_lambda% (sx1 ?_)) | (refine no_implicit_lambda% (spl (fun hc => ?_) (fun hc => ?_)) <;> first | exact zG hc | skip) | fail)
 refine k_seq ?_
 repeat' (first | (refine no_implicit_lambda% (sx1 ?_)) | (refine no_implicit_lambda% (spl (fun hc => ?_) (fun hc => ?_)) <;> first | exact zG hc | skip) | fail)
 refine k_seq ?_
 refine c_cutR (tl8St c ⟨rk, ⟨qk, qrow, qhi, qd, ql, qm⟩, rsp, rgen, rat, rto, rdw, rst⟩ b at' turn) (fun q => q.length ≤ 5 ∧ ∀ x ∈ q, x.v.n < 18446744073709551616) ?_ ?_
 ·rintro q ⟨q5, hqn⟩
  refine c_turn (n' := 3) (fun _ h => h) (fun _ h => h) rfl ?_
  have u1 := cut_c rst 50 (by decide)
  have u2 := cut_c b 80 (by decide)
  have u3 := (encodes8_c c hN hl).top0
  have u4 := (encodes8_c (⟨rk, ⟨qk, qrow, qhi, qd, q, qm⟩, rsp, rgen, rat, rto, rdw, rst.take 50⟩ : Cm) ⟨hraw.1, hqn⟩ (by show q.length < 1000000000000; omega)).top0
  have u5 := (decodes8_c (b.take 80) (by rw [List.length_take]; omega)).top0
  have u6 := (rcright_c c hl).top0
  have u7 := rencode_c c
  repeat' (first | (refine no_implicit_lambda% (sx1 ?_)) | (refine no_implicit_lambda% (ans ?_)) | (with_reducible first | exact zI | exact zJ) | (refine no_implicit_lambda% (cal [] (u1) ?_ ?_)) | fail)
  rcases hB : cmB c with _ | _
  ·(try rw [hB] at u6)
   repeat' (first | (refine no_implicit_lambda% (zH ?_)) | (refine no_implicit_lambda% (spl (fun hc => ?_) (fun hc => ?_)) <;> first | exact zG hc | skip) | (refine no_implicit_lambda% (ans ?_)) | (with_reducible first | exact zI | exact zJ) | (refine no_implicit_lambda% (cal [] (u1) ?_ ?_)) | (refine no_implicit_lambda% (cal [] (u2) ?_ ?_)) | (refine no_implicit_lambda% (cal [] (u3) ?_ ?_)) | (refine no_implicit_lambda% (cal [] (u4) ?_ ?_)) | (refine no_implicit_lambda% (cal [] (u5) ?_ ?_)) | (refine no_implicit_lambda% (cal [] (u6) ?_ ?_)) | (refine no_implicit_lambda% (cal [] (hk) ?_ ?_)) | fail)
   exact e_ret (H' := []) (rest := _) rfl ⟨rfl, rfl⟩ permT (LE0 rfl)
  ·(try rw [hB] at u6)
   replace u7 := u7 hB hN
   obtain ⟨e1, e2⟩ := encCm_len hB
   have w1 := wthn_c at' 0 ((encCm c).length - 1 : Int) hat.1 hat.2 (by decide) (by omega) (by omega) (by omega)
   have b3 := wthn_bd at' 0 ((encCm c).length - 1 : Int) (by omega)
   generalize encCm c = e at *
   generalize wthn at' 0 (e.length - 1 : Int) = n0 at *
   obtain ⟨n, rfl⟩ := Int.eq_ofNat_of_zero_le b3.1
   have hn : n < e.length := by omega
   repeat' (first | (refine no_implicit_lambda% (zH ?_)) | (refine no_implicit_lambda% (spl (fun hc => ?_) (fun hc => ?_)) <;> first | exact zG hc | skip) | (refine no_implicit_lambda% (ans ?_)) | (with_reducible first | exact zI | exact zJ) | (refine no_implicit_lambda% (cal [] (u1) ?_ ?_)) | (refine no_implicit_lambda% (cal [] (u2) ?_ ?_)) | (refine no_implicit_lambda% (cal [] (u3) ?_ ?_)) | (refine no_implicit_lambda% (cal [] (u4) ?_ ?_)) | (refine no_implicit_lambda% (cal [] (u5) ?_ ?_)) | (refine no_implicit_lambda% (cal [] (u6) ?_ ?_)) | fail)
   ((refine no_implicit_lambda% (cal [] (u7) ?_ ?_)); rotate_left; (intro x H' hh; obtain ⟨_, _, _, h', _⟩ := hh; cases h'); intro xx H' hh; obtain ⟨cp, c1, c2, h', rfl⟩ := hh; cases h'; (first | (refine no_implicit_lambda% (akc ?_)) | (refine no_implicit_lambda% (aec ?_))))
   refine no_implicit_lambda% (awdz ?_)
   rw [show IntKind.i64.wrap ((e.length : Int) - 1) = (e.length - 1 : Int) from z64 (by omega) (by omega)]
   (refine no_implicit_lambda% (cal [] (w1) ?_ ?_))
   rotate_left
   ·first | (exact zI) | (exact zJ)
   refine no_implicit_lambda% (ret1 ?_); first | (refine no_implicit_lambda% (akc ?_)) | (refine no_implicit_lambda% (aec ?_))
   refine no_implicit_lambda% (awdz ?_)
   refine no_implicit_lambda% (aqs ?_ ?_)
   ·exact ⟨Int.natCast_nonneg n, by omega⟩
   refine no_implicit_lambda% (awdz ?_)
   have hrow : (e.map brow)[n]? = some (brow e[n]) := by rw [List.getElem?_map, List.getElem?_eq_getElem hn]; rfl
   generalize e[n] = cc at *
   ((with_reducible refine no_implicit_lambda% (zC ?_)); refine no_implicit_lambda% (a_loadSeq (sz := 1) (rows := e.map brow) (i := n) (j := 0) rfl rfl rfl rfl rfl (broOk e) (hrow) rfl (by first | rfl | (simp; done) | (simp; omega)) ?_))
   refine no_implicit_lambda% (awdz ?_)
   obtain ⟨u, hu⟩ := u8_any ((BitVec.ofInt IntKind.u8.bits (cc.toNat : Int) ^^^ BitVec.ofInt IntKind.u8.bits (turn.toNat : Int)).toNat : Nat)
   rw [hu]
   refine no_implicit_lambda% (aqs ?_ ?_)
   ·exact ⟨Int.natCast_nonneg n, by omega⟩
   refine no_implicit_lambda% (awdz ?_)
   ((with_reducible refine no_implicit_lambda% (zC ?_)); refine no_implicit_lambda% (a_storeSeq (sz := 1) (rows := e.map brow) (i := n) (j := 0) (row' := brow u) rfl rfl rfl (fun _ h => h) rfl rfl (broOk e) (hrow) (by first | decide | (simp; done)) (by first | rfl | (simp; done)) (by first | rfl | (simp; done) | (simp; omega)) ?_))
   rw [← List.map_set]
   obtain ⟨Z, hZ⟩ : ∃ Z, Z = e.set n u := ⟨_, rfl⟩
   have hZl : e.length = Z.length := by rw [hZ, List.length_set]
   rw [← hZ]
   refine no_implicit_lambda% (akc ?_)
   have hA := decodes8A_c Z cp e.length hZl (by omega)
   refine no_implicit_lambda% (awdz ?_)
   (refine no_implicit_lambda% (cal [3] (hA) ?_ ?_))
   rotate_left
   ·first | (exact zI) | (exact zJ)
   refine no_implicit_lambda% (ret1 ?_); first | (refine no_implicit_lambda% (akc ?_)) | (refine no_implicit_lambda% (aec ?_))
   refine no_implicit_lambda% (awdz ?_)
   have hA2 := fun cp' => decodes8A_c (Z ++ b) cp' (Z ++ b).length rfl (by rw [List.length_append]; omega)
   ((with_reducible refine no_implicit_lambda% (zC ?_)); refine no_implicit_lambda% (a_appSb (sz := 1) (B := 1) (m2 := (Z ++ b).length) (rows3 := (Z ++ b).map brow) rfl rfl rfl rfl rfl rfl rfl rfl rfl rfl rfl (fun _ h => h) rfl rfl (broOk Z) (broOk b) (by first | rfl | (exact List.length_map ..) | (simp; done) | (simp; omega)) rfl ?_ (by first | rfl | (simp; done) | (simp; omega)) (by first | rfl | (exact map_snoc _ _) | (rw [List.map_append]; rfl) | (simp; done)) ?_))
   ·refine ⟨.inr ⟨rfl, ?_⟩, ?_, ?_⟩ <;> rw [List.length_map] <;> omega
   intro cp' c1' c2'
   refine no_implicit_lambda% (akc ?_)
   refine no_implicit_lambda% (awdz ?_)
   (refine no_implicit_lambda% (cal [4] (hA2 cp') ?_ ?_))
   rotate_left
   ·first | (exact zI) | (exact zJ)
   refine no_implicit_lambda% (ret1 ?_); first | (refine no_implicit_lambda% (akc ?_)) | (refine no_implicit_lambda% (aec ?_))
   repeat' (first | (refine no_implicit_lambda% (zH ?_)) | (refine no_implicit_lambda% (spl (fun hc => ?_) (fun hc => ?_)) <;> first | exact zG hc | skip) | (refine no_implicit_lambda% (ans ?_)) | (with_reducible first | exact zI | exact zJ) | (refine no_implicit_lambda% (cal [] (hk) ?_ ?_)) | fail)
   exact e_ret (H' := []) (rest := _) rfl ⟨rfl, rfl⟩ permT (LE0 rfl)
 ·intro Kx kN kP kR kE
  have hlm : ((ql.map chrow).length : Int) = ql.length := by rw [List.length_map]
  repeat' (first | (refine no_implicit_lambda% (zH ?_)) | (refine no_implicit_lambda% (spl (fun hc => ?_) (fun hc => ?_)) <;> first | exact zG hc | skip) | (refine no_implicit_lambda% (ans ?_)) | (with_reducible first | exact zI | exact zJ))
  ·have h5 : 5 < ql.length := by have h9 : ((ql.map chrow).length : Int) > 5 := of_decide_eq_true hc; omega
   (refine no_implicit_lambda% (aqs ?_ ?_)); focus ((repeat' (refine no_implicit_lambda% (And.intro ?_ ?_))) <;> (first | exact trivial | exact ch_len ql | exact Int.natCast_nonneg _ | omega | (simp; done) | (simp; omega) | ((show (0 : Int) ≤ _); omega)))
   refine k_as (.list ((ql.take 5).map chrow) .free) (by simp [List.map_take, orFull, isFull, isNone]) ?_
   repeat' (first | (refine no_implicit_lambda% (zH ?_)) | (refine no_implicit_lambda% (spl (fun hc => ?_) (fun hc => ?_)) <;> first | exact zG hc | skip) | (refine no_implicit_lambda% (ans ?_)) | (with_reducible first | exact zI | exact zJ))
   refine kN (ql.take 5) _ _ _ ⟨by rw [List.length_take]; omega, fun x hx => hraw.2 x (List.mem_of_mem_take hx)⟩ (.inl ?_)
   (refine no_implicit_lambda% (Conv.toT ?_ ?_ (LE0 rfl))); (focus ((unfold tl8St); (try dsimp only); exact wkl)); (focus ((unfold tl8St); (try dsimp only); exact wkh))
  ·have h5 : ql.length ≤ 5 := by have h9 : ¬ ((ql.map chrow).length : Int) > 5 := of_decide_eq_false hc; omega
   refine kN ql _ _ _ ⟨h5, hraw.2⟩ (.inl ?_)
   (refine no_implicit_lambda% (Conv.toT ?_ ?_ (LE0 rfl))); (focus ((unfold tl8St); (try dsimp only); exact wkl)); (focus ((unfold tl8St); (try dsimp only); exact wkh))
end Go.Proofs.YtncffhgoopdfgaaGreat
