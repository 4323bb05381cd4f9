/- Part 13 of what the laws CmdBack rest on: CdN, CdO, CdQ, CdS, CdR. -/
import Derived.Test.YtncffhgoopdfgaaP12
set_option linter.unusedSimpArgs false
set_option linter.unusedVariables false
namespace Go.Proofs.Ytncffhgoopdfgaa
open Go.Am
set_option maxRecDepth 100000
def encU (c s : Nat) (b : List UInt8) : List UInt8 := [UInt8.ofNat c] ++ be s 4 ++ (be b.length 4 ++ b)
theorem wrap8_c (c s : Nat) (b : List UInt8) (hc : c < 256) (hs : s < 4294967296) (hb : b.length ≤ 1048576) : ACalls Try.prog 14 0 100 [.v (.int .i64 c), .v (.int .i64 s), .list (b.map brow) .free] [] (fun out H' => out = .ret (.list ((encU c s b).map brow) .free) ∧ H' = []) := by
 have hnw := new_c
 have h1 := byte_c [] (UInt8.ofNat c) (by decide)
 have h2 := num_c [UInt8.ofNat c] s hs (show 1 < 1073741824 by decide)
 have h3 := text_c ([UInt8.ofNat c] ++ be s 4) b (by omega) (by simp [be_len])
 rw [if_pos hb] at h3
 have h4 := done_c (encU c s b) (by unfold encU; simp only [List.length_append, be_len, List.length_singleton]; omega)
 have hlm : ((b.map brow).length : Int) = b.length := by rw [List.length_map]
 refine no_implicit_lambda% (acalls_of tok dok (f := 14) ⟨Try.func14, rfl, by kernel_rfl⟩ ?_); refine no_implicit_lambda% (c_start (fun _ h => h) ?_)
 repeat' (first | (refine no_implicit_lambda% (zH ?_)) | (refine no_implicit_lambda% (spl (fun hc => ?_) (fun hc => ?_)) <;> first | exact zG hc | skip) | (refine no_implicit_lambda% (ans ?_)) | (with_reducible first | exact zI | exact zJ) | (refine no_implicit_lambda% (cal [] (hnw) ?_ ?_)) | fail)
 rw [show IntKind.u8.wrap (c : Int) = ((UInt8.ofNat c).toNat : Int) from u8len c]
 repeat' (first | (refine no_implicit_lambda% (zH ?_)) | (refine no_implicit_lambda% (spl (fun hc => ?_) (fun hc => ?_)) <;> first | exact zG hc | skip) | (refine no_implicit_lambda% (ans ?_)) | (with_reducible first | exact zI | exact zJ) | (refine no_implicit_lambda% (cal [0, 1] (h1) ?_ ?_)) | fail)
 rw [show IntKind.u32.wrap (s : Int) = (s : Int) by rw [IntKind.wrap_u32]; omega]
 repeat' (first | (refine no_implicit_lambda% (zH ?_)) | (refine no_implicit_lambda% (spl (fun hc => ?_) (fun hc => ?_)) <;> first | exact zG hc | skip) | (refine no_implicit_lambda% (ans ?_)) | (with_reducible first | exact zI | exact zJ) | (refine no_implicit_lambda% (cal [0, 1] (h2) ?_ ?_)) | (refine no_implicit_lambda% (cal [0, 1] (h3) ?_ ?_)) | (refine no_implicit_lambda% (cal [0, 1] (h4) ?_ ?_)) | fail)
 exact e_ret (H' := []) (rest := _) rfl ⟨rfl, rfl⟩ permT (LE0 rfl)
def pUw (l : List UInt8) : Option ((Nat × Nat × List UInt8) × List UInt8) := bnd (pB l) fun c r => bnd (pN r) fun s r1 => bnd (pT r1) fun b r2 => some ((c, s, b), r2)
def pUwA (l : List UInt8) : Option (Nat × Nat × List UInt8) := bnd (pUw l) fun x r => if r = [] then some x else none
def uH (x y : Nat) (b : List UInt8) : Heap := [(0, .box [.v (.int .i64 x)]), (1, .box [.v (.int .i64 y)]), (2, .box [.list (b.map brow) .free])]
def uZ (x y : Nat) : Heap := [(0, .box [.v (.int .i64 x)]), (1, .box [.v (.int .i64 y)]), (2, .box [.list [] .full])]
def UwOk (x : Nat × Nat × List UInt8) : Prop := x.1 < 256 ∧ x.2.1 < 4294967296 ∧ x.2.2.length ≤ 1048576
set_option maxHeartbeats 3200000 in
theorem ucb_c (l : List UInt8) (hl : l.length < 10000000) : ACalls Try.prog 50 4 4 [.ptr 3 0, .ptr 0 0, .ptr 1 0, .ptr 2 0] ((3, .box [.list (l.map brow) .free]) :: uZ 0 0) (cbR 3 (fun l' H' => ∃ x, pUw l = some (x, l') ∧ UwOk x ∧ H' = uH x.1 x.2.1 x.2.2) (fun H' => pUw l = none ∧ ∃ x y, H' = uZ x y)) := by
 have hP : pUw l = bnd (pB l) fun c r => bnd (pN r) fun s r1 => bnd (pT r1) fun b r2 => some ((c, s, b), r2) := rfl
 refine no_implicit_lambda% (acalls_of tok dok (f := 50) ⟨Try.func50, rfl, by kernel_rfl⟩ ?_); refine no_implicit_lambda% (c_start (fun _ h => h) ?_)
 repeat' (first | (refine no_implicit_lambda% (zH ?_)) | (refine no_implicit_lambda% (spl (fun hc => ?_) (fun hc => ?_)) <;> first | exact zG hc | skip) | (refine no_implicit_lambda% (ans ?_)) | (with_reducible first | exact zI | exact zJ))
 ((refine no_implicit_lambda% (cal [3] (oB_c l (by omega)) ?_ ?_)); rotate_left; (focus (intro xx H' hh; rcases hh with ⟨_, _, _, _, h', _⟩ | ⟨hN, h', rfl⟩ <;> first | (cases h'; done) | (cases h'; repeat' (first | (refine no_implicit_lambda% (zH ?_)) | (refine no_implicit_lambda% (spl (fun hc => ?_) (fun hc => ?_)) <;> first | exact zG hc | skip) | (refine no_implicit_lambda% (ans ?_)) | (with_reducible first | exact zI | exact zJ)); exact e_pan (H' := uZ 0 0) (rest := []) (.inr ⟨_, ⟨by (rw [hP, hN]; rfl), 0, 0, rfl⟩, rfl, rfl⟩) permT (LE0 rfl)))); (intro xx H' hh); (rcases hh with ⟨c, r0, hX, ⟨hc, hr0⟩, h', rfl⟩ | ⟨_, h', _⟩); rotate_left; (focus (cases h'; done)); (cases h'); (first | (refine no_implicit_lambda% (akc ?_)) | (refine no_implicit_lambda% (aec ?_))); (rw [hX, bnd_some] at hP); (clear hX); repeat' (first | (refine no_implicit_lambda% (zH ?_)) | (refine no_implicit_lambda% (spl (fun hc => ?_) (fun hc => ?_)) <;> first | exact zG hc | skip) | (refine no_implicit_lambda% (ans ?_)) | (with_reducible first | exact zI | exact zJ)))
 rw [show IntKind.i64.wrap (c : Int) = (c : Int) from z64 (by omega) (by omega)]
 ((refine no_implicit_lambda% (cal [3] (oN_c r0 (by omega)) ?_ ?_)); rotate_left; (focus (intro xx H' hh; rcases hh with ⟨_, _, _, _, h', _⟩ | ⟨hN, h', rfl⟩ <;> first | (cases h'; done) | (cases h'; repeat' (first | (refine no_implicit_lambda% (zH ?_)) | (refine no_implicit_lambda% (spl (fun hc => ?_) (fun hc => ?_)) <;> first | exact zG hc | skip) | (refine no_implicit_lambda% (ans ?_)) | (with_reducible first | exact zI | exact zJ)); exact e_pan (H' := uZ 0 0) (rest := []) (.inr ⟨_, ⟨by (rw [hP, hN]; rfl), 0, 0, rfl⟩, rfl, rfl⟩) permT (LE0 rfl)))); (intro xx H' hh); (rcases hh with ⟨s, r1, hX, ⟨hs, hr1⟩, h', rfl⟩ | ⟨_, h', _⟩); rotate_left; (focus (cases h'; done)); (cases h'); (first | (refine no_implicit_lambda% (akc ?_)) | (refine no_implicit_lambda% (aec ?_))); (rw [hX, bnd_some] at hP); (clear hX); repeat' (first | (refine no_implicit_lambda% (zH ?_)) | (refine no_implicit_lambda% (spl (fun hc => ?_) (fun hc => ?_)) <;> first | exact zG hc | skip) | (refine no_implicit_lambda% (ans ?_)) | (with_reducible first | exact zI | exact zJ)))
 rw [show IntKind.i64.wrap (s : Int) = (s : Int) from z64 (by omega) (by omega)]
 ((refine no_implicit_lambda% (cal [3] (oT_c r1 (by omega)) ?_ ?_)); rotate_left; (focus (intro xx H' hh; rcases hh with ⟨_, _, _, _, h', _⟩ | ⟨hN, h', rfl⟩ <;> first | (cases h'; done) | (cases h'; repeat' (first | (refine no_implicit_lambda% (zH ?_)) | (refine no_implicit_lambda% (spl (fun hc => ?_) (fun hc => ?_)) <;> first | exact zG hc | skip) | (refine no_implicit_lambda% (ans ?_)) | (with_reducible first | exact zI | exact zJ)); exact e_pan (H' := uZ c s) (rest := []) (.inr ⟨_, ⟨by (rw [hP, hN]; rfl), c, s, rfl⟩, rfl, rfl⟩) permT (LE0 rfl)))); (intro xx H' hh); (rcases hh with ⟨b, r2, hX, ⟨hb, hr2⟩, h', rfl⟩ | ⟨_, h', _⟩); rotate_left; (focus (cases h'; done)); (cases h'); (first | (refine no_implicit_lambda% (akc ?_)) | (refine no_implicit_lambda% (aec ?_))); (rw [hX, bnd_some] at hP); (clear hX); repeat' (first | (refine no_implicit_lambda% (zH ?_)) | (refine no_implicit_lambda% (spl (fun hc => ?_) (fun hc => ?_)) <;> first | exact zG hc | skip) | (refine no_implicit_lambda% (ans ?_)) | (with_reducible first | exact zI | exact zJ)))
 exact e_ret (H' := (3, .box [.list (r2.map brow) .free]) :: uH c s b) (rest := _) rfl (.inl ⟨_, r2, _, ⟨(c, s, b), hP, ⟨hc, hs, hb⟩, rfl⟩, rfl, rfl⟩) permT (LE0 rfl)
def uOut (l : List UInt8) : AOut := match pUwA l with
 | some (c, s, b) => .ret (.tuple [.v (.int .i64 c), .v (.int .i64 s), .list (b.map brow) .free, .v (.bool true)])
 | none => .ret (.tuple [.v (.int .i64 0), .v (.int .i64 0), .list [] .free, .v (.bool false)])
set_option maxHeartbeats 3200000 in
theorem unwrap8_c (l : List UInt8) (hl : l.length < 10000000) : ACalls Try.prog 15 0 1000 [.list (l.map brow) .free] [] (fun out H' => out = uOut l ∧ H' = []) := by
 refine no_implicit_lambda% (acalls_of tok dok (f := 15) ⟨Try.func15, rfl, by kernel_rfl⟩ ?_); refine no_implicit_lambda% (c_start (fun _ h => h) ?_)
 refine no_implicit_lambda% (awd ?_)
 (refine no_implicit_lambda% (calw [0, 1, 2] (read_c (m := 3) (cap := [.ptr 0 0, .ptr 1 0, .ptr 2 0]) (H1 := uZ 0 0) (by decide) (ucb_c l hl) (fun f hf => by simp [AV.renL, AV.ren, hf]) (fun f hf => by simp [renH, Res.ren, AV.renL, AV.ren, hf, uZ, Own.ren]) (fun l' H h f hf => by obtain ⟨v, _, _, h⟩ := h; simp [h, uH, renH, Res.ren, AV.renL, AV.ren, hf, Own.ren]) (fun H h f hf => by obtain ⟨_, _, _, rfl⟩ := h; simp [renH, Res.ren, AV.renL, AV.ren, hf, uZ, Own.ren])) ?_ ?_))
 rotate_left
 ·intro x H' h
  rcases h with ⟨_, _, h1⟩ | ⟨_, h1⟩ <;> cases h1
 intro x H' h
 rcases h with ⟨l1, ⟨⟨c, s, b⟩, g1, hok, rfl⟩, h1⟩ | ⟨⟨hno1, x, y, rfl⟩, h1⟩
 ·have hD : pUwA l = if l1 = [] then some (c, s, b) else none := by unfold pUwA; rw [g1]; rfl
  rcases l1 with _ | ⟨u, l1⟩
  ·rw [if_pos rfl] at hD
   cases h1
   refine no_implicit_lambda% (akc ?_)
   repeat' (first | (refine no_implicit_lambda% (zH ?_)) | (refine no_implicit_lambda% (splv (fun hc => ?_) (fun hc => ?_)) <;> first | exact zG hc | skip) | (refine no_implicit_lambda% (ans ?_)) | (with_reducible first | exact zI | exact zJ))
   exact e_ret (H' := []) (rest := _) rfl ⟨by unfold uOut; rw [hD]; rfl, rfl⟩ permT (LE0 rfl)
  ·rw [if_neg (by simp)] at hD
   rw [show decide ((((u :: l1).map brow).length : Int) = 0) = false from decide_eq_false (by rw [List.length_map, List.length_cons]; omega)] at h1
   cases h1
   refine no_implicit_lambda% (akc ?_)
   repeat' (first | (refine no_implicit_lambda% (zH ?_)) | (refine no_implicit_lambda% (splv (fun hc => ?_) (fun hc => ?_)) <;> first | exact zG hc | skip) | (refine no_implicit_lambda% (ans ?_)) | (with_reducible first | exact zI | exact zJ))
   exact e_ret_to (H' := []) (rest := _) (.freeSlot 4 rfl) rfl ⟨by unfold uOut; rw [hD]; rfl, rfl⟩ permT (LE0 rfl)
 ·have hD : pUwA l = none := by unfold pUwA; rw [hno1]; rfl
  cases h1
  refine no_implicit_lambda% (akc ?_)
  repeat' (first | (refine no_implicit_lambda% (zH ?_)) | (refine no_implicit_lambda% (splv (fun hc => ?_) (fun hc => ?_)) <;> first | exact zG hc | skip) | (refine no_implicit_lambda% (ans ?_)) | (with_reducible first | exact zI | exact zJ))
  exact e_ret_to (H' := []) (rest := _) (.freeSlot 4 rfl) rfl ⟨by unfold uOut; rw [hD]; rfl, rfl⟩ permT (LE0 rfl)
theorem pUw_enc {c s : Nat} {b : List UInt8} (hc : c < 256) (hs : s < 4294967296) (hb : b.length ≤ 1048576) (r : List UInt8) : pUw (encU c s b ++ r) = some ((c, s, b), r) := by
 unfold pUw encU
 rw [show [UInt8.ofNat c] ++ be s 4 ++ (be b.length 4 ++ b) ++ r = [UInt8.ofNat c] ++ (be s 4 ++ (be b.length 4 ++ b ++ r)) by simp only [List.append_assoc], pB_enc hc, bnd_some, pN_enc hs, bnd_some, pT_enc hb, bnd_some]
theorem pUwA_enc {c s : Nat} {b : List UInt8} (hc : c < 256) (hs : s < 4294967296) (hb : b.length ≤ 1048576) : pUwA (encU c s b) = some (c, s, b) := by
 unfold pUwA
 have := pUw_enc hc hs hb []
 rw [List.append_nil] at this
 rw [this]; rfl
def cm10 : Cm := ⟨10, zOp, zSn, 0, ⟨#[]⟩, 0, 0, []⟩
theorem uOut_top {l : List UInt8} {top : Nat} (h : ACalls Try.prog 15 0 top [.list (l.map brow) .free] [] (fun out H' => out = uOut l ∧ H' = [])) : ACalls Try.prog 15 0 0 [.list (l.map brow) .free] [] (fun out H' => out = uOut l ∧ H' = []) :=
 ACalls.ren h (Nat.zero_le _) fun out H' hh => by
  obtain ⟨rfl, rfl⟩ := hh
  exact ⟨[], uOut l, [], List.nodup_nil, (fun q h => by cases h), (fun q h => by omega), Nat.le_refl _, (by unfold uOut; rcases pUwA l with _ | ⟨_, _, _⟩ <;> rfl), rfl, rfl, rfl⟩
set_option maxHeartbeats 3200000 in
theorem known8_c : ACalls Try.prog 17 0 100000 [] [] (fun out H' => out = .ret (.v (.bool true)) ∧ H' = []) := by
 have z0 : OqN zOp := ⟨by decide, fun x hx => by cases hx⟩
 have h1 := encode8_ok cm10 (by decide) z0 (by decide)
 have h2 := encode8_no cm0 (by decide) (by decide)
 have h3 : ACalls Try.prog 10 0 20000 [.list (([] : List UInt8).map brow) .free] [] (fun out H' => out = .ret (.tuple [.agg (cmrow cm0), .v (.int .i64 12)]) ∧ H' = []) := (decode8_c [] (by decide)).mono fun o H' hh => ⟨hh.1.1, hh.2⟩
 have h4 := wrap8_c 7 258 [120] (by decide) (by decide) (by decide)
 have h5 : ACalls Try.prog 15 0 1000 [.list ((encU 7 258 [120]).map brow) .free] [] (fun out H' => out = .ret (.tuple [.v (.int .i64 7), .v (.int .i64 258), .list (([120] : List UInt8).map brow) .free, .v (.bool true)]) ∧ H' = []) := (unwrap8_c (encU 7 258 [120]) (by decide)).mono fun o H' hh => ⟨by rw [hh.1]; unfold uOut; rw [pUwA_enc (by decide) (by decide) (by decide)]; rfl, hh.2⟩
 refine no_implicit_lambda% (acalls_of tok dok (f := 17) ⟨Try.func17, rfl, by kernel_rfl⟩ ?_); refine no_implicit_lambda% (c_start (fun _ h => h) ?_)
 repeat' (first | (refine no_implicit_lambda% (zH ?_)) | (refine no_implicit_lambda% (spl (fun hc => ?_) (fun hc => ?_)) <;> first | exact zG hc | skip) | (refine no_implicit_lambda% (ans ?_)) | (with_reducible first | exact zI | exact zJ))
 ((refine no_implicit_lambda% (calw [] (h1) ?_ ?_)); rotate_left; (focus (first | (exact zI) | (exact zJ))); (refine no_implicit_lambda% (ret1 ?_); first | (refine no_implicit_lambda% (akc ?_)) | (refine no_implicit_lambda% (aec ?_))); repeat' (first | (refine no_implicit_lambda% (zH ?_)) | (refine no_implicit_lambda% (spl (fun hc => ?_) (fun hc => ?_)) <;> first | exact zG hc | skip) | (refine no_implicit_lambda% (ans ?_)) | (with_reducible first | exact zI | exact zJ)))
 ((refine no_implicit_lambda% (calw [] (h2) ?_ ?_)); rotate_left; (focus (first | (exact zI) | (exact zJ))); (refine no_implicit_lambda% (ret1 ?_); first | (refine no_implicit_lambda% (akc ?_)) | (refine no_implicit_lambda% (aec ?_))); repeat' (first | (refine no_implicit_lambda% (zH ?_)) | (refine no_implicit_lambda% (spl (fun hc => ?_) (fun hc => ?_)) <;> first | exact zG hc | skip) | (refine no_implicit_lambda% (ans ?_)) | (with_reducible first | exact zI | exact zJ)))
 ((refine no_implicit_lambda% (calw [] (h3) ?_ ?_)); rotate_left; (focus (first | (exact zI) | (exact zJ))); (refine no_implicit_lambda% (ret1 ?_); first | (refine no_implicit_lambda% (akc ?_)) | (refine no_implicit_lambda% (aec ?_))); repeat' (first | (refine no_implicit_lambda% (zH ?_)) | (refine no_implicit_lambda% (spl (fun hc => ?_) (fun hc => ?_)) <;> first | exact zG hc | skip) | (refine no_implicit_lambda% (ans ?_)) | (with_reducible first | exact zI | exact zJ)))
 ((refine no_implicit_lambda% (calw [] (h4) ?_ ?_)); rotate_left; (focus (first | (exact zI) | (exact zJ))); (refine no_implicit_lambda% (ret1 ?_); first | (refine no_implicit_lambda% (akc ?_)) | (refine no_implicit_lambda% (aec ?_))); repeat' (first | (refine no_implicit_lambda% (zH ?_)) | (refine no_implicit_lambda% (spl (fun hc => ?_) (fun hc => ?_)) <;> first | exact zG hc | skip) | (refine no_implicit_lambda% (ans ?_)) | (with_reducible first | exact zI | exact zJ)))
 ((refine no_implicit_lambda% (calw [] (h5) ?_ ?_)); rotate_left; (focus (first | (exact zI) | (exact zJ))); (refine no_implicit_lambda% (ret1 ?_); first | (refine no_implicit_lambda% (akc ?_)) | (refine no_implicit_lambda% (aec ?_))); repeat' (first | (refine no_implicit_lambda% (zH ?_)) | (refine no_implicit_lambda% (spl (fun hc => ?_) (fun hc => ?_)) <;> first | exact zG hc | skip) | (refine no_implicit_lambda% (ans ?_)) | (with_reducible first | exact zI | exact zJ)))
 ·refine no_implicit_lambda% (e_ret (H' := []) (rest := _) rfl ⟨congrArg (fun z => AOut.ret (.v (.bool z))) ?_, rfl⟩ (.refl _) (LE0 rfl))
  exact beq_self_eq_true _
 ·exfalso
  rw [show (⟨(encCm cm10).toArray⟩ : ByteArray) = ⟨#[10]⟩ from rfl, beq_self_eq_true] at hc
  cases hc
end Go.Proofs.Ytncffhgoopdfgaa
namespace Go.Proofs.Ytncffhgoopdfgaa
open Go.Am
set_option maxRecDepth 100000
structure Dw where
 k : Int
 a : Int
 b : Int
 at' : Int
 gen : Int
 to : Int
 o : Ow
 st : List UInt8
def dwrow (x : Dw) : List AV := [.v (.int .i64 x.k), .v (.int .i64 x.a), .v (.int .i64 x.b), .v (.int .i64 x.at'), .v (.int .i64 x.gen), .v (.int .i64 x.to)] ++ owrow x.o ++ [.list (x.st.map brow) .free]
abbrev I64 (n : Int) : Prop := -9223372036854775808 ≤ n ∧ n ≤ 9223372036854775807
structure DwOk (x : Dw) : Prop where
 k : I64 x.k
 a : I64 x.a
 b : I64 x.b
 at' : I64 x.at'
 gen : I64 x.gen
 to : I64 x.to
 o : OwOk x.o
theorem op_d (o : Ow) (ho : OwOk o) : ACalls Try.prog 32 0 0 [.agg (owrow o)] [] (fun out H' => ∃ q, OqOk q ∧ out = .ret (.agg (oqrow q)) ∧ H' = []) :=
 ACalls.ren (op_c o ho) (Nat.zero_le _) fun out H' hh => by
  obtain ⟨q, h1, rfl, rfl⟩ := hh
  exact ⟨[], .ret (.agg (oqrow q)), [], List.nodup_nil, (fun q h => by cases h), (fun q h => by omega), Nat.le_refl _, rfl, rfl, q, h1, rfl, rfl⟩
theorem keeprow_d (n : Int) (hn : I64 n) : ACalls Try.prog 31 0 0 [.v (.int .i64 n)] [] (fun out H' => ∃ t ∈ rwL, out = .ret (.v (.string t)) ∧ H' = []) :=
 ACalls.ren (keeprow_c n hn.1 hn.2) (Nat.zero_le _) fun out H' hh => by
  obtain ⟨t, h1, rfl, rfl⟩ := hh
  exact ⟨[], .ret (.v (.string t)), [], List.nodup_nil, (fun q h => by cases h), (fun q h => by omega), Nat.le_refl _, rfl, rfl, t, h1, rfl, rfl⟩
set_option maxHeartbeats 6400000 in
theorem made8_c (x : Dw) (hx : DwOk x) : ACalls Try.prog 7 0 1000 [.agg (dwrow x)] [] (fun out H' => ∃ c : Cm, OqOk c.op ∧ out = .ret (.agg (cmrow c)) ∧ H' = []) := by
 obtain ⟨k, a, b, at', gen, to, o, st⟩ := x
 obtain ⟨hk, ha, hb, hat, hg, ht, ho⟩ := hx
 dsimp only at *
 have w1 := wthn_c k 0 1048576 hk.1 hk.2 (by decide) (by decide) (by decide) (by decide)
 have w2 := wthn_c gen 0 1073741824 hg.1 hg.2 (by decide) (by decide) (by decide) (by decide)
 have w3 := wthn_c to 0 255 ht.1 ht.2 (by decide) (by decide) (by decide) (by decide)
 have w4 := wthn_c to 0 1048576 ht.1 ht.2 (by decide) (by decide) (by decide) (by decide)
 have q3 := cut_c st 40 (by decide)
 have b1 := wthn_bd k 0 1048576 (by decide)
 have b4 := wthn_bd to 0 1048576 (by decide)
 generalize wthn k 0 1048576 = k0 at *
 generalize wthn to 0 1048576 = d0 at *
 generalize wthn to 0 255 = t0 at *
 generalize wthn gen 0 1073741824 = g0 at *
 refine no_implicit_lambda% (acalls_of tok dok (f := 7) ⟨Try.func7, rfl, by kernel_rfl⟩ ?_); refine no_implicit_lambda% (c_start (fun _ h => h) ?_)
 repeat' (first | (refine no_implicit_lambda% (zH ?_)) | (refine no_implicit_lambda% (splv (fun hc => ?_) (fun hc => ?_)) <;> first | exact zG hc | skip) | (refine no_implicit_lambda% (ans ?_)) | (with_reducible first | exact zI | exact zJ) | (refine no_implicit_lambda% (cal [] (w1) ?_ ?_)) | (refine no_implicit_lambda% (cal [] (w2) ?_ ?_)) | fail)
 (refine no_implicit_lambda% (cal [] (keeprow_d at' hat) ?_ ?_))
 (rotate_left; (intro xx H' hh; obtain ⟨_, _, h', _⟩ := hh; cases h'); intro xx H' hh)
 obtain ⟨s, hs, h', rfl⟩ := hh
 cases h'
 first | (refine no_implicit_lambda% (akc ?_)) | (refine no_implicit_lambda% (aec ?_))
 repeat' (first | (refine no_implicit_lambda% (zH ?_)) | (refine no_implicit_lambda% (splv (fun hc => ?_) (fun hc => ?_)) <;> first | exact zG hc | skip) | (refine no_implicit_lambda% (ans ?_)) | (with_reducible first | exact zI | exact zJ) | (refine no_implicit_lambda% (cal [] (w3) ?_ ?_)) | (refine no_implicit_lambda% (cal [] (w4) ?_ ?_)) | (refine no_implicit_lambda% (cal [] (q3) ?_ ?_)) | fail)
 (refine no_implicit_lambda% (cal [] (op_d o ho) ?_ ?_))
 (rotate_left; (intro xx H' hh; obtain ⟨_, _, h', _⟩ := hh; cases h'); intro xx H' hh)
 obtain ⟨q, hq, h', rfl⟩ := hh
 cases h'
 first | (refine no_implicit_lambda% (akc ?_)) | (refine no_implicit_lambda% (aec ?_))
 repeat' (first | (refine no_implicit_lambda% (zH ?_)) | (refine no_implicit_lambda% (splv (fun hc => ?_) (fun hc => ?_)) <;> first | exact zG hc | skip) | (refine no_implicit_lambda% (ans ?_)) | (with_reducible first | exact zI | exact zJ))
 (refine no_implicit_lambda% (cal [] (keeprow_d a ha) ?_ ?_))
 (rotate_left; (intro xx H' hh; obtain ⟨_, _, h', _⟩ := hh; cases h'); intro xx H' hh)
 obtain ⟨lo, hlo, h', rfl⟩ := hh
 cases h'
 first | (refine no_implicit_lambda% (akc ?_)) | (refine no_implicit_lambda% (aec ?_))
 repeat' (first | (refine no_implicit_lambda% (zH ?_)) | (refine no_implicit_lambda% (splv (fun hc => ?_) (fun hc => ?_)) <;> first | exact zG hc | skip) | (refine no_implicit_lambda% (ans ?_)) | (with_reducible first | exact zI | exact zJ))
 (refine no_implicit_lambda% (cal [] (keeprow_d b hb) ?_ ?_))
 (rotate_left; (intro xx H' hh; obtain ⟨_, _, h', _⟩ := hh; cases h'); intro xx H' hh)
 obtain ⟨hi, hhi, h', rfl⟩ := hh
 cases h'
 first | (refine no_implicit_lambda% (akc ?_)) | (refine no_implicit_lambda% (aec ?_))
 repeat' (first | (refine no_implicit_lambda% (zH ?_)) | (refine no_implicit_lambda% (splv (fun hc => ?_) (fun hc => ?_)) <;> first | exact zG hc | skip) | (refine no_implicit_lambda% (ans ?_)) | (with_reducible first | exact zI | exact zJ))
 all_goals first | (exact e_ret (H' := []) (rest := _) rfl ⟨(⟨_, q, ⟨_, _⟩, _, _, _, _, _⟩ : Cm), hq, rfl, rfl⟩ permT (LE0 rfl))
end Go.Proofs.Ytncffhgoopdfgaa
namespace Go.Proofs.Ytncffhgoopdfgaa
open Go.Am
set_option maxRecDepth 100000
theorem canV_n8 (v : Va) (hn : v.n < 18446744073709551616) : (canV v).n < 18446744073709551616 := canV_n v hn
theorem samech_nm (x : Ch) (h : rightC x = 0) (hn : x.v.n < 18446744073709551616) : ACalls Try.prog 87 0 300 [.agg (chrow x), .agg (chrow (nmCh x))] [] (fun out H' => out = .ret (.v (.bool true)) ∧ H' = []) := by
 have hs := refSame_c x.v (canV x.v) hn (canV_n8 _ hn)
 rw [show (ordV _ _ == 0) = true from by rw [ord_can]; rfl] at hs
 obtain ⟨h1, _⟩ := rightC_inv h
 obtain ⟨k, c, t, v⟩ := x
 dsimp only at *
 have hk : k = 1 ∨ k = 5 ∨ k = 2 ∨ k = 3 ∨ k = 4 := by omega
 rcases hk with rfl | rfl | rfl | rfl | rfl
 ·rw [show nmCh ⟨1, c, t, v⟩ = ⟨1, c, t, canV v⟩ from rfl]
  refine no_implicit_lambda% (acalls_of tok dok (f := 87) ⟨Try.func87, rfl, by kernel_rfl⟩ ?_); refine no_implicit_lambda% (c_start (fun _ h => h) ?_)
  repeat' (first | (refine no_implicit_lambda% (zH ?_)) | (refine no_implicit_lambda% (spl (fun hc => ?_) (fun hc => ?_)) <;> first | exact zG hc | skip) | (refine no_implicit_lambda% (ans ?_)) | (with_reducible first | exact zI | exact zJ) | (refine no_implicit_lambda% (cal [] (hs) ?_ ?_)) | fail)
  all_goals first | (exfalso; rw [spE_refl] at hc; cases hc; done) | (exfalso; simp at hc; done) | (refine e_ret (H' := []) (rest := _) rfl ⟨congrArg (fun b => AOut.ret (.v (.bool b))) ?_, rfl⟩ permT (LE0 rfl); first | rfl | (simp; done) | (simp_all; done))
 ·rw [show nmCh ⟨5, c, t, v⟩ = ⟨5, c, t, canV v⟩ from rfl]
  refine no_implicit_lambda% (acalls_of tok dok (f := 87) ⟨Try.func87, rfl, by kernel_rfl⟩ ?_); refine no_implicit_lambda% (c_start (fun _ h => h) ?_)
  repeat' (first | (refine no_implicit_lambda% (zH ?_)) | (refine no_implicit_lambda% (spl (fun hc => ?_) (fun hc => ?_)) <;> first | exact zG hc | skip) | (refine no_implicit_lambda% (ans ?_)) | (with_reducible first | exact zI | exact zJ) | (refine no_implicit_lambda% (cal [] (hs) ?_ ?_)) | fail)
  all_goals first | (exfalso; rw [spE_refl] at hc; cases hc; done) | (exfalso; simp at hc; done) | (refine e_ret (H' := []) (rest := _) rfl ⟨congrArg (fun b => AOut.ret (.v (.bool b))) ?_, rfl⟩ permT (LE0 rfl); first | rfl | (simp; done) | (simp_all; done))
 ·rw [show nmCh ⟨2, c, t, v⟩ = ⟨2, c, t, ⟨0, [], 0⟩⟩ from rfl]
  refine no_implicit_lambda% (acalls_of tok dok (f := 87) ⟨Try.func87, rfl, by kernel_rfl⟩ ?_); refine no_implicit_lambda% (c_start (fun _ h => h) ?_)
  repeat' (first | (refine no_implicit_lambda% (zH ?_)) | (refine no_implicit_lambda% (spl (fun hc => ?_) (fun hc => ?_)) <;> first | exact zG hc | skip) | (refine no_implicit_lambda% (ans ?_)) | (with_reducible first | exact zI | exact zJ))
  all_goals first | (exfalso; rw [spE_refl] at hc; cases hc; done) | (exfalso; simp at hc; done) | (refine e_ret (H' := []) (rest := _) rfl ⟨congrArg (fun b => AOut.ret (.v (.bool b))) ?_, rfl⟩ permT (LE0 rfl); first | rfl | (simp; done) | (simp_all; done))
 ·rw [show nmCh ⟨3, c, t, v⟩ = ⟨3, c, 0, ⟨0, [], 0⟩⟩ from rfl]
  refine no_implicit_lambda% (acalls_of tok dok (f := 87) ⟨Try.func87, rfl, by kernel_rfl⟩ ?_); refine no_implicit_lambda% (c_start (fun _ h => h) ?_)
  repeat' (first | (refine no_implicit_lambda% (zH ?_)) | (refine no_implicit_lambda% (spl (fun hc => ?_) (fun hc => ?_)) <;> first | exact zG hc | skip) | (refine no_implicit_lambda% (ans ?_)) | (with_reducible first | exact zI | exact zJ))
  all_goals first | (exfalso; rw [spE_refl] at hc; cases hc; done) | (exfalso; simp at hc; done) | (refine e_ret (H' := []) (rest := _) rfl ⟨congrArg (fun b => AOut.ret (.v (.bool b))) ?_, rfl⟩ permT (LE0 rfl); first | rfl | (simp; done) | (simp_all; done))
 ·rw [show nmCh ⟨4, c, t, v⟩ = ⟨4, ⟨#[]⟩, 0, ⟨0, [], 0⟩⟩ from rfl]
  refine no_implicit_lambda% (acalls_of tok dok (f := 87) ⟨Try.func87, rfl, by kernel_rfl⟩ ?_); refine no_implicit_lambda% (c_start (fun _ h => h) ?_)
  repeat' (first | (refine no_implicit_lambda% (zH ?_)) | (refine no_implicit_lambda% (spl (fun hc => ?_) (fun hc => ?_)) <;> first | exact zG hc | skip) | (refine no_implicit_lambda% (ans ?_)) | (with_reducible first | exact zI | exact zJ))
  all_goals first | (exfalso; rw [spE_refl] at hc; cases hc; done) | (exfalso; simp at hc; done) | (refine e_ret (H' := []) (rest := _) rfl ⟨congrArg (fun b => AOut.ret (.v (.bool b))) ?_, rfl⟩ permT (LE0 rfl); first | rfl | (simp; done) | (simp_all; done))
theorem samecd_nm (d : Cd) (h : rcB d = true) (hn : d.v.n < 18446744073709551616) : ACalls Try.prog 86 0 300 [.agg (cdrow d), .agg (cdrow (nmCd d))] [] (fun out H' => out = .ret (.v (.bool true)) ∧ H' = []) := by
 have hs := refSame_c d.v (canV d.v) hn (canV_n8 _ hn)
 rw [show (ordV _ _ == 0) = true from by rw [ord_can]; rfl] at hs
 obtain ⟨has, want, c, v⟩ := d
 cases has
 ·rw [show nmCd ⟨false, want, c, v⟩ = ⟨false, false, ⟨#[]⟩, ⟨0, [], 0⟩⟩ from rfl]
  refine no_implicit_lambda% (acalls_of tok dok (f := 86) ⟨Try.func86, rfl, by kernel_rfl⟩ ?_); refine no_implicit_lambda% (c_start (fun _ h => h) ?_)
  repeat' (first | (refine no_implicit_lambda% (zH ?_)) | (refine no_implicit_lambda% (spl (fun hc => ?_) (fun hc => ?_)) <;> first | exact zG hc | skip) | (refine no_implicit_lambda% (ans ?_)) | (with_reducible first | exact zI | exact zJ))
  all_goals first | (exfalso; rw [spE_refl] at hc; cases hc; done) | (exfalso; simp at hc; done) | (refine e_ret (H' := []) (rest := _) rfl ⟨congrArg (fun b => AOut.ret (.v (.bool b))) ?_, rfl⟩ permT (LE0 rfl); first | rfl | (simp; done) | (simp_all; done))
 ·cases want
  ·rw [show nmCd ⟨true, false, c, v⟩ = ⟨true, false, c, ⟨0, [], 0⟩⟩ from rfl]
   refine no_implicit_lambda% (acalls_of tok dok (f := 86) ⟨Try.func86, rfl, by kernel_rfl⟩ ?_); refine no_implicit_lambda% (c_start (fun _ h => h) ?_)
   repeat' (first | (refine no_implicit_lambda% (zH ?_)) | (refine no_implicit_lambda% (spl (fun hc => ?_) (fun hc => ?_)) <;> first | exact zG hc | skip) | (refine no_implicit_lambda% (ans ?_)) | (with_reducible first | exact zI | exact zJ))
   all_goals first | (exfalso; rw [spE_refl] at hc; cases hc; done) | (exfalso; simp at hc; done) | (refine e_ret (H' := []) (rest := _) rfl ⟨congrArg (fun b => AOut.ret (.v (.bool b))) ?_, rfl⟩ permT (LE0 rfl); first | rfl | (simp; done) | (simp_all; done))
  ·rw [show nmCd ⟨true, true, c, v⟩ = ⟨true, true, c, canV v⟩ from rfl]
   refine no_implicit_lambda% (acalls_of tok dok (f := 86) ⟨Try.func86, rfl, by kernel_rfl⟩ ?_); refine no_implicit_lambda% (c_start (fun _ h => h) ?_)
   repeat' (first | (refine no_implicit_lambda% (zH ?_)) | (refine no_implicit_lambda% (spl (fun hc => ?_) (fun hc => ?_)) <;> first | exact zG hc | skip) | (refine no_implicit_lambda% (ans ?_)) | (with_reducible first | exact zI | exact zJ) | (refine no_implicit_lambda% (cal [] (hs) ?_ ?_)) | fail)
   all_goals first | (exfalso; rw [spE_refl] at hc; cases hc; done) | (exfalso; simp at hc; done) | (refine e_ret (H' := []) (rest := _) rfl ⟨congrArg (fun b => AOut.ret (.v (.bool b))) ?_, rfl⟩ permT (LE0 rfl); first | rfl | (simp; done) | (simp_all; done))
def snSt (q : Oq) (i : Nat) : ASt := ⟨([.dead, .dead, .ptr 0 0, .ptr 1 0, .dead, .v (.int .i64 i)] ++ List.replicate 64 .dead), [(1, .box (oqrow (nmOp q))), (0, .box (oqrow q))], 2⟩
set_option maxHeartbeats 6400000 in
theorem sameop_nm (q : Oq) (h : opB q = true) (hN : OqN q) : ACalls Try.prog 49 0 1000 [.agg (oqrow q), .agg (oqrow (nmOp q))] [] (fun out H' => out = .ret (.v (.bool true)) ∧ H' = []) := by
 have hk := op_k h
 obtain ⟨k, row, hi, d, l, most⟩ := q
 dsimp only at *
 rcases hk with rfl | rfl | rfl
 ·rw [show nmOp ⟨1, row, hi, d, l, most⟩ = ⟨1, row, ⟨#[]⟩, zCd, [], 0⟩ from rfl]
  refine no_implicit_lambda% (acalls_of tok dok (f := 49) ⟨Try.func49, rfl, by kernel_rfl⟩ ?_); refine no_implicit_lambda% (c_start (fun _ h => h) ?_)
  repeat' (first | (refine no_implicit_lambda% (zH ?_)) | (refine no_implicit_lambda% (spl (fun hc => ?_) (fun hc => ?_)) <;> first | exact zG hc | skip) | (refine no_implicit_lambda% (ans ?_)) | (with_reducible first | exact zI | exact zJ))
  all_goals first | (exfalso; rw [spE_refl] at hc; cases hc; done) | (exfalso; simp at hc; done) | (refine e_ret (H' := []) (rest := _) rfl ⟨congrArg (fun b => AOut.ret (.v (.bool b))) ?_, rfl⟩ permT (LE0 rfl); first | rfl | (simp; done) | (simp_all; done))
 ·obtain ⟨h1, h2, h3, h4, h5⟩ := op2_of rfl h
  dsimp only at *
  have hsd := (samecd_nm d h2 hN.1).top0
  have hnm : nmOp ⟨2, row, hi, d, l, most⟩ = ⟨2, row, ⟨#[]⟩, nmCd d, l.map nmCh, 0⟩ := rfl
  rw [hnm]
  refine no_implicit_lambda% (acalls_of tok dok (f := 49) ⟨Try.func49, rfl, by kernel_rfl⟩ ?_); refine no_implicit_lambda% (c_start (fun _ h => h) ?_)
  repeat' (first | (refine no_implicit_lambda% (zH ?_)) | (refine no_implicit_lambda% (ans ?_)) | (with_reducible first | exact zI | exact zJ) | (refine no_implicit_lambda% (cal [] (hsd) ?_ ?_)) | fail)
  rw [show (row.toList == row.toList) = true from beq_self_eq_true _]
  repeat' (first | (refine no_implicit_lambda% (zH ?_)) | (refine no_implicit_lambda% (ans ?_)) | (with_reducible first | exact zI | exact zJ) | (refine no_implicit_lambda% (cal [] (hsd) ?_ ?_)) | fail)
  rw [show (((l.map chrow).length : Int) != (((l.map nmCh).map chrow).length : Int)) = false by rw [List.length_map, List.length_map, List.length_map]; exact bne_self_eq_false _]
  repeat' (first | (refine no_implicit_lambda% (zH ?_)) | (refine no_implicit_lambda% (ans ?_)) | (with_reducible first | exact zI | exact zJ) | (refine no_implicit_lambda% (cal [] (hsd) ?_ ?_)) | fail)
  refine c_loop' (snSt ⟨2, row, hi, d, l, most⟩) (fun i => i ≤ l.length) (fun i => l.length - i) (a := 0) (Nat.zero_le _) ?_ ?_
  ·(refine no_implicit_lambda% (Conv.toT ?_ ?_ (LE0 rfl))); (focus ((unfold snSt); (try dsimp only); exact wkl)); (focus ((unfold snSt); (try dsimp only); exact wkh))
  ·rintro i i1
   refine c_turn (n' := 2) (fun _ h => h) (fun _ h => h) rfl ?_
   have hlm : ((l.map chrow).length : Int) = l.length := by rw [List.length_map]
   rcases hx : l[i]? with _ | x
   ·have hi : i = l.length := by have := List.getElem?_eq_none_iff.1 hx; omega
    repeat' (first | (refine no_implicit_lambda% (zH ?_)) | (refine no_implicit_lambda% (spl (fun hc => ?_) (fun hc => ?_)) <;> first | exact zG hc | skip) | (refine no_implicit_lambda% (ans ?_)) | (with_reducible first | exact zI | exact zJ))
    exact e_ret (H' := []) (rest := _) rfl ⟨rfl, rfl⟩ permT (LE0 rfl)
   ·have hil : i < l.length := (List.getElem?_eq_some_iff.1 hx).1
    have hix := chx hx
    have hiy := chx (l := l.map nmCh) (i := i) (t := nmCh x) (by rw [List.getElem?_map, hx]; rfl)
    have hsx := (samech_nm x (h5 x (List.mem_of_getElem? hx)) (hN.2 x (List.mem_of_getElem? hx))).top0
    repeat' (first | (refine no_implicit_lambda% (zH ?_)) | (refine no_implicit_lambda% (splv (fun hc => ?_) (fun hc => ?_)) <;> first | exact zG hc | skip) | (refine no_implicit_lambda% (ans ?_)) | (with_reducible first | exact zI | exact zJ) | (refine no_implicit_lambda% (cal [] (hsx) ?_ ?_)) | fail)
    (refine no_implicit_lambda% (k_loopLT (i + 1) 0 [0, 1] (show i + 1 ≤ l.length from hil) (by first | omega | (simp; done) | (simp; omega)) (LE0 rfl) (fun _ h => h) (fun _ h => h) ?_ ?_)); (focus ((try dsimp only); exact wkl)); (focus ((try dsimp only); exact wkh))
 ·rw [show nmOp ⟨3, row, hi, d, l, most⟩ = ⟨3, row, hi, zCd, [], most⟩ from rfl]
  refine no_implicit_lambda% (acalls_of tok dok (f := 49) ⟨Try.func49, rfl, by kernel_rfl⟩ ?_); refine no_implicit_lambda% (c_start (fun _ h => h) ?_)
  repeat' (first | (refine no_implicit_lambda% (zH ?_)) | (refine no_implicit_lambda% (spl (fun hc => ?_) (fun hc => ?_)) <;> first | exact zG hc | skip) | (refine no_implicit_lambda% (ans ?_)) | (with_reducible first | exact zI | exact zJ))
  all_goals first | (exfalso; rw [spE_refl] at hc; cases hc; done) | (exfalso; simp at hc; done) | (refine e_ret (H' := []) (rest := _) rfl ⟨congrArg (fun b => AOut.ret (.v (.bool b))) ?_, rfl⟩ permT (LE0 rfl); first | rfl | (simp; done) | (simp_all; done))
set_option maxHeartbeats 6400000 in
theorem samecm_nm (c : Cm) (h : cmB c = true) (hN : OqN c.op) : ACalls Try.prog 11 0 3000 [.agg (cmrow c), .agg (cmrow (nmCm c))] [] (fun out H' => out = .ret (.v (.bool true)) ∧ H' = []) := by
 obtain ⟨k, op, sp, gen, at', to, dw, st⟩ := c
 dsimp only at *
 rcases kd10 k with rfl | rfl | rfl | rfl | rfl | rfl | rfl | rfl | rfl | hk
 ·have hso := (sameop_nm op h hN).top0
  rw [show nmCm ⟨1, op, sp, gen, at', to, dw, st⟩ = ⟨1, nmOp op, zSn, 0, ⟨#[]⟩, 0, 0, []⟩ from rfl]
  refine no_implicit_lambda% (acalls_of tok dok (f := 11) ⟨Try.func11, rfl, by kernel_rfl⟩ ?_); refine no_implicit_lambda% (c_start (fun _ h => h) ?_)
  repeat' (first | (refine no_implicit_lambda% (zH ?_)) | (refine no_implicit_lambda% (spl (fun hc => ?_) (fun hc => ?_)) <;> first | exact zG hc | skip) | (refine no_implicit_lambda% (ans ?_)) | (with_reducible first | exact zI | exact zJ) | (refine no_implicit_lambda% (cal [] (hso) ?_ ?_)) | fail)
  all_goals first | (exfalso; rw [spE_refl] at hc; cases hc; done) | (exfalso; simp at hc; done) | (refine e_ret (H' := []) (rest := _) rfl ⟨congrArg (fun b => AOut.ret (.v (.bool b))) ?_, rfl⟩ permT (LE0 rfl); first | rfl | (simp; done) | (simp_all; done))
 ·rw [show nmCm ⟨2, op, sp, gen, at', to, dw, st⟩ = ⟨2, zOp, sp, gen, ⟨#[]⟩, 0, 0, []⟩ from rfl]
  refine no_implicit_lambda% (acalls_of tok dok (f := 11) ⟨Try.func11, rfl, by kernel_rfl⟩ ?_); refine no_implicit_lambda% (c_start (fun _ h => h) ?_)
  repeat' (first | (refine no_implicit_lambda% (zH ?_)) | (refine no_implicit_lambda% (spl (fun hc => ?_) (fun hc => ?_)) <;> first | exact zG hc | skip) | (refine no_implicit_lambda% (ans ?_)) | (with_reducible first | exact zI | exact zJ) | ((with_reducible refine no_implicit_lambda% (zC ?_)); refine no_implicit_lambda% (a_known rfl (q_speq (s := sp) (u := sp) rfl rfl rfl) ?_)) | fail)
  all_goals first | (exfalso; rw [spE_refl] at hc; cases hc; done) | (exfalso; simp at hc; done) | (refine e_ret (H' := []) (rest := _) rfl ⟨congrArg (fun b => AOut.ret (.v (.bool b))) ?_, rfl⟩ permT (LE0 rfl); first | rfl | (simp; done) | (simp_all; done))
 ·rw [show nmCm ⟨4, op, sp, gen, at', to, dw, st⟩ = ⟨4, zOp, sp, gen, ⟨#[]⟩, 0, 0, []⟩ from rfl]
  refine no_implicit_lambda% (acalls_of tok dok (f := 11) ⟨Try.func11, rfl, by kernel_rfl⟩ ?_); refine no_implicit_lambda% (c_start (fun _ h => h) ?_)
  repeat' (first | (refine no_implicit_lambda% (zH ?_)) | (refine no_implicit_lambda% (spl (fun hc => ?_) (fun hc => ?_)) <;> first | exact zG hc | skip) | (refine no_implicit_lambda% (ans ?_)) | (with_reducible first | exact zI | exact zJ) | ((with_reducible refine no_implicit_lambda% (zC ?_)); refine no_implicit_lambda% (a_known rfl (q_speq (s := sp) (u := sp) rfl rfl rfl) ?_)) | fail)
  all_goals first | (exfalso; rw [spE_refl] at hc; cases hc; done) | (exfalso; simp at hc; done) | (refine e_ret (H' := []) (rest := _) rfl ⟨congrArg (fun b => AOut.ret (.v (.bool b))) ?_, rfl⟩ permT (LE0 rfl); first | rfl | (simp; done) | (simp_all; done))
 ·rw [show nmCm ⟨3, op, sp, gen, at', to, dw, st⟩ = ⟨3, zOp, sp, gen, ⟨#[]⟩, 0, 0, st⟩ from rfl]
  refine no_implicit_lambda% (acalls_of tok dok (f := 11) ⟨Try.func11, rfl, by kernel_rfl⟩ ?_); refine no_implicit_lambda% (c_start (fun _ h => h) ?_)
  repeat' (first | (refine no_implicit_lambda% (zH ?_)) | (refine no_implicit_lambda% (spl (fun hc => ?_) (fun hc => ?_)) <;> first | exact zG hc | skip) | (refine no_implicit_lambda% (ans ?_)) | (with_reducible first | exact zI | exact zJ) | ((with_reducible refine no_implicit_lambda% (zC ?_)); refine no_implicit_lambda% (a_known rfl (q_speq (s := sp) (u := sp) rfl rfl rfl) ?_)) | fail)
  all_goals first | (exfalso; rw [spE_refl] at hc; cases hc; done) | (exfalso; simp at hc; done) | (refine e_ret (H' := []) (rest := _) rfl ⟨congrArg (fun b => AOut.ret (.v (.bool b))) ?_, rfl⟩ permT (LE0 rfl); first | rfl | (simp; done) | (simp_all; done))
 ·rw [show nmCm ⟨5, op, sp, gen, at', to, dw, st⟩ = ⟨5, zOp, sp, gen, at', 0, 0, []⟩ from rfl]
  refine no_implicit_lambda% (acalls_of tok dok (f := 11) ⟨Try.func11, rfl, by kernel_rfl⟩ ?_); refine no_implicit_lambda% (c_start (fun _ h => h) ?_)
  repeat' (first | (refine no_implicit_lambda% (zH ?_)) | (refine no_implicit_lambda% (spl (fun hc => ?_) (fun hc => ?_)) <;> first | exact zG hc | skip) | (refine no_implicit_lambda% (ans ?_)) | (with_reducible first | exact zI | exact zJ) | ((with_reducible refine no_implicit_lambda% (zC ?_)); refine no_implicit_lambda% (a_known rfl (q_speq (s := sp) (u := sp) rfl rfl rfl) ?_)) | fail)
  all_goals first | (exfalso; rw [spE_refl] at hc; cases hc; done) | (exfalso; simp at hc; done) | (refine e_ret (H' := []) (rest := _) rfl ⟨congrArg (fun b => AOut.ret (.v (.bool b))) ?_, rfl⟩ permT (LE0 rfl); first | rfl | (simp; done) | (simp_all; done))
 ·rw [show nmCm ⟨6, op, sp, gen, at', to, dw, st⟩ = ⟨6, zOp, sp, gen, at', 0, 0, []⟩ from rfl]
  refine no_implicit_lambda% (acalls_of tok dok (f := 11) ⟨Try.func11, rfl, by kernel_rfl⟩ ?_); refine no_implicit_lambda% (c_start (fun _ h => h) ?_)
  repeat' (first | (refine no_implicit_lambda% (zH ?_)) | (refine no_implicit_lambda% (spl (fun hc => ?_) (fun hc => ?_)) <;> first | exact zG hc | skip) | (refine no_implicit_lambda% (ans ?_)) | (with_reducible first | exact zI | exact zJ) | ((with_reducible refine no_implicit_lambda% (zC ?_)); refine no_implicit_lambda% (a_known rfl (q_speq (s := sp) (u := sp) rfl rfl rfl) ?_)) | fail)
  all_goals first | (exfalso; rw [spE_refl] at hc; cases hc; done) | (exfalso; simp at hc; done) | (refine e_ret (H' := []) (rest := _) rfl ⟨congrArg (fun b => AOut.ret (.v (.bool b))) ?_, rfl⟩ permT (LE0 rfl); first | rfl | (simp; done) | (simp_all; done))
 ·rw [show nmCm ⟨7, op, sp, gen, at', to, dw, st⟩ = ⟨7, zOp, zSn, 0, at', 0, 0, []⟩ from rfl]
  refine no_implicit_lambda% (acalls_of tok dok (f := 11) ⟨Try.func11, rfl, by kernel_rfl⟩ ?_); refine no_implicit_lambda% (c_start (fun _ h => h) ?_)
  repeat' (first | (refine no_implicit_lambda% (zH ?_)) | (refine no_implicit_lambda% (spl (fun hc => ?_) (fun hc => ?_)) <;> first | exact zG hc | skip) | (refine no_implicit_lambda% (ans ?_)) | (with_reducible first | exact zI | exact zJ))
  all_goals first | (exfalso; rw [spE_refl] at hc; cases hc; done) | (exfalso; simp at hc; done) | (refine e_ret (H' := []) (rest := _) rfl ⟨congrArg (fun b => AOut.ret (.v (.bool b))) ?_, rfl⟩ permT (LE0 rfl); first | rfl | (simp; done) | (simp_all; done))
 ·by_cases hz : dw = 0
  ·subst hz
   rw [show nmCm ⟨8, op, sp, gen, at', to, 0, st⟩ = ⟨8, zOp, zSn, 0, ⟨#[]⟩, 0, 0, []⟩ from rfl]
   refine no_implicit_lambda% (acalls_of tok dok (f := 11) ⟨Try.func11, rfl, by kernel_rfl⟩ ?_); refine no_implicit_lambda% (c_start (fun _ h => h) ?_)
   repeat' (first | (refine no_implicit_lambda% (zH ?_)) | (refine no_implicit_lambda% (spl (fun hc => ?_) (fun hc => ?_)) <;> first | exact zG hc | skip) | (refine no_implicit_lambda% (ans ?_)) | (with_reducible first | exact zI | exact zJ))
   all_goals first | (exfalso; rw [spE_refl] at hc; cases hc; done) | (exfalso; simp at hc; done) | (refine e_ret (H' := []) (rest := _) rfl ⟨congrArg (fun b => AOut.ret (.v (.bool b))) ?_, rfl⟩ permT (LE0 rfl); first | rfl | (simp; done) | (simp_all; done))
  ·have he : nmCm ⟨8, op, sp, gen, at', to, dw, st⟩ = ⟨8, zOp, zSn, 0, at', to, dw, []⟩ := by show (if dw = 0 then _ else _) = _; rw [if_neg hz]
   rw [he]
   refine no_implicit_lambda% (acalls_of tok dok (f := 11) ⟨Try.func11, rfl, by kernel_rfl⟩ ?_); refine no_implicit_lambda% (c_start (fun _ h => h) ?_)
   repeat' (first | (refine no_implicit_lambda% (zH ?_)) | (refine no_implicit_lambda% (spl (fun hc => ?_) (fun hc => ?_)) <;> first | exact zG hc | skip) | (refine no_implicit_lambda% (ans ?_)) | (with_reducible first | exact zI | exact zJ))
   all_goals first | (exfalso; rw [spE_refl] at hc; cases hc; done) | (exfalso; simp at hc; done) | (refine e_ret (H' := []) (rest := _) rfl ⟨congrArg (fun b => AOut.ret (.v (.bool b))) ?_, rfl⟩ permT (LE0 rfl); first | rfl | (simp; done) | (simp_all; done))
 ·have he : nmCm ⟨9, op, sp, gen, at', to, dw, st⟩ = ⟨9, zOp, zSn, gen, ⟨#[]⟩, to, 0, []⟩ := by unfold nmCm; rw [if_neg (by dsimp only; omega), if_neg (by dsimp only; omega), if_neg (by dsimp only; omega), if_neg (by dsimp only; omega), if_neg (by dsimp only; omega), if_neg (by dsimp only; omega), if_pos rfl]
  rw [he]
  refine no_implicit_lambda% (acalls_of tok dok (f := 11) ⟨Try.func11, rfl, by kernel_rfl⟩ ?_); refine no_implicit_lambda% (c_start (fun _ h => h) ?_)
  repeat' (first | (refine no_implicit_lambda% (zH ?_)) | (refine no_implicit_lambda% (spl (fun hc => ?_) (fun hc => ?_)) <;> first | exact zG hc | skip) | (refine no_implicit_lambda% (ans ?_)) | (with_reducible first | exact zI | exact zJ))
  all_goals first | (exfalso; rw [spE_refl] at hc; cases hc; done) | (exfalso; simp at hc; done) | (refine e_ret (H' := []) (rest := _) rfl ⟨congrArg (fun b => AOut.ret (.v (.bool b))) ?_, rfl⟩ permT (LE0 rfl); first | rfl | (simp; done) | (simp_all; done))
 ·have he : nmCm ⟨k, op, sp, gen, at', to, dw, st⟩ = ⟨k, zOp, zSn, 0, ⟨#[]⟩, 0, 0, []⟩ := by unfold nmCm; rw [if_neg (by dsimp only; omega), if_neg (by dsimp only; omega), if_neg (by dsimp only; omega), if_neg (by dsimp only; omega), if_neg (by dsimp only; omega), if_neg (by dsimp only; omega), if_neg (by dsimp only; omega)]
  rw [he]
  refine no_implicit_lambda% (acalls_of tok dok (f := 11) ⟨Try.func11, rfl, by kernel_rfl⟩ ?_); refine no_implicit_lambda% (c_start (fun _ h => h) ?_)
  repeat' (first | (refine no_implicit_lambda% (zH ?_)) | (refine no_implicit_lambda% (spl (fun hc => ?_) (fun hc => ?_)) <;> first | exact zG hc | skip) | (refine no_implicit_lambda% (ans ?_)) | (with_reducible first | exact zI | exact zJ))
  all_goals first | (exfalso; rw [spE_refl] at hc; cases hc; done) | (exfalso; simp at hc; done) | (refine e_ret (H' := []) (rest := _) rfl ⟨congrArg (fun b => AOut.ret (.v (.bool b))) ?_, rfl⟩ permT (LE0 rfl); first | rfl | (simp; done) | (simp_all; done))
end Go.Proofs.Ytncffhgoopdfgaa
namespace Go.Proofs.Ytncffhgoopdfgaa
open Go.Am
set_option maxRecDepth 100000
theorem oq_n {q : Oq} (h : OqOk q) : OqN q := ⟨h.1.2, fun x hx => (h.2.1 x hx).2⟩
theorem made8_d (x : Dw) (hx : DwOk x) : ACalls Try.prog 7 0 0 [.agg (dwrow x)] [] (fun out H' => ∃ c : Cm, OqOk c.op ∧ out = .ret (.agg (cmrow c)) ∧ H' = []) :=
 ACalls.ren (made8_c x hx) (Nat.zero_le _) fun out H' hh => by
  obtain ⟨c, h1, rfl, rfl⟩ := hh
  exact ⟨[], .ret (.agg (cmrow c)), [], List.nodup_nil, (fun q h => by cases h), (fun q h => by omega), Nat.le_refl _, (by simp [AOut.ren, cmrow, oqrow, cdrow, vrowV, snrow, AV.ren, AV.renL, Own.ren]), rfl, c, h1, rfl, rfl⟩
section
variable {H : Type} {enc : TypeId × Value → H} {w : World} {base : Nat} {sp : Nat → Bool} {held : Bool}
theorem opnDw : Opn enc Try.prog w base sp held 30 fun row => ∃ x : Dw, DwOk x ∧ row = dwrow x :=
 (opn_struct Try.underlying30 (Rs := [fun row => ∃ n, row = [.v (.int .i64 n)] ∧ IntKind.i64.min ≤ n ∧ n ≤ IntKind.i64.max, fun row => ∃ n, row = [.v (.int .i64 n)] ∧ IntKind.i64.min ≤ n ∧ n ≤ IntKind.i64.max, fun row => ∃ n, row = [.v (.int .i64 n)] ∧ IntKind.i64.min ≤ n ∧ n ≤ IntKind.i64.max, fun row => ∃ n, row = [.v (.int .i64 n)] ∧ IntKind.i64.min ≤ n ∧ n ≤ IntKind.i64.max, fun row => ∃ n, row = [.v (.int .i64 n)] ∧ IntKind.i64.min ≤ n ∧ n ≤ IntKind.i64.max, fun row => ∃ n, row = [.v (.int .i64 n)] ∧ IntKind.i64.min ≤ n ∧ n ≤ IntKind.i64.max, fun row => ∃ o : Ow, OwOk o ∧ row = owrow o, fun row => ∃ l : List UInt8, row = [.list (l.map brow) .free] ∧ l.length ≤ 9223372036854775807])
  ⟨rfl, opn_int Try.underlying3, by kernel_rfl, opn_int Try.underlying3, by kernel_rfl, opn_int Try.underlying3, by kernel_rfl, opn_int Try.underlying3, by kernel_rfl, opn_int Try.underlying3, by kernel_rfl, opn_int Try.underlying3, by kernel_rfl, opnOw, by kernel_rfl, opnBytes, (show (_ : Nat) = _ by kernel_rfl)⟩).mono
  fun row hrow => by
   obtain ⟨_, _, e0, ⟨k, rfl, k1, k2⟩, _, _, e1, ⟨a, rfl, a1, a2⟩, _, _, e2, ⟨b, rfl, b1, b2⟩, _, _, e3, ⟨t, rfl, t1, t2⟩, _, _, e4, ⟨g, rfl, g1, g2⟩, _, _, e5, ⟨to, rfl, to1, to2⟩, _, _, e6, ⟨o, ho, rfl⟩, _, _, e7, ⟨l, rfl, hl⟩, e8⟩ := hrow
   refine ⟨⟨k, a, b, t, g, to, o, l⟩, ⟨⟨k1, k2⟩, ⟨a1, a2⟩, ⟨b1, b2⟩, ⟨t1, t2⟩, ⟨g1, g2⟩, ⟨to1, to2⟩, ho⟩, ?_⟩
   rw [e0, e1, e2, e3, e4, e5, e6, e7, e8]
   simp [dwrow]
end
end Go.Proofs.Ytncffhgoopdfgaa
namespace Go.Proofs.Ytncffhgoopdfgaa
open Go.Am
set_option maxRecDepth 100000
theorem pUw_mono : Mono pUw := Mono.bnd pB_mono fun c => Mono.bnd pN_mono fun s => Mono.bnd pT_mono fun b => Mono.ret (c, s, b)
theorem pUwA_pre {c s : Nat} {b : List UInt8} (hc : c < 256) (hs : s < 4294967296) (hb : b.length ≤ 1048576) (n : Nat) (hn : n < (encU c s b).length) : pUwA ((encU c s b).take n) = none := by
 unfold pUwA
 rcases h : pUw ((encU c s b).take n) with _ | ⟨x, r⟩
 ·rfl
 ·rw [bnd_some]
  refine if_neg fun hr => ?_
  subst hr
  have h1 := pUw_mono _ _ _ ((encU c s b).drop n) h
  rw [List.take_append_drop, List.nil_append] at h1
  have h2 := pUw_enc hc hs hb []
  rw [List.append_nil, h1] at h2
  have h3 : (encU c s b).drop n = [] := (Prod.mk.inj (Option.some.inj h2)).2
  rw [List.drop_eq_nil_iff] at h3
  omega
theorem rwrap8_c (c s : Nat) (b : List UInt8) (hc : c < 256) (hs : s < 4294967296) (hb : b.length ≤ 1048576) : ACalls Try.prog 16 0 100 [.v (.int .i64 c), .v (.int .i64 s), .list (b.map brow) .free] [] (fun out H' => out = .ret (.list ((encU c s b).map brow) .free) ∧ H' = []) := by
 have o1 := bl_top8 (bAR_list (refNumO_c [UInt8.ofNat c] (show 0 < 1 by decide) s hs (show 1 < 1073741824 by decide)))
 have o2 := bl_top8 (bAR_list (refTextO_c ([UInt8.ofNat c] ++ be s 4) b (by simp) (by simp [be_len]) (by omega)))
 refine no_implicit_lambda% (acalls_of tok dok (f := 16) ⟨Try.func16, rfl, by kernel_rfl⟩ ?_); refine no_implicit_lambda% (c_start (fun _ h => h) ?_)
 repeat' (first | (refine no_implicit_lambda% (zH ?_)) | (refine no_implicit_lambda% (spl (fun hc => ?_) (fun hc => ?_)) <;> first | exact zG hc | skip) | (refine no_implicit_lambda% (ans ?_)) | (with_reducible first | exact zI | exact zJ))
 rw [show IntKind.u8.wrap (c : Int) = ((UInt8.ofNat c).toNat : Int) from u8len c, show IntKind.u32.wrap (s : Int) = (s : Int) by rw [IntKind.wrap_u32]; omega]
 ((refine no_implicit_lambda% (calw [] (o1) ?_ ?_)); rotate_left; (focus (first | (exact zI) | (exact zJ))); (refine no_implicit_lambda% (ret1 ?_); first | (refine no_implicit_lambda% (akc ?_)) | (refine no_implicit_lambda% (aec ?_))); repeat' (first | (refine no_implicit_lambda% (zH ?_)) | (refine no_implicit_lambda% (splv (fun hc => ?_) (fun hc => ?_)) <;> first | exact zG hc | skip) | (refine no_implicit_lambda% (ans ?_)) | (with_reducible first | exact zI | exact zJ)))
 ((refine no_implicit_lambda% (calw [] (o2) ?_ ?_)); rotate_left; (focus (first | (exact zI) | (exact zJ))); (refine no_implicit_lambda% (ret1 ?_); first | (refine no_implicit_lambda% (akc ?_)) | (refine no_implicit_lambda% (aec ?_))); repeat' (first | (refine no_implicit_lambda% (zH ?_)) | (refine no_implicit_lambda% (splv (fun hc => ?_) (fun hc => ?_)) <;> first | exact zG hc | skip) | (refine no_implicit_lambda% (ans ?_)) | (with_reducible first | exact zI | exact zJ)))
 exact e_ret (H' := []) (rest := _) rfl ⟨rfl, rfl⟩ permT (LE0 rfl)
theorem encCm_len {c : Cm} (h : cmB c = true) : (encCm c).length ≤ 1100000 := by
 obtain ⟨k, op, sp, gen, at', to, dw, st⟩ := c
 rcases kd10 k with rfl | rfl | rfl | rfl | rfl | rfl | rfl | rfl | rfl | hk
 ·have h1 := encOp_len (show opB op = true from h)
  show List.length (_ :: encOp op) ≤ 1100000
  rw [List.length_cons]; omega
 ·have h1 := encSn_len (Bool.and_eq_true_iff.1 (show (spB sp && genB gen) = true from h)).1
  show List.length (_ :: (encSn sp ++ be gen.toNat 4)) ≤ 1100000
  rw [List.length_cons, List.length_append, be_len]; omega
 ·have h1 := encSn_len (Bool.and_eq_true_iff.1 (show (spB sp && genB gen) = true from h)).1
  show List.length (_ :: (encSn sp ++ be gen.toNat 4)) ≤ 1100000
  rw [List.length_cons, List.length_append, be_len]; omega
 ·obtain ⟨hs, hg⟩ := Bool.and_eq_true_iff.1 (show (spB sp && (genB gen && decide (st.length ≤ 1048576))) = true from h)
  have h1 := encSn_len hs
  have h2 := of_decide_eq_true (Bool.and_eq_true_iff.1 hg).2
  show List.length (_ :: (encSn sp ++ (be gen.toNat 4 ++ (be st.length 4 ++ st)))) ≤ 1100000
  simp only [List.length_cons, List.length_append, be_len]; omega
 ·obtain ⟨hs, hg⟩ := Bool.and_eq_true_iff.1 (show (spliB sp at' && genB gen) = true from h)
  obtain ⟨hs, ha⟩ := spliB_n hs
  have h1 := encSn_len hs
  show List.length (_ :: (encSn sp ++ (be gen.toNat 4 ++ encT at'))) ≤ 1100000
  simp only [List.length_cons, List.length_append, be_len, encT_len]; omega
 ·obtain ⟨hs, hg⟩ := Bool.and_eq_true_iff.1 (show (spliB sp at' && genB gen) = true from h)
  obtain ⟨hs, ha⟩ := spliB_n hs
  have h1 := encSn_len hs
  show List.length (_ :: (encSn sp ++ (be gen.toNat 4 ++ encT at'))) ≤ 1100000
  simp only [List.length_cons, List.length_append, be_len, encT_len]; omega
 ·have ha := le16_n (show le16 at' = true from h)
  show List.length (_ :: encT at') ≤ 1100000
  simp only [List.length_cons, encT_len]; omega
 ·by_cases hz : dw = 0
  ·subst hz
   show List.length (_ :: _ :: []) ≤ 1100000
   simp
  ·have hc2 : (decide (dw = 0) || (decide (1 ≤ dw) && (decide (dw ≤ 3) && (le16 at' && (decide (0 ≤ to) && decide (to ≤ 255)))))) = true := h
   rw [decide_eq_false hz, Bool.false_or] at hc2
   simp only [Bool.and_eq_true] at hc2
   have ha := le16_n hc2.2.2.1
   show List.length (8 :: UInt8.ofNat dw.toNat :: (if dw = 0 then [] else encT at' ++ [UInt8.ofNat to.toNat])) ≤ 1100000
   rw [if_neg hz]
   simp only [List.length_cons, List.length_append, encT_len, List.length_nil]; omega
 ·show List.length (9 :: (be gen.toNat 4 ++ [UInt8.ofNat (-to).toNat])) ≤ 1100000
  simp only [List.length_cons, List.length_append, be_len, List.length_nil]; omega
 ·rw [cmB0 hk] at h
  have h10 : k = 10 := of_decide_eq_true h
  subst h10
  show List.length (_ :: []) ≤ 1100000
  simp
theorem pDec_e8 {c : Cm} (hc : cmB c = true) (hN : OqN c.op) : pDec (encCm c) = some (nmCm c) := by
 unfold pDec
 rw [pCm_e8 hc hN]; rfl
def cbSt (client seq : Int) (b : List UInt8) (cut : Int) (u : Unit) : ASt := ⟨([.dead, .v (.int .i64 client), .v (.int .i64 seq), .list (b.map brow) .free, .v (.int .i64 cut)] ++ List.replicate 117 .dead), [], 1000000⟩
set_option maxHeartbeats 6400000 in
theorem back8_rc (x : Dw) (hx : DwOk x) (client seq : Int) (b : List UInt8) (cut : Int) (hcl : I64 client) (hse : I64 seq) (hcu : I64 cut) : ACalls Try.prog 3 0 90000000 [.agg (dwrow x), .v (.int .i64 client), .v (.int .i64 seq), .list (b.map brow) .free, .v (.int .i64 cut)] [] (fun out H' => out = .ret (.v (.bool true)) ∧ H' = []) := by
 have hk := known8_c.top0
 have w1 := wthn_c client 0 255 hcl.1 hcl.2 (by decide) (by decide) (by decide) (by decide)
 have w2 := wthn_c seq 0 1073741824 hse.1 hse.2 (by decide) (by decide) (by decide) (by decide)
 have b1 := wthn_bd client 0 255 (by decide)
 have b2 := wthn_bd seq 0 1073741824 (by decide)
 have hcb := cut_c b 60 (by decide)
 refine no_implicit_lambda% (acalls_of tok dok (f := 3) ⟨Try.func3, rfl, by kernel_rfl⟩ ?_); refine no_implicit_lambda% (c_start (fun _ h => h) ?_)
 repeat' (first | (refine no_implicit_lambda% (zH ?_)) | (refine no_implicit_lambda% (spl (fun hc => ?_) (fun hc => ?_)) <;> first | exact zG hc | skip) | (refine no_implicit_lambda% (ans ?_)) | (with_reducible first | exact zI | exact zJ))
 (refine no_implicit_lambda% (cal [] (made8_d x hx) ?_ ?_))
 (rotate_left; (intro xx H' hh; obtain ⟨_, _, h', _⟩ := hh; cases h'); intro xx H' hh)
 obtain ⟨c, hq, h', rfl⟩ := hh
 cases h'
 first | (refine no_implicit_lambda% (akc ?_)) | (refine no_implicit_lambda% (aec ?_))
 have hN : OqN c.op := oq_n hq
 have hl : c.op.l.length < 1000000000000 := by have := hq.2.2; omega
 repeat' (first | (refine no_implicit_lambda% (sx1 ?_)) | (refine no_implicit_lambda% (spl (fun hc => ?_) (fun hc => ?_)) <;> first | exact zG hc | skip) | fail)
 refine k_seq ?_
 have h0 := (cright_c c hl).top0
 have hB : cmB c = cmB c := rfl
 (with_reducible refine no_implicit_lambda% (c_seq ?_))
 repeat' (first | (refine no_implicit_lambda% (sx1 ?_)) | (refine no_implicit_lambda% (ans ?_)) | (with_reducible first | exact zI | exact zJ) | (refine no_implicit_lambda% (cal [] (h0) ?_ ?_)) | fail)
 refine k_seq ?_
 refine c_cutR (cbSt client seq b cut) (fun _ => True) ?_ ?_
 ·rintro u -
  refine c_turn (n' := 1000000) (fun _ h => h) (fun _ h => h) rfl ?_
  generalize wthn client 0 255 = k0 at *
  generalize wthn seq 0 1073741824 = s0 at *
  obtain ⟨k, rfl⟩ := Int.eq_ofNat_of_zero_le b1.1
  obtain ⟨s, rfl⟩ := Int.eq_ofNat_of_zero_le b2.1
  have hb60 : (b.take 60).length ≤ 1048576 := by rw [List.length_take]; omega
  have hw := bl_top8 (wrap8_c k s (b.take 60) (by omega) (by omega) hb60)
  have hlen : (encU k s (b.take 60)).length ≤ 100 ∧ 0 < (encU k s (b.take 60)).length := by unfold encU; simp only [List.length_append, be_len, List.length_take, List.length_singleton]; omega
  have hu : ACalls Try.prog 15 0 0 [.list ((encU k s (b.take 60)).map brow) .free] [] (fun out H' => out = .ret (.tuple [.v (.int .i64 k), .v (.int .i64 s), .list ((b.take 60).map brow) .free, .v (.bool true)]) ∧ H' = []) := (uOut_top (unwrap8_c _ (by omega))).mono fun o H' hh => ⟨by rw [hh.1]; unfold uOut; rw [pUwA_enc (by omega) (by omega) hb60], hh.2⟩
  have hr := bl_top8 (rwrap8_c k s (b.take 60) (by omega) (by omega) hb60)
  have hpre := pUwA_pre (c := k) (s := s) (b := b.take 60) (by omega) (by omega) hb60
  have w3 := wthn_c cut 0 (((encU k s (b.take 60)).map brow).length - 1 : Int) hcu.1 hcu.2 (by decide) (by rw [List.length_map]; omega) (by rw [List.length_map]; omega) (by rw [List.length_map]; omega)
  have b3 := wthn_bd cut 0 (((encU k s (b.take 60)).map brow).length - 1 : Int) (by rw [List.length_map]; omega)
  have hlm : ((encU k s (b.take 60)).map brow).length = (encU k s (b.take 60)).length := List.length_map ..
  generalize encU k s (b.take 60) = v at *
  generalize b.take 60 = z at *
  generalize wthn cut 0 ((v.map brow).length - 1 : Int) = n0 at *
  obtain ⟨n, rfl⟩ := Int.eq_ofNat_of_zero_le b3.1
  have hu2 : ACalls Try.prog 15 0 0 [.list ((v.take n).map brow) .free] [] (fun out H' => out = .ret (.tuple [.v (.int .i64 0), .v (.int .i64 0), .list [] .free, .v (.bool false)]) ∧ H' = []) := (uOut_top (unwrap8_c _ (by rw [List.length_take]; omega))).mono fun o H' hh => ⟨by rw [hh.1]; unfold uOut; rw [hpre n (by omega)], hh.2⟩
  repeat' (first | (refine no_implicit_lambda% (zH ?_)) | (refine no_implicit_lambda% (spl (fun hc => ?_) (fun hc => ?_)) <;> first | exact zG hc | skip) | (refine no_implicit_lambda% (ans ?_)) | (with_reducible first | exact zI | exact zJ) | (refine no_implicit_lambda% (cal [] (w1) ?_ ?_)) | (refine no_implicit_lambda% (cal [] (w2) ?_ ?_)) | (refine no_implicit_lambda% (cal [] (hcb) ?_ ?_)) | (refine no_implicit_lambda% (cal [] (hw) ?_ ?_)) | (refine no_implicit_lambda% (cal [] (hu) ?_ ?_)) | fail)
  ·exfalso; simp at hc
  ·rw [show IntKind.i64.wrap (((v.map brow).length : Int) - 1) = ((v.map brow).length - 1 : Int) from z64 (by omega) (by omega)]
   repeat' (first | (refine no_implicit_lambda% (zH ?_)) | (refine no_implicit_lambda% (spl (fun hc => ?_) (fun hc => ?_)) <;> first | exact zG hc | skip) | (refine no_implicit_lambda% (ans ?_)) | (with_reducible first | exact zI | exact zJ) | (refine no_implicit_lambda% (cal [] (w3) ?_ ?_)) | fail)
   (refine no_implicit_lambda% (aqs ?_ ?_)); focus ((repeat' (refine no_implicit_lambda% (And.intro ?_ ?_))) <;> (first | exact trivial | exact brows v | exact Int.natCast_nonneg _ | omega | (simp; done) | (simp; omega) | ((show (0 : Int) ≤ _); omega)))
   refine k_as (.list ((v.take n).map brow) .free) (by simp [List.map_take, orFull, isFull, isNone]) ?_
   repeat' (first | ((with_reducible refine no_implicit_lambda% (zA ?_)); first | (refine no_implicit_lambda% (o_op rfl ?_)) | (refine no_implicit_lambda% (o_yes rfl rfl rfl ?_)) | (refine no_implicit_lambda% (o_no rfl rfl rfl (fun _ h => h) ?_)) | (refine no_implicit_lambda% (o_not rfl rfl rfl (fun _ h => h) ?_))) | ((with_reducible refine no_implicit_lambda% (is_opK ?_)); first | (refine no_implicit_lambda% (k_op' (fun _ h => h) ?_))) | ((with_reducible refine no_implicit_lambda% (zC ?_)); first | (refine no_implicit_lambda% (a_q1 rfl (fun _ h => h) ?_)) | (refine no_implicit_lambda% (a_box rfl (fun _ h => h) ?_)) | (refine no_implicit_lambda% (a_alloc rfl (fun _ h => h) ?_)) | (refine no_implicit_lambda% (a_storev rfl (fun _ h => h) ?_)) | (refine no_implicit_lambda% (a_store rfl (fun _ h => h) ?_)) | (refine no_implicit_lambda% (a_panic rfl rfl ?_))) | ((with_reducible refine no_implicit_lambda% (zC ?_)); first | (refine no_implicit_lambda% (a_append_tok rfl rfl rfl rfl rfl rfl rfl rfl rfl rfl rfl rfl rfl rfl (by first | rfl | (simp; done)) (fun _ h => h) (by (first | assumption | (intro row hr; simp only [List.mem_cons, List.not_mem_nil, or_false] at hr; rcases hr with rfl | rfl | rfl | rfl <;> rfl) | (intro row hr; simp at hr; done) | (intro row hr; simp only [List.mem_singleton] at hr; subst hr; rfl) | (intro row hr; obtain ⟨_, _, rfl⟩ := List.mem_map.1 hr; rfl))) (by (refine ⟨?_, ?_⟩ <;> (simp only [List.length_map, List.length_append, List.length_cons, List.length_nil]; omega))) ?_)) | (refine no_implicit_lambda% (a_append_full rfl rfl rfl rfl rfl rfl rfl rfl rfl rfl rfl rfl (by (first | assumption | (intro row hr; simp only [List.mem_cons, List.not_mem_nil, or_false] at hr; rcases hr with rfl | rfl | rfl | rfl <;> rfl) | (intro row hr; simp at hr; done) | (intro row hr; simp only [List.mem_singleton] at hr; subst hr; rfl) | (intro row hr; obtain ⟨_, _, rfl⟩ := List.mem_map.1 hr; rfl))) (by (first | assumption | (intro row hr; simp only [List.mem_cons, List.not_mem_nil, or_false] at hr; rcases hr with rfl | rfl | rfl | rfl <;> rfl) | (intro row hr; simp at hr; done) | (intro row hr; simp only [List.mem_singleton] at hr; subst hr; rfl) | (intro row hr; obtain ⟨_, _, rfl⟩ := List.mem_map.1 hr; rfl))) (by (refine ⟨?_, ?_⟩ <;> (simp only [List.length_map, List.length_append, List.length_cons, List.length_nil]; omega))) ?_))) | (first | (with_reducible refine no_implicit_lambda% (c_seq ?_)) | (with_reducible refine no_implicit_lambda% (c_region ?_)) | (with_reducible refine no_implicit_lambda% (c_ret ?_)) | (with_reducible refine no_implicit_lambda% (c_skip ?_)) | (with_reducible refine no_implicit_lambda% (c_block ?_)) | (with_reducible refine no_implicit_lambda% (c_exit ?_)) | (with_reducible refine no_implicit_lambda% (o_nil ?_)) | (with_reducible refine no_implicit_lambda% (k_seq ?_)) | (with_reducible refine no_implicit_lambda% (k_seq_ret ?_)) | (with_reducible refine no_implicit_lambda% (k_seq_exit ?_)) | (with_reducible refine no_implicit_lambda% (k_seq_pan ?_)) | (with_reducible refine no_implicit_lambda% (k_block ?_)) | (with_reducible refine no_implicit_lambda% (k_block_ret ?_)) | (with_reducible refine no_implicit_lambda% (k_block_pan ?_)) | ((with_reducible refine no_implicit_lambda% (is_blockx ?_)); first | (refine no_implicit_lambda% (k_block_here rfl ?_)) | (refine no_implicit_lambda% (k_block_on rfl ?_))) | (with_reducible refine no_implicit_lambda% (k_pan ?_)) | (with_reducible refine no_implicit_lambda% (k_opP ?_)) | (with_reducible refine no_implicit_lambda% (k_loop_ret ?_)) | (with_reducible refine no_implicit_lambda% (k_loop_exit ?_)) | (with_reducible refine no_implicit_lambda% (k_loop_pan ?_)) | (with_reducible refine no_implicit_lambda% (e_end ?_))) | (((with_reducible refine no_implicit_lambda% (zB ?_)); first | (refine no_implicit_lambda% (c_true rfl ?_)) | (refine no_implicit_lambda% (c_false rfl ?_)))) | ((with_reducible refine no_implicit_lambda% (zC ?_)); refine no_implicit_lambda% (a_qS rfl (qIx (fun _ h => h)) (by first | assumption | exact hpx (by assumption) | exact hpy (by assumption)) ?_)) | (refine no_implicit_lambda% (spl (fun hc => ?_) (fun hc => ?_)) <;> first | exact zG hc | skip) | (refine no_implicit_lambda% (ans ?_)) | (with_reducible first | exact zI | exact zJ) | (refine no_implicit_lambda% (cal [] (hu2) ?_ ?_)) | fail)
   repeat' (first | (refine no_implicit_lambda% (zH ?_)) | (refine no_implicit_lambda% (splv (fun hc => ?_) (fun hc => ?_)) <;> first | exact zG hc | skip) | (refine no_implicit_lambda% (ans ?_)) | (with_reducible first | exact zI | exact zJ) | (refine no_implicit_lambda% (cal [] (hr) ?_ ?_)) | fail)
   rw [show ((⟨v.toArray⟩ : ByteArray).toList == (⟨v.toArray⟩ : ByteArray).toList) = true from beq_self_eq_true _]
   repeat' (first | (refine no_implicit_lambda% (zH ?_)) | (refine no_implicit_lambda% (splv (fun hc => ?_) (fun hc => ?_)) <;> first | exact zG hc | skip) | (refine no_implicit_lambda% (ans ?_)) | (with_reducible first | exact zI | exact zJ) | (refine no_implicit_lambda% (cal [] (hk) ?_ ?_)) | fail)
   all_goals first | (exact e_ret (H' := []) (rest := _) rfl ⟨rfl, rfl⟩ permT (LE0 rfl)) | (exfalso; simp at hc; done)
 ·intro Kx kN kP kR kE
  ((with_reducible refine no_implicit_lambda% (zB ?_)); refine no_implicit_lambda% (zE rfl (fun hB => ?_) (fun hB => ?_)))
  ·have h1 := encode8_ok c hB hN hl
   have hlen := encCm_len hB
   have h2 : ACalls Try.prog 10 0 20000 [.list ((encCm c).map brow) .free] [] (fun out H' => out = .ret (.tuple [.agg (cmrow (nmCm c)), .v (.int .i64 0)]) ∧ H' = []) := (decode8_c (encCm c) (by omega)).mono fun o H' hh => ⟨by rw [hh.1.1]; unfold oOut; rw [pDec_e8 hB hN], hh.2⟩
   have h3 := samecm_nm c hB hN
   repeat' (first | (refine no_implicit_lambda% (zH ?_)) | (refine no_implicit_lambda% (spl (fun hc => ?_) (fun hc => ?_)) <;> first | exact zG hc | skip) | (refine no_implicit_lambda% (ans ?_)) | (with_reducible first | exact zI | exact zJ) | (refine no_implicit_lambda% (cal [] (h1) ?_ ?_)) | (refine no_implicit_lambda% (cal [] (h2) ?_ ?_)) | (refine no_implicit_lambda% (cal [] (h3) ?_ ?_)) | fail)
   refine kN () _ _ _ trivial (.inl ?_)
   (refine no_implicit_lambda% (Conv.toT ?_ ?_ (LE0 rfl))); (focus ((unfold cbSt); (try dsimp only); exact wkl)); (focus ((unfold cbSt); (try dsimp only); exact wkh))
  ·repeat' (first | (refine no_implicit_lambda% (zH ?_)) | (refine no_implicit_lambda% (spl (fun hc => ?_) (fun hc => ?_)) <;> first | exact zG hc | skip) | (refine no_implicit_lambda% (ans ?_)) | (with_reducible first | exact zI | exact zJ))
   refine kN () _ _ _ trivial (.inl ?_)
   (refine no_implicit_lambda% (Conv.toT ?_ ?_ (LE0 rfl))); (focus ((unfold cbSt); (try dsimp only); exact wkl)); (focus ((unfold cbSt); (try dsimp only); exact wkh))
end Go.Proofs.Ytncffhgoopdfgaa
