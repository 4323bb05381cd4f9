/- Part 10 of what the laws CmdBack rest on: CtC, CtD, ChE, ChF, ChH, AmLd, ChJ, RxB, ChI, Vl, CtG, CdA. -/
import Derived.Test.YtncffhgoopdfgaaP9
set_option linter.unusedSimpArgs false
set_option linter.unusedVariables false
namespace Go.Proofs.Ytncffhgoopdfgaa
open Go.Am
set_option maxRecDepth 100000
def chR (x : Ch) (r : List UInt8) : Option (Ch × List UInt8) := if rightC x = 0 then some (x, r) else none
noncomputable def chK (k : Nat) (r : List UInt8) : Option (Ch × List UInt8) :=
 if k = 4 then chR ⟨4, ⟨#[]⟩, 0, ⟨0, [], 0⟩⟩ r else
 if k = 3 then bnd (pX r) fun s r1 => chR ⟨3, ⟨s.toArray⟩, 0, ⟨0, [], 0⟩⟩ r1 else
 if k = 2 then bnd (pX r) fun s r1 => bnd (pL r1) fun t r2 => chR ⟨2, ⟨s.toArray⟩, IntKind.i64.wrap (t : Int), ⟨0, [], 0⟩⟩ r2 else
 if k = 1 ∨ k = 5 then bnd (pX r) fun s r1 => bnd (pL r1) fun t r2 => bnd (pV r2) fun v r3 => chR ⟨k, ⟨s.toArray⟩, IntKind.i64.wrap (t : Int), v⟩ r3 else none
noncomputable def pCh (l : List UInt8) : Option (Ch × List UInt8) := bnd (pB l) chK
def ChB (x : Ch) : Prop := x.v.b.length ≤ 16 ∧ x.v.n < 18446744073709551616
set_option maxHeartbeats 6400000 in
theorem take5_c (l : List UInt8) (hl : l.length < 281474976710656) : ACalls Try.prog 113 1 1000 [.ptr 0 0] (rd l) (fun out H' => (∃ x r, pCh l = some (x, r) ∧ (ChB x ∧ rightC x = 0 ∧ r.length ≤ l.length) ∧ out = .ret (.agg (chrow x)) ∧ H' = rd r) ∨ (pCh l = none ∧ out = gone ∧ H' = [])) := by
 refine no_implicit_lambda% (acalls_of tok dok (f := 113) ⟨Try.func113, rfl, by kernel_rfl⟩ ?_); refine no_implicit_lambda% (c_start (fun _ h => h) ?_)
 repeat' (first | (refine no_implicit_lambda% (zH ?_)) | (refine no_implicit_lambda% (spl (fun hc => ?_) (fun hc => ?_)) <;> first | exact zG hc | skip) | (refine no_implicit_lambda% (ans ?_)) | (with_reducible first | exact zI | exact zJ))
 (refine no_implicit_lambda% (cal [0] (rB_c l (by omega)) ?_ ?_))
 rotate_left
 ·intro xx H' hh; rcases hh with ⟨_, _, _, _, h', _⟩ | ⟨hN, h', rfl⟩ <;> first | (cases h'; done) | (cases h'; repeat' (first | (refine no_implicit_lambda% (zH ?_)) | (refine no_implicit_lambda% (spl (fun hc => ?_) (fun hc => ?_)) <;> first | exact zG hc | skip) | (refine no_implicit_lambda% (ans ?_)) | (with_reducible first | exact zI | exact zJ)); exact e_pan (H' := []) (rest := _) (.inr ⟨by (unfold pCh; rw [hN]; rfl), rfl, rfl⟩) permT (LE0 rfl))
 intro xx H' hh
 rcases hh with ⟨N, r0, hB, ⟨hN, hr0⟩, h', rfl⟩ | ⟨_, h', _⟩
 rotate_left
 ·cases h'
 cases h'
 first | (refine no_implicit_lambda% (akc ?_)) | (refine no_implicit_lambda% (aec ?_))
 repeat' (first | (refine no_implicit_lambda% (zH ?_)) | (refine no_implicit_lambda% (spl (fun hc => ?_) (fun hc => ?_)) <;> first | exact zG hc | skip) | (refine no_implicit_lambda% (ans ?_)) | (with_reducible first | exact zI | exact zJ))
 rw [show IntKind.i64.wrap (N : Int) = (N : Int) from z64 (by omega) (by omega)]
 have h0 := asks_c (N : Int)
 have hP : pCh l = chK N r0 := by unfold pCh; rw [hB]; rfl
 have hN5 : N = 1 ∨ N = 5 ∨ N = 2 ∨ N = 3 ∨ N = 4 ∨ ¬ (1 ≤ N ∧ N ≤ 5) := by omega
 rcases hN5 with rfl | rfl | rfl | rfl | rfl | hno
 ·replace hP : pCh l = bnd (pX r0) fun s r1 => bnd (pL r1) fun t r2 => bnd (pV r2) fun v r3 => chR ⟨1, ⟨s.toArray⟩, IntKind.i64.wrap (t : Int), v⟩ r3 := hP
  repeat' (first | (refine no_implicit_lambda% (zH ?_)) | (refine no_implicit_lambda% (spl (fun hc => ?_) (fun hc => ?_)) <;> first | exact zG hc | skip) | (refine no_implicit_lambda% (ans ?_)) | (with_reducible first | exact zI | exact zJ) | (refine no_implicit_lambda% (cal [] (h0) ?_ ?_)) | fail)
  (refine no_implicit_lambda% (cal [0] (rX_c r0 (by omega)) ?_ ?_))
  rotate_left
  ·intro xx H' hh; rcases hh with ⟨_, _, _, _, h', _⟩ | ⟨hN, h', rfl⟩ <;> first | (cases h'; done) | (cases h'; repeat' (first | (refine no_implicit_lambda% (zH ?_)) | (refine no_implicit_lambda% (spl (fun hc => ?_) (fun hc => ?_)) <;> first | exact zG hc | skip) | (refine no_implicit_lambda% (ans ?_)) | (with_reducible first | exact zI | exact zJ)); exact e_pan (H' := []) (rest := _) (.inr ⟨by (rw [hP, hN]; rfl), rfl, rfl⟩) permT (LE0 rfl))
  intro xx H' hh
  rcases hh with ⟨s, r1, hX, ⟨hs16, hr1⟩, h', rfl⟩ | ⟨_, h', _⟩
  rotate_left
  ·cases h'
  cases h'
  first | (refine no_implicit_lambda% (akc ?_)) | (refine no_implicit_lambda% (aec ?_))
  rw [hX, bnd_some] at hP
  repeat' (first | (refine no_implicit_lambda% (zH ?_)) | (refine no_implicit_lambda% (spl (fun hc => ?_) (fun hc => ?_)) <;> first | exact zG hc | skip) | (refine no_implicit_lambda% (ans ?_)) | (with_reducible first | exact zI | exact zJ))
  (refine no_implicit_lambda% (cal [0] (rL_c r1 (by omega)) ?_ ?_))
  rotate_left
  ·intro xx H' hh; rcases hh with ⟨_, _, _, _, h', _⟩ | ⟨hN, h', rfl⟩ <;> first | (cases h'; done) | (cases h'; repeat' (first | (refine no_implicit_lambda% (zH ?_)) | (refine no_implicit_lambda% (spl (fun hc => ?_) (fun hc => ?_)) <;> first | exact zG hc | skip) | (refine no_implicit_lambda% (ans ?_)) | (with_reducible first | exact zI | exact zJ)); exact e_pan (H' := []) (rest := _) (.inr ⟨by (rw [hP, hN]; rfl), rfl, rfl⟩) permT (LE0 rfl))
  intro xx H' hh
  rcases hh with ⟨t, r2, hL, ⟨ht, hr2⟩, h', rfl⟩ | ⟨_, h', _⟩
  rotate_left
  ·cases h'
  cases h'
  first | (refine no_implicit_lambda% (akc ?_)) | (refine no_implicit_lambda% (aec ?_))
  rw [hL, bnd_some] at hP
  repeat' (first | (refine no_implicit_lambda% (zH ?_)) | (refine no_implicit_lambda% (spl (fun hc => ?_) (fun hc => ?_)) <;> first | exact zG hc | skip) | (refine no_implicit_lambda% (ans ?_)) | (with_reducible first | exact zI | exact zJ))
  (refine no_implicit_lambda% (cal [0] (rV_c r2 (by omega)) ?_ ?_))
  rotate_left
  ·intro xx H' hh; rcases hh with ⟨_, _, _, _, h', _⟩ | ⟨hN, h', rfl⟩ <;> first | (cases h'; done) | (cases h'; repeat' (first | (refine no_implicit_lambda% (zH ?_)) | (refine no_implicit_lambda% (spl (fun hc => ?_) (fun hc => ?_)) <;> first | exact zG hc | skip) | (refine no_implicit_lambda% (ans ?_)) | (with_reducible first | exact zI | exact zJ)); exact e_pan (H' := []) (rest := _) (.inr ⟨by (rw [hP, hN]; rfl), rfl, rfl⟩) permT (LE0 rfl))
  intro xx H' hh
  rcases hh with ⟨v, r3, hV, ⟨hv, hr3⟩, h', rfl⟩ | ⟨_, h', _⟩
  rotate_left
  ·cases h'
  cases h'
  first | (refine no_implicit_lambda% (akc ?_)) | (refine no_implicit_lambda% (aec ?_))
  rw [hV, bnd_some] at hP
  repeat' (first | (refine no_implicit_lambda% (zH ?_)) | (refine no_implicit_lambda% (spl (fun hc => ?_) (fun hc => ?_)) <;> first | exact zG hc | skip) | (refine no_implicit_lambda% (ans ?_)) | (with_reducible first | exact zI | exact zJ))
  have hro := right5_c (⟨1, ⟨s.toArray⟩, IntKind.i64.wrap (t : Int), v⟩ : Ch)
  have hfc := fail_c r3
  unfold chR at hP
  repeat' (first | (refine no_implicit_lambda% (zH ?_)) | (refine no_implicit_lambda% (spl (fun hc => ?_) (fun hc => ?_)) <;> first | exact zG hc | skip) | (refine no_implicit_lambda% (ans ?_)) | (with_reducible first | exact zI | exact zJ) | (refine no_implicit_lambda% (cal [] (hro) ?_ ?_)) | fail)
  ·have hb : rightC (⟨1, ⟨s.toArray⟩, IntKind.i64.wrap (t : Int), v⟩ : Ch) ≠ 0 := by simpa using hc
   rw [if_neg hb] at hP
   (refine no_implicit_lambda% (cal [0] (hfc) ?_ ?_))
   ·first | (exact zI) | (exact zJ)
   ·intro xx H' hh
    obtain ⟨h', rfl⟩ := hh
    cases h'
    repeat' (first | (refine no_implicit_lambda% (zH ?_)) | (refine no_implicit_lambda% (spl (fun hc => ?_) (fun hc => ?_)) <;> first | exact zG hc | skip) | (refine no_implicit_lambda% (ans ?_)) | (with_reducible first | exact zI | exact zJ))
    exact e_pan (H' := []) (rest := _) (.inr ⟨hP, rfl, rfl⟩) permT (LE0 rfl)
  ·have hb : rightC (⟨1, ⟨s.toArray⟩, IntKind.i64.wrap (t : Int), v⟩ : Ch) = 0 := by simpa using hc
   rw [if_pos hb] at hP
   refine e_ret_to (H' := rd r3) (rest := [(1, .box (chrow (⟨1, ⟨s.toArray⟩, IntKind.i64.wrap (t : Int), v⟩ : Ch)))]) (Conv.toT (τ := ⟨_, [(1, .box (chrow (⟨1, ⟨s.toArray⟩, IntKind.i64.wrap (t : Int), v⟩ : Ch))), (0, .box [.list (r3.map brow) .free])], _⟩) (.refl _) ?_ (Nat.le_refl _)) rfl (.inl ⟨(⟨1, ⟨s.toArray⟩, IntKind.i64.wrap (t : Int), v⟩ : Ch), r3, hP, ⟨hv, hb, (by omega)⟩, rfl, rfl⟩) permT (LE0 rfl)
   exact wkh
 ·replace hP : pCh l = bnd (pX r0) fun s r1 => bnd (pL r1) fun t r2 => bnd (pV r2) fun v r3 => chR ⟨5, ⟨s.toArray⟩, IntKind.i64.wrap (t : Int), v⟩ r3 := hP
  repeat' (first | (refine no_implicit_lambda% (zH ?_)) | (refine no_implicit_lambda% (spl (fun hc => ?_) (fun hc => ?_)) <;> first | exact zG hc | skip) | (refine no_implicit_lambda% (ans ?_)) | (with_reducible first | exact zI | exact zJ) | (refine no_implicit_lambda% (cal [] (h0) ?_ ?_)) | fail)
  (refine no_implicit_lambda% (cal [0] (rX_c r0 (by omega)) ?_ ?_))
  rotate_left
  ·intro xx H' hh; rcases hh with ⟨_, _, _, _, h', _⟩ | ⟨hN, h', rfl⟩ <;> first | (cases h'; done) | (cases h'; repeat' (first | (refine no_implicit_lambda% (zH ?_)) | (refine no_implicit_lambda% (spl (fun hc => ?_) (fun hc => ?_)) <;> first | exact zG hc | skip) | (refine no_implicit_lambda% (ans ?_)) | (with_reducible first | exact zI | exact zJ)); exact e_pan (H' := []) (rest := _) (.inr ⟨by (rw [hP, hN]; rfl), rfl, rfl⟩) permT (LE0 rfl))
  intro xx H' hh
  rcases hh with ⟨s, r1, hX, ⟨hs16, hr1⟩, h', rfl⟩ | ⟨_, h', _⟩
  rotate_left
  ·cases h'
  cases h'
  first | (refine no_implicit_lambda% (akc ?_)) | (refine no_implicit_lambda% (aec ?_))
  rw [hX, bnd_some] at hP
  repeat' (first | (refine no_implicit_lambda% (zH ?_)) | (refine no_implicit_lambda% (spl (fun hc => ?_) (fun hc => ?_)) <;> first | exact zG hc | skip) | (refine no_implicit_lambda% (ans ?_)) | (with_reducible first | exact zI | exact zJ))
  (refine no_implicit_lambda% (cal [0] (rL_c r1 (by omega)) ?_ ?_))
  rotate_left
  ·intro xx H' hh; rcases hh with ⟨_, _, _, _, h', _⟩ | ⟨hN, h', rfl⟩ <;> first | (cases h'; done) | (cases h'; repeat' (first | (refine no_implicit_lambda% (zH ?_)) | (refine no_implicit_lambda% (spl (fun hc => ?_) (fun hc => ?_)) <;> first | exact zG hc | skip) | (refine no_implicit_lambda% (ans ?_)) | (with_reducible first | exact zI | exact zJ)); exact e_pan (H' := []) (rest := _) (.inr ⟨by (rw [hP, hN]; rfl), rfl, rfl⟩) permT (LE0 rfl))
  intro xx H' hh
  rcases hh with ⟨t, r2, hL, ⟨ht, hr2⟩, h', rfl⟩ | ⟨_, h', _⟩
  rotate_left
  ·cases h'
  cases h'
  first | (refine no_implicit_lambda% (akc ?_)) | (refine no_implicit_lambda% (aec ?_))
  rw [hL, bnd_some] at hP
  repeat' (first | (refine no_implicit_lambda% (zH ?_)) | (refine no_implicit_lambda% (spl (fun hc => ?_) (fun hc => ?_)) <;> first | exact zG hc | skip) | (refine no_implicit_lambda% (ans ?_)) | (with_reducible first | exact zI | exact zJ))
  (refine no_implicit_lambda% (cal [0] (rV_c r2 (by omega)) ?_ ?_))
  rotate_left
  ·intro xx H' hh; rcases hh with ⟨_, _, _, _, h', _⟩ | ⟨hN, h', rfl⟩ <;> first | (cases h'; done) | (cases h'; repeat' (first | (refine no_implicit_lambda% (zH ?_)) | (refine no_implicit_lambda% (spl (fun hc => ?_) (fun hc => ?_)) <;> first | exact zG hc | skip) | (refine no_implicit_lambda% (ans ?_)) | (with_reducible first | exact zI | exact zJ)); exact e_pan (H' := []) (rest := _) (.inr ⟨by (rw [hP, hN]; rfl), rfl, rfl⟩) permT (LE0 rfl))
  intro xx H' hh
  rcases hh with ⟨v, r3, hV, ⟨hv, hr3⟩, h', rfl⟩ | ⟨_, h', _⟩
  rotate_left
  ·cases h'
  cases h'
  first | (refine no_implicit_lambda% (akc ?_)) | (refine no_implicit_lambda% (aec ?_))
  rw [hV, bnd_some] at hP
  repeat' (first | (refine no_implicit_lambda% (zH ?_)) | (refine no_implicit_lambda% (spl (fun hc => ?_) (fun hc => ?_)) <;> first | exact zG hc | skip) | (refine no_implicit_lambda% (ans ?_)) | (with_reducible first | exact zI | exact zJ))
  have hro := right5_c (⟨5, ⟨s.toArray⟩, IntKind.i64.wrap (t : Int), v⟩ : Ch)
  have hfc := fail_c r3
  unfold chR at hP
  repeat' (first | (refine no_implicit_lambda% (zH ?_)) | (refine no_implicit_lambda% (spl (fun hc => ?_) (fun hc => ?_)) <;> first | exact zG hc | skip) | (refine no_implicit_lambda% (ans ?_)) | (with_reducible first | exact zI | exact zJ) | (refine no_implicit_lambda% (cal [] (hro) ?_ ?_)) | fail)
  ·have hb : rightC (⟨5, ⟨s.toArray⟩, IntKind.i64.wrap (t : Int), v⟩ : Ch) ≠ 0 := by simpa using hc
   rw [if_neg hb] at hP
   (refine no_implicit_lambda% (cal [0] (hfc) ?_ ?_))
   ·first | (exact zI) | (exact zJ)
   ·intro xx H' hh
    obtain ⟨h', rfl⟩ := hh
    cases h'
    repeat' (first | (refine no_implicit_lambda% (zH ?_)) | (refine no_implicit_lambda% (spl (fun hc => ?_) (fun hc => ?_)) <;> first | exact zG hc | skip) | (refine no_implicit_lambda% (ans ?_)) | (with_reducible first | exact zI | exact zJ))
    exact e_pan (H' := []) (rest := _) (.inr ⟨hP, rfl, rfl⟩) permT (LE0 rfl)
  ·have hb : rightC (⟨5, ⟨s.toArray⟩, IntKind.i64.wrap (t : Int), v⟩ : Ch) = 0 := by simpa using hc
   rw [if_pos hb] at hP
   refine e_ret_to (H' := rd r3) (rest := [(1, .box (chrow (⟨5, ⟨s.toArray⟩, IntKind.i64.wrap (t : Int), v⟩ : Ch)))]) (Conv.toT (τ := ⟨_, [(1, .box (chrow (⟨5, ⟨s.toArray⟩, IntKind.i64.wrap (t : Int), v⟩ : Ch))), (0, .box [.list (r3.map brow) .free])], _⟩) (.refl _) ?_ (Nat.le_refl _)) rfl (.inl ⟨(⟨5, ⟨s.toArray⟩, IntKind.i64.wrap (t : Int), v⟩ : Ch), r3, hP, ⟨hv, hb, (by omega)⟩, rfl, rfl⟩) permT (LE0 rfl)
   exact wkh
 ·replace hP : pCh l = bnd (pX r0) fun s r1 => bnd (pL r1) fun t r2 => chR ⟨2, ⟨s.toArray⟩, IntKind.i64.wrap (t : Int), ⟨0, [], 0⟩⟩ r2 := hP
  repeat' (first | (refine no_implicit_lambda% (zH ?_)) | (refine no_implicit_lambda% (spl (fun hc => ?_) (fun hc => ?_)) <;> first | exact zG hc | skip) | (refine no_implicit_lambda% (ans ?_)) | (with_reducible first | exact zI | exact zJ) | (refine no_implicit_lambda% (cal [] (h0) ?_ ?_)) | fail)
  (refine no_implicit_lambda% (cal [0] (rX_c r0 (by omega)) ?_ ?_))
  rotate_left
  ·intro xx H' hh; rcases hh with ⟨_, _, _, _, h', _⟩ | ⟨hN, h', rfl⟩ <;> first | (cases h'; done) | (cases h'; repeat' (first | (refine no_implicit_lambda% (zH ?_)) | (refine no_implicit_lambda% (spl (fun hc => ?_) (fun hc => ?_)) <;> first | exact zG hc | skip) | (refine no_implicit_lambda% (ans ?_)) | (with_reducible first | exact zI | exact zJ)); exact e_pan (H' := []) (rest := _) (.inr ⟨by (rw [hP, hN]; rfl), rfl, rfl⟩) permT (LE0 rfl))
  intro xx H' hh
  rcases hh with ⟨s, r1, hX, ⟨hs16, hr1⟩, h', rfl⟩ | ⟨_, h', _⟩
  rotate_left
  ·cases h'
  cases h'
  first | (refine no_implicit_lambda% (akc ?_)) | (refine no_implicit_lambda% (aec ?_))
  rw [hX, bnd_some] at hP
  repeat' (first | (refine no_implicit_lambda% (zH ?_)) | (refine no_implicit_lambda% (spl (fun hc => ?_) (fun hc => ?_)) <;> first | exact zG hc | skip) | (refine no_implicit_lambda% (ans ?_)) | (with_reducible first | exact zI | exact zJ))
  (refine no_implicit_lambda% (cal [0] (rL_c r1 (by omega)) ?_ ?_))
  rotate_left
  ·intro xx H' hh; rcases hh with ⟨_, _, _, _, h', _⟩ | ⟨hN, h', rfl⟩ <;> first | (cases h'; done) | (cases h'; repeat' (first | (refine no_implicit_lambda% (zH ?_)) | (refine no_implicit_lambda% (spl (fun hc => ?_) (fun hc => ?_)) <;> first | exact zG hc | skip) | (refine no_implicit_lambda% (ans ?_)) | (with_reducible first | exact zI | exact zJ)); exact e_pan (H' := []) (rest := _) (.inr ⟨by (rw [hP, hN]; rfl), rfl, rfl⟩) permT (LE0 rfl))
  intro xx H' hh
  rcases hh with ⟨t, r2, hL, ⟨ht, hr2⟩, h', rfl⟩ | ⟨_, h', _⟩
  rotate_left
  ·cases h'
  cases h'
  first | (refine no_implicit_lambda% (akc ?_)) | (refine no_implicit_lambda% (aec ?_))
  rw [hL, bnd_some] at hP
  repeat' (first | (refine no_implicit_lambda% (zH ?_)) | (refine no_implicit_lambda% (spl (fun hc => ?_) (fun hc => ?_)) <;> first | exact zG hc | skip) | (refine no_implicit_lambda% (ans ?_)) | (with_reducible first | exact zI | exact zJ))
  have hro := right5_c (⟨2, ⟨s.toArray⟩, IntKind.i64.wrap (t : Int), ⟨0, [], 0⟩⟩ : Ch)
  have hfc := fail_c r2
  unfold chR at hP
  repeat' (first | (refine no_implicit_lambda% (zH ?_)) | (refine no_implicit_lambda% (spl (fun hc => ?_) (fun hc => ?_)) <;> first | exact zG hc | skip) | (refine no_implicit_lambda% (ans ?_)) | (with_reducible first | exact zI | exact zJ))
  (refine no_implicit_lambda% (calw [] (hro) ?_ ?_))
  rotate_left
  ·first | (exact zI) | (exact zJ)
  refine no_implicit_lambda% (ret1 ?_); first | (refine no_implicit_lambda% (akc ?_)) | (refine no_implicit_lambda% (aec ?_))
  repeat' (first | (refine no_implicit_lambda% (zH ?_)) | (refine no_implicit_lambda% (spl (fun hc => ?_) (fun hc => ?_)) <;> first | exact zG hc | skip) | (refine no_implicit_lambda% (ans ?_)) | (with_reducible first | exact zI | exact zJ))
  ·have hb : rightC (⟨2, ⟨s.toArray⟩, IntKind.i64.wrap (t : Int), ⟨0, [], 0⟩⟩ : Ch) ≠ 0 := by simpa using hc
   rw [if_neg hb] at hP
   (refine no_implicit_lambda% (cal [0] (hfc) ?_ ?_))
   ·first | (exact zI) | (exact zJ)
   ·intro xx H' hh
    obtain ⟨h', rfl⟩ := hh
    cases h'
    repeat' (first | (refine no_implicit_lambda% (zH ?_)) | (refine no_implicit_lambda% (spl (fun hc => ?_) (fun hc => ?_)) <;> first | exact zG hc | skip) | (refine no_implicit_lambda% (ans ?_)) | (with_reducible first | exact zI | exact zJ))
    exact e_pan (H' := []) (rest := _) (.inr ⟨hP, rfl, rfl⟩) permT (LE0 rfl)
  ·have hb : rightC (⟨2, ⟨s.toArray⟩, IntKind.i64.wrap (t : Int), ⟨0, [], 0⟩⟩ : Ch) = 0 := by simpa using hc
   rw [if_pos hb] at hP
   refine e_ret_to (H' := rd r2) (rest := [(1, .box (chrow (⟨2, ⟨s.toArray⟩, IntKind.i64.wrap (t : Int), ⟨0, [], 0⟩⟩ : Ch)))]) (Conv.toT (τ := ⟨_, [(1, .box (chrow (⟨2, ⟨s.toArray⟩, IntKind.i64.wrap (t : Int), ⟨0, [], 0⟩⟩ : Ch))), (0, .box [.list (r2.map brow) .free])], _⟩) (.refl _) ?_ (Nat.le_refl _)) rfl (.inl ⟨(⟨2, ⟨s.toArray⟩, IntKind.i64.wrap (t : Int), ⟨0, [], 0⟩⟩ : Ch), r2, hP, ⟨⟨Nat.zero_le _, (by show (0 : Nat) < 18446744073709551616; decide)⟩, hb, (by omega)⟩, rfl, rfl⟩) permT (LE0 rfl)
   exact wkh
 ·replace hP : pCh l = bnd (pX r0) fun s r1 => chR ⟨3, ⟨s.toArray⟩, 0, ⟨0, [], 0⟩⟩ r1 := hP
  repeat' (first | (refine no_implicit_lambda% (zH ?_)) | (refine no_implicit_lambda% (spl (fun hc => ?_) (fun hc => ?_)) <;> first | exact zG hc | skip) | (refine no_implicit_lambda% (ans ?_)) | (with_reducible first | exact zI | exact zJ) | (refine no_implicit_lambda% (cal [] (h0) ?_ ?_)) | fail)
  (refine no_implicit_lambda% (cal [0] (rX_c r0 (by omega)) ?_ ?_))
  rotate_left
  ·intro xx H' hh; rcases hh with ⟨_, _, _, _, h', _⟩ | ⟨hN, h', rfl⟩ <;> first | (cases h'; done) | (cases h'; repeat' (first | (refine no_implicit_lambda% (zH ?_)) | (refine no_implicit_lambda% (spl (fun hc => ?_) (fun hc => ?_)) <;> first | exact zG hc | skip) | (refine no_implicit_lambda% (ans ?_)) | (with_reducible first | exact zI | exact zJ)); exact e_pan (H' := []) (rest := _) (.inr ⟨by (rw [hP, hN]; rfl), rfl, rfl⟩) permT (LE0 rfl))
  intro xx H' hh
  rcases hh with ⟨s, r1, hX, ⟨hs16, hr1⟩, h', rfl⟩ | ⟨_, h', _⟩
  rotate_left
  ·cases h'
  cases h'
  first | (refine no_implicit_lambda% (akc ?_)) | (refine no_implicit_lambda% (aec ?_))
  rw [hX, bnd_some] at hP
  repeat' (first | (refine no_implicit_lambda% (zH ?_)) | (refine no_implicit_lambda% (spl (fun hc => ?_) (fun hc => ?_)) <;> first | exact zG hc | skip) | (refine no_implicit_lambda% (ans ?_)) | (with_reducible first | exact zI | exact zJ))
  have hro := right5_c (⟨3, ⟨s.toArray⟩, 0, ⟨0, [], 0⟩⟩ : Ch)
  have hfc := fail_c r1
  unfold chR at hP
  repeat' (first | (refine no_implicit_lambda% (zH ?_)) | (refine no_implicit_lambda% (spl (fun hc => ?_) (fun hc => ?_)) <;> first | exact zG hc | skip) | (refine no_implicit_lambda% (ans ?_)) | (with_reducible first | exact zI | exact zJ))
  (refine no_implicit_lambda% (calw [] (hro) ?_ ?_))
  rotate_left
  ·first | (exact zI) | (exact zJ)
  refine no_implicit_lambda% (ret1 ?_); first | (refine no_implicit_lambda% (akc ?_)) | (refine no_implicit_lambda% (aec ?_))
  repeat' (first | (refine no_implicit_lambda% (zH ?_)) | (refine no_implicit_lambda% (spl (fun hc => ?_) (fun hc => ?_)) <;> first | exact zG hc | skip) | (refine no_implicit_lambda% (ans ?_)) | (with_reducible first | exact zI | exact zJ))
  ·have hb : rightC (⟨3, ⟨s.toArray⟩, 0, ⟨0, [], 0⟩⟩ : Ch) ≠ 0 := by simpa using hc
   rw [if_neg hb] at hP
   (refine no_implicit_lambda% (cal [0] (hfc) ?_ ?_))
   ·first | (exact zI) | (exact zJ)
   ·intro xx H' hh
    obtain ⟨h', rfl⟩ := hh
    cases h'
    repeat' (first | (refine no_implicit_lambda% (zH ?_)) | (refine no_implicit_lambda% (spl (fun hc => ?_) (fun hc => ?_)) <;> first | exact zG hc | skip) | (refine no_implicit_lambda% (ans ?_)) | (with_reducible first | exact zI | exact zJ))
    exact e_pan (H' := []) (rest := _) (.inr ⟨hP, rfl, rfl⟩) permT (LE0 rfl)
  ·have hb : rightC (⟨3, ⟨s.toArray⟩, 0, ⟨0, [], 0⟩⟩ : Ch) = 0 := by simpa using hc
   rw [if_pos hb] at hP
   refine e_ret_to (H' := rd r1) (rest := [(1, .box (chrow (⟨3, ⟨s.toArray⟩, 0, ⟨0, [], 0⟩⟩ : Ch)))]) (Conv.toT (τ := ⟨_, [(1, .box (chrow (⟨3, ⟨s.toArray⟩, 0, ⟨0, [], 0⟩⟩ : Ch))), (0, .box [.list (r1.map brow) .free])], _⟩) (.refl _) ?_ (Nat.le_refl _)) rfl (.inl ⟨(⟨3, ⟨s.toArray⟩, 0, ⟨0, [], 0⟩⟩ : Ch), r1, hP, ⟨⟨Nat.zero_le _, (by show (0 : Nat) < 18446744073709551616; decide)⟩, hb, (by omega)⟩, rfl, rfl⟩) permT (LE0 rfl)
   exact wkh
 ·replace hP : pCh l = chR ⟨4, ⟨#[]⟩, 0, ⟨0, [], 0⟩⟩ r0 := hP
  repeat' (first | (refine no_implicit_lambda% (zH ?_)) | (refine no_implicit_lambda% (spl (fun hc => ?_) (fun hc => ?_)) <;> first | exact zG hc | skip) | (refine no_implicit_lambda% (ans ?_)) | (with_reducible first | exact zI | exact zJ) | (refine no_implicit_lambda% (cal [] (h0) ?_ ?_)) | fail)
  have hro := right5_c (⟨4, ⟨#[]⟩, 0, ⟨0, [], 0⟩⟩ : Ch)
  have hb : rightC (⟨4, ⟨#[]⟩, 0, ⟨0, [], 0⟩⟩ : Ch) = 0 := rfl
  unfold chR at hP
  rw [if_pos hb] at hP
  rw [hb] at hro
  repeat' (first | (refine no_implicit_lambda% (zH ?_)) | (refine no_implicit_lambda% (spl (fun hc => ?_) (fun hc => ?_)) <;> first | exact zG hc | skip) | (refine no_implicit_lambda% (ans ?_)) | (with_reducible first | exact zI | exact zJ))
  (refine no_implicit_lambda% (calw [] (hro) ?_ ?_))
  rotate_left
  ·first | (exact zI) | (exact zJ)
  refine no_implicit_lambda% (ret1 ?_); first | (refine no_implicit_lambda% (akc ?_)) | (refine no_implicit_lambda% (aec ?_))
  repeat' (first | (refine no_implicit_lambda% (zH ?_)) | (refine no_implicit_lambda% (spl (fun hc => ?_) (fun hc => ?_)) <;> first | exact zG hc | skip) | (refine no_implicit_lambda% (ans ?_)) | (with_reducible first | exact zI | exact zJ))
  refine e_ret_to (H' := rd r0) (rest := [(1, .box (chrow (⟨4, ⟨#[]⟩, 0, ⟨0, [], 0⟩⟩ : Ch)))]) (Conv.toT (τ := ⟨_, [(1, .box (chrow (⟨4, ⟨#[]⟩, 0, ⟨0, [], 0⟩⟩ : Ch))), (0, .box [.list (r0.map brow) .free])], _⟩) (.refl _) ?_ (Nat.le_refl _)) rfl (.inl ⟨(⟨4, ⟨#[]⟩, 0, ⟨0, [], 0⟩⟩ : Ch), r0, hP, ⟨⟨Nat.zero_le _, (by show (0 : Nat) < 18446744073709551616; decide)⟩, hb, hr0⟩, rfl, rfl⟩) permT (LE0 rfl)
  exact wkh
 ·replace hP : pCh l = none := by rw [hP]; unfold chK; rw [if_neg (by omega), if_neg (by omega), if_neg (by omega), if_neg (by omega)]
  have ha : askC (N : Int) = (false, false, false, false) := by unfold askC; rw [if_neg (by omega), if_neg (by omega), if_neg (by omega), if_neg (by omega)]
  rw [ha] at h0
  have hro := right5_c (⟨(N : Int), ⟨#[]⟩, 0, ⟨0, [], 0⟩⟩ : Ch)
  have hne : rightC (⟨(N : Int), ⟨#[]⟩, 0, ⟨0, [], 0⟩⟩ : Ch) = 24 := by unfold rightC; rw [if_pos (by show (N : Int) < 1 ∨ 5 < (N : Int); omega)]
  rw [hne] at hro
  repeat' (first | (refine no_implicit_lambda% (zH ?_)) | (refine no_implicit_lambda% (spl (fun hc => ?_) (fun hc => ?_)) <;> first | exact zG hc | skip) | (refine no_implicit_lambda% (ans ?_)) | (with_reducible first | exact zI | exact zJ) | (refine no_implicit_lambda% (cal [] (h0) ?_ ?_)) | fail)
  (refine no_implicit_lambda% (calw [] (hro) ?_ ?_))
  rotate_left
  ·first | (exact zI) | (exact zJ)
  refine no_implicit_lambda% (ret1 ?_); first | (refine no_implicit_lambda% (akc ?_)) | (refine no_implicit_lambda% (aec ?_))
  repeat' (first | (refine no_implicit_lambda% (zH ?_)) | (refine no_implicit_lambda% (spl (fun hc => ?_) (fun hc => ?_)) <;> first | exact zG hc | skip) | (refine no_implicit_lambda% (ans ?_)) | (with_reducible first | exact zI | exact zJ))
  (refine no_implicit_lambda% (cal [0] (fail_c r0) ?_ ?_))
  ·first | (exact zI) | (exact zJ)
  ·intro xx H' hh
   obtain ⟨h', rfl⟩ := hh
   cases h'
   repeat' (first | (refine no_implicit_lambda% (zH ?_)) | (refine no_implicit_lambda% (spl (fun hc => ?_) (fun hc => ?_)) <;> first | exact zG hc | skip) | (refine no_implicit_lambda% (ans ?_)) | (with_reducible first | exact zI | exact zJ))
   exact e_pan (H' := []) (rest := _) (.inr ⟨hP, rfl, rfl⟩) permT (LE0 rfl)
def cdR (d : Cd) (r : List UInt8) : Option (Cd × List UInt8) := if nmB d.c then some (d, r) else none
noncomputable def cdK (k : Nat) (r : List UInt8) : Option (Cd × List UInt8) :=
 if k = 0 then some (⟨false, false, ⟨#[]⟩, ⟨0, [], 0⟩⟩, r) else
 if k = 1 then bnd (pX r) fun s r1 => cdR ⟨true, false, ⟨s.toArray⟩, ⟨0, [], 0⟩⟩ r1 else
 if k = 2 then bnd (pX r) fun s r1 => bnd (pV r1) fun v r2 => cdR ⟨true, true, ⟨s.toArray⟩, v⟩ r2 else none
noncomputable def pCd (l : List UInt8) : Option (Cd × List UInt8) := bnd (pB l) cdK
def CdB (d : Cd) : Prop := d.v.b.length ≤ 16 ∧ d.v.n < 18446744073709551616
set_option maxHeartbeats 6400000 in
theorem takecd_c (l : List UInt8) (hl : l.length < 281474976710656) : ACalls Try.prog 112 1 1000 [.ptr 0 0] (rd l) (fun out H' => (∃ x r, pCd l = some (x, r) ∧ (CdB x ∧ r.length ≤ l.length) ∧ out = .ret (.agg (cdrow x)) ∧ H' = rd r) ∨ (pCd l = none ∧ out = gone ∧ H' = [])) := by
 refine no_implicit_lambda% (acalls_of tok dok (f := 112) ⟨Try.func112, rfl, by kernel_rfl⟩ ?_); refine no_implicit_lambda% (c_start (fun _ h => h) ?_)
 repeat' (first | (refine no_implicit_lambda% (zH ?_)) | (refine no_implicit_lambda% (spl (fun hc => ?_) (fun hc => ?_)) <;> first | exact zG hc | skip) | (refine no_implicit_lambda% (ans ?_)) | (with_reducible first | exact zI | exact zJ))
 (refine no_implicit_lambda% (cal [0] (rB_c l (by omega)) ?_ ?_))
 rotate_left
 ·intro xx H' hh; rcases hh with ⟨_, _, _, _, h', _⟩ | ⟨hN, h', rfl⟩ <;> first | (cases h'; done) | (cases h'; repeat' (first | (refine no_implicit_lambda% (zH ?_)) | (refine no_implicit_lambda% (spl (fun hc => ?_) (fun hc => ?_)) <;> first | exact zG hc | skip) | (refine no_implicit_lambda% (ans ?_)) | (with_reducible first | exact zI | exact zJ)); exact e_pan (H' := []) (rest := _) (.inr ⟨by (unfold pCd; rw [hN]; rfl), rfl, rfl⟩) permT (LE0 rfl))
 intro xx H' hh
 rcases hh with ⟨N, r0, hB, ⟨hN, hr0⟩, h', rfl⟩ | ⟨_, h', _⟩
 rotate_left
 ·cases h'
 cases h'
 first | (refine no_implicit_lambda% (akc ?_)) | (refine no_implicit_lambda% (aec ?_))
 have hP : pCd l = cdK N r0 := by unfold pCd; rw [hB]; rfl
 have hN5 : N = 0 ∨ N = 1 ∨ N = 2 ∨ 2 < N := by omega
 rcases hN5 with rfl | rfl | rfl | hno
 ·replace hP : pCd l = some ((⟨false, false, ⟨#[]⟩, ⟨0, [], 0⟩⟩ : Cd), r0) := hP
  repeat' (first | (refine no_implicit_lambda% (zH ?_)) | (refine no_implicit_lambda% (spl (fun hc => ?_) (fun hc => ?_)) <;> first | exact zG hc | skip) | (refine no_implicit_lambda% (ans ?_)) | (with_reducible first | exact zI | exact zJ))
  refine e_ret_to (H' := rd r0) (rest := [(1, .box (cdrow (⟨false, false, ⟨#[]⟩, ⟨0, [], 0⟩⟩ : Cd)))]) (Conv.toT (τ := ⟨_, [(1, .box (cdrow (⟨false, false, ⟨#[]⟩, ⟨0, [], 0⟩⟩ : Cd))), (0, .box [.list (r0.map brow) .free])], _⟩) (.refl _) ?_ (Nat.le_refl _)) rfl (.inl ⟨(⟨false, false, ⟨#[]⟩, ⟨0, [], 0⟩⟩ : Cd), r0, hP, ⟨⟨Nat.zero_le _, (by show (0 : Nat) < 18446744073709551616; decide)⟩, hr0⟩, rfl, rfl⟩) permT (LE0 rfl)
  exact wkh
 ·replace hP : pCd l = bnd (pX r0) fun s r1 => cdR ⟨true, false, ⟨s.toArray⟩, ⟨0, [], 0⟩⟩ r1 := hP
  repeat' (first | (refine no_implicit_lambda% (zH ?_)) | (refine no_implicit_lambda% (spl (fun hc => ?_) (fun hc => ?_)) <;> first | exact zG hc | skip) | (refine no_implicit_lambda% (ans ?_)) | (with_reducible first | exact zI | exact zJ))
  (refine no_implicit_lambda% (cal [0] (rX_c r0 (by omega)) ?_ ?_))
  rotate_left
  ·intro xx H' hh; rcases hh with ⟨_, _, _, _, h', _⟩ | ⟨hN, h', rfl⟩ <;> first | (cases h'; done) | (cases h'; repeat' (first | (refine no_implicit_lambda% (zH ?_)) | (refine no_implicit_lambda% (spl (fun hc => ?_) (fun hc => ?_)) <;> first | exact zG hc | skip) | (refine no_implicit_lambda% (ans ?_)) | (with_reducible first | exact zI | exact zJ)); exact e_pan (H' := []) (rest := _) (.inr ⟨by (rw [hP, hN]; rfl), rfl, rfl⟩) permT (LE0 rfl))
  intro xx H' hh
  rcases hh with ⟨s, r1, hX, ⟨hs16, hr1⟩, h', rfl⟩ | ⟨_, h', _⟩
  rotate_left
  ·cases h'
  cases h'
  first | (refine no_implicit_lambda% (akc ?_)) | (refine no_implicit_lambda% (aec ?_))
  rw [hX, bnd_some] at hP
  repeat' (first | (refine no_implicit_lambda% (zH ?_)) | (refine no_implicit_lambda% (spl (fun hc => ?_) (fun hc => ?_)) <;> first | exact zG hc | skip) | (refine no_implicit_lambda% (ans ?_)) | (with_reducible first | exact zI | exact zJ))
  have hro := name_c (⟨s.toArray⟩ : ByteArray)
  have hfc := fail_c r1
  unfold cdR at hP
  dsimp only at hP
  repeat' (first | (refine no_implicit_lambda% (zH ?_)) | (refine no_implicit_lambda% (spl (fun hc => ?_) (fun hc => ?_)) <;> first | exact zG hc | skip) | (refine no_implicit_lambda% (ans ?_)) | (with_reducible first | exact zI | exact zJ) | (refine no_implicit_lambda% (cal [] (hro) ?_ ?_)) | fail)
  ·have hb : nmB (⟨s.toArray⟩ : ByteArray) = false := by simpa using hc
   rw [hb, if_neg (by simp)] at hP
   (refine no_implicit_lambda% (cal [0] (hfc) ?_ ?_))
   ·first | (exact zI) | (exact zJ)
   ·intro xx H' hh
    obtain ⟨h', rfl⟩ := hh
    cases h'
    repeat' (first | (refine no_implicit_lambda% (zH ?_)) | (refine no_implicit_lambda% (spl (fun hc => ?_) (fun hc => ?_)) <;> first | exact zG hc | skip) | (refine no_implicit_lambda% (ans ?_)) | (with_reducible first | exact zI | exact zJ))
    exact e_pan (H' := []) (rest := _) (.inr ⟨hP, rfl, rfl⟩) permT (LE0 rfl)
  ·have hb : nmB (⟨s.toArray⟩ : ByteArray) = true := by simpa using hc
   rw [hb, if_pos rfl] at hP
   refine e_ret_to (H' := rd r1) (rest := [(1, .box (cdrow (⟨true, false, ⟨s.toArray⟩, ⟨0, [], 0⟩⟩ : Cd)))]) (Conv.toT (τ := ⟨_, [(1, .box (cdrow (⟨true, false, ⟨s.toArray⟩, ⟨0, [], 0⟩⟩ : Cd))), (0, .box [.list (r1.map brow) .free])], _⟩) (.refl _) ?_ (Nat.le_refl _)) rfl (.inl ⟨(⟨true, false, ⟨s.toArray⟩, ⟨0, [], 0⟩⟩ : Cd), r1, hP, ⟨⟨Nat.zero_le _, (by show (0 : Nat) < 18446744073709551616; decide)⟩, by omega⟩, rfl, rfl⟩) permT (LE0 rfl)
   exact wkh
 ·replace hP : pCd l = bnd (pX r0) fun s r1 => bnd (pV r1) fun v r2 => cdR ⟨true, true, ⟨s.toArray⟩, v⟩ r2 := hP
  repeat' (first | (refine no_implicit_lambda% (zH ?_)) | (refine no_implicit_lambda% (spl (fun hc => ?_) (fun hc => ?_)) <;> first | exact zG hc | skip) | (refine no_implicit_lambda% (ans ?_)) | (with_reducible first | exact zI | exact zJ))
  (refine no_implicit_lambda% (cal [0] (rX_c r0 (by omega)) ?_ ?_))
  rotate_left
  ·intro xx H' hh; rcases hh with ⟨_, _, _, _, h', _⟩ | ⟨hN, h', rfl⟩ <;> first | (cases h'; done) | (cases h'; repeat' (first | (refine no_implicit_lambda% (zH ?_)) | (refine no_implicit_lambda% (spl (fun hc => ?_) (fun hc => ?_)) <;> first | exact zG hc | skip) | (refine no_implicit_lambda% (ans ?_)) | (with_reducible first | exact zI | exact zJ)); exact e_pan (H' := []) (rest := _) (.inr ⟨by (rw [hP, hN]; rfl), rfl, rfl⟩) permT (LE0 rfl))
  intro xx H' hh
  rcases hh with ⟨s, r1, hX, ⟨hs16, hr1⟩, h', rfl⟩ | ⟨_, h', _⟩
  rotate_left
  ·cases h'
  cases h'
  first | (refine no_implicit_lambda% (akc ?_)) | (refine no_implicit_lambda% (aec ?_))
  rw [hX, bnd_some] at hP
  repeat' (first | (refine no_implicit_lambda% (zH ?_)) | (refine no_implicit_lambda% (spl (fun hc => ?_) (fun hc => ?_)) <;> first | exact zG hc | skip) | (refine no_implicit_lambda% (ans ?_)) | (with_reducible first | exact zI | exact zJ))
  (refine no_implicit_lambda% (cal [0] (rV_c r1 (by omega)) ?_ ?_))
  rotate_left
  ·intro xx H' hh; rcases hh with ⟨_, _, _, _, h', _⟩ | ⟨hN, h', rfl⟩ <;> first | (cases h'; done) | (cases h'; repeat' (first | (refine no_implicit_lambda% (zH ?_)) | (refine no_implicit_lambda% (spl (fun hc => ?_) (fun hc => ?_)) <;> first | exact zG hc | skip) | (refine no_implicit_lambda% (ans ?_)) | (with_reducible first | exact zI | exact zJ)); exact e_pan (H' := []) (rest := _) (.inr ⟨by (rw [hP, hN]; rfl), rfl, rfl⟩) permT (LE0 rfl))
  intro xx H' hh
  rcases hh with ⟨v, r3, hV, ⟨hv, hr3⟩, h', rfl⟩ | ⟨_, h', _⟩
  rotate_left
  ·cases h'
  cases h'
  first | (refine no_implicit_lambda% (akc ?_)) | (refine no_implicit_lambda% (aec ?_))
  rw [hV, bnd_some] at hP
  repeat' (first | (refine no_implicit_lambda% (zH ?_)) | (refine no_implicit_lambda% (spl (fun hc => ?_) (fun hc => ?_)) <;> first | exact zG hc | skip) | (refine no_implicit_lambda% (ans ?_)) | (with_reducible first | exact zI | exact zJ))
  have hro := name_c (⟨s.toArray⟩ : ByteArray)
  have hfc := fail_c r3
  unfold cdR at hP
  dsimp only at hP
  repeat' (first | (refine no_implicit_lambda% (zH ?_)) | (refine no_implicit_lambda% (spl (fun hc => ?_) (fun hc => ?_)) <;> first | exact zG hc | skip) | (refine no_implicit_lambda% (ans ?_)) | (with_reducible first | exact zI | exact zJ) | (refine no_implicit_lambda% (cal [] (hro) ?_ ?_)) | fail)
  ·have hb : nmB (⟨s.toArray⟩ : ByteArray) = false := by simpa using hc
   rw [hb, if_neg (by simp)] at hP
   (refine no_implicit_lambda% (cal [0] (hfc) ?_ ?_))
   ·first | (exact zI) | (exact zJ)
   ·intro xx H' hh
    obtain ⟨h', rfl⟩ := hh
    cases h'
    repeat' (first | (refine no_implicit_lambda% (zH ?_)) | (refine no_implicit_lambda% (spl (fun hc => ?_) (fun hc => ?_)) <;> first | exact zG hc | skip) | (refine no_implicit_lambda% (ans ?_)) | (with_reducible first | exact zI | exact zJ))
    exact e_pan (H' := []) (rest := _) (.inr ⟨hP, rfl, rfl⟩) permT (LE0 rfl)
  ·have hb : nmB (⟨s.toArray⟩ : ByteArray) = true := by simpa using hc
   rw [hb, if_pos rfl] at hP
   refine e_ret_to (H' := rd r3) (rest := [(1, .box (cdrow (⟨true, true, ⟨s.toArray⟩, v⟩ : Cd)))]) (Conv.toT (τ := ⟨_, [(1, .box (cdrow (⟨true, true, ⟨s.toArray⟩, v⟩ : Cd))), (0, .box [.list (r3.map brow) .free])], _⟩) (.refl _) ?_ (Nat.le_refl _)) rfl (.inl ⟨(⟨true, true, ⟨s.toArray⟩, v⟩ : Cd), r3, hP, ⟨hv, by omega⟩, rfl, rfl⟩) permT (LE0 rfl)
   exact wkh
 ·replace hP : pCd l = none := by rw [hP]; unfold cdK; rw [if_neg (by omega), if_neg (by omega), if_neg (by omega)]
  repeat' (first | (refine no_implicit_lambda% (zH ?_)) | (refine no_implicit_lambda% (spl (fun hc => ?_) (fun hc => ?_)) <;> first | exact zG hc | skip) | (refine no_implicit_lambda% (ans ?_)) | (with_reducible first | exact zI | exact zJ))
  all_goals try (exfalso; simp at hc; omega)
  (refine no_implicit_lambda% (cal [0] (fail_c r0) ?_ ?_))
  ·first | (exact zI) | (exact zJ)
  ·intro xx H' hh
   obtain ⟨h', rfl⟩ := hh
   cases h'
   repeat' (first | (refine no_implicit_lambda% (zH ?_)) | (refine no_implicit_lambda% (spl (fun hc => ?_) (fun hc => ?_)) <;> first | exact zG hc | skip) | (refine no_implicit_lambda% (ans ?_)) | (with_reducible first | exact zI | exact zJ))
   exact e_pan (H' := []) (rest := _) (.inr ⟨hP, rfl, rfl⟩) permT (LE0 rfl)
end Go.Proofs.Ytncffhgoopdfgaa
namespace Go.Proofs.Ytncffhgoopdfgaa
open Go.Am
set_option maxRecDepth 100000
def zCd : Cd := ⟨false, false, ⟨#[]⟩, ⟨0, [], 0⟩⟩
end Go.Proofs.Ytncffhgoopdfgaa
namespace Go.Proofs.Ytncffhgoopdfgaa
open Go.Am
set_option maxRecDepth 100000
theorem cwx5 {l : List Cw} {i : Nat} {t : Cw} (h : l[i]? = some t) : 0 ≤ (i : Int) ∧ (l.map cwrow)[(i : Int).toNat]? = some (cwrow t) ∧ (cwrow t).length = 7 := ⟨Int.natCast_nonneg _, by rw [Int.toNat_natCast, List.getElem?_map, h]; rfl, rfl⟩
theorem chOk6 (l : List Ch) : ∀ row ∈ l.map chrow, row.length = 6 := fun row h => by obtain ⟨_, _, rfl⟩ := List.mem_map.1 h; rfl
def chsSt (l : List Cw) (k : Nat) (xs : List Ch) (i : Nat) : ASt := ⟨([.list (l.map cwrow) .free, .v (.int .i64 k), .dead, .dead, .dead, .list (xs.map chrow) (.tok 0), .v (.int .i64 i)] ++ List.replicate 20 .dead), [(0, .tok 6 xs.length)], 1⟩
set_option maxHeartbeats 3200000 in
theorem changes_c (l : List Cw) (k : Nat) (hk : k ≤ 20) (hl : ∀ a ∈ l, CwOk a) (h : l.length ≤ 9223372036854775807) : ACalls Try.prog 19 0 9000 [.list (l.map cwrow) .free, .v (.int .i64 k)] [] (fun out H' => ∃ xs : List Ch, (xs.length ≤ k ∧ ∀ x ∈ xs, ChOk x) ∧ out = .ret (.list (xs.map chrow) .free) ∧ H' = []) := by
 refine no_implicit_lambda% (acalls_of tok dok (f := 19) ⟨Try.func19, rfl, by kernel_rfl⟩ ?_); refine no_implicit_lambda% (c_start (fun _ h => h) ?_)
 repeat' (first | (refine no_implicit_lambda% (zH ?_)) | (refine no_implicit_lambda% (spl (fun hc => ?_) (fun hc => ?_)) <;> first | exact zG hc | skip) | (refine no_implicit_lambda% (ans ?_)) | (with_reducible first | exact zI | exact zJ))
 refine c_loop2 (chsSt l k) (fun xs i => i ≤ l.length ∧ i ≤ k ∧ xs.length = i ∧ ∀ x ∈ xs, ChOk x) (fun _ i => l.length - i) [] 0 ⟨Nat.zero_le _, Nat.zero_le _, rfl, fun x hx => by cases hx⟩ ((Conv.tokSlot (j := 5) (sz := 6) (rows := []) rfl (by simp)).trans ?_) ?_
 ·(refine no_implicit_lambda% (Conv.toT ?_ ?_ (LE0 rfl))); (focus ((unfold chsSt); (try dsimp only); exact wkl)); (focus ((unfold chsSt); (try dsimp only); exact wkh))
 ·rintro xs i ⟨i1, i2, i3, hok⟩
  have r1 := chOk6 xs
  have b1 : (xs.map chrow).length ≤ 20 := by rw [List.length_map]; omega
  have b2 : xs.length ≤ 20 := by omega
  refine c_turn (n' := 1) (fun _ h => h) (fun _ h => h) rfl ?_
  rcases hx : l[i]? with _ | a
  ·have hi : i = l.length := by have := List.getElem?_eq_none_iff.1 hx; omega
   repeat' (first | (refine no_implicit_lambda% (zH ?_)) | (refine no_implicit_lambda% (spl (fun hc => ?_) (fun hc => ?_)) <;> first | exact zG hc | skip) | (refine no_implicit_lambda% (ans ?_)) | (with_reducible first | exact zI | exact zJ))
   exact e_ret_to (H' := []) (rest := _) (.freeSlot 4 rfl) rfl ⟨xs, ⟨by omega, hok⟩, rfl, rfl⟩ (.refl _) (LE0 rfl)
  ·have hi : i < l.length := (List.getElem?_eq_some_iff.1 hx).1
   have ha := hl a (List.mem_of_getElem? hx)
   have hix := cwx5 hx
   repeat' (first | (refine no_implicit_lambda% (zH ?_)) | (refine no_implicit_lambda% (spl (fun hc => ?_) (fun hc => ?_)) <;> first | exact zG hc | skip) | (refine no_implicit_lambda% (ans ?_)) | (with_reducible first | exact zI | exact zJ))
   ·(refine no_implicit_lambda% (cal [] (chmade_c a ha) ?_ ?_))
    ·intro xx H' hh
     obtain ⟨x, hxo, h', rfl⟩ := hh
     cases h'
     first | (refine no_implicit_lambda% (akc ?_)) | (refine no_implicit_lambda% (aec ?_))
     repeat' (first | (refine no_implicit_lambda% (zH ?_)) | (refine no_implicit_lambda% (spl (fun hc => ?_) (fun hc => ?_)) <;> first | exact zG hc | skip) | (refine no_implicit_lambda% (ans ?_)) | (with_reducible first | exact zI | exact zJ))
     have hik : i + 1 ≤ k := by
      have h9 := of_decide_eq_true (show decide ((i : Int) < (k : Int)) = true by assumption)
      omega
     (refine no_implicit_lambda% (k_loopLT (((xs ++ [x], i + 1) : List Ch × Nat)) 0 [0] (by
      show i + 1 ≤ l.length ∧ i + 1 ≤ k ∧ (xs ++ [x]).length = i + 1 ∧ ∀ y ∈ xs ++ [x], ChOk y
      refine ⟨hi, hik, by rw [List.length_append, i3]; rfl, fun y hy => ?_⟩
      rcases List.mem_append.1 hy with hy | hy
      ·exact hok y hy
      ·rw [List.mem_singleton.1 hy]; exact hxo) (by first | omega | (simp; done) | (simp; omega)) (LE0 rfl) (fun _ h => h) (fun _ h => h) ?_ ?_)); (focus ((try dsimp only); exact wkl)); (focus ((try dsimp only); exact wkh))
    ·intro xx H' hh
     obtain ⟨_, _, h', _⟩ := hh
     cases h'
   ·exact e_ret_to (H' := []) (rest := _) (.freeSlot 4 rfl) rfl ⟨xs, ⟨by omega, hok⟩, rfl, rfl⟩ (.refl _) (LE0 rfl)
end Go.Proofs.Ytncffhgoopdfgaa
namespace Go.Proofs.Ytncffhgoopdfgaa
open Go.Am
set_option maxRecDepth 100000
end Go.Proofs.Ytncffhgoopdfgaa
namespace Go.Proofs.Ytncffhgoopdfgaa
open Go.Am
set_option maxRecDepth 100000
theorem changes_d (l : List Cw) (k : Nat) (hk : k ≤ 20) (hl : ∀ a ∈ l, CwOk a) (h : l.length ≤ 9223372036854775807) : ACalls Try.prog 19 0 0 [.list (l.map cwrow) .free, .v (.int .i64 k)] [] (fun out H' => ∃ xs : List Ch, (xs.length ≤ k ∧ ∀ x ∈ xs, ChOk x) ∧ out = .ret (.list (xs.map chrow) .free) ∧ H' = []) :=
 ACalls.ren (changes_c l k hk hl h) (by decide) fun out H' hh => by
  obtain ⟨xs, h1, rfl, rfl⟩ := hh
  exact ⟨[], .ret (.list (xs.map chrow) .free), [], List.nodup_nil, (fun q h => by cases h), (fun q h => by omega), Nat.le_refl _, rfl, rfl, xs, h1, rfl, rfl⟩
end Go.Proofs.Ytncffhgoopdfgaa
namespace Go.Am
def LeD (a b : AV) : Prop := ∀ X x, SimD X a x → SimD X b x
theorem LeD.refl (a : AV) : LeD a a := fun _ _ h => h
theorem LeD.free (rows : List (List AV)) (o : Own) : LeD (.list rows o) (.list rows .free) := fun _ _ h => h.free
inductive LDL : List AV → List AV → Prop
 | nil : LDL [] []
 | cons {a b : AV} {s t : List AV} (h : LeD a b) (hs : LDL s t) : LDL (a :: s) (b :: t)
inductive LDR : List (List AV) → List (List AV) → Prop
 | nil : LDR [] []
 | cons {a b : List AV} {s t : List (List AV)} (h : LDL a b) (hs : LDR s t) : LDR (a :: s) (b :: t)
theorem LDL.len {s t : List AV} (h : LDL s t) : s.length = t.length := by
 induction h with
 | nil => rfl
 | cons _ _ ih => simp [ih]
theorem LDL.get {s t : List AV} (h : LDL s t) : ∀ (i : Nat) (b : AV), t[i]? = some b → ∃ a, s[i]? = some a ∧ LeD a b := by
 induction h with
 | nil => intro i b hb; simp at hb
 | @cons a b s t h1 _ ih =>
  intro i c hc
  cases i with
  | zero => simp at hc; subst hc; exact ⟨a, rfl, h1⟩
  | succ i => exact ih i c hc
theorem LDR.len {s t : List (List AV)} (h : LDR s t) : s.length = t.length := by
 induction h with
 | nil => rfl
 | cons _ _ ih => simp [ih]
theorem LDR.get {s t : List (List AV)} (h : LDR s t) : ∀ (i : Nat) (b : List AV), t[i]? = some b → ∃ a, s[i]? = some a ∧ LDL a b := by
 induction h with
 | nil => intro i b hb; simp at hb
 | @cons a b s t h1 _ ih =>
  intro i c hc
  cases i with
  | zero => simp at hc; subst hc; exact ⟨a, rfl, h1⟩
  | succ i => exact ih i c hc
theorem LeD.rows {rows rows' : List (List AV)} (h : LDR rows rows') (o : Own) : LeD (.list rows o) (.list rows' .free) := fun X x hx => by
 cases hx with
 | nil _ a c hc ho hs =>
  cases h
  exact .nil .free a c hc (fun h => by cases h) (.inl rfl)
 | list _ _ b off c s y hn hc ho hs hr hX hS h1 =>
  have e := h.len
  have hr' : ∀ row ∈ rows', row.length = s := fun row hrow => by
   obtain ⟨i, hi, rfl⟩ := List.getElem_of_mem hrow
   obtain ⟨a, ha, hd⟩ := h.get i _ (List.getElem?_eq_getElem hi)
   rw [← hd.len]
   exact hr a (List.mem_of_getElem? ha)
  rw [e]
  refine .list rows' .free b off c s y (by omega) hc (fun h => by cases h) (.inl rfl) hr' (fun i row j a k1 k2 => ?_) (fun i row j a k1 k2 => ?_) (fun i row j a k1 k2 => ?_)
  ·obtain ⟨r0, q1, q2⟩ := h.get i row k1
   obtain ⟨a0, q3, q4⟩ := q2.get j a k2
   exact hX i r0 j a0 q1 q3
  ·obtain ⟨r0, q1, q2⟩ := h.get i row k1
   obtain ⟨a0, q3, q4⟩ := q2.get j a k2
   exact q4 _ _ (hS i r0 j a0 q1 q3)
  ·obtain ⟨r0, q1, q2⟩ := h.get i row k1
   obtain ⟨a0, q3, q4⟩ := q2.get j a k2
   exact h1 i r0 j a0 q1 q3
theorem LeA.rows {rows rows' : List (List AV)} (h : LDR rows rows') (o : Own) : LeA (.list rows o) (.list rows' .free) := fun G x hx => by
 cases hx with
 | data _ _ hd => exact .data _ _ (LeD.rows h _ _ _ hd)
 | tok _ k _ _ hd => exact .data _ _ (LeD.rows h _ _ _ hd)
theorem Wk.rows {rows rows' : List (List AV)} (h : LDR rows rows') (o : Own) : Wk (.list rows o) (.list rows' .free) :=
 ⟨fun G x hx => by
  refine .of ?_
  have := hx.down
  unfold AV.down at this
  split at this
  ·rename_i h0; cases h0; exact LeA.rows h _ _ _ this
  ·exact LeA.rows h _ _ _ this, fun G x hx => LeA.rows h o _ _ hx⟩
end Go.Am
namespace Go.Proofs.Ytncffhgoopdfgaa
open Go.Am
set_option maxRecDepth 100000
theorem dvmade_d (a : Dv) (h : DvOk a) : ACalls Try.prog 29 0 0 [.agg (dvr a)] [] (fun out H' => ∃ v, okV v ∧ out = .ret (vav v) ∧ H' = []) :=
 ACalls.ren (dvmade_c a h) (by decide) fun out H' hh => by
  obtain ⟨v, h1, rfl, rfl⟩ := hh
  exact ⟨[], .ret (vav v), [], List.nodup_nil, (fun q h => by cases h), (fun q h => by omega), Nat.le_refl _, rfl, rfl, v, h1, rfl, rfl⟩
end Go.Proofs.Ytncffhgoopdfgaa
namespace Go.Proofs.Ytncffhgoopdfgaa
open Go.Am
section
variable {H : Type} {enc : TypeId × Value → H} {w : World} {base : Nat} {sp : Nat → Bool} {held : Bool}
theorem opnDv : Opn enc Try.prog w base sp held 25 fun row => ∃ a : Dv, DvOk a ∧ row = dvr a := opnV.mono fun row ⟨tx, n, x, b, h, e⟩ => ⟨⟨tx, n, x, b⟩, h, e⟩
end
end Go.Proofs.Ytncffhgoopdfgaa
namespace Go.Proofs.Ytncffhgoopdfgaa
open Go.Am
section
variable {H : Type} {enc : TypeId × Value → H} {w : World} {base : Nat} {sp : Nat → Bool} {held : Bool}
theorem opnCw : Opn enc Try.prog w base sp held 112 fun row => ∃ a : Cw, CwOk a ∧ row = cwrow a :=
 (opn_struct Try.underlying112 (Rs := [fun row => ∃ n, row = [.v (.int .i64 n)] ∧ IntKind.i64.min ≤ n ∧ n ≤ IntKind.i64.max, fun row => ∃ n, row = [.v (.int .i64 n)] ∧ IntKind.i64.min ≤ n ∧ n ≤ IntKind.i64.max, fun row => ∃ n, row = [.v (.int .i64 n)] ∧ IntKind.i64.min ≤ n ∧ n ≤ IntKind.i64.max, fun row => ∃ a : Dv, DvOk a ∧ row = dvr a])
  ⟨rfl, opn_int Try.underlying3, by kernel_rfl, opn_int Try.underlying3, by kernel_rfl, opn_int Try.underlying2, by kernel_rfl, opnDv, (show (_ : Nat) = _ by kernel_rfl)⟩).mono
  fun row hrow => by
   obtain ⟨_, _, e0, ⟨k, rfl, k1, k2⟩, _, _, e1, ⟨c, rfl, c1, c2⟩, _, _, e2, ⟨t, rfl, t1, t2⟩, _, _, e3, ⟨v, hv, rfl⟩, e4⟩ := hrow
   refine ⟨⟨k, c, t, v⟩, ⟨⟨k1, k2⟩, ⟨c1, c2⟩, ⟨t1, t2⟩, hv⟩, ?_⟩
   rw [e0, e1, e2, e3, e4]
   simp [cwrow]
theorem opnCws : Opn enc Try.prog w base sp held 26 fun row => ∃ l : List Cw, (∀ a ∈ l, CwOk a) ∧ l.length ≤ 9223372036854775807 ∧ row = [.list (l.map cwrow) .free] :=
  (opn_slice Try.underlying26 (by kernel_rfl : Try.prog.cellsOf 112 = 7) (by decide) opnCw).mono fun row ⟨rows, h1, h2, h3⟩ => by
    obtain ⟨l, hl, rfl⟩ := listOf (f := cwrow) (Q := CwOk) fun r hr => (h3 r hr).1
    exact ⟨l, hl, by have : maxLen = 9223372036854775807 := by decide
                     simpa [this] using h2, h1⟩
end
end Go.Proofs.Ytncffhgoopdfgaa
namespace Go.Proofs.Ytncffhgoopdfgaa
open Go.Am
section
variable {H : Type} {enc : TypeId × Value → H} {w : World} {base : Nat} {sp : Nat → Bool} {held : Bool}
end
end Go.Proofs.Ytncffhgoopdfgaa
namespace Go.Proofs.Ytncffhgoopdfgaa
open Go.Am
set_option maxRecDepth 100000
structure Ow where
 k : Int
 r : Int
 h : Int
 m : Int
 c : Int
 has : Bool
 want : Bool
 v : Dv
 l : List Cw
def owrow (o : Ow) : List AV := [.v (.int .i64 o.k), .v (.int .i64 o.r), .v (.int .i64 o.h), .v (.int .i64 o.m), .v (.int .i64 o.c), .v (.bool o.has), .v (.bool o.want)] ++ dvr o.v ++ [.list (o.l.map cwrow) .free]
structure OwOk (o : Ow) : Prop where
 k : -9223372036854775808 ≤ o.k ∧ o.k ≤ 9223372036854775807
 r : -9223372036854775808 ≤ o.r ∧ o.r ≤ 9223372036854775807
 h : -9223372036854775808 ≤ o.h ∧ o.h ≤ 9223372036854775807
 m : -9223372036854775808 ≤ o.m ∧ o.m ≤ 9223372036854775807
 c : -9223372036854775808 ≤ o.c ∧ o.c ≤ 9223372036854775807
 v : DvOk o.v
 l : ∀ a ∈ o.l, CwOk a
 n : o.l.length ≤ 9223372036854775807
structure Oq where
 k : Int
 row : ByteArray
 hi : ByteArray
 d : Cd
 l : List Ch
 most : Int
def oqrow (q : Oq) : List AV := [.v (.int .i64 q.k), .v (.string q.row), .v (.string q.hi)] ++ cdrow q.d ++ [.list (q.l.map chrow) .free, .v (.int .i64 q.most)]
def CdSz (d : Cd) : Prop := d.v.b.length < 1073741824 ∧ d.v.n < 18446744073709551616
def OqOk (q : Oq) : Prop := CdSz q.d ∧ (∀ x ∈ q.l, ChSz x) ∧ q.l.length ≤ 4
section
variable {H : Type} {enc : TypeId × Value → H} {w : World} {base : Nat} {sp : Nat → Bool} {held : Bool}
theorem opnOw : Opn enc Try.prog w base sp held 28 fun row => ∃ o : Ow, OwOk o ∧ row = owrow o :=
 (opn_struct Try.underlying28 (Rs := [fun row => ∃ n, row = [.v (.int .i64 n)] ∧ IntKind.i64.min ≤ n ∧ n ≤ IntKind.i64.max, fun row => ∃ n, row = [.v (.int .i64 n)] ∧ IntKind.i64.min ≤ n ∧ n ≤ IntKind.i64.max, fun row => ∃ n, row = [.v (.int .i64 n)] ∧ IntKind.i64.min ≤ n ∧ n ≤ IntKind.i64.max, fun row => ∃ n, row = [.v (.int .i64 n)] ∧ IntKind.i64.min ≤ n ∧ n ≤ IntKind.i64.max, fun row => ∃ n, row = [.v (.int .i64 n)] ∧ IntKind.i64.min ≤ n ∧ n ≤ IntKind.i64.max, fun row => ∃ b, row = [.v (.bool b)], fun row => ∃ b, row = [.v (.bool b)], fun row => ∃ a : Dv, DvOk a ∧ row = dvr a, fun row => ∃ l : List Cw, (∀ a ∈ l, CwOk a) ∧ l.length ≤ 9223372036854775807 ∧ row = [.list (l.map cwrow) .free]])
  ⟨rfl, opn_int Try.underlying3, by kernel_rfl, opn_int Try.underlying3, by kernel_rfl, opn_int Try.underlying3, by kernel_rfl, opn_int Try.underlying3, by kernel_rfl, opn_int Try.underlying3, by kernel_rfl, opn_bool Try.underlying4, by kernel_rfl, opn_bool Try.underlying4, by kernel_rfl, opnDv, by kernel_rfl, opnCws, (show (_ : Nat) = _ by kernel_rfl)⟩).mono
  fun row hrow => by
   obtain ⟨_, _, e0, ⟨k, rfl, k1, k2⟩, _, _, e1, ⟨r, rfl, r1, r2⟩, _, _, e2, ⟨h, rfl, h1, h2⟩, _, _, e3, ⟨m, rfl, m1, m2⟩, _, _, e4, ⟨c, rfl, c1, c2⟩, _, _, e5, ⟨has, rfl⟩, _, _, e6, ⟨want, rfl⟩, _, _, e7, ⟨v, hv, rfl⟩, _, _, e8, ⟨l, hl, hn, rfl⟩, e9⟩ := hrow
   refine ⟨⟨k, r, h, m, c, has, want, v, l⟩, ⟨⟨k1, k2⟩, ⟨r1, r2⟩, ⟨h1, h2⟩, ⟨m1, m2⟩, ⟨c1, c2⟩, hv, hl, hn⟩, ?_⟩
   rw [e0, e1, e2, e3, e4, e5, e6, e7, e8, e9]
   simp [owrow]
end
def rwL : List ByteArray := [bsS [97], bsS [98], bsS [109], bsS [110], bsS [122], bsS [109, 97], bsS [122, 122], bsS [48]]
theorem keeprow_c (n : Int) (h1 : -9223372036854775808 ≤ n) (h2 : n ≤ 9223372036854775807) : ACalls Try.prog 31 0 5 [.v (.int .i64 n)] [] (fun out H' => ∃ t ∈ rwL, out = .ret (.v (.string t)) ∧ H' = []) := by
 have hp := pick_c rwL n (by decide) h1 h2
 refine no_implicit_lambda% (acalls_of tok dok (f := 31) ⟨Try.func31, rfl, by kernel_rfl⟩ ?_); refine no_implicit_lambda% (c_start (fun _ h => h) ?_)
 repeat' (first | (refine no_implicit_lambda% (zH ?_)) | (refine no_implicit_lambda% (spl (fun hc => ?_) (fun hc => ?_)) <;> first | exact zG hc | skip) | (refine no_implicit_lambda% (ans ?_)) | (with_reducible first | exact zI | exact zJ))
 (refine no_implicit_lambda% (calw [] (hp) ?_ ?_))
 ·intro xx H' hh
  obtain ⟨t, ht, h', rfl⟩ := hh
  cases h'
  first | (refine no_implicit_lambda% (akc ?_)) | (refine no_implicit_lambda% (aec ?_))
  repeat' (first | (refine no_implicit_lambda% (zH ?_)) | (refine no_implicit_lambda% (spl (fun hc => ?_) (fun hc => ?_)) <;> first | exact zG hc | skip) | (refine no_implicit_lambda% (ans ?_)) | (with_reducible first | exact zI | exact zJ))
  exact e_ret (H' := []) (rest := _) rfl ⟨t, ht, rfl, rfl⟩ permT (LE0 rfl)
 ·intro xx H' hh
  obtain ⟨_, _, h', _⟩ := hh
  cases h'
def zd0 : Cd := ⟨false, false, ⟨#[]⟩, ⟨0, [], 0⟩⟩
def ch0 : Ch := ⟨5, bsS [120], 5, ⟨2, [], 4607182418800017408⟩⟩
theorem ch0_ok : ∀ x ∈ [ch0], ChSz x := fun x hx => by rw [List.mem_singleton.1 hx]; exact ⟨by decide, by decide⟩
theorem zd0_ok : CdSz zd0 := ⟨by decide, by decide⟩
set_option maxHeartbeats 6400000 in
theorem op_c (o : Ow) (ho : OwOk o) : ACalls Try.prog 32 0 90000 [.agg (owrow o)] [] (fun out H' => ∃ q, OqOk q ∧ out = .ret (.agg (oqrow q)) ∧ H' = []) := by
 obtain ⟨k, r, h, m, c, has, want, v, l⟩ := o
 obtain ⟨hk, hr, hH, hm, hcc, hv, hl, hn⟩ := ho
 dsimp only at *
 have w1 := wthn_c k 0 1048576 hk.1 hk.2 (by decide) (by decide) (by decide) (by decide)
 have w2 := wthn_c m 0 1048576 hm.1 hm.2 (by decide) (by decide) (by decide) (by decide)
 have b1 := wthn_bd k 0 1048576 (by decide)
 have b2 := wthn_bd m 0 1048576 (by decide)
 generalize wthn k 0 1048576 = k0 at *
 generalize wthn m 0 1048576 = m0 at *
 refine no_implicit_lambda% (acalls_of tok dok (f := 32) ⟨Try.func32, rfl, by kernel_rfl⟩ ?_); refine no_implicit_lambda% (c_start (fun _ h => h) ?_)
 repeat' (first | (refine no_implicit_lambda% (zH ?_)) | (refine no_implicit_lambda% (spl (fun hc => ?_) (fun hc => ?_)) <;> first | exact zG hc | skip) | (refine no_implicit_lambda% (ans ?_)) | (with_reducible first | exact zI | exact zJ) | (refine no_implicit_lambda% (cal [] (w1) ?_ ?_)) | fail)
 ·(refine no_implicit_lambda% (cal [] (keeprow_c r hr.1 hr.2) ?_ ?_))
  rotate_left
  ·intro xx H' hx
   obtain ⟨_, _, h', _⟩ := hx
   cases h'
  intro xx H' hx
  obtain ⟨s, hs, h', rfl⟩ := hx
  cases h'
  first | (refine no_implicit_lambda% (akc ?_)) | (refine no_implicit_lambda% (aec ?_))
  repeat' (first | (refine no_implicit_lambda% (zH ?_)) | (refine no_implicit_lambda% (spl (fun hc => ?_) (fun hc => ?_)) <;> first | exact zG hc | skip) | (refine no_implicit_lambda% (ans ?_)) | (with_reducible first | exact zI | exact zJ))
  (refine e_ret_to (H' := []) (rest := [(1, .box (oqrow (⟨1, s, ⟨#[]⟩, zd0, [], 0⟩ : Oq)))]) (Conv.toT (τ := ⟨_, [(1, .box (oqrow (⟨1, s, ⟨#[]⟩, zd0, [], 0⟩ : Oq)))], _⟩) (.refl _) ?_ (Nat.le_refl _)) rfl ⟨(⟨1, s, ⟨#[]⟩, zd0, [], 0⟩ : Oq), ⟨zd0_ok, (fun x hx => by cases hx), Nat.zero_le _⟩, rfl, rfl⟩ permT (LE0 rfl); exact wkh)
 ·(refine no_implicit_lambda% (cal [] (keeprow_c r hr.1 hr.2) ?_ ?_))
  rotate_left
  ·intro xx H' hx
   obtain ⟨_, _, h', _⟩ := hx
   cases h'
  intro xx H' hx
  obtain ⟨s, hs, h', rfl⟩ := hx
  cases h'
  first | (refine no_implicit_lambda% (akc ?_)) | (refine no_implicit_lambda% (aec ?_))
  repeat' (first | (refine no_implicit_lambda% (zH ?_)) | (refine no_implicit_lambda% (splv (fun hc => ?_) (fun hc => ?_)) <;> first | exact zG hc | skip) | (refine no_implicit_lambda% (ans ?_)) | (with_reducible first | exact zI | exact zJ))
  (refine no_implicit_lambda% (cal [] (keeprow_c h hH.1 hH.2) ?_ ?_))
  rotate_left
  ·intro xx H' hx
   obtain ⟨_, _, h', _⟩ := hx
   cases h'
  intro xx H' hx
  obtain ⟨t, ht, h', rfl⟩ := hx
  cases h'
  first | (refine no_implicit_lambda% (akc ?_)) | (refine no_implicit_lambda% (aec ?_))
  repeat' (first | (refine no_implicit_lambda% (zH ?_)) | (refine no_implicit_lambda% (splv (fun hc => ?_) (fun hc => ?_)) <;> first | exact zG hc | skip) | (refine no_implicit_lambda% (ans ?_)) | (with_reducible first | exact zI | exact zJ) | (refine no_implicit_lambda% (cal [] (w2) ?_ ?_)) | fail)
  all_goals rw [show IntKind.i64.wrap (1 + m0.tmod 16) = 1 + m0.tmod 16 from z64 (by have := Int.tmod_nonneg 16 b2.1; omega) (by have := Int.tmod_lt_of_pos m0 (show (0 : Int) < 16 by decide); omega)]
  all_goals first | ((refine e_ret_to (H' := []) (rest := [(1, .box (oqrow (⟨3, s, t, zd0, [], 1 + m0.tmod 16⟩ : Oq)))]) (Conv.toT (τ := ⟨_, [(1, .box (oqrow (⟨3, s, t, zd0, [], 1 + m0.tmod 16⟩ : Oq)))], _⟩) (.refl _) ?_ (Nat.le_refl _)) rfl ⟨(⟨3, s, t, zd0, [], 1 + m0.tmod 16⟩ : Oq), ⟨zd0_ok, (fun x hx => by cases hx), Nat.zero_le _⟩, rfl, rfl⟩ permT (LE0 rfl); exact wkh); done) | ((refine e_ret_to (H' := []) (rest := [(1, .box (oqrow (⟨3, s, ⟨#[]⟩, zd0, [], 1 + m0.tmod 16⟩ : Oq)))]) (Conv.toT (τ := ⟨_, [(1, .box (oqrow (⟨3, s, ⟨#[]⟩, zd0, [], 1 + m0.tmod 16⟩ : Oq)))], _⟩) (.refl _) ?_ (Nat.le_refl _)) rfl ⟨(⟨3, s, ⟨#[]⟩, zd0, [], 1 + m0.tmod 16⟩ : Oq), ⟨zd0_ok, (fun x hx => by cases hx), Nat.zero_le _⟩, rfl, rfl⟩ permT (LE0 rfl); exact wkh); done) | ((refine e_ret_to (H' := []) (rest := [(1, .box (oqrow (⟨3, ⟨#[]⟩, t, zd0, [], 1 + m0.tmod 16⟩ : Oq)))]) (Conv.toT (τ := ⟨_, [(1, .box (oqrow (⟨3, ⟨#[]⟩, t, zd0, [], 1 + m0.tmod 16⟩ : Oq)))], _⟩) (.refl _) ?_ (Nat.le_refl _)) rfl ⟨(⟨3, ⟨#[]⟩, t, zd0, [], 1 + m0.tmod 16⟩ : Oq), ⟨zd0_ok, (fun x hx => by cases hx), Nat.zero_le _⟩, rfl, rfl⟩ permT (LE0 rfl); exact wkh); done) | ((refine e_ret_to (H' := []) (rest := [(1, .box (oqrow (⟨3, ⟨#[]⟩, ⟨#[]⟩, zd0, [], 1 + m0.tmod 16⟩ : Oq)))]) (Conv.toT (τ := ⟨_, [(1, .box (oqrow (⟨3, ⟨#[]⟩, ⟨#[]⟩, zd0, [], 1 + m0.tmod 16⟩ : Oq)))], _⟩) (.refl _) ?_ (Nat.le_refl _)) rfl ⟨(⟨3, ⟨#[]⟩, ⟨#[]⟩, zd0, [], 1 + m0.tmod 16⟩ : Oq), ⟨zd0_ok, (fun x hx => by cases hx), Nat.zero_le _⟩, rfl, rfl⟩ permT (LE0 rfl); exact wkh); done)
 ·(refine no_implicit_lambda% (cal [] (keeprow_c r hr.1 hr.2) ?_ ?_))
  rotate_left
  ·intro xx H' hx
   obtain ⟨_, _, h', _⟩ := hx
   cases h'
  intro xx H' hx
  obtain ⟨s, hs, h', rfl⟩ := hx
  cases h'
  first | (refine no_implicit_lambda% (akc ?_)) | (refine no_implicit_lambda% (aec ?_))
  repeat' (first | (refine no_implicit_lambda% (zH ?_)) | (refine no_implicit_lambda% (splv (fun hc => ?_) (fun hc => ?_)) <;> first | exact zG hc | skip) | (refine no_implicit_lambda% (ans ?_)) | (with_reducible first | exact zI | exact zJ))
  (refine no_implicit_lambda% (cal [] (changes_d l 4 (by decide) hl hn) ?_ ?_))
  rotate_left
  ·intro xx H' hx
   obtain ⟨_, _, h', _⟩ := hx
   cases h'
  intro xx H' hx
  obtain ⟨xs, ⟨hx4, hok⟩, h', rfl⟩ := hx
  cases h'
  first | (refine no_implicit_lambda% (akc ?_)) | (refine no_implicit_lambda% (aec ?_))
  have hsz : ∀ x ∈ xs, ChSz x := fun x hx => (hok x hx).1
  rcases xs with _ | ⟨x0, xs⟩
  ·cases has
   ·repeat' (first | (refine no_implicit_lambda% (zH ?_)) | (refine no_implicit_lambda% (spl (fun hc => ?_) (fun hc => ?_)) <;> first | exact zG hc | skip) | (refine no_implicit_lambda% (ans ?_)) | (with_reducible first | exact zI | exact zJ))
    (refine e_ret_to (H' := []) (rest := [(1, .box (oqrow (⟨2, s, ⟨#[]⟩, zd0, [ch0], 0⟩ : Oq)))]) (Conv.toT (τ := ⟨_, [(1, .box (oqrow (⟨2, s, ⟨#[]⟩, zd0, [ch0], 0⟩ : Oq)))], _⟩) (.refl _) ?_ (Nat.le_refl _)) rfl ⟨(⟨2, s, ⟨#[]⟩, zd0, [ch0], 0⟩ : Oq), ⟨zd0_ok, ch0_ok, (by show 1 ≤ 4; decide)⟩, rfl, rfl⟩ permT (LE0 rfl); exact wkh)
   ·repeat' (first | (refine no_implicit_lambda% (zH ?_)) | (refine no_implicit_lambda% (spl (fun hc => ?_) (fun hc => ?_)) <;> first | exact zG hc | skip) | (refine no_implicit_lambda% (ans ?_)) | (with_reducible first | exact zI | exact zJ))
    (refine no_implicit_lambda% (cal [] (keepcol_c c hcc.1 hcc.2) ?_ ?_))
    rotate_left
    ·intro xx H' hx
     obtain ⟨_, _, h', _⟩ := hx
     cases h'
    intro xx H' hx
    obtain ⟨cn, hcn, h', rfl⟩ := hx
    cases h'
    first | (refine no_implicit_lambda% (akc ?_)) | (refine no_implicit_lambda% (aec ?_))

    cases want
    ·repeat' (first | (refine no_implicit_lambda% (zH ?_)) | (refine no_implicit_lambda% (spl (fun hc => ?_) (fun hc => ?_)) <;> first | exact zG hc | skip) | (refine no_implicit_lambda% (ans ?_)) | (with_reducible first | exact zI | exact zJ))
     (refine e_ret_to (H' := []) (rest := [(1, .box (oqrow (⟨2, s, ⟨#[]⟩, ⟨true, false, cn, ⟨0, [], 0⟩⟩, [ch0], 0⟩ : Oq)))]) (Conv.toT (τ := ⟨_, [(1, .box (oqrow (⟨2, s, ⟨#[]⟩, ⟨true, false, cn, ⟨0, [], 0⟩⟩, [ch0], 0⟩ : Oq)))], _⟩) (.refl _) ?_ (Nat.le_refl _)) rfl ⟨(⟨2, s, ⟨#[]⟩, ⟨true, false, cn, ⟨0, [], 0⟩⟩, [ch0], 0⟩ : Oq), ⟨zd0_ok, ch0_ok, (by show 1 ≤ 4; decide)⟩, rfl, rfl⟩ permT (LE0 rfl); exact wkh)
    ·repeat' (first | (refine no_implicit_lambda% (zH ?_)) | (refine no_implicit_lambda% (spl (fun hc => ?_) (fun hc => ?_)) <;> first | exact zG hc | skip) | (refine no_implicit_lambda% (ans ?_)) | (with_reducible first | exact zI | exact zJ))
     (refine no_implicit_lambda% (cal [] (dvmade_d v hv) ?_ ?_))
     rotate_left
     ·intro xx H' hx
      obtain ⟨_, _, h', _⟩ := hx
      cases h'
     intro xx H' hx
     obtain ⟨y, hy, h', rfl⟩ := hx
     cases h'
     first | (refine no_implicit_lambda% (akc ?_)) | (refine no_implicit_lambda% (aec ?_))

     repeat' (first | (refine no_implicit_lambda% (zH ?_)) | (refine no_implicit_lambda% (spl (fun hc => ?_) (fun hc => ?_)) <;> first | exact zG hc | skip) | (refine no_implicit_lambda% (ans ?_)) | (with_reducible first | exact zI | exact zJ))
     (refine e_ret_to (H' := []) (rest := [(1, .box (oqrow (⟨2, s, ⟨#[]⟩, ⟨true, true, cn, y⟩, [ch0], 0⟩ : Oq)))]) (Conv.toT (τ := ⟨_, [(1, .box (oqrow (⟨2, s, ⟨#[]⟩, ⟨true, true, cn, y⟩, [ch0], 0⟩ : Oq)))], _⟩) (.refl _) ?_ (Nat.le_refl _)) rfl ⟨(⟨2, s, ⟨#[]⟩, ⟨true, true, cn, y⟩, [ch0], 0⟩ : Oq), ⟨⟨hy.1, hy.2.1⟩, ch0_ok, (by show 1 ≤ 4; decide)⟩, rfl, rfl⟩ permT (LE0 rfl); exact wkh)

  ·cases has
   ·repeat' (first | (refine no_implicit_lambda% (zH ?_)) | (refine no_implicit_lambda% (spl (fun hc => ?_) (fun hc => ?_)) <;> first | exact zG hc | skip) | (refine no_implicit_lambda% (ans ?_)) | (with_reducible first | exact zI | exact zJ))
    (refine e_ret_to (H' := []) (rest := [(1, .box (oqrow (⟨2, s, ⟨#[]⟩, zd0, x0 :: xs, 0⟩ : Oq)))]) (Conv.toT (τ := ⟨_, [(1, .box (oqrow (⟨2, s, ⟨#[]⟩, zd0, x0 :: xs, 0⟩ : Oq)))], _⟩) (.refl _) ?_ (Nat.le_refl _)) rfl ⟨(⟨2, s, ⟨#[]⟩, zd0, x0 :: xs, 0⟩ : Oq), ⟨zd0_ok, hsz, hx4⟩, rfl, rfl⟩ permT (LE0 rfl); exact wkh)
   ·repeat' (first | (refine no_implicit_lambda% (zH ?_)) | (refine no_implicit_lambda% (spl (fun hc => ?_) (fun hc => ?_)) <;> first | exact zG hc | skip) | (refine no_implicit_lambda% (ans ?_)) | (with_reducible first | exact zI | exact zJ))
    (refine no_implicit_lambda% (cal [] (keepcol_c c hcc.1 hcc.2) ?_ ?_))
    rotate_left
    ·intro xx H' hx
     obtain ⟨_, _, h', _⟩ := hx
     cases h'
    intro xx H' hx
    obtain ⟨cn, hcn, h', rfl⟩ := hx
    cases h'
    first | (refine no_implicit_lambda% (akc ?_)) | (refine no_implicit_lambda% (aec ?_))

    cases want
    ·repeat' (first | (refine no_implicit_lambda% (zH ?_)) | (refine no_implicit_lambda% (spl (fun hc => ?_) (fun hc => ?_)) <;> first | exact zG hc | skip) | (refine no_implicit_lambda% (ans ?_)) | (with_reducible first | exact zI | exact zJ))
     (refine e_ret_to (H' := []) (rest := [(1, .box (oqrow (⟨2, s, ⟨#[]⟩, ⟨true, false, cn, ⟨0, [], 0⟩⟩, x0 :: xs, 0⟩ : Oq)))]) (Conv.toT (τ := ⟨_, [(1, .box (oqrow (⟨2, s, ⟨#[]⟩, ⟨true, false, cn, ⟨0, [], 0⟩⟩, x0 :: xs, 0⟩ : Oq)))], _⟩) (.refl _) ?_ (Nat.le_refl _)) rfl ⟨(⟨2, s, ⟨#[]⟩, ⟨true, false, cn, ⟨0, [], 0⟩⟩, x0 :: xs, 0⟩ : Oq), ⟨zd0_ok, hsz, hx4⟩, rfl, rfl⟩ permT (LE0 rfl); exact wkh)
    ·repeat' (first | (refine no_implicit_lambda% (zH ?_)) | (refine no_implicit_lambda% (spl (fun hc => ?_) (fun hc => ?_)) <;> first | exact zG hc | skip) | (refine no_implicit_lambda% (ans ?_)) | (with_reducible first | exact zI | exact zJ))
     (refine no_implicit_lambda% (cal [] (dvmade_d v hv) ?_ ?_))
     rotate_left
     ·intro xx H' hx
      obtain ⟨_, _, h', _⟩ := hx
      cases h'
     intro xx H' hx
     obtain ⟨y, hy, h', rfl⟩ := hx
     cases h'
     first | (refine no_implicit_lambda% (akc ?_)) | (refine no_implicit_lambda% (aec ?_))

     repeat' (first | (refine no_implicit_lambda% (zH ?_)) | (refine no_implicit_lambda% (spl (fun hc => ?_) (fun hc => ?_)) <;> first | exact zG hc | skip) | (refine no_implicit_lambda% (ans ?_)) | (with_reducible first | exact zI | exact zJ))
     (refine e_ret_to (H' := []) (rest := [(1, .box (oqrow (⟨2, s, ⟨#[]⟩, ⟨true, true, cn, y⟩, x0 :: xs, 0⟩ : Oq)))]) (Conv.toT (τ := ⟨_, [(1, .box (oqrow (⟨2, s, ⟨#[]⟩, ⟨true, true, cn, y⟩, x0 :: xs, 0⟩ : Oq)))], _⟩) (.refl _) ?_ (Nat.le_refl _)) rfl ⟨(⟨2, s, ⟨#[]⟩, ⟨true, true, cn, y⟩, x0 :: xs, 0⟩ : Oq), ⟨⟨hy.1, hy.2.1⟩, hsz, hx4⟩, rfl, rfl⟩ permT (LE0 rfl); exact wkh)
end Go.Proofs.Ytncffhgoopdfgaa
namespace Go.Proofs.Ytncffhgoopdfgaa
open Go.Am
set_option maxRecDepth 100000
theorem bl_gt (a b : List UInt8) : (!Op.bytesLess b a && !(b == a)) = Op.bytesLess a b := by
 rw [less_cb, less_cb, eq_cb, cb_anti a b]
 rcases cb_three b a with h | h | h <;> rw [h] <;> decide
theorem bl_le (a b : List UInt8) : (Op.bytesLess a b || a == b) = !Op.bytesLess b a := by
 rw [less_cb, less_cb, eq_cb, cb_anti b a]
 rcases cb_three a b with h | h | h <;> rw [h] <;> decide
theorem ibeq (a b : Int) : (a == b) = decide (a = b) := rfl
structure Sn where
 lo : ByteArray
 hi : ByteArray
def snrow (s : Sn) : List AV := [.v (.string s.lo), .v (.string s.hi)]
def le16 (s : ByteArray) : Bool := decide ((s.size : Int) ≤ 16)
def spB (s : Sn) : Bool := le16 s.lo && (le16 s.hi && (s.hi.toList == [] || sLt s.lo s.hi))
def spliB (s : Sn) (t : ByteArray) : Bool := spB s && (le16 t && (sLt s.lo t && (s.hi.toList == [] || sLt t s.hi)))
def spl1 (s : Sn) (t : ByteArray) : Sn := if spliB s t then ⟨s.lo, t⟩ else ⟨⟨#[]⟩, ⟨#[]⟩⟩
def spl2 (s : Sn) (t : ByteArray) : Sn := if spliB s t then ⟨t, s.hi⟩ else ⟨⟨#[]⟩, ⟨#[]⟩⟩
def splO (s : Sn) (t : ByteArray) : AOut := .ret (.tuple [.agg (snrow (spl1 s t)), .agg (snrow (spl2 s t)), .v (.bool (spliB s t))])
theorem splO_t {s : Sn} {t : ByteArray} (h : spliB s t = true) : splO s t = .ret (.tuple [.agg [.v (.string s.lo), .v (.string t)], .agg [.v (.string t), .v (.string s.hi)], .v (.bool true)]) := by
 unfold splO spl1 spl2
 rw [h]; rfl
theorem splO_f {s : Sn} {t : ByteArray} (h : spliB s t = false) : splO s t = .ret (.tuple [.agg [.v (.string ⟨#[]⟩), .v (.string ⟨#[]⟩)], .agg [.v (.string ⟨#[]⟩), .v (.string ⟨#[]⟩)], .v (.bool false)]) := by
 unfold splO spl1 spl2
 rw [h]; rfl
theorem spright_c (s : Sn) : ACalls Try.prog 34 0 10 [.agg (snrow s)] [] (fun out H' => out = .ret (.v (.bool (spB s))) ∧ H' = []) := by
 refine no_implicit_lambda% (acalls_of tok dok (f := 34) ⟨Try.func34, rfl, by kernel_rfl⟩ ?_); refine no_implicit_lambda% (c_start (fun _ h => h) ?_)
 repeat' (first | (refine no_implicit_lambda% (zH ?_)) | (refine no_implicit_lambda% (spl (fun hc => ?_) (fun hc => ?_)) <;> first | exact zG hc | skip) | (refine no_implicit_lambda% (ans ?_)) | (with_reducible first | exact zI | exact zJ))
 all_goals (refine e_ret (H' := []) (rest := _) rfl ⟨congrArg (fun b => AOut.ret (.v (.bool b))) ?_, rfl⟩ permT (LE0 rfl); unfold spB le16 sLt; ((try simp only [bl_gt, bl_le, ibeq] at *); (try simp only [decide_eq_true_eq, decide_eq_false_iff_not, beq_iff_eq, beq_eq_false_iff_ne, bne_iff_ne, bne_eq_false_iff_eq, Bool.not_eq_true', Bool.not_eq_false', ne_eq] at *); first | (simp_all; done) | (simp_all; omega) | (simp_all; intros; omega)))
theorem split_c (s : Sn) (t : ByteArray) : ACalls Try.prog 36 0 50 [.agg (snrow s), .v (.string t)] [] (fun out H' => out = splO s t ∧ H' = []) := by
 have h1 := spright_c s
 have h2 := spright_c ⟨s.lo, t⟩
 refine no_implicit_lambda% (acalls_of tok dok (f := 36) ⟨Try.func36, rfl, by kernel_rfl⟩ ?_); refine no_implicit_lambda% (c_start (fun _ h => h) ?_)
 repeat' (first | (refine no_implicit_lambda% (zH ?_)) | (refine no_implicit_lambda% (spl (fun hc => ?_) (fun hc => ?_)) <;> first | exact zG hc | skip) | (refine no_implicit_lambda% (ans ?_)) | (with_reducible first | exact zI | exact zJ) | (refine no_implicit_lambda% (cal [] (h1) ?_ ?_)) | (refine no_implicit_lambda% (cal [] (h2) ?_ ?_)) | fail)
 all_goals first | (refine e_ret (H' := []) (rest := _) rfl ⟨(splO_t (s := s) (t := t) ?_).symm, rfl⟩ permT (LE0 rfl); clear h1; (try clear h2); unfold spliB spB le16 sLt at *; ((try simp only [bl_gt, bl_le, ibeq] at *); (try simp only [decide_eq_true_eq, decide_eq_false_iff_not, beq_iff_eq, beq_eq_false_iff_ne, bne_iff_ne, bne_eq_false_iff_eq, Bool.not_eq_true', Bool.not_eq_false', ne_eq] at *); first | (simp_all; done) | (simp_all; omega) | (simp_all; intros; omega)); done) | (refine e_ret (H' := []) (rest := _) rfl ⟨(splO_f (s := s) (t := t) ?_).symm, rfl⟩ permT (LE0 rfl); clear h1; (try clear h2); unfold spliB spB le16 sLt at *; ((try simp only [bl_gt, bl_le, ibeq] at *); (try simp only [decide_eq_true_eq, decide_eq_false_iff_not, beq_iff_eq, beq_eq_false_iff_ne, bne_iff_ne, bne_eq_false_iff_eq, Bool.not_eq_true', Bool.not_eq_false', ne_eq] at *); first | (simp_all; done) | (simp_all; omega) | (simp_all; intros; omega)); done)
theorem cond_c (d : Cd) : ACalls Try.prog 77 0 50 [.agg (cdrow d)] [] (fun out H' => out = .ret (.v (.bool (rcB d))) ∧ H' = []) := by
 have h1 := name_c d.c
 have h2 : ACalls Try.prog 96 0 10 [vav d.v] [] (fun out H' => out = .ret (.v (.bool (vRt d.v))) ∧ H' = []) := vright_c d.v
 obtain ⟨has, want, c, v⟩ := d
 unfold rcB
 dsimp only at *
 generalize nmB c = n at *
 generalize vRt v = r at *
 cases has <;> cases want <;> cases n <;> cases r
 all_goals
  refine no_implicit_lambda% (acalls_of tok dok (f := 77) ⟨Try.func77, rfl, by kernel_rfl⟩ ?_); refine no_implicit_lambda% (c_start (fun _ h => h) ?_)
  repeat' (first | (refine no_implicit_lambda% (zH ?_)) | (refine no_implicit_lambda% (spl (fun hc => ?_) (fun hc => ?_)) <;> first | exact zG hc | skip) | (refine no_implicit_lambda% (ans ?_)) | (with_reducible first | exact zI | exact zJ) | (refine no_implicit_lambda% (cal [] (h1) ?_ ?_)) | (refine no_implicit_lambda% (cal [] (h2) ?_ ?_)) | fail)
  exact e_ret (H' := []) (rest := _) rfl ⟨rfl, rfl⟩ permT (LE0 rfl)
def chB (x : Ch) : Bool := rightC x == 0
theorem wrong_c (x : Ch) : ACalls Try.prog 76 0 80 [.agg (chrow x)] [] (fun out H' => out = .ret (.v (.bool (!chB x))) ∧ H' = []) := by
 have hr := right5_c x
 unfold chB
 generalize rightC x = e at *
 refine no_implicit_lambda% (acalls_of tok dok (f := 76) ⟨Try.func76, rfl, by kernel_rfl⟩ ?_); refine no_implicit_lambda% (c_start (fun _ h => h) ?_)
 repeat' (first | (refine no_implicit_lambda% (zH ?_)) | (refine no_implicit_lambda% (spl (fun hc => ?_) (fun hc => ?_)) <;> first | exact zG hc | skip) | (refine no_implicit_lambda% (ans ?_)) | (with_reducible first | exact zI | exact zJ) | (refine no_implicit_lambda% (cal [] (hr) ?_ ?_)) | fail)
 all_goals (refine e_ret (H' := []) (rest := _) rfl ⟨congrArg (fun b => AOut.ret (.v (.bool b))) ?_, rfl⟩ permT (LE0 rfl); first | rfl | (((try simp only [bl_gt, bl_le, ibeq] at *); (try simp only [decide_eq_true_eq, decide_eq_false_iff_not, beq_iff_eq, beq_eq_false_iff_ne, bne_iff_ne, bne_eq_false_iff_eq, Bool.not_eq_true', Bool.not_eq_false', ne_eq] at *); first | (simp_all; done) | (simp_all; omega) | (simp_all; intros; omega)); done))
def ixSt8 (l : List Ch) (i : Nat) : ASt := ⟨([.list (l.map chrow) .free, .fn 76 []] ++ List.replicate 5 .dead ++ [.v (.int .i64 l.length), .v (.int .i64 i)] ++ List.replicate 10 .dead), [], 0⟩
theorem index8_c (l : List Ch) (h : l.length < 1000000000000) : ACalls Try.prog 109 0 1000 [.list (l.map chrow) .free, .fn 76 []] [] (fun out H' => ∃ i : Int, decide (i ≥ 0) = !(l.all chB) ∧ out = .ret (.v (.int .i64 i)) ∧ H' = []) := by
 refine no_implicit_lambda% (acalls_of tok dok (f := 109) ⟨Try.func109, rfl, by kernel_rfl⟩ ?_); refine no_implicit_lambda% (c_start (fun _ h => h) ?_)
 repeat' (first | (refine no_implicit_lambda% (zH ?_)) | (refine no_implicit_lambda% (spl (fun hc => ?_) (fun hc => ?_)) <;> first | exact zG hc | skip) | (refine no_implicit_lambda% (ans ?_)) | (with_reducible first | exact zI | exact zJ))
 refine c_loop' (ixSt8 l) (fun i => i ≤ l.length ∧ (l.take i).all chB = true) (fun i => l.length - i) (a := 0) ⟨Nat.zero_le _, rfl⟩ ?_ ?_
 ·(refine no_implicit_lambda% (Conv.toT ?_ ?_ (LE0 rfl))); (focus ((unfold ixSt8); (try dsimp only); exact wkl)); (focus ((unfold ixSt8); (try dsimp only); exact wkh))
 ·rintro i ⟨h1, h2⟩
  refine c_turn (n' := 0) (fun _ h => h) (fun _ h => h) rfl ?_
  have hlm : ((l.map chrow).length : Int) = l.length := by rw [List.length_map]
  rcases hx : l[i]? with _ | x
  ·have hi : i = l.length := by have := List.getElem?_eq_none_iff.1 hx; omega
   repeat' (first | (refine no_implicit_lambda% (zH ?_)) | (refine no_implicit_lambda% (spl (fun hc => ?_) (fun hc => ?_)) <;> first | exact zG hc | skip) | (refine no_implicit_lambda% (ans ?_)) | (with_reducible first | exact zI | exact zJ))
   refine e_ret (H' := []) (rest := _) rfl ⟨-1, ?_, rfl, rfl⟩ permT (LE0 rfl)
   rw [hi, List.take_length] at h2
   rw [h2]; rfl
  ·have hi : i < l.length := (List.getElem?_eq_some_iff.1 hx).1
   have hix := chx hx
   have hr := wrong_c x
   have hmem : chB x = false → l.all chB = false := fun e => by
    rw [List.all_eq_false]
    exact ⟨x, List.mem_of_getElem? hx, by simp [e]⟩
   have hsucc : (l.take (i + 1)).all chB = ((l.take i).all chB && chB x) := by
    obtain ⟨h5, h6⟩ := List.getElem?_eq_some_iff.1 hx
    rw [List.take_succ_eq_append_getElem h5, List.all_append, h6]; simp
   generalize chB x = r at *
   repeat' (first | (refine no_implicit_lambda% (zH ?_)) | (refine no_implicit_lambda% (spl (fun hc => ?_) (fun hc => ?_)) <;> first | exact zG hc | skip) | (refine no_implicit_lambda% (ans ?_)) | (with_reducible first | exact zI | exact zJ) | (refine no_implicit_lambda% (cal [] (hr) ?_ ?_)) | fail)
   ·have hr0 : r = false := by simpa using hc
    refine e_ret (H' := []) (rest := _) rfl ⟨(i : Int), ?_, rfl, rfl⟩ permT (LE0 rfl)
    rw [hmem hr0]; simp
   ·have hr0 : r = true := by simpa using hc
    (refine no_implicit_lambda% (k_loopLT (i + 1) 0 [] (⟨hi, by rw [hsucc, h2, hr0]; rfl⟩ : i + 1 ≤ l.length ∧ (l.take (i + 1)).all chB = true) (by first | omega | (simp; done) | (simp; omega)) (LE0 rfl) (fun _ h => h) (fun _ h => h) ?_ ?_)); (focus ((try dsimp only); exact wkl)); (focus ((try dsimp only); exact wkh))
theorem contains8_c (l : List Ch) (h : l.length < 1000000000000) : ACalls Try.prog 75 0 1000 [.list (l.map chrow) .free, .fn 76 []] [] (fun out H' => out = .ret (.v (.bool (!(l.all chB)))) ∧ H' = []) := by
 refine no_implicit_lambda% (acalls_of tok dok (f := 75) ⟨Try.func75, rfl, by kernel_rfl⟩ ?_); refine no_implicit_lambda% (c_start (fun _ h => h) ?_)
 refine no_implicit_lambda% (awd ?_)
 refine no_implicit_lambda% (cal [] (index8_c l h) ?_ ?_)
 ·intro x H' h
  obtain ⟨i, hi, h1, rfl⟩ := h
  cases h1
  first | (refine no_implicit_lambda% (akc ?_)) | (refine no_implicit_lambda% (aec ?_))
  refine no_implicit_lambda% (awd ?_)
  exact e_ret (H' := []) (rest := _) rfl ⟨by rw [← hi]; rfl, rfl⟩ permT (LE0 rfl)
 ·intro x H' h
  obtain ⟨_, _, h', _⟩ := h
  cases h'
def opB (q : Oq) : Bool := if q.k = 1 then nmB q.row else if q.k = 2 then nmB q.row && (rcB q.d && (decide (0 < q.l.length) && (decide (q.l.length ≤ 8) && q.l.all chB))) else if q.k = 3 then spB ⟨q.row, q.hi⟩ && (decide (1 ≤ q.most) && decide (q.most ≤ 16)) else false
theorem opB1 {q : Oq} (h : q.k = 1) : opB q = nmB q.row := by unfold opB; rw [if_pos h]
theorem opB2 {q : Oq} (h : q.k = 2) : opB q = (nmB q.row && (rcB q.d && (decide (0 < q.l.length) && (decide (q.l.length ≤ 8) && q.l.all chB)))) := by unfold opB; rw [if_neg (by omega), if_pos h]
theorem opB3 {q : Oq} (h : q.k = 3) : opB q = (spB ⟨q.row, q.hi⟩ && (decide (1 ≤ q.most) && decide (q.most ≤ 16))) := by unfold opB; rw [if_neg (by omega), if_neg (by omega), if_pos h]
theorem opB0 {q : Oq} (h1 : q.k ≠ 1) (h2 : q.k ≠ 2) (h3 : q.k ≠ 3) : opB q = false := by unfold opB; rw [if_neg h1, if_neg h2, if_neg h3]
end Go.Proofs.Ytncffhgoopdfgaa
