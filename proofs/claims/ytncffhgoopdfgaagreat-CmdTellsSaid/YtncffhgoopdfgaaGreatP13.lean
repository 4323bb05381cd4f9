/- Part 13 of what the laws CmdTells rest on: CtC, CtD. -/
import Derived.Test.YtncffhgoopdfgaaGreatP12
set_option linter.unusedSimpArgs false
set_option linter.unusedVariables false
namespace Go.Proofs.YtncffhgoopdfgaaGreat
open Go.Am
set_option maxRecDepth 100000
def chR (x : Ch) (r : List UInt8) : Option (Ch × List UInt8) := if rightC x = 0 then some (x, r) else none
noncomputable def chK (k : Nat) (r : List UInt8) : Option (Ch × List UInt8) :=
 if k = 4 then chR ⟨4, ⟨#[]⟩, 0, ⟨0, [], 0⟩⟩ r else
 if k = 3 then bnd (pX r) fun s r1 => chR ⟨3, ⟨s.toArray⟩, 0, ⟨0, [], 0⟩⟩ r1 else
 if k = 2 then bnd (pX r) fun s r1 => bnd (pL r1) fun t r2 => chR ⟨2, ⟨s.toArray⟩, IntKind.i64.wrap (t : Int), ⟨0, [], 0⟩⟩ r2 else
 if k = 1 ∨ k = 5 then bnd (pX r) fun s r1 => bnd (pL r1) fun t r2 => bnd (pV r2) fun v r3 => chR ⟨k, ⟨s.toArray⟩, IntKind.i64.wrap (t : Int), v⟩ r3 else none
noncomputable def pCh (l : List UInt8) : Option (Ch × List UInt8) := bnd (pB l) chK
def ChB (x : Ch) : Prop := x.v.b.length ≤ 16 ∧ x.v.n < 18446744073709551616
set_option maxHeartbeats 6400000 in
theorem take5_c (l : List UInt8) (hl : l.length < 281474976710656) : ACalls Tryz.prog 80 1 1000 [.ptr 0 0] (rd l) (fun out H' => (∃ x r, pCh l = some (x, r) ∧ (ChB x ∧ rightC x = 0 ∧ r.length ≤ l.length) ∧ out = .ret (.agg (chrow x)) ∧ H' = rd r) ∨ (pCh l = none ∧ out = gone ∧ H' = [])) := by
 refine no_implicit_lambda% (acalls_of tok dok (f := 80) ⟨Tryz.func80, rfl, by kernel_rfl⟩ ?_); refine no_implicit_lambda% (c_start (fun _ h => h) ?_)
 repeat' (first | (refine no_implicit_lambda% (zH ?_)) | (refine no_implicit_lambda% (spl (fun hc => ?_) (fun hc => ?_)) <;> first | exact zG hc | skip) | (refine no_implicit_lambda% (ans ?_)) | (with_reducible first | exact zI | exact zJ))
 (refine no_implicit_lambda% (cal [0] (rB_c l (by omega)) ?_ ?_))
 rotate_left
 ·intro xx H' hh; rcases hh with ⟨_, _, _, _, h', _⟩ | ⟨hN, h', rfl⟩ <;> first | (cases h'; done) | (cases h'; repeat' (first | (refine no_implicit_lambda% (zH ?_)) | (refine no_implicit_lambda% (spl (fun hc => ?_) (fun hc => ?_)) <;> first | exact zG hc | skip) | (refine no_implicit_lambda% (ans ?_)) | (with_reducible first | exact zI | exact zJ)); exact e_pan (H' := []) (rest := _) (.inr ⟨by (unfold pCh; rw [hN]; rfl), rfl, rfl⟩) permT (LE0 rfl))
 intro xx H' hh
 rcases hh with ⟨N, r0, hB, ⟨hN, hr0⟩, h', rfl⟩ | ⟨_, h', _⟩
 rotate_left
 ·cases h'
 cases h'
 first | (refine no_implicit_lambda% (akc ?_)) | (refine no_implicit_lambda% (aec ?_))
 repeat' (first | (refine no_implicit_lambda% (zH ?_)) | (refine no_implicit_lambda% (spl (fun hc => ?_) (fun hc => ?_)) <;> first | exact zG hc | skip) | (refine no_implicit_lambda% (ans ?_)) | (with_reducible first | exact zI | exact zJ))
 rw [show IntKind.i64.wrap (N : Int) = (N : Int) from z64 (by omega) (by omega)]
 have h0 := asks_c (N : Int)
 have hP : pCh l = chK N r0 := by unfold pCh; rw [hB]; rfl
 have hN5 : N = 1 ∨ N = 5 ∨ N = 2 ∨ N = 3 ∨ N = 4 ∨ ¬ (1 ≤ N ∧ N ≤ 5) := by omega
 rcases hN5 with rfl | rfl | rfl | rfl | rfl | hno
 ·replace hP : pCh l = bnd (pX r0) fun s r1 => bnd (pL r1) fun t r2 => bnd (pV r2) fun v r3 => chR ⟨1, ⟨s.toArray⟩, IntKind.i64.wrap (t : Int), v⟩ r3 := hP
  repeat' (first | (refine no_implicit_lambda% (zH ?_)) | (refine no_implicit_lambda% (spl (fun hc => ?_) (fun hc => ?_)) <;> first | exact zG hc | skip) | (refine no_implicit_lambda% (ans ?_)) | (with_reducible first | exact zI | exact zJ) | (refine no_implicit_lambda% (cal [] (h0) ?_ ?_)) | fail)
  (refine no_implicit_lambda% (cal [0] (rX_c r0 (by omega)) ?_ ?_))
  rotate_left
  ·intro xx H' hh; rcases hh with ⟨_, _, _, _, h', _⟩ | ⟨hN, h', rfl⟩ <;> first | (cases h'; done) | (cases h'; repeat' (first | (refine no_implicit_lambda% (zH ?_)) | (refine no_implicit_lambda% (spl (fun hc => ?_) (fun hc => ?_)) <;> first | exact zG hc | skip) | (refine no_implicit_lambda% (ans ?_)) | (with_reducible first | exact zI | exact zJ)); exact e_pan (H' := []) (rest := _) (.inr ⟨by (rw [hP, hN]; rfl), rfl, rfl⟩) permT (LE0 rfl))
  intro xx H' hh
  rcases hh with ⟨s, r1, hX, ⟨hs16, hr1⟩, h', rfl⟩ | ⟨_, h', _⟩
  rotate_left
  ·cases h'
  cases h'
  first | (refine no_implicit_lambda% (akc ?_)) | (refine no_implicit_lambda% (aec ?_))
  rw [hX, bnd_some] at hP
  repeat' (first | (refine no_implicit_lambda% (zH ?_)) | (refine no_implicit_lambda% (spl (fun hc => ?_) (fun hc => ?_)) <;> first | exact zG hc | skip) | (refine no_implicit_lambda% (ans ?_)) | (with_reducible first | exact zI | exact zJ))
  (refine no_implicit_lambda% (cal [0] (rL_c r1 (by omega)) ?_ ?_))
  rotate_left
  ·intro xx H' hh; rcases hh with ⟨_, _, _, _, h', _⟩ | ⟨hN, h', rfl⟩ <;> first | (cases h'; done) | (cases h'; repeat' (first | (refine no_implicit_lambda% (zH ?_)) | (refine no_implicit_lambda% (spl (fun hc => ?_) (fun hc => ?_)) <;> first | exact zG hc | skip) | (refine no_implicit_lambda% (ans ?_)) | (with_reducible first | exact zI | exact zJ)); exact e_pan (H' := []) (rest := _) (.inr ⟨by (rw [hP, hN]; rfl), rfl, rfl⟩) permT (LE0 rfl))
  intro xx H' hh
  rcases hh with ⟨t, r2, hL, ⟨ht, hr2⟩, h', rfl⟩ | ⟨_, h', _⟩
  rotate_left
  ·cases h'
  cases h'
  first | (refine no_implicit_lambda% (akc ?_)) | (refine no_implicit_lambda% (aec ?_))
  rw [hL, bnd_some] at hP
  repeat' (first | (refine no_implicit_lambda% (zH ?_)) | (refine no_implicit_lambda% (spl (fun hc => ?_) (fun hc => ?_)) <;> first | exact zG hc | skip) | (refine no_implicit_lambda% (ans ?_)) | (with_reducible first | exact zI | exact zJ))
  (refine no_implicit_lambda% (cal [0] (rV_c r2 (by omega)) ?_ ?_))
  rotate_left
  ·intro xx H' hh; rcases hh with ⟨_, _, _, _, h', _⟩ | ⟨hN, h', rfl⟩ <;> first | (cases h'; done) | (cases h'; repeat' (first | (refine no_implicit_lambda% (zH ?_)) | (refine no_implicit_lambda% (spl (fun hc => ?_) (fun hc => ?_)) <;> first | exact zG hc | skip) | (refine no_implicit_lambda% (ans ?_)) | (with_reducible first | exact zI | exact zJ)); exact e_pan (H' := []) (rest := _) (.inr ⟨by (rw [hP, hN]; rfl), rfl, rfl⟩) permT (LE0 rfl))
  intro xx H' hh
  rcases hh with ⟨v, r3, hV, ⟨hv, hr3⟩, h', rfl⟩ | ⟨_, h', _⟩
  rotate_left
  ·cases h'
  cases h'
  first | (refine no_implicit_lambda% (akc ?_)) | (refine no_implicit_lambda% (aec ?_))
  rw [hV, bnd_some] at hP
  repeat' (first | (refine no_implicit_lambda% (zH ?_)) | (refine no_implicit_lambda% (spl (fun hc => ?_) (fun hc => ?_)) <;> first | exact zG hc | skip) | (refine no_implicit_lambda% (ans ?_)) | (with_reducible first | exact zI | exact zJ))
  have hro := right5_c (⟨1, ⟨s.toArray⟩, IntKind.i64.wrap (t : Int), v⟩ : Ch)
  have hfc := fail_c r3
  unfold chR at hP
  repeat' (first | (refine no_implicit_lambda% (zH ?_)) | (refine no_implicit_lambda% (spl (fun hc => ?_) (fun hc => ?_)) <;> first | exact zG hc | skip) | (refine no_implicit_lambda% (ans ?_)) | (with_reducible first | exact zI | exact zJ) | (refine no_implicit_lambda% (cal [] (hro) ?_ ?_)) | fail)
  ·have hb : rightC (⟨1, ⟨s.toArray⟩, IntKind.i64.wrap (t : Int), v⟩ : Ch) ≠ 0 := by simpa using hc
   rw [if_neg hb] at hP
   (refine no_implicit_lambda% (cal [0] (hfc) ?_ ?_))
   ·first | (exact zI) | (exact zJ)
   ·intro xx H' hh
    obtain ⟨h', rfl⟩ := hh
    cases h'
    repeat' (first | (refine no_implicit_lambda% (zH ?_)) | (refine no_implicit_lambda% (spl (fun hc => ?_) (fun hc => ?_)) <;> first | exact zG hc | skip) | (refine no_implicit_lambda% (ans ?_)) | (with_reducible first | exact zI | exact zJ))
    exact e_pan (H' := []) (rest := _) (.inr ⟨hP, rfl, rfl⟩) permT (LE0 rfl)
  ·have hb : rightC (⟨1, ⟨s.toArray⟩, IntKind.i64.wrap (t : Int), v⟩ : Ch) = 0 := by simpa using hc
   rw [if_pos hb] at hP
   refine e_ret_to (H' := rd r3) (rest := [(1, .box (chrow (⟨1, ⟨s.toArray⟩, IntKind.i64.wrap (t : Int), v⟩ : Ch)))]) (Conv.toT (τ := ⟨_, [(1, .box (chrow (⟨1, ⟨s.toArray⟩, IntKind.i64.wrap (t : Int), v⟩ : Ch))), (0, .box [.list (r3.map brow) .free])], _⟩) (.refl _) ?_ (Nat.le_refl _)) rfl (.inl ⟨(⟨1, ⟨s.toArray⟩, IntKind.i64.wrap (t : Int), v⟩ : Ch), r3, hP, ⟨hv, hb, (by omega)⟩, rfl, rfl⟩) permT (LE0 rfl)
   exact wkh
 ·replace hP : pCh l = bnd (pX r0) fun s r1 => bnd (pL r1) fun t r2 => bnd (pV r2) fun v r3 => chR ⟨5, ⟨s.toArray⟩, IntKind.i64.wrap (t : Int), v⟩ r3 := hP
  repeat' (first | (refine no_implicit_lambda% (zH ?_)) | (refine no_implicit_lambda% (spl (fun hc => ?_) (fun hc => ?_)) <;> first | exact zG hc | skip) | (refine no_implicit_lambda% (ans ?_)) | (with_reducible first | exact zI | exact zJ) | (refine no_implicit_lambda% (cal [] (h0) ?_ ?_)) | fail)
  (refine no_implicit_lambda% (cal [0] (rX_c r0 (by omega)) ?_ ?_))
  rotate_left
  ·intro xx H' hh; rcases hh with ⟨_, _, _, _, h', _⟩ | ⟨hN, h', rfl⟩ <;> first | (cases h'; done) | (cases h'; repeat' (first | (refine no_implicit_lambda% (zH ?_)) | (refine no_implicit_lambda% (spl (fun hc => ?_) (fun hc => ?_)) <;> first | exact zG hc | skip) | (refine no_implicit_lambda% (ans ?_)) | (with_reducible first | exact zI | exact zJ)); exact e_pan (H' := []) (rest := _) (.inr ⟨by (rw [hP, hN]; rfl), rfl, rfl⟩) permT (LE0 rfl))
  intro xx H' hh
  rcases hh with ⟨s, r1, hX, ⟨hs16, hr1⟩, h', rfl⟩ | ⟨_, h', _⟩
  rotate_left
  ·cases h'
  cases h'
  first | (refine no_implicit_lambda% (akc ?_)) | (refine no_implicit_lambda% (aec ?_))
  rw [hX, bnd_some] at hP
  repeat' (first | (refine no_implicit_lambda% (zH ?_)) | (refine no_implicit_lambda% (spl (fun hc => ?_) (fun hc => ?_)) <;> first | exact zG hc | skip) | (refine no_implicit_lambda% (ans ?_)) | (with_reducible first | exact zI | exact zJ))
  (refine no_implicit_lambda% (cal [0] (rL_c r1 (by omega)) ?_ ?_))
  rotate_left
  ·intro xx H' hh; rcases hh with ⟨_, _, _, _, h', _⟩ | ⟨hN, h', rfl⟩ <;> first | (cases h'; done) | (cases h'; repeat' (first | (refine no_implicit_lambda% (zH ?_)) | (refine no_implicit_lambda% (spl (fun hc => ?_) (fun hc => ?_)) <;> first | exact zG hc | skip) | (refine no_implicit_lambda% (ans ?_)) | (with_reducible first | exact zI | exact zJ)); exact e_pan (H' := []) (rest := _) (.inr ⟨by (rw [hP, hN]; rfl), rfl, rfl⟩) permT (LE0 rfl))
  intro xx H' hh
  rcases hh with ⟨t, r2, hL, ⟨ht, hr2⟩, h', rfl⟩ | ⟨_, h', _⟩
  rotate_left
  ·cases h'
  cases h'
  first | (refine no_implicit_lambda% (akc ?_)) | (refine no_implicit_lambda% (aec ?_))
  rw [hL, bnd_some] at hP
  repeat' (first | (refine no_implicit_lambda% (zH ?_)) | (refine no_implicit_lambda% (spl (fun hc => ?_) (fun hc => ?_)) <;> first | exact zG hc | skip) | (refine no_implicit_lambda% (ans ?_)) | (with_reducible first | exact zI | exact zJ))
  (refine no_implicit_lambda% (cal [0] (rV_c r2 (by omega)) ?_ ?_))
  rotate_left
  ·intro xx H' hh; rcases hh with ⟨_, _, _, _, h', _⟩ | ⟨hN, h', rfl⟩ <;> first | (cases h'; done) | (cases h'; repeat' (first | (refine no_implicit_lambda% (zH ?_)) | (refine no_implicit_lambda% (spl (fun hc => ?_) (fun hc => ?_)) <;> first | exact zG hc | skip) | (refine no_implicit_lambda% (ans ?_)) | (with_reducible first | exact zI | exact zJ)); exact e_pan (H' := []) (rest := _) (.inr ⟨by (rw [hP, hN]; rfl), rfl, rfl⟩) permT (LE0 rfl))
  intro xx H' hh
  rcases hh with ⟨v, r3, hV, ⟨hv, hr3⟩, h', rfl⟩ | ⟨_, h', _⟩
  rotate_left
  ·cases h'
  cases h'
  first | (refine no_implicit_lambda% (akc ?_)) | (refine no_implicit_lambda% (aec ?_))
  rw [hV, bnd_some] at hP
  repeat' (first | (refine no_implicit_lambda% (zH ?_)) | (refine no_implicit_lambda% (spl (fun hc => ?_) (fun hc => ?_)) <;> first | exact zG hc | skip) | (refine no_implicit_lambda% (ans ?_)) | (with_reducible first | exact zI | exact zJ))
  have hro := right5_c (⟨5, ⟨s.toArray⟩, IntKind.i64.wrap (t : Int), v⟩ : Ch)
  have hfc := fail_c r3
  unfold chR at hP
  repeat' (first | (refine no_implicit_lambda% (zH ?_)) | (refine no_implicit_lambda% (spl (fun hc => ?_) (fun hc => ?_)) <;> first | exact zG hc | skip) | (refine no_implicit_lambda% (ans ?_)) | (with_reducible first | exact zI | exact zJ) | (refine no_implicit_lambda% (cal [] (hro) ?_ ?_)) | fail)
  ·have hb : rightC (⟨5, ⟨s.toArray⟩, IntKind.i64.wrap (t : Int), v⟩ : Ch) ≠ 0 := by simpa using hc
   rw [if_neg hb] at hP
   (refine no_implicit_lambda% (cal [0] (hfc) ?_ ?_))
   ·first | (exact zI) | (exact zJ)
   ·intro xx H' hh
    obtain ⟨h', rfl⟩ := hh
    cases h'
    repeat' (first | (refine no_implicit_lambda% (zH ?_)) | (refine no_implicit_lambda% (spl (fun hc => ?_) (fun hc => ?_)) <;> first | exact zG hc | skip) | (refine no_implicit_lambda% (ans ?_)) | (with_reducible first | exact zI | exact zJ))
    exact e_pan (H' := []) (rest := _) (.inr ⟨hP, rfl, rfl⟩) permT (LE0 rfl)
  ·have hb : rightC (⟨5, ⟨s.toArray⟩, IntKind.i64.wrap (t : Int), v⟩ : Ch) = 0 := by simpa using hc
   rw [if_pos hb] at hP
   refine e_ret_to (H' := rd r3) (rest := [(1, .box (chrow (⟨5, ⟨s.toArray⟩, IntKind.i64.wrap (t : Int), v⟩ : Ch)))]) (Conv.toT (τ := ⟨_, [(1, .box (chrow (⟨5, ⟨s.toArray⟩, IntKind.i64.wrap (t : Int), v⟩ : Ch))), (0, .box [.list (r3.map brow) .free])], _⟩) (.refl _) ?_ (Nat.le_refl _)) rfl (.inl ⟨(⟨5, ⟨s.toArray⟩, IntKind.i64.wrap (t : Int), v⟩ : Ch), r3, hP, ⟨hv, hb, (by omega)⟩, rfl, rfl⟩) permT (LE0 rfl)
   exact wkh
 ·replace hP : pCh l = bnd (pX r0) fun s r1 => bnd (pL r1) fun t r2 => chR ⟨2, ⟨s.toArray⟩, IntKind.i64.wrap (t : Int), ⟨0, [], 0⟩⟩ r2 := hP
  repeat' (first | (refine no_implicit_lambda% (zH ?_)) | (refine no_implicit_lambda% (spl (fun hc => ?_) (fun hc => ?_)) <;> first | exact zG hc | skip) | (refine no_implicit_lambda% (ans ?_)) | (with_reducible first | exact zI | exact zJ) | (refine no_implicit_lambda% (cal [] (h0) ?_ ?_)) | fail)
  (refine no_implicit_lambda% (cal [0] (rX_c r0 (by omega)) ?_ ?_))
  rotate_left
  ·intro xx H' hh; rcases hh with ⟨_, _, _, _, h', _⟩ | ⟨hN, h', rfl⟩ <;> first | (cases h'; done) | (cases h'; repeat' (first | (refine no_implicit_lambda% (zH ?_)) | (refine no_implicit_lambda% (spl (fun hc => ?_) (fun hc => ?_)) <;> first | exact zG hc | skip) | (refine no_implicit_lambda% (ans ?_)) | (with_reducible first | exact zI | exact zJ)); exact e_pan (H' := []) (rest := _) (.inr ⟨by (rw [hP, hN]; rfl), rfl, rfl⟩) permT (LE0 rfl))
  intro xx H' hh
  rcases hh with ⟨s, r1, hX, ⟨hs16, hr1⟩, h', rfl⟩ | ⟨_, h', _⟩
  rotate_left
  ·cases h'
  cases h'
  first | (refine no_implicit_lambda% (akc ?_)) | (refine no_implicit_lambda% (aec ?_))
  rw [hX, bnd_some] at hP
  repeat' (first | (refine no_implicit_lambda% (zH ?_)) | (refine no_implicit_lambda% (spl (fun hc => ?_) (fun hc => ?_)) <;> first | exact zG hc | skip) | (refine no_implicit_lambda% (ans ?_)) | (with_reducible first | exact zI | exact zJ))
  (refine no_implicit_lambda% (cal [0] (rL_c r1 (by omega)) ?_ ?_))
  rotate_left
  ·intro xx H' hh; rcases hh with ⟨_, _, _, _, h', _⟩ | ⟨hN, h', rfl⟩ <;> first | (cases h'; done) | (cases h'; repeat' (first | (refine no_implicit_lambda% (zH ?_)) | (refine no_implicit_lambda% (spl (fun hc => ?_) (fun hc => ?_)) <;> first | exact zG hc | skip) | (refine no_implicit_lambda% (ans ?_)) | (with_reducible first | exact zI | exact zJ)); exact e_pan (H' := []) (rest := _) (.inr ⟨by (rw [hP, hN]; rfl), rfl, rfl⟩) permT (LE0 rfl))
  intro xx H' hh
  rcases hh with ⟨t, r2, hL, ⟨ht, hr2⟩, h', rfl⟩ | ⟨_, h', _⟩
  rotate_left
  ·cases h'
  cases h'
  first | (refine no_implicit_lambda% (akc ?_)) | (refine no_implicit_lambda% (aec ?_))
  rw [hL, bnd_some] at hP
  repeat' (first | (refine no_implicit_lambda% (zH ?_)) | (refine no_implicit_lambda% (spl (fun hc => ?_) (fun hc => ?_)) <;> first | exact zG hc | skip) | (refine no_implicit_lambda% (ans ?_)) | (with_reducible first | exact zI | exact zJ))
  have hro := right5_c (⟨2, ⟨s.toArray⟩, IntKind.i64.wrap (t : Int), ⟨0, [], 0⟩⟩ : Ch)
  have hfc := fail_c r2
  unfold chR at hP
  repeat' (first | (refine no_implicit_lambda% (zH ?_)) | (refine no_implicit_lambda% (spl (fun hc => ?_) (fun hc => ?_)) <;> first | exact zG hc | skip) | (refine no_implicit_lambda% (ans ?_)) | (with_reducible first | exact zI | exact zJ))
  (refine no_implicit_lambda% (calw [] (hro) ?_ ?_))
  rotate_left
  ·first | (exact zI) | (exact zJ)
  refine no_implicit_lambda% (ret1 ?_); first | (refine no_implicit_lambda% (akc ?_)) | (refine no_implicit_lambda% (aec ?_))
  repeat' (first | (refine no_implicit_lambda% (zH ?_)) | (refine no_implicit_lambda% (spl (fun hc => ?_) (fun hc => ?_)) <;> first | exact zG hc | skip) | (refine no_implicit_lambda% (ans ?_)) | (with_reducible first | exact zI | exact zJ))
  ·have hb : rightC (⟨2, ⟨s.toArray⟩, IntKind.i64.wrap (t : Int), ⟨0, [], 0⟩⟩ : Ch) ≠ 0 := by simpa using hc
   rw [if_neg hb] at hP
   (refine no_implicit_lambda% (cal [0] (hfc) ?_ ?_))
   ·first | (exact zI) | (exact zJ)
   ·intro xx H' hh
    obtain ⟨h', rfl⟩ := hh
    cases h'
    repeat' (first | (refine no_implicit_lambda% (zH ?_)) | (refine no_implicit_lambda% (spl (fun hc => ?_) (fun hc => ?_)) <;> first | exact zG hc | skip) | (refine no_implicit_lambda% (ans ?_)) | (with_reducible first | exact zI | exact zJ))
    exact e_pan (H' := []) (rest := _) (.inr ⟨hP, rfl, rfl⟩) permT (LE0 rfl)
  ·have hb : rightC (⟨2, ⟨s.toArray⟩, IntKind.i64.wrap (t : Int), ⟨0, [], 0⟩⟩ : Ch) = 0 := by simpa using hc
   rw [if_pos hb] at hP
   refine e_ret_to (H' := rd r2) (rest := [(1, .box (chrow (⟨2, ⟨s.toArray⟩, IntKind.i64.wrap (t : Int), ⟨0, [], 0⟩⟩ : Ch)))]) (Conv.toT (τ := ⟨_, [(1, .box (chrow (⟨2, ⟨s.toArray⟩, IntKind.i64.wrap (t : Int), ⟨0, [], 0⟩⟩ : Ch))), (0, .box [.list (r2.map brow) .free])], _⟩) (.refl _) ?_ (Nat.le_refl _)) rfl (.inl ⟨(⟨2, ⟨s.toArray⟩, IntKind.i64.wrap (t : Int), ⟨0, [], 0⟩⟩ : Ch), r2, hP, ⟨⟨Nat.zero_le _, (by show (0 : Nat) < 18446744073709551616; decide)⟩, hb, (by omega)⟩, rfl, rfl⟩) permT (LE0 rfl)
   exact wkh
 ·replace hP : pCh l = bnd (pX r0) fun s r1 => chR ⟨3, ⟨s.toArray⟩, 0, ⟨0, [], 0⟩⟩ r1 := hP
  repeat' (first | (refine no_implicit_lambda% (zH ?_)) | (refine no_implicit_lambda% (spl (fun hc => ?_) (fun hc => ?_)) <;> first | exact zG hc | skip) | (refine no_implicit_lambda% (ans ?_)) | (with_reducible first | exact zI | exact zJ) | (refine no_implicit_lambda% (cal [] (h0) ?_ ?_)) | fail)
  (refine no_implicit_lambda% (cal [0] (rX_c r0 (by omega)) ?_ ?_))
  rotate_left
  ·intro xx H' hh; rcases hh with ⟨_, _, _, _, h', _⟩ | ⟨hN, h', rfl⟩ <;> first | (cases h'; done) | (cases h'; repeat' (first | (refine no_implicit_lambda% (zH ?_)) | (refine no_implicit_lambda% (spl (fun hc => ?_) (fun hc => ?_)) <;> first | exact zG hc | skip) | (refine no_implicit_lambda% (ans ?_)) | (with_reducible first | exact zI | exact zJ)); exact e_pan (H' := []) (rest := _) (.inr ⟨by (rw [hP, hN]; rfl), rfl, rfl⟩) permT (LE0 rfl))
  intro xx H' hh
  rcases hh with ⟨s, r1, hX, ⟨hs16, hr1⟩, h', rfl⟩ | ⟨_, h', _⟩
  rotate_left
  ·cases h'
  cases h'
  first | (refine no_implicit_lambda% (akc ?_)) | (refine no_implicit_lambda% (aec ?_))
  rw [hX, bnd_some] at hP
  repeat' (first | (refine no_implicit_lambda% (zH ?_)) | (refine no_implicit_lambda% (spl (fun hc => ?_) (fun hc => ?_)) <;> first | exact zG hc | skip) | (refine no_implicit_lambda% (ans ?_)) | (with_reducible first | exact zI | exact zJ))
  have hro := right5_c (⟨3, ⟨s.toArray⟩, 0, ⟨0, [], 0⟩⟩ : Ch)
  have hfc := fail_c r1
  unfold chR at hP
  repeat' (first | (refine no_implicit_lambda% (zH ?_)) | (refine no_implicit_lambda% (spl (fun hc => ?_) (fun hc => ?_)) <;> first | exact zG hc | skip) | (refine no_implicit_lambda% (ans ?_)) | (with_reducible first | exact zI | exact zJ))
  (refine no_implicit_lambda% (calw [] (hro) ?_ ?_))
  rotate_left
  ·first | (exact zI) | (exact zJ)
  refine no_implicit_lambda% (ret1 ?_); first | (refine no_implicit_lambda% (akc ?_)) | (refine no_implicit_lambda% (aec ?_))
  repeat' (first | (refine no_implicit_lambda% (zH ?_)) | (refine no_implicit_lambda% (spl (fun hc => ?_) (fun hc => ?_)) <;> first | exact zG hc | skip) | (refine no_implicit_lambda% (ans ?_)) | (with_reducible first | exact zI | exact zJ))
  ·have hb : rightC (⟨3, ⟨s.toArray⟩, 0, ⟨0, [], 0⟩⟩ : Ch) ≠ 0 := by simpa using hc
   rw [if_neg hb] at hP
   (refine no_implicit_lambda% (cal [0] (hfc) ?_ ?_))
   ·first | (exact zI) | (exact zJ)
   ·intro xx H' hh
    obtain ⟨h', rfl⟩ := hh
    cases h'
    repeat' (first | (refine no_implicit_lambda% (zH ?_)) | (refine no_implicit_lambda% (spl (fun hc => ?_) (fun hc => ?_)) <;> first | exact zG hc | skip) | (refine no_implicit_lambda% (ans ?_)) | (with_reducible first | exact zI | exact zJ))
    exact e_pan (H' := []) (rest := _) (.inr ⟨hP, rfl, rfl⟩) permT (LE0 rfl)
  ·have hb : rightC (⟨3, ⟨s.toArray⟩, 0, ⟨0, [], 0⟩⟩ : Ch) = 0 := by simpa using hc
   rw [if_pos hb] at hP
   refine e_ret_to (H' := rd r1) (rest := [(1, .box (chrow (⟨3, ⟨s.toArray⟩, 0, ⟨0, [], 0⟩⟩ : Ch)))]) (Conv.toT (τ := ⟨_, [(1, .box (chrow (⟨3, ⟨s.toArray⟩, 0, ⟨0, [], 0⟩⟩ : Ch))), (0, .box [.list (r1.map brow) .free])], _⟩) (.refl _) ?_ (Nat.le_refl _)) rfl (.inl ⟨(⟨3, ⟨s.toArray⟩, 0, ⟨0, [], 0⟩⟩ : Ch), r1, hP, ⟨⟨Nat.zero_le _, (by show (0 : Nat) < 18446744073709551616; decide)⟩, hb, (by omega)⟩, rfl, rfl⟩) permT (LE0 rfl)
   exact wkh
 ·replace hP : pCh l = chR ⟨4, ⟨#[]⟩, 0, ⟨0, [], 0⟩⟩ r0 := hP
  repeat' (first | (refine no_implicit_lambda% (zH ?_)) | (refine no_implicit_lambda% (spl (fun hc => ?_) (fun hc => ?_)) <;> first | exact zG hc | skip) | (refine no_implicit_lambda% (ans ?_)) | (with_reducible first | exact zI | exact zJ) | (refine no_implicit_lambda% (cal [] (h0) ?_ ?_)) | fail)
  have hro := right5_c (⟨4, ⟨#[]⟩, 0, ⟨0, [], 0⟩⟩ : Ch)
  have hb : rightC (⟨4, ⟨#[]⟩, 0, ⟨0, [], 0⟩⟩ : Ch) = 0 := rfl
  unfold chR at hP
  rw [if_pos hb] at hP
  rw [hb] at hro
  repeat' (first | (refine no_implicit_lambda% (zH ?_)) | (refine no_implicit_lambda% (spl (fun hc => ?_) (fun hc => ?_)) <;> first | exact zG hc | skip) | (refine no_implicit_lambda% (ans ?_)) | (with_reducible first | exact zI | exact zJ))
  (refine no_implicit_lambda% (calw [] (hro) ?_ ?_))
  rotate_left
  ·first | (exact zI) | (exact zJ)
  refine no_implicit_lambda% (ret1 ?_); first | (refine no_implicit_lambda% (akc ?_)) | (refine no_implicit_lambda% (aec ?_))
  repeat' (first | (refine no_implicit_lambda% (zH ?_)) | (refine no_implicit_lambda% (spl (fun hc => ?_) (fun hc => ?_)) <;> first | exact zG hc | skip) | (refine no_implicit_lambda% (ans ?_)) | (with_reducible first | exact zI | exact zJ))
  refine e_ret_to (H' := rd r0) (rest := [(1, .box (chrow (⟨4, ⟨#[]⟩, 0, ⟨0, [], 0⟩⟩ : Ch)))]) (Conv.toT (τ := ⟨_, [(1, .box (chrow (⟨4, ⟨#[]⟩, 0, ⟨0, [], 0⟩⟩ : Ch))), (0, .box [.list (r0.map brow) .free])], _⟩) (.refl _) ?_ (Nat.le_refl _)) rfl (.inl ⟨(⟨4, ⟨#[]⟩, 0, ⟨0, [], 0⟩⟩ : Ch), r0, hP, ⟨⟨Nat.zero_le _, (by show (0 : Nat) < 18446744073709551616; decide)⟩, hb, hr0⟩, rfl, rfl⟩) permT (LE0 rfl)
  exact wkh
 ·replace hP : pCh l = none := by rw [hP]; unfold chK; rw [if_neg (by omega), if_neg (by omega), if_neg (by omega), if_neg (by omega)]
  have ha : askC (N : Int) = (false, false, false, false) := by unfold askC; rw [if_neg (by omega), if_neg (by omega), if_neg (by omega), if_neg (by omega)]
  rw [ha] at h0
  have hro := right5_c (⟨(N : Int), ⟨#[]⟩, 0, ⟨0, [], 0⟩⟩ : Ch)
  have hne : rightC (⟨(N : Int), ⟨#[]⟩, 0, ⟨0, [], 0⟩⟩ : Ch) = 24 := by unfold rightC; rw [if_pos (by show (N : Int) < 1 ∨ 5 < (N : Int); omega)]
  rw [hne] at hro
  repeat' (first | (refine no_implicit_lambda% (zH ?_)) | (refine no_implicit_lambda% (spl (fun hc => ?_) (fun hc => ?_)) <;> first | exact zG hc | skip) | (refine no_implicit_lambda% (ans ?_)) | (with_reducible first | exact zI | exact zJ) | (refine no_implicit_lambda% (cal [] (h0) ?_ ?_)) | fail)
  (refine no_implicit_lambda% (calw [] (hro) ?_ ?_))
  rotate_left
  ·first | (exact zI) | (exact zJ)
  refine no_implicit_lambda% (ret1 ?_); first | (refine no_implicit_lambda% (akc ?_)) | (refine no_implicit_lambda% (aec ?_))
  repeat' (first | (refine no_implicit_lambda% (zH ?_)) | (refine no_implicit_lambda% (spl (fun hc => ?_) (fun hc => ?_)) <;> first | exact zG hc | skip) | (refine no_implicit_lambda% (ans ?_)) | (with_reducible first | exact zI | exact zJ))
  (refine no_implicit_lambda% (cal [0] (fail_c r0) ?_ ?_))
  ·first | (exact zI) | (exact zJ)
  ·intro xx H' hh
   obtain ⟨h', rfl⟩ := hh
   cases h'
   repeat' (first | (refine no_implicit_lambda% (zH ?_)) | (refine no_implicit_lambda% (spl (fun hc => ?_) (fun hc => ?_)) <;> first | exact zG hc | skip) | (refine no_implicit_lambda% (ans ?_)) | (with_reducible first | exact zI | exact zJ))
   exact e_pan (H' := []) (rest := _) (.inr ⟨hP, rfl, rfl⟩) permT (LE0 rfl)
def cdR (d : Cd) (r : List UInt8) : Option (Cd × List UInt8) := if nmB d.c then some (d, r) else none
noncomputable def cdK (k : Nat) (r : List UInt8) : Option (Cd × List UInt8) :=
 if k = 0 then some (⟨false, false, ⟨#[]⟩, ⟨0, [], 0⟩⟩, r) else
 if k = 1 then bnd (pX r) fun s r1 => cdR ⟨true, false, ⟨s.toArray⟩, ⟨0, [], 0⟩⟩ r1 else
 if k = 2 then bnd (pX r) fun s r1 => bnd (pV r1) fun v r2 => cdR ⟨true, true, ⟨s.toArray⟩, v⟩ r2 else none
noncomputable def pCd (l : List UInt8) : Option (Cd × List UInt8) := bnd (pB l) cdK
def CdB (d : Cd) : Prop := d.v.b.length ≤ 16 ∧ d.v.n < 18446744073709551616
theorem pV_right {l r : List UInt8} {v : Va} (h : pV l = some (v, r)) : vRt v = true := by
 unfold pV at h
 split at h
 ·rename_i hx
  have e : hx.choose = (v, r) := Option.some.inj h
  have hg := hx.choose_spec
  rw [e] at hg
  obtain ⟨_, ⟨_, h2, h3, _⟩ | ⟨_, _, h3, _⟩⟩ := hg
  ·have h4 := h2.2.2.1 (by decide)
   change v = _ at h3
   unfold vRt
   rw [h3]
   simp only [List.length_take, beq_self_eq_true, Bool.true_and, Bool.or_eq_true, decide_eq_true_eq]
   left; omega
  ·change v = _ at h3
   unfold vRt
   rw [h3]; rfl
 ·cases h
set_option maxHeartbeats 6400000 in
theorem takecd_c (l : List UInt8) (hl : l.length < 281474976710656) : ACalls Tryz.prog 82 1 1000 [.ptr 0 0] (rd l) (fun out H' => (∃ x r, pCd l = some (x, r) ∧ (CdB x ∧ r.length ≤ l.length) ∧ out = .ret (.agg (cdrow x)) ∧ H' = rd r) ∨ (pCd l = none ∧ out = gone ∧ H' = [])) := by
 refine no_implicit_lambda% (acalls_of tok dok (f := 82) ⟨Tryz.func82, rfl, by kernel_rfl⟩ ?_); refine no_implicit_lambda% (c_start (fun _ h => h) ?_)
 repeat' (first | (refine no_implicit_lambda% (zH ?_)) | (refine no_implicit_lambda% (spl (fun hc => ?_) (fun hc => ?_)) <;> first | exact zG hc | skip) | (refine no_implicit_lambda% (ans ?_)) | (with_reducible first | exact zI | exact zJ))
 (refine no_implicit_lambda% (cal [0] (rB_c l (by omega)) ?_ ?_))
 rotate_left
 ·intro xx H' hh; rcases hh with ⟨_, _, _, _, h', _⟩ | ⟨hN, h', rfl⟩ <;> first | (cases h'; done) | (cases h'; repeat' (first | (refine no_implicit_lambda% (zH ?_)) | (refine no_implicit_lambda% (spl (fun hc => ?_) (fun hc => ?_)) <;> first | exact zG hc | skip) | (refine no_implicit_lambda% (ans ?_)) | (with_reducible first | exact zI | exact zJ)); exact e_pan (H' := []) (rest := _) (.inr ⟨by (unfold pCd; rw [hN]; rfl), rfl, rfl⟩) permT (LE0 rfl))
 intro xx H' hh
 rcases hh with ⟨N, r0, hB, ⟨hN, hr0⟩, h', rfl⟩ | ⟨_, h', _⟩
 rotate_left
 ·cases h'
 cases h'
 first | (refine no_implicit_lambda% (akc ?_)) | (refine no_implicit_lambda% (aec ?_))
 have hP : pCd l = cdK N r0 := by unfold pCd; rw [hB]; rfl
 have hN5 : N = 0 ∨ N = 1 ∨ N = 2 ∨ 2 < N := by omega
 rcases hN5 with rfl | rfl | rfl | hno
 ·replace hP : pCd l = some ((⟨false, false, ⟨#[]⟩, ⟨0, [], 0⟩⟩ : Cd), r0) := hP
  repeat' (first | (refine no_implicit_lambda% (zH ?_)) | (refine no_implicit_lambda% (spl (fun hc => ?_) (fun hc => ?_)) <;> first | exact zG hc | skip) | (refine no_implicit_lambda% (ans ?_)) | (with_reducible first | exact zI | exact zJ))
  refine e_ret_to (H' := rd r0) (rest := [(1, .box (cdrow (⟨false, false, ⟨#[]⟩, ⟨0, [], 0⟩⟩ : Cd)))]) (Conv.toT (τ := ⟨_, [(1, .box (cdrow (⟨false, false, ⟨#[]⟩, ⟨0, [], 0⟩⟩ : Cd))), (0, .box [.list (r0.map brow) .free])], _⟩) (.refl _) ?_ (Nat.le_refl _)) rfl (.inl ⟨(⟨false, false, ⟨#[]⟩, ⟨0, [], 0⟩⟩ : Cd), r0, hP, ⟨⟨Nat.zero_le _, (by show (0 : Nat) < 18446744073709551616; decide)⟩, hr0⟩, rfl, rfl⟩) permT (LE0 rfl)
  exact wkh
 ·replace hP : pCd l = bnd (pX r0) fun s r1 => cdR ⟨true, false, ⟨s.toArray⟩, ⟨0, [], 0⟩⟩ r1 := hP
  repeat' (first | (refine no_implicit_lambda% (zH ?_)) | (refine no_implicit_lambda% (spl (fun hc => ?_) (fun hc => ?_)) <;> first | exact zG hc | skip) | (refine no_implicit_lambda% (ans ?_)) | (with_reducible first | exact zI | exact zJ))
  (refine no_implicit_lambda% (cal [0] (rX_c r0 (by omega)) ?_ ?_))
  rotate_left
  ·intro xx H' hh; rcases hh with ⟨_, _, _, _, h', _⟩ | ⟨hN, h', rfl⟩ <;> first | (cases h'; done) | (cases h'; repeat' (first | (refine no_implicit_lambda% (zH ?_)) | (refine no_implicit_lambda% (spl (fun hc => ?_) (fun hc => ?_)) <;> first | exact zG hc | skip) | (refine no_implicit_lambda% (ans ?_)) | (with_reducible first | exact zI | exact zJ)); exact e_pan (H' := []) (rest := _) (.inr ⟨by (rw [hP, hN]; rfl), rfl, rfl⟩) permT (LE0 rfl))
  intro xx H' hh
  rcases hh with ⟨s, r1, hX, ⟨hs16, hr1⟩, h', rfl⟩ | ⟨_, h', _⟩
  rotate_left
  ·cases h'
  cases h'
  first | (refine no_implicit_lambda% (akc ?_)) | (refine no_implicit_lambda% (aec ?_))
  rw [hX, bnd_some] at hP
  repeat' (first | (refine no_implicit_lambda% (zH ?_)) | (refine no_implicit_lambda% (spl (fun hc => ?_) (fun hc => ?_)) <;> first | exact zG hc | skip) | (refine no_implicit_lambda% (ans ?_)) | (with_reducible first | exact zI | exact zJ))
  have hro := name_c (⟨s.toArray⟩ : ByteArray)
  have hfc := fail_c r1
  unfold cdR at hP
  dsimp only at hP
  repeat' (first | (refine no_implicit_lambda% (zH ?_)) | (refine no_implicit_lambda% (spl (fun hc => ?_) (fun hc => ?_)) <;> first | exact zG hc | skip) | (refine no_implicit_lambda% (ans ?_)) | (with_reducible first | exact zI | exact zJ) | (refine no_implicit_lambda% (cal [] (hro) ?_ ?_)) | fail)
  ·have hb : nmB (⟨s.toArray⟩ : ByteArray) = false := by simpa using hc
   rw [hb, if_neg (by simp)] at hP
   (refine no_implicit_lambda% (cal [0] (hfc) ?_ ?_))
   ·first | (exact zI) | (exact zJ)
   ·intro xx H' hh
    obtain ⟨h', rfl⟩ := hh
    cases h'
    repeat' (first | (refine no_implicit_lambda% (zH ?_)) | (refine no_implicit_lambda% (spl (fun hc => ?_) (fun hc => ?_)) <;> first | exact zG hc | skip) | (refine no_implicit_lambda% (ans ?_)) | (with_reducible first | exact zI | exact zJ))
    exact e_pan (H' := []) (rest := _) (.inr ⟨hP, rfl, rfl⟩) permT (LE0 rfl)
  ·have hb : nmB (⟨s.toArray⟩ : ByteArray) = true := by simpa using hc
   rw [hb, if_pos rfl] at hP
   refine e_ret_to (H' := rd r1) (rest := [(1, .box (cdrow (⟨true, false, ⟨s.toArray⟩, ⟨0, [], 0⟩⟩ : Cd)))]) (Conv.toT (τ := ⟨_, [(1, .box (cdrow (⟨true, false, ⟨s.toArray⟩, ⟨0, [], 0⟩⟩ : Cd))), (0, .box [.list (r1.map brow) .free])], _⟩) (.refl _) ?_ (Nat.le_refl _)) rfl (.inl ⟨(⟨true, false, ⟨s.toArray⟩, ⟨0, [], 0⟩⟩ : Cd), r1, hP, ⟨⟨Nat.zero_le _, (by show (0 : Nat) < 18446744073709551616; decide)⟩, by omega⟩, rfl, rfl⟩) permT (LE0 rfl)
   exact wkh
 ·replace hP : pCd l = bnd (pX r0) fun s r1 => bnd (pV r1) fun v r2 => cdR ⟨true, true, ⟨s.toArray⟩, v⟩ r2 := hP
  repeat' (first | (refine no_implicit_lambda% (zH ?_)) | (refine no_implicit_lambda% (spl (fun hc => ?_) (fun hc => ?_)) <;> first | exact zG hc | skip) | (refine no_implicit_lambda% (ans ?_)) | (with_reducible first | exact zI | exact zJ))
  (refine no_implicit_lambda% (cal [0] (rX_c r0 (by omega)) ?_ ?_))
  rotate_left
  ·intro xx H' hh; rcases hh with ⟨_, _, _, _, h', _⟩ | ⟨hN, h', rfl⟩ <;> first | (cases h'; done) | (cases h'; repeat' (first | (refine no_implicit_lambda% (zH ?_)) | (refine no_implicit_lambda% (spl (fun hc => ?_) (fun hc => ?_)) <;> first | exact zG hc | skip) | (refine no_implicit_lambda% (ans ?_)) | (with_reducible first | exact zI | exact zJ)); exact e_pan (H' := []) (rest := _) (.inr ⟨by (rw [hP, hN]; rfl), rfl, rfl⟩) permT (LE0 rfl))
  intro xx H' hh
  rcases hh with ⟨s, r1, hX, ⟨hs16, hr1⟩, h', rfl⟩ | ⟨_, h', _⟩
  rotate_left
  ·cases h'
  cases h'
  first | (refine no_implicit_lambda% (akc ?_)) | (refine no_implicit_lambda% (aec ?_))
  rw [hX, bnd_some] at hP
  repeat' (first | (refine no_implicit_lambda% (zH ?_)) | (refine no_implicit_lambda% (spl (fun hc => ?_) (fun hc => ?_)) <;> first | exact zG hc | skip) | (refine no_implicit_lambda% (ans ?_)) | (with_reducible first | exact zI | exact zJ))
  (refine no_implicit_lambda% (cal [0] (rV_c r1 (by omega)) ?_ ?_))
  rotate_left
  ·intro xx H' hh; rcases hh with ⟨_, _, _, _, h', _⟩ | ⟨hN, h', rfl⟩ <;> first | (cases h'; done) | (cases h'; repeat' (first | (refine no_implicit_lambda% (zH ?_)) | (refine no_implicit_lambda% (spl (fun hc => ?_) (fun hc => ?_)) <;> first | exact zG hc | skip) | (refine no_implicit_lambda% (ans ?_)) | (with_reducible first | exact zI | exact zJ)); exact e_pan (H' := []) (rest := _) (.inr ⟨by (rw [hP, hN]; rfl), rfl, rfl⟩) permT (LE0 rfl))
  intro xx H' hh
  rcases hh with ⟨v, r3, hV, ⟨hv, hr3⟩, h', rfl⟩ | ⟨_, h', _⟩
  rotate_left
  ·cases h'
  cases h'
  first | (refine no_implicit_lambda% (akc ?_)) | (refine no_implicit_lambda% (aec ?_))
  rw [hV, bnd_some] at hP
  repeat' (first | (refine no_implicit_lambda% (zH ?_)) | (refine no_implicit_lambda% (spl (fun hc => ?_) (fun hc => ?_)) <;> first | exact zG hc | skip) | (refine no_implicit_lambda% (ans ?_)) | (with_reducible first | exact zI | exact zJ))
  have hro := name_c (⟨s.toArray⟩ : ByteArray)
  have hfc := fail_c r3
  unfold cdR at hP
  dsimp only at hP
  repeat' (first | (refine no_implicit_lambda% (zH ?_)) | (refine no_implicit_lambda% (spl (fun hc => ?_) (fun hc => ?_)) <;> first | exact zG hc | skip) | (refine no_implicit_lambda% (ans ?_)) | (with_reducible first | exact zI | exact zJ) | (refine no_implicit_lambda% (cal [] (hro) ?_ ?_)) | fail)
  ·have hb : nmB (⟨s.toArray⟩ : ByteArray) = false := by simpa using hc
   rw [hb, if_neg (by simp)] at hP
   (refine no_implicit_lambda% (cal [0] (hfc) ?_ ?_))
   ·first | (exact zI) | (exact zJ)
   ·intro xx H' hh
    obtain ⟨h', rfl⟩ := hh
    cases h'
    repeat' (first | (refine no_implicit_lambda% (zH ?_)) | (refine no_implicit_lambda% (spl (fun hc => ?_) (fun hc => ?_)) <;> first | exact zG hc | skip) | (refine no_implicit_lambda% (ans ?_)) | (with_reducible first | exact zI | exact zJ))
    exact e_pan (H' := []) (rest := _) (.inr ⟨hP, rfl, rfl⟩) permT (LE0 rfl)
  ·have hb : nmB (⟨s.toArray⟩ : ByteArray) = true := by simpa using hc
   rw [hb, if_pos rfl] at hP
   refine e_ret_to (H' := rd r3) (rest := [(1, .box (cdrow (⟨true, true, ⟨s.toArray⟩, v⟩ : Cd)))]) (Conv.toT (τ := ⟨_, [(1, .box (cdrow (⟨true, true, ⟨s.toArray⟩, v⟩ : Cd))), (0, .box [.list (r3.map brow) .free])], _⟩) (.refl _) ?_ (Nat.le_refl _)) rfl (.inl ⟨(⟨true, true, ⟨s.toArray⟩, v⟩ : Cd), r3, hP, ⟨hv, by omega⟩, rfl, rfl⟩) permT (LE0 rfl)
   exact wkh
 ·replace hP : pCd l = none := by rw [hP]; unfold cdK; rw [if_neg (by omega), if_neg (by omega), if_neg (by omega)]
  repeat' (first | (refine no_implicit_lambda% (zH ?_)) | (refine no_implicit_lambda% (spl (fun hc => ?_) (fun hc => ?_)) <;> first | exact zG hc | skip) | (refine no_implicit_lambda% (ans ?_)) | (with_reducible first | exact zI | exact zJ))
  all_goals try (exfalso; simp at hc; omega)
  (refine no_implicit_lambda% (cal [0] (fail_c r0) ?_ ?_))
  ·first | (exact zI) | (exact zJ)
  ·intro xx H' hh
   obtain ⟨h', rfl⟩ := hh
   cases h'
   repeat' (first | (refine no_implicit_lambda% (zH ?_)) | (refine no_implicit_lambda% (spl (fun hc => ?_) (fun hc => ?_)) <;> first | exact zG hc | skip) | (refine no_implicit_lambda% (ans ?_)) | (with_reducible first | exact zI | exact zJ))
   exact e_pan (H' := []) (rest := _) (.inr ⟨hP, rfl, rfl⟩) permT (LE0 rfl)
end Go.Proofs.YtncffhgoopdfgaaGreat
namespace Go.Proofs.YtncffhgoopdfgaaGreat
open Go.Am
set_option maxRecDepth 100000
def Iv {α : Type} (P : List UInt8 → Option α) (l : List UInt8) (bad0 : Bool) (cur : List UInt8) (bad : Bool) (k : List UInt8 → Option α) : Prop := (bad = false → bad0 = false ∧ P l = k cur) ∧ (bad = true → cur = [] ∧ (bad0 = false → P l = none))
theorem Iv.step {α β : Type} {P : List UInt8 → Option α} {l cur l' : List UInt8} {bad0 bad bad' : Bool} {p : List UInt8 → Option (β × List UInt8)} {f : β → List UInt8 → Option α} {x : β} (h : Iv P l bad0 cur bad (fun r => bnd (p r) f)) (h1 : bad' = false → bad = false ∧ p cur = some (x, l')) (h2 : bad' = true → l' = [] ∧ (bad = false → p cur = none)) : Iv P l bad0 l' bad' (f x) := by
 refine ⟨fun hb => ?_, fun hb => ?_⟩
 ·obtain ⟨e1, e2⟩ := h1 hb
  obtain ⟨e3, e4⟩ := h.1 e1
  refine ⟨e3, ?_⟩
  rw [e4]
  show bnd (p cur) f = _
  rw [e2]; rfl
 ·refine ⟨(h2 hb).1, fun h0 => ?_⟩
  cases bad with
  | false =>
   rw [(h.1 rfl).2]
   show bnd (p cur) f = none
   rw [(h2 hb).2 rfl]; rfl
  | true => exact (h.2 rfl).2 h0
theorem Iv.no {α : Type} {P : List UInt8 → Option α} {l cur : List UInt8} {bad0 bad : Bool} {k : List UInt8 → Option α} (h : Iv P l bad0 cur bad k) (hk : bad = false → k cur = none) : bad0 = false → P l = none := fun h0 => by
 cases bad with
 | false => rw [(h.1 rfl).2]; exact hk rfl
 | true => exact (h.2 rfl).2 h0
theorem rightC_tm {x : Ch} (hk : x.k = 1 ∨ x.k = 2 ∨ x.k = 5) (ht : tmOk x.t = false) : rightC x ≠ 0 := fun h => by
 have := (rightC_inv h).2.2.1 hk
 rw [ht] at this
 cases this
theorem chR_no {x : Ch} {r : List UInt8} (h : rightC x ≠ 0) : chR x r = none := if_neg h
def zCd : Cd := ⟨false, false, ⟨#[]⟩, ⟨0, [], 0⟩⟩
def zCh : Ch := ⟨0, ⟨#[]⟩, 0, ⟨0, [], 0⟩⟩
set_option maxHeartbeats 6400000 in
theorem rtake5_c (l : List UInt8) (bad0 : Bool) (hl : l.length < 281474976710656) : ACalls Tryz.prog 83 1 2000 [.ptr 0 0] (rr l bad0) (dQ pCh ChB (fun x => .agg (chrow x)) l bad0) := by
 refine no_implicit_lambda% (acalls_of tok dok (f := 83) ⟨Tryz.func83, rfl, by kernel_rfl⟩ ?_); refine no_implicit_lambda% (c_start (fun _ h => h) ?_)
 repeat' (first | (refine no_implicit_lambda% (zH ?_)) | (refine no_implicit_lambda% (spl (fun hc => ?_) (fun hc => ?_)) <;> first | exact zG hc | skip) | (refine no_implicit_lambda% (ans ?_)) | (with_reducible first | exact zI | exact zJ))
 (refine no_implicit_lambda% (cal [0] (qB_c l bad0 (by omega)) ?_ ?_))
 rotate_left
 ·(intro xx H' hh; obtain ⟨_, _, _, _, _, _, _, h', _⟩ := hh; cases h')
 intro xx H' hh
 obtain ⟨N, r0, b0, hN, hr0, q1, q2, h', rfl⟩ := hh
 cases h'
 first | (refine no_implicit_lambda% (akc ?_)) | (refine no_implicit_lambda% (aec ?_))
 refine no_implicit_lambda% (awd ?_)
 have hN2 : N < 256 := hN
 rw [show IntKind.i64.wrap (N : Int) = (N : Int) from z64 (by omega) (by omega)]
 have hI : Iv pCh l bad0 r0 b0 (chK N) := ⟨fun hb => ⟨(q1 hb).1, by unfold pCh; rw [(q1 hb).2]; rfl⟩, fun hb => ⟨(q2 hb).1, fun h0 => by unfold pCh; rw [(q2 hb).2 h0]; rfl⟩⟩
 have hN5 : N = 1 ∨ N = 5 ∨ N = 2 ∨ N = 3 ∨ N = 4 ∨ ¬ (1 ≤ N ∧ N ≤ 5) := by omega
 rcases hN5 with rfl | rfl | rfl | rfl | rfl | hno
 ·replace hI : Iv pCh l bad0 r0 b0 (fun r => bnd (pX r) fun s r1 => bnd (pL r1) fun t r2 => bnd (pV r2) fun v r3 => chR (⟨1, ⟨s.toArray⟩, IntKind.i64.wrap (t : Int), v⟩ : Ch) r3) := hI
  repeat' (first | (refine no_implicit_lambda% (zH ?_)) | (refine no_implicit_lambda% (spl (fun hc => ?_) (fun hc => ?_)) <;> first | exact zG hc | skip) | (refine no_implicit_lambda% (ans ?_)) | (with_reducible first | exact zI | exact zJ))
  (refine no_implicit_lambda% (cal [0] (qX_c r0 b0 (by omega)) ?_ ?_))
  rotate_left
  ·(intro xx H' hh; obtain ⟨_, _, _, _, _, _, _, h', _⟩ := hh; cases h')
  intro xx H' hh
  obtain ⟨s, r1, b1, hs16, hr1, u1, u2, h', rfl⟩ := hh
  cases h'
  first | (refine no_implicit_lambda% (akc ?_)) | (refine no_implicit_lambda% (aec ?_))
  have hI1 : Iv pCh l bad0 r1 b1 (fun r1 => bnd (pL r1) fun t r2 => bnd (pV r2) fun v r3 => chR (⟨1, ⟨s.toArray⟩, IntKind.i64.wrap (t : Int), v⟩ : Ch) r3) := hI.step u1 u2
  repeat' (first | (refine no_implicit_lambda% (zH ?_)) | (refine no_implicit_lambda% (spl (fun hc => ?_) (fun hc => ?_)) <;> first | exact zG hc | skip) | (refine no_implicit_lambda% (ans ?_)) | (with_reducible first | exact zI | exact zJ))
  (refine no_implicit_lambda% (cal [0] (qL_c r1 b1 (by omega)) ?_ ?_))
  rotate_left
  ·(intro xx H' hh; obtain ⟨_, _, _, _, _, _, _, h', _⟩ := hh; cases h')
  intro xx H' hh
  obtain ⟨t, r2, b2, ht, hr2, v1, v2, h', rfl⟩ := hh
  cases h'
  first | (refine no_implicit_lambda% (akc ?_)) | (refine no_implicit_lambda% (aec ?_))
  have ht2 : t < 18446744073709551616 := ht
  have hI2 : Iv pCh l bad0 r2 b2 (fun r2 => bnd (pV r2) fun v r3 => chR (⟨1, ⟨s.toArray⟩, IntKind.i64.wrap (t : Int), v⟩ : Ch) r3) := hI1.step v1 v2
  repeat' (first | (refine no_implicit_lambda% (zH ?_)) | (refine no_implicit_lambda% (spl (fun hc => ?_) (fun hc => ?_)) <;> first | exact zG hc | skip) | (refine no_implicit_lambda% (ans ?_)) | (with_reducible first | exact zI | exact zJ) | (refine no_implicit_lambda% (cal [0] (refFail_c r2 b2) ?_ ?_)) | fail)
  ·have hbig : 1099511627776 < t := by have h9 := of_decide_eq_true hc; omega
   have hno : bad0 = false → pCh l = none := hI2.no fun _ => bnd_inv fun v r _ => chR_no (rightC_tm (.inl rfl) (tm_bad hbig ht2))
   (refine no_implicit_lambda% (cal [0] (qV_c [] true (by decide)) ?_ ?_))
   rotate_left
   ·(intro xx H' hh; obtain ⟨_, _, _, _, _, _, _, h', _⟩ := hh; cases h')
   intro xx H' hh
   obtain ⟨v, r3, b3, hv, hr3, w1, w2, h', rfl⟩ := hh
   cases h'
   first | (refine no_implicit_lambda% (akc ?_)) | (refine no_implicit_lambda% (aec ?_))
   have hb3 : b3 = true := by
    cases b3 with
    | false => cases (w1 rfl).1
    | true => rfl
   subst hb3
   obtain rfl := (w2 rfl).1
   repeat' (first | (refine no_implicit_lambda% (zH ?_)) | (refine no_implicit_lambda% (spl (fun hc => ?_) (fun hc => ?_)) <;> first | exact zG hc | skip) | (refine no_implicit_lambda% (ans ?_)) | (with_reducible first | exact zI | exact zJ) | (refine no_implicit_lambda% (cal [0] (refFail_c [] true) ?_ ?_)) | fail)
   (refine e_ret_to (H' := rr [] true) (rest := [(1, .box (chrow zCh))]) (Conv.toT (τ := ⟨_, [(0, .box [.list [] .free, .v (.bool true)]), (1, .box (chrow zCh))], _⟩) (.refl _) ?_ (Nat.le_refl _)) rfl ⟨zCh, [], true, ⟨Nat.zero_le _, by decide⟩, Nat.zero_le _, (fun h => by cases h), fun _ => ⟨rfl, hno⟩, rfl, rfl⟩ permT (LE0 rfl); exact wkh)
  ·(refine no_implicit_lambda% (cal [0] (qV_c r2 b2 (by omega)) ?_ ?_))
   rotate_left
   ·(intro xx H' hh; obtain ⟨_, _, _, _, _, _, _, h', _⟩ := hh; cases h')
   intro xx H' hh
   obtain ⟨v, r3, b3, hv, hr3, w1, w2, h', rfl⟩ := hh
   cases h'
   first | (refine no_implicit_lambda% (akc ?_)) | (refine no_implicit_lambda% (aec ?_))
   have hI3 : Iv pCh l bad0 r3 b3 (fun r3 => chR (⟨1, ⟨s.toArray⟩, IntKind.i64.wrap (t : Int), v⟩ : Ch) r3) := hI2.step w1 w2
   cases b3 with
   | true =>
    obtain rfl := (w2 rfl).1
    repeat' (first | (refine no_implicit_lambda% (zH ?_)) | (refine no_implicit_lambda% (spl (fun hc => ?_) (fun hc => ?_)) <;> first | exact zG hc | skip) | (refine no_implicit_lambda% (ans ?_)) | (with_reducible first | exact zI | exact zJ) | (refine no_implicit_lambda% (cal [0] (refFail_c [] true) ?_ ?_)) | fail)
    (refine e_ret_to (H' := rr [] true) (rest := [(1, .box (chrow zCh))]) (Conv.toT (τ := ⟨_, [(0, .box [.list [] .free, .v (.bool true)]), (1, .box (chrow zCh))], _⟩) (.refl _) ?_ (Nat.le_refl _)) rfl ⟨zCh, [], true, ⟨Nat.zero_le _, by decide⟩, Nat.zero_le _, (fun h => by cases h), fun _ => ⟨rfl, (hI3.2 rfl).2⟩, rfl, rfl⟩ permT (LE0 rfl); exact wkh)
   | false =>
    obtain ⟨hb0, hPl⟩ := hI3.1 rfl
    have hro := refRightC_c (⟨1, ⟨s.toArray⟩, IntKind.i64.wrap (t : Int), v⟩ : Ch)
    unfold chR at hPl
    dsimp only at hPl
    repeat' (first | (refine no_implicit_lambda% (zH ?_)) | (refine no_implicit_lambda% (spl (fun hc => ?_) (fun hc => ?_)) <;> first | exact zG hc | skip) | (refine no_implicit_lambda% (ans ?_)) | (with_reducible first | exact zI | exact zJ) | (refine no_implicit_lambda% (cal [] (hro) ?_ ?_)) | (refine no_implicit_lambda% (cal [0] (refFail_c r3 false) ?_ ?_)) | fail)
    ·have hb : rightC (⟨1, ⟨s.toArray⟩, IntKind.i64.wrap (t : Int), v⟩ : Ch) ≠ 0 := by simpa using hc
     rw [if_neg hb] at hPl
     (refine e_ret_to (H' := rr [] true) (rest := [(1, .box (chrow zCh))]) (Conv.toT (τ := ⟨_, [(0, .box [.list [] .free, .v (.bool true)]), (1, .box (chrow zCh))], _⟩) (.refl _) ?_ (Nat.le_refl _)) rfl ⟨zCh, [], true, ⟨Nat.zero_le _, by decide⟩, Nat.zero_le _, (fun h => by cases h), fun _ => ⟨rfl, fun _ => hPl⟩, rfl, rfl⟩ permT (LE0 rfl); exact wkh)
    ·have hb : rightC (⟨1, ⟨s.toArray⟩, IntKind.i64.wrap (t : Int), v⟩ : Ch) = 0 := by simpa using hc
     rw [if_pos hb] at hPl
     refine e_ret_to (H' := rr r3 false) (rest := [(1, .box (chrow (⟨1, ⟨s.toArray⟩, IntKind.i64.wrap (t : Int), v⟩ : Ch)))]) (Conv.toT (τ := ⟨_, [(0, .box [.list (r3.map brow) .free, .v (.bool false)]), (1, .box (chrow (⟨1, ⟨s.toArray⟩, IntKind.i64.wrap (t : Int), v⟩ : Ch)))], _⟩) (.refl _) ?_ (Nat.le_refl _)) rfl ⟨(⟨1, ⟨s.toArray⟩, IntKind.i64.wrap (t : Int), v⟩ : Ch), r3, false, hv, by omega, fun _ => ⟨hb0, hPl⟩, fun h => (by cases h), rfl, rfl⟩ permT (LE0 rfl)
     exact wkh
 ·replace hI : Iv pCh l bad0 r0 b0 (fun r => bnd (pX r) fun s r1 => bnd (pL r1) fun t r2 => bnd (pV r2) fun v r3 => chR (⟨5, ⟨s.toArray⟩, IntKind.i64.wrap (t : Int), v⟩ : Ch) r3) := hI
  repeat' (first | (refine no_implicit_lambda% (zH ?_)) | (refine no_implicit_lambda% (spl (fun hc => ?_) (fun hc => ?_)) <;> first | exact zG hc | skip) | (refine no_implicit_lambda% (ans ?_)) | (with_reducible first | exact zI | exact zJ))
  (refine no_implicit_lambda% (cal [0] (qX_c r0 b0 (by omega)) ?_ ?_))
  rotate_left
  ·(intro xx H' hh; obtain ⟨_, _, _, _, _, _, _, h', _⟩ := hh; cases h')
  intro xx H' hh
  obtain ⟨s, r1, b1, hs16, hr1, u1, u2, h', rfl⟩ := hh
  cases h'
  first | (refine no_implicit_lambda% (akc ?_)) | (refine no_implicit_lambda% (aec ?_))
  have hI1 : Iv pCh l bad0 r1 b1 (fun r1 => bnd (pL r1) fun t r2 => bnd (pV r2) fun v r3 => chR (⟨5, ⟨s.toArray⟩, IntKind.i64.wrap (t : Int), v⟩ : Ch) r3) := hI.step u1 u2
  repeat' (first | (refine no_implicit_lambda% (zH ?_)) | (refine no_implicit_lambda% (spl (fun hc => ?_) (fun hc => ?_)) <;> first | exact zG hc | skip) | (refine no_implicit_lambda% (ans ?_)) | (with_reducible first | exact zI | exact zJ))
  (refine no_implicit_lambda% (cal [0] (qL_c r1 b1 (by omega)) ?_ ?_))
  rotate_left
  ·(intro xx H' hh; obtain ⟨_, _, _, _, _, _, _, h', _⟩ := hh; cases h')
  intro xx H' hh
  obtain ⟨t, r2, b2, ht, hr2, v1, v2, h', rfl⟩ := hh
  cases h'
  first | (refine no_implicit_lambda% (akc ?_)) | (refine no_implicit_lambda% (aec ?_))
  have ht2 : t < 18446744073709551616 := ht
  have hI2 : Iv pCh l bad0 r2 b2 (fun r2 => bnd (pV r2) fun v r3 => chR (⟨5, ⟨s.toArray⟩, IntKind.i64.wrap (t : Int), v⟩ : Ch) r3) := hI1.step v1 v2
  repeat' (first | (refine no_implicit_lambda% (zH ?_)) | (refine no_implicit_lambda% (spl (fun hc => ?_) (fun hc => ?_)) <;> first | exact zG hc | skip) | (refine no_implicit_lambda% (ans ?_)) | (with_reducible first | exact zI | exact zJ) | (refine no_implicit_lambda% (cal [0] (refFail_c r2 b2) ?_ ?_)) | fail)
  ·have hbig : 1099511627776 < t := by have h9 := of_decide_eq_true hc; omega
   have hno : bad0 = false → pCh l = none := hI2.no fun _ => bnd_inv fun v r _ => chR_no (rightC_tm (.inr (.inr rfl)) (tm_bad hbig ht2))
   (refine no_implicit_lambda% (cal [0] (qV_c [] true (by decide)) ?_ ?_))
   rotate_left
   ·(intro xx H' hh; obtain ⟨_, _, _, _, _, _, _, h', _⟩ := hh; cases h')
   intro xx H' hh
   obtain ⟨v, r3, b3, hv, hr3, w1, w2, h', rfl⟩ := hh
   cases h'
   first | (refine no_implicit_lambda% (akc ?_)) | (refine no_implicit_lambda% (aec ?_))
   have hb3 : b3 = true := by
    cases b3 with
    | false => cases (w1 rfl).1
    | true => rfl
   subst hb3
   obtain rfl := (w2 rfl).1
   repeat' (first | (refine no_implicit_lambda% (zH ?_)) | (refine no_implicit_lambda% (spl (fun hc => ?_) (fun hc => ?_)) <;> first | exact zG hc | skip) | (refine no_implicit_lambda% (ans ?_)) | (with_reducible first | exact zI | exact zJ) | (refine no_implicit_lambda% (cal [0] (refFail_c [] true) ?_ ?_)) | fail)
   (refine e_ret_to (H' := rr [] true) (rest := [(1, .box (chrow zCh))]) (Conv.toT (τ := ⟨_, [(0, .box [.list [] .free, .v (.bool true)]), (1, .box (chrow zCh))], _⟩) (.refl _) ?_ (Nat.le_refl _)) rfl ⟨zCh, [], true, ⟨Nat.zero_le _, by decide⟩, Nat.zero_le _, (fun h => by cases h), fun _ => ⟨rfl, hno⟩, rfl, rfl⟩ permT (LE0 rfl); exact wkh)
  ·(refine no_implicit_lambda% (cal [0] (qV_c r2 b2 (by omega)) ?_ ?_))
   rotate_left
   ·(intro xx H' hh; obtain ⟨_, _, _, _, _, _, _, h', _⟩ := hh; cases h')
   intro xx H' hh
   obtain ⟨v, r3, b3, hv, hr3, w1, w2, h', rfl⟩ := hh
   cases h'
   first | (refine no_implicit_lambda% (akc ?_)) | (refine no_implicit_lambda% (aec ?_))
   have hI3 : Iv pCh l bad0 r3 b3 (fun r3 => chR (⟨5, ⟨s.toArray⟩, IntKind.i64.wrap (t : Int), v⟩ : Ch) r3) := hI2.step w1 w2
   cases b3 with
   | true =>
    obtain rfl := (w2 rfl).1
    repeat' (first | (refine no_implicit_lambda% (zH ?_)) | (refine no_implicit_lambda% (spl (fun hc => ?_) (fun hc => ?_)) <;> first | exact zG hc | skip) | (refine no_implicit_lambda% (ans ?_)) | (with_reducible first | exact zI | exact zJ) | (refine no_implicit_lambda% (cal [0] (refFail_c [] true) ?_ ?_)) | fail)
    (refine e_ret_to (H' := rr [] true) (rest := [(1, .box (chrow zCh))]) (Conv.toT (τ := ⟨_, [(0, .box [.list [] .free, .v (.bool true)]), (1, .box (chrow zCh))], _⟩) (.refl _) ?_ (Nat.le_refl _)) rfl ⟨zCh, [], true, ⟨Nat.zero_le _, by decide⟩, Nat.zero_le _, (fun h => by cases h), fun _ => ⟨rfl, (hI3.2 rfl).2⟩, rfl, rfl⟩ permT (LE0 rfl); exact wkh)
   | false =>
    obtain ⟨hb0, hPl⟩ := hI3.1 rfl
    have hro := refRightC_c (⟨5, ⟨s.toArray⟩, IntKind.i64.wrap (t : Int), v⟩ : Ch)
    unfold chR at hPl
    dsimp only at hPl
    repeat' (first | (refine no_implicit_lambda% (zH ?_)) | (refine no_implicit_lambda% (spl (fun hc => ?_) (fun hc => ?_)) <;> first | exact zG hc | skip) | (refine no_implicit_lambda% (ans ?_)) | (with_reducible first | exact zI | exact zJ) | (refine no_implicit_lambda% (cal [] (hro) ?_ ?_)) | (refine no_implicit_lambda% (cal [0] (refFail_c r3 false) ?_ ?_)) | fail)
    ·have hb : rightC (⟨5, ⟨s.toArray⟩, IntKind.i64.wrap (t : Int), v⟩ : Ch) ≠ 0 := by simpa using hc
     rw [if_neg hb] at hPl
     (refine e_ret_to (H' := rr [] true) (rest := [(1, .box (chrow zCh))]) (Conv.toT (τ := ⟨_, [(0, .box [.list [] .free, .v (.bool true)]), (1, .box (chrow zCh))], _⟩) (.refl _) ?_ (Nat.le_refl _)) rfl ⟨zCh, [], true, ⟨Nat.zero_le _, by decide⟩, Nat.zero_le _, (fun h => by cases h), fun _ => ⟨rfl, fun _ => hPl⟩, rfl, rfl⟩ permT (LE0 rfl); exact wkh)
    ·have hb : rightC (⟨5, ⟨s.toArray⟩, IntKind.i64.wrap (t : Int), v⟩ : Ch) = 0 := by simpa using hc
     rw [if_pos hb] at hPl
     refine e_ret_to (H' := rr r3 false) (rest := [(1, .box (chrow (⟨5, ⟨s.toArray⟩, IntKind.i64.wrap (t : Int), v⟩ : Ch)))]) (Conv.toT (τ := ⟨_, [(0, .box [.list (r3.map brow) .free, .v (.bool false)]), (1, .box (chrow (⟨5, ⟨s.toArray⟩, IntKind.i64.wrap (t : Int), v⟩ : Ch)))], _⟩) (.refl _) ?_ (Nat.le_refl _)) rfl ⟨(⟨5, ⟨s.toArray⟩, IntKind.i64.wrap (t : Int), v⟩ : Ch), r3, false, hv, by omega, fun _ => ⟨hb0, hPl⟩, fun h => (by cases h), rfl, rfl⟩ permT (LE0 rfl)
     exact wkh
 ·replace hI : Iv pCh l bad0 r0 b0 (fun r => bnd (pX r) fun s r1 => bnd (pL r1) fun t r2 => chR (⟨2, ⟨s.toArray⟩, IntKind.i64.wrap (t : Int), ⟨0, [], 0⟩⟩ : Ch) r2) := hI
  repeat' (first | (refine no_implicit_lambda% (zH ?_)) | (refine no_implicit_lambda% (spl (fun hc => ?_) (fun hc => ?_)) <;> first | exact zG hc | skip) | (refine no_implicit_lambda% (ans ?_)) | (with_reducible first | exact zI | exact zJ))
  (refine no_implicit_lambda% (cal [0] (qX_c r0 b0 (by omega)) ?_ ?_))
  rotate_left
  ·(intro xx H' hh; obtain ⟨_, _, _, _, _, _, _, h', _⟩ := hh; cases h')
  intro xx H' hh
  obtain ⟨s, r1, b1, hs16, hr1, u1, u2, h', rfl⟩ := hh
  cases h'
  first | (refine no_implicit_lambda% (akc ?_)) | (refine no_implicit_lambda% (aec ?_))
  have hI1 : Iv pCh l bad0 r1 b1 (fun r1 => bnd (pL r1) fun t r2 => chR (⟨2, ⟨s.toArray⟩, IntKind.i64.wrap (t : Int), ⟨0, [], 0⟩⟩ : Ch) r2) := hI.step u1 u2
  repeat' (first | (refine no_implicit_lambda% (zH ?_)) | (refine no_implicit_lambda% (spl (fun hc => ?_) (fun hc => ?_)) <;> first | exact zG hc | skip) | (refine no_implicit_lambda% (ans ?_)) | (with_reducible first | exact zI | exact zJ))
  (refine no_implicit_lambda% (cal [0] (qL_c r1 b1 (by omega)) ?_ ?_))
  rotate_left
  ·(intro xx H' hh; obtain ⟨_, _, _, _, _, _, _, h', _⟩ := hh; cases h')
  intro xx H' hh
  obtain ⟨t, r2, b2, ht, hr2, v1, v2, h', rfl⟩ := hh
  cases h'
  first | (refine no_implicit_lambda% (akc ?_)) | (refine no_implicit_lambda% (aec ?_))
  have ht2 : t < 18446744073709551616 := ht
  have hI2 : Iv pCh l bad0 r2 b2 (fun r2 => chR (⟨2, ⟨s.toArray⟩, IntKind.i64.wrap (t : Int), ⟨0, [], 0⟩⟩ : Ch) r2) := hI1.step v1 v2
  cases b2 with
  | true =>
   obtain rfl := (v2 rfl).1
   repeat' (first | (refine no_implicit_lambda% (zH ?_)) | (refine no_implicit_lambda% (spl (fun hc => ?_) (fun hc => ?_)) <;> first | exact zG hc | skip) | (refine no_implicit_lambda% (ans ?_)) | (with_reducible first | exact zI | exact zJ) | (refine no_implicit_lambda% (cal [0] (refFail_c [] true) ?_ ?_)) | fail)
   all_goals (refine e_ret_to (H' := rr [] true) (rest := [(1, .box (chrow zCh))]) (Conv.toT (τ := ⟨_, [(0, .box [.list [] .free, .v (.bool true)]), (1, .box (chrow zCh))], _⟩) (.refl _) ?_ (Nat.le_refl _)) rfl ⟨zCh, [], true, ⟨Nat.zero_le _, by decide⟩, Nat.zero_le _, (fun h => by cases h), fun _ => ⟨rfl, (hI2.2 rfl).2⟩, rfl, rfl⟩ permT (LE0 rfl); exact wkh)
  | false =>
   obtain ⟨hb0, hPl⟩ := hI2.1 rfl
   have hro := refRightC_c (⟨2, ⟨s.toArray⟩, IntKind.i64.wrap (t : Int), ⟨0, [], 0⟩⟩ : Ch)
   unfold chR at hPl
   dsimp only at hPl
   repeat' (first | (refine no_implicit_lambda% (zH ?_)) | (refine no_implicit_lambda% (spl (fun hc => ?_) (fun hc => ?_)) <;> first | exact zG hc | skip) | (refine no_implicit_lambda% (ans ?_)) | (with_reducible first | exact zI | exact zJ) | (refine no_implicit_lambda% (cal [0] (refFail_c r2 false) ?_ ?_)) | (refine no_implicit_lambda% (cal [0] (refFail_c [] true) ?_ ?_)) | fail)
   ·have hbig : 1099511627776 < t := by have h9 := of_decide_eq_true hc; omega
    have hno : bad0 = false → pCh l = none := hI2.no fun _ => chR_no (rightC_tm (.inr (.inl rfl)) (tm_bad hbig ht2))
    (refine e_ret_to (H' := rr [] true) (rest := [(1, .box (chrow zCh))]) (Conv.toT (τ := ⟨_, [(0, .box [.list [] .free, .v (.bool true)]), (1, .box (chrow zCh))], _⟩) (.refl _) ?_ (Nat.le_refl _)) rfl ⟨zCh, [], true, ⟨Nat.zero_le _, by decide⟩, Nat.zero_le _, (fun h => by cases h), fun _ => ⟨rfl, hno⟩, rfl, rfl⟩ permT (LE0 rfl); exact wkh)
   ·(refine no_implicit_lambda% (calw [] (hro) ?_ ?_))
    rotate_left
    ·first | (exact zI) | (exact zJ)
    refine no_implicit_lambda% (ret1 ?_); first | (refine no_implicit_lambda% (akc ?_)) | (refine no_implicit_lambda% (aec ?_))
    repeat' (first | (refine no_implicit_lambda% (zH ?_)) | (refine no_implicit_lambda% (spl (fun hc => ?_) (fun hc => ?_)) <;> first | exact zG hc | skip) | (refine no_implicit_lambda% (ans ?_)) | (with_reducible first | exact zI | exact zJ) | (refine no_implicit_lambda% (cal [0] (refFail_c r2 false) ?_ ?_)) | fail)
    ·have hb : rightC (⟨2, ⟨s.toArray⟩, IntKind.i64.wrap (t : Int), ⟨0, [], 0⟩⟩ : Ch) ≠ 0 := by simpa using hc
     rw [if_neg hb] at hPl
     (refine e_ret_to (H' := rr [] true) (rest := [(1, .box (chrow zCh))]) (Conv.toT (τ := ⟨_, [(0, .box [.list [] .free, .v (.bool true)]), (1, .box (chrow zCh))], _⟩) (.refl _) ?_ (Nat.le_refl _)) rfl ⟨zCh, [], true, ⟨Nat.zero_le _, by decide⟩, Nat.zero_le _, (fun h => by cases h), fun _ => ⟨rfl, fun _ => hPl⟩, rfl, rfl⟩ permT (LE0 rfl); exact wkh)
    ·have hb : rightC (⟨2, ⟨s.toArray⟩, IntKind.i64.wrap (t : Int), ⟨0, [], 0⟩⟩ : Ch) = 0 := by simpa using hc
     rw [if_pos hb] at hPl
     refine e_ret_to (H' := rr r2 false) (rest := [(1, .box (chrow (⟨2, ⟨s.toArray⟩, IntKind.i64.wrap (t : Int), ⟨0, [], 0⟩⟩ : Ch)))]) (Conv.toT (τ := ⟨_, [(0, .box [.list (r2.map brow) .free, .v (.bool false)]), (1, .box (chrow (⟨2, ⟨s.toArray⟩, IntKind.i64.wrap (t : Int), ⟨0, [], 0⟩⟩ : Ch)))], _⟩) (.refl _) ?_ (Nat.le_refl _)) rfl ⟨(⟨2, ⟨s.toArray⟩, IntKind.i64.wrap (t : Int), ⟨0, [], 0⟩⟩ : Ch), r2, false, ⟨Nat.zero_le _, (by show (0 : Nat) < 18446744073709551616; decide)⟩, by omega, fun _ => ⟨hb0, hPl⟩, fun h => (by cases h), rfl, rfl⟩ permT (LE0 rfl)
     exact wkh
 ·replace hI : Iv pCh l bad0 r0 b0 (fun r => bnd (pX r) fun s r1 => chR (⟨3, ⟨s.toArray⟩, 0, ⟨0, [], 0⟩⟩ : Ch) r1) := hI
  repeat' (first | (refine no_implicit_lambda% (zH ?_)) | (refine no_implicit_lambda% (spl (fun hc => ?_) (fun hc => ?_)) <;> first | exact zG hc | skip) | (refine no_implicit_lambda% (ans ?_)) | (with_reducible first | exact zI | exact zJ))
  (refine no_implicit_lambda% (cal [0] (qX_c r0 b0 (by omega)) ?_ ?_))
  rotate_left
  ·(intro xx H' hh; obtain ⟨_, _, _, _, _, _, _, h', _⟩ := hh; cases h')
  intro xx H' hh
  obtain ⟨s, r1, b1, hs16, hr1, u1, u2, h', rfl⟩ := hh
  cases h'
  first | (refine no_implicit_lambda% (akc ?_)) | (refine no_implicit_lambda% (aec ?_))
  have hI1 : Iv pCh l bad0 r1 b1 (fun r1 => chR (⟨3, ⟨s.toArray⟩, 0, ⟨0, [], 0⟩⟩ : Ch) r1) := hI.step u1 u2
  cases b1 with
  | true =>
   obtain rfl := (u2 rfl).1
   repeat' (first | (refine no_implicit_lambda% (zH ?_)) | (refine no_implicit_lambda% (spl (fun hc => ?_) (fun hc => ?_)) <;> first | exact zG hc | skip) | (refine no_implicit_lambda% (ans ?_)) | (with_reducible first | exact zI | exact zJ) | (refine no_implicit_lambda% (cal [0] (refFail_c [] true) ?_ ?_)) | fail)
   (refine e_ret_to (H' := rr [] true) (rest := [(1, .box (chrow zCh))]) (Conv.toT (τ := ⟨_, [(0, .box [.list [] .free, .v (.bool true)]), (1, .box (chrow zCh))], _⟩) (.refl _) ?_ (Nat.le_refl _)) rfl ⟨zCh, [], true, ⟨Nat.zero_le _, by decide⟩, Nat.zero_le _, (fun h => by cases h), fun _ => ⟨rfl, (hI1.2 rfl).2⟩, rfl, rfl⟩ permT (LE0 rfl); exact wkh)
  | false =>
   obtain ⟨hb0, hPl⟩ := hI1.1 rfl
   have hro := refRightC_c (⟨3, ⟨s.toArray⟩, 0, ⟨0, [], 0⟩⟩ : Ch)
   unfold chR at hPl
   dsimp only at hPl
   repeat' (first | (refine no_implicit_lambda% (zH ?_)) | (refine no_implicit_lambda% (spl (fun hc => ?_) (fun hc => ?_)) <;> first | exact zG hc | skip) | (refine no_implicit_lambda% (ans ?_)) | (with_reducible first | exact zI | exact zJ))
   (refine no_implicit_lambda% (calw [] (hro) ?_ ?_))
   rotate_left
   ·first | (exact zI) | (exact zJ)
   refine no_implicit_lambda% (ret1 ?_); first | (refine no_implicit_lambda% (akc ?_)) | (refine no_implicit_lambda% (aec ?_))
   repeat' (first | (refine no_implicit_lambda% (zH ?_)) | (refine no_implicit_lambda% (spl (fun hc => ?_) (fun hc => ?_)) <;> first | exact zG hc | skip) | (refine no_implicit_lambda% (ans ?_)) | (with_reducible first | exact zI | exact zJ) | (refine no_implicit_lambda% (cal [0] (refFail_c r1 false) ?_ ?_)) | fail)
   ·have hb : rightC (⟨3, ⟨s.toArray⟩, 0, ⟨0, [], 0⟩⟩ : Ch) ≠ 0 := by simpa using hc
    rw [if_neg hb] at hPl
    (refine e_ret_to (H' := rr [] true) (rest := [(1, .box (chrow zCh))]) (Conv.toT (τ := ⟨_, [(0, .box [.list [] .free, .v (.bool true)]), (1, .box (chrow zCh))], _⟩) (.refl _) ?_ (Nat.le_refl _)) rfl ⟨zCh, [], true, ⟨Nat.zero_le _, by decide⟩, Nat.zero_le _, (fun h => by cases h), fun _ => ⟨rfl, fun _ => hPl⟩, rfl, rfl⟩ permT (LE0 rfl); exact wkh)
   ·have hb : rightC (⟨3, ⟨s.toArray⟩, 0, ⟨0, [], 0⟩⟩ : Ch) = 0 := by simpa using hc
    rw [if_pos hb] at hPl
    refine e_ret_to (H' := rr r1 false) (rest := [(1, .box (chrow (⟨3, ⟨s.toArray⟩, 0, ⟨0, [], 0⟩⟩ : Ch)))]) (Conv.toT (τ := ⟨_, [(0, .box [.list (r1.map brow) .free, .v (.bool false)]), (1, .box (chrow (⟨3, ⟨s.toArray⟩, 0, ⟨0, [], 0⟩⟩ : Ch)))], _⟩) (.refl _) ?_ (Nat.le_refl _)) rfl ⟨(⟨3, ⟨s.toArray⟩, 0, ⟨0, [], 0⟩⟩ : Ch), r1, false, ⟨Nat.zero_le _, (by show (0 : Nat) < 18446744073709551616; decide)⟩, by omega, fun _ => ⟨hb0, hPl⟩, fun h => (by cases h), rfl, rfl⟩ permT (LE0 rfl)
    exact wkh
 ·replace hI : Iv pCh l bad0 r0 b0 (fun r => chR (⟨4, ⟨#[]⟩, 0, ⟨0, [], 0⟩⟩ : Ch) r) := hI
  cases b0 with
  | true =>
   obtain rfl := (hI.2 rfl).1
   repeat' (first | (refine no_implicit_lambda% (zH ?_)) | (refine no_implicit_lambda% (spl (fun hc => ?_) (fun hc => ?_)) <;> first | exact zG hc | skip) | (refine no_implicit_lambda% (ans ?_)) | (with_reducible first | exact zI | exact zJ) | (refine no_implicit_lambda% (cal [0] (refFail_c [] true) ?_ ?_)) | fail)
   (refine e_ret_to (H' := rr [] true) (rest := [(1, .box (chrow zCh))]) (Conv.toT (τ := ⟨_, [(0, .box [.list [] .free, .v (.bool true)]), (1, .box (chrow zCh))], _⟩) (.refl _) ?_ (Nat.le_refl _)) rfl ⟨zCh, [], true, ⟨Nat.zero_le _, by decide⟩, Nat.zero_le _, (fun h => by cases h), fun _ => ⟨rfl, (hI.2 rfl).2⟩, rfl, rfl⟩ permT (LE0 rfl); exact wkh)
  | false =>
   obtain ⟨hb0, hPl⟩ := hI.1 rfl
   have hro := refRightC_c (⟨4, ⟨#[]⟩, 0, ⟨0, [], 0⟩⟩ : Ch)
   have hb : rightC (⟨4, ⟨#[]⟩, 0, ⟨0, [], 0⟩⟩ : Ch) = 0 := rfl
   unfold chR at hPl
   dsimp only at hPl
   rw [if_pos hb] at hPl
   rw [hb] at hro
   repeat' (first | (refine no_implicit_lambda% (zH ?_)) | (refine no_implicit_lambda% (spl (fun hc => ?_) (fun hc => ?_)) <;> first | exact zG hc | skip) | (refine no_implicit_lambda% (ans ?_)) | (with_reducible first | exact zI | exact zJ))
   (refine no_implicit_lambda% (calw [] (hro) ?_ ?_))
   rotate_left
   ·first | (exact zI) | (exact zJ)
   refine no_implicit_lambda% (ret1 ?_); first | (refine no_implicit_lambda% (akc ?_)) | (refine no_implicit_lambda% (aec ?_))
   repeat' (first | (refine no_implicit_lambda% (zH ?_)) | (refine no_implicit_lambda% (spl (fun hc => ?_) (fun hc => ?_)) <;> first | exact zG hc | skip) | (refine no_implicit_lambda% (ans ?_)) | (with_reducible first | exact zI | exact zJ))
   refine e_ret_to (H' := rr r0 false) (rest := [(1, .box (chrow (⟨4, ⟨#[]⟩, 0, ⟨0, [], 0⟩⟩ : Ch)))]) (Conv.toT (τ := ⟨_, [(0, .box [.list (r0.map brow) .free, .v (.bool false)]), (1, .box (chrow (⟨4, ⟨#[]⟩, 0, ⟨0, [], 0⟩⟩ : Ch)))], _⟩) (.refl _) ?_ (Nat.le_refl _)) rfl ⟨(⟨4, ⟨#[]⟩, 0, ⟨0, [], 0⟩⟩ : Ch), r0, false, ⟨Nat.zero_le _, (by show (0 : Nat) < 18446744073709551616; decide)⟩, by omega, fun _ => ⟨hb0, hPl⟩, fun h => (by cases h), rfl, rfl⟩ permT (LE0 rfl)
   exact wkh
 ·have hno2 : bad0 = false → pCh l = none := hI.no fun _ => by unfold chK; rw [if_neg (by omega), if_neg (by omega), if_neg (by omega), if_neg (by omega)]
  have e1 : ((N : Int) == 1) = false := by simp; omega
  have e2 : ((N : Int) == 2) = false := by simp; omega
  have e4 : ((N : Int) == 4) = false := by simp; omega
  have e5 : ((N : Int) == 5) = false := by simp; omega
  have e44 : ((N : Int) != 4) = true := by simp; omega
  repeat' (first | (refine no_implicit_lambda% (zH ?_)) | (refine no_implicit_lambda% (spl (fun hc => ?_) (fun hc => ?_)) <;> first | exact zG hc | skip) | (refine no_implicit_lambda% (ans ?_)) | (with_reducible first | exact zI | exact zJ))
  (refine no_implicit_lambda% (cal [0] (qX_c r0 b0 (by omega)) ?_ ?_))
  rotate_left
  ·(intro xx H' hh; obtain ⟨_, _, _, _, _, _, _, h', _⟩ := hh; cases h')
  intro xx H' hh
  obtain ⟨s, r1, b1, hs16, hr1, u1, u2, h', rfl⟩ := hh
  cases h'
  first | (refine no_implicit_lambda% (akc ?_)) | (refine no_implicit_lambda% (aec ?_))
  have hro := refRightC_c (⟨(N : Int), ⟨s.toArray⟩, 0, ⟨0, [], 0⟩⟩ : Ch)
  have hne : rightC (⟨(N : Int), ⟨s.toArray⟩, 0, ⟨0, [], 0⟩⟩ : Ch) = 24 := by unfold rightC; rw [if_pos (by show (N : Int) < 1 ∨ 5 < (N : Int); omega)]
  rw [hne] at hro
  cases b1 with
  | true =>
   obtain rfl := (u2 rfl).1
   repeat' (first | (refine no_implicit_lambda% (zH ?_)) | (refine no_implicit_lambda% (spl (fun hc => ?_) (fun hc => ?_)) <;> first | exact zG hc | skip) | (refine no_implicit_lambda% (ans ?_)) | (with_reducible first | exact zI | exact zJ) | (refine no_implicit_lambda% (cal [0] (refFail_c [] true) ?_ ?_)) | fail)
   all_goals (refine e_ret_to (H' := rr [] true) (rest := [(1, .box (chrow zCh))]) (Conv.toT (τ := ⟨_, [(0, .box [.list [] .free, .v (.bool true)]), (1, .box (chrow zCh))], _⟩) (.refl _) ?_ (Nat.le_refl _)) rfl ⟨zCh, [], true, ⟨Nat.zero_le _, by decide⟩, Nat.zero_le _, (fun h => by cases h), fun _ => ⟨rfl, hno2⟩, rfl, rfl⟩ permT (LE0 rfl); exact wkh)
  | false =>
   repeat' (first | (refine no_implicit_lambda% (zH ?_)) | (refine no_implicit_lambda% (spl (fun hc => ?_) (fun hc => ?_)) <;> first | exact zG hc | skip) | (refine no_implicit_lambda% (ans ?_)) | (with_reducible first | exact zI | exact zJ))
   (refine no_implicit_lambda% (calw [] (hro) ?_ ?_))
   rotate_left
   ·first | (exact zI) | (exact zJ)
   refine no_implicit_lambda% (ret1 ?_); first | (refine no_implicit_lambda% (akc ?_)) | (refine no_implicit_lambda% (aec ?_))
   repeat' (first | (refine no_implicit_lambda% (zH ?_)) | (refine no_implicit_lambda% (spl (fun hc => ?_) (fun hc => ?_)) <;> first | exact zG hc | skip) | (refine no_implicit_lambda% (ans ?_)) | (with_reducible first | exact zI | exact zJ) | (refine no_implicit_lambda% (cal [0] (refFail_c r1 false) ?_ ?_)) | fail)
   all_goals (refine e_ret_to (H' := rr [] true) (rest := [(1, .box (chrow zCh))]) (Conv.toT (τ := ⟨_, [(0, .box [.list [] .free, .v (.bool true)]), (1, .box (chrow zCh))], _⟩) (.refl _) ?_ (Nat.le_refl _)) rfl ⟨zCh, [], true, ⟨Nat.zero_le _, by decide⟩, Nat.zero_le _, (fun h => by cases h), fun _ => ⟨rfl, hno2⟩, rfl, rfl⟩ permT (LE0 rfl); exact wkh)
set_option maxHeartbeats 6400000 in
theorem rtakecd_c (l : List UInt8) (bad0 : Bool) (hl : l.length < 281474976710656) : ACalls Tryz.prog 84 1 2000 [.ptr 0 0] (rr l bad0) (dQ pCd CdB (fun x => .agg (cdrow x)) l bad0) := by
 refine no_implicit_lambda% (acalls_of tok dok (f := 84) ⟨Tryz.func84, rfl, by kernel_rfl⟩ ?_); refine no_implicit_lambda% (c_start (fun _ h => h) ?_)
 repeat' (first | (refine no_implicit_lambda% (zH ?_)) | (refine no_implicit_lambda% (spl (fun hc => ?_) (fun hc => ?_)) <;> first | exact zG hc | skip) | (refine no_implicit_lambda% (ans ?_)) | (with_reducible first | exact zI | exact zJ))
 (refine no_implicit_lambda% (cal [0] (qB_c l bad0 (by omega)) ?_ ?_))
 rotate_left
 ·(intro xx H' hh; obtain ⟨_, _, _, _, _, _, _, h', _⟩ := hh; cases h')
 intro xx H' hh
 obtain ⟨N, r0, b0, hN, hr0, q1, q2, h', rfl⟩ := hh
 cases h'
 first | (refine no_implicit_lambda% (akc ?_)) | (refine no_implicit_lambda% (aec ?_))
 have hN2 : N < 256 := hN
 have hI : Iv pCd l bad0 r0 b0 (cdK N) := ⟨fun hb => ⟨(q1 hb).1, by unfold pCd; rw [(q1 hb).2]; rfl⟩, fun hb => ⟨(q2 hb).1, fun h0 => by unfold pCd; rw [(q2 hb).2 h0]; rfl⟩⟩
 have hN5 : N = 0 ∨ N = 1 ∨ N = 2 ∨ 2 < N := by omega
 rcases hN5 with rfl | rfl | rfl | hno
 ·cases b0 with
  | true =>
   obtain rfl := (hI.2 rfl).1
   repeat' (first | (refine no_implicit_lambda% (zH ?_)) | (refine no_implicit_lambda% (spl (fun hc => ?_) (fun hc => ?_)) <;> first | exact zG hc | skip) | (refine no_implicit_lambda% (ans ?_)) | (with_reducible first | exact zI | exact zJ) | (refine no_implicit_lambda% (cal [0] (refFail_c [] true) ?_ ?_)) | fail)
   (refine e_ret_to (H' := rr [] true) (rest := [(1, .box (cdrow zCd))]) (Conv.toT (τ := ⟨_, [(0, .box [.list [] .free, .v (.bool true)]), (1, .box (cdrow zCd))], _⟩) (.refl _) ?_ (Nat.le_refl _)) rfl ⟨zCd, [], true, ⟨Nat.zero_le _, by decide⟩, Nat.zero_le _, (fun h => by cases h), fun _ => ⟨rfl, (hI.2 rfl).2⟩, rfl, rfl⟩ permT (LE0 rfl); exact wkh)
  | false =>
   obtain ⟨hb0, hPl⟩ := hI.1 rfl
   replace hPl : pCd l = some ((⟨false, false, ⟨#[]⟩, ⟨0, [], 0⟩⟩ : Cd), r0) := hPl
   have hro := rcond_c (⟨false, false, ⟨#[]⟩, ⟨0, [], 0⟩⟩ : Cd)
   rw [show rcB (⟨false, false, ⟨#[]⟩, ⟨0, [], 0⟩⟩ : Cd) = true from rfl] at hro
   repeat' (first | (refine no_implicit_lambda% (zH ?_)) | (refine no_implicit_lambda% (spl (fun hc => ?_) (fun hc => ?_)) <;> first | exact zG hc | skip) | (refine no_implicit_lambda% (ans ?_)) | (with_reducible first | exact zI | exact zJ))
   (refine no_implicit_lambda% (calw [] (hro) ?_ ?_))
   rotate_left
   ·first | (exact zI) | (exact zJ)
   refine no_implicit_lambda% (ret1 ?_); first | (refine no_implicit_lambda% (akc ?_)) | (refine no_implicit_lambda% (aec ?_))
   repeat' (first | (refine no_implicit_lambda% (zH ?_)) | (refine no_implicit_lambda% (spl (fun hc => ?_) (fun hc => ?_)) <;> first | exact zG hc | skip) | (refine no_implicit_lambda% (ans ?_)) | (with_reducible first | exact zI | exact zJ))
   refine e_ret_to (H' := rr r0 false) (rest := [(1, .box (cdrow (⟨false, false, ⟨#[]⟩, ⟨0, [], 0⟩⟩ : Cd)))]) (Conv.toT (τ := ⟨_, [(0, .box [.list (r0.map brow) .free, .v (.bool false)]), (1, .box (cdrow (⟨false, false, ⟨#[]⟩, ⟨0, [], 0⟩⟩ : Cd)))], _⟩) (.refl _) ?_ (Nat.le_refl _)) rfl ⟨(⟨false, false, ⟨#[]⟩, ⟨0, [], 0⟩⟩ : Cd), r0, false, ⟨Nat.zero_le _, (by show (0 : Nat) < 18446744073709551616; decide)⟩, by omega, fun _ => ⟨hb0, hPl⟩, fun h => (by cases h), rfl, rfl⟩ permT (LE0 rfl)
   exact wkh
 ·replace hI : Iv pCd l bad0 r0 b0 (fun r => bnd (pX r) fun s r1 => cdR (⟨true, false, ⟨s.toArray⟩, ⟨0, [], 0⟩⟩ : Cd) r1) := hI
  repeat' (first | (refine no_implicit_lambda% (zH ?_)) | (refine no_implicit_lambda% (spl (fun hc => ?_) (fun hc => ?_)) <;> first | exact zG hc | skip) | (refine no_implicit_lambda% (ans ?_)) | (with_reducible first | exact zI | exact zJ))
  (refine no_implicit_lambda% (cal [0] (qX_c r0 b0 (by omega)) ?_ ?_))
  rotate_left
  ·(intro xx H' hh; obtain ⟨_, _, _, _, _, _, _, h', _⟩ := hh; cases h')
  intro xx H' hh
  obtain ⟨s, r1, b1, hs16, hr1, u1, u2, h', rfl⟩ := hh
  cases h'
  first | (refine no_implicit_lambda% (akc ?_)) | (refine no_implicit_lambda% (aec ?_))
  have hI1 : Iv pCd l bad0 r1 b1 (fun r1 => cdR (⟨true, false, ⟨s.toArray⟩, ⟨0, [], 0⟩⟩ : Cd) r1) := hI.step u1 u2
  cases b1 with
  | true =>
   obtain rfl := (u2 rfl).1
   repeat' (first | (refine no_implicit_lambda% (zH ?_)) | (refine no_implicit_lambda% (spl (fun hc => ?_) (fun hc => ?_)) <;> first | exact zG hc | skip) | (refine no_implicit_lambda% (ans ?_)) | (with_reducible first | exact zI | exact zJ) | (refine no_implicit_lambda% (cal [0] (refFail_c [] true) ?_ ?_)) | fail)
   (refine e_ret_to (H' := rr [] true) (rest := [(1, .box (cdrow zCd))]) (Conv.toT (τ := ⟨_, [(0, .box [.list [] .free, .v (.bool true)]), (1, .box (cdrow zCd))], _⟩) (.refl _) ?_ (Nat.le_refl _)) rfl ⟨zCd, [], true, ⟨Nat.zero_le _, by decide⟩, Nat.zero_le _, (fun h => by cases h), fun _ => ⟨rfl, (hI1.2 rfl).2⟩, rfl, rfl⟩ permT (LE0 rfl); exact wkh)
  | false =>
   obtain ⟨hb0, hPl⟩ := hI1.1 rfl
   have hro := rcond_c (⟨true, false, ⟨s.toArray⟩, ⟨0, [], 0⟩⟩ : Cd)
   have hre : rcB (⟨true, false, ⟨s.toArray⟩, ⟨0, [], 0⟩⟩ : Cd) = nmB ⟨s.toArray⟩ := by unfold rcB; simp
   rw [hre] at hro
   unfold cdR at hPl
   dsimp only at hPl
   rcases hb : nmB (⟨s.toArray⟩ : ByteArray) with _ | _
   ·rw [hb] at hro
    rw [hb, if_neg (by simp)] at hPl
    repeat' (first | (refine no_implicit_lambda% (zH ?_)) | (refine no_implicit_lambda% (spl (fun hc => ?_) (fun hc => ?_)) <;> first | exact zG hc | skip) | (refine no_implicit_lambda% (ans ?_)) | (with_reducible first | exact zI | exact zJ) | (refine no_implicit_lambda% (cal [] (hro) ?_ ?_)) | (refine no_implicit_lambda% (cal [0] (refFail_c r1 false) ?_ ?_)) | fail)
    (refine no_implicit_lambda% (calw [] (hro) ?_ ?_))
    rotate_left
    ·first | (exact zI) | (exact zJ)
    refine no_implicit_lambda% (ret1 ?_); first | (refine no_implicit_lambda% (akc ?_)) | (refine no_implicit_lambda% (aec ?_))
    repeat' (first | (refine no_implicit_lambda% (zH ?_)) | (refine no_implicit_lambda% (spl (fun hc => ?_) (fun hc => ?_)) <;> first | exact zG hc | skip) | (refine no_implicit_lambda% (ans ?_)) | (with_reducible first | exact zI | exact zJ) | (refine no_implicit_lambda% (cal [0] (refFail_c r1 false) ?_ ?_)) | fail)
    (refine e_ret_to (H' := rr [] true) (rest := [(1, .box (cdrow zCd))]) (Conv.toT (τ := ⟨_, [(0, .box [.list [] .free, .v (.bool true)]), (1, .box (cdrow zCd))], _⟩) (.refl _) ?_ (Nat.le_refl _)) rfl ⟨zCd, [], true, ⟨Nat.zero_le _, by decide⟩, Nat.zero_le _, (fun h => by cases h), fun _ => ⟨rfl, fun _ => hPl⟩, rfl, rfl⟩ permT (LE0 rfl); exact wkh)
   ·rw [hb] at hro
    rw [hb, if_pos rfl] at hPl
    repeat' (first | (refine no_implicit_lambda% (zH ?_)) | (refine no_implicit_lambda% (spl (fun hc => ?_) (fun hc => ?_)) <;> first | exact zG hc | skip) | (refine no_implicit_lambda% (ans ?_)) | (with_reducible first | exact zI | exact zJ) | (refine no_implicit_lambda% (cal [] (hro) ?_ ?_)) | fail)
    (refine no_implicit_lambda% (calw [] (hro) ?_ ?_))
    rotate_left
    ·first | (exact zI) | (exact zJ)
    refine no_implicit_lambda% (ret1 ?_); first | (refine no_implicit_lambda% (akc ?_)) | (refine no_implicit_lambda% (aec ?_))
    repeat' (first | (refine no_implicit_lambda% (zH ?_)) | (refine no_implicit_lambda% (spl (fun hc => ?_) (fun hc => ?_)) <;> first | exact zG hc | skip) | (refine no_implicit_lambda% (ans ?_)) | (with_reducible first | exact zI | exact zJ))
    refine e_ret_to (H' := rr r1 false) (rest := [(1, .box (cdrow (⟨true, false, ⟨s.toArray⟩, ⟨0, [], 0⟩⟩ : Cd)))]) (Conv.toT (τ := ⟨_, [(0, .box [.list (r1.map brow) .free, .v (.bool false)]), (1, .box (cdrow (⟨true, false, ⟨s.toArray⟩, ⟨0, [], 0⟩⟩ : Cd)))], _⟩) (.refl _) ?_ (Nat.le_refl _)) rfl ⟨(⟨true, false, ⟨s.toArray⟩, ⟨0, [], 0⟩⟩ : Cd), r1, false, ⟨Nat.zero_le _, (by show (0 : Nat) < 18446744073709551616; decide)⟩, by omega, fun _ => ⟨hb0, hPl⟩, fun h => (by cases h), rfl, rfl⟩ permT (LE0 rfl)
    exact wkh
 ·replace hI : Iv pCd l bad0 r0 b0 (fun r => bnd (pX r) fun s r1 => bnd (pV r1) fun v r2 => cdR (⟨true, true, ⟨s.toArray⟩, v⟩ : Cd) r2) := hI
  repeat' (first | (refine no_implicit_lambda% (zH ?_)) | (refine no_implicit_lambda% (spl (fun hc => ?_) (fun hc => ?_)) <;> first | exact zG hc | skip) | (refine no_implicit_lambda% (ans ?_)) | (with_reducible first | exact zI | exact zJ))
  (refine no_implicit_lambda% (cal [0] (qX_c r0 b0 (by omega)) ?_ ?_))
  rotate_left
  ·(intro xx H' hh; obtain ⟨_, _, _, _, _, _, _, h', _⟩ := hh; cases h')
  intro xx H' hh
  obtain ⟨s, r1, b1, hs16, hr1, u1, u2, h', rfl⟩ := hh
  cases h'
  first | (refine no_implicit_lambda% (akc ?_)) | (refine no_implicit_lambda% (aec ?_))
  have hI1 : Iv pCd l bad0 r1 b1 (fun r1 => bnd (pV r1) fun v r2 => cdR (⟨true, true, ⟨s.toArray⟩, v⟩ : Cd) r2) := hI.step u1 u2
  repeat' (first | (refine no_implicit_lambda% (zH ?_)) | (refine no_implicit_lambda% (spl (fun hc => ?_) (fun hc => ?_)) <;> first | exact zG hc | skip) | (refine no_implicit_lambda% (ans ?_)) | (with_reducible first | exact zI | exact zJ))
  (refine no_implicit_lambda% (cal [0] (qV_c r1 b1 (by omega)) ?_ ?_))
  rotate_left
  ·(intro xx H' hh; obtain ⟨_, _, _, _, _, _, _, h', _⟩ := hh; cases h')
  intro xx H' hh
  obtain ⟨v, r3, b3, hv, hr3, w1, w2, h', rfl⟩ := hh
  cases h'
  first | (refine no_implicit_lambda% (akc ?_)) | (refine no_implicit_lambda% (aec ?_))
  have hI3 : Iv pCd l bad0 r3 b3 (fun r2 => cdR (⟨true, true, ⟨s.toArray⟩, v⟩ : Cd) r2) := hI1.step w1 w2
  cases b3 with
  | true =>
   obtain rfl := (w2 rfl).1
   repeat' (first | (refine no_implicit_lambda% (zH ?_)) | (refine no_implicit_lambda% (spl (fun hc => ?_) (fun hc => ?_)) <;> first | exact zG hc | skip) | (refine no_implicit_lambda% (ans ?_)) | (with_reducible first | exact zI | exact zJ) | (refine no_implicit_lambda% (cal [0] (refFail_c [] true) ?_ ?_)) | fail)
   (refine e_ret_to (H' := rr [] true) (rest := [(1, .box (cdrow zCd))]) (Conv.toT (τ := ⟨_, [(0, .box [.list [] .free, .v (.bool true)]), (1, .box (cdrow zCd))], _⟩) (.refl _) ?_ (Nat.le_refl _)) rfl ⟨zCd, [], true, ⟨Nat.zero_le _, by decide⟩, Nat.zero_le _, (fun h => by cases h), fun _ => ⟨rfl, (hI3.2 rfl).2⟩, rfl, rfl⟩ permT (LE0 rfl); exact wkh)
  | false =>
   have hvr := pV_right (w1 rfl).2
   obtain ⟨hb0, hPl⟩ := hI3.1 rfl
   have hro := rcond_c (⟨true, true, ⟨s.toArray⟩, v⟩ : Cd)
   have hre : rcB (⟨true, true, ⟨s.toArray⟩, v⟩ : Cd) = nmB ⟨s.toArray⟩ := by unfold rcB; simp [hvr]
   rw [hre] at hro
   unfold cdR at hPl
   dsimp only at hPl
   rcases hb : nmB (⟨s.toArray⟩ : ByteArray) with _ | _
   ·rw [hb] at hro
    rw [hb, if_neg (by simp)] at hPl
    repeat' (first | (refine no_implicit_lambda% (zH ?_)) | (refine no_implicit_lambda% (spl (fun hc => ?_) (fun hc => ?_)) <;> first | exact zG hc | skip) | (refine no_implicit_lambda% (ans ?_)) | (with_reducible first | exact zI | exact zJ) | (refine no_implicit_lambda% (cal [] (hro) ?_ ?_)) | (refine no_implicit_lambda% (cal [0] (refFail_c r3 false) ?_ ?_)) | fail)
    (refine e_ret_to (H' := rr [] true) (rest := [(1, .box (cdrow zCd))]) (Conv.toT (τ := ⟨_, [(0, .box [.list [] .free, .v (.bool true)]), (1, .box (cdrow zCd))], _⟩) (.refl _) ?_ (Nat.le_refl _)) rfl ⟨zCd, [], true, ⟨Nat.zero_le _, by decide⟩, Nat.zero_le _, (fun h => by cases h), fun _ => ⟨rfl, fun _ => hPl⟩, rfl, rfl⟩ permT (LE0 rfl); exact wkh)
   ·rw [hb] at hro
    rw [hb, if_pos rfl] at hPl
    repeat' (first | (refine no_implicit_lambda% (zH ?_)) | (refine no_implicit_lambda% (spl (fun hc => ?_) (fun hc => ?_)) <;> first | exact zG hc | skip) | (refine no_implicit_lambda% (ans ?_)) | (with_reducible first | exact zI | exact zJ) | (refine no_implicit_lambda% (cal [] (hro) ?_ ?_)) | fail)
    refine e_ret_to (H' := rr r3 false) (rest := [(1, .box (cdrow (⟨true, true, ⟨s.toArray⟩, v⟩ : Cd)))]) (Conv.toT (τ := ⟨_, [(0, .box [.list (r3.map brow) .free, .v (.bool false)]), (1, .box (cdrow (⟨true, true, ⟨s.toArray⟩, v⟩ : Cd)))], _⟩) (.refl _) ?_ (Nat.le_refl _)) rfl ⟨(⟨true, true, ⟨s.toArray⟩, v⟩ : Cd), r3, false, hv, by omega, fun _ => ⟨hb0, hPl⟩, fun h => (by cases h), rfl, rfl⟩ permT (LE0 rfl)
    exact wkh
 ·have hno2 : bad0 = false → pCd l = none := hI.no fun _ => by unfold cdK; rw [if_neg (by omega), if_neg (by omega), if_neg (by omega)]
  have e0 : decide ((N : Int) > 2) = true := decide_eq_true (by omega)
  have e1 : decide ((N : Int) > 0) = true := decide_eq_true (by omega)
  have e2 : ((N : Int) == 2) = false := by simp; omega
  repeat' (first | (refine no_implicit_lambda% (zH ?_)) | (refine no_implicit_lambda% (spl (fun hc => ?_) (fun hc => ?_)) <;> first | exact zG hc | skip) | (refine no_implicit_lambda% (ans ?_)) | (with_reducible first | exact zI | exact zJ) | (refine no_implicit_lambda% (cal [0] (refFail_c r0 b0) ?_ ?_)) | fail)
  all_goals try (exfalso; simp at hc; omega)
  (refine no_implicit_lambda% (cal [0] (qX_c [] true (by decide)) ?_ ?_))
  rotate_left
  ·(intro xx H' hh; obtain ⟨_, _, _, _, _, _, _, h', _⟩ := hh; cases h')
  intro xx H' hh
  obtain ⟨s, r1, b1, hs16, hr1, u1, u2, h', rfl⟩ := hh
  cases h'
  first | (refine no_implicit_lambda% (akc ?_)) | (refine no_implicit_lambda% (aec ?_))
  have hb1 : b1 = true := by
   cases b1 with
   | false => cases (u1 rfl).1
   | true => rfl
  subst hb1
  obtain rfl := (u2 rfl).1
  repeat' (first | (refine no_implicit_lambda% (zH ?_)) | (refine no_implicit_lambda% (spl (fun hc => ?_) (fun hc => ?_)) <;> first | exact zG hc | skip) | (refine no_implicit_lambda% (ans ?_)) | (with_reducible first | exact zI | exact zJ) | (refine no_implicit_lambda% (cal [0] (refFail_c [] true) ?_ ?_)) | fail)
  all_goals (refine e_ret_to (H' := rr [] true) (rest := [(1, .box (cdrow zCd))]) (Conv.toT (τ := ⟨_, [(0, .box [.list [] .free, .v (.bool true)]), (1, .box (cdrow zCd))], _⟩) (.refl _) ?_ (Nat.le_refl _)) rfl ⟨zCd, [], true, ⟨Nat.zero_le _, by decide⟩, Nat.zero_le _, (fun h => by cases h), fun _ => ⟨rfl, hno2⟩, rfl, rfl⟩ permT (LE0 rfl); exact wkh)
end Go.Proofs.YtncffhgoopdfgaaGreat
