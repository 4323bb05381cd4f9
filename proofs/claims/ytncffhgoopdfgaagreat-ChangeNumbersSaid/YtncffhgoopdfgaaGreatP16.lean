/- Part 16 of what the laws ChangeNumbers rest on: CtD, ChE, CtE, CtS, CtF, ChF, ChH, AmLd, ChJ, RxB, ChI, Vl, CtG, OcN, CtN, AmFs, CtH. -/
import Derived.Test.YtncffhgoopdfgaaGreatP15
set_option linter.unusedSimpArgs false
set_option linter.unusedVariables false
namespace Go.Proofs.YtncffhgoopdfgaaGreat
open Go.Am
set_option maxRecDepth 100000
def Iv {α : Type} (P : List UInt8 → Option α) (l : List UInt8) (bad0 : Bool) (cur : List UInt8) (bad : Bool) (k : List UInt8 → Option α) : Prop := (bad = false → bad0 = false ∧ P l = k cur) ∧ (bad = true → cur = [] ∧ (bad0 = false → P l = none))
theorem Iv.step {α β : Type} {P : List UInt8 → Option α} {l cur l' : List UInt8} {bad0 bad bad' : Bool} {p : List UInt8 → Option (β × List UInt8)} {f : β → List UInt8 → Option α} {x : β} (h : Iv P l bad0 cur bad (fun r => bnd (p r) f)) (h1 : bad' = false → bad = false ∧ p cur = some (x, l')) (h2 : bad' = true → l' = [] ∧ (bad = false → p cur = none)) : Iv P l bad0 l' bad' (f x) := by
 refine ⟨fun hb => ?_, fun hb => ?_⟩
 ·obtain ⟨e1, e2⟩ := h1 hb
  obtain ⟨e3, e4⟩ := h.1 e1
  refine ⟨e3, ?_⟩
  rw [e4]
  show bnd (p cur) f = _
  rw [e2]; rfl
 ·refine ⟨(h2 hb).1, fun h0 => ?_⟩
  cases bad with
  | false =>
   rw [(h.1 rfl).2]
   show bnd (p cur) f = none
   rw [(h2 hb).2 rfl]; rfl
  | true => exact (h.2 rfl).2 h0
theorem Iv.no {α : Type} {P : List UInt8 → Option α} {l cur : List UInt8} {bad0 bad : Bool} {k : List UInt8 → Option α} (h : Iv P l bad0 cur bad k) (hk : bad = false → k cur = none) : bad0 = false → P l = none := fun h0 => by
 cases bad with
 | false => rw [(h.1 rfl).2]; exact hk rfl
 | true => exact (h.2 rfl).2 h0
theorem rightC_tm {x : Ch} (hk : x.k = 1 ∨ x.k = 2 ∨ x.k = 5) (ht : tmOk x.t = false) : rightC x ≠ 0 := fun h => by
 have := (rightC_inv h).2.2.1 hk
 rw [ht] at this
 cases this
theorem chR_no {x : Ch} {r : List UInt8} (h : rightC x ≠ 0) : chR x r = none := if_neg h
def zCd : Cd := ⟨false, false, ⟨#[]⟩, ⟨0, [], 0⟩⟩
def zCh : Ch := ⟨0, ⟨#[]⟩, 0, ⟨0, [], 0⟩⟩
set_option maxHeartbeats 6400000 in
theorem rtake5_c (l : List UInt8) (bad0 : Bool) (hl : l.length < 10000000) : ACalls Tryz.prog 83 1 2000 [.ptr 0 0] (rr l bad0) (dQ pCh ChB (fun x => .agg (chrow x)) l bad0) := by
 refine no_implicit_lambda% (acalls_of tok dok (f := 83) ⟨Tryz.func83, rfl, by kernel_rfl⟩ ?_); refine no_implicit_lambda% (c_start (fun _ h => h) ?_)
 repeat' (first | (refine no_implicit_lambda% (zH ?_)) | (refine no_implicit_lambda% (spl (fun hc => ?_) (fun hc => ?_)) <;> first | exact zG hc | skip) | (refine no_implicit_lambda% (ans ?_)) | (with_reducible first | exact zI | exact zJ))
 (refine no_implicit_lambda% (cal [0] (qB_c l bad0 (by omega)) ?_ ?_))
 rotate_left
 ·(intro xx H' hh; obtain ⟨_, _, _, _, _, _, _, h', _⟩ := hh; cases h')
 intro xx H' hh
 obtain ⟨N, r0, b0, hN, hr0, q1, q2, h', rfl⟩ := hh
 cases h'
 first | (refine no_implicit_lambda% (akc ?_)) | (refine no_implicit_lambda% (aec ?_))
 refine no_implicit_lambda% (awd ?_)
 have hN2 : N < 256 := hN
 rw [show IntKind.i64.wrap (N : Int) = (N : Int) from z64 (by omega) (by omega)]
 have hI : Iv pCh l bad0 r0 b0 (chK N) := ⟨fun hb => ⟨(q1 hb).1, by unfold pCh; rw [(q1 hb).2]; rfl⟩, fun hb => ⟨(q2 hb).1, fun h0 => by unfold pCh; rw [(q2 hb).2 h0]; rfl⟩⟩
 have hN5 : N = 1 ∨ N = 5 ∨ N = 2 ∨ N = 3 ∨ N = 4 ∨ ¬ (1 ≤ N ∧ N ≤ 5) := by omega
 rcases hN5 with rfl | rfl | rfl | rfl | rfl | hno
 ·replace hI : Iv pCh l bad0 r0 b0 (fun r => bnd (pX r) fun s r1 => bnd (pL r1) fun t r2 => bnd (pV r2) fun v r3 => chR (⟨1, ⟨s.toArray⟩, IntKind.i64.wrap (t : Int), v⟩ : Ch) r3) := hI
  repeat' (first | (refine no_implicit_lambda% (zH ?_)) | (refine no_implicit_lambda% (spl (fun hc => ?_) (fun hc => ?_)) <;> first | exact zG hc | skip) | (refine no_implicit_lambda% (ans ?_)) | (with_reducible first | exact zI | exact zJ))
  (refine no_implicit_lambda% (cal [0] (qX_c r0 b0 (by omega)) ?_ ?_))
  rotate_left
  ·(intro xx H' hh; obtain ⟨_, _, _, _, _, _, _, h', _⟩ := hh; cases h')
  intro xx H' hh
  obtain ⟨s, r1, b1, hs16, hr1, u1, u2, h', rfl⟩ := hh
  cases h'
  first | (refine no_implicit_lambda% (akc ?_)) | (refine no_implicit_lambda% (aec ?_))
  have hI1 : Iv pCh l bad0 r1 b1 (fun r1 => bnd (pL r1) fun t r2 => bnd (pV r2) fun v r3 => chR (⟨1, ⟨s.toArray⟩, IntKind.i64.wrap (t : Int), v⟩ : Ch) r3) := hI.step u1 u2
  repeat' (first | (refine no_implicit_lambda% (zH ?_)) | (refine no_implicit_lambda% (spl (fun hc => ?_) (fun hc => ?_)) <;> first | exact zG hc | skip) | (refine no_implicit_lambda% (ans ?_)) | (with_reducible first | exact zI | exact zJ))
  (refine no_implicit_lambda% (cal [0] (qL_c r1 b1 (by omega)) ?_ ?_))
  rotate_left
  ·(intro xx H' hh; obtain ⟨_, _, _, _, _, _, _, h', _⟩ := hh; cases h')
  intro xx H' hh
  obtain ⟨t, r2, b2, ht, hr2, v1, v2, h', rfl⟩ := hh
  cases h'
  first | (refine no_implicit_lambda% (akc ?_)) | (refine no_implicit_lambda% (aec ?_))
  have ht2 : t < 18446744073709551616 := ht
  have hI2 : Iv pCh l bad0 r2 b2 (fun r2 => bnd (pV r2) fun v r3 => chR (⟨1, ⟨s.toArray⟩, IntKind.i64.wrap (t : Int), v⟩ : Ch) r3) := hI1.step v1 v2
  repeat' (first | (refine no_implicit_lambda% (zH ?_)) | (refine no_implicit_lambda% (spl (fun hc => ?_) (fun hc => ?_)) <;> first | exact zG hc | skip) | (refine no_implicit_lambda% (ans ?_)) | (with_reducible first | exact zI | exact zJ) | (refine no_implicit_lambda% (cal [0] (refFail_c r2 b2) ?_ ?_)) | fail)
  ·have hbig : 1099511627776 < t := by have h9 := of_decide_eq_true hc; omega
   have hno : bad0 = false → pCh l = none := hI2.no fun _ => bnd_inv fun v r _ => chR_no (rightC_tm (.inl rfl) (tm_bad hbig ht2))
   (refine no_implicit_lambda% (cal [0] (qV_c [] true (by decide)) ?_ ?_))
   rotate_left
   ·(intro xx H' hh; obtain ⟨_, _, _, _, _, _, _, h', _⟩ := hh; cases h')
   intro xx H' hh
   obtain ⟨v, r3, b3, hv, hr3, w1, w2, h', rfl⟩ := hh
   cases h'
   first | (refine no_implicit_lambda% (akc ?_)) | (refine no_implicit_lambda% (aec ?_))
   have hb3 : b3 = true := by
    cases b3 with
    | false => cases (w1 rfl).1
    | true => rfl
   subst hb3
   obtain rfl := (w2 rfl).1
   repeat' (first | (refine no_implicit_lambda% (zH ?_)) | (refine no_implicit_lambda% (spl (fun hc => ?_) (fun hc => ?_)) <;> first | exact zG hc | skip) | (refine no_implicit_lambda% (ans ?_)) | (with_reducible first | exact zI | exact zJ) | (refine no_implicit_lambda% (cal [0] (refFail_c [] true) ?_ ?_)) | fail)
   (refine e_ret_to (H' := rr [] true) (rest := [(1, .box (chrow zCh))]) (Conv.toT (τ := ⟨_, [(0, .box [.list [] .free, .v (.bool true)]), (1, .box (chrow zCh))], _⟩) (.refl _) ?_ (Nat.le_refl _)) rfl ⟨zCh, [], true, ⟨Nat.zero_le _, by decide⟩, Nat.zero_le _, (fun h => by cases h), fun _ => ⟨rfl, hno⟩, rfl, rfl⟩ permT (LE0 rfl); exact wkh)
  ·(refine no_implicit_lambda% (cal [0] (qV_c r2 b2 (by omega)) ?_ ?_))
   rotate_left
   ·(intro xx H' hh; obtain ⟨_, _, _, _, _, _, _, h', _⟩ := hh; cases h')
   intro xx H' hh
   obtain ⟨v, r3, b3, hv, hr3, w1, w2, h', rfl⟩ := hh
   cases h'
   first | (refine no_implicit_lambda% (akc ?_)) | (refine no_implicit_lambda% (aec ?_))
   have hI3 : Iv pCh l bad0 r3 b3 (fun r3 => chR (⟨1, ⟨s.toArray⟩, IntKind.i64.wrap (t : Int), v⟩ : Ch) r3) := hI2.step w1 w2
   cases b3 with
   | true =>
    obtain rfl := (w2 rfl).1
    repeat' (first | (refine no_implicit_lambda% (zH ?_)) | (refine no_implicit_lambda% (spl (fun hc => ?_) (fun hc => ?_)) <;> first | exact zG hc | skip) | (refine no_implicit_lambda% (ans ?_)) | (with_reducible first | exact zI | exact zJ) | (refine no_implicit_lambda% (cal [0] (refFail_c [] true) ?_ ?_)) | fail)
    (refine e_ret_to (H' := rr [] true) (rest := [(1, .box (chrow zCh))]) (Conv.toT (τ := ⟨_, [(0, .box [.list [] .free, .v (.bool true)]), (1, .box (chrow zCh))], _⟩) (.refl _) ?_ (Nat.le_refl _)) rfl ⟨zCh, [], true, ⟨Nat.zero_le _, by decide⟩, Nat.zero_le _, (fun h => by cases h), fun _ => ⟨rfl, (hI3.2 rfl).2⟩, rfl, rfl⟩ permT (LE0 rfl); exact wkh)
   | false =>
    obtain ⟨hb0, hPl⟩ := hI3.1 rfl
    have hro := refRightC_c (⟨1, ⟨s.toArray⟩, IntKind.i64.wrap (t : Int), v⟩ : Ch)
    unfold chR at hPl
    dsimp only at hPl
    repeat' (first | (refine no_implicit_lambda% (zH ?_)) | (refine no_implicit_lambda% (spl (fun hc => ?_) (fun hc => ?_)) <;> first | exact zG hc | skip) | (refine no_implicit_lambda% (ans ?_)) | (with_reducible first | exact zI | exact zJ) | (refine no_implicit_lambda% (cal [] (hro) ?_ ?_)) | (refine no_implicit_lambda% (cal [0] (refFail_c r3 false) ?_ ?_)) | fail)
    ·have hb : rightC (⟨1, ⟨s.toArray⟩, IntKind.i64.wrap (t : Int), v⟩ : Ch) ≠ 0 := by simpa using hc
     rw [if_neg hb] at hPl
     (refine e_ret_to (H' := rr [] true) (rest := [(1, .box (chrow zCh))]) (Conv.toT (τ := ⟨_, [(0, .box [.list [] .free, .v (.bool true)]), (1, .box (chrow zCh))], _⟩) (.refl _) ?_ (Nat.le_refl _)) rfl ⟨zCh, [], true, ⟨Nat.zero_le _, by decide⟩, Nat.zero_le _, (fun h => by cases h), fun _ => ⟨rfl, fun _ => hPl⟩, rfl, rfl⟩ permT (LE0 rfl); exact wkh)
    ·have hb : rightC (⟨1, ⟨s.toArray⟩, IntKind.i64.wrap (t : Int), v⟩ : Ch) = 0 := by simpa using hc
     rw [if_pos hb] at hPl
     refine e_ret_to (H' := rr r3 false) (rest := [(1, .box (chrow (⟨1, ⟨s.toArray⟩, IntKind.i64.wrap (t : Int), v⟩ : Ch)))]) (Conv.toT (τ := ⟨_, [(0, .box [.list (r3.map brow) .free, .v (.bool false)]), (1, .box (chrow (⟨1, ⟨s.toArray⟩, IntKind.i64.wrap (t : Int), v⟩ : Ch)))], _⟩) (.refl _) ?_ (Nat.le_refl _)) rfl ⟨(⟨1, ⟨s.toArray⟩, IntKind.i64.wrap (t : Int), v⟩ : Ch), r3, false, hv, by omega, fun _ => ⟨hb0, hPl⟩, fun h => (by cases h), rfl, rfl⟩ permT (LE0 rfl)
     exact wkh
 ·replace hI : Iv pCh l bad0 r0 b0 (fun r => bnd (pX r) fun s r1 => bnd (pL r1) fun t r2 => bnd (pV r2) fun v r3 => chR (⟨5, ⟨s.toArray⟩, IntKind.i64.wrap (t : Int), v⟩ : Ch) r3) := hI
  repeat' (first | (refine no_implicit_lambda% (zH ?_)) | (refine no_implicit_lambda% (spl (fun hc => ?_) (fun hc => ?_)) <;> first | exact zG hc | skip) | (refine no_implicit_lambda% (ans ?_)) | (with_reducible first | exact zI | exact zJ))
  (refine no_implicit_lambda% (cal [0] (qX_c r0 b0 (by omega)) ?_ ?_))
  rotate_left
  ·(intro xx H' hh; obtain ⟨_, _, _, _, _, _, _, h', _⟩ := hh; cases h')
  intro xx H' hh
  obtain ⟨s, r1, b1, hs16, hr1, u1, u2, h', rfl⟩ := hh
  cases h'
  first | (refine no_implicit_lambda% (akc ?_)) | (refine no_implicit_lambda% (aec ?_))
  have hI1 : Iv pCh l bad0 r1 b1 (fun r1 => bnd (pL r1) fun t r2 => bnd (pV r2) fun v r3 => chR (⟨5, ⟨s.toArray⟩, IntKind.i64.wrap (t : Int), v⟩ : Ch) r3) := hI.step u1 u2
  repeat' (first | (refine no_implicit_lambda% (zH ?_)) | (refine no_implicit_lambda% (spl (fun hc => ?_) (fun hc => ?_)) <;> first | exact zG hc | skip) | (refine no_implicit_lambda% (ans ?_)) | (with_reducible first | exact zI | exact zJ))
  (refine no_implicit_lambda% (cal [0] (qL_c r1 b1 (by omega)) ?_ ?_))
  rotate_left
  ·(intro xx H' hh; obtain ⟨_, _, _, _, _, _, _, h', _⟩ := hh; cases h')
  intro xx H' hh
  obtain ⟨t, r2, b2, ht, hr2, v1, v2, h', rfl⟩ := hh
  cases h'
  first | (refine no_implicit_lambda% (akc ?_)) | (refine no_implicit_lambda% (aec ?_))
  have ht2 : t < 18446744073709551616 := ht
  have hI2 : Iv pCh l bad0 r2 b2 (fun r2 => bnd (pV r2) fun v r3 => chR (⟨5, ⟨s.toArray⟩, IntKind.i64.wrap (t : Int), v⟩ : Ch) r3) := hI1.step v1 v2
  repeat' (first | (refine no_implicit_lambda% (zH ?_)) | (refine no_implicit_lambda% (spl (fun hc => ?_) (fun hc => ?_)) <;> first | exact zG hc | skip) | (refine no_implicit_lambda% (ans ?_)) | (with_reducible first | exact zI | exact zJ) | (refine no_implicit_lambda% (cal [0] (refFail_c r2 b2) ?_ ?_)) | fail)
  ·have hbig : 1099511627776 < t := by have h9 := of_decide_eq_true hc; omega
   have hno : bad0 = false → pCh l = none := hI2.no fun _ => bnd_inv fun v r _ => chR_no (rightC_tm (.inr (.inr rfl)) (tm_bad hbig ht2))
   (refine no_implicit_lambda% (cal [0] (qV_c [] true (by decide)) ?_ ?_))
   rotate_left
   ·(intro xx H' hh; obtain ⟨_, _, _, _, _, _, _, h', _⟩ := hh; cases h')
   intro xx H' hh
   obtain ⟨v, r3, b3, hv, hr3, w1, w2, h', rfl⟩ := hh
   cases h'
   first | (refine no_implicit_lambda% (akc ?_)) | (refine no_implicit_lambda% (aec ?_))
   have hb3 : b3 = true := by
    cases b3 with
    | false => cases (w1 rfl).1
    | true => rfl
   subst hb3
   obtain rfl := (w2 rfl).1
   repeat' (first | (refine no_implicit_lambda% (zH ?_)) | (refine no_implicit_lambda% (spl (fun hc => ?_) (fun hc => ?_)) <;> first | exact zG hc | skip) | (refine no_implicit_lambda% (ans ?_)) | (with_reducible first | exact zI | exact zJ) | (refine no_implicit_lambda% (cal [0] (refFail_c [] true) ?_ ?_)) | fail)
   (refine e_ret_to (H' := rr [] true) (rest := [(1, .box (chrow zCh))]) (Conv.toT (τ := ⟨_, [(0, .box [.list [] .free, .v (.bool true)]), (1, .box (chrow zCh))], _⟩) (.refl _) ?_ (Nat.le_refl _)) rfl ⟨zCh, [], true, ⟨Nat.zero_le _, by decide⟩, Nat.zero_le _, (fun h => by cases h), fun _ => ⟨rfl, hno⟩, rfl, rfl⟩ permT (LE0 rfl); exact wkh)
  ·(refine no_implicit_lambda% (cal [0] (qV_c r2 b2 (by omega)) ?_ ?_))
   rotate_left
   ·(intro xx H' hh; obtain ⟨_, _, _, _, _, _, _, h', _⟩ := hh; cases h')
   intro xx H' hh
   obtain ⟨v, r3, b3, hv, hr3, w1, w2, h', rfl⟩ := hh
   cases h'
   first | (refine no_implicit_lambda% (akc ?_)) | (refine no_implicit_lambda% (aec ?_))
   have hI3 : Iv pCh l bad0 r3 b3 (fun r3 => chR (⟨5, ⟨s.toArray⟩, IntKind.i64.wrap (t : Int), v⟩ : Ch) r3) := hI2.step w1 w2
   cases b3 with
   | true =>
    obtain rfl := (w2 rfl).1
    repeat' (first | (refine no_implicit_lambda% (zH ?_)) | (refine no_implicit_lambda% (spl (fun hc => ?_) (fun hc => ?_)) <;> first | exact zG hc | skip) | (refine no_implicit_lambda% (ans ?_)) | (with_reducible first | exact zI | exact zJ) | (refine no_implicit_lambda% (cal [0] (refFail_c [] true) ?_ ?_)) | fail)
    (refine e_ret_to (H' := rr [] true) (rest := [(1, .box (chrow zCh))]) (Conv.toT (τ := ⟨_, [(0, .box [.list [] .free, .v (.bool true)]), (1, .box (chrow zCh))], _⟩) (.refl _) ?_ (Nat.le_refl _)) rfl ⟨zCh, [], true, ⟨Nat.zero_le _, by decide⟩, Nat.zero_le _, (fun h => by cases h), fun _ => ⟨rfl, (hI3.2 rfl).2⟩, rfl, rfl⟩ permT (LE0 rfl); exact wkh)
   | false =>
    obtain ⟨hb0, hPl⟩ := hI3.1 rfl
    have hro := refRightC_c (⟨5, ⟨s.toArray⟩, IntKind.i64.wrap (t : Int), v⟩ : Ch)
    unfold chR at hPl
    dsimp only at hPl
    repeat' (first | (refine no_implicit_lambda% (zH ?_)) | (refine no_implicit_lambda% (spl (fun hc => ?_) (fun hc => ?_)) <;> first | exact zG hc | skip) | (refine no_implicit_lambda% (ans ?_)) | (with_reducible first | exact zI | exact zJ) | (refine no_implicit_lambda% (cal [] (hro) ?_ ?_)) | (refine no_implicit_lambda% (cal [0] (refFail_c r3 false) ?_ ?_)) | fail)
    ·have hb : rightC (⟨5, ⟨s.toArray⟩, IntKind.i64.wrap (t : Int), v⟩ : Ch) ≠ 0 := by simpa using hc
     rw [if_neg hb] at hPl
     (refine e_ret_to (H' := rr [] true) (rest := [(1, .box (chrow zCh))]) (Conv.toT (τ := ⟨_, [(0, .box [.list [] .free, .v (.bool true)]), (1, .box (chrow zCh))], _⟩) (.refl _) ?_ (Nat.le_refl _)) rfl ⟨zCh, [], true, ⟨Nat.zero_le _, by decide⟩, Nat.zero_le _, (fun h => by cases h), fun _ => ⟨rfl, fun _ => hPl⟩, rfl, rfl⟩ permT (LE0 rfl); exact wkh)
    ·have hb : rightC (⟨5, ⟨s.toArray⟩, IntKind.i64.wrap (t : Int), v⟩ : Ch) = 0 := by simpa using hc
     rw [if_pos hb] at hPl
     refine e_ret_to (H' := rr r3 false) (rest := [(1, .box (chrow (⟨5, ⟨s.toArray⟩, IntKind.i64.wrap (t : Int), v⟩ : Ch)))]) (Conv.toT (τ := ⟨_, [(0, .box [.list (r3.map brow) .free, .v (.bool false)]), (1, .box (chrow (⟨5, ⟨s.toArray⟩, IntKind.i64.wrap (t : Int), v⟩ : Ch)))], _⟩) (.refl _) ?_ (Nat.le_refl _)) rfl ⟨(⟨5, ⟨s.toArray⟩, IntKind.i64.wrap (t : Int), v⟩ : Ch), r3, false, hv, by omega, fun _ => ⟨hb0, hPl⟩, fun h => (by cases h), rfl, rfl⟩ permT (LE0 rfl)
     exact wkh
 ·replace hI : Iv pCh l bad0 r0 b0 (fun r => bnd (pX r) fun s r1 => bnd (pL r1) fun t r2 => chR (⟨2, ⟨s.toArray⟩, IntKind.i64.wrap (t : Int), ⟨0, [], 0⟩⟩ : Ch) r2) := hI
  repeat' (first | (refine no_implicit_lambda% (zH ?_)) | (refine no_implicit_lambda% (spl (fun hc => ?_) (fun hc => ?_)) <;> first | exact zG hc | skip) | (refine no_implicit_lambda% (ans ?_)) | (with_reducible first | exact zI | exact zJ))
  (refine no_implicit_lambda% (cal [0] (qX_c r0 b0 (by omega)) ?_ ?_))
  rotate_left
  ·(intro xx H' hh; obtain ⟨_, _, _, _, _, _, _, h', _⟩ := hh; cases h')
  intro xx H' hh
  obtain ⟨s, r1, b1, hs16, hr1, u1, u2, h', rfl⟩ := hh
  cases h'
  first | (refine no_implicit_lambda% (akc ?_)) | (refine no_implicit_lambda% (aec ?_))
  have hI1 : Iv pCh l bad0 r1 b1 (fun r1 => bnd (pL r1) fun t r2 => chR (⟨2, ⟨s.toArray⟩, IntKind.i64.wrap (t : Int), ⟨0, [], 0⟩⟩ : Ch) r2) := hI.step u1 u2
  repeat' (first | (refine no_implicit_lambda% (zH ?_)) | (refine no_implicit_lambda% (spl (fun hc => ?_) (fun hc => ?_)) <;> first | exact zG hc | skip) | (refine no_implicit_lambda% (ans ?_)) | (with_reducible first | exact zI | exact zJ))
  (refine no_implicit_lambda% (cal [0] (qL_c r1 b1 (by omega)) ?_ ?_))
  rotate_left
  ·(intro xx H' hh; obtain ⟨_, _, _, _, _, _, _, h', _⟩ := hh; cases h')
  intro xx H' hh
  obtain ⟨t, r2, b2, ht, hr2, v1, v2, h', rfl⟩ := hh
  cases h'
  first | (refine no_implicit_lambda% (akc ?_)) | (refine no_implicit_lambda% (aec ?_))
  have ht2 : t < 18446744073709551616 := ht
  have hI2 : Iv pCh l bad0 r2 b2 (fun r2 => chR (⟨2, ⟨s.toArray⟩, IntKind.i64.wrap (t : Int), ⟨0, [], 0⟩⟩ : Ch) r2) := hI1.step v1 v2
  cases b2 with
  | true =>
   obtain rfl := (v2 rfl).1
   repeat' (first | (refine no_implicit_lambda% (zH ?_)) | (refine no_implicit_lambda% (spl (fun hc => ?_) (fun hc => ?_)) <;> first | exact zG hc | skip) | (refine no_implicit_lambda% (ans ?_)) | (with_reducible first | exact zI | exact zJ) | (refine no_implicit_lambda% (cal [0] (refFail_c [] true) ?_ ?_)) | fail)
   all_goals (refine e_ret_to (H' := rr [] true) (rest := [(1, .box (chrow zCh))]) (Conv.toT (τ := ⟨_, [(0, .box [.list [] .free, .v (.bool true)]), (1, .box (chrow zCh))], _⟩) (.refl _) ?_ (Nat.le_refl _)) rfl ⟨zCh, [], true, ⟨Nat.zero_le _, by decide⟩, Nat.zero_le _, (fun h => by cases h), fun _ => ⟨rfl, (hI2.2 rfl).2⟩, rfl, rfl⟩ permT (LE0 rfl); exact wkh)
  | false =>
   obtain ⟨hb0, hPl⟩ := hI2.1 rfl
   have hro := refRightC_c (⟨2, ⟨s.toArray⟩, IntKind.i64.wrap (t : Int), ⟨0, [], 0⟩⟩ : Ch)
   unfold chR at hPl
   dsimp only at hPl
   repeat' (first | (refine no_implicit_lambda% (zH ?_)) | (refine no_implicit_lambda% (spl (fun hc => ?_) (fun hc => ?_)) <;> first | exact zG hc | skip) | (refine no_implicit_lambda% (ans ?_)) | (with_reducible first | exact zI | exact zJ) | (refine no_implicit_lambda% (cal [0] (refFail_c r2 false) ?_ ?_)) | (refine no_implicit_lambda% (cal [0] (refFail_c [] true) ?_ ?_)) | fail)
   ·have hbig : 1099511627776 < t := by have h9 := of_decide_eq_true hc; omega
    have hno : bad0 = false → pCh l = none := hI2.no fun _ => chR_no (rightC_tm (.inr (.inl rfl)) (tm_bad hbig ht2))
    (refine e_ret_to (H' := rr [] true) (rest := [(1, .box (chrow zCh))]) (Conv.toT (τ := ⟨_, [(0, .box [.list [] .free, .v (.bool true)]), (1, .box (chrow zCh))], _⟩) (.refl _) ?_ (Nat.le_refl _)) rfl ⟨zCh, [], true, ⟨Nat.zero_le _, by decide⟩, Nat.zero_le _, (fun h => by cases h), fun _ => ⟨rfl, hno⟩, rfl, rfl⟩ permT (LE0 rfl); exact wkh)
   ·(refine no_implicit_lambda% (calw [] (hro) ?_ ?_))
    rotate_left
    ·first | (exact zI) | (exact zJ)
    refine no_implicit_lambda% (ret1 ?_); first | (refine no_implicit_lambda% (akc ?_)) | (refine no_implicit_lambda% (aec ?_))
    repeat' (first | (refine no_implicit_lambda% (zH ?_)) | (refine no_implicit_lambda% (spl (fun hc => ?_) (fun hc => ?_)) <;> first | exact zG hc | skip) | (refine no_implicit_lambda% (ans ?_)) | (with_reducible first | exact zI | exact zJ) | (refine no_implicit_lambda% (cal [0] (refFail_c r2 false) ?_ ?_)) | fail)
    ·have hb : rightC (⟨2, ⟨s.toArray⟩, IntKind.i64.wrap (t : Int), ⟨0, [], 0⟩⟩ : Ch) ≠ 0 := by simpa using hc
     rw [if_neg hb] at hPl
     (refine e_ret_to (H' := rr [] true) (rest := [(1, .box (chrow zCh))]) (Conv.toT (τ := ⟨_, [(0, .box [.list [] .free, .v (.bool true)]), (1, .box (chrow zCh))], _⟩) (.refl _) ?_ (Nat.le_refl _)) rfl ⟨zCh, [], true, ⟨Nat.zero_le _, by decide⟩, Nat.zero_le _, (fun h => by cases h), fun _ => ⟨rfl, fun _ => hPl⟩, rfl, rfl⟩ permT (LE0 rfl); exact wkh)
    ·have hb : rightC (⟨2, ⟨s.toArray⟩, IntKind.i64.wrap (t : Int), ⟨0, [], 0⟩⟩ : Ch) = 0 := by simpa using hc
     rw [if_pos hb] at hPl
     refine e_ret_to (H' := rr r2 false) (rest := [(1, .box (chrow (⟨2, ⟨s.toArray⟩, IntKind.i64.wrap (t : Int), ⟨0, [], 0⟩⟩ : Ch)))]) (Conv.toT (τ := ⟨_, [(0, .box [.list (r2.map brow) .free, .v (.bool false)]), (1, .box (chrow (⟨2, ⟨s.toArray⟩, IntKind.i64.wrap (t : Int), ⟨0, [], 0⟩⟩ : Ch)))], _⟩) (.refl _) ?_ (Nat.le_refl _)) rfl ⟨(⟨2, ⟨s.toArray⟩, IntKind.i64.wrap (t : Int), ⟨0, [], 0⟩⟩ : Ch), r2, false, ⟨Nat.zero_le _, (by show (0 : Nat) < 18446744073709551616; decide)⟩, by omega, fun _ => ⟨hb0, hPl⟩, fun h => (by cases h), rfl, rfl⟩ permT (LE0 rfl)
     exact wkh
 ·replace hI : Iv pCh l bad0 r0 b0 (fun r => bnd (pX r) fun s r1 => chR (⟨3, ⟨s.toArray⟩, 0, ⟨0, [], 0⟩⟩ : Ch) r1) := hI
  repeat' (first | (refine no_implicit_lambda% (zH ?_)) | (refine no_implicit_lambda% (spl (fun hc => ?_) (fun hc => ?_)) <;> first | exact zG hc | skip) | (refine no_implicit_lambda% (ans ?_)) | (with_reducible first | exact zI | exact zJ))
  (refine no_implicit_lambda% (cal [0] (qX_c r0 b0 (by omega)) ?_ ?_))
  rotate_left
  ·(intro xx H' hh; obtain ⟨_, _, _, _, _, _, _, h', _⟩ := hh; cases h')
  intro xx H' hh
  obtain ⟨s, r1, b1, hs16, hr1, u1, u2, h', rfl⟩ := hh
  cases h'
  first | (refine no_implicit_lambda% (akc ?_)) | (refine no_implicit_lambda% (aec ?_))
  have hI1 : Iv pCh l bad0 r1 b1 (fun r1 => chR (⟨3, ⟨s.toArray⟩, 0, ⟨0, [], 0⟩⟩ : Ch) r1) := hI.step u1 u2
  cases b1 with
  | true =>
   obtain rfl := (u2 rfl).1
   repeat' (first | (refine no_implicit_lambda% (zH ?_)) | (refine no_implicit_lambda% (spl (fun hc => ?_) (fun hc => ?_)) <;> first | exact zG hc | skip) | (refine no_implicit_lambda% (ans ?_)) | (with_reducible first | exact zI | exact zJ) | (refine no_implicit_lambda% (cal [0] (refFail_c [] true) ?_ ?_)) | fail)
   (refine e_ret_to (H' := rr [] true) (rest := [(1, .box (chrow zCh))]) (Conv.toT (τ := ⟨_, [(0, .box [.list [] .free, .v (.bool true)]), (1, .box (chrow zCh))], _⟩) (.refl _) ?_ (Nat.le_refl _)) rfl ⟨zCh, [], true, ⟨Nat.zero_le _, by decide⟩, Nat.zero_le _, (fun h => by cases h), fun _ => ⟨rfl, (hI1.2 rfl).2⟩, rfl, rfl⟩ permT (LE0 rfl); exact wkh)
  | false =>
   obtain ⟨hb0, hPl⟩ := hI1.1 rfl
   have hro := refRightC_c (⟨3, ⟨s.toArray⟩, 0, ⟨0, [], 0⟩⟩ : Ch)
   unfold chR at hPl
   dsimp only at hPl
   repeat' (first | (refine no_implicit_lambda% (zH ?_)) | (refine no_implicit_lambda% (spl (fun hc => ?_) (fun hc => ?_)) <;> first | exact zG hc | skip) | (refine no_implicit_lambda% (ans ?_)) | (with_reducible first | exact zI | exact zJ))
   (refine no_implicit_lambda% (calw [] (hro) ?_ ?_))
   rotate_left
   ·first | (exact zI) | (exact zJ)
   refine no_implicit_lambda% (ret1 ?_); first | (refine no_implicit_lambda% (akc ?_)) | (refine no_implicit_lambda% (aec ?_))
   repeat' (first | (refine no_implicit_lambda% (zH ?_)) | (refine no_implicit_lambda% (spl (fun hc => ?_) (fun hc => ?_)) <;> first | exact zG hc | skip) | (refine no_implicit_lambda% (ans ?_)) | (with_reducible first | exact zI | exact zJ) | (refine no_implicit_lambda% (cal [0] (refFail_c r1 false) ?_ ?_)) | fail)
   ·have hb : rightC (⟨3, ⟨s.toArray⟩, 0, ⟨0, [], 0⟩⟩ : Ch) ≠ 0 := by simpa using hc
    rw [if_neg hb] at hPl
    (refine e_ret_to (H' := rr [] true) (rest := [(1, .box (chrow zCh))]) (Conv.toT (τ := ⟨_, [(0, .box [.list [] .free, .v (.bool true)]), (1, .box (chrow zCh))], _⟩) (.refl _) ?_ (Nat.le_refl _)) rfl ⟨zCh, [], true, ⟨Nat.zero_le _, by decide⟩, Nat.zero_le _, (fun h => by cases h), fun _ => ⟨rfl, fun _ => hPl⟩, rfl, rfl⟩ permT (LE0 rfl); exact wkh)
   ·have hb : rightC (⟨3, ⟨s.toArray⟩, 0, ⟨0, [], 0⟩⟩ : Ch) = 0 := by simpa using hc
    rw [if_pos hb] at hPl
    refine e_ret_to (H' := rr r1 false) (rest := [(1, .box (chrow (⟨3, ⟨s.toArray⟩, 0, ⟨0, [], 0⟩⟩ : Ch)))]) (Conv.toT (τ := ⟨_, [(0, .box [.list (r1.map brow) .free, .v (.bool false)]), (1, .box (chrow (⟨3, ⟨s.toArray⟩, 0, ⟨0, [], 0⟩⟩ : Ch)))], _⟩) (.refl _) ?_ (Nat.le_refl _)) rfl ⟨(⟨3, ⟨s.toArray⟩, 0, ⟨0, [], 0⟩⟩ : Ch), r1, false, ⟨Nat.zero_le _, (by show (0 : Nat) < 18446744073709551616; decide)⟩, by omega, fun _ => ⟨hb0, hPl⟩, fun h => (by cases h), rfl, rfl⟩ permT (LE0 rfl)
    exact wkh
 ·replace hI : Iv pCh l bad0 r0 b0 (fun r => chR (⟨4, ⟨#[]⟩, 0, ⟨0, [], 0⟩⟩ : Ch) r) := hI
  cases b0 with
  | true =>
   obtain rfl := (hI.2 rfl).1
   repeat' (first | (refine no_implicit_lambda% (zH ?_)) | (refine no_implicit_lambda% (spl (fun hc => ?_) (fun hc => ?_)) <;> first | exact zG hc | skip) | (refine no_implicit_lambda% (ans ?_)) | (with_reducible first | exact zI | exact zJ) | (refine no_implicit_lambda% (cal [0] (refFail_c [] true) ?_ ?_)) | fail)
   (refine e_ret_to (H' := rr [] true) (rest := [(1, .box (chrow zCh))]) (Conv.toT (τ := ⟨_, [(0, .box [.list [] .free, .v (.bool true)]), (1, .box (chrow zCh))], _⟩) (.refl _) ?_ (Nat.le_refl _)) rfl ⟨zCh, [], true, ⟨Nat.zero_le _, by decide⟩, Nat.zero_le _, (fun h => by cases h), fun _ => ⟨rfl, (hI.2 rfl).2⟩, rfl, rfl⟩ permT (LE0 rfl); exact wkh)
  | false =>
   obtain ⟨hb0, hPl⟩ := hI.1 rfl
   have hro := refRightC_c (⟨4, ⟨#[]⟩, 0, ⟨0, [], 0⟩⟩ : Ch)
   have hb : rightC (⟨4, ⟨#[]⟩, 0, ⟨0, [], 0⟩⟩ : Ch) = 0 := rfl
   unfold chR at hPl
   dsimp only at hPl
   rw [if_pos hb] at hPl
   rw [hb] at hro
   repeat' (first | (refine no_implicit_lambda% (zH ?_)) | (refine no_implicit_lambda% (spl (fun hc => ?_) (fun hc => ?_)) <;> first | exact zG hc | skip) | (refine no_implicit_lambda% (ans ?_)) | (with_reducible first | exact zI | exact zJ))
   (refine no_implicit_lambda% (calw [] (hro) ?_ ?_))
   rotate_left
   ·first | (exact zI) | (exact zJ)
   refine no_implicit_lambda% (ret1 ?_); first | (refine no_implicit_lambda% (akc ?_)) | (refine no_implicit_lambda% (aec ?_))
   repeat' (first | (refine no_implicit_lambda% (zH ?_)) | (refine no_implicit_lambda% (spl (fun hc => ?_) (fun hc => ?_)) <;> first | exact zG hc | skip) | (refine no_implicit_lambda% (ans ?_)) | (with_reducible first | exact zI | exact zJ))
   refine e_ret_to (H' := rr r0 false) (rest := [(1, .box (chrow (⟨4, ⟨#[]⟩, 0, ⟨0, [], 0⟩⟩ : Ch)))]) (Conv.toT (τ := ⟨_, [(0, .box [.list (r0.map brow) .free, .v (.bool false)]), (1, .box (chrow (⟨4, ⟨#[]⟩, 0, ⟨0, [], 0⟩⟩ : Ch)))], _⟩) (.refl _) ?_ (Nat.le_refl _)) rfl ⟨(⟨4, ⟨#[]⟩, 0, ⟨0, [], 0⟩⟩ : Ch), r0, false, ⟨Nat.zero_le _, (by show (0 : Nat) < 18446744073709551616; decide)⟩, by omega, fun _ => ⟨hb0, hPl⟩, fun h => (by cases h), rfl, rfl⟩ permT (LE0 rfl)
   exact wkh
 ·have hno2 : bad0 = false → pCh l = none := hI.no fun _ => by unfold chK; rw [if_neg (by omega), if_neg (by omega), if_neg (by omega), if_neg (by omega)]
  have e1 : ((N : Int) == 1) = false := by simp; omega
  have e2 : ((N : Int) == 2) = false := by simp; omega
  have e4 : ((N : Int) == 4) = false := by simp; omega
  have e5 : ((N : Int) == 5) = false := by simp; omega
  have e44 : ((N : Int) != 4) = true := by simp; omega
  repeat' (first | (refine no_implicit_lambda% (zH ?_)) | (refine no_implicit_lambda% (spl (fun hc => ?_) (fun hc => ?_)) <;> first | exact zG hc | skip) | (refine no_implicit_lambda% (ans ?_)) | (with_reducible first | exact zI | exact zJ))
  (refine no_implicit_lambda% (cal [0] (qX_c r0 b0 (by omega)) ?_ ?_))
  rotate_left
  ·(intro xx H' hh; obtain ⟨_, _, _, _, _, _, _, h', _⟩ := hh; cases h')
  intro xx H' hh
  obtain ⟨s, r1, b1, hs16, hr1, u1, u2, h', rfl⟩ := hh
  cases h'
  first | (refine no_implicit_lambda% (akc ?_)) | (refine no_implicit_lambda% (aec ?_))
  have hro := refRightC_c (⟨(N : Int), ⟨s.toArray⟩, 0, ⟨0, [], 0⟩⟩ : Ch)
  have hne : rightC (⟨(N : Int), ⟨s.toArray⟩, 0, ⟨0, [], 0⟩⟩ : Ch) = 24 := by unfold rightC; rw [if_pos (by show (N : Int) < 1 ∨ 5 < (N : Int); omega)]
  rw [hne] at hro
  cases b1 with
  | true =>
   obtain rfl := (u2 rfl).1
   repeat' (first | (refine no_implicit_lambda% (zH ?_)) | (refine no_implicit_lambda% (spl (fun hc => ?_) (fun hc => ?_)) <;> first | exact zG hc | skip) | (refine no_implicit_lambda% (ans ?_)) | (with_reducible first | exact zI | exact zJ) | (refine no_implicit_lambda% (cal [0] (refFail_c [] true) ?_ ?_)) | fail)
   all_goals (refine e_ret_to (H' := rr [] true) (rest := [(1, .box (chrow zCh))]) (Conv.toT (τ := ⟨_, [(0, .box [.list [] .free, .v (.bool true)]), (1, .box (chrow zCh))], _⟩) (.refl _) ?_ (Nat.le_refl _)) rfl ⟨zCh, [], true, ⟨Nat.zero_le _, by decide⟩, Nat.zero_le _, (fun h => by cases h), fun _ => ⟨rfl, hno2⟩, rfl, rfl⟩ permT (LE0 rfl); exact wkh)
  | false =>
   repeat' (first | (refine no_implicit_lambda% (zH ?_)) | (refine no_implicit_lambda% (spl (fun hc => ?_) (fun hc => ?_)) <;> first | exact zG hc | skip) | (refine no_implicit_lambda% (ans ?_)) | (with_reducible first | exact zI | exact zJ))
   (refine no_implicit_lambda% (calw [] (hro) ?_ ?_))
   rotate_left
   ·first | (exact zI) | (exact zJ)
   refine no_implicit_lambda% (ret1 ?_); first | (refine no_implicit_lambda% (akc ?_)) | (refine no_implicit_lambda% (aec ?_))
   repeat' (first | (refine no_implicit_lambda% (zH ?_)) | (refine no_implicit_lambda% (spl (fun hc => ?_) (fun hc => ?_)) <;> first | exact zG hc | skip) | (refine no_implicit_lambda% (ans ?_)) | (with_reducible first | exact zI | exact zJ) | (refine no_implicit_lambda% (cal [0] (refFail_c r1 false) ?_ ?_)) | fail)
   all_goals (refine e_ret_to (H' := rr [] true) (rest := [(1, .box (chrow zCh))]) (Conv.toT (τ := ⟨_, [(0, .box [.list [] .free, .v (.bool true)]), (1, .box (chrow zCh))], _⟩) (.refl _) ?_ (Nat.le_refl _)) rfl ⟨zCh, [], true, ⟨Nat.zero_le _, by decide⟩, Nat.zero_le _, (fun h => by cases h), fun _ => ⟨rfl, hno2⟩, rfl, rfl⟩ permT (LE0 rfl); exact wkh)
set_option maxHeartbeats 6400000 in
theorem rtakecd_c (l : List UInt8) (bad0 : Bool) (hl : l.length < 10000000) : ACalls Tryz.prog 84 1 2000 [.ptr 0 0] (rr l bad0) (dQ pCd CdB (fun x => .agg (cdrow x)) l bad0) := by
 refine no_implicit_lambda% (acalls_of tok dok (f := 84) ⟨Tryz.func84, rfl, by kernel_rfl⟩ ?_); refine no_implicit_lambda% (c_start (fun _ h => h) ?_)
 repeat' (first | (refine no_implicit_lambda% (zH ?_)) | (refine no_implicit_lambda% (spl (fun hc => ?_) (fun hc => ?_)) <;> first | exact zG hc | skip) | (refine no_implicit_lambda% (ans ?_)) | (with_reducible first | exact zI | exact zJ))
 (refine no_implicit_lambda% (cal [0] (qB_c l bad0 (by omega)) ?_ ?_))
 rotate_left
 ·(intro xx H' hh; obtain ⟨_, _, _, _, _, _, _, h', _⟩ := hh; cases h')
 intro xx H' hh
 obtain ⟨N, r0, b0, hN, hr0, q1, q2, h', rfl⟩ := hh
 cases h'
 first | (refine no_implicit_lambda% (akc ?_)) | (refine no_implicit_lambda% (aec ?_))
 have hN2 : N < 256 := hN
 have hI : Iv pCd l bad0 r0 b0 (cdK N) := ⟨fun hb => ⟨(q1 hb).1, by unfold pCd; rw [(q1 hb).2]; rfl⟩, fun hb => ⟨(q2 hb).1, fun h0 => by unfold pCd; rw [(q2 hb).2 h0]; rfl⟩⟩
 have hN5 : N = 0 ∨ N = 1 ∨ N = 2 ∨ 2 < N := by omega
 rcases hN5 with rfl | rfl | rfl | hno
 ·cases b0 with
  | true =>
   obtain rfl := (hI.2 rfl).1
   repeat' (first | (refine no_implicit_lambda% (zH ?_)) | (refine no_implicit_lambda% (spl (fun hc => ?_) (fun hc => ?_)) <;> first | exact zG hc | skip) | (refine no_implicit_lambda% (ans ?_)) | (with_reducible first | exact zI | exact zJ) | (refine no_implicit_lambda% (cal [0] (refFail_c [] true) ?_ ?_)) | fail)
   (refine e_ret_to (H' := rr [] true) (rest := [(1, .box (cdrow zCd))]) (Conv.toT (τ := ⟨_, [(0, .box [.list [] .free, .v (.bool true)]), (1, .box (cdrow zCd))], _⟩) (.refl _) ?_ (Nat.le_refl _)) rfl ⟨zCd, [], true, ⟨Nat.zero_le _, by decide⟩, Nat.zero_le _, (fun h => by cases h), fun _ => ⟨rfl, (hI.2 rfl).2⟩, rfl, rfl⟩ permT (LE0 rfl); exact wkh)
  | false =>
   obtain ⟨hb0, hPl⟩ := hI.1 rfl
   replace hPl : pCd l = some ((⟨false, false, ⟨#[]⟩, ⟨0, [], 0⟩⟩ : Cd), r0) := hPl
   have hro := rcond_c (⟨false, false, ⟨#[]⟩, ⟨0, [], 0⟩⟩ : Cd)
   rw [show rcB (⟨false, false, ⟨#[]⟩, ⟨0, [], 0⟩⟩ : Cd) = true from rfl] at hro
   repeat' (first | (refine no_implicit_lambda% (zH ?_)) | (refine no_implicit_lambda% (spl (fun hc => ?_) (fun hc => ?_)) <;> first | exact zG hc | skip) | (refine no_implicit_lambda% (ans ?_)) | (with_reducible first | exact zI | exact zJ))
   (refine no_implicit_lambda% (calw [] (hro) ?_ ?_))
   rotate_left
   ·first | (exact zI) | (exact zJ)
   refine no_implicit_lambda% (ret1 ?_); first | (refine no_implicit_lambda% (akc ?_)) | (refine no_implicit_lambda% (aec ?_))
   repeat' (first | (refine no_implicit_lambda% (zH ?_)) | (refine no_implicit_lambda% (spl (fun hc => ?_) (fun hc => ?_)) <;> first | exact zG hc | skip) | (refine no_implicit_lambda% (ans ?_)) | (with_reducible first | exact zI | exact zJ))
   refine e_ret_to (H' := rr r0 false) (rest := [(1, .box (cdrow (⟨false, false, ⟨#[]⟩, ⟨0, [], 0⟩⟩ : Cd)))]) (Conv.toT (τ := ⟨_, [(0, .box [.list (r0.map brow) .free, .v (.bool false)]), (1, .box (cdrow (⟨false, false, ⟨#[]⟩, ⟨0, [], 0⟩⟩ : Cd)))], _⟩) (.refl _) ?_ (Nat.le_refl _)) rfl ⟨(⟨false, false, ⟨#[]⟩, ⟨0, [], 0⟩⟩ : Cd), r0, false, ⟨Nat.zero_le _, (by show (0 : Nat) < 18446744073709551616; decide)⟩, by omega, fun _ => ⟨hb0, hPl⟩, fun h => (by cases h), rfl, rfl⟩ permT (LE0 rfl)
   exact wkh
 ·replace hI : Iv pCd l bad0 r0 b0 (fun r => bnd (pX r) fun s r1 => cdR (⟨true, false, ⟨s.toArray⟩, ⟨0, [], 0⟩⟩ : Cd) r1) := hI
  repeat' (first | (refine no_implicit_lambda% (zH ?_)) | (refine no_implicit_lambda% (spl (fun hc => ?_) (fun hc => ?_)) <;> first | exact zG hc | skip) | (refine no_implicit_lambda% (ans ?_)) | (with_reducible first | exact zI | exact zJ))
  (refine no_implicit_lambda% (cal [0] (qX_c r0 b0 (by omega)) ?_ ?_))
  rotate_left
  ·(intro xx H' hh; obtain ⟨_, _, _, _, _, _, _, h', _⟩ := hh; cases h')
  intro xx H' hh
  obtain ⟨s, r1, b1, hs16, hr1, u1, u2, h', rfl⟩ := hh
  cases h'
  first | (refine no_implicit_lambda% (akc ?_)) | (refine no_implicit_lambda% (aec ?_))
  have hI1 : Iv pCd l bad0 r1 b1 (fun r1 => cdR (⟨true, false, ⟨s.toArray⟩, ⟨0, [], 0⟩⟩ : Cd) r1) := hI.step u1 u2
  cases b1 with
  | true =>
   obtain rfl := (u2 rfl).1
   repeat' (first | (refine no_implicit_lambda% (zH ?_)) | (refine no_implicit_lambda% (spl (fun hc => ?_) (fun hc => ?_)) <;> first | exact zG hc | skip) | (refine no_implicit_lambda% (ans ?_)) | (with_reducible first | exact zI | exact zJ) | (refine no_implicit_lambda% (cal [0] (refFail_c [] true) ?_ ?_)) | fail)
   (refine e_ret_to (H' := rr [] true) (rest := [(1, .box (cdrow zCd))]) (Conv.toT (τ := ⟨_, [(0, .box [.list [] .free, .v (.bool true)]), (1, .box (cdrow zCd))], _⟩) (.refl _) ?_ (Nat.le_refl _)) rfl ⟨zCd, [], true, ⟨Nat.zero_le _, by decide⟩, Nat.zero_le _, (fun h => by cases h), fun _ => ⟨rfl, (hI1.2 rfl).2⟩, rfl, rfl⟩ permT (LE0 rfl); exact wkh)
  | false =>
   obtain ⟨hb0, hPl⟩ := hI1.1 rfl
   have hro := rcond_c (⟨true, false, ⟨s.toArray⟩, ⟨0, [], 0⟩⟩ : Cd)
   have hre : rcB (⟨true, false, ⟨s.toArray⟩, ⟨0, [], 0⟩⟩ : Cd) = nmB ⟨s.toArray⟩ := by unfold rcB; simp
   rw [hre] at hro
   unfold cdR at hPl
   dsimp only at hPl
   rcases hb : nmB (⟨s.toArray⟩ : ByteArray) with _ | _
   ·rw [hb] at hro
    rw [hb, if_neg (by simp)] at hPl
    repeat' (first | (refine no_implicit_lambda% (zH ?_)) | (refine no_implicit_lambda% (spl (fun hc => ?_) (fun hc => ?_)) <;> first | exact zG hc | skip) | (refine no_implicit_lambda% (ans ?_)) | (with_reducible first | exact zI | exact zJ) | (refine no_implicit_lambda% (cal [] (hro) ?_ ?_)) | (refine no_implicit_lambda% (cal [0] (refFail_c r1 false) ?_ ?_)) | fail)
    (refine no_implicit_lambda% (calw [] (hro) ?_ ?_))
    rotate_left
    ·first | (exact zI) | (exact zJ)
    refine no_implicit_lambda% (ret1 ?_); first | (refine no_implicit_lambda% (akc ?_)) | (refine no_implicit_lambda% (aec ?_))
    repeat' (first | (refine no_implicit_lambda% (zH ?_)) | (refine no_implicit_lambda% (spl (fun hc => ?_) (fun hc => ?_)) <;> first | exact zG hc | skip) | (refine no_implicit_lambda% (ans ?_)) | (with_reducible first | exact zI | exact zJ) | (refine no_implicit_lambda% (cal [0] (refFail_c r1 false) ?_ ?_)) | fail)
    (refine e_ret_to (H' := rr [] true) (rest := [(1, .box (cdrow zCd))]) (Conv.toT (τ := ⟨_, [(0, .box [.list [] .free, .v (.bool true)]), (1, .box (cdrow zCd))], _⟩) (.refl _) ?_ (Nat.le_refl _)) rfl ⟨zCd, [], true, ⟨Nat.zero_le _, by decide⟩, Nat.zero_le _, (fun h => by cases h), fun _ => ⟨rfl, fun _ => hPl⟩, rfl, rfl⟩ permT (LE0 rfl); exact wkh)
   ·rw [hb] at hro
    rw [hb, if_pos rfl] at hPl
    repeat' (first | (refine no_implicit_lambda% (zH ?_)) | (refine no_implicit_lambda% (spl (fun hc => ?_) (fun hc => ?_)) <;> first | exact zG hc | skip) | (refine no_implicit_lambda% (ans ?_)) | (with_reducible first | exact zI | exact zJ) | (refine no_implicit_lambda% (cal [] (hro) ?_ ?_)) | fail)
    (refine no_implicit_lambda% (calw [] (hro) ?_ ?_))
    rotate_left
    ·first | (exact zI) | (exact zJ)
    refine no_implicit_lambda% (ret1 ?_); first | (refine no_implicit_lambda% (akc ?_)) | (refine no_implicit_lambda% (aec ?_))
    repeat' (first | (refine no_implicit_lambda% (zH ?_)) | (refine no_implicit_lambda% (spl (fun hc => ?_) (fun hc => ?_)) <;> first | exact zG hc | skip) | (refine no_implicit_lambda% (ans ?_)) | (with_reducible first | exact zI | exact zJ))
    refine e_ret_to (H' := rr r1 false) (rest := [(1, .box (cdrow (⟨true, false, ⟨s.toArray⟩, ⟨0, [], 0⟩⟩ : Cd)))]) (Conv.toT (τ := ⟨_, [(0, .box [.list (r1.map brow) .free, .v (.bool false)]), (1, .box (cdrow (⟨true, false, ⟨s.toArray⟩, ⟨0, [], 0⟩⟩ : Cd)))], _⟩) (.refl _) ?_ (Nat.le_refl _)) rfl ⟨(⟨true, false, ⟨s.toArray⟩, ⟨0, [], 0⟩⟩ : Cd), r1, false, ⟨Nat.zero_le _, (by show (0 : Nat) < 18446744073709551616; decide)⟩, by omega, fun _ => ⟨hb0, hPl⟩, fun h => (by cases h), rfl, rfl⟩ permT (LE0 rfl)
    exact wkh
 ·replace hI : Iv pCd l bad0 r0 b0 (fun r => bnd (pX r) fun s r1 => bnd (pV r1) fun v r2 => cdR (⟨true, true, ⟨s.toArray⟩, v⟩ : Cd) r2) := hI
  repeat' (first | (refine no_implicit_lambda% (zH ?_)) | (refine no_implicit_lambda% (spl (fun hc => ?_) (fun hc => ?_)) <;> first | exact zG hc | skip) | (refine no_implicit_lambda% (ans ?_)) | (with_reducible first | exact zI | exact zJ))
  (refine no_implicit_lambda% (cal [0] (qX_c r0 b0 (by omega)) ?_ ?_))
  rotate_left
  ·(intro xx H' hh; obtain ⟨_, _, _, _, _, _, _, h', _⟩ := hh; cases h')
  intro xx H' hh
  obtain ⟨s, r1, b1, hs16, hr1, u1, u2, h', rfl⟩ := hh
  cases h'
  first | (refine no_implicit_lambda% (akc ?_)) | (refine no_implicit_lambda% (aec ?_))
  have hI1 : Iv pCd l bad0 r1 b1 (fun r1 => bnd (pV r1) fun v r2 => cdR (⟨true, true, ⟨s.toArray⟩, v⟩ : Cd) r2) := hI.step u1 u2
  repeat' (first | (refine no_implicit_lambda% (zH ?_)) | (refine no_implicit_lambda% (spl (fun hc => ?_) (fun hc => ?_)) <;> first | exact zG hc | skip) | (refine no_implicit_lambda% (ans ?_)) | (with_reducible first | exact zI | exact zJ))
  (refine no_implicit_lambda% (cal [0] (qV_c r1 b1 (by omega)) ?_ ?_))
  rotate_left
  ·(intro xx H' hh; obtain ⟨_, _, _, _, _, _, _, h', _⟩ := hh; cases h')
  intro xx H' hh
  obtain ⟨v, r3, b3, hv, hr3, w1, w2, h', rfl⟩ := hh
  cases h'
  first | (refine no_implicit_lambda% (akc ?_)) | (refine no_implicit_lambda% (aec ?_))
  have hI3 : Iv pCd l bad0 r3 b3 (fun r2 => cdR (⟨true, true, ⟨s.toArray⟩, v⟩ : Cd) r2) := hI1.step w1 w2
  cases b3 with
  | true =>
   obtain rfl := (w2 rfl).1
   repeat' (first | (refine no_implicit_lambda% (zH ?_)) | (refine no_implicit_lambda% (spl (fun hc => ?_) (fun hc => ?_)) <;> first | exact zG hc | skip) | (refine no_implicit_lambda% (ans ?_)) | (with_reducible first | exact zI | exact zJ) | (refine no_implicit_lambda% (cal [0] (refFail_c [] true) ?_ ?_)) | fail)
   (refine e_ret_to (H' := rr [] true) (rest := [(1, .box (cdrow zCd))]) (Conv.toT (τ := ⟨_, [(0, .box [.list [] .free, .v (.bool true)]), (1, .box (cdrow zCd))], _⟩) (.refl _) ?_ (Nat.le_refl _)) rfl ⟨zCd, [], true, ⟨Nat.zero_le _, by decide⟩, Nat.zero_le _, (fun h => by cases h), fun _ => ⟨rfl, (hI3.2 rfl).2⟩, rfl, rfl⟩ permT (LE0 rfl); exact wkh)
  | false =>
   have hvr := pV_right (w1 rfl).2
   obtain ⟨hb0, hPl⟩ := hI3.1 rfl
   have hro := rcond_c (⟨true, true, ⟨s.toArray⟩, v⟩ : Cd)
   have hre : rcB (⟨true, true, ⟨s.toArray⟩, v⟩ : Cd) = nmB ⟨s.toArray⟩ := by unfold rcB; simp [hvr]
   rw [hre] at hro
   unfold cdR at hPl
   dsimp only at hPl
   rcases hb : nmB (⟨s.toArray⟩ : ByteArray) with _ | _
   ·rw [hb] at hro
    rw [hb, if_neg (by simp)] at hPl
    repeat' (first | (refine no_implicit_lambda% (zH ?_)) | (refine no_implicit_lambda% (spl (fun hc => ?_) (fun hc => ?_)) <;> first | exact zG hc | skip) | (refine no_implicit_lambda% (ans ?_)) | (with_reducible first | exact zI | exact zJ) | (refine no_implicit_lambda% (cal [] (hro) ?_ ?_)) | (refine no_implicit_lambda% (cal [0] (refFail_c r3 false) ?_ ?_)) | fail)
    (refine e_ret_to (H' := rr [] true) (rest := [(1, .box (cdrow zCd))]) (Conv.toT (τ := ⟨_, [(0, .box [.list [] .free, .v (.bool true)]), (1, .box (cdrow zCd))], _⟩) (.refl _) ?_ (Nat.le_refl _)) rfl ⟨zCd, [], true, ⟨Nat.zero_le _, by decide⟩, Nat.zero_le _, (fun h => by cases h), fun _ => ⟨rfl, fun _ => hPl⟩, rfl, rfl⟩ permT (LE0 rfl); exact wkh)
   ·rw [hb] at hro
    rw [hb, if_pos rfl] at hPl
    repeat' (first | (refine no_implicit_lambda% (zH ?_)) | (refine no_implicit_lambda% (spl (fun hc => ?_) (fun hc => ?_)) <;> first | exact zG hc | skip) | (refine no_implicit_lambda% (ans ?_)) | (with_reducible first | exact zI | exact zJ) | (refine no_implicit_lambda% (cal [] (hro) ?_ ?_)) | fail)
    refine e_ret_to (H' := rr r3 false) (rest := [(1, .box (cdrow (⟨true, true, ⟨s.toArray⟩, v⟩ : Cd)))]) (Conv.toT (τ := ⟨_, [(0, .box [.list (r3.map brow) .free, .v (.bool false)]), (1, .box (cdrow (⟨true, true, ⟨s.toArray⟩, v⟩ : Cd)))], _⟩) (.refl _) ?_ (Nat.le_refl _)) rfl ⟨(⟨true, true, ⟨s.toArray⟩, v⟩ : Cd), r3, false, hv, by omega, fun _ => ⟨hb0, hPl⟩, fun h => (by cases h), rfl, rfl⟩ permT (LE0 rfl)
    exact wkh
 ·have hno2 : bad0 = false → pCd l = none := hI.no fun _ => by unfold cdK; rw [if_neg (by omega), if_neg (by omega), if_neg (by omega)]
  have e0 : decide ((N : Int) > 2) = true := decide_eq_true (by omega)
  have e1 : decide ((N : Int) > 0) = true := decide_eq_true (by omega)
  have e2 : ((N : Int) == 2) = false := by simp; omega
  repeat' (first | (refine no_implicit_lambda% (zH ?_)) | (refine no_implicit_lambda% (spl (fun hc => ?_) (fun hc => ?_)) <;> first | exact zG hc | skip) | (refine no_implicit_lambda% (ans ?_)) | (with_reducible first | exact zI | exact zJ) | (refine no_implicit_lambda% (cal [0] (refFail_c r0 b0) ?_ ?_)) | fail)
  all_goals try (exfalso; simp at hc; omega)
  (refine no_implicit_lambda% (cal [0] (qX_c [] true (by decide)) ?_ ?_))
  rotate_left
  ·(intro xx H' hh; obtain ⟨_, _, _, _, _, _, _, h', _⟩ := hh; cases h')
  intro xx H' hh
  obtain ⟨s, r1, b1, hs16, hr1, u1, u2, h', rfl⟩ := hh
  cases h'
  first | (refine no_implicit_lambda% (akc ?_)) | (refine no_implicit_lambda% (aec ?_))
  have hb1 : b1 = true := by
   cases b1 with
   | false => cases (u1 rfl).1
   | true => rfl
  subst hb1
  obtain rfl := (u2 rfl).1
  repeat' (first | (refine no_implicit_lambda% (zH ?_)) | (refine no_implicit_lambda% (spl (fun hc => ?_) (fun hc => ?_)) <;> first | exact zG hc | skip) | (refine no_implicit_lambda% (ans ?_)) | (with_reducible first | exact zI | exact zJ) | (refine no_implicit_lambda% (cal [0] (refFail_c [] true) ?_ ?_)) | fail)
  all_goals (refine e_ret_to (H' := rr [] true) (rest := [(1, .box (cdrow zCd))]) (Conv.toT (τ := ⟨_, [(0, .box [.list [] .free, .v (.bool true)]), (1, .box (cdrow zCd))], _⟩) (.refl _) ?_ (Nat.le_refl _)) rfl ⟨zCd, [], true, ⟨Nat.zero_le _, by decide⟩, Nat.zero_le _, (fun h => by cases h), fun _ => ⟨rfl, hno2⟩, rfl, rfl⟩ permT (LE0 rfl); exact wkh)
end Go.Proofs.YtncffhgoopdfgaaGreat
namespace Go.Proofs.YtncffhgoopdfgaaGreat
open Go.Am
set_option maxRecDepth 100000
theorem applyR_fin (r : List Co) (l : List Ch) : Fine (applyR r l).2 := by
 have hf : ∀ (l : List Ch) (o : List Co), Fine o → Fine (foldC o l).2 := by
  intro l
  induction l with
  | nil => exact fun o h => h
  | cons x l ih =>
   intro o h
   unfold foldC
   split
   ·exact fine_nil
   ·exact ih _ (stepC_fine h x)
 unfold applyR
 split
 ·exact fine_nil
 ·split
  ·exact fine_nil
  ·exact hf l _ (copy_fine r)
theorem applyR_siz {r : List Co} {l : List Ch} (hz : RowSz r) (hl : ∀ x ∈ l, ChSz x) : RowSz (applyR r l).2 := by
 have hf : ∀ (l : List Ch) (o : List Co), RowSz o → (∀ x ∈ l, ChSz x) → RowSz (foldC o l).2 := by
  intro l
  induction l with
  | nil => exact fun o h _ => h
  | cons x l ih =>
   intro o h hl
   unfold foldC
   split
   ·exact sz_nil
   ·exact ih _ (stepC_sz h (hl x (by simp))) fun y hy => hl y (List.mem_cons_of_mem _ hy)
 unfold applyR
 split
 ·exact sz_nil
 ·split
  ·exact sz_nil
  ·exact hf l _ (copy_sz hz) hl
theorem num5_c (n : Nat) : ACalls Tryz.prog 18 0 10 [.v (.float .f64 n)] [] (fun out H' => out = .ret (vav ⟨2, [], n⟩) ∧ H' = []) := by
 refine no_implicit_lambda% (acalls_of tok dok (f := 18) ⟨Tryz.func18, rfl, by kernel_rfl⟩ ?_); refine no_implicit_lambda% (c_start (fun _ h => h) ?_)
 repeat' (first | (refine no_implicit_lambda% (zH ?_)) | (refine no_implicit_lambda% (spl (fun hc => ?_) (fun hc => ?_)) <;> first | exact zG hc | skip) | (refine no_implicit_lambda% (ans ?_)) | (with_reducible first | exact zI | exact zJ))
 refine e_ret_to (H' := []) (rest := [(0, .box [.v (.int .i64 2), .list [] .free, .v (.float .f64 n)])]) (Conv.toT (τ := ⟨_, [(0, .box [.v (.int .i64 2), .list [] .free, .v (.float .f64 n)])], _⟩) (.refl _) ?_ (Nat.le_refl _)) rfl ⟨rfl, rfl⟩ permT (LE0 rfl)
 exact wkh
end Go.Proofs.YtncffhgoopdfgaaGreat
namespace Go.Proofs.YtncffhgoopdfgaaGreat
open Go.Am
set_option maxRecDepth 100000
theorem applyR_sw {r : List Co} {l : List Ch} (hz : RowSz r) (hl : ∀ x ∈ l, x.v.n < 18446744073709551616) : RowSz (applyR r l).2 := by
 have hf : ∀ (l : List Ch) (o : List Co), RowSz o → (∀ x ∈ l, rightC x = 0 ∧ x.v.n < 18446744073709551616) → RowSz (foldC o l).2 := by
  intro l
  induction l with
  | nil => exact fun o h _ => h
  | cons x l ih =>
   intro o h hl
   unfold foldC
   split
   ·exact sz_nil
   ·exact ih _ (stepC_sw h (rightC_sw (hl x (by simp)).1 (hl x (by simp)).2)) fun y hy => hl y (List.mem_cons_of_mem _ hy)
 unfold applyR
 split
 ·exact sz_nil
 ·split
  ·exact sz_nil
  ·rename_i h1
   exact hf l _ (copy_sz hz) fun x hx => ⟨firstE_ok (by simpa using h1) x hx, hl x hx⟩
theorem PutRR_top {P : Program} {f : FuncId} {top : Nat} {args : List AV} {Q : Int × List Co} (h : ACalls P f 0 top args [] (PutRR Q)) : ACalls P f 0 0 args [] (PutRR Q) :=
 ACalls.ren h (Nat.zero_le _) fun out H' hh => by
  obtain ⟨rfl, rfl⟩ := hh
  exact ⟨[], .ret (.tuple [rowA Q.2, .v (.int .i64 Q.1)]), [], List.nodup_nil, (fun q h => by cases h), (fun q h => by omega), Nat.le_refl _, rfl, rfl, rfl, rfl⟩
def as5St (l : List Ch) (i : Nat) : ASt := ⟨([.dead, .list (l.map chrow) .free] ++ List.replicate 7 .dead ++ [.v (.int .i64 i)] ++ List.replicate 38 .dead), [], 3⟩
set_option maxHeartbeats 3200000 in
theorem applies5_c (r : List Co) (l : List Ch) (hF : Fine r) (hz : RowSz r) (hl : ∀ x ∈ l, x.v.n < 18446744073709551616) (hll : l.length < 1000000) : ACalls Tryz.prog 20 0 1000 [rowA r, .list (l.map chrow) .free] [] (fun out H' => out = .ret (.v (.bool true)) ∧ H' = []) := by
 have hr4 := hF.len
 have a1 := PutRR_top (apply_w r l (by omega) hz hl hll)
 have a2 := PutRR_top (refApply_w r l (by omega) hz hl hll)
 have hs := same_raw (Fine.row (applyR_fin r l)) (applyR_sw hz hl)
 unfold PutRR at a1 a2
 generalize applyR r l = Q at *
 obtain ⟨e, X⟩ := Q
 refine no_implicit_lambda% (acalls_of tok dok (f := 20) ⟨Tryz.func20, rfl, by kernel_rfl⟩ ?_); refine no_implicit_lambda% (c_start (fun _ h => h) ?_)
 repeat' (first | (refine no_implicit_lambda% (zH ?_)) | (refine no_implicit_lambda% (spl (fun hc => ?_) (fun hc => ?_)) <;> first | exact zG hc | skip) | (refine no_implicit_lambda% (ans ?_)) | (with_reducible first | exact zI | exact zJ) | (refine no_implicit_lambda% (cal [] (a1) ?_ ?_)) | (refine no_implicit_lambda% (cal [] (a2) ?_ ?_)) | (refine no_implicit_lambda% (cal [] (hs) ?_ ?_)) | fail)
 refine c_loop' (as5St l) (fun i => i ≤ l.length) (fun i => l.length - i) (a := 0) (Nat.zero_le _) ?_ ?_
 ·(refine no_implicit_lambda% (Conv.toT ?_ ?_ (LE0 rfl))); (focus ((unfold as5St); (try dsimp only); exact wkl)); (focus ((unfold as5St); (try dsimp only); exact wkh))
 ·rintro i i1
  refine c_turn (n' := 3) (fun _ h => h) (fun _ h => h) rfl ?_
  have hlm : ((l.map chrow).length : Int) = l.length := by rw [List.length_map]
  rcases hx : l[i]? with _ | x
  ·have hi : i = l.length := by have := List.getElem?_eq_none_iff.1 hx; omega
   repeat' (first | (refine no_implicit_lambda% (zH ?_)) | (refine no_implicit_lambda% (spl (fun hc => ?_) (fun hc => ?_)) <;> first | exact zG hc | skip) | (refine no_implicit_lambda% (ans ?_)) | (with_reducible first | exact zI | exact zJ))
   exact e_ret (H' := []) (rest := _) rfl ⟨rfl, rfl⟩ permT (LE0 rfl)
  ·have hi : i < l.length := (List.getElem?_eq_some_iff.1 hx).1
   have hix := chx hx
   have h1 := right5_c x
   have h2 := refRightC_c x
   repeat' (first | (refine no_implicit_lambda% (zH ?_)) | (refine no_implicit_lambda% (splv (fun hc => ?_) (fun hc => ?_)) <;> first | exact zG hc | skip) | (refine no_implicit_lambda% (ans ?_)) | (with_reducible first | exact zI | exact zJ) | (refine no_implicit_lambda% (cal [] (h1) ?_ ?_)) | (refine no_implicit_lambda% (cal [] (h2) ?_ ?_)) | fail)
   (refine no_implicit_lambda% (k_loopLT (i + 1) 0 [0, 1, 2] (show i + 1 ≤ l.length from hi) (by first | omega | (simp; done) | (simp; omega)) (LE0 rfl) (fun _ h => h) (fun _ h => h) ?_ ?_)); (focus ((try dsimp only); exact wkl)); (focus ((try dsimp only); exact wkh))
set_option maxHeartbeats 6400000 in
theorem writes5_c (x : Ch) (d : Cd) (hx : x.v.n < 18446744073709551616) (hd : d.v.n < 18446744073709551616) : ACalls Tryz.prog 21 0 5000 [.agg (chrow x), .agg (cdrow d)] [] (fun out H' => out = .ret (.v (.bool true)) ∧ H' = []) := by
 have hr := refRightC_c x
 have hrd := rcond_c d
 refine no_implicit_lambda% (acalls_of tok dok (f := 21) ⟨Tryz.func21, rfl, by kernel_rfl⟩ ?_); refine no_implicit_lambda% (c_start (fun _ h => h) ?_)
 repeat' (first | (refine no_implicit_lambda% (zH ?_)) | (refine no_implicit_lambda% (spl (fun hc => ?_) (fun hc => ?_)) <;> first | exact zG hc | skip) | (refine no_implicit_lambda% (ans ?_)) | (with_reducible first | exact zI | exact zJ) | (refine no_implicit_lambda% (cal [] (new_c) ?_ ?_)) | (refine no_implicit_lambda% (cal [] (hr) ?_ ?_)) | fail)
 ·have hx0 : rightC x = 0 := by simpa using hc
  have hel := encCh_len hx0
  (refine no_implicit_lambda% (cal [2, 3] (write5_c x [] hx0 hx (by decide)) ?_ ?_))
  rotate_left
  ·first | (exact zI) | (exact zJ)
  refine no_implicit_lambda% (ret1 ?_); first | (refine no_implicit_lambda% (akc ?_)) | (refine no_implicit_lambda% (aec ?_))
  repeat' (first | (refine no_implicit_lambda% (zH ?_)) | (refine no_implicit_lambda% (splv (fun hc => ?_) (fun hc => ?_)) <;> first | exact zG hc | skip) | (refine no_implicit_lambda% (ans ?_)) | (with_reducible first | exact zI | exact zJ) | (refine no_implicit_lambda% (cal [2, 3] (done_c ([] ++ encCh x) (by simp; omega)) ?_ ?_)) | fail)
  (refine no_implicit_lambda% (calw [] (rwrite5_c x [] hx0 hx (by decide)) ?_ ?_))
  rotate_left
  ·first | (exact zI) | (exact zJ)
  refine no_implicit_lambda% (ret1 ?_); first | (refine no_implicit_lambda% (akc ?_)) | (refine no_implicit_lambda% (aec ?_))
  repeat' (first | (refine no_implicit_lambda% (zH ?_)) | (refine no_implicit_lambda% (splv (fun hc => ?_) (fun hc => ?_)) <;> first | exact zG hc | skip) | (refine no_implicit_lambda% (ans ?_)) | (with_reducible first | exact zI | exact zJ) | (refine no_implicit_lambda% (cal [] (hrd) ?_ ?_)) | fail)
  ·exfalso; simp at hc
  ·have hd0 : rcB d = true := by simpa using hc
   have hdl := encD_len hd0
   (refine no_implicit_lambda% (cal [4, 5] (wcond_c d [] hd0 hd (by decide)) ?_ ?_))
   rotate_left
   ·first | (exact zI) | (exact zJ)
   refine no_implicit_lambda% (ret1 ?_); first | (refine no_implicit_lambda% (akc ?_)) | (refine no_implicit_lambda% (aec ?_))
   repeat' (first | (refine no_implicit_lambda% (zH ?_)) | (refine no_implicit_lambda% (splv (fun hc => ?_) (fun hc => ?_)) <;> first | exact zG hc | skip) | (refine no_implicit_lambda% (ans ?_)) | (with_reducible first | exact zI | exact zJ) | (refine no_implicit_lambda% (cal [4, 5] (done_c ([] ++ encD d) (by simp; omega)) ?_ ?_)) | fail)
   (refine no_implicit_lambda% (calw [] (rwcond_c d [] hd0 hd (by decide)) ?_ ?_))
   rotate_left
   ·first | (exact zI) | (exact zJ)
   refine no_implicit_lambda% (ret1 ?_); first | (refine no_implicit_lambda% (akc ?_)) | (refine no_implicit_lambda% (aec ?_))
   repeat' (first | (refine no_implicit_lambda% (zH ?_)) | (refine no_implicit_lambda% (splv (fun hc => ?_) (fun hc => ?_)) <;> first | exact zG hc | skip) | (refine no_implicit_lambda% (ans ?_)) | (with_reducible first | exact zI | exact zJ))
   exact e_ret (H' := []) (rest := _) rfl ⟨congrArg (fun b => AOut.ret (.v (.bool b))) (beq_self_eq_true _), rfl⟩ permT (LE0 rfl)
  ·exact e_ret (H' := []) (rest := _) rfl ⟨rfl, rfl⟩ permT (LE0 rfl)
 ·repeat' (first | (refine no_implicit_lambda% (zH ?_)) | (refine no_implicit_lambda% (splv (fun hc => ?_) (fun hc => ?_)) <;> first | exact zG hc | skip) | (refine no_implicit_lambda% (ans ?_)) | (with_reducible first | exact zI | exact zJ) | (refine no_implicit_lambda% (cal [] (hrd) ?_ ?_)) | fail)
  ·have hd0 : rcB d = true := by simpa using hc
   have hdl := encD_len hd0
   (refine no_implicit_lambda% (cal [4, 5] (wcond_c d [] hd0 hd (by decide)) ?_ ?_))
   rotate_left
   ·first | (exact zI) | (exact zJ)
   refine no_implicit_lambda% (ret1 ?_); first | (refine no_implicit_lambda% (akc ?_)) | (refine no_implicit_lambda% (aec ?_))
   repeat' (first | (refine no_implicit_lambda% (zH ?_)) | (refine no_implicit_lambda% (splv (fun hc => ?_) (fun hc => ?_)) <;> first | exact zG hc | skip) | (refine no_implicit_lambda% (ans ?_)) | (with_reducible first | exact zI | exact zJ) | (refine no_implicit_lambda% (cal [4, 5] (done_c ([] ++ encD d) (by simp; omega)) ?_ ?_)) | fail)
   (refine no_implicit_lambda% (calw [] (rwcond_c d [] hd0 hd (by decide)) ?_ ?_))
   rotate_left
   ·first | (exact zI) | (exact zJ)
   refine no_implicit_lambda% (ret1 ?_); first | (refine no_implicit_lambda% (akc ?_)) | (refine no_implicit_lambda% (aec ?_))
   repeat' (first | (refine no_implicit_lambda% (zH ?_)) | (refine no_implicit_lambda% (splv (fun hc => ?_) (fun hc => ?_)) <;> first | exact zG hc | skip) | (refine no_implicit_lambda% (ans ?_)) | (with_reducible first | exact zI | exact zJ))
   exact e_ret (H' := []) (rest := _) rfl ⟨congrArg (fun b => AOut.ret (.v (.bool b))) (beq_self_eq_true _), rfl⟩ permT (LE0 rfl)
  ·exact e_ret (H' := []) (rest := _) rfl ⟨rfl, rfl⟩ permT (LE0 rfl)
end Go.Proofs.YtncffhgoopdfgaaGreat
namespace Go.Proofs.YtncffhgoopdfgaaGreat
open Go.Am
set_option maxRecDepth 100000
theorem samech_c (x : Ch) (hn : x.v.n < 18446744073709551616) : ACalls Tryz.prog 86 0 300 [.agg (chrow x), .agg (chrow x)] [] (fun out H' => out = .ret (.v (.bool true)) ∧ H' = []) := by
 have hs := refSame_c x.v x.v hn hn
 rw [show (ordV _ _ == 0) = true from by rw [ordV_refl]; rfl] at hs
 refine no_implicit_lambda% (acalls_of tok dok (f := 86) ⟨Tryz.func86, rfl, by kernel_rfl⟩ ?_); refine no_implicit_lambda% (c_start (fun _ h => h) ?_)
 repeat' (first | (refine no_implicit_lambda% (zH ?_)) | (refine no_implicit_lambda% (spl (fun hc => ?_) (fun hc => ?_)) <;> first | exact zG hc | skip) | (refine no_implicit_lambda% (ans ?_)) | (with_reducible first | exact zI | exact zJ) | (refine no_implicit_lambda% (cal [] (hs) ?_ ?_)) | fail)
 all_goals first | (exfalso; simp at hc; done) | (refine e_ret (H' := []) (rest := _) rfl ⟨congrArg (fun b => AOut.ret (.v (.bool b))) ?_, rfl⟩ permT (LE0 rfl); first | rfl | (simp; done) | (simp_all; done))
theorem samecd_c (d : Cd) (hn : d.v.n < 18446744073709551616) : ACalls Tryz.prog 88 0 300 [.agg (cdrow d), .agg (cdrow d)] [] (fun out H' => out = .ret (.v (.bool true)) ∧ H' = []) := by
 have hs := refSame_c d.v d.v hn hn
 rw [show (ordV _ _ == 0) = true from by rw [ordV_refl]; rfl] at hs
 obtain ⟨has, want, c, v⟩ := d
 cases has <;> cases want
 all_goals
  refine no_implicit_lambda% (acalls_of tok dok (f := 88) ⟨Tryz.func88, rfl, by kernel_rfl⟩ ?_); refine no_implicit_lambda% (c_start (fun _ h => h) ?_)
  repeat' (first | (refine no_implicit_lambda% (zH ?_)) | (refine no_implicit_lambda% (spl (fun hc => ?_) (fun hc => ?_)) <;> first | exact zG hc | skip) | (refine no_implicit_lambda% (ans ?_)) | (with_reducible first | exact zI | exact zJ) | (refine no_implicit_lambda% (cal [] (hs) ?_ ?_)) | fail)
 all_goals first | (exfalso; simp at hc; done) | (refine e_ret (H' := []) (rest := _) rfl ⟨congrArg (fun b => AOut.ret (.v (.bool b))) ?_, rfl⟩ permT (LE0 rfl); first | rfl | (simp; done) | (simp_all; done))
end Go.Proofs.YtncffhgoopdfgaaGreat
namespace Go.Proofs.YtncffhgoopdfgaaGreat
open Go.Am
set_option maxRecDepth 100000
def zcH (id : Nat) : Heap := [(id, .box [.v (.int .i64 0), .v (.string ⟨#[]⟩), .v (.int .i64 0), .v (.int .i64 0), .list [] .full, .v (.float .f64 0)])]
def zdH (id : Nat) : Heap := [(id, .box [.v (.bool false), .v (.bool false), .v (.string ⟨#[]⟩), .v (.int .i64 0), .list [] .full, .v (.float .f64 0)])]
theorem reads5b_c (l : List UInt8) (hl : l.length < 10000000) : ACalls Tryz.prog 79 2 1010 [.ptr 1 0, .ptr 0 0] ((1, .box [.list (l.map brow) .free]) :: zcH 0) (cbR 1 (fun l' H' => ∃ x, pCh l = some (x, l') ∧ ChB x ∧ rightC x = 0 ∧ H' = [(0, .box (chrow x))]) (fun H' => pCh l = none ∧ H' = zcH 0)) := by
 have ht := take5_c l hl
 refine no_implicit_lambda% (acalls_of tok dok (f := 79) ⟨Tryz.func79, rfl, by kernel_rfl⟩ ?_); refine no_implicit_lambda% (c_start (fun _ h => h) ?_)
 refine no_implicit_lambda% (awd ?_)
 (refine no_implicit_lambda% (cal [1] (ht) ?_ ?_))
 ·intro x H' hh
  rcases hh with ⟨o, r, g, ⟨hz, hr, _⟩, h', rfl⟩ | ⟨_, h', _⟩
  ·cases h'
   first | (refine no_implicit_lambda% (akc ?_)) | (refine no_implicit_lambda% (aec ?_))
   refine no_implicit_lambda% (awd ?_)
   exact e_ret (H' := (1, .box [.list (r.map brow) .free]) :: [(0, .box (chrow o))]) (rest := _) rfl (.inl ⟨_, r, _, ⟨o, g, hz, hr, rfl⟩, rfl, rfl⟩) permT (LE0 rfl)
  ·cases h'
 ·intro x H' hh
  rcases hh with ⟨_, _, _, _, h', _⟩ | ⟨hno, h', rfl⟩
  ·cases h'
  ·cases h'
   refine no_implicit_lambda% (awd ?_)
   exact e_pan (H' := zcH 0) (rest := []) (.inr ⟨_, ⟨hno, rfl⟩, rfl, rfl⟩) permT (LE0 rfl)
theorem reads5d_c (l : List UInt8) (hl : l.length < 10000000) : ACalls Tryz.prog 81 2 1010 [.ptr 1 0, .ptr 0 0] ((1, .box [.list (l.map brow) .free]) :: zdH 0) (cbR 1 (fun l' H' => ∃ x, pCd l = some (x, l') ∧ CdB x ∧ H' = [(0, .box (cdrow x))]) (fun H' => pCd l = none ∧ H' = zdH 0)) := by
 have ht := takecd_c l hl
 refine no_implicit_lambda% (acalls_of tok dok (f := 81) ⟨Tryz.func81, rfl, by kernel_rfl⟩ ?_); refine no_implicit_lambda% (c_start (fun _ h => h) ?_)
 refine no_implicit_lambda% (awd ?_)
 (refine no_implicit_lambda% (cal [1] (ht) ?_ ?_))
 ·intro x H' hh
  rcases hh with ⟨o, r, g, ⟨hz, _⟩, h', rfl⟩ | ⟨_, h', _⟩
  ·cases h'
   first | (refine no_implicit_lambda% (akc ?_)) | (refine no_implicit_lambda% (aec ?_))
   refine no_implicit_lambda% (awd ?_)
   exact e_ret (H' := (1, .box [.list (r.map brow) .free]) :: [(0, .box (cdrow o))]) (rest := _) rfl (.inl ⟨_, r, _, ⟨o, g, hz, rfl⟩, rfl, rfl⟩) permT (LE0 rfl)
  ·cases h'
 ·intro x H' hh
  rcases hh with ⟨_, _, _, _, h', _⟩ | ⟨hno, h', rfl⟩
  ·cases h'
  ·cases h'
   refine no_implicit_lambda% (awd ?_)
   exact e_pan (H' := zdH 0) (rest := []) (.inr ⟨_, ⟨hno, rfl⟩, rfl, rfl⟩) permT (LE0 rfl)
set_option maxHeartbeats 6400000 in
theorem reads5_c (l : List UInt8) (hl : l.length < 10000000) : ACalls Tryz.prog 24 0 20000 [.list (l.map brow) .free] [] (fun out H' => out = .ret (.v (.bool true)) ∧ H' = []) := by
 refine no_implicit_lambda% (acalls_of tok dok (f := 24) ⟨Tryz.func24, rfl, by kernel_rfl⟩ ?_); refine no_implicit_lambda% (c_start (fun _ h => h) ?_)
 refine no_implicit_lambda% (awd ?_)
 (refine no_implicit_lambda% (calw [0] (read_c (m := 1) (cap := [.ptr 0 0]) (H1 := zcH 0) (by decide) (reads5b_c l hl) (fun f hf => by simp [AV.renL, AV.ren, hf]) (fun f hf => by simp [renH, Res.ren, AV.renL, AV.ren, hf, zcH, zdH, Own.ren]) (fun l' H h f hf => by obtain ⟨v, _, h⟩ := h; simp [h, renH, Res.ren, AV.renL, AV.ren, hf, Own.ren, chrow, cdrow, vrowV]) (fun H h f hf => by obtain ⟨_, rfl⟩ := h; simp [renH, Res.ren, AV.renL, AV.ren, hf, zcH, zdH, Own.ren])) ?_ ?_))
 rotate_left
 ·intro x H' h
  rcases h with ⟨_, _, h1⟩ | ⟨_, h1⟩ <;> cases h1
 intro x H' h
 rcases h with ⟨l1, ⟨x1, g1, hx1, hxr1, rfl⟩, h1⟩ | ⟨⟨hno1, rfl⟩, h1⟩
 ·cases h1
  refine no_implicit_lambda% (akc ?_)
  refine no_implicit_lambda% (awd ?_)
  (refine no_implicit_lambda% (calw [1] (read_c (m := 1) (cap := [.ptr 0 0]) (H1 := zdH 0) (by decide) (reads5d_c l hl) (fun f hf => by simp [AV.renL, AV.ren, hf]) (fun f hf => by simp [renH, Res.ren, AV.renL, AV.ren, hf, zcH, zdH, Own.ren]) (fun l' H h f hf => by obtain ⟨v, _, h⟩ := h; simp [h, renH, Res.ren, AV.renL, AV.ren, hf, Own.ren, chrow, cdrow, vrowV]) (fun H h f hf => by obtain ⟨_, rfl⟩ := h; simp [renH, Res.ren, AV.renL, AV.ren, hf, zcH, zdH, Own.ren])) ?_ ?_))
  rotate_left
  ·intro x H' h
   rcases h with ⟨_, _, h1⟩ | ⟨_, h1⟩ <;> cases h1
  intro x H' h
  rcases h with ⟨lq, ⟨d1, g2, hd1, rfl⟩, h1⟩ | ⟨⟨hno2, rfl⟩, h1⟩
  ·cases h1
   refine no_implicit_lambda% (akc ?_)
   refine no_implicit_lambda% (awd ?_)
   (refine no_implicit_lambda% (cal [2024] (rtake5_c l false hl) ?_ ?_))
   rotate_left
   ·(intro xx H' hh; obtain ⟨_, _, _, _, _, _, _, h', _⟩ := hh; cases h')
   intro x H' h
   obtain ⟨x2, l2, b2, hzx2, hrx2, p1, p2, h', rfl⟩ := h
   cases h'
   have hb : b2 = false := by
    cases b2 with
    | true => exact absurd ((p2 rfl).2 rfl) (by rw [g1]; simp)
    | false => rfl
   subst hb
   have h9 := (p1 rfl).2
   rw [g1] at h9
   cases h9
   first | (refine no_implicit_lambda% (akc ?_)) | (refine no_implicit_lambda% (aec ?_))
   refine no_implicit_lambda% (awd ?_)
   (refine no_implicit_lambda% (cal [2025] (rtakecd_c l false hl) ?_ ?_))
   rotate_left
   ·(intro xx H' hh; obtain ⟨_, _, _, _, _, _, _, h', _⟩ := hh; cases h')
   intro x H' h
   obtain ⟨d2, l3, b3, hzd2, hrd2, p1, p2, h', rfl⟩ := h
   cases h'
   have hb : b3 = false := by
    cases b3 with
    | true => exact absurd ((p2 rfl).2 rfl) (by rw [g2]; simp)
    | false => rfl
   subst hb
   have h9 := (p1 rfl).2
   rw [g2] at h9
   cases h9
   first | (refine no_implicit_lambda% (akc ?_)) | (refine no_implicit_lambda% (aec ?_))
   have w1 := refWhole_c l1 false
   rw [show (!false && decide (((l1.map brow).length : Int) = 0)) = decide (((l1.map brow).length : Int) = 0) from rfl] at w1
   have s1 := samech_c x1 hx1.2
   have s2 := refSame_c x1.v x1.v hx1.2 hx1.2
   rw [show (ordV x1.v x1.v == 0) = true from by rw [ordV_refl]; rfl] at s2
   generalize decide (((l1.map brow).length : Int) = 0) = e1 at *
   have w2 := refWhole_c lq false
   rw [show (!false && decide (((lq.map brow).length : Int) = 0)) = decide (((lq.map brow).length : Int) = 0) from rfl] at w2
   have s3 := samecd_c d1 hd1.2
   have s4 := refSame_c d1.v d1.v hd1.2 hd1.2
   rw [show (ordV d1.v d1.v == 0) = true from by rw [ordV_refl]; rfl] at s4
   generalize decide (((lq.map brow).length : Int) = 0) = e2 at *
   cases e1 <;> cases e2 <;> repeat' (first | (refine no_implicit_lambda% (zH ?_)) | (refine no_implicit_lambda% (spl (fun hc => ?_) (fun hc => ?_)) <;> first | exact zG hc | skip) | (refine no_implicit_lambda% (ans ?_)) | (with_reducible first | exact zI | exact zJ) | (refine no_implicit_lambda% (cal [2024] (w1) ?_ ?_)) | (refine no_implicit_lambda% (cal [] (s1) ?_ ?_)) | (refine no_implicit_lambda% (cal [] (s2) ?_ ?_)) | (refine no_implicit_lambda% (cal [2025] (w2) ?_ ?_)) | (refine no_implicit_lambda% (cal [] (s3) ?_ ?_)) | (refine no_implicit_lambda% (cal [] (s4) ?_ ?_)) | fail)
   all_goals first | (exact e_ret (H' := []) (rest := _) rfl ⟨rfl, rfl⟩ permT (LE0 rfl)) | (exfalso; simp at hc; done)
  ·cases h1
   refine no_implicit_lambda% (akc ?_)
   refine no_implicit_lambda% (awd ?_)
   (refine no_implicit_lambda% (cal [2024] (rtake5_c l false hl) ?_ ?_))
   rotate_left
   ·(intro xx H' hh; obtain ⟨_, _, _, _, _, _, _, h', _⟩ := hh; cases h')
   intro x H' h
   obtain ⟨x2, l2, b2, hzx2, hrx2, p1, p2, h', rfl⟩ := h
   cases h'
   have hb : b2 = false := by
    cases b2 with
    | true => exact absurd ((p2 rfl).2 rfl) (by rw [g1]; simp)
    | false => rfl
   subst hb
   have h9 := (p1 rfl).2
   rw [g1] at h9
   cases h9
   first | (refine no_implicit_lambda% (akc ?_)) | (refine no_implicit_lambda% (aec ?_))
   refine no_implicit_lambda% (awd ?_)
   (refine no_implicit_lambda% (cal [2025] (rtakecd_c l false hl) ?_ ?_))
   rotate_left
   ·(intro xx H' hh; obtain ⟨_, _, _, _, _, _, _, h', _⟩ := hh; cases h')
   intro x H' h
   obtain ⟨d2, l3, b3, hzd2, hrd2, p1, p2, h', rfl⟩ := h
   cases h'
   have hb : b3 = true := by
    cases b3 with
    | false => exact absurd (p1 rfl).2 (by rw [hno2]; simp)
    | true => rfl
   subst hb
   obtain rfl := (p2 rfl).1
   first | (refine no_implicit_lambda% (akc ?_)) | (refine no_implicit_lambda% (aec ?_))
   have w1 := refWhole_c l1 false
   rw [show (!false && decide (((l1.map brow).length : Int) = 0)) = decide (((l1.map brow).length : Int) = 0) from rfl] at w1
   have s1 := samech_c x1 hx1.2
   have s2 := refSame_c x1.v x1.v hx1.2 hx1.2
   rw [show (ordV x1.v x1.v == 0) = true from by rw [ordV_refl]; rfl] at s2
   generalize decide (((l1.map brow).length : Int) = 0) = e1 at *
   cases e1 <;> repeat' (first | (refine no_implicit_lambda% (zH ?_)) | (refine no_implicit_lambda% (spl (fun hc => ?_) (fun hc => ?_)) <;> first | exact zG hc | skip) | (refine no_implicit_lambda% (ans ?_)) | (with_reducible first | exact zI | exact zJ) | (refine no_implicit_lambda% (cal [2024] (w1) ?_ ?_)) | (refine no_implicit_lambda% (cal [] (s1) ?_ ?_)) | (refine no_implicit_lambda% (cal [] (s2) ?_ ?_)) | (refine no_implicit_lambda% (cal [2025] (refWhole_c [] true) ?_ ?_)) | fail)
   all_goals first | (exact e_ret (H' := []) (rest := _) rfl ⟨rfl, rfl⟩ permT (LE0 rfl)) | (exfalso; simp at hc; done)
 ·cases h1
  refine no_implicit_lambda% (akc ?_)
  refine no_implicit_lambda% (awd ?_)
  (refine no_implicit_lambda% (calw [1] (read_c (m := 1) (cap := [.ptr 0 0]) (H1 := zdH 0) (by decide) (reads5d_c l hl) (fun f hf => by simp [AV.renL, AV.ren, hf]) (fun f hf => by simp [renH, Res.ren, AV.renL, AV.ren, hf, zcH, zdH, Own.ren]) (fun l' H h f hf => by obtain ⟨v, _, h⟩ := h; simp [h, renH, Res.ren, AV.renL, AV.ren, hf, Own.ren, chrow, cdrow, vrowV]) (fun H h f hf => by obtain ⟨_, rfl⟩ := h; simp [renH, Res.ren, AV.renL, AV.ren, hf, zcH, zdH, Own.ren])) ?_ ?_))
  rotate_left
  ·intro x H' h
   rcases h with ⟨_, _, h1⟩ | ⟨_, h1⟩ <;> cases h1
  intro x H' h
  rcases h with ⟨lq, ⟨d1, g2, hd1, rfl⟩, h1⟩ | ⟨⟨hno2, rfl⟩, h1⟩
  ·cases h1
   refine no_implicit_lambda% (akc ?_)
   refine no_implicit_lambda% (awd ?_)
   (refine no_implicit_lambda% (cal [2024] (rtake5_c l false hl) ?_ ?_))
   rotate_left
   ·(intro xx H' hh; obtain ⟨_, _, _, _, _, _, _, h', _⟩ := hh; cases h')
   intro x H' h
   obtain ⟨x2, l2, b2, hzx2, hrx2, p1, p2, h', rfl⟩ := h
   cases h'
   have hb : b2 = true := by
    cases b2 with
    | false => exact absurd (p1 rfl).2 (by rw [hno1]; simp)
    | true => rfl
   subst hb
   obtain rfl := (p2 rfl).1
   first | (refine no_implicit_lambda% (akc ?_)) | (refine no_implicit_lambda% (aec ?_))
   refine no_implicit_lambda% (awd ?_)
   (refine no_implicit_lambda% (cal [2025] (rtakecd_c l false hl) ?_ ?_))
   rotate_left
   ·(intro xx H' hh; obtain ⟨_, _, _, _, _, _, _, h', _⟩ := hh; cases h')
   intro x H' h
   obtain ⟨d2, l3, b3, hzd2, hrd2, p1, p2, h', rfl⟩ := h
   cases h'
   have hb : b3 = false := by
    cases b3 with
    | true => exact absurd ((p2 rfl).2 rfl) (by rw [g2]; simp)
    | false => rfl
   subst hb
   have h9 := (p1 rfl).2
   rw [g2] at h9
   cases h9
   first | (refine no_implicit_lambda% (akc ?_)) | (refine no_implicit_lambda% (aec ?_))
   have w2 := refWhole_c lq false
   rw [show (!false && decide (((lq.map brow).length : Int) = 0)) = decide (((lq.map brow).length : Int) = 0) from rfl] at w2
   have s3 := samecd_c d1 hd1.2
   have s4 := refSame_c d1.v d1.v hd1.2 hd1.2
   rw [show (ordV d1.v d1.v == 0) = true from by rw [ordV_refl]; rfl] at s4
   generalize decide (((lq.map brow).length : Int) = 0) = e2 at *
   cases e2 <;> repeat' (first | (refine no_implicit_lambda% (zH ?_)) | (refine no_implicit_lambda% (spl (fun hc => ?_) (fun hc => ?_)) <;> first | exact zG hc | skip) | (refine no_implicit_lambda% (ans ?_)) | (with_reducible first | exact zI | exact zJ) | (refine no_implicit_lambda% (cal [2024] (refWhole_c [] true) ?_ ?_)) | (refine no_implicit_lambda% (cal [2025] (w2) ?_ ?_)) | (refine no_implicit_lambda% (cal [] (s3) ?_ ?_)) | (refine no_implicit_lambda% (cal [] (s4) ?_ ?_)) | fail)
   all_goals first | (exact e_ret (H' := []) (rest := _) rfl ⟨rfl, rfl⟩ permT (LE0 rfl)) | (exfalso; simp at hc; done)
  ·cases h1
   refine no_implicit_lambda% (akc ?_)
   refine no_implicit_lambda% (awd ?_)
   (refine no_implicit_lambda% (cal [2024] (rtake5_c l false hl) ?_ ?_))
   rotate_left
   ·(intro xx H' hh; obtain ⟨_, _, _, _, _, _, _, h', _⟩ := hh; cases h')
   intro x H' h
   obtain ⟨x2, l2, b2, hzx2, hrx2, p1, p2, h', rfl⟩ := h
   cases h'
   have hb : b2 = true := by
    cases b2 with
    | false => exact absurd (p1 rfl).2 (by rw [hno1]; simp)
    | true => rfl
   subst hb
   obtain rfl := (p2 rfl).1
   first | (refine no_implicit_lambda% (akc ?_)) | (refine no_implicit_lambda% (aec ?_))
   refine no_implicit_lambda% (awd ?_)
   (refine no_implicit_lambda% (cal [2025] (rtakecd_c l false hl) ?_ ?_))
   rotate_left
   ·(intro xx H' hh; obtain ⟨_, _, _, _, _, _, _, h', _⟩ := hh; cases h')
   intro x H' h
   obtain ⟨d2, l3, b3, hzd2, hrd2, p1, p2, h', rfl⟩ := h
   cases h'
   have hb : b3 = true := by
    cases b3 with
    | false => exact absurd (p1 rfl).2 (by rw [hno2]; simp)
    | true => rfl
   subst hb
   obtain rfl := (p2 rfl).1
   first | (refine no_implicit_lambda% (akc ?_)) | (refine no_implicit_lambda% (aec ?_))
   repeat' (first | (refine no_implicit_lambda% (zH ?_)) | (refine no_implicit_lambda% (spl (fun hc => ?_) (fun hc => ?_)) <;> first | exact zG hc | skip) | (refine no_implicit_lambda% (ans ?_)) | (with_reducible first | exact zI | exact zJ) | (refine no_implicit_lambda% (cal [2024] (refWhole_c [] true) ?_ ?_)) | (refine no_implicit_lambda% (cal [2025] (refWhole_c [] true) ?_ ?_)) | fail)
   all_goals first | (exact e_ret (H' := []) (rest := _) rfl ⟨rfl, rfl⟩ permT (LE0 rfl)) | (exfalso; simp at hc; done)
end Go.Proofs.YtncffhgoopdfgaaGreat
namespace Go.Proofs.YtncffhgoopdfgaaGreat
open Go.Am
set_option maxRecDepth 100000
abbrev nmA5 : ByteArray := bsS [97]
def one5 : Va := ⟨2, [], 4607182418800017408⟩
def two5 : Va := ⟨2, [], 4611686018427387904⟩
def thr5 : Va := ⟨2, [], 4613937818241073152⟩
theorem add_neg5 {o : List Co} {x : Ch} {w : Va} (hk : x.k = 5) (hp : plusV (oldV o x.c) x.v = (w, 0)) : stepC o x = putR o x.c x.t w := by
 unfold stepC
 rw [if_neg (by omega), if_neg (by omega), if_neg (by omega), if_neg (by omega), hp, if_neg (by simp)]
theorem sum5a : sumC 9223372036854775808 4607182418800017408 = 4607182418800017408 := by kernel_rfl
theorem sum5b : sumC 4607182418800017408 4611686018427387904 = 4613937818241073152 := by kernel_rfl
theorem k5_1 : stepC [] ⟨5, nmA5, 5, one5⟩ = (0, [⟨nmA5, [⟨5, one5⟩]⟩]) := by
 rw [add_neg5 (w := one5) rfl (by show ((⟨2, [], sumC 9223372036854775808 4607182418800017408⟩ : Va), (0 : Int)) = _; rw [sum5a]; rfl)]
 show putR [] nmA5 5 one5 = _
 rw [put_new (by decide) (by decide) (by decide)]
 rfl
theorem fin5_1 : Fine [⟨nmA5, [⟨5, one5⟩]⟩] := by
 have h := stepC_fine fine_nil ⟨5, nmA5, 5, one5⟩
 rw [k5_1] at h
 exact h
theorem k5_2 : stepC [⟨nmA5, [⟨5, one5⟩]⟩] ⟨5, nmA5, 6, two5⟩ = (0, [⟨nmA5, [⟨6, thr5⟩, ⟨5, one5⟩]⟩]) := by
 have ho : oldV [⟨nmA5, [⟨5, one5⟩]⟩] nmA5 = one5 := by
  unfold oldV
  rw [atR_one fin5_1, atL_hd (by decide)]
  rfl
 rw [add_neg5 (w := thr5) rfl (by show plusV (oldV _ nmA5) two5 = _; rw [ho]; show ((⟨2, [], sumC 4607182418800017408 4611686018427387904⟩ : Va), (0 : Int)) = _; rw [sum5b]; rfl)]
 show putR _ nmA5 6 thr5 = _
 rw [put_one fin5_1 (by decide) (by decide) (by decide)]
 rfl
def k5xs : List Ch := [⟨5, nmA5, 5, one5⟩, ⟨5, nmA5, 6, two5⟩]
theorem k5_ap : applyR [] k5xs = (0, [⟨nmA5, [⟨6, thr5⟩, ⟨5, one5⟩]⟩]) := by
 unfold applyR k5xs
 rw [if_neg (by decide), if_neg (by decide)]
 show foldC [] _ = _
 unfold foldC
 rw [k5_1]
 dsimp only
 rw [if_neg (by decide)]
 unfold foldC
 rw [k5_2]
 dsimp only
 rw [if_neg (by decide)]
 rfl
theorem fin5_2 : Fine [⟨nmA5, [⟨6, thr5⟩, ⟨5, one5⟩]⟩] := by
 have h := applyR_fin [] k5xs
 rw [k5_ap] at h
 exact h
set_option maxHeartbeats 6400000 in
theorem known5_c : ACalls Tryz.prog 27 0 2000000 [] [] (fun out H' => out = .ret (.v (.bool true)) ∧ H' = []) := by
 have n1 := num5_c 4607182418800017408
 have n2 := num5_c 4611686018427387904
 have a1 := apply_c [] k5xs (by decide) sz_nil (fun x hx => by
  unfold k5xs at hx
  simp only [List.mem_cons, List.not_mem_nil, or_false] at hx
  rcases hx with rfl | rfl <;> exact ⟨by decide, by decide⟩) (by decide)
 rw [k5_ap] at a1
 have hz2 : RowSz [⟨nmA5, [⟨6, thr5⟩, ⟨5, one5⟩]⟩] := fun c hc x hx => by
  rw [List.mem_singleton.1 hc] at hx
  simp only [List.mem_cons, List.not_mem_nil, or_false] at hx
  rcases hx with rfl | rfl <;> exact ⟨by decide, by decide⟩
 have w1 := qnewest_c _ nmA5 (by decide) hz2
 rw [atR_one fin5_2, atL_hd (by decide)] at w1
 have a2 := apply_c [] [⟨1, ⟨#[]⟩, 5, one5⟩] (by decide) sz_nil (fun x hx => by rw [List.mem_singleton.1 hx]; exact ⟨by decide, by decide⟩) (by decide)
 rw [show applyR [] [⟨1, ⟨#[]⟩, 5, one5⟩] = (1, []) from rfl] at a2
 have hh := holds_c [] ⟨true, false, nmA5, ⟨0, [], 0⟩⟩ (by decide) sz_nil (by decide) (fun v hv => by cases hv)
 rw [show holdR [] ⟨true, false, nmA5, ⟨0, [], 0⟩⟩ = true from rfl] at hh
 unfold PutRR at a1 a2
 unfold optA at w1
 dsimp only at a1 a2 w1
 refine no_implicit_lambda% (acalls_of tok dok (f := 27) ⟨Tryz.func27, rfl, by kernel_rfl⟩ ?_); refine no_implicit_lambda% (c_start (fun _ h => h) ?_)
 repeat' (first | (refine no_implicit_lambda% (zH ?_)) | (refine no_implicit_lambda% (splv (fun hc => ?_) (fun hc => ?_)) <;> first | exact zG hc | skip) | (refine no_implicit_lambda% (ans ?_)) | (with_reducible first | exact zI | exact zJ) | (refine no_implicit_lambda% (wsp ?_)) | (refine no_implicit_lambda% (cal [] (n1) ?_ ?_)) | (refine no_implicit_lambda% (cal [] (n2) ?_ ?_)) | fail)
 refine no_implicit_lambda% (calw [] a1 ?_ ?_ (hargs := .cons (LeA.agg' (.cons (LeA.free _ _) .nil)) (.cons (LeA.free _ _) .nil)))
 rotate_left
 ·first | (exact zI) | (exact zJ)
 refine no_implicit_lambda% (ret1 ?_); first | (refine no_implicit_lambda% (akc ?_)) | (refine no_implicit_lambda% (aec ?_))
 repeat' (first | (refine no_implicit_lambda% (zH ?_)) | (refine no_implicit_lambda% (splv (fun hc => ?_) (fun hc => ?_)) <;> first | exact zG hc | skip) | (refine no_implicit_lambda% (ans ?_)) | (with_reducible first | exact zI | exact zJ) | (refine no_implicit_lambda% (wsp ?_)) | (refine no_implicit_lambda% (cal [] (w1) ?_ ?_)) | (refine no_implicit_lambda% (cal [] (n1) ?_ ?_)) | fail)
 refine no_implicit_lambda% (calw [] a2 ?_ ?_ (hargs := .cons (LeA.agg' (.cons (LeA.free _ _) .nil)) (.cons (LeA.free _ _) .nil)))
 rotate_left
 ·first | (exact zI) | (exact zJ)
 refine no_implicit_lambda% (ret1 ?_); first | (refine no_implicit_lambda% (akc ?_)) | (refine no_implicit_lambda% (aec ?_))
 repeat' (first | (refine no_implicit_lambda% (zH ?_)) | (refine no_implicit_lambda% (splv (fun hc => ?_) (fun hc => ?_)) <;> first | exact zG hc | skip) | (refine no_implicit_lambda% (ans ?_)) | (with_reducible first | exact zI | exact zJ) | (refine no_implicit_lambda% (wsp ?_)) | fail )
 refine no_implicit_lambda% (calw [] hh ?_ ?_ (hargs := .cons (LeA.agg' (.cons (LeA.free _ _) .nil)) (.cons (LeA.agg' (.cons (.refl _) (.cons (.refl _) (.cons (.refl _) (.cons (.refl _) (.cons (LeA.free _ _) (.cons (.refl _) .nil))))))) .nil)))
 rotate_left
 ·first | (exact zI) | (exact zJ)
 refine no_implicit_lambda% (ret1 ?_); first | (refine no_implicit_lambda% (akc ?_)) | (refine no_implicit_lambda% (aec ?_))
 repeat' (first | (refine no_implicit_lambda% (zH ?_)) | (refine no_implicit_lambda% (splv (fun hc => ?_) (fun hc => ?_)) <;> first | exact zG hc | skip) | (refine no_implicit_lambda% (ans ?_)) | (with_reducible first | exact zI | exact zJ) | (refine no_implicit_lambda% (wsp ?_)) | fail )
 exact e_ret (H' := []) (rest := _) rfl ⟨rfl, rfl⟩ permT (LE0 rfl)
end Go.Proofs.YtncffhgoopdfgaaGreat
namespace Go.Proofs.YtncffhgoopdfgaaGreat
open Go.Am
set_option maxRecDepth 100000
end Go.Proofs.YtncffhgoopdfgaaGreat
namespace Go.Am
def LeD (a b : AV) : Prop := ∀ X x, SimD X a x → SimD X b x
theorem LeD.refl (a : AV) : LeD a a := fun _ _ h => h
theorem LeD.free (rows : List (List AV)) (o : Own) : LeD (.list rows o) (.list rows .free) := fun _ _ h => h.free
inductive LDL : List AV → List AV → Prop
 | nil : LDL [] []
 | cons {a b : AV} {s t : List AV} (h : LeD a b) (hs : LDL s t) : LDL (a :: s) (b :: t)
inductive LDR : List (List AV) → List (List AV) → Prop
 | nil : LDR [] []
 | cons {a b : List AV} {s t : List (List AV)} (h : LDL a b) (hs : LDR s t) : LDR (a :: s) (b :: t)
theorem LDL.len {s t : List AV} (h : LDL s t) : s.length = t.length := by
 induction h with
 | nil => rfl
 | cons _ _ ih => simp [ih]
theorem LDL.get {s t : List AV} (h : LDL s t) : ∀ (i : Nat) (b : AV), t[i]? = some b → ∃ a, s[i]? = some a ∧ LeD a b := by
 induction h with
 | nil => intro i b hb; simp at hb
 | @cons a b s t h1 _ ih =>
  intro i c hc
  cases i with
  | zero => simp at hc; subst hc; exact ⟨a, rfl, h1⟩
  | succ i => exact ih i c hc
theorem LDR.len {s t : List (List AV)} (h : LDR s t) : s.length = t.length := by
 induction h with
 | nil => rfl
 | cons _ _ ih => simp [ih]
theorem LDR.get {s t : List (List AV)} (h : LDR s t) : ∀ (i : Nat) (b : List AV), t[i]? = some b → ∃ a, s[i]? = some a ∧ LDL a b := by
 induction h with
 | nil => intro i b hb; simp at hb
 | @cons a b s t h1 _ ih =>
  intro i c hc
  cases i with
  | zero => simp at hc; subst hc; exact ⟨a, rfl, h1⟩
  | succ i => exact ih i c hc
theorem LeD.rows {rows rows' : List (List AV)} (h : LDR rows rows') (o : Own) : LeD (.list rows o) (.list rows' .free) := fun X x hx => by
 cases hx with
 | nil _ a c hc ho hs =>
  cases h
  exact .nil .free a c hc (fun h => by cases h) (.inl rfl)
 | list _ _ b off c s y hn hc ho hs hr hX hS h1 =>
  have e := h.len
  have hr' : ∀ row ∈ rows', row.length = s := fun row hrow => by
   obtain ⟨i, hi, rfl⟩ := List.getElem_of_mem hrow
   obtain ⟨a, ha, hd⟩ := h.get i _ (List.getElem?_eq_getElem hi)
   rw [← hd.len]
   exact hr a (List.mem_of_getElem? ha)
  rw [e]
  refine .list rows' .free b off c s y (by omega) hc (fun h => by cases h) (.inl rfl) hr' (fun i row j a k1 k2 => ?_) (fun i row j a k1 k2 => ?_) (fun i row j a k1 k2 => ?_)
  ·obtain ⟨r0, q1, q2⟩ := h.get i row k1
   obtain ⟨a0, q3, q4⟩ := q2.get j a k2
   exact hX i r0 j a0 q1 q3
  ·obtain ⟨r0, q1, q2⟩ := h.get i row k1
   obtain ⟨a0, q3, q4⟩ := q2.get j a k2
   exact q4 _ _ (hS i r0 j a0 q1 q3)
  ·obtain ⟨r0, q1, q2⟩ := h.get i row k1
   obtain ⟨a0, q3, q4⟩ := q2.get j a k2
   exact h1 i r0 j a0 q1 q3
theorem LeA.rows {rows rows' : List (List AV)} (h : LDR rows rows') (o : Own) : LeA (.list rows o) (.list rows' .free) := fun G x hx => by
 cases hx with
 | data _ _ hd => exact .data _ _ (LeD.rows h _ _ _ hd)
 | tok _ k _ _ hd => exact .data _ _ (LeD.rows h _ _ _ hd)
theorem Wk.rows {rows rows' : List (List AV)} (h : LDR rows rows') (o : Own) : Wk (.list rows o) (.list rows' .free) :=
 ⟨fun G x hx => by
  refine .of ?_
  have := hx.down
  unfold AV.down at this
  split at this
  ·rename_i h0; cases h0; exact LeA.rows h _ _ _ this
  ·exact LeA.rows h _ _ _ this, fun G x hx => LeA.rows h o _ _ hx⟩
end Go.Am
namespace Go.Proofs.YtncffhgoopdfgaaGreat
open Go.Am
set_option maxRecDepth 100000
theorem dvmade_d (a : Dv) (h : DvOk a) : ACalls Tryz.prog 19 0 0 [.agg (dvr a)] [] (fun out H' => ∃ v, okV v ∧ out = .ret (vav v) ∧ H' = []) :=
 ACalls.ren (dvmade_c a h) (by decide) fun out H' hh => by
  obtain ⟨v, h1, rfl, rfl⟩ := hh
  exact ⟨[], .ret (vav v), [], List.nodup_nil, (fun q h => by cases h), (fun q h => by omega), Nat.le_refl _, rfl, rfl, v, h1, rfl, rfl⟩
theorem rightC_put {s : ByteArray} {t : Int} {v : Va} (h1 : nmB s = true) (h2 : tmOk t = true) (h3 : vRt v = true) : rightC ⟨1, s, t, v⟩ = 0 := by
 unfold rightC
 dsimp only
 rw [if_neg (by decide), if_neg (by decide), h1, if_neg (by decide), if_neg (by decide), h2, if_neg (by decide), if_neg (by decide), h3, if_neg (by decide), if_neg (fun h => absurd h.1 (by decide))]
end Go.Proofs.YtncffhgoopdfgaaGreat
namespace Go.Proofs.YtncffhgoopdfgaaGreat
open Go.Am
section
variable {H : Type} {enc : TypeId × Value → H} {w : World} {base : Nat} {sp : Nat → Bool} {held : Bool}
end
end Go.Proofs.YtncffhgoopdfgaaGreat
namespace Go.Proofs.YtncffhgoopdfgaaGreat
open Go.Am
section
variable {H : Type} {enc : TypeId × Value → H} {w : World} {base : Nat} {sp : Nat → Bool} {held : Bool}
end
end Go.Proofs.YtncffhgoopdfgaaGreat
namespace Go.Proofs.YtncffhgoopdfgaaGreat
open Go.Am
section
variable {H : Type} {enc : TypeId × Value → H} {w : World} {base : Nat} {sp : Nat → Bool} {held : Bool}
end
end Go.Proofs.YtncffhgoopdfgaaGreat
namespace Go.Proofs.YtncffhgoopdfgaaGreat
open Go.Am
set_option maxRecDepth 100000
structure Ow where
 k : Int
 r : Int
 h : Int
 m : Int
 c : Int
 has : Bool
 want : Bool
 v : Dv
 l : List Cw
structure OwOk (o : Ow) : Prop where
 k : -9223372036854775808 ≤ o.k ∧ o.k ≤ 9223372036854775807
 r : -9223372036854775808 ≤ o.r ∧ o.r ≤ 9223372036854775807
 h : -9223372036854775808 ≤ o.h ∧ o.h ≤ 9223372036854775807
 m : -9223372036854775808 ≤ o.m ∧ o.m ≤ 9223372036854775807
 c : -9223372036854775808 ≤ o.c ∧ o.c ≤ 9223372036854775807
 v : DvOk o.v
 l : ∀ a ∈ o.l, CwOk a
 n : o.l.length ≤ 9223372036854775807
structure Oq where
 k : Int
 row : ByteArray
 hi : ByteArray
 d : Cd
 l : List Ch
 most : Int
def CdSz (d : Cd) : Prop := d.v.b.length < 1073741824 ∧ d.v.n < 18446744073709551616
section
variable {H : Type} {enc : TypeId × Value → H} {w : World} {base : Nat} {sp : Nat → Bool} {held : Bool}
end
end Go.Proofs.YtncffhgoopdfgaaGreat
namespace Go.Proofs.YtncffhgoopdfgaaGreat
open Go.Am
set_option maxRecDepth 100000
end Go.Proofs.YtncffhgoopdfgaaGreat
namespace Go.Proofs.YtncffhgoopdfgaaGreat
open Go.Am
set_option maxRecDepth 100000
end Go.Proofs.YtncffhgoopdfgaaGreat
namespace Go.Am
open Go.RowKit
end Go.Am
namespace Go.Proofs.YtncffhgoopdfgaaGreat
open Go.Am
set_option maxRecDepth 100000
theorem atR_sz {r : List Co} {s : ByteArray} {t : Int} {v : Va} (hz : RowSz r) (h : atR r s t = some v) : v.b.length < 1073741824 ∧ v.n < 18446744073709551616 := by
 unfold atR at h
 split at h
 ·rcases hc : (copyR r)[npos (copyR r) s]? with _ | c
  ·rw [hc] at h; cases h
  ·rw [hc] at h
   have h2 : atL c.l t = some v := h
   unfold atL at h2
   rcases hf : c.l.find? (fun x => decide (x.t ≤ t)) with _ | y
   ·rw [hf] at h2; cases h2
   ·rw [hf] at h2
    cases h2
    exact copy_sz hz c (List.mem_of_getElem? hc) y (List.mem_of_find?_eq_some hf)
 ·cases h
end Go.Proofs.YtncffhgoopdfgaaGreat
