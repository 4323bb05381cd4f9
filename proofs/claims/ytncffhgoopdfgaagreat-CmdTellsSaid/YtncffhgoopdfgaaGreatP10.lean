/- Part 10 of what the laws CmdTells rest on: RyD, RyB, RyE, RyF, CtA, OcN, CtN, ChD, ChG, CtB, ChE, ChF, ChH, AmLd, ChJ, RxB, ChI, Vl, CtG. -/
import Derived.Test.YtncffhgoopdfgaaGreatP9
set_option linter.unusedSimpArgs false
set_option linter.unusedVariables false
namespace Go.Proofs.YtncffhgoopdfgaaGreat
open Go.Am
set_option maxRecDepth 100000
abbrev dQ {α : Type} (p : List UInt8 → Option (α × List UInt8)) (ok : α → Prop) (val : α → AV) (l : List UInt8) (bad : Bool) (out : AOut) (H' : Heap) : Prop :=
 ∃ x l' bad', ok x ∧ l'.length ≤ l.length ∧ (bad' = false → bad = false ∧ p l = some (x, l')) ∧ (bad' = true → l' = [] ∧ (bad = false → p l = none)) ∧ out = .ret (val x) ∧ H' = rr l' bad'
theorem rd_fcts (n : Nat) (l : List UInt8) (bad : Bool) : (rLeft n l bad).length ≤ l.length ∧ (rBad n l bad = false → bad = false ∧ n ≤ l.length ∧ rSome n l bad = l.take n ∧ rLeft n l bad = l.drop n) ∧ (rBad n l bad = true → rLeft n l bad = [] ∧ (bad = false → ¬ n ≤ l.length)) := by
 refine ⟨rLeft_len n l bad, fun h => ?_, fun h => ?_⟩
 ·unfold rBad at h
  have h' : bad = false ∧ n ≤ l.length := by simpa using h
  exact ⟨h'.1, h'.2, by unfold rSome; rw [if_pos h'], by unfold rLeft; rw [if_pos h']⟩
 ·unfold rBad at h
  have h' : ¬ (bad = false ∧ n ≤ l.length) := fun hh => by rw [decide_eq_true hh] at h; cases h
  exact ⟨by unfold rLeft; rw [if_neg h'], fun hb hn => h' ⟨hb, hn⟩⟩
theorem ubn_l1 {l : List UInt8} (h : l.length = 1) : ubn l 0 < 256 := by
 have := ubn_take l 1
 rwa [List.take_of_length_le (by omega)] at this
theorem qB_c (l : List UInt8) (bad : Bool) (h : l.length < 281474976710656) : ACalls Tryz.prog 122 1 4 [.ptr 0 0] (rr l bad) (dQ pB (· < 256) (fun x => .v (.int .u8 (x : Nat))) l bad) :=
 (refByte_c l bad h).mono fun out H' ⟨h1, h2⟩ => by
  obtain ⟨f1, f2, f3⟩ := rd_fcts 1 l bad
  refine ⟨_, _, _, ubn_l1 (rSome_len 1 l bad (by decide)), f1, fun hb => ?_, fun hb => ?_, h1, h2⟩
  ·obtain ⟨g1, g2, g3, g4⟩ := f2 hb
   exact ⟨g1, by unfold pB; rw [if_pos g2, g3, g4]⟩
  ·obtain ⟨g1, g2⟩ := f3 hb
   exact ⟨g1, fun hb => by unfold pB; rw [if_neg (g2 hb)]⟩
theorem qL_c (l : List UInt8) (bad : Bool) (h : l.length < 281474976710656) : ACalls Tryz.prog 154 1 7 [.ptr 0 0] (rr l bad) (dQ pL (· < 18446744073709551616) (fun x => .v (.int .u64 (x : Nat))) l bad) :=
 (refRLong_c l bad h).mono fun out H' ⟨h1, h2⟩ => by
  have e1 := rLeft_len 4 l bad
  have e2 := rLeft_len 4 (rLeft 4 l bad) (rBad 4 l bad)
  cases bad with
  | false =>
   by_cases h8 : 8 ≤ l.length
   ·obtain ⟨a1, a2, a3⟩ := long_ok h8
    refine ⟨_, _, _, rLong_lt l false, by omega, fun _ => ⟨rfl, ?_⟩, fun hb => ?_, h1, h2⟩
    ·unfold pL; rw [if_pos h8, a1, a2]
    ·rw [a3] at hb; cases hb
   ·obtain ⟨a2, a3⟩ := long_no (b := l) (by omega)
    refine ⟨_, _, _, rLong_lt l false, by omega, fun hb => ?_, fun _ => ⟨a2, fun _ => ?_⟩, h1, h2⟩
    ·rw [a3] at hb; cases hb
    ·unfold pL; rw [if_neg h8]
  | true =>
   obtain ⟨b1, b2⟩ := @bad_no 4 l
   have b3 : rLeft 4 (rLeft 4 l true) (rBad 4 l true) = [] ∧ rBad 4 (rLeft 4 l true) (rBad 4 l true) = true := by rw [b2]; exact bad_no
   refine ⟨_, _, _, rLong_lt l true, by omega, fun hb => ?_, fun _ => ⟨b3.1, fun hb => by cases hb⟩, h1, h2⟩
   rw [b3.2] at hb; cases hb
theorem qX_c (l : List UInt8) (bad : Bool) (h : l.length < 281474976710656) : ACalls Tryz.prog 126 1 8 [.ptr 0 0, .v (.int .i64 16)] (rr l bad) (dQ pX (·.length ≤ 16) (fun x => .list (x.map brow) .free) l bad) := by
 by_cases hok : bad = false ∧ tOk l 16
 ·obtain ⟨rfl, hT⟩ := hok
  refine (refRText_c l 16 h).mono fun out H' hh => ?_
  rcases hh with ⟨_, h2, h3⟩ | ⟨h1, _⟩
  ·refine ⟨_, _, false, ?_, ?_, fun _ => ⟨rfl, by unfold pX; rw [if_pos hT]⟩, fun h => (by cases h), h2, h3⟩
   ·have := hT.2.2.1 (by decide)
    show List.length (List.take _ _) ≤ 16
    rw [List.length_take]; omega
   ·simp only [List.length_drop]; omega
  ·exact absurd hT h1
 ·have hno : bad = false → pX l = none := fun hb => by unfold pX; rw [if_neg (fun hT => hok ⟨hb, hT⟩)]
  have hC := refRNum_c l bad h
  have hlt := some4_lt l bad
  have hfin : dQ pX (·.length ≤ 16) (fun x => .list (x.map brow) .free) l bad (.ret (.list [] .free)) (rr [] true) := ⟨[], [], true, Nat.zero_le _, Nat.zero_le _, fun h => (by cases h), fun _ => ⟨rfl, hno⟩, rfl, rfl⟩
  obtain ⟨_, f2, f3⟩ := rd_fcts 4 l bad
  cases hbb : rBad 4 l bad with
  | true =>
   rw [hbb] at hC
   rw [(f3 hbb).1] at hC
   generalize ubn (rSome 4 l bad) 0 = n at *
   refine no_implicit_lambda% (acalls_of tok dok (f := 126) ⟨Tryz.func126, rfl, by kernel_rfl⟩ ?_); refine no_implicit_lambda% (c_start (fun _ h => h) ?_)
   refine no_implicit_lambda% (awd ?_)
   refine no_implicit_lambda% (cal [0] (hC) ?_ ?_)
   ·refine no_implicit_lambda% (ret1 ?_); first | (refine no_implicit_lambda% (akc ?_)) | (refine no_implicit_lambda% (aec ?_))
    repeat' (first | (refine no_implicit_lambda% (zH ?_)) | (refine no_implicit_lambda% (spl (fun hc => ?_) (fun hc => ?_)) <;> first | exact zG hc | skip) | (refine no_implicit_lambda% (ans ?_)) | (with_reducible first | exact zI | exact zJ) | (refine no_implicit_lambda% (cal [0] (refFail_c [] true) ?_ ?_)) | fail)
    all_goals exact e_ret_to (H' := rr [] true) (rest := []) (.freeSlot 4 rfl) rfl hfin (.of_eq rfl) (LE0 rfl)
   ·first | (exact zI) | (exact zJ)
  | false =>
   obtain ⟨rfl, h4, g1, g2⟩ := f2 hbb
   rw [g1] at hlt
   rw [g1, g2, hbb] at hC
   generalize hn : ubn (l.take 4) 0 = n at *
   have hf : ¬ tOk l 16 := fun hT => hok ⟨rfl, hT⟩
   have hf2 : ¬ ((n : Int) ≤ 16 ∧ n ≤ (l.drop 4).length) := fun ⟨a1, a2⟩ => hf ⟨h4, by omega, fun _ => by omega, by omega⟩
   refine no_implicit_lambda% (acalls_of tok dok (f := 126) ⟨Tryz.func126, rfl, by kernel_rfl⟩ ?_); refine no_implicit_lambda% (c_start (fun _ h => h) ?_)
   refine no_implicit_lambda% (awd ?_)
   refine no_implicit_lambda% (cal [0] (hC) ?_ ?_)
   ·refine no_implicit_lambda% (ret1 ?_); first | (refine no_implicit_lambda% (akc ?_)) | (refine no_implicit_lambda% (aec ?_))
    refine no_implicit_lambda% (awd ?_)
    rw [show IntKind.i64.wrap (n : Int) = n from w64 (by omega) (by omega)]
    repeat' (first | (refine no_implicit_lambda% (zH ?_)) | (refine no_implicit_lambda% (spl (fun hc => ?_) (fun hc => ?_)) <;> first | exact zG hc | skip) | (refine no_implicit_lambda% (ans ?_)) | (with_reducible first | exact zI | exact zJ) | (refine no_implicit_lambda% (cal [0] (refFail_c (l.drop 4) false) ?_ ?_)) | fail)
    all_goals first | exact e_ret_to (H' := rr [] true) (rest := []) (.freeSlot 4 rfl) rfl hfin (.of_eq rfl) (LE0 rfl) | skip
    all_goals (exfalso; simp at *; omega)
   ·first | (exact zI) | (exact zJ)
def pF (l : List UInt8) : Option (Nat × List UInt8) := bnd (pL l) fun x r => if canonB x = x then some (x, r) else none
theorem qF_c (l : List UInt8) (bad : Bool) (h : l.length < 281474976710656) : ACalls Tryz.prog 184 1 8 [.ptr 0 0] (rr l bad) (dQ pF (· < 18446744073709551616) (fun x => .v (.float .f64 x)) l bad) := by
 have hL := qL_c l bad h
 refine no_implicit_lambda% (acalls_of tok dok (f := 184) ⟨Tryz.func184, rfl, by kernel_rfl⟩ ?_); refine no_implicit_lambda% (c_start (fun _ h => h) ?_)
 refine no_implicit_lambda% (awd ?_)
 (refine no_implicit_lambda% (cal [0] (hL) ?_ ?_))
 ·intro xx H' hh
  obtain ⟨x, l', bad', hx, hl', q1, q2, h', rfl⟩ := hh
  cases h'
  first | (refine no_implicit_lambda% (akc ?_)) | (refine no_implicit_lambda% (aec ?_))
  repeat' (first | (refine no_implicit_lambda% (zH ?_)) | (refine no_implicit_lambda% (spl (fun hc => ?_) (fun hc => ?_)) <;> first | exact zG hc | skip) | (refine no_implicit_lambda% (ans ?_)) | (with_reducible first | exact zI | exact zJ) | (refine no_implicit_lambda% (cal [] (refFrom_c x hx) ?_ ?_)) | (refine no_implicit_lambda% (cal [] (refBits_c (canonB x) (canonB_lt hx)) ?_ ?_)) | fail)
  repeat' (first | (refine no_implicit_lambda% (zH ?_)) | (refine no_implicit_lambda% (spl (fun hc => ?_) (fun hc => ?_)) <;> first | exact zG hc | skip) | (refine no_implicit_lambda% (ans ?_)) | (with_reducible first | exact zI | exact zJ) | (refine no_implicit_lambda% (cal [0] (refFail_c l' bad') ?_ ?_)) | fail)
  ·have hne : canonB x ≠ x := fun he => by rw [canon2, he] at hc; simp at hc
   refine e_ret (H' := rr [] true) (rest := _) rfl ⟨0, [], true, by decide, Nat.zero_le _, (fun h => by cases h), fun _ => ⟨rfl, fun hb => ?_⟩, rfl, rfl⟩ permT (LE0 rfl)
   unfold pF
   cases bad' with
   | false => rw [(q1 rfl).2, bnd_some, if_neg hne]
   | true => rw [(q2 rfl).2 hb]; rfl
  ·have heq : canonB x = x := by
    rw [canon2] at hc
    simp at hc
    omega
   rw [heq]
   refine e_ret (H' := rr l' bad') (rest := _) rfl ⟨x, l', bad', hx, hl', fun hb => ⟨(q1 hb).1, ?_⟩, fun hb => ⟨(q2 hb).1, fun hb2 => ?_⟩, rfl, rfl⟩ permT (LE0 rfl)
   ·unfold pF; rw [(q1 hb).2, bnd_some, if_pos heq]
   ·unfold pF; rw [(q2 hb).2 hb2]; rfl
 ·intro xx H' hh
  obtain ⟨_, _, _, _, _, _, _, h', _⟩ := hh
  cases h'
theorem pF_ok {l r : List UInt8} {x : Nat} (h : pF l = some (x, r)) : fOk l ∧ x = ubn (l.take 8) 0 ∧ r = l.drop 8 := by
 unfold pF pL at h
 by_cases h8 : 8 ≤ l.length
 ·rw [if_pos h8, bnd_some] at h
  split at h
  ·rename_i hc
   cases h
   exact ⟨⟨h8, hc⟩, rfl, rfl⟩
  ·cases h
 ·rw [if_neg h8] at h; cases h
theorem pF_no {l : List UInt8} (h : pF l = none) : ¬ fOk l := fun hf => by
 unfold pF pL at h
 rw [if_pos hf.1, bnd_some, if_pos hf.2] at h
 cases h
theorem pX_ok {l r x : List UInt8} (h : pX l = some (x, r)) : tOk l 16 ∧ x = (l.drop 4).take (ubn (l.take 4) 0) ∧ r = (l.drop 4).drop (ubn (l.take 4) 0) := by
 unfold pX at h
 split at h
 ·rename_i hc
  cases h
  exact ⟨hc, rfl, rfl⟩
 ·cases h
theorem pX_no {l : List UInt8} (h : pX l = none) : ¬ tOk l 16 := fun hf => by
 unfold pX at h
 rw [if_pos hf] at h
 cases h
theorem pB_ok {l r : List UInt8} {x : Nat} (h : pB l = some (x, r)) : 1 ≤ l.length ∧ x = ubn (l.take 1) 0 ∧ r = l.drop 1 := by
 unfold pB at h
 split at h
 ·rename_i hc
  cases h
  exact ⟨hc, rfl, rfl⟩
 ·cases h
theorem pB_no {l : List UInt8} (h : pB l = none) : ¬ 1 ≤ l.length := fun hf => by
 unfold pB at h
 rw [if_pos hf] at h
 cases h
theorem gv0 {l : List UInt8} (h : pB l = none) : pV l = none := pV_none fun v r hg => pB_no h hg.1
theorem gv1 {l l1 l2 s : List UInt8} (h : pB l = some (1, l1)) (h2 : pX l1 = some (s, l2)) : pV l = some (⟨1, s, 0⟩, l2) := by
 obtain ⟨a1, a2, rfl⟩ := pB_ok h
 obtain ⟨b1, rfl, rfl⟩ := pX_ok h2
 exact pV_some ⟨a1, .inl ⟨a2.symm, b1, rfl, rfl⟩⟩
theorem gv1n {l l1 : List UInt8} (h : pB l = some (1, l1)) (h2 : pX l1 = none) : pV l = none := by
 obtain ⟨a1, a2, rfl⟩ := pB_ok h
 refine pV_none fun v r hg => ?_
 obtain ⟨_, ⟨_, g2, _⟩ | ⟨g1, _⟩⟩ := hg
 ·exact pX_no h2 g2
 ·omega
theorem gv2 {l l1 l2 : List UInt8} {n : Nat} (h : pB l = some (2, l1)) (h2 : pF l1 = some (n, l2)) : pV l = some (⟨2, [], n⟩, l2) := by
 obtain ⟨a1, a2, rfl⟩ := pB_ok h
 obtain ⟨b1, rfl, rfl⟩ := pF_ok h2
 exact pV_some ⟨a1, .inr ⟨a2.symm, b1, rfl, rfl⟩⟩
theorem gv2n {l l1 : List UInt8} (h : pB l = some (2, l1)) (h2 : pF l1 = none) : pV l = none := by
 obtain ⟨a1, a2, rfl⟩ := pB_ok h
 refine pV_none fun v r hg => ?_
 obtain ⟨_, ⟨g1, _⟩ | ⟨_, g2, _⟩⟩ := hg
 ·omega
 ·exact pF_no h2 g2
theorem gv3 {l l1 : List UInt8} {x : Nat} (h : pB l = some (x, l1)) (h1 : x ≠ 1) (h2 : x ≠ 2) : pV l = none := by
 obtain ⟨a1, a2, rfl⟩ := pB_ok h
 refine pV_none fun v r hg => ?_
 obtain ⟨_, ⟨g1, _⟩ | ⟨g1, _⟩⟩ := hg <;> omega
theorem qV_c (l : List UInt8) (bad : Bool) (h : l.length < 281474976710656) : ACalls Tryz.prog 155 1 40 [.ptr 0 0] (rr l bad) (dQ pV (fun v => v.b.length ≤ 16 ∧ v.n < 18446744073709551616) vav l bad) := by
 have hB := qB_c l bad h
 refine no_implicit_lambda% (acalls_of tok dok (f := 155) ⟨Tryz.func155, rfl, by kernel_rfl⟩ ?_); refine no_implicit_lambda% (c_start (fun _ h => h) ?_)
 refine no_implicit_lambda% (awd ?_)
 (refine no_implicit_lambda% (cal [0] (hB) ?_ ?_))
 ·intro xx H' hh
  obtain ⟨x, l1, b1, hx, hl1, q1, q2, h', rfl⟩ := hh
  cases h'
  first | (refine no_implicit_lambda% (akc ?_)) | (refine no_implicit_lambda% (aec ?_))
  have hX := qX_c l1 b1 (by omega)
  have hF := qF_c l1 b1 (by omega)
  repeat' (first | (refine no_implicit_lambda% (zH ?_)) | (refine no_implicit_lambda% (spl (fun hc => ?_) (fun hc => ?_)) <;> first | exact zG hc | skip) | (refine no_implicit_lambda% (ans ?_)) | (with_reducible first | exact zI | exact zJ) | (refine no_implicit_lambda% (cal [0] (refFail_c l1 b1) ?_ ?_)) | fail)
  ·have hx1 : x = 1 := by
    have h9 : ((x : Int) == 1) = true := hc
    simp at h9
    omega
   subst hx1
   (refine no_implicit_lambda% (cal [0] (hX) ?_ ?_))
   ·intro xx H' hh
    obtain ⟨s, l2, b2, hs, hl2, p1, p2, h', rfl⟩ := hh
    cases h'
    first | (refine no_implicit_lambda% (akc ?_)) | (refine no_implicit_lambda% (aec ?_))
    repeat' (first | (refine no_implicit_lambda% (zH ?_)) | (refine no_implicit_lambda% (spl (fun hc => ?_) (fun hc => ?_)) <;> first | exact zG hc | skip) | (refine no_implicit_lambda% (ans ?_)) | (with_reducible first | exact zI | exact zJ))
    refine e_ret (H' := rr l2 b2) (rest := _) rfl ⟨⟨1, s, 0⟩, l2, b2, ⟨hs, (by show (0 : Nat) < 18446744073709551616; decide)⟩, by omega, fun hb => ?_, fun hb => ⟨(p2 hb).1, fun hb2 => ?_⟩, rfl, rfl⟩ permT (LE0 rfl)
    ·obtain ⟨e1, e2⟩ := p1 hb
     obtain ⟨e3, e4⟩ := q1 e1
     exact ⟨e3, gv1 e4 e2⟩
    ·cases b1 with
     | false => exact gv1n (q1 rfl).2 ((p2 hb).2 rfl)
     | true => exact gv0 ((q2 rfl).2 hb2)
   ·intro xx H' hh
    obtain ⟨_, _, _, _, _, _, _, h', _⟩ := hh
    cases h'
  ·have hx1 : x = 2 := by
    have h9 : ((x : Int) == 2) = true := hc
    simp at h9
    omega
   subst hx1
   (refine no_implicit_lambda% (cal [0] (hF) ?_ ?_))
   ·intro xx H' hh
    obtain ⟨n, l2, b2, hs, hl2, p1, p2, h', rfl⟩ := hh
    cases h'
    first | (refine no_implicit_lambda% (akc ?_)) | (refine no_implicit_lambda% (aec ?_))
    repeat' (first | (refine no_implicit_lambda% (zH ?_)) | (refine no_implicit_lambda% (spl (fun hc => ?_) (fun hc => ?_)) <;> first | exact zG hc | skip) | (refine no_implicit_lambda% (ans ?_)) | (with_reducible first | exact zI | exact zJ))
    refine e_ret_to (H' := rr l2 b2) (rest := [(1, .box [.v (.int .i64 2), .list [] .free, .v (.float .f64 n)])]) (Conv.toT (τ := ⟨_, [(0, .box [.list (l2.map brow) .free, .v (.bool b2)]), (1, .box [.v (.int .i64 2), .list [] .free, .v (.float .f64 n)])], _⟩) (.refl _) ?_ (Nat.le_refl _)) rfl ⟨⟨2, [], n⟩, l2, b2, ⟨Nat.zero_le _, hs⟩, by omega, fun hb => ?_, fun hb => ⟨(p2 hb).1, fun hb2 => ?_⟩, rfl, rfl⟩ permT (LE0 rfl)
    ·exact wkh
    ·obtain ⟨e1, e2⟩ := p1 hb
     obtain ⟨e3, e4⟩ := q1 e1
     exact ⟨e3, gv2 e4 e2⟩
    ·cases b1 with
     | false => exact gv2n (q1 rfl).2 ((p2 hb).2 rfl)
     | true => exact gv0 ((q2 rfl).2 hb2)
   ·intro xx H' hh
    obtain ⟨_, _, _, _, _, _, _, h', _⟩ := hh
    cases h'
  ·have hx2 : x ≠ 2 := by
    have h9 : ((x : Int) == 2) = false := hc
    simp at h9
    omega
   have hx1 : x ≠ 1 := by
    have h9 : ((x : Int) == 1) = false := by assumption
    simp at h9
    omega
   refine e_ret_to (H' := rr [] true) (rest := [(1, .box [.v (.int .i64 0), .list [] .free, .v (.float .f64 0)])]) (Conv.toT (τ := ⟨_, [(0, .box [.list [] .free, .v (.bool true)]), (1, .box [.v (.int .i64 0), .list [] .free, .v (.float .f64 0)])], _⟩) (.refl _) ?_ (Nat.le_refl _)) rfl ⟨⟨0, [], 0⟩, [], true, ⟨Nat.zero_le _, by decide⟩, Nat.zero_le _, fun hb => (by cases hb), fun _ => ⟨rfl, fun hb2 => ?_⟩, rfl, rfl⟩ permT (LE0 rfl)
   ·exact wkh
   cases b1 with
   | false => exact gv3 (q1 rfl).2 hx1 hx2
   | true => exact gv0 ((q2 rfl).2 hb2)
 ·intro xx H' hh
  obtain ⟨_, _, _, _, _, _, _, h', _⟩ := hh
  cases h'
end Go.Proofs.YtncffhgoopdfgaaGreat
namespace Go.Proofs.YtncffhgoopdfgaaGreat
open Go.Am
set_option maxRecDepth 100000
theorem refPutP_w (p : List UInt8) (v : Va) (hp : p.length < 100000000) (hb : v.kind = 1 → v.b.length ≤ 20) (hn : v.n < 18446744073709551616) : ACalls Tryz.prog 77 0 20 [.list (p.map brow) .free, vav v] [] (fun out H' => out = .ret (.list ((p ++ encA v).map brow) .free) ∧ H' = []) := by
 obtain ⟨kd, b, n⟩ := v
 simp only at hb hn
 have r1 : ∀ row ∈ p.map brow, row.length = 1 := fun row h => by obtain ⟨_, _, rfl⟩ := List.mem_map.1 h; rfl
 have b1 : (p.map brow).length < 100000000 := by rw [List.length_map]; exact hp
 have b2 : ([] ++ p.map brow).length < 100000000 := b1
 by_cases h1 : kd = 1
 ·subst h1
  replace hb := hb rfl
  have ee : p ++ encA ⟨1, b, n⟩ = p ++ [1] ++ (be b.length 4 ++ b) := by simp [encA]
  rw [ee]
  refine no_implicit_lambda% (acalls_of tok dok (f := 77) ⟨Tryz.func77, rfl, by kernel_rfl⟩ ?_); refine no_implicit_lambda% (c_start (fun _ h => h) ?_)
  repeat' (first | (refine no_implicit_lambda% (zH ?_)) | (refine no_implicit_lambda% (spl (fun hc => ?_) (fun hc => ?_)) <;> first | exact zG hc | skip) | (refine no_implicit_lambda% (ans ?_)) | (with_reducible first | exact zI | exact zJ))
  rw [show [] ++ p.map brow ++ [[AV.v (.int .u8 1)]] = (p ++ [1]).map brow by simp [brow]]
  refine no_implicit_lambda% (calw [] (refText_c (p ++ [1]) b (by simp; omega) (by omega)) ?_ ?_)
  ·refine no_implicit_lambda% (ret1 ?_); first | (refine no_implicit_lambda% (akc ?_)) | (refine no_implicit_lambda% (aec ?_))
   refine no_implicit_lambda% (awd ?_)
   exact e_ret_to (H' := []) (rest := _) (.freeSlot 4 rfl) rfl ⟨rfl, rfl⟩ (.of_eq rfl) (LE0 rfl)
  ·first | (exact zI) | (exact zJ)
 ·by_cases h2 : kd = 2
  ·subst h2
   have ee : p ++ encA ⟨2, b, n⟩ = p ++ [2] ++ be (canonB n) 8 := by simp [encA]
   rw [ee]
   refine no_implicit_lambda% (acalls_of tok dok (f := 77) ⟨Tryz.func77, rfl, by kernel_rfl⟩ ?_); refine no_implicit_lambda% (c_start (fun _ h => h) ?_)
   repeat' (first | (refine no_implicit_lambda% (zH ?_)) | (refine no_implicit_lambda% (spl (fun hc => ?_) (fun hc => ?_)) <;> first | exact zG hc | skip) | (refine no_implicit_lambda% (ans ?_)) | (with_reducible first | exact zI | exact zJ))
   rw [show [] ++ p.map brow ++ [[AV.v (.int .u8 2)]] = (p ++ [2]).map brow by simp [brow]]
   refine no_implicit_lambda% (calw [] (refFloat_c (p ++ [2]) n hn (by simp; omega)) ?_ ?_)
   ·refine no_implicit_lambda% (ret1 ?_); first | (refine no_implicit_lambda% (akc ?_)) | (refine no_implicit_lambda% (aec ?_))
    refine no_implicit_lambda% (awd ?_)
    exact e_ret_to (H' := []) (rest := _) (.freeSlot 4 rfl) rfl ⟨rfl, rfl⟩ (.of_eq rfl) (LE0 rfl)
   ·first | (exact zI) | (exact zJ)
  ·have ee : encA ⟨kd, b, n⟩ = [0] := by simp [encA, h1, h2]
   rw [ee]
   have e1 := k_ne h1
   have e2 := k_ne h2
   refine no_implicit_lambda% (acalls_of tok dok (f := 77) ⟨Tryz.func77, rfl, by kernel_rfl⟩ ?_); refine no_implicit_lambda% (c_start (fun _ h => h) ?_)
   repeat' (first | (refine no_implicit_lambda% (zH ?_)) | (refine no_implicit_lambda% (spl (fun hc => ?_) (fun hc => ?_)) <;> first | exact zG hc | skip) | (refine no_implicit_lambda% (ans ?_)) | (with_reducible first | exact zI | exact zJ))
   all_goals try (exfalso; simp_all; done)
   rw [show [] ++ p.map brow ++ [[AV.v (.int .u8 0)]] = (p ++ [0]).map brow by simp [brow]]
   exact e_ret_to (H' := []) (rest := _) (.freeSlot 4 rfl) rfl ⟨rfl, rfl⟩ (.of_eq rfl) (LE0 rfl)
end Go.Proofs.YtncffhgoopdfgaaGreat
namespace Go.Proofs.YtncffhgoopdfgaaGreat
open Go.Am
set_option maxRecDepth 100000
theorem tm_bad {t : Nat} (h1 : 1099511627776 < t) (h2 : t < 18446744073709551616) : tmOk (IntKind.i64.wrap (t : Int)) = false := by
 unfold tmOk
 refine decide_eq_false fun h => ?_
 rw [IntKind.wrap_i64] at h
 omega
theorem bnd_inv {α β : Type} {p : Option (α × List UInt8)} {q : α → List UInt8 → Option β} (h : ∀ a r, p = some (a, r) → q a r = none) : bnd p q = none := by
 cases p with
 | none => rfl
 | some a => exact h a.1 a.2 rfl
end Go.Proofs.YtncffhgoopdfgaaGreat
namespace Go.Proofs.YtncffhgoopdfgaaGreat
open Go.Am
set_option maxRecDepth 100000
end Go.Proofs.YtncffhgoopdfgaaGreat
namespace Go.Proofs.YtncffhgoopdfgaaGreat
open Go.Am
set_option maxRecDepth 100000
def encT (c : ByteArray) : List UInt8 := be c.data.toList.length 4 ++ c.data.toList
def encCh (x : Ch) : List UInt8 := if x.k = 4 then [4] else if x.k = 3 then [3] ++ encT x.c else if x.k = 2 then [2] ++ encT x.c ++ be x.t.toNat 8 else [UInt8.ofNat x.k.toNat] ++ encT x.c ++ be x.t.toNat 8 ++ encA x.v
theorem rightC_inv {x : Ch} (h : rightC x = 0) : (1 ≤ x.k ∧ x.k ≤ 5) ∧ (x.k ≠ 4 → nmB x.c = true) ∧ ((x.k = 1 ∨ x.k = 2 ∨ x.k = 5) → tmOk x.t = true) ∧ ((x.k = 1 ∨ x.k = 5) → vRt x.v = true) ∧ (x.k = 5 → x.v.kind = 2) := by
 unfold rightC at h
 by_cases h1 : x.k < 1 ∨ 5 < x.k
 ·rw [if_pos h1] at h; cases h
 rw [if_neg h1] at h
 refine ⟨by omega, ?_⟩
 by_cases h4 : x.k = 4
 ·exact ⟨fun h => absurd h4 h, fun h => by omega, fun h => by omega, fun h => by omega⟩
 rw [if_neg h4] at h
 rcases hn : nmB x.c with _ | _
 ·rw [if_pos hn] at h; cases h
 rw [hn, if_neg (by simp)] at h
 refine ⟨fun _ => rfl, ?_⟩
 by_cases h3 : x.k = 3
 ·exact ⟨fun h => by omega, fun h => by omega, fun h => by omega⟩
 rw [if_neg h3] at h
 rcases ht : tmOk x.t with _ | _
 ·rw [if_pos ht] at h; cases h
 rw [ht, if_neg (by simp)] at h
 refine ⟨fun _ => rfl, ?_⟩
 by_cases h2 : x.k = 2
 ·exact ⟨fun h => by omega, fun h => by omega⟩
 rw [if_neg h2] at h
 rcases hv : vRt x.v with _ | _
 ·rw [if_pos hv] at h; cases h
 rw [hv, if_neg (by simp)] at h
 refine ⟨fun _ => rfl, fun h5 => ?_⟩
 by_cases hk : x.v.kind = 2
 ·exact hk
 ·rw [if_pos ⟨h5, hk⟩] at h; cases h
theorem nmB_len {c : ByteArray} (h : nmB c = true) : 1 ≤ c.data.toList.length ∧ c.data.toList.length ≤ 16 := by
 unfold nmB at h
 have h3 := of_decide_eq_true h
 have h4 : c.data.toList.length = c.size := rfl
 omega
theorem vRt_len {v : Va} (h : vRt v = true) (h1 : v.kind = 1) : v.b.length ≤ 20 := by
 unfold vRt at h
 rw [h1] at h
 simp at h
 omega
theorem encT_len (c : ByteArray) : (encT c).length = 4 + c.data.toList.length := by unfold encT; rw [List.length_append, be_len]
theorem encA_lw {v : Va} (h : v.kind = 1 → v.b.length ≤ 20) : (encA v).length ≤ 25 := by
 unfold encA
 split
 ·have := h (by assumption); simp [be_len]; omega
 ·split
  ·simp [be_len]
  ·simp
theorem encCh_len {x : Ch} (h : rightC x = 0) : 1 ≤ (encCh x).length ∧ (encCh x).length ≤ 54 := by
 obtain ⟨h1, h2, h3, h4, h5⟩ := rightC_inv h
 unfold encCh
 repeat' split
 ·exact ⟨Nat.le_refl _, by simp⟩
 ·have := nmB_len (h2 (by omega))
  simp only [List.length_append, encT_len, List.length_singleton]; omega
 ·have := nmB_len (h2 (by omega))
  simp only [List.length_append, encT_len, List.length_singleton, be_len]; omega
 ·have := nmB_len (h2 (by omega))
  have := encA_lw (vRt_len (h4 (by omega)))
  simp only [List.length_append, encT_len, List.length_singleton, be_len]; omega
set_option maxHeartbeats 6400000 in
theorem write5_c (x : Ch) (l : List UInt8) (hx : rightC x = 0) (hn : x.v.n < 18446744073709551616) (hl : l.length < 10000000) : ACalls Tryz.prog 72 2 200 [.ptr 0 0, .agg (chrow x)] (wr l) (fun out H' => out = .ret (.tuple []) ∧ H' = wr (l ++ encCh x)) := by
 obtain ⟨h1, h2, h3, h4, h5⟩ := rightC_inv hx
 have h0 := asks_c x.k
 obtain ⟨k, c, t, v⟩ := x
 dsimp only at *
 have hk : k = 1 ∨ k = 5 ∨ k = 2 ∨ k = 3 ∨ k = 4 := by omega
 rcases hk with rfl | rfl | rfl | rfl | rfl
 ·(have hc16 := nmB_len (h2 (by decide)); have hb := byte_c l 1 (by omega); have ht := text_c (l ++ [1]) c.data.toList (by omega) (by simp; omega); rw [if_pos (by omega)] at ht)
  (have ht0 := h3 (by decide); unfold tmOk at ht0; have htt := of_decide_eq_true ht0)
  (have hl8 := long_c (l ++ [1] ++ encT c) t.toNat (by omega) (by simp only [List.length_append, encT_len, List.length_singleton]; omega))
  (have hv20 := vRt_len (h4 (by decide)); have hpa := putA_w v hv20 hn (l ++ [1] ++ encT c ++ be t.toNat 8) (by simp only [List.length_append, encT_len, List.length_singleton, be_len]; omega))
  have he : l ++ encCh ⟨1, c, t, v⟩ = l ++ [1] ++ encT c ++ be t.toNat 8 ++ encA v := by show l ++ ([1] ++ encT c ++ be t.toNat 8 ++ encA v) = _; simp only [List.append_assoc]
  rw [he]
  refine no_implicit_lambda% (acalls_of tok dok (f := 72) ⟨Tryz.func72, rfl, by kernel_rfl⟩ ?_); refine no_implicit_lambda% (c_start (fun _ h => h) ?_)
  repeat' (first | (refine no_implicit_lambda% (zH ?_)) | (refine no_implicit_lambda% (spl (fun hc => ?_) (fun hc => ?_)) <;> first | exact zG hc | skip) | (refine no_implicit_lambda% (ans ?_)) | (with_reducible first | exact zI | exact zJ) | (refine no_implicit_lambda% (cal [] (h0) ?_ ?_)) | (refine no_implicit_lambda% (cal [0, 1] (hb) ?_ ?_)) | fail)
  refine no_implicit_lambda% (aqs ?_ ?_)
  ·show c.data.toList.length ≤ 4611686018427387904
   omega
  repeat' (first | (refine no_implicit_lambda% (zH ?_)) | (refine no_implicit_lambda% (spl (fun hc => ?_) (fun hc => ?_)) <;> first | exact zG hc | skip) | (refine no_implicit_lambda% (ans ?_)) | (with_reducible first | exact zI | exact zJ) | (refine no_implicit_lambda% (cal [0, 1] (ht) ?_ ?_)) | fail)
  (rw [show IntKind.u64.wrap t = (t.toNat : Int) by rw [IntKind.wrap_u64]; omega])
  repeat' (first | (refine no_implicit_lambda% (zH ?_)) | (refine no_implicit_lambda% (spl (fun hc => ?_) (fun hc => ?_)) <;> first | exact zG hc | skip) | (refine no_implicit_lambda% (ans ?_)) | (with_reducible first | exact zI | exact zJ) | (refine no_implicit_lambda% (cal [0, 1] (hl8) ?_ ?_)) | (refine no_implicit_lambda% (cal [0, 1] (hpa) ?_ ?_)) | fail)
  exact e_ret (H' := wr (l ++ [1] ++ encT c ++ be t.toNat 8 ++ encA v)) (rest := _) rfl ⟨rfl, rfl⟩ permT (LE0 rfl)
 ·(have hc16 := nmB_len (h2 (by decide)); have hb := byte_c l 5 (by omega); have ht := text_c (l ++ [5]) c.data.toList (by omega) (by simp; omega); rw [if_pos (by omega)] at ht)
  (have ht0 := h3 (by decide); unfold tmOk at ht0; have htt := of_decide_eq_true ht0)
  (have hl8 := long_c (l ++ [5] ++ encT c) t.toNat (by omega) (by simp only [List.length_append, encT_len, List.length_singleton]; omega))
  (have hv20 := vRt_len (h4 (by decide)); have hpa := putA_w v hv20 hn (l ++ [5] ++ encT c ++ be t.toNat 8) (by simp only [List.length_append, encT_len, List.length_singleton, be_len]; omega))
  have he : l ++ encCh ⟨5, c, t, v⟩ = l ++ [5] ++ encT c ++ be t.toNat 8 ++ encA v := by show l ++ ([5] ++ encT c ++ be t.toNat 8 ++ encA v) = _; simp only [List.append_assoc]
  rw [he]
  refine no_implicit_lambda% (acalls_of tok dok (f := 72) ⟨Tryz.func72, rfl, by kernel_rfl⟩ ?_); refine no_implicit_lambda% (c_start (fun _ h => h) ?_)
  repeat' (first | (refine no_implicit_lambda% (zH ?_)) | (refine no_implicit_lambda% (spl (fun hc => ?_) (fun hc => ?_)) <;> first | exact zG hc | skip) | (refine no_implicit_lambda% (ans ?_)) | (with_reducible first | exact zI | exact zJ) | (refine no_implicit_lambda% (cal [] (h0) ?_ ?_)) | (refine no_implicit_lambda% (cal [0, 1] (hb) ?_ ?_)) | fail)
  refine no_implicit_lambda% (aqs ?_ ?_)
  ·show c.data.toList.length ≤ 4611686018427387904
   omega
  repeat' (first | (refine no_implicit_lambda% (zH ?_)) | (refine no_implicit_lambda% (spl (fun hc => ?_) (fun hc => ?_)) <;> first | exact zG hc | skip) | (refine no_implicit_lambda% (ans ?_)) | (with_reducible first | exact zI | exact zJ) | (refine no_implicit_lambda% (cal [0, 1] (ht) ?_ ?_)) | fail)
  (rw [show IntKind.u64.wrap t = (t.toNat : Int) by rw [IntKind.wrap_u64]; omega])
  repeat' (first | (refine no_implicit_lambda% (zH ?_)) | (refine no_implicit_lambda% (spl (fun hc => ?_) (fun hc => ?_)) <;> first | exact zG hc | skip) | (refine no_implicit_lambda% (ans ?_)) | (with_reducible first | exact zI | exact zJ) | (refine no_implicit_lambda% (cal [0, 1] (hl8) ?_ ?_)) | (refine no_implicit_lambda% (cal [0, 1] (hpa) ?_ ?_)) | fail)
  exact e_ret (H' := wr (l ++ [5] ++ encT c ++ be t.toNat 8 ++ encA v)) (rest := _) rfl ⟨rfl, rfl⟩ permT (LE0 rfl)
 ·(have hc16 := nmB_len (h2 (by decide)); have hb := byte_c l 2 (by omega); have ht := text_c (l ++ [2]) c.data.toList (by omega) (by simp; omega); rw [if_pos (by omega)] at ht)
  (have ht0 := h3 (by decide); unfold tmOk at ht0; have htt := of_decide_eq_true ht0)
  (have hl8 := long_c (l ++ [2] ++ encT c) t.toNat (by omega) (by simp only [List.length_append, encT_len, List.length_singleton]; omega))
  have he : l ++ encCh ⟨2, c, t, v⟩ = l ++ [2] ++ encT c ++ be t.toNat 8 := by show l ++ ([2] ++ encT c ++ be t.toNat 8) = _; simp only [List.append_assoc]
  rw [he]
  refine no_implicit_lambda% (acalls_of tok dok (f := 72) ⟨Tryz.func72, rfl, by kernel_rfl⟩ ?_); refine no_implicit_lambda% (c_start (fun _ h => h) ?_)
  repeat' (first | (refine no_implicit_lambda% (zH ?_)) | (refine no_implicit_lambda% (spl (fun hc => ?_) (fun hc => ?_)) <;> first | exact zG hc | skip) | (refine no_implicit_lambda% (ans ?_)) | (with_reducible first | exact zI | exact zJ) | (refine no_implicit_lambda% (cal [] (h0) ?_ ?_)) | (refine no_implicit_lambda% (cal [0, 1] (hb) ?_ ?_)) | fail)
  refine no_implicit_lambda% (aqs ?_ ?_)
  ·show c.data.toList.length ≤ 4611686018427387904
   omega
  repeat' (first | (refine no_implicit_lambda% (zH ?_)) | (refine no_implicit_lambda% (spl (fun hc => ?_) (fun hc => ?_)) <;> first | exact zG hc | skip) | (refine no_implicit_lambda% (ans ?_)) | (with_reducible first | exact zI | exact zJ) | (refine no_implicit_lambda% (cal [0, 1] (ht) ?_ ?_)) | fail)
  (rw [show IntKind.u64.wrap t = (t.toNat : Int) by rw [IntKind.wrap_u64]; omega])
  repeat' (first | (refine no_implicit_lambda% (zH ?_)) | (refine no_implicit_lambda% (spl (fun hc => ?_) (fun hc => ?_)) <;> first | exact zG hc | skip) | (refine no_implicit_lambda% (ans ?_)) | (with_reducible first | exact zI | exact zJ) | (refine no_implicit_lambda% (cal [0, 1] (hl8) ?_ ?_)) | fail)
  exact e_ret (H' := wr (l ++ [2] ++ encT c ++ be t.toNat 8)) (rest := _) rfl ⟨rfl, rfl⟩ permT (LE0 rfl)
 ·(have hc16 := nmB_len (h2 (by decide)); have hb := byte_c l 3 (by omega); have ht := text_c (l ++ [3]) c.data.toList (by omega) (by simp; omega); rw [if_pos (by omega)] at ht)
  have he : l ++ encCh ⟨3, c, t, v⟩ = l ++ [3] ++ encT c := by show l ++ ([3] ++ encT c) = _; simp only [List.append_assoc]
  rw [he]
  refine no_implicit_lambda% (acalls_of tok dok (f := 72) ⟨Tryz.func72, rfl, by kernel_rfl⟩ ?_); refine no_implicit_lambda% (c_start (fun _ h => h) ?_)
  repeat' (first | (refine no_implicit_lambda% (zH ?_)) | (refine no_implicit_lambda% (spl (fun hc => ?_) (fun hc => ?_)) <;> first | exact zG hc | skip) | (refine no_implicit_lambda% (ans ?_)) | (with_reducible first | exact zI | exact zJ) | (refine no_implicit_lambda% (cal [] (h0) ?_ ?_)) | (refine no_implicit_lambda% (cal [0, 1] (hb) ?_ ?_)) | fail)
  refine no_implicit_lambda% (aqs ?_ ?_)
  ·show c.data.toList.length ≤ 4611686018427387904
   omega
  repeat' (first | (refine no_implicit_lambda% (zH ?_)) | (refine no_implicit_lambda% (spl (fun hc => ?_) (fun hc => ?_)) <;> first | exact zG hc | skip) | (refine no_implicit_lambda% (ans ?_)) | (with_reducible first | exact zI | exact zJ) | (refine no_implicit_lambda% (cal [0, 1] (ht) ?_ ?_)) | fail)
  exact e_ret (H' := wr (l ++ [3] ++ encT c)) (rest := _) rfl ⟨rfl, rfl⟩ permT (LE0 rfl)
 ·have hb := byte_c l 4 (by omega)
  refine no_implicit_lambda% (acalls_of tok dok (f := 72) ⟨Tryz.func72, rfl, by kernel_rfl⟩ ?_); refine no_implicit_lambda% (c_start (fun _ h => h) ?_)
  repeat' (first | (refine no_implicit_lambda% (zH ?_)) | (refine no_implicit_lambda% (spl (fun hc => ?_) (fun hc => ?_)) <;> first | exact zG hc | skip) | (refine no_implicit_lambda% (ans ?_)) | (with_reducible first | exact zI | exact zJ) | (refine no_implicit_lambda% (cal [] (h0) ?_ ?_)) | (refine no_implicit_lambda% (cal [0, 1] (hb) ?_ ?_)) | fail)
  exact e_ret (H' := wr (l ++ [4])) (rest := _) rfl ⟨rfl, rfl⟩ permT (LE0 rfl)
theorem app3 (p : List UInt8) (n : Nat) (h : n < 256) : [] ++ p.map brow ++ [[AV.v (.int .u8 (IntKind.u8.wrap (n : Int)))]] = (p ++ [UInt8.ofNat n]).map brow := by
 rw [show IntKind.u8.wrap (n : Int) = ((UInt8.ofNat n).toNat : Int) from u8len n]
 simp [brow]
end Go.Proofs.YtncffhgoopdfgaaGreat
namespace Go.Proofs.YtncffhgoopdfgaaGreat
open Go.Am
set_option maxRecDepth 100000
theorem broOk (l : List UInt8) : RowsOk 1 (l.map brow) := .map (f := brow) (fun _ => ⟨rfl, rfl, rfl⟩) l
theorem map_snoc (l : List UInt8) (x : Nat) : l.map brow ++ [[AV.v (.int .u8 ((UInt8.ofNat x).toNat : Int))]] = (l ++ [UInt8.ofNat x]).map brow := by rw [List.map_append]; rfl
def bA (id : Nat) (l : List UInt8) (cp : Nat) : Heap := [(id, .seq (l.map brow) ((cp - l.length) * 1))]
abbrev bAR (id : Nat) (l : List UInt8) (out : AOut) (H' : Heap) : Prop := ∃ cp, l.length ≤ cp ∧ cp ≤ maxLen ∧ out = .ret (.arr id 0 l.length cp) ∧ H' = bA id l cp
theorem refNumA_c (b : List UInt8) (hb : 0 < b.length) (x : Nat) (hx : x < 4294967296) (h : b.length < 1073741824) : ACalls Tryz.prog 56 0 2 [.list (b.map brow) .free, .v (.int .u32 x)] [] (bAR 1 (b ++ be x 4)) := by
 have hbe := be_len x 4
 refine no_implicit_lambda% (acalls_of tok dok (f := 56) ⟨Tryz.func56, rfl, by kernel_rfl⟩ ?_); refine no_implicit_lambda% (c_start (fun _ h => h) ?_)
 refine no_implicit_lambda% (awdz ?_)
 ((with_reducible refine no_implicit_lambda% (zC ?_)); refine no_implicit_lambda% (a_appS0 (sz := 1) (B := 1) (m2 := b.length) rfl rfl rfl rfl rfl rfl rfl rfl rfl (by first | exact .inl rfl | exact .inr ⟨_, _, rfl⟩) rfl rfl rfl (broOk b) (by first | omega | (simp; done) | (simp; omega)) (by first | omega | (simp; omega)) (by first | rfl | (exact List.length_map ..) | (simp; done)) ?_))
 intro cp h1 h2
 refine no_implicit_lambda% (akc ?_)
 refine no_implicit_lambda% (awdz ?_)
 rw [oct_of x 24 (min (Int.toNat 24) IntKind.u32.bits) rfl, oct_of x 16 (min (Int.toNat 16) IntKind.u32.bits) rfl, oct_of x 8 (min (Int.toNat 8) IntKind.u32.bits) rfl, oct_0]
 ((with_reducible refine no_implicit_lambda% (zC ?_)); refine no_implicit_lambda% (a_appS (sz := 1) (B := 1) (m2 := (b ++ be x 4).length) (rows3 := (b ++ be x 4).map brow) rfl rfl rfl rfl rfl rfl rfl rfl rfl rfl rfl (fun _ h => h) rfl rfl (broOk b) (broOk (be x 4)) (by first | rfl | (exact List.length_map ..) | (simp; done) | (simp; omega)) rfl (by first | omega | (simp; omega)) (by first | rfl | (simp; done) | (simp; omega)) (by first | rfl | (exact map_snoc _ _) | (rw [List.map_append]; rfl) | (simp; done)) ?_))
 intro cp' h1' h2'
 refine no_implicit_lambda% (akc ?_)
 refine no_implicit_lambda% (awdz ?_)
 exact e_ret (H' := bA 1 (b ++ be x 4) cp') (rest := []) rfl ⟨cp', h1', h2', rfl, rfl⟩ (.of_eq rfl) (LE0 rfl)
theorem refTextA_c (b x : List UInt8) (hb : 0 < b.length) (h : b.length < 1073741000) (hx : x.length < 1048577) : ACalls Tryz.prog 58 0 20 [.list (b.map brow) .free, .list (x.map brow) .free] [] (bAR 2 (b ++ (be x.length 4 ++ x))) := by
 have hbe := be_len x.length 4
 refine no_implicit_lambda% (acalls_of tok dok (f := 58) ⟨Tryz.func58, rfl, by kernel_rfl⟩ ?_); refine no_implicit_lambda% (c_start (fun _ h => h) ?_)
 refine no_implicit_lambda% (awdz ?_)
 rw [show IntKind.u32.wrap ((x.map brow).length : Int) = x.length by rw [IntKind.wrap_u32, List.length_map]; omega]
 refine no_implicit_lambda% (cal [] (refNumA_c b hb x.length (by omega) (by omega)) ?_ ?_)
 ·intro xx H' hh
  obtain ⟨cp, c1, c2, h', rfl⟩ := hh
  cases h'
  first | (refine no_implicit_lambda% (akc ?_)) | (refine no_implicit_lambda% (aec ?_))
  refine no_implicit_lambda% (awdz ?_)
  ((with_reducible refine no_implicit_lambda% (zC ?_)); refine no_implicit_lambda% (a_appS (sz := 1) (B := 1) (m2 := (b ++ (be x.length 4 ++ x)).length) (rows3 := (b ++ (be x.length 4 ++ x)).map brow) rfl rfl rfl rfl rfl rfl rfl rfl rfl rfl rfl (fun _ h => h) rfl rfl (broOk (b ++ be x.length 4)) (broOk x) (by first | rfl | (exact List.length_map ..) | (simp; done) | (simp; omega)) rfl (by first | omega | (simp; omega)) (by first | rfl | (simp; done) | (simp; omega)) (by first | rfl | (exact map_snoc _ _) | (rw [List.map_append]; rfl) | (simp; done)) ?_))
  intro cp' h1' h2'
  refine no_implicit_lambda% (akc ?_)
  refine no_implicit_lambda% (awdz ?_)
  exact e_ret (H' := bA 2 (b ++ (be x.length 4 ++ x)) cp') (rest := []) rfl ⟨cp', h1', h2', rfl, rfl⟩ (.of_eq rfl) (LE0 rfl)
 ·intro x H' hh
  obtain ⟨_, _, _, h', _⟩ := hh
  cases h'
theorem u8_any (z : Int) : ∃ u : UInt8, IntKind.u8.wrap z = (u.toNat : Int) := by
 refine ⟨UInt8.ofNat (IntKind.u8.wrap z).toNat, ?_⟩
 have h1 : 0 ≤ IntKind.u8.wrap z ∧ IntKind.u8.wrap z < 256 := by rw [IntKind.wrap_u8]; omega
 generalize IntKind.u8.wrap z = x at *
 rw [UInt8.toNat_ofNat_of_lt' (by show x.toNat < 256; omega)]
 omega
theorem bAR_ren {P : Program} {f : FuncId} {top : Nat} {args : List AV} {l : List UInt8} (h : ACalls P f 0 top args [] fun out H' => ∃ id, id < top ∧ bAR id l out H') : ACalls P f 0 1 args [] (bAR 0 l) :=
 h.ren (Nat.zero_le _) fun out H' hh => by
  obtain ⟨id, hid, cp, c1, c2, rfl, rfl⟩ := hh
  exact ⟨[id], .ret (.arr 0 0 l.length cp), bA 0 l cp, by simp, by simpa using hid, fun i h => by omega, Nat.le_refl _, by simp [AOut.ren, AV.ren, rn], by simp [bA, renH, Res.ren, rn], cp, c1, c2, rfl, rfl⟩
theorem bAR_list {P : Program} {f : FuncId} {top : Nat} {args : List AV} {l : List UInt8} {id : Nat} (h : ACalls P f 0 top args [] (bAR id l)) : ACalls P f 0 top args [] fun out H' => out = .ret (.list (l.map brow) .free) ∧ H' = [] :=
 h.conv (Nat.zero_le _) (Nat.le_refl _) (fun x H' hh => by
  obtain ⟨cp, c1, c2, h', rfl⟩ := hh
  cases h'
  exact ⟨.list (l.map brow) .free, [], top, Nat.le_refl _, (Conv.freezeS (j := 0) (sz := 1) rfl (.refl _) (broOk l) (List.length_map ..)).toN 0, fun rows h => (by cases h), rfl, rfl⟩) fun x H' hh => by
  obtain ⟨_, _, _, h', _⟩ := hh
  cases h'
end Go.Proofs.YtncffhgoopdfgaaGreat
namespace Go.Proofs.YtncffhgoopdfgaaGreat
open Go.Am
set_option maxRecDepth 100000
theorem refNumO_c (b : List UInt8) (hb : 0 < b.length) (x : Nat) (hx : x < 4294967296) (h : b.length < 1073741824) : ACalls Tryz.prog 56 0 1 [.list (b.map brow) .free, .v (.int .u32 x)] [] (bAR 0 (b ++ be x 4)) := bAR_ren ((refNumA_c b hb x hx h).mono fun _ _ h => ⟨1, by decide, h⟩)
theorem refTextO_c (b x : List UInt8) (hb : 0 < b.length) (h : b.length < 1073741000) (hx : x.length < 1048577) : ACalls Tryz.prog 58 0 1 [.list (b.map brow) .free, .list (x.map brow) .free] [] (bAR 0 (b ++ (be x.length 4 ++ x))) := bAR_ren ((refTextA_c b x hb h hx).mono fun _ _ h => ⟨2, by decide, h⟩)
theorem refLongO_c (b : List UInt8) (hb : 0 < b.length) (x : Nat) (hx : x < 18446744073709551616) (h : b.length < 1073741000) : ACalls Tryz.prog 76 0 1 [.list (b.map brow) .free, .v (.int .u64 x)] [] (bAR 0 (b ++ be x 8)) := by
 refine bAR_ren (top := 10) ?_
 refine no_implicit_lambda% (acalls_of tok dok (f := 76) ⟨Tryz.func76, rfl, by kernel_rfl⟩ ?_); refine no_implicit_lambda% (c_start (fun _ h => h) ?_)
 refine no_implicit_lambda% (awd ?_)
 rw [hi32 x (min (Int.toNat 32) IntKind.u64.bits) hx rfl]
 refine no_implicit_lambda% (calw [] (refNum_c b (x / 4294967296) (by omega) (by omega)) ?_ ?_)
 ·refine no_implicit_lambda% (ret1 ?_); first | (refine no_implicit_lambda% (akc ?_)) | (refine no_implicit_lambda% (aec ?_))
  refine no_implicit_lambda% (awd ?_)
  rw [lo32]
  have h2 := refNumO_c (b ++ be (x / 4294967296) 4) (by simp; omega) (x % 4294967296) (by omega) (by simp [be_len]; omega)
  rw [List.append_assoc, be_split x] at h2
  ((refine no_implicit_lambda% (calw [] (h2) ?_ ?_)); rotate_left; (intro x H' hh; obtain ⟨_, _, _, h', _⟩ := hh; cases h'); intro xx H' hh; obtain ⟨cp, c1, c2, h', rfl⟩ := hh; cases h'; first | (refine no_implicit_lambda% (akc ?_)) | (refine no_implicit_lambda% (aec ?_)))
  refine no_implicit_lambda% (awd ?_)
  exact e_ret (H' := bA 1 (b ++ be x 8) cp) (rest := tokH 0 (b ++ be (x / 4294967296) 4).length) rfl ⟨1, by decide, cp, c1, c2, rfl, rfl⟩ permT (LE0 rfl)
 ·first | (exact zI) | (exact zJ)
theorem refFloatO_c (b : List UInt8) (hb : 0 < b.length) (x : Nat) (hx : x < 18446744073709551616) (h : b.length < 1073741000) : ACalls Tryz.prog 149 0 1 [.list (b.map brow) .free, .v (.float .f64 x)] [] (bAR 0 (b ++ be (canonB x) 8)) := by
 refine bAR_ren (top := 10) ?_
 refine no_implicit_lambda% (acalls_of tok dok (f := 149) ⟨Tryz.func149, rfl, by kernel_rfl⟩ ?_); refine no_implicit_lambda% (c_start (fun _ h => h) ?_)
 refine no_implicit_lambda% (awd ?_)
 refine no_implicit_lambda% (cal [] (refBits_c x hx) ?_ ?_)
 ·refine no_implicit_lambda% (ret1 ?_); first | (refine no_implicit_lambda% (akc ?_)) | (refine no_implicit_lambda% (aec ?_))
  refine no_implicit_lambda% (awd ?_)
  ((refine no_implicit_lambda% (cal [] (refLongO_c b hb (canonB x) (by unfold canonB; split <;> omega) h) ?_ ?_)); rotate_left; (intro x H' hh; obtain ⟨_, _, _, h', _⟩ := hh; cases h'); intro xx H' hh; obtain ⟨cp, c1, c2, h', rfl⟩ := hh; cases h'; first | (refine no_implicit_lambda% (akc ?_)) | (refine no_implicit_lambda% (aec ?_)))
  refine no_implicit_lambda% (awd ?_)
  exact e_ret (H' := bA 0 (b ++ be (canonB x) 8) cp) (rest := []) rfl ⟨0, by decide, cp, c1, c2, rfl, rfl⟩ permT (LE0 rfl)
 ·first | (exact zI) | (exact zJ)
theorem refPutO_c (p : List UInt8) (v : Va) (hp : p.length < 100000000) (hr : vRt v = true) (hn : v.n < 18446744073709551616) : ACalls Tryz.prog 77 0 1 [.list (p.map brow) .free, vav v] [] (bAR 0 (p ++ encA v)) := by
 have hb20 := vRt_len hr
 have hk : v.kind = 1 ∨ v.kind = 2 := by unfold vRt at hr; simp at hr; omega
 obtain ⟨kd, b, n⟩ := v
 simp only at hn hk hb20
 have r1 : ∀ row ∈ p.map brow, row.length = 1 := fun row h => by obtain ⟨_, _, rfl⟩ := List.mem_map.1 h; rfl
 have b1 : (p.map brow).length < 100000000 := by rw [List.length_map]; exact hp
 have b2 : ([] ++ p.map brow).length < 100000000 := b1
 refine bAR_ren (top := 20) ?_
 rcases hk with rfl | rfl
 ·replace hb20 := hb20 rfl
  have ee : p ++ encA ⟨1, b, n⟩ = p ++ [1] ++ (be b.length 4 ++ b) := by simp [encA]
  rw [ee]
  refine no_implicit_lambda% (acalls_of tok dok (f := 77) ⟨Tryz.func77, rfl, by kernel_rfl⟩ ?_); refine no_implicit_lambda% (c_start (fun _ h => h) ?_)
  repeat' (first | (refine no_implicit_lambda% (zH ?_)) | (refine no_implicit_lambda% (spl (fun hc => ?_) (fun hc => ?_)) <;> first | exact zG hc | skip) | (refine no_implicit_lambda% (ans ?_)) | (with_reducible first | exact zI | exact zJ))
  rw [show [] ++ p.map brow ++ [[AV.v (.int .u8 1)]] = (p ++ [1]).map brow by simp [brow]]
  ((refine no_implicit_lambda% (calw [] (refTextO_c (p ++ [1]) b (by simp) (by simp; omega) (by omega)) ?_ ?_)); rotate_left; (intro x H' hh; obtain ⟨_, _, _, h', _⟩ := hh; cases h'); intro xx H' hh; obtain ⟨cp, c1, c2, h', rfl⟩ := hh; cases h'; first | (refine no_implicit_lambda% (akc ?_)) | (refine no_implicit_lambda% (aec ?_)))
  refine no_implicit_lambda% (awd ?_)
  exact e_ret (H' := bA 2 (p ++ [1] ++ (be b.length 4 ++ b)) cp) (rest := _) rfl ⟨2, by decide, cp, c1, c2, rfl, rfl⟩ permT (LE0 rfl)
 ·have ee : p ++ encA ⟨2, b, n⟩ = p ++ [2] ++ be (canonB n) 8 := by simp [encA]
  rw [ee]
  refine no_implicit_lambda% (acalls_of tok dok (f := 77) ⟨Tryz.func77, rfl, by kernel_rfl⟩ ?_); refine no_implicit_lambda% (c_start (fun _ h => h) ?_)
  repeat' (first | (refine no_implicit_lambda% (zH ?_)) | (refine no_implicit_lambda% (spl (fun hc => ?_) (fun hc => ?_)) <;> first | exact zG hc | skip) | (refine no_implicit_lambda% (ans ?_)) | (with_reducible first | exact zI | exact zJ))
  rw [show [] ++ p.map brow ++ [[AV.v (.int .u8 2)]] = (p ++ [2]).map brow by simp [brow]]
  ((refine no_implicit_lambda% (calw [] (refFloatO_c (p ++ [2]) (by simp) n hn (by simp; omega)) ?_ ?_)); rotate_left; (intro x H' hh; obtain ⟨_, _, _, h', _⟩ := hh; cases h'); intro xx H' hh; obtain ⟨cp, c1, c2, h', rfl⟩ := hh; cases h'; first | (refine no_implicit_lambda% (akc ?_)) | (refine no_implicit_lambda% (aec ?_)))
  refine no_implicit_lambda% (awd ?_)
  exact e_ret (H' := bA 2 (p ++ [2] ++ be (canonB n) 8) cp) (rest := _) rfl ⟨2, by decide, cp, c1, c2, rfl, rfl⟩ permT (LE0 rfl)
end Go.Proofs.YtncffhgoopdfgaaGreat
namespace Go.Proofs.YtncffhgoopdfgaaGreat
open Go.Am
set_option maxRecDepth 100000
end Go.Proofs.YtncffhgoopdfgaaGreat
namespace Go.Proofs.YtncffhgoopdfgaaGreat
open Go.Am
set_option maxRecDepth 100000
structure Cd where
 has : Bool
 want : Bool
 c : ByteArray
 v : Va
def cdrow (d : Cd) : List AV := [.v (.bool d.has), .v (.bool d.want), .v (.string d.c)] ++ vrowV d.v
end Go.Proofs.YtncffhgoopdfgaaGreat
namespace Go.Proofs.YtncffhgoopdfgaaGreat
open Go.Am
set_option maxRecDepth 100000
def rcB (d : Cd) : Bool := !d.has || nmB d.c && (!d.want || vRt d.v)
def encD (d : Cd) : List UInt8 := if d.has then (if d.want then [2] ++ encT d.c ++ encA d.v else [1] ++ encT d.c) else [0]
theorem rcond_c (d : Cd) : ACalls Tryz.prog 74 0 50 [.agg (cdrow d)] [] (fun out H' => out = .ret (.v (.bool (rcB d))) ∧ H' = []) := by
 have h1 := rname_c d.c
 have h2 : ACalls Tryz.prog 133 0 10 [vav d.v] [] (fun out H' => out = .ret (.v (.bool (vRt d.v))) ∧ H' = []) := refRight_c d.v
 obtain ⟨has, want, c, v⟩ := d
 unfold rcB
 dsimp only at *
 generalize nmB c = n at *
 generalize vRt v = r at *
 cases has <;> cases want <;> cases n <;> cases r
 all_goals
  refine no_implicit_lambda% (acalls_of tok dok (f := 74) ⟨Tryz.func74, rfl, by kernel_rfl⟩ ?_); refine no_implicit_lambda% (c_start (fun _ h => h) ?_)
  repeat' (first | (refine no_implicit_lambda% (zH ?_)) | (refine no_implicit_lambda% (spl (fun hc => ?_) (fun hc => ?_)) <;> first | exact zG hc | skip) | (refine no_implicit_lambda% (ans ?_)) | (with_reducible first | exact zI | exact zJ) | (refine no_implicit_lambda% (cal [] (h1) ?_ ?_)) | (refine no_implicit_lambda% (cal [] (h2) ?_ ?_)) | fail)
  exact e_ret (H' := []) (rest := _) rfl ⟨rfl, rfl⟩ permT (LE0 rfl)
theorem encD_len {d : Cd} (h : rcB d = true) : (encD d).length ≤ 46 := by
 obtain ⟨has, want, c, v⟩ := d
 unfold rcB at h
 unfold encD
 dsimp only at *
 cases has
 ·simp
 ·cases want
  ·simp at h
   have := nmB_len h
   simp only [if_true, Bool.false_eq_true, if_false, List.length_append, encT_len, List.length_singleton]; omega
  ·simp at h
   have := nmB_len h.1
   have := encA_lw (vRt_len h.2)
   simp only [if_true, List.length_append, encT_len, List.length_singleton]; omega
set_option maxHeartbeats 6400000 in
theorem wcond_c (d : Cd) (l : List UInt8) (hd : rcB d = true) (hn : d.v.n < 18446744073709551616) (hl : l.length < 10000000) : ACalls Tryz.prog 75 2 200 [.ptr 0 0, .agg (cdrow d)] (wr l) (fun out H' => out = .ret (.tuple []) ∧ H' = wr (l ++ encD d)) := by
 obtain ⟨has, want, c, v⟩ := d
 unfold rcB at hd
 dsimp only at *
 cases has
 ·have hb := byte_c l 0 (by omega)
  refine no_implicit_lambda% (acalls_of tok dok (f := 75) ⟨Tryz.func75, rfl, by kernel_rfl⟩ ?_); refine no_implicit_lambda% (c_start (fun _ h => h) ?_)
  repeat' (first | (refine no_implicit_lambda% (zH ?_)) | (refine no_implicit_lambda% (spl (fun hc => ?_) (fun hc => ?_)) <;> first | exact zG hc | skip) | (refine no_implicit_lambda% (ans ?_)) | (with_reducible first | exact zI | exact zJ) | (refine no_implicit_lambda% (cal [0, 1] (hb) ?_ ?_)) | fail)
  exact e_ret (H' := wr (l ++ [0])) (rest := _) rfl ⟨rfl, rfl⟩ permT (LE0 rfl)
 ·cases want
  ·simp at hd
   have hc16 := nmB_len hd
   have hb := byte_c l 1 (by omega)
   have ht := text_c (l ++ [1]) c.data.toList (by omega) (by simp; omega)
   rw [if_pos (by omega)] at ht
   have he : l ++ encD ⟨true, false, c, v⟩ = l ++ [1] ++ encT c := by show l ++ ([1] ++ encT c) = _; simp only [List.append_assoc]
   rw [he]
   refine no_implicit_lambda% (acalls_of tok dok (f := 75) ⟨Tryz.func75, rfl, by kernel_rfl⟩ ?_); refine no_implicit_lambda% (c_start (fun _ h => h) ?_)
   repeat' (first | (refine no_implicit_lambda% (zH ?_)) | (refine no_implicit_lambda% (spl (fun hc => ?_) (fun hc => ?_)) <;> first | exact zG hc | skip) | (refine no_implicit_lambda% (ans ?_)) | (with_reducible first | exact zI | exact zJ) | (refine no_implicit_lambda% (cal [0, 1] (hb) ?_ ?_)) | fail)
   refine no_implicit_lambda% (aqs ?_ ?_)
   ·show c.data.toList.length ≤ 4611686018427387904
    omega
   repeat' (first | (refine no_implicit_lambda% (zH ?_)) | (refine no_implicit_lambda% (spl (fun hc => ?_) (fun hc => ?_)) <;> first | exact zG hc | skip) | (refine no_implicit_lambda% (ans ?_)) | (with_reducible first | exact zI | exact zJ) | (refine no_implicit_lambda% (cal [0, 1] (ht) ?_ ?_)) | fail)
   exact e_ret (H' := wr (l ++ [1] ++ encT c)) (rest := _) rfl ⟨rfl, rfl⟩ permT (LE0 rfl)
  ·simp at hd
   have hc16 := nmB_len hd.1
   have hv20 := vRt_len hd.2
   have hb := byte_c l 2 (by omega)
   have ht := text_c (l ++ [2]) c.data.toList (by omega) (by simp; omega)
   rw [if_pos (by omega)] at ht
   have hpa := putA_w v hv20 hn (l ++ [2] ++ encT c) (by simp only [List.length_append, encT_len, List.length_singleton]; omega)
   have he : l ++ encD ⟨true, true, c, v⟩ = l ++ [2] ++ encT c ++ encA v := by show l ++ ([2] ++ encT c ++ encA v) = _; simp only [List.append_assoc]
   rw [he]
   refine no_implicit_lambda% (acalls_of tok dok (f := 75) ⟨Tryz.func75, rfl, by kernel_rfl⟩ ?_); refine no_implicit_lambda% (c_start (fun _ h => h) ?_)
   repeat' (first | (refine no_implicit_lambda% (zH ?_)) | (refine no_implicit_lambda% (spl (fun hc => ?_) (fun hc => ?_)) <;> first | exact zG hc | skip) | (refine no_implicit_lambda% (ans ?_)) | (with_reducible first | exact zI | exact zJ) | (refine no_implicit_lambda% (cal [0, 1] (hb) ?_ ?_)) | fail)
   refine no_implicit_lambda% (aqs ?_ ?_)
   ·show c.data.toList.length ≤ 4611686018427387904
    omega
   repeat' (first | (refine no_implicit_lambda% (zH ?_)) | (refine no_implicit_lambda% (spl (fun hc => ?_) (fun hc => ?_)) <;> first | exact zG hc | skip) | (refine no_implicit_lambda% (ans ?_)) | (with_reducible first | exact zI | exact zJ) | (refine no_implicit_lambda% (cal [0, 1] (ht) ?_ ?_)) | (refine no_implicit_lambda% (cal [0, 1] (hpa) ?_ ?_)) | fail)
   exact e_ret (H' := wr (l ++ [2] ++ encT c ++ encA v)) (rest := _) rfl ⟨rfl, rfl⟩ permT (LE0 rfl)
set_option maxHeartbeats 6400000 in
theorem rwcond_c (d : Cd) (p : List UInt8) (hd : rcB d = true) (hn : d.v.n < 18446744073709551616) (hp : p.length < 10000000) : ACalls Tryz.prog 23 0 300 [.list (p.map brow) .free, .agg (cdrow d)] [] (fun out H' => out = .ret (.list ((p ++ encD d).map brow) .free) ∧ H' = []) := by
 obtain ⟨has, want, c, v⟩ := d
 unfold rcB at hd
 dsimp only at *
 have r1 : ∀ row ∈ p.map brow, row.length = 1 := fun row h => by obtain ⟨_, _, rfl⟩ := List.mem_map.1 h; rfl
 have b1 : (p.map brow).length < 10000000 := by rw [List.length_map]; exact hp
 have b2 : ([] ++ p.map brow).length < 10000000 := b1
 have app0 : ∀ n : UInt8, [] ++ p.map brow ++ [[AV.v (.int .u8 n.toNat)]] = (p ++ [n]).map brow := fun n => by simp [brow]
 cases has
 ·refine no_implicit_lambda% (acalls_of tok dok (f := 23) ⟨Tryz.func23, rfl, by kernel_rfl⟩ ?_); refine no_implicit_lambda% (c_start (fun _ h => h) ?_)
  repeat' (first | (refine no_implicit_lambda% (zH ?_)) | (refine no_implicit_lambda% (splv (fun hc => ?_) (fun hc => ?_)) <;> first | exact zG hc | skip) | (refine no_implicit_lambda% (ans ?_)) | (with_reducible first | exact zI | exact zJ))
  rw [show [] ++ p.map brow ++ [[AV.v (.int .u8 0)]] = (p ++ [0]).map brow by simp [brow]]
  exact e_ret_to (H' := []) (rest := _) (.freeSlot 4 rfl) rfl ⟨rfl, rfl⟩ (.of_eq rfl) (LE0 rfl)
 ·cases want
  ·simp at hd
   have hc16 := nmB_len hd
   have ht := refText_c (p ++ [1]) c.data.toList (by simp; omega) (by omega)
   have he : p ++ encD ⟨true, false, c, v⟩ = p ++ [1] ++ encT c := by show p ++ ([1] ++ encT c) = _; simp only [List.append_assoc]
   rw [he]
   refine no_implicit_lambda% (acalls_of tok dok (f := 23) ⟨Tryz.func23, rfl, by kernel_rfl⟩ ?_); refine no_implicit_lambda% (c_start (fun _ h => h) ?_)
   repeat' (first | (refine no_implicit_lambda% (zH ?_)) | (refine no_implicit_lambda% (splv (fun hc => ?_) (fun hc => ?_)) <;> first | exact zG hc | skip) | (refine no_implicit_lambda% (ans ?_)) | (with_reducible first | exact zI | exact zJ))
   ((with_reducible refine no_implicit_lambda% (is_ev ?_)); refine no_implicit_lambda% (v_qS rfl rfl rfl rfl (fun _ h => h) (fun _ h => h) ?_ ?_))
   ·show c.data.toList.length ≤ 4611686018427387904
    omega
   repeat' (first | (refine no_implicit_lambda% (zH ?_)) | (refine no_implicit_lambda% (splv (fun hc => ?_) (fun hc => ?_)) <;> first | exact zG hc | skip) | (refine no_implicit_lambda% (ans ?_)) | (with_reducible first | exact zI | exact zJ))
   rw [show [] ++ p.map brow ++ [[AV.v (.int .u8 1)]] = (p ++ [1]).map brow by simp [brow]]
   (refine no_implicit_lambda% (calw [] (ht) ?_ ?_))
   rotate_left
   ·first | (exact zI) | (exact zJ)
   refine no_implicit_lambda% (ret1 ?_); first | (refine no_implicit_lambda% (akc ?_)) | (refine no_implicit_lambda% (aec ?_))
   repeat' (first | (refine no_implicit_lambda% (zH ?_)) | (refine no_implicit_lambda% (splv (fun hc => ?_) (fun hc => ?_)) <;> first | exact zG hc | skip) | (refine no_implicit_lambda% (ans ?_)) | (with_reducible first | exact zI | exact zJ))
   exact e_ret_to (H' := []) (rest := _) (.freeSlot 4 rfl) rfl ⟨rfl, rfl⟩ (.of_eq rfl) (LE0 rfl)
  ·simp at hd
   have hc16 := nmB_len hd.1
   have hv20 := vRt_len hd.2
   have ht := refText_c (p ++ [2]) c.data.toList (by simp; omega) (by omega)
   have hpa := refPutP_w (p ++ [2] ++ encT c) v (by simp only [List.length_append, encT_len, List.length_singleton]; omega) hv20 hn
   have he : p ++ encD ⟨true, true, c, v⟩ = p ++ [2] ++ encT c ++ encA v := by show p ++ ([2] ++ encT c ++ encA v) = _; simp only [List.append_assoc]
   rw [he]
   refine no_implicit_lambda% (acalls_of tok dok (f := 23) ⟨Tryz.func23, rfl, by kernel_rfl⟩ ?_); refine no_implicit_lambda% (c_start (fun _ h => h) ?_)
   repeat' (first | (refine no_implicit_lambda% (zH ?_)) | (refine no_implicit_lambda% (splv (fun hc => ?_) (fun hc => ?_)) <;> first | exact zG hc | skip) | (refine no_implicit_lambda% (ans ?_)) | (with_reducible first | exact zI | exact zJ))
   ((with_reducible refine no_implicit_lambda% (is_ev ?_)); refine no_implicit_lambda% (v_qS rfl rfl rfl rfl (fun _ h => h) (fun _ h => h) ?_ ?_))
   ·show c.data.toList.length ≤ 4611686018427387904
    omega
   repeat' (first | (refine no_implicit_lambda% (zH ?_)) | (refine no_implicit_lambda% (splv (fun hc => ?_) (fun hc => ?_)) <;> first | exact zG hc | skip) | (refine no_implicit_lambda% (ans ?_)) | (with_reducible first | exact zI | exact zJ))
   rw [show [] ++ p.map brow ++ [[AV.v (.int .u8 2)]] = (p ++ [2]).map brow by simp [brow]]
   (refine no_implicit_lambda% (calw [] (ht) ?_ ?_))
   rotate_left
   ·first | (exact zI) | (exact zJ)
   refine no_implicit_lambda% (ret1 ?_); first | (refine no_implicit_lambda% (akc ?_)) | (refine no_implicit_lambda% (aec ?_))
   repeat' (first | (refine no_implicit_lambda% (zH ?_)) | (refine no_implicit_lambda% (splv (fun hc => ?_) (fun hc => ?_)) <;> first | exact zG hc | skip) | (refine no_implicit_lambda% (ans ?_)) | (with_reducible first | exact zI | exact zJ))
   (refine no_implicit_lambda% (calw [] (hpa) ?_ ?_))
   rotate_left
   ·first | (exact zI) | (exact zJ)
   refine no_implicit_lambda% (ret1 ?_); first | (refine no_implicit_lambda% (akc ?_)) | (refine no_implicit_lambda% (aec ?_))
   repeat' (first | (refine no_implicit_lambda% (zH ?_)) | (refine no_implicit_lambda% (splv (fun hc => ?_) (fun hc => ?_)) <;> first | exact zG hc | skip) | (refine no_implicit_lambda% (ans ?_)) | (with_reducible first | exact zI | exact zJ))
   exact e_ret (H' := []) (rest := _) rfl ⟨rfl, rfl⟩ permT (LE0 rfl)
end Go.Proofs.YtncffhgoopdfgaaGreat
namespace Go.Proofs.YtncffhgoopdfgaaGreat
open Go.Am
set_option maxRecDepth 100000
theorem cwx5 {l : List Cw} {i : Nat} {t : Cw} (h : l[i]? = some t) : 0 ≤ (i : Int) ∧ (l.map cwrow)[(i : Int).toNat]? = some (cwrow t) ∧ (cwrow t).length = 7 := ⟨Int.natCast_nonneg _, by rw [Int.toNat_natCast, List.getElem?_map, h]; rfl, rfl⟩
theorem chOk6 (l : List Ch) : ∀ row ∈ l.map chrow, row.length = 6 := fun row h => by obtain ⟨_, _, rfl⟩ := List.mem_map.1 h; rfl
def chsSt (l : List Cw) (k : Nat) (xs : List Ch) (i : Nat) : ASt := ⟨([.list (l.map cwrow) .free, .v (.int .i64 k), .dead, .dead, .dead, .list (xs.map chrow) (.tok 0), .v (.int .i64 i)] ++ List.replicate 20 .dead), [(0, .tok 6 xs.length)], 1⟩
set_option maxHeartbeats 3200000 in
theorem changes_c (l : List Cw) (k : Nat) (hk : k ≤ 20) (hl : ∀ a ∈ l, CwOk a) (h : l.length ≤ 9223372036854775807) : ACalls Tryz.prog 29 0 9000 [.list (l.map cwrow) .free, .v (.int .i64 k)] [] (fun out H' => ∃ xs : List Ch, (xs.length ≤ k ∧ ∀ x ∈ xs, ChOk x) ∧ out = .ret (.list (xs.map chrow) .free) ∧ H' = []) := by
 refine no_implicit_lambda% (acalls_of tok dok (f := 29) ⟨Tryz.func29, rfl, by kernel_rfl⟩ ?_); refine no_implicit_lambda% (c_start (fun _ h => h) ?_)
 repeat' (first | (refine no_implicit_lambda% (zH ?_)) | (refine no_implicit_lambda% (spl (fun hc => ?_) (fun hc => ?_)) <;> first | exact zG hc | skip) | (refine no_implicit_lambda% (ans ?_)) | (with_reducible first | exact zI | exact zJ))
 refine c_loop2 (chsSt l k) (fun xs i => i ≤ l.length ∧ i ≤ k ∧ xs.length = i ∧ ∀ x ∈ xs, ChOk x) (fun _ i => l.length - i) [] 0 ⟨Nat.zero_le _, Nat.zero_le _, rfl, fun x hx => by cases hx⟩ ((Conv.tokSlot (j := 5) (sz := 6) (rows := []) rfl (by simp)).trans ?_) ?_
 ·(refine no_implicit_lambda% (Conv.toT ?_ ?_ (LE0 rfl))); (focus ((unfold chsSt); (try dsimp only); exact wkl)); (focus ((unfold chsSt); (try dsimp only); exact wkh))
 ·rintro xs i ⟨i1, i2, i3, hok⟩
  have r1 := chOk6 xs
  have b1 : (xs.map chrow).length ≤ 20 := by rw [List.length_map]; omega
  have b2 : xs.length ≤ 20 := by omega
  refine c_turn (n' := 1) (fun _ h => h) (fun _ h => h) rfl ?_
  rcases hx : l[i]? with _ | a
  ·have hi : i = l.length := by have := List.getElem?_eq_none_iff.1 hx; omega
   repeat' (first | (refine no_implicit_lambda% (zH ?_)) | (refine no_implicit_lambda% (spl (fun hc => ?_) (fun hc => ?_)) <;> first | exact zG hc | skip) | (refine no_implicit_lambda% (ans ?_)) | (with_reducible first | exact zI | exact zJ))
   exact e_ret_to (H' := []) (rest := _) (.freeSlot 4 rfl) rfl ⟨xs, ⟨by omega, hok⟩, rfl, rfl⟩ (.refl _) (LE0 rfl)
  ·have hi : i < l.length := (List.getElem?_eq_some_iff.1 hx).1
   have ha := hl a (List.mem_of_getElem? hx)
   have hix := cwx5 hx
   repeat' (first | (refine no_implicit_lambda% (zH ?_)) | (refine no_implicit_lambda% (spl (fun hc => ?_) (fun hc => ?_)) <;> first | exact zG hc | skip) | (refine no_implicit_lambda% (ans ?_)) | (with_reducible first | exact zI | exact zJ))
   ·(refine no_implicit_lambda% (cal [] (chmade_c a ha) ?_ ?_))
    ·intro xx H' hh
     obtain ⟨x, hxo, h', rfl⟩ := hh
     cases h'
     first | (refine no_implicit_lambda% (akc ?_)) | (refine no_implicit_lambda% (aec ?_))
     repeat' (first | (refine no_implicit_lambda% (zH ?_)) | (refine no_implicit_lambda% (spl (fun hc => ?_) (fun hc => ?_)) <;> first | exact zG hc | skip) | (refine no_implicit_lambda% (ans ?_)) | (with_reducible first | exact zI | exact zJ))
     have hik : i + 1 ≤ k := by
      have h9 := of_decide_eq_true (show decide ((i : Int) < (k : Int)) = true by assumption)
      omega
     (refine no_implicit_lambda% (k_loopLT (((xs ++ [x], i + 1) : List Ch × Nat)) 0 [0] (by
      show i + 1 ≤ l.length ∧ i + 1 ≤ k ∧ (xs ++ [x]).length = i + 1 ∧ ∀ y ∈ xs ++ [x], ChOk y
      refine ⟨hi, hik, by rw [List.length_append, i3]; rfl, fun y hy => ?_⟩
      rcases List.mem_append.1 hy with hy | hy
      ·exact hok y hy
      ·rw [List.mem_singleton.1 hy]; exact hxo) (by first | omega | (simp; done) | (simp; omega)) (LE0 rfl) (fun _ h => h) (fun _ h => h) ?_ ?_)); (focus ((try dsimp only); exact wkl)); (focus ((try dsimp only); exact wkh))
    ·intro xx H' hh
     obtain ⟨_, _, h', _⟩ := hh
     cases h'
   ·exact e_ret_to (H' := []) (rest := _) (.freeSlot 4 rfl) rfl ⟨xs, ⟨by omega, hok⟩, rfl, rfl⟩ (.refl _) (LE0 rfl)
end Go.Proofs.YtncffhgoopdfgaaGreat
namespace Go.Proofs.YtncffhgoopdfgaaGreat
open Go.Am
set_option maxRecDepth 100000
end Go.Proofs.YtncffhgoopdfgaaGreat
namespace Go.Proofs.YtncffhgoopdfgaaGreat
open Go.Am
set_option maxRecDepth 100000
theorem changes_d (l : List Cw) (k : Nat) (hk : k ≤ 20) (hl : ∀ a ∈ l, CwOk a) (h : l.length ≤ 9223372036854775807) : ACalls Tryz.prog 29 0 0 [.list (l.map cwrow) .free, .v (.int .i64 k)] [] (fun out H' => ∃ xs : List Ch, (xs.length ≤ k ∧ ∀ x ∈ xs, ChOk x) ∧ out = .ret (.list (xs.map chrow) .free) ∧ H' = []) :=
 ACalls.ren (changes_c l k hk hl h) (by decide) fun out H' hh => by
  obtain ⟨xs, h1, rfl, rfl⟩ := hh
  exact ⟨[], .ret (.list (xs.map chrow) .free), [], List.nodup_nil, (fun q h => by cases h), (fun q h => by omega), Nat.le_refl _, rfl, rfl, xs, h1, rfl, rfl⟩
end Go.Proofs.YtncffhgoopdfgaaGreat
namespace Go.Am
def LeD (a b : AV) : Prop := ∀ X x, SimD X a x → SimD X b x
theorem LeD.refl (a : AV) : LeD a a := fun _ _ h => h
theorem LeD.free (rows : List (List AV)) (o : Own) : LeD (.list rows o) (.list rows .free) := fun _ _ h => h.free
inductive LDL : List AV → List AV → Prop
 | nil : LDL [] []
 | cons {a b : AV} {s t : List AV} (h : LeD a b) (hs : LDL s t) : LDL (a :: s) (b :: t)
inductive LDR : List (List AV) → List (List AV) → Prop
 | nil : LDR [] []
 | cons {a b : List AV} {s t : List (List AV)} (h : LDL a b) (hs : LDR s t) : LDR (a :: s) (b :: t)
theorem LDL.len {s t : List AV} (h : LDL s t) : s.length = t.length := by
 induction h with
 | nil => rfl
 | cons _ _ ih => simp [ih]
theorem LDL.get {s t : List AV} (h : LDL s t) : ∀ (i : Nat) (b : AV), t[i]? = some b → ∃ a, s[i]? = some a ∧ LeD a b := by
 induction h with
 | nil => intro i b hb; simp at hb
 | @cons a b s t h1 _ ih =>
  intro i c hc
  cases i with
  | zero => simp at hc; subst hc; exact ⟨a, rfl, h1⟩
  | succ i => exact ih i c hc
theorem LDR.len {s t : List (List AV)} (h : LDR s t) : s.length = t.length := by
 induction h with
 | nil => rfl
 | cons _ _ ih => simp [ih]
theorem LDR.get {s t : List (List AV)} (h : LDR s t) : ∀ (i : Nat) (b : List AV), t[i]? = some b → ∃ a, s[i]? = some a ∧ LDL a b := by
 induction h with
 | nil => intro i b hb; simp at hb
 | @cons a b s t h1 _ ih =>
  intro i c hc
  cases i with
  | zero => simp at hc; subst hc; exact ⟨a, rfl, h1⟩
  | succ i => exact ih i c hc
theorem LeD.rows {rows rows' : List (List AV)} (h : LDR rows rows') (o : Own) : LeD (.list rows o) (.list rows' .free) := fun X x hx => by
 cases hx with
 | nil _ a c hc ho hs =>
  cases h
  exact .nil .free a c hc (fun h => by cases h) (.inl rfl)
 | list _ _ b off c s y hn hc ho hs hr hX hS h1 =>
  have e := h.len
  have hr' : ∀ row ∈ rows', row.length = s := fun row hrow => by
   obtain ⟨i, hi, rfl⟩ := List.getElem_of_mem hrow
   obtain ⟨a, ha, hd⟩ := h.get i _ (List.getElem?_eq_getElem hi)
   rw [← hd.len]
   exact hr a (List.mem_of_getElem? ha)
  rw [e]
  refine .list rows' .free b off c s y (by omega) hc (fun h => by cases h) (.inl rfl) hr' (fun i row j a k1 k2 => ?_) (fun i row j a k1 k2 => ?_) (fun i row j a k1 k2 => ?_)
  ·obtain ⟨r0, q1, q2⟩ := h.get i row k1
   obtain ⟨a0, q3, q4⟩ := q2.get j a k2
   exact hX i r0 j a0 q1 q3
  ·obtain ⟨r0, q1, q2⟩ := h.get i row k1
   obtain ⟨a0, q3, q4⟩ := q2.get j a k2
   exact q4 _ _ (hS i r0 j a0 q1 q3)
  ·obtain ⟨r0, q1, q2⟩ := h.get i row k1
   obtain ⟨a0, q3, q4⟩ := q2.get j a k2
   exact h1 i r0 j a0 q1 q3
theorem LeA.rows {rows rows' : List (List AV)} (h : LDR rows rows') (o : Own) : LeA (.list rows o) (.list rows' .free) := fun G x hx => by
 cases hx with
 | data _ _ hd => exact .data _ _ (LeD.rows h _ _ _ hd)
 | tok _ k _ _ hd => exact .data _ _ (LeD.rows h _ _ _ hd)
theorem Wk.rows {rows rows' : List (List AV)} (h : LDR rows rows') (o : Own) : Wk (.list rows o) (.list rows' .free) :=
 ⟨fun G x hx => by
  refine .of ?_
  have := hx.down
  unfold AV.down at this
  split at this
  ·rename_i h0; cases h0; exact LeA.rows h _ _ _ this
  ·exact LeA.rows h _ _ _ this, fun G x hx => LeA.rows h o _ _ hx⟩
end Go.Am
namespace Go.Proofs.YtncffhgoopdfgaaGreat
open Go.Am
set_option maxRecDepth 100000
theorem dvmade_d (a : Dv) (h : DvOk a) : ACalls Tryz.prog 19 0 0 [.agg (dvr a)] [] (fun out H' => ∃ v, okV v ∧ out = .ret (vav v) ∧ H' = []) :=
 ACalls.ren (dvmade_c a h) (by decide) fun out H' hh => by
  obtain ⟨v, h1, rfl, rfl⟩ := hh
  exact ⟨[], .ret (vav v), [], List.nodup_nil, (fun q h => by cases h), (fun q h => by omega), Nat.le_refl _, rfl, rfl, v, h1, rfl, rfl⟩
end Go.Proofs.YtncffhgoopdfgaaGreat
namespace Go.Proofs.YtncffhgoopdfgaaGreat
open Go.Am
section
variable {H : Type} {enc : TypeId × Value → H} {w : World} {base : Nat} {sp : Nat → Bool} {held : Bool}
theorem opnDv : Opn enc Tryz.prog w base sp held 25 fun row => ∃ a : Dv, DvOk a ∧ row = dvr a := opnV.mono fun row ⟨tx, n, x, b, h, e⟩ => ⟨⟨tx, n, x, b⟩, h, e⟩
end
end Go.Proofs.YtncffhgoopdfgaaGreat
namespace Go.Proofs.YtncffhgoopdfgaaGreat
open Go.Am
section
variable {H : Type} {enc : TypeId × Value → H} {w : World} {base : Nat} {sp : Nat → Bool} {held : Bool}
theorem opnCw : Opn enc Tryz.prog w base sp held 144 fun row => ∃ a : Cw, CwOk a ∧ row = cwrow a :=
 (opn_struct Tryz.underlying144 (Rs := [fun row => ∃ n, row = [.v (.int .i64 n)] ∧ IntKind.i64.min ≤ n ∧ n ≤ IntKind.i64.max, fun row => ∃ n, row = [.v (.int .i64 n)] ∧ IntKind.i64.min ≤ n ∧ n ≤ IntKind.i64.max, fun row => ∃ n, row = [.v (.int .i64 n)] ∧ IntKind.i64.min ≤ n ∧ n ≤ IntKind.i64.max, fun row => ∃ a : Dv, DvOk a ∧ row = dvr a])
  ⟨rfl, opn_int Tryz.underlying3, by kernel_rfl, opn_int Tryz.underlying3, by kernel_rfl, opn_int Tryz.underlying2, by kernel_rfl, opnDv, (show (_ : Nat) = _ by kernel_rfl)⟩).mono
  fun row hrow => by
   obtain ⟨_, _, e0, ⟨k, rfl, k1, k2⟩, _, _, e1, ⟨c, rfl, c1, c2⟩, _, _, e2, ⟨t, rfl, t1, t2⟩, _, _, e3, ⟨v, hv, rfl⟩, e4⟩ := hrow
   refine ⟨⟨k, c, t, v⟩, ⟨⟨k1, k2⟩, ⟨c1, c2⟩, ⟨t1, t2⟩, hv⟩, ?_⟩
   rw [e0, e1, e2, e3, e4]
   simp [cwrow]
theorem opnCws : Opn enc Tryz.prog w base sp held 26 fun row => ∃ l : List Cw, (∀ a ∈ l, CwOk a) ∧ l.length ≤ 9223372036854775807 ∧ row = [.list (l.map cwrow) .free] :=
  (opn_slice Tryz.underlying26 (by kernel_rfl : Tryz.prog.cellsOf 144 = 7) (by decide) opnCw).mono fun row ⟨rows, h1, h2, h3⟩ => by
    obtain ⟨l, hl, rfl⟩ := listOf (f := cwrow) (Q := CwOk) fun r hr => (h3 r hr).1
    exact ⟨l, hl, by have : maxLen = 9223372036854775807 := by decide
                     simpa [this] using h2, h1⟩
end
end Go.Proofs.YtncffhgoopdfgaaGreat
namespace Go.Proofs.YtncffhgoopdfgaaGreat
open Go.Am
section
variable {H : Type} {enc : TypeId × Value → H} {w : World} {base : Nat} {sp : Nat → Bool} {held : Bool}
theorem opnA : Opn enc Tryz.prog w base sp held 32 fun row => ∃ v : Va, v.n < 18446744073709551616 ∧ row = vrowV v :=
 (opn_struct Tryz.underlying32 (Rs := [fun row => ∃ n, row = [.v (.int .i64 n)] ∧ IntKind.i64.min ≤ n ∧ n ≤ IntKind.i64.max, fun row => ∃ l : List UInt8, row = [.list (l.map brow) .free] ∧ l.length ≤ maxLen, fun row => ∃ b, row = [.v (.float .f64 b)] ∧ b < 18446744073709551616])
  ⟨rfl, opn_int Tryz.underlying3, by kernel_rfl, opnBytes, by kernel_rfl, opn_float Tryz.underlying22, (show (_ : Nat) = _ by kernel_rfl)⟩).mono
  fun row hrow => by
   obtain ⟨_, _, e0, ⟨n, rfl, h1, h2⟩, _, _, e1, ⟨l, rfl, _⟩, _, _, e2, ⟨x, rfl, hx⟩, e3⟩ := hrow
   refine ⟨⟨n, l, x⟩, hx, ?_⟩
   rw [e0, e1, e2, e3]
   rfl
end
end Go.Proofs.YtncffhgoopdfgaaGreat
namespace Go.Proofs.YtncffhgoopdfgaaGreat
open Go.Am
set_option maxRecDepth 100000
structure Ow where
 k : Int
 r : Int
 h : Int
 m : Int
 c : Int
 has : Bool
 want : Bool
 v : Dv
 l : List Cw
def owrow (o : Ow) : List AV := [.v (.int .i64 o.k), .v (.int .i64 o.r), .v (.int .i64 o.h), .v (.int .i64 o.m), .v (.int .i64 o.c), .v (.bool o.has), .v (.bool o.want)] ++ dvr o.v ++ [.list (o.l.map cwrow) .free]
structure OwOk (o : Ow) : Prop where
 k : -9223372036854775808 ≤ o.k ∧ o.k ≤ 9223372036854775807
 r : -9223372036854775808 ≤ o.r ∧ o.r ≤ 9223372036854775807
 h : -9223372036854775808 ≤ o.h ∧ o.h ≤ 9223372036854775807
 m : -9223372036854775808 ≤ o.m ∧ o.m ≤ 9223372036854775807
 c : -9223372036854775808 ≤ o.c ∧ o.c ≤ 9223372036854775807
 v : DvOk o.v
 l : ∀ a ∈ o.l, CwOk a
 n : o.l.length ≤ 9223372036854775807
structure Oq where
 k : Int
 row : ByteArray
 hi : ByteArray
 d : Cd
 l : List Ch
 most : Int
def oqrow (q : Oq) : List AV := [.v (.int .i64 q.k), .v (.string q.row), .v (.string q.hi)] ++ cdrow q.d ++ [.list (q.l.map chrow) .free, .v (.int .i64 q.most)]
def CdSz (d : Cd) : Prop := d.v.b.length < 1073741824 ∧ d.v.n < 18446744073709551616
def OqOk (q : Oq) : Prop := CdSz q.d ∧ (∀ x ∈ q.l, ChSz x) ∧ q.l.length ≤ 4
section
variable {H : Type} {enc : TypeId × Value → H} {w : World} {base : Nat} {sp : Nat → Bool} {held : Bool}
theorem opnOw : Opn enc Tryz.prog w base sp held 28 fun row => ∃ o : Ow, OwOk o ∧ row = owrow o :=
 (opn_struct Tryz.underlying28 (Rs := [fun row => ∃ n, row = [.v (.int .i64 n)] ∧ IntKind.i64.min ≤ n ∧ n ≤ IntKind.i64.max, fun row => ∃ n, row = [.v (.int .i64 n)] ∧ IntKind.i64.min ≤ n ∧ n ≤ IntKind.i64.max, fun row => ∃ n, row = [.v (.int .i64 n)] ∧ IntKind.i64.min ≤ n ∧ n ≤ IntKind.i64.max, fun row => ∃ n, row = [.v (.int .i64 n)] ∧ IntKind.i64.min ≤ n ∧ n ≤ IntKind.i64.max, fun row => ∃ n, row = [.v (.int .i64 n)] ∧ IntKind.i64.min ≤ n ∧ n ≤ IntKind.i64.max, fun row => ∃ b, row = [.v (.bool b)], fun row => ∃ b, row = [.v (.bool b)], fun row => ∃ a : Dv, DvOk a ∧ row = dvr a, fun row => ∃ l : List Cw, (∀ a ∈ l, CwOk a) ∧ l.length ≤ 9223372036854775807 ∧ row = [.list (l.map cwrow) .free]])
  ⟨rfl, opn_int Tryz.underlying3, by kernel_rfl, opn_int Tryz.underlying3, by kernel_rfl, opn_int Tryz.underlying3, by kernel_rfl, opn_int Tryz.underlying3, by kernel_rfl, opn_int Tryz.underlying3, by kernel_rfl, opn_bool Tryz.underlying4, by kernel_rfl, opn_bool Tryz.underlying4, by kernel_rfl, opnDv, by kernel_rfl, opnCws, (show (_ : Nat) = _ by kernel_rfl)⟩).mono
  fun row hrow => by
   obtain ⟨_, _, e0, ⟨k, rfl, k1, k2⟩, _, _, e1, ⟨r, rfl, r1, r2⟩, _, _, e2, ⟨h, rfl, h1, h2⟩, _, _, e3, ⟨m, rfl, m1, m2⟩, _, _, e4, ⟨c, rfl, c1, c2⟩, _, _, e5, ⟨has, rfl⟩, _, _, e6, ⟨want, rfl⟩, _, _, e7, ⟨v, hv, rfl⟩, _, _, e8, ⟨l, hl, hn, rfl⟩, e9⟩ := hrow
   refine ⟨⟨k, r, h, m, c, has, want, v, l⟩, ⟨⟨k1, k2⟩, ⟨r1, r2⟩, ⟨h1, h2⟩, ⟨m1, m2⟩, ⟨c1, c2⟩, hv, hl, hn⟩, ?_⟩
   rw [e0, e1, e2, e3, e4, e5, e6, e7, e8, e9]
   simp [owrow]
theorem opnCh : Opn enc Tryz.prog w base sp held 58 fun row => ∃ x : Ch, x.v.n < 18446744073709551616 ∧ row = chrow x :=
 (opn_struct Tryz.underlying58 (Rs := [fun row => ∃ n, row = [.v (.int .i64 n)] ∧ IntKind.i64.min ≤ n ∧ n ≤ IntKind.i64.max, fun row => ∃ s : ByteArray, row = [.v (.string s)] ∧ s.size ≤ maxLen, fun row => ∃ n, row = [.v (.int .i64 n)] ∧ IntKind.i64.min ≤ n ∧ n ≤ IntKind.i64.max, fun row => ∃ v : Va, v.n < 18446744073709551616 ∧ row = vrowV v])
  ⟨rfl, opn_int Tryz.underlying3, by kernel_rfl, opn_string Tryz.underlying9, by kernel_rfl, opn_int Tryz.underlying2, by kernel_rfl, opnA, (show (_ : Nat) = _ by kernel_rfl)⟩).mono
  fun row hrow => by
   obtain ⟨_, _, e0, ⟨k, rfl, k1, k2⟩, _, _, e1, ⟨s, rfl, _⟩, _, _, e2, ⟨t, rfl, t1, t2⟩, _, _, e3, ⟨v, hv, rfl⟩, e4⟩ := hrow
   refine ⟨⟨k, s, t, v⟩, hv, ?_⟩
   rw [e0, e1, e2, e3, e4]
   simp [chrow]
theorem opnChs : Opn enc Tryz.prog w base sp held 35 fun row => ∃ l : List Ch, (∀ x ∈ l, x.v.n < 18446744073709551616) ∧ l.length ≤ 9223372036854775807 ∧ row = [.list (l.map chrow) .free] :=
  (opn_slice Tryz.underlying35 (by kernel_rfl : Tryz.prog.cellsOf 58 = 6) (by decide) opnCh).mono fun row ⟨rows, h1, h2, h3⟩ => by
    obtain ⟨l, hl, rfl⟩ := listOf (f := chrow) (Q := fun x => x.v.n < 18446744073709551616) fun r hr => (h3 r hr).1
    exact ⟨l, hl, by have : maxLen = 9223372036854775807 := by decide
                     simpa [this] using h2, h1⟩
end
def rwL : List ByteArray := [bsS [97], bsS [98], bsS [109], bsS [110], bsS [122], bsS [109, 97], bsS [122, 122], bsS [48]]
theorem keeprow_c (n : Int) (h1 : -9223372036854775808 ≤ n) (h2 : n ≤ 9223372036854775807) : ACalls Tryz.prog 40 0 5 [.v (.int .i64 n)] [] (fun out H' => ∃ t ∈ rwL, out = .ret (.v (.string t)) ∧ H' = []) := by
 have hp := pick_c rwL n (by decide) h1 h2
 refine no_implicit_lambda% (acalls_of tok dok (f := 40) ⟨Tryz.func40, rfl, by kernel_rfl⟩ ?_); refine no_implicit_lambda% (c_start (fun _ h => h) ?_)
 repeat' (first | (refine no_implicit_lambda% (zH ?_)) | (refine no_implicit_lambda% (spl (fun hc => ?_) (fun hc => ?_)) <;> first | exact zG hc | skip) | (refine no_implicit_lambda% (ans ?_)) | (with_reducible first | exact zI | exact zJ))
 (refine no_implicit_lambda% (calw [] (hp) ?_ ?_))
 ·intro xx H' hh
  obtain ⟨t, ht, h', rfl⟩ := hh
  cases h'
  first | (refine no_implicit_lambda% (akc ?_)) | (refine no_implicit_lambda% (aec ?_))
  repeat' (first | (refine no_implicit_lambda% (zH ?_)) | (refine no_implicit_lambda% (spl (fun hc => ?_) (fun hc => ?_)) <;> first | exact zG hc | skip) | (refine no_implicit_lambda% (ans ?_)) | (with_reducible first | exact zI | exact zJ))
  exact e_ret (H' := []) (rest := _) rfl ⟨t, ht, rfl, rfl⟩ permT (LE0 rfl)
 ·intro xx H' hh
  obtain ⟨_, _, h', _⟩ := hh
  cases h'
def zd0 : Cd := ⟨false, false, ⟨#[]⟩, ⟨0, [], 0⟩⟩
def ch0 : Ch := ⟨5, bsS [120], 5, ⟨2, [], 4607182418800017408⟩⟩
theorem ch0_ok : ∀ x ∈ [ch0], ChSz x := fun x hx => by rw [List.mem_singleton.1 hx]; exact ⟨by decide, by decide⟩
theorem zd0_ok : CdSz zd0 := ⟨by decide, by decide⟩
set_option maxHeartbeats 6400000 in
theorem op_c (o : Ow) (ho : OwOk o) : ACalls Tryz.prog 41 0 90000 [.agg (owrow o)] [] (fun out H' => ∃ q, OqOk q ∧ out = .ret (.agg (oqrow q)) ∧ H' = []) := by
 obtain ⟨k, r, h, m, c, has, want, v, l⟩ := o
 obtain ⟨hk, hr, hH, hm, hcc, hv, hl, hn⟩ := ho
 dsimp only at *
 have w1 := wthn_c k 0 1048576 hk.1 hk.2 (by decide) (by decide) (by decide) (by decide)
 have w2 := wthn_c m 0 1048576 hm.1 hm.2 (by decide) (by decide) (by decide) (by decide)
 have b1 := wthn_bd k 0 1048576 (by decide)
 have b2 := wthn_bd m 0 1048576 (by decide)
 generalize wthn k 0 1048576 = k0 at *
 generalize wthn m 0 1048576 = m0 at *
 refine no_implicit_lambda% (acalls_of tok dok (f := 41) ⟨Tryz.func41, rfl, by kernel_rfl⟩ ?_); refine no_implicit_lambda% (c_start (fun _ h => h) ?_)
 repeat' (first | (refine no_implicit_lambda% (zH ?_)) | (refine no_implicit_lambda% (spl (fun hc => ?_) (fun hc => ?_)) <;> first | exact zG hc | skip) | (refine no_implicit_lambda% (ans ?_)) | (with_reducible first | exact zI | exact zJ) | (refine no_implicit_lambda% (cal [] (w1) ?_ ?_)) | fail)
 ·(refine no_implicit_lambda% (cal [] (keeprow_c r hr.1 hr.2) ?_ ?_))
  rotate_left
  ·intro xx H' hx
   obtain ⟨_, _, h', _⟩ := hx
   cases h'
  intro xx H' hx
  obtain ⟨s, hs, h', rfl⟩ := hx
  cases h'
  first | (refine no_implicit_lambda% (akc ?_)) | (refine no_implicit_lambda% (aec ?_))
  repeat' (first | (refine no_implicit_lambda% (zH ?_)) | (refine no_implicit_lambda% (spl (fun hc => ?_) (fun hc => ?_)) <;> first | exact zG hc | skip) | (refine no_implicit_lambda% (ans ?_)) | (with_reducible first | exact zI | exact zJ))
  (refine e_ret_to (H' := []) (rest := [(1, .box (oqrow (⟨1, s, ⟨#[]⟩, zd0, [], 0⟩ : Oq)))]) (Conv.toT (τ := ⟨_, [(1, .box (oqrow (⟨1, s, ⟨#[]⟩, zd0, [], 0⟩ : Oq)))], _⟩) (.refl _) ?_ (Nat.le_refl _)) rfl ⟨(⟨1, s, ⟨#[]⟩, zd0, [], 0⟩ : Oq), ⟨zd0_ok, (fun x hx => by cases hx), Nat.zero_le _⟩, rfl, rfl⟩ permT (LE0 rfl); exact wkh)
 ·(refine no_implicit_lambda% (cal [] (keeprow_c r hr.1 hr.2) ?_ ?_))
  rotate_left
  ·intro xx H' hx
   obtain ⟨_, _, h', _⟩ := hx
   cases h'
  intro xx H' hx
  obtain ⟨s, hs, h', rfl⟩ := hx
  cases h'
  first | (refine no_implicit_lambda% (akc ?_)) | (refine no_implicit_lambda% (aec ?_))
  repeat' (first | (refine no_implicit_lambda% (zH ?_)) | (refine no_implicit_lambda% (splv (fun hc => ?_) (fun hc => ?_)) <;> first | exact zG hc | skip) | (refine no_implicit_lambda% (ans ?_)) | (with_reducible first | exact zI | exact zJ))
  (refine no_implicit_lambda% (cal [] (keeprow_c h hH.1 hH.2) ?_ ?_))
  rotate_left
  ·intro xx H' hx
   obtain ⟨_, _, h', _⟩ := hx
   cases h'
  intro xx H' hx
  obtain ⟨t, ht, h', rfl⟩ := hx
  cases h'
  first | (refine no_implicit_lambda% (akc ?_)) | (refine no_implicit_lambda% (aec ?_))
  repeat' (first | (refine no_implicit_lambda% (zH ?_)) | (refine no_implicit_lambda% (splv (fun hc => ?_) (fun hc => ?_)) <;> first | exact zG hc | skip) | (refine no_implicit_lambda% (ans ?_)) | (with_reducible first | exact zI | exact zJ) | (refine no_implicit_lambda% (cal [] (w2) ?_ ?_)) | fail)
  all_goals rw [show IntKind.i64.wrap (1 + m0.tmod 16) = 1 + m0.tmod 16 from z64 (by have := Int.tmod_nonneg 16 b2.1; omega) (by have := Int.tmod_lt_of_pos m0 (show (0 : Int) < 16 by decide); omega)]
  all_goals first | ((refine e_ret_to (H' := []) (rest := [(1, .box (oqrow (⟨3, s, t, zd0, [], 1 + m0.tmod 16⟩ : Oq)))]) (Conv.toT (τ := ⟨_, [(1, .box (oqrow (⟨3, s, t, zd0, [], 1 + m0.tmod 16⟩ : Oq)))], _⟩) (.refl _) ?_ (Nat.le_refl _)) rfl ⟨(⟨3, s, t, zd0, [], 1 + m0.tmod 16⟩ : Oq), ⟨zd0_ok, (fun x hx => by cases hx), Nat.zero_le _⟩, rfl, rfl⟩ permT (LE0 rfl); exact wkh); done) | ((refine e_ret_to (H' := []) (rest := [(1, .box (oqrow (⟨3, s, ⟨#[]⟩, zd0, [], 1 + m0.tmod 16⟩ : Oq)))]) (Conv.toT (τ := ⟨_, [(1, .box (oqrow (⟨3, s, ⟨#[]⟩, zd0, [], 1 + m0.tmod 16⟩ : Oq)))], _⟩) (.refl _) ?_ (Nat.le_refl _)) rfl ⟨(⟨3, s, ⟨#[]⟩, zd0, [], 1 + m0.tmod 16⟩ : Oq), ⟨zd0_ok, (fun x hx => by cases hx), Nat.zero_le _⟩, rfl, rfl⟩ permT (LE0 rfl); exact wkh); done) | ((refine e_ret_to (H' := []) (rest := [(1, .box (oqrow (⟨3, ⟨#[]⟩, t, zd0, [], 1 + m0.tmod 16⟩ : Oq)))]) (Conv.toT (τ := ⟨_, [(1, .box (oqrow (⟨3, ⟨#[]⟩, t, zd0, [], 1 + m0.tmod 16⟩ : Oq)))], _⟩) (.refl _) ?_ (Nat.le_refl _)) rfl ⟨(⟨3, ⟨#[]⟩, t, zd0, [], 1 + m0.tmod 16⟩ : Oq), ⟨zd0_ok, (fun x hx => by cases hx), Nat.zero_le _⟩, rfl, rfl⟩ permT (LE0 rfl); exact wkh); done) | ((refine e_ret_to (H' := []) (rest := [(1, .box (oqrow (⟨3, ⟨#[]⟩, ⟨#[]⟩, zd0, [], 1 + m0.tmod 16⟩ : Oq)))]) (Conv.toT (τ := ⟨_, [(1, .box (oqrow (⟨3, ⟨#[]⟩, ⟨#[]⟩, zd0, [], 1 + m0.tmod 16⟩ : Oq)))], _⟩) (.refl _) ?_ (Nat.le_refl _)) rfl ⟨(⟨3, ⟨#[]⟩, ⟨#[]⟩, zd0, [], 1 + m0.tmod 16⟩ : Oq), ⟨zd0_ok, (fun x hx => by cases hx), Nat.zero_le _⟩, rfl, rfl⟩ permT (LE0 rfl); exact wkh); done)
 ·(refine no_implicit_lambda% (cal [] (keeprow_c r hr.1 hr.2) ?_ ?_))
  rotate_left
  ·intro xx H' hx
   obtain ⟨_, _, h', _⟩ := hx
   cases h'
  intro xx H' hx
  obtain ⟨s, hs, h', rfl⟩ := hx
  cases h'
  first | (refine no_implicit_lambda% (akc ?_)) | (refine no_implicit_lambda% (aec ?_))
  repeat' (first | (refine no_implicit_lambda% (zH ?_)) | (refine no_implicit_lambda% (splv (fun hc => ?_) (fun hc => ?_)) <;> first | exact zG hc | skip) | (refine no_implicit_lambda% (ans ?_)) | (with_reducible first | exact zI | exact zJ))
  (refine no_implicit_lambda% (cal [] (changes_d l 4 (by decide) hl hn) ?_ ?_))
  rotate_left
  ·intro xx H' hx
   obtain ⟨_, _, h', _⟩ := hx
   cases h'
  intro xx H' hx
  obtain ⟨xs, ⟨hx4, hok⟩, h', rfl⟩ := hx
  cases h'
  first | (refine no_implicit_lambda% (akc ?_)) | (refine no_implicit_lambda% (aec ?_))
  have hsz : ∀ x ∈ xs, ChSz x := fun x hx => (hok x hx).1
  rcases xs with _ | ⟨x0, xs⟩
  ·cases has
   ·repeat' (first | (refine no_implicit_lambda% (zH ?_)) | (refine no_implicit_lambda% (spl (fun hc => ?_) (fun hc => ?_)) <;> first | exact zG hc | skip) | (refine no_implicit_lambda% (ans ?_)) | (with_reducible first | exact zI | exact zJ))
    (refine e_ret_to (H' := []) (rest := [(1, .box (oqrow (⟨2, s, ⟨#[]⟩, zd0, [ch0], 0⟩ : Oq)))]) (Conv.toT (τ := ⟨_, [(1, .box (oqrow (⟨2, s, ⟨#[]⟩, zd0, [ch0], 0⟩ : Oq)))], _⟩) (.refl _) ?_ (Nat.le_refl _)) rfl ⟨(⟨2, s, ⟨#[]⟩, zd0, [ch0], 0⟩ : Oq), ⟨zd0_ok, ch0_ok, (by show 1 ≤ 4; decide)⟩, rfl, rfl⟩ permT (LE0 rfl); exact wkh)
   ·repeat' (first | (refine no_implicit_lambda% (zH ?_)) | (refine no_implicit_lambda% (spl (fun hc => ?_) (fun hc => ?_)) <;> first | exact zG hc | skip) | (refine no_implicit_lambda% (ans ?_)) | (with_reducible first | exact zI | exact zJ))
    (refine no_implicit_lambda% (cal [] (keepcol_c c hcc.1 hcc.2) ?_ ?_))
    rotate_left
    ·intro xx H' hx
     obtain ⟨_, _, h', _⟩ := hx
     cases h'
    intro xx H' hx
    obtain ⟨cn, hcn, h', rfl⟩ := hx
    cases h'
    first | (refine no_implicit_lambda% (akc ?_)) | (refine no_implicit_lambda% (aec ?_))

    cases want
    ·repeat' (first | (refine no_implicit_lambda% (zH ?_)) | (refine no_implicit_lambda% (spl (fun hc => ?_) (fun hc => ?_)) <;> first | exact zG hc | skip) | (refine no_implicit_lambda% (ans ?_)) | (with_reducible first | exact zI | exact zJ))
     (refine e_ret_to (H' := []) (rest := [(1, .box (oqrow (⟨2, s, ⟨#[]⟩, ⟨true, false, cn, ⟨0, [], 0⟩⟩, [ch0], 0⟩ : Oq)))]) (Conv.toT (τ := ⟨_, [(1, .box (oqrow (⟨2, s, ⟨#[]⟩, ⟨true, false, cn, ⟨0, [], 0⟩⟩, [ch0], 0⟩ : Oq)))], _⟩) (.refl _) ?_ (Nat.le_refl _)) rfl ⟨(⟨2, s, ⟨#[]⟩, ⟨true, false, cn, ⟨0, [], 0⟩⟩, [ch0], 0⟩ : Oq), ⟨zd0_ok, ch0_ok, (by show 1 ≤ 4; decide)⟩, rfl, rfl⟩ permT (LE0 rfl); exact wkh)
    ·repeat' (first | (refine no_implicit_lambda% (zH ?_)) | (refine no_implicit_lambda% (spl (fun hc => ?_) (fun hc => ?_)) <;> first | exact zG hc | skip) | (refine no_implicit_lambda% (ans ?_)) | (with_reducible first | exact zI | exact zJ))
     (refine no_implicit_lambda% (cal [] (dvmade_d v hv) ?_ ?_))
     rotate_left
     ·intro xx H' hx
      obtain ⟨_, _, h', _⟩ := hx
      cases h'
     intro xx H' hx
     obtain ⟨y, hy, h', rfl⟩ := hx
     cases h'
     first | (refine no_implicit_lambda% (akc ?_)) | (refine no_implicit_lambda% (aec ?_))

     repeat' (first | (refine no_implicit_lambda% (zH ?_)) | (refine no_implicit_lambda% (spl (fun hc => ?_) (fun hc => ?_)) <;> first | exact zG hc | skip) | (refine no_implicit_lambda% (ans ?_)) | (with_reducible first | exact zI | exact zJ))
     (refine e_ret_to (H' := []) (rest := [(1, .box (oqrow (⟨2, s, ⟨#[]⟩, ⟨true, true, cn, y⟩, [ch0], 0⟩ : Oq)))]) (Conv.toT (τ := ⟨_, [(1, .box (oqrow (⟨2, s, ⟨#[]⟩, ⟨true, true, cn, y⟩, [ch0], 0⟩ : Oq)))], _⟩) (.refl _) ?_ (Nat.le_refl _)) rfl ⟨(⟨2, s, ⟨#[]⟩, ⟨true, true, cn, y⟩, [ch0], 0⟩ : Oq), ⟨⟨hy.1, hy.2.1⟩, ch0_ok, (by show 1 ≤ 4; decide)⟩, rfl, rfl⟩ permT (LE0 rfl); exact wkh)

  ·cases has
   ·repeat' (first | (refine no_implicit_lambda% (zH ?_)) | (refine no_implicit_lambda% (spl (fun hc => ?_) (fun hc => ?_)) <;> first | exact zG hc | skip) | (refine no_implicit_lambda% (ans ?_)) | (with_reducible first | exact zI | exact zJ))
    (refine e_ret_to (H' := []) (rest := [(1, .box (oqrow (⟨2, s, ⟨#[]⟩, zd0, x0 :: xs, 0⟩ : Oq)))]) (Conv.toT (τ := ⟨_, [(1, .box (oqrow (⟨2, s, ⟨#[]⟩, zd0, x0 :: xs, 0⟩ : Oq)))], _⟩) (.refl _) ?_ (Nat.le_refl _)) rfl ⟨(⟨2, s, ⟨#[]⟩, zd0, x0 :: xs, 0⟩ : Oq), ⟨zd0_ok, hsz, hx4⟩, rfl, rfl⟩ permT (LE0 rfl); exact wkh)
   ·repeat' (first | (refine no_implicit_lambda% (zH ?_)) | (refine no_implicit_lambda% (spl (fun hc => ?_) (fun hc => ?_)) <;> first | exact zG hc | skip) | (refine no_implicit_lambda% (ans ?_)) | (with_reducible first | exact zI | exact zJ))
    (refine no_implicit_lambda% (cal [] (keepcol_c c hcc.1 hcc.2) ?_ ?_))
    rotate_left
    ·intro xx H' hx
     obtain ⟨_, _, h', _⟩ := hx
     cases h'
    intro xx H' hx
    obtain ⟨cn, hcn, h', rfl⟩ := hx
    cases h'
    first | (refine no_implicit_lambda% (akc ?_)) | (refine no_implicit_lambda% (aec ?_))

    cases want
    ·repeat' (first | (refine no_implicit_lambda% (zH ?_)) | (refine no_implicit_lambda% (spl (fun hc => ?_) (fun hc => ?_)) <;> first | exact zG hc | skip) | (refine no_implicit_lambda% (ans ?_)) | (with_reducible first | exact zI | exact zJ))
     (refine e_ret_to (H' := []) (rest := [(1, .box (oqrow (⟨2, s, ⟨#[]⟩, ⟨true, false, cn, ⟨0, [], 0⟩⟩, x0 :: xs, 0⟩ : Oq)))]) (Conv.toT (τ := ⟨_, [(1, .box (oqrow (⟨2, s, ⟨#[]⟩, ⟨true, false, cn, ⟨0, [], 0⟩⟩, x0 :: xs, 0⟩ : Oq)))], _⟩) (.refl _) ?_ (Nat.le_refl _)) rfl ⟨(⟨2, s, ⟨#[]⟩, ⟨true, false, cn, ⟨0, [], 0⟩⟩, x0 :: xs, 0⟩ : Oq), ⟨zd0_ok, hsz, hx4⟩, rfl, rfl⟩ permT (LE0 rfl); exact wkh)
    ·repeat' (first | (refine no_implicit_lambda% (zH ?_)) | (refine no_implicit_lambda% (spl (fun hc => ?_) (fun hc => ?_)) <;> first | exact zG hc | skip) | (refine no_implicit_lambda% (ans ?_)) | (with_reducible first | exact zI | exact zJ))
     (refine no_implicit_lambda% (cal [] (dvmade_d v hv) ?_ ?_))
     rotate_left
     ·intro xx H' hx
      obtain ⟨_, _, h', _⟩ := hx
      cases h'
     intro xx H' hx
     obtain ⟨y, hy, h', rfl⟩ := hx
     cases h'
     first | (refine no_implicit_lambda% (akc ?_)) | (refine no_implicit_lambda% (aec ?_))

     repeat' (first | (refine no_implicit_lambda% (zH ?_)) | (refine no_implicit_lambda% (spl (fun hc => ?_) (fun hc => ?_)) <;> first | exact zG hc | skip) | (refine no_implicit_lambda% (ans ?_)) | (with_reducible first | exact zI | exact zJ))
     (refine e_ret_to (H' := []) (rest := [(1, .box (oqrow (⟨2, s, ⟨#[]⟩, ⟨true, true, cn, y⟩, x0 :: xs, 0⟩ : Oq)))]) (Conv.toT (τ := ⟨_, [(1, .box (oqrow (⟨2, s, ⟨#[]⟩, ⟨true, true, cn, y⟩, x0 :: xs, 0⟩ : Oq)))], _⟩) (.refl _) ?_ (Nat.le_refl _)) rfl ⟨(⟨2, s, ⟨#[]⟩, ⟨true, true, cn, y⟩, x0 :: xs, 0⟩ : Oq), ⟨⟨hy.1, hy.2.1⟩, hsz, hx4⟩, rfl, rfl⟩ permT (LE0 rfl); exact wkh)
end Go.Proofs.YtncffhgoopdfgaaGreat
