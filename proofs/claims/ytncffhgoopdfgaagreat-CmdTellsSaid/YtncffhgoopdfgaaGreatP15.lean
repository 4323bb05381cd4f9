/- Part 15 of what the laws CmdTells rest on: CdJ, CdK, CtE, CtS, CdM, CdL, CdN. -/
import Derived.Test.YtncffhgoopdfgaaGreatP14
set_option linter.unusedSimpArgs false
set_option linter.unusedVariables false
namespace Go.Proofs.YtncffhgoopdfgaaGreat
open Go.Am
set_option maxRecDepth 100000
theorem ubn_8l4 {l : List UInt8} (h : l.length = 4) : ubn l 0 < 4294967296 := by
 have := ubn_take l 4
 rwa [List.take_of_length_le (by omega)] at this
theorem eB_c (l : List UInt8) (bad : Bool) (h : l.length < 281474976710656) : ACalls Tryz.prog 122 1 1 [.ptr 0 0] (rr l bad) (dQ pB (· < 256) (fun x => .v (.int .u8 (x : Nat))) l bad) := dQ_top (qB_c l bad h) (by decide) (fun _ _ => rfl)
theorem eN_c (l : List UInt8) (bad : Bool) (h : l.length < 281474976710656) : ACalls Tryz.prog 125 1 1 [.ptr 0 0] (rr l bad) (dQ pN (· < 4294967296) (fun x => .v (.int .u32 (x : Nat))) l bad) :=
 dQ_top (ok := (· < 4294967296)) ((refRNum_c l bad h).mono fun out H' ⟨h1, h2⟩ => by
  obtain ⟨f1, f2, f3⟩ := rd_fcts 4 l bad
  refine ⟨_, _, _, ubn_8l4 (rSome_len 4 l bad (by decide)), f1, fun hb => ?_, fun hb => ?_, h1, h2⟩
  ·obtain ⟨g1, g2, g3, g4⟩ := f2 hb
   exact ⟨g1, by unfold pN; rw [if_pos g2, g3, g4]⟩
  ·obtain ⟨g1, g2⟩ := f3 hb
   exact ⟨g1, fun hb => by unfold pN; rw [if_neg (g2 hb)]⟩) (by decide) (fun _ _ => rfl)
theorem eX_c (l : List UInt8) (bad : Bool) (h : l.length < 281474976710656) : ACalls Tryz.prog 126 1 1 [.ptr 0 0, .v (.int .i64 16)] (rr l bad) (dQ pX (·.length ≤ 16) (fun x => .list (x.map brow) .free) l bad) := dQ_top (qX_c l bad h) (by decide) (fun x g => ren_l x g)
theorem eCh_c (l : List UInt8) (bad : Bool) (h : l.length < 281474976710656) : ACalls Tryz.prog 83 1 1 [.ptr 0 0] (rr l bad) (dQ pCh ChB (fun x => .agg (chrow x)) l bad) := dQ_top (rtake5_c l bad h) (by decide) (fun x g => by simp [chrow, vrowV, AV.ren, AV.renL, Own.ren])
theorem eCd_c (l : List UInt8) (bad : Bool) (h : l.length < 281474976710656) : ACalls Tryz.prog 84 1 1 [.ptr 0 0] (rr l bad) (dQ pCd CdB (fun x => .agg (cdrow x)) l bad) := dQ_top (rtakecd_c l bad h) (by decide) (fun x g => by simp [cdrow, vrowV, AV.ren, AV.renL, Own.ren])
abbrev eTR (l : List UInt8) (bad : Bool) (out : AOut) (H' : Heap) : Prop :=
 (∃ x l', bad = false ∧ pT l = some (x, l') ∧ x.length ≤ 1048576 ∧ l'.length ≤ l.length ∧ out = .ret (.list (x.map brow) .free) ∧ H' = rr l' false) ∨ ((bad = false → pT l = none) ∧ (∃ x, out = .ret (.list x .free)) ∧ H' = rr [] true)
theorem eTbad_c (l : List UInt8) (most : Int) (h : l.length < 281474976710656) : ACalls Tryz.prog 126 1 8 [.ptr 0 0, .v (.int .i64 most)] (rr l true) (fun out H' => (∃ x, out = .ret (.list x .free)) ∧ H' = rr [] true) := by
 have hC := refRNum_c l true h
 obtain ⟨e1, e2⟩ := @bad_no 4 l
 rw [e1, e2] at hC
 refine no_implicit_lambda% (acalls_of tok dok (f := 126) ⟨Tryz.func126, rfl, by kernel_rfl⟩ ?_); refine no_implicit_lambda% (c_start (fun _ h => h) ?_)
 refine no_implicit_lambda% (awd ?_)
 refine no_implicit_lambda% (cal [0] (hC) ?_ ?_)
 ·refine no_implicit_lambda% (ret1 ?_); first | (refine no_implicit_lambda% (akc ?_)) | (refine no_implicit_lambda% (aec ?_))
  repeat' (first | (refine no_implicit_lambda% (zH ?_)) | (refine no_implicit_lambda% (spl (fun hc => ?_) (fun hc => ?_)) <;> first | exact zG hc | skip) | (refine no_implicit_lambda% (ans ?_)) | (with_reducible first | exact zI | exact zJ) | (refine no_implicit_lambda% (cal [0] (refFail_c [] true) ?_ ?_)) | fail)
  all_goals exact e_ret_to (H' := rr [] true) (rest := []) (.freeSlot 4 rfl) rfl ⟨⟨_, rfl⟩, rfl⟩ (.of_eq rfl) (LE0 rfl)
 ·first | (exact zI) | (exact zJ)
theorem eT8_c (l : List UInt8) (bad : Bool) (h : l.length < 281474976710656) : ACalls Tryz.prog 126 1 8 [.ptr 0 0, .v (.int .i64 (-1))] (rr l bad) (eTR l bad) := by
 cases bad with
 | false =>
  refine (refRText_c l (-1) h).mono fun out H' hh => ?_
  have hiff : tOk l (-1) ↔ tOk l 1048576 := by unfold tOk; omega
  rcases hh with ⟨h1, h2, h3⟩ | ⟨h1, h2, h3⟩
  ·refine .inl ⟨_, _, rfl, ?_, ?_, ?_, h2, h3⟩
   ·unfold pT; rw [if_pos (hiff.1 h1)]
   ·have := (hiff.1 h1).2.2.1 (by decide)
    rw [List.length_take]; omega
   ·rw [List.length_drop, List.length_drop]; omega
  ·exact .inr ⟨fun _ => by unfold pT; rw [if_neg (fun h => h1 (hiff.2 h))], h2, h3⟩
 | true => exact (eTbad_c l (-1) h).mono fun out H' ⟨h1, h2⟩ => .inr ⟨fun h => (by cases h), h1, h2⟩
theorem eT_c (l : List UInt8) (bad : Bool) (h : l.length < 281474976710656) : ACalls Tryz.prog 126 1 1 [.ptr 0 0, .v (.int .i64 (-1))] (rr l bad) (eTR l bad) :=
 ACalls.ren (eT8_c l bad h) (by decide) fun out H' hh => by
  rcases hh with ⟨x, l', h1, h2, h3, h4, rfl, rfl⟩ | ⟨h1, ⟨x, rfl⟩, rfl⟩
  ·refine ⟨[0], .ret (.list (x.map brow) .free), rr l' false, by decide, by decide, ids1, Nat.le_refl _, by simp [AOut.ren, ren_l], ?_, .inl ⟨x, l', h1, h2, h3, h4, rfl, rfl⟩⟩
   simp [rr, renH, Res.ren, rn, AV.ren, AV.renL, Own.ren]
  ·refine ⟨[0], .ret (.list x .free), rr [] true, by decide, by decide, ids1, Nat.le_refl _, by simp [AOut.ren, AV.ren, Own.ren], ?_, .inr ⟨h1, ⟨x, rfl⟩, rfl⟩⟩
   simp [rr, renH, Res.ren, rn, AV.ren, AV.renL, Own.ren]
def roSt (k : Nat) (s : List UInt8) (d : Cd) (cur : List UInt8) (bad : Bool) (xs : List Ch) (n : Nat) : ASt := ⟨([.ptr 0 0, .dead, .ptr 1 0, .ptr 2 0, .v (.int .i64 n)] ++ List.replicate 47 .dead), rr cur bad ++ [(2, .box ([.v (.int .i64 k), .v (.string ⟨s.toArray⟩), .v (.string ⟨#[]⟩)] ++ cdrow d ++ [.list (xs.map chrow) (.tok 3), .v (.int .i64 0)])), (3, .tok 6 xs.length), (1, .box (oqrow ⟨0, ⟨#[]⟩, ⟨#[]⟩, zCd, [], 0⟩))], 4⟩
set_option maxHeartbeats 6400000 in
theorem rtakeop_c (l : List UInt8) (bad0 : Bool) (hl : l.length < 281474976710656) : ACalls Tryz.prog 123 1 100 [.ptr 0 0] (rr l bad0) (dQ pOp OqB (fun q => .agg (oqrow q)) l bad0) := by
 refine no_implicit_lambda% (acalls_of tok dok (f := 123) ⟨Tryz.func123, rfl, by kernel_rfl⟩ ?_); refine no_implicit_lambda% (c_start (fun _ h => h) ?_)
 repeat' (first | (refine no_implicit_lambda% (zH ?_)) | (refine no_implicit_lambda% (spl (fun hc => ?_) (fun hc => ?_)) <;> first | exact zG hc | skip) | (refine no_implicit_lambda% (ans ?_)) | (with_reducible first | exact zI | exact zJ))
 ((refine no_implicit_lambda% (cal [0] (eB_c l bad0 (by omega)) ?_ ?_)); rotate_left; (focus (intro xx H' hh; obtain ⟨_, _, _, _, _, _, _, h', _⟩ := hh; cases h')); (intro xx H' hh); (obtain ⟨k, r0, b0, hk, hr0, u1, u2, h', rfl⟩ := hh); (cases h'); (first | (refine no_implicit_lambda% (akc ?_)) | (refine no_implicit_lambda% (aec ?_))))
 have hI : Iv pOp l bad0 r0 b0 (fun r => bnd (pX r) fun s r2 => opK k s r2) := ⟨fun hb => ⟨(u1 hb).1, by unfold pOp; rw [(u1 hb).2]; rfl⟩, fun hb => ⟨(u2 hb).1, fun h0 => by unfold pOp; rw [(u2 hb).2 h0]; rfl⟩⟩
 have hk2 : k < 256 := hk
 clear u1 u2 hk
 repeat' (first | (refine no_implicit_lambda% (zH ?_)) | (refine no_implicit_lambda% (spl (fun hc => ?_) (fun hc => ?_)) <;> first | exact zG hc | skip) | (refine no_implicit_lambda% (ans ?_)) | (with_reducible first | exact zI | exact zJ))
 rw [show IntKind.i64.wrap (k : Int) = (k : Int) from z64 (by omega) (by omega)]
 (((refine no_implicit_lambda% (cal [0] (eX_c r0 b0 (by omega)) ?_ ?_)); rotate_left; (focus (intro xx H' hh; obtain ⟨_, _, _, _, _, _, _, h', _⟩ := hh; cases h')); (intro xx H' hh); (obtain ⟨s, r1, b1, hs, hr1, u1, u2, h', rfl⟩ := hh); (cases h'); (first | (refine no_implicit_lambda% (akc ?_)) | (refine no_implicit_lambda% (aec ?_)))); (replace hI := hI.step u1 u2); (clear u1 u2); repeat' (first | (refine no_implicit_lambda% (zH ?_)) | (refine no_implicit_lambda% (spl (fun hc => ?_) (fun hc => ?_)) <;> first | exact zG hc | skip) | (refine no_implicit_lambda% (ans ?_)) | (with_reducible first | exact zI | exact zJ)))
 ·have hk2 : k = 2 := by have := eq_of_beq hc; omega
  subst hk2
  replace hI : Iv pOp l bad0 r1 b1 (fun r1 => bnd (pCd r1) fun d r1 => bnd (pB r1) fun n r2 => bnd (pChs n r2) fun xs r3 => some (⟨2, ⟨s.toArray⟩, ⟨#[]⟩, d, xs, 0⟩, r3)) := hI
  (((refine no_implicit_lambda% (cal [0] (eCd_c r1 b1 (by omega)) ?_ ?_)); rotate_left; (focus (intro xx H' hh; obtain ⟨_, _, _, _, _, _, _, h', _⟩ := hh; cases h')); (intro xx H' hh); (obtain ⟨d, r2, b2, hd, hr2, u1, u2, h', rfl⟩ := hh); (cases h'); (first | (refine no_implicit_lambda% (akc ?_)) | (refine no_implicit_lambda% (aec ?_)))); (replace hI := hI.step u1 u2); (clear u1 u2); repeat' (first | (refine no_implicit_lambda% (zH ?_)) | (refine no_implicit_lambda% (spl (fun hc => ?_) (fun hc => ?_)) <;> first | exact zG hc | skip) | (refine no_implicit_lambda% (ans ?_)) | (with_reducible first | exact zI | exact zJ)))
  (((refine no_implicit_lambda% (cal [0] (eB_c r2 b2 (by omega)) ?_ ?_)); rotate_left; (focus (intro xx H' hh; obtain ⟨_, _, _, _, _, _, _, h', _⟩ := hh; cases h')); (intro xx H' hh); (obtain ⟨n, r3, b3, hn, hr3, u1, u2, h', rfl⟩ := hh); (cases h'); (first | (refine no_implicit_lambda% (akc ?_)) | (refine no_implicit_lambda% (aec ?_)))); (replace hI := hI.step u1 u2); (clear u1 u2); repeat' (first | (refine no_implicit_lambda% (zH ?_)) | (refine no_implicit_lambda% (spl (fun hc => ?_) (fun hc => ?_)) <;> first | exact zG hc | skip) | (refine no_implicit_lambda% (ans ?_)) | (with_reducible first | exact zI | exact zJ)))
  have hn2 : n < 256 := hn
  rw [show IntKind.i64.wrap (n : Int) = (n : Int) from z64 (by omega) (by omega)]
  refine c_l4 (fun cur bad xs n => roSt 2 s d cur bad xs n) (fun cur bad xs n => cur.length ≤ l.length ∧ xs.length + n ≤ 255 ∧ (∀ x ∈ xs, ChB x) ∧ Iv pOp l bad0 cur bad (fun r => bnd (pChs n r) fun ys r3 => some (⟨2, ⟨s.toArray⟩, ⟨#[]⟩, d, xs ++ ys, 0⟩, r3))) (fun _ _ _ n => n) r3 b3 [] n ⟨by omega, by simp; omega, (fun x hx => by cases hx), hI⟩ ((Conv.tokBox (id := 2) (j := 9) (sz := 6) (rows := []) rfl rfl (by simp)).trans ?_) ?_
  ·(refine no_implicit_lambda% (Conv.toT ?_ ?_ (LE0 rfl))); (focus ((unfold roSt); (try dsimp only); exact wkl)); (focus ((unfold roSt); (try dsimp only); exact wkh))
  ·rintro cur bad xs n ⟨g1, g2, g3, hI⟩
   refine c_turn (n' := 4) (fun _ h => h) (fun _ h => h) rfl ?_
   cases bad with
   | true =>
    obtain rfl := (hI.2 rfl).1
    repeat' (first | (refine no_implicit_lambda% (zH ?_)) | (refine no_implicit_lambda% (spl (fun hc => ?_) (fun hc => ?_)) <;> first | exact zG hc | skip) | (refine no_implicit_lambda% (ans ?_)) | (with_reducible first | exact zI | exact zJ))
    all_goals (refine e_ret_to (H' := rr ([] : List UInt8) true) (rest := [(2, .box (oqrow ((⟨2, ⟨s.toArray⟩, ⟨#[]⟩, d, xs, 0⟩ : Oq)))), (1, .box (oqrow ((⟨2, ⟨s.toArray⟩, ⟨#[]⟩, d, xs, 0⟩ : Oq))))]) (Conv.toT (τ := ⟨_, [(0, .box [.list ((([] : List UInt8)).map brow) .free, .v (.bool true)]), (2, .box (oqrow ((⟨2, ⟨s.toArray⟩, ⟨#[]⟩, d, xs, 0⟩ : Oq)))), (1, .box (oqrow ((⟨2, ⟨s.toArray⟩, ⟨#[]⟩, d, xs, 0⟩ : Oq))))], _⟩) (.refl _) ?_ (Nat.le_refl _)) rfl ⟨((⟨2, ⟨s.toArray⟩, ⟨#[]⟩, d, xs, 0⟩ : Oq)), ([] : List UInt8), true, ⟨(show xs.length ≤ 255 by omega), hd, g3⟩, by omega, (fun h => by cases h), hI.2, rfl, rfl⟩ permT (LE0 rfl); exact wkh)
   | false =>
    rcases n with _ | n
    ·replace hI : Iv pOp l bad0 cur false (fun r => some (⟨2, ⟨s.toArray⟩, ⟨#[]⟩, d, xs ++ [], 0⟩, r)) := hI
     rw [List.append_nil] at hI
     repeat' (first | (refine no_implicit_lambda% (zH ?_)) | (refine no_implicit_lambda% (spl (fun hc => ?_) (fun hc => ?_)) <;> first | exact zG hc | skip) | (refine no_implicit_lambda% (ans ?_)) | (with_reducible first | exact zI | exact zJ))
     (refine e_ret_to (H' := rr cur false) (rest := [(2, .box (oqrow ((⟨2, ⟨s.toArray⟩, ⟨#[]⟩, d, xs, 0⟩ : Oq)))), (1, .box (oqrow ((⟨2, ⟨s.toArray⟩, ⟨#[]⟩, d, xs, 0⟩ : Oq))))]) (Conv.toT (τ := ⟨_, [(0, .box [.list ((cur).map brow) .free, .v (.bool false)]), (2, .box (oqrow ((⟨2, ⟨s.toArray⟩, ⟨#[]⟩, d, xs, 0⟩ : Oq)))), (1, .box (oqrow ((⟨2, ⟨s.toArray⟩, ⟨#[]⟩, d, xs, 0⟩ : Oq))))], _⟩) (.refl _) ?_ (Nat.le_refl _)) rfl ⟨((⟨2, ⟨s.toArray⟩, ⟨#[]⟩, d, xs, 0⟩ : Oq)), cur, false, ⟨(show xs.length ≤ 255 by omega), hd, g3⟩, by omega, hI.1, hI.2, rfl, rfl⟩ permT (LE0 rfl); exact wkh)
    ·replace hI : Iv pOp l bad0 cur false (fun r => bnd (pCh r) fun x r1 => bnd (pChs n r1) fun ys r3 => some (⟨2, ⟨s.toArray⟩, ⟨#[]⟩, d, (xs ++ [x]) ++ ys, 0⟩, r3)) := by
      have he : (fun r => bnd (pChs (n + 1) r) fun ys r3 => some ((⟨2, ⟨s.toArray⟩, ⟨#[]⟩, d, xs ++ ys, 0⟩ : Oq), r3)) = (fun r => bnd (pCh r) fun x r1 => bnd (pChs n r1) fun ys r3 => some ((⟨2, ⟨s.toArray⟩, ⟨#[]⟩, d, (xs ++ [x]) ++ ys, 0⟩ : Oq), r3)) := by
       funext r
       show bnd (bnd (pCh r) fun x r => bnd (pChs n r) fun xs r2 => some (x :: xs, r2)) _ = _
       simp only [bnd_assoc, bnd_some, List.append_assoc, List.singleton_append]
      rw [he] at hI
      exact hI
     repeat' (first | (refine no_implicit_lambda% (zH ?_)) | (refine no_implicit_lambda% (spl (fun hc => ?_) (fun hc => ?_)) <;> first | exact zG hc | skip) | (refine no_implicit_lambda% (ans ?_)) | (with_reducible first | exact zI | exact zJ))
     (((refine no_implicit_lambda% (cal [0] (eCh_c cur false (by omega)) ?_ ?_)); rotate_left; (focus (intro xx H' hh; obtain ⟨_, _, _, _, _, _, _, h', _⟩ := hh; cases h')); (intro xx H' hh); (obtain ⟨x, r4, b4, hx, hr4, u1, u2, h', rfl⟩ := hh); (cases h'); (first | (refine no_implicit_lambda% (akc ?_)) | (refine no_implicit_lambda% (aec ?_)))); (replace hI := hI.step u1 u2); (clear u1 u2); repeat' (first | (refine no_implicit_lambda% (zH ?_)) | (refine no_implicit_lambda% (spl (fun hc => ?_) (fun hc => ?_)) <;> first | exact zG hc | skip) | (refine no_implicit_lambda% (ans ?_)) | (with_reducible first | exact zI | exact zJ)))
     rw [show IntKind.i64.wrap (((n + 1 : Nat) : Int) - 1) = (n : Int) by rw [z64 (by omega) (by omega)]; omega]
     (refine no_implicit_lambda% (k_loopLT (((r4, b4, xs ++ [x], n) : List UInt8 × Bool × List Ch × Nat)) 1 (List.range 4) (by
      show r4.length ≤ l.length ∧ (xs ++ [x]).length + n ≤ 255 ∧ (∀ y ∈ xs ++ [x], ChB y) ∧ Iv pOp l bad0 r4 b4 (fun r => bnd (pChs n r) fun ys r3 => some (⟨2, ⟨s.toArray⟩, ⟨#[]⟩, d, (xs ++ [x]) ++ ys, 0⟩, r3))
      refine ⟨by omega, by rw [List.length_append]; simp; omega, fun y hy => ?_, hI⟩
      rcases List.mem_append.1 hy with hy | hy
      ·exact g3 y hy
      ·rw [List.mem_singleton.1 hy]; exact hx) (by first | omega | (simp; done) | (simp; omega)) (LE0 rfl) (fun _ h => h) (fun _ h => h) ?_ ?_)); (focus ((try dsimp only); exact wkl)); (focus ((try dsimp only); exact wkh))
 ·have hk3 : k = 3 := by have := eq_of_beq hc; omega
  subst hk3
  replace hI : Iv pOp l bad0 r1 b1 (fun r1 => bnd (pX r1) fun h r1 => bnd (pB r1) fun m r2 => some (⟨3, ⟨s.toArray⟩, ⟨h.toArray⟩, zCd, [], m⟩, r2)) := hI
  (((refine no_implicit_lambda% (cal [0] (eX_c r1 b1 (by omega)) ?_ ?_)); rotate_left; (focus (intro xx H' hh; obtain ⟨_, _, _, _, _, _, _, h', _⟩ := hh; cases h')); (intro xx H' hh); (obtain ⟨h, r2, b2, hh, hr2, u1, u2, h', rfl⟩ := hh); (cases h'); (first | (refine no_implicit_lambda% (akc ?_)) | (refine no_implicit_lambda% (aec ?_)))); (replace hI := hI.step u1 u2); (clear u1 u2); repeat' (first | (refine no_implicit_lambda% (zH ?_)) | (refine no_implicit_lambda% (spl (fun hc => ?_) (fun hc => ?_)) <;> first | exact zG hc | skip) | (refine no_implicit_lambda% (ans ?_)) | (with_reducible first | exact zI | exact zJ)))
  (((refine no_implicit_lambda% (cal [0] (eB_c r2 b2 (by omega)) ?_ ?_)); rotate_left; (focus (intro xx H' hh; obtain ⟨_, _, _, _, _, _, _, h', _⟩ := hh; cases h')); (intro xx H' hh); (obtain ⟨m, r3, b3, hm, hr3, u1, u2, h', rfl⟩ := hh); (cases h'); (first | (refine no_implicit_lambda% (akc ?_)) | (refine no_implicit_lambda% (aec ?_)))); (replace hI := hI.step u1 u2); (clear u1 u2); repeat' (first | (refine no_implicit_lambda% (zH ?_)) | (refine no_implicit_lambda% (spl (fun hc => ?_) (fun hc => ?_)) <;> first | exact zG hc | skip) | (refine no_implicit_lambda% (ans ?_)) | (with_reducible first | exact zI | exact zJ)))
  have hm2 : m < 256 := hm
  rw [show IntKind.i64.wrap (m : Int) = (m : Int) from z64 (by omega) (by omega)]
  (refine e_ret_to (H' := rr r3 b3) (rest := [(2, .box (oqrow ((⟨3, ⟨s.toArray⟩, ⟨h.toArray⟩, zCd, [], m⟩ : Oq)))), (1, .box (oqrow ((⟨3, ⟨s.toArray⟩, ⟨h.toArray⟩, zCd, [], m⟩ : Oq))))]) (Conv.toT (τ := ⟨_, [(0, .box [.list ((r3).map brow) .free, .v (.bool b3)]), (2, .box (oqrow ((⟨3, ⟨s.toArray⟩, ⟨h.toArray⟩, zCd, [], m⟩ : Oq)))), (1, .box (oqrow ((⟨3, ⟨s.toArray⟩, ⟨h.toArray⟩, zCd, [], m⟩ : Oq))))], _⟩) (.refl _) ?_ (Nat.le_refl _)) rfl ⟨((⟨3, ⟨s.toArray⟩, ⟨h.toArray⟩, zCd, [], m⟩ : Oq)), r3, b3, ⟨Nat.zero_le _, zCd_B, (fun x hx => by cases hx)⟩, by omega, hI.1, hI.2, rfl, rfl⟩ permT (LE0 rfl); exact wkh)
 ·have hk2 : k ≠ 2 := by intro h; subst h; simp at *
  have hk3 : k ≠ 3 := by intro h; subst h; simp at *
  replace hI : Iv pOp l bad0 r1 b1 (fun r1 => some (⟨k, ⟨s.toArray⟩, ⟨#[]⟩, zCd, [], 0⟩, r1)) := by
   have he : (fun r1 => opK k s r1) = (fun r1 => some ((⟨k, ⟨s.toArray⟩, ⟨#[]⟩, zCd, [], 0⟩ : Oq), r1)) := by funext r; unfold opK; rw [if_neg hk2, if_neg hk3]
   rw [← he]; exact hI
  (refine e_ret_to (H' := rr r1 b1) (rest := [(2, .box (oqrow ((⟨k, ⟨s.toArray⟩, ⟨#[]⟩, zCd, [], 0⟩ : Oq)))), (1, .box (oqrow ((⟨k, ⟨s.toArray⟩, ⟨#[]⟩, zCd, [], 0⟩ : Oq))))]) (Conv.toT (τ := ⟨_, [(0, .box [.list ((r1).map brow) .free, .v (.bool b1)]), (2, .box (oqrow ((⟨k, ⟨s.toArray⟩, ⟨#[]⟩, zCd, [], 0⟩ : Oq)))), (1, .box (oqrow ((⟨k, ⟨s.toArray⟩, ⟨#[]⟩, zCd, [], 0⟩ : Oq))))], _⟩) (.refl _) ?_ (Nat.le_refl _)) rfl ⟨((⟨k, ⟨s.toArray⟩, ⟨#[]⟩, zCd, [], 0⟩ : Oq)), r1, b1, ⟨Nat.zero_le _, zCd_B, (fun x hx => by cases hx)⟩, by omega, hI.1, hI.2, rfl, rfl⟩ permT (LE0 rfl); exact wkh)
theorem rspan_c (l : List UInt8) (bad0 : Bool) (hl : l.length < 281474976710656) : ACalls Tryz.prog 124 1 100 [.ptr 0 0] (rr l bad0) (dQ pSr (fun _ => True) (fun s => .agg (snrow s)) l bad0) := by
 refine no_implicit_lambda% (acalls_of tok dok (f := 124) ⟨Tryz.func124, rfl, by kernel_rfl⟩ ?_); refine no_implicit_lambda% (c_start (fun _ h => h) ?_)
 repeat' (first | (refine no_implicit_lambda% (zH ?_)) | (refine no_implicit_lambda% (spl (fun hc => ?_) (fun hc => ?_)) <;> first | exact zG hc | skip) | (refine no_implicit_lambda% (ans ?_)) | (with_reducible first | exact zI | exact zJ))
 ((refine no_implicit_lambda% (cal [0] (eX_c l bad0 (by omega)) ?_ ?_)); rotate_left; (focus (intro xx H' hh; obtain ⟨_, _, _, _, _, _, _, h', _⟩ := hh; cases h')); (intro xx H' hh); (obtain ⟨a, r0, b0, ha, hr0, u1, u2, h', rfl⟩ := hh); (cases h'); (first | (refine no_implicit_lambda% (akc ?_)) | (refine no_implicit_lambda% (aec ?_))))
 have hI : Iv pSr l bad0 r0 b0 (fun r => bnd (pX r) fun b r2 => some (⟨⟨a.toArray⟩, ⟨b.toArray⟩⟩, r2)) := ⟨fun hb => ⟨(u1 hb).1, by unfold pSr; rw [(u1 hb).2]; rfl⟩, fun hb => ⟨(u2 hb).1, fun h0 => by unfold pSr; rw [(u2 hb).2 h0]; rfl⟩⟩
 clear u1 u2
 repeat' (first | (refine no_implicit_lambda% (zH ?_)) | (refine no_implicit_lambda% (spl (fun hc => ?_) (fun hc => ?_)) <;> first | exact zG hc | skip) | (refine no_implicit_lambda% (ans ?_)) | (with_reducible first | exact zI | exact zJ))
 (((refine no_implicit_lambda% (cal [0] (eX_c r0 b0 (by omega)) ?_ ?_)); rotate_left; (focus (intro xx H' hh; obtain ⟨_, _, _, _, _, _, _, h', _⟩ := hh; cases h')); (intro xx H' hh); (obtain ⟨b, r1, b1, hb, hr1, u1, u2, h', rfl⟩ := hh); (cases h'); (first | (refine no_implicit_lambda% (akc ?_)) | (refine no_implicit_lambda% (aec ?_)))); (replace hI := hI.step u1 u2); (clear u1 u2); repeat' (first | (refine no_implicit_lambda% (zH ?_)) | (refine no_implicit_lambda% (spl (fun hc => ?_) (fun hc => ?_)) <;> first | exact zG hc | skip) | (refine no_implicit_lambda% (ans ?_)) | (with_reducible first | exact zI | exact zJ)))
 refine e_ret_to (H' := rr r1 b1) (rest := [(2, .box (snrow ⟨⟨a.toArray⟩, ⟨b.toArray⟩⟩)), (1, .box (snrow ⟨⟨a.toArray⟩, ⟨b.toArray⟩⟩))]) (Conv.toT (τ := ⟨_, [(0, .box [.list (r1.map brow) .free, .v (.bool b1)]), (2, .box (snrow ⟨⟨a.toArray⟩, ⟨b.toArray⟩⟩)), (1, .box (snrow ⟨⟨a.toArray⟩, ⟨b.toArray⟩⟩))], _⟩) (.refl _) ?_ (Nat.le_refl _)) rfl ⟨⟨⟨a.toArray⟩, ⟨b.toArray⟩⟩, r1, b1, trivial, by omega, hI.1, hI.2, rfl, rfl⟩ permT (LE0 rfl)
 exact wkh
end Go.Proofs.YtncffhgoopdfgaaGreat
namespace Go.Proofs.YtncffhgoopdfgaaGreat
open Go.Am
set_option maxRecDepth 100000
noncomputable def cmQ (k : Nat) (r : List UInt8) : Option (Cm × List UInt8) :=
 if k = 1 then bnd (pOp r) fun q r1 => some (⟨1, q, zSn, 0, ⟨#[]⟩, 0, 0, []⟩, r1) else
 if k = 2 ∨ k = 4 then bnd (pSr r) fun s r1 => bnd (pN r1) fun g r2 => some (⟨k, zOp, s, g, ⟨#[]⟩, 0, 0, []⟩, r2) else
 if k = 3 then bnd (pSr r) fun s r1 => bnd (pN r1) fun g r2 => bnd (pT r2) fun t r3 => some (⟨3, zOp, s, g, ⟨#[]⟩, 0, 0, t⟩, r3) else
 if k = 5 ∨ k = 6 then bnd (pSr r) fun s r1 => bnd (pN r1) fun g r2 => bnd (pX r2) fun a r3 => some (⟨k, zOp, s, g, ⟨a.toArray⟩, 0, 0, []⟩, r3) else
 if k = 7 then bnd (pX r) fun a r1 => some (⟨7, zOp, zSn, 0, ⟨a.toArray⟩, 0, 0, []⟩, r1) else
 if k = 8 then bnd (pB r) fun d r1 => (if d = 0 then some (⟨8, zOp, zSn, 0, ⟨#[]⟩, 0, 0, []⟩, r1) else bnd (pX r1) fun a r2 => bnd (pB r2) fun t r3 => some (⟨8, zOp, zSn, 0, ⟨a.toArray⟩, t, d, []⟩, r3)) else
 if k = 9 then bnd (pN r) fun g r1 => bnd (pB r1) fun t r2 => some (⟨9, zOp, zSn, g, ⟨#[]⟩, -(t : Int), 0, []⟩, r2) else
 some (⟨k, zOp, zSn, 0, ⟨#[]⟩, 0, 0, []⟩, r)
noncomputable def pRw (l : List UInt8) : Option (Cm × List UInt8) := bnd (pB l) cmQ
theorem pCm_raw (l : List UInt8) : pCm l = bnd (pRw l) cmR := by
 unfold pCm pRw
 rw [bnd_assoc]
 refine congrArg (bnd (pB l)) ?_
 funext k r
 unfold cmP cmQ
 repeat' split
 all_goals simp only [bnd_assoc, bnd_some]
 refine congrArg (bnd (pB r)) ?_
 funext d r1
 split
 ·rfl
 ·simp only [bnd_assoc, bnd_some]
noncomputable def pDec (l : List UInt8) : Option Cm := bnd (pCm l) fun c r => if r = [] then some c else none
def cm0 : Cm := ⟨0, zOp, zSn, 0, ⟨#[]⟩, 0, 0, []⟩
noncomputable def dOut (l : List UInt8) : AOut := match pDec l with
 | some c => .ret (.tuple [.agg (cmrow c), .v (.bool true)])
 | none => .ret (.tuple [.agg (cmrow cm0), .v (.bool false)])
theorem dOut_no {l : List UInt8} (h : pRw l = none) : dOut l = .ret (.tuple [.agg (cmrow cm0), .v (.bool false)]) := by
 unfold dOut pDec
 rw [pCm_raw, h]; rfl
theorem dOut_bad {l cur : List UInt8} {c : Cm} (h : pRw l = some (c, cur)) (hb : cur ≠ [] ∨ cmB c = false) : dOut l = .ret (.tuple [.agg (cmrow cm0), .v (.bool false)]) := by
 unfold dOut pDec
 rw [pCm_raw, h, bnd_some]
 unfold cmR
 rcases hB : cmB c with _ | _
 ·rfl
 ·rw [if_pos rfl, bnd_some, if_neg (hb.resolve_right (by rw [hB]; simp))]
theorem dOut_ok {l : List UInt8} {c : Cm} (h : pRw l = some (c, [])) (hb : cmB c = true) : dOut l = .ret (.tuple [.agg (cmrow c), .v (.bool true)]) := by
 unfold dOut pDec
 rw [pCm_raw, h, bnd_some]
 unfold cmR
 rw [if_pos hb]; rfl
def rd8St : Option (Cm × List UInt8) → ASt
 | some (c, cur) => ⟨([.dead, .dead, .ptr 0 0, .dead, .ptr 1 0, .ptr 2 0] ++ List.replicate 91 .dead), [(1, .box [.list (cur.map brow) .free, .v (.bool false)]), (2, .box (cmrow c)), (0, .box (cmrow cm0))], 3⟩
 | none => ⟨([.dead, .dead, .ptr 0 0, .dead, .ptr 1 0, .ptr 2 0] ++ List.replicate 91 .dead), [(1, .box [.list [] .free, .v (.bool true)]), (2, .box (List.replicate 19 .dead)), (0, .box (cmrow cm0))], 3⟩
theorem rtakeop_d (l : List UInt8) (bad : Bool) (hl : l.length < 281474976710656) : ACalls Tryz.prog 123 1 1 [.ptr 0 0] (rr l bad) (dQ pOp OqB (fun q => .agg (oqrow q)) l bad) := dQ_top (rtakeop_c l bad hl) (by decide) (fun x g => by simp [oqrow, cdrow, vrowV, AV.ren, AV.renL, Own.ren])
theorem rspan_d (l : List UInt8) (bad : Bool) (hl : l.length < 281474976710656) : ACalls Tryz.prog 124 1 1 [.ptr 0 0] (rr l bad) (dQ pSr (fun _ => True) (fun s => .agg (snrow s)) l bad) := dQ_top (rspan_c l bad hl) (by decide) (fun x g => rfl)
set_option maxHeartbeats 6400000 in
theorem rdecode_c (l : List UInt8) (hl : l.length < 281474976710656) : ACalls Tryz.prog 47 0 10000 [.list (l.map brow) .free] [] (fun out H' => out = dOut l ∧ H' = []) := by
 refine no_implicit_lambda% (acalls_of tok dok (f := 47) ⟨Tryz.func47, rfl, by kernel_rfl⟩ ?_); refine no_implicit_lambda% (c_start (fun _ h => h) ?_)
 repeat' (first | (refine no_implicit_lambda% (sx1 ?_)) | (refine no_implicit_lambda% (spl (fun hc => ?_) (fun hc => ?_)) <;> first | exact zG hc | skip) | fail)
 refine k_seq ?_
 repeat' (first | (refine no_implicit_lambda% (sx1 ?_)) | (refine no_implicit_lambda% (spl (fun hc => ?_) (fun hc => ?_)) <;> first | exact zG hc | skip) | fail)
 refine k_seq ?_
 repeat' (first | (refine no_implicit_lambda% (sx1 ?_)) | (refine no_implicit_lambda% (spl (fun hc => ?_) (fun hc => ?_)) <;> first | exact zG hc | skip) | fail)
 ((refine no_implicit_lambda% (cal [1] (eB_c l false (by omega)) ?_ ?_)); rotate_left; (focus (intro xx H' hh; obtain ⟨_, _, _, _, _, _, _, h', _⟩ := hh; cases h')); (intro xx H' hh); (obtain ⟨k, r0, b0, hk, hr0, u1, u2, h', rfl⟩ := hh); (cases h'); (first | (refine no_implicit_lambda% (akc ?_)) | (refine no_implicit_lambda% (aec ?_))))
 have hk2 : k < 256 := hk
 clear hk
 repeat' (first | (refine no_implicit_lambda% (sx1 ?_)) | (refine no_implicit_lambda% (spl (fun hc => ?_) (fun hc => ?_)) <;> first | exact zG hc | skip) | fail)
 rw [show IntKind.i64.wrap (k : Int) = (k : Int) from z64 (by omega) (by omega)]
 refine k_seq ?_
 repeat' (first | (refine no_implicit_lambda% (sx1 ?_)) | (refine no_implicit_lambda% (spl (fun hc => ?_) (fun hc => ?_)) <;> first | exact zG hc | skip) | fail)
 refine k_seq ?_
 have hI : Iv pRw l false r0 b0 (cmQ k) := ⟨fun hb => ⟨rfl, by unfold pRw; rw [(u1 hb).2]; rfl⟩, fun hb => ⟨(u2 hb).1, fun h0 => by unfold pRw; rw [(u2 hb).2 h0]; rfl⟩⟩
 clear u1 u2
 refine c_cutR rd8St (fun o => match o with | some (c, cur) => pRw l = some (c, cur) ∧ CmOk c ∧ cur.length ≤ l.length | none => dOut l = .ret (.tuple [.agg (cmrow cm0), .v (.bool false)])) ?_ ?_
 ·rintro (_ | ⟨c, cur⟩) hC
  ·refine c_turn (n' := 3) (fun _ h => h) (fun _ h => h) rfl ?_
   repeat' (first | (refine no_implicit_lambda% (zH ?_)) | (refine no_implicit_lambda% (spl (fun hc => ?_) (fun hc => ?_)) <;> first | exact zG hc | skip) | (refine no_implicit_lambda% (ans ?_)) | (with_reducible first | exact zI | exact zJ) | (refine no_implicit_lambda% (cal [1] (refWhole_c [] true) ?_ ?_)) | fail)
   refine e_ret_to (H' := []) (rest := [(1, .box [.list [] .free, .v (.bool true)]), (2, .box (List.replicate 19 .dead)), (0, .box (cmrow cm0))]) (Conv.toT (τ := ⟨_, [(1, .box [.list [] .free, .v (.bool true)]), (2, .box (List.replicate 19 .dead)), (0, .box (cmrow cm0))], _⟩) (.refl _) ?_ (Nat.le_refl _)) rfl ⟨(show dOut l = _ from hC).symm, rfl⟩ permT (LE0 rfl)
   exact wkh
  ·obtain ⟨hp, hok, hcl⟩ := hC
   refine c_turn (n' := 3) (fun _ h => h) (fun _ h => h) rfl ?_
   have hcr := (rcright_c c (Nat.lt_of_le_of_lt hok.1.1 (show 255 < 1000000000000 by decide))).top0
   rcases cur with _ | ⟨u, cur⟩
   ·have hw := refWhole_c [] false
    rcases hB : cmB c with _ | _
    ·(try rw [hB] at hcr)
     repeat' (first | (refine no_implicit_lambda% (zH ?_)) | (refine no_implicit_lambda% (spl (fun hc => ?_) (fun hc => ?_)) <;> first | exact zG hc | skip) | (refine no_implicit_lambda% (ans ?_)) | (with_reducible first | exact zI | exact zJ) | (refine no_implicit_lambda% (cal [1] (hw) ?_ ?_)) | (refine no_implicit_lambda% (cal [] (hcr) ?_ ?_)) | fail)
     (refine e_ret_to (H' := []) (rest := [(1, .box [.list ((([] : List UInt8)).map brow) .free, .v (.bool false)]), (2, .box (cmrow c)), (0, .box (cmrow cm0))]) (Conv.toT (τ := ⟨_, [(1, .box [.list ((([] : List UInt8)).map brow) .free, .v (.bool false)]), (2, .box (cmrow c)), (0, .box (cmrow cm0))], _⟩) (.refl _) ?_ (Nat.le_refl _)) rfl ⟨(dOut_bad hp (.inr hB)).symm, rfl⟩ permT (LE0 rfl); exact wkh)
    ·(try rw [hB] at hcr)
     repeat' (first | (refine no_implicit_lambda% (zH ?_)) | (refine no_implicit_lambda% (spl (fun hc => ?_) (fun hc => ?_)) <;> first | exact zG hc | skip) | (refine no_implicit_lambda% (ans ?_)) | (with_reducible first | exact zI | exact zJ) | (refine no_implicit_lambda% (cal [1] (hw) ?_ ?_)) | (refine no_implicit_lambda% (cal [] (hcr) ?_ ?_)) | fail)
     exact e_ret (H' := []) (rest := _) rfl ⟨(dOut_ok hp hB).symm, rfl⟩ permT (LE0 rfl)
   ·have hw := refWhole_c (u :: cur) false
    rw [show (!false && decide ((((u :: cur).map brow).length : Int) = 0)) = false by rw [decide_eq_false (by rw [List.length_map, List.length_cons]; omega)]; rfl] at hw
    repeat' (first | (refine no_implicit_lambda% (zH ?_)) | (refine no_implicit_lambda% (spl (fun hc => ?_) (fun hc => ?_)) <;> first | exact zG hc | skip) | (refine no_implicit_lambda% (ans ?_)) | (with_reducible first | exact zI | exact zJ) | (refine no_implicit_lambda% (cal [1] (hw) ?_ ?_)) | fail)
    (refine e_ret_to (H' := []) (rest := [(1, .box [.list (((u :: cur)).map brow) .free, .v (.bool false)]), (2, .box (cmrow c)), (0, .box (cmrow cm0))]) (Conv.toT (τ := ⟨_, [(1, .box [.list (((u :: cur)).map brow) .free, .v (.bool false)]), (2, .box (cmrow c)), (0, .box (cmrow cm0))], _⟩) (.refl _) ?_ (Nat.le_refl _)) rfl ⟨(dOut_bad hp (.inl (by simp))).symm, rfl⟩ permT (LE0 rfl); exact wkh)
 ·intro Kx kN kP kR kE
  have hk10 : k = 1 ∨ k = 2 ∨ k = 4 ∨ k = 3 ∨ k = 5 ∨ k = 6 ∨ k = 7 ∨ k = 8 ∨ k = 9 ∨ (k ≠ 1 ∧ k ≠ 2 ∧ k ≠ 3 ∧ k ≠ 4 ∧ k ≠ 5 ∧ k ≠ 6 ∧ k ≠ 7 ∧ k ≠ 8 ∧ k ≠ 9) := by omega
  rcases hk10 with rfl | rfl | rfl | rfl | rfl | rfl | rfl | rfl | rfl | hno
  ·replace hI : Iv pRw l false r0 b0 (fun r => bnd (pOp r) fun q r1 => some (⟨1, q, zSn, 0, ⟨#[]⟩, 0, 0, []⟩, r1)) := hI
   repeat' (first | (refine no_implicit_lambda% (zH ?_)) | (refine no_implicit_lambda% (spl (fun hc => ?_) (fun hc => ?_)) <;> first | exact zG hc | skip) | (refine no_implicit_lambda% (ans ?_)) | (with_reducible first | exact zI | exact zJ))
   (((refine no_implicit_lambda% (cal [1] (rtakeop_d r0 b0 (by omega)) ?_ ?_)); rotate_left; (focus (intro xx H' hh; obtain ⟨_, _, _, _, _, _, _, h', _⟩ := hh; cases h')); (intro xx H' hh); (obtain ⟨q, r1, b1, hq, hr1, u1, u2, h', rfl⟩ := hh); (cases h'); (first | (refine no_implicit_lambda% (akc ?_)) | (refine no_implicit_lambda% (aec ?_)))); (replace hI := hI.step u1 u2); (clear u1 u2); repeat' (first | (refine no_implicit_lambda% (zH ?_)) | (refine no_implicit_lambda% (spl (fun hc => ?_) (fun hc => ?_)) <;> first | exact zG hc | skip) | (refine no_implicit_lambda% (ans ?_)) | (with_reducible first | exact zI | exact zJ)))
   ((rcases b1 with _ | _); (focus ((refine kN (some ((⟨1, q, zSn, 0, ⟨#[]⟩, 0, 0, []⟩ : Cm), r1)) _ _ _ ⟨(hI.1 rfl).2, (q_ok hq), by omega⟩ (.inl ?_)); (refine no_implicit_lambda% (Conv.toT ?_ ?_ (LE0 rfl))); (focus ((unfold rd8St); (try dsimp only); exact wkl)); (focus ((unfold rd8St); (try dsimp only); exact wkh)))); (focus ((obtain rfl := (hI.2 rfl).1); (refine kN none _ _ _ (dOut_no ((hI.2 rfl).2 rfl)) (.inl ?_)); (refine no_implicit_lambda% (Conv.toT ?_ ?_ (LE0 rfl))); (focus ((unfold rd8St); (try dsimp only); exact wkl)); (focus ((unfold rd8St); (try dsimp only); exact wkh)))))
  ·replace hI : Iv pRw l false r0 b0 (fun r => bnd (pSr r) fun s r1 => bnd (pN r1) fun g r2 => some (⟨2, zOp, s, g, ⟨#[]⟩, 0, 0, []⟩, r2)) := hI
   repeat' (first | (refine no_implicit_lambda% (zH ?_)) | (refine no_implicit_lambda% (spl (fun hc => ?_) (fun hc => ?_)) <;> first | exact zG hc | skip) | (refine no_implicit_lambda% (ans ?_)) | (with_reducible first | exact zI | exact zJ))
   (((refine no_implicit_lambda% (cal [1] (rspan_d r0 b0 (by omega)) ?_ ?_)); rotate_left; (focus (intro xx H' hh; obtain ⟨_, _, _, _, _, _, _, h', _⟩ := hh; cases h')); (intro xx H' hh); (obtain ⟨s, r1, b1, hs, hr1, u1, u2, h', rfl⟩ := hh); (cases h'); (first | (refine no_implicit_lambda% (akc ?_)) | (refine no_implicit_lambda% (aec ?_)))); (replace hI := hI.step u1 u2); (clear u1 u2); repeat' (first | (refine no_implicit_lambda% (zH ?_)) | (refine no_implicit_lambda% (spl (fun hc => ?_) (fun hc => ?_)) <;> first | exact zG hc | skip) | (refine no_implicit_lambda% (ans ?_)) | (with_reducible first | exact zI | exact zJ)))
   (((refine no_implicit_lambda% (cal [1] (eN_c r1 b1 (by omega)) ?_ ?_)); rotate_left; (focus (intro xx H' hh; obtain ⟨_, _, _, _, _, _, _, h', _⟩ := hh; cases h')); (intro xx H' hh); (obtain ⟨g, r2, b2, hg, hr2, u1, u2, h', rfl⟩ := hh); (cases h'); (first | (refine no_implicit_lambda% (akc ?_)) | (refine no_implicit_lambda% (aec ?_)))); (replace hI := hI.step u1 u2); (clear u1 u2); repeat' (first | (refine no_implicit_lambda% (zH ?_)) | (refine no_implicit_lambda% (spl (fun hc => ?_) (fun hc => ?_)) <;> first | exact zG hc | skip) | (refine no_implicit_lambda% (ans ?_)) | (with_reducible first | exact zI | exact zJ)))
   have hg2 : g < 4294967296 := hg
   rw [show IntKind.i64.wrap (g : Int) = (g : Int) from z64 (by omega) (by omega)]
   ((rcases b2 with _ | _); (focus ((refine kN (some ((⟨2, zOp, s, g, ⟨#[]⟩, 0, 0, []⟩ : Cm), r2)) _ _ _ ⟨(hI.1 rfl).2, z_ok, by omega⟩ (.inl ?_)); (refine no_implicit_lambda% (Conv.toT ?_ ?_ (LE0 rfl))); (focus ((unfold rd8St); (try dsimp only); exact wkl)); (focus ((unfold rd8St); (try dsimp only); exact wkh)))); (focus ((obtain rfl := (hI.2 rfl).1); (refine kN none _ _ _ (dOut_no ((hI.2 rfl).2 rfl)) (.inl ?_)); (refine no_implicit_lambda% (Conv.toT ?_ ?_ (LE0 rfl))); (focus ((unfold rd8St); (try dsimp only); exact wkl)); (focus ((unfold rd8St); (try dsimp only); exact wkh)))))
  ·replace hI : Iv pRw l false r0 b0 (fun r => bnd (pSr r) fun s r1 => bnd (pN r1) fun g r2 => some (⟨4, zOp, s, g, ⟨#[]⟩, 0, 0, []⟩, r2)) := hI
   repeat' (first | (refine no_implicit_lambda% (zH ?_)) | (refine no_implicit_lambda% (spl (fun hc => ?_) (fun hc => ?_)) <;> first | exact zG hc | skip) | (refine no_implicit_lambda% (ans ?_)) | (with_reducible first | exact zI | exact zJ))
   (((refine no_implicit_lambda% (cal [1] (rspan_d r0 b0 (by omega)) ?_ ?_)); rotate_left; (focus (intro xx H' hh; obtain ⟨_, _, _, _, _, _, _, h', _⟩ := hh; cases h')); (intro xx H' hh); (obtain ⟨s, r1, b1, hs, hr1, u1, u2, h', rfl⟩ := hh); (cases h'); (first | (refine no_implicit_lambda% (akc ?_)) | (refine no_implicit_lambda% (aec ?_)))); (replace hI := hI.step u1 u2); (clear u1 u2); repeat' (first | (refine no_implicit_lambda% (zH ?_)) | (refine no_implicit_lambda% (spl (fun hc => ?_) (fun hc => ?_)) <;> first | exact zG hc | skip) | (refine no_implicit_lambda% (ans ?_)) | (with_reducible first | exact zI | exact zJ)))
   (((refine no_implicit_lambda% (cal [1] (eN_c r1 b1 (by omega)) ?_ ?_)); rotate_left; (focus (intro xx H' hh; obtain ⟨_, _, _, _, _, _, _, h', _⟩ := hh; cases h')); (intro xx H' hh); (obtain ⟨g, r2, b2, hg, hr2, u1, u2, h', rfl⟩ := hh); (cases h'); (first | (refine no_implicit_lambda% (akc ?_)) | (refine no_implicit_lambda% (aec ?_)))); (replace hI := hI.step u1 u2); (clear u1 u2); repeat' (first | (refine no_implicit_lambda% (zH ?_)) | (refine no_implicit_lambda% (spl (fun hc => ?_) (fun hc => ?_)) <;> first | exact zG hc | skip) | (refine no_implicit_lambda% (ans ?_)) | (with_reducible first | exact zI | exact zJ)))
   have hg2 : g < 4294967296 := hg
   rw [show IntKind.i64.wrap (g : Int) = (g : Int) from z64 (by omega) (by omega)]
   ((rcases b2 with _ | _); (focus ((refine kN (some ((⟨4, zOp, s, g, ⟨#[]⟩, 0, 0, []⟩ : Cm), r2)) _ _ _ ⟨(hI.1 rfl).2, z_ok, by omega⟩ (.inl ?_)); (refine no_implicit_lambda% (Conv.toT ?_ ?_ (LE0 rfl))); (focus ((unfold rd8St); (try dsimp only); exact wkl)); (focus ((unfold rd8St); (try dsimp only); exact wkh)))); (focus ((obtain rfl := (hI.2 rfl).1); (refine kN none _ _ _ (dOut_no ((hI.2 rfl).2 rfl)) (.inl ?_)); (refine no_implicit_lambda% (Conv.toT ?_ ?_ (LE0 rfl))); (focus ((unfold rd8St); (try dsimp only); exact wkl)); (focus ((unfold rd8St); (try dsimp only); exact wkh)))))
  ·replace hI : Iv pRw l false r0 b0 (fun r => bnd (pSr r) fun s r1 => bnd (pN r1) fun g r2 => bnd (pT r2) fun t r3 => some (⟨3, zOp, s, g, ⟨#[]⟩, 0, 0, t⟩, r3)) := hI
   repeat' (first | (refine no_implicit_lambda% (zH ?_)) | (refine no_implicit_lambda% (spl (fun hc => ?_) (fun hc => ?_)) <;> first | exact zG hc | skip) | (refine no_implicit_lambda% (ans ?_)) | (with_reducible first | exact zI | exact zJ))
   (((refine no_implicit_lambda% (cal [1] (rspan_d r0 b0 (by omega)) ?_ ?_)); rotate_left; (focus (intro xx H' hh; obtain ⟨_, _, _, _, _, _, _, h', _⟩ := hh; cases h')); (intro xx H' hh); (obtain ⟨s, r1, b1, hs, hr1, u1, u2, h', rfl⟩ := hh); (cases h'); (first | (refine no_implicit_lambda% (akc ?_)) | (refine no_implicit_lambda% (aec ?_)))); (replace hI := hI.step u1 u2); (clear u1 u2); repeat' (first | (refine no_implicit_lambda% (zH ?_)) | (refine no_implicit_lambda% (spl (fun hc => ?_) (fun hc => ?_)) <;> first | exact zG hc | skip) | (refine no_implicit_lambda% (ans ?_)) | (with_reducible first | exact zI | exact zJ)))
   (((refine no_implicit_lambda% (cal [1] (eN_c r1 b1 (by omega)) ?_ ?_)); rotate_left; (focus (intro xx H' hh; obtain ⟨_, _, _, _, _, _, _, h', _⟩ := hh; cases h')); (intro xx H' hh); (obtain ⟨g, r2, b2, hg, hr2, u1, u2, h', rfl⟩ := hh); (cases h'); (first | (refine no_implicit_lambda% (akc ?_)) | (refine no_implicit_lambda% (aec ?_)))); (replace hI := hI.step u1 u2); (clear u1 u2); repeat' (first | (refine no_implicit_lambda% (zH ?_)) | (refine no_implicit_lambda% (spl (fun hc => ?_) (fun hc => ?_)) <;> first | exact zG hc | skip) | (refine no_implicit_lambda% (ans ?_)) | (with_reducible first | exact zI | exact zJ)))
   have hg2 : g < 4294967296 := hg
   rw [show IntKind.i64.wrap (g : Int) = (g : Int) from z64 (by omega) (by omega)]
   (refine no_implicit_lambda% (cal [1] (eT_c r2 b2 (by omega)) ?_ ?_))
   rotate_left
   ·intro xx H' hh
    rcases hh with ⟨_, _, _, _, _, _, h', _⟩ | ⟨_, ⟨_, h'⟩, _⟩ <;> cases h'
   intro xx H' hh
   rcases hh with ⟨t, r3, rfl, hT, ht, hr3, h', rfl⟩ | ⟨hT, ⟨t, h'⟩, rfl⟩
   ·cases h'
    first | (refine no_implicit_lambda% (akc ?_)) | (refine no_implicit_lambda% (aec ?_))
    have hP : pRw l = some (⟨3, zOp, s, g, ⟨#[]⟩, 0, 0, t⟩, r3) := by
     rw [(hI.1 rfl).2]
     show bnd (pT r2) _ = _
     rw [hT]; rfl
    repeat' (first | (refine no_implicit_lambda% (zH ?_)) | (refine no_implicit_lambda% (spl (fun hc => ?_) (fun hc => ?_)) <;> first | exact zG hc | skip) | (refine no_implicit_lambda% (ans ?_)) | (with_reducible first | exact zI | exact zJ))
    refine kN (some ((⟨3, zOp, s, g, ⟨#[]⟩, 0, 0, t⟩ : Cm), r3)) _ _ _ ⟨hP, ⟨zOp_B, ht⟩, by omega⟩ (.inl ?_)
    (refine no_implicit_lambda% (Conv.toT ?_ ?_ (LE0 rfl))); (focus ((unfold rd8St); (try dsimp only); exact wkl)); (focus ((unfold rd8St); (try dsimp only); exact wkh))
   ·cases h'
    first | (refine no_implicit_lambda% (akc ?_)) | (refine no_implicit_lambda% (aec ?_))
    have hP : pRw l = none := hI.no (fun hb => by show bnd (pT r2) _ = none; rw [hT hb]; rfl) rfl
    repeat' (first | (refine no_implicit_lambda% (zH ?_)) | (refine no_implicit_lambda% (spl (fun hc => ?_) (fun hc => ?_)) <;> first | exact zG hc | skip) | (refine no_implicit_lambda% (ans ?_)) | (with_reducible first | exact zI | exact zJ))
    refine kN none _ _ _ (dOut_no hP) (.inl ?_)
    (refine no_implicit_lambda% (Conv.toT ?_ ?_ (LE0 rfl))); (focus ((unfold rd8St); (try dsimp only); exact wkl)); (focus ((unfold rd8St); (try dsimp only); exact wkh))
  ·replace hI : Iv pRw l false r0 b0 (fun r => bnd (pSr r) fun s r1 => bnd (pN r1) fun g r2 => bnd (pX r2) fun a r3 => some (⟨5, zOp, s, g, ⟨a.toArray⟩, 0, 0, []⟩, r3)) := hI
   repeat' (first | (refine no_implicit_lambda% (zH ?_)) | (refine no_implicit_lambda% (spl (fun hc => ?_) (fun hc => ?_)) <;> first | exact zG hc | skip) | (refine no_implicit_lambda% (ans ?_)) | (with_reducible first | exact zI | exact zJ))
   (((refine no_implicit_lambda% (cal [1] (rspan_d r0 b0 (by omega)) ?_ ?_)); rotate_left; (focus (intro xx H' hh; obtain ⟨_, _, _, _, _, _, _, h', _⟩ := hh; cases h')); (intro xx H' hh); (obtain ⟨s, r1, b1, hs, hr1, u1, u2, h', rfl⟩ := hh); (cases h'); (first | (refine no_implicit_lambda% (akc ?_)) | (refine no_implicit_lambda% (aec ?_)))); (replace hI := hI.step u1 u2); (clear u1 u2); repeat' (first | (refine no_implicit_lambda% (zH ?_)) | (refine no_implicit_lambda% (spl (fun hc => ?_) (fun hc => ?_)) <;> first | exact zG hc | skip) | (refine no_implicit_lambda% (ans ?_)) | (with_reducible first | exact zI | exact zJ)))
   (((refine no_implicit_lambda% (cal [1] (eN_c r1 b1 (by omega)) ?_ ?_)); rotate_left; (focus (intro xx H' hh; obtain ⟨_, _, _, _, _, _, _, h', _⟩ := hh; cases h')); (intro xx H' hh); (obtain ⟨g, r2, b2, hg, hr2, u1, u2, h', rfl⟩ := hh); (cases h'); (first | (refine no_implicit_lambda% (akc ?_)) | (refine no_implicit_lambda% (aec ?_)))); (replace hI := hI.step u1 u2); (clear u1 u2); repeat' (first | (refine no_implicit_lambda% (zH ?_)) | (refine no_implicit_lambda% (spl (fun hc => ?_) (fun hc => ?_)) <;> first | exact zG hc | skip) | (refine no_implicit_lambda% (ans ?_)) | (with_reducible first | exact zI | exact zJ)))
   have hg2 : g < 4294967296 := hg
   rw [show IntKind.i64.wrap (g : Int) = (g : Int) from z64 (by omega) (by omega)]
   (((refine no_implicit_lambda% (cal [1] (eX_c r2 b2 (by omega)) ?_ ?_)); rotate_left; (focus (intro xx H' hh; obtain ⟨_, _, _, _, _, _, _, h', _⟩ := hh; cases h')); (intro xx H' hh); (obtain ⟨a, r3, b3, ha, hr3, u1, u2, h', rfl⟩ := hh); (cases h'); (first | (refine no_implicit_lambda% (akc ?_)) | (refine no_implicit_lambda% (aec ?_)))); (replace hI := hI.step u1 u2); (clear u1 u2); repeat' (first | (refine no_implicit_lambda% (zH ?_)) | (refine no_implicit_lambda% (spl (fun hc => ?_) (fun hc => ?_)) <;> first | exact zG hc | skip) | (refine no_implicit_lambda% (ans ?_)) | (with_reducible first | exact zI | exact zJ)))
   ((rcases b3 with _ | _); (focus ((refine kN (some ((⟨5, zOp, s, g, ⟨a.toArray⟩, 0, 0, []⟩ : Cm), r3)) _ _ _ ⟨(hI.1 rfl).2, z_ok, by omega⟩ (.inl ?_)); (refine no_implicit_lambda% (Conv.toT ?_ ?_ (LE0 rfl))); (focus ((unfold rd8St); (try dsimp only); exact wkl)); (focus ((unfold rd8St); (try dsimp only); exact wkh)))); (focus ((obtain rfl := (hI.2 rfl).1); (refine kN none _ _ _ (dOut_no ((hI.2 rfl).2 rfl)) (.inl ?_)); (refine no_implicit_lambda% (Conv.toT ?_ ?_ (LE0 rfl))); (focus ((unfold rd8St); (try dsimp only); exact wkl)); (focus ((unfold rd8St); (try dsimp only); exact wkh)))))
  ·replace hI : Iv pRw l false r0 b0 (fun r => bnd (pSr r) fun s r1 => bnd (pN r1) fun g r2 => bnd (pX r2) fun a r3 => some (⟨6, zOp, s, g, ⟨a.toArray⟩, 0, 0, []⟩, r3)) := hI
   repeat' (first | (refine no_implicit_lambda% (zH ?_)) | (refine no_implicit_lambda% (spl (fun hc => ?_) (fun hc => ?_)) <;> first | exact zG hc | skip) | (refine no_implicit_lambda% (ans ?_)) | (with_reducible first | exact zI | exact zJ))
   (((refine no_implicit_lambda% (cal [1] (rspan_d r0 b0 (by omega)) ?_ ?_)); rotate_left; (focus (intro xx H' hh; obtain ⟨_, _, _, _, _, _, _, h', _⟩ := hh; cases h')); (intro xx H' hh); (obtain ⟨s, r1, b1, hs, hr1, u1, u2, h', rfl⟩ := hh); (cases h'); (first | (refine no_implicit_lambda% (akc ?_)) | (refine no_implicit_lambda% (aec ?_)))); (replace hI := hI.step u1 u2); (clear u1 u2); repeat' (first | (refine no_implicit_lambda% (zH ?_)) | (refine no_implicit_lambda% (spl (fun hc => ?_) (fun hc => ?_)) <;> first | exact zG hc | skip) | (refine no_implicit_lambda% (ans ?_)) | (with_reducible first | exact zI | exact zJ)))
   (((refine no_implicit_lambda% (cal [1] (eN_c r1 b1 (by omega)) ?_ ?_)); rotate_left; (focus (intro xx H' hh; obtain ⟨_, _, _, _, _, _, _, h', _⟩ := hh; cases h')); (intro xx H' hh); (obtain ⟨g, r2, b2, hg, hr2, u1, u2, h', rfl⟩ := hh); (cases h'); (first | (refine no_implicit_lambda% (akc ?_)) | (refine no_implicit_lambda% (aec ?_)))); (replace hI := hI.step u1 u2); (clear u1 u2); repeat' (first | (refine no_implicit_lambda% (zH ?_)) | (refine no_implicit_lambda% (spl (fun hc => ?_) (fun hc => ?_)) <;> first | exact zG hc | skip) | (refine no_implicit_lambda% (ans ?_)) | (with_reducible first | exact zI | exact zJ)))
   have hg2 : g < 4294967296 := hg
   rw [show IntKind.i64.wrap (g : Int) = (g : Int) from z64 (by omega) (by omega)]
   (((refine no_implicit_lambda% (cal [1] (eX_c r2 b2 (by omega)) ?_ ?_)); rotate_left; (focus (intro xx H' hh; obtain ⟨_, _, _, _, _, _, _, h', _⟩ := hh; cases h')); (intro xx H' hh); (obtain ⟨a, r3, b3, ha, hr3, u1, u2, h', rfl⟩ := hh); (cases h'); (first | (refine no_implicit_lambda% (akc ?_)) | (refine no_implicit_lambda% (aec ?_)))); (replace hI := hI.step u1 u2); (clear u1 u2); repeat' (first | (refine no_implicit_lambda% (zH ?_)) | (refine no_implicit_lambda% (spl (fun hc => ?_) (fun hc => ?_)) <;> first | exact zG hc | skip) | (refine no_implicit_lambda% (ans ?_)) | (with_reducible first | exact zI | exact zJ)))
   ((rcases b3 with _ | _); (focus ((refine kN (some ((⟨6, zOp, s, g, ⟨a.toArray⟩, 0, 0, []⟩ : Cm), r3)) _ _ _ ⟨(hI.1 rfl).2, z_ok, by omega⟩ (.inl ?_)); (refine no_implicit_lambda% (Conv.toT ?_ ?_ (LE0 rfl))); (focus ((unfold rd8St); (try dsimp only); exact wkl)); (focus ((unfold rd8St); (try dsimp only); exact wkh)))); (focus ((obtain rfl := (hI.2 rfl).1); (refine kN none _ _ _ (dOut_no ((hI.2 rfl).2 rfl)) (.inl ?_)); (refine no_implicit_lambda% (Conv.toT ?_ ?_ (LE0 rfl))); (focus ((unfold rd8St); (try dsimp only); exact wkl)); (focus ((unfold rd8St); (try dsimp only); exact wkh)))))
  ·replace hI : Iv pRw l false r0 b0 (fun r => bnd (pX r) fun a r1 => some (⟨7, zOp, zSn, 0, ⟨a.toArray⟩, 0, 0, []⟩, r1)) := hI
   repeat' (first | (refine no_implicit_lambda% (zH ?_)) | (refine no_implicit_lambda% (spl (fun hc => ?_) (fun hc => ?_)) <;> first | exact zG hc | skip) | (refine no_implicit_lambda% (ans ?_)) | (with_reducible first | exact zI | exact zJ))
   (((refine no_implicit_lambda% (cal [1] (eX_c r0 b0 (by omega)) ?_ ?_)); rotate_left; (focus (intro xx H' hh; obtain ⟨_, _, _, _, _, _, _, h', _⟩ := hh; cases h')); (intro xx H' hh); (obtain ⟨a, r1, b1, ha, hr1, u1, u2, h', rfl⟩ := hh); (cases h'); (first | (refine no_implicit_lambda% (akc ?_)) | (refine no_implicit_lambda% (aec ?_)))); (replace hI := hI.step u1 u2); (clear u1 u2); repeat' (first | (refine no_implicit_lambda% (zH ?_)) | (refine no_implicit_lambda% (spl (fun hc => ?_) (fun hc => ?_)) <;> first | exact zG hc | skip) | (refine no_implicit_lambda% (ans ?_)) | (with_reducible first | exact zI | exact zJ)))
   ((rcases b1 with _ | _); (focus ((refine kN (some ((⟨7, zOp, zSn, 0, ⟨a.toArray⟩, 0, 0, []⟩ : Cm), r1)) _ _ _ ⟨(hI.1 rfl).2, z_ok, by omega⟩ (.inl ?_)); (refine no_implicit_lambda% (Conv.toT ?_ ?_ (LE0 rfl))); (focus ((unfold rd8St); (try dsimp only); exact wkl)); (focus ((unfold rd8St); (try dsimp only); exact wkh)))); (focus ((obtain rfl := (hI.2 rfl).1); (refine kN none _ _ _ (dOut_no ((hI.2 rfl).2 rfl)) (.inl ?_)); (refine no_implicit_lambda% (Conv.toT ?_ ?_ (LE0 rfl))); (focus ((unfold rd8St); (try dsimp only); exact wkl)); (focus ((unfold rd8St); (try dsimp only); exact wkh)))))
  ·replace hI : Iv pRw l false r0 b0 (fun r => bnd (pB r) fun d r1 => (if d = 0 then some (⟨8, zOp, zSn, 0, ⟨#[]⟩, 0, 0, []⟩, r1) else bnd (pX r1) fun a r2 => bnd (pB r2) fun t r3 => some (⟨8, zOp, zSn, 0, ⟨a.toArray⟩, t, d, []⟩, r3))) := hI
   repeat' (first | (refine no_implicit_lambda% (zH ?_)) | (refine no_implicit_lambda% (spl (fun hc => ?_) (fun hc => ?_)) <;> first | exact zG hc | skip) | (refine no_implicit_lambda% (ans ?_)) | (with_reducible first | exact zI | exact zJ))
   ((refine no_implicit_lambda% (cal [1] (eB_c r0 b0 (by omega)) ?_ ?_)); rotate_left; (focus (intro xx H' hh; obtain ⟨_, _, _, _, _, _, _, h', _⟩ := hh; cases h')); (intro xx H' hh); (obtain ⟨d, r1, b1, hd, hr1, u1, u2, h', rfl⟩ := hh); (cases h'); (first | (refine no_implicit_lambda% (akc ?_)) | (refine no_implicit_lambda% (aec ?_))))
   replace hI := hI.step u1 u2
   clear u1 u2
   have hd2 : d < 256 := hd
   by_cases hd0 : d = 0
   ·subst hd0
    replace hI : Iv pRw l false r1 b1 (fun r1 => some (⟨8, zOp, zSn, 0, ⟨#[]⟩, 0, 0, []⟩, r1)) := hI
    repeat' (first | (refine no_implicit_lambda% (zH ?_)) | (refine no_implicit_lambda% (spl (fun hc => ?_) (fun hc => ?_)) <;> first | exact zG hc | skip) | (refine no_implicit_lambda% (ans ?_)) | (with_reducible first | exact zI | exact zJ))
    ((rcases b1 with _ | _); (focus ((refine kN (some ((⟨8, zOp, zSn, 0, ⟨#[]⟩, 0, 0, []⟩ : Cm), r1)) _ _ _ ⟨(hI.1 rfl).2, z_ok, by omega⟩ (.inl ?_)); (refine no_implicit_lambda% (Conv.toT ?_ ?_ (LE0 rfl))); (focus ((unfold rd8St); (try dsimp only); exact wkl)); (focus ((unfold rd8St); (try dsimp only); exact wkh)))); (focus ((obtain rfl := (hI.2 rfl).1); (refine kN none _ _ _ (dOut_no ((hI.2 rfl).2 rfl)) (.inl ?_)); (refine no_implicit_lambda% (Conv.toT ?_ ?_ (LE0 rfl))); (focus ((unfold rd8St); (try dsimp only); exact wkl)); (focus ((unfold rd8St); (try dsimp only); exact wkh)))))
   ·replace hI : Iv pRw l false r1 b1 (fun r1 => bnd (pX r1) fun a r2 => bnd (pB r2) fun t r3 => some (⟨8, zOp, zSn, 0, ⟨a.toArray⟩, t, d, []⟩, r3)) := by
     simp only [if_neg hd0] at hI
     exact hI
    refine no_implicit_lambda% (awd ?_)
    rw [show IntKind.i64.wrap (d : Int) = (d : Int) from z64 (by omega) (by omega)]
    ((with_reducible refine no_implicit_lambda% (zB ?_)); refine no_implicit_lambda% (zE rfl (fun hc => ?_) (fun hc => ?_)))
    rotate_left
    ·exact absurd (by simpa using hc) hd0
    repeat' (first | (refine no_implicit_lambda% (zH ?_)) | (refine no_implicit_lambda% (spl (fun hc => ?_) (fun hc => ?_)) <;> first | exact zG hc | skip) | (refine no_implicit_lambda% (ans ?_)) | (with_reducible first | exact zI | exact zJ))
    (((refine no_implicit_lambda% (cal [1] (eX_c r1 b1 (by omega)) ?_ ?_)); rotate_left; (focus (intro xx H' hh; obtain ⟨_, _, _, _, _, _, _, h', _⟩ := hh; cases h')); (intro xx H' hh); (obtain ⟨a, r2, b2, ha, hr2, u1, u2, h', rfl⟩ := hh); (cases h'); (first | (refine no_implicit_lambda% (akc ?_)) | (refine no_implicit_lambda% (aec ?_)))); (replace hI := hI.step u1 u2); (clear u1 u2); repeat' (first | (refine no_implicit_lambda% (zH ?_)) | (refine no_implicit_lambda% (spl (fun hc => ?_) (fun hc => ?_)) <;> first | exact zG hc | skip) | (refine no_implicit_lambda% (ans ?_)) | (with_reducible first | exact zI | exact zJ)))
    (((refine no_implicit_lambda% (cal [1] (eB_c r2 b2 (by omega)) ?_ ?_)); rotate_left; (focus (intro xx H' hh; obtain ⟨_, _, _, _, _, _, _, h', _⟩ := hh; cases h')); (intro xx H' hh); (obtain ⟨t, r3, b3, ht, hr3, u1, u2, h', rfl⟩ := hh); (cases h'); (first | (refine no_implicit_lambda% (akc ?_)) | (refine no_implicit_lambda% (aec ?_)))); (replace hI := hI.step u1 u2); (clear u1 u2); repeat' (first | (refine no_implicit_lambda% (zH ?_)) | (refine no_implicit_lambda% (spl (fun hc => ?_) (fun hc => ?_)) <;> first | exact zG hc | skip) | (refine no_implicit_lambda% (ans ?_)) | (with_reducible first | exact zI | exact zJ)))
    have ht2 : t < 256 := ht
    rw [show IntKind.i64.wrap (t : Int) = (t : Int) from z64 (by omega) (by omega)]
    ((rcases b3 with _ | _); (focus ((refine kN (some ((⟨8, zOp, zSn, 0, ⟨a.toArray⟩, t, d, []⟩ : Cm), r3)) _ _ _ ⟨(hI.1 rfl).2, z_ok, by omega⟩ (.inl ?_)); (refine no_implicit_lambda% (Conv.toT ?_ ?_ (LE0 rfl))); (focus ((unfold rd8St); (try dsimp only); exact wkl)); (focus ((unfold rd8St); (try dsimp only); exact wkh)))); (focus ((obtain rfl := (hI.2 rfl).1); (refine kN none _ _ _ (dOut_no ((hI.2 rfl).2 rfl)) (.inl ?_)); (refine no_implicit_lambda% (Conv.toT ?_ ?_ (LE0 rfl))); (focus ((unfold rd8St); (try dsimp only); exact wkl)); (focus ((unfold rd8St); (try dsimp only); exact wkh)))))
  ·replace hI : Iv pRw l false r0 b0 (fun r => bnd (pN r) fun g r1 => bnd (pB r1) fun t r2 => some (⟨9, zOp, zSn, g, ⟨#[]⟩, -(t : Int), 0, []⟩, r2)) := hI
   repeat' (first | (refine no_implicit_lambda% (zH ?_)) | (refine no_implicit_lambda% (spl (fun hc => ?_) (fun hc => ?_)) <;> first | exact zG hc | skip) | (refine no_implicit_lambda% (ans ?_)) | (with_reducible first | exact zI | exact zJ))
   (((refine no_implicit_lambda% (cal [1] (eN_c r0 b0 (by omega)) ?_ ?_)); rotate_left; (focus (intro xx H' hh; obtain ⟨_, _, _, _, _, _, _, h', _⟩ := hh; cases h')); (intro xx H' hh); (obtain ⟨g, r1, b1, hg, hr1, u1, u2, h', rfl⟩ := hh); (cases h'); (first | (refine no_implicit_lambda% (akc ?_)) | (refine no_implicit_lambda% (aec ?_)))); (replace hI := hI.step u1 u2); (clear u1 u2); repeat' (first | (refine no_implicit_lambda% (zH ?_)) | (refine no_implicit_lambda% (spl (fun hc => ?_) (fun hc => ?_)) <;> first | exact zG hc | skip) | (refine no_implicit_lambda% (ans ?_)) | (with_reducible first | exact zI | exact zJ)))
   have hg2 : g < 4294967296 := hg
   rw [show IntKind.i64.wrap (g : Int) = (g : Int) from z64 (by omega) (by omega)]
   (((refine no_implicit_lambda% (cal [1] (eB_c r1 b1 (by omega)) ?_ ?_)); rotate_left; (focus (intro xx H' hh; obtain ⟨_, _, _, _, _, _, _, h', _⟩ := hh; cases h')); (intro xx H' hh); (obtain ⟨t, r2, b2, ht, hr2, u1, u2, h', rfl⟩ := hh); (cases h'); (first | (refine no_implicit_lambda% (akc ?_)) | (refine no_implicit_lambda% (aec ?_)))); (replace hI := hI.step u1 u2); (clear u1 u2); repeat' (first | (refine no_implicit_lambda% (zH ?_)) | (refine no_implicit_lambda% (spl (fun hc => ?_) (fun hc => ?_)) <;> first | exact zG hc | skip) | (refine no_implicit_lambda% (ans ?_)) | (with_reducible first | exact zI | exact zJ)))
   ·have ht1 : 1 < t := by have := of_decide_eq_true hc; omega
    have hno : cmB (⟨9, zOp, zSn, g, ⟨#[]⟩, -(t : Int), 0, []⟩ : Cm) = false := by
     show (genB g && (decide (-(t : Int) = 0) || decide (-(t : Int) = -1))) = false
     rw [decide_eq_false (by omega), decide_eq_false (by omega)]
     simp
    have hz : dOut l = .ret (.tuple [.agg (cmrow cm0), .v (.bool false)]) := by
     cases b2 with
     | false => exact dOut_bad (hI.1 rfl).2 (.inr hno)
     | true => exact dOut_no ((hI.2 rfl).2 rfl)
    repeat' (first | (refine no_implicit_lambda% (zH ?_)) | (refine no_implicit_lambda% (spl (fun hc => ?_) (fun hc => ?_)) <;> first | exact zG hc | skip) | (refine no_implicit_lambda% (ans ?_)) | (with_reducible first | exact zI | exact zJ) | (refine no_implicit_lambda% (cal [1] (refFail_c r2 b2) ?_ ?_)) | fail)
    refine kN none _ _ _ hz (.inl ?_)
    (refine no_implicit_lambda% (Conv.toT ?_ ?_ (LE0 rfl))); (focus ((unfold rd8St); (try dsimp only); exact wkl)); (focus ((unfold rd8St); (try dsimp only); exact wkh))
   ·have ht2 : t < 256 := ht
    rw [show IntKind.i64.wrap (t : Int) = (t : Int) from z64 (by omega) (by omega)]
    rw [show IntKind.i64.wrap (0 - (t : Int)) = -(t : Int) by rw [z64 (by omega) (by omega)]; omega]
    ((rcases b2 with _ | _); (focus ((refine kN (some ((⟨9, zOp, zSn, g, ⟨#[]⟩, -(t : Int), 0, []⟩ : Cm), r2)) _ _ _ ⟨(hI.1 rfl).2, z_ok, by omega⟩ (.inl ?_)); (refine no_implicit_lambda% (Conv.toT ?_ ?_ (LE0 rfl))); (focus ((unfold rd8St); (try dsimp only); exact wkl)); (focus ((unfold rd8St); (try dsimp only); exact wkh)))); (focus ((obtain rfl := (hI.2 rfl).1); (refine kN none _ _ _ (dOut_no ((hI.2 rfl).2 rfl)) (.inl ?_)); (refine no_implicit_lambda% (Conv.toT ?_ ?_ (LE0 rfl))); (focus ((unfold rd8St); (try dsimp only); exact wkl)); (focus ((unfold rd8St); (try dsimp only); exact wkh)))))
  ·replace hI : Iv pRw l false r0 b0 (fun r => some (⟨k, zOp, zSn, 0, ⟨#[]⟩, 0, 0, []⟩, r)) := by
    have he : cmQ k = (fun r => some ((⟨k, zOp, zSn, 0, ⟨#[]⟩, 0, 0, []⟩ : Cm), r)) := by
     funext r
     unfold cmQ
     rw [if_neg (by omega), if_neg (by omega), if_neg (by omega), if_neg (by omega), if_neg (by omega), if_neg (by omega), if_neg (by omega)]
    rw [← he]; exact hI
   repeat' (first | (refine no_implicit_lambda% (zH ?_)) | (refine no_implicit_lambda% (spl (fun hc => ?_) (fun hc => ?_)) <;> first | exact zG hc | skip) | (refine no_implicit_lambda% (ans ?_)) | (with_reducible first | exact zI | exact zJ))
   ((rcases b0 with _ | _); (focus ((refine kN (some ((⟨k, zOp, zSn, 0, ⟨#[]⟩, 0, 0, []⟩ : Cm), r0)) _ _ _ ⟨(hI.1 rfl).2, z_ok, by omega⟩ (.inl ?_)); (refine no_implicit_lambda% (Conv.toT ?_ ?_ (LE0 rfl))); (focus ((unfold rd8St); (try dsimp only); exact wkl)); (focus ((unfold rd8St); (try dsimp only); exact wkh)))); (focus ((obtain rfl := (hI.2 rfl).1); (refine kN none _ _ _ (dOut_no ((hI.2 rfl).2 rfl)) (.inl ?_)); (refine no_implicit_lambda% (Conv.toT ?_ ?_ (LE0 rfl))); (focus ((unfold rd8St); (try dsimp only); exact wkl)); (focus ((unfold rd8St); (try dsimp only); exact wkh)))))
end Go.Proofs.YtncffhgoopdfgaaGreat
namespace Go.Proofs.YtncffhgoopdfgaaGreat
open Go.Am
set_option maxRecDepth 100000
end Go.Proofs.YtncffhgoopdfgaaGreat
namespace Go.Proofs.YtncffhgoopdfgaaGreat
open Go.Am
set_option maxRecDepth 100000
theorem samech_c (x : Ch) (hn : x.v.n < 18446744073709551616) : ACalls Tryz.prog 86 0 300 [.agg (chrow x), .agg (chrow x)] [] (fun out H' => out = .ret (.v (.bool true)) ∧ H' = []) := by
 have hs := refSame_c x.v x.v hn hn
 rw [show (ordV _ _ == 0) = true from by rw [ordV_refl]; rfl] at hs
 refine no_implicit_lambda% (acalls_of tok dok (f := 86) ⟨Tryz.func86, rfl, by kernel_rfl⟩ ?_); refine no_implicit_lambda% (c_start (fun _ h => h) ?_)
 repeat' (first | (refine no_implicit_lambda% (zH ?_)) | (refine no_implicit_lambda% (spl (fun hc => ?_) (fun hc => ?_)) <;> first | exact zG hc | skip) | (refine no_implicit_lambda% (ans ?_)) | (with_reducible first | exact zI | exact zJ) | (refine no_implicit_lambda% (cal [] (hs) ?_ ?_)) | fail)
 all_goals first | (exfalso; simp at hc; done) | (refine e_ret (H' := []) (rest := _) rfl ⟨congrArg (fun b => AOut.ret (.v (.bool b))) ?_, rfl⟩ permT (LE0 rfl); first | rfl | (simp; done) | (simp_all; done))
theorem samecd_c (d : Cd) (hn : d.v.n < 18446744073709551616) : ACalls Tryz.prog 88 0 300 [.agg (cdrow d), .agg (cdrow d)] [] (fun out H' => out = .ret (.v (.bool true)) ∧ H' = []) := by
 have hs := refSame_c d.v d.v hn hn
 rw [show (ordV _ _ == 0) = true from by rw [ordV_refl]; rfl] at hs
 obtain ⟨has, want, c, v⟩ := d
 cases has <;> cases want
 all_goals
  refine no_implicit_lambda% (acalls_of tok dok (f := 88) ⟨Tryz.func88, rfl, by kernel_rfl⟩ ?_); refine no_implicit_lambda% (c_start (fun _ h => h) ?_)
  repeat' (first | (refine no_implicit_lambda% (zH ?_)) | (refine no_implicit_lambda% (spl (fun hc => ?_) (fun hc => ?_)) <;> first | exact zG hc | skip) | (refine no_implicit_lambda% (ans ?_)) | (with_reducible first | exact zI | exact zJ) | (refine no_implicit_lambda% (cal [] (hs) ?_ ?_)) | fail)
 all_goals first | (exfalso; simp at hc; done) | (refine e_ret (H' := []) (rest := _) rfl ⟨congrArg (fun b => AOut.ret (.v (.bool b))) ?_, rfl⟩ permT (LE0 rfl); first | rfl | (simp; done) | (simp_all; done))
end Go.Proofs.YtncffhgoopdfgaaGreat
namespace Go.Proofs.YtncffhgoopdfgaaGreat
open Go.Am
set_option maxRecDepth 100000
def spE (s t : Sn) : Bool := s.lo.toList == t.lo.toList && s.hi.toList == t.hi.toList
theorem spE_refl (s : Sn) : spE s s = true := by unfold spE; simp
theorem args8_eq {vals : Array Value} (h : 2 = vals.size) : vals = #[vals.getD 0 undef, vals.getD 1 undef] := by
 apply Array.ext
 ·simpa using h.symm
 ·intro i h1 h2
  match i, h1, h2 with
  | 0, h1, _ => simp [Array.getD_eq_getD_getElem?, Array.getElem?_eq_getElem h1]
  | 1, h1, _ => simp [Array.getD_eq_getD_getElem?, Array.getElem?_eq_getElem h1]
theorem two_inv {G : Ghost} {a b : ByteArray} {x : Value} (h : Sim G (.agg [.v (.string a), .v (.string b)]) x) : x = .agg #[.string a, .string b] := by
 obtain ⟨vs, rfl, h1, h2⟩ := Sim.agg_inv h
 have e := args8_eq h1
 have e0 := (h2 0 _ rfl).v_inv
 have e1 := (h2 1 _ rfl).v_inv
 rw [e, e0, e1]
theorem speq_run (x y : Operand) (a b c d : ByteArray) (w : World) : (do eqGuard .eql 39 x y (.agg #[.string a, .string b]) (.agg #[.string c, .string d]); binOp .eql 39 (.agg #[.string a, .string b]) (.agg #[.string c, .string d]) : Sem Value).run Tryz.prog w = .ok (.bool (a.toList == c.toList && b.toList == d.toList)) w := by
 have hF : Tryz.prog.underlying 39 = some (.struct (Tryz.prog.fieldsOf 39)) := by kernel_rfl
 have hS : Tryz.prog.stoodInHeld 39 = false := by kernel_rfl
 have hG : Tryz.prog.eqGuardType Tryz.prog.depth 39 = false := by kernel_rfl
 have hs : Tryz.prog.underlying 9 = some .string := by kernel_rfl
 rw [Sem.run_bind, run_eqGuard_agg w _ _ _ _ _ _ hG, Result.andThen_ok, run_eql_struct, run_equalIn_agg w _ _ _ _ hF hS]
 simp [go_sem, Op.eqFields]
 by_cases h1 : a.toList = c.toList <;> by_cases h2 : b.toList = d.toList <;> simp [h1, h2]
theorem q_speq {L : Heap} {ev raw : Operand → AV} {o : Oper} {t' : TypeId} {x y : Operand} {s u : Sn} (ho : o.op = .binOp .eql 39 x y t') (hx : ev x = .agg (snrow s)) (hy : ev y = .agg (snrow u)) : QOk Tryz.prog L ev raw o (.v (.bool (spE s u))) :=
 .still fun G w ρ hh => by
  have h1 := hh.ev x (by rw [ho]; simp [Op.operands])
  have h2 := hh.ev y (by rw [ho]; simp [Op.operands])
  rw [hx] at h1
  rw [hy] at h2
  have e1 := two_inv h1
  have e2 := two_inv h2
  refine ⟨.bool (spE s u), ?_, .data _ _ (.v _)⟩
  simp only [execOp, ho, e1, e2]
  rw [Sem.run_bind, speq_run]; rfl
end Go.Proofs.YtncffhgoopdfgaaGreat
namespace Go.Proofs.YtncffhgoopdfgaaGreat
open Go.Am
set_option maxRecDepth 100000
def soSt (q : Oq) (i : Nat) : ASt := ⟨([.dead, .dead, .ptr 0 0, .ptr 1 0, .dead, .v (.int .i64 i)] ++ List.replicate 64 .dead), [(1, .box (oqrow q)), (0, .box (oqrow q))], 2⟩
set_option maxHeartbeats 6400000 in
theorem sameop_c (q : Oq) (hN : OqN q) (hl : q.l.length < 1000000) : ACalls Tryz.prog 128 0 1000 [.agg (oqrow q), .agg (oqrow q)] [] (fun out H' => out = .ret (.v (.bool true)) ∧ H' = []) := by
 have hsd := (samecd_c q.d hN.1).top0
 obtain ⟨k, row, hi, d, l, most⟩ := q
 dsimp only at *
 rcases kd3 k with rfl | rfl | rfl | ⟨k1, k2, k3⟩
 ·refine no_implicit_lambda% (acalls_of tok dok (f := 128) ⟨Tryz.func128, rfl, by kernel_rfl⟩ ?_); refine no_implicit_lambda% (c_start (fun _ h => h) ?_)
  repeat' (first | (refine no_implicit_lambda% (zH ?_)) | (refine no_implicit_lambda% (spl (fun hc => ?_) (fun hc => ?_)) <;> first | exact zG hc | skip) | (refine no_implicit_lambda% (ans ?_)) | (with_reducible first | exact zI | exact zJ))
  all_goals first | (exact e_ret (H' := []) (rest := _) rfl ⟨rfl, rfl⟩ permT (LE0 rfl)) | (exfalso; simp at hc; done)
 ·refine no_implicit_lambda% (acalls_of tok dok (f := 128) ⟨Tryz.func128, rfl, by kernel_rfl⟩ ?_); refine no_implicit_lambda% (c_start (fun _ h => h) ?_)
  repeat' (first | (refine no_implicit_lambda% (zH ?_)) | (refine no_implicit_lambda% (ans ?_)) | (with_reducible first | exact zI | exact zJ) | (refine no_implicit_lambda% (cal [] (hsd) ?_ ?_)) | fail)
  rw [show (row.toList == row.toList) = true from beq_self_eq_true _]
  repeat' (first | (refine no_implicit_lambda% (zH ?_)) | (refine no_implicit_lambda% (ans ?_)) | (with_reducible first | exact zI | exact zJ) | (refine no_implicit_lambda% (cal [] (hsd) ?_ ?_)) | fail)
  rw [show (((l.map chrow).length : Int) != ((l.map chrow).length : Int)) = false from bne_self_eq_false _]
  repeat' (first | (refine no_implicit_lambda% (zH ?_)) | (refine no_implicit_lambda% (ans ?_)) | (with_reducible first | exact zI | exact zJ) | (refine no_implicit_lambda% (cal [] (hsd) ?_ ?_)) | fail)
  refine c_loop' (soSt ⟨2, row, hi, d, l, most⟩) (fun i => i ≤ l.length) (fun i => l.length - i) (a := 0) (Nat.zero_le _) ?_ ?_
  ·(refine no_implicit_lambda% (Conv.toT ?_ ?_ (LE0 rfl))); (focus ((unfold soSt); (try dsimp only); exact wkl)); (focus ((unfold soSt); (try dsimp only); exact wkh))
  ·rintro i i1
   refine c_turn (n' := 2) (fun _ h => h) (fun _ h => h) rfl ?_
   have hlm : ((l.map chrow).length : Int) = l.length := by rw [List.length_map]
   rcases hx : l[i]? with _ | x
   ·have hi : i = l.length := by have := List.getElem?_eq_none_iff.1 hx; omega
    repeat' (first | (refine no_implicit_lambda% (zH ?_)) | (refine no_implicit_lambda% (spl (fun hc => ?_) (fun hc => ?_)) <;> first | exact zG hc | skip) | (refine no_implicit_lambda% (ans ?_)) | (with_reducible first | exact zI | exact zJ))
    exact e_ret (H' := []) (rest := _) rfl ⟨rfl, rfl⟩ permT (LE0 rfl)
   ·have hil : i < l.length := (List.getElem?_eq_some_iff.1 hx).1
    have hix := chx hx
    have hsx := (samech_c x (hN.2 x (List.mem_of_getElem? hx))).top0
    repeat' (first | (refine no_implicit_lambda% (zH ?_)) | (refine no_implicit_lambda% (splv (fun hc => ?_) (fun hc => ?_)) <;> first | exact zG hc | skip) | (refine no_implicit_lambda% (ans ?_)) | (with_reducible first | exact zI | exact zJ) | (refine no_implicit_lambda% (cal [] (hsx) ?_ ?_)) | fail)
    (refine no_implicit_lambda% (k_loopLT (i + 1) 0 [0, 1] (show i + 1 ≤ l.length from hil) (by first | omega | (simp; done) | (simp; omega)) (LE0 rfl) (fun _ h => h) (fun _ h => h) ?_ ?_)); (focus ((try dsimp only); exact wkl)); (focus ((try dsimp only); exact wkh))
 ·refine no_implicit_lambda% (acalls_of tok dok (f := 128) ⟨Tryz.func128, rfl, by kernel_rfl⟩ ?_); refine no_implicit_lambda% (c_start (fun _ h => h) ?_)
  repeat' (first | (refine no_implicit_lambda% (zH ?_)) | (refine no_implicit_lambda% (spl (fun hc => ?_) (fun hc => ?_)) <;> first | exact zG hc | skip) | (refine no_implicit_lambda% (ans ?_)) | (with_reducible first | exact zI | exact zJ))
  all_goals first | (exact e_ret (H' := []) (rest := _) rfl ⟨rfl, rfl⟩ permT (LE0 rfl)) | (exfalso; simp at hc; done) | (refine no_implicit_lambda% (e_ret (H' := []) (rest := _) rfl ⟨congrArg (fun z => AOut.ret (.v (.bool z))) ?_, rfl⟩ (.refl _) (LE0 rfl)); simp; done)
 ·refine no_implicit_lambda% (acalls_of tok dok (f := 128) ⟨Tryz.func128, rfl, by kernel_rfl⟩ ?_); refine no_implicit_lambda% (c_start (fun _ h => h) ?_)
  repeat' (first | (refine no_implicit_lambda% (zH ?_)) | (refine no_implicit_lambda% (spl (fun hc => ?_) (fun hc => ?_)) <;> first | exact zG hc | skip) | (refine no_implicit_lambda% (ans ?_)) | (with_reducible first | exact zI | exact zJ))
  all_goals first | (exact e_ret (H' := []) (rest := _) rfl ⟨rfl, rfl⟩ permT (LE0 rfl)) | (exfalso; simp at hc; done)
set_option maxHeartbeats 6400000 in
theorem samecm_c (c : Cm) (hN : OqN c.op) (hl : c.op.l.length < 1000000) : ACalls Tryz.prog 48 0 3000 [.agg (cmrow c), .agg (cmrow c)] [] (fun out H' => out = .ret (.v (.bool true)) ∧ H' = []) := by
 have hso := (sameop_c c.op hN hl).top0
 obtain ⟨k, op, sp, gen, at', to, dw, st⟩ := c
 dsimp only at *
 rcases kd10 k with rfl | rfl | rfl | rfl | rfl | rfl | rfl | rfl | rfl | hk
 all_goals
  refine no_implicit_lambda% (acalls_of tok dok (f := 48) ⟨Tryz.func48, rfl, by kernel_rfl⟩ ?_); refine no_implicit_lambda% (c_start (fun _ h => h) ?_)
  repeat' (first | (refine no_implicit_lambda% (zH ?_)) | (refine no_implicit_lambda% (spl (fun hc => ?_) (fun hc => ?_)) <;> first | exact zG hc | skip) | (refine no_implicit_lambda% (ans ?_)) | (with_reducible first | exact zI | exact zJ) | (refine no_implicit_lambda% (cal [] (hso) ?_ ?_)) | ((with_reducible refine no_implicit_lambda% (zC ?_)); refine no_implicit_lambda% (a_known rfl (q_speq (s := sp) (u := sp) rfl rfl rfl) ?_)) | fail)
  all_goals first | (exfalso; rw [spE_refl] at hc; cases hc; done) | (exact e_ret (H' := []) (rest := _) rfl ⟨rfl, rfl⟩ permT (LE0 rfl)) | (exfalso; simp at hc; done) | (refine no_implicit_lambda% (e_ret (H' := []) (rest := _) rfl ⟨congrArg (fun z => AOut.ret (.v (.bool z))) ?_, rfl⟩ (.refl _) (LE0 rfl)); simp at *; done) | (refine no_implicit_lambda% (e_ret (H' := []) (rest := _) rfl ⟨congrArg (fun z => AOut.ret (.v (.bool z))) ?_, rfl⟩ (.refl _) (LE0 rfl)); simp_all; done)
def zmH (id : Nat) : Heap := [(id, .box [.v (.int .i64 0), .v (.int .i64 0), .v (.string ⟨#[]⟩), .v (.string ⟨#[]⟩), .v (.bool false), .v (.bool false), .v (.string ⟨#[]⟩), .v (.int .i64 0), .list [] .full, .v (.float .f64 0), .list [] .full, .v (.int .i64 0), .v (.string ⟨#[]⟩), .v (.string ⟨#[]⟩), .v (.int .i64 0), .v (.string ⟨#[]⟩), .v (.int .i64 0), .v (.int .i64 0), .list [] .full])]
theorem take8_d (l : List UInt8) (hl : l.length < 281474976710656) : ACalls Tryz.prog 121 1 1 [.ptr 0 0] (rd l) (rQ pCm (fun c => CmOk c ∧ cmB c = true) (fun c => .agg (cmrow c)) l) := rQ_top (take8_c l hl) (by decide) (fun x g => by simp [cmrow, oqrow, cdrow, vrowV, snrow, AV.ren, AV.renL, Own.ren])
theorem cb8_c (l : List UInt8) (hl : l.length < 281474976710656) : ACalls Tryz.prog 120 2 2 [.ptr 1 0, .ptr 0 0] ((1, .box [.list (l.map brow) .free]) :: zmH 0) (cbR 1 (fun l' H' => ∃ c, pCm l = some (c, l') ∧ (CmOk c ∧ cmB c = true) ∧ H' = [(0, .box (cmrow c))]) (fun H' => pCm l = none ∧ H' = zmH 0)) := by
 have ht := take8_d l hl
 refine no_implicit_lambda% (acalls_of tok dok (f := 120) ⟨Tryz.func120, rfl, by kernel_rfl⟩ ?_); refine no_implicit_lambda% (c_start (fun _ h => h) ?_)
 refine no_implicit_lambda% (awd ?_)
 (refine no_implicit_lambda% (cal [1] (ht) ?_ ?_))
 ·intro x H' hh
  rcases hh with ⟨o, r, g, ⟨hz, hr⟩, h', rfl⟩ | ⟨_, h', _⟩
  ·cases h'
   first | (refine no_implicit_lambda% (akc ?_)) | (refine no_implicit_lambda% (aec ?_))
   refine no_implicit_lambda% (awd ?_)
   exact e_ret (H' := (1, .box [.list (r.map brow) .free]) :: [(0, .box (cmrow o))]) (rest := _) rfl (.inl ⟨_, r, _, ⟨o, g, hz, rfl⟩, rfl, rfl⟩) permT (LE0 rfl)
  ·cases h'
 ·intro x H' hh
  rcases hh with ⟨_, _, _, _, h', _⟩ | ⟨hno, h', rfl⟩
  ·cases h'
  ·cases h'
   refine no_implicit_lambda% (awd ?_)
   exact e_pan (H' := zmH 0) (rest := []) (.inr ⟨_, ⟨hno, rfl⟩, rfl, rfl⟩) permT (LE0 rfl)
noncomputable def oOut (l : List UInt8) : AOut := match pDec l with
 | some c => .ret (.tuple [.agg (cmrow c), .v (.int .i64 0)])
 | none => .ret (.tuple [.agg (cmrow cm0), .v (.int .i64 12)])
set_option maxHeartbeats 6400000 in
theorem decode8_c (l : List UInt8) (hl : l.length < 281474976710656) : ACalls Tryz.prog 46 0 20000 [.list (l.map brow) .free] [] (fun out H' => (out = oOut l ∧ ∀ c, pDec l = some c → CmOk c) ∧ H' = []) := by
 refine no_implicit_lambda% (acalls_of tok dok (f := 46) ⟨Tryz.func46, rfl, by kernel_rfl⟩ ?_); refine no_implicit_lambda% (c_start (fun _ h => h) ?_)
 refine no_implicit_lambda% (awd ?_)
 (refine no_implicit_lambda% (calw [1] (read_c (m := 1) (cap := [.ptr 0 0]) (H1 := zmH 0) (by decide) (cb8_c l hl) (fun f hf => by simp [AV.renL, AV.ren, hf]) (fun f hf => by simp [renH, Res.ren, AV.renL, AV.ren, hf, zmH, Own.ren]) (fun l' H h f hf => by obtain ⟨v, _, _, h⟩ := h; simp [h, renH, Res.ren, AV.renL, AV.ren, hf, Own.ren, cmrow, oqrow, cdrow, vrowV, snrow]) (fun H h f hf => by obtain ⟨_, rfl⟩ := h; simp [renH, Res.ren, AV.renL, AV.ren, hf, zmH, Own.ren])) ?_ ?_))
 rotate_left
 ·intro x H' h
  rcases h with ⟨_, _, h1⟩ | ⟨_, h1⟩ <;> cases h1
 intro x H' h
 rcases h with ⟨l1, ⟨c, g1, ⟨hok, hB⟩, rfl⟩, h1⟩ | ⟨⟨hno1, rfl⟩, h1⟩
 ·have hD : ∀ l1, pCm l = some (c, l1) → pDec l = if l1 = [] then some c else none := fun l1 g => by unfold pDec; rw [g]; rfl
  rcases l1 with _ | ⟨u, l1⟩
  ·have hd := hD [] g1
   rw [if_pos rfl] at hd
   cases h1
   refine no_implicit_lambda% (akc ?_)
   repeat' (first | (refine no_implicit_lambda% (zH ?_)) | (refine no_implicit_lambda% (spl (fun hc => ?_) (fun hc => ?_)) <;> first | exact zG hc | skip) | (refine no_implicit_lambda% (ans ?_)) | (with_reducible first | exact zI | exact zJ))
   exact e_ret (H' := []) (rest := _) rfl ⟨⟨by unfold oOut; rw [hd]; rfl, fun c' hc' => by rw [hd] at hc'; cases hc'; exact hok⟩, rfl⟩ permT (LE0 rfl)
  ·have hd := hD (u :: l1) g1
   rw [if_neg (by simp)] at hd
   rw [show decide ((((u :: l1).map brow).length : Int) = 0) = false from decide_eq_false (by rw [List.length_map, List.length_cons]; omega)] at h1
   cases h1
   refine no_implicit_lambda% (akc ?_)
   repeat' (first | (refine no_implicit_lambda% (zH ?_)) | (refine no_implicit_lambda% (spl (fun hc => ?_) (fun hc => ?_)) <;> first | exact zG hc | skip) | (refine no_implicit_lambda% (ans ?_)) | (with_reducible first | exact zI | exact zJ))
   refine e_ret_to (H' := []) (rest := [(1, .box (cmrow c)), (0, .box (cmrow cm0))]) (Conv.toT (τ := ⟨_, [(1, .box (cmrow c)), (0, .box (cmrow cm0))], _⟩) (.refl _) ?_ (Nat.le_refl _)) rfl ⟨⟨by unfold oOut; rw [hd]; rfl, fun c' hc' => by rw [hd] at hc'; cases hc'⟩, rfl⟩ permT (LE0 rfl)
   exact wkh
 ·have hd : pDec l = none := by unfold pDec; rw [hno1]; rfl
  cases h1
  refine no_implicit_lambda% (akc ?_)
  repeat' (first | (refine no_implicit_lambda% (zH ?_)) | (refine no_implicit_lambda% (spl (fun hc => ?_) (fun hc => ?_)) <;> first | exact zG hc | skip) | (refine no_implicit_lambda% (ans ?_)) | (with_reducible first | exact zI | exact zJ))
  refine e_ret_to (H' := []) (rest := [(1, .box (cmrow cm0)), (0, .box (cmrow cm0))]) (Conv.toT (τ := ⟨_, [(1, .box (cmrow cm0)), (0, .box (cmrow cm0))], _⟩) (.refl _) ?_ (Nat.le_refl _)) rfl ⟨⟨by unfold oOut; rw [hd]; rfl, fun c' hc' => by rw [hd] at hc'; cases hc'⟩, rfl⟩ permT (LE0 rfl)
  exact wkh
theorem oOut_top {l : List UInt8} {top : Nat} (h : ACalls Tryz.prog 46 0 top [.list (l.map brow) .free] [] (fun out H' => (out = oOut l ∧ ∀ c, pDec l = some c → CmOk c) ∧ H' = [])) : ACalls Tryz.prog 46 0 0 [.list (l.map brow) .free] [] (fun out H' => (out = oOut l ∧ ∀ c, pDec l = some c → CmOk c) ∧ H' = []) :=
 ACalls.ren h (Nat.zero_le _) fun out H' hh => by
  obtain ⟨⟨rfl, h2⟩, rfl⟩ := hh
  exact ⟨[], oOut l, [], List.nodup_nil, (fun q h => by cases h), (fun q h => by omega), Nat.le_refl _, (by unfold oOut; cases pDec l <;> rfl), rfl, ⟨rfl, h2⟩, rfl⟩
theorem dOut_top {l : List UInt8} {top : Nat} (h : ACalls Tryz.prog 47 0 top [.list (l.map brow) .free] [] (fun out H' => out = dOut l ∧ H' = [])) : ACalls Tryz.prog 47 0 0 [.list (l.map brow) .free] [] (fun out H' => out = dOut l ∧ H' = []) :=
 ACalls.ren h (Nat.zero_le _) fun out H' hh => by
  obtain ⟨rfl, rfl⟩ := hh
  exact ⟨[], dOut l, [], List.nodup_nil, (fun q h => by cases h), (fun q h => by omega), Nat.le_refl _, (by unfold dOut; cases pDec l <;> rfl), rfl, rfl, rfl⟩
theorem CmOk.n {c : Cm} (h : CmOk c) : OqN c.op := ⟨h.1.2.1.2, fun x hx => (h.1.2.2 x hx).2⟩
set_option maxHeartbeats 6400000 in
theorem decodes8_c (l : List UInt8) (hl : l.length < 281474976710656) : ACalls Tryz.prog 12 0 5000 [.list (l.map brow) .free] [] (fun out H' => out = .ret (.v (.bool true)) ∧ H' = []) := by
 have h1 := oOut_top (decode8_c l hl)
 have h2 := dOut_top (rdecode_c l hl)
 unfold dOut at h2
 refine no_implicit_lambda% (acalls_of tok dok (f := 12) ⟨Tryz.func12, rfl, by kernel_rfl⟩ ?_); refine no_implicit_lambda% (c_start (fun _ h => h) ?_)
 refine no_implicit_lambda% (awd ?_)
 (refine no_implicit_lambda% (cal [] (h1) ?_ ?_))
 rotate_left
 ·intro xx H' hh
  obtain ⟨⟨h', _⟩, rfl⟩ := hh
  unfold oOut at h'
  split at h' <;> cases h'
 intro xx H' hh
 obtain ⟨⟨h', hok⟩, rfl⟩ := hh
 unfold oOut at h'
 rcases hd : pDec l with _ | c
 ·rw [hd] at h' h2
  cases h'
  have hs := samecm_c cm0 ⟨by decide, fun x hx => by cases hx⟩ (by decide)
  first | (refine no_implicit_lambda% (akc ?_)) | (refine no_implicit_lambda% (aec ?_))
  repeat' (first | (refine no_implicit_lambda% (zH ?_)) | (refine no_implicit_lambda% (spl (fun hc => ?_) (fun hc => ?_)) <;> first | exact zG hc | skip) | (refine no_implicit_lambda% (ans ?_)) | (with_reducible first | exact zI | exact zJ) | (refine no_implicit_lambda% (cal [] (h2) ?_ ?_)) | (refine no_implicit_lambda% (cal [] (hs) ?_ ?_)) | fail)
  all_goals first | (exact e_ret (H' := []) (rest := _) rfl ⟨rfl, rfl⟩ permT (LE0 rfl))
 ·have hk := hok c hd
  rw [hd] at h' h2
  cases h'
  have hs := samecm_c c hk.n (by have := hk.1.1; omega)
  first | (refine no_implicit_lambda% (akc ?_)) | (refine no_implicit_lambda% (aec ?_))
  repeat' (first | (refine no_implicit_lambda% (zH ?_)) | (refine no_implicit_lambda% (spl (fun hc => ?_) (fun hc => ?_)) <;> first | exact zG hc | skip) | (refine no_implicit_lambda% (ans ?_)) | (with_reducible first | exact zI | exact zJ) | (refine no_implicit_lambda% (cal [] (h2) ?_ ?_)) | (refine no_implicit_lambda% (cal [] (hs) ?_ ?_)) | fail)
  all_goals first | (exact e_ret (H' := []) (rest := _) rfl ⟨rfl, rfl⟩ permT (LE0 rfl))
end Go.Proofs.YtncffhgoopdfgaaGreat
namespace Go.Proofs.YtncffhgoopdfgaaGreat
open Go.Am
set_option maxRecDepth 100000
def encU (c s : Nat) (b : List UInt8) : List UInt8 := [UInt8.ofNat c] ++ be s 4 ++ (be b.length 4 ++ b)
theorem wrap8_c (c s : Nat) (b : List UInt8) (hc : c < 256) (hs : s < 4294967296) (hb : b.length ≤ 1048576) : ACalls Tryz.prog 53 0 100 [.v (.int .i64 c), .v (.int .i64 s), .list (b.map brow) .free] [] (fun out H' => out = .ret (.list ((encU c s b).map brow) .free) ∧ H' = []) := by
 have hnw := new_c
 have h1 := byte_c [] (UInt8.ofNat c) (by decide)
 have h2 := num_c [UInt8.ofNat c] s hs (show 1 < 1073741824 by decide)
 have h3 := text_c ([UInt8.ofNat c] ++ be s 4) b (by omega) (by simp [be_len])
 rw [if_pos hb] at h3
 have h4 := done_c (encU c s b) (by unfold encU; simp only [List.length_append, be_len, List.length_singleton]; omega)
 have hlm : ((b.map brow).length : Int) = b.length := by rw [List.length_map]
 refine no_implicit_lambda% (acalls_of tok dok (f := 53) ⟨Tryz.func53, rfl, by kernel_rfl⟩ ?_); refine no_implicit_lambda% (c_start (fun _ h => h) ?_)
 repeat' (first | (refine no_implicit_lambda% (zH ?_)) | (refine no_implicit_lambda% (spl (fun hc => ?_) (fun hc => ?_)) <;> first | exact zG hc | skip) | (refine no_implicit_lambda% (ans ?_)) | (with_reducible first | exact zI | exact zJ) | (refine no_implicit_lambda% (cal [] (hnw) ?_ ?_)) | fail)
 rw [show IntKind.u8.wrap (c : Int) = ((UInt8.ofNat c).toNat : Int) from u8len c]
 repeat' (first | (refine no_implicit_lambda% (zH ?_)) | (refine no_implicit_lambda% (spl (fun hc => ?_) (fun hc => ?_)) <;> first | exact zG hc | skip) | (refine no_implicit_lambda% (ans ?_)) | (with_reducible first | exact zI | exact zJ) | (refine no_implicit_lambda% (cal [0, 1] (h1) ?_ ?_)) | fail)
 rw [show IntKind.u32.wrap (s : Int) = (s : Int) by rw [IntKind.wrap_u32]; omega]
 repeat' (first | (refine no_implicit_lambda% (zH ?_)) | (refine no_implicit_lambda% (spl (fun hc => ?_) (fun hc => ?_)) <;> first | exact zG hc | skip) | (refine no_implicit_lambda% (ans ?_)) | (with_reducible first | exact zI | exact zJ) | (refine no_implicit_lambda% (cal [0, 1] (h2) ?_ ?_)) | (refine no_implicit_lambda% (cal [0, 1] (h3) ?_ ?_)) | (refine no_implicit_lambda% (cal [0, 1] (h4) ?_ ?_)) | fail)
 exact e_ret (H' := []) (rest := _) rfl ⟨rfl, rfl⟩ permT (LE0 rfl)
def pUw (l : List UInt8) : Option ((Nat × Nat × List UInt8) × List UInt8) := bnd (pB l) fun c r => bnd (pN r) fun s r1 => bnd (pT r1) fun b r2 => some ((c, s, b), r2)
def pUwA (l : List UInt8) : Option (Nat × Nat × List UInt8) := bnd (pUw l) fun x r => if r = [] then some x else none
def uH (x y : Nat) (b : List UInt8) : Heap := [(0, .box [.v (.int .i64 x)]), (1, .box [.v (.int .i64 y)]), (2, .box [.list (b.map brow) .free])]
def uZ (x y : Nat) : Heap := [(0, .box [.v (.int .i64 x)]), (1, .box [.v (.int .i64 y)]), (2, .box [.list [] .full])]
def UwOk (x : Nat × Nat × List UInt8) : Prop := x.1 < 256 ∧ x.2.1 < 4294967296 ∧ x.2.2.length ≤ 1048576
set_option maxHeartbeats 3200000 in
theorem ucb_c (l : List UInt8) (hl : l.length < 10000000) : ACalls Tryz.prog 129 4 4 [.ptr 3 0, .ptr 0 0, .ptr 1 0, .ptr 2 0] ((3, .box [.list (l.map brow) .free]) :: uZ 0 0) (cbR 3 (fun l' H' => ∃ x, pUw l = some (x, l') ∧ UwOk x ∧ H' = uH x.1 x.2.1 x.2.2) (fun H' => pUw l = none ∧ ∃ x y, H' = uZ x y)) := by
 have hP : pUw l = bnd (pB l) fun c r => bnd (pN r) fun s r1 => bnd (pT r1) fun b r2 => some ((c, s, b), r2) := rfl
 refine no_implicit_lambda% (acalls_of tok dok (f := 129) ⟨Tryz.func129, rfl, by kernel_rfl⟩ ?_); refine no_implicit_lambda% (c_start (fun _ h => h) ?_)
 repeat' (first | (refine no_implicit_lambda% (zH ?_)) | (refine no_implicit_lambda% (spl (fun hc => ?_) (fun hc => ?_)) <;> first | exact zG hc | skip) | (refine no_implicit_lambda% (ans ?_)) | (with_reducible first | exact zI | exact zJ))
 ((refine no_implicit_lambda% (cal [3] (oB_c l (by omega)) ?_ ?_)); rotate_left; (focus (intro xx H' hh; rcases hh with ⟨_, _, _, _, h', _⟩ | ⟨hN, h', rfl⟩ <;> first | (cases h'; done) | (cases h'; repeat' (first | (refine no_implicit_lambda% (zH ?_)) | (refine no_implicit_lambda% (spl (fun hc => ?_) (fun hc => ?_)) <;> first | exact zG hc | skip) | (refine no_implicit_lambda% (ans ?_)) | (with_reducible first | exact zI | exact zJ)); exact e_pan (H' := uZ 0 0) (rest := []) (.inr ⟨_, ⟨by (rw [hP, hN]; rfl), 0, 0, rfl⟩, rfl, rfl⟩) permT (LE0 rfl)))); (intro xx H' hh); (rcases hh with ⟨c, r0, hX, ⟨hc, hr0⟩, h', rfl⟩ | ⟨_, h', _⟩); rotate_left; (focus (cases h'; done)); (cases h'); (first | (refine no_implicit_lambda% (akc ?_)) | (refine no_implicit_lambda% (aec ?_))); (rw [hX, bnd_some] at hP); (clear hX); repeat' (first | (refine no_implicit_lambda% (zH ?_)) | (refine no_implicit_lambda% (spl (fun hc => ?_) (fun hc => ?_)) <;> first | exact zG hc | skip) | (refine no_implicit_lambda% (ans ?_)) | (with_reducible first | exact zI | exact zJ)))
 rw [show IntKind.i64.wrap (c : Int) = (c : Int) from z64 (by omega) (by omega)]
 ((refine no_implicit_lambda% (cal [3] (oN_c r0 (by omega)) ?_ ?_)); rotate_left; (focus (intro xx H' hh; rcases hh with ⟨_, _, _, _, h', _⟩ | ⟨hN, h', rfl⟩ <;> first | (cases h'; done) | (cases h'; repeat' (first | (refine no_implicit_lambda% (zH ?_)) | (refine no_implicit_lambda% (spl (fun hc => ?_) (fun hc => ?_)) <;> first | exact zG hc | skip) | (refine no_implicit_lambda% (ans ?_)) | (with_reducible first | exact zI | exact zJ)); exact e_pan (H' := uZ 0 0) (rest := []) (.inr ⟨_, ⟨by (rw [hP, hN]; rfl), 0, 0, rfl⟩, rfl, rfl⟩) permT (LE0 rfl)))); (intro xx H' hh); (rcases hh with ⟨s, r1, hX, ⟨hs, hr1⟩, h', rfl⟩ | ⟨_, h', _⟩); rotate_left; (focus (cases h'; done)); (cases h'); (first | (refine no_implicit_lambda% (akc ?_)) | (refine no_implicit_lambda% (aec ?_))); (rw [hX, bnd_some] at hP); (clear hX); repeat' (first | (refine no_implicit_lambda% (zH ?_)) | (refine no_implicit_lambda% (spl (fun hc => ?_) (fun hc => ?_)) <;> first | exact zG hc | skip) | (refine no_implicit_lambda% (ans ?_)) | (with_reducible first | exact zI | exact zJ)))
 rw [show IntKind.i64.wrap (s : Int) = (s : Int) from z64 (by omega) (by omega)]
 ((refine no_implicit_lambda% (cal [3] (oT_c r1 (by omega)) ?_ ?_)); rotate_left; (focus (intro xx H' hh; rcases hh with ⟨_, _, _, _, h', _⟩ | ⟨hN, h', rfl⟩ <;> first | (cases h'; done) | (cases h'; repeat' (first | (refine no_implicit_lambda% (zH ?_)) | (refine no_implicit_lambda% (spl (fun hc => ?_) (fun hc => ?_)) <;> first | exact zG hc | skip) | (refine no_implicit_lambda% (ans ?_)) | (with_reducible first | exact zI | exact zJ)); exact e_pan (H' := uZ c s) (rest := []) (.inr ⟨_, ⟨by (rw [hP, hN]; rfl), c, s, rfl⟩, rfl, rfl⟩) permT (LE0 rfl)))); (intro xx H' hh); (rcases hh with ⟨b, r2, hX, ⟨hb, hr2⟩, h', rfl⟩ | ⟨_, h', _⟩); rotate_left; (focus (cases h'; done)); (cases h'); (first | (refine no_implicit_lambda% (akc ?_)) | (refine no_implicit_lambda% (aec ?_))); (rw [hX, bnd_some] at hP); (clear hX); repeat' (first | (refine no_implicit_lambda% (zH ?_)) | (refine no_implicit_lambda% (spl (fun hc => ?_) (fun hc => ?_)) <;> first | exact zG hc | skip) | (refine no_implicit_lambda% (ans ?_)) | (with_reducible first | exact zI | exact zJ)))
 exact e_ret (H' := (3, .box [.list (r2.map brow) .free]) :: uH c s b) (rest := _) rfl (.inl ⟨_, r2, _, ⟨(c, s, b), hP, ⟨hc, hs, hb⟩, rfl⟩, rfl, rfl⟩) permT (LE0 rfl)
def uOut (l : List UInt8) : AOut := match pUwA l with
 | some (c, s, b) => .ret (.tuple [.v (.int .i64 c), .v (.int .i64 s), .list (b.map brow) .free, .v (.bool true)])
 | none => .ret (.tuple [.v (.int .i64 0), .v (.int .i64 0), .list [] .free, .v (.bool false)])
set_option maxHeartbeats 3200000 in
theorem unwrap8_c (l : List UInt8) (hl : l.length < 10000000) : ACalls Tryz.prog 52 0 1000 [.list (l.map brow) .free] [] (fun out H' => out = uOut l ∧ H' = []) := by
 refine no_implicit_lambda% (acalls_of tok dok (f := 52) ⟨Tryz.func52, rfl, by kernel_rfl⟩ ?_); refine no_implicit_lambda% (c_start (fun _ h => h) ?_)
 refine no_implicit_lambda% (awd ?_)
 (refine no_implicit_lambda% (calw [0, 1, 2] (read_c (m := 3) (cap := [.ptr 0 0, .ptr 1 0, .ptr 2 0]) (H1 := uZ 0 0) (by decide) (ucb_c l hl) (fun f hf => by simp [AV.renL, AV.ren, hf]) (fun f hf => by simp [renH, Res.ren, AV.renL, AV.ren, hf, uZ, Own.ren]) (fun l' H h f hf => by obtain ⟨v, _, _, h⟩ := h; simp [h, uH, renH, Res.ren, AV.renL, AV.ren, hf, Own.ren]) (fun H h f hf => by obtain ⟨_, _, _, rfl⟩ := h; simp [renH, Res.ren, AV.renL, AV.ren, hf, uZ, Own.ren])) ?_ ?_))
 rotate_left
 ·intro x H' h
  rcases h with ⟨_, _, h1⟩ | ⟨_, h1⟩ <;> cases h1
 intro x H' h
 rcases h with ⟨l1, ⟨⟨c, s, b⟩, g1, hok, rfl⟩, h1⟩ | ⟨⟨hno1, x, y, rfl⟩, h1⟩
 ·have hD : pUwA l = if l1 = [] then some (c, s, b) else none := by unfold pUwA; rw [g1]; rfl
  rcases l1 with _ | ⟨u, l1⟩
  ·rw [if_pos rfl] at hD
   cases h1
   refine no_implicit_lambda% (akc ?_)
   repeat' (first | (refine no_implicit_lambda% (zH ?_)) | (refine no_implicit_lambda% (splv (fun hc => ?_) (fun hc => ?_)) <;> first | exact zG hc | skip) | (refine no_implicit_lambda% (ans ?_)) | (with_reducible first | exact zI | exact zJ))
   exact e_ret (H' := []) (rest := _) rfl ⟨by unfold uOut; rw [hD]; rfl, rfl⟩ permT (LE0 rfl)
  ·rw [if_neg (by simp)] at hD
   rw [show decide ((((u :: l1).map brow).length : Int) = 0) = false from decide_eq_false (by rw [List.length_map, List.length_cons]; omega)] at h1
   cases h1
   refine no_implicit_lambda% (akc ?_)
   repeat' (first | (refine no_implicit_lambda% (zH ?_)) | (refine no_implicit_lambda% (splv (fun hc => ?_) (fun hc => ?_)) <;> first | exact zG hc | skip) | (refine no_implicit_lambda% (ans ?_)) | (with_reducible first | exact zI | exact zJ))
   exact e_ret_to (H' := []) (rest := _) (.freeSlot 4 rfl) rfl ⟨by unfold uOut; rw [hD]; rfl, rfl⟩ permT (LE0 rfl)
 ·have hD : pUwA l = none := by unfold pUwA; rw [hno1]; rfl
  cases h1
  refine no_implicit_lambda% (akc ?_)
  repeat' (first | (refine no_implicit_lambda% (zH ?_)) | (refine no_implicit_lambda% (splv (fun hc => ?_) (fun hc => ?_)) <;> first | exact zG hc | skip) | (refine no_implicit_lambda% (ans ?_)) | (with_reducible first | exact zI | exact zJ))
  exact e_ret_to (H' := []) (rest := _) (.freeSlot 4 rfl) rfl ⟨by unfold uOut; rw [hD]; rfl, rfl⟩ permT (LE0 rfl)
theorem pUw_enc {c s : Nat} {b : List UInt8} (hc : c < 256) (hs : s < 4294967296) (hb : b.length ≤ 1048576) (r : List UInt8) : pUw (encU c s b ++ r) = some ((c, s, b), r) := by
 unfold pUw encU
 rw [show [UInt8.ofNat c] ++ be s 4 ++ (be b.length 4 ++ b) ++ r = [UInt8.ofNat c] ++ (be s 4 ++ (be b.length 4 ++ b ++ r)) by simp only [List.append_assoc], pB_enc hc, bnd_some, pN_enc hs, bnd_some, pT_enc hb, bnd_some]
theorem pUwA_enc {c s : Nat} {b : List UInt8} (hc : c < 256) (hs : s < 4294967296) (hb : b.length ≤ 1048576) : pUwA (encU c s b) = some (c, s, b) := by
 unfold pUwA
 have := pUw_enc hc hs hb []
 rw [List.append_nil] at this
 rw [this]; rfl
def cm10 : Cm := ⟨10, zOp, zSn, 0, ⟨#[]⟩, 0, 0, []⟩
set_option maxHeartbeats 3200000 in
theorem known8_c : ACalls Tryz.prog 14 0 100000 [] [] (fun out H' => out = .ret (.v (.bool true)) ∧ H' = []) := by
 have z0 : OqN zOp := ⟨by decide, fun x hx => by cases hx⟩
 have h1 := encode8_ok cm10 (by decide) z0 (by decide)
 have h2 := encode8_no cm0 (by decide) (by decide)
 have h3 : ACalls Tryz.prog 46 0 20000 [.list (([] : List UInt8).map brow) .free] [] (fun out H' => out = .ret (.tuple [.agg (cmrow cm0), .v (.int .i64 12)]) ∧ H' = []) := (decode8_c [] (by decide)).mono fun o H' hh => ⟨hh.1.1, hh.2⟩
 have h4 := wrap8_c 7 258 [120] (by decide) (by decide) (by decide)
 have h5 : ACalls Tryz.prog 52 0 1000 [.list ((encU 7 258 [120]).map brow) .free] [] (fun out H' => out = .ret (.tuple [.v (.int .i64 7), .v (.int .i64 258), .list (([120] : List UInt8).map brow) .free, .v (.bool true)]) ∧ H' = []) := (unwrap8_c (encU 7 258 [120]) (by decide)).mono fun o H' hh => ⟨by rw [hh.1]; unfold uOut; rw [pUwA_enc (by decide) (by decide) (by decide)]; rfl, hh.2⟩
 refine no_implicit_lambda% (acalls_of tok dok (f := 14) ⟨Tryz.func14, rfl, by kernel_rfl⟩ ?_); refine no_implicit_lambda% (c_start (fun _ h => h) ?_)
 repeat' (first | (refine no_implicit_lambda% (zH ?_)) | (refine no_implicit_lambda% (spl (fun hc => ?_) (fun hc => ?_)) <;> first | exact zG hc | skip) | (refine no_implicit_lambda% (ans ?_)) | (with_reducible first | exact zI | exact zJ))
 ((refine no_implicit_lambda% (calw [] (h1) ?_ ?_)); rotate_left; (focus (first | (exact zI) | (exact zJ))); (refine no_implicit_lambda% (ret1 ?_); first | (refine no_implicit_lambda% (akc ?_)) | (refine no_implicit_lambda% (aec ?_))); repeat' (first | (refine no_implicit_lambda% (zH ?_)) | (refine no_implicit_lambda% (spl (fun hc => ?_) (fun hc => ?_)) <;> first | exact zG hc | skip) | (refine no_implicit_lambda% (ans ?_)) | (with_reducible first | exact zI | exact zJ)))
 ((refine no_implicit_lambda% (calw [] (h2) ?_ ?_)); rotate_left; (focus (first | (exact zI) | (exact zJ))); (refine no_implicit_lambda% (ret1 ?_); first | (refine no_implicit_lambda% (akc ?_)) | (refine no_implicit_lambda% (aec ?_))); repeat' (first | (refine no_implicit_lambda% (zH ?_)) | (refine no_implicit_lambda% (spl (fun hc => ?_) (fun hc => ?_)) <;> first | exact zG hc | skip) | (refine no_implicit_lambda% (ans ?_)) | (with_reducible first | exact zI | exact zJ)))
 ((refine no_implicit_lambda% (calw [] (h3) ?_ ?_)); rotate_left; (focus (first | (exact zI) | (exact zJ))); (refine no_implicit_lambda% (ret1 ?_); first | (refine no_implicit_lambda% (akc ?_)) | (refine no_implicit_lambda% (aec ?_))); repeat' (first | (refine no_implicit_lambda% (zH ?_)) | (refine no_implicit_lambda% (spl (fun hc => ?_) (fun hc => ?_)) <;> first | exact zG hc | skip) | (refine no_implicit_lambda% (ans ?_)) | (with_reducible first | exact zI | exact zJ)))
 ((refine no_implicit_lambda% (calw [] (h4) ?_ ?_)); rotate_left; (focus (first | (exact zI) | (exact zJ))); (refine no_implicit_lambda% (ret1 ?_); first | (refine no_implicit_lambda% (akc ?_)) | (refine no_implicit_lambda% (aec ?_))); repeat' (first | (refine no_implicit_lambda% (zH ?_)) | (refine no_implicit_lambda% (spl (fun hc => ?_) (fun hc => ?_)) <;> first | exact zG hc | skip) | (refine no_implicit_lambda% (ans ?_)) | (with_reducible first | exact zI | exact zJ)))
 ((refine no_implicit_lambda% (calw [] (h5) ?_ ?_)); rotate_left; (focus (first | (exact zI) | (exact zJ))); (refine no_implicit_lambda% (ret1 ?_); first | (refine no_implicit_lambda% (akc ?_)) | (refine no_implicit_lambda% (aec ?_))); repeat' (first | (refine no_implicit_lambda% (zH ?_)) | (refine no_implicit_lambda% (spl (fun hc => ?_) (fun hc => ?_)) <;> first | exact zG hc | skip) | (refine no_implicit_lambda% (ans ?_)) | (with_reducible first | exact zI | exact zJ)))
 ·refine no_implicit_lambda% (e_ret (H' := []) (rest := _) rfl ⟨congrArg (fun z => AOut.ret (.v (.bool z))) ?_, rfl⟩ (.refl _) (LE0 rfl))
  exact beq_self_eq_true _
 ·exfalso
  rw [show (⟨(encCm cm10).toArray⟩ : ByteArray) = ⟨#[10]⟩ from rfl, beq_self_eq_true] at hc
  cases hc
end Go.Proofs.YtncffhgoopdfgaaGreat
