/- Part 12 of what the laws CmdBack rest on: CdI, CdJ, CdK, CtE, CtS, CdM, CdL, CdP, CdF, CdG. -/
import Derived.Test.YtncffhgoopdfgaaP11
set_option linter.unusedSimpArgs false
set_option linter.unusedVariables false
namespace Go.Proofs.Ytncffhgoopdfgaa
open Go.Am
set_option maxRecDepth 100000
def zOp : Oq := ⟨0, ⟨#[]⟩, ⟨#[]⟩, zCd, [], 0⟩
def zSn : Sn := ⟨⟨#[]⟩, ⟨#[]⟩⟩
def cmR (c : Cm) (r : List UInt8) : Option (Cm × List UInt8) := if cmB c then some (c, r) else none
noncomputable def cmP (k : Nat) (r : List UInt8) : Option (Cm × List UInt8) :=
 if k = 1 then bnd (pOp r) fun q r1 => cmR ⟨1, q, zSn, 0, ⟨#[]⟩, 0, 0, []⟩ r1 else
 if k = 2 ∨ k = 4 then bnd (pSr r) fun s r1 => bnd (pN r1) fun g r2 => cmR ⟨k, zOp, s, g, ⟨#[]⟩, 0, 0, []⟩ r2 else
 if k = 3 then bnd (pSr r) fun s r1 => bnd (pN r1) fun g r2 => bnd (pT r2) fun t r3 => cmR ⟨3, zOp, s, g, ⟨#[]⟩, 0, 0, t⟩ r3 else
 if k = 5 ∨ k = 6 then bnd (pSr r) fun s r1 => bnd (pN r1) fun g r2 => bnd (pX r2) fun a r3 => cmR ⟨k, zOp, s, g, ⟨a.toArray⟩, 0, 0, []⟩ r3 else
 if k = 7 then bnd (pX r) fun a r1 => cmR ⟨7, zOp, zSn, 0, ⟨a.toArray⟩, 0, 0, []⟩ r1 else
 if k = 8 then bnd (pB r) fun d r1 => (if d = 0 then cmR ⟨8, zOp, zSn, 0, ⟨#[]⟩, 0, 0, []⟩ r1 else bnd (pX r1) fun a r2 => bnd (pB r2) fun t r3 => cmR ⟨8, zOp, zSn, 0, ⟨a.toArray⟩, t, d, []⟩ r3) else
 if k = 9 then bnd (pN r) fun g r1 => bnd (pB r1) fun t r2 => cmR ⟨9, zOp, zSn, g, ⟨#[]⟩, -(t : Int), 0, []⟩ r2 else
 cmR ⟨k, zOp, zSn, 0, ⟨#[]⟩, 0, 0, []⟩ r
noncomputable def pCm (l : List UInt8) : Option (Cm × List UInt8) := bnd (pB l) cmP
theorem pSn_of {β : Type} (l : List UInt8) (f : Sn → List UInt8 → Option β) (h : ∀ s r, spB s = false → f s r = none) : bnd (pSr l) f = bnd (pSn l) f := by
 unfold pSn
 rcases pSr l with _ | ⟨s, r⟩
 ·rfl
 ·show f s r = bnd (if spB s then some (s, r) else none) f
  rcases hb : spB s with _ | _
  ·exact h s r hb
  ·rfl
def CmOk (c : Cm) : Prop := OqB c.op ∧ c.st.length ≤ 1048576
theorem zOp_B : OqB zOp := ⟨Nat.zero_le _, zCd_B, fun x hx => by cases hx⟩
theorem z_ok : OqB zOp ∧ 0 ≤ 1048576 := ⟨zOp_B, by decide⟩
theorem q_ok {q : Oq} (h : OqB q) : OqB q ∧ 0 ≤ 1048576 := ⟨h, by decide⟩
theorem cm_no {c : Cm} (h : cmB c = false) (r : List UInt8) : cmR c r = none := by unfold cmR; rw [h]; rfl
theorem takeop_d (l : List UInt8) (hl : l.length < 281474976710656) : ACalls Try.prog 83 1 1 [.ptr 0 0] (rd l) (rQ pOp OqB (fun q => .agg (oqrow q)) l) := rQ_top (takeop_c l hl) (by decide) (fun x g => by simp [oqrow, cdrow, vrowV, AV.ren, AV.renL, Own.ren])
theorem takesp_d (l : List UInt8) (hl : l.length < 281474976710656) : ACalls Try.prog 84 1 1 [.ptr 0 0] (rd l) (rQ pSn (fun s => spB s = true) (fun s => .agg (snrow s)) l) := rQ_top (takesp_c l hl) (by decide) (fun x g => rfl)
set_option maxHeartbeats 6400000 in
theorem take8_c (l : List UInt8) (hl : l.length < 281474976710656) : ACalls Try.prog 48 1 10000 [.ptr 0 0] (rd l) (rQ pCm (fun c => CmOk c ∧ cmB c = true) (fun c => .agg (cmrow c)) l) := by
 have hP : pCm l = bnd (pB l) cmP := rfl
 refine no_implicit_lambda% (acalls_of tok dok (f := 48) ⟨Try.func48, rfl, by kernel_rfl⟩ ?_); refine no_implicit_lambda% (c_start (fun _ h => h) ?_)
 repeat' (first | (refine no_implicit_lambda% (zH ?_)) | (refine no_implicit_lambda% (spl (fun hc => ?_) (fun hc => ?_)) <;> first | exact zG hc | skip) | (refine no_implicit_lambda% (ans ?_)) | (with_reducible first | exact zI | exact zJ))
 ((refine no_implicit_lambda% (cal [0] (oB_c l (by omega)) ?_ ?_)); rotate_left; (focus (intro xx H' hh; rcases hh with ⟨_, _, _, _, h', _⟩ | ⟨hN, h', rfl⟩ <;> first | (cases h'; done) | (cases h'; repeat' (first | (refine no_implicit_lambda% (zH ?_)) | (refine no_implicit_lambda% (spl (fun hc => ?_) (fun hc => ?_)) <;> first | exact zG hc | skip) | (refine no_implicit_lambda% (ans ?_)) | (with_reducible first | exact zI | exact zJ)); exact e_pan (H' := []) (rest := _) (.inr ⟨by (rw [hP, hN]; rfl), rfl, rfl⟩) permT (LE0 rfl)))); (intro xx H' hh); (rcases hh with ⟨k, r0, hX, ⟨hk, hr0⟩, h', rfl⟩ | ⟨_, h', _⟩); rotate_left; (focus (cases h'; done)); (cases h'); (first | (refine no_implicit_lambda% (akc ?_)) | (refine no_implicit_lambda% (aec ?_))); (rw [hX, bnd_some] at hP); (clear hX))
 have hk10 : k = 1 ∨ k = 2 ∨ k = 4 ∨ k = 3 ∨ k = 5 ∨ k = 6 ∨ k = 7 ∨ k = 8 ∨ k = 9 ∨ (k ≠ 1 ∧ k ≠ 2 ∧ k ≠ 3 ∧ k ≠ 4 ∧ k ≠ 5 ∧ k ≠ 6 ∧ k ≠ 7 ∧ k ≠ 8 ∧ k ≠ 9) := by omega
 rcases hk10 with rfl | rfl | rfl | rfl | rfl | rfl | rfl | rfl | rfl | hno
 ·replace hP : pCm l = bnd (pOp r0) fun q r1 => cmR ⟨1, q, zSn, 0, ⟨#[]⟩, 0, 0, []⟩ r1 := hP
  repeat' (first | (refine no_implicit_lambda% (zH ?_)) | (refine no_implicit_lambda% (spl (fun hc => ?_) (fun hc => ?_)) <;> first | exact zG hc | skip) | (refine no_implicit_lambda% (ans ?_)) | (with_reducible first | exact zI | exact zJ))
  ((refine no_implicit_lambda% (cal [0] (takeop_d r0 (by omega)) ?_ ?_)); rotate_left; (focus (intro xx H' hh; rcases hh with ⟨_, _, _, _, h', _⟩ | ⟨hN, h', rfl⟩ <;> first | (cases h'; done) | (cases h'; repeat' (first | (refine no_implicit_lambda% (zH ?_)) | (refine no_implicit_lambda% (spl (fun hc => ?_) (fun hc => ?_)) <;> first | exact zG hc | skip) | (refine no_implicit_lambda% (ans ?_)) | (with_reducible first | exact zI | exact zJ)); exact e_pan (H' := []) (rest := _) (.inr ⟨by (rw [hP, hN]; rfl), rfl, rfl⟩) permT (LE0 rfl)))); (intro xx H' hh); (rcases hh with ⟨q, r1, hX, ⟨hq, hr1⟩, h', rfl⟩ | ⟨_, h', _⟩); rotate_left; (focus (cases h'; done)); (cases h'); (first | (refine no_implicit_lambda% (akc ?_)) | (refine no_implicit_lambda% (aec ?_))); (rw [hX, bnd_some] at hP); (clear hX); repeat' (first | (refine no_implicit_lambda% (zH ?_)) | (refine no_implicit_lambda% (spl (fun hc => ?_) (fun hc => ?_)) <;> first | exact zG hc | skip) | (refine no_implicit_lambda% (ans ?_)) | (with_reducible first | exact zI | exact zJ)))
  ((have hcr := (cright_c (⟨1, q, zSn, 0, ⟨#[]⟩, 0, 0, []⟩ : Cm) (Nat.lt_of_le_of_lt (And.left (And.left (q_ok hq))) (show 255 < 1000000000000 by decide))).top0); (replace hP : pCm l = cmR (⟨1, q, zSn, 0, ⟨#[]⟩, 0, 0, []⟩ : Cm) r1 := hP); (rcases hB : cmB (⟨1, q, zSn, 0, ⟨#[]⟩, 0, 0, []⟩ : Cm) with _ | _); (focus ((try rw [hB] at hcr); (replace hP : pCm l = none := by (rw [hP]; unfold cmR; rw [hB]; rfl)); ((refine no_implicit_lambda% (calw [] (hcr) ?_ ?_))); rotate_left; (focus (first | (exact zI) | (exact zJ))); (refine no_implicit_lambda% (ret1 ?_); first | (refine no_implicit_lambda% (akc ?_)) | (refine no_implicit_lambda% (aec ?_))); repeat' (first | (refine no_implicit_lambda% (zH ?_)) | (refine no_implicit_lambda% (spl (fun hc => ?_) (fun hc => ?_)) <;> first | exact zG hc | skip) | (refine no_implicit_lambda% (ans ?_)) | (with_reducible first | exact zI | exact zJ)); ((refine no_implicit_lambda% (cal [0] (fail_c r1) ?_ ?_))); (focus (first | (exact zI) | (exact zJ))); (intro xx H' hh); (obtain ⟨h', rfl⟩ := hh); (cases h'); repeat' (first | (refine no_implicit_lambda% (zH ?_)) | (refine no_implicit_lambda% (spl (fun hc => ?_) (fun hc => ?_)) <;> first | exact zG hc | skip) | (refine no_implicit_lambda% (ans ?_)) | (with_reducible first | exact zI | exact zJ)); (exact e_pan (H' := []) (rest := _) (.inr ⟨hP, rfl, rfl⟩) permT (LE0 rfl)))); (focus ((try rw [hB] at hcr); (replace hP : pCm l = some ((⟨1, q, zSn, 0, ⟨#[]⟩, 0, 0, []⟩ : Cm), r1) := by (rw [hP]; unfold cmR; rw [hB]; rfl)); ((refine no_implicit_lambda% (calw [] (hcr) ?_ ?_))); rotate_left; (focus (first | (exact zI) | (exact zJ))); (refine no_implicit_lambda% (ret1 ?_); first | (refine no_implicit_lambda% (akc ?_)) | (refine no_implicit_lambda% (aec ?_))); repeat' (first | (refine no_implicit_lambda% (zH ?_)) | (refine no_implicit_lambda% (spl (fun hc => ?_) (fun hc => ?_)) <;> first | exact zG hc | skip) | (refine no_implicit_lambda% (ans ?_)) | (with_reducible first | exact zI | exact zJ)); (refine e_ret_to (H' := rd r1) (rest := [(2, .box (cmrow (⟨1, q, zSn, 0, ⟨#[]⟩, 0, 0, []⟩ : Cm))), (1, .box (cmrow (⟨1, q, zSn, 0, ⟨#[]⟩, 0, 0, []⟩ : Cm)))]) (Conv.toT (τ := ⟨_, [(0, .box [.list ((r1).map brow) .free]), (2, .box (cmrow (⟨1, q, zSn, 0, ⟨#[]⟩, 0, 0, []⟩ : Cm))), (1, .box (cmrow (⟨1, q, zSn, 0, ⟨#[]⟩, 0, 0, []⟩ : Cm)))], _⟩) (.refl _) ?_ (Nat.le_refl _)) rfl (.inl ⟨(⟨1, q, zSn, 0, ⟨#[]⟩, 0, 0, []⟩ : Cm), r1, hP, ⟨⟨(q_ok hq), hB⟩, by omega⟩, rfl, rfl⟩) permT (LE0 rfl)); exact wkh)))
 ·replace hP : pCm l = bnd (pSr r0) fun s r1 => bnd (pN r1) fun g r2 => cmR ⟨2, zOp, s, g, ⟨#[]⟩, 0, 0, []⟩ r2 := hP
  rw [pSn_of _ _ (fun s r hs => bnd_inv fun g r2 _ => cm_no (by show (spB s && genB g) = false; rw [hs]; rfl) r2)] at hP
  repeat' (first | (refine no_implicit_lambda% (zH ?_)) | (refine no_implicit_lambda% (spl (fun hc => ?_) (fun hc => ?_)) <;> first | exact zG hc | skip) | (refine no_implicit_lambda% (ans ?_)) | (with_reducible first | exact zI | exact zJ))
  ((refine no_implicit_lambda% (cal [0] (takesp_d r0 (by omega)) ?_ ?_)); rotate_left; (focus (intro xx H' hh; rcases hh with ⟨_, _, _, _, h', _⟩ | ⟨hN, h', rfl⟩ <;> first | (cases h'; done) | (cases h'; repeat' (first | (refine no_implicit_lambda% (zH ?_)) | (refine no_implicit_lambda% (spl (fun hc => ?_) (fun hc => ?_)) <;> first | exact zG hc | skip) | (refine no_implicit_lambda% (ans ?_)) | (with_reducible first | exact zI | exact zJ)); exact e_pan (H' := []) (rest := _) (.inr ⟨by (rw [hP, hN]; rfl), rfl, rfl⟩) permT (LE0 rfl)))); (intro xx H' hh); (rcases hh with ⟨s, r1, hX, ⟨hs, hr1⟩, h', rfl⟩ | ⟨_, h', _⟩); rotate_left; (focus (cases h'; done)); (cases h'); (first | (refine no_implicit_lambda% (akc ?_)) | (refine no_implicit_lambda% (aec ?_))); (rw [hX, bnd_some] at hP); (clear hX); repeat' (first | (refine no_implicit_lambda% (zH ?_)) | (refine no_implicit_lambda% (spl (fun hc => ?_) (fun hc => ?_)) <;> first | exact zG hc | skip) | (refine no_implicit_lambda% (ans ?_)) | (with_reducible first | exact zI | exact zJ)))
  ((refine no_implicit_lambda% (cal [0] (oN_c r1 (by omega)) ?_ ?_)); rotate_left; (focus (intro xx H' hh; rcases hh with ⟨_, _, _, _, h', _⟩ | ⟨hN, h', rfl⟩ <;> first | (cases h'; done) | (cases h'; repeat' (first | (refine no_implicit_lambda% (zH ?_)) | (refine no_implicit_lambda% (spl (fun hc => ?_) (fun hc => ?_)) <;> first | exact zG hc | skip) | (refine no_implicit_lambda% (ans ?_)) | (with_reducible first | exact zI | exact zJ)); exact e_pan (H' := []) (rest := _) (.inr ⟨by (rw [hP, hN]; rfl), rfl, rfl⟩) permT (LE0 rfl)))); (intro xx H' hh); (rcases hh with ⟨g, r2, hX, ⟨hg, hr2⟩, h', rfl⟩ | ⟨_, h', _⟩); rotate_left; (focus (cases h'; done)); (cases h'); (first | (refine no_implicit_lambda% (akc ?_)) | (refine no_implicit_lambda% (aec ?_))); (rw [hX, bnd_some] at hP); (clear hX); repeat' (first | (refine no_implicit_lambda% (zH ?_)) | (refine no_implicit_lambda% (spl (fun hc => ?_) (fun hc => ?_)) <;> first | exact zG hc | skip) | (refine no_implicit_lambda% (ans ?_)) | (with_reducible first | exact zI | exact zJ)))
  rw [show IntKind.i64.wrap (g : Int) = (g : Int) from z64 (by omega) (by omega)]
  ((have hcr := (cright_c (⟨2, zOp, s, g, ⟨#[]⟩, 0, 0, []⟩ : Cm) (Nat.lt_of_le_of_lt (And.left (And.left z_ok)) (show 255 < 1000000000000 by decide))).top0); (replace hP : pCm l = cmR (⟨2, zOp, s, g, ⟨#[]⟩, 0, 0, []⟩ : Cm) r2 := hP); (rcases hB : cmB (⟨2, zOp, s, g, ⟨#[]⟩, 0, 0, []⟩ : Cm) with _ | _); (focus ((try rw [hB] at hcr); (replace hP : pCm l = none := by (rw [hP]; unfold cmR; rw [hB]; rfl)); ((refine no_implicit_lambda% (calw [] (hcr) ?_ ?_))); rotate_left; (focus (first | (exact zI) | (exact zJ))); (refine no_implicit_lambda% (ret1 ?_); first | (refine no_implicit_lambda% (akc ?_)) | (refine no_implicit_lambda% (aec ?_))); repeat' (first | (refine no_implicit_lambda% (zH ?_)) | (refine no_implicit_lambda% (spl (fun hc => ?_) (fun hc => ?_)) <;> first | exact zG hc | skip) | (refine no_implicit_lambda% (ans ?_)) | (with_reducible first | exact zI | exact zJ)); ((refine no_implicit_lambda% (cal [0] (fail_c r2) ?_ ?_))); (focus (first | (exact zI) | (exact zJ))); (intro xx H' hh); (obtain ⟨h', rfl⟩ := hh); (cases h'); repeat' (first | (refine no_implicit_lambda% (zH ?_)) | (refine no_implicit_lambda% (spl (fun hc => ?_) (fun hc => ?_)) <;> first | exact zG hc | skip) | (refine no_implicit_lambda% (ans ?_)) | (with_reducible first | exact zI | exact zJ)); (exact e_pan (H' := []) (rest := _) (.inr ⟨hP, rfl, rfl⟩) permT (LE0 rfl)))); (focus ((try rw [hB] at hcr); (replace hP : pCm l = some ((⟨2, zOp, s, g, ⟨#[]⟩, 0, 0, []⟩ : Cm), r2) := by (rw [hP]; unfold cmR; rw [hB]; rfl)); ((refine no_implicit_lambda% (calw [] (hcr) ?_ ?_))); rotate_left; (focus (first | (exact zI) | (exact zJ))); (refine no_implicit_lambda% (ret1 ?_); first | (refine no_implicit_lambda% (akc ?_)) | (refine no_implicit_lambda% (aec ?_))); repeat' (first | (refine no_implicit_lambda% (zH ?_)) | (refine no_implicit_lambda% (spl (fun hc => ?_) (fun hc => ?_)) <;> first | exact zG hc | skip) | (refine no_implicit_lambda% (ans ?_)) | (with_reducible first | exact zI | exact zJ)); (refine e_ret_to (H' := rd r2) (rest := [(2, .box (cmrow (⟨2, zOp, s, g, ⟨#[]⟩, 0, 0, []⟩ : Cm))), (1, .box (cmrow (⟨2, zOp, s, g, ⟨#[]⟩, 0, 0, []⟩ : Cm)))]) (Conv.toT (τ := ⟨_, [(0, .box [.list ((r2).map brow) .free]), (2, .box (cmrow (⟨2, zOp, s, g, ⟨#[]⟩, 0, 0, []⟩ : Cm))), (1, .box (cmrow (⟨2, zOp, s, g, ⟨#[]⟩, 0, 0, []⟩ : Cm)))], _⟩) (.refl _) ?_ (Nat.le_refl _)) rfl (.inl ⟨(⟨2, zOp, s, g, ⟨#[]⟩, 0, 0, []⟩ : Cm), r2, hP, ⟨⟨z_ok, hB⟩, by omega⟩, rfl, rfl⟩) permT (LE0 rfl)); exact wkh)))
 ·replace hP : pCm l = bnd (pSr r0) fun s r1 => bnd (pN r1) fun g r2 => cmR ⟨4, zOp, s, g, ⟨#[]⟩, 0, 0, []⟩ r2 := hP
  rw [pSn_of _ _ (fun s r hs => bnd_inv fun g r2 _ => cm_no (by show (spB s && genB g) = false; rw [hs]; rfl) r2)] at hP
  repeat' (first | (refine no_implicit_lambda% (zH ?_)) | (refine no_implicit_lambda% (spl (fun hc => ?_) (fun hc => ?_)) <;> first | exact zG hc | skip) | (refine no_implicit_lambda% (ans ?_)) | (with_reducible first | exact zI | exact zJ))
  ((refine no_implicit_lambda% (cal [0] (takesp_d r0 (by omega)) ?_ ?_)); rotate_left; (focus (intro xx H' hh; rcases hh with ⟨_, _, _, _, h', _⟩ | ⟨hN, h', rfl⟩ <;> first | (cases h'; done) | (cases h'; repeat' (first | (refine no_implicit_lambda% (zH ?_)) | (refine no_implicit_lambda% (spl (fun hc => ?_) (fun hc => ?_)) <;> first | exact zG hc | skip) | (refine no_implicit_lambda% (ans ?_)) | (with_reducible first | exact zI | exact zJ)); exact e_pan (H' := []) (rest := _) (.inr ⟨by (rw [hP, hN]; rfl), rfl, rfl⟩) permT (LE0 rfl)))); (intro xx H' hh); (rcases hh with ⟨s, r1, hX, ⟨hs, hr1⟩, h', rfl⟩ | ⟨_, h', _⟩); rotate_left; (focus (cases h'; done)); (cases h'); (first | (refine no_implicit_lambda% (akc ?_)) | (refine no_implicit_lambda% (aec ?_))); (rw [hX, bnd_some] at hP); (clear hX); repeat' (first | (refine no_implicit_lambda% (zH ?_)) | (refine no_implicit_lambda% (spl (fun hc => ?_) (fun hc => ?_)) <;> first | exact zG hc | skip) | (refine no_implicit_lambda% (ans ?_)) | (with_reducible first | exact zI | exact zJ)))
  ((refine no_implicit_lambda% (cal [0] (oN_c r1 (by omega)) ?_ ?_)); rotate_left; (focus (intro xx H' hh; rcases hh with ⟨_, _, _, _, h', _⟩ | ⟨hN, h', rfl⟩ <;> first | (cases h'; done) | (cases h'; repeat' (first | (refine no_implicit_lambda% (zH ?_)) | (refine no_implicit_lambda% (spl (fun hc => ?_) (fun hc => ?_)) <;> first | exact zG hc | skip) | (refine no_implicit_lambda% (ans ?_)) | (with_reducible first | exact zI | exact zJ)); exact e_pan (H' := []) (rest := _) (.inr ⟨by (rw [hP, hN]; rfl), rfl, rfl⟩) permT (LE0 rfl)))); (intro xx H' hh); (rcases hh with ⟨g, r2, hX, ⟨hg, hr2⟩, h', rfl⟩ | ⟨_, h', _⟩); rotate_left; (focus (cases h'; done)); (cases h'); (first | (refine no_implicit_lambda% (akc ?_)) | (refine no_implicit_lambda% (aec ?_))); (rw [hX, bnd_some] at hP); (clear hX); repeat' (first | (refine no_implicit_lambda% (zH ?_)) | (refine no_implicit_lambda% (spl (fun hc => ?_) (fun hc => ?_)) <;> first | exact zG hc | skip) | (refine no_implicit_lambda% (ans ?_)) | (with_reducible first | exact zI | exact zJ)))
  rw [show IntKind.i64.wrap (g : Int) = (g : Int) from z64 (by omega) (by omega)]
  ((have hcr := (cright_c (⟨4, zOp, s, g, ⟨#[]⟩, 0, 0, []⟩ : Cm) (Nat.lt_of_le_of_lt (And.left (And.left z_ok)) (show 255 < 1000000000000 by decide))).top0); (replace hP : pCm l = cmR (⟨4, zOp, s, g, ⟨#[]⟩, 0, 0, []⟩ : Cm) r2 := hP); (rcases hB : cmB (⟨4, zOp, s, g, ⟨#[]⟩, 0, 0, []⟩ : Cm) with _ | _); (focus ((try rw [hB] at hcr); (replace hP : pCm l = none := by (rw [hP]; unfold cmR; rw [hB]; rfl)); ((refine no_implicit_lambda% (calw [] (hcr) ?_ ?_))); rotate_left; (focus (first | (exact zI) | (exact zJ))); (refine no_implicit_lambda% (ret1 ?_); first | (refine no_implicit_lambda% (akc ?_)) | (refine no_implicit_lambda% (aec ?_))); repeat' (first | (refine no_implicit_lambda% (zH ?_)) | (refine no_implicit_lambda% (spl (fun hc => ?_) (fun hc => ?_)) <;> first | exact zG hc | skip) | (refine no_implicit_lambda% (ans ?_)) | (with_reducible first | exact zI | exact zJ)); ((refine no_implicit_lambda% (cal [0] (fail_c r2) ?_ ?_))); (focus (first | (exact zI) | (exact zJ))); (intro xx H' hh); (obtain ⟨h', rfl⟩ := hh); (cases h'); repeat' (first | (refine no_implicit_lambda% (zH ?_)) | (refine no_implicit_lambda% (spl (fun hc => ?_) (fun hc => ?_)) <;> first | exact zG hc | skip) | (refine no_implicit_lambda% (ans ?_)) | (with_reducible first | exact zI | exact zJ)); (exact e_pan (H' := []) (rest := _) (.inr ⟨hP, rfl, rfl⟩) permT (LE0 rfl)))); (focus ((try rw [hB] at hcr); (replace hP : pCm l = some ((⟨4, zOp, s, g, ⟨#[]⟩, 0, 0, []⟩ : Cm), r2) := by (rw [hP]; unfold cmR; rw [hB]; rfl)); ((refine no_implicit_lambda% (calw [] (hcr) ?_ ?_))); rotate_left; (focus (first | (exact zI) | (exact zJ))); (refine no_implicit_lambda% (ret1 ?_); first | (refine no_implicit_lambda% (akc ?_)) | (refine no_implicit_lambda% (aec ?_))); repeat' (first | (refine no_implicit_lambda% (zH ?_)) | (refine no_implicit_lambda% (spl (fun hc => ?_) (fun hc => ?_)) <;> first | exact zG hc | skip) | (refine no_implicit_lambda% (ans ?_)) | (with_reducible first | exact zI | exact zJ)); (refine e_ret_to (H' := rd r2) (rest := [(2, .box (cmrow (⟨4, zOp, s, g, ⟨#[]⟩, 0, 0, []⟩ : Cm))), (1, .box (cmrow (⟨4, zOp, s, g, ⟨#[]⟩, 0, 0, []⟩ : Cm)))]) (Conv.toT (τ := ⟨_, [(0, .box [.list ((r2).map brow) .free]), (2, .box (cmrow (⟨4, zOp, s, g, ⟨#[]⟩, 0, 0, []⟩ : Cm))), (1, .box (cmrow (⟨4, zOp, s, g, ⟨#[]⟩, 0, 0, []⟩ : Cm)))], _⟩) (.refl _) ?_ (Nat.le_refl _)) rfl (.inl ⟨(⟨4, zOp, s, g, ⟨#[]⟩, 0, 0, []⟩ : Cm), r2, hP, ⟨⟨z_ok, hB⟩, by omega⟩, rfl, rfl⟩) permT (LE0 rfl)); exact wkh)))
 ·replace hP : pCm l = bnd (pSr r0) fun s r1 => bnd (pN r1) fun g r2 => bnd (pT r2) fun t r3 => cmR ⟨3, zOp, s, g, ⟨#[]⟩, 0, 0, t⟩ r3 := hP
  rw [pSn_of _ _ (fun s r hs => bnd_inv fun g r2 _ => bnd_inv fun t r3 _ => cm_no (by show (spB s && (genB g && _)) = false; rw [hs]; rfl) r3)] at hP
  repeat' (first | (refine no_implicit_lambda% (zH ?_)) | (refine no_implicit_lambda% (spl (fun hc => ?_) (fun hc => ?_)) <;> first | exact zG hc | skip) | (refine no_implicit_lambda% (ans ?_)) | (with_reducible first | exact zI | exact zJ))
  ((refine no_implicit_lambda% (cal [0] (takesp_d r0 (by omega)) ?_ ?_)); rotate_left; (focus (intro xx H' hh; rcases hh with ⟨_, _, _, _, h', _⟩ | ⟨hN, h', rfl⟩ <;> first | (cases h'; done) | (cases h'; repeat' (first | (refine no_implicit_lambda% (zH ?_)) | (refine no_implicit_lambda% (spl (fun hc => ?_) (fun hc => ?_)) <;> first | exact zG hc | skip) | (refine no_implicit_lambda% (ans ?_)) | (with_reducible first | exact zI | exact zJ)); exact e_pan (H' := []) (rest := _) (.inr ⟨by (rw [hP, hN]; rfl), rfl, rfl⟩) permT (LE0 rfl)))); (intro xx H' hh); (rcases hh with ⟨s, r1, hX, ⟨hs, hr1⟩, h', rfl⟩ | ⟨_, h', _⟩); rotate_left; (focus (cases h'; done)); (cases h'); (first | (refine no_implicit_lambda% (akc ?_)) | (refine no_implicit_lambda% (aec ?_))); (rw [hX, bnd_some] at hP); (clear hX); repeat' (first | (refine no_implicit_lambda% (zH ?_)) | (refine no_implicit_lambda% (spl (fun hc => ?_) (fun hc => ?_)) <;> first | exact zG hc | skip) | (refine no_implicit_lambda% (ans ?_)) | (with_reducible first | exact zI | exact zJ)))
  ((refine no_implicit_lambda% (cal [0] (oN_c r1 (by omega)) ?_ ?_)); rotate_left; (focus (intro xx H' hh; rcases hh with ⟨_, _, _, _, h', _⟩ | ⟨hN, h', rfl⟩ <;> first | (cases h'; done) | (cases h'; repeat' (first | (refine no_implicit_lambda% (zH ?_)) | (refine no_implicit_lambda% (spl (fun hc => ?_) (fun hc => ?_)) <;> first | exact zG hc | skip) | (refine no_implicit_lambda% (ans ?_)) | (with_reducible first | exact zI | exact zJ)); exact e_pan (H' := []) (rest := _) (.inr ⟨by (rw [hP, hN]; rfl), rfl, rfl⟩) permT (LE0 rfl)))); (intro xx H' hh); (rcases hh with ⟨g, r2, hX, ⟨hg, hr2⟩, h', rfl⟩ | ⟨_, h', _⟩); rotate_left; (focus (cases h'; done)); (cases h'); (first | (refine no_implicit_lambda% (akc ?_)) | (refine no_implicit_lambda% (aec ?_))); (rw [hX, bnd_some] at hP); (clear hX); repeat' (first | (refine no_implicit_lambda% (zH ?_)) | (refine no_implicit_lambda% (spl (fun hc => ?_) (fun hc => ?_)) <;> first | exact zG hc | skip) | (refine no_implicit_lambda% (ans ?_)) | (with_reducible first | exact zI | exact zJ)))
  rw [show IntKind.i64.wrap (g : Int) = (g : Int) from z64 (by omega) (by omega)]
  ((refine no_implicit_lambda% (cal [0] (oT_c r2 (by omega)) ?_ ?_)); rotate_left; (focus (intro xx H' hh; rcases hh with ⟨_, _, _, _, h', _⟩ | ⟨hN, h', rfl⟩ <;> first | (cases h'; done) | (cases h'; repeat' (first | (refine no_implicit_lambda% (zH ?_)) | (refine no_implicit_lambda% (spl (fun hc => ?_) (fun hc => ?_)) <;> first | exact zG hc | skip) | (refine no_implicit_lambda% (ans ?_)) | (with_reducible first | exact zI | exact zJ)); exact e_pan (H' := []) (rest := _) (.inr ⟨by (rw [hP, hN]; rfl), rfl, rfl⟩) permT (LE0 rfl)))); (intro xx H' hh); (rcases hh with ⟨t, r3, hX, ⟨ht, hr3⟩, h', rfl⟩ | ⟨_, h', _⟩); rotate_left; (focus (cases h'; done)); (cases h'); (first | (refine no_implicit_lambda% (akc ?_)) | (refine no_implicit_lambda% (aec ?_))); (rw [hX, bnd_some] at hP); (clear hX); repeat' (first | (refine no_implicit_lambda% (zH ?_)) | (refine no_implicit_lambda% (spl (fun hc => ?_) (fun hc => ?_)) <;> first | exact zG hc | skip) | (refine no_implicit_lambda% (ans ?_)) | (with_reducible first | exact zI | exact zJ)))
  ((have hcr := (cright_c (⟨3, zOp, s, g, ⟨#[]⟩, 0, 0, t⟩ : Cm) (Nat.lt_of_le_of_lt (And.left (And.left ⟨zOp_B, ht⟩)) (show 255 < 1000000000000 by decide))).top0); (replace hP : pCm l = cmR (⟨3, zOp, s, g, ⟨#[]⟩, 0, 0, t⟩ : Cm) r3 := hP); (rcases hB : cmB (⟨3, zOp, s, g, ⟨#[]⟩, 0, 0, t⟩ : Cm) with _ | _); (focus ((try rw [hB] at hcr); (replace hP : pCm l = none := by (rw [hP]; unfold cmR; rw [hB]; rfl)); ((refine no_implicit_lambda% (calw [] (hcr) ?_ ?_))); rotate_left; (focus (first | (exact zI) | (exact zJ))); (refine no_implicit_lambda% (ret1 ?_); first | (refine no_implicit_lambda% (akc ?_)) | (refine no_implicit_lambda% (aec ?_))); repeat' (first | (refine no_implicit_lambda% (zH ?_)) | (refine no_implicit_lambda% (spl (fun hc => ?_) (fun hc => ?_)) <;> first | exact zG hc | skip) | (refine no_implicit_lambda% (ans ?_)) | (with_reducible first | exact zI | exact zJ)); ((refine no_implicit_lambda% (cal [0] (fail_c r3) ?_ ?_))); (focus (first | (exact zI) | (exact zJ))); (intro xx H' hh); (obtain ⟨h', rfl⟩ := hh); (cases h'); repeat' (first | (refine no_implicit_lambda% (zH ?_)) | (refine no_implicit_lambda% (spl (fun hc => ?_) (fun hc => ?_)) <;> first | exact zG hc | skip) | (refine no_implicit_lambda% (ans ?_)) | (with_reducible first | exact zI | exact zJ)); (exact e_pan (H' := []) (rest := _) (.inr ⟨hP, rfl, rfl⟩) permT (LE0 rfl)))); (focus ((try rw [hB] at hcr); (replace hP : pCm l = some ((⟨3, zOp, s, g, ⟨#[]⟩, 0, 0, t⟩ : Cm), r3) := by (rw [hP]; unfold cmR; rw [hB]; rfl)); ((refine no_implicit_lambda% (calw [] (hcr) ?_ ?_))); rotate_left; (focus (first | (exact zI) | (exact zJ))); (refine no_implicit_lambda% (ret1 ?_); first | (refine no_implicit_lambda% (akc ?_)) | (refine no_implicit_lambda% (aec ?_))); repeat' (first | (refine no_implicit_lambda% (zH ?_)) | (refine no_implicit_lambda% (spl (fun hc => ?_) (fun hc => ?_)) <;> first | exact zG hc | skip) | (refine no_implicit_lambda% (ans ?_)) | (with_reducible first | exact zI | exact zJ)); (refine e_ret_to (H' := rd r3) (rest := [(2, .box (cmrow (⟨3, zOp, s, g, ⟨#[]⟩, 0, 0, t⟩ : Cm))), (1, .box (cmrow (⟨3, zOp, s, g, ⟨#[]⟩, 0, 0, t⟩ : Cm)))]) (Conv.toT (τ := ⟨_, [(0, .box [.list ((r3).map brow) .free]), (2, .box (cmrow (⟨3, zOp, s, g, ⟨#[]⟩, 0, 0, t⟩ : Cm))), (1, .box (cmrow (⟨3, zOp, s, g, ⟨#[]⟩, 0, 0, t⟩ : Cm)))], _⟩) (.refl _) ?_ (Nat.le_refl _)) rfl (.inl ⟨(⟨3, zOp, s, g, ⟨#[]⟩, 0, 0, t⟩ : Cm), r3, hP, ⟨⟨⟨zOp_B, ht⟩, hB⟩, by omega⟩, rfl, rfl⟩) permT (LE0 rfl)); exact wkh)))
 ·replace hP : pCm l = bnd (pSr r0) fun s r1 => bnd (pN r1) fun g r2 => bnd (pX r2) fun a r3 => cmR ⟨5, zOp, s, g, ⟨a.toArray⟩, 0, 0, []⟩ r3 := hP
  rw [pSn_of _ _ (fun s r hs => bnd_inv fun g r2 _ => bnd_inv fun a r3 _ => cm_no (by show (spliB s ⟨a.toArray⟩ && genB g) = false; unfold spliB; rw [hs]; rfl) r3)] at hP
  repeat' (first | (refine no_implicit_lambda% (zH ?_)) | (refine no_implicit_lambda% (spl (fun hc => ?_) (fun hc => ?_)) <;> first | exact zG hc | skip) | (refine no_implicit_lambda% (ans ?_)) | (with_reducible first | exact zI | exact zJ))
  ((refine no_implicit_lambda% (cal [0] (takesp_d r0 (by omega)) ?_ ?_)); rotate_left; (focus (intro xx H' hh; rcases hh with ⟨_, _, _, _, h', _⟩ | ⟨hN, h', rfl⟩ <;> first | (cases h'; done) | (cases h'; repeat' (first | (refine no_implicit_lambda% (zH ?_)) | (refine no_implicit_lambda% (spl (fun hc => ?_) (fun hc => ?_)) <;> first | exact zG hc | skip) | (refine no_implicit_lambda% (ans ?_)) | (with_reducible first | exact zI | exact zJ)); exact e_pan (H' := []) (rest := _) (.inr ⟨by (rw [hP, hN]; rfl), rfl, rfl⟩) permT (LE0 rfl)))); (intro xx H' hh); (rcases hh with ⟨s, r1, hX, ⟨hs, hr1⟩, h', rfl⟩ | ⟨_, h', _⟩); rotate_left; (focus (cases h'; done)); (cases h'); (first | (refine no_implicit_lambda% (akc ?_)) | (refine no_implicit_lambda% (aec ?_))); (rw [hX, bnd_some] at hP); (clear hX); repeat' (first | (refine no_implicit_lambda% (zH ?_)) | (refine no_implicit_lambda% (spl (fun hc => ?_) (fun hc => ?_)) <;> first | exact zG hc | skip) | (refine no_implicit_lambda% (ans ?_)) | (with_reducible first | exact zI | exact zJ)))
  ((refine no_implicit_lambda% (cal [0] (oN_c r1 (by omega)) ?_ ?_)); rotate_left; (focus (intro xx H' hh; rcases hh with ⟨_, _, _, _, h', _⟩ | ⟨hN, h', rfl⟩ <;> first | (cases h'; done) | (cases h'; repeat' (first | (refine no_implicit_lambda% (zH ?_)) | (refine no_implicit_lambda% (spl (fun hc => ?_) (fun hc => ?_)) <;> first | exact zG hc | skip) | (refine no_implicit_lambda% (ans ?_)) | (with_reducible first | exact zI | exact zJ)); exact e_pan (H' := []) (rest := _) (.inr ⟨by (rw [hP, hN]; rfl), rfl, rfl⟩) permT (LE0 rfl)))); (intro xx H' hh); (rcases hh with ⟨g, r2, hX, ⟨hg, hr2⟩, h', rfl⟩ | ⟨_, h', _⟩); rotate_left; (focus (cases h'; done)); (cases h'); (first | (refine no_implicit_lambda% (akc ?_)) | (refine no_implicit_lambda% (aec ?_))); (rw [hX, bnd_some] at hP); (clear hX); repeat' (first | (refine no_implicit_lambda% (zH ?_)) | (refine no_implicit_lambda% (spl (fun hc => ?_) (fun hc => ?_)) <;> first | exact zG hc | skip) | (refine no_implicit_lambda% (ans ?_)) | (with_reducible first | exact zI | exact zJ)))
  rw [show IntKind.i64.wrap (g : Int) = (g : Int) from z64 (by omega) (by omega)]
  ((refine no_implicit_lambda% (cal [0] (oX_c r2 (by omega)) ?_ ?_)); rotate_left; (focus (intro xx H' hh; rcases hh with ⟨_, _, _, _, h', _⟩ | ⟨hN, h', rfl⟩ <;> first | (cases h'; done) | (cases h'; repeat' (first | (refine no_implicit_lambda% (zH ?_)) | (refine no_implicit_lambda% (spl (fun hc => ?_) (fun hc => ?_)) <;> first | exact zG hc | skip) | (refine no_implicit_lambda% (ans ?_)) | (with_reducible first | exact zI | exact zJ)); exact e_pan (H' := []) (rest := _) (.inr ⟨by (rw [hP, hN]; rfl), rfl, rfl⟩) permT (LE0 rfl)))); (intro xx H' hh); (rcases hh with ⟨a, r3, hX, ⟨ha, hr3⟩, h', rfl⟩ | ⟨_, h', _⟩); rotate_left; (focus (cases h'; done)); (cases h'); (first | (refine no_implicit_lambda% (akc ?_)) | (refine no_implicit_lambda% (aec ?_))); (rw [hX, bnd_some] at hP); (clear hX); repeat' (first | (refine no_implicit_lambda% (zH ?_)) | (refine no_implicit_lambda% (spl (fun hc => ?_) (fun hc => ?_)) <;> first | exact zG hc | skip) | (refine no_implicit_lambda% (ans ?_)) | (with_reducible first | exact zI | exact zJ)))
  ((have hcr := (cright_c (⟨5, zOp, s, g, ⟨a.toArray⟩, 0, 0, []⟩ : Cm) (Nat.lt_of_le_of_lt (And.left (And.left z_ok)) (show 255 < 1000000000000 by decide))).top0); (replace hP : pCm l = cmR (⟨5, zOp, s, g, ⟨a.toArray⟩, 0, 0, []⟩ : Cm) r3 := hP); (rcases hB : cmB (⟨5, zOp, s, g, ⟨a.toArray⟩, 0, 0, []⟩ : Cm) with _ | _); (focus ((try rw [hB] at hcr); (replace hP : pCm l = none := by (rw [hP]; unfold cmR; rw [hB]; rfl)); ((refine no_implicit_lambda% (calw [] (hcr) ?_ ?_))); rotate_left; (focus (first | (exact zI) | (exact zJ))); (refine no_implicit_lambda% (ret1 ?_); first | (refine no_implicit_lambda% (akc ?_)) | (refine no_implicit_lambda% (aec ?_))); repeat' (first | (refine no_implicit_lambda% (zH ?_)) | (refine no_implicit_lambda% (spl (fun hc => ?_) (fun hc => ?_)) <;> first | exact zG hc | skip) | (refine no_implicit_lambda% (ans ?_)) | (with_reducible first | exact zI | exact zJ)); ((refine no_implicit_lambda% (cal [0] (fail_c r3) ?_ ?_))); (focus (first | (exact zI) | (exact zJ))); (intro xx H' hh); (obtain ⟨h', rfl⟩ := hh); (cases h'); repeat' (first | (refine no_implicit_lambda% (zH ?_)) | (refine no_implicit_lambda% (spl (fun hc => ?_) (fun hc => ?_)) <;> first | exact zG hc | skip) | (refine no_implicit_lambda% (ans ?_)) | (with_reducible first | exact zI | exact zJ)); (exact e_pan (H' := []) (rest := _) (.inr ⟨hP, rfl, rfl⟩) permT (LE0 rfl)))); (focus ((try rw [hB] at hcr); (replace hP : pCm l = some ((⟨5, zOp, s, g, ⟨a.toArray⟩, 0, 0, []⟩ : Cm), r3) := by (rw [hP]; unfold cmR; rw [hB]; rfl)); ((refine no_implicit_lambda% (calw [] (hcr) ?_ ?_))); rotate_left; (focus (first | (exact zI) | (exact zJ))); (refine no_implicit_lambda% (ret1 ?_); first | (refine no_implicit_lambda% (akc ?_)) | (refine no_implicit_lambda% (aec ?_))); repeat' (first | (refine no_implicit_lambda% (zH ?_)) | (refine no_implicit_lambda% (spl (fun hc => ?_) (fun hc => ?_)) <;> first | exact zG hc | skip) | (refine no_implicit_lambda% (ans ?_)) | (with_reducible first | exact zI | exact zJ)); (refine e_ret_to (H' := rd r3) (rest := [(2, .box (cmrow (⟨5, zOp, s, g, ⟨a.toArray⟩, 0, 0, []⟩ : Cm))), (1, .box (cmrow (⟨5, zOp, s, g, ⟨a.toArray⟩, 0, 0, []⟩ : Cm)))]) (Conv.toT (τ := ⟨_, [(0, .box [.list ((r3).map brow) .free]), (2, .box (cmrow (⟨5, zOp, s, g, ⟨a.toArray⟩, 0, 0, []⟩ : Cm))), (1, .box (cmrow (⟨5, zOp, s, g, ⟨a.toArray⟩, 0, 0, []⟩ : Cm)))], _⟩) (.refl _) ?_ (Nat.le_refl _)) rfl (.inl ⟨(⟨5, zOp, s, g, ⟨a.toArray⟩, 0, 0, []⟩ : Cm), r3, hP, ⟨⟨z_ok, hB⟩, by omega⟩, rfl, rfl⟩) permT (LE0 rfl)); exact wkh)))
 ·replace hP : pCm l = bnd (pSr r0) fun s r1 => bnd (pN r1) fun g r2 => bnd (pX r2) fun a r3 => cmR ⟨6, zOp, s, g, ⟨a.toArray⟩, 0, 0, []⟩ r3 := hP
  rw [pSn_of _ _ (fun s r hs => bnd_inv fun g r2 _ => bnd_inv fun a r3 _ => cm_no (by show (spliB s ⟨a.toArray⟩ && genB g) = false; unfold spliB; rw [hs]; rfl) r3)] at hP
  repeat' (first | (refine no_implicit_lambda% (zH ?_)) | (refine no_implicit_lambda% (spl (fun hc => ?_) (fun hc => ?_)) <;> first | exact zG hc | skip) | (refine no_implicit_lambda% (ans ?_)) | (with_reducible first | exact zI | exact zJ))
  ((refine no_implicit_lambda% (cal [0] (takesp_d r0 (by omega)) ?_ ?_)); rotate_left; (focus (intro xx H' hh; rcases hh with ⟨_, _, _, _, h', _⟩ | ⟨hN, h', rfl⟩ <;> first | (cases h'; done) | (cases h'; repeat' (first | (refine no_implicit_lambda% (zH ?_)) | (refine no_implicit_lambda% (spl (fun hc => ?_) (fun hc => ?_)) <;> first | exact zG hc | skip) | (refine no_implicit_lambda% (ans ?_)) | (with_reducible first | exact zI | exact zJ)); exact e_pan (H' := []) (rest := _) (.inr ⟨by (rw [hP, hN]; rfl), rfl, rfl⟩) permT (LE0 rfl)))); (intro xx H' hh); (rcases hh with ⟨s, r1, hX, ⟨hs, hr1⟩, h', rfl⟩ | ⟨_, h', _⟩); rotate_left; (focus (cases h'; done)); (cases h'); (first | (refine no_implicit_lambda% (akc ?_)) | (refine no_implicit_lambda% (aec ?_))); (rw [hX, bnd_some] at hP); (clear hX); repeat' (first | (refine no_implicit_lambda% (zH ?_)) | (refine no_implicit_lambda% (spl (fun hc => ?_) (fun hc => ?_)) <;> first | exact zG hc | skip) | (refine no_implicit_lambda% (ans ?_)) | (with_reducible first | exact zI | exact zJ)))
  ((refine no_implicit_lambda% (cal [0] (oN_c r1 (by omega)) ?_ ?_)); rotate_left; (focus (intro xx H' hh; rcases hh with ⟨_, _, _, _, h', _⟩ | ⟨hN, h', rfl⟩ <;> first | (cases h'; done) | (cases h'; repeat' (first | (refine no_implicit_lambda% (zH ?_)) | (refine no_implicit_lambda% (spl (fun hc => ?_) (fun hc => ?_)) <;> first | exact zG hc | skip) | (refine no_implicit_lambda% (ans ?_)) | (with_reducible first | exact zI | exact zJ)); exact e_pan (H' := []) (rest := _) (.inr ⟨by (rw [hP, hN]; rfl), rfl, rfl⟩) permT (LE0 rfl)))); (intro xx H' hh); (rcases hh with ⟨g, r2, hX, ⟨hg, hr2⟩, h', rfl⟩ | ⟨_, h', _⟩); rotate_left; (focus (cases h'; done)); (cases h'); (first | (refine no_implicit_lambda% (akc ?_)) | (refine no_implicit_lambda% (aec ?_))); (rw [hX, bnd_some] at hP); (clear hX); repeat' (first | (refine no_implicit_lambda% (zH ?_)) | (refine no_implicit_lambda% (spl (fun hc => ?_) (fun hc => ?_)) <;> first | exact zG hc | skip) | (refine no_implicit_lambda% (ans ?_)) | (with_reducible first | exact zI | exact zJ)))
  rw [show IntKind.i64.wrap (g : Int) = (g : Int) from z64 (by omega) (by omega)]
  ((refine no_implicit_lambda% (cal [0] (oX_c r2 (by omega)) ?_ ?_)); rotate_left; (focus (intro xx H' hh; rcases hh with ⟨_, _, _, _, h', _⟩ | ⟨hN, h', rfl⟩ <;> first | (cases h'; done) | (cases h'; repeat' (first | (refine no_implicit_lambda% (zH ?_)) | (refine no_implicit_lambda% (spl (fun hc => ?_) (fun hc => ?_)) <;> first | exact zG hc | skip) | (refine no_implicit_lambda% (ans ?_)) | (with_reducible first | exact zI | exact zJ)); exact e_pan (H' := []) (rest := _) (.inr ⟨by (rw [hP, hN]; rfl), rfl, rfl⟩) permT (LE0 rfl)))); (intro xx H' hh); (rcases hh with ⟨a, r3, hX, ⟨ha, hr3⟩, h', rfl⟩ | ⟨_, h', _⟩); rotate_left; (focus (cases h'; done)); (cases h'); (first | (refine no_implicit_lambda% (akc ?_)) | (refine no_implicit_lambda% (aec ?_))); (rw [hX, bnd_some] at hP); (clear hX); repeat' (first | (refine no_implicit_lambda% (zH ?_)) | (refine no_implicit_lambda% (spl (fun hc => ?_) (fun hc => ?_)) <;> first | exact zG hc | skip) | (refine no_implicit_lambda% (ans ?_)) | (with_reducible first | exact zI | exact zJ)))
  ((have hcr := (cright_c (⟨6, zOp, s, g, ⟨a.toArray⟩, 0, 0, []⟩ : Cm) (Nat.lt_of_le_of_lt (And.left (And.left z_ok)) (show 255 < 1000000000000 by decide))).top0); (replace hP : pCm l = cmR (⟨6, zOp, s, g, ⟨a.toArray⟩, 0, 0, []⟩ : Cm) r3 := hP); (rcases hB : cmB (⟨6, zOp, s, g, ⟨a.toArray⟩, 0, 0, []⟩ : Cm) with _ | _); (focus ((try rw [hB] at hcr); (replace hP : pCm l = none := by (rw [hP]; unfold cmR; rw [hB]; rfl)); ((refine no_implicit_lambda% (calw [] (hcr) ?_ ?_))); rotate_left; (focus (first | (exact zI) | (exact zJ))); (refine no_implicit_lambda% (ret1 ?_); first | (refine no_implicit_lambda% (akc ?_)) | (refine no_implicit_lambda% (aec ?_))); repeat' (first | (refine no_implicit_lambda% (zH ?_)) | (refine no_implicit_lambda% (spl (fun hc => ?_) (fun hc => ?_)) <;> first | exact zG hc | skip) | (refine no_implicit_lambda% (ans ?_)) | (with_reducible first | exact zI | exact zJ)); ((refine no_implicit_lambda% (cal [0] (fail_c r3) ?_ ?_))); (focus (first | (exact zI) | (exact zJ))); (intro xx H' hh); (obtain ⟨h', rfl⟩ := hh); (cases h'); repeat' (first | (refine no_implicit_lambda% (zH ?_)) | (refine no_implicit_lambda% (spl (fun hc => ?_) (fun hc => ?_)) <;> first | exact zG hc | skip) | (refine no_implicit_lambda% (ans ?_)) | (with_reducible first | exact zI | exact zJ)); (exact e_pan (H' := []) (rest := _) (.inr ⟨hP, rfl, rfl⟩) permT (LE0 rfl)))); (focus ((try rw [hB] at hcr); (replace hP : pCm l = some ((⟨6, zOp, s, g, ⟨a.toArray⟩, 0, 0, []⟩ : Cm), r3) := by (rw [hP]; unfold cmR; rw [hB]; rfl)); ((refine no_implicit_lambda% (calw [] (hcr) ?_ ?_))); rotate_left; (focus (first | (exact zI) | (exact zJ))); (refine no_implicit_lambda% (ret1 ?_); first | (refine no_implicit_lambda% (akc ?_)) | (refine no_implicit_lambda% (aec ?_))); repeat' (first | (refine no_implicit_lambda% (zH ?_)) | (refine no_implicit_lambda% (spl (fun hc => ?_) (fun hc => ?_)) <;> first | exact zG hc | skip) | (refine no_implicit_lambda% (ans ?_)) | (with_reducible first | exact zI | exact zJ)); (refine e_ret_to (H' := rd r3) (rest := [(2, .box (cmrow (⟨6, zOp, s, g, ⟨a.toArray⟩, 0, 0, []⟩ : Cm))), (1, .box (cmrow (⟨6, zOp, s, g, ⟨a.toArray⟩, 0, 0, []⟩ : Cm)))]) (Conv.toT (τ := ⟨_, [(0, .box [.list ((r3).map brow) .free]), (2, .box (cmrow (⟨6, zOp, s, g, ⟨a.toArray⟩, 0, 0, []⟩ : Cm))), (1, .box (cmrow (⟨6, zOp, s, g, ⟨a.toArray⟩, 0, 0, []⟩ : Cm)))], _⟩) (.refl _) ?_ (Nat.le_refl _)) rfl (.inl ⟨(⟨6, zOp, s, g, ⟨a.toArray⟩, 0, 0, []⟩ : Cm), r3, hP, ⟨⟨z_ok, hB⟩, by omega⟩, rfl, rfl⟩) permT (LE0 rfl)); exact wkh)))
 ·replace hP : pCm l = bnd (pX r0) fun a r1 => cmR ⟨7, zOp, zSn, 0, ⟨a.toArray⟩, 0, 0, []⟩ r1 := hP
  repeat' (first | (refine no_implicit_lambda% (zH ?_)) | (refine no_implicit_lambda% (spl (fun hc => ?_) (fun hc => ?_)) <;> first | exact zG hc | skip) | (refine no_implicit_lambda% (ans ?_)) | (with_reducible first | exact zI | exact zJ))
  ((refine no_implicit_lambda% (cal [0] (oX_c r0 (by omega)) ?_ ?_)); rotate_left; (focus (intro xx H' hh; rcases hh with ⟨_, _, _, _, h', _⟩ | ⟨hN, h', rfl⟩ <;> first | (cases h'; done) | (cases h'; repeat' (first | (refine no_implicit_lambda% (zH ?_)) | (refine no_implicit_lambda% (spl (fun hc => ?_) (fun hc => ?_)) <;> first | exact zG hc | skip) | (refine no_implicit_lambda% (ans ?_)) | (with_reducible first | exact zI | exact zJ)); exact e_pan (H' := []) (rest := _) (.inr ⟨by (rw [hP, hN]; rfl), rfl, rfl⟩) permT (LE0 rfl)))); (intro xx H' hh); (rcases hh with ⟨a, r1, hX, ⟨ha, hr1⟩, h', rfl⟩ | ⟨_, h', _⟩); rotate_left; (focus (cases h'; done)); (cases h'); (first | (refine no_implicit_lambda% (akc ?_)) | (refine no_implicit_lambda% (aec ?_))); (rw [hX, bnd_some] at hP); (clear hX); repeat' (first | (refine no_implicit_lambda% (zH ?_)) | (refine no_implicit_lambda% (spl (fun hc => ?_) (fun hc => ?_)) <;> first | exact zG hc | skip) | (refine no_implicit_lambda% (ans ?_)) | (with_reducible first | exact zI | exact zJ)))
  ((have hcr := (cright_c (⟨7, zOp, zSn, 0, ⟨a.toArray⟩, 0, 0, []⟩ : Cm) (Nat.lt_of_le_of_lt (And.left (And.left z_ok)) (show 255 < 1000000000000 by decide))).top0); (replace hP : pCm l = cmR (⟨7, zOp, zSn, 0, ⟨a.toArray⟩, 0, 0, []⟩ : Cm) r1 := hP); (rcases hB : cmB (⟨7, zOp, zSn, 0, ⟨a.toArray⟩, 0, 0, []⟩ : Cm) with _ | _); (focus ((try rw [hB] at hcr); (replace hP : pCm l = none := by (rw [hP]; unfold cmR; rw [hB]; rfl)); ((refine no_implicit_lambda% (calw [] (hcr) ?_ ?_))); rotate_left; (focus (first | (exact zI) | (exact zJ))); (refine no_implicit_lambda% (ret1 ?_); first | (refine no_implicit_lambda% (akc ?_)) | (refine no_implicit_lambda% (aec ?_))); repeat' (first | (refine no_implicit_lambda% (zH ?_)) | (refine no_implicit_lambda% (spl (fun hc => ?_) (fun hc => ?_)) <;> first | exact zG hc | skip) | (refine no_implicit_lambda% (ans ?_)) | (with_reducible first | exact zI | exact zJ)); ((refine no_implicit_lambda% (cal [0] (fail_c r1) ?_ ?_))); (focus (first | (exact zI) | (exact zJ))); (intro xx H' hh); (obtain ⟨h', rfl⟩ := hh); (cases h'); repeat' (first | (refine no_implicit_lambda% (zH ?_)) | (refine no_implicit_lambda% (spl (fun hc => ?_) (fun hc => ?_)) <;> first | exact zG hc | skip) | (refine no_implicit_lambda% (ans ?_)) | (with_reducible first | exact zI | exact zJ)); (exact e_pan (H' := []) (rest := _) (.inr ⟨hP, rfl, rfl⟩) permT (LE0 rfl)))); (focus ((try rw [hB] at hcr); (replace hP : pCm l = some ((⟨7, zOp, zSn, 0, ⟨a.toArray⟩, 0, 0, []⟩ : Cm), r1) := by (rw [hP]; unfold cmR; rw [hB]; rfl)); ((refine no_implicit_lambda% (calw [] (hcr) ?_ ?_))); rotate_left; (focus (first | (exact zI) | (exact zJ))); (refine no_implicit_lambda% (ret1 ?_); first | (refine no_implicit_lambda% (akc ?_)) | (refine no_implicit_lambda% (aec ?_))); repeat' (first | (refine no_implicit_lambda% (zH ?_)) | (refine no_implicit_lambda% (spl (fun hc => ?_) (fun hc => ?_)) <;> first | exact zG hc | skip) | (refine no_implicit_lambda% (ans ?_)) | (with_reducible first | exact zI | exact zJ)); (refine e_ret_to (H' := rd r1) (rest := [(2, .box (cmrow (⟨7, zOp, zSn, 0, ⟨a.toArray⟩, 0, 0, []⟩ : Cm))), (1, .box (cmrow (⟨7, zOp, zSn, 0, ⟨a.toArray⟩, 0, 0, []⟩ : Cm)))]) (Conv.toT (τ := ⟨_, [(0, .box [.list ((r1).map brow) .free]), (2, .box (cmrow (⟨7, zOp, zSn, 0, ⟨a.toArray⟩, 0, 0, []⟩ : Cm))), (1, .box (cmrow (⟨7, zOp, zSn, 0, ⟨a.toArray⟩, 0, 0, []⟩ : Cm)))], _⟩) (.refl _) ?_ (Nat.le_refl _)) rfl (.inl ⟨(⟨7, zOp, zSn, 0, ⟨a.toArray⟩, 0, 0, []⟩ : Cm), r1, hP, ⟨⟨z_ok, hB⟩, by omega⟩, rfl, rfl⟩) permT (LE0 rfl)); exact wkh)))
 ·replace hP : pCm l = bnd (pB r0) fun d r1 => (if d = 0 then cmR ⟨8, zOp, zSn, 0, ⟨#[]⟩, 0, 0, []⟩ r1 else bnd (pX r1) fun a r2 => bnd (pB r2) fun t r3 => cmR ⟨8, zOp, zSn, 0, ⟨a.toArray⟩, t, d, []⟩ r3) := hP
  repeat' (first | (refine no_implicit_lambda% (zH ?_)) | (refine no_implicit_lambda% (spl (fun hc => ?_) (fun hc => ?_)) <;> first | exact zG hc | skip) | (refine no_implicit_lambda% (ans ?_)) | (with_reducible first | exact zI | exact zJ))
  ((refine no_implicit_lambda% (cal [0] (oB_c r0 (by omega)) ?_ ?_)); rotate_left; (focus (intro xx H' hh; rcases hh with ⟨_, _, _, _, h', _⟩ | ⟨hN, h', rfl⟩ <;> first | (cases h'; done) | (cases h'; repeat' (first | (refine no_implicit_lambda% (zH ?_)) | (refine no_implicit_lambda% (spl (fun hc => ?_) (fun hc => ?_)) <;> first | exact zG hc | skip) | (refine no_implicit_lambda% (ans ?_)) | (with_reducible first | exact zI | exact zJ)); exact e_pan (H' := []) (rest := _) (.inr ⟨by (rw [hP, hN]; rfl), rfl, rfl⟩) permT (LE0 rfl)))); (intro xx H' hh); (rcases hh with ⟨d, r1, hX, ⟨hd, hr1⟩, h', rfl⟩ | ⟨_, h', _⟩); rotate_left; (focus (cases h'; done)); (cases h'); (first | (refine no_implicit_lambda% (akc ?_)) | (refine no_implicit_lambda% (aec ?_))); (rw [hX, bnd_some] at hP); (clear hX))
  by_cases hd0 : d = 0
  ·subst hd0
   rw [if_pos rfl] at hP
   repeat' (first | (refine no_implicit_lambda% (zH ?_)) | (refine no_implicit_lambda% (spl (fun hc => ?_) (fun hc => ?_)) <;> first | exact zG hc | skip) | (refine no_implicit_lambda% (ans ?_)) | (with_reducible first | exact zI | exact zJ))
   ((have hcr := (cright_c (⟨8, zOp, zSn, 0, ⟨#[]⟩, 0, 0, []⟩ : Cm) (Nat.lt_of_le_of_lt (And.left (And.left z_ok)) (show 255 < 1000000000000 by decide))).top0); (replace hP : pCm l = cmR (⟨8, zOp, zSn, 0, ⟨#[]⟩, 0, 0, []⟩ : Cm) r1 := hP); (rcases hB : cmB (⟨8, zOp, zSn, 0, ⟨#[]⟩, 0, 0, []⟩ : Cm) with _ | _); (focus ((try rw [hB] at hcr); (replace hP : pCm l = none := by (rw [hP]; unfold cmR; rw [hB]; rfl)); ((refine no_implicit_lambda% (calw [] (hcr) ?_ ?_))); rotate_left; (focus (first | (exact zI) | (exact zJ))); (refine no_implicit_lambda% (ret1 ?_); first | (refine no_implicit_lambda% (akc ?_)) | (refine no_implicit_lambda% (aec ?_))); repeat' (first | (refine no_implicit_lambda% (zH ?_)) | (refine no_implicit_lambda% (spl (fun hc => ?_) (fun hc => ?_)) <;> first | exact zG hc | skip) | (refine no_implicit_lambda% (ans ?_)) | (with_reducible first | exact zI | exact zJ)); ((refine no_implicit_lambda% (cal [0] (fail_c r1) ?_ ?_))); (focus (first | (exact zI) | (exact zJ))); (intro xx H' hh); (obtain ⟨h', rfl⟩ := hh); (cases h'); repeat' (first | (refine no_implicit_lambda% (zH ?_)) | (refine no_implicit_lambda% (spl (fun hc => ?_) (fun hc => ?_)) <;> first | exact zG hc | skip) | (refine no_implicit_lambda% (ans ?_)) | (with_reducible first | exact zI | exact zJ)); (exact e_pan (H' := []) (rest := _) (.inr ⟨hP, rfl, rfl⟩) permT (LE0 rfl)))); (focus ((try rw [hB] at hcr); (replace hP : pCm l = some ((⟨8, zOp, zSn, 0, ⟨#[]⟩, 0, 0, []⟩ : Cm), r1) := by (rw [hP]; unfold cmR; rw [hB]; rfl)); ((refine no_implicit_lambda% (calw [] (hcr) ?_ ?_))); rotate_left; (focus (first | (exact zI) | (exact zJ))); (refine no_implicit_lambda% (ret1 ?_); first | (refine no_implicit_lambda% (akc ?_)) | (refine no_implicit_lambda% (aec ?_))); repeat' (first | (refine no_implicit_lambda% (zH ?_)) | (refine no_implicit_lambda% (spl (fun hc => ?_) (fun hc => ?_)) <;> first | exact zG hc | skip) | (refine no_implicit_lambda% (ans ?_)) | (with_reducible first | exact zI | exact zJ)); (refine e_ret_to (H' := rd r1) (rest := [(2, .box (cmrow (⟨8, zOp, zSn, 0, ⟨#[]⟩, 0, 0, []⟩ : Cm))), (1, .box (cmrow (⟨8, zOp, zSn, 0, ⟨#[]⟩, 0, 0, []⟩ : Cm)))]) (Conv.toT (τ := ⟨_, [(0, .box [.list ((r1).map brow) .free]), (2, .box (cmrow (⟨8, zOp, zSn, 0, ⟨#[]⟩, 0, 0, []⟩ : Cm))), (1, .box (cmrow (⟨8, zOp, zSn, 0, ⟨#[]⟩, 0, 0, []⟩ : Cm)))], _⟩) (.refl _) ?_ (Nat.le_refl _)) rfl (.inl ⟨(⟨8, zOp, zSn, 0, ⟨#[]⟩, 0, 0, []⟩ : Cm), r1, hP, ⟨⟨z_ok, hB⟩, by omega⟩, rfl, rfl⟩) permT (LE0 rfl)); exact wkh)))
  ·rw [if_neg hd0] at hP
   refine no_implicit_lambda% (awd ?_)
   rw [show IntKind.i64.wrap (d : Int) = (d : Int) from z64 (by omega) (by omega)]
   ((with_reducible refine no_implicit_lambda% (zB ?_)); refine no_implicit_lambda% (zE rfl (fun hc => ?_) (fun hc => ?_)))
   rotate_left
   ·exfalso
    have := of_decide_eq_false hc
    omega
   repeat' (first | (refine no_implicit_lambda% (zH ?_)) | (refine no_implicit_lambda% (spl (fun hc => ?_) (fun hc => ?_)) <;> first | exact zG hc | skip) | (refine no_implicit_lambda% (ans ?_)) | (with_reducible first | exact zI | exact zJ))
   ((refine no_implicit_lambda% (cal [0] (oX_c r1 (by omega)) ?_ ?_)); rotate_left; (focus (intro xx H' hh; rcases hh with ⟨_, _, _, _, h', _⟩ | ⟨hN, h', rfl⟩ <;> first | (cases h'; done) | (cases h'; repeat' (first | (refine no_implicit_lambda% (zH ?_)) | (refine no_implicit_lambda% (spl (fun hc => ?_) (fun hc => ?_)) <;> first | exact zG hc | skip) | (refine no_implicit_lambda% (ans ?_)) | (with_reducible first | exact zI | exact zJ)); exact e_pan (H' := []) (rest := _) (.inr ⟨by (rw [hP, hN]; rfl), rfl, rfl⟩) permT (LE0 rfl)))); (intro xx H' hh); (rcases hh with ⟨a, r2, hX, ⟨ha, hr2⟩, h', rfl⟩ | ⟨_, h', _⟩); rotate_left; (focus (cases h'; done)); (cases h'); (first | (refine no_implicit_lambda% (akc ?_)) | (refine no_implicit_lambda% (aec ?_))); (rw [hX, bnd_some] at hP); (clear hX); repeat' (first | (refine no_implicit_lambda% (zH ?_)) | (refine no_implicit_lambda% (spl (fun hc => ?_) (fun hc => ?_)) <;> first | exact zG hc | skip) | (refine no_implicit_lambda% (ans ?_)) | (with_reducible first | exact zI | exact zJ)))
   ((refine no_implicit_lambda% (cal [0] (oB_c r2 (by omega)) ?_ ?_)); rotate_left; (focus (intro xx H' hh; rcases hh with ⟨_, _, _, _, h', _⟩ | ⟨hN, h', rfl⟩ <;> first | (cases h'; done) | (cases h'; repeat' (first | (refine no_implicit_lambda% (zH ?_)) | (refine no_implicit_lambda% (spl (fun hc => ?_) (fun hc => ?_)) <;> first | exact zG hc | skip) | (refine no_implicit_lambda% (ans ?_)) | (with_reducible first | exact zI | exact zJ)); exact e_pan (H' := []) (rest := _) (.inr ⟨by (rw [hP, hN]; rfl), rfl, rfl⟩) permT (LE0 rfl)))); (intro xx H' hh); (rcases hh with ⟨t, r3, hX, ⟨ht, hr3⟩, h', rfl⟩ | ⟨_, h', _⟩); rotate_left; (focus (cases h'; done)); (cases h'); (first | (refine no_implicit_lambda% (akc ?_)) | (refine no_implicit_lambda% (aec ?_))); (rw [hX, bnd_some] at hP); (clear hX); repeat' (first | (refine no_implicit_lambda% (zH ?_)) | (refine no_implicit_lambda% (spl (fun hc => ?_) (fun hc => ?_)) <;> first | exact zG hc | skip) | (refine no_implicit_lambda% (ans ?_)) | (with_reducible first | exact zI | exact zJ)))
   rw [show IntKind.i64.wrap (t : Int) = (t : Int) from z64 (by omega) (by omega)]
   ((have hcr := (cright_c (⟨8, zOp, zSn, 0, ⟨a.toArray⟩, t, d, []⟩ : Cm) (Nat.lt_of_le_of_lt (And.left (And.left z_ok)) (show 255 < 1000000000000 by decide))).top0); (replace hP : pCm l = cmR (⟨8, zOp, zSn, 0, ⟨a.toArray⟩, t, d, []⟩ : Cm) r3 := hP); (rcases hB : cmB (⟨8, zOp, zSn, 0, ⟨a.toArray⟩, t, d, []⟩ : Cm) with _ | _); (focus ((try rw [hB] at hcr); (replace hP : pCm l = none := by (rw [hP]; unfold cmR; rw [hB]; rfl)); ((refine no_implicit_lambda% (calw [] (hcr) ?_ ?_))); rotate_left; (focus (first | (exact zI) | (exact zJ))); (refine no_implicit_lambda% (ret1 ?_); first | (refine no_implicit_lambda% (akc ?_)) | (refine no_implicit_lambda% (aec ?_))); repeat' (first | (refine no_implicit_lambda% (zH ?_)) | (refine no_implicit_lambda% (spl (fun hc => ?_) (fun hc => ?_)) <;> first | exact zG hc | skip) | (refine no_implicit_lambda% (ans ?_)) | (with_reducible first | exact zI | exact zJ)); ((refine no_implicit_lambda% (cal [0] (fail_c r3) ?_ ?_))); (focus (first | (exact zI) | (exact zJ))); (intro xx H' hh); (obtain ⟨h', rfl⟩ := hh); (cases h'); repeat' (first | (refine no_implicit_lambda% (zH ?_)) | (refine no_implicit_lambda% (spl (fun hc => ?_) (fun hc => ?_)) <;> first | exact zG hc | skip) | (refine no_implicit_lambda% (ans ?_)) | (with_reducible first | exact zI | exact zJ)); (exact e_pan (H' := []) (rest := _) (.inr ⟨hP, rfl, rfl⟩) permT (LE0 rfl)))); (focus ((try rw [hB] at hcr); (replace hP : pCm l = some ((⟨8, zOp, zSn, 0, ⟨a.toArray⟩, t, d, []⟩ : Cm), r3) := by (rw [hP]; unfold cmR; rw [hB]; rfl)); ((refine no_implicit_lambda% (calw [] (hcr) ?_ ?_))); rotate_left; (focus (first | (exact zI) | (exact zJ))); (refine no_implicit_lambda% (ret1 ?_); first | (refine no_implicit_lambda% (akc ?_)) | (refine no_implicit_lambda% (aec ?_))); repeat' (first | (refine no_implicit_lambda% (zH ?_)) | (refine no_implicit_lambda% (spl (fun hc => ?_) (fun hc => ?_)) <;> first | exact zG hc | skip) | (refine no_implicit_lambda% (ans ?_)) | (with_reducible first | exact zI | exact zJ)); (refine e_ret_to (H' := rd r3) (rest := [(2, .box (cmrow (⟨8, zOp, zSn, 0, ⟨a.toArray⟩, t, d, []⟩ : Cm))), (1, .box (cmrow (⟨8, zOp, zSn, 0, ⟨a.toArray⟩, t, d, []⟩ : Cm)))]) (Conv.toT (τ := ⟨_, [(0, .box [.list ((r3).map brow) .free]), (2, .box (cmrow (⟨8, zOp, zSn, 0, ⟨a.toArray⟩, t, d, []⟩ : Cm))), (1, .box (cmrow (⟨8, zOp, zSn, 0, ⟨a.toArray⟩, t, d, []⟩ : Cm)))], _⟩) (.refl _) ?_ (Nat.le_refl _)) rfl (.inl ⟨(⟨8, zOp, zSn, 0, ⟨a.toArray⟩, t, d, []⟩ : Cm), r3, hP, ⟨⟨z_ok, hB⟩, by omega⟩, rfl, rfl⟩) permT (LE0 rfl)); exact wkh)))
 ·replace hP : pCm l = bnd (pN r0) fun g r1 => bnd (pB r1) fun t r2 => cmR ⟨9, zOp, zSn, g, ⟨#[]⟩, -(t : Int), 0, []⟩ r2 := hP
  repeat' (first | (refine no_implicit_lambda% (zH ?_)) | (refine no_implicit_lambda% (spl (fun hc => ?_) (fun hc => ?_)) <;> first | exact zG hc | skip) | (refine no_implicit_lambda% (ans ?_)) | (with_reducible first | exact zI | exact zJ))
  ((refine no_implicit_lambda% (cal [0] (oN_c r0 (by omega)) ?_ ?_)); rotate_left; (focus (intro xx H' hh; rcases hh with ⟨_, _, _, _, h', _⟩ | ⟨hN, h', rfl⟩ <;> first | (cases h'; done) | (cases h'; repeat' (first | (refine no_implicit_lambda% (zH ?_)) | (refine no_implicit_lambda% (spl (fun hc => ?_) (fun hc => ?_)) <;> first | exact zG hc | skip) | (refine no_implicit_lambda% (ans ?_)) | (with_reducible first | exact zI | exact zJ)); exact e_pan (H' := []) (rest := _) (.inr ⟨by (rw [hP, hN]; rfl), rfl, rfl⟩) permT (LE0 rfl)))); (intro xx H' hh); (rcases hh with ⟨g, r1, hX, ⟨hg, hr1⟩, h', rfl⟩ | ⟨_, h', _⟩); rotate_left; (focus (cases h'; done)); (cases h'); (first | (refine no_implicit_lambda% (akc ?_)) | (refine no_implicit_lambda% (aec ?_))); (rw [hX, bnd_some] at hP); (clear hX); repeat' (first | (refine no_implicit_lambda% (zH ?_)) | (refine no_implicit_lambda% (spl (fun hc => ?_) (fun hc => ?_)) <;> first | exact zG hc | skip) | (refine no_implicit_lambda% (ans ?_)) | (with_reducible first | exact zI | exact zJ)))
  rw [show IntKind.i64.wrap (g : Int) = (g : Int) from z64 (by omega) (by omega)]
  ((refine no_implicit_lambda% (cal [0] (oB_c r1 (by omega)) ?_ ?_)); rotate_left; (focus (intro xx H' hh; rcases hh with ⟨_, _, _, _, h', _⟩ | ⟨hN, h', rfl⟩ <;> first | (cases h'; done) | (cases h'; repeat' (first | (refine no_implicit_lambda% (zH ?_)) | (refine no_implicit_lambda% (spl (fun hc => ?_) (fun hc => ?_)) <;> first | exact zG hc | skip) | (refine no_implicit_lambda% (ans ?_)) | (with_reducible first | exact zI | exact zJ)); exact e_pan (H' := []) (rest := _) (.inr ⟨by (rw [hP, hN]; rfl), rfl, rfl⟩) permT (LE0 rfl)))); (intro xx H' hh); (rcases hh with ⟨t, r2, hX, ⟨ht, hr2⟩, h', rfl⟩ | ⟨_, h', _⟩); rotate_left; (focus (cases h'; done)); (cases h'); (first | (refine no_implicit_lambda% (akc ?_)) | (refine no_implicit_lambda% (aec ?_))); (rw [hX, bnd_some] at hP); (clear hX); repeat' (first | (refine no_implicit_lambda% (zH ?_)) | (refine no_implicit_lambda% (spl (fun hc => ?_) (fun hc => ?_)) <;> first | exact zG hc | skip) | (refine no_implicit_lambda% (ans ?_)) | (with_reducible first | exact zI | exact zJ)))
  rw [show IntKind.i64.wrap (t : Int) = (t : Int) from z64 (by omega) (by omega)]
  rw [show IntKind.i64.wrap (0 - (t : Int)) = -(t : Int) by rw [z64 (by omega) (by omega)]; omega]
  ((have hcr := (cright_c (⟨9, zOp, zSn, g, ⟨#[]⟩, -(t : Int), 0, []⟩ : Cm) (Nat.lt_of_le_of_lt (And.left (And.left z_ok)) (show 255 < 1000000000000 by decide))).top0); (replace hP : pCm l = cmR (⟨9, zOp, zSn, g, ⟨#[]⟩, -(t : Int), 0, []⟩ : Cm) r2 := hP); (rcases hB : cmB (⟨9, zOp, zSn, g, ⟨#[]⟩, -(t : Int), 0, []⟩ : Cm) with _ | _); (focus ((try rw [hB] at hcr); (replace hP : pCm l = none := by (rw [hP]; unfold cmR; rw [hB]; rfl)); ((refine no_implicit_lambda% (calw [] (hcr) ?_ ?_))); rotate_left; (focus (first | (exact zI) | (exact zJ))); (refine no_implicit_lambda% (ret1 ?_); first | (refine no_implicit_lambda% (akc ?_)) | (refine no_implicit_lambda% (aec ?_))); repeat' (first | (refine no_implicit_lambda% (zH ?_)) | (refine no_implicit_lambda% (spl (fun hc => ?_) (fun hc => ?_)) <;> first | exact zG hc | skip) | (refine no_implicit_lambda% (ans ?_)) | (with_reducible first | exact zI | exact zJ)); ((refine no_implicit_lambda% (cal [0] (fail_c r2) ?_ ?_))); (focus (first | (exact zI) | (exact zJ))); (intro xx H' hh); (obtain ⟨h', rfl⟩ := hh); (cases h'); repeat' (first | (refine no_implicit_lambda% (zH ?_)) | (refine no_implicit_lambda% (spl (fun hc => ?_) (fun hc => ?_)) <;> first | exact zG hc | skip) | (refine no_implicit_lambda% (ans ?_)) | (with_reducible first | exact zI | exact zJ)); (exact e_pan (H' := []) (rest := _) (.inr ⟨hP, rfl, rfl⟩) permT (LE0 rfl)))); (focus ((try rw [hB] at hcr); (replace hP : pCm l = some ((⟨9, zOp, zSn, g, ⟨#[]⟩, -(t : Int), 0, []⟩ : Cm), r2) := by (rw [hP]; unfold cmR; rw [hB]; rfl)); ((refine no_implicit_lambda% (calw [] (hcr) ?_ ?_))); rotate_left; (focus (first | (exact zI) | (exact zJ))); (refine no_implicit_lambda% (ret1 ?_); first | (refine no_implicit_lambda% (akc ?_)) | (refine no_implicit_lambda% (aec ?_))); repeat' (first | (refine no_implicit_lambda% (zH ?_)) | (refine no_implicit_lambda% (spl (fun hc => ?_) (fun hc => ?_)) <;> first | exact zG hc | skip) | (refine no_implicit_lambda% (ans ?_)) | (with_reducible first | exact zI | exact zJ)); (refine e_ret_to (H' := rd r2) (rest := [(2, .box (cmrow (⟨9, zOp, zSn, g, ⟨#[]⟩, -(t : Int), 0, []⟩ : Cm))), (1, .box (cmrow (⟨9, zOp, zSn, g, ⟨#[]⟩, -(t : Int), 0, []⟩ : Cm)))]) (Conv.toT (τ := ⟨_, [(0, .box [.list ((r2).map brow) .free]), (2, .box (cmrow (⟨9, zOp, zSn, g, ⟨#[]⟩, -(t : Int), 0, []⟩ : Cm))), (1, .box (cmrow (⟨9, zOp, zSn, g, ⟨#[]⟩, -(t : Int), 0, []⟩ : Cm)))], _⟩) (.refl _) ?_ (Nat.le_refl _)) rfl (.inl ⟨(⟨9, zOp, zSn, g, ⟨#[]⟩, -(t : Int), 0, []⟩ : Cm), r2, hP, ⟨⟨z_ok, hB⟩, by omega⟩, rfl, rfl⟩) permT (LE0 rfl)); exact wkh)))
 ·replace hP : pCm l = cmR ⟨k, zOp, zSn, 0, ⟨#[]⟩, 0, 0, []⟩ r0 := by rw [hP]; unfold cmP; rw [if_neg (by omega), if_neg (by omega), if_neg (by omega), if_neg (by omega), if_neg (by omega), if_neg (by omega), if_neg (by omega)]
  repeat' (first | (refine no_implicit_lambda% (sx1 ?_)) | (refine no_implicit_lambda% (spl (fun hc => ?_) (fun hc => ?_)) <;> first | exact zG hc | skip) | fail)
  rw [show IntKind.i64.wrap (k : Int) = (k : Int) from z64 (by omega) (by omega)]
  repeat' (first | (refine no_implicit_lambda% (zH ?_)) | (refine no_implicit_lambda% (spl (fun hc => ?_) (fun hc => ?_)) <;> first | exact zG hc | skip) | (refine no_implicit_lambda% (ans ?_)) | (with_reducible first | exact zI | exact zJ))
  ((have hcr := (cright_c (⟨k, zOp, zSn, 0, ⟨#[]⟩, 0, 0, []⟩ : Cm) (Nat.lt_of_le_of_lt (And.left (And.left z_ok)) (show 255 < 1000000000000 by decide))).top0); (replace hP : pCm l = cmR (⟨k, zOp, zSn, 0, ⟨#[]⟩, 0, 0, []⟩ : Cm) r0 := hP); (rcases hB : cmB (⟨k, zOp, zSn, 0, ⟨#[]⟩, 0, 0, []⟩ : Cm) with _ | _); (focus ((try rw [hB] at hcr); (replace hP : pCm l = none := by (rw [hP]; unfold cmR; rw [hB]; rfl)); ((refine no_implicit_lambda% (calw [] (hcr) ?_ ?_))); rotate_left; (focus (first | (exact zI) | (exact zJ))); (refine no_implicit_lambda% (ret1 ?_); first | (refine no_implicit_lambda% (akc ?_)) | (refine no_implicit_lambda% (aec ?_))); repeat' (first | (refine no_implicit_lambda% (zH ?_)) | (refine no_implicit_lambda% (spl (fun hc => ?_) (fun hc => ?_)) <;> first | exact zG hc | skip) | (refine no_implicit_lambda% (ans ?_)) | (with_reducible first | exact zI | exact zJ)); ((refine no_implicit_lambda% (cal [0] (fail_c r0) ?_ ?_))); (focus (first | (exact zI) | (exact zJ))); (intro xx H' hh); (obtain ⟨h', rfl⟩ := hh); (cases h'); repeat' (first | (refine no_implicit_lambda% (zH ?_)) | (refine no_implicit_lambda% (spl (fun hc => ?_) (fun hc => ?_)) <;> first | exact zG hc | skip) | (refine no_implicit_lambda% (ans ?_)) | (with_reducible first | exact zI | exact zJ)); (exact e_pan (H' := []) (rest := _) (.inr ⟨hP, rfl, rfl⟩) permT (LE0 rfl)))); (focus ((try rw [hB] at hcr); (replace hP : pCm l = some ((⟨k, zOp, zSn, 0, ⟨#[]⟩, 0, 0, []⟩ : Cm), r0) := by (rw [hP]; unfold cmR; rw [hB]; rfl)); ((refine no_implicit_lambda% (calw [] (hcr) ?_ ?_))); rotate_left; (focus (first | (exact zI) | (exact zJ))); (refine no_implicit_lambda% (ret1 ?_); first | (refine no_implicit_lambda% (akc ?_)) | (refine no_implicit_lambda% (aec ?_))); repeat' (first | (refine no_implicit_lambda% (zH ?_)) | (refine no_implicit_lambda% (spl (fun hc => ?_) (fun hc => ?_)) <;> first | exact zG hc | skip) | (refine no_implicit_lambda% (ans ?_)) | (with_reducible first | exact zI | exact zJ)); (refine e_ret_to (H' := rd r0) (rest := [(2, .box (cmrow (⟨k, zOp, zSn, 0, ⟨#[]⟩, 0, 0, []⟩ : Cm))), (1, .box (cmrow (⟨k, zOp, zSn, 0, ⟨#[]⟩, 0, 0, []⟩ : Cm)))]) (Conv.toT (τ := ⟨_, [(0, .box [.list ((r0).map brow) .free]), (2, .box (cmrow (⟨k, zOp, zSn, 0, ⟨#[]⟩, 0, 0, []⟩ : Cm))), (1, .box (cmrow (⟨k, zOp, zSn, 0, ⟨#[]⟩, 0, 0, []⟩ : Cm)))], _⟩) (.refl _) ?_ (Nat.le_refl _)) rfl (.inl ⟨(⟨k, zOp, zSn, 0, ⟨#[]⟩, 0, 0, []⟩ : Cm), r0, hP, ⟨⟨z_ok, hB⟩, by omega⟩, rfl, rfl⟩) permT (LE0 rfl)); exact wkh)))
end Go.Proofs.Ytncffhgoopdfgaa
namespace Go.Proofs.Ytncffhgoopdfgaa
open Go.Am
set_option maxRecDepth 100000
end Go.Proofs.Ytncffhgoopdfgaa
namespace Go.Proofs.Ytncffhgoopdfgaa
open Go.Am
set_option maxRecDepth 100000
noncomputable def pDec (l : List UInt8) : Option Cm := bnd (pCm l) fun c r => if r = [] then some c else none
def cm0 : Cm := ⟨0, zOp, zSn, 0, ⟨#[]⟩, 0, 0, []⟩
end Go.Proofs.Ytncffhgoopdfgaa
namespace Go.Proofs.Ytncffhgoopdfgaa
open Go.Am
set_option maxRecDepth 100000
end Go.Proofs.Ytncffhgoopdfgaa
namespace Go.Proofs.Ytncffhgoopdfgaa
open Go.Am
set_option maxRecDepth 100000
end Go.Proofs.Ytncffhgoopdfgaa
namespace Go.Proofs.Ytncffhgoopdfgaa
open Go.Am
set_option maxRecDepth 100000
def spE (s t : Sn) : Bool := s.lo.toList == t.lo.toList && s.hi.toList == t.hi.toList
theorem spE_refl (s : Sn) : spE s s = true := by unfold spE; simp
theorem args8_eq {vals : Array Value} (h : 2 = vals.size) : vals = #[vals.getD 0 undef, vals.getD 1 undef] := by
 apply Array.ext
 ·simpa using h.symm
 ·intro i h1 h2
  match i, h1, h2 with
  | 0, h1, _ => simp [Array.getD_eq_getD_getElem?, Array.getElem?_eq_getElem h1]
  | 1, h1, _ => simp [Array.getD_eq_getD_getElem?, Array.getElem?_eq_getElem h1]
theorem two_inv {G : Ghost} {a b : ByteArray} {x : Value} (h : Sim G (.agg [.v (.string a), .v (.string b)]) x) : x = .agg #[.string a, .string b] := by
 obtain ⟨vs, rfl, h1, h2⟩ := Sim.agg_inv h
 have e := args8_eq h1
 have e0 := (h2 0 _ rfl).v_inv
 have e1 := (h2 1 _ rfl).v_inv
 rw [e, e0, e1]
theorem speq_run (x y : Operand) (a b c d : ByteArray) (w : World) : (do eqGuard .eql 39 x y (.agg #[.string a, .string b]) (.agg #[.string c, .string d]); binOp .eql 39 (.agg #[.string a, .string b]) (.agg #[.string c, .string d]) : Sem Value).run Try.prog w = .ok (.bool (a.toList == c.toList && b.toList == d.toList)) w := by
 have hF : Try.prog.underlying 39 = some (.struct (Try.prog.fieldsOf 39)) := by kernel_rfl
 have hS : Try.prog.stoodInHeld 39 = false := by kernel_rfl
 have hG : Try.prog.eqGuardType Try.prog.depth 39 = false := by kernel_rfl
 have hs : Try.prog.underlying 9 = some .string := by kernel_rfl
 rw [Sem.run_bind, run_eqGuard_agg w _ _ _ _ _ _ hG, Result.andThen_ok, run_eql_struct, run_equalIn_agg w _ _ _ _ hF hS]
 simp [go_sem, Op.eqFields]
 by_cases h1 : a.toList = c.toList <;> by_cases h2 : b.toList = d.toList <;> simp [h1, h2]
theorem q_speq {L : Heap} {ev raw : Operand → AV} {o : Oper} {t' : TypeId} {x y : Operand} {s u : Sn} (ho : o.op = .binOp .eql 39 x y t') (hx : ev x = .agg (snrow s)) (hy : ev y = .agg (snrow u)) : QOk Try.prog L ev raw o (.v (.bool (spE s u))) :=
 .still fun G w ρ hh => by
  have h1 := hh.ev x (by rw [ho]; simp [Op.operands])
  have h2 := hh.ev y (by rw [ho]; simp [Op.operands])
  rw [hx] at h1
  rw [hy] at h2
  have e1 := two_inv h1
  have e2 := two_inv h2
  refine ⟨.bool (spE s u), ?_, .data _ _ (.v _)⟩
  simp only [execOp, ho, e1, e2]
  rw [Sem.run_bind, speq_run]; rfl
end Go.Proofs.Ytncffhgoopdfgaa
namespace Go.Proofs.Ytncffhgoopdfgaa
open Go.Am
set_option maxRecDepth 100000
def zmH (id : Nat) : Heap := [(id, .box [.v (.int .i64 0), .v (.int .i64 0), .v (.string ⟨#[]⟩), .v (.string ⟨#[]⟩), .v (.bool false), .v (.bool false), .v (.string ⟨#[]⟩), .v (.int .i64 0), .list [] .full, .v (.float .f64 0), .list [] .full, .v (.int .i64 0), .v (.string ⟨#[]⟩), .v (.string ⟨#[]⟩), .v (.int .i64 0), .v (.string ⟨#[]⟩), .v (.int .i64 0), .v (.int .i64 0), .list [] .full])]
theorem take8_d (l : List UInt8) (hl : l.length < 281474976710656) : ACalls Try.prog 48 1 1 [.ptr 0 0] (rd l) (rQ pCm (fun c => CmOk c ∧ cmB c = true) (fun c => .agg (cmrow c)) l) := rQ_top (take8_c l hl) (by decide) (fun x g => by simp [cmrow, oqrow, cdrow, vrowV, snrow, AV.ren, AV.renL, Own.ren])
theorem cb8_c (l : List UInt8) (hl : l.length < 281474976710656) : ACalls Try.prog 47 2 2 [.ptr 1 0, .ptr 0 0] ((1, .box [.list (l.map brow) .free]) :: zmH 0) (cbR 1 (fun l' H' => ∃ c, pCm l = some (c, l') ∧ (CmOk c ∧ cmB c = true) ∧ H' = [(0, .box (cmrow c))]) (fun H' => pCm l = none ∧ H' = zmH 0)) := by
 have ht := take8_d l hl
 refine no_implicit_lambda% (acalls_of tok dok (f := 47) ⟨Try.func47, rfl, by kernel_rfl⟩ ?_); refine no_implicit_lambda% (c_start (fun _ h => h) ?_)
 refine no_implicit_lambda% (awd ?_)
 (refine no_implicit_lambda% (cal [1] (ht) ?_ ?_))
 ·intro x H' hh
  rcases hh with ⟨o, r, g, ⟨hz, hr⟩, h', rfl⟩ | ⟨_, h', _⟩
  ·cases h'
   first | (refine no_implicit_lambda% (akc ?_)) | (refine no_implicit_lambda% (aec ?_))
   refine no_implicit_lambda% (awd ?_)
   exact e_ret (H' := (1, .box [.list (r.map brow) .free]) :: [(0, .box (cmrow o))]) (rest := _) rfl (.inl ⟨_, r, _, ⟨o, g, hz, rfl⟩, rfl, rfl⟩) permT (LE0 rfl)
  ·cases h'
 ·intro x H' hh
  rcases hh with ⟨_, _, _, _, h', _⟩ | ⟨hno, h', rfl⟩
  ·cases h'
  ·cases h'
   refine no_implicit_lambda% (awd ?_)
   exact e_pan (H' := zmH 0) (rest := []) (.inr ⟨_, ⟨hno, rfl⟩, rfl, rfl⟩) permT (LE0 rfl)
noncomputable def oOut (l : List UInt8) : AOut := match pDec l with
 | some c => .ret (.tuple [.agg (cmrow c), .v (.int .i64 0)])
 | none => .ret (.tuple [.agg (cmrow cm0), .v (.int .i64 12)])
set_option maxHeartbeats 6400000 in
theorem decode8_c (l : List UInt8) (hl : l.length < 281474976710656) : ACalls Try.prog 10 0 20000 [.list (l.map brow) .free] [] (fun out H' => (out = oOut l ∧ ∀ c, pDec l = some c → CmOk c) ∧ H' = []) := by
 refine no_implicit_lambda% (acalls_of tok dok (f := 10) ⟨Try.func10, rfl, by kernel_rfl⟩ ?_); refine no_implicit_lambda% (c_start (fun _ h => h) ?_)
 refine no_implicit_lambda% (awd ?_)
 (refine no_implicit_lambda% (calw [1] (read_c (m := 1) (cap := [.ptr 0 0]) (H1 := zmH 0) (by decide) (cb8_c l hl) (fun f hf => by simp [AV.renL, AV.ren, hf]) (fun f hf => by simp [renH, Res.ren, AV.renL, AV.ren, hf, zmH, Own.ren]) (fun l' H h f hf => by obtain ⟨v, _, _, h⟩ := h; simp [h, renH, Res.ren, AV.renL, AV.ren, hf, Own.ren, cmrow, oqrow, cdrow, vrowV, snrow]) (fun H h f hf => by obtain ⟨_, rfl⟩ := h; simp [renH, Res.ren, AV.renL, AV.ren, hf, zmH, Own.ren])) ?_ ?_))
 rotate_left
 ·intro x H' h
  rcases h with ⟨_, _, h1⟩ | ⟨_, h1⟩ <;> cases h1
 intro x H' h
 rcases h with ⟨l1, ⟨c, g1, ⟨hok, hB⟩, rfl⟩, h1⟩ | ⟨⟨hno1, rfl⟩, h1⟩
 ·have hD : ∀ l1, pCm l = some (c, l1) → pDec l = if l1 = [] then some c else none := fun l1 g => by unfold pDec; rw [g]; rfl
  rcases l1 with _ | ⟨u, l1⟩
  ·have hd := hD [] g1
   rw [if_pos rfl] at hd
   cases h1
   refine no_implicit_lambda% (akc ?_)
   repeat' (first | (refine no_implicit_lambda% (zH ?_)) | (refine no_implicit_lambda% (spl (fun hc => ?_) (fun hc => ?_)) <;> first | exact zG hc | skip) | (refine no_implicit_lambda% (ans ?_)) | (with_reducible first | exact zI | exact zJ))
   exact e_ret (H' := []) (rest := _) rfl ⟨⟨by unfold oOut; rw [hd]; rfl, fun c' hc' => by rw [hd] at hc'; cases hc'; exact hok⟩, rfl⟩ permT (LE0 rfl)
  ·have hd := hD (u :: l1) g1
   rw [if_neg (by simp)] at hd
   rw [show decide ((((u :: l1).map brow).length : Int) = 0) = false from decide_eq_false (by rw [List.length_map, List.length_cons]; omega)] at h1
   cases h1
   refine no_implicit_lambda% (akc ?_)
   repeat' (first | (refine no_implicit_lambda% (zH ?_)) | (refine no_implicit_lambda% (spl (fun hc => ?_) (fun hc => ?_)) <;> first | exact zG hc | skip) | (refine no_implicit_lambda% (ans ?_)) | (with_reducible first | exact zI | exact zJ))
   refine e_ret_to (H' := []) (rest := [(1, .box (cmrow c)), (0, .box (cmrow cm0))]) (Conv.toT (τ := ⟨_, [(1, .box (cmrow c)), (0, .box (cmrow cm0))], _⟩) (.refl _) ?_ (Nat.le_refl _)) rfl ⟨⟨by unfold oOut; rw [hd]; rfl, fun c' hc' => by rw [hd] at hc'; cases hc'⟩, rfl⟩ permT (LE0 rfl)
   exact wkh
 ·have hd : pDec l = none := by unfold pDec; rw [hno1]; rfl
  cases h1
  refine no_implicit_lambda% (akc ?_)
  repeat' (first | (refine no_implicit_lambda% (zH ?_)) | (refine no_implicit_lambda% (spl (fun hc => ?_) (fun hc => ?_)) <;> first | exact zG hc | skip) | (refine no_implicit_lambda% (ans ?_)) | (with_reducible first | exact zI | exact zJ))
  refine e_ret_to (H' := []) (rest := [(1, .box (cmrow cm0)), (0, .box (cmrow cm0))]) (Conv.toT (τ := ⟨_, [(1, .box (cmrow cm0)), (0, .box (cmrow cm0))], _⟩) (.refl _) ?_ (Nat.le_refl _)) rfl ⟨⟨by unfold oOut; rw [hd]; rfl, fun c' hc' => by rw [hd] at hc'; cases hc'⟩, rfl⟩ permT (LE0 rfl)
  exact wkh
theorem CmOk.n {c : Cm} (h : CmOk c) : OqN c.op := ⟨h.1.2.1.2, fun x hx => (h.1.2.2 x hx).2⟩
end Go.Proofs.Ytncffhgoopdfgaa
namespace Go.Proofs.Ytncffhgoopdfgaa
open Go.Am
set_option maxRecDepth 100000
theorem pL_e8 {x : Nat} (h : x < 18446744073709551616) (r : List UInt8) : pL (be x 8 ++ r) = some (x, r) := by
 unfold pL
 rw [if_pos (by simp [be_len]), back_be _ 8 _ (by omega), drop_be]
theorem pX_e8 {b : List UInt8} (h : b.length ≤ 16) (r : List UInt8) : pX (be b.length 4 ++ b ++ r) = some (b, r) := by
 unfold pX
 rw [List.append_assoc]
 have hf : tOk (be b.length 4 ++ (b ++ r)) 16 := by
  refine ⟨by simp [be_len], ?_, fun h => ?_, ?_⟩
  ·rw [back_be _ 4 _ (by omega)]; omega
  ·rw [back_be _ 4 _ (by omega)]; omega
  ·rw [back_be _ 4 _ (by omega), drop_be]; simp
 rw [if_pos hf, back_be _ 4 _ (by omega), drop_be, List.take_append_of_le_length (Nat.le_refl _), List.take_length, List.drop_append_of_le_length (Nat.le_refl _), List.drop_length, List.nil_append]
theorem pXT {c : ByteArray} (h : c.data.toList.length ≤ 16) (r : List UInt8) : pX (encT c ++ r) = some (c.data.toList, r) := pX_e8 h r
theorem pV_e8 {v : Va} (h : vRt v = true) (hn : v.n < 18446744073709551616) (r : List UInt8) : pV (encA v ++ r) = some (canV v, r) := by
 refine pV_some ?_
 unfold vRt at h
 unfold encA canV GV
 by_cases k1 : v.kind = 1
 ·rw [k1] at h
  have hb : v.b.length ≤ 16 := by simp at h; omega
  rw [if_pos k1, if_pos k1]
  refine ⟨by simp, .inl ⟨by simp [ubn], ?_, ?_, ?_⟩⟩
  ·show tOk (be v.b.length 4 ++ v.b ++ r) 16
   rw [List.append_assoc]
   refine ⟨by simp [be_len], ?_, fun h => ?_, ?_⟩
   ·rw [back_be _ 4 _ (by omega)]; omega
   ·rw [back_be _ 4 _ (by omega)]; omega
   ·rw [back_be _ 4 _ (by omega), drop_be]; simp
  ·show _ = (⟨1, ((be v.b.length 4 ++ v.b ++ r).drop 4).take (ubn ((be v.b.length 4 ++ v.b ++ r).take 4) 0), 0⟩ : Va)
   rw [List.append_assoc, back_be _ 4 _ (by omega), drop_be, List.take_append_of_le_length (Nat.le_refl _), List.take_length]
  ·show _ = ((be v.b.length 4 ++ v.b ++ r).drop 4).drop (ubn ((be v.b.length 4 ++ v.b ++ r).take 4) 0)
   rw [List.append_assoc, back_be _ 4 _ (by omega), drop_be, List.drop_append_of_le_length (Nat.le_refl _), List.drop_length, List.nil_append]
 ·have k2 : v.kind = 2 := by
   rcases hk : (v.kind == 2) with _ | _
   ·rw [hk] at h
    simp [k1] at h
   ·exact eq_of_beq hk
  have hc := canonB_lt hn
  rw [if_neg k1, if_pos k2, if_neg k1, if_pos k2]
  refine ⟨by simp, .inr ⟨by simp [ubn], ?_, ?_, ?_⟩⟩
  ·show fOk (be (canonB v.n) 8 ++ r)
   refine ⟨by simp [be_len], ?_⟩
   rw [back_be _ 8 _ (by omega)]
   exact canon2 _
  ·show _ = (⟨2, [], ubn ((be (canonB v.n) 8 ++ r).take 8) 0⟩ : Va)
   rw [back_be _ 8 _ (by omega)]
  ·show _ = (be (canonB v.n) 8 ++ r).drop 8
   rw [drop_be]
def nmCh (x : Ch) : Ch := if x.k = 4 then ⟨4, ⟨#[]⟩, 0, ⟨0, [], 0⟩⟩ else if x.k = 3 then ⟨3, x.c, 0, ⟨0, [], 0⟩⟩ else if x.k = 2 then ⟨2, x.c, x.t, ⟨0, [], 0⟩⟩ else ⟨x.k, x.c, x.t, canV x.v⟩
theorem vRt_c8 {v : Va} (h : vRt v = true) : vRt (canV v) = true := by
 unfold vRt at *
 unfold canV
 by_cases k1 : v.kind = 1
 ·rw [if_pos k1]
  rw [k1] at h
  simpa using h
 ·rw [if_neg k1]
  by_cases k2 : v.kind = 2
  ·rw [if_pos k2]; simp
  ·exfalso
   have h3 : (v.kind == 1) = false := by simp [k1]
   have h4 : (v.kind == 2) = false := by simp [k2]
   rw [h3, h4] at h
   simp at h
theorem nm_right {x : Ch} (h : rightC x = 0) : rightC (nmCh x) = 0 := by
 obtain ⟨h1, h2, h3, h4, h5⟩ := rightC_inv h
 obtain ⟨k, c, t, v⟩ := x
 dsimp only at *
 have hk : k = 1 ∨ k = 5 ∨ k = 2 ∨ k = 3 ∨ k = 4 := by omega
 rcases hk with rfl | rfl | rfl | rfl | rfl
 ·have a := h2 (by decide)
  have b := h3 (by decide)
  have d := vRt_c8 (h4 (by decide))
  show rightC ⟨1, c, t, canV v⟩ = 0
  unfold rightC
  dsimp only
  rw [if_neg (by decide), if_neg (by decide), a, if_neg (by simp), if_neg (by decide), b, if_neg (by simp), if_neg (by decide), d, if_neg (by simp), if_neg (fun h => by cases h.1)]
 ·have a := h2 (by decide)
  have b := h3 (by decide)
  have d := vRt_c8 (h4 (by decide))
  have e := h5 rfl
  have e2 : (canV v).kind = 2 := by unfold canV; rw [if_neg (by omega), if_pos e]
  show rightC ⟨5, c, t, canV v⟩ = 0
  unfold rightC
  dsimp only
  rw [if_neg (by decide), if_neg (by decide), a, if_neg (by simp), if_neg (by decide), b, if_neg (by simp), if_neg (by decide), d, if_neg (by simp), if_neg (fun h => h.2 e2)]
 ·have a := h2 (by decide)
  have b := h3 (by decide)
  show rightC ⟨2, c, t, ⟨0, [], 0⟩⟩ = 0
  unfold rightC
  dsimp only
  rw [if_neg (by decide), if_neg (by decide), a, if_neg (by simp), if_neg (by decide), b, if_neg (by simp), if_pos rfl]
 ·have a := h2 (by decide)
  show rightC ⟨3, c, 0, ⟨0, [], 0⟩⟩ = 0
  unfold rightC
  dsimp only
  rw [if_neg (by decide), if_neg (by decide), a, if_neg (by simp), if_pos rfl]
 ·rfl
theorem tm_nat {t : Int} (h : tmOk t = true) : 0 ≤ t ∧ t.toNat < 18446744073709551616 ∧ IntKind.i64.wrap (t.toNat : Int) = t := by
 unfold tmOk at h
 have h2 := of_decide_eq_true h
 refine ⟨h2.1, by omega, ?_⟩
 rw [z64 (by omega) (by omega)]
 omega
theorem pCh_e8 {x : Ch} (h : rightC x = 0) (hn : x.v.n < 18446744073709551616) (r : List UInt8) : pCh (encCh x ++ r) = some (nmCh x, r) := by
 have hr := nm_right h
 have hR : chR (nmCh x) r = some (nmCh x, r) := if_pos hr
 obtain ⟨h1, h2, h3, h4, h5⟩ := rightC_inv h
 obtain ⟨k, c, t, v⟩ := x
 dsimp only at *
 unfold pCh
 have hk : k = 1 ∨ k = 5 ∨ k = 2 ∨ k = 3 ∨ k = 4 := by omega
 rcases hk with rfl | rfl | rfl | rfl | rfl
 ·obtain ⟨t0, t1, t2⟩ := tm_nat (h3 (by decide))
  have hc := (nmB_len (h2 (by decide))).2
  have hv := h4 (by decide)
  rw [show encCh ⟨1, c, t, v⟩ ++ r = [UInt8.ofNat 1] ++ (encT c ++ (be t.toNat 8 ++ (encA v ++ r))) by show [1] ++ encT c ++ be t.toNat 8 ++ encA v ++ r = _; simp only [List.append_assoc]; rfl, pB_enc (by decide), bnd_some]
  show bnd (pX _) (fun s r1 => bnd (pL r1) fun t r2 => bnd (pV r2) fun v r3 => chR ⟨1, ⟨s.toArray⟩, IntKind.i64.wrap (t : Int), v⟩ r3) = _
  rw [pXT hc, bnd_some, pL_e8 t1, bnd_some, pV_e8 hv hn, bnd_some, t2]
  exact hR
 ·obtain ⟨t0, t1, t2⟩ := tm_nat (h3 (by decide))
  have hc := (nmB_len (h2 (by decide))).2
  have hv := h4 (by decide)
  rw [show encCh ⟨5, c, t, v⟩ ++ r = [UInt8.ofNat 5] ++ (encT c ++ (be t.toNat 8 ++ (encA v ++ r))) by show [5] ++ encT c ++ be t.toNat 8 ++ encA v ++ r = _; simp only [List.append_assoc]; rfl, pB_enc (by decide), bnd_some]
  show bnd (pX _) (fun s r1 => bnd (pL r1) fun t r2 => bnd (pV r2) fun v r3 => chR ⟨5, ⟨s.toArray⟩, IntKind.i64.wrap (t : Int), v⟩ r3) = _
  rw [pXT hc, bnd_some, pL_e8 t1, bnd_some, pV_e8 hv hn, bnd_some, t2]
  exact hR
 ·obtain ⟨t0, t1, t2⟩ := tm_nat (h3 (by decide))
  have hc := (nmB_len (h2 (by decide))).2
  rw [show encCh ⟨2, c, t, v⟩ ++ r = [UInt8.ofNat 2] ++ (encT c ++ (be t.toNat 8 ++ r)) by show [2] ++ encT c ++ be t.toNat 8 ++ r = _; simp only [List.append_assoc]; rfl, pB_enc (by decide), bnd_some]
  show bnd (pX _) (fun s r1 => bnd (pL r1) fun t r2 => chR ⟨2, ⟨s.toArray⟩, IntKind.i64.wrap (t : Int), ⟨0, [], 0⟩⟩ r2) = _
  rw [pXT hc, bnd_some, pL_e8 t1, bnd_some, t2]
  exact hR
 ·have hc := (nmB_len (h2 (by decide))).2
  rw [show encCh ⟨3, c, t, v⟩ ++ r = [UInt8.ofNat 3] ++ (encT c ++ r) by show [3] ++ encT c ++ r = _; simp only [List.append_assoc]; rfl, pB_enc (by decide), bnd_some]
  show bnd (pX _) (fun s r1 => chR ⟨3, ⟨s.toArray⟩, 0, ⟨0, [], 0⟩⟩ r1) = _
  rw [pXT hc, bnd_some]
  exact hR
 ·rw [show encCh ⟨4, c, t, v⟩ ++ r = [UInt8.ofNat 4] ++ r from rfl, pB_enc (by decide), bnd_some]
  exact hR
theorem pChs_e8 : ∀ (l : List Ch) (r : List UInt8), (∀ x ∈ l, rightC x = 0 ∧ x.v.n < 18446744073709551616) → pChs l.length (l.flatMap encCh ++ r) = some (l.map nmCh, r)
 | [], r, _ => rfl
 | x :: l, r, h => by
  obtain ⟨h1, h2⟩ := h x (List.mem_cons_self ..)
  show bnd (pCh (encCh x ++ l.flatMap encCh ++ r)) _ = _
  rw [List.append_assoc, pCh_e8 h1 h2, bnd_some, pChs_e8 l r (fun y hy => h y (List.mem_cons_of_mem _ hy)), bnd_some]
  rfl
def nmCd (d : Cd) : Cd := if d.has then (if d.want then ⟨true, true, d.c, canV d.v⟩ else ⟨true, false, d.c, ⟨0, [], 0⟩⟩) else ⟨false, false, ⟨#[]⟩, ⟨0, [], 0⟩⟩
theorem pCd_e8 {d : Cd} (h : rcB d = true) (hn : d.v.n < 18446744073709551616) (r : List UInt8) : pCd (encD d ++ r) = some (nmCd d, r) := by
 obtain ⟨has, want, c, v⟩ := d
 unfold rcB at h
 dsimp only at *
 unfold pCd
 cases has
 ·rw [show encD ⟨false, want, c, v⟩ ++ r = [UInt8.ofNat 0] ++ r from rfl, pB_enc (by decide), bnd_some]
  rfl
 ·cases want
  ·simp at h
   have hc := (nmB_len h).2
   rw [show encD ⟨true, false, c, v⟩ ++ r = [UInt8.ofNat 1] ++ (encT c ++ r) by show [1] ++ encT c ++ r = _; simp only [List.append_assoc]; rfl, pB_enc (by decide), bnd_some]
   show bnd (pX _) (fun s r1 => cdR ⟨true, false, ⟨s.toArray⟩, ⟨0, [], 0⟩⟩ r1) = _
   rw [pXT hc, bnd_some]
   exact if_pos h
  ·simp at h
   have hc := (nmB_len h.1).2
   rw [show encD ⟨true, true, c, v⟩ ++ r = [UInt8.ofNat 2] ++ (encT c ++ (encA v ++ r)) by show [2] ++ encT c ++ encA v ++ r = _; simp only [List.append_assoc]; rfl, pB_enc (by decide), bnd_some]
   show bnd (pX _) (fun s r1 => bnd (pV r1) fun v r2 => cdR ⟨true, true, ⟨s.toArray⟩, v⟩ r2) = _
   rw [pXT hc, bnd_some, pV_e8 h.2 hn, bnd_some]
   exact if_pos h.1
def nmOp (q : Oq) : Oq := if q.k = 2 then ⟨2, q.row, ⟨#[]⟩, nmCd q.d, q.l.map nmCh, 0⟩ else if q.k = 3 then ⟨3, q.row, q.hi, zCd, [], q.most⟩ else ⟨q.k, q.row, ⟨#[]⟩, zCd, [], 0⟩
theorem pOp_e8 {q : Oq} (h : opB q = true) (hN : OqN q) (r : List UInt8) : pOp (encOp q ++ r) = some (nmOp q, r) := by
 have hk := op_k h
 obtain ⟨k, row, hi, d, l, most⟩ := q
 dsimp only at *
 unfold pOp
 rcases hk with rfl | rfl | rfl
 ·rw [opB1 rfl] at h
  have hc := (nmB_len h).2
  dsimp only at hc
  rw [show encOp ⟨1, row, hi, d, l, most⟩ ++ r = [UInt8.ofNat 1] ++ (encT row ++ r) by show [1] ++ (encT row ++ []) ++ r = _; simp only [List.append_assoc, List.append_nil]; rfl, pB_enc (by decide), bnd_some, pXT hc, bnd_some]
  rfl
 ·obtain ⟨h1, h2, h3, h4, h5⟩ := op2_of rfl h
  dsimp only at *
  have hc := (nmB_len h1).2
  rw [show encOp ⟨2, row, hi, d, l, most⟩ ++ r = [UInt8.ofNat 2] ++ (encT row ++ (encD d ++ ([UInt8.ofNat l.length] ++ (l.flatMap encCh ++ r)))) by show [2] ++ (encT row ++ (encD d ++ ([UInt8.ofNat l.length] ++ l.flatMap encCh))) ++ r = _; simp only [List.append_assoc]; rfl, pB_enc (by decide), bnd_some, pXT hc, bnd_some]
  show bnd (pCd _) (fun d r1 => bnd (pB r1) fun n r2 => bnd (pChs n r2) fun xs r3 => some ((⟨2, ⟨row.data.toList.toArray⟩, ⟨#[]⟩, d, xs, 0⟩ : Oq), r3)) = _
  rw [pCd_e8 h2 hN.1, bnd_some, pB_enc (by omega), bnd_some, pChs_e8 l r (fun x hx => ⟨h5 x hx, hN.2 x hx⟩), bnd_some]
  rfl
 ·rw [opB3 rfl] at h
  simp only [Bool.and_eq_true, decide_eq_true_eq] at h
  obtain ⟨hs, hm1, hm2⟩ := h
  have hn := spB_n hs
  dsimp only at hn
  rw [show encOp ⟨3, row, hi, d, l, most⟩ ++ r = [UInt8.ofNat 3] ++ (encT row ++ (encT hi ++ ([UInt8.ofNat most.toNat] ++ r))) by show [3] ++ (encT row ++ (encT hi ++ [UInt8.ofNat most.toNat])) ++ r = _; simp only [List.append_assoc]; rfl, pB_enc (by decide), bnd_some, pXT hn.1, bnd_some]
  show bnd (pX _) (fun h r1 => bnd (pB r1) fun m r2 => some ((⟨3, ⟨row.data.toList.toArray⟩, ⟨h.toArray⟩, zCd, [], m⟩ : Oq), r2)) = _
  rw [pXT hn.2, bnd_some, pB_enc (by omega), bnd_some, Int.toNat_of_nonneg (by omega)]
  rfl
theorem nmCd_B {d : Cd} (h : rcB d = true) : rcB (nmCd d) = true := by
 obtain ⟨has, want, c, v⟩ := d
 unfold rcB at h
 dsimp only at h
 cases has
 ·rfl
 ·cases want
  ·simp at h
   show (!true || nmB c && (!false || vRt _)) = true
   rw [h]; rfl
  ·simp at h
   show (!true || nmB c && (!true || vRt (canV v))) = true
   rw [h.1, vRt_c8 h.2]; rfl
theorem nmOp_B {q : Oq} (h : opB q = true) : opB (nmOp q) = true := by
 have hk := op_k h
 obtain ⟨k, row, hi, d, l, most⟩ := q
 dsimp only at *
 rcases hk with rfl | rfl | rfl
 ·rw [opB1 rfl] at h ⊢
  exact h
 ·obtain ⟨h1, h2, h3, h4, h5⟩ := op2_of rfl h
  dsimp only at *
  show opB ⟨2, row, ⟨#[]⟩, nmCd d, l.map nmCh, 0⟩ = true
  rw [opB2 rfl]
  dsimp only
  rw [h1, nmCd_B h2, List.length_map, decide_eq_true h3, decide_eq_true h4]
  simp only [Bool.true_and, List.all_eq_true, List.mem_map]
  rintro y ⟨x, hx, rfl⟩
  unfold chB
  rw [nm_right (h5 x hx)]; rfl
 ·rw [opB3 rfl] at h
  show opB ⟨3, row, hi, zCd, [], most⟩ = true
  rw [opB3 rfl]
  exact h
theorem pSr_e8 {s : Sn} (h : spB s = true) (r : List UInt8) : pSr (encSn s ++ r) = some (s, r) := by
 obtain ⟨h1, h2⟩ := spB_n h
 obtain ⟨lo, hi⟩ := s
 unfold pSr encSn
 dsimp only at *
 rw [List.append_assoc, pXT h1, bnd_some, pXT h2, bnd_some]
def nmCm (c : Cm) : Cm :=
 if c.k = 1 then ⟨1, nmOp c.op, zSn, 0, ⟨#[]⟩, 0, 0, []⟩ else
 if c.k = 2 ∨ c.k = 4 then ⟨c.k, zOp, c.sp, c.gen, ⟨#[]⟩, 0, 0, []⟩ else
 if c.k = 3 then ⟨3, zOp, c.sp, c.gen, ⟨#[]⟩, 0, 0, c.st⟩ else
 if c.k = 5 ∨ c.k = 6 then ⟨c.k, zOp, c.sp, c.gen, c.at', 0, 0, []⟩ else
 if c.k = 7 then ⟨7, zOp, zSn, 0, c.at', 0, 0, []⟩ else
 if c.k = 8 then (if c.dw = 0 then ⟨8, zOp, zSn, 0, ⟨#[]⟩, 0, 0, []⟩ else ⟨8, zOp, zSn, 0, c.at', c.to, c.dw, []⟩) else
 if c.k = 9 then ⟨9, zOp, zSn, c.gen, ⟨#[]⟩, c.to, 0, []⟩ else ⟨c.k, zOp, zSn, 0, ⟨#[]⟩, 0, 0, []⟩
theorem cmP8 (r : List UInt8) : cmP 8 r = bnd (pB r) fun d r1 => (if d = 0 then cmR ⟨8, zOp, zSn, 0, ⟨#[]⟩, 0, 0, []⟩ r1 else bnd (pX r1) fun a r2 => bnd (pB r2) fun t r3 => cmR ⟨8, zOp, zSn, 0, ⟨a.toArray⟩, t, d, []⟩ r3) := by
 unfold cmP
 rw [if_neg (by decide), if_neg (by decide), if_neg (by decide), if_neg (by decide), if_neg (by decide), if_pos rfl]
theorem cmP9 (r : List UInt8) : cmP 9 r = bnd (pN r) fun g r1 => bnd (pB r1) fun t r2 => cmR ⟨9, zOp, zSn, g, ⟨#[]⟩, -(t : Int), 0, []⟩ r2 := by
 unfold cmP
 rw [if_neg (by decide), if_neg (by decide), if_neg (by decide), if_neg (by decide), if_neg (by decide), if_neg (by decide), if_pos rfl]
theorem pCm_e8 {c : Cm} (hc : cmB c = true) (hN : OqN c.op) : pCm (encCm c) = some (nmCm c, []) := by
 obtain ⟨k, op, sp, gen, at', to, dw, st⟩ := c
 dsimp only at *
 unfold pCm
 rcases kd10 k with rfl | rfl | rfl | rfl | rfl | rfl | rfl | rfl | rfl | hk
 ·have hq : opB op = true := hc
  rw [show encCm ⟨1, op, sp, gen, at', to, dw, st⟩ = [UInt8.ofNat 1] ++ (encOp op ++ []) by show [1] ++ encOp op = _; rw [List.append_nil]; rfl, pB_enc (by decide), bnd_some]
  show bnd (pOp _) (fun q r1 => cmR ⟨1, q, zSn, 0, ⟨#[]⟩, 0, 0, []⟩ r1) = _
  rw [pOp_e8 hq hN, bnd_some]
  exact if_pos (nmOp_B hq)
 ·obtain ⟨hs, hg⟩ := Bool.and_eq_true_iff.1 (show (spB sp && genB gen) = true from hc)
  obtain ⟨g1, g2⟩ := genB_n hg
  rw [show encCm ⟨2, op, sp, gen, at', to, dw, st⟩ = [UInt8.ofNat 2] ++ (encSn sp ++ (be gen.toNat 4 ++ [])) by show [2] ++ (encSn sp ++ be gen.toNat 4) = _; simp only [List.append_assoc, List.append_nil]; rfl, pB_enc (by decide), bnd_some]
  show bnd (pSr _) (fun s r1 => bnd (pN r1) fun g r2 => cmR ⟨2, zOp, s, g, ⟨#[]⟩, 0, 0, []⟩ r2) = _
  rw [pSr_e8 hs, bnd_some, pN_enc (by omega), bnd_some, Int.toNat_of_nonneg (by omega)]
  exact if_pos hc
 ·obtain ⟨hs, hg⟩ := Bool.and_eq_true_iff.1 (show (spB sp && genB gen) = true from hc)
  obtain ⟨g1, g2⟩ := genB_n hg
  rw [show encCm ⟨4, op, sp, gen, at', to, dw, st⟩ = [UInt8.ofNat 4] ++ (encSn sp ++ (be gen.toNat 4 ++ [])) by show [4] ++ (encSn sp ++ be gen.toNat 4) = _; simp only [List.append_assoc, List.append_nil]; rfl, pB_enc (by decide), bnd_some]
  show bnd (pSr _) (fun s r1 => bnd (pN r1) fun g r2 => cmR ⟨4, zOp, s, g, ⟨#[]⟩, 0, 0, []⟩ r2) = _
  rw [pSr_e8 hs, bnd_some, pN_enc (by omega), bnd_some, Int.toNat_of_nonneg (by omega)]
  exact if_pos hc
 ·obtain ⟨hs, hg⟩ := Bool.and_eq_true_iff.1 (show (spB sp && (genB gen && decide (st.length ≤ 1048576))) = true from hc)
  obtain ⟨hg, ht⟩ := Bool.and_eq_true_iff.1 hg
  have ht := of_decide_eq_true ht
  obtain ⟨g1, g2⟩ := genB_n hg
  rw [show encCm ⟨3, op, sp, gen, at', to, dw, st⟩ = [UInt8.ofNat 3] ++ (encSn sp ++ (be gen.toNat 4 ++ (be st.length 4 ++ st ++ []))) by show [3] ++ (encSn sp ++ (be gen.toNat 4 ++ (be st.length 4 ++ st))) = _; simp only [List.append_assoc, List.append_nil]; rfl, pB_enc (by decide), bnd_some]
  show bnd (pSr _) (fun s r1 => bnd (pN r1) fun g r2 => bnd (pT r2) fun t r3 => cmR ⟨3, zOp, s, g, ⟨#[]⟩, 0, 0, t⟩ r3) = _
  rw [pSr_e8 hs, bnd_some, pN_enc (by omega), bnd_some, pT_enc ht, bnd_some, Int.toNat_of_nonneg (by omega)]
  exact if_pos hc
 ·obtain ⟨hs, hg⟩ := Bool.and_eq_true_iff.1 (show (spliB sp at' && genB gen) = true from hc)
  obtain ⟨hs2, ha⟩ := spliB_n hs
  obtain ⟨g1, g2⟩ := genB_n hg
  rw [show encCm ⟨5, op, sp, gen, at', to, dw, st⟩ = [UInt8.ofNat 5] ++ (encSn sp ++ (be gen.toNat 4 ++ (encT at' ++ []))) by show [5] ++ (encSn sp ++ (be gen.toNat 4 ++ encT at')) = _; simp only [List.append_assoc, List.append_nil]; rfl, pB_enc (by decide), bnd_some]
  show bnd (pSr _) (fun s r1 => bnd (pN r1) fun g r2 => bnd (pX r2) fun a r3 => cmR ⟨5, zOp, s, g, ⟨a.toArray⟩, 0, 0, []⟩ r3) = _
  rw [pSr_e8 hs2, bnd_some, pN_enc (by omega), bnd_some, pXT ha, bnd_some, Int.toNat_of_nonneg (by omega)]
  exact if_pos hc
 ·obtain ⟨hs, hg⟩ := Bool.and_eq_true_iff.1 (show (spliB sp at' && genB gen) = true from hc)
  obtain ⟨hs2, ha⟩ := spliB_n hs
  obtain ⟨g1, g2⟩ := genB_n hg
  rw [show encCm ⟨6, op, sp, gen, at', to, dw, st⟩ = [UInt8.ofNat 6] ++ (encSn sp ++ (be gen.toNat 4 ++ (encT at' ++ []))) by show [6] ++ (encSn sp ++ (be gen.toNat 4 ++ encT at')) = _; simp only [List.append_assoc, List.append_nil]; rfl, pB_enc (by decide), bnd_some]
  show bnd (pSr _) (fun s r1 => bnd (pN r1) fun g r2 => bnd (pX r2) fun a r3 => cmR ⟨6, zOp, s, g, ⟨a.toArray⟩, 0, 0, []⟩ r3) = _
  rw [pSr_e8 hs2, bnd_some, pN_enc (by omega), bnd_some, pXT ha, bnd_some, Int.toNat_of_nonneg (by omega)]
  exact if_pos hc
 ·have ha := le16_n (show le16 at' = true from hc)
  rw [show encCm ⟨7, op, sp, gen, at', to, dw, st⟩ = [UInt8.ofNat 7] ++ (encT at' ++ []) by show [7] ++ encT at' = _; rw [List.append_nil]; rfl, pB_enc (by decide), bnd_some]
  show bnd (pX _) (fun a r1 => cmR ⟨7, zOp, zSn, 0, ⟨a.toArray⟩, 0, 0, []⟩ r1) = _
  rw [pXT ha, bnd_some]
  exact if_pos hc
 ·by_cases hz : dw = 0
  ·subst hz
   rw [show encCm ⟨8, op, sp, gen, at', to, 0, st⟩ = [UInt8.ofNat 8] ++ ([UInt8.ofNat 0] ++ []) from rfl, pB_enc (by decide), bnd_some]
   rw [cmP8]
   rw [pB_enc (by decide), bnd_some, if_pos rfl]
   rfl
  ·have hc2 : (decide (dw = 0) || (decide (1 ≤ dw) && (decide (dw ≤ 3) && (le16 at' && (decide (0 ≤ to) && decide (to ≤ 255)))))) = true := hc
   rw [decide_eq_false hz, Bool.false_or] at hc2
   simp only [Bool.and_eq_true, decide_eq_true_eq] at hc2
   obtain ⟨d1, d2, ha0, t1, t2⟩ := hc2
   have ha := le16_n ha0
   rw [show encCm ⟨8, op, sp, gen, at', to, dw, st⟩ = [UInt8.ofNat 8] ++ ([UInt8.ofNat dw.toNat] ++ (encT at' ++ ([UInt8.ofNat to.toNat] ++ []))) by show 8 :: UInt8.ofNat dw.toNat :: (if dw = 0 then [] else encT at' ++ [UInt8.ofNat to.toNat]) = _; rw [if_neg hz]; rfl, pB_enc (by decide), bnd_some]
   rw [cmP8]
   rw [pB_enc (by omega), bnd_some, if_neg (by omega), pXT ha, bnd_some, pB_enc (by omega), bnd_some, Int.toNat_of_nonneg (by omega), Int.toNat_of_nonneg (by omega)]
   have he : nmCm ⟨8, op, sp, gen, at', to, dw, st⟩ = ⟨8, zOp, zSn, 0, at', to, dw, []⟩ := by show (if dw = 0 then _ else _) = _; rw [if_neg hz]
   rw [he]
   exact if_pos hc
 ·obtain ⟨hg, ht⟩ := Bool.and_eq_true_iff.1 (show (genB gen && (decide (to = 0) || decide (to = -1))) = true from hc)
  obtain ⟨g1, g2⟩ := genB_n hg
  have ht2 : to = 0 ∨ to = -1 := by simpa using ht
  have hto : -(((-to).toNat : Nat) : Int) = to := by omega
  rw [show encCm ⟨9, op, sp, gen, at', to, dw, st⟩ = [UInt8.ofNat 9] ++ (be gen.toNat 4 ++ ([UInt8.ofNat (-to).toNat] ++ [])) from rfl, pB_enc (by decide), bnd_some]
  rw [cmP9]
  rw [pN_enc (by omega), bnd_some, pB_enc (by omega), bnd_some, Int.toNat_of_nonneg (by omega), hto]
  exact if_pos hc
 ·rw [cmB0 hk] at hc
  have h10 : k = 10 := of_decide_eq_true hc
  subst h10
  rw [show encCm ⟨10, op, sp, gen, at', to, dw, st⟩ = [UInt8.ofNat 10] ++ [] from rfl, pB_enc (by decide), bnd_some]
  rfl
end Go.Proofs.Ytncffhgoopdfgaa
namespace Go.Proofs.Ytncffhgoopdfgaa
open Go.Am
set_option maxRecDepth 100000
end Go.Proofs.Ytncffhgoopdfgaa
namespace Go.Proofs.Ytncffhgoopdfgaa
open Go.Am
set_option maxRecDepth 100000
end Go.Proofs.Ytncffhgoopdfgaa
