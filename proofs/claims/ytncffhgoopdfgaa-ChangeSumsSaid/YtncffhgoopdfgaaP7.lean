/- Part 7 of what the laws ChangeConds ChangeSums rest on: ChJ, RxB, ChI, ChK, ChL, ChM. -/
import Derived.Test.YtncffhgoopdfgaaP6
namespace Go.Proofs.Ytncffhgoopdfgaa
open Go.Am
set_option linter.unusedSimpArgs false
set_option linter.unusedVariables false
set_option maxRecDepth 100000
abbrev nmC5 : ByteArray := bsS [99]
theorem dvmade_d (a : Dv) (h : DvOk a) : ACalls Try.prog 29 0 0 [.agg (dvr a)] [] (fun out H' => ∃ v, okV v ∧ out = .ret (vav v) ∧ H' = []) :=
  ACalls.ren (dvmade_c a h) (by decide) fun out H' hh => by
    obtain ⟨v, h1, rfl, rfl⟩ := hh
    exact ⟨[], .ret (vav v), [], List.nodup_nil, (fun q h => by cases h), (fun q h => by omega), Nat.le_refl _, rfl, rfl, v, h1, rfl, rfl⟩
theorem rightC_put {s : ByteArray} {t : Int} {v : Va} (h1 : nmB s = true) (h2 : tmOk t = true) (h3 : vRt v = true) : rightC ⟨1, s, t, v⟩ = 0 := by
  unfold rightC
  dsimp only
  rw [if_neg (by decide), if_neg (by decide), h1, if_neg (by decide), if_neg (by decide), h2, if_neg (by decide), if_neg (by decide), h3, if_neg (by decide), if_neg (fun h => absurd h.1 (by decide))]
theorem cond_put {M : List Co} {v : Va} (hv : okV v) : applyR M [⟨4, ⟨#[]⟩, 0, ⟨0, [], 0⟩⟩, ⟨1, nmC5, 7, v⟩] = (0, [⟨nmC5, [⟨7, canV v⟩]⟩]) := by
  have h0 : firstE [⟨4, ⟨#[]⟩, 0, ⟨0, [], 0⟩⟩, ⟨1, nmC5, 7, v⟩] = 0 := firstE_zero fun x hx => by
    simp only [List.mem_cons, List.not_mem_nil, or_false] at hx
    rcases hx with rfl | rfl
    · rfl
    · exact rightC_put (by decide) (by decide) hv.2.2
  unfold applyR
  rw [if_neg (by simp), if_neg (by rw [h0]; simp)]
  show foldC (copyR M) _ = _
  unfold foldC
  rw [show stepC (copyR M) ⟨4, ⟨#[]⟩, 0, ⟨0, [], 0⟩⟩ = (0, []) from rfl]
  dsimp only
  rw [if_neg (by simp)]
  unfold foldC
  rw [show stepC [] ⟨1, nmC5, 7, v⟩ = putR [] nmC5 7 v from rfl, put_new (by decide) (by decide) hv.2.2]
  rfl
theorem cond_fine {v : Va} (hv : okV v) : Fine [⟨nmC5, [⟨7, canV v⟩]⟩] := by
  have h := applyR_fin [] [⟨4, ⟨#[]⟩, 0, ⟨0, [], 0⟩⟩, ⟨1, nmC5, 7, v⟩]
  rw [cond_put hv] at h
  exact h
theorem cond_at {v : Va} (hv : okV v) : atR [⟨nmC5, [⟨7, canV v⟩]⟩] nmC5 1099511627776 = some (canV v) := by
  rw [atR_one (cond_fine hv), atL_hd (by show (7 : Int) ≤ 1099511627776; decide)]
theorem cond_drop {v : Va} (hv : okV v) : applyR [⟨nmC5, [⟨7, canV v⟩]⟩] [⟨3, nmC5, 0, ⟨0, [], 0⟩⟩] = (0, []) := by
  rw [applyR_1 (cond_fine hv) (by decide)]
  have hd : dcR [⟨nmC5, [⟨7, canV v⟩]⟩] nmC5 = [] := by
    unfold dcR
    rw [(cond_fine hv).copy]
    obtain ⟨a, b⟩ := hasN_one (s := nmC5) (l := [⟨7, canV v⟩])
    rw [a, b, if_pos rfl]; rfl
  rw [show stepC [⟨nmC5, [⟨7, canV v⟩]⟩] ⟨3, nmC5, 0, ⟨0, [], 0⟩⟩ = (0, dcR [⟨nmC5, [⟨7, canV v⟩]⟩] nmC5) from rfl, hd]
  rfl
set_option maxHeartbeats 6400000 in
theorem conds5_rc (l : List Cw) (hl : ∀ a ∈ l, CwOk a) (h1 : l.length ≤ 9223372036854775807) (d1 d2 : Dv) (hd1 : DvOk d1) (hd2 : DvOk d2) : ACalls Try.prog 6 0 90000000 [.list (l.map cwrow) .free, .agg (dvr d1), .agg (dvr d2)] [] (fun out H' => out = .ret (.v (.bool true)) ∧ H' = []) := by
  have hk := known5_c.top0
  refine no_implicit_lambda% (acalls_of tok dok (f := 6) ⟨Try.func6, rfl, by kernel_rfl⟩ ?_); refine no_implicit_lambda% (c_start (fun _ h => h) ?_)
  repeat' (first | (refine no_implicit_lambda% (awd1 ?_)) | (((with_reducible refine no_implicit_lambda% (is_aops ?_)); refine no_implicit_lambda% (o_split rfl rfl rfl (fun hc => ?_) (fun hc => ?_)) <;> first | exact decx hc | rw [hc])) | (((with_reducible refine no_implicit_lambda% (is_cond ?_)); refine no_implicit_lambda% (c_cond rfl (fun hc => ?_) (fun hc => ?_)) <;> first | exact decx hc | skip)) | (((with_reducible refine no_implicit_lambda% (is_aop ?_)); refine no_implicit_lambda% (a_pick rfl rfl (fun hc => ?_) (fun hc => ?_)) <;> first | exact decx hc | rw [hc])) | (((with_reducible refine no_implicit_lambda% (is_ev ?_)); refine no_implicit_lambda% (v_split rfl rfl rfl rfl (fun hc => ?_) (fun hc => ?_)) <;> first | exact decx hc | rw [hc])) | (refine no_implicit_lambda% (ans ?_)) | (with_reducible exact retN) | (with_reducible exact retP) | ((with_reducible refine no_implicit_lambda% (ret1 ?_)); first | (refine no_implicit_lambda% (akcs ?_)) | (refine no_implicit_lambda% (aecs ?_))) | fail | (((with_reducible refine no_implicit_lambda% (is_effK ?_)); refine no_implicit_lambda% (aecs ?_))) | (((with_reducible refine no_implicit_lambda% (is_drB ?_)); refine no_implicit_lambda% (b_ends ?_))) | (((with_reducible refine no_implicit_lambda% (is_aop ?_)); refine no_implicit_lambda% (a_stores ?_))) | ((with_reducible refine no_implicit_lambda% (is_aop ?_)); first | (refine no_implicit_lambda% (a_append_tok rfl rfl rfl rfl rfl rfl rfl rfl rfl rfl rfl rfl rfl rfl (by first | rfl | (simp; done)) (fun q hq => by rw [forceH_eq]; exact hq) (by (first | assumption | (intro row hr; simp only [List.mem_cons, List.not_mem_nil, or_false] at hr; rcases hr with rfl | rfl | rfl | rfl <;> rfl) | (intro row hr; simp at hr; done) | (intro row hr; simp only [List.mem_singleton] at hr; subst hr; rfl) | (intro row hr; obtain ⟨_, _, rfl⟩ := List.mem_map.1 hr; rfl))) (by (refine ⟨?_, ?_⟩ <;> (simp only [List.length_map, List.length_append, List.length_cons, List.length_nil]; omega))) ?_))) | fail)
  (refine no_implicit_lambda% (cal [] (made5_d l hl h1) ?_ ?_))
  rotate_left
  · intro xx H' hh
    obtain ⟨_, _, h', _⟩ := hh
    cases h'
  intro xx H' hh
  obtain ⟨r, ⟨hF, hz⟩, h', rfl⟩ := hh
  cases h'
  first | (refine no_implicit_lambda% (akc ?_)) | (refine no_implicit_lambda% (aec ?_))
  repeat' (first | (refine no_implicit_lambda% (awd1 ?_)) | (((with_reducible refine no_implicit_lambda% (is_aops ?_)); refine no_implicit_lambda% (o_split rfl rfl rfl (fun hc => ?_) (fun hc => ?_)) <;> first | exact decx hc | rw [hc])) | (((with_reducible refine no_implicit_lambda% (is_cond ?_)); refine no_implicit_lambda% (c_cond rfl (fun hc => ?_) (fun hc => ?_)) <;> first | exact decx hc | skip)) | (((with_reducible refine no_implicit_lambda% (is_aop ?_)); refine no_implicit_lambda% (a_pick rfl rfl (fun hc => ?_) (fun hc => ?_)) <;> first | exact decx hc | rw [hc])) | (((with_reducible refine no_implicit_lambda% (is_ev ?_)); refine no_implicit_lambda% (v_split rfl rfl rfl rfl (fun hc => ?_) (fun hc => ?_)) <;> first | exact decx hc | rw [hc])) | (refine no_implicit_lambda% (ans ?_)) | (with_reducible exact retN) | (with_reducible exact retP) | ((with_reducible refine no_implicit_lambda% (ret1 ?_)); first | (refine no_implicit_lambda% (akcs ?_)) | (refine no_implicit_lambda% (aecs ?_))) | fail | (((with_reducible refine no_implicit_lambda% (is_effK ?_)); refine no_implicit_lambda% (aecs ?_))) | (((with_reducible refine no_implicit_lambda% (is_drB ?_)); refine no_implicit_lambda% (b_ends ?_))) | (((with_reducible refine no_implicit_lambda% (is_aop ?_)); refine no_implicit_lambda% (a_stores ?_))) | ((with_reducible refine no_implicit_lambda% (is_aop ?_)); first | (refine no_implicit_lambda% (a_append_tok rfl rfl rfl rfl rfl rfl rfl rfl rfl rfl rfl rfl rfl rfl (by first | rfl | (simp; done)) (fun q hq => by rw [forceH_eq]; exact hq) (by (first | assumption | (intro row hr; simp only [List.mem_cons, List.not_mem_nil, or_false] at hr; rcases hr with rfl | rfl | rfl | rfl <;> rfl) | (intro row hr; simp at hr; done) | (intro row hr; simp only [List.mem_singleton] at hr; subst hr; rfl) | (intro row hr; obtain ⟨_, _, rfl⟩ := List.mem_map.1 hr; rfl))) (by (refine ⟨?_, ?_⟩ <;> (simp only [List.length_map, List.length_append, List.length_cons, List.length_nil]; omega))) ?_))) | fail)
  (refine no_implicit_lambda% (cal [] (dvmade_d d1 hd1) ?_ ?_))
  rotate_left
  · intro xx H' hh
    obtain ⟨_, _, h', _⟩ := hh
    cases h'
  intro xx H' hh
  obtain ⟨p, hp, h', rfl⟩ := hh
  cases h'
  first | (refine no_implicit_lambda% (akc ?_)) | (refine no_implicit_lambda% (aec ?_))
  repeat' (first | (refine no_implicit_lambda% (awd1 ?_)) | (((with_reducible refine no_implicit_lambda% (is_aops ?_)); refine no_implicit_lambda% (o_split rfl rfl rfl (fun hc => ?_) (fun hc => ?_)) <;> first | exact decx hc | rw [hc])) | (((with_reducible refine no_implicit_lambda% (is_cond ?_)); refine no_implicit_lambda% (c_cond rfl (fun hc => ?_) (fun hc => ?_)) <;> first | exact decx hc | skip)) | (((with_reducible refine no_implicit_lambda% (is_aop ?_)); refine no_implicit_lambda% (a_pick rfl rfl (fun hc => ?_) (fun hc => ?_)) <;> first | exact decx hc | rw [hc])) | (((with_reducible refine no_implicit_lambda% (is_ev ?_)); refine no_implicit_lambda% (v_split rfl rfl rfl rfl (fun hc => ?_) (fun hc => ?_)) <;> first | exact decx hc | rw [hc])) | (refine no_implicit_lambda% (ans ?_)) | (with_reducible exact retN) | (with_reducible exact retP) | ((with_reducible refine no_implicit_lambda% (ret1 ?_)); first | (refine no_implicit_lambda% (akcs ?_)) | (refine no_implicit_lambda% (aecs ?_))) | fail | (((with_reducible refine no_implicit_lambda% (is_effK ?_)); refine no_implicit_lambda% (aecs ?_))) | (((with_reducible refine no_implicit_lambda% (is_drB ?_)); refine no_implicit_lambda% (b_ends ?_))) | (((with_reducible refine no_implicit_lambda% (is_aop ?_)); refine no_implicit_lambda% (a_stores ?_))) | ((with_reducible refine no_implicit_lambda% (is_aop ?_)); first | (refine no_implicit_lambda% (a_append_tok rfl rfl rfl rfl rfl rfl rfl rfl rfl rfl rfl rfl rfl rfl (by first | rfl | (simp; done)) (fun q hq => by rw [forceH_eq]; exact hq) (by (first | assumption | (intro row hr; simp only [List.mem_cons, List.not_mem_nil, or_false] at hr; rcases hr with rfl | rfl | rfl | rfl <;> rfl) | (intro row hr; simp at hr; done) | (intro row hr; simp only [List.mem_singleton] at hr; subst hr; rfl) | (intro row hr; obtain ⟨_, _, rfl⟩ := List.mem_map.1 hr; rfl))) (by (refine ⟨?_, ?_⟩ <;> (simp only [List.length_map, List.length_append, List.length_cons, List.length_nil]; omega))) ?_))) | fail)
  (refine no_implicit_lambda% (cal [] (dvmade_d d2 hd2) ?_ ?_))
  rotate_left
  · intro xx H' hh
    obtain ⟨_, _, h', _⟩ := hh
    cases h'
  intro xx H' hh
  obtain ⟨q, hq, h', rfl⟩ := hh
  cases h'
  first | (refine no_implicit_lambda% (akc ?_)) | (refine no_implicit_lambda% (aec ?_))
  repeat' (first | (refine no_implicit_lambda% (awd1 ?_)) | (((with_reducible refine no_implicit_lambda% (is_aops ?_)); refine no_implicit_lambda% (o_split rfl rfl rfl (fun hc => ?_) (fun hc => ?_)) <;> first | exact decx hc | rw [hc])) | (((with_reducible refine no_implicit_lambda% (is_cond ?_)); refine no_implicit_lambda% (c_cond rfl (fun hc => ?_) (fun hc => ?_)) <;> first | exact decx hc | skip)) | (((with_reducible refine no_implicit_lambda% (is_aop ?_)); refine no_implicit_lambda% (a_pick rfl rfl (fun hc => ?_) (fun hc => ?_)) <;> first | exact decx hc | rw [hc])) | (((with_reducible refine no_implicit_lambda% (is_ev ?_)); refine no_implicit_lambda% (v_split rfl rfl rfl rfl (fun hc => ?_) (fun hc => ?_)) <;> first | exact decx hc | rw [hc])) | (refine no_implicit_lambda% (ans ?_)) | (with_reducible exact retN) | (with_reducible exact retP) | ((with_reducible refine no_implicit_lambda% (ret1 ?_)); first | (refine no_implicit_lambda% (akcs ?_)) | (refine no_implicit_lambda% (aecs ?_))) | fail | (((with_reducible refine no_implicit_lambda% (is_effK ?_)); refine no_implicit_lambda% (aecs ?_))) | (((with_reducible refine no_implicit_lambda% (is_drB ?_)); refine no_implicit_lambda% (b_ends ?_))) | (((with_reducible refine no_implicit_lambda% (is_aop ?_)); refine no_implicit_lambda% (a_stores ?_))) | ((with_reducible refine no_implicit_lambda% (is_aop ?_)); first | (refine no_implicit_lambda% (a_append_tok rfl rfl rfl rfl rfl rfl rfl rfl rfl rfl rfl rfl rfl rfl (by first | rfl | (simp; done)) (fun q hq => by rw [forceH_eq]; exact hq) (by (first | assumption | (intro row hr; simp only [List.mem_cons, List.not_mem_nil, or_false] at hr; rcases hr with rfl | rfl | rfl | rfl <;> rfl) | (intro row hr; simp at hr; done) | (intro row hr; simp only [List.mem_singleton] at hr; subst hr; rfl) | (intro row hr; obtain ⟨_, _, rfl⟩ := List.mem_map.1 hr; rfl))) (by (refine ⟨?_, ?_⟩ <;> (simp only [List.length_map, List.length_append, List.length_cons, List.length_nil]; omega))) ?_))) | fail)
  have hr4 := hF.len
  have hpb : ChSz ⟨1, nmC5, 7, p⟩ := ⟨hp.1, hp.2.1⟩
  have hxs : ∀ x ∈ [(⟨4, ⟨#[]⟩, 0, ⟨0, [], 0⟩⟩ : Ch), ⟨1, nmC5, 7, p⟩], ChSz x := fun x hx => by
    simp only [List.mem_cons, List.not_mem_nil, or_false] at hx
    rcases hx with rfl | rfl
    · exact ⟨by decide, by decide⟩
    · exact hpb
  have a1 := apply_d r [⟨4, ⟨#[]⟩, 0, ⟨0, [], 0⟩⟩, ⟨1, nmC5, 7, p⟩] (by omega) hz hxs (by simp)
  have hz1 := applyR_siz hz hxs
  have hfi := cond_fine hp
  have hat := cond_at hp
  rw [cond_put hp] at a1 hz1
  dsimp only at hz1
  have hcb : (canV p).b.length < 70368744177664 := by have := canV_len p (by have := hp.1; omega); exact this
  have hat2 : ∀ v, atR [⟨nmC5, [⟨7, canV p⟩]⟩] nmC5 1099511627776 = some v → v.b.length < 70368744177664 := fun v hv => by
    rw [hat] at hv; cases hv; exact hcb
  have b1 := (holds_c [⟨nmC5, [⟨7, canV p⟩]⟩] ⟨true, true, nmC5, p⟩ (by simp) hz1 (by have := hp.1; show p.b.length < _; omega) hat2).top0
  have b2 := (holds_c [⟨nmC5, [⟨7, canV p⟩]⟩] ⟨true, false, nmC5, ⟨0, [], 0⟩⟩ (by simp) hz1 (by decide) hat2).top0
  have b3 := (holds_c [⟨nmC5, [⟨7, canV p⟩]⟩] ⟨true, true, nmC5, q⟩ (by simp) hz1 (by have := hq.1; show q.b.length < _; omega) hat2).top0
  have a2 := apply_d [⟨nmC5, [⟨7, canV p⟩]⟩] [⟨3, nmC5, 0, ⟨0, [], 0⟩⟩] (by simp) hz1 (fun x hx => by rw [List.mem_singleton.1 hx]; exact ⟨by decide, by decide⟩) (by decide)
  rw [cond_drop hp] at a2
  have b4 := (holds_c [] ⟨true, false, nmC5, ⟨0, [], 0⟩⟩ (by decide) sz_nil (by decide) (fun v hv => by cases hv)).top0
  have b5 := (holds_c [] ⟨true, true, nmC5, p⟩ (by decide) sz_nil (by have := hp.1; show p.b.length < _; omega) (fun v hv => by cases hv)).top0
  have sm := (refSame_c p q hp.2.1 hq.2.1).top0
  have e1 : holdR [⟨nmC5, [⟨7, canV p⟩]⟩] ⟨true, true, nmC5, p⟩ = true := by
    unfold holdR; dsimp only; rw [hat]; show (true && ordV (canV p) p == 0) = true; rw [ordV_can]; rfl
  have e2 : holdR [⟨nmC5, [⟨7, canV p⟩]⟩] ⟨true, false, nmC5, ⟨0, [], 0⟩⟩ = false := by
    unfold holdR; dsimp only; rw [hat]; rfl
  have e3 : holdR [⟨nmC5, [⟨7, canV p⟩]⟩] ⟨true, true, nmC5, q⟩ = (ordV p q == 0) := by
    unfold holdR; dsimp only; rw [hat]
    show (true && ordV (canV p) q == 0) = _
    unfold ordV; rw [canV_idem]; rfl
  rw [e1] at b1
  rw [e2] at b2
  rw [e3] at b3
  rw [show holdR [] ⟨true, false, nmC5, ⟨0, [], 0⟩⟩ = true from rfl] at b4
  rw [show holdR [] ⟨true, true, nmC5, p⟩ = false from rfl] at b5
  unfold PutRR at a1 a2
  dsimp only at a1 a2
  (refine no_implicit_lambda% (calw [] (a1) ?_ ?_ (hargs := .cons (LeA.refl _) (.cons (LeA.rows (by (repeat' (first | (with_reducible exact LDR.nil) | (with_reducible exact LDL.nil) | (refine no_implicit_lambda% (LDR.cons ?_ ?_)) | (refine no_implicit_lambda% (LDL.cons ?_ ?_)) | (exact LeD.refl _) | (exact LeD.free _ _) | (exact LDR.nil) | (exact LDL.nil)))) _) .nil))))
  rotate_left
  · first | (exact retN) | (exact retP)
  refine no_implicit_lambda% (ret1 ?_); first | (refine no_implicit_lambda% (akc ?_)) | (refine no_implicit_lambda% (aec ?_))
  repeat' (first | (refine no_implicit_lambda% (awd1 ?_)) | (((with_reducible refine no_implicit_lambda% (is_aops ?_)); refine no_implicit_lambda% (o_split rfl rfl rfl (fun hc => ?_) (fun hc => ?_)) <;> first | exact decx hc | rw [hc])) | (((with_reducible refine no_implicit_lambda% (is_cond ?_)); refine no_implicit_lambda% (c_cond rfl (fun hc => ?_) (fun hc => ?_)) <;> first | exact decx hc | skip)) | (((with_reducible refine no_implicit_lambda% (is_aop ?_)); refine no_implicit_lambda% (a_pick rfl rfl (fun hc => ?_) (fun hc => ?_)) <;> first | exact decx hc | rw [hc])) | (((with_reducible refine no_implicit_lambda% (is_ev ?_)); refine no_implicit_lambda% (v_split rfl rfl rfl rfl (fun hc => ?_) (fun hc => ?_)) <;> first | exact decx hc | rw [hc])) | (refine no_implicit_lambda% (ans ?_)) | (with_reducible exact retN) | (with_reducible exact retP) | ((with_reducible refine no_implicit_lambda% (ret1 ?_)); first | (refine no_implicit_lambda% (akcs ?_)) | (refine no_implicit_lambda% (aecs ?_))) | (refine no_implicit_lambda% (cal [] (b1) ?_ ?_)) | (((with_reducible refine no_implicit_lambda% (is_effK ?_)); refine no_implicit_lambda% (aecs ?_))) | (((with_reducible refine no_implicit_lambda% (is_drB ?_)); refine no_implicit_lambda% (b_ends ?_))) | (((with_reducible refine no_implicit_lambda% (is_aop ?_)); refine no_implicit_lambda% (a_stores ?_))) | ((with_reducible refine no_implicit_lambda% (is_aop ?_)); first | (refine no_implicit_lambda% (a_append_tok rfl rfl rfl rfl rfl rfl rfl rfl rfl rfl rfl rfl rfl rfl (by first | rfl | (simp; done)) (fun q hq => by rw [forceH_eq]; exact hq) (by (first | assumption | (intro row hr; simp only [List.mem_cons, List.not_mem_nil, or_false] at hr; rcases hr with rfl | rfl | rfl | rfl <;> rfl) | (intro row hr; simp at hr; done) | (intro row hr; simp only [List.mem_singleton] at hr; subst hr; rfl) | (intro row hr; obtain ⟨_, _, rfl⟩ := List.mem_map.1 hr; rfl))) (by (refine ⟨?_, ?_⟩ <;> (simp only [List.length_map, List.length_append, List.length_cons, List.length_nil]; omega))) ?_))) | fail)
  (refine no_implicit_lambda% (calw [] (b2) ?_ ?_ (hargs := .cons (LeA.refl _) (.cons (LeA.agg' (.cons (.refl _) (.cons (.refl _) (.cons (.refl _) (.cons (.refl _) (.cons (LeA.free _ _) (.cons (.refl _) .nil))))))) .nil))))
  rotate_left
  · first | (exact retN) | (exact retP)
  refine no_implicit_lambda% (ret1 ?_); first | (refine no_implicit_lambda% (akc ?_)) | (refine no_implicit_lambda% (aec ?_))
  repeat' (first | (refine no_implicit_lambda% (awd1 ?_)) | (((with_reducible refine no_implicit_lambda% (is_aops ?_)); refine no_implicit_lambda% (o_split rfl rfl rfl (fun hc => ?_) (fun hc => ?_)) <;> first | exact decx hc | rw [hc])) | (((with_reducible refine no_implicit_lambda% (is_cond ?_)); refine no_implicit_lambda% (c_cond rfl (fun hc => ?_) (fun hc => ?_)) <;> first | exact decx hc | skip)) | (((with_reducible refine no_implicit_lambda% (is_aop ?_)); refine no_implicit_lambda% (a_pick rfl rfl (fun hc => ?_) (fun hc => ?_)) <;> first | exact decx hc | rw [hc])) | (((with_reducible refine no_implicit_lambda% (is_ev ?_)); refine no_implicit_lambda% (v_split rfl rfl rfl rfl (fun hc => ?_) (fun hc => ?_)) <;> first | exact decx hc | rw [hc])) | (refine no_implicit_lambda% (ans ?_)) | (with_reducible exact retN) | (with_reducible exact retP) | ((with_reducible refine no_implicit_lambda% (ret1 ?_)); first | (refine no_implicit_lambda% (akcs ?_)) | (refine no_implicit_lambda% (aecs ?_))) | (refine no_implicit_lambda% (cal [] (b3) ?_ ?_)) | (refine no_implicit_lambda% (cal [] (sm) ?_ ?_)) | (((with_reducible refine no_implicit_lambda% (is_effK ?_)); refine no_implicit_lambda% (aecs ?_))) | (((with_reducible refine no_implicit_lambda% (is_drB ?_)); refine no_implicit_lambda% (b_ends ?_))) | (((with_reducible refine no_implicit_lambda% (is_aop ?_)); refine no_implicit_lambda% (a_stores ?_))) | ((with_reducible refine no_implicit_lambda% (is_aop ?_)); first | (refine no_implicit_lambda% (a_append_tok rfl rfl rfl rfl rfl rfl rfl rfl rfl rfl rfl rfl rfl rfl (by first | rfl | (simp; done)) (fun q hq => by rw [forceH_eq]; exact hq) (by (first | assumption | (intro row hr; simp only [List.mem_cons, List.not_mem_nil, or_false] at hr; rcases hr with rfl | rfl | rfl | rfl <;> rfl) | (intro row hr; simp at hr; done) | (intro row hr; simp only [List.mem_singleton] at hr; subst hr; rfl) | (intro row hr; obtain ⟨_, _, rfl⟩ := List.mem_map.1 hr; rfl))) (by (refine ⟨?_, ?_⟩ <;> (simp only [List.length_map, List.length_append, List.length_cons, List.length_nil]; omega))) ?_))) | fail)
  all_goals try (exfalso; simp at hc; done)
  (refine no_implicit_lambda% (calw [] (a2) ?_ ?_ (hargs := .cons (LeA.refl _) (.cons (LeA.rows (by (repeat' (first | (with_reducible exact LDR.nil) | (with_reducible exact LDL.nil) | (refine no_implicit_lambda% (LDR.cons ?_ ?_)) | (refine no_implicit_lambda% (LDL.cons ?_ ?_)) | (exact LeD.refl _) | (exact LeD.free _ _) | (exact LDR.nil) | (exact LDL.nil)))) _) .nil))))
  rotate_left
  · first | (exact retN) | (exact retP)
  refine no_implicit_lambda% (ret1 ?_); first | (refine no_implicit_lambda% (akc ?_)) | (refine no_implicit_lambda% (aec ?_))
  repeat' (first | (refine no_implicit_lambda% (awd1 ?_)) | (((with_reducible refine no_implicit_lambda% (is_aops ?_)); refine no_implicit_lambda% (o_split rfl rfl rfl (fun hc => ?_) (fun hc => ?_)) <;> first | exact decx hc | rw [hc])) | (((with_reducible refine no_implicit_lambda% (is_cond ?_)); refine no_implicit_lambda% (c_cond rfl (fun hc => ?_) (fun hc => ?_)) <;> first | exact decx hc | skip)) | (((with_reducible refine no_implicit_lambda% (is_aop ?_)); refine no_implicit_lambda% (a_pick rfl rfl (fun hc => ?_) (fun hc => ?_)) <;> first | exact decx hc | rw [hc])) | (((with_reducible refine no_implicit_lambda% (is_ev ?_)); refine no_implicit_lambda% (v_split rfl rfl rfl rfl (fun hc => ?_) (fun hc => ?_)) <;> first | exact decx hc | rw [hc])) | (refine no_implicit_lambda% (ans ?_)) | (with_reducible exact retN) | (with_reducible exact retP) | ((with_reducible refine no_implicit_lambda% (ret1 ?_)); first | (refine no_implicit_lambda% (akcs ?_)) | (refine no_implicit_lambda% (aecs ?_))) | fail | (((with_reducible refine no_implicit_lambda% (is_effK ?_)); refine no_implicit_lambda% (aecs ?_))) | (((with_reducible refine no_implicit_lambda% (is_drB ?_)); refine no_implicit_lambda% (b_ends ?_))) | (((with_reducible refine no_implicit_lambda% (is_aop ?_)); refine no_implicit_lambda% (a_stores ?_))) | ((with_reducible refine no_implicit_lambda% (is_aop ?_)); first | (refine no_implicit_lambda% (a_append_tok rfl rfl rfl rfl rfl rfl rfl rfl rfl rfl rfl rfl rfl rfl (by first | rfl | (simp; done)) (fun q hq => by rw [forceH_eq]; exact hq) (by (first | assumption | (intro row hr; simp only [List.mem_cons, List.not_mem_nil, or_false] at hr; rcases hr with rfl | rfl | rfl | rfl <;> rfl) | (intro row hr; simp at hr; done) | (intro row hr; simp only [List.mem_singleton] at hr; subst hr; rfl) | (intro row hr; obtain ⟨_, _, rfl⟩ := List.mem_map.1 hr; rfl))) (by (refine ⟨?_, ?_⟩ <;> (simp only [List.length_map, List.length_append, List.length_cons, List.length_nil]; omega))) ?_))) | fail)
  (refine no_implicit_lambda% (calw [] (b4) ?_ ?_ (hargs := .cons (LeA.refl _) (.cons (LeA.agg' (.cons (.refl _) (.cons (.refl _) (.cons (.refl _) (.cons (.refl _) (.cons (LeA.free _ _) (.cons (.refl _) .nil))))))) .nil))))
  rotate_left
  · first | (exact retN) | (exact retP)
  refine no_implicit_lambda% (ret1 ?_); first | (refine no_implicit_lambda% (akc ?_)) | (refine no_implicit_lambda% (aec ?_))
  repeat' (first | (refine no_implicit_lambda% (awd1 ?_)) | (((with_reducible refine no_implicit_lambda% (is_aops ?_)); refine no_implicit_lambda% (o_split rfl rfl rfl (fun hc => ?_) (fun hc => ?_)) <;> first | exact decx hc | rw [hc])) | (((with_reducible refine no_implicit_lambda% (is_cond ?_)); refine no_implicit_lambda% (c_cond rfl (fun hc => ?_) (fun hc => ?_)) <;> first | exact decx hc | skip)) | (((with_reducible refine no_implicit_lambda% (is_aop ?_)); refine no_implicit_lambda% (a_pick rfl rfl (fun hc => ?_) (fun hc => ?_)) <;> first | exact decx hc | rw [hc])) | (((with_reducible refine no_implicit_lambda% (is_ev ?_)); refine no_implicit_lambda% (v_split rfl rfl rfl rfl (fun hc => ?_) (fun hc => ?_)) <;> first | exact decx hc | rw [hc])) | (refine no_implicit_lambda% (ans ?_)) | (with_reducible exact retN) | (with_reducible exact retP) | ((with_reducible refine no_implicit_lambda% (ret1 ?_)); first | (refine no_implicit_lambda% (akcs ?_)) | (refine no_implicit_lambda% (aecs ?_))) | (refine no_implicit_lambda% (cal [] (b5) ?_ ?_)) | (refine no_implicit_lambda% (cal [] (hk) ?_ ?_)) | (((with_reducible refine no_implicit_lambda% (is_effK ?_)); refine no_implicit_lambda% (aecs ?_))) | (((with_reducible refine no_implicit_lambda% (is_drB ?_)); refine no_implicit_lambda% (b_ends ?_))) | (((with_reducible refine no_implicit_lambda% (is_aop ?_)); refine no_implicit_lambda% (a_stores ?_))) | ((with_reducible refine no_implicit_lambda% (is_aop ?_)); first | (refine no_implicit_lambda% (a_append_tok rfl rfl rfl rfl rfl rfl rfl rfl rfl rfl rfl rfl rfl rfl (by first | rfl | (simp; done)) (fun q hq => by rw [forceH_eq]; exact hq) (by (first | assumption | (intro row hr; simp only [List.mem_cons, List.not_mem_nil, or_false] at hr; rcases hr with rfl | rfl | rfl | rfl <;> rfl) | (intro row hr; simp at hr; done) | (intro row hr; simp only [List.mem_singleton] at hr; subst hr; rfl) | (intro row hr; obtain ⟨_, _, rfl⟩ := List.mem_map.1 hr; rfl))) (by (refine ⟨?_, ?_⟩ <;> (simp only [List.length_map, List.length_append, List.length_cons, List.length_nil]; omega))) ?_))) | fail)
  exact e_ret (H' := []) (rest := _) rfl ⟨rfl, rfl⟩ permT (Nat.le_of_ble_eq_true rfl)
end Go.Proofs.Ytncffhgoopdfgaa
namespace Go.Proofs.Ytncffhgoopdfgaa
open Go.Am
set_option linter.unusedSimpArgs false
set_option linter.unusedVariables false
section
variable {H : Type} {enc : TypeId × Value → H} {w : World} {base : Nat} {sp : Nat → Bool} {held : Bool}
theorem opnDv : Opn enc Try.prog w base sp held 25 fun row => ∃ a : Dv, DvOk a ∧ row = dvr a := opnV.mono fun row ⟨tx, n, x, b, h, e⟩ => ⟨⟨tx, n, x, b⟩, h, e⟩
theorem opnDvs : Opn enc Try.prog w base sp held 68 fun row => ∃ l : List Dv, (∀ a ∈ l, DvOk a) ∧ l.length ≤ 9223372036854775807 ∧ row = [.list (l.map dvr) .free] :=
  (opn_slice Try.underlying68 (by kernel_rfl : Try.prog.cellsOf 25 = 4) (by decide) opnDv).mono fun row ⟨rows, h1, h2, h3⟩ => by
    obtain ⟨l, hl, rfl⟩ := listOf (f := dvr) (Q := DvOk) fun r hr => (h3 r hr).1
    exact ⟨l, hl, by have : maxLen = 9223372036854775807 := by decide
                     simpa [this] using h2, h1⟩
end
end Go.Proofs.Ytncffhgoopdfgaa
namespace Go.Proofs.Ytncffhgoopdfgaa
open Go.Am
set_option linter.unusedSimpArgs false
set_option linter.unusedVariables false
section
variable {H : Type} {enc : TypeId × Value → H} {w : World} {base : Nat} {sp : Nat → Bool} {held : Bool}
theorem opnCw : Opn enc Try.prog w base sp held 112 fun row => ∃ a : Cw, CwOk a ∧ row = cwrow a :=
  (opn_struct Try.underlying112 (Rs := [fun row => ∃ n, row = [.v (.int .i64 n)] ∧ IntKind.i64.min ≤ n ∧ n ≤ IntKind.i64.max, fun row => ∃ n, row = [.v (.int .i64 n)] ∧ IntKind.i64.min ≤ n ∧ n ≤ IntKind.i64.max, fun row => ∃ n, row = [.v (.int .i64 n)] ∧ IntKind.i64.min ≤ n ∧ n ≤ IntKind.i64.max, fun row => ∃ a : Dv, DvOk a ∧ row = dvr a])
    ⟨rfl, opn_int Try.underlying3, by kernel_rfl, opn_int Try.underlying3, by kernel_rfl, opn_int Try.underlying2, by kernel_rfl, opnDv, (show (_ : Nat) = _ by kernel_rfl)⟩).mono
    fun row hrow => by
      obtain ⟨_, _, e0, ⟨k, rfl, k1, k2⟩, _, _, e1, ⟨c, rfl, c1, c2⟩, _, _, e2, ⟨t, rfl, t1, t2⟩, _, _, e3, ⟨v, hv, rfl⟩, e4⟩ := hrow
      refine ⟨⟨k, c, t, v⟩, ⟨⟨k1, k2⟩, ⟨c1, c2⟩, ⟨t1, t2⟩, hv⟩, ?_⟩
      rw [e0, e1, e2, e3, e4]
      simp [cwrow]
theorem opnCws : Opn enc Try.prog w base sp held 26 fun row => ∃ l : List Cw, (∀ a ∈ l, CwOk a) ∧ l.length ≤ 9223372036854775807 ∧ row = [.list (l.map cwrow) .free] :=
  (opn_slice Try.underlying26 (by kernel_rfl : Try.prog.cellsOf 112 = 7) (by decide) opnCw).mono fun row ⟨rows, h1, h2, h3⟩ => by
    obtain ⟨l, hl, rfl⟩ := listOf (f := cwrow) (Q := CwOk) fun r hr => (h3 r hr).1
    exact ⟨l, hl, by have : maxLen = 9223372036854775807 := by decide
                     simpa [this] using h2, h1⟩
end
end Go.Proofs.Ytncffhgoopdfgaa
namespace Go.Proofs.Ytncffhgoopdfgaa
open Go.Am
open Ieee
set_option linter.unusedSimpArgs false
set_option linter.unusedVariables false
set_option maxRecDepth 10000
theorem log2_at (m k : Nat) (h1 : 4503599627370496 ≤ m) (h2 : m < 9007199254740992) : (m * 2 ^ k).log2 = 52 + k := by
  have hp := Nat.two_pow_pos k
  have hne : m * 2 ^ k ≠ 0 := Nat.mul_ne_zero (by omega) (by omega)
  have e1 : (2 : Nat) ^ 52 = 4503599627370496 := by decide
  have e2 : (2 : Nat) ^ 53 = 9007199254740992 := by decide
  have h3 : 2 ^ (52 + k) ≤ m * 2 ^ k := by
    rw [Nat.pow_add, e1]
    exact Nat.mul_le_mul_right _ h1
  have h4 : m * 2 ^ k < 2 ^ (52 + k + 1) := by
    rw [show 52 + k + 1 = 53 + k by omega, Nat.pow_add, e2]
    exact Nat.mul_lt_mul_of_pos_right h2 hp
  generalize m * 2 ^ k = M at *
  have h5 := (Nat.le_log2 hne).2 h3
  have h6 := (Nat.log2_lt hne).2 h4
  omega
theorem cut_exact (neg : Bool) (m k : Nat) : Toward.even.cut neg (m * 2 ^ k) k = m := by
  unfold Toward.cut
  dsimp only
  have hk : min k ((m * 2 ^ k).log2 + 2) = k ∨ m = 0 := by
    rcases Nat.eq_zero_or_pos m with h | h
    · exact .inr h
    · left
      have h1 : 2 ^ k ≤ m * 2 ^ k := Nat.le_mul_of_pos_left _ h
      have hp := Nat.two_pow_pos k
      generalize m * 2 ^ k = M at *
      have h2 : k ≤ M.log2 := (Nat.le_log2 (by omega)).2 h1
      omega
  rcases hk with hk | rfl
  · rw [hk]
    have e : 1 <<< k = 2 ^ k := by rw [Nat.shiftLeft_eq, Nat.one_mul]
    rw [e, Nat.mul_div_cancel _ (Nat.two_pow_pos k), Nat.mul_mod_left]
    have h3 := Nat.two_pow_pos k
    generalize 2 ^ k = P at *
    have h4 : (decide (P < 2 * 0) || P == 2 * 0 && m % 2 == 1) = false := by
      rw [Bool.or_eq_false_iff]
      refine ⟨by simp, ?_⟩
      have : (P == 2 * 0) = false := by simp; omega
      rw [this]; rfl
    rw [h4]
    rfl
  · simp
theorem near_at (f : Format) (hL : f.leastPlace = -1074) (hB : f.fractionBits = 52) (hbin : f.binade = 4503599627370496) (hinf : f.infRung = 9218868437227405312) (neg : Bool) (m k : Nat) (h1 : 4503599627370496 ≤ m) (h2 : m < 9007199254740992) (hk : k < 2046) : f.nearest neg (m * 2 ^ k) f.leastPlace = f.word neg (k * 4503599627370496 + m) := by
  have hlog := log2_at m k h1 h2
  have hc := cut_exact neg m k
  have hne : m * 2 ^ k ≠ 0 := Nat.mul_ne_zero (by omega) (by have := Nat.two_pow_pos k; omega)
  generalize m * 2 ^ k = M at *
  unfold Format.nearest
  rw [if_neg hne, hlog, hL, hB, hbin, hinf]
  have hl : max ((-1074 : Int) + ((52 + k : Nat) : Int) - ((52 : Nat) : Int)) (-1074) = -1074 + (k : Int) := by omega
  dsimp only
  rw [hl, show ((-1074 : Int) - (-1074 + (k : Int))).toNat = 0 by omega, show ((-1074 + (k : Int)) - (-1074)).toNat = k by omega, Nat.shiftLeft_zero, hc]
  rw [Nat.min_eq_left (by omega)]
theorem near_sub (f : Format) (hL : f.leastPlace = -1074) (hB : f.fractionBits = 52) (hbin : f.binade = 4503599627370496) (hinf : f.infRung = 9218868437227405312) (neg : Bool) (m : Nat) (h0 : m ≠ 0) (h2 : m < 4503599627370496) : f.nearest neg m f.leastPlace = f.word neg m := by
  have hlog : m.log2 ≤ 51 := by
    have e1 : (2 : Nat) ^ 52 = 4503599627370496 := by decide
    have := (Nat.log2_lt h0).2 (show m < 2 ^ 52 by omega)
    omega
  have hc := cut_exact neg m 0
  rw [Nat.pow_zero, Nat.mul_one] at hc
  generalize hlg : m.log2 = g at *
  unfold Format.nearest
  rw [if_neg h0, hL, hB, hbin, hinf, hlg]
  have hl : max ((-1074 : Int) + (g : Int) - ((52 : Nat) : Int)) (-1074) = -1074 := by omega
  dsimp only
  rw [hl]
  rw [show ((-1074 : Int) - (-1074)).toNat = 0 from rfl, Nat.shiftLeft_zero, hc]
  rw [Nat.zero_mul, Nat.zero_add, Nat.min_eq_left (by omega)]
theorem sgn_neg (neg : Bool) (M : Nat) (h : M ≠ 0) : signed true 0 0 + signed neg M 0 ≠ 0 ∧ (decide (signed true 0 0 + signed neg M 0 < 0)) = neg ∧ (signed true 0 0 + signed neg M 0).natAbs = M := by
  unfold signed
  cases neg <;> simp <;> omega
theorem sgn_up (neg : Bool) (m k : Nat) : signed neg m k = signed neg (m * 2 ^ k) 0 := by
  unfold signed
  rw [Nat.shiftLeft_eq, Nat.shiftLeft_zero]
theorem add_nz (f : Format) (hL : f.leastPlace = -1074) (hB : f.fractionBits = 52) (hbin : f.binade = 4503599627370496) (hinf : f.infRung = 9218868437227405312) (hsw : f.signWeight = 9223372036854775808) (x : Nat) (hx : x < 18446744073709551616) :
    (f.add 9223372036854775808 x = none ∧ (f.read x).isNaN = true) ∨ (f.add 9223372036854775808 x = some x ∧ (f.read x).isNaN = false) := by
  have h0 : f.read 9223372036854775808 = .number true 0 (-1074) := by
    unfold Format.read
    dsimp only
    rw [hsw, hbin, hL]
    rfl
  have hw : f.word (x / 9223372036854775808 % 2 == 1) (x % 9223372036854775808) = x := by
    unfold Format.word
    rw [hsw]
    rcases Nat.lt_or_ge x 9223372036854775808 with h | h
    · have : (x / 9223372036854775808 % 2 == 1) = false := by simp; omega
      rw [this]; simp; omega
    · have : (x / 9223372036854775808 % 2 == 1) = true := by simp; omega
      rw [this]; simp; omega
  have hr : f.read x = if x % 9223372036854775808 < 4503599627370496 then .number (x / 9223372036854775808 % 2 == 1) (x % 9223372036854775808) (-1074)
      else if x % 9223372036854775808 < 9218868437227405312 then .number (x / 9223372036854775808 % 2 == 1) (4503599627370496 + x % 9223372036854775808 % 4503599627370496) (-1074 + ((x % 9223372036854775808 / 4503599627370496 - 1 : Nat) : Int))
      else if x % 9223372036854775808 = 9218868437227405312 then .infinity (x / 9223372036854775808 % 2 == 1) else .nan (x / 9223372036854775808 % 2 == 1) (x % 9223372036854775808 - 9218868437227405312) := by
    unfold Format.read
    dsimp only
    rw [hsw, hbin, hL, hinf]
  unfold Format.add
  rw [h0]
  generalize hneg : (x / 9223372036854775808 % 2 == 1) = neg at *
  generalize hrung : x % 9223372036854775808 = rung at *
  have hrl : rung < 9223372036854775808 := by omega
  rw [hr]
  split
  · rename_i h1
    right
    refine ⟨?_, rfl⟩
    by_cases hz : rung = 0
    · subst hz
      have e : Datum.sum (.number true 0 (-1074)) (.number neg 0 (-1074)) = some (.number neg 0 (-1074)) := by
        cases neg <;> rfl
      rw [e]
      show some (f.nearest neg 0 (-1074)) = some x
      unfold Format.nearest
      rw [if_pos rfl, hw]
    · obtain ⟨s1, s2, s3⟩ := sgn_neg neg rung hz
      have e : Datum.sum (.number true 0 (-1074)) (.number neg rung (-1074)) = some (.number neg rung (-1074)) := by
        show some (Datum.number (if signed true 0 0 + signed neg rung 0 = 0 then true && neg else decide (signed true 0 0 + signed neg rung 0 < 0)) (signed true 0 0 + signed neg rung 0).natAbs (min (-1074) (-1074))) = _
        rw [if_neg s1, s2, s3]
        rfl
      rw [e]
      show some (f.nearest neg rung (-1074)) = some x
      have := near_sub f hL hB hbin hinf neg rung hz h1
      rw [hL] at this
      rw [this, hw]
  · split
    · rename_i h1 h2
      right
      refine ⟨?_, rfl⟩
      generalize hq : rung / 4503599627370496 - 1 = q
      generalize hm : 4503599627370496 + rung % 4503599627370496 = m
      have hm1 : 4503599627370496 ≤ m := by omega
      have hm2 : m < 9007199254740992 := by omega
      have hq2 : q < 2046 := by omega
      have hpos := Nat.two_pow_pos q
      have hne : m * 2 ^ q ≠ 0 := Nat.mul_ne_zero (by omega) (by omega)
      obtain ⟨s1, s2, s3⟩ := sgn_neg neg (m * 2 ^ q) hne
      have e : Datum.sum (.number true 0 (-1074)) (.number neg m (-1074 + (q : Int))) = some (.number neg (m * 2 ^ q) (-1074)) := by
        have hmin : min (-1074 : Int) (-1074 + (q : Int)) = -1074 := by omega
        show some (Datum.number (if signed true 0 (-1074 - min (-1074 : Int) (-1074 + (q : Int))).toNat + signed neg m (-1074 + (q : Int) - min (-1074 : Int) (-1074 + (q : Int))).toNat = 0 then true && neg else decide (signed true 0 (-1074 - min (-1074 : Int) (-1074 + (q : Int))).toNat + signed neg m (-1074 + (q : Int) - min (-1074 : Int) (-1074 + (q : Int))).toNat < 0)) (signed true 0 (-1074 - min (-1074 : Int) (-1074 + (q : Int))).toNat + signed neg m (-1074 + (q : Int) - min (-1074 : Int) (-1074 + (q : Int))).toNat).natAbs (min (-1074 : Int) (-1074 + (q : Int)))) = _
        rw [hmin, show ((-1074 : Int) - (-1074)).toNat = 0 from rfl, show (-1074 + (q : Int) - (-1074)).toNat = q by omega, sgn_up neg m q, if_neg s1, s2, s3]
      rw [e]
      show some (f.nearest neg (m * 2 ^ q) (-1074)) = some x
      have h9 := near_at f hL hB hbin hinf neg m q hm1 hm2 hq2
      rw [hL] at h9
      rw [h9, show q * 4503599627370496 + m = rung by omega, hw]
    · split
      · rename_i h1 h2 h3
        right
        refine ⟨?_, rfl⟩
        show some (f.word neg f.infRung) = some x
        rw [hinf, ← h3, hw]
      · left
        exact ⟨rfl, rfl⟩
theorem ord_nan (f : Format) (x : Nat) : (f.order x x != some .eq) = (f.read x).isNaN := by
  unfold Format.order
  cases f.read x with
  | nan n t => rfl
  | infinity s => cases s <;> rfl
  | number s m e =>
    show (some (compare (signed s m (e - min e e).toNat) (signed s m (e - min e e).toNat)) != some .eq) = false
    have e : ∀ z : Int, compare z z = .eq := fun z => by simp [compare, compareOfLessAndEq]
    rw [e]
    rfl
theorem sum_nz (x : Nat) (hx : x < 18446744073709551616) : sumC 9223372036854775808 x = canonB x := by
  have h := add_nz double (by decide) rfl (by decide) (by decide) (by decide) x hx
  have hn : nanB x = (double.read x).isNaN := ord_nan double x
  unfold sumC canonB
  rw [show FloatKind.f64.format = double from rfl, hn]
  rcases h with ⟨h1, h2⟩ | ⟨h1, h2⟩
  · rw [h1, h2]; rfl
  · rw [h1, h2]
    show canonB x = _
    unfold canonB
    rw [hn, h2]
end Go.Proofs.Ytncffhgoopdfgaa
namespace Go.Proofs.Ytncffhgoopdfgaa
open Go.Am
set_option linter.unusedSimpArgs false
set_option linter.unusedVariables false
set_option maxRecDepth 100000
abbrev nmS : ByteArray := bsS [115, 117, 109]
theorem num5_d (n : Nat) : ACalls Try.prog 23 0 0 [.v (.float .f64 n)] [] (fun out H' => out = .ret (vav ⟨2, [], n⟩) ∧ H' = []) :=
  ACalls.ren (num5_c n) (by decide) fun out H' hh => by
    obtain ⟨rfl, rfl⟩ := hh
    exact ⟨[], .ret (vav ⟨2, [], n⟩), [], List.nodup_nil, (fun q h => by cases h), (fun q h => by omega), Nat.le_refl _, rfl, rfl, rfl, rfl⟩
theorem canon_sum (a b : Nat) : canonB (sumC a b) = sumC a b := by
  unfold sumC
  split
  · exact canon2 _
  · decide +kernel
theorem rightC_add {s : ByteArray} {t : Int} {n : Nat} (h1 : nmB s = true) (h2 : tmOk t = true) : rightC ⟨5, s, t, ⟨2, [], n⟩⟩ = 0 := by
  unfold rightC
  dsimp only
  rw [if_neg (by decide), if_neg (by decide), h1, if_neg (by decide), if_neg (by decide), h2, if_neg (by decide), if_neg (by decide), show vRt ⟨2, [], n⟩ = true from rfl, if_neg (by decide), if_neg (fun h => h.2 rfl)]
theorem sum_one {fb : Nat} (hfb : fb < 18446744073709551616) : applyR [] [⟨5, nmS, 0, ⟨2, [], fb⟩⟩] = (0, [⟨nmS, [⟨0, ⟨2, [], canonB fb⟩⟩]⟩]) := by
  rw [applyR_1 fine_nil (rightC_add (by decide) (by decide))]
  have hs : stepC [] ⟨5, nmS, 0, ⟨2, [], fb⟩⟩ = (0, [⟨nmS, [⟨0, ⟨2, [], canonB fb⟩⟩]⟩]) := by
    rw [add_neg5 (w := ⟨2, [], canonB fb⟩) rfl (by show ((⟨2, [], sumC 9223372036854775808 fb⟩ : Va), (0 : Int)) = _; rw [sum_nz fb hfb])]
    show putR [] nmS 0 ⟨2, [], canonB fb⟩ = _
    rw [put_new (by decide) (by decide) rfl]
    show (0, [(⟨nmS, [⟨0, ⟨2, [], canonB (canonB fb)⟩⟩]⟩ : Co)]) = _
    rw [canon2]
  rw [hs]
  rfl
theorem sum_next {n fb : Nat} {i : Nat} {l' : List Ve} (hF : Fine [⟨nmS, ⟨(i : Int) - 1, ⟨2, [], n⟩⟩ :: l'⟩]) (hi : 1 ≤ i ∧ i ≤ 100) : ∃ l'', applyR [⟨nmS, ⟨(i : Int) - 1, ⟨2, [], n⟩⟩ :: l'⟩] [⟨5, nmS, i, ⟨2, [], fb⟩⟩] = (0, [⟨nmS, ⟨(i : Int), ⟨2, [], sumC n fb⟩⟩ :: l''⟩]) := by
  have htm : tmOk (i : Int) = true := decide_eq_true (by omega)
  have ho : oldV [⟨nmS, ⟨(i : Int) - 1, ⟨2, [], n⟩⟩ :: l'⟩] nmS = ⟨2, [], n⟩ := by
    unfold oldV
    rw [atR_one hF, atL_hd (by show (i : Int) - 1 ≤ 1099511627776; omega)]
    rfl
  obtain ⟨_, hso, _⟩ := fine_tm hF
  obtain ⟨l'', e⟩ := putV_ge (y := ⟨(i : Int), ⟨2, [], sumC n fb⟩⟩) hso (by show (i : Int) - 1 ≤ (i : Int); omega)
  refine ⟨l'', ?_⟩
  rw [applyR_1 hF (rightC_add (by decide) htm)]
  have hs : stepC [⟨nmS, ⟨(i : Int) - 1, ⟨2, [], n⟩⟩ :: l'⟩] ⟨5, nmS, i, ⟨2, [], fb⟩⟩ = (0, [⟨nmS, ⟨(i : Int), ⟨2, [], sumC n fb⟩⟩ :: l''⟩]) := by
    rw [add_neg5 (w := ⟨2, [], sumC n fb⟩) rfl (by show plusV (oldV _ nmS) _ = _; rw [ho]; rfl)]
    show putR _ nmS (i : Int) ⟨2, [], sumC n fb⟩ = _
    rw [put_one hF (by decide) htm rfl]
    show (0, [(⟨nmS, putV _ ⟨(i : Int), ⟨2, [], canonB (sumC n fb)⟩⟩⟩ : Co)]) = _
    rw [canon_sum, e]
  rw [hs]
  rfl
def endL : List Ch := [⟨1, nmS, 99, ⟨1, [], 0⟩⟩, ⟨5, nmS, 100, ⟨2, [], 4607182418800017408⟩⟩]
theorem sum_end {R : List Co} (hF : Fine R) (h : R = [] ∨ ∃ y l', R = [⟨nmS, y :: l'⟩] ∧ y.t ≤ 99) : applyR R endL = (24, []) := by
  have h0 : firstE endL = 0 := firstE_zero fun x hx => by
    unfold endL at hx
    simp only [List.mem_cons, List.not_mem_nil, or_false] at hx
    rcases hx with rfl | rfl
    · exact rightC_put (by decide) (by decide) rfl
    · exact rightC_add (by decide) (by decide)
  have h1 : ∃ l'', putR R nmS 99 ⟨1, [], 0⟩ = (0, [⟨nmS, ⟨99, ⟨1, [], 0⟩⟩ :: l''⟩]) := by
    rcases h with rfl | ⟨y, l', rfl, hy⟩
    · exact ⟨[], by rw [put_new (by decide) (by decide) rfl]; rfl⟩
    · obtain ⟨_, hso, _⟩ := fine_tm hF
      obtain ⟨l'', e⟩ := putV_ge (y := ⟨99, ⟨1, [], 0⟩⟩) hso hy
      refine ⟨l'', ?_⟩
      rw [put_one hF (by decide) (by decide) rfl]
      show (0, [(⟨nmS, putV _ ⟨99, ⟨1, [], 0⟩⟩⟩ : Co)]) = _
      rw [e]
  obtain ⟨l'', h1⟩ := h1
  have hF2 := putR_fine R nmS 99 ⟨1, [], 0⟩
  rw [h1] at hF2
  have ho : oldV [⟨nmS, ⟨99, ⟨1, [], 0⟩⟩ :: l''⟩] nmS = ⟨1, [], 0⟩ := by
    unfold oldV
    rw [atR_one hF2, atL_hd (by show (99 : Int) ≤ 1099511627776; decide)]
    rfl
  unfold applyR
  rw [if_neg (by decide), if_neg (by rw [h0]; simp), hF.copy]
  unfold endL foldC
  rw [show stepC R ⟨1, nmS, 99, ⟨1, [], 0⟩⟩ = putR R nmS 99 ⟨1, [], 0⟩ from rfl, h1]
  dsimp only
  rw [if_neg (by simp)]
  unfold foldC
  have h2 : stepC [⟨nmS, ⟨99, ⟨1, [], 0⟩⟩ :: l''⟩] ⟨5, nmS, 100, ⟨2, [], 4607182418800017408⟩⟩ = (24, []) := by
    unfold stepC
    rw [if_neg (by decide), if_neg (by decide), if_neg (by decide), if_neg (by decide), show oldV [⟨nmS, ⟨99, ⟨1, [], 0⟩⟩ :: l''⟩] (⟨5, nmS, 100, ⟨2, [], 4607182418800017408⟩⟩ : Ch).c = ⟨1, [], 0⟩ from ho]
    rfl
  rw [h2]
  rfl
end Go.Proofs.Ytncffhgoopdfgaa
namespace Go.Proofs.Ytncffhgoopdfgaa
open Go.Am
set_option linter.unusedSimpArgs false
set_option linter.unusedVariables false
set_option maxRecDepth 100000
def smSt (vs : List Dv) (R : List Co) (W : Va) (i : Nat) : ASt := ⟨([.list (vs.map dvr) .free, .dead, .dead, .dead, .dead, .ptr 0 0, .ptr 1 0, .v (.int .i64 i)] ++ List.replicate 85 .dead), [(0, .box [.list (R.map corow) .free]), (1, .box (vrowV W))], 2⟩
def SmI (R : List Co) (W : Va) (i : Nat) : Prop := (i = 0 ∧ R = [] ∧ W = ⟨0, [], 0⟩) ∨ (1 ≤ i ∧ ∃ n l', R = [⟨nmS, ⟨(i : Int) - 1, ⟨2, [], n⟩⟩ :: l'⟩] ∧ W = ⟨2, [], n⟩ ∧ n < 18446744073709551616)
set_option maxHeartbeats 6400000 in
theorem sums5_rc (vs : List Dv) (hvs : ∀ a ∈ vs, DvOk a) (hl1 : vs.length ≤ 9223372036854775807) (t : Int) : ACalls Try.prog 5 0 90000000 [.list (vs.map dvr) .free, .v (.int .i64 t)] [] (fun out H' => out = .ret (.v (.bool true)) ∧ H' = []) := by
  have hk := known5_c.top0
  have n1 := num5_d 4607182418800017408
  refine no_implicit_lambda% (acalls_of tok dok (f := 5) ⟨Try.func5, rfl, by kernel_rfl⟩ ?_); refine no_implicit_lambda% (c_start (fun _ h => h) ?_)
  repeat' (first | (refine no_implicit_lambda% (awd1 ?_)) | (((with_reducible refine no_implicit_lambda% (is_aops ?_)); refine no_implicit_lambda% (o_split rfl rfl rfl (fun hc => ?_) (fun hc => ?_)) <;> first | exact decx hc | rw [hc])) | (((with_reducible refine no_implicit_lambda% (is_cond ?_)); refine no_implicit_lambda% (c_cond rfl (fun hc => ?_) (fun hc => ?_)) <;> first | exact decx hc | skip)) | (((with_reducible refine no_implicit_lambda% (is_aop ?_)); refine no_implicit_lambda% (a_pick rfl rfl (fun hc => ?_) (fun hc => ?_)) <;> first | exact decx hc | rw [hc])) | (((with_reducible refine no_implicit_lambda% (is_ev ?_)); refine no_implicit_lambda% (v_split rfl rfl rfl rfl (fun hc => ?_) (fun hc => ?_)) <;> first | exact decx hc | rw [hc])) | (refine no_implicit_lambda% (ans ?_)) | (with_reducible exact retN) | (with_reducible exact retP) | ((with_reducible refine no_implicit_lambda% (ret1 ?_)); first | (refine no_implicit_lambda% (akcs ?_)) | (refine no_implicit_lambda% (aecs ?_))) | fail | (((with_reducible refine no_implicit_lambda% (is_effK ?_)); refine no_implicit_lambda% (aecs ?_))) | (((with_reducible refine no_implicit_lambda% (is_drB ?_)); refine no_implicit_lambda% (b_ends ?_))) | (((with_reducible refine no_implicit_lambda% (is_aop ?_)); refine no_implicit_lambda% (a_stores ?_))) | ((with_reducible refine no_implicit_lambda% (is_aop ?_)); first | (refine no_implicit_lambda% (a_append_tok rfl rfl rfl rfl rfl rfl rfl rfl rfl rfl rfl rfl rfl rfl (by first | rfl | (simp; done)) (fun q hq => by rw [forceH_eq]; exact hq) (by (first | assumption | (intro row hr; simp only [List.mem_cons, List.not_mem_nil, or_false] at hr; rcases hr with rfl | rfl | rfl | rfl <;> rfl) | (intro row hr; simp at hr; done) | (intro row hr; simp only [List.mem_singleton] at hr; subst hr; rfl) | (intro row hr; obtain ⟨_, _, rfl⟩ := List.mem_map.1 hr; rfl))) (by (refine ⟨?_, ?_⟩ <;> (simp only [List.length_map, List.length_append, List.length_cons, List.length_nil]; omega))) ?_))) | fail)
  refine c_l3 (smSt vs) (fun R W i => i ≤ vs.length ∧ i ≤ 15 ∧ Fine R ∧ RowSz R ∧ SmI R W i) (fun _ _ i => vs.length - i) [] ⟨0, [], 0⟩ 0 ⟨Nat.zero_le _, Nat.zero_le _, fine_nil, sz_nil, .inl ⟨rfl, rfl, rfl⟩⟩ ?_ ?_
  · (refine no_implicit_lambda% (Conv.toT ?_ ?_ (Nat.le_of_ble_eq_true rfl))); (focus ((unfold smSt); (try dsimp only); exact wkl)); (focus ((unfold smSt); (try dsimp only); exact wkh))
  · rintro R W i ⟨i1, i2, hF, hz, hI⟩
    have hr4 := hF.len
    refine c_turn (n' := 2) (fun _ h => h) (fun _ h => h) rfl ?_
    have hend : R = [] ∨ ∃ y l', R = [⟨nmS, y :: l'⟩] ∧ y.t ≤ 99 := by
      rcases hI with ⟨_, h, _⟩ | ⟨_, n, l', h, _⟩
      · exact .inl h
      · exact .inr ⟨_, l', h, by show (i : Int) - 1 ≤ 99; omega⟩
    have ae := apply_d R endL (by omega) hz (fun x hx => by
      unfold endL at hx
      simp only [List.mem_cons, List.not_mem_nil, or_false] at hx
      rcases hx with rfl | rfl <;> exact ⟨by decide, by decide⟩) (by decide)
    rw [sum_end hF hend] at ae
    unfold PutRR at ae
    dsimp only at ae
    rcases hx : vs[i]? with _ | a
    · have hi : i = vs.length := by have := List.getElem?_eq_none_iff.1 hx; omega
      repeat' (first | (refine no_implicit_lambda% (awd1 ?_)) | (((with_reducible refine no_implicit_lambda% (is_aops ?_)); refine no_implicit_lambda% (o_split rfl rfl rfl (fun hc => ?_) (fun hc => ?_)) <;> first | exact decx hc | rw [hc])) | (((with_reducible refine no_implicit_lambda% (is_cond ?_)); refine no_implicit_lambda% (c_cond rfl (fun hc => ?_) (fun hc => ?_)) <;> first | exact decx hc | skip)) | (((with_reducible refine no_implicit_lambda% (is_aop ?_)); refine no_implicit_lambda% (a_pick rfl rfl (fun hc => ?_) (fun hc => ?_)) <;> first | exact decx hc | rw [hc])) | (((with_reducible refine no_implicit_lambda% (is_ev ?_)); refine no_implicit_lambda% (v_split rfl rfl rfl rfl (fun hc => ?_) (fun hc => ?_)) <;> first | exact decx hc | rw [hc])) | (refine no_implicit_lambda% (ans ?_)) | (with_reducible exact retN) | (with_reducible exact retP) | ((with_reducible refine no_implicit_lambda% (ret1 ?_)); first | (refine no_implicit_lambda% (akcs ?_)) | (refine no_implicit_lambda% (aecs ?_))) | (refine no_implicit_lambda% (cal [] (n1) ?_ ?_)) | (((with_reducible refine no_implicit_lambda% (is_effK ?_)); refine no_implicit_lambda% (aecs ?_))) | (((with_reducible refine no_implicit_lambda% (is_drB ?_)); refine no_implicit_lambda% (b_ends ?_))) | (((with_reducible refine no_implicit_lambda% (is_aop ?_)); refine no_implicit_lambda% (a_stores ?_))) | ((with_reducible refine no_implicit_lambda% (is_aop ?_)); first | (refine no_implicit_lambda% (a_append_tok rfl rfl rfl rfl rfl rfl rfl rfl rfl rfl rfl rfl rfl rfl (by first | rfl | (simp; done)) (fun q hq => by rw [forceH_eq]; exact hq) (by (first | assumption | (intro row hr; simp only [List.mem_cons, List.not_mem_nil, or_false] at hr; rcases hr with rfl | rfl | rfl | rfl <;> rfl) | (intro row hr; simp at hr; done) | (intro row hr; simp only [List.mem_singleton] at hr; subst hr; rfl) | (intro row hr; obtain ⟨_, _, rfl⟩ := List.mem_map.1 hr; rfl))) (by (refine ⟨?_, ?_⟩ <;> (simp only [List.length_map, List.length_append, List.length_cons, List.length_nil]; omega))) ?_))) | fail)
      (refine no_implicit_lambda% (calw [] (ae) ?_ ?_ (hargs := .cons (LeA.refl _) (.cons (LeA.rows (by (repeat' (first | (with_reducible exact LDR.nil) | (with_reducible exact LDL.nil) | (refine no_implicit_lambda% (LDR.cons ?_ ?_)) | (refine no_implicit_lambda% (LDL.cons ?_ ?_)) | (exact LeD.refl _) | (exact LeD.free _ _) | (exact LDR.nil) | (exact LDL.nil)))) _) .nil))))
      · refine no_implicit_lambda% (ret1 ?_); first | (refine no_implicit_lambda% (akc ?_)) | (refine no_implicit_lambda% (aec ?_))
        repeat' (first | (refine no_implicit_lambda% (awd1 ?_)) | (((with_reducible refine no_implicit_lambda% (is_aops ?_)); refine no_implicit_lambda% (o_split rfl rfl rfl (fun hc => ?_) (fun hc => ?_)) <;> first | exact decx hc | rw [hc])) | (((with_reducible refine no_implicit_lambda% (is_cond ?_)); refine no_implicit_lambda% (c_cond rfl (fun hc => ?_) (fun hc => ?_)) <;> first | exact decx hc | skip)) | (((with_reducible refine no_implicit_lambda% (is_aop ?_)); refine no_implicit_lambda% (a_pick rfl rfl (fun hc => ?_) (fun hc => ?_)) <;> first | exact decx hc | rw [hc])) | (((with_reducible refine no_implicit_lambda% (is_ev ?_)); refine no_implicit_lambda% (v_split rfl rfl rfl rfl (fun hc => ?_) (fun hc => ?_)) <;> first | exact decx hc | rw [hc])) | (refine no_implicit_lambda% (ans ?_)) | (with_reducible exact retN) | (with_reducible exact retP) | ((with_reducible refine no_implicit_lambda% (ret1 ?_)); first | (refine no_implicit_lambda% (akcs ?_)) | (refine no_implicit_lambda% (aecs ?_))) | (refine no_implicit_lambda% (cal [] (hk) ?_ ?_)) | (((with_reducible refine no_implicit_lambda% (is_effK ?_)); refine no_implicit_lambda% (aecs ?_))) | (((with_reducible refine no_implicit_lambda% (is_drB ?_)); refine no_implicit_lambda% (b_ends ?_))) | (((with_reducible refine no_implicit_lambda% (is_aop ?_)); refine no_implicit_lambda% (a_stores ?_))) | ((with_reducible refine no_implicit_lambda% (is_aop ?_)); first | (refine no_implicit_lambda% (a_append_tok rfl rfl rfl rfl rfl rfl rfl rfl rfl rfl rfl rfl rfl rfl (by first | rfl | (simp; done)) (fun q hq => by rw [forceH_eq]; exact hq) (by (first | assumption | (intro row hr; simp only [List.mem_cons, List.not_mem_nil, or_false] at hr; rcases hr with rfl | rfl | rfl | rfl <;> rfl) | (intro row hr; simp at hr; done) | (intro row hr; simp only [List.mem_singleton] at hr; subst hr; rfl) | (intro row hr; obtain ⟨_, _, rfl⟩ := List.mem_map.1 hr; rfl))) (by (refine ⟨?_, ?_⟩ <;> (simp only [List.length_map, List.length_append, List.length_cons, List.length_nil]; omega))) ?_))) | fail)
        exact e_ret (H' := []) (rest := _) rfl ⟨rfl, rfl⟩ permT (Nat.le_of_ble_eq_true rfl)
      · first | (exact retN) | (exact retP)
    · have hi : i < vs.length := (List.getElem?_eq_some_iff.1 hx).1
      have ha := hvs a (List.mem_of_getElem? hx)
      have hix := dvex hx
      repeat' (first | (refine no_implicit_lambda% (awd1 ?_)) | (((with_reducible refine no_implicit_lambda% (is_aops ?_)); refine no_implicit_lambda% (o_split rfl rfl rfl (fun hc => ?_) (fun hc => ?_)) <;> first | exact decx hc | rw [hc])) | (((with_reducible refine no_implicit_lambda% (is_cond ?_)); refine no_implicit_lambda% (c_cond rfl (fun hc => ?_) (fun hc => ?_)) <;> first | exact decx hc | skip)) | (((with_reducible refine no_implicit_lambda% (is_aop ?_)); refine no_implicit_lambda% (a_pick rfl rfl (fun hc => ?_) (fun hc => ?_)) <;> first | exact decx hc | rw [hc])) | (((with_reducible refine no_implicit_lambda% (is_ev ?_)); refine no_implicit_lambda% (v_split rfl rfl rfl rfl (fun hc => ?_) (fun hc => ?_)) <;> first | exact decx hc | rw [hc])) | (refine no_implicit_lambda% (ans ?_)) | (with_reducible exact retN) | (with_reducible exact retP) | ((with_reducible refine no_implicit_lambda% (ret1 ?_)); first | (refine no_implicit_lambda% (akcs ?_)) | (refine no_implicit_lambda% (aecs ?_))) | fail | (((with_reducible refine no_implicit_lambda% (is_effK ?_)); refine no_implicit_lambda% (aecs ?_))) | (((with_reducible refine no_implicit_lambda% (is_drB ?_)); refine no_implicit_lambda% (b_ends ?_))) | (((with_reducible refine no_implicit_lambda% (is_aop ?_)); refine no_implicit_lambda% (a_stores ?_))) | ((with_reducible refine no_implicit_lambda% (is_aop ?_)); first | (refine no_implicit_lambda% (a_append_tok rfl rfl rfl rfl rfl rfl rfl rfl rfl rfl rfl rfl rfl rfl (by first | rfl | (simp; done)) (fun q hq => by rw [forceH_eq]; exact hq) (by (first | assumption | (intro row hr; simp only [List.mem_cons, List.not_mem_nil, or_false] at hr; rcases hr with rfl | rfl | rfl | rfl <;> rfl) | (intro row hr; simp at hr; done) | (intro row hr; simp only [List.mem_singleton] at hr; subst hr; rfl) | (intro row hr; obtain ⟨_, _, rfl⟩ := List.mem_map.1 hr; rfl))) (by (refine ⟨?_, ?_⟩ <;> (simp only [List.length_map, List.length_append, List.length_cons, List.length_nil]; omega))) ?_))) | fail)
      · have hi15 : i + 1 ≤ 15 := by
          have h9 := of_decide_eq_true (show decide ((i : Int) < 15) = true by assumption)
          omega
        (refine no_implicit_lambda% (cal [] (flt_c a.n a.x ha.1.1 ha.1.2 ha.2) ?_ ?_))
        rotate_left
        · intro xx H' hh
          obtain ⟨_, _, h', _⟩ := hh
          cases h'
        intro xx H' hh
        obtain ⟨fb, hfb, h', rfl⟩ := hh
        cases h'
        first | (refine no_implicit_lambda% (akc ?_)) | (refine no_implicit_lambda% (aec ?_))
        repeat' (first | (refine no_implicit_lambda% (awd1 ?_)) | (((with_reducible refine no_implicit_lambda% (is_aops ?_)); refine no_implicit_lambda% (o_split rfl rfl rfl (fun hc => ?_) (fun hc => ?_)) <;> first | exact decx hc | rw [hc])) | (((with_reducible refine no_implicit_lambda% (is_cond ?_)); refine no_implicit_lambda% (c_cond rfl (fun hc => ?_) (fun hc => ?_)) <;> first | exact decx hc | skip)) | (((with_reducible refine no_implicit_lambda% (is_aop ?_)); refine no_implicit_lambda% (a_pick rfl rfl (fun hc => ?_) (fun hc => ?_)) <;> first | exact decx hc | rw [hc])) | (((with_reducible refine no_implicit_lambda% (is_ev ?_)); refine no_implicit_lambda% (v_split rfl rfl rfl rfl (fun hc => ?_) (fun hc => ?_)) <;> first | exact decx hc | rw [hc])) | (refine no_implicit_lambda% (ans ?_)) | (with_reducible exact retN) | (with_reducible exact retP) | ((with_reducible refine no_implicit_lambda% (ret1 ?_)); first | (refine no_implicit_lambda% (akcs ?_)) | (refine no_implicit_lambda% (aecs ?_))) | (refine no_implicit_lambda% (cal [] (num5_d fb) ?_ ?_)) | (((with_reducible refine no_implicit_lambda% (is_effK ?_)); refine no_implicit_lambda% (aecs ?_))) | (((with_reducible refine no_implicit_lambda% (is_drB ?_)); refine no_implicit_lambda% (b_ends ?_))) | (((with_reducible refine no_implicit_lambda% (is_aop ?_)); refine no_implicit_lambda% (a_stores ?_))) | ((with_reducible refine no_implicit_lambda% (is_aop ?_)); first | (refine no_implicit_lambda% (a_append_tok rfl rfl rfl rfl rfl rfl rfl rfl rfl rfl rfl rfl rfl rfl (by first | rfl | (simp; done)) (fun q hq => by rw [forceH_eq]; exact hq) (by (first | assumption | (intro row hr; simp only [List.mem_cons, List.not_mem_nil, or_false] at hr; rcases hr with rfl | rfl | rfl | rfl <;> rfl) | (intro row hr; simp at hr; done) | (intro row hr; simp only [List.mem_singleton] at hr; subst hr; rfl) | (intro row hr; obtain ⟨_, _, rfl⟩ := List.mem_map.1 hr; rfl))) (by (refine ⟨?_, ?_⟩ <;> (simp only [List.length_map, List.length_append, List.length_cons, List.length_nil]; omega))) ?_))) | fail)
        have htm : tmOk (i : Int) = true := decide_eq_true (by omega)
        have hxs : ∀ x ∈ [(⟨5, nmS, (i : Int), ⟨2, [], fb⟩⟩ : Ch)], ChSz x := fun x hx => by rw [List.mem_singleton.1 hx]; exact ⟨by show (0 : Nat) < _; decide, hfb⟩
        have a1 := apply_d R [⟨5, nmS, (i : Int), ⟨2, [], fb⟩⟩] (by omega) hz hxs (by simp)
        have hF2 := applyR_fin R [⟨5, nmS, (i : Int), ⟨2, [], fb⟩⟩]
        have hz2 := applyR_siz hz hxs
        obtain ⟨W2, R2, hA, hSm, hWant⟩ : ∃ W2 R2, applyR R [⟨5, nmS, (i : Int), ⟨2, [], fb⟩⟩] = (0, R2) ∧ (∃ n l', R2 = [⟨nmS, ⟨(i : Int), ⟨2, [], n⟩⟩ :: l'⟩] ∧ W2 = ⟨2, [], n⟩ ∧ n < 18446744073709551616) ∧ ((i = 0 ∧ canV ⟨2, [], fb⟩ = W2) ∨ (1 ≤ i ∧ plusV W ⟨2, [], fb⟩ = (W2, 0))) := by
          rcases hI with ⟨rfl, rfl, rfl⟩ | ⟨h1, n, l', rfl, rfl, hn⟩
          · exact ⟨⟨2, [], canonB fb⟩, _, sum_one hfb, ⟨_, _, rfl, rfl, canonB_lt hfb⟩, .inl ⟨rfl, rfl⟩⟩
          · obtain ⟨l'', e⟩ := sum_next (fb := fb) hF ⟨h1, by omega⟩
            exact ⟨⟨2, [], sumC n fb⟩, _, e, ⟨_, _, rfl, rfl, sumC_lt _ _⟩, .inr ⟨h1, rfl⟩⟩
        obtain ⟨n, l', hR2, hW2, hn⟩ := hSm
        rw [hA] at a1 hF2 hz2
        unfold PutRR at a1
        dsimp only at a1 hF2 hz2
        have w1 := qnewest_c R2 nmS (by have := hF2.len; omega) hz2
        have hat : atR R2 nmS 1099511627776 = some W2 := by
          subst hR2
          rw [atR_one hF2, atL_hd (by show (i : Int) ≤ 1099511627776; omega), hW2]
        rw [hat] at w1
        unfold optA at w1
        have sm := (refSame_c W2 W2 (by rw [hW2]; exact hn) (by rw [hW2]; exact hn)).top0
        rw [show ordV W2 W2 = 0 from ord0_refl _, show ((0 : Int) == 0) = true from rfl] at sm
        have hnew : i + 1 ≤ vs.length ∧ i + 1 ≤ 15 ∧ Fine R2 ∧ RowSz R2 ∧ SmI R2 W2 (i + 1) := ⟨hi, hi15, hF2, hz2, .inr ⟨Nat.succ_pos _, n, l', by rw [hR2, show ((i + 1 : Nat) : Int) - 1 = (i : Int) by omega], hW2, hn⟩⟩
        (refine no_implicit_lambda% (calw [] (a1) ?_ ?_))
        rotate_left
        · first | (exact retN) | (exact retP)
        refine no_implicit_lambda% (ret1 ?_); first | (refine no_implicit_lambda% (akc ?_)) | (refine no_implicit_lambda% (aec ?_))
        rcases hWant with ⟨rfl, hw⟩ | ⟨hi1, hw⟩
        · have cn := refCanon_c ⟨2, [], fb⟩ (by show (0 : Nat) < _; decide) hfb
          rw [hw] at cn
          repeat' (first | (refine no_implicit_lambda% (awd1 ?_)) | (((with_reducible refine no_implicit_lambda% (is_aops ?_)); refine no_implicit_lambda% (o_split rfl rfl rfl (fun hc => ?_) (fun hc => ?_)) <;> first | exact decx hc | rw [hc])) | (((with_reducible refine no_implicit_lambda% (is_cond ?_)); refine no_implicit_lambda% (c_cond rfl (fun hc => ?_) (fun hc => ?_)) <;> first | exact decx hc | skip)) | (((with_reducible refine no_implicit_lambda% (is_aop ?_)); refine no_implicit_lambda% (a_pick rfl rfl (fun hc => ?_) (fun hc => ?_)) <;> first | exact decx hc | rw [hc])) | (((with_reducible refine no_implicit_lambda% (is_ev ?_)); refine no_implicit_lambda% (v_split rfl rfl rfl rfl (fun hc => ?_) (fun hc => ?_)) <;> first | exact decx hc | rw [hc])) | (refine no_implicit_lambda% (ans ?_)) | (with_reducible exact retN) | (with_reducible exact retP) | ((with_reducible refine no_implicit_lambda% (ret1 ?_)); first | (refine no_implicit_lambda% (akcs ?_)) | (refine no_implicit_lambda% (aecs ?_))) | (refine no_implicit_lambda% (cal [] (cn) ?_ ?_)) | (refine no_implicit_lambda% (cal [] (w1) ?_ ?_)) | (refine no_implicit_lambda% (cal [] (sm) ?_ ?_)) | (((with_reducible refine no_implicit_lambda% (is_effK ?_)); refine no_implicit_lambda% (aecs ?_))) | (((with_reducible refine no_implicit_lambda% (is_drB ?_)); refine no_implicit_lambda% (b_ends ?_))) | (((with_reducible refine no_implicit_lambda% (is_aop ?_)); refine no_implicit_lambda% (a_stores ?_))) | ((with_reducible refine no_implicit_lambda% (is_aop ?_)); first | (refine no_implicit_lambda% (a_append_tok rfl rfl rfl rfl rfl rfl rfl rfl rfl rfl rfl rfl rfl rfl (by first | rfl | (simp; done)) (fun q hq => by rw [forceH_eq]; exact hq) (by (first | assumption | (intro row hr; simp only [List.mem_cons, List.not_mem_nil, or_false] at hr; rcases hr with rfl | rfl | rfl | rfl <;> rfl) | (intro row hr; simp at hr; done) | (intro row hr; simp only [List.mem_singleton] at hr; subst hr; rfl) | (intro row hr; obtain ⟨_, _, rfl⟩ := List.mem_map.1 hr; rfl))) (by (refine ⟨?_, ?_⟩ <;> (simp only [List.length_map, List.length_append, List.length_cons, List.length_nil]; omega))) ?_))) | fail)
          (refine no_implicit_lambda% (k_loopLT (((R2, W2, 0 + 1) : List Co × Va × Nat)) 0 [0, 1] hnew (by first | omega | (simp; done) | (simp; omega)) (Nat.le_of_ble_eq_true rfl) (fun _ h => h) (fun _ h => h) ?_ ?_)); (focus ((try dsimp only); exact wkl)); (focus ((try dsimp only); exact wkh))
        · have pl := refPlus_c W ⟨2, [], fb⟩
          rw [hw] at pl
          repeat' (first | (refine no_implicit_lambda% (awd1 ?_)) | (((with_reducible refine no_implicit_lambda% (is_aops ?_)); refine no_implicit_lambda% (o_split rfl rfl rfl (fun hc => ?_) (fun hc => ?_)) <;> first | exact decx hc | rw [hc])) | (((with_reducible refine no_implicit_lambda% (is_cond ?_)); refine no_implicit_lambda% (c_cond rfl (fun hc => ?_) (fun hc => ?_)) <;> first | exact decx hc | skip)) | (((with_reducible refine no_implicit_lambda% (is_aop ?_)); refine no_implicit_lambda% (a_pick rfl rfl (fun hc => ?_) (fun hc => ?_)) <;> first | exact decx hc | rw [hc])) | (((with_reducible refine no_implicit_lambda% (is_ev ?_)); refine no_implicit_lambda% (v_split rfl rfl rfl rfl (fun hc => ?_) (fun hc => ?_)) <;> first | exact decx hc | rw [hc])) | (refine no_implicit_lambda% (ans ?_)) | (with_reducible exact retN) | (with_reducible exact retP) | ((with_reducible refine no_implicit_lambda% (ret1 ?_)); first | (refine no_implicit_lambda% (akcs ?_)) | (refine no_implicit_lambda% (aecs ?_))) | (refine no_implicit_lambda% (cal [] (pl) ?_ ?_)) | (refine no_implicit_lambda% (cal [] (w1) ?_ ?_)) | (refine no_implicit_lambda% (cal [] (sm) ?_ ?_)) | (((with_reducible refine no_implicit_lambda% (is_effK ?_)); refine no_implicit_lambda% (aecs ?_))) | (((with_reducible refine no_implicit_lambda% (is_drB ?_)); refine no_implicit_lambda% (b_ends ?_))) | (((with_reducible refine no_implicit_lambda% (is_aop ?_)); refine no_implicit_lambda% (a_stores ?_))) | ((with_reducible refine no_implicit_lambda% (is_aop ?_)); first | (refine no_implicit_lambda% (a_append_tok rfl rfl rfl rfl rfl rfl rfl rfl rfl rfl rfl rfl rfl rfl (by first | rfl | (simp; done)) (fun q hq => by rw [forceH_eq]; exact hq) (by (first | assumption | (intro row hr; simp only [List.mem_cons, List.not_mem_nil, or_false] at hr; rcases hr with rfl | rfl | rfl | rfl <;> rfl) | (intro row hr; simp at hr; done) | (intro row hr; simp only [List.mem_singleton] at hr; subst hr; rfl) | (intro row hr; obtain ⟨_, _, rfl⟩ := List.mem_map.1 hr; rfl))) (by (refine ⟨?_, ?_⟩ <;> (simp only [List.length_map, List.length_append, List.length_cons, List.length_nil]; omega))) ?_))) | fail)
          (refine no_implicit_lambda% (k_loopLT (((R2, W2, i + 1) : List Co × Va × Nat)) 0 [0, 1] hnew (by first | omega | (simp; done) | (simp; omega)) (Nat.le_of_ble_eq_true rfl) (fun _ h => h) (fun _ h => h) ?_ ?_)); (focus ((try dsimp only); exact wkl)); (focus ((try dsimp only); exact wkh))
      · repeat' (first | (refine no_implicit_lambda% (awd1 ?_)) | (((with_reducible refine no_implicit_lambda% (is_aops ?_)); refine no_implicit_lambda% (o_split rfl rfl rfl (fun hc => ?_) (fun hc => ?_)) <;> first | exact decx hc | rw [hc])) | (((with_reducible refine no_implicit_lambda% (is_cond ?_)); refine no_implicit_lambda% (c_cond rfl (fun hc => ?_) (fun hc => ?_)) <;> first | exact decx hc | skip)) | (((with_reducible refine no_implicit_lambda% (is_aop ?_)); refine no_implicit_lambda% (a_pick rfl rfl (fun hc => ?_) (fun hc => ?_)) <;> first | exact decx hc | rw [hc])) | (((with_reducible refine no_implicit_lambda% (is_ev ?_)); refine no_implicit_lambda% (v_split rfl rfl rfl rfl (fun hc => ?_) (fun hc => ?_)) <;> first | exact decx hc | rw [hc])) | (refine no_implicit_lambda% (ans ?_)) | (with_reducible exact retN) | (with_reducible exact retP) | ((with_reducible refine no_implicit_lambda% (ret1 ?_)); first | (refine no_implicit_lambda% (akcs ?_)) | (refine no_implicit_lambda% (aecs ?_))) | (refine no_implicit_lambda% (cal [] (n1) ?_ ?_)) | (((with_reducible refine no_implicit_lambda% (is_effK ?_)); refine no_implicit_lambda% (aecs ?_))) | (((with_reducible refine no_implicit_lambda% (is_drB ?_)); refine no_implicit_lambda% (b_ends ?_))) | (((with_reducible refine no_implicit_lambda% (is_aop ?_)); refine no_implicit_lambda% (a_stores ?_))) | ((with_reducible refine no_implicit_lambda% (is_aop ?_)); first | (refine no_implicit_lambda% (a_append_tok rfl rfl rfl rfl rfl rfl rfl rfl rfl rfl rfl rfl rfl rfl (by first | rfl | (simp; done)) (fun q hq => by rw [forceH_eq]; exact hq) (by (first | assumption | (intro row hr; simp only [List.mem_cons, List.not_mem_nil, or_false] at hr; rcases hr with rfl | rfl | rfl | rfl <;> rfl) | (intro row hr; simp at hr; done) | (intro row hr; simp only [List.mem_singleton] at hr; subst hr; rfl) | (intro row hr; obtain ⟨_, _, rfl⟩ := List.mem_map.1 hr; rfl))) (by (refine ⟨?_, ?_⟩ <;> (simp only [List.length_map, List.length_append, List.length_cons, List.length_nil]; omega))) ?_))) | fail)
        (refine no_implicit_lambda% (calw [] (ae) ?_ ?_ (hargs := .cons (LeA.refl _) (.cons (LeA.rows (by (repeat' (first | (with_reducible exact LDR.nil) | (with_reducible exact LDL.nil) | (refine no_implicit_lambda% (LDR.cons ?_ ?_)) | (refine no_implicit_lambda% (LDL.cons ?_ ?_)) | (exact LeD.refl _) | (exact LeD.free _ _) | (exact LDR.nil) | (exact LDL.nil)))) _) .nil))))
        · refine no_implicit_lambda% (ret1 ?_); first | (refine no_implicit_lambda% (akc ?_)) | (refine no_implicit_lambda% (aec ?_))
          repeat' (first | (refine no_implicit_lambda% (awd1 ?_)) | (((with_reducible refine no_implicit_lambda% (is_aops ?_)); refine no_implicit_lambda% (o_split rfl rfl rfl (fun hc => ?_) (fun hc => ?_)) <;> first | exact decx hc | rw [hc])) | (((with_reducible refine no_implicit_lambda% (is_cond ?_)); refine no_implicit_lambda% (c_cond rfl (fun hc => ?_) (fun hc => ?_)) <;> first | exact decx hc | skip)) | (((with_reducible refine no_implicit_lambda% (is_aop ?_)); refine no_implicit_lambda% (a_pick rfl rfl (fun hc => ?_) (fun hc => ?_)) <;> first | exact decx hc | rw [hc])) | (((with_reducible refine no_implicit_lambda% (is_ev ?_)); refine no_implicit_lambda% (v_split rfl rfl rfl rfl (fun hc => ?_) (fun hc => ?_)) <;> first | exact decx hc | rw [hc])) | (refine no_implicit_lambda% (ans ?_)) | (with_reducible exact retN) | (with_reducible exact retP) | ((with_reducible refine no_implicit_lambda% (ret1 ?_)); first | (refine no_implicit_lambda% (akcs ?_)) | (refine no_implicit_lambda% (aecs ?_))) | (refine no_implicit_lambda% (cal [] (hk) ?_ ?_)) | (((with_reducible refine no_implicit_lambda% (is_effK ?_)); refine no_implicit_lambda% (aecs ?_))) | (((with_reducible refine no_implicit_lambda% (is_drB ?_)); refine no_implicit_lambda% (b_ends ?_))) | (((with_reducible refine no_implicit_lambda% (is_aop ?_)); refine no_implicit_lambda% (a_stores ?_))) | ((with_reducible refine no_implicit_lambda% (is_aop ?_)); first | (refine no_implicit_lambda% (a_append_tok rfl rfl rfl rfl rfl rfl rfl rfl rfl rfl rfl rfl rfl rfl (by first | rfl | (simp; done)) (fun q hq => by rw [forceH_eq]; exact hq) (by (first | assumption | (intro row hr; simp only [List.mem_cons, List.not_mem_nil, or_false] at hr; rcases hr with rfl | rfl | rfl | rfl <;> rfl) | (intro row hr; simp at hr; done) | (intro row hr; simp only [List.mem_singleton] at hr; subst hr; rfl) | (intro row hr; obtain ⟨_, _, rfl⟩ := List.mem_map.1 hr; rfl))) (by (refine ⟨?_, ?_⟩ <;> (simp only [List.length_map, List.length_append, List.length_cons, List.length_nil]; omega))) ?_))) | fail)
          exact e_ret (H' := []) (rest := _) rfl ⟨rfl, rfl⟩ permT (Nat.le_of_ble_eq_true rfl)
        · first | (exact retN) | (exact retP)
end Go.Proofs.Ytncffhgoopdfgaa
