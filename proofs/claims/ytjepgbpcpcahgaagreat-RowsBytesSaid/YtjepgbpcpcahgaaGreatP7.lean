/- Part 7 of what the laws RowsBytes rest on: RtU, RtV, Vi, RyA, OcR, RyC, Vj, RyD, RyB, RyE, RyF, RzA, RzC, RzD, RzB, RzE, OcN, RzF. -/
import Derived.Test.YtjepgbpcpcahgaaGreatP6
set_option linter.unusedSimpArgs false
set_option linter.unusedVariables false
namespace Go.Proofs.YtjepgbpcpcahgaaGreat
open Go.Am
set_option maxRecDepth 100000
theorem setN_bad {Q : List Nm} {s : ByteArray} {r : List Co} (h : nmB s = false ∨ rowB r = false) : setN Q s r = (1, Q) := by unfold setN; rw [if_pos h]
theorem setN_new {Q : List Nm} {s : ByteArray} {r : List Co} (h1 : nmB s = true) (h2 : rowB r = true) (h3 : r ≠ []) (h4 : hasN (nk Q) s = false) (h5 : Q.length < 32) : setN Q s r = (0, insAt Q (npos (nk Q) s) ⟨s, copyR r⟩) := by
 unfold setN; rw [if_neg (by simp [h1, h2]), if_neg h3, h4, if_neg (by simp), if_neg (by omega)]
theorem some_row : rowB someR = true := some_fine.1.row
def nmQ (b : UInt8) : Nm := ⟨bsS [b], someR⟩
theorem kn_b : setN [] (bsS [98]) someR = (0, [nmQ 98]) := by
 rw [setN_new (by decide) some_row (by decide) rfl (by decide), some_fine.1.copy]
 rfl
theorem kn_lt : sLt (bsS [98]) (bsS [97]) = false ∧ cmpS (bsS [98]) (bsS [97]) ≠ 0 := by
 unfold sLt cmpS
 have e1 : (bsS [98]).toList = [98] := by simp [ByteArray.toList_eq, bsS]
 have e2 : (bsS [97]).toList = [97] := by simp [ByteArray.toList_eq, bsS]
 rw [e1, e2]
 decide
theorem kn_a : setN [nmQ 98] (bsS [97]) someR = (0, [nmQ 97, nmQ 98]) := by
 obtain ⟨h1, h2⟩ := kn_lt
 have hn : hasN (nk [nmQ 98]) (bsS [97]) = false := hasN_not fun c hc => by
  rw [List.mem_singleton.1 (show c ∈ [⟨bsS [98], []⟩] from hc)]
  exact h2
 rw [setN_new (by decide) some_row (by decide) hn (by decide), some_fine.1.copy]
 have hp : npos (nk [nmQ 98]) (bsS [97]) = 0 := by
  unfold npos
  rw [List.countP_eq_zero]
  intro c hc
  rw [List.mem_singleton.1 (show c ∈ [⟨bsS [98], []⟩] from hc), h1]
  decide
 rw [hp]
 rfl
set_option maxHeartbeats 6400000 in
theorem known6_c : ACalls Tryz.prog 18 0 90000 [] [] (fun out H' => out = .ret (.v (.bool true)) ∧ H' = []) := by
 have hnw := tnew_c
 unfold tnew at hnw
 have hs := some6_c
 have q1 := setN_ok (s := bsS [98]) (r := someR) nil_ok some_fine.2
 rw [kn_b] at q1
 have q2 := setN_ok (s := bsS [97]) (r := someR) q1 some_fine.2
 rw [kn_a] at q2
 have s1 := set_c [] (bsS [98]) someR 0 nil_ok (Nat.le_refl _) (Nat.zero_le _) (by decide) some_fine.2
 rw [kn_b] at s1
 dsimp only at q1 q2 s1
 have hbad : setN [nmQ 97, nmQ 98] (bsS []) someR = (1, [nmQ 97, nmQ 98]) := setN_bad (.inl (by decide))
 have hrg : rangeN [nmQ 97, nmQ 98] ⟨#[]⟩ ⟨#[]⟩ 1 = ([nmQ 97], bsS [98]) := by
  have := rng_at (Q := [nmQ 97, nmQ 98]) q2 (j := 0) (k := 1) (fr := ⟨#[]⟩) (by decide) (.inl ⟨rfl, rfl⟩)
  exact this
 refine no_implicit_lambda% (acalls_of tok dok (f := 18) ⟨Tryz.func18, rfl, by kernel_rfl⟩ ?_); refine no_implicit_lambda% (c_start (fun _ h => h) ?_)
 repeat' (first | (refine no_implicit_lambda% (zH ?_)) | (((with_reducible refine no_implicit_lambda% (zA ?_)); refine no_implicit_lambda% (zD rfl rfl rfl (fun hc => ?_) (fun hc => ?_)) <;> first | exact zG hc | rw [hc])) | (((with_reducible refine no_implicit_lambda% (zB ?_)); refine no_implicit_lambda% (zE rfl (fun hc => ?_) (fun hc => ?_)) <;> first | exact zG hc | skip)) | (((with_reducible refine no_implicit_lambda% (zC ?_)); refine no_implicit_lambda% (zF rfl rfl (fun hc => ?_) (fun hc => ?_)) <;> first | exact zG hc | rw [hc])) | (((with_reducible refine no_implicit_lambda% (is_ev ?_)); refine no_implicit_lambda% (v_split rfl rfl rfl rfl (fun hc => ?_) (fun hc => ?_)) <;> first | exact zG hc | rw [hc])) | (refine no_implicit_lambda% (ans ?_)) | (with_reducible first | exact zI | exact zJ) | ((with_reducible refine no_implicit_lambda% (ret1 ?_)); first | (refine no_implicit_lambda% (akcs ?_)) | (refine no_implicit_lambda% (aecs ?_))) | (refine no_implicit_lambda% (cal [] (hnw) ?_ ?_)) | (refine no_implicit_lambda% (cal [] (hs) ?_ ?_)) | (((with_reducible refine no_implicit_lambda% (is_effK ?_)); refine no_implicit_lambda% (aecs ?_))) | (((with_reducible refine no_implicit_lambda% (is_drB ?_)); refine no_implicit_lambda% (b_ends ?_))) | (((with_reducible refine no_implicit_lambda% (zC ?_)); refine no_implicit_lambda% (a_stores ?_))) | ((with_reducible refine no_implicit_lambda% (zC ?_)); first | (refine no_implicit_lambda% (a_append_tok rfl rfl rfl rfl rfl rfl rfl rfl rfl rfl rfl rfl rfl rfl (by first | rfl | (simp; done)) (fun q hq => by rw [forceH_eq]; exact hq) (by (first | assumption | (intro row hr; simp only [List.mem_cons, List.not_mem_nil, or_false] at hr; rcases hr with rfl | rfl | rfl | rfl <;> rfl) | (intro row hr; simp at hr; done) | (intro row hr; simp only [List.mem_singleton] at hr; subst hr; rfl) | (intro row hr; obtain ⟨_, _, rfl⟩ := List.mem_map.1 hr; rfl))) (by (refine ⟨?_, ?_⟩ <;> (simp only [List.length_map, List.length_append, List.length_cons, List.length_nil]; omega))) ?_))) | fail)
 (refine no_implicit_lambda% (cal [0, 1] (s1) ?_ ?_))
 ·intro xx H' hh
  obtain ⟨cp1, d1, d2, h', rfl⟩ := hh
  cases h'
  first | (refine no_implicit_lambda% (akc ?_)) | (refine no_implicit_lambda% (aec ?_))
  repeat' (first | (refine no_implicit_lambda% (zH ?_)) | (((with_reducible refine no_implicit_lambda% (zA ?_)); refine no_implicit_lambda% (zD rfl rfl rfl (fun hc => ?_) (fun hc => ?_)) <;> first | exact zG hc | rw [hc])) | (((with_reducible refine no_implicit_lambda% (zB ?_)); refine no_implicit_lambda% (zE rfl (fun hc => ?_) (fun hc => ?_)) <;> first | exact zG hc | skip)) | (((with_reducible refine no_implicit_lambda% (zC ?_)); refine no_implicit_lambda% (zF rfl rfl (fun hc => ?_) (fun hc => ?_)) <;> first | exact zG hc | rw [hc])) | (((with_reducible refine no_implicit_lambda% (is_ev ?_)); refine no_implicit_lambda% (v_split rfl rfl rfl rfl (fun hc => ?_) (fun hc => ?_)) <;> first | exact zG hc | rw [hc])) | (refine no_implicit_lambda% (ans ?_)) | (with_reducible first | exact zI | exact zJ) | ((with_reducible refine no_implicit_lambda% (ret1 ?_)); first | (refine no_implicit_lambda% (akcs ?_)) | (refine no_implicit_lambda% (aecs ?_))) | (refine no_implicit_lambda% (cal [] (hs) ?_ ?_)) | (((with_reducible refine no_implicit_lambda% (is_effK ?_)); refine no_implicit_lambda% (aecs ?_))) | (((with_reducible refine no_implicit_lambda% (is_drB ?_)); refine no_implicit_lambda% (b_ends ?_))) | (((with_reducible refine no_implicit_lambda% (zC ?_)); refine no_implicit_lambda% (a_stores ?_))) | ((with_reducible refine no_implicit_lambda% (zC ?_)); first | (refine no_implicit_lambda% (a_append_tok rfl rfl rfl rfl rfl rfl rfl rfl rfl rfl rfl rfl rfl rfl (by first | rfl | (simp; done)) (fun q hq => by rw [forceH_eq]; exact hq) (by (first | assumption | (intro row hr; simp only [List.mem_cons, List.not_mem_nil, or_false] at hr; rcases hr with rfl | rfl | rfl | rfl <;> rfl) | (intro row hr; simp at hr; done) | (intro row hr; simp only [List.mem_singleton] at hr; subst hr; rfl) | (intro row hr; obtain ⟨_, _, rfl⟩ := List.mem_map.1 hr; rfl))) (by (refine ⟨?_, ?_⟩ <;> (simp only [List.length_map, List.length_append, List.length_cons, List.length_nil]; omega))) ?_))) | fail)
  have s2 := set_c [nmQ 98] (bsS [97]) someR cp1 q1 d1 d2 (by decide) some_fine.2
  rw [kn_a] at s2
  dsimp only at s2
  (refine no_implicit_lambda% (cal [0, 20002] (s2) ?_ ?_))
  ·intro xx H' hh
   obtain ⟨cp2, e1, e2, h', rfl⟩ := hh
   cases h'
   first | (refine no_implicit_lambda% (akc ?_)) | (refine no_implicit_lambda% (aec ?_))
   have r1 := trange_c [nmQ 97, nmQ 98] ⟨#[]⟩ ⟨#[]⟩ 1 cp2 q2 e1 e2 (by decide)
   rw [hrg] at r1
   dsimp only at r1
   repeat' (first | (refine no_implicit_lambda% (zH ?_)) | (((with_reducible refine no_implicit_lambda% (zA ?_)); refine no_implicit_lambda% (zD rfl rfl rfl (fun hc => ?_) (fun hc => ?_)) <;> first | exact zG hc | rw [hc])) | (((with_reducible refine no_implicit_lambda% (zB ?_)); refine no_implicit_lambda% (zE rfl (fun hc => ?_) (fun hc => ?_)) <;> first | exact zG hc | skip)) | (((with_reducible refine no_implicit_lambda% (zC ?_)); refine no_implicit_lambda% (zF rfl rfl (fun hc => ?_) (fun hc => ?_)) <;> first | exact zG hc | rw [hc])) | (((with_reducible refine no_implicit_lambda% (is_ev ?_)); refine no_implicit_lambda% (v_split rfl rfl rfl rfl (fun hc => ?_) (fun hc => ?_)) <;> first | exact zG hc | rw [hc])) | (refine no_implicit_lambda% (ans ?_)) | (with_reducible first | exact zI | exact zJ) | ((with_reducible refine no_implicit_lambda% (ret1 ?_)); first | (refine no_implicit_lambda% (akcs ?_)) | (refine no_implicit_lambda% (aecs ?_))) | fail | (((with_reducible refine no_implicit_lambda% (is_effK ?_)); refine no_implicit_lambda% (aecs ?_))) | (((with_reducible refine no_implicit_lambda% (is_drB ?_)); refine no_implicit_lambda% (b_ends ?_))) | (((with_reducible refine no_implicit_lambda% (zC ?_)); refine no_implicit_lambda% (a_stores ?_))) | ((with_reducible refine no_implicit_lambda% (zC ?_)); first | (refine no_implicit_lambda% (a_append_tok rfl rfl rfl rfl rfl rfl rfl rfl rfl rfl rfl rfl rfl rfl (by first | rfl | (simp; done)) (fun q hq => by rw [forceH_eq]; exact hq) (by (first | assumption | (intro row hr; simp only [List.mem_cons, List.not_mem_nil, or_false] at hr; rcases hr with rfl | rfl | rfl | rfl <;> rfl) | (intro row hr; simp at hr; done) | (intro row hr; simp only [List.mem_singleton] at hr; subst hr; rfl) | (intro row hr; obtain ⟨_, _, rfl⟩ := List.mem_map.1 hr; rfl))) (by (refine ⟨?_, ?_⟩ <;> (simp only [List.length_map, List.length_append, List.length_cons, List.length_nil]; omega))) ?_))) | fail)
   (refine no_implicit_lambda% (cal [0, 40003] (r1) ?_ ?_))
   ·intro xx H' hh
    obtain ⟨cp3, f1, f2, h', rfl⟩ := hh
    cases h'
    first | (refine no_implicit_lambda% (akc ?_)) | (refine no_implicit_lambda% (aec ?_))
    have s3 := set_c [nmQ 97, nmQ 98] (bsS []) someR cp2 q2 e1 e2 (by decide) some_fine.2
    rw [hbad] at s3
    dsimp only at s3
    repeat' (first | (refine no_implicit_lambda% (zH ?_)) | (((with_reducible refine no_implicit_lambda% (zA ?_)); refine no_implicit_lambda% (zD rfl rfl rfl (fun hc => ?_) (fun hc => ?_)) <;> first | exact zG hc | rw [hc])) | (((with_reducible refine no_implicit_lambda% (zB ?_)); refine no_implicit_lambda% (zE rfl (fun hc => ?_) (fun hc => ?_)) <;> first | exact zG hc | skip)) | (((with_reducible refine no_implicit_lambda% (zC ?_)); refine no_implicit_lambda% (zF rfl rfl (fun hc => ?_) (fun hc => ?_)) <;> first | exact zG hc | rw [hc])) | (((with_reducible refine no_implicit_lambda% (is_ev ?_)); refine no_implicit_lambda% (v_split rfl rfl rfl rfl (fun hc => ?_) (fun hc => ?_)) <;> first | exact zG hc | rw [hc])) | (refine no_implicit_lambda% (ans ?_)) | (with_reducible first | exact zI | exact zJ) | ((with_reducible refine no_implicit_lambda% (ret1 ?_)); first | (refine no_implicit_lambda% (akcs ?_)) | (refine no_implicit_lambda% (aecs ?_))) | fail | (((with_reducible refine no_implicit_lambda% (is_effK ?_)); refine no_implicit_lambda% (aecs ?_))) | (((with_reducible refine no_implicit_lambda% (is_drB ?_)); refine no_implicit_lambda% (b_ends ?_))) | (((with_reducible refine no_implicit_lambda% (zC ?_)); refine no_implicit_lambda% (a_stores ?_))) | ((with_reducible refine no_implicit_lambda% (zC ?_)); first | (refine no_implicit_lambda% (a_append_tok rfl rfl rfl rfl rfl rfl rfl rfl rfl rfl rfl rfl rfl rfl (by first | rfl | (simp; done)) (fun q hq => by rw [forceH_eq]; exact hq) (by (first | assumption | (intro row hr; simp only [List.mem_cons, List.not_mem_nil, or_false] at hr; rcases hr with rfl | rfl | rfl | rfl <;> rfl) | (intro row hr; simp at hr; done) | (intro row hr; simp only [List.mem_singleton] at hr; subst hr; rfl) | (intro row hr; obtain ⟨_, _, rfl⟩ := List.mem_map.1 hr; rfl))) (by (refine ⟨?_, ?_⟩ <;> (simp only [List.length_map, List.length_append, List.length_cons, List.length_nil]; omega))) ?_))) | fail)
    ((with_reducible refine no_implicit_lambda% (zC ?_)); first | (refine no_implicit_lambda% (a_qS rfl (fun _ h => h) ?_ ?_)) | (refine no_implicit_lambda% (a_qS rfl (qIx (fun _ h => h)) ?_ ?_)) | (refine no_implicit_lambda% (a_qS rfl (qAnd5 (fun _ h => h)) ?_ ?_)) | (refine no_implicit_lambda% (a_qS rfl (qStr (fun _ h => h)) ?_ ?_)) | (refine no_implicit_lambda% (a_qS rfl (qAnd4 (fun _ h => h)) ?_ ?_)) | (refine no_implicit_lambda% (a_qS rfl (qAnd2 (fun _ h => h)) ?_ ?_))); focus (first | omega | (simp; done) | (simp; omega))
    repeat' (first | (refine no_implicit_lambda% (zH ?_)) | (((with_reducible refine no_implicit_lambda% (zA ?_)); refine no_implicit_lambda% (zD rfl rfl rfl (fun hc => ?_) (fun hc => ?_)) <;> first | exact zG hc | rw [hc])) | (((with_reducible refine no_implicit_lambda% (zB ?_)); refine no_implicit_lambda% (zE rfl (fun hc => ?_) (fun hc => ?_)) <;> first | exact zG hc | skip)) | (((with_reducible refine no_implicit_lambda% (zC ?_)); refine no_implicit_lambda% (zF rfl rfl (fun hc => ?_) (fun hc => ?_)) <;> first | exact zG hc | rw [hc])) | (((with_reducible refine no_implicit_lambda% (is_ev ?_)); refine no_implicit_lambda% (v_split rfl rfl rfl rfl (fun hc => ?_) (fun hc => ?_)) <;> first | exact zG hc | rw [hc])) | (refine no_implicit_lambda% (ans ?_)) | (with_reducible first | exact zI | exact zJ) | ((with_reducible refine no_implicit_lambda% (ret1 ?_)); first | (refine no_implicit_lambda% (akcs ?_)) | (refine no_implicit_lambda% (aecs ?_))) | fail | (((with_reducible refine no_implicit_lambda% (is_effK ?_)); refine no_implicit_lambda% (aecs ?_))) | (((with_reducible refine no_implicit_lambda% (is_drB ?_)); refine no_implicit_lambda% (b_ends ?_))) | (((with_reducible refine no_implicit_lambda% (zC ?_)); refine no_implicit_lambda% (a_stores ?_))) | ((with_reducible refine no_implicit_lambda% (zC ?_)); first | (refine no_implicit_lambda% (a_append_tok rfl rfl rfl rfl rfl rfl rfl rfl rfl rfl rfl rfl rfl rfl (by first | rfl | (simp; done)) (fun q hq => by rw [forceH_eq]; exact hq) (by (first | assumption | (intro row hr; simp only [List.mem_cons, List.not_mem_nil, or_false] at hr; rcases hr with rfl | rfl | rfl | rfl <;> rfl) | (intro row hr; simp at hr; done) | (intro row hr; simp only [List.mem_singleton] at hr; subst hr; rfl) | (intro row hr; obtain ⟨_, _, rfl⟩ := List.mem_map.1 hr; rfl))) (by (refine ⟨?_, ?_⟩ <;> (simp only [List.length_map, List.length_append, List.length_cons, List.length_nil]; omega))) ?_))) | fail)
    all_goals try (exfalso; simp [bsS, nmQ, ByteArray.toList_eq] at hc; done)
    repeat' (first | (refine no_implicit_lambda% (zH ?_)) | (((with_reducible refine no_implicit_lambda% (zA ?_)); refine no_implicit_lambda% (zD rfl rfl rfl (fun hc => ?_) (fun hc => ?_)) <;> first | exact zG hc | rw [hc])) | (((with_reducible refine no_implicit_lambda% (zB ?_)); refine no_implicit_lambda% (zE rfl (fun hc => ?_) (fun hc => ?_)) <;> first | exact zG hc | skip)) | (((with_reducible refine no_implicit_lambda% (zC ?_)); refine no_implicit_lambda% (zF rfl rfl (fun hc => ?_) (fun hc => ?_)) <;> first | exact zG hc | rw [hc])) | (((with_reducible refine no_implicit_lambda% (is_ev ?_)); refine no_implicit_lambda% (v_split rfl rfl rfl rfl (fun hc => ?_) (fun hc => ?_)) <;> first | exact zG hc | rw [hc])) | (refine no_implicit_lambda% (ans ?_)) | (with_reducible first | exact zI | exact zJ) | ((with_reducible refine no_implicit_lambda% (ret1 ?_)); first | (refine no_implicit_lambda% (akcs ?_)) | (refine no_implicit_lambda% (aecs ?_))) | (refine no_implicit_lambda% (cal [] (hs) ?_ ?_)) | (((with_reducible refine no_implicit_lambda% (is_effK ?_)); refine no_implicit_lambda% (aecs ?_))) | (((with_reducible refine no_implicit_lambda% (is_drB ?_)); refine no_implicit_lambda% (b_ends ?_))) | (((with_reducible refine no_implicit_lambda% (zC ?_)); refine no_implicit_lambda% (a_stores ?_))) | ((with_reducible refine no_implicit_lambda% (zC ?_)); first | (refine no_implicit_lambda% (a_append_tok rfl rfl rfl rfl rfl rfl rfl rfl rfl rfl rfl rfl rfl rfl (by first | rfl | (simp; done)) (fun q hq => by rw [forceH_eq]; exact hq) (by (first | assumption | (intro row hr; simp only [List.mem_cons, List.not_mem_nil, or_false] at hr; rcases hr with rfl | rfl | rfl | rfl <;> rfl) | (intro row hr; simp at hr; done) | (intro row hr; simp only [List.mem_singleton] at hr; subst hr; rfl) | (intro row hr; obtain ⟨_, _, rfl⟩ := List.mem_map.1 hr; rfl))) (by (refine ⟨?_, ?_⟩ <;> (simp only [List.length_map, List.length_append, List.length_cons, List.length_nil]; omega))) ?_))) | fail)
    (refine no_implicit_lambda% (cal [0, 40003] (s3) ?_ ?_))
    ·intro xx H' hh
     obtain ⟨cp4, g1, g2, h', rfl⟩ := hh
     cases h'
     first | (refine no_implicit_lambda% (akc ?_)) | (refine no_implicit_lambda% (aec ?_))
     have t1 := tlen_c [nmQ 97, nmQ 98] cp4
     repeat' (first | (refine no_implicit_lambda% (zH ?_)) | (((with_reducible refine no_implicit_lambda% (zA ?_)); refine no_implicit_lambda% (zD rfl rfl rfl (fun hc => ?_) (fun hc => ?_)) <;> first | exact zG hc | rw [hc])) | (((with_reducible refine no_implicit_lambda% (zB ?_)); refine no_implicit_lambda% (zE rfl (fun hc => ?_) (fun hc => ?_)) <;> first | exact zG hc | skip)) | (((with_reducible refine no_implicit_lambda% (zC ?_)); refine no_implicit_lambda% (zF rfl rfl (fun hc => ?_) (fun hc => ?_)) <;> first | exact zG hc | rw [hc])) | (((with_reducible refine no_implicit_lambda% (is_ev ?_)); refine no_implicit_lambda% (v_split rfl rfl rfl rfl (fun hc => ?_) (fun hc => ?_)) <;> first | exact zG hc | rw [hc])) | (refine no_implicit_lambda% (ans ?_)) | (with_reducible first | exact zI | exact zJ) | ((with_reducible refine no_implicit_lambda% (ret1 ?_)); first | (refine no_implicit_lambda% (akcs ?_)) | (refine no_implicit_lambda% (aecs ?_))) | (refine no_implicit_lambda% (cal [0, 60005] (t1) ?_ ?_)) | (((with_reducible refine no_implicit_lambda% (is_effK ?_)); refine no_implicit_lambda% (aecs ?_))) | (((with_reducible refine no_implicit_lambda% (is_drB ?_)); refine no_implicit_lambda% (b_ends ?_))) | (((with_reducible refine no_implicit_lambda% (zC ?_)); refine no_implicit_lambda% (a_stores ?_))) | ((with_reducible refine no_implicit_lambda% (zC ?_)); first | (refine no_implicit_lambda% (a_append_tok rfl rfl rfl rfl rfl rfl rfl rfl rfl rfl rfl rfl rfl rfl (by first | rfl | (simp; done)) (fun q hq => by rw [forceH_eq]; exact hq) (by (first | assumption | (intro row hr; simp only [List.mem_cons, List.not_mem_nil, or_false] at hr; rcases hr with rfl | rfl | rfl | rfl <;> rfl) | (intro row hr; simp at hr; done) | (intro row hr; simp only [List.mem_singleton] at hr; subst hr; rfl) | (intro row hr; obtain ⟨_, _, rfl⟩ := List.mem_map.1 hr; rfl))) (by (refine ⟨?_, ?_⟩ <;> (simp only [List.length_map, List.length_append, List.length_cons, List.length_nil]; omega))) ?_))) | fail)
     exact e_ret (H' := []) (rest := _) rfl ⟨rfl, rfl⟩ permT (LE0 rfl)
    ·intro xx H' hh
     obtain ⟨_, _, _, h', _⟩ := hh
     cases h'
   ·intro xx H' hh
    obtain ⟨_, _, _, h', _⟩ := hh
    cases h'
  ·intro xx H' hh
   obtain ⟨_, _, _, h', _⟩ := hh
   cases h'
 ·intro xx H' hh
  obtain ⟨_, _, _, h', _⟩ := hh
  cases h'
end Go.Proofs.YtjepgbpcpcahgaaGreat
namespace Go.Proofs.YtjepgbpcpcahgaaGreat
open Go.Am
set_option maxRecDepth 100000
theorem play6_d (l : List Nk) (hl : ∀ a ∈ l, NkOk a) (h : l.length ≤ 9223372036854775807) : ACalls Tryz.prog 12 0 2 [.list (l.map nkrow) .free] [] (PlayO l) :=
 ACalls.ren (play6_c l hl h) (by decide) fun out H' hh => by
  obtain ⟨Q, cp, hP, hQ, c1, c2, rfl, rfl⟩ := hh
  refine ⟨[0, 1], .ret (.tuple [.ptr 0 0, .list (Q.map nmrow) .free, .v (.bool true)]), tbl Q cp, by decide, by decide, (fun q h => by omega), Nat.le_refl _, ?_, ?_, Q, cp, hP, hQ, c1, c2, rfl, rfl⟩
  ·have h3 : (AV.list (Q.map nmrow) .free).ren (rn [0, 1] 2000000) = AV.list (Q.map nmrow) .free := rfl
   simp [AOut.ren, AV.ren, AV.renL, rn]
   rfl
  ·simp [tbl, renH, Res.ren, rn, AV.ren, AV.renL]
end Go.Proofs.YtjepgbpcpcahgaaGreat
namespace Go.Proofs.YtjepgbpcpcahgaaGreat
open Go.Am
set_option maxRecDepth 100000
def encA (v : Va) : List UInt8 := if v.kind = 1 then 1 :: (be v.b.length 4 ++ v.b) else if v.kind = 2 then 2 :: be (canonB v.n) 8 else [0]
theorem encA_len {v : Va} (h : v.b.length ≤ 20) : (encA v).length ≤ 25 := by
 unfold encA
 split
 ·simp [be_len]; omega
 ·split
  ·simp [be_len]
  ·simp
theorem k_ne {k c : Int} (h : ¬ k = c) : (k == c) = false := by simpa using h
theorem putA_c (v : Va) (hb : v.b.length ≤ 20) (hn : v.n < 18446744073709551616) (l : List UInt8) (hl : l.length < 100000000) : ACalls Tryz.prog 85 2 10 [.ptr 0 0, vav v] (wr l) (fun out H' => out = .ret (.tuple []) ∧ H' = wr (l ++ encA v)) := by
 obtain ⟨kd, b, n⟩ := v
 simp only at hb hn
 by_cases h1 : kd = 1
 ·subst h1
  have ee : l ++ encA ⟨1, b, n⟩ = l ++ [1] ++ (be b.length 4 ++ b) := by simp [encA]
  rw [ee]
  have hT := text_c (l ++ [1]) b (by omega) (by simp; omega)
  rw [if_pos (show b.length ≤ 1048576 by omega)] at hT
  refine no_implicit_lambda% (acalls_of tok dok (f := 85) ⟨Tryz.func85, rfl, by kernel_rfl⟩ ?_); refine no_implicit_lambda% (c_start (fun _ h => h) ?_)
  refine no_implicit_lambda% (awd ?_)
  refine no_implicit_lambda% (cal [0, 1] (byte_c l 1 (by omega)) ?_ ?_)
  ·refine no_implicit_lambda% (ret1 ?_); first | (refine no_implicit_lambda% (akc ?_)) | (refine no_implicit_lambda% (aec ?_))
   refine no_implicit_lambda% (awd ?_)
   refine no_implicit_lambda% (cal [0, 1] (hT) ?_ ?_)
   ·refine no_implicit_lambda% (ret1 ?_); first | (refine no_implicit_lambda% (akc ?_)) | (refine no_implicit_lambda% (aec ?_))
    refine no_implicit_lambda% (awd ?_)
    exact e_ret (H' := wr (l ++ [1] ++ (be b.length 4 ++ b))) (rest := _) rfl ⟨rfl, rfl⟩ (.of_eq rfl) (LE0 rfl)
   ·first | (exact zI) | (exact zJ)
  ·first | (exact zI) | (exact zJ)
 ·by_cases h2 : kd = 2
  ·subst h2
   have ee : l ++ encA ⟨2, b, n⟩ = l ++ [2] ++ be (canonB n) 8 := by simp [encA]
   rw [ee]
   refine no_implicit_lambda% (acalls_of tok dok (f := 85) ⟨Tryz.func85, rfl, by kernel_rfl⟩ ?_); refine no_implicit_lambda% (c_start (fun _ h => h) ?_)
   refine no_implicit_lambda% (awd ?_)
   refine no_implicit_lambda% (cal [0, 1] (byte_c l 2 (by omega)) ?_ ?_)
   ·refine no_implicit_lambda% (ret1 ?_); first | (refine no_implicit_lambda% (akc ?_)) | (refine no_implicit_lambda% (aec ?_))
    refine no_implicit_lambda% (awd ?_)
    refine no_implicit_lambda% (cal [0, 1] (float_c (l ++ [2]) n hn (by simp; omega)) ?_ ?_)
    ·refine no_implicit_lambda% (ret1 ?_); first | (refine no_implicit_lambda% (akc ?_)) | (refine no_implicit_lambda% (aec ?_))
     refine no_implicit_lambda% (awd ?_)
     exact e_ret (H' := wr (l ++ [2] ++ be (canonB n) 8)) (rest := _) rfl ⟨rfl, rfl⟩ (.of_eq rfl) (LE0 rfl)
    ·first | (exact zI) | (exact zJ)
   ·first | (exact zI) | (exact zJ)
  ·have ee : l ++ encA ⟨kd, b, n⟩ = l ++ [0] := by simp [encA, h1, h2]
   rw [ee]
   have e1 := k_ne h1
   have e2 := k_ne h2
   refine no_implicit_lambda% (acalls_of tok dok (f := 85) ⟨Tryz.func85, rfl, by kernel_rfl⟩ ?_); refine no_implicit_lambda% (c_start (fun _ h => h) ?_)
   repeat' (first | (refine no_implicit_lambda% (zH ?_)) | (((with_reducible refine no_implicit_lambda% (zA ?_)); refine no_implicit_lambda% (zD rfl rfl rfl (fun hc => ?_) (fun hc => ?_)) <;> rw [hc])) | (((with_reducible refine no_implicit_lambda% (zB ?_)); refine no_implicit_lambda% (zE rfl (fun hc => ?_) (fun hc => ?_)))) | (((with_reducible refine no_implicit_lambda% (zC ?_)); refine no_implicit_lambda% (zF rfl rfl (fun hc => ?_) (fun hc => ?_)) <;> rw [hc])) | fail)
   ·rw [e1] at hc; cases hc
   ·rw [e2] at hc; cases hc
   ·refine no_implicit_lambda% (cal [0, 1] (byte_c l 0 (by omega)) ?_ ?_)
    ·refine no_implicit_lambda% (ret1 ?_); first | (refine no_implicit_lambda% (akc ?_)) | (refine no_implicit_lambda% (aec ?_))
     refine no_implicit_lambda% (awd ?_)
     exact e_ret (H' := wr (l ++ [0])) (rest := _) rfl ⟨rfl, rfl⟩ (.of_eq rfl) (LE0 rfl)
    ·first | (exact zI) | (exact zJ)
def GV (b : List UInt8) (v : Va) (r : List UInt8) : Prop :=
 1 ≤ b.length ∧ ((ubn (b.take 1) 0 = 1 ∧ tOk (b.drop 1) 16 ∧ v = ⟨1, ((b.drop 1).drop 4).take (ubn ((b.drop 1).take 4) 0), 0⟩ ∧ r = ((b.drop 1).drop 4).drop (ubn ((b.drop 1).take 4) 0)) ∨
  (ubn (b.take 1) 0 = 2 ∧ fOk (b.drop 1) ∧ v = ⟨2, [], ubn ((b.drop 1).take 8) 0⟩ ∧ r = (b.drop 1).drop 8))
theorem GV.fn {b : List UInt8} {v v' : Va} {r r' : List UInt8} (h : GV b v r) (h' : GV b v' r') : v = v' ∧ r = r' := by
 obtain ⟨_, ⟨h1, _, rfl, rfl⟩ | ⟨h1, _, rfl, rfl⟩⟩ := h <;> obtain ⟨_, ⟨h2, _, rfl, rfl⟩ | ⟨h2, _, rfl, rfl⟩⟩ := h'
 ·exact ⟨rfl, rfl⟩
 ·omega
 ·omega
 ·exact ⟨rfl, rfl⟩
theorem GV.n {b : List UInt8} {v : Va} {r : List UInt8} (h : GV b v r) : v.n < 18446744073709551616 := by
 obtain ⟨_, ⟨h1, _, rfl, rfl⟩ | ⟨h1, _, rfl, rfl⟩⟩ := h
 ·show 0 < _; decide
 ·exact ubn_take _ 8
theorem getA_c (b : List UInt8) (hb : b.length < 100000000) : ACalls Tryz.prog 90 1 20 [.ptr 0 0] (rd b) (fun out H' => (∃ v r, GV b v r ∧ out = .ret (vav v) ∧ H' = rd r) ∨ ((∀ v r, ¬ GV b v r) ∧ out = gone ∧ H' = [])) := by
 have hC := rByte_c b (by omega)
 have hT := rText_c (b.drop 1) 16 (by simp; omega)
 have hF := rFloat_c (b.drop 1) (by simp; omega)
 have g1 : tOk (b.drop 1) 16 → 1 ≤ b.length → ubn (b.take 1) 0 = 1 → GV b ⟨1, ((b.drop 1).drop 4).take (ubn ((b.drop 1).take 4) 0), 0⟩ (((b.drop 1).drop 4).drop (ubn ((b.drop 1).take 4) 0)) := fun h1 h2 h3 => ⟨h2, .inl ⟨h3, h1, rfl, rfl⟩⟩
 have g2 : fOk (b.drop 1) → 1 ≤ b.length → ubn (b.take 1) 0 = 2 → GV b ⟨2, [], ubn ((b.drop 1).take 8) 0⟩ ((b.drop 1).drop 8) := fun h1 h2 h3 => ⟨h2, .inr ⟨h3, h1, rfl, rfl⟩⟩
 have n1 : ¬ tOk (b.drop 1) 16 → ubn (b.take 1) 0 = 1 → ∀ v r, ¬ GV b v r := fun h1 h2 v r h => by
  obtain ⟨_, ⟨_, h4, _⟩ | ⟨h4, _⟩⟩ := h
  ·exact h1 h4
  ·omega
 have n2 : ¬ fOk (b.drop 1) → ubn (b.take 1) 0 = 2 → ∀ v r, ¬ GV b v r := fun h1 h2 v r h => by
  obtain ⟨_, ⟨h4, _⟩ | ⟨_, h4, _⟩⟩ := h
  ·omega
  ·exact h1 h4
 have n3 : ¬ ubn (b.take 1) 0 = 1 → ¬ ubn (b.take 1) 0 = 2 → ∀ v r, ¬ GV b v r := fun h1 h2 v r h => by
  obtain ⟨_, ⟨h4, _⟩ | ⟨h4, _⟩⟩ := h <;> omega
 have n0 : b.length < 1 → ∀ v r, ¬ GV b v r := fun h1 v r h => by
  have := h.1; omega
 have hk := ubn_take b 1
 generalize ubn (b.take 1) 0 = k at *
 generalize ((b.drop 1).drop 4).take (ubn ((b.drop 1).take 4) 0) = tx at *
 generalize ((b.drop 1).drop 4).drop (ubn ((b.drop 1).take 4) 0) = r1 at *
 generalize ubn ((b.drop 1).take 8) 0 = x at *
 generalize (b.drop 1).drop 8 = r2 at *
 have hkk : IntKind.i64.wrap (k : Int) = (k : Int) := by rw [IntKind.wrap_i64]; omega
 refine no_implicit_lambda% (acalls_of tok dok (f := 90) ⟨Tryz.func90, rfl, by kernel_rfl⟩ ?_); refine no_implicit_lambda% (c_start (fun _ h => h) ?_)
 refine no_implicit_lambda% (awd ?_)
 refine no_implicit_lambda% (cal [0] (hC) ?_ ?_)
 ·intro x H' h; rcases h with ⟨hg, h1, h2⟩ | ⟨hg, h1, h2⟩ <;> first | (cases h1; done) | (cases h1; subst h2)
  first | (refine no_implicit_lambda% (akc ?_)) | (refine no_implicit_lambda% (aec ?_))
  refine no_implicit_lambda% (awd ?_)
  rw [hkk]
  repeat' (first | (refine no_implicit_lambda% (zH ?_)) | (((with_reducible refine no_implicit_lambda% (zA ?_)); refine no_implicit_lambda% (zD rfl rfl rfl (fun hc => ?_) (fun hc => ?_)) <;> rw [hc])) | (((with_reducible refine no_implicit_lambda% (zB ?_)); refine no_implicit_lambda% (zE rfl (fun hc => ?_) (fun hc => ?_)))) | (((with_reducible refine no_implicit_lambda% (zC ?_)); refine no_implicit_lambda% (zF rfl rfl (fun hc => ?_) (fun hc => ?_)) <;> rw [hc])) | fail)
  ·obtain rfl : k = 1 := by simp at hc; omega
   refine no_implicit_lambda% (cal [0] (hT) ?_ ?_)
   ·intro x H' h; rcases h with ⟨hg, h1, h2⟩ | ⟨hg, h1, h2⟩ <;> first | (cases h1; done) | (cases h1; subst h2)
    first | (refine no_implicit_lambda% (akc ?_)) | (refine no_implicit_lambda% (aec ?_))
    refine no_implicit_lambda% (awd ?_)
    exact e_ret (H' := rd r1) (rest := _) rfl (.inl ⟨_, _, g1 hg (by assumption) rfl, rfl, rfl⟩) (.of_eq rfl) (LE0 rfl)
   ·intro x H' h; rcases h with ⟨hg, h1, h2⟩ | ⟨hg, h1, h2⟩ <;> first | (cases h1; done) | (cases h1; subst h2)
    refine no_implicit_lambda% (awd ?_)
    exact e_pan (H' := []) (rest := _) (.inr ⟨n1 hg rfl, rfl, rfl⟩) (.refl _) (LE0 rfl)
  ·obtain rfl : k = 2 := by simp at hc; omega
   refine no_implicit_lambda% (cal [0] (hF) ?_ ?_)
   ·intro x H' h; rcases h with ⟨hg, h1, h2⟩ | ⟨hg, h1, h2⟩ <;> first | (cases h1; done) | (cases h1; subst h2)
    first | (refine no_implicit_lambda% (akc ?_)) | (refine no_implicit_lambda% (aec ?_))
    refine no_implicit_lambda% (awd ?_)
    exact e_ret_to (H' := rd r2) (rest := _) (.wk (.refl _) (.cons (.refl _) (.cons (.refl _) (.cons (.box _ (.cons (.refl _) (.cons (.free _ _) (.cons (.refl _) .nil)))) (.refl _))))) rfl (.inl ⟨_, _, g2 hg (by assumption) rfl, rfl, rfl⟩) (.of_eq rfl) (LE0 rfl)
   ·intro x H' h; rcases h with ⟨hg, h1, h2⟩ | ⟨hg, h1, h2⟩ <;> first | (cases h1; done) | (cases h1; subst h2)
    refine no_implicit_lambda% (awd ?_)
    exact e_pan (H' := []) (rest := _) (.inr ⟨n2 hg rfl, rfl, rfl⟩) (.refl _) (LE0 rfl)
  ·rename_i hc1
   refine no_implicit_lambda% (cal [0] (fail_c (b.drop 1)) ?_ ?_)
   ·first | (exact zI) | (exact zJ)
   ·intro xx H' hh
    obtain ⟨h1, rfl⟩ := hh
    cases h1
    refine no_implicit_lambda% (awd ?_)
    exact e_pan (H' := []) (rest := _) (.inr ⟨n3 (by simp at hc1; omega) (by simp at hc; omega), rfl, rfl⟩) (.refl _) (LE0 rfl)
 ·intro x H' h; rcases h with ⟨hg, h1, h2⟩ | ⟨hg, h1, h2⟩ <;> first | (cases h1; done) | (cases h1; subst h2)
  refine no_implicit_lambda% (awd ?_)
  exact e_pan (H' := []) (rest := _) (.inr ⟨n0 hg, rfl, rfl⟩) (.refl _) (LE0 rfl)
end Go.Proofs.YtjepgbpcpcahgaaGreat
namespace Go.Proofs.YtjepgbpcpcahgaaGreat
open Go.Am
set_option maxRecDepth 100000
def encE (x : Ve) : List UInt8 := be x.t.toNat 8 ++ encA x.v
def encC (c : Co) : List UInt8 := be c.n.data.toList.length 4 ++ c.n.data.toList ++ [UInt8.ofNat c.l.length] ++ c.l.flatMap encE
def encR (o : List Co) : List UInt8 := UInt8.ofNat o.length :: o.flatMap encC
def VeW (x : Ve) : Prop := (0 ≤ x.t ∧ x.t < 9223372036854775808) ∧ x.v.b.length ≤ 20 ∧ x.v.n < 18446744073709551616
def CoW (c : Co) : Prop := c.n.data.toList.length ≤ 16 ∧ c.l.length ≤ 2 ∧ ∀ x ∈ c.l, VeW x
def RoW (o : List Co) : Prop := o.length ≤ 4 ∧ ∀ c ∈ o, CoW c
theorem Fine.row_w {o : List Co} (hF : Fine o) (hz : RowSz o) : RoW o := by
 refine ⟨hF.len, fun c hc => ?_⟩
 have h := hF.col c hc
 have hl := col_len h
 unfold colB at h
 simp only [Bool.and_eq_true] at h
 obtain ⟨h1, _⟩ := vers_to h.2
 refine ⟨?_, hl.2, fun x hx => ?_⟩
 ·have h2 := h.1.1
  unfold nmB at h2
  have h3 := of_decide_eq_true h2
  have h4 : c.n.data.toList.length = c.n.size := rfl
  omega
 ·obtain ⟨h2, h3⟩ := h1 x hx
  have hcan := congrArg Ve.v (can_col (hF.can c hc) x hx)
  have h5 : canV x.v = x.v := hcan
  refine ⟨?_, ?_, (hz c hc x hx).2⟩
  ·unfold tmOk at h2
   have := of_decide_eq_true h2
   omega
  ·rw [← h5]
   unfold canV
   by_cases k1 : x.v.kind = 1
   ·rw [if_pos k1]
    unfold vRt at h3
    rw [k1] at h3
    simp at h3
    show x.v.b.length ≤ 20
    omega
   ·rw [if_neg k1]
    split <;> exact Nat.zero_le _
theorem copy_w {r : List Co} (hz : RowSz r) : RoW (copyR r) := (copy_fine r).row_w (copy_sz hz)
theorem encE_len {x : Ve} (h : VeW x) : (encE x).length ≤ 33 := by
 unfold encE
 have := encA_len h.2.1
 rw [List.length_append, be_len]
 omega
theorem flat_len {α : Type} (f : α → List UInt8) (k : Nat) : ∀ l : List α, (∀ x ∈ l, (f x).length ≤ k) → (l.flatMap f).length ≤ l.length * k
 | [], _ => Nat.zero_le _
 | x :: l, h => by
  have h1 := flat_len f k l fun y hy => h y (List.mem_cons_of_mem _ hy)
  have h2 := h x (by simp)
  rw [List.flatMap_cons, List.length_append, List.length_cons, Nat.add_mul]
  omega
theorem encC_len {c : Co} (h : CoW c) : (encC c).length ≤ 90 := by
 have h1 := flat_len encE 33 c.l fun x hx => encE_len (h.2.2 x hx)
 have h2 := Nat.mul_le_mul_right 33 h.2.1
 have h3 := h.1
 unfold encC
 simp only [List.length_append, be_len, List.length_singleton]
 omega
theorem encR_len {o : List Co} (h : RoW o) : (encR o).length ≤ 361 := by
 have h1 := flat_len encC 90 o fun c hc => encC_len (h.2 c hc)
 have h2 := Nat.mul_le_mul_right 90 h.1
 unfold encR
 rw [List.length_cons]
 omega
theorem flat_s {α : Type} {f : α → List UInt8} {l : List α} {i : Nat} {x : α} (h : l[i]? = some x) : (l.take (i + 1)).flatMap f = (l.take i).flatMap f ++ f x := by
 rw [List.take_add_one, h, List.flatMap_append]
 simp
def wrSt1 (o : List Co) (l : List UInt8) (i : Nat) : ASt := ⟨([.ptr 0 0] ++ List.replicate 17 .dead ++ [.list (o.map corow) .free, .v (.int .i64 o.length), .v (.int .i64 i)] ++ List.replicate 32 .dead), wr (l ++ [UInt8.ofNat o.length] ++ (o.take i).flatMap encC), 4⟩
def wrSt2 (o : List Co) (l : List UInt8) (i : Nat) (c : Co) (e : List UInt8) (k : Nat) : ASt := ⟨([.ptr 0 0] ++ List.replicate 17 .dead ++ [.list (o.map corow) .free, .v (.int .i64 o.length), .v (.int .i64 i)] ++ List.replicate 15 .dead ++ [.list (c.l.map verow) .free, .v (.int .i64 c.l.length), .v (.int .i64 k)] ++ List.replicate 14 .dead), wr (e ++ (c.l.take k).flatMap encE), 5⟩
theorem u8len (x : Nat) : IntKind.u8.wrap (x : Int) = ((UInt8.ofNat x).toNat : Int) := by
 rw [IntKind.wrap_u8]
 simp
set_option maxHeartbeats 6400000 in
theorem write_c (r : List Co) (l : List UInt8) (hr : r.length < 70368744177664) (hz : RowSz r) (hl : l.length < 10000000) : ACalls Tryz.prog 35 2 10000 [.ptr 0 0, rowA r] (wr l) (fun out H' => out = .ret (.tuple []) ∧ H' = wr (l ++ encR (copyR r))) := by
 have hcp := copy_f r hr hz
 have hw := copy_w hz
 generalize copyR r = o at *
 have ho4 := hw.1
 have hb1 := byte_c l (UInt8.ofNat o.length) (by omega)
 refine no_implicit_lambda% (acalls_of tok dok (f := 35) ⟨Tryz.func35, rfl, by kernel_rfl⟩ ?_); refine no_implicit_lambda% (c_start (fun _ h => h) ?_)
 repeat' (first | (refine no_implicit_lambda% (zH ?_)) | (((with_reducible refine no_implicit_lambda% (zA ?_)); refine no_implicit_lambda% (zD rfl rfl rfl (fun hc => ?_) (fun hc => ?_)) <;> first | exact zG hc | rw [hc])) | (((with_reducible refine no_implicit_lambda% (zB ?_)); refine no_implicit_lambda% (zE rfl (fun hc => ?_) (fun hc => ?_)) <;> first | exact zG hc | skip)) | (((with_reducible refine no_implicit_lambda% (zC ?_)); refine no_implicit_lambda% (zF rfl rfl (fun hc => ?_) (fun hc => ?_)) <;> first | exact zG hc | rw [hc])) | (refine no_implicit_lambda% (ans ?_)) | (with_reducible first | exact zI | exact zJ) | (refine no_implicit_lambda% (cal [] (hcp) ?_ ?_)) | fail)
 rw [List.length_map, u8len]
 repeat' (first | (refine no_implicit_lambda% (zH ?_)) | (((with_reducible refine no_implicit_lambda% (zA ?_)); refine no_implicit_lambda% (zD rfl rfl rfl (fun hc => ?_) (fun hc => ?_)) <;> first | exact zG hc | rw [hc])) | (((with_reducible refine no_implicit_lambda% (zB ?_)); refine no_implicit_lambda% (zE rfl (fun hc => ?_) (fun hc => ?_)) <;> first | exact zG hc | skip)) | (((with_reducible refine no_implicit_lambda% (zC ?_)); refine no_implicit_lambda% (zF rfl rfl (fun hc => ?_) (fun hc => ?_)) <;> first | exact zG hc | rw [hc])) | (refine no_implicit_lambda% (ans ?_)) | (with_reducible first | exact zI | exact zJ) | (refine no_implicit_lambda% (cal [0, 1] (hb1) ?_ ?_)) | fail)
 have hfl : ∀ i, ((o.take i).flatMap encC).length ≤ 360 := fun i => by
  have h1 := flat_len encC 90 (o.take i) fun c hc => encC_len (hw.2 c (List.mem_of_mem_take hc))
  have h2 : (o.take i).length ≤ 4 := by rw [List.length_take]; omega
  omega
 refine c_loop' (wrSt1 o l) (fun i => i ≤ o.length) (fun i => o.length - i) (a := 0) (Nat.zero_le _) ?_ ?_
 ·refine (Conv.toT ?_ ?_ (LE0 rfl))
  ·unfold wrSt1
   dsimp only
   rw [List.length_map]
   exact wkl
  ·unfold wrSt1
   simp only [List.take_zero, List.flatMap_nil, List.append_nil]
   exact wkh
 ·rintro i i1
  refine c_turn (n' := 4) (fun _ h => h) (fun _ h => h) rfl ?_
  have hfi := hfl i
  rcases hx : o[i]? with _ | c
  ·have hi : i = o.length := by have := List.getElem?_eq_none_iff.1 hx; omega
   repeat' (first | (refine no_implicit_lambda% (zH ?_)) | (((with_reducible refine no_implicit_lambda% (zA ?_)); refine no_implicit_lambda% (zD rfl rfl rfl (fun hc => ?_) (fun hc => ?_)) <;> first | exact zG hc | rw [hc])) | (((with_reducible refine no_implicit_lambda% (zB ?_)); refine no_implicit_lambda% (zE rfl (fun hc => ?_) (fun hc => ?_)) <;> first | exact zG hc | skip)) | (((with_reducible refine no_implicit_lambda% (zC ?_)); refine no_implicit_lambda% (zF rfl rfl (fun hc => ?_) (fun hc => ?_)) <;> first | exact zG hc | rw [hc])) | (refine no_implicit_lambda% (ans ?_)) | (with_reducible first | exact zI | exact zJ))
   subst hi
   rw [List.take_length]
   have he : l ++ [UInt8.ofNat o.length] ++ o.flatMap encC = l ++ encR o := by unfold encR; simp
   rw [he]
   exact e_ret (H' := wr (l ++ encR o)) (rest := _) rfl ⟨rfl, rfl⟩ permT (LE0 rfl)
  ·have hi : i < o.length := (List.getElem?_eq_some_iff.1 hx).1
   have hix := cox hx
   have hcw := hw.2 c (List.mem_of_getElem? hx)
   have hfs := flat_s (f := encC) hx
   obtain ⟨e0, he0⟩ : ∃ e0, e0 = l ++ [UInt8.ofNat o.length] ++ (o.take i).flatMap encC := ⟨_, rfl⟩
   have hel : e0.length ≤ l.length + 361 := by rw [he0]; simp only [List.length_append, List.length_singleton]; omega
   rw [← he0]
   have hn16 := hcw.1
   have ht := text_c e0 c.n.data.toList (by omega) (by omega)
   rw [if_pos (by omega)] at ht
   repeat' (first | (refine no_implicit_lambda% (zH ?_)) | (((with_reducible refine no_implicit_lambda% (zA ?_)); refine no_implicit_lambda% (zD rfl rfl rfl (fun hc => ?_) (fun hc => ?_)) <;> first | exact zG hc | rw [hc])) | (((with_reducible refine no_implicit_lambda% (zB ?_)); refine no_implicit_lambda% (zE rfl (fun hc => ?_) (fun hc => ?_)) <;> first | exact zG hc | skip)) | (((with_reducible refine no_implicit_lambda% (zC ?_)); refine no_implicit_lambda% (zF rfl rfl (fun hc => ?_) (fun hc => ?_)) <;> first | exact zG hc | rw [hc])) | (refine no_implicit_lambda% (ans ?_)) | (with_reducible first | exact zI | exact zJ))
   (with_reducible refine no_implicit_lambda% (zC ?_)); first | (refine no_implicit_lambda% (a_qS rfl (fun _ h => h) ?_ ?_)) | (refine no_implicit_lambda% (a_qS rfl (qIx (fun _ h => h)) ?_ ?_)) | (refine no_implicit_lambda% (a_qS rfl (qAnd5 (fun _ h => h)) ?_ ?_)) | (refine no_implicit_lambda% (a_qS rfl (qStr (fun _ h => h)) ?_ ?_)) | (refine no_implicit_lambda% (a_qS rfl (qAnd4 (fun _ h => h)) ?_ ?_)) | (refine no_implicit_lambda% (a_qS rfl (qAnd2 (fun _ h => h)) ?_ ?_))
   ·show c.n.data.toList.length ≤ 4611686018427387904
    omega
   repeat' (first | (refine no_implicit_lambda% (zH ?_)) | (((with_reducible refine no_implicit_lambda% (zA ?_)); refine no_implicit_lambda% (zD rfl rfl rfl (fun hc => ?_) (fun hc => ?_)) <;> first | exact zG hc | rw [hc])) | (((with_reducible refine no_implicit_lambda% (zB ?_)); refine no_implicit_lambda% (zE rfl (fun hc => ?_) (fun hc => ?_)) <;> first | exact zG hc | skip)) | (((with_reducible refine no_implicit_lambda% (zC ?_)); refine no_implicit_lambda% (zF rfl rfl (fun hc => ?_) (fun hc => ?_)) <;> first | exact zG hc | rw [hc])) | (refine no_implicit_lambda% (ans ?_)) | (with_reducible first | exact zI | exact zJ) | (refine no_implicit_lambda% (cal [0, 1] (ht) ?_ ?_)) | fail)
   rw [List.length_map, u8len]
   have hb2 := byte_c (e0 ++ (be c.n.data.toList.length 4 ++ c.n.data.toList)) (UInt8.ofNat c.l.length) (by simp only [List.length_append, be_len]; omega)
   repeat' (first | (refine no_implicit_lambda% (zH ?_)) | (((with_reducible refine no_implicit_lambda% (zA ?_)); refine no_implicit_lambda% (zD rfl rfl rfl (fun hc => ?_) (fun hc => ?_)) <;> first | exact zG hc | rw [hc])) | (((with_reducible refine no_implicit_lambda% (zB ?_)); refine no_implicit_lambda% (zE rfl (fun hc => ?_) (fun hc => ?_)) <;> first | exact zG hc | skip)) | (((with_reducible refine no_implicit_lambda% (zC ?_)); refine no_implicit_lambda% (zF rfl rfl (fun hc => ?_) (fun hc => ?_)) <;> first | exact zG hc | rw [hc])) | (refine no_implicit_lambda% (ans ?_)) | (with_reducible first | exact zI | exact zJ) | (refine no_implicit_lambda% (cal [0, 1] (hb2) ?_ ?_)) | fail)
   obtain ⟨e, he⟩ : ∃ e, e = e0 ++ (be c.n.data.toList.length 4 ++ c.n.data.toList) ++ [UInt8.ofNat c.l.length] := ⟨_, rfl⟩
   have hee : e.length ≤ l.length + 382 := by rw [he]; simp only [List.length_append, be_len, List.length_singleton]; omega
   rw [← he]
   have hl2 := hcw.2.1
   refine c_loop' (wrSt2 o l i c e) (fun k => k ≤ c.l.length) (fun k => c.l.length - k) (a := 0) (Nat.zero_le _) ?_ ?_
   ·refine (Conv.toT ?_ ?_ (LE0 rfl))
    ·unfold wrSt2
     dsimp only
     rw [List.length_map]
     exact wkl
    ·unfold wrSt2
     simp only [List.take_zero, List.flatMap_nil, List.append_nil]
     exact wkh
   ·rintro k k1
    refine c_turn (n' := 5) (fun _ h => h) (fun _ h => h) rfl ?_
    rcases hy : c.l[k]? with _ | x
    ·have hk : k = c.l.length := by have := List.getElem?_eq_none_iff.1 hy; omega
     repeat' (first | (refine no_implicit_lambda% (zH ?_)) | (((with_reducible refine no_implicit_lambda% (zA ?_)); refine no_implicit_lambda% (zD rfl rfl rfl (fun hc => ?_) (fun hc => ?_)) <;> first | exact zG hc | rw [hc])) | (((with_reducible refine no_implicit_lambda% (zB ?_)); refine no_implicit_lambda% (zE rfl (fun hc => ?_) (fun hc => ?_)) <;> first | exact zG hc | skip)) | (((with_reducible refine no_implicit_lambda% (zC ?_)); refine no_implicit_lambda% (zF rfl rfl (fun hc => ?_) (fun hc => ?_)) <;> first | exact zG hc | rw [hc])) | (refine no_implicit_lambda% (ans ?_)) | (with_reducible first | exact zI | exact zJ))
     subst hk
     rw [List.take_length]
     have h9 : e ++ c.l.flatMap encE = l ++ [UInt8.ofNat o.length] ++ (o.take (i + 1)).flatMap encC := by
      rw [hfs, he, he0]
      unfold encC
      simp only [List.append_assoc]
     rw [h9]
     (refine no_implicit_lambda% (k_loopLT (i + 1) 2 [0, 1, 2, 3] (show i + 1 ≤ o.length from hi) (by first | omega | (simp; done) | (simp; omega)) (LE0 rfl) (fun _ h => h) (fun _ h => h) ?_ ?_)); (focus ((try dsimp only); exact wkl)); (focus ((try dsimp only); exact wkh))
    ·have hk : k < c.l.length := (List.getElem?_eq_some_iff.1 hy).1
     have hiy := vex hy
     have hvw := hcw.2.2 x (List.mem_of_getElem? hy)
     have hfe := flat_s (f := encE) hy
     have hpl : ((c.l.take k).flatMap encE).length ≤ 66 := by
      have h1 := flat_len encE 33 (c.l.take k) fun y hy => encE_len (hcw.2.2 y (List.mem_of_mem_take hy))
      have h2 : (c.l.take k).length ≤ 2 := by rw [List.length_take]; omega
      omega
     have hl8 := long_c (e ++ (c.l.take k).flatMap encE) x.t.toNat (by have := hvw.1; omega) (by rw [List.length_append]; omega)
     have hpa := putA_c x.v hvw.2.1 hvw.2.2 (e ++ (c.l.take k).flatMap encE ++ be x.t.toNat 8) (by simp only [List.length_append, be_len]; omega)
     repeat' (first | (refine no_implicit_lambda% (zH ?_)) | (((with_reducible refine no_implicit_lambda% (zA ?_)); refine no_implicit_lambda% (zD rfl rfl rfl (fun hc => ?_) (fun hc => ?_)) <;> first | exact zG hc | rw [hc])) | (((with_reducible refine no_implicit_lambda% (zB ?_)); refine no_implicit_lambda% (zE rfl (fun hc => ?_) (fun hc => ?_)) <;> first | exact zG hc | skip)) | (((with_reducible refine no_implicit_lambda% (zC ?_)); refine no_implicit_lambda% (zF rfl rfl (fun hc => ?_) (fun hc => ?_)) <;> first | exact zG hc | rw [hc])) | (refine no_implicit_lambda% (ans ?_)) | (with_reducible first | exact zI | exact zJ))
     rw [show IntKind.u64.wrap x.t = (x.t.toNat : Int) by rw [IntKind.wrap_u64]; have := hvw.1; omega]
     repeat' (first | (refine no_implicit_lambda% (zH ?_)) | (((with_reducible refine no_implicit_lambda% (zA ?_)); refine no_implicit_lambda% (zD rfl rfl rfl (fun hc => ?_) (fun hc => ?_)) <;> first | exact zG hc | rw [hc])) | (((with_reducible refine no_implicit_lambda% (zB ?_)); refine no_implicit_lambda% (zE rfl (fun hc => ?_) (fun hc => ?_)) <;> first | exact zG hc | skip)) | (((with_reducible refine no_implicit_lambda% (zC ?_)); refine no_implicit_lambda% (zF rfl rfl (fun hc => ?_) (fun hc => ?_)) <;> first | exact zG hc | rw [hc])) | (refine no_implicit_lambda% (ans ?_)) | (with_reducible first | exact zI | exact zJ) | (refine no_implicit_lambda% (cal [0, 1] (hl8) ?_ ?_)) | (refine no_implicit_lambda% (cal [0, 1] (hpa) ?_ ?_)) | fail)
     have h9 : e ++ (c.l.take k).flatMap encE ++ be x.t.toNat 8 ++ encA x.v = e ++ (c.l.take (k + 1)).flatMap encE := by
      rw [hfe]
      unfold encE
      simp only [List.append_assoc]
     rw [h9]
     (refine no_implicit_lambda% (k_loopLT (k + 1) 2 [0, 1, 2, 3, 4] (show k + 1 ≤ c.l.length from hk) (by first | omega | (simp; done) | (simp; omega)) (LE0 rfl) (fun _ h => h) (fun _ h => h) ?_ ?_)); (focus ((try dsimp only); exact wkl)); (focus ((try dsimp only); exact wkh))
end Go.Proofs.YtjepgbpcpcahgaaGreat
namespace Go.Proofs.YtjepgbpcpcahgaaGreat
open Go.Am
set_option maxRecDepth 100000
def pB (l : List UInt8) : Option (Nat × List UInt8) := if 1 ≤ l.length then some (ubn (l.take 1) 0, l.drop 1) else none
def pN (l : List UInt8) : Option (Nat × List UInt8) := if 4 ≤ l.length then some (ubn (l.take 4) 0, l.drop 4) else none
instance (l : List UInt8) (m : Int) : Decidable (tOk l m) := by unfold tOk; infer_instance
def bnd {α β : Type} (o : Option (α × List UInt8)) (q : α → List UInt8 → Option β) : Option β := match o with
 | some (a, r) => q a r
 | none => none
theorem bnd_some {α β : Type} (a : α) (r : List UInt8) (q : α → List UInt8 → Option β) : bnd (some (a, r)) q = q a r := rfl
theorem bnd_none {α β : Type} (q : α → List UInt8 → Option β) : bnd none q = none := rfl
theorem rB_c (l : List UInt8) (h : l.length < 70368744177664) : ACalls Tryz.prog 87 1 2 [.ptr 0 0] (rd l) (fun out H' => (∃ x r, pB l = some (x, r) ∧ (x < 256 ∧ r.length ≤ l.length) ∧ out = .ret (.v (.int .u8 (x : Int))) ∧ H' = rd r) ∨ (pB l = none ∧ out = gone ∧ H' = [])) :=
 (rByte_c l h).mono fun o H' hh => by
  unfold pB
  rcases hh with ⟨h1, h2, h3⟩ | ⟨h1, h2, h3⟩
  ·refine .inl ⟨_, _, if_pos h1, ⟨?_, ?_⟩, h2, h3⟩
   ·have := ubn_take l 1; omega
   ·rw [List.length_drop]; omega
  ·exact .inr ⟨if_neg (by omega), h2, h3⟩
theorem rN_c (l : List UInt8) (h : l.length < 70368744177664) : ACalls Tryz.prog 107 1 2 [.ptr 0 0] (rd l) (fun out H' => (∃ x r, pN l = some (x, r) ∧ (x < 4294967296 ∧ r.length ≤ l.length) ∧ out = .ret (.v (.int .u32 (x : Int))) ∧ H' = rd r) ∨ (pN l = none ∧ out = gone ∧ H' = [])) :=
 (rNum_c l h).mono fun o H' hh => by
  unfold pN
  rcases hh with ⟨h1, h2, h3⟩ | ⟨h1, h2, h3⟩
  ·refine .inl ⟨_, _, if_pos h1, ⟨?_, ?_⟩, h2, h3⟩
   ·have := ubn_take l 4; omega
   ·rw [List.length_drop]; omega
  ·exact .inr ⟨if_neg (by omega), h2, h3⟩
end Go.Proofs.YtjepgbpcpcahgaaGreat
namespace Go.Proofs.YtjepgbpcpcahgaaGreat
open Go.Am
set_option maxRecDepth 100000
def pL (l : List UInt8) : Option (Nat × List UInt8) := if 8 ≤ l.length then some (ubn (l.take 8) 0, l.drop 8) else none
def pX (l : List UInt8) : Option (List UInt8 × List UInt8) := if tOk l 16 then some ((l.drop 4).take (ubn (l.take 4) 0), (l.drop 4).drop (ubn (l.take 4) 0)) else none
open Classical in
noncomputable def pV (l : List UInt8) : Option (Va × List UInt8) := if h : ∃ p : Va × List UInt8, GV l p.1 p.2 then some h.choose else none
theorem pV_some {l : List UInt8} {v : Va} {r : List UInt8} (h : GV l v r) : pV l = some (v, r) := by
 unfold pV
 have hx : ∃ p : Va × List UInt8, GV l p.1 p.2 := ⟨(v, r), h⟩
 rw [dif_pos hx]
 obtain ⟨h1, h2⟩ := GV.fn hx.choose_spec h
 rw [← h1, ← h2]
theorem pV_none {l : List UInt8} (h : ∀ v r, ¬ GV l v r) : pV l = none := by
 unfold pV
 rw [dif_neg (fun ⟨p, hp⟩ => h _ _ hp)]
noncomputable def pE (l : List UInt8) : Option (Ve × List UInt8) := bnd (pL l) fun t r => bnd (pV r) fun v r2 => some (⟨IntKind.i64.wrap (t : Int), v⟩, r2)
noncomputable def pEs : Nat → List UInt8 → Option (List Ve × List UInt8)
 | 0, l => some ([], l)
 | n + 1, l => bnd (pE l) fun x r => bnd (pEs n r) fun xs r2 => some (x :: xs, r2)
noncomputable def pC (l : List UInt8) : Option (Co × List UInt8) := bnd (pX l) fun s r => bnd (pB r) fun k r2 => bnd (pEs k r2) fun xs r3 => some (⟨⟨s.toArray⟩, xs⟩, r3)
noncomputable def pCs : Nat → List UInt8 → Option (List Co × List UInt8)
 | 0, l => some ([], l)
 | n + 1, l => bnd (pC l) fun c r => bnd (pCs n r) fun o r2 => some (c :: o, r2)
noncomputable def pRaw (l : List UInt8) : Option (List Co × List UInt8) := bnd (pB l) fun n r => pCs n r
noncomputable def pR (l : List UInt8) : Option (List Co × List UInt8) := bnd (pRaw l) fun o r => if rowB o then some (o, r) else none
theorem bnd_assoc {α β γ : Type} (p : Option (α × List UInt8)) (f : α → List UInt8 → Option (β × List UInt8)) (g : β → List UInt8 → Option γ) : bnd (bnd p f) g = bnd p fun a r => bnd (f a r) g := by
 cases p <;> rfl
theorem rL_c (l : List UInt8) (h : l.length < 70368744177664) : ACalls Tryz.prog 89 1 2 [.ptr 0 0] (rd l) (fun out H' => (∃ x r, pL l = some (x, r) ∧ (x < 18446744073709551616 ∧ r.length ≤ l.length) ∧ out = .ret (.v (.int .u64 (x : Int))) ∧ H' = rd r) ∨ (pL l = none ∧ out = gone ∧ H' = [])) :=
 (rLong_c l h).mono fun o H' hh => by
  unfold pL
  rcases hh with ⟨h1, h2, h3⟩ | ⟨h1, h2, h3⟩
  ·refine .inl ⟨_, _, if_pos h1, ⟨?_, ?_⟩, h2, h3⟩
   ·have := ubn_take l 8; omega
   ·rw [List.length_drop]; omega
  ·exact .inr ⟨if_neg (by omega), h2, h3⟩
theorem rX_c (l : List UInt8) (h : l.length < 70368744177664) : ACalls Tryz.prog 88 1 3 [.ptr 0 0, .v (.int .i64 16)] (rd l) (fun out H' => (∃ x r, pX l = some (x, r) ∧ (x.length ≤ 16 ∧ r.length ≤ l.length) ∧ out = .ret (.list (x.map brow) .free) ∧ H' = rd r) ∨ (pX l = none ∧ out = gone ∧ H' = [])) :=
 (rText_c l 16 h).mono fun o H' hh => by
  unfold pX
  rcases hh with ⟨h1, h2, h3⟩ | ⟨h1, h2, h3⟩
  ·refine .inl ⟨_, _, if_pos h1, ⟨?_, ?_⟩, h2, h3⟩
   ·have := h1.2.2.1 (by decide)
    rw [List.length_take]; omega
   ·simp only [List.length_drop]; omega
  ·exact .inr ⟨if_neg h1, h2, h3⟩
theorem GV.len {b : List UInt8} {v : Va} {r : List UInt8} (h : GV b v r) : v.b.length ≤ 16 ∧ r.length ≤ b.length := by
 obtain ⟨_, ⟨h1, h2, rfl, rfl⟩ | ⟨h1, _, rfl, rfl⟩⟩ := h
 ·have := h2.2.2.1 (by decide)
  refine ⟨?_, ?_⟩
  ·show List.length (List.take _ _) ≤ 16
   rw [List.length_take]; omega
  ·simp only [List.length_drop]; omega
 ·refine ⟨Nat.zero_le _, ?_⟩
  simp only [List.length_drop]; omega
theorem rV_c (l : List UInt8) (h : l.length < 100000000) : ACalls Tryz.prog 90 1 20 [.ptr 0 0] (rd l) (fun out H' => (∃ v r, pV l = some (v, r) ∧ ((v.b.length ≤ 16 ∧ v.n < 18446744073709551616) ∧ r.length ≤ l.length) ∧ out = .ret (vav v) ∧ H' = rd r) ∨ (pV l = none ∧ out = gone ∧ H' = [])) :=
 (getA_c l h).mono fun o H' hh => by
  rcases hh with ⟨v, r, hg, h2, h3⟩ | ⟨h1, h2, h3⟩
  ·exact .inl ⟨v, r, pV_some hg, ⟨⟨hg.len.1, hg.n⟩, hg.len.2⟩, h2, h3⟩
  ·exact .inr ⟨pV_none h1, h2, h3⟩
theorem right_o (o : List Co) (cp : Nat) (hl : o.length < 1000000) : ACalls Tryz.prog 26 1 1 [.agg [.arr 0 0 o.length cp]] [(0, .seq (o.map corow) ((cp - o.length) * 2))] (fun out H' => out = .ret (.v (.bool (rowB o))) ∧ H' = [(0, .seq (o.map corow) ((cp - o.length) * 2))]) :=
 (((right_c o (by omega)).top0).borrow (k := 1) (top := 1) (args := [.agg [.arr 0 0 o.length cp]]) (H := [(0, .seq (o.map corow) ((cp - o.length) * 2))]) rfl (fun out H' hh => by obtain ⟨rfl, rfl⟩ := hh; rfl) (fun i a' ha => by
  match i with
  | 0 =>
   simp at ha; subst ha
   refine ⟨_, rfl, .agg rfl fun j b hb => ?_⟩
   match j with
   | 0 =>
    simp at hb; subst hb
    exact ⟨_, rfl, .seq (k := (cp - o.length) * 2) (by simp) (coOk o) (by simp)⟩
   | j + 1 => simp at hb
  | i + 1 => simp at ha)).mono fun out H' hh => by
   obtain ⟨⟨_, h1, _⟩, h2⟩ := hh
   exact ⟨h1, h2⟩
def tkSt1 (cur : List UInt8) (acc : List Co) (cp n : Nat) : ASt := ⟨([.ptr 0 0, .dead, .ptr 1 0, .ptr 2 0, .v (.int .u8 n)] ++ List.replicate 44 .dead), rd cur ++ [(1, .box [.list [] .full]), (2, .box [.arr 4 0 acc.length cp]), (4, .seq (acc.map corow) ((cp - acc.length) * 2))], 5⟩
def tkSt2 (acc : List Co) (cp n : Nat) (s : ByteArray) (cur : List UInt8) (vs : List Ve) (k : Nat) : ASt := ⟨([.ptr 0 0, .dead, .ptr 1 0, .ptr 2 0, .v (.int .u8 n), .ptr 7 0, .v (.int .u8 k)] ++ List.replicate 42 .dead), rd cur ++ [(7, .box [.v (.string s), .list (vs.map verow) (.tok 9)]), (9, .tok 4 vs.length), (1, .box [.list [] .full]), (2, .box [.arr 4 0 acc.length cp]), (4, .seq (acc.map corow) ((cp - acc.length) * 2))], 10⟩
set_option maxHeartbeats 6400000 in
theorem take4_c (l : List UInt8) (hl : l.length < 10000000) : ACalls Tryz.prog 38 1 100000 [.ptr 0 0] (rd l) (fun out H' => (∃ o r, pR l = some (o, r) ∧ (RowSz o ∧ r.length ≤ l.length) ∧ out = .ret (rowA o) ∧ H' = rd r) ∨ (pR l = none ∧ out = gone ∧ H' = [])) := by
 refine no_implicit_lambda% (acalls_of tok dok (f := 38) ⟨Tryz.func38, rfl, by kernel_rfl⟩ ?_); refine no_implicit_lambda% (c_start (fun _ h => h) ?_)
 repeat' (first | (refine no_implicit_lambda% (zH ?_)) | (((with_reducible refine no_implicit_lambda% (zA ?_)); refine no_implicit_lambda% (zD rfl rfl rfl (fun hc => ?_) (fun hc => ?_)) <;> first | exact zG hc | rw [hc])) | (((with_reducible refine no_implicit_lambda% (zB ?_)); refine no_implicit_lambda% (zE rfl (fun hc => ?_) (fun hc => ?_)) <;> first | exact zG hc | skip)) | (((with_reducible refine no_implicit_lambda% (zC ?_)); refine no_implicit_lambda% (zF rfl rfl (fun hc => ?_) (fun hc => ?_)) <;> first | exact zG hc | rw [hc])) | (refine no_implicit_lambda% (ans ?_)) | (with_reducible first | exact zI | exact zJ))
 (refine no_implicit_lambda% (cal [0] (rB_c l (by omega)) ?_ ?_))
 rotate_left
 ·intro xx H' hh; rcases hh with ⟨_, _, _, _, h', _⟩ | ⟨hN, h', rfl⟩ <;> first | (cases h'; done) | (cases h'; refine no_implicit_lambda% (awd ?_); exact e_pan (H' := []) (rest := _) (.inr ⟨by (unfold pR pRaw; rw [hN]; rfl), rfl, rfl⟩) permT (LE0 rfl))
 ·intro xx H' hh
  rcases hh with ⟨N, r0, hB, ⟨hN, hr0⟩, h', rfl⟩ | ⟨_, h', _⟩
  rotate_left
  ·cases h'
  cases h'
  first | (refine no_implicit_lambda% (akc ?_)) | (refine no_implicit_lambda% (aec ?_))
  repeat' (first | (refine no_implicit_lambda% (zH ?_)) | (((with_reducible refine no_implicit_lambda% (zA ?_)); refine no_implicit_lambda% (zD rfl rfl rfl (fun hc => ?_) (fun hc => ?_)) <;> first | exact zG hc | rw [hc])) | (((with_reducible refine no_implicit_lambda% (zB ?_)); refine no_implicit_lambda% (zE rfl (fun hc => ?_) (fun hc => ?_)) <;> first | exact zG hc | skip)) | (((with_reducible refine no_implicit_lambda% (zC ?_)); refine no_implicit_lambda% (zF rfl rfl (fun hc => ?_) (fun hc => ?_)) <;> first | exact zG hc | rw [hc])) | (refine no_implicit_lambda% (ans ?_)) | (with_reducible first | exact zI | exact zJ))
  have hraw : pRaw l = pCs N r0 := by unfold pRaw; rw [hB]; rfl
  refine c_l4 (fun cur acc cp n => tkSt1 cur acc cp n) (fun cur acc cp n => cur.length ≤ l.length ∧ acc.length ≤ cp ∧ cp ≤ maxLen ∧ RowSz acc ∧ acc.length + n ≤ 255 ∧ pRaw l = bnd (pCs n cur) fun o r => some (acc ++ o, r)) (fun _ _ _ n => n) r0 [] 0 N ⟨hr0, Nat.le_refl _, by decide, (fun c hc => by cases hc), by simp; omega, by rw [hraw]; cases pCs N r0 <;> rfl⟩ ((Conv.nilBox (id := 2) (j := 0) (cells := [.list [] .full]) rfl rfl).trans ?_) ?_
  ·(refine no_implicit_lambda% (Conv.toT ?_ ?_ (LE0 rfl))); (focus ((unfold tkSt1); (try dsimp only); exact wkl)); (focus ((unfold tkSt1); (try dsimp only); exact wkh))
  ·rintro cur acc cp n ⟨h1, h2, h3, hz, h5, hE⟩
   refine c_turn (n' := 5) (fun _ h => h) (fun _ h => h) rfl ?_
   rcases n with _ | n
   ·have hro := right_o acc cp (by omega)
    have hfc := fail_c cur
    have hraw2 : pRaw l = some (acc, cur) := by rw [hE]; show some (acc ++ [], cur) = _; rw [List.append_nil]
    have hpR : pR l = if rowB acc then some (acc, cur) else none := by unfold pR; rw [hraw2]; rfl
    repeat' (first | (refine no_implicit_lambda% (zH ?_)) | (((with_reducible refine no_implicit_lambda% (zA ?_)); refine no_implicit_lambda% (zD rfl rfl rfl (fun hc => ?_) (fun hc => ?_)) <;> first | exact zG hc | rw [hc])) | (((with_reducible refine no_implicit_lambda% (zB ?_)); refine no_implicit_lambda% (zE rfl (fun hc => ?_) (fun hc => ?_)) <;> first | exact zG hc | skip)) | (((with_reducible refine no_implicit_lambda% (zC ?_)); refine no_implicit_lambda% (zF rfl rfl (fun hc => ?_) (fun hc => ?_)) <;> first | exact zG hc | rw [hc])) | (refine no_implicit_lambda% (ans ?_)) | (with_reducible first | exact zI | exact zJ) | (refine no_implicit_lambda% (cal [4] (hro) ?_ ?_)) | fail)
    ·have hb : rowB acc = false := by simpa using hc
     rw [hb] at hpR
     (refine no_implicit_lambda% (cal [0] (hfc) ?_ ?_))
     ·first | (exact zI) | (exact zJ)
     ·intro xx H' hh
      obtain ⟨h', rfl⟩ := hh
      cases h'
      repeat' (first | (refine no_implicit_lambda% (zH ?_)) | (((with_reducible refine no_implicit_lambda% (zA ?_)); refine no_implicit_lambda% (zD rfl rfl rfl (fun hc => ?_) (fun hc => ?_)) <;> first | exact zG hc | rw [hc])) | (((with_reducible refine no_implicit_lambda% (zB ?_)); refine no_implicit_lambda% (zE rfl (fun hc => ?_) (fun hc => ?_)) <;> first | exact zG hc | skip)) | (((with_reducible refine no_implicit_lambda% (zC ?_)); refine no_implicit_lambda% (zF rfl rfl (fun hc => ?_) (fun hc => ?_)) <;> first | exact zG hc | rw [hc])) | (refine no_implicit_lambda% (ans ?_)) | (with_reducible first | exact zI | exact zJ))
      exact e_pan (H' := []) (rest := _) (.inr ⟨hpR, rfl, rfl⟩) permT (LE0 rfl)
    ·have hb : rowB acc = true := by simpa using hc
     rw [hb] at hpR
     refine e_ret_to (H' := rd cur) (rest := [(1, .box [.list (acc.map corow) .free])]) ((Conv.toT (τ := ⟨_, [(4, .seq (acc.map corow) ((cp - acc.length) * 2)), (1, .box [.arr 4 0 acc.length cp]), (0, .box [.list (cur.map brow) .free])], _⟩) (.refl _) ?_ (Nat.le_refl _)).trans (Conv.freezeBox (id := 4) (bid := 1) (j := 0) (.refl _) rfl (coOk acc) (List.length_map ..))) rfl (.inl ⟨acc, cur, hpR, ⟨hz, h1⟩, rfl, rfl⟩) permT (LE0 rfl)
     exact wkh
   ·repeat' (first | (refine no_implicit_lambda% (zH ?_)) | (((with_reducible refine no_implicit_lambda% (zA ?_)); refine no_implicit_lambda% (zD rfl rfl rfl (fun hc => ?_) (fun hc => ?_)) <;> first | exact zG hc | rw [hc])) | (((with_reducible refine no_implicit_lambda% (zB ?_)); refine no_implicit_lambda% (zE rfl (fun hc => ?_) (fun hc => ?_)) <;> first | exact zG hc | skip)) | (((with_reducible refine no_implicit_lambda% (zC ?_)); refine no_implicit_lambda% (zF rfl rfl (fun hc => ?_) (fun hc => ?_)) <;> first | exact zG hc | rw [hc])) | (refine no_implicit_lambda% (ans ?_)) | (with_reducible first | exact zI | exact zJ))
    (refine no_implicit_lambda% (cal [0] (rX_c cur (by omega)) ?_ ?_))
    rotate_left
    ·intro xx H' hh; rcases hh with ⟨_, _, _, _, h', _⟩ | ⟨hN, h', rfl⟩ <;> first | (cases h'; done) | (cases h'; refine no_implicit_lambda% (awd ?_); exact e_pan (H' := []) (rest := _) (.inr ⟨by (unfold pR; rw [hE]; simp only [pCs, pC, hN, bnd_none]), rfl, rfl⟩) permT (LE0 rfl))
    intro xx H' hh
    rcases hh with ⟨s, r1, hX, ⟨hs16, hr1⟩, h', rfl⟩ | ⟨_, h', _⟩
    rotate_left
    ·cases h'
    cases h'
    first | (refine no_implicit_lambda% (akc ?_)) | (refine no_implicit_lambda% (aec ?_))
    repeat' (first | (refine no_implicit_lambda% (zH ?_)) | (((with_reducible refine no_implicit_lambda% (zA ?_)); refine no_implicit_lambda% (zD rfl rfl rfl (fun hc => ?_) (fun hc => ?_)) <;> first | exact zG hc | rw [hc])) | (((with_reducible refine no_implicit_lambda% (zB ?_)); refine no_implicit_lambda% (zE rfl (fun hc => ?_) (fun hc => ?_)) <;> first | exact zG hc | skip)) | (((with_reducible refine no_implicit_lambda% (zC ?_)); refine no_implicit_lambda% (zF rfl rfl (fun hc => ?_) (fun hc => ?_)) <;> first | exact zG hc | rw [hc])) | (refine no_implicit_lambda% (ans ?_)) | (with_reducible first | exact zI | exact zJ))
    (refine no_implicit_lambda% (cal [0] (rB_c r1 (by omega)) ?_ ?_))
    rotate_left
    ·intro xx H' hh; rcases hh with ⟨_, _, _, _, h', _⟩ | ⟨hN, h', rfl⟩ <;> first | (cases h'; done) | (cases h'; refine no_implicit_lambda% (awd ?_); exact e_pan (H' := []) (rest := _) (.inr ⟨by (unfold pR; rw [hE]; simp only [pCs, pC, hX, bnd_some, hN, bnd_none]), rfl, rfl⟩) permT (LE0 rfl))
    intro xx H' hh
    rcases hh with ⟨K, r2, hB2, ⟨hK, hr2⟩, h', rfl⟩ | ⟨_, h', _⟩
    rotate_left
    ·cases h'
    cases h'
    first | (refine no_implicit_lambda% (akc ?_)) | (refine no_implicit_lambda% (aec ?_))
    repeat' (first | (refine no_implicit_lambda% (zH ?_)) | (((with_reducible refine no_implicit_lambda% (zA ?_)); refine no_implicit_lambda% (zD rfl rfl rfl (fun hc => ?_) (fun hc => ?_)) <;> first | exact zG hc | rw [hc])) | (((with_reducible refine no_implicit_lambda% (zB ?_)); refine no_implicit_lambda% (zE rfl (fun hc => ?_) (fun hc => ?_)) <;> first | exact zG hc | skip)) | (((with_reducible refine no_implicit_lambda% (zC ?_)); refine no_implicit_lambda% (zF rfl rfl (fun hc => ?_) (fun hc => ?_)) <;> first | exact zG hc | rw [hc])) | (refine no_implicit_lambda% (ans ?_)) | (with_reducible first | exact zI | exact zJ))
    have hE2 : pRaw l = bnd (pEs K r2) fun xs r => bnd (pCs n r) fun o r3 => some (acc ++ ⟨⟨s.toArray⟩, [] ++ xs⟩ :: o, r3) := by
     rw [hE]
     simp only [pCs, pC, hX, bnd_some, hB2, bnd_assoc, List.nil_append]
    refine c_l3 (fun cur2 vs k => tkSt2 acc cp (n + 1) ⟨s.toArray⟩ cur2 vs k) (fun cur2 vs k => cur2.length ≤ l.length ∧ vs.length + k ≤ 255 ∧ (∀ x ∈ vs, x.v.b.length < 1073741824 ∧ x.v.n < 18446744073709551616) ∧ pRaw l = bnd (pEs k cur2) fun xs r => bnd (pCs n r) fun o r3 => some (acc ++ ⟨⟨s.toArray⟩, vs ++ xs⟩ :: o, r3)) (fun _ _ k => k) r2 [] K ⟨by omega, by simp; omega, (fun c hc => by cases hc), hE2⟩ ((Conv.tokBox (id := 7) (j := 1) (sz := 4) (rows := []) rfl rfl (by simp)).trans ?_) ?_
    ·(refine no_implicit_lambda% (Conv.toT ?_ ?_ (LE0 rfl))); (focus ((unfold tkSt2); (try dsimp only); exact wkl)); (focus ((unfold tkSt2); (try dsimp only); exact wkh))
    ·rintro cur2 vs k ⟨g1, g2, g3, hE3⟩
     refine c_turn (n' := 10) (fun _ h => h) (fun _ h => h) rfl ?_
     rcases k with _ | k
     ·repeat' (first | (refine no_implicit_lambda% (zH ?_)) | (((with_reducible refine no_implicit_lambda% (zA ?_)); refine no_implicit_lambda% (zD rfl rfl rfl (fun hc => ?_) (fun hc => ?_)) <;> first | exact zG hc | rw [hc])) | (((with_reducible refine no_implicit_lambda% (zB ?_)); refine no_implicit_lambda% (zE rfl (fun hc => ?_) (fun hc => ?_)) <;> first | exact zG hc | skip)) | (((with_reducible refine no_implicit_lambda% (zC ?_)); refine no_implicit_lambda% (zF rfl rfl (fun hc => ?_) (fun hc => ?_)) <;> first | exact zG hc | rw [hc])) | (refine no_implicit_lambda% (ans ?_)) | (with_reducible first | exact zI | exact zJ))
      ((with_reducible refine no_implicit_lambda% (zC ?_)); refine no_implicit_lambda% (a_appS (sz := 2) (B := 40) (m2 := (acc ++ [(⟨⟨s.toArray⟩, vs⟩ : Co)]).length) (rows3 := (acc ++ [(⟨⟨s.toArray⟩, vs⟩ : Co)]).map corow) rfl rfl rfl rfl rfl rfl rfl rfl rfl rfl rfl (fun _ h => h) rfl rfl (coOk acc) (coOk [(⟨⟨s.toArray⟩, vs⟩ : Co)]) (by first | rfl | (exact List.length_map ..) | (simp; done) | (simp; omega)) rfl (by first | omega | (simp; omega)) (by first | rfl | (simp; done) | (simp; omega)) (by first | rfl | (exact map_snoc _ _) | (rw [List.map_append]; rfl) | (simp; done)) ?_))
      intro cp' c1 c2
      refine no_implicit_lambda% (akc ?_)
      repeat' (first | (refine no_implicit_lambda% (zH ?_)) | (((with_reducible refine no_implicit_lambda% (zA ?_)); refine no_implicit_lambda% (zD rfl rfl rfl (fun hc => ?_) (fun hc => ?_)) <;> first | exact zG hc | rw [hc])) | (((with_reducible refine no_implicit_lambda% (zB ?_)); refine no_implicit_lambda% (zE rfl (fun hc => ?_) (fun hc => ?_)) <;> first | exact zG hc | skip)) | (((with_reducible refine no_implicit_lambda% (zC ?_)); refine no_implicit_lambda% (zF rfl rfl (fun hc => ?_) (fun hc => ?_)) <;> first | exact zG hc | rw [hc])) | (refine no_implicit_lambda% (ans ?_)) | (with_reducible first | exact zI | exact zJ))
      rw [show IntKind.u8.wrap (((n + 1 : Nat) : Int) - 1) = (n : Int) by rw [IntKind.wrap_u8]; omega]
      (refine no_implicit_lambda% (k_loopLT (((cur2, acc ++ [(⟨⟨s.toArray⟩, vs⟩ : Co)], cp', n) : List UInt8 × List Co × Nat × Nat)) 1 [0, 1, 2, 3, 10] (by
       show cur2.length ≤ l.length ∧ (acc ++ [(⟨⟨s.toArray⟩, vs⟩ : Co)]).length ≤ cp' ∧ cp' ≤ maxLen ∧ RowSz (acc ++ [(⟨⟨s.toArray⟩, vs⟩ : Co)]) ∧ (acc ++ [(⟨⟨s.toArray⟩, vs⟩ : Co)]).length + n ≤ 255 ∧ pRaw l = bnd (pCs n cur2) fun o r => some ((acc ++ [(⟨⟨s.toArray⟩, vs⟩ : Co)]) ++ o, r)
       refine ⟨g1, c1, c2, fun c hc => ?_, by rw [List.length_append]; simp; omega, ?_⟩
       ·rcases List.mem_append.1 hc with hc | hc
        ·exact hz c hc
        ·rw [List.mem_singleton.1 hc]; exact g3
       ·rw [hE3]
        simp only [pEs, bnd_some, List.append_nil, List.append_assoc, List.singleton_append]) (by first | omega | (simp; done) | (simp; omega)) (LE0 rfl) (fun _ h => h) (fun _ h => h) ?_ ?_)); (focus ((try dsimp only); exact wkl)); (focus ((try dsimp only); exact wkh))
     ·repeat' (first | (refine no_implicit_lambda% (zH ?_)) | (((with_reducible refine no_implicit_lambda% (zA ?_)); refine no_implicit_lambda% (zD rfl rfl rfl (fun hc => ?_) (fun hc => ?_)) <;> first | exact zG hc | rw [hc])) | (((with_reducible refine no_implicit_lambda% (zB ?_)); refine no_implicit_lambda% (zE rfl (fun hc => ?_) (fun hc => ?_)) <;> first | exact zG hc | skip)) | (((with_reducible refine no_implicit_lambda% (zC ?_)); refine no_implicit_lambda% (zF rfl rfl (fun hc => ?_) (fun hc => ?_)) <;> first | exact zG hc | rw [hc])) | (refine no_implicit_lambda% (ans ?_)) | (with_reducible first | exact zI | exact zJ))
      (refine no_implicit_lambda% (cal [0] (rL_c cur2 (by omega)) ?_ ?_))
      rotate_left
      ·intro xx H' hh; rcases hh with ⟨_, _, _, _, h', _⟩ | ⟨hN, h', rfl⟩ <;> first | (cases h'; done) | (cases h'; refine no_implicit_lambda% (awd ?_); exact e_pan (H' := []) (rest := _) (.inr ⟨by (unfold pR; rw [hE3]; simp only [pEs, pE, hN, bnd_none]), rfl, rfl⟩) permT (LE0 rfl))
      intro xx H' hh
      rcases hh with ⟨t, r3, hL, ⟨ht, hr3⟩, h', rfl⟩ | ⟨_, h', _⟩
      rotate_left
      ·cases h'
      cases h'
      first | (refine no_implicit_lambda% (akc ?_)) | (refine no_implicit_lambda% (aec ?_))
      repeat' (first | (refine no_implicit_lambda% (zH ?_)) | (((with_reducible refine no_implicit_lambda% (zA ?_)); refine no_implicit_lambda% (zD rfl rfl rfl (fun hc => ?_) (fun hc => ?_)) <;> first | exact zG hc | rw [hc])) | (((with_reducible refine no_implicit_lambda% (zB ?_)); refine no_implicit_lambda% (zE rfl (fun hc => ?_) (fun hc => ?_)) <;> first | exact zG hc | skip)) | (((with_reducible refine no_implicit_lambda% (zC ?_)); refine no_implicit_lambda% (zF rfl rfl (fun hc => ?_) (fun hc => ?_)) <;> first | exact zG hc | rw [hc])) | (refine no_implicit_lambda% (ans ?_)) | (with_reducible first | exact zI | exact zJ))
      (refine no_implicit_lambda% (cal [0] (rV_c r3 (by omega)) ?_ ?_))
      rotate_left
      ·intro xx H' hh; rcases hh with ⟨_, _, _, _, h', _⟩ | ⟨hN, h', rfl⟩ <;> first | (cases h'; done) | (cases h'; refine no_implicit_lambda% (awd ?_); exact e_pan (H' := []) (rest := _) (.inr ⟨by (unfold pR; rw [hE3]; simp only [pEs, pE, hL, bnd_some, hN, bnd_none]), rfl, rfl⟩) permT (LE0 rfl))
      intro xx H' hh
      rcases hh with ⟨v, r4, hV, ⟨hv, hr4⟩, h', rfl⟩ | ⟨_, h', _⟩
      rotate_left
      ·cases h'
      cases h'
      first | (refine no_implicit_lambda% (akc ?_)) | (refine no_implicit_lambda% (aec ?_))
      repeat' (first | (refine no_implicit_lambda% (zH ?_)) | (((with_reducible refine no_implicit_lambda% (zA ?_)); refine no_implicit_lambda% (zD rfl rfl rfl (fun hc => ?_) (fun hc => ?_)) <;> first | exact zG hc | rw [hc])) | (((with_reducible refine no_implicit_lambda% (zB ?_)); refine no_implicit_lambda% (zE rfl (fun hc => ?_) (fun hc => ?_)) <;> first | exact zG hc | skip)) | (((with_reducible refine no_implicit_lambda% (zC ?_)); refine no_implicit_lambda% (zF rfl rfl (fun hc => ?_) (fun hc => ?_)) <;> first | exact zG hc | rw [hc])) | (refine no_implicit_lambda% (ans ?_)) | (with_reducible first | exact zI | exact zJ))
      rw [show IntKind.u8.wrap (((k + 1 : Nat) : Int) - 1) = (k : Int) by rw [IntKind.wrap_u8]; omega]
      (refine no_implicit_lambda% (k_loopLT (((r4, vs ++ [(⟨IntKind.i64.wrap (t : Int), v⟩ : Ve)], k) : List UInt8 × List Ve × Nat)) 1 (List.range 10) (by
       show r4.length ≤ l.length ∧ (vs ++ [(⟨IntKind.i64.wrap (t : Int), v⟩ : Ve)]).length + k ≤ 255 ∧ (∀ x ∈ vs ++ [(⟨IntKind.i64.wrap (t : Int), v⟩ : Ve)], x.v.b.length < 1073741824 ∧ x.v.n < 18446744073709551616) ∧ pRaw l = bnd (pEs k r4) fun xs r => bnd (pCs n r) fun o r3 => some (acc ++ ⟨⟨s.toArray⟩, (vs ++ [(⟨IntKind.i64.wrap (t : Int), v⟩ : Ve)]) ++ xs⟩ :: o, r3)
       refine ⟨by omega, by rw [List.length_append]; simp; omega, fun x hx => ?_, ?_⟩
       ·rcases List.mem_append.1 hx with hx | hx
        ·exact g3 x hx
        ·rw [List.mem_singleton.1 hx]; exact ⟨by have := hv.1; show v.b.length < _; omega, hv.2⟩
       ·rw [hE3]
        simp only [pEs, pE, hL, bnd_some, hV, bnd_assoc, List.append_assoc, List.singleton_append]) (by first | omega | (simp; done) | (simp; omega)) (LE0 rfl) (fun _ h => h) (fun _ h => h) ?_ ?_)); (focus ((try dsimp only); exact wkl)); (focus ((try dsimp only); exact wkh))
end Go.Proofs.YtjepgbpcpcahgaaGreat
namespace Go.Proofs.YtjepgbpcpcahgaaGreat
open Go.Am
set_option maxRecDepth 100000
end Go.Proofs.YtjepgbpcpcahgaaGreat
namespace Go.Proofs.YtjepgbpcpcahgaaGreat
open Go.Am
set_option maxRecDepth 100000
abbrev dQ {α : Type} (p : List UInt8 → Option (α × List UInt8)) (ok : α → Prop) (val : α → AV) (l : List UInt8) (bad : Bool) (out : AOut) (H' : Heap) : Prop :=
 ∃ x l' bad', ok x ∧ l'.length ≤ l.length ∧ (bad' = false → bad = false ∧ p l = some (x, l')) ∧ (bad' = true → l' = [] ∧ (bad = false → p l = none)) ∧ out = .ret (val x) ∧ H' = rr l' bad'
theorem rd_fcts (n : Nat) (l : List UInt8) (bad : Bool) : (rLeft n l bad).length ≤ l.length ∧ (rBad n l bad = false → bad = false ∧ n ≤ l.length ∧ rSome n l bad = l.take n ∧ rLeft n l bad = l.drop n) ∧ (rBad n l bad = true → rLeft n l bad = [] ∧ (bad = false → ¬ n ≤ l.length)) := by
 refine ⟨rLeft_len n l bad, fun h => ?_, fun h => ?_⟩
 ·unfold rBad at h
  have h' : bad = false ∧ n ≤ l.length := by simpa using h
  exact ⟨h'.1, h'.2, by unfold rSome; rw [if_pos h'], by unfold rLeft; rw [if_pos h']⟩
 ·unfold rBad at h
  have h' : ¬ (bad = false ∧ n ≤ l.length) := fun hh => by rw [decide_eq_true hh] at h; cases h
  exact ⟨by unfold rLeft; rw [if_neg h'], fun hb hn => h' ⟨hb, hn⟩⟩
theorem ubn_l1 {l : List UInt8} (h : l.length = 1) : ubn l 0 < 256 := by
 have := ubn_take l 1
 rwa [List.take_of_length_le (by omega)] at this
theorem qB_c (l : List UInt8) (bad : Bool) (h : l.length < 70368744177664) : ACalls Tryz.prog 92 1 4 [.ptr 0 0] (rr l bad) (dQ pB (· < 256) (fun x => .v (.int .u8 (x : Nat))) l bad) :=
 (refByte_c l bad h).mono fun out H' ⟨h1, h2⟩ => by
  obtain ⟨f1, f2, f3⟩ := rd_fcts 1 l bad
  refine ⟨_, _, _, ubn_l1 (rSome_len 1 l bad (by decide)), f1, fun hb => ?_, fun hb => ?_, h1, h2⟩
  ·obtain ⟨g1, g2, g3, g4⟩ := f2 hb
   exact ⟨g1, by unfold pB; rw [if_pos g2, g3, g4]⟩
  ·obtain ⟨g1, g2⟩ := f3 hb
   exact ⟨g1, fun hb => by unfold pB; rw [if_neg (g2 hb)]⟩
theorem qL_c (l : List UInt8) (bad : Bool) (h : l.length < 70368744177664) : ACalls Tryz.prog 94 1 7 [.ptr 0 0] (rr l bad) (dQ pL (· < 18446744073709551616) (fun x => .v (.int .u64 (x : Nat))) l bad) :=
 (refRLong_c l bad h).mono fun out H' ⟨h1, h2⟩ => by
  have e1 := rLeft_len 4 l bad
  have e2 := rLeft_len 4 (rLeft 4 l bad) (rBad 4 l bad)
  cases bad with
  | false =>
   by_cases h8 : 8 ≤ l.length
   ·obtain ⟨a1, a2, a3⟩ := long_ok h8
    refine ⟨_, _, _, rLong_lt l false, by omega, fun _ => ⟨rfl, ?_⟩, fun hb => ?_, h1, h2⟩
    ·unfold pL; rw [if_pos h8, a1, a2]
    ·rw [a3] at hb; cases hb
   ·obtain ⟨a2, a3⟩ := long_no (b := l) (by omega)
    refine ⟨_, _, _, rLong_lt l false, by omega, fun hb => ?_, fun _ => ⟨a2, fun _ => ?_⟩, h1, h2⟩
    ·rw [a3] at hb; cases hb
    ·unfold pL; rw [if_neg h8]
  | true =>
   obtain ⟨b1, b2⟩ := @bad_no 4 l
   have b3 : rLeft 4 (rLeft 4 l true) (rBad 4 l true) = [] ∧ rBad 4 (rLeft 4 l true) (rBad 4 l true) = true := by rw [b2]; exact bad_no
   refine ⟨_, _, _, rLong_lt l true, by omega, fun hb => ?_, fun _ => ⟨b3.1, fun hb => by cases hb⟩, h1, h2⟩
   rw [b3.2] at hb; cases hb
theorem qX_c (l : List UInt8) (bad : Bool) (h : l.length < 70368744177664) : ACalls Tryz.prog 93 1 8 [.ptr 0 0, .v (.int .i64 16)] (rr l bad) (dQ pX (·.length ≤ 16) (fun x => .list (x.map brow) .free) l bad) := by
 by_cases hok : bad = false ∧ tOk l 16
 ·obtain ⟨rfl, hT⟩ := hok
  refine (refRText_c l 16 h).mono fun out H' hh => ?_
  rcases hh with ⟨_, h2, h3⟩ | ⟨h1, _⟩
  ·refine ⟨_, _, false, ?_, ?_, fun _ => ⟨rfl, by unfold pX; rw [if_pos hT]⟩, fun h => (by cases h), h2, h3⟩
   ·have := hT.2.2.1 (by decide)
    show List.length (List.take _ _) ≤ 16
    rw [List.length_take]; omega
   ·simp only [List.length_drop]; omega
  ·exact absurd hT h1
 ·have hno : bad = false → pX l = none := fun hb => by unfold pX; rw [if_neg (fun hT => hok ⟨hb, hT⟩)]
  have hC := refRNum_c l bad h
  have hlt := some4_lt l bad
  have hfin : dQ pX (·.length ≤ 16) (fun x => .list (x.map brow) .free) l bad (.ret (.list [] .free)) (rr [] true) := ⟨[], [], true, Nat.zero_le _, Nat.zero_le _, fun h => (by cases h), fun _ => ⟨rfl, hno⟩, rfl, rfl⟩
  obtain ⟨_, f2, f3⟩ := rd_fcts 4 l bad
  cases hbb : rBad 4 l bad with
  | true =>
   rw [hbb] at hC
   rw [(f3 hbb).1] at hC
   generalize ubn (rSome 4 l bad) 0 = n at *
   refine no_implicit_lambda% (acalls_of tok dok (f := 93) ⟨Tryz.func93, rfl, by kernel_rfl⟩ ?_); refine no_implicit_lambda% (c_start (fun _ h => h) ?_)
   refine no_implicit_lambda% (awd ?_)
   refine no_implicit_lambda% (cal [0] (hC) ?_ ?_)
   ·refine no_implicit_lambda% (ret1 ?_); first | (refine no_implicit_lambda% (akc ?_)) | (refine no_implicit_lambda% (aec ?_))
    repeat' (first | (refine no_implicit_lambda% (zH ?_)) | (((with_reducible refine no_implicit_lambda% (zA ?_)); refine no_implicit_lambda% (zD rfl rfl rfl (fun hc => ?_) (fun hc => ?_)) <;> first | exact zG hc | rw [hc])) | (((with_reducible refine no_implicit_lambda% (zB ?_)); refine no_implicit_lambda% (zE rfl (fun hc => ?_) (fun hc => ?_)) <;> first | exact zG hc | skip)) | (((with_reducible refine no_implicit_lambda% (zC ?_)); refine no_implicit_lambda% (zF rfl rfl (fun hc => ?_) (fun hc => ?_)) <;> first | exact zG hc | rw [hc])) | (refine no_implicit_lambda% (ans ?_)) | (with_reducible first | exact zI | exact zJ) | (refine no_implicit_lambda% (cal [0] (refFail_c [] true) ?_ ?_)) | fail)
    all_goals exact e_ret_to (H' := rr [] true) (rest := []) (.freeSlot 4 rfl) rfl hfin (.of_eq rfl) (LE0 rfl)
   ·first | (exact zI) | (exact zJ)
  | false =>
   obtain ⟨rfl, h4, g1, g2⟩ := f2 hbb
   rw [g1] at hlt
   rw [g1, g2, hbb] at hC
   generalize hn : ubn (l.take 4) 0 = n at *
   have hf : ¬ tOk l 16 := fun hT => hok ⟨rfl, hT⟩
   have hf2 : ¬ ((n : Int) ≤ 16 ∧ n ≤ (l.drop 4).length) := fun ⟨a1, a2⟩ => hf ⟨h4, by omega, fun _ => by omega, by omega⟩
   refine no_implicit_lambda% (acalls_of tok dok (f := 93) ⟨Tryz.func93, rfl, by kernel_rfl⟩ ?_); refine no_implicit_lambda% (c_start (fun _ h => h) ?_)
   refine no_implicit_lambda% (awd ?_)
   refine no_implicit_lambda% (cal [0] (hC) ?_ ?_)
   ·refine no_implicit_lambda% (ret1 ?_); first | (refine no_implicit_lambda% (akc ?_)) | (refine no_implicit_lambda% (aec ?_))
    refine no_implicit_lambda% (awd ?_)
    rw [show IntKind.i64.wrap (n : Int) = n from w64 (by omega) (by omega)]
    repeat' (first | (refine no_implicit_lambda% (zH ?_)) | (((with_reducible refine no_implicit_lambda% (zA ?_)); refine no_implicit_lambda% (zD rfl rfl rfl (fun hc => ?_) (fun hc => ?_)) <;> first | exact zG hc | rw [hc])) | (((with_reducible refine no_implicit_lambda% (zB ?_)); refine no_implicit_lambda% (zE rfl (fun hc => ?_) (fun hc => ?_)) <;> first | exact zG hc | skip)) | (((with_reducible refine no_implicit_lambda% (zC ?_)); refine no_implicit_lambda% (zF rfl rfl (fun hc => ?_) (fun hc => ?_)) <;> first | exact zG hc | rw [hc])) | (refine no_implicit_lambda% (ans ?_)) | (with_reducible first | exact zI | exact zJ) | (refine no_implicit_lambda% (cal [0] (refFail_c (l.drop 4) false) ?_ ?_)) | fail)
    all_goals first | exact e_ret_to (H' := rr [] true) (rest := []) (.freeSlot 4 rfl) rfl hfin (.of_eq rfl) (LE0 rfl) | skip
    all_goals (exfalso; simp at *; omega)
   ·first | (exact zI) | (exact zJ)
def pF (l : List UInt8) : Option (Nat × List UInt8) := bnd (pL l) fun x r => if canonB x = x then some (x, r) else none
theorem qF_c (l : List UInt8) (bad : Bool) (h : l.length < 70368744177664) : ACalls Tryz.prog 139 1 8 [.ptr 0 0] (rr l bad) (dQ pF (· < 18446744073709551616) (fun x => .v (.float .f64 x)) l bad) := by
 have hL := qL_c l bad h
 refine no_implicit_lambda% (acalls_of tok dok (f := 139) ⟨Tryz.func139, rfl, by kernel_rfl⟩ ?_); refine no_implicit_lambda% (c_start (fun _ h => h) ?_)
 refine no_implicit_lambda% (awd ?_)
 (refine no_implicit_lambda% (cal [0] (hL) ?_ ?_))
 ·intro xx H' hh
  obtain ⟨x, l', bad', hx, hl', q1, q2, h', rfl⟩ := hh
  cases h'
  first | (refine no_implicit_lambda% (akc ?_)) | (refine no_implicit_lambda% (aec ?_))
  repeat' (first | (refine no_implicit_lambda% (zH ?_)) | (((with_reducible refine no_implicit_lambda% (zA ?_)); refine no_implicit_lambda% (zD rfl rfl rfl (fun hc => ?_) (fun hc => ?_)) <;> first | exact zG hc | rw [hc])) | (((with_reducible refine no_implicit_lambda% (zB ?_)); refine no_implicit_lambda% (zE rfl (fun hc => ?_) (fun hc => ?_)) <;> first | exact zG hc | skip)) | (((with_reducible refine no_implicit_lambda% (zC ?_)); refine no_implicit_lambda% (zF rfl rfl (fun hc => ?_) (fun hc => ?_)) <;> first | exact zG hc | rw [hc])) | (refine no_implicit_lambda% (ans ?_)) | (with_reducible first | exact zI | exact zJ) | (refine no_implicit_lambda% (cal [] (refFrom_c x hx) ?_ ?_)) | (refine no_implicit_lambda% (cal [] (refBits_c (canonB x) (canonB_lt hx)) ?_ ?_)) | fail)
  repeat' (first | (refine no_implicit_lambda% (zH ?_)) | (((with_reducible refine no_implicit_lambda% (zA ?_)); refine no_implicit_lambda% (zD rfl rfl rfl (fun hc => ?_) (fun hc => ?_)) <;> first | exact zG hc | rw [hc])) | (((with_reducible refine no_implicit_lambda% (zB ?_)); refine no_implicit_lambda% (zE rfl (fun hc => ?_) (fun hc => ?_)) <;> first | exact zG hc | skip)) | (((with_reducible refine no_implicit_lambda% (zC ?_)); refine no_implicit_lambda% (zF rfl rfl (fun hc => ?_) (fun hc => ?_)) <;> first | exact zG hc | rw [hc])) | (refine no_implicit_lambda% (ans ?_)) | (with_reducible first | exact zI | exact zJ) | (refine no_implicit_lambda% (cal [0] (refFail_c l' bad') ?_ ?_)) | fail)
  ·have hne : canonB x ≠ x := fun he => by rw [canon2, he] at hc; simp at hc
   refine e_ret (H' := rr [] true) (rest := _) rfl ⟨0, [], true, by decide, Nat.zero_le _, (fun h => by cases h), fun _ => ⟨rfl, fun hb => ?_⟩, rfl, rfl⟩ permT (LE0 rfl)
   unfold pF
   cases bad' with
   | false => rw [(q1 rfl).2, bnd_some, if_neg hne]
   | true => rw [(q2 rfl).2 hb]; rfl
  ·have heq : canonB x = x := by
    rw [canon2] at hc
    simp at hc
    omega
   rw [heq]
   refine e_ret (H' := rr l' bad') (rest := _) rfl ⟨x, l', bad', hx, hl', fun hb => ⟨(q1 hb).1, ?_⟩, fun hb => ⟨(q2 hb).1, fun hb2 => ?_⟩, rfl, rfl⟩ permT (LE0 rfl)
   ·unfold pF; rw [(q1 hb).2, bnd_some, if_pos heq]
   ·unfold pF; rw [(q2 hb).2 hb2]; rfl
 ·intro xx H' hh
  obtain ⟨_, _, _, _, _, _, _, h', _⟩ := hh
  cases h'
theorem pF_ok {l r : List UInt8} {x : Nat} (h : pF l = some (x, r)) : fOk l ∧ x = ubn (l.take 8) 0 ∧ r = l.drop 8 := by
 unfold pF pL at h
 by_cases h8 : 8 ≤ l.length
 ·rw [if_pos h8, bnd_some] at h
  split at h
  ·rename_i hc
   cases h
   exact ⟨⟨h8, hc⟩, rfl, rfl⟩
  ·cases h
 ·rw [if_neg h8] at h; cases h
theorem pF_no {l : List UInt8} (h : pF l = none) : ¬ fOk l := fun hf => by
 unfold pF pL at h
 rw [if_pos hf.1, bnd_some, if_pos hf.2] at h
 cases h
theorem pX_ok {l r x : List UInt8} (h : pX l = some (x, r)) : tOk l 16 ∧ x = (l.drop 4).take (ubn (l.take 4) 0) ∧ r = (l.drop 4).drop (ubn (l.take 4) 0) := by
 unfold pX at h
 split at h
 ·rename_i hc
  cases h
  exact ⟨hc, rfl, rfl⟩
 ·cases h
theorem pX_no {l : List UInt8} (h : pX l = none) : ¬ tOk l 16 := fun hf => by
 unfold pX at h
 rw [if_pos hf] at h
 cases h
theorem pB_ok {l r : List UInt8} {x : Nat} (h : pB l = some (x, r)) : 1 ≤ l.length ∧ x = ubn (l.take 1) 0 ∧ r = l.drop 1 := by
 unfold pB at h
 split at h
 ·rename_i hc
  cases h
  exact ⟨hc, rfl, rfl⟩
 ·cases h
theorem pB_no {l : List UInt8} (h : pB l = none) : ¬ 1 ≤ l.length := fun hf => by
 unfold pB at h
 rw [if_pos hf] at h
 cases h
theorem gv0 {l : List UInt8} (h : pB l = none) : pV l = none := pV_none fun v r hg => pB_no h hg.1
theorem gv1 {l l1 l2 s : List UInt8} (h : pB l = some (1, l1)) (h2 : pX l1 = some (s, l2)) : pV l = some (⟨1, s, 0⟩, l2) := by
 obtain ⟨a1, a2, rfl⟩ := pB_ok h
 obtain ⟨b1, rfl, rfl⟩ := pX_ok h2
 exact pV_some ⟨a1, .inl ⟨a2.symm, b1, rfl, rfl⟩⟩
theorem gv1n {l l1 : List UInt8} (h : pB l = some (1, l1)) (h2 : pX l1 = none) : pV l = none := by
 obtain ⟨a1, a2, rfl⟩ := pB_ok h
 refine pV_none fun v r hg => ?_
 obtain ⟨_, ⟨_, g2, _⟩ | ⟨g1, _⟩⟩ := hg
 ·exact pX_no h2 g2
 ·omega
theorem gv2 {l l1 l2 : List UInt8} {n : Nat} (h : pB l = some (2, l1)) (h2 : pF l1 = some (n, l2)) : pV l = some (⟨2, [], n⟩, l2) := by
 obtain ⟨a1, a2, rfl⟩ := pB_ok h
 obtain ⟨b1, rfl, rfl⟩ := pF_ok h2
 exact pV_some ⟨a1, .inr ⟨a2.symm, b1, rfl, rfl⟩⟩
theorem gv2n {l l1 : List UInt8} (h : pB l = some (2, l1)) (h2 : pF l1 = none) : pV l = none := by
 obtain ⟨a1, a2, rfl⟩ := pB_ok h
 refine pV_none fun v r hg => ?_
 obtain ⟨_, ⟨g1, _⟩ | ⟨_, g2, _⟩⟩ := hg
 ·omega
 ·exact pF_no h2 g2
theorem gv3 {l l1 : List UInt8} {x : Nat} (h : pB l = some (x, l1)) (h1 : x ≠ 1) (h2 : x ≠ 2) : pV l = none := by
 obtain ⟨a1, a2, rfl⟩ := pB_ok h
 refine pV_none fun v r hg => ?_
 obtain ⟨_, ⟨g1, _⟩ | ⟨g1, _⟩⟩ := hg <;> omega
theorem qV_c (l : List UInt8) (bad : Bool) (h : l.length < 70368744177664) : ACalls Tryz.prog 96 1 40 [.ptr 0 0] (rr l bad) (dQ pV (fun v => v.b.length ≤ 16 ∧ v.n < 18446744073709551616) vav l bad) := by
 have hB := qB_c l bad h
 refine no_implicit_lambda% (acalls_of tok dok (f := 96) ⟨Tryz.func96, rfl, by kernel_rfl⟩ ?_); refine no_implicit_lambda% (c_start (fun _ h => h) ?_)
 refine no_implicit_lambda% (awd ?_)
 (refine no_implicit_lambda% (cal [0] (hB) ?_ ?_))
 ·intro xx H' hh
  obtain ⟨x, l1, b1, hx, hl1, q1, q2, h', rfl⟩ := hh
  cases h'
  first | (refine no_implicit_lambda% (akc ?_)) | (refine no_implicit_lambda% (aec ?_))
  have hX := qX_c l1 b1 (by omega)
  have hF := qF_c l1 b1 (by omega)
  repeat' (first | (refine no_implicit_lambda% (zH ?_)) | (((with_reducible refine no_implicit_lambda% (zA ?_)); refine no_implicit_lambda% (zD rfl rfl rfl (fun hc => ?_) (fun hc => ?_)) <;> first | exact zG hc | rw [hc])) | (((with_reducible refine no_implicit_lambda% (zB ?_)); refine no_implicit_lambda% (zE rfl (fun hc => ?_) (fun hc => ?_)) <;> first | exact zG hc | skip)) | (((with_reducible refine no_implicit_lambda% (zC ?_)); refine no_implicit_lambda% (zF rfl rfl (fun hc => ?_) (fun hc => ?_)) <;> first | exact zG hc | rw [hc])) | (refine no_implicit_lambda% (ans ?_)) | (with_reducible first | exact zI | exact zJ) | (refine no_implicit_lambda% (cal [0] (refFail_c l1 b1) ?_ ?_)) | fail)
  ·have hx1 : x = 1 := by
    have h9 : ((x : Int) == 1) = true := hc
    simp at h9
    omega
   subst hx1
   (refine no_implicit_lambda% (cal [0] (hX) ?_ ?_))
   ·intro xx H' hh
    obtain ⟨s, l2, b2, hs, hl2, p1, p2, h', rfl⟩ := hh
    cases h'
    first | (refine no_implicit_lambda% (akc ?_)) | (refine no_implicit_lambda% (aec ?_))
    repeat' (first | (refine no_implicit_lambda% (zH ?_)) | (((with_reducible refine no_implicit_lambda% (zA ?_)); refine no_implicit_lambda% (zD rfl rfl rfl (fun hc => ?_) (fun hc => ?_)) <;> first | exact zG hc | rw [hc])) | (((with_reducible refine no_implicit_lambda% (zB ?_)); refine no_implicit_lambda% (zE rfl (fun hc => ?_) (fun hc => ?_)) <;> first | exact zG hc | skip)) | (((with_reducible refine no_implicit_lambda% (zC ?_)); refine no_implicit_lambda% (zF rfl rfl (fun hc => ?_) (fun hc => ?_)) <;> first | exact zG hc | rw [hc])) | (refine no_implicit_lambda% (ans ?_)) | (with_reducible first | exact zI | exact zJ))
    refine e_ret (H' := rr l2 b2) (rest := _) rfl ⟨⟨1, s, 0⟩, l2, b2, ⟨hs, (by show (0 : Nat) < 18446744073709551616; decide)⟩, by omega, fun hb => ?_, fun hb => ⟨(p2 hb).1, fun hb2 => ?_⟩, rfl, rfl⟩ permT (LE0 rfl)
    ·obtain ⟨e1, e2⟩ := p1 hb
     obtain ⟨e3, e4⟩ := q1 e1
     exact ⟨e3, gv1 e4 e2⟩
    ·cases b1 with
     | false => exact gv1n (q1 rfl).2 ((p2 hb).2 rfl)
     | true => exact gv0 ((q2 rfl).2 hb2)
   ·intro xx H' hh
    obtain ⟨_, _, _, _, _, _, _, h', _⟩ := hh
    cases h'
  ·have hx1 : x = 2 := by
    have h9 : ((x : Int) == 2) = true := hc
    simp at h9
    omega
   subst hx1
   (refine no_implicit_lambda% (cal [0] (hF) ?_ ?_))
   ·intro xx H' hh
    obtain ⟨n, l2, b2, hs, hl2, p1, p2, h', rfl⟩ := hh
    cases h'
    first | (refine no_implicit_lambda% (akc ?_)) | (refine no_implicit_lambda% (aec ?_))
    repeat' (first | (refine no_implicit_lambda% (zH ?_)) | (((with_reducible refine no_implicit_lambda% (zA ?_)); refine no_implicit_lambda% (zD rfl rfl rfl (fun hc => ?_) (fun hc => ?_)) <;> first | exact zG hc | rw [hc])) | (((with_reducible refine no_implicit_lambda% (zB ?_)); refine no_implicit_lambda% (zE rfl (fun hc => ?_) (fun hc => ?_)) <;> first | exact zG hc | skip)) | (((with_reducible refine no_implicit_lambda% (zC ?_)); refine no_implicit_lambda% (zF rfl rfl (fun hc => ?_) (fun hc => ?_)) <;> first | exact zG hc | rw [hc])) | (refine no_implicit_lambda% (ans ?_)) | (with_reducible first | exact zI | exact zJ))
    refine e_ret_to (H' := rr l2 b2) (rest := [(1, .box [.v (.int .i64 2), .list [] .free, .v (.float .f64 n)])]) (Conv.toT (τ := ⟨_, [(0, .box [.list (l2.map brow) .free, .v (.bool b2)]), (1, .box [.v (.int .i64 2), .list [] .free, .v (.float .f64 n)])], _⟩) (.refl _) ?_ (Nat.le_refl _)) rfl ⟨⟨2, [], n⟩, l2, b2, ⟨Nat.zero_le _, hs⟩, by omega, fun hb => ?_, fun hb => ⟨(p2 hb).1, fun hb2 => ?_⟩, rfl, rfl⟩ permT (LE0 rfl)
    ·exact wkh
    ·obtain ⟨e1, e2⟩ := p1 hb
     obtain ⟨e3, e4⟩ := q1 e1
     exact ⟨e3, gv2 e4 e2⟩
    ·cases b1 with
     | false => exact gv2n (q1 rfl).2 ((p2 hb).2 rfl)
     | true => exact gv0 ((q2 rfl).2 hb2)
   ·intro xx H' hh
    obtain ⟨_, _, _, _, _, _, _, h', _⟩ := hh
    cases h'
  ·have hx2 : x ≠ 2 := by
    have h9 : ((x : Int) == 2) = false := hc
    simp at h9
    omega
   have hx1 : x ≠ 1 := by
    have h9 : ((x : Int) == 1) = false := by assumption
    simp at h9
    omega
   refine e_ret_to (H' := rr [] true) (rest := [(1, .box [.v (.int .i64 0), .list [] .free, .v (.float .f64 0)])]) (Conv.toT (τ := ⟨_, [(0, .box [.list [] .free, .v (.bool true)]), (1, .box [.v (.int .i64 0), .list [] .free, .v (.float .f64 0)])], _⟩) (.refl _) ?_ (Nat.le_refl _)) rfl ⟨⟨0, [], 0⟩, [], true, ⟨Nat.zero_le _, by decide⟩, Nat.zero_le _, fun hb => (by cases hb), fun _ => ⟨rfl, fun hb2 => ?_⟩, rfl, rfl⟩ permT (LE0 rfl)
   ·exact wkh
   cases b1 with
   | false => exact gv3 (q1 rfl).2 hx1 hx2
   | true => exact gv0 ((q2 rfl).2 hb2)
 ·intro xx H' hh
  obtain ⟨_, _, _, _, _, _, _, h', _⟩ := hh
  cases h'
end Go.Proofs.YtjepgbpcpcahgaaGreat
namespace Go.Proofs.YtjepgbpcpcahgaaGreat
open Go.Am
set_option maxRecDepth 100000
theorem app1 (p : List UInt8) (c : UInt8) : [] ++ p.map brow ++ [[AV.v (.int .u8 c.toNat)]] = (p ++ [c]).map brow := by simp [brow]
theorem app2 (p : List UInt8) (c : UInt8) : p.map brow ++ [[AV.v (.int .u8 c.toNat)]] = (p ++ [c]).map brow := by simp [brow]
theorem refPutP_c (p : List UInt8) (v : Va) (hp : p.length < 100000000) (hb : v.b.length ≤ 20) (hn : v.n < 18446744073709551616) : ACalls Tryz.prog 33 0 20 [.list (p.map brow) .free, vav v] [] (fun out H' => out = .ret (.list ((p ++ encA v).map brow) .free) ∧ H' = []) := by
 obtain ⟨kd, b, n⟩ := v
 simp only at hb hn
 have r1 : ∀ row ∈ p.map brow, row.length = 1 := fun row h => by obtain ⟨_, _, rfl⟩ := List.mem_map.1 h; rfl
 have b1 : (p.map brow).length < 100000000 := by rw [List.length_map]; exact hp
 have b2 : ([] ++ p.map brow).length < 100000000 := b1
 by_cases h1 : kd = 1
 ·subst h1
  have ee : p ++ encA ⟨1, b, n⟩ = p ++ [1] ++ (be b.length 4 ++ b) := by simp [encA]
  rw [ee]
  refine no_implicit_lambda% (acalls_of tok dok (f := 33) ⟨Tryz.func33, rfl, by kernel_rfl⟩ ?_); refine no_implicit_lambda% (c_start (fun _ h => h) ?_)
  repeat' (first | (refine no_implicit_lambda% (zH ?_)) | (((with_reducible refine no_implicit_lambda% (zA ?_)); refine no_implicit_lambda% (zD rfl rfl rfl (fun hc => ?_) (fun hc => ?_)) <;> first | exact zG hc | rw [hc])) | (((with_reducible refine no_implicit_lambda% (zB ?_)); refine no_implicit_lambda% (zE rfl (fun hc => ?_) (fun hc => ?_)) <;> first | exact zG hc | skip)) | (((with_reducible refine no_implicit_lambda% (zC ?_)); refine no_implicit_lambda% (zF rfl rfl (fun hc => ?_) (fun hc => ?_)) <;> first | exact zG hc | rw [hc])) | (refine no_implicit_lambda% (ans ?_)) | (with_reducible first | exact zI | exact zJ))
  rw [show [] ++ p.map brow ++ [[AV.v (.int .u8 1)]] = (p ++ [1]).map brow by simp [brow]]
  refine no_implicit_lambda% (calw [] (refText_c (p ++ [1]) b (by simp; omega) (by omega)) ?_ ?_)
  ·refine no_implicit_lambda% (ret1 ?_); first | (refine no_implicit_lambda% (akc ?_)) | (refine no_implicit_lambda% (aec ?_))
   refine no_implicit_lambda% (awd ?_)
   exact e_ret_to (H' := []) (rest := _) (.freeSlot 4 rfl) rfl ⟨rfl, rfl⟩ (.of_eq rfl) (LE0 rfl)
  ·first | (exact zI) | (exact zJ)
 ·by_cases h2 : kd = 2
  ·subst h2
   have ee : p ++ encA ⟨2, b, n⟩ = p ++ [2] ++ be (canonB n) 8 := by simp [encA]
   rw [ee]
   refine no_implicit_lambda% (acalls_of tok dok (f := 33) ⟨Tryz.func33, rfl, by kernel_rfl⟩ ?_); refine no_implicit_lambda% (c_start (fun _ h => h) ?_)
   repeat' (first | (refine no_implicit_lambda% (zH ?_)) | (((with_reducible refine no_implicit_lambda% (zA ?_)); refine no_implicit_lambda% (zD rfl rfl rfl (fun hc => ?_) (fun hc => ?_)) <;> first | exact zG hc | rw [hc])) | (((with_reducible refine no_implicit_lambda% (zB ?_)); refine no_implicit_lambda% (zE rfl (fun hc => ?_) (fun hc => ?_)) <;> first | exact zG hc | skip)) | (((with_reducible refine no_implicit_lambda% (zC ?_)); refine no_implicit_lambda% (zF rfl rfl (fun hc => ?_) (fun hc => ?_)) <;> first | exact zG hc | rw [hc])) | (refine no_implicit_lambda% (ans ?_)) | (with_reducible first | exact zI | exact zJ))
   rw [show [] ++ p.map brow ++ [[AV.v (.int .u8 2)]] = (p ++ [2]).map brow by simp [brow]]
   refine no_implicit_lambda% (calw [] (refFloat_c (p ++ [2]) n hn (by simp; omega)) ?_ ?_)
   ·refine no_implicit_lambda% (ret1 ?_); first | (refine no_implicit_lambda% (akc ?_)) | (refine no_implicit_lambda% (aec ?_))
    refine no_implicit_lambda% (awd ?_)
    exact e_ret_to (H' := []) (rest := _) (.freeSlot 4 rfl) rfl ⟨rfl, rfl⟩ (.of_eq rfl) (LE0 rfl)
   ·first | (exact zI) | (exact zJ)
  ·have ee : encA ⟨kd, b, n⟩ = [0] := by simp [encA, h1, h2]
   rw [ee]
   have e1 := k_ne h1
   have e2 := k_ne h2
   refine no_implicit_lambda% (acalls_of tok dok (f := 33) ⟨Tryz.func33, rfl, by kernel_rfl⟩ ?_); refine no_implicit_lambda% (c_start (fun _ h => h) ?_)
   repeat' (first | (refine no_implicit_lambda% (zH ?_)) | (((with_reducible refine no_implicit_lambda% (zA ?_)); refine no_implicit_lambda% (zD rfl rfl rfl (fun hc => ?_) (fun hc => ?_)) <;> first | exact zG hc | rw [hc])) | (((with_reducible refine no_implicit_lambda% (zB ?_)); refine no_implicit_lambda% (zE rfl (fun hc => ?_) (fun hc => ?_)) <;> first | exact zG hc | skip)) | (((with_reducible refine no_implicit_lambda% (zC ?_)); refine no_implicit_lambda% (zF rfl rfl (fun hc => ?_) (fun hc => ?_)) <;> first | exact zG hc | rw [hc])) | (refine no_implicit_lambda% (ans ?_)) | (with_reducible first | exact zI | exact zJ))
   all_goals try (exfalso; simp_all; done)
   rw [show [] ++ p.map brow ++ [[AV.v (.int .u8 0)]] = (p ++ [0]).map brow by simp [brow]]
   exact e_ret_to (H' := []) (rest := _) (.freeSlot 4 rfl) rfl ⟨rfl, rfl⟩ (.of_eq rfl) (LE0 rfl)
def rwSt1 (o : List Co) (e : List UInt8) (i : Nat) : ASt := ⟨([.list (e.map brow) .free, .dead, .dead, .ptr 0 0, .dead, .v (.int .i64 i)] ++ List.replicate 74 .dead), [(0, .box [.list (o.map corow) .free])], 2⟩
def rwSt2 (o : List Co) (i : Nat) (e : List UInt8) (k : Nat) : ASt := ⟨([.list (e.map brow) .free, .dead, .dead, .ptr 0 0, .dead, .v (.int .i64 i), .v (.int .i64 k)] ++ List.replicate 73 .dead), [(0, .box [.list (o.map corow) .free])], 3⟩
set_option maxHeartbeats 6400000 in
theorem rwrite_c (p : List UInt8) (r : List Co) (hr : r.length < 70368744177664) (hz : RowSz r) (hp : p.length < 10000000) : ACalls Tryz.prog 7 0 100000 [.list (p.map brow) .free, rowA r] [] (fun out H' => out = .ret (.list ((p ++ encR (copyR r)).map brow) .free) ∧ H' = []) := by
 have hcp := qcopy_f r hr hz
 have hw := copy_w hz
 generalize copyR r = o at *
 have ho4 := hw.1
 have r1 : ∀ row ∈ p.map brow, row.length = 1 := fun row h => by obtain ⟨_, _, rfl⟩ := List.mem_map.1 h; rfl
 have b1 : (p.map brow).length < 10000000 := by rw [List.length_map]; exact hp
 have b2 : ([] ++ p.map brow).length < 10000000 := b1
 refine no_implicit_lambda% (acalls_of tok dok (f := 7) ⟨Tryz.func7, rfl, by kernel_rfl⟩ ?_); refine no_implicit_lambda% (c_start (fun _ h => h) ?_)
 repeat' (first | (refine no_implicit_lambda% (zH ?_)) | (((with_reducible refine no_implicit_lambda% (zA ?_)); refine no_implicit_lambda% (zD rfl rfl rfl (fun hc => ?_) (fun hc => ?_)) <;> first | exact zG hc | rw [hc])) | (((with_reducible refine no_implicit_lambda% (zB ?_)); refine no_implicit_lambda% (zE rfl (fun hc => ?_) (fun hc => ?_)) <;> first | exact zG hc | skip)) | (((with_reducible refine no_implicit_lambda% (zC ?_)); refine no_implicit_lambda% (zF rfl rfl (fun hc => ?_) (fun hc => ?_)) <;> first | exact zG hc | rw [hc])) | (refine no_implicit_lambda% (ans ?_)) | (with_reducible first | exact zI | exact zJ) | (refine no_implicit_lambda% (cal [] (hcp) ?_ ?_)) | fail)
 rw [List.length_map, u8len, app1]
 have hfl : ∀ i, ((o.take i).flatMap encC).length ≤ 360 := fun i => by
  have h1 := flat_len encC 90 (o.take i) fun c hc => encC_len (hw.2 c (List.mem_of_mem_take hc))
  have h2 : (o.take i).length ≤ 4 := by rw [List.length_take]; omega
  omega
 refine c_loop' (fun i => rwSt1 o (p ++ [UInt8.ofNat o.length] ++ (o.take i).flatMap encC) i) (fun i => i ≤ o.length) (fun i => o.length - i) (a := 0) (Nat.zero_le _) ?_ ?_
 ·refine (Conv.toT ?_ ?_ (LE0 rfl))
  ·unfold rwSt1
   simp only [List.take_zero, List.flatMap_nil, List.append_nil]
   exact wkl
  ·unfold rwSt1
   exact wkh
 ·rintro i i1
  refine c_turn (n' := 2) (fun _ h => h) (fun _ h => h) rfl ?_
  have hfi := hfl i
  rcases hx : o[i]? with _ | c
  ·have hi : i = o.length := by have := List.getElem?_eq_none_iff.1 hx; omega
   repeat' (first | (refine no_implicit_lambda% (zH ?_)) | (((with_reducible refine no_implicit_lambda% (zA ?_)); refine no_implicit_lambda% (zD rfl rfl rfl (fun hc => ?_) (fun hc => ?_)) <;> first | exact zG hc | rw [hc])) | (((with_reducible refine no_implicit_lambda% (zB ?_)); refine no_implicit_lambda% (zE rfl (fun hc => ?_) (fun hc => ?_)) <;> first | exact zG hc | skip)) | (((with_reducible refine no_implicit_lambda% (zC ?_)); refine no_implicit_lambda% (zF rfl rfl (fun hc => ?_) (fun hc => ?_)) <;> first | exact zG hc | rw [hc])) | (refine no_implicit_lambda% (ans ?_)) | (with_reducible first | exact zI | exact zJ))
   subst hi
   rw [List.take_length]
   have he : p ++ [UInt8.ofNat o.length] ++ o.flatMap encC = p ++ encR o := by unfold encR; simp
   rw [he]
   exact e_ret (H' := []) (rest := _) rfl ⟨rfl, rfl⟩ permT (LE0 rfl)
  ·have hi : i < o.length := (List.getElem?_eq_some_iff.1 hx).1
   have hix := cox hx
   have hcw := hw.2 c (List.mem_of_getElem? hx)
   have hfs := flat_s (f := encC) hx
   obtain ⟨e0, he0⟩ : ∃ e0, e0 = p ++ [UInt8.ofNat o.length] ++ (o.take i).flatMap encC := ⟨_, rfl⟩
   have hel : e0.length ≤ p.length + 361 := by rw [he0]; simp only [List.length_append, List.length_singleton]; omega
   rw [← he0]
   have hn16 := hcw.1
   have ht := refText_c e0 c.n.data.toList (by omega) (by omega)
   repeat' (first | (refine no_implicit_lambda% (zH ?_)) | (((with_reducible refine no_implicit_lambda% (zA ?_)); refine no_implicit_lambda% (zD rfl rfl rfl (fun hc => ?_) (fun hc => ?_)) <;> first | exact zG hc | rw [hc])) | (((with_reducible refine no_implicit_lambda% (zB ?_)); refine no_implicit_lambda% (zE rfl (fun hc => ?_) (fun hc => ?_)) <;> first | exact zG hc | skip)) | (((with_reducible refine no_implicit_lambda% (zC ?_)); refine no_implicit_lambda% (zF rfl rfl (fun hc => ?_) (fun hc => ?_)) <;> first | exact zG hc | rw [hc])) | (((with_reducible refine no_implicit_lambda% (is_ev ?_)); refine no_implicit_lambda% (v_split rfl rfl rfl rfl (fun hc => ?_) (fun hc => ?_)) <;> first | exact zG hc | rw [hc])) | (refine no_implicit_lambda% (ans ?_)) | (with_reducible first | exact zI | exact zJ))
   ((with_reducible refine no_implicit_lambda% (is_ev ?_)); refine no_implicit_lambda% (v_qS rfl rfl rfl rfl (fun _ h => h) (fun _ h => h) ?_ ?_))
   ·show c.n.data.toList.length ≤ 4611686018427387904
    omega
   have b4 : (be c.n.data.toList.length 4).length = 4 := be_len _ _
   repeat' (first | (refine no_implicit_lambda% (zH ?_)) | (((with_reducible refine no_implicit_lambda% (zA ?_)); refine no_implicit_lambda% (zD rfl rfl rfl (fun hc => ?_) (fun hc => ?_)) <;> first | exact zG hc | rw [hc])) | (((with_reducible refine no_implicit_lambda% (zB ?_)); refine no_implicit_lambda% (zE rfl (fun hc => ?_) (fun hc => ?_)) <;> first | exact zG hc | skip)) | (((with_reducible refine no_implicit_lambda% (zC ?_)); refine no_implicit_lambda% (zF rfl rfl (fun hc => ?_) (fun hc => ?_)) <;> first | exact zG hc | rw [hc])) | (((with_reducible refine no_implicit_lambda% (is_ev ?_)); refine no_implicit_lambda% (v_split rfl rfl rfl rfl (fun hc => ?_) (fun hc => ?_)) <;> first | exact zG hc | rw [hc])) | (refine no_implicit_lambda% (ans ?_)) | (with_reducible first | exact zI | exact zJ) | (refine no_implicit_lambda% (cal [] (ht) ?_ ?_)) | fail)
   rw [List.length_map, u8len, app2]
   obtain ⟨e, he⟩ : ∃ e, e = e0 ++ (be c.n.data.toList.length 4 ++ c.n.data.toList) ++ [UInt8.ofNat c.l.length] := ⟨_, rfl⟩
   have hee : e.length ≤ p.length + 382 := by rw [he]; simp only [List.length_append, be_len, List.length_singleton]; omega
   rw [← he]
   have hl2 := hcw.2.1
   refine c_loop' (fun k => rwSt2 o i (e ++ (c.l.take k).flatMap encE) k) (fun k => k ≤ c.l.length) (fun k => c.l.length - k) (a := 0) (Nat.zero_le _) ?_ ?_
   ·refine (Conv.toT ?_ ?_ (LE0 rfl))
    ·unfold rwSt2
     simp only [List.take_zero, List.flatMap_nil, List.append_nil]
     exact wkl
    ·unfold rwSt2
     exact wkh
   ·rintro k k1
    refine c_turn (n' := 3) (fun _ h => h) (fun _ h => h) rfl ?_
    rcases hy : c.l[k]? with _ | x
    ·have hk : k = c.l.length := by have := List.getElem?_eq_none_iff.1 hy; omega
     repeat' (first | (refine no_implicit_lambda% (zH ?_)) | (((with_reducible refine no_implicit_lambda% (zA ?_)); refine no_implicit_lambda% (zD rfl rfl rfl (fun hc => ?_) (fun hc => ?_)) <;> first | exact zG hc | rw [hc])) | (((with_reducible refine no_implicit_lambda% (zB ?_)); refine no_implicit_lambda% (zE rfl (fun hc => ?_) (fun hc => ?_)) <;> first | exact zG hc | skip)) | (((with_reducible refine no_implicit_lambda% (zC ?_)); refine no_implicit_lambda% (zF rfl rfl (fun hc => ?_) (fun hc => ?_)) <;> first | exact zG hc | rw [hc])) | (refine no_implicit_lambda% (ans ?_)) | (with_reducible first | exact zI | exact zJ))
     subst hk
     rw [List.take_length]
     have h9 : e ++ c.l.flatMap encE = p ++ [UInt8.ofNat o.length] ++ (o.take (i + 1)).flatMap encC := by
      rw [hfs, he, he0]
      unfold encC
      simp only [List.append_assoc]
     rw [h9]
     (refine no_implicit_lambda% (k_loopLT (i + 1) 0 [0, 1] (show i + 1 ≤ o.length from hi) (by first | omega | (simp; done) | (simp; omega)) (LE0 rfl) (fun _ h => h) (fun _ h => h) ?_ ?_)); (focus ((try dsimp only); exact wkl)); (focus ((try dsimp only); exact wkh))
    ·have hk : k < c.l.length := (List.getElem?_eq_some_iff.1 hy).1
     have hiy := vex hy
     have hvw := hcw.2.2 x (List.mem_of_getElem? hy)
     have hfe := flat_s (f := encE) hy
     have hpl : ((c.l.take k).flatMap encE).length ≤ 66 := by
      have h1 := flat_len encE 33 (c.l.take k) fun y hy => encE_len (hcw.2.2 y (List.mem_of_mem_take hy))
      have h2 : (c.l.take k).length ≤ 2 := by rw [List.length_take]; omega
      omega
     have hl8 := refLong_c (e ++ (c.l.take k).flatMap encE) x.t.toNat (by have := hvw.1; omega) (by rw [List.length_append]; omega)
     have hpa := refPutP_c (e ++ (c.l.take k).flatMap encE ++ be x.t.toNat 8) x.v (by simp only [List.length_append, be_len]; omega) hvw.2.1 hvw.2.2
     repeat' (first | (refine no_implicit_lambda% (zH ?_)) | (((with_reducible refine no_implicit_lambda% (zA ?_)); refine no_implicit_lambda% (zD rfl rfl rfl (fun hc => ?_) (fun hc => ?_)) <;> first | exact zG hc | rw [hc])) | (((with_reducible refine no_implicit_lambda% (zB ?_)); refine no_implicit_lambda% (zE rfl (fun hc => ?_) (fun hc => ?_)) <;> first | exact zG hc | skip)) | (((with_reducible refine no_implicit_lambda% (zC ?_)); refine no_implicit_lambda% (zF rfl rfl (fun hc => ?_) (fun hc => ?_)) <;> first | exact zG hc | rw [hc])) | (((with_reducible refine no_implicit_lambda% (is_ev ?_)); refine no_implicit_lambda% (v_split rfl rfl rfl rfl (fun hc => ?_) (fun hc => ?_)) <;> first | exact zG hc | rw [hc])) | (refine no_implicit_lambda% (ans ?_)) | (with_reducible first | exact zI | exact zJ))
     rw [show IntKind.u64.wrap x.t = (x.t.toNat : Int) by rw [IntKind.wrap_u64]; have := hvw.1; omega]
     repeat' (first | (refine no_implicit_lambda% (zH ?_)) | (((with_reducible refine no_implicit_lambda% (zA ?_)); refine no_implicit_lambda% (zD rfl rfl rfl (fun hc => ?_) (fun hc => ?_)) <;> first | exact zG hc | rw [hc])) | (((with_reducible refine no_implicit_lambda% (zB ?_)); refine no_implicit_lambda% (zE rfl (fun hc => ?_) (fun hc => ?_)) <;> first | exact zG hc | skip)) | (((with_reducible refine no_implicit_lambda% (zC ?_)); refine no_implicit_lambda% (zF rfl rfl (fun hc => ?_) (fun hc => ?_)) <;> first | exact zG hc | rw [hc])) | (((with_reducible refine no_implicit_lambda% (is_ev ?_)); refine no_implicit_lambda% (v_split rfl rfl rfl rfl (fun hc => ?_) (fun hc => ?_)) <;> first | exact zG hc | rw [hc])) | (refine no_implicit_lambda% (ans ?_)) | (with_reducible first | exact zI | exact zJ) | (refine no_implicit_lambda% (cal [] (hl8) ?_ ?_)) | fail)
     (refine no_implicit_lambda% (calw [] (hpa) ?_ ?_))
     ·refine no_implicit_lambda% (ret1 ?_); first | (refine no_implicit_lambda% (akc ?_)) | (refine no_implicit_lambda% (aec ?_))
      repeat' (first | (refine no_implicit_lambda% (zH ?_)) | (((with_reducible refine no_implicit_lambda% (zA ?_)); refine no_implicit_lambda% (zD rfl rfl rfl (fun hc => ?_) (fun hc => ?_)) <;> first | exact zG hc | rw [hc])) | (((with_reducible refine no_implicit_lambda% (zB ?_)); refine no_implicit_lambda% (zE rfl (fun hc => ?_) (fun hc => ?_)) <;> first | exact zG hc | skip)) | (((with_reducible refine no_implicit_lambda% (zC ?_)); refine no_implicit_lambda% (zF rfl rfl (fun hc => ?_) (fun hc => ?_)) <;> first | exact zG hc | rw [hc])) | (((with_reducible refine no_implicit_lambda% (is_ev ?_)); refine no_implicit_lambda% (v_split rfl rfl rfl rfl (fun hc => ?_) (fun hc => ?_)) <;> first | exact zG hc | rw [hc])) | (refine no_implicit_lambda% (ans ?_)) | (with_reducible first | exact zI | exact zJ))
      have h9 : e ++ (c.l.take k).flatMap encE ++ be x.t.toNat 8 ++ encA x.v = e ++ (c.l.take (k + 1)).flatMap encE := by
       rw [hfe]
       unfold encE
       simp only [List.append_assoc]
      rw [h9]
      (refine no_implicit_lambda% (k_loopLT (k + 1) 0 [0, 1, 2] (show k + 1 ≤ c.l.length from hk) (by first | omega | (simp; done) | (simp; omega)) (LE0 rfl) (fun _ h => h) (fun _ h => h) ?_ ?_)); (focus ((try dsimp only); exact wkl)); (focus ((try dsimp only); exact wkh))
     ·first | (exact zI) | (exact zJ)
end Go.Proofs.YtjepgbpcpcahgaaGreat
namespace Go.Proofs.YtjepgbpcpcahgaaGreat
open Go.Am
set_option maxRecDepth 100000
theorem rowB_tm {o : List Co} (h : rowB o = true) : ∀ c ∈ o, ∀ x ∈ c.l, tmOk x.t = true := fun c hc x hx => by
 have h1 := row_mem h hc
 unfold colB at h1
 simp only [Bool.and_eq_true] at h1
 exact ((vers_to h1.2).1 x hx).1
theorem tm_bad {t : Nat} (h1 : 1099511627776 < t) (h2 : t < 18446744073709551616) : tmOk (IntKind.i64.wrap (t : Int)) = false := by
 unfold tmOk
 refine decide_eq_false fun h => ?_
 rw [IntKind.wrap_i64] at h
 omega
theorem bnd_inv {α β : Type} {p : Option (α × List UInt8)} {q : α → List UInt8 → Option β} (h : ∀ a r, p = some (a, r) → q a r = none) : bnd p q = none := by
 cases p with
 | none => rfl
 | some a => exact h a.1 a.2 rfl
theorem pR_late {l cur r3 : List UInt8} {acc : List Co} {s : ByteArray} {vs : List Ve} {n k t : Nat} (hE : pRaw l = bnd (pEs (k + 1) cur) fun xs r => bnd (pCs n r) fun o r3 => some (acc ++ ⟨s, vs ++ xs⟩ :: o, r3)) (hL : pL cur = some (t, r3)) (h1 : 1099511627776 < t) (h2 : t < 18446744073709551616) : pR l = none := by
 unfold pR
 rw [hE]
 simp only [pEs, pE, hL, bnd_some, bnd_assoc]
 refine bnd_inv fun v r _ => bnd_inv fun xs r2 _ => bnd_inv fun o r3 _ => if_neg fun h => ?_
 have h9 := rowB_tm h ⟨s, vs ++ ⟨IntKind.i64.wrap (t : Int), v⟩ :: xs⟩ (List.mem_append_right _ (List.mem_cons_self ..)) ⟨IntKind.i64.wrap (t : Int), v⟩ (List.mem_append_right _ (List.mem_cons_self ..))
 rw [tm_bad h1 h2] at h9
 cases h9
theorem rright_o (o : List Co) (cp : Nat) (hl : o.length < 1000000) : ACalls Tryz.prog 69 1 1 [.agg [.arr 0 0 o.length cp]] [(0, .seq (o.map corow) ((cp - o.length) * 2))] (fun out H' => out = .ret (.v (.bool (rowB o))) ∧ H' = [(0, .seq (o.map corow) ((cp - o.length) * 2))]) :=
 (((rright_c o (by omega)).top0).borrow (k := 1) (top := 1) (args := [.agg [.arr 0 0 o.length cp]]) (H := [(0, .seq (o.map corow) ((cp - o.length) * 2))]) rfl (fun out H' hh => by obtain ⟨rfl, rfl⟩ := hh; rfl) (fun i a' ha => by
  match i with
  | 0 =>
   simp at ha; subst ha
   refine ⟨_, rfl, .agg rfl fun j b hb => ?_⟩
   match j with
   | 0 =>
    simp at hb; subst hb
    exact ⟨_, rfl, .seq (k := (cp - o.length) * 2) (by simp) (coOk o) (by simp)⟩
   | j + 1 => simp at hb
  | i + 1 => simp at ha)).mono fun out H' hh => by
   obtain ⟨⟨_, h1, _⟩, h2⟩ := hh
   exact ⟨h1, h2⟩
def rtSt1 (cur : List UInt8) (bad : Bool) (acc : List Co) (cp n : Nat) : ASt := ⟨([.ptr 0 0, .dead, .ptr 1 0, .ptr 2 0, .v (.int .i64 n)] ++ List.replicate 70 .dead), rr cur bad ++ [(1, .box [.list [] .full]), (2, .box [.arr 6 0 acc.length cp]), (6, .seq (acc.map corow) ((cp - acc.length) * 2))], 7⟩
def rtSt2 (acc : List Co) (cp n : Nat) (s : ByteArray) (cur : List UInt8) (bad : Bool) (vs : List Ve) (k : Nat) : ASt := ⟨([.ptr 0 0, .dead, .ptr 1 0, .ptr 2 0, .v (.int .i64 n), .ptr 14 0, .v (.int .i64 k)] ++ List.replicate 68 .dead), rr cur bad ++ [(14, .box [.v (.string s), .list (vs.map verow) (.tok 18)]), (18, .tok 4 vs.length), (1, .box [.list [] .full]), (2, .box [.arr 6 0 acc.length cp]), (6, .seq (acc.map corow) ((cp - acc.length) * 2))], 19⟩
set_option maxHeartbeats 6400000 in
theorem rtake4_c (l : List UInt8) (bad0 : Bool) (hl : l.length < 10000000) : ACalls Tryz.prog 39 1 100000 [.ptr 0 0] (rr l bad0) (dQ pR RowSz rowA l bad0) := by
 refine no_implicit_lambda% (acalls_of tok dok (f := 39) ⟨Tryz.func39, rfl, by kernel_rfl⟩ ?_); refine no_implicit_lambda% (c_start (fun _ h => h) ?_)
 repeat' (first | (refine no_implicit_lambda% (zH ?_)) | (((with_reducible refine no_implicit_lambda% (zA ?_)); refine no_implicit_lambda% (zD rfl rfl rfl (fun hc => ?_) (fun hc => ?_)) <;> first | exact zG hc | rw [hc])) | (((with_reducible refine no_implicit_lambda% (zB ?_)); refine no_implicit_lambda% (zE rfl (fun hc => ?_) (fun hc => ?_)) <;> first | exact zG hc | skip)) | (((with_reducible refine no_implicit_lambda% (zC ?_)); refine no_implicit_lambda% (zF rfl rfl (fun hc => ?_) (fun hc => ?_)) <;> first | exact zG hc | rw [hc])) | (refine no_implicit_lambda% (ans ?_)) | (with_reducible first | exact zI | exact zJ))
 (refine no_implicit_lambda% (cal [0] (qB_c l bad0 (by omega)) ?_ ?_))
 rotate_left
 ·intro xx H' hh
  obtain ⟨_, _, _, _, _, _, _, h', _⟩ := hh
  cases h'
 intro xx H' hh
 obtain ⟨N, r0, b0, hN, hr0, q1, q2, h', rfl⟩ := hh
 cases h'
 first | (refine no_implicit_lambda% (akc ?_)) | (refine no_implicit_lambda% (aec ?_))
 repeat' (first | (refine no_implicit_lambda% (zH ?_)) | (((with_reducible refine no_implicit_lambda% (zA ?_)); refine no_implicit_lambda% (zD rfl rfl rfl (fun hc => ?_) (fun hc => ?_)) <;> first | exact zG hc | rw [hc])) | (((with_reducible refine no_implicit_lambda% (zB ?_)); refine no_implicit_lambda% (zE rfl (fun hc => ?_) (fun hc => ?_)) <;> first | exact zG hc | skip)) | (((with_reducible refine no_implicit_lambda% (zC ?_)); refine no_implicit_lambda% (zF rfl rfl (fun hc => ?_) (fun hc => ?_)) <;> first | exact zG hc | rw [hc])) | (refine no_implicit_lambda% (ans ?_)) | (with_reducible first | exact zI | exact zJ))
 rw [show IntKind.i64.wrap (N : Int) = (N : Int) from z64 (by omega) (by omega)]
 have hN2 : N < 256 := hN
 refine c_l5 (fun cur bad acc cp n => rtSt1 cur bad acc cp n) (fun cur bad acc cp n => cur.length ≤ l.length ∧ acc.length ≤ cp ∧ cp ≤ maxLen ∧ RowSz acc ∧ acc.length + n ≤ 255 ∧ (bad = false → bad0 = false ∧ pRaw l = bnd (pCs n cur) fun o r => some (acc ++ o, r)) ∧ (bad = true → cur = [] ∧ (bad0 = false → pR l = none))) (fun _ _ _ _ n => n) r0 b0 [] 0 N ⟨hr0, Nat.le_refl _, by decide, (fun c hc => by cases hc), by simp; omega, fun hb => ⟨(q1 hb).1, by unfold pRaw; rw [(q1 hb).2, bnd_some]; cases pCs N r0 <;> rfl⟩, fun hb => ⟨(q2 hb).1, fun hb0 => by unfold pR pRaw; rw [(q2 hb).2 hb0]; rfl⟩⟩ ((Conv.nilBox (id := 2) (j := 0) (cells := [.list [] .full]) rfl rfl).trans ?_) ?_
 ·(refine no_implicit_lambda% (Conv.toT ?_ ?_ (LE0 rfl))); (focus ((unfold rtSt1); (try dsimp only); exact wkl)); (focus ((unfold rtSt1); (try dsimp only); exact wkh))
 ·rintro cur bad acc cp n ⟨h1, h2, h3, hz, h5, hE, hEb⟩
  refine c_turn (n' := 7) (fun _ h => h) (fun _ h => h) rfl ?_
  cases bad with
  | true =>
   repeat' (first | (refine no_implicit_lambda% (zH ?_)) | (((with_reducible refine no_implicit_lambda% (zA ?_)); refine no_implicit_lambda% (zD rfl rfl rfl (fun hc => ?_) (fun hc => ?_)) <;> first | exact zG hc | rw [hc])) | (((with_reducible refine no_implicit_lambda% (zB ?_)); refine no_implicit_lambda% (zE rfl (fun hc => ?_) (fun hc => ?_)) <;> first | exact zG hc | skip)) | (((with_reducible refine no_implicit_lambda% (zC ?_)); refine no_implicit_lambda% (zF rfl rfl (fun hc => ?_) (fun hc => ?_)) <;> first | exact zG hc | rw [hc])) | (refine no_implicit_lambda% (ans ?_)) | (with_reducible first | exact zI | exact zJ) | (refine no_implicit_lambda% (cal [0] (refFail_c cur true) ?_ ?_)) | fail)
   all_goals refine e_ret_to (H' := rr [] true) (rest := [(1, .box [.list [] .free])]) (Conv.toT (τ := ⟨_, [(0, .box [.list [] .free, .v (.bool true)]), (1, .box [.list [] .free])], _⟩) (.refl _) ?_ (Nat.le_refl _)) rfl ⟨[], [], true, (fun c hc => by cases hc), Nat.zero_le _, (fun h => by cases h), fun _ => ⟨rfl, (hEb rfl).2⟩, rfl, rfl⟩ permT (LE0 rfl); exact wkh
  | false =>
   obtain ⟨hb0, hE⟩ := hE rfl
   have hro := rright_o acc cp (by omega)
   have hfc := refFail_c cur false
   rcases n with _ | n
   ·have hraw2 : pRaw l = some (acc, cur) := by rw [hE]; show some (acc ++ [], cur) = _; rw [List.append_nil]
    have hpR : pR l = if rowB acc then some (acc, cur) else none := by unfold pR; rw [hraw2]; rfl
    repeat' (first | (refine no_implicit_lambda% (zH ?_)) | (((with_reducible refine no_implicit_lambda% (zA ?_)); refine no_implicit_lambda% (zD rfl rfl rfl (fun hc => ?_) (fun hc => ?_)) <;> first | exact zG hc | rw [hc])) | (((with_reducible refine no_implicit_lambda% (zB ?_)); refine no_implicit_lambda% (zE rfl (fun hc => ?_) (fun hc => ?_)) <;> first | exact zG hc | skip)) | (((with_reducible refine no_implicit_lambda% (zC ?_)); refine no_implicit_lambda% (zF rfl rfl (fun hc => ?_) (fun hc => ?_)) <;> first | exact zG hc | rw [hc])) | (refine no_implicit_lambda% (ans ?_)) | (with_reducible first | exact zI | exact zJ) | (refine no_implicit_lambda% (cal [6] (hro) ?_ ?_)) | (refine no_implicit_lambda% (cal [0] (hfc) ?_ ?_)) | fail)
    ·have hb : rowB acc = false := by simpa using hc
     rw [hb] at hpR
     refine e_ret_to (H' := rr [] true) (rest := [(1, .box [.list [] .free])]) (Conv.toT (τ := ⟨_, [(0, .box [.list [] .free, .v (.bool true)]), (1, .box [.list [] .free])], _⟩) (.refl _) ?_ (Nat.le_refl _)) rfl ⟨[], [], true, (fun c hc => by cases hc), Nat.zero_le _, (fun h => by cases h), fun _ => ⟨rfl, fun _ => hpR⟩, rfl, rfl⟩ permT (LE0 rfl); exact wkh
    ·have hb : rowB acc = true := by simpa using hc
     rw [hb] at hpR
     refine e_ret_to (H' := rr cur false) (rest := [(1, .box [.list (acc.map corow) .free])]) ((Conv.toT (τ := ⟨_, [(6, .seq (acc.map corow) ((cp - acc.length) * 2)), (1, .box [.arr 6 0 acc.length cp]), (0, .box [.list (cur.map brow) .free, .v (.bool false)])], _⟩) (.refl _) ?_ (Nat.le_refl _)).trans (Conv.freezeBox (id := 6) (bid := 1) (j := 0) (.refl _) rfl (coOk acc) (List.length_map ..))) rfl ⟨acc, cur, false, hz, h1, fun _ => ⟨hb0, hpR⟩, fun h => (by cases h), rfl, rfl⟩ permT (LE0 rfl)
     exact wkh
   ·repeat' (first | (refine no_implicit_lambda% (zH ?_)) | (((with_reducible refine no_implicit_lambda% (zA ?_)); refine no_implicit_lambda% (zD rfl rfl rfl (fun hc => ?_) (fun hc => ?_)) <;> first | exact zG hc | rw [hc])) | (((with_reducible refine no_implicit_lambda% (zB ?_)); refine no_implicit_lambda% (zE rfl (fun hc => ?_) (fun hc => ?_)) <;> first | exact zG hc | skip)) | (((with_reducible refine no_implicit_lambda% (zC ?_)); refine no_implicit_lambda% (zF rfl rfl (fun hc => ?_) (fun hc => ?_)) <;> first | exact zG hc | rw [hc])) | (refine no_implicit_lambda% (ans ?_)) | (with_reducible first | exact zI | exact zJ))
    (refine no_implicit_lambda% (cal [0] (qX_c cur false (by omega)) ?_ ?_))
    rotate_left
    ·intro xx H' hh
     obtain ⟨_, _, _, _, _, _, _, h', _⟩ := hh
     cases h'
    intro xx H' hh
    obtain ⟨s, r1, b1, hs16, hr1, u1, u2, h', rfl⟩ := hh
    cases h'
    first | (refine no_implicit_lambda% (akc ?_)) | (refine no_implicit_lambda% (aec ?_))
    repeat' (first | (refine no_implicit_lambda% (zH ?_)) | (((with_reducible refine no_implicit_lambda% (zA ?_)); refine no_implicit_lambda% (zD rfl rfl rfl (fun hc => ?_) (fun hc => ?_)) <;> first | exact zG hc | rw [hc])) | (((with_reducible refine no_implicit_lambda% (zB ?_)); refine no_implicit_lambda% (zE rfl (fun hc => ?_) (fun hc => ?_)) <;> first | exact zG hc | skip)) | (((with_reducible refine no_implicit_lambda% (zC ?_)); refine no_implicit_lambda% (zF rfl rfl (fun hc => ?_) (fun hc => ?_)) <;> first | exact zG hc | rw [hc])) | (refine no_implicit_lambda% (ans ?_)) | (with_reducible first | exact zI | exact zJ))
    (refine no_implicit_lambda% (cal [0] (qB_c r1 b1 (by omega)) ?_ ?_))
    rotate_left
    ·intro xx H' hh
     obtain ⟨_, _, _, _, _, _, _, h', _⟩ := hh
     cases h'
    intro xx H' hh
    obtain ⟨K, r2, b2, hK, hr2, v1, v2, h', rfl⟩ := hh
    cases h'
    first | (refine no_implicit_lambda% (akc ?_)) | (refine no_implicit_lambda% (aec ?_))
    repeat' (first | (refine no_implicit_lambda% (zH ?_)) | (((with_reducible refine no_implicit_lambda% (zA ?_)); refine no_implicit_lambda% (zD rfl rfl rfl (fun hc => ?_) (fun hc => ?_)) <;> first | exact zG hc | rw [hc])) | (((with_reducible refine no_implicit_lambda% (zB ?_)); refine no_implicit_lambda% (zE rfl (fun hc => ?_) (fun hc => ?_)) <;> first | exact zG hc | skip)) | (((with_reducible refine no_implicit_lambda% (zC ?_)); refine no_implicit_lambda% (zF rfl rfl (fun hc => ?_) (fun hc => ?_)) <;> first | exact zG hc | rw [hc])) | (refine no_implicit_lambda% (ans ?_)) | (with_reducible first | exact zI | exact zJ))
    have hK2 : K < 256 := hK
    rw [show IntKind.i64.wrap (K : Int) = (K : Int) from z64 (by omega) (by omega)]
    have hE2 : b2 = false → pRaw l = bnd (pEs K r2) fun xs r => bnd (pCs n r) fun o r3 => some (acc ++ ⟨⟨s.toArray⟩, [] ++ xs⟩ :: o, r3) := fun hb => by
     obtain ⟨e1, e2⟩ := v1 hb
     rw [hE]
     simp only [pCs, pC, (u1 e1).2, bnd_some, e2, bnd_assoc, List.nil_append]
    have hE3 : b2 = true → r2 = [] ∧ (bad0 = false → pR l = none) := fun hb => ⟨(v2 hb).1, fun _ => by
     unfold pR
     rw [hE]
     cases b1 with
     | false => simp only [pCs, pC, (u1 rfl).2, bnd_some, (v2 hb).2 rfl, bnd_none]
     | true => simp only [pCs, pC, (u2 rfl).2 rfl, bnd_none]⟩
    refine c_l4 (fun cur2 bad vs k => rtSt2 acc cp (n + 1) ⟨s.toArray⟩ cur2 bad vs k) (fun cur2 bad vs k => cur2.length ≤ l.length ∧ vs.length + k ≤ 255 ∧ (∀ x ∈ vs, x.v.b.length < 1073741824 ∧ x.v.n < 18446744073709551616) ∧ (bad = false → pRaw l = bnd (pEs k cur2) fun xs r => bnd (pCs n r) fun o r3 => some (acc ++ ⟨⟨s.toArray⟩, vs ++ xs⟩ :: o, r3)) ∧ (bad = true → cur2 = [] ∧ (bad0 = false → pR l = none))) (fun _ _ _ k => k) r2 b2 [] K ⟨by omega, by simp; omega, (fun c hc => by cases hc), hE2, hE3⟩ ((Conv.tokBox (id := 14) (j := 1) (sz := 4) (rows := []) rfl rfl (by simp)).trans ?_) ?_
    ·(refine no_implicit_lambda% (Conv.toT ?_ ?_ (LE0 rfl))); (focus ((unfold rtSt2); (try dsimp only); exact wkl)); (focus ((unfold rtSt2); (try dsimp only); exact wkh))
    ·rintro cur2 bad vs k ⟨g1, g2, g3, g4, g5⟩
     refine c_turn (n' := 19) (fun _ h => h) (fun _ h => h) rfl ?_
     have hOut : (bad = false → k = 0) → (bad = false → bad0 = false ∧ pRaw l = bnd (pCs n cur2) fun o r => some ((acc ++ [(⟨⟨s.toArray⟩, vs⟩ : Co)]) ++ o, r)) ∧ RowSz (acc ++ [(⟨⟨s.toArray⟩, vs⟩ : Co)]) ∧ (acc ++ [(⟨⟨s.toArray⟩, vs⟩ : Co)]).length + n ≤ 255 := fun hk => by
      refine ⟨fun hb => ⟨hb0, ?_⟩, fun c hc => ?_, by rw [List.length_append]; simp; omega⟩
      ·have h9 := g4 hb
       rw [hk hb] at h9
       rw [h9]
       simp only [pEs, bnd_some, List.append_nil, List.append_assoc, List.singleton_append]
      ·rcases List.mem_append.1 hc with hc | hc
       ·exact hz c hc
       ·rw [List.mem_singleton.1 hc]; exact g3
     have hsub : IntKind.i64.wrap (((n + 1 : Nat) : Int) - 1) = (n : Int) := by rw [z64 (by omega) (by omega)]; omega
     cases bad with
     | true =>
      obtain ⟨o1, o2, o3⟩ := hOut (fun h => by cases h)
      repeat' (first | (refine no_implicit_lambda% (zH ?_)) | (((with_reducible refine no_implicit_lambda% (zA ?_)); refine no_implicit_lambda% (zD rfl rfl rfl (fun hc => ?_) (fun hc => ?_)) <;> first | exact zG hc | rw [hc])) | (((with_reducible refine no_implicit_lambda% (zB ?_)); refine no_implicit_lambda% (zE rfl (fun hc => ?_) (fun hc => ?_)) <;> first | exact zG hc | skip)) | (((with_reducible refine no_implicit_lambda% (zC ?_)); refine no_implicit_lambda% (zF rfl rfl (fun hc => ?_) (fun hc => ?_)) <;> first | exact zG hc | rw [hc])) | (refine no_implicit_lambda% (ans ?_)) | (with_reducible first | exact zI | exact zJ))
      all_goals (((with_reducible refine no_implicit_lambda% (zC ?_)); refine no_implicit_lambda% (a_appS (sz := 2) (B := 40) (m2 := (acc ++ [(⟨⟨s.toArray⟩, vs⟩ : Co)]).length) (rows3 := (acc ++ [(⟨⟨s.toArray⟩, vs⟩ : Co)]).map corow) rfl rfl rfl rfl rfl rfl rfl rfl rfl rfl rfl (fun _ h => h) rfl rfl (coOk acc) (coOk [(⟨⟨s.toArray⟩, vs⟩ : Co)]) (by first | rfl | (exact List.length_map ..) | (simp; done) | (simp; omega)) rfl (by first | omega | (simp; omega)) (by first | rfl | (simp; done) | (simp; omega)) (by first | rfl | (exact map_snoc _ _) | (rw [List.map_append]; rfl) | (simp; done)) ?_)))
      all_goals (intro cp' c1 c2; refine no_implicit_lambda% (akc ?_); repeat' (first | (refine no_implicit_lambda% (zH ?_)) | (((with_reducible refine no_implicit_lambda% (zA ?_)); refine no_implicit_lambda% (zD rfl rfl rfl (fun hc => ?_) (fun hc => ?_)) <;> first | exact zG hc | rw [hc])) | (((with_reducible refine no_implicit_lambda% (zB ?_)); refine no_implicit_lambda% (zE rfl (fun hc => ?_) (fun hc => ?_)) <;> first | exact zG hc | skip)) | (((with_reducible refine no_implicit_lambda% (zC ?_)); refine no_implicit_lambda% (zF rfl rfl (fun hc => ?_) (fun hc => ?_)) <;> first | exact zG hc | rw [hc])) | (refine no_implicit_lambda% (ans ?_)) | (with_reducible first | exact zI | exact zJ)); rw [hsub]; (refine no_implicit_lambda% (k_loopLT (((cur2, true, acc ++ [(⟨⟨s.toArray⟩, vs⟩ : Co)], cp', n) : List UInt8 × Bool × List Co × Nat × Nat)) 1 [0, 1, 2, 3, 4, 5, 19] (⟨g1, c1, c2, o2, o3, o1, g5⟩) (by first | omega | (simp; done) | (simp; omega)) (LE0 rfl) (fun _ h => h) (fun _ h => h) ?_ ?_)); (focus ((try dsimp only); exact wkl)); (focus ((try dsimp only); exact wkh)))
     | false =>
      rcases k with _ | k
      ·obtain ⟨o1, o2, o3⟩ := hOut (fun _ => rfl)
       repeat' (first | (refine no_implicit_lambda% (zH ?_)) | (((with_reducible refine no_implicit_lambda% (zA ?_)); refine no_implicit_lambda% (zD rfl rfl rfl (fun hc => ?_) (fun hc => ?_)) <;> first | exact zG hc | rw [hc])) | (((with_reducible refine no_implicit_lambda% (zB ?_)); refine no_implicit_lambda% (zE rfl (fun hc => ?_) (fun hc => ?_)) <;> first | exact zG hc | skip)) | (((with_reducible refine no_implicit_lambda% (zC ?_)); refine no_implicit_lambda% (zF rfl rfl (fun hc => ?_) (fun hc => ?_)) <;> first | exact zG hc | rw [hc])) | (refine no_implicit_lambda% (ans ?_)) | (with_reducible first | exact zI | exact zJ))
       all_goals (((with_reducible refine no_implicit_lambda% (zC ?_)); refine no_implicit_lambda% (a_appS (sz := 2) (B := 40) (m2 := (acc ++ [(⟨⟨s.toArray⟩, vs⟩ : Co)]).length) (rows3 := (acc ++ [(⟨⟨s.toArray⟩, vs⟩ : Co)]).map corow) rfl rfl rfl rfl rfl rfl rfl rfl rfl rfl rfl (fun _ h => h) rfl rfl (coOk acc) (coOk [(⟨⟨s.toArray⟩, vs⟩ : Co)]) (by first | rfl | (exact List.length_map ..) | (simp; done) | (simp; omega)) rfl (by first | omega | (simp; omega)) (by first | rfl | (simp; done) | (simp; omega)) (by first | rfl | (exact map_snoc _ _) | (rw [List.map_append]; rfl) | (simp; done)) ?_)))
       all_goals (intro cp' c1 c2; refine no_implicit_lambda% (akc ?_); repeat' (first | (refine no_implicit_lambda% (zH ?_)) | (((with_reducible refine no_implicit_lambda% (zA ?_)); refine no_implicit_lambda% (zD rfl rfl rfl (fun hc => ?_) (fun hc => ?_)) <;> first | exact zG hc | rw [hc])) | (((with_reducible refine no_implicit_lambda% (zB ?_)); refine no_implicit_lambda% (zE rfl (fun hc => ?_) (fun hc => ?_)) <;> first | exact zG hc | skip)) | (((with_reducible refine no_implicit_lambda% (zC ?_)); refine no_implicit_lambda% (zF rfl rfl (fun hc => ?_) (fun hc => ?_)) <;> first | exact zG hc | rw [hc])) | (refine no_implicit_lambda% (ans ?_)) | (with_reducible first | exact zI | exact zJ)); rw [hsub]; (refine no_implicit_lambda% (k_loopLT (((cur2, false, acc ++ [(⟨⟨s.toArray⟩, vs⟩ : Co)], cp', n) : List UInt8 × Bool × List Co × Nat × Nat)) 1 [0, 1, 2, 3, 4, 5, 19] (⟨g1, c1, c2, o2, o3, o1, g5⟩) (by first | omega | (simp; done) | (simp; omega)) (LE0 rfl) (fun _ h => h) (fun _ h => h) ?_ ?_)); (focus ((try dsimp only); exact wkl)); (focus ((try dsimp only); exact wkh)))
      ·repeat' (first | (refine no_implicit_lambda% (zH ?_)) | (((with_reducible refine no_implicit_lambda% (zA ?_)); refine no_implicit_lambda% (zD rfl rfl rfl (fun hc => ?_) (fun hc => ?_)) <;> first | exact zG hc | rw [hc])) | (((with_reducible refine no_implicit_lambda% (zB ?_)); refine no_implicit_lambda% (zE rfl (fun hc => ?_) (fun hc => ?_)) <;> first | exact zG hc | skip)) | (((with_reducible refine no_implicit_lambda% (zC ?_)); refine no_implicit_lambda% (zF rfl rfl (fun hc => ?_) (fun hc => ?_)) <;> first | exact zG hc | rw [hc])) | (refine no_implicit_lambda% (ans ?_)) | (with_reducible first | exact zI | exact zJ))
       (refine no_implicit_lambda% (cal [0] (qL_c cur2 false (by omega)) ?_ ?_))
       rotate_left
       ·intro xx H' hh
        obtain ⟨_, _, _, _, _, _, _, h', _⟩ := hh
        cases h'
       intro xx H' hh
       obtain ⟨t, r3, b3, ht, hr3, w1, w2, h', rfl⟩ := hh
       cases h'
       first | (refine no_implicit_lambda% (akc ?_)) | (refine no_implicit_lambda% (aec ?_))
       have ht2 : t < 18446744073709551616 := ht
       have hsub2 : IntKind.i64.wrap (((k + 1 : Nat) : Int) - 1) = (k : Int) := by rw [z64 (by omega) (by omega)]; omega
       have hVs : ∀ v : Va, (v.b.length ≤ 16 ∧ v.n < 18446744073709551616) → ∀ x ∈ vs ++ [(⟨IntKind.i64.wrap (t : Int), v⟩ : Ve)], x.v.b.length < 1073741824 ∧ x.v.n < 18446744073709551616 := fun v hv x hx => by
        rcases List.mem_append.1 hx with hx | hx
        ·exact g3 x hx
        ·rw [List.mem_singleton.1 hx]; exact ⟨by have := hv.1; show v.b.length < _; omega, hv.2⟩
       repeat' (first | (refine no_implicit_lambda% (zH ?_)) | (((with_reducible refine no_implicit_lambda% (zA ?_)); refine no_implicit_lambda% (zD rfl rfl rfl (fun hc => ?_) (fun hc => ?_)) <;> first | exact zG hc | rw [hc])) | (((with_reducible refine no_implicit_lambda% (zB ?_)); refine no_implicit_lambda% (zE rfl (fun hc => ?_) (fun hc => ?_)) <;> first | exact zG hc | skip)) | (((with_reducible refine no_implicit_lambda% (zC ?_)); refine no_implicit_lambda% (zF rfl rfl (fun hc => ?_) (fun hc => ?_)) <;> first | exact zG hc | rw [hc])) | (refine no_implicit_lambda% (ans ?_)) | (with_reducible first | exact zI | exact zJ) | (refine no_implicit_lambda% (cal [0] (refFail_c r3 b3) ?_ ?_)) | fail)
       ·have hbig : 1099511627776 < t := by have h9 := of_decide_eq_true hc; omega
        have hnone : bad0 = false → pR l = none := fun _ => by
         cases b3 with
         | false => exact pR_late (g4 rfl) (w1 rfl).2 hbig ht2
         | true =>
          unfold pR
          rw [g4 rfl]
          simp only [pEs, pE, (w2 rfl).2 rfl, bnd_none]
        (refine no_implicit_lambda% (cal [0] (qV_c [] true (by decide)) ?_ ?_))
        rotate_left
        ·intro xx H' hh
         obtain ⟨_, _, _, _, _, _, _, h', _⟩ := hh
         cases h'
        intro xx H' hh
        obtain ⟨v, l4, b4, hv, hl4, p1, p2, h', rfl⟩ := hh
        cases h'
        first | (refine no_implicit_lambda% (akc ?_)) | (refine no_implicit_lambda% (aec ?_))
        have hi1 : l4.length ≤ l.length := by
         have : l4.length ≤ 0 := hl4
         omega
        have hi2 : (vs ++ [(⟨IntKind.i64.wrap (t : Int), v⟩ : Ve)]).length + k ≤ 255 := by rw [List.length_append]; simp; omega
        have hg1 : b4 = false → pRaw l = bnd (pEs k l4) fun xs r => bnd (pCs n r) fun o r3 => some (acc ++ ⟨⟨s.toArray⟩, (vs ++ [(⟨IntKind.i64.wrap (t : Int), v⟩ : Ve)]) ++ xs⟩ :: o, r3) := fun hb => by cases (p1 hb).1
        have hg2 : b4 = true → l4 = [] ∧ (bad0 = false → pR l = none) := fun hb => ⟨(p2 hb).1, hnone⟩
        repeat' (first | (refine no_implicit_lambda% (zH ?_)) | (((with_reducible refine no_implicit_lambda% (is_drB ?_)); refine no_implicit_lambda% (b_two rfl rfl rfl rfl rfl (fun _ h => h) (fun _ h => h) (fun _ h => h) (fun _ h => h) rfl rfl ?_ ?_))) | fail)
        all_goals rw [hsub2]
        all_goals ((refine no_implicit_lambda% (k_loopLT (((l4, b4, vs ++ [(⟨IntKind.i64.wrap (t : Int), v⟩ : Ve)], k) : List UInt8 × Bool × List Ve × Nat)) 1 (List.range 19) (⟨hi1, hi2, hVs v hv, hg1, hg2⟩) (by first | omega | (simp; done) | (simp; omega)) (LE0 rfl) (fun _ h => h) (fun _ h => h) ?_ ?_)); (focus ((try dsimp only); exact wkl)); (focus ((try dsimp only); exact wkh)))
       ·(refine no_implicit_lambda% (cal [0] (qV_c r3 b3 (by omega)) ?_ ?_))
        rotate_left
        ·intro xx H' hh
         obtain ⟨_, _, _, _, _, _, _, h', _⟩ := hh
         cases h'
        intro xx H' hh
        obtain ⟨v, l4, b4, hv, hl4, p1, p2, h', rfl⟩ := hh
        cases h'
        first | (refine no_implicit_lambda% (akc ?_)) | (refine no_implicit_lambda% (aec ?_))
        have hg1 : b4 = false → pRaw l = bnd (pEs k l4) fun xs r => bnd (pCs n r) fun o r3 => some (acc ++ ⟨⟨s.toArray⟩, (vs ++ [(⟨IntKind.i64.wrap (t : Int), v⟩ : Ve)]) ++ xs⟩ :: o, r3) := fun hb => by
         obtain ⟨e1, e2⟩ := p1 hb
         rw [g4 rfl]
         simp only [pEs, pE, (w1 e1).2, bnd_some, e2, bnd_assoc, List.append_assoc, List.singleton_append]
        have hg2 : b4 = true → l4 = [] ∧ (bad0 = false → pR l = none) := fun hb => ⟨(p2 hb).1, fun _ => by
         unfold pR
         rw [g4 rfl]
         cases b3 with
         | false => simp only [pEs, pE, (w1 rfl).2, bnd_some, (p2 hb).2 rfl, bnd_none]
         | true => simp only [pEs, pE, (w2 rfl).2 rfl, bnd_none]⟩
        have hi1 : l4.length ≤ l.length := by omega
        have hi2 : (vs ++ [(⟨IntKind.i64.wrap (t : Int), v⟩ : Ve)]).length + k ≤ 255 := by rw [List.length_append]; simp; omega
        repeat' (first | (refine no_implicit_lambda% (zH ?_)) | (((with_reducible refine no_implicit_lambda% (is_drB ?_)); refine no_implicit_lambda% (b_two rfl rfl rfl rfl rfl (fun _ h => h) (fun _ h => h) (fun _ h => h) (fun _ h => h) rfl rfl ?_ ?_))) | fail)
        all_goals rw [hsub2]
        all_goals ((refine no_implicit_lambda% (k_loopLT (((l4, b4, vs ++ [(⟨IntKind.i64.wrap (t : Int), v⟩ : Ve)], k) : List UInt8 × Bool × List Ve × Nat)) 1 (List.range 19) (⟨hi1, hi2, hVs v hv, hg1, hg2⟩) (by first | omega | (simp; done) | (simp; omega)) (LE0 rfl) (fun _ h => h) (fun _ h => h) ?_ ?_)); (focus ((try dsimp only); exact wkl)); (focus ((try dsimp only); exact wkh)))
end Go.Proofs.YtjepgbpcpcahgaaGreat
namespace Go.Proofs.YtjepgbpcpcahgaaGreat
open Go.Am
set_option maxRecDepth 100000
theorem pR_row {l r : List UInt8} {o : List Co} (h : pR l = some (o, r)) : rowB o = true := by
 unfold pR at h
 cases h1 : pRaw l with
 | none => rw [h1] at h; cases h
 | some a =>
  rw [h1] at h
  have h2 : (if rowB a.1 then some (a.1, a.2) else none) = some (o, r) := h
  split at h2
  ·rename_i hb
   cases h2
   exact hb
  ·cases h2
end Go.Proofs.YtjepgbpcpcahgaaGreat
namespace Go.Proofs.YtjepgbpcpcahgaaGreat
open Go.Am
set_option maxRecDepth 100000
def encN (x : Nm) : List UInt8 := be x.n.data.toList.length 4 ++ x.n.data.toList ++ encR x.r
def encT (Q : List Nm) : List UInt8 := be Q.length 4 ++ Q.flatMap encN
theorem nm16 {Q : List Nm} (hQ : TbOk Q) {x : Nm} (h : x ∈ Q) : x.n.data.toList.length ≤ 16 := by
 have h1 := (hQ.nm x h).1
 unfold nmB at h1
 have h2 := of_decide_eq_true h1
 have h3 : x.n.data.toList.length = x.n.size := rfl
 omega
theorem encN_len {Q : List Nm} (hQ : TbOk Q) {x : Nm} (h : x ∈ Q) : (encN x).length ≤ 400 := by
 have h1 := nm16 hQ h
 have h2 := encR_len ((hQ.sz x h).1.row_w (hQ.sz x h).2)
 unfold encN
 simp only [List.length_append, be_len]
 omega
theorem encT_len {Q : List Nm} (hQ : TbOk Q) : (Q.flatMap encN).length ≤ 12800 := by
 have h1 := flat_len encN 400 Q fun x hx => encN_len hQ hx
 have := hQ.len
 omega
def twSt6 (Q : List Nm) (cp : Nat) (l : List UInt8) (i : Nat) : ASt := ⟨([.dead, .ptr 2 0] ++ List.replicate 15 .dead ++ [.arr 1 0 Q.length cp, .v (.int .i64 Q.length), .v (.int .i64 i)] ++ List.replicate 13 .dead), [(0, .box [.arr 1 0 Q.length cp]), (1, .seq (Q.map nmrow) ((cp - Q.length) * 2)), (2, .box [.list ((l ++ be Q.length 4 ++ (Q.take i).flatMap encN).map brow) (.tok 3)]), (3, .tok 1 ((l ++ be Q.length 4 ++ (Q.take i).flatMap encN).map brow).length)], 4⟩
set_option maxHeartbeats 6400000 in
theorem twrite_c (Q : List Nm) (cp : Nat) (l : List UInt8) (hQ : TbOk Q) (hl : l.length < 1000) : ACalls Tryz.prog 14 4 20000 [.ptr 0 0, .ptr 2 0] (tbl Q cp ++ [(2, .box [.list (l.map brow) (.tok 3)]), (3, .tok 1 (l.map brow).length)]) (fun out H' => out = .ret (.tuple []) ∧ H' = tbl Q cp ++ [(2, .box [.list ((l ++ encT Q).map brow) (.tok 3)]), (3, .tok 1 ((l ++ encT Q).map brow).length)]) := by
 have hl32 := hQ.len
 have hn := num_c l Q.length (by omega) (by omega)
 refine no_implicit_lambda% (acalls_of tok dok (f := 14) ⟨Tryz.func14, rfl, by kernel_rfl⟩ ?_); refine no_implicit_lambda% (c_start (fun _ h => h) ?_)
 repeat' (first | (refine no_implicit_lambda% (zH ?_)) | (((with_reducible refine no_implicit_lambda% (zA ?_)); refine no_implicit_lambda% (zD rfl rfl rfl (fun hc => ?_) (fun hc => ?_)) <;> first | exact zG hc | rw [hc])) | (((with_reducible refine no_implicit_lambda% (zB ?_)); refine no_implicit_lambda% (zE rfl (fun hc => ?_) (fun hc => ?_)) <;> first | exact zG hc | skip)) | (((with_reducible refine no_implicit_lambda% (zC ?_)); refine no_implicit_lambda% (zF rfl rfl (fun hc => ?_) (fun hc => ?_)) <;> first | exact zG hc | rw [hc])) | (refine no_implicit_lambda% (ans ?_)) | (with_reducible first | exact zI | exact zJ))
 rw [show IntKind.u32.wrap (Q.length : Int) = (Q.length : Int) by rw [IntKind.wrap_u32]; omega]
 repeat' (first | (refine no_implicit_lambda% (zH ?_)) | (((with_reducible refine no_implicit_lambda% (zA ?_)); refine no_implicit_lambda% (zD rfl rfl rfl (fun hc => ?_) (fun hc => ?_)) <;> first | exact zG hc | rw [hc])) | (((with_reducible refine no_implicit_lambda% (zB ?_)); refine no_implicit_lambda% (zE rfl (fun hc => ?_) (fun hc => ?_)) <;> first | exact zG hc | skip)) | (((with_reducible refine no_implicit_lambda% (zC ?_)); refine no_implicit_lambda% (zF rfl rfl (fun hc => ?_) (fun hc => ?_)) <;> first | exact zG hc | rw [hc])) | (refine no_implicit_lambda% (ans ?_)) | (with_reducible first | exact zI | exact zJ) | (refine no_implicit_lambda% (cal [2, 3] (hn) ?_ ?_)) | fail)
 refine c_loop' (twSt6 Q cp l) (fun i => i ≤ Q.length) (fun i => Q.length - i) (a := 0) (Nat.zero_le _) ?_ ?_
 ·refine (Conv.toT ?_ ?_ (LE0 rfl))
  ·unfold twSt6
   dsimp only
   exact wkl
  ·unfold twSt6
   simp only [List.take_zero, List.flatMap_nil, List.append_nil]
   exact wkh
 ·rintro i i1
  refine c_turn (n' := 4) (fun _ h => h) (fun _ h => h) rfl ?_
  have hfi : ((Q.take i).flatMap encN).length ≤ 12800 := by
   have h1 := flat_len encN 400 (Q.take i) fun x hx => encN_len hQ (List.mem_of_mem_take hx)
   have h2 : (Q.take i).length ≤ 32 := by rw [List.length_take]; omega
   omega
  rcases hx : Q[i]? with _ | x
  ·have hi : i = Q.length := by have := List.getElem?_eq_none_iff.1 hx; omega
   repeat' (first | (refine no_implicit_lambda% (zH ?_)) | (((with_reducible refine no_implicit_lambda% (zA ?_)); refine no_implicit_lambda% (zD rfl rfl rfl (fun hc => ?_) (fun hc => ?_)) <;> first | exact zG hc | rw [hc])) | (((with_reducible refine no_implicit_lambda% (zB ?_)); refine no_implicit_lambda% (zE rfl (fun hc => ?_) (fun hc => ?_)) <;> first | exact zG hc | skip)) | (((with_reducible refine no_implicit_lambda% (zC ?_)); refine no_implicit_lambda% (zF rfl rfl (fun hc => ?_) (fun hc => ?_)) <;> first | exact zG hc | rw [hc])) | (refine no_implicit_lambda% (ans ?_)) | (with_reducible first | exact zI | exact zJ))
   subst hi
   rw [List.take_length]
   have he : l ++ be Q.length 4 ++ Q.flatMap encN = l ++ encT Q := by unfold encT; simp
   rw [he]
   exact e_ret (H' := tbl Q cp ++ [(2, .box [.list ((l ++ encT Q).map brow) (.tok 3)]), (3, .tok 1 ((l ++ encT Q).map brow).length)]) (rest := _) rfl ⟨rfl, rfl⟩ permT (LE0 rfl)
  ·have hi : i < Q.length := (List.getElem?_eq_some_iff.1 hx).1
   have hxm := List.mem_of_getElem? hx
   have hxz := hQ.sz x hxm
   have hn16 := nm16 hQ hxm
   have hfs := flat_s (f := encN) hx
   obtain ⟨e0, he0⟩ : ∃ e0, e0 = l ++ be Q.length 4 ++ (Q.take i).flatMap encN := ⟨_, rfl⟩
   have hel : e0.length ≤ l.length + 12804 := by rw [he0]; simp only [List.length_append, be_len]; omega
   rw [← he0]
   have ht := text_c e0 x.n.data.toList (by omega) (by omega)
   rw [if_pos (by omega)] at ht
   have hw := write_c x.r (e0 ++ (be x.n.data.toList.length 4 ++ x.n.data.toList)) (by have := hxz.1.len; omega) hxz.2 (by simp only [List.length_append, be_len]; omega)
   rw [hxz.1.copy] at hw
   repeat' (first | (refine no_implicit_lambda% (zH ?_)) | (((with_reducible refine no_implicit_lambda% (zA ?_)); refine no_implicit_lambda% (zD rfl rfl rfl (fun hc => ?_) (fun hc => ?_)) <;> first | exact zG hc | rw [hc])) | (((with_reducible refine no_implicit_lambda% (zB ?_)); refine no_implicit_lambda% (zE rfl (fun hc => ?_) (fun hc => ?_)) <;> first | exact zG hc | skip)) | (((with_reducible refine no_implicit_lambda% (zC ?_)); refine no_implicit_lambda% (zF rfl rfl (fun hc => ?_) (fun hc => ?_)) <;> first | exact zG hc | rw [hc])) | (refine no_implicit_lambda% (ans ?_)) | (with_reducible first | exact zI | exact zJ))
   ((with_reducible refine no_implicit_lambda% (zC ?_)); first | (refine no_implicit_lambda% (a_qS rfl (fun _ h => h) ?_ ?_)) | (refine no_implicit_lambda% (a_qS rfl (qIx (fun _ h => h)) ?_ ?_)) | (refine no_implicit_lambda% (a_qS rfl (qAnd5 (fun _ h => h)) ?_ ?_)) | (refine no_implicit_lambda% (a_qS rfl (qStr (fun _ h => h)) ?_ ?_)) | (refine no_implicit_lambda% (a_qS rfl (qAnd4 (fun _ h => h)) ?_ ?_)) | (refine no_implicit_lambda% (a_qS rfl (qAnd2 (fun _ h => h)) ?_ ?_))); focus (first | omega | (simp; done) | (simp; omega))
   repeat' (first | (refine no_implicit_lambda% (zH ?_)) | (((with_reducible refine no_implicit_lambda% (zA ?_)); refine no_implicit_lambda% (zD rfl rfl rfl (fun hc => ?_) (fun hc => ?_)) <;> first | exact zG hc | rw [hc])) | (((with_reducible refine no_implicit_lambda% (zB ?_)); refine no_implicit_lambda% (zE rfl (fun hc => ?_) (fun hc => ?_)) <;> first | exact zG hc | skip)) | (((with_reducible refine no_implicit_lambda% (zC ?_)); refine no_implicit_lambda% (zF rfl rfl (fun hc => ?_) (fun hc => ?_)) <;> first | exact zG hc | rw [hc])) | (refine no_implicit_lambda% (ans ?_)) | (with_reducible first | exact zI | exact zJ))
   ((with_reducible refine no_implicit_lambda% (zC ?_)); refine no_implicit_lambda% (a_loadSeqA (sz := 2) (rows := Q.map nmrow) (i := i) (j := 0) rfl rfl rfl rfl rfl (nmOk Q) ((by rw [List.getElem?_map, hx]; rfl)) (by first | decide | (simp; done)) rfl (by first | rfl | (simp; done) | (simp; omega)) ?_))
   repeat' (first | (refine no_implicit_lambda% (zH ?_)) | (((with_reducible refine no_implicit_lambda% (zA ?_)); refine no_implicit_lambda% (zD rfl rfl rfl (fun hc => ?_) (fun hc => ?_)) <;> first | exact zG hc | rw [hc])) | (((with_reducible refine no_implicit_lambda% (zB ?_)); refine no_implicit_lambda% (zE rfl (fun hc => ?_) (fun hc => ?_)) <;> first | exact zG hc | skip)) | (((with_reducible refine no_implicit_lambda% (zC ?_)); refine no_implicit_lambda% (zF rfl rfl (fun hc => ?_) (fun hc => ?_)) <;> first | exact zG hc | rw [hc])) | (refine no_implicit_lambda% (ans ?_)) | (with_reducible first | exact zI | exact zJ))
   (with_reducible refine no_implicit_lambda% (zC ?_)); first | (refine no_implicit_lambda% (a_qS rfl (fun _ h => h) ?_ ?_)) | (refine no_implicit_lambda% (a_qS rfl (qIx (fun _ h => h)) ?_ ?_)) | (refine no_implicit_lambda% (a_qS rfl (qAnd5 (fun _ h => h)) ?_ ?_)) | (refine no_implicit_lambda% (a_qS rfl (qStr (fun _ h => h)) ?_ ?_)) | (refine no_implicit_lambda% (a_qS rfl (qAnd4 (fun _ h => h)) ?_ ?_)) | (refine no_implicit_lambda% (a_qS rfl (qAnd2 (fun _ h => h)) ?_ ?_))
   ·show x.n.data.toList.length ≤ 4611686018427387904
    omega
   repeat' (first | (refine no_implicit_lambda% (zH ?_)) | (((with_reducible refine no_implicit_lambda% (zA ?_)); refine no_implicit_lambda% (zD rfl rfl rfl (fun hc => ?_) (fun hc => ?_)) <;> first | exact zG hc | rw [hc])) | (((with_reducible refine no_implicit_lambda% (zB ?_)); refine no_implicit_lambda% (zE rfl (fun hc => ?_) (fun hc => ?_)) <;> first | exact zG hc | skip)) | (((with_reducible refine no_implicit_lambda% (zC ?_)); refine no_implicit_lambda% (zF rfl rfl (fun hc => ?_) (fun hc => ?_)) <;> first | exact zG hc | rw [hc])) | (refine no_implicit_lambda% (ans ?_)) | (with_reducible first | exact zI | exact zJ) | (refine no_implicit_lambda% (cal [2, 3] (ht) ?_ ?_)) | (refine no_implicit_lambda% (cal [2, 3] (hw) ?_ ?_)) | fail)
   have h9 : e0 ++ (be x.n.data.toList.length 4 ++ x.n.data.toList) ++ encR x.r = l ++ be Q.length 4 ++ (Q.take (i + 1)).flatMap encN := by
    rw [hfs, he0]
    unfold encN
    simp only [List.append_assoc]
   rw [h9]
   (refine no_implicit_lambda% (k_loopLT (i + 1) 4 [0, 1, 2, 3] (show i + 1 ≤ Q.length from hi) (by first | omega | (simp; done) | (simp; omega)) (LE0 rfl) (fun _ h => h) (fun _ h => h) ?_ ?_)); (focus ((try dsimp only); exact wkl)); (focus ((try dsimp only); exact wkh))
end Go.Proofs.YtjepgbpcpcahgaaGreat
namespace Go.Proofs.YtjepgbpcpcahgaaGreat
open Go.Am
set_option maxRecDepth 100000
def nextB (p : Option ByteArray) (s : ByteArray) : Bool := match p with | none => true | some q => sLt q s
def nmOkB (p : Option ByteArray) (x : Nm) : Bool := nmB x.n && !x.r.isEmpty && nextB p x.n
noncomputable def pNm (p : Option ByteArray) (l : List UInt8) : Option (Nm × List UInt8) := bnd (pX l) fun s r => bnd (pR r) fun o r2 => if nmOkB p ⟨⟨s.toArray⟩, o⟩ then some (⟨⟨s.toArray⟩, o⟩, r2) else none
noncomputable def pNms : Nat → Option ByteArray → List UInt8 → Option (List Nm × List UInt8)
 | 0, _, l => some ([], l)
 | n + 1, p, l => bnd (pNm p l) fun x r => bnd (pNms n (some x.n) r) fun xs r2 => some (x :: xs, r2)
noncomputable def pTb (l : List UInt8) : Option (List Nm × List UInt8) := bnd (pN l) fun n r => if n ≤ 32 then pNms n none r else none
def lastN (acc : List Nm) : Option ByteArray := acc.getLast?.map (·.n)
theorem lastN_snoc (acc : List Nm) (x : Nm) : lastN (acc ++ [x]) = some x.n := by unfold lastN; simp
theorem bnd_ok {α β : Type} {p : Option (α × List UInt8)} {q : α → List UInt8 → Option β} {z : β} (h : bnd p q = some z) : ∃ a r, p = some (a, r) ∧ q a r = some z := by
 cases p with
 | none => cases h
 | some a => exact ⟨a.1, a.2, rfl, h⟩
theorem GV.can {b : List UInt8} {v : Va} {r : List UInt8} (h : GV b v r) : canV v = v := by
 obtain ⟨_, ⟨h1, _, rfl, rfl⟩ | ⟨h1, h2, rfl, rfl⟩⟩ := h
 ·rfl
 ·show (⟨2, [], canonB _⟩ : Va) = _
  rw [h2.2]
theorem pV_gv {l r : List UInt8} {v : Va} (h : pV l = some (v, r)) : GV l v r := by
 unfold pV at h
 split at h
 ·rename_i hx
  have h2 := hx.choose_spec
  have h3 : hx.choose = (v, r) := Option.some.inj h
  rw [h3] at h2
  exact h2
 ·cases h
theorem pE_can {l r : List UInt8} {x : Ve} (h : pE l = some (x, r)) : canE x = x := by
 unfold pE at h
 obtain ⟨t, r1, _, h⟩ := bnd_ok h
 obtain ⟨v, r2, hv, h⟩ := bnd_ok h
 cases h
 show (⟨_, canV v⟩ : Ve) = _
 rw [(pV_gv hv).can]
theorem pEs_can : ∀ (n : Nat) {l r : List UInt8} {xs : List Ve}, pEs n l = some (xs, r) → xs.map canE = xs
 | 0, l, r, xs, h => by cases h; rfl
 | n + 1, l, r, xs, h => by
  unfold pEs at h
  obtain ⟨x, r1, hx, h⟩ := bnd_ok h
  obtain ⟨ys, r2, hy, h⟩ := bnd_ok h
  cases h
  rw [List.map_cons, pE_can hx, pEs_can n hy]
theorem pC_can {l r : List UInt8} {c : Co} (h : pC l = some (c, r)) : canC c = c := by
 unfold pC at h
 obtain ⟨s, r1, _, h⟩ := bnd_ok h
 obtain ⟨k, r2, _, h⟩ := bnd_ok h
 obtain ⟨xs, r3, hx, h⟩ := bnd_ok h
 cases h
 show (⟨_, xs.map canE⟩ : Co) = _
 rw [pEs_can k hx]
theorem pCs_can : ∀ (n : Nat) {l r : List UInt8} {o : List Co}, pCs n l = some (o, r) → o.map canC = o
 | 0, l, r, xs, h => by cases h; rfl
 | n + 1, l, r, xs, h => by
  unfold pCs at h
  obtain ⟨x, r1, hx, h⟩ := bnd_ok h
  obtain ⟨ys, r2, hy, h⟩ := bnd_ok h
  cases h
  rw [List.map_cons, pC_can hx, pCs_can n hy]
theorem pR_fine {l r : List UInt8} {o : List Co} (h : pR l = some (o, r)) : Fine o := by
 have hb := pR_row h
 unfold pR at h
 obtain ⟨o', r1, h1, h2⟩ := bnd_ok h
 unfold pRaw at h1
 obtain ⟨n, r2, _, h3⟩ := bnd_ok h1
 split at h2
 ·cases h2
  have hc : copyR o = o := by
   unfold copyR
   rw [hb, if_pos rfl]
   exact pCs_can n h3
  rw [← hc]
  exact copy_fine o
 ·cases h2
theorem tbOk_snoc {acc : List Nm} {x : Nm} (h : TbOk acc) (hl : acc.length + 1 ≤ 32) (hx : Fine x.r ∧ RowSz x.r) (hb : nmOkB (lastN acc) x = true) : TbOk (acc ++ [x]) := by
 unfold nmOkB at hb
 simp only [Bool.and_eq_true, Bool.not_eq_true', List.isEmpty_eq_false_iff] at hb
 obtain ⟨⟨h1, h2⟩, h3⟩ := hb
 refine ⟨?_, by rw [List.length_append]; exact hl, fun y hy => ?_, fun y hy => ?_⟩
 ·show Nsort (nk (acc ++ [x]))
  unfold nk Nsort
  rw [List.map_append, List.pairwise_append]
  refine ⟨h.srt, List.pairwise_singleton .., fun a ha b hb => ?_⟩
  rw [List.mem_singleton.1 hb]
  show sLt a.n x.n = true
  rcases hlast : acc.getLast? with _ | z
  ·rw [List.getLast?_eq_none_iff.1 hlast] at ha
   cases ha
  ·unfold lastN at h3
   rw [hlast] at h3
   have h4 : sLt z.n x.n = true := h3
   obtain ⟨w, hw, rfl⟩ := List.mem_map.1 ha
   obtain ⟨ys, rfl⟩ := List.getLast?_eq_some_iff.1 hlast
   rcases List.mem_append.1 hw with hw | hw
   ·have hs := h.srt
    unfold nk Nsort at hs
    rw [List.map_append, List.pairwise_append] at hs
    exact sLt_tr (hs.2.2 ⟨w.n, []⟩ (List.mem_map.2 ⟨w, hw, rfl⟩) ⟨z.n, []⟩ (by simp)) h4
   ·rw [List.mem_singleton.1 hw]; exact h4
 ·rcases List.mem_append.1 hy with hy | hy
  ·exact h.sz y hy
  ·rw [List.mem_singleton.1 hy]; exact hx
 ·rcases List.mem_append.1 hy with hy | hy
  ·exact h.nm y hy
  ·rw [List.mem_singleton.1 hy]; exact ⟨h1, h2⟩
end Go.Proofs.YtjepgbpcpcahgaaGreat
namespace Go.Proofs.YtjepgbpcpcahgaaGreat
open Go.Am
set_option maxRecDepth 100000
theorem take4_d (l : List UInt8) (hl : l.length < 10000000) : ACalls Tryz.prog 38 1 1 [.ptr 0 0] (rd l) (fun out H' => (∃ o r, pR l = some (o, r) ∧ (RowSz o ∧ r.length ≤ l.length) ∧ out = .ret (rowA o) ∧ H' = rd r) ∨ (pR l = none ∧ out = gone ∧ H' = [])) :=
 ACalls.ren (take4_c l hl) (by decide) fun out H' hh => by
  rcases hh with ⟨o, r, h1, h2, rfl, rfl⟩ | ⟨h1, rfl, rfl⟩
  ·refine ⟨[0], .ret (rowA o), rd r, by decide, by decide, (fun q h => by rw [show q = 0 from Nat.lt_one_iff.1 h]; rfl), Nat.le_refl _, rfl, ?_, .inl ⟨o, r, h1, h2, rfl, rfl⟩⟩
   simp [rd, renH, Res.ren, rn, AV.ren, AV.renL, Own.ren]
  ·exact ⟨[0], gone, [], by decide, by decide, (fun q h => by rw [show q = 0 from Nat.lt_one_iff.1 h]; rfl), Nat.le_refl _, rfl, rfl, .inr ⟨h1, rfl, rfl⟩⟩
def tk6St (cur : List UInt8) (acc : List Nm) (cp n : Nat) : ASt := ⟨([.ptr 0 0, .dead, .dead, .ptr 1 0, .v (.int .u32 n)] ++ List.replicate 67 .dead), rd cur ++ [(1, .box [.arr 2 0 acc.length cp]), (2, .seq (acc.map nmrow) ((cp - acc.length) * 2))], 4⟩
def tkcSt (r2 : List UInt8) (acc : List Nm) (cp n : Nat) (x : Nm) (b : Bool) : ASt := ⟨([.ptr 0 0, .dead, .dead, .ptr 1 0, .v (.int .u32 (n + 1 : Nat)), .ptr 6 0] ++ List.replicate 52 .dead ++ [.v (.bool b)] ++ List.replicate 13 .dead), rd r2 ++ [(6, .box [.v (.string x.n), .list (x.r.map corow) .free]), (1, .box [.arr 2 0 acc.length cp]), (2, .seq (acc.map nmrow) ((cp - acc.length) * 2))], 7⟩
def TkR (l : List UInt8) (out : AOut) (H' : Heap) : Prop := (∃ Q r cp, pTb l = some (Q, r) ∧ TbOk Q ∧ Q.length ≤ cp ∧ cp ≤ maxLen ∧ out = .ret (.ptr 1 0) ∧ H' = rd r ++ [(1, .box [.arr 2 0 Q.length cp]), (2, .seq (Q.map nmrow) ((cp - Q.length) * 2))]) ∨ (pTb l = none ∧ out = gone ∧ H' = [])
set_option maxHeartbeats 6400000 in
theorem ttake_c (l : List UInt8) (hl : l.length < 10000000) : ACalls Tryz.prog 53 1 90 [.ptr 0 0] (rd l) (TkR l) := by
 have hnw := tnew_c
 unfold tnew at hnw
 refine no_implicit_lambda% (acalls_of tok dok (f := 53) ⟨Tryz.func53, rfl, by kernel_rfl⟩ ?_); refine no_implicit_lambda% (c_start (fun _ h => h) ?_)
 repeat' (first | (refine no_implicit_lambda% (zH ?_)) | (((with_reducible refine no_implicit_lambda% (zA ?_)); refine no_implicit_lambda% (zD rfl rfl rfl (fun hc => ?_) (fun hc => ?_)) <;> first | exact zG hc | rw [hc])) | (((with_reducible refine no_implicit_lambda% (zB ?_)); refine no_implicit_lambda% (zE rfl (fun hc => ?_) (fun hc => ?_)) <;> first | exact zG hc | skip)) | (((with_reducible refine no_implicit_lambda% (zC ?_)); refine no_implicit_lambda% (zF rfl rfl (fun hc => ?_) (fun hc => ?_)) <;> first | exact zG hc | rw [hc])) | (refine no_implicit_lambda% (ans ?_)) | (with_reducible first | exact zI | exact zJ) | (refine no_implicit_lambda% (cal [] (hnw) ?_ ?_)) | fail)
 (refine no_implicit_lambda% (cal [0] (rN_c l (by omega)) ?_ ?_))
 rotate_left
 ·intro xx H' hh; rcases hh with ⟨_, _, _, _, h', _⟩ | ⟨hN, h', rfl⟩ <;> first | (cases h'; done) | (cases h'; refine no_implicit_lambda% (awd ?_); exact e_pan (H' := []) (rest := _) (.inr ⟨by (unfold pTb; rw [hN]; rfl), rfl, rfl⟩) permT (LE0 rfl))
 intro xx H' hh
 rcases hh with ⟨N, r0, hB, ⟨hN, hr0⟩, h', rfl⟩ | ⟨_, h', _⟩
 rotate_left
 ·cases h'
 cases h'
 first | (refine no_implicit_lambda% (akc ?_)) | (refine no_implicit_lambda% (aec ?_))
 repeat' (first | (refine no_implicit_lambda% (zH ?_)) | (((with_reducible refine no_implicit_lambda% (zA ?_)); refine no_implicit_lambda% (zD rfl rfl rfl (fun hc => ?_) (fun hc => ?_)) <;> first | exact zG hc | rw [hc])) | (((with_reducible refine no_implicit_lambda% (zB ?_)); refine no_implicit_lambda% (zE rfl (fun hc => ?_) (fun hc => ?_)) <;> first | exact zG hc | skip)) | (((with_reducible refine no_implicit_lambda% (zC ?_)); refine no_implicit_lambda% (zF rfl rfl (fun hc => ?_) (fun hc => ?_)) <;> first | exact zG hc | rw [hc])) | (refine no_implicit_lambda% (ans ?_)) | (with_reducible first | exact zI | exact zJ))
 ·have hbig : 32 < N := by have h9 := of_decide_eq_true hc; omega
  (refine no_implicit_lambda% (cal [0] (fail_c r0) ?_ ?_))
  ·first | (exact zI) | (exact zJ)
  ·intro xx H' hh
   obtain ⟨h', rfl⟩ := hh
   cases h'
   repeat' (first | (refine no_implicit_lambda% (zH ?_)) | (((with_reducible refine no_implicit_lambda% (zA ?_)); refine no_implicit_lambda% (zD rfl rfl rfl (fun hc => ?_) (fun hc => ?_)) <;> first | exact zG hc | rw [hc])) | (((with_reducible refine no_implicit_lambda% (zB ?_)); refine no_implicit_lambda% (zE rfl (fun hc => ?_) (fun hc => ?_)) <;> first | exact zG hc | skip)) | (((with_reducible refine no_implicit_lambda% (zC ?_)); refine no_implicit_lambda% (zF rfl rfl (fun hc => ?_) (fun hc => ?_)) <;> first | exact zG hc | rw [hc])) | (refine no_implicit_lambda% (ans ?_)) | (with_reducible first | exact zI | exact zJ))
   exact e_pan (H' := []) (rest := _) (.inr ⟨by unfold pTb; rw [hB, bnd_some, if_neg (by omega)], rfl, rfl⟩) permT (LE0 rfl)
 have hN32 : N ≤ 32 := by have h9 := of_decide_eq_false hc; omega
 have hraw : pTb l = pNms N none r0 := by unfold pTb; rw [hB, bnd_some, if_pos hN32]
 refine c_l4 (fun cur acc cp n => tk6St cur acc cp n) (fun cur acc cp n => cur.length ≤ l.length ∧ acc.length ≤ cp ∧ cp ≤ maxLen ∧ TbOk acc ∧ acc.length + n ≤ 32 ∧ pTb l = bnd (pNms n (lastN acc) cur) fun xs r => some (acc ++ xs, r)) (fun _ _ _ n => n) r0 [] 0 N ⟨hr0, Nat.le_refl _, by decide, nil_ok, by simp; omega, by rw [hraw, show lastN [] = none from rfl]; cases pNms N none r0 <;> rfl⟩ ?_ ?_
 ·(refine no_implicit_lambda% (Conv.toT ?_ ?_ (LE0 rfl))); (focus ((unfold tk6St); (try dsimp only); exact wkl)); (focus ((unfold tk6St); (try dsimp only); exact wkh))
 ·rintro cur acc cp n ⟨h1, h2, h3, hT, h5, hE⟩
  have hl32 := hT.len
  refine c_turn (n' := 4) (fun _ h => h) (fun _ h => h) rfl ?_
  rcases n with _ | n
  ·have hraw2 : pTb l = some (acc, cur) := by rw [hE]; show some (acc ++ [], cur) = _; rw [List.append_nil]
   repeat' (first | (refine no_implicit_lambda% (zH ?_)) | (((with_reducible refine no_implicit_lambda% (zA ?_)); refine no_implicit_lambda% (zD rfl rfl rfl (fun hc => ?_) (fun hc => ?_)) <;> first | exact zG hc | rw [hc])) | (((with_reducible refine no_implicit_lambda% (zB ?_)); refine no_implicit_lambda% (zE rfl (fun hc => ?_) (fun hc => ?_)) <;> first | exact zG hc | skip)) | (((with_reducible refine no_implicit_lambda% (zC ?_)); refine no_implicit_lambda% (zF rfl rfl (fun hc => ?_) (fun hc => ?_)) <;> first | exact zG hc | rw [hc])) | (refine no_implicit_lambda% (ans ?_)) | (with_reducible first | exact zI | exact zJ))
   exact e_ret (H' := rd cur ++ [(1, .box [.arr 2 0 acc.length cp]), (2, .seq (acc.map nmrow) ((cp - acc.length) * 2))]) (rest := _) rfl (.inl ⟨acc, cur, cp, hraw2, hT, h2, h3, rfl, rfl⟩) permT (LE0 rfl)
  ·repeat' (first | (refine no_implicit_lambda% (zH ?_)) | (((with_reducible refine no_implicit_lambda% (zA ?_)); refine no_implicit_lambda% (zD rfl rfl rfl (fun hc => ?_) (fun hc => ?_)) <;> first | exact zG hc | rw [hc])) | (((with_reducible refine no_implicit_lambda% (zB ?_)); refine no_implicit_lambda% (zE rfl (fun hc => ?_) (fun hc => ?_)) <;> first | exact zG hc | skip)) | (((with_reducible refine no_implicit_lambda% (zC ?_)); refine no_implicit_lambda% (zF rfl rfl (fun hc => ?_) (fun hc => ?_)) <;> first | exact zG hc | rw [hc])) | (refine no_implicit_lambda% (ans ?_)) | (with_reducible first | exact zI | exact zJ))
   (refine no_implicit_lambda% (cal [0] (rX_c cur (by omega)) ?_ ?_))
   rotate_left
   ·intro xx H' hh; rcases hh with ⟨_, _, _, _, h', _⟩ | ⟨hN, h', rfl⟩ <;> first | (cases h'; done) | (cases h'; refine no_implicit_lambda% (awd ?_); exact e_pan (H' := []) (rest := _) (.inr ⟨by (rw [hE]; simp only [pNms, pNm, hN, bnd_none]), rfl, rfl⟩) permT (LE0 rfl))
   intro xx H' hh
   rcases hh with ⟨s, r1, hX, ⟨hs16, hr1⟩, h', rfl⟩ | ⟨_, h', _⟩
   rotate_left
   ·cases h'
   cases h'
   first | (refine no_implicit_lambda% (akc ?_)) | (refine no_implicit_lambda% (aec ?_))
   repeat' (first | (refine no_implicit_lambda% (zH ?_)) | (((with_reducible refine no_implicit_lambda% (zA ?_)); refine no_implicit_lambda% (zD rfl rfl rfl (fun hc => ?_) (fun hc => ?_)) <;> first | exact zG hc | rw [hc])) | (((with_reducible refine no_implicit_lambda% (zB ?_)); refine no_implicit_lambda% (zE rfl (fun hc => ?_) (fun hc => ?_)) <;> first | exact zG hc | skip)) | (((with_reducible refine no_implicit_lambda% (zC ?_)); refine no_implicit_lambda% (zF rfl rfl (fun hc => ?_) (fun hc => ?_)) <;> first | exact zG hc | rw [hc])) | (refine no_implicit_lambda% (ans ?_)) | (with_reducible first | exact zI | exact zJ))
   (refine no_implicit_lambda% (cal [0] (take4_d r1 (by omega)) ?_ ?_))
   rotate_left
   ·intro xx H' hh; rcases hh with ⟨_, _, _, _, h', _⟩ | ⟨hN, h', rfl⟩ <;> first | (cases h'; done) | (cases h'; refine no_implicit_lambda% (awd ?_); exact e_pan (H' := []) (rest := _) (.inr ⟨by (rw [hE]; simp only [pNms, pNm, hX, bnd_some, hN, bnd_none]), rfl, rfl⟩) permT (LE0 rfl))
   intro xx H' hh
   rcases hh with ⟨o, r2, hR, ⟨ho, hr2⟩, h', rfl⟩ | ⟨_, h', _⟩
   rotate_left
   ·cases h'
   cases h'
   first | (refine no_implicit_lambda% (akc ?_)) | (refine no_implicit_lambda% (aec ?_))
   have hnm := name_c ⟨s.toArray⟩
   have hfc := fail_c r2
   have hfin := pR_fine hR
   have hE2 : pTb l = if nmOkB (lastN acc) ⟨⟨s.toArray⟩, o⟩ then bnd (pNms n (some ⟨s.toArray⟩) r2) fun xs r => some (acc ++ ⟨⟨s.toArray⟩, o⟩ :: xs, r) else none := by
    rw [hE]
    simp only [pNms, pNm, hX, bnd_some, hR, bnd_assoc]
    split <;> rfl
   repeat' (first | ((with_reducible refine no_implicit_lambda% (zA ?_)); first | (refine no_implicit_lambda% (o_op rfl ?_)) | (refine no_implicit_lambda% (o_yes rfl rfl rfl ?_)) | (refine no_implicit_lambda% (o_no rfl rfl rfl (fun _ h => h) ?_)) | (refine no_implicit_lambda% (o_not rfl rfl rfl (fun _ h => h) ?_))) | ((with_reducible refine no_implicit_lambda% (is_opK ?_)); first | (refine no_implicit_lambda% (k_op' (fun _ h => h) ?_))) | ((with_reducible refine no_implicit_lambda% (zC ?_)); first | (refine no_implicit_lambda% (a_q1 rfl (fun _ h => h) ?_)) | (refine no_implicit_lambda% (a_box rfl (fun _ h => h) ?_)) | (refine no_implicit_lambda% (a_alloc rfl (fun _ h => h) ?_)) | (refine no_implicit_lambda% (a_storev rfl (fun _ h => h) ?_)) | (refine no_implicit_lambda% (a_store rfl (fun _ h => h) ?_)) | (refine no_implicit_lambda% (a_panic rfl rfl ?_))) | ((with_reducible refine no_implicit_lambda% (zC ?_)); first | (refine no_implicit_lambda% (a_append_tok rfl rfl rfl rfl rfl rfl rfl rfl rfl rfl rfl rfl rfl rfl (by first | rfl | (simp; done)) (fun _ h => h) (by (first | assumption | (intro row hr; simp only [List.mem_cons, List.not_mem_nil, or_false] at hr; rcases hr with rfl | rfl | rfl | rfl <;> rfl) | (intro row hr; simp at hr; done) | (intro row hr; simp only [List.mem_singleton] at hr; subst hr; rfl) | (intro row hr; obtain ⟨_, _, rfl⟩ := List.mem_map.1 hr; rfl))) (by (refine ⟨?_, ?_⟩ <;> (simp only [List.length_map, List.length_append, List.length_cons, List.length_nil]; omega))) ?_)) | (refine no_implicit_lambda% (a_append_full rfl rfl rfl rfl rfl rfl rfl rfl rfl rfl rfl rfl (by (first | assumption | (intro row hr; simp only [List.mem_cons, List.not_mem_nil, or_false] at hr; rcases hr with rfl | rfl | rfl | rfl <;> rfl) | (intro row hr; simp at hr; done) | (intro row hr; simp only [List.mem_singleton] at hr; subst hr; rfl) | (intro row hr; obtain ⟨_, _, rfl⟩ := List.mem_map.1 hr; rfl))) (by (first | assumption | (intro row hr; simp only [List.mem_cons, List.not_mem_nil, or_false] at hr; rcases hr with rfl | rfl | rfl | rfl <;> rfl) | (intro row hr; simp at hr; done) | (intro row hr; simp only [List.mem_singleton] at hr; subst hr; rfl) | (intro row hr; obtain ⟨_, _, rfl⟩ := List.mem_map.1 hr; rfl))) (by (refine ⟨?_, ?_⟩ <;> (simp only [List.length_map, List.length_append, List.length_cons, List.length_nil]; omega))) ?_))) | (first | (with_reducible refine no_implicit_lambda% (c_seq ?_)) | (with_reducible refine no_implicit_lambda% (c_region ?_)) | (with_reducible refine no_implicit_lambda% (c_ret ?_)) | (with_reducible refine no_implicit_lambda% (c_skip ?_)) | (with_reducible refine no_implicit_lambda% (c_block ?_)) | (with_reducible refine no_implicit_lambda% (c_exit ?_)) | (with_reducible refine no_implicit_lambda% (o_nil ?_)) | (with_reducible refine no_implicit_lambda% (k_seq ?_)) | (with_reducible refine no_implicit_lambda% (k_seq_ret ?_)) | (with_reducible refine no_implicit_lambda% (k_seq_exit ?_)) | (with_reducible refine no_implicit_lambda% (k_seq_pan ?_)) | (with_reducible refine no_implicit_lambda% (k_block ?_)) | (with_reducible refine no_implicit_lambda% (k_block_ret ?_)) | (with_reducible refine no_implicit_lambda% (k_block_pan ?_)) | ((with_reducible refine no_implicit_lambda% (is_blockx ?_)); first | (refine no_implicit_lambda% (k_block_here rfl ?_)) | (refine no_implicit_lambda% (k_block_on rfl ?_))) | (with_reducible refine no_implicit_lambda% (k_pan ?_)) | (with_reducible refine no_implicit_lambda% (k_opP ?_)) | (with_reducible refine no_implicit_lambda% (k_loop_ret ?_)) | (with_reducible refine no_implicit_lambda% (k_loop_exit ?_)) | (with_reducible refine no_implicit_lambda% (k_loop_pan ?_)) | (with_reducible refine no_implicit_lambda% (e_end ?_))) | (((with_reducible refine no_implicit_lambda% (zB ?_)); first | (refine no_implicit_lambda% (c_true rfl ?_)) | (refine no_implicit_lambda% (c_false rfl ?_)))) | ((with_reducible refine no_implicit_lambda% (zC ?_)); refine no_implicit_lambda% (a_qS rfl (qIx (fun _ h => h)) (by first | assumption | exact hpx (by assumption) | exact hpy (by assumption)) ?_)) | (((with_reducible refine no_implicit_lambda% (zA ?_)); refine no_implicit_lambda% (zD rfl rfl rfl (fun hc => ?_) (fun hc => ?_)) <;> first | exact zG hc | rw [hc])) | (((with_reducible refine no_implicit_lambda% (zB ?_)); refine no_implicit_lambda% (zE rfl (fun hc => ?_) (fun hc => ?_)) <;> first | exact zG hc | skip)) | (((with_reducible refine no_implicit_lambda% (zC ?_)); refine no_implicit_lambda% (zF rfl rfl (fun hc => ?_) (fun hc => ?_)) <;> first | exact zG hc | rw [hc])) | (refine no_implicit_lambda% (ans ?_)) | (with_reducible first | exact zI | exact zJ))
   obtain ⟨x, hx⟩ : ∃ x : Nm, x = ⟨⟨s.toArray⟩, o⟩ := ⟨_, rfl⟩
   have hxn : (⟨s.toArray⟩ : ByteArray) = x.n := by rw [hx]
   have hxr : o = x.r := by rw [hx]
   rw [← hx, hxn] at hE2
   rw [hxn] at hnm
   rw [hxn, hxr]
   rw [hxr] at hfin ho
   clear hx hxn hxr
   refine c_cutR (fun b => tkcSt r2 acc cp n x b) (fun b => b = !nmOkB (lastN acc) x) ?_ ?_
   ·rintro b rfl
    refine c_turn (n' := 7) (fun _ h => h) (fun _ h => h) rfl ?_
    cases hok : nmOkB (lastN acc) x with
    | false =>
     rw [hok, if_neg (by simp)] at hE2
     repeat' (first | (refine no_implicit_lambda% (zH ?_)) | (((with_reducible refine no_implicit_lambda% (zA ?_)); refine no_implicit_lambda% (zD rfl rfl rfl (fun hc => ?_) (fun hc => ?_)) <;> first | exact zG hc | rw [hc])) | (((with_reducible refine no_implicit_lambda% (zB ?_)); refine no_implicit_lambda% (zE rfl (fun hc => ?_) (fun hc => ?_)) <;> first | exact zG hc | skip)) | (((with_reducible refine no_implicit_lambda% (zC ?_)); refine no_implicit_lambda% (zF rfl rfl (fun hc => ?_) (fun hc => ?_)) <;> first | exact zG hc | rw [hc])) | (refine no_implicit_lambda% (ans ?_)) | (with_reducible first | exact zI | exact zJ))
     (refine no_implicit_lambda% (cal [0] (hfc) ?_ ?_))
     ·first | (exact zI) | (exact zJ)
     ·intro xx H' hh
      obtain ⟨h', rfl⟩ := hh
      cases h'
      repeat' (first | (refine no_implicit_lambda% (zH ?_)) | (((with_reducible refine no_implicit_lambda% (zA ?_)); refine no_implicit_lambda% (zD rfl rfl rfl (fun hc => ?_) (fun hc => ?_)) <;> first | exact zG hc | rw [hc])) | (((with_reducible refine no_implicit_lambda% (zB ?_)); refine no_implicit_lambda% (zE rfl (fun hc => ?_) (fun hc => ?_)) <;> first | exact zG hc | skip)) | (((with_reducible refine no_implicit_lambda% (zC ?_)); refine no_implicit_lambda% (zF rfl rfl (fun hc => ?_) (fun hc => ?_)) <;> first | exact zG hc | rw [hc])) | (refine no_implicit_lambda% (ans ?_)) | (with_reducible first | exact zI | exact zJ))
      exact e_pan (H' := []) (rest := _) (.inr ⟨hE2, rfl, rfl⟩) permT (LE0 rfl)
    | true =>
     rw [hok, if_pos rfl] at hE2
     have hT2 := tbOk_snoc hT (by omega) ⟨hfin, ho⟩ hok
     repeat' (first | (refine no_implicit_lambda% (zH ?_)) | (((with_reducible refine no_implicit_lambda% (zA ?_)); refine no_implicit_lambda% (zD rfl rfl rfl (fun hc => ?_) (fun hc => ?_)) <;> first | exact zG hc | rw [hc])) | (((with_reducible refine no_implicit_lambda% (zB ?_)); refine no_implicit_lambda% (zE rfl (fun hc => ?_) (fun hc => ?_)) <;> first | exact zG hc | skip)) | (((with_reducible refine no_implicit_lambda% (zC ?_)); refine no_implicit_lambda% (zF rfl rfl (fun hc => ?_) (fun hc => ?_)) <;> first | exact zG hc | rw [hc])) | (((with_reducible refine no_implicit_lambda% (is_ev ?_)); refine no_implicit_lambda% (v_split rfl rfl rfl rfl (fun hc => ?_) (fun hc => ?_)) <;> first | exact zG hc | rw [hc])) | (refine no_implicit_lambda% (ans ?_)) | (with_reducible first | exact zI | exact zJ))
     ((with_reducible refine no_implicit_lambda% (zC ?_)); refine no_implicit_lambda% (a_appS (sz := 2) (B := 40) (m2 := (acc ++ [x]).length) (rows3 := (acc ++ [x]).map nmrow) rfl rfl rfl rfl rfl rfl rfl rfl rfl rfl rfl (fun _ h => h) rfl rfl (nmOk acc) (nmOk [x]) (by first | rfl | (exact List.length_map ..) | (simp; done) | (simp; omega)) rfl (by first | omega | (simp; omega)) (by first | rfl | (simp; done) | (simp; omega)) (by first | rfl | (exact map_snoc _ _) | (rw [List.map_append]; rfl) | (simp; done)) ?_))
     intro cp' d1 d2
     refine no_implicit_lambda% (aec ?_)
     repeat' (first | (refine no_implicit_lambda% (zH ?_)) | (((with_reducible refine no_implicit_lambda% (is_drB ?_)); refine no_implicit_lambda% (b_two rfl rfl rfl rfl rfl (fun _ h => h) (fun _ h => h) (fun _ h => h) (fun _ h => h) rfl rfl ?_ ?_))) | fail)
     all_goals rw [show IntKind.u32.wrap (((n + 1 : Nat) : Int) - 1) = (n : Int) by rw [IntKind.wrap_u32]; omega]
     all_goals (refine no_implicit_lambda% (k_loopLT (((r2, acc ++ [x], cp', n) : List UInt8 × List Nm × Nat × Nat)) 1 [0, 1, 7, 3] (by
      show r2.length ≤ l.length ∧ (acc ++ [x]).length ≤ cp' ∧ cp' ≤ maxLen ∧ TbOk (acc ++ [x]) ∧ (acc ++ [x]).length + n ≤ 32 ∧ pTb l = bnd (pNms n (lastN (acc ++ [x])) r2) fun xs r => some ((acc ++ [x]) ++ xs, r)
      refine ⟨by omega, d1, d2, hT2, by rw [List.length_append]; simp; omega, ?_⟩
      rw [hE2, lastN_snoc]
      simp only [List.append_assoc, List.singleton_append]) (by first | omega | (simp; done) | (simp; omega)) (LE0 rfl) (fun _ h => h) (fun _ h => h) ?_ ?_)); (focus ((try dsimp only); exact wkl)); (focus ((try dsimp only); exact wkh))
   ·intro Kx kN kP kR kE
    unfold nmOkB at kN
    cases h1 : nmB x.n with
    | false =>
     rw [h1] at hnm
     repeat' (first | (refine no_implicit_lambda% (zH ?_)) | (((with_reducible refine no_implicit_lambda% (zA ?_)); refine no_implicit_lambda% (zD rfl rfl rfl (fun hc => ?_) (fun hc => ?_)) <;> first | exact zG hc | rw [hc])) | (((with_reducible refine no_implicit_lambda% (zB ?_)); refine no_implicit_lambda% (zE rfl (fun hc => ?_) (fun hc => ?_)) <;> first | exact zG hc | skip)) | (((with_reducible refine no_implicit_lambda% (zC ?_)); refine no_implicit_lambda% (zF rfl rfl (fun hc => ?_) (fun hc => ?_)) <;> first | exact zG hc | rw [hc])) | (((with_reducible refine no_implicit_lambda% (is_ev ?_)); refine no_implicit_lambda% (v_split rfl rfl rfl rfl (fun hc => ?_) (fun hc => ?_)) <;> first | exact zG hc | rw [hc])) | (refine no_implicit_lambda% (ans ?_)) | (with_reducible first | exact zI | exact zJ) | (refine no_implicit_lambda% (cal [] (hnm) ?_ ?_)) | fail)
     refine kN true _ _ _ (by rw [h1]; rfl) (.inl ?_)
     (refine no_implicit_lambda% (Conv.toT ?_ ?_ (LE0 rfl))); (focus ((unfold tkcSt); (try dsimp only); exact wkl)); (focus ((unfold tkcSt); (try dsimp only); exact wkh))
    | true =>
     rw [h1] at hnm
     rcases hr0 : x.r with _ | ⟨c0, cr⟩
     ·repeat' (first | (refine no_implicit_lambda% (zH ?_)) | (((with_reducible refine no_implicit_lambda% (zA ?_)); refine no_implicit_lambda% (zD rfl rfl rfl (fun hc => ?_) (fun hc => ?_)) <;> first | exact zG hc | rw [hc])) | (((with_reducible refine no_implicit_lambda% (zB ?_)); refine no_implicit_lambda% (zE rfl (fun hc => ?_) (fun hc => ?_)) <;> first | exact zG hc | skip)) | (((with_reducible refine no_implicit_lambda% (zC ?_)); refine no_implicit_lambda% (zF rfl rfl (fun hc => ?_) (fun hc => ?_)) <;> first | exact zG hc | rw [hc])) | (((with_reducible refine no_implicit_lambda% (is_ev ?_)); refine no_implicit_lambda% (v_split rfl rfl rfl rfl (fun hc => ?_) (fun hc => ?_)) <;> first | exact zG hc | rw [hc])) | (refine no_implicit_lambda% (ans ?_)) | (with_reducible first | exact zI | exact zJ) | (refine no_implicit_lambda% (cal [] (hnm) ?_ ?_)) | fail)
      refine kN true _ _ _ (by rw [h1, hr0]; rfl) (.inl ?_)
      rw [← hr0]
      (refine no_implicit_lambda% (Conv.toT ?_ ?_ (LE0 rfl))); (focus ((unfold tkcSt); (try dsimp only); exact wkl)); (focus ((unfold tkcSt); (try dsimp only); exact wkh))
     ·have hlen : 0 < x.r.length := by rw [hr0]; simp
      have hne : x.r.isEmpty = false := by rw [hr0]; rfl
      rw [← hr0]
      clear hr0
      rcases hla : acc[acc.length - 1]? with _ | y
      ·have hz : acc.length = 0 := by
        have := List.getElem?_eq_none_iff.1 hla
        omega
       have hln : lastN acc = none := by rw [List.eq_nil_of_length_eq_zero hz]; rfl
       refine no_implicit_lambda% (awd ?_)
       (refine no_implicit_lambda% (cal [] (hnm) ?_ ?_))
       ·refine no_implicit_lambda% (ret1 ?_); first | (refine no_implicit_lambda% (akc ?_)) | (refine no_implicit_lambda% (aec ?_))
        refine no_implicit_lambda% (awd ?_)
        ((with_reducible refine no_implicit_lambda% (is_ev ?_)); refine no_implicit_lambda% (v_split rfl rfl rfl rfl (fun hc => ?_) (fun hc => ?_)) <;> first | exact zG hc | rw [hc])
        refine no_implicit_lambda% (awd ?_)
        ((with_reducible refine no_implicit_lambda% (is_ev ?_)); refine no_implicit_lambda% (v_split rfl rfl rfl rfl (fun hc => ?_) (fun hc => ?_)) <;> first | exact zG hc | rw [hc])
        refine no_implicit_lambda% (awd ?_)
        refine kN false _ _ _ (by rw [h1, hne, hln]; rfl) (.inl ?_)
        (refine no_implicit_lambda% (Conv.toT ?_ ?_ (LE0 rfl))); (focus ((unfold tkcSt); (try dsimp only); exact wkl)); (focus ((unfold tkcSt); (try dsimp only); exact wkh))
       ·first | (exact zI) | (exact zJ)
      ·have hpos : 0 < acc.length := by have := (List.getElem?_eq_some_iff.1 hla).1; omega
       have hln : lastN acc = some y.n := by
        unfold lastN
        rw [List.getLast?_eq_getElem?, hla]; rfl
       refine no_implicit_lambda% (awd ?_)
       (refine no_implicit_lambda% (cal [] (hnm) ?_ ?_))
       ·refine no_implicit_lambda% (ret1 ?_); first | (refine no_implicit_lambda% (akc ?_)) | (refine no_implicit_lambda% (aec ?_))
        refine no_implicit_lambda% (awd ?_)
        ((with_reducible refine no_implicit_lambda% (is_ev ?_)); refine no_implicit_lambda% (v_split rfl rfl rfl rfl (fun hc => ?_) (fun hc => ?_)) <;> first | exact zG hc | rw [hc])
        refine no_implicit_lambda% (awd ?_)
        ((with_reducible refine no_implicit_lambda% (is_ev ?_)); refine no_implicit_lambda% (v_split rfl rfl rfl rfl (fun hc => ?_) (fun hc => ?_)) <;> first | exact zG hc | rw [hc])
        refine no_implicit_lambda% (awd ?_)
        rw [show IntKind.i64.wrap ((acc.length : Int) - 1) = ((acc.length - 1 : Nat) : Int) by rw [z64 (by omega) (by omega)]; omega]
        ((with_reducible refine no_implicit_lambda% (is_ev ?_)); first | (refine no_implicit_lambda% (v_yesS rfl rfl rfl rfl rfl rfl (fun _ h => h) (fun _ h => h) ?_ ?_)) | (refine no_implicit_lambda% (v_yesS rfl rfl rfl rfl rfl rfl (qAnd2 (fun _ h => h)) (fun _ h => h) ?_ ?_))); focus (first | omega | (simp; done) | (simp; omega))
        refine no_implicit_lambda% (awd ?_)
        ((with_reducible refine no_implicit_lambda% (is_ev ?_)); first | (refine no_implicit_lambda% (v_q rfl rfl rfl rfl (q_loadSeq (sz := 2) (rows := acc.map nmrow) (i := (acc.length - 1)) (j := 0) rfl rfl rfl rfl rfl (nmOk acc) ((by rw [List.getElem?_map, hla]; rfl)) rfl (by first | rfl | (simp; done) | (simp; omega))) (fun _ h => h) ?_)) | (refine no_implicit_lambda% (v_yes rfl rfl rfl rfl rfl rfl (q_loadSeq (sz := 2) (rows := acc.map nmrow) (i := (acc.length - 1)) (j := 0) rfl rfl rfl rfl rfl (nmOk acc) ((by rw [List.getElem?_map, hla]; rfl)) rfl (by first | rfl | (simp; done) | (simp; omega))) (fun _ h => h) ?_)))
        refine no_implicit_lambda% (awd ?_)
        refine kN (!sLt y.n x.n) _ _ _ (by rw [h1, hne, hln]; rfl) (.inl ?_)
        (refine no_implicit_lambda% (Conv.toT ?_ ?_ (LE0 rfl))); (focus ((unfold tkcSt); (try dsimp only); exact wkl)); (focus ((unfold tkcSt); (try dsimp only); exact wkh))
       ·first | (exact zI) | (exact zJ)
end Go.Proofs.YtjepgbpcpcahgaaGreat
namespace Go.Proofs.YtjepgbpcpcahgaaGreat
open Go.Am
set_option maxRecDepth 100000
def t6wSt (Q : List Nm) (e : List UInt8) (i : Nat) : ASt := ⟨([.list (e.map brow) .free, .list (Q.map nmrow) .free, .dead, .dead, .dead, .v (.int .i64 i)] ++ List.replicate 26 .dead), [], 1⟩
set_option maxHeartbeats 6400000 in
theorem rtwrite_c (Q : List Nm) (hQ : TbOk Q) : ACalls Tryz.prog 15 0 300000 [.list (([] : List UInt8).map brow) .free, .list (Q.map nmrow) .free] [] (fun out H' => out = .ret (.list ((encT Q).map brow) .free) ∧ H' = []) := by
 have hl32 := hQ.len
 have hn := refNum_c [] Q.length (by omega) (by decide)
 rw [List.nil_append] at hn
 refine no_implicit_lambda% (acalls_of tok dok (f := 15) ⟨Tryz.func15, rfl, by kernel_rfl⟩ ?_); refine no_implicit_lambda% (c_start (fun _ h => h) ?_)
 repeat' (first | (refine no_implicit_lambda% (zH ?_)) | (((with_reducible refine no_implicit_lambda% (zA ?_)); refine no_implicit_lambda% (zD rfl rfl rfl (fun hc => ?_) (fun hc => ?_)) <;> first | exact zG hc | rw [hc])) | (((with_reducible refine no_implicit_lambda% (zB ?_)); refine no_implicit_lambda% (zE rfl (fun hc => ?_) (fun hc => ?_)) <;> first | exact zG hc | skip)) | (((with_reducible refine no_implicit_lambda% (zC ?_)); refine no_implicit_lambda% (zF rfl rfl (fun hc => ?_) (fun hc => ?_)) <;> first | exact zG hc | rw [hc])) | (refine no_implicit_lambda% (ans ?_)) | (with_reducible first | exact zI | exact zJ))
 rw [List.length_map, show IntKind.u32.wrap (Q.length : Int) = (Q.length : Int) by rw [IntKind.wrap_u32]; omega]
 repeat' (first | (refine no_implicit_lambda% (zH ?_)) | (((with_reducible refine no_implicit_lambda% (zA ?_)); refine no_implicit_lambda% (zD rfl rfl rfl (fun hc => ?_) (fun hc => ?_)) <;> first | exact zG hc | rw [hc])) | (((with_reducible refine no_implicit_lambda% (zB ?_)); refine no_implicit_lambda% (zE rfl (fun hc => ?_) (fun hc => ?_)) <;> first | exact zG hc | skip)) | (((with_reducible refine no_implicit_lambda% (zC ?_)); refine no_implicit_lambda% (zF rfl rfl (fun hc => ?_) (fun hc => ?_)) <;> first | exact zG hc | rw [hc])) | (refine no_implicit_lambda% (ans ?_)) | (with_reducible first | exact zI | exact zJ) | (refine no_implicit_lambda% (cal [] (hn) ?_ ?_)) | fail)
 refine c_loop' (fun i => t6wSt Q (be Q.length 4 ++ (Q.take i).flatMap encN) i) (fun i => i ≤ Q.length) (fun i => Q.length - i) (a := 0) (Nat.zero_le _) ?_ ?_
 ·refine (Conv.toT ?_ ?_ (LE0 rfl))
  ·unfold t6wSt
   simp only [List.take_zero, List.flatMap_nil, List.append_nil]
   exact wkl
  ·unfold t6wSt
   exact wkh
 ·rintro i i1
  refine c_turn (n' := 1) (fun _ h => h) (fun _ h => h) rfl ?_
  have hfi : ((Q.take i).flatMap encN).length ≤ 12800 := by
   have h1 := flat_len encN 400 (Q.take i) fun x hx => encN_len hQ (List.mem_of_mem_take hx)
   have h2 : (Q.take i).length ≤ 32 := by rw [List.length_take]; omega
   omega
  rcases hx : Q[i]? with _ | x
  ·have hi : i = Q.length := by have := List.getElem?_eq_none_iff.1 hx; omega
   repeat' (first | (refine no_implicit_lambda% (zH ?_)) | (((with_reducible refine no_implicit_lambda% (zA ?_)); refine no_implicit_lambda% (zD rfl rfl rfl (fun hc => ?_) (fun hc => ?_)) <;> first | exact zG hc | rw [hc])) | (((with_reducible refine no_implicit_lambda% (zB ?_)); refine no_implicit_lambda% (zE rfl (fun hc => ?_) (fun hc => ?_)) <;> first | exact zG hc | skip)) | (((with_reducible refine no_implicit_lambda% (zC ?_)); refine no_implicit_lambda% (zF rfl rfl (fun hc => ?_) (fun hc => ?_)) <;> first | exact zG hc | rw [hc])) | (refine no_implicit_lambda% (ans ?_)) | (with_reducible first | exact zI | exact zJ))
   subst hi
   rw [List.take_length]
   exact e_ret (H' := []) (rest := _) rfl ⟨rfl, rfl⟩ permT (LE0 rfl)
  ·have hi : i < Q.length := (List.getElem?_eq_some_iff.1 hx).1
   have hxm := List.mem_of_getElem? hx
   have hxz := hQ.sz x hxm
   have hn16 := nm16 hQ hxm
   have hix := nmx hx
   have hfs := flat_s (f := encN) hx
   obtain ⟨e0, he0⟩ : ∃ e0, e0 = be Q.length 4 ++ (Q.take i).flatMap encN := ⟨_, rfl⟩
   have hel : e0.length ≤ 12804 := by rw [he0]; simp only [List.length_append, be_len]; omega
   rw [← he0]
   have ht := refText_c e0 x.n.data.toList (by omega) (by omega)
   have hw := rwrite_c (e0 ++ (be x.n.data.toList.length 4 ++ x.n.data.toList)) x.r (by have := hxz.1.len; omega) hxz.2 (by simp only [List.length_append, be_len]; omega)
   rw [hxz.1.copy] at hw
   repeat' (first | (refine no_implicit_lambda% (zH ?_)) | (((with_reducible refine no_implicit_lambda% (zA ?_)); refine no_implicit_lambda% (zD rfl rfl rfl (fun hc => ?_) (fun hc => ?_)) <;> first | exact zG hc | rw [hc])) | (((with_reducible refine no_implicit_lambda% (zB ?_)); refine no_implicit_lambda% (zE rfl (fun hc => ?_) (fun hc => ?_)) <;> first | exact zG hc | skip)) | (((with_reducible refine no_implicit_lambda% (zC ?_)); refine no_implicit_lambda% (zF rfl rfl (fun hc => ?_) (fun hc => ?_)) <;> first | exact zG hc | rw [hc])) | (((with_reducible refine no_implicit_lambda% (is_ev ?_)); refine no_implicit_lambda% (v_split rfl rfl rfl rfl (fun hc => ?_) (fun hc => ?_)) <;> first | exact zG hc | rw [hc])) | (refine no_implicit_lambda% (ans ?_)) | (with_reducible first | exact zI | exact zJ))
   ((with_reducible refine no_implicit_lambda% (is_ev ?_)); refine no_implicit_lambda% (v_qS rfl rfl rfl rfl (fun _ h => h) (fun _ h => h) ?_ ?_))
   ·show x.n.data.toList.length ≤ 4611686018427387904
    omega
   repeat' (first | (refine no_implicit_lambda% (zH ?_)) | (((with_reducible refine no_implicit_lambda% (zA ?_)); refine no_implicit_lambda% (zD rfl rfl rfl (fun hc => ?_) (fun hc => ?_)) <;> first | exact zG hc | rw [hc])) | (((with_reducible refine no_implicit_lambda% (zB ?_)); refine no_implicit_lambda% (zE rfl (fun hc => ?_) (fun hc => ?_)) <;> first | exact zG hc | skip)) | (((with_reducible refine no_implicit_lambda% (zC ?_)); refine no_implicit_lambda% (zF rfl rfl (fun hc => ?_) (fun hc => ?_)) <;> first | exact zG hc | rw [hc])) | (((with_reducible refine no_implicit_lambda% (is_ev ?_)); refine no_implicit_lambda% (v_split rfl rfl rfl rfl (fun hc => ?_) (fun hc => ?_)) <;> first | exact zG hc | rw [hc])) | (refine no_implicit_lambda% (ans ?_)) | (with_reducible first | exact zI | exact zJ) | (refine no_implicit_lambda% (cal [] (ht) ?_ ?_)) | fail)
   (refine no_implicit_lambda% (calw [] (hw) ?_ ?_))
   ·refine no_implicit_lambda% (ret1 ?_); first | (refine no_implicit_lambda% (akc ?_)) | (refine no_implicit_lambda% (aec ?_))
    repeat' (first | (refine no_implicit_lambda% (zH ?_)) | (((with_reducible refine no_implicit_lambda% (zA ?_)); refine no_implicit_lambda% (zD rfl rfl rfl (fun hc => ?_) (fun hc => ?_)) <;> first | exact zG hc | rw [hc])) | (((with_reducible refine no_implicit_lambda% (zB ?_)); refine no_implicit_lambda% (zE rfl (fun hc => ?_) (fun hc => ?_)) <;> first | exact zG hc | skip)) | (((with_reducible refine no_implicit_lambda% (zC ?_)); refine no_implicit_lambda% (zF rfl rfl (fun hc => ?_) (fun hc => ?_)) <;> first | exact zG hc | rw [hc])) | (((with_reducible refine no_implicit_lambda% (is_ev ?_)); refine no_implicit_lambda% (v_split rfl rfl rfl rfl (fun hc => ?_) (fun hc => ?_)) <;> first | exact zG hc | rw [hc])) | (refine no_implicit_lambda% (ans ?_)) | (with_reducible first | exact zI | exact zJ))
    have h9 : e0 ++ (be x.n.data.toList.length 4 ++ x.n.data.toList) ++ encR x.r = be Q.length 4 ++ (Q.take (i + 1)).flatMap encN := by
     rw [hfs, he0]
     unfold encN
     simp only [List.append_assoc]
    rw [h9]
    (refine no_implicit_lambda% (k_loopLT (i + 1) 0 [0] (show i + 1 ≤ Q.length from hi) (by first | omega | (simp; done) | (simp; omega)) (LE0 rfl) (fun _ h => h) (fun _ h => h) ?_ ?_)); (focus ((try dsimp only); exact wkl)); (focus ((try dsimp only); exact wkh))
   ·first | (exact zI) | (exact zJ)
end Go.Proofs.YtjepgbpcpcahgaaGreat
namespace Go.Proofs.YtjepgbpcpcahgaaGreat
open Go.Am
set_option maxRecDepth 100000
theorem ubn_l4 {l : List UInt8} (h : l.length = 4) : ubn l 0 < 4294967296 := by
 have := ubn_take l 4
 rwa [List.take_of_length_le (by omega)] at this
theorem qN_c (l : List UInt8) (bad : Bool) (h : l.length < 70368744177664) : ACalls Tryz.prog 108 1 4 [.ptr 0 0] (rr l bad) (dQ pN (· < 4294967296) (fun x => .v (.int .u32 (x : Nat))) l bad) :=
 (refRNum_c l bad h).mono fun out H' ⟨h1, h2⟩ => by
  obtain ⟨f1, f2, f3⟩ := rd_fcts 4 l bad
  refine ⟨_, _, _, ubn_l4 (rSome_len 4 l bad (by decide)), f1, fun hb => ?_, fun hb => ?_, h1, h2⟩
  ·obtain ⟨g1, g2, g3, g4⟩ := f2 hb
   exact ⟨g1, by unfold pN; rw [if_pos g2, g3, g4]⟩
  ·obtain ⟨g1, g2⟩ := f3 hb
   exact ⟨g1, fun hb => by unfold pN; rw [if_neg (g2 hb)]⟩
theorem rtake4_d (l : List UInt8) (bad0 : Bool) (hl : l.length < 10000000) : ACalls Tryz.prog 39 1 1 [.ptr 0 0] (rr l bad0) (dQ pR RowSz rowA l bad0) :=
 ACalls.ren (rtake4_c l bad0 hl) (by decide) fun out H' hh => by
  obtain ⟨x, l', b', h1, h2, h3, h4, rfl, rfl⟩ := hh
  refine ⟨[0], .ret (rowA x), rr l' b', by decide, by decide, (fun q h => by rw [show q = 0 from Nat.lt_one_iff.1 h]; rfl), Nat.le_refl _, rfl, ?_, x, l', b', h1, h2, h3, h4, rfl, rfl⟩
  simp [rr, renH, Res.ren, rn, AV.ren, AV.renL, Own.ren]
def t6tSt (N : Nat) (cur : List UInt8) (bad : Bool) (acc : List Nm) (i : Nat) : ASt := ⟨([.ptr 0 0, .dead, .dead, .v (.int .i64 N), .list (acc.map nmrow) (.tok 4), .v (.int .i64 i)] ++ List.replicate 64 .dead), rr cur bad ++ [(4, .tok 2 acc.length)], 5⟩
def t6cSt (N : Nat) (cur : List UInt8) (bad : Bool) (acc : List Nm) (i : Nat) (x : Nm) (b : Bool) : ASt := ⟨([.ptr 0 0, .dead, .dead, .v (.int .i64 N), .list (acc.map nmrow) (.tok 4), .v (.int .i64 i), .ptr 12 0] ++ List.replicate 51 .dead ++ [.v (.bool b)] ++ List.replicate 11 .dead), rr cur bad ++ [(12, .box [.v (.string x.n), .list (x.r.map corow) .free]), (4, .tok 2 acc.length)], 13⟩
def t6aSt (N : Nat) (p : List UInt8 × Bool) : ASt := ⟨([.ptr 0 0, .dead, .dead, .v (.int .i64 N)] ++ List.replicate 66 .dead), rr p.1 p.2, 4⟩
def TqR (l : List UInt8) (out : AOut) (H' : Heap) : Prop := (∃ Q r, pTb l = some (Q, r) ∧ out = .ret (.list (Q.map nmrow) .free) ∧ H' = rr r false) ∨ (pTb l = none ∧ out = .ret (.list [] .free) ∧ H' = rr [] true)
set_option maxHeartbeats 6400000 in
theorem rttake_c (l : List UInt8) (hl : l.length < 10000000) : ACalls Tryz.prog 54 1 900 [.ptr 0 0] (rr l false) (TqR l) := by
 refine no_implicit_lambda% (acalls_of tok dok (f := 54) ⟨Tryz.func54, rfl, by kernel_rfl⟩ ?_); refine no_implicit_lambda% (c_start (fun _ h => h) ?_)
 repeat' (first | (refine no_implicit_lambda% (zH ?_)) | (((with_reducible refine no_implicit_lambda% (zA ?_)); refine no_implicit_lambda% (zD rfl rfl rfl (fun hc => ?_) (fun hc => ?_)) <;> first | exact zG hc | rw [hc])) | (((with_reducible refine no_implicit_lambda% (zB ?_)); refine no_implicit_lambda% (zE rfl (fun hc => ?_) (fun hc => ?_)) <;> first | exact zG hc | skip)) | (((with_reducible refine no_implicit_lambda% (zC ?_)); refine no_implicit_lambda% (zF rfl rfl (fun hc => ?_) (fun hc => ?_)) <;> first | exact zG hc | rw [hc])) | (refine no_implicit_lambda% (ans ?_)) | (with_reducible first | exact zI | exact zJ))
 (refine no_implicit_lambda% (cal [0] (qN_c l false (by omega)) ?_ ?_))
 rotate_left
 ·intro xx H' hh
  obtain ⟨_, _, _, _, _, _, _, h', _⟩ := hh
  cases h'
 intro xx H' hh
 obtain ⟨N, r0, b0, hN, hr0, q1, q2, h', rfl⟩ := hh
 cases h'
 have hN2 : N < 4294967296 := hN
 first | (refine no_implicit_lambda% (akc ?_)) | (refine no_implicit_lambda% (aec ?_))
 repeat' (first | (refine no_implicit_lambda% (sx1 ?_)) | (((with_reducible refine no_implicit_lambda% (zA ?_)); refine no_implicit_lambda% (zD rfl rfl rfl (fun hc => ?_) (fun hc => ?_)) <;> first | exact zG hc | rw [hc])) | (((with_reducible refine no_implicit_lambda% (zB ?_)); refine no_implicit_lambda% (zE rfl (fun hc => ?_) (fun hc => ?_)) <;> first | exact zG hc | skip)) | (((with_reducible refine no_implicit_lambda% (zC ?_)); refine no_implicit_lambda% (zF rfl rfl (fun hc => ?_) (fun hc => ?_)) <;> first | exact zG hc | rw [hc])) | fail)
 rw [show IntKind.i64.wrap (N : Int) = (N : Int) from z64 (by omega) (by omega)]
 refine k_seq ?_
 repeat' (first | (refine no_implicit_lambda% (sx1 ?_)) | (((with_reducible refine no_implicit_lambda% (zA ?_)); refine no_implicit_lambda% (zD rfl rfl rfl (fun hc => ?_) (fun hc => ?_)) <;> first | exact zG hc | rw [hc])) | (((with_reducible refine no_implicit_lambda% (zB ?_)); refine no_implicit_lambda% (zE rfl (fun hc => ?_) (fun hc => ?_)) <;> first | exact zG hc | skip)) | (((with_reducible refine no_implicit_lambda% (zC ?_)); refine no_implicit_lambda% (zF rfl rfl (fun hc => ?_) (fun hc => ?_)) <;> first | exact zG hc | rw [hc])) | fail)
 refine k_seq ?_
 refine c_cutR (fun p => t6aSt N p) (fun p => p.1.length ≤ l.length ∧ (p.2 = false → N ≤ 32 ∧ pTb l = pNms N none p.1) ∧ (p.2 = true → p.1 = [] ∧ pTb l = none)) ?_ ?_
 rotate_left
 ·intro Kx kN kP kR kE
  repeat' (first | (refine no_implicit_lambda% (zH ?_)) | (((with_reducible refine no_implicit_lambda% (zA ?_)); refine no_implicit_lambda% (zD rfl rfl rfl (fun hc => ?_) (fun hc => ?_)) <;> first | exact zG hc | rw [hc])) | (((with_reducible refine no_implicit_lambda% (zB ?_)); refine no_implicit_lambda% (zE rfl (fun hc => ?_) (fun hc => ?_)) <;> first | exact zG hc | skip)) | (((with_reducible refine no_implicit_lambda% (zC ?_)); refine no_implicit_lambda% (zF rfl rfl (fun hc => ?_) (fun hc => ?_)) <;> first | exact zG hc | rw [hc])) | (refine no_implicit_lambda% (ans ?_)) | (with_reducible first | exact zI | exact zJ) | (refine no_implicit_lambda% (cal [0] (refFail_c r0 b0) ?_ ?_)) | fail)
  ·have hbig : 32 < N := by have h9 := of_decide_eq_true hc; omega
   refine kN ([], true) _ _ _ ⟨Nat.zero_le _, fun h => (by cases h), fun _ => ⟨rfl, ?_⟩⟩ (.inl ?_)
   ·unfold pTb
    cases b0 with
    | false => rw [(q1 rfl).2, bnd_some, if_neg (by omega)]
    | true => rw [(q2 rfl).2 rfl]; rfl
   ·(refine no_implicit_lambda% (Conv.toT ?_ ?_ (LE0 rfl))); (focus ((unfold t6aSt); (try dsimp only); exact wkl)); (focus ((unfold t6aSt); (try dsimp only); exact wkh))
  ·have hs : N ≤ 32 := by have h9 := of_decide_eq_false hc; omega
   refine kN (r0, b0) _ _ _ ⟨hr0, fun hb => ⟨hs, ?_⟩, fun hb => ⟨(q2 hb).1, ?_⟩⟩ (.inl ?_)
   ·unfold pTb; rw [(q1 hb).2, bnd_some, if_pos hs]
   ·unfold pTb; rw [(q2 hb).2 rfl]; rfl
   ·(refine no_implicit_lambda% (Conv.toT ?_ ?_ (LE0 rfl))); (focus ((unfold t6aSt); (try dsimp only); exact wkl)); (focus ((unfold t6aSt); (try dsimp only); exact wkh))
 rintro ⟨cur0, bad0⟩ ⟨e1, e2, e3⟩
 dsimp only at e1 e2 e3
 refine c_turn (n' := 4) (fun _ h => h) (fun _ h => h) rfl ?_
 repeat' (first | (refine no_implicit_lambda% (zH ?_)) | (((with_reducible refine no_implicit_lambda% (zA ?_)); refine no_implicit_lambda% (zD rfl rfl rfl (fun hc => ?_) (fun hc => ?_)) <;> first | exact zG hc | rw [hc])) | (((with_reducible refine no_implicit_lambda% (zB ?_)); refine no_implicit_lambda% (zE rfl (fun hc => ?_) (fun hc => ?_)) <;> first | exact zG hc | skip)) | (((with_reducible refine no_implicit_lambda% (zC ?_)); refine no_implicit_lambda% (zF rfl rfl (fun hc => ?_) (fun hc => ?_)) <;> first | exact zG hc | rw [hc])) | (refine no_implicit_lambda% (ans ?_)) | (with_reducible first | exact zI | exact zJ))
 refine c_l4 (fun cur bad acc i => t6tSt N cur bad acc i) (fun cur bad acc i => cur.length ≤ l.length ∧ acc.length = i ∧ i ≤ 33 ∧ (bad = false → TbOk acc ∧ N ≤ 32 ∧ i ≤ N ∧ pTb l = bnd (pNms (N - i) (lastN acc) cur) fun xs r => some (acc ++ xs, r)) ∧ (bad = true → cur = [] ∧ pTb l = none)) (fun _ _ _ i => 33 - i) cur0 bad0 [] 0 ⟨e1, rfl, by omega, fun hb => ⟨nil_ok, (e2 hb).1, Nat.zero_le _, by rw [(e2 hb).2, show lastN [] = none from rfl, Nat.sub_zero]; cases pNms N none cur0 <;> rfl⟩, e3⟩ ((Conv.tokSlot (j := 4) (sz := 2) (rows := []) rfl (by simp)).trans ?_) ?_
 ·(refine no_implicit_lambda% (Conv.toT ?_ ?_ (LE0 rfl))); (focus ((unfold t6tSt); (try dsimp only); exact wkl)); (focus ((unfold t6tSt); (try dsimp only); exact wkh))
 ·rintro cur bad acc i ⟨g1, g2, g3, g4, g5⟩
  have r1 : ∀ row ∈ acc.map nmrow, row.length = 2 := (nmOk acc).len
  have b1 : (acc.map nmrow).length ≤ 33 := by rw [List.length_map]; omega
  have b2 : acc.length ≤ 33 := by omega
  refine c_turn (n' := 5) (fun _ h => h) (fun _ h => h) rfl ?_
  cases bad with
  | true =>
   obtain ⟨rfl, hno⟩ := g5 rfl
   repeat' (first | (refine no_implicit_lambda% (zH ?_)) | (((with_reducible refine no_implicit_lambda% (zA ?_)); refine no_implicit_lambda% (zD rfl rfl rfl (fun hc => ?_) (fun hc => ?_)) <;> first | exact zG hc | rw [hc])) | (((with_reducible refine no_implicit_lambda% (zB ?_)); refine no_implicit_lambda% (zE rfl (fun hc => ?_) (fun hc => ?_)) <;> first | exact zG hc | skip)) | (((with_reducible refine no_implicit_lambda% (zC ?_)); refine no_implicit_lambda% (zF rfl rfl (fun hc => ?_) (fun hc => ?_)) <;> first | exact zG hc | rw [hc])) | (refine no_implicit_lambda% (ans ?_)) | (with_reducible first | exact zI | exact zJ))
   all_goals exact e_ret_to (H' := rr [] true) (rest := _) (.freeSlot 2 rfl) rfl (.inr ⟨hno, rfl, rfl⟩) permT (LE0 rfl)
  | false =>
   obtain ⟨hT, hN32, hiN, hE⟩ := g4 rfl
   by_cases hi : i = N
   ·subst hi
    have hraw : pTb l = some (acc, cur) := by rw [hE, Nat.sub_self]; show some (acc ++ [], cur) = _; rw [List.append_nil]
    repeat' (first | (refine no_implicit_lambda% (zH ?_)) | (((with_reducible refine no_implicit_lambda% (zA ?_)); refine no_implicit_lambda% (zD rfl rfl rfl (fun hc => ?_) (fun hc => ?_)) <;> first | exact zG hc | rw [hc])) | (((with_reducible refine no_implicit_lambda% (zB ?_)); refine no_implicit_lambda% (zE rfl (fun hc => ?_) (fun hc => ?_)) <;> first | exact zG hc | skip)) | (((with_reducible refine no_implicit_lambda% (zC ?_)); refine no_implicit_lambda% (zF rfl rfl (fun hc => ?_) (fun hc => ?_)) <;> first | exact zG hc | rw [hc])) | (refine no_implicit_lambda% (ans ?_)) | (with_reducible first | exact zI | exact zJ))
    exact e_ret_to (H' := rr cur false) (rest := _) (.freeSlot 2 rfl) rfl (.inl ⟨acc, cur, hraw, rfl, rfl⟩) permT (LE0 rfl)
   ·obtain ⟨m, hm⟩ : ∃ m, N - i = m + 1 := ⟨N - i - 1, by omega⟩
    rw [hm] at hE
    repeat' (first | (refine no_implicit_lambda% (zH ?_)) | (((with_reducible refine no_implicit_lambda% (zA ?_)); refine no_implicit_lambda% (zD rfl rfl rfl (fun hc => ?_) (fun hc => ?_)) <;> first | exact zG hc | rw [hc])) | (((with_reducible refine no_implicit_lambda% (zB ?_)); refine no_implicit_lambda% (zE rfl (fun hc => ?_) (fun hc => ?_)) <;> first | exact zG hc | skip)) | (((with_reducible refine no_implicit_lambda% (zC ?_)); refine no_implicit_lambda% (zF rfl rfl (fun hc => ?_) (fun hc => ?_)) <;> first | exact zG hc | rw [hc])) | (refine no_implicit_lambda% (ans ?_)) | (with_reducible first | exact zI | exact zJ))
    (refine no_implicit_lambda% (cal [0] (qX_c cur false (by omega)) ?_ ?_))
    rotate_left
    ·intro xx H' hh
     obtain ⟨_, _, _, _, _, _, _, h', _⟩ := hh
     cases h'
    intro xx H' hh
    obtain ⟨s, r1', c1, hs16, hr1, u1, u2, h', rfl⟩ := hh
    cases h'
    first | (refine no_implicit_lambda% (akc ?_)) | (refine no_implicit_lambda% (aec ?_))
    repeat' (first | (refine no_implicit_lambda% (zH ?_)) | (((with_reducible refine no_implicit_lambda% (zA ?_)); refine no_implicit_lambda% (zD rfl rfl rfl (fun hc => ?_) (fun hc => ?_)) <;> first | exact zG hc | rw [hc])) | (((with_reducible refine no_implicit_lambda% (zB ?_)); refine no_implicit_lambda% (zE rfl (fun hc => ?_) (fun hc => ?_)) <;> first | exact zG hc | skip)) | (((with_reducible refine no_implicit_lambda% (zC ?_)); refine no_implicit_lambda% (zF rfl rfl (fun hc => ?_) (fun hc => ?_)) <;> first | exact zG hc | rw [hc])) | (refine no_implicit_lambda% (ans ?_)) | (with_reducible first | exact zI | exact zJ))
    (refine no_implicit_lambda% (cal [0] (rtake4_d r1' c1 (by omega)) ?_ ?_))
    rotate_left
    ·intro xx H' hh
     obtain ⟨_, _, _, _, _, _, _, h', _⟩ := hh
     cases h'
    intro xx H' hh
    obtain ⟨o, r2, c2, hoz, hr2, v1, v2, h', rfl⟩ := hh
    cases h'
    first | (refine no_implicit_lambda% (akc ?_)) | (refine no_implicit_lambda% (aec ?_))
    have hnm := rname_c ⟨s.toArray⟩
    obtain ⟨x, hx⟩ : ∃ x : Nm, x = ⟨⟨s.toArray⟩, o⟩ := ⟨_, rfl⟩
    have hxn : (⟨s.toArray⟩ : ByteArray) = x.n := by rw [hx]
    have hxr : o = x.r := by rw [hx]
    have hfin : c2 = false → Fine x.r ∧ RowSz x.r := fun hb => by rw [← hxr]; exact ⟨pR_fine (v1 hb).2, hoz⟩
    have hE2 : c2 = false → pTb l = if nmOkB (lastN acc) x then bnd (pNms m (some x.n) r2) fun xs r => some (acc ++ x :: xs, r) else none := fun hb => by
     obtain ⟨e4, e5⟩ := v1 hb
     rw [hE]
     simp only [pNms, pNm, (u1 e4).2, bnd_some, e5, bnd_assoc]
     rw [hx]
     split <;> rfl
    have hE3 : c2 = true → r2 = [] ∧ pTb l = none := fun hb => ⟨(v2 hb).1, by
     rw [hE]
     cases c1 with
     | false => simp only [pNms, pNm, (u1 rfl).2, bnd_some, (v2 hb).2 rfl, bnd_none]
     | true => simp only [pNms, pNm, (u2 rfl).2 rfl, bnd_none]⟩
    repeat' (first | ((with_reducible refine no_implicit_lambda% (zA ?_)); first | (refine no_implicit_lambda% (o_op rfl ?_)) | (refine no_implicit_lambda% (o_yes rfl rfl rfl ?_)) | (refine no_implicit_lambda% (o_no rfl rfl rfl (fun _ h => h) ?_)) | (refine no_implicit_lambda% (o_not rfl rfl rfl (fun _ h => h) ?_))) | ((with_reducible refine no_implicit_lambda% (is_opK ?_)); first | (refine no_implicit_lambda% (k_op' (fun _ h => h) ?_))) | ((with_reducible refine no_implicit_lambda% (zC ?_)); first | (refine no_implicit_lambda% (a_q1 rfl (fun _ h => h) ?_)) | (refine no_implicit_lambda% (a_box rfl (fun _ h => h) ?_)) | (refine no_implicit_lambda% (a_alloc rfl (fun _ h => h) ?_)) | (refine no_implicit_lambda% (a_storev rfl (fun _ h => h) ?_)) | (refine no_implicit_lambda% (a_store rfl (fun _ h => h) ?_)) | (refine no_implicit_lambda% (a_panic rfl rfl ?_))) | ((with_reducible refine no_implicit_lambda% (zC ?_)); first | (refine no_implicit_lambda% (a_append_tok rfl rfl rfl rfl rfl rfl rfl rfl rfl rfl rfl rfl rfl rfl (by first | rfl | (simp; done)) (fun _ h => h) (by (first | assumption | (intro row hr; simp only [List.mem_cons, List.not_mem_nil, or_false] at hr; rcases hr with rfl | rfl | rfl | rfl <;> rfl) | (intro row hr; simp at hr; done) | (intro row hr; simp only [List.mem_singleton] at hr; subst hr; rfl) | (intro row hr; obtain ⟨_, _, rfl⟩ := List.mem_map.1 hr; rfl))) (by (refine ⟨?_, ?_⟩ <;> (simp only [List.length_map, List.length_append, List.length_cons, List.length_nil]; omega))) ?_)) | (refine no_implicit_lambda% (a_append_full rfl rfl rfl rfl rfl rfl rfl rfl rfl rfl rfl rfl (by (first | assumption | (intro row hr; simp only [List.mem_cons, List.not_mem_nil, or_false] at hr; rcases hr with rfl | rfl | rfl | rfl <;> rfl) | (intro row hr; simp at hr; done) | (intro row hr; simp only [List.mem_singleton] at hr; subst hr; rfl) | (intro row hr; obtain ⟨_, _, rfl⟩ := List.mem_map.1 hr; rfl))) (by (first | assumption | (intro row hr; simp only [List.mem_cons, List.not_mem_nil, or_false] at hr; rcases hr with rfl | rfl | rfl | rfl <;> rfl) | (intro row hr; simp at hr; done) | (intro row hr; simp only [List.mem_singleton] at hr; subst hr; rfl) | (intro row hr; obtain ⟨_, _, rfl⟩ := List.mem_map.1 hr; rfl))) (by (refine ⟨?_, ?_⟩ <;> (simp only [List.length_map, List.length_append, List.length_cons, List.length_nil]; omega))) ?_))) | (first | (with_reducible refine no_implicit_lambda% (c_seq ?_)) | (with_reducible refine no_implicit_lambda% (c_region ?_)) | (with_reducible refine no_implicit_lambda% (c_ret ?_)) | (with_reducible refine no_implicit_lambda% (c_skip ?_)) | (with_reducible refine no_implicit_lambda% (c_block ?_)) | (with_reducible refine no_implicit_lambda% (c_exit ?_)) | (with_reducible refine no_implicit_lambda% (o_nil ?_)) | (with_reducible refine no_implicit_lambda% (k_seq ?_)) | (with_reducible refine no_implicit_lambda% (k_seq_ret ?_)) | (with_reducible refine no_implicit_lambda% (k_seq_exit ?_)) | (with_reducible refine no_implicit_lambda% (k_seq_pan ?_)) | (with_reducible refine no_implicit_lambda% (k_block ?_)) | (with_reducible refine no_implicit_lambda% (k_block_ret ?_)) | (with_reducible refine no_implicit_lambda% (k_block_pan ?_)) | ((with_reducible refine no_implicit_lambda% (is_blockx ?_)); first | (refine no_implicit_lambda% (k_block_here rfl ?_)) | (refine no_implicit_lambda% (k_block_on rfl ?_))) | (with_reducible refine no_implicit_lambda% (k_pan ?_)) | (with_reducible refine no_implicit_lambda% (k_opP ?_)) | (with_reducible refine no_implicit_lambda% (k_loop_ret ?_)) | (with_reducible refine no_implicit_lambda% (k_loop_exit ?_)) | (with_reducible refine no_implicit_lambda% (k_loop_pan ?_)) | (with_reducible refine no_implicit_lambda% (e_end ?_))) | (((with_reducible refine no_implicit_lambda% (zB ?_)); first | (refine no_implicit_lambda% (c_true rfl ?_)) | (refine no_implicit_lambda% (c_false rfl ?_)))) | ((with_reducible refine no_implicit_lambda% (zC ?_)); refine no_implicit_lambda% (a_qS rfl (qIx (fun _ h => h)) (by first | assumption | exact hpx (by assumption) | exact hpy (by assumption)) ?_)) | (((with_reducible refine no_implicit_lambda% (zA ?_)); refine no_implicit_lambda% (zD rfl rfl rfl (fun hc => ?_) (fun hc => ?_)) <;> first | exact zG hc | rw [hc])) | (((with_reducible refine no_implicit_lambda% (zB ?_)); refine no_implicit_lambda% (zE rfl (fun hc => ?_) (fun hc => ?_)) <;> first | exact zG hc | skip)) | (((with_reducible refine no_implicit_lambda% (zC ?_)); refine no_implicit_lambda% (zF rfl rfl (fun hc => ?_) (fun hc => ?_)) <;> first | exact zG hc | rw [hc])) | (refine no_implicit_lambda% (ans ?_)) | (with_reducible first | exact zI | exact zJ))
    rw [hxn] at hnm
    rw [hxn, hxr]
    clear hx hxn hxr
    refine c_cutR (fun b => t6cSt N r2 c2 acc i x b) (fun b => b = !nmOkB (lastN acc) x) ?_ ?_
    ·rintro b rfl
     refine c_turn (n' := 13) (fun _ h => h) (fun _ h => h) rfl ?_
     cases hok : nmOkB (lastN acc) x with
     | false =>
      rw [hok] at hE2
      repeat' (first | (refine no_implicit_lambda% (zH ?_)) | (((with_reducible refine no_implicit_lambda% (zA ?_)); refine no_implicit_lambda% (zD rfl rfl rfl (fun hc => ?_) (fun hc => ?_)) <;> first | exact zG hc | rw [hc])) | (((with_reducible refine no_implicit_lambda% (zB ?_)); refine no_implicit_lambda% (zE rfl (fun hc => ?_) (fun hc => ?_)) <;> first | exact zG hc | skip)) | (((with_reducible refine no_implicit_lambda% (zC ?_)); refine no_implicit_lambda% (zF rfl rfl (fun hc => ?_) (fun hc => ?_)) <;> first | exact zG hc | rw [hc])) | (refine no_implicit_lambda% (ans ?_)) | (with_reducible first | exact zI | exact zJ) | (refine no_implicit_lambda% (cal [0] (refFail_c r2 c2) ?_ ?_)) | fail)
      (refine no_implicit_lambda% (k_loopLT ((([], true, acc ++ [x], i + 1) : List UInt8 × Bool × List Nm × Nat)) 1 [0, 1, 2, 3, 4] (by
       show ([] : List UInt8).length ≤ l.length ∧ (acc ++ [x]).length = i + 1 ∧ i + 1 ≤ 33 ∧ (true = false → TbOk (acc ++ [x]) ∧ N ≤ 32 ∧ i + 1 ≤ N ∧ pTb l = bnd (pNms (N - (i + 1)) (lastN (acc ++ [x])) []) fun xs r => some ((acc ++ [x]) ++ xs, r)) ∧ (true = true → ([] : List UInt8) = [] ∧ pTb l = none)
       refine ⟨Nat.zero_le _, by rw [List.length_append, g2]; rfl, by omega, fun h => (by cases h), fun _ => ⟨rfl, ?_⟩⟩
       cases c2 with
       | false => rw [hE2 rfl, if_neg (by simp)]
       | true => exact (hE3 rfl).2) (by first | omega | (simp; done) | (simp; omega)) (LE0 rfl) (fun _ h => h) (fun _ h => h) ?_ ?_)); (focus ((try dsimp only); exact wkl)); (focus ((try dsimp only); exact wkh))
     | true =>
      rw [hok] at hE2
      repeat' (first | (refine no_implicit_lambda% (zH ?_)) | (((with_reducible refine no_implicit_lambda% (zA ?_)); refine no_implicit_lambda% (zD rfl rfl rfl (fun hc => ?_) (fun hc => ?_)) <;> first | exact zG hc | rw [hc])) | (((with_reducible refine no_implicit_lambda% (zB ?_)); refine no_implicit_lambda% (zE rfl (fun hc => ?_) (fun hc => ?_)) <;> first | exact zG hc | skip)) | (((with_reducible refine no_implicit_lambda% (zC ?_)); refine no_implicit_lambda% (zF rfl rfl (fun hc => ?_) (fun hc => ?_)) <;> first | exact zG hc | rw [hc])) | (refine no_implicit_lambda% (ans ?_)) | (with_reducible first | exact zI | exact zJ))
      (refine no_implicit_lambda% (k_loopLT (((r2, c2, acc ++ [x], i + 1) : List UInt8 × Bool × List Nm × Nat)) 1 [0, 1, 2, 3, 4] (by
       show r2.length ≤ l.length ∧ (acc ++ [x]).length = i + 1 ∧ i + 1 ≤ 33 ∧ (c2 = false → TbOk (acc ++ [x]) ∧ N ≤ 32 ∧ i + 1 ≤ N ∧ pTb l = bnd (pNms (N - (i + 1)) (lastN (acc ++ [x])) r2) fun xs r => some ((acc ++ [x]) ++ xs, r)) ∧ (c2 = true → r2 = [] ∧ pTb l = none)
       refine ⟨by omega, by rw [List.length_append, g2]; rfl, by omega, fun hb => ⟨tbOk_snoc hT (by omega) (hfin hb) hok, hN32, by omega, ?_⟩, hE3⟩
       rw [hE2 hb, if_pos rfl, lastN_snoc, show N - (i + 1) = m by omega]
       simp only [List.append_assoc, List.singleton_append]) (by first | omega | (simp; done) | (simp; omega)) (LE0 rfl) (fun _ h => h) (fun _ h => h) ?_ ?_)); (focus ((try dsimp only); exact wkl)); (focus ((try dsimp only); exact wkh))
    ·intro Kx kN kP kR kE
     unfold nmOkB at kN
     cases h1 : nmB x.n with
     | false =>
      rw [h1] at hnm
      repeat' (first | (refine no_implicit_lambda% (zH ?_)) | (((with_reducible refine no_implicit_lambda% (zA ?_)); refine no_implicit_lambda% (zD rfl rfl rfl (fun hc => ?_) (fun hc => ?_)) <;> first | exact zG hc | rw [hc])) | (((with_reducible refine no_implicit_lambda% (zB ?_)); refine no_implicit_lambda% (zE rfl (fun hc => ?_) (fun hc => ?_)) <;> first | exact zG hc | skip)) | (((with_reducible refine no_implicit_lambda% (zC ?_)); refine no_implicit_lambda% (zF rfl rfl (fun hc => ?_) (fun hc => ?_)) <;> first | exact zG hc | rw [hc])) | (((with_reducible refine no_implicit_lambda% (is_ev ?_)); refine no_implicit_lambda% (v_split rfl rfl rfl rfl (fun hc => ?_) (fun hc => ?_)) <;> first | exact zG hc | rw [hc])) | (refine no_implicit_lambda% (ans ?_)) | (with_reducible first | exact zI | exact zJ) | (refine no_implicit_lambda% (cal [] (hnm) ?_ ?_)) | fail)
      refine kN true _ _ _ (by rw [h1]; rfl) (.inl ?_)
      (refine no_implicit_lambda% (Conv.toT ?_ ?_ (LE0 rfl))); (focus ((unfold t6cSt); (try dsimp only); exact wkl)); (focus ((unfold t6cSt); (try dsimp only); exact wkh))
     | true =>
      rw [h1] at hnm
      rcases hr0' : x.r with _ | ⟨c0, cr⟩
      ·repeat' (first | (refine no_implicit_lambda% (zH ?_)) | (((with_reducible refine no_implicit_lambda% (zA ?_)); refine no_implicit_lambda% (zD rfl rfl rfl (fun hc => ?_) (fun hc => ?_)) <;> first | exact zG hc | rw [hc])) | (((with_reducible refine no_implicit_lambda% (zB ?_)); refine no_implicit_lambda% (zE rfl (fun hc => ?_) (fun hc => ?_)) <;> first | exact zG hc | skip)) | (((with_reducible refine no_implicit_lambda% (zC ?_)); refine no_implicit_lambda% (zF rfl rfl (fun hc => ?_) (fun hc => ?_)) <;> first | exact zG hc | rw [hc])) | (((with_reducible refine no_implicit_lambda% (is_ev ?_)); refine no_implicit_lambda% (v_split rfl rfl rfl rfl (fun hc => ?_) (fun hc => ?_)) <;> first | exact zG hc | rw [hc])) | (refine no_implicit_lambda% (ans ?_)) | (with_reducible first | exact zI | exact zJ) | (refine no_implicit_lambda% (cal [] (hnm) ?_ ?_)) | fail)
       refine kN true _ _ _ (by rw [h1, hr0']; rfl) (.inl ?_)
       rw [← hr0']
       (refine no_implicit_lambda% (Conv.toT ?_ ?_ (LE0 rfl))); (focus ((unfold t6cSt); (try dsimp only); exact wkl)); (focus ((unfold t6cSt); (try dsimp only); exact wkh))
      ·have hlen : 0 < x.r.length := by rw [hr0']; simp
       have hne : x.r.isEmpty = false := by rw [hr0']; rfl
       rw [← hr0']
       clear hr0'
       rcases hla : acc[acc.length - 1]? with _ | y
       ·have hz : acc.length = 0 := by
         have := List.getElem?_eq_none_iff.1 hla
         omega
        have hln : lastN acc = none := by rw [List.eq_nil_of_length_eq_zero hz]; rfl
        refine no_implicit_lambda% (awd ?_)
        (refine no_implicit_lambda% (cal [] (hnm) ?_ ?_))
        ·refine no_implicit_lambda% (ret1 ?_); first | (refine no_implicit_lambda% (akc ?_)) | (refine no_implicit_lambda% (aec ?_))
         refine no_implicit_lambda% (awd ?_)
         ((with_reducible refine no_implicit_lambda% (is_ev ?_)); refine no_implicit_lambda% (v_split rfl rfl rfl rfl (fun hc => ?_) (fun hc => ?_)) <;> first | exact zG hc | rw [hc])
         refine no_implicit_lambda% (awd ?_)
         ((with_reducible refine no_implicit_lambda% (is_ev ?_)); refine no_implicit_lambda% (v_split rfl rfl rfl rfl (fun hc => ?_) (fun hc => ?_)) <;> first | exact zG hc | rw [hc])
         refine no_implicit_lambda% (awd ?_)
         refine kN false _ _ _ (by rw [h1, hne, hln]; rfl) (.inl ?_)
         (refine no_implicit_lambda% (Conv.toT ?_ ?_ (LE0 rfl))); (focus ((unfold t6cSt); (try dsimp only); exact wkl)); (focus ((unfold t6cSt); (try dsimp only); exact wkh))
        ·first | (exact zI) | (exact zJ)
       ·have hpos : 0 < acc.length := by have := (List.getElem?_eq_some_iff.1 hla).1; omega
        have hln : lastN acc = some y.n := by
         unfold lastN
         rw [List.getLast?_eq_getElem?, hla]; rfl
        rw [g2] at hla
        have hix := nmx hla
        refine no_implicit_lambda% (awd ?_)
        (refine no_implicit_lambda% (cal [] (hnm) ?_ ?_))
        ·refine no_implicit_lambda% (ret1 ?_); first | (refine no_implicit_lambda% (akc ?_)) | (refine no_implicit_lambda% (aec ?_))
         refine no_implicit_lambda% (awd ?_)
         ((with_reducible refine no_implicit_lambda% (is_ev ?_)); refine no_implicit_lambda% (v_split rfl rfl rfl rfl (fun hc => ?_) (fun hc => ?_)) <;> first | exact zG hc | rw [hc])
         refine no_implicit_lambda% (awd ?_)
         ((with_reducible refine no_implicit_lambda% (is_ev ?_)); refine no_implicit_lambda% (v_split rfl rfl rfl rfl (fun hc => ?_) (fun hc => ?_)) <;> first | exact zG hc | rw [hc])
         refine no_implicit_lambda% (awd ?_)
         rw [show IntKind.i64.wrap ((i : Int) - 1) = ((i - 1 : Nat) : Int) by rw [z64 (by omega) (by omega)]; omega]
         refine no_implicit_lambda% (awd ?_)
         refine kN (!sLt y.n x.n) _ _ _ (by rw [h1, hne, hln]; rfl) (.inl ?_)
         (refine no_implicit_lambda% (Conv.toT ?_ ?_ (LE0 rfl))); (focus ((unfold t6cSt); (try dsimp only); exact wkl)); (focus ((unfold t6cSt); (try dsimp only); exact wkh))
        ·first | (exact zI) | (exact zJ)
end Go.Proofs.YtjepgbpcpcahgaaGreat
namespace Go.Proofs.YtjepgbpcpcahgaaGreat
open Go.Am
set_option maxRecDepth 100000
theorem broOk (l : List UInt8) : RowsOk 1 (l.map brow) := .map (f := brow) (fun _ => ⟨rfl, rfl, rfl⟩) l
theorem u8_any (z : Int) : ∃ u : UInt8, IntKind.u8.wrap z = (u.toNat : Int) := by
 refine ⟨UInt8.ofNat (IntKind.u8.wrap z).toNat, ?_⟩
 have h1 : 0 ≤ IntKind.u8.wrap z ∧ IntKind.u8.wrap z < 256 := by rw [IntKind.wrap_u8]; omega
 generalize IntKind.u8.wrap z = x at *
 rw [UInt8.toNat_ofNat_of_lt' (by show x.toNat < 256; omega)]
 omega
end Go.Proofs.YtjepgbpcpcahgaaGreat
namespace Go.Proofs.YtjepgbpcpcahgaaGreat
open Go.Am
set_option maxRecDepth 100000
def zpH : Heap := [(0, .box [.v (.pointer none)])]
def Rok6 (l l' : List UInt8) (H' : Heap) : Prop := ∃ Q cp, pTb l = some (Q, l') ∧ TbOk Q ∧ Q.length ≤ cp ∧ cp ≤ maxLen ∧ H' = [(0, .box [.ptr 2 0]), (2, .box [.arr 3 0 Q.length cp]), (3, .seq (Q.map nmrow) ((cp - Q.length) * 2))]
def Rbad6 (l : List UInt8) (H' : Heap) : Prop := pTb l = none ∧ H' = zpH
theorem reads6b_c (l : List UInt8) (hl : l.length < 10000000) : ACalls Tryz.prog 52 2 120 [.ptr 1 0, .ptr 0 0] ((1, .box [.list (l.map brow) .free]) :: zpH) (cbR 1 (Rok6 l) (Rbad6 l)) := by
 have ht := ttake_c l hl
 unfold TkR at ht
 refine no_implicit_lambda% (acalls_of tok dok (f := 52) ⟨Tryz.func52, rfl, by kernel_rfl⟩ ?_); refine no_implicit_lambda% (c_start (fun _ h => h) ?_)
 refine no_implicit_lambda% (awd ?_)
 (refine no_implicit_lambda% (cal [1] (ht) ?_ ?_))
 ·intro x H' hh
  rcases hh with ⟨Q, r, cp, g, hT, c1, c2, h', rfl⟩ | ⟨_, h', _⟩
  ·cases h'
   first | (refine no_implicit_lambda% (akc ?_)) | (refine no_implicit_lambda% (aec ?_))
   refine no_implicit_lambda% (awd ?_)
   exact e_ret (H' := (1, .box [.list (r.map brow) .free]) :: [(0, .box [.ptr 2 0]), (2, .box [.arr 3 0 Q.length cp]), (3, .seq (Q.map nmrow) ((cp - Q.length) * 2))]) (rest := _) rfl (.inl ⟨_, r, _, ⟨Q, cp, g, hT, c1, c2, rfl⟩, rfl, rfl⟩) permT (LE0 rfl)
  ·cases h'
 ·intro x H' hh
  rcases hh with ⟨_, _, _, _, _, _, _, h', _⟩ | ⟨hno, h', rfl⟩
  ·cases h'
  ·cases h'
   refine no_implicit_lambda% (awd ?_)
   exact e_pan (H' := zpH) (rest := []) (.inr ⟨_, ⟨hno, rfl⟩, rfl, rfl⟩) permT (LE0 rfl)
set_option maxHeartbeats 3200000 in
theorem reads6_c (l : List UInt8) (hl : l.length < 10000000) : ACalls Tryz.prog 17 0 9000 [.list (l.map brow) .free] [] (fun out H' => out = .ret (.v (.bool true)) ∧ H' = []) := by
 have hq := rttake_c l hl
 unfold TqR at hq
 refine no_implicit_lambda% (acalls_of tok dok (f := 17) ⟨Tryz.func17, rfl, by kernel_rfl⟩ ?_); refine no_implicit_lambda% (c_start (fun _ h => h) ?_)
 refine no_implicit_lambda% (awd ?_)
 (refine no_implicit_lambda% (calw [0] (read_g (m := 1) (cap := [.ptr 0 0]) (H1 := zpH) (by decide) (reads6b_c l hl) (fun f hf => by simp [AV.renL, AV.ren, hf]) (fun f hf => by simp [renH, Res.ren, AV.renL, AV.ren, hf, zpH, Own.ren])) ?_ ?_))
 ·intro x H' h
  rcases h with ⟨l', ⟨H1', ⟨Q, cp, g, hT, c1, c2, rfl⟩, rfl⟩, h1⟩ | ⟨⟨H1', ⟨hno, rfl⟩, rfl⟩, h1⟩
  ·cases h1
   have ht := tells6_c Q ⟨#[]⟩ ⟨#[]⟩ 20 cp hT c1 c2 (by decide)
   have hwh := refWhole_c l' false
   rw [show (!false && decide (((l'.map brow).length : Int) = 0)) = decide (((l'.map brow).length : Int) = 0) from rfl] at hwh
   refine no_implicit_lambda% (akc ?_)
   refine no_implicit_lambda% (awd ?_)
   (refine no_implicit_lambda% (cal [122] (hq) ?_ ?_))
   ·intro x H' h
    rcases h with ⟨Q2, r2, g2, h', rfl⟩ | ⟨hno, _⟩
    ·rw [g] at g2
     cases g2
     cases h'
     first | (refine no_implicit_lambda% (akc ?_)) | (refine no_implicit_lambda% (aec ?_))
     generalize decide (((l'.map brow).length : Int) = 0) = d at *
     cases d <;> repeat' (first | (refine no_implicit_lambda% (zH ?_)) | (((with_reducible refine no_implicit_lambda% (zA ?_)); refine no_implicit_lambda% (zD rfl rfl rfl (fun hc => ?_) (fun hc => ?_)) <;> first | exact zG hc | rw [hc])) | (((with_reducible refine no_implicit_lambda% (zB ?_)); refine no_implicit_lambda% (zE rfl (fun hc => ?_) (fun hc => ?_)) <;> first | exact zG hc | skip)) | (((with_reducible refine no_implicit_lambda% (zC ?_)); refine no_implicit_lambda% (zF rfl rfl (fun hc => ?_) (fun hc => ?_)) <;> first | exact zG hc | rw [hc])) | (((with_reducible refine no_implicit_lambda% (is_ev ?_)); refine no_implicit_lambda% (v_split rfl rfl rfl rfl (fun hc => ?_) (fun hc => ?_)) <;> first | exact zG hc | rw [hc])) | (refine no_implicit_lambda% (ans ?_)) | (with_reducible first | exact zI | exact zJ) | ((with_reducible refine no_implicit_lambda% (ret1 ?_)); first | (refine no_implicit_lambda% (akcs ?_)) | (refine no_implicit_lambda% (aecs ?_))) | (refine no_implicit_lambda% (cal [122] (hwh) ?_ ?_)) | (refine no_implicit_lambda% (cal [4, 5] (ht) ?_ ?_)) | (((with_reducible refine no_implicit_lambda% (is_effK ?_)); refine no_implicit_lambda% (aecs ?_))) | (((with_reducible refine no_implicit_lambda% (is_drB ?_)); refine no_implicit_lambda% (b_ends ?_))) | (((with_reducible refine no_implicit_lambda% (zC ?_)); refine no_implicit_lambda% (a_stores ?_))) | ((with_reducible refine no_implicit_lambda% (zC ?_)); first | (refine no_implicit_lambda% (a_append_tok rfl rfl rfl rfl rfl rfl rfl rfl rfl rfl rfl rfl rfl rfl (by first | rfl | (simp; done)) (fun q hq => by rw [forceH_eq]; exact hq) (by (first | assumption | (intro row hr; simp only [List.mem_cons, List.not_mem_nil, or_false] at hr; rcases hr with rfl | rfl | rfl | rfl <;> rfl) | (intro row hr; simp at hr; done) | (intro row hr; simp only [List.mem_singleton] at hr; subst hr; rfl) | (intro row hr; obtain ⟨_, _, rfl⟩ := List.mem_map.1 hr; rfl))) (by (refine ⟨?_, ?_⟩ <;> (simp only [List.length_map, List.length_append, List.length_cons, List.length_nil]; omega))) ?_))) | fail)
     all_goals exact e_ret (H' := []) (rest := _) rfl ⟨rfl, rfl⟩ permT (LE0 rfl)
    ·rw [g] at hno; cases hno
   ·intro x H' h
    rcases h with ⟨_, _, _, h', _⟩ | ⟨_, h', _⟩ <;> cases h'
  ·cases h1
   refine no_implicit_lambda% (akc ?_)
   refine no_implicit_lambda% (awd ?_)
   (refine no_implicit_lambda% (cal [122] (hq) ?_ ?_))
   ·intro x H' h
    rcases h with ⟨Q2, r2, g2, _⟩ | ⟨_, h', rfl⟩
    ·rw [hno] at g2; cases g2
    ·cases h'
     first | (refine no_implicit_lambda% (akc ?_)) | (refine no_implicit_lambda% (aec ?_))
     repeat' (first | (refine no_implicit_lambda% (zH ?_)) | (((with_reducible refine no_implicit_lambda% (zA ?_)); refine no_implicit_lambda% (zD rfl rfl rfl (fun hc => ?_) (fun hc => ?_)) <;> first | exact zG hc | rw [hc])) | (((with_reducible refine no_implicit_lambda% (zB ?_)); refine no_implicit_lambda% (zE rfl (fun hc => ?_) (fun hc => ?_)) <;> first | exact zG hc | skip)) | (((with_reducible refine no_implicit_lambda% (zC ?_)); refine no_implicit_lambda% (zF rfl rfl (fun hc => ?_) (fun hc => ?_)) <;> first | exact zG hc | rw [hc])) | (((with_reducible refine no_implicit_lambda% (is_ev ?_)); refine no_implicit_lambda% (v_split rfl rfl rfl rfl (fun hc => ?_) (fun hc => ?_)) <;> first | exact zG hc | rw [hc])) | (refine no_implicit_lambda% (ans ?_)) | (with_reducible first | exact zI | exact zJ) | ((with_reducible refine no_implicit_lambda% (ret1 ?_)); first | (refine no_implicit_lambda% (akcs ?_)) | (refine no_implicit_lambda% (aecs ?_))) | (refine no_implicit_lambda% (cal [122] (refWhole_c [] true) ?_ ?_)) | (((with_reducible refine no_implicit_lambda% (is_effK ?_)); refine no_implicit_lambda% (aecs ?_))) | (((with_reducible refine no_implicit_lambda% (is_drB ?_)); refine no_implicit_lambda% (b_ends ?_))) | (((with_reducible refine no_implicit_lambda% (zC ?_)); refine no_implicit_lambda% (a_stores ?_))) | ((with_reducible refine no_implicit_lambda% (zC ?_)); first | (refine no_implicit_lambda% (a_append_tok rfl rfl rfl rfl rfl rfl rfl rfl rfl rfl rfl rfl rfl rfl (by first | rfl | (simp; done)) (fun q hq => by rw [forceH_eq]; exact hq) (by (first | assumption | (intro row hr; simp only [List.mem_cons, List.not_mem_nil, or_false] at hr; rcases hr with rfl | rfl | rfl | rfl <;> rfl) | (intro row hr; simp at hr; done) | (intro row hr; simp only [List.mem_singleton] at hr; subst hr; rfl) | (intro row hr; obtain ⟨_, _, rfl⟩ := List.mem_map.1 hr; rfl))) (by (refine ⟨?_, ?_⟩ <;> (simp only [List.length_map, List.length_append, List.length_cons, List.length_nil]; omega))) ?_))) | fail)
     all_goals exact e_ret (H' := []) (rest := _) rfl ⟨rfl, rfl⟩ permT (LE0 rfl)
   ·intro x H' h
    rcases h with ⟨_, _, _, h', _⟩ | ⟨_, h', _⟩ <;> cases h'
 ·intro x H' h
  rcases h with ⟨_, _, h1⟩ | ⟨_, h1⟩ <;> cases h1
end Go.Proofs.YtjepgbpcpcahgaaGreat
