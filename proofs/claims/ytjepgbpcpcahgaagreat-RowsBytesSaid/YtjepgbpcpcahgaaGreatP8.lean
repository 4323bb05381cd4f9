/- Part 8 of what the laws RowsBytes rest on: RzG, RxB, ChI, RtX. -/
import Derived.Test.YtjepgbpcpcahgaaGreatP7
set_option linter.unusedSimpArgs false
set_option linter.unusedVariables false
namespace Go.Proofs.YtjepgbpcpcahgaaGreat
open Go.Am
set_option maxRecDepth 100000
def rbSt6' (e b : List UInt8) (q : Nat) (y : List UInt8) : ASt := ⟨([.dead, .list (b.map brow) .free] ++ List.replicate 11 .dead ++ [.list (e.map brow) .free, .v (.int .i64 q), .list (y.map brow) .free] ++ List.replicate 64 .dead), [], 900000⟩
set_option maxHeartbeats 6400000 in
theorem rbytes6_rc (l : List Nk) (hl : ∀ a ∈ l, NkOk a) (h : l.length ≤ 9223372036854775807) (b : List UInt8) (at' : Int) (ha : -9223372036854775808 ≤ at' ∧ at' ≤ 9223372036854775807) (turn : UInt8) : ACalls Tryz.prog 4 0 9000000 [.list (l.map nkrow) .free, .list (b.map brow) .free, .v (.int .i64 at'), .v (.int .u8 turn.toNat)] [] (fun out H' => out = .ret (.v (.bool true)) ∧ H' = []) := by
 have hp := play6_d l hl h
 have hk := known6_c
 refine no_implicit_lambda% (acalls_of tok dok (f := 4) ⟨Tryz.func4, rfl, by kernel_rfl⟩ ?_); refine no_implicit_lambda% (c_start (fun _ h => h) ?_)
 repeat' (first | (refine no_implicit_lambda% (zH ?_)) | (((with_reducible refine no_implicit_lambda% (zA ?_)); refine no_implicit_lambda% (zD rfl rfl rfl (fun hc => ?_) (fun hc => ?_)) <;> first | exact zG hc | rw [hc])) | (((with_reducible refine no_implicit_lambda% (zB ?_)); refine no_implicit_lambda% (zE rfl (fun hc => ?_) (fun hc => ?_)) <;> first | exact zG hc | skip)) | (((with_reducible refine no_implicit_lambda% (zC ?_)); refine no_implicit_lambda% (zF rfl rfl (fun hc => ?_) (fun hc => ?_)) <;> first | exact zG hc | rw [hc])) | (((with_reducible refine no_implicit_lambda% (is_ev ?_)); refine no_implicit_lambda% (v_split rfl rfl rfl rfl (fun hc => ?_) (fun hc => ?_)) <;> first | exact zG hc | rw [hc])) | (refine no_implicit_lambda% (ans ?_)) | (with_reducible first | exact zI | exact zJ) | ((with_reducible refine no_implicit_lambda% (ret1 ?_)); first | (refine no_implicit_lambda% (akcs ?_)) | (refine no_implicit_lambda% (aecs ?_))) | fail | (((with_reducible refine no_implicit_lambda% (is_effK ?_)); refine no_implicit_lambda% (aecs ?_))) | (((with_reducible refine no_implicit_lambda% (is_drB ?_)); refine no_implicit_lambda% (b_ends ?_))) | (((with_reducible refine no_implicit_lambda% (zC ?_)); refine no_implicit_lambda% (a_stores ?_))) | ((with_reducible refine no_implicit_lambda% (zC ?_)); first | (refine no_implicit_lambda% (a_append_tok rfl rfl rfl rfl rfl rfl rfl rfl rfl rfl rfl rfl rfl rfl (by first | rfl | (simp; done)) (fun q hq => by rw [forceH_eq]; exact hq) (by (first | assumption | (intro row hr; simp only [List.mem_cons, List.not_mem_nil, or_false] at hr; rcases hr with rfl | rfl | rfl | rfl <;> rfl) | (intro row hr; simp at hr; done) | (intro row hr; simp only [List.mem_singleton] at hr; subst hr; rfl) | (intro row hr; obtain ⟨_, _, rfl⟩ := List.mem_map.1 hr; rfl))) (by (refine ⟨?_, ?_⟩ <;> (simp only [List.length_map, List.length_append, List.length_cons, List.length_nil]; omega))) ?_))) | fail)
 (refine no_implicit_lambda% (cal [] (hp) ?_ ?_))
 rotate_left
 ·intro xx H' hh
  obtain ⟨_, _, _, _, _, _, h', _⟩ := hh
  cases h'
 intro xx H' hh
 obtain ⟨Q, cp, _, hQ, c1, c2, h', rfl⟩ := hh
 cases h'
 first | (refine no_implicit_lambda% (akc ?_)) | (refine no_implicit_lambda% (aec ?_))
 have hw := twrite_c Q cp [] hQ (by decide)
 have hrw := rtwrite_c Q hQ
 have hd := done_c (encT Q) (by have := encT_len hQ; unfold encT; rw [List.length_append, be_len]; omega)
 have hel : (encT Q).length ≤ 12804 := by have := encT_len hQ; unfold encT; rw [List.length_append, be_len]; omega
 have hel0 : 0 < (encT Q).length := by unfold encT; rw [List.length_append, be_len]; omega
 rw [List.nil_append] at hw
 generalize encT Q = e at *
 repeat' (first | (refine no_implicit_lambda% (zH ?_)) | (((with_reducible refine no_implicit_lambda% (zA ?_)); refine no_implicit_lambda% (zD rfl rfl rfl (fun hc => ?_) (fun hc => ?_)) <;> first | exact zG hc | rw [hc])) | (((with_reducible refine no_implicit_lambda% (zB ?_)); refine no_implicit_lambda% (zE rfl (fun hc => ?_) (fun hc => ?_)) <;> first | exact zG hc | skip)) | (((with_reducible refine no_implicit_lambda% (zC ?_)); refine no_implicit_lambda% (zF rfl rfl (fun hc => ?_) (fun hc => ?_)) <;> first | exact zG hc | rw [hc])) | (((with_reducible refine no_implicit_lambda% (is_ev ?_)); refine no_implicit_lambda% (v_split rfl rfl rfl rfl (fun hc => ?_) (fun hc => ?_)) <;> first | exact zG hc | rw [hc])) | (refine no_implicit_lambda% (ans ?_)) | (with_reducible first | exact zI | exact zJ) | ((with_reducible refine no_implicit_lambda% (ret1 ?_)); first | (refine no_implicit_lambda% (akcs ?_)) | (refine no_implicit_lambda% (aecs ?_))) | (refine no_implicit_lambda% (cal [] (new_c) ?_ ?_)) | (((with_reducible refine no_implicit_lambda% (is_effK ?_)); refine no_implicit_lambda% (aecs ?_))) | (((with_reducible refine no_implicit_lambda% (is_drB ?_)); refine no_implicit_lambda% (b_ends ?_))) | (((with_reducible refine no_implicit_lambda% (zC ?_)); refine no_implicit_lambda% (a_stores ?_))) | ((with_reducible refine no_implicit_lambda% (zC ?_)); first | (refine no_implicit_lambda% (a_append_tok rfl rfl rfl rfl rfl rfl rfl rfl rfl rfl rfl rfl rfl rfl (by first | rfl | (simp; done)) (fun q hq => by rw [forceH_eq]; exact hq) (by (first | assumption | (intro row hr; simp only [List.mem_cons, List.not_mem_nil, or_false] at hr; rcases hr with rfl | rfl | rfl | rfl <;> rfl) | (intro row hr; simp at hr; done) | (intro row hr; simp only [List.mem_singleton] at hr; subst hr; rfl) | (intro row hr; obtain ⟨_, _, rfl⟩ := List.mem_map.1 hr; rfl))) (by (refine ⟨?_, ?_⟩ <;> (simp only [List.length_map, List.length_append, List.length_cons, List.length_nil]; omega))) ?_))) | fail)
 (refine no_implicit_lambda% (cal [0, 1, 2, 3] (hw) ?_ ?_))
 rotate_left
 ·first | (exact zI) | (exact zJ)
 refine no_implicit_lambda% (ret1 ?_); first | (refine no_implicit_lambda% (akc ?_)) | (refine no_implicit_lambda% (aec ?_))
 repeat' (first | (refine no_implicit_lambda% (zH ?_)) | (((with_reducible refine no_implicit_lambda% (zA ?_)); refine no_implicit_lambda% (zD rfl rfl rfl (fun hc => ?_) (fun hc => ?_)) <;> first | exact zG hc | rw [hc])) | (((with_reducible refine no_implicit_lambda% (zB ?_)); refine no_implicit_lambda% (zE rfl (fun hc => ?_) (fun hc => ?_)) <;> first | exact zG hc | skip)) | (((with_reducible refine no_implicit_lambda% (zC ?_)); refine no_implicit_lambda% (zF rfl rfl (fun hc => ?_) (fun hc => ?_)) <;> first | exact zG hc | rw [hc])) | (((with_reducible refine no_implicit_lambda% (is_ev ?_)); refine no_implicit_lambda% (v_split rfl rfl rfl rfl (fun hc => ?_) (fun hc => ?_)) <;> first | exact zG hc | rw [hc])) | (refine no_implicit_lambda% (ans ?_)) | (with_reducible first | exact zI | exact zJ) | ((with_reducible refine no_implicit_lambda% (ret1 ?_)); first | (refine no_implicit_lambda% (akcs ?_)) | (refine no_implicit_lambda% (aecs ?_))) | fail | (((with_reducible refine no_implicit_lambda% (is_effK ?_)); refine no_implicit_lambda% (aecs ?_))) | (((with_reducible refine no_implicit_lambda% (is_drB ?_)); refine no_implicit_lambda% (b_ends ?_))) | (((with_reducible refine no_implicit_lambda% (zC ?_)); refine no_implicit_lambda% (a_stores ?_))) | ((with_reducible refine no_implicit_lambda% (zC ?_)); first | (refine no_implicit_lambda% (a_append_tok rfl rfl rfl rfl rfl rfl rfl rfl rfl rfl rfl rfl rfl rfl (by first | rfl | (simp; done)) (fun q hq => by rw [forceH_eq]; exact hq) (by (first | assumption | (intro row hr; simp only [List.mem_cons, List.not_mem_nil, or_false] at hr; rcases hr with rfl | rfl | rfl | rfl <;> rfl) | (intro row hr; simp at hr; done) | (intro row hr; simp only [List.mem_singleton] at hr; subst hr; rfl) | (intro row hr; obtain ⟨_, _, rfl⟩ := List.mem_map.1 hr; rfl))) (by (refine ⟨?_, ?_⟩ <;> (simp only [List.length_map, List.length_append, List.length_cons, List.length_nil]; omega))) ?_))) | fail)
 (refine no_implicit_lambda% (calw [] (hrw) ?_ ?_))
 rotate_left
 ·first | (exact zI) | (exact zJ)
 refine no_implicit_lambda% (ret1 ?_); first | (refine no_implicit_lambda% (akc ?_)) | (refine no_implicit_lambda% (aec ?_))
 repeat' (first | (refine no_implicit_lambda% (zH ?_)) | (((with_reducible refine no_implicit_lambda% (zA ?_)); refine no_implicit_lambda% (zD rfl rfl rfl (fun hc => ?_) (fun hc => ?_)) <;> first | exact zG hc | rw [hc])) | (((with_reducible refine no_implicit_lambda% (zB ?_)); refine no_implicit_lambda% (zE rfl (fun hc => ?_) (fun hc => ?_)) <;> first | exact zG hc | skip)) | (((with_reducible refine no_implicit_lambda% (zC ?_)); refine no_implicit_lambda% (zF rfl rfl (fun hc => ?_) (fun hc => ?_)) <;> first | exact zG hc | rw [hc])) | (((with_reducible refine no_implicit_lambda% (is_ev ?_)); refine no_implicit_lambda% (v_split rfl rfl rfl rfl (fun hc => ?_) (fun hc => ?_)) <;> first | exact zG hc | rw [hc])) | (refine no_implicit_lambda% (ans ?_)) | (with_reducible first | exact zI | exact zJ) | ((with_reducible refine no_implicit_lambda% (ret1 ?_)); first | (refine no_implicit_lambda% (akcs ?_)) | (refine no_implicit_lambda% (aecs ?_))) | (refine no_implicit_lambda% (cal [2, 3] (hd) ?_ ?_)) | (((with_reducible refine no_implicit_lambda% (is_effK ?_)); refine no_implicit_lambda% (aecs ?_))) | (((with_reducible refine no_implicit_lambda% (is_drB ?_)); refine no_implicit_lambda% (b_ends ?_))) | (((with_reducible refine no_implicit_lambda% (zC ?_)); refine no_implicit_lambda% (a_stores ?_))) | ((with_reducible refine no_implicit_lambda% (zC ?_)); first | (refine no_implicit_lambda% (a_append_tok rfl rfl rfl rfl rfl rfl rfl rfl rfl rfl rfl rfl rfl rfl (by first | rfl | (simp; done)) (fun q hq => by rw [forceH_eq]; exact hq) (by (first | assumption | (intro row hr; simp only [List.mem_cons, List.not_mem_nil, or_false] at hr; rcases hr with rfl | rfl | rfl | rfl <;> rfl) | (intro row hr; simp at hr; done) | (intro row hr; simp only [List.mem_singleton] at hr; subst hr; rfl) | (intro row hr; obtain ⟨_, _, rfl⟩ := List.mem_map.1 hr; rfl))) (by (refine ⟨?_, ?_⟩ <;> (simp only [List.length_map, List.length_append, List.length_cons, List.length_nil]; omega))) ?_))) | fail)
 ·exfalso
  simp at hc
 (with_reducible refine no_implicit_lambda% (zC ?_)); first | (refine no_implicit_lambda% (a_qS rfl (fun _ h => h) ?_ ?_)) | (refine no_implicit_lambda% (a_qS rfl (qIx (fun _ h => h)) ?_ ?_)) | (refine no_implicit_lambda% (a_qS rfl (qAnd5 (fun _ h => h)) ?_ ?_)) | (refine no_implicit_lambda% (a_qS rfl (qStr (fun _ h => h)) ?_ ?_)) | (refine no_implicit_lambda% (a_qS rfl (qAnd4 (fun _ h => h)) ?_ ?_)) | (refine no_implicit_lambda% (a_qS rfl (qAnd2 (fun _ h => h)) ?_ ?_))
 ·rw [List.length_map]; omega
 rw [List.length_map]
 have ht : -(e.length : Int) < at'.tmod e.length ∧ at'.tmod e.length < e.length := ⟨Int.lt_tmod_of_pos _ (by omega), Int.tmod_lt_of_pos _ (by omega)⟩
 generalize at'.tmod (e.length : Int) = k0 at *
 refine no_implicit_lambda% (awdz ?_)
 rw [List.length_map, z64 (n := k0 + (e.length : Int)) (by omega) (by omega)]
 (with_reducible refine no_implicit_lambda% (zC ?_)); first | (refine no_implicit_lambda% (a_qS rfl (fun _ h => h) ?_ ?_)) | (refine no_implicit_lambda% (a_qS rfl (qIx (fun _ h => h)) ?_ ?_)) | (refine no_implicit_lambda% (a_qS rfl (qAnd5 (fun _ h => h)) ?_ ?_)) | (refine no_implicit_lambda% (a_qS rfl (qStr (fun _ h => h)) ?_ ?_)) | (refine no_implicit_lambda% (a_qS rfl (qAnd4 (fun _ h => h)) ?_ ?_)) | (refine no_implicit_lambda% (a_qS rfl (qAnd2 (fun _ h => h)) ?_ ?_))
 ·omega
 obtain ⟨q, hq0, hq⟩ : ∃ q : Nat, (k0 + (e.length : Int)).tmod e.length = (q : Int) ∧ q < e.length := by
  have a1 := Int.tmod_lt_of_pos (k0 + (e.length : Int)) (show (0 : Int) < e.length by omega)
  have a2 := Int.tmod_nonneg (e.length : Int) (show 0 ≤ k0 + (e.length : Int) by omega)
  exact ⟨((k0 + (e.length : Int)).tmod e.length).toNat, by omega, by omega⟩
 rw [hq0]
 have h1 := reads6_c e (by omega)
 have h3 := cut_c b 60 (by decide)
 have h4 := reads6_c (b.take 60) (by rw [List.length_take]; omega)
 have h5 := reads6_c (e.take q) (by rw [List.length_take]; omega)
 refine no_implicit_lambda% (awdz ?_)
 ((with_reducible refine no_implicit_lambda% (zC ?_)); refine no_implicit_lambda% (a_appS0 (sz := 1) (B := 1) (m2 := e.length) rfl rfl rfl rfl rfl rfl rfl rfl rfl (by first | exact .inl rfl | exact .inr ⟨_, _, rfl⟩) rfl rfl rfl (broOk e) (by first | omega | (simp; done) | (simp; omega)) (by first | omega | (simp; omega)) (by first | rfl | (exact List.length_map ..) | (simp; done)) ?_))
 intro cp2 d1 d2
 refine no_implicit_lambda% (akc ?_)
 refine no_implicit_lambda% (awdz ?_)
 (with_reducible refine no_implicit_lambda% (zC ?_)); first | (refine no_implicit_lambda% (a_qS rfl (fun _ h => h) ?_ ?_)) | (refine no_implicit_lambda% (a_qS rfl (qIx (fun _ h => h)) ?_ ?_)) | (refine no_implicit_lambda% (a_qS rfl (qAnd5 (fun _ h => h)) ?_ ?_)) | (refine no_implicit_lambda% (a_qS rfl (qStr (fun _ h => h)) ?_ ?_)) | (refine no_implicit_lambda% (a_qS rfl (qAnd4 (fun _ h => h)) ?_ ?_)) | (refine no_implicit_lambda% (a_qS rfl (qAnd2 (fun _ h => h)) ?_ ?_))
 ·exact ⟨Int.natCast_nonneg q, by omega⟩
 refine no_implicit_lambda% (awdz ?_)
 have hrow : (e.map brow)[q]? = some (brow e[q]) := by rw [List.getElem?_map, List.getElem?_eq_getElem hq]; rfl
 generalize e[q] = c at *
 ((with_reducible refine no_implicit_lambda% (zC ?_)); refine no_implicit_lambda% (a_loadSeq (sz := 1) (rows := e.map brow) (i := q) (j := 0) rfl rfl rfl rfl rfl (broOk e) (hrow) rfl (by first | rfl | (simp; done) | (simp; omega)) ?_))
 refine no_implicit_lambda% (awdz ?_)
 obtain ⟨u, hu⟩ := u8_any ((BitVec.ofInt IntKind.u8.bits (c.toNat : Int) ^^^ BitVec.ofInt IntKind.u8.bits (turn.toNat : Int)).toNat : Nat)
 rw [hu]
 (with_reducible refine no_implicit_lambda% (zC ?_)); first | (refine no_implicit_lambda% (a_qS rfl (fun _ h => h) ?_ ?_)) | (refine no_implicit_lambda% (a_qS rfl (qIx (fun _ h => h)) ?_ ?_)) | (refine no_implicit_lambda% (a_qS rfl (qAnd5 (fun _ h => h)) ?_ ?_)) | (refine no_implicit_lambda% (a_qS rfl (qStr (fun _ h => h)) ?_ ?_)) | (refine no_implicit_lambda% (a_qS rfl (qAnd4 (fun _ h => h)) ?_ ?_)) | (refine no_implicit_lambda% (a_qS rfl (qAnd2 (fun _ h => h)) ?_ ?_))
 ·exact ⟨Int.natCast_nonneg q, by omega⟩
 refine no_implicit_lambda% (awdz ?_)
 ((with_reducible refine no_implicit_lambda% (zC ?_)); refine no_implicit_lambda% (a_storeSeq (sz := 1) (rows := e.map brow) (i := q) (j := 0) (row' := brow u) rfl rfl rfl (fun _ h => h) rfl rfl (broOk e) (hrow) (by first | decide | (simp; done)) (by first | rfl | (simp; done)) (by first | rfl | (simp; done) | (simp; omega)) ?_))
 rw [← List.map_set]
 obtain ⟨Z, hZ⟩ : ∃ Z, Z = e.set q u := ⟨_, rfl⟩
 have hZl : e.length = Z.length := by rw [hZ, List.length_set]
 rw [← hZ]
 refine no_implicit_lambda% (akc ?_)
 repeat' (first | ((with_reducible refine no_implicit_lambda% (zA ?_)); first | (refine no_implicit_lambda% (o_op rfl ?_)) | (refine no_implicit_lambda% (o_yes rfl rfl rfl ?_)) | (refine no_implicit_lambda% (o_no rfl rfl rfl (fun _ h => h) ?_)) | (refine no_implicit_lambda% (o_not rfl rfl rfl (fun _ h => h) ?_))) | ((with_reducible refine no_implicit_lambda% (is_opK ?_)); first | (refine no_implicit_lambda% (k_op' (fun _ h => h) ?_))) | ((with_reducible refine no_implicit_lambda% (zC ?_)); first | (refine no_implicit_lambda% (a_q1 rfl (fun _ h => h) ?_)) | (refine no_implicit_lambda% (a_box rfl (fun _ h => h) ?_)) | (refine no_implicit_lambda% (a_alloc rfl (fun _ h => h) ?_)) | (refine no_implicit_lambda% (a_storev rfl (fun _ h => h) ?_)) | (refine no_implicit_lambda% (a_store rfl (fun _ h => h) ?_)) | (refine no_implicit_lambda% (a_panic rfl rfl ?_))) | ((with_reducible refine no_implicit_lambda% (zC ?_)); refine no_implicit_lambda% (a_qS rfl (qIx (fun _ h => h)) (by first | assumption | exact hpx (by assumption) | exact hpy (by assumption)) ?_)) | (with_reducible refine no_implicit_lambda% (o_nil ?_)) | fail)
 have h2 := reads6_c Z (by omega)
 refine k_seq_to (rbSt6' e b q Z) ((Conv.freezeS (j := 15) (sz := 1) (L0 := [(0, .box [.arr 1 0 Q.length cp]), (1, .seq (Q.map nmrow) ((cp - Q.length) * 2))]) rfl (.refl _) (broOk Z) (by rw [List.length_map]; exact hZl.symm)).trans ?_) ?_
 ·(refine no_implicit_lambda% (Conv.toT ?_ ?_ (LE0 rfl))); (focus ((unfold rbSt6'); (try dsimp only); exact wkl)); (focus ((unfold rbSt6'); (try dsimp only); exact wkh))
 ·refine c_turn (n' := 900000) (fun _ h => h) (fun _ h => h) rfl ?_
  repeat' (first | (refine no_implicit_lambda% (zH ?_)) | (((with_reducible refine no_implicit_lambda% (zA ?_)); refine no_implicit_lambda% (zD rfl rfl rfl (fun hc => ?_) (fun hc => ?_)) <;> first | exact zG hc | rw [hc])) | (((with_reducible refine no_implicit_lambda% (zB ?_)); refine no_implicit_lambda% (zE rfl (fun hc => ?_) (fun hc => ?_)) <;> first | exact zG hc | skip)) | (((with_reducible refine no_implicit_lambda% (zC ?_)); refine no_implicit_lambda% (zF rfl rfl (fun hc => ?_) (fun hc => ?_)) <;> first | exact zG hc | rw [hc])) | (((with_reducible refine no_implicit_lambda% (is_ev ?_)); refine no_implicit_lambda% (v_split rfl rfl rfl rfl (fun hc => ?_) (fun hc => ?_)) <;> first | exact zG hc | rw [hc])) | (refine no_implicit_lambda% (ans ?_)) | (with_reducible first | exact zI | exact zJ) | ((with_reducible refine no_implicit_lambda% (ret1 ?_)); first | (refine no_implicit_lambda% (akcs ?_)) | (refine no_implicit_lambda% (aecs ?_))) | (refine no_implicit_lambda% (cal [] (h1) ?_ ?_)) | (refine no_implicit_lambda% (cal [] (h2) ?_ ?_)) | (((with_reducible refine no_implicit_lambda% (is_effK ?_)); refine no_implicit_lambda% (aecs ?_))) | (((with_reducible refine no_implicit_lambda% (is_drB ?_)); refine no_implicit_lambda% (b_ends ?_))) | (((with_reducible refine no_implicit_lambda% (zC ?_)); refine no_implicit_lambda% (a_stores ?_))) | ((with_reducible refine no_implicit_lambda% (zC ?_)); first | (refine no_implicit_lambda% (a_append_tok rfl rfl rfl rfl rfl rfl rfl rfl rfl rfl rfl rfl rfl rfl (by first | rfl | (simp; done)) (fun q hq => by rw [forceH_eq]; exact hq) (by (first | assumption | (intro row hr; simp only [List.mem_cons, List.not_mem_nil, or_false] at hr; rcases hr with rfl | rfl | rfl | rfl <;> rfl) | (intro row hr; simp at hr; done) | (intro row hr; simp only [List.mem_singleton] at hr; subst hr; rfl) | (intro row hr; obtain ⟨_, _, rfl⟩ := List.mem_map.1 hr; rfl))) (by (refine ⟨?_, ?_⟩ <;> (simp only [List.length_map, List.length_append, List.length_cons, List.length_nil]; omega))) ?_))) | fail)
  (with_reducible refine no_implicit_lambda% (zC ?_)); first | (refine no_implicit_lambda% (a_qS rfl (fun _ h => h) ?_ ?_)) | (refine no_implicit_lambda% (a_qS rfl (qIx (fun _ h => h)) ?_ ?_)) | (refine no_implicit_lambda% (a_qS rfl (qAnd5 (fun _ h => h)) ?_ ?_)) | (refine no_implicit_lambda% (a_qS rfl (qStr (fun _ h => h)) ?_ ?_)) | (refine no_implicit_lambda% (a_qS rfl (qAnd4 (fun _ h => h)) ?_ ?_)) | (refine no_implicit_lambda% (a_qS rfl (qAnd2 (fun _ h => h)) ?_ ?_))
  ·refine ⟨trivial, Int.natCast_nonneg q, Nat.zero_le _, ?_, brows e⟩
   rw [List.length_map, Int.toNat_natCast]
   omega
  refine k_as (.list ((e.take q).map brow) .free) (by simp [List.map_take, orFull, isFull, isNone]) ?_
  repeat' (first | (refine no_implicit_lambda% (zH ?_)) | (((with_reducible refine no_implicit_lambda% (zA ?_)); refine no_implicit_lambda% (zD rfl rfl rfl (fun hc => ?_) (fun hc => ?_)) <;> first | exact zG hc | rw [hc])) | (((with_reducible refine no_implicit_lambda% (zB ?_)); refine no_implicit_lambda% (zE rfl (fun hc => ?_) (fun hc => ?_)) <;> first | exact zG hc | skip)) | (((with_reducible refine no_implicit_lambda% (zC ?_)); refine no_implicit_lambda% (zF rfl rfl (fun hc => ?_) (fun hc => ?_)) <;> first | exact zG hc | rw [hc])) | (((with_reducible refine no_implicit_lambda% (is_ev ?_)); refine no_implicit_lambda% (v_split rfl rfl rfl rfl (fun hc => ?_) (fun hc => ?_)) <;> first | exact zG hc | rw [hc])) | (refine no_implicit_lambda% (ans ?_)) | (with_reducible first | exact zI | exact zJ) | ((with_reducible refine no_implicit_lambda% (ret1 ?_)); first | (refine no_implicit_lambda% (akcs ?_)) | (refine no_implicit_lambda% (aecs ?_))) | (refine no_implicit_lambda% (cal [] (h3) ?_ ?_)) | (refine no_implicit_lambda% (cal [] (h4) ?_ ?_)) | (refine no_implicit_lambda% (cal [] (h5) ?_ ?_)) | (refine no_implicit_lambda% (cal [] (hk) ?_ ?_)) | (((with_reducible refine no_implicit_lambda% (is_effK ?_)); refine no_implicit_lambda% (aecs ?_))) | (((with_reducible refine no_implicit_lambda% (is_drB ?_)); refine no_implicit_lambda% (b_ends ?_))) | (((with_reducible refine no_implicit_lambda% (zC ?_)); refine no_implicit_lambda% (a_stores ?_))) | ((with_reducible refine no_implicit_lambda% (zC ?_)); first | (refine no_implicit_lambda% (a_append_tok rfl rfl rfl rfl rfl rfl rfl rfl rfl rfl rfl rfl rfl rfl (by first | rfl | (simp; done)) (fun q hq => by rw [forceH_eq]; exact hq) (by (first | assumption | (intro row hr; simp only [List.mem_cons, List.not_mem_nil, or_false] at hr; rcases hr with rfl | rfl | rfl | rfl <;> rfl) | (intro row hr; simp at hr; done) | (intro row hr; simp only [List.mem_singleton] at hr; subst hr; rfl) | (intro row hr; obtain ⟨_, _, rfl⟩ := List.mem_map.1 hr; rfl))) (by (refine ⟨?_, ?_⟩ <;> (simp only [List.length_map, List.length_append, List.length_cons, List.length_nil]; omega))) ?_))) | fail)
  exact e_ret (H' := []) (rest := _) rfl ⟨rfl, rfl⟩ permT (LE0 rfl)
end Go.Proofs.YtjepgbpcpcahgaaGreat
namespace Go.Proofs.YtjepgbpcpcahgaaGreat
open Go.Am
section
variable {H : Type} {enc : TypeId × Value → H} {w : World} {base : Nat} {sp : Nat → Bool} {held : Bool}
theorem opnDv : Opn enc Tryz.prog w base sp held 47 fun row => ∃ a : Dv, DvOk a ∧ row = dvr a := opnV.mono fun row ⟨tx, n, x, b, h, e⟩ => ⟨⟨tx, n, x, b⟩, h, e⟩
end
end Go.Proofs.YtjepgbpcpcahgaaGreat
namespace Go.Proofs.YtjepgbpcpcahgaaGreat
open Go.Am
section
variable {H : Type} {enc : TypeId × Value → H} {w : World} {base : Nat} {sp : Nat → Bool} {held : Bool}
theorem opnCw : Opn enc Tryz.prog w base sp held 143 fun row => ∃ a : Cw, CwOk a ∧ row = cwrow a :=
 (opn_struct Tryz.underlying143 (Rs := [fun row => ∃ n, row = [.v (.int .i64 n)] ∧ IntKind.i64.min ≤ n ∧ n ≤ IntKind.i64.max, fun row => ∃ n, row = [.v (.int .i64 n)] ∧ IntKind.i64.min ≤ n ∧ n ≤ IntKind.i64.max, fun row => ∃ n, row = [.v (.int .i64 n)] ∧ IntKind.i64.min ≤ n ∧ n ≤ IntKind.i64.max, fun row => ∃ a : Dv, DvOk a ∧ row = dvr a])
  ⟨rfl, opn_int Tryz.underlying3, by kernel_rfl, opn_int Tryz.underlying3, by kernel_rfl, opn_int Tryz.underlying2, by kernel_rfl, opnDv, (show (_ : Nat) = _ by kernel_rfl)⟩).mono
  fun row hrow => by
   obtain ⟨_, _, e0, ⟨k, rfl, k1, k2⟩, _, _, e1, ⟨c, rfl, c1, c2⟩, _, _, e2, ⟨t, rfl, t1, t2⟩, _, _, e3, ⟨v, hv, rfl⟩, e4⟩ := hrow
   refine ⟨⟨k, c, t, v⟩, ⟨⟨k1, k2⟩, ⟨c1, c2⟩, ⟨t1, t2⟩, hv⟩, ?_⟩
   rw [e0, e1, e2, e3, e4]
   simp [cwrow]
theorem opnCws : Opn enc Tryz.prog w base sp held 84 fun row => ∃ l : List Cw, (∀ a ∈ l, CwOk a) ∧ l.length ≤ 9223372036854775807 ∧ row = [.list (l.map cwrow) .free] :=
  (opn_slice Tryz.underlying84 (by kernel_rfl : Tryz.prog.cellsOf 143 = 7) (by decide) opnCw).mono fun row ⟨rows, h1, h2, h3⟩ => by
    obtain ⟨l, hl, rfl⟩ := listOf (f := cwrow) (Q := CwOk) fun r hr => (h3 r hr).1
    exact ⟨l, hl, by have : maxLen = 9223372036854775807 := by decide
                     simpa [this] using h2, h1⟩
end
end Go.Proofs.YtjepgbpcpcahgaaGreat
namespace Go.Proofs.YtjepgbpcpcahgaaGreat
open Go.Am
section
variable {H : Type} {enc : TypeId × Value → H} {w : World} {base : Nat} {sp : Nat → Bool} {held : Bool}
theorem opnNk : Opn enc Tryz.prog w base sp held 86 fun row => ∃ a : Nk, NkOk a ∧ row = nkrow a :=
 (opn_struct Tryz.underlying86 (Rs := [fun row => ∃ n, row = [.v (.int .i64 n)] ∧ IntKind.i64.min ≤ n ∧ n ≤ IntKind.i64.max, fun row => ∃ n, row = [.v (.int .i64 n)] ∧ IntKind.i64.min ≤ n ∧ n ≤ IntKind.i64.max, fun row => ∃ b, row = [.v (.bool b)], fun row => ∃ s : ByteArray, row = [.v (.string s)] ∧ s.size ≤ maxLen, fun row => ∃ l : List Cw, (∀ a ∈ l, CwOk a) ∧ l.length ≤ 9223372036854775807 ∧ row = [.list (l.map cwrow) .free]])
  ⟨rfl, opn_int Tryz.underlying3, by kernel_rfl, opn_int Tryz.underlying3, by kernel_rfl, opn_bool Tryz.underlying4, by kernel_rfl, opn_string Tryz.underlying9, by kernel_rfl, opnCws, (show (_ : Nat) = _ by kernel_rfl)⟩).mono
  fun row hrow => by
   obtain ⟨_, _, e0, ⟨k, rfl, k1, k2⟩, _, _, e1, ⟨r, rfl, r1, r2⟩, _, _, e2, ⟨m, rfl⟩, _, _, e3, ⟨s, rfl, _⟩, _, _, e4, ⟨l, hl, hn, rfl⟩, e5⟩ := hrow
   refine ⟨⟨k, r, m, s, l⟩, ⟨⟨k1, k2⟩, ⟨r1, r2⟩, hl, hn⟩, ?_⟩
   rw [e0, e1, e2, e3, e4, e5]
   simp [nkrow]
theorem opnNks : Opn enc Tryz.prog w base sp held 34 fun row => ∃ l : List Nk, (∀ a ∈ l, NkOk a) ∧ l.length ≤ 9223372036854775807 ∧ row = [.list (l.map nkrow) .free] :=
  (opn_slice Tryz.underlying34 (by kernel_rfl : Tryz.prog.cellsOf 86 = 5) (by decide) opnNk).mono fun row ⟨rows, h1, h2, h3⟩ => by
    obtain ⟨l, hl, rfl⟩ := listOf (f := nkrow) (Q := NkOk) fun r hr => (h3 r hr).1
    exact ⟨l, hl, by have : maxLen = 9223372036854775807 := by decide
                     simpa [this] using h2, h1⟩
end
end Go.Proofs.YtjepgbpcpcahgaaGreat
