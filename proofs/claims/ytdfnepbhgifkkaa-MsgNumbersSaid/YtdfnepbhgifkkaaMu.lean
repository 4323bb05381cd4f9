/- Messages read by the document. -/
import Derived.Test.YtdfnepbhgifkkaaRe
import Derived.Test.YtdfnepbhgifkkaaMs
import Derived.Test.YtdfnepbhgifkkaaMd
namespace Go.Proofs.Ytdfnepbhgifkkaa
open Go.Am
set_option linter.unusedSimpArgs false
set_option linter.unusedVariables false
set_option maxRecDepth 100000
abbrev decR (l : List UInt8) (out : AOut) (H' : Heap) : Prop := (∃ m, pM l = some (m, []) ∧ m.Ok ∧ out = .ret (.tuple [.agg (mnrow m), .v (.bool true)]) ∧ H' = []) ∨ ((∀ m, pM l = some (m, []) → ¬ m.Ok) ∧ out = .ret (.tuple [.agg zrow, .v (.bool false)]) ∧ H' = [])
def dcrow (m : Mn) (acc : List Vn) : List AV := [.v (.int .i64 m.kind), .v (.int .i64 m.group), .v (.int .i64 m.frm), .v (.int .i64 m.to), .v (.int .i64 ((m.bal : Int) - 1)), .v (.int .i64 m.slot), .v (.int .i64 m.client), .v (.int .i64 m.seq), .list (m.b.map brow) .free, .list (acc.map vnrow) (.tok 37)]
def dcSt (m : Mn) (acc : List Vn) (cur : List UInt8) (j : Nat) : Bool → ASt
  | false => ⟨([.dead, .dead, .ptr 0 0, .dead, .ptr 1 0, .ptr 26 0, .v (.int .i64 j)] ++ List.replicate 74 .dead), [(37, .tok 3 (acc.map vnrow).length), (1, .box [.list (cur.map brow) .free, .v (.bool false)]), (26, .box (dcrow m acc)), (0, .box zrow)], 38⟩
  | true => ⟨([.dead, .dead, .ptr 0 0, .dead, .ptr 1 0, .dead, .v (.int .i64 j)] ++ List.replicate 74 .dead), [(1, .box [.list [] .free, .v (.bool true)]), (0, .box zrow)], 38⟩
theorem dN_bad : ∀ p : List UInt8 → Option (Nat × List UInt8), ∀ x l' bad', (bad' = false → true = false ∧ p [] = some (x, l')) → bad' = true := fun p x l' bad' h => by
  cases bad' with
  | true => rfl
  | false => exact (h rfl).1.symm
set_option maxHeartbeats 6400000 in
theorem refDecodeM_c (l : List UInt8) (h : l.length < 1000000000000) : ACalls Try.prog 58 0 5000 [.list (l.map brow) .free] [] (decR l) := by
  have hM : pM l = _ := rfl
  conv at hM => rhs; unfold pM
  refine acalls_of tok dok (f := 58) ⟨Try.func58, rfl, by kernel_rfl⟩ ?_; refine c_start (fun _ h => h) ?_
  refine awd ?_
  refine cal [1] (dB_c l false (by omega)) ?_ ?_
  · intro xx H' hh; obtain ⟨kd, l1, b1, q1a, q2a, q3a, q4a, h', rfl⟩ := hh; cases h'; (first | (refine akc ?_) | (refine aec ?_)); refine awd ?_; try rw [i64n (by omega)]
    refine cal [1] (dB_c l1 b1 (by omega)) ?_ ?_
    · intro xx H' hh; obtain ⟨g, l2, b2, q1b, q2b, q3b, q4b, h', rfl⟩ := hh; cases h'; (first | (refine akc ?_) | (refine aec ?_)); refine awd ?_; try rw [i64n (by omega)]
      refine cal [1] (dN_c l2 b2 (by omega)) ?_ ?_
      · intro xx H' hh; obtain ⟨f, l3, b3, q1c, q2c, q3c, q4c, h', rfl⟩ := hh; cases h'; (first | (refine akc ?_) | (refine aec ?_)); refine awd ?_; try rw [i64n (by omega)]
        refine cal [1] (dN_c l3 b3 (by omega)) ?_ ?_
        · intro xx H' hh; obtain ⟨t, l4, b4, q1d, q2d, q3d, q4d, h', rfl⟩ := hh; cases h'; (first | (refine akc ?_) | (refine aec ?_)); refine awd ?_; try rw [i64n (by omega)]
          refine cal [1] (dN_c l4 b4 (by omega)) ?_ ?_
          · intro xx H' hh; obtain ⟨bl, l5, b5, q1e, q2e, q3e, q4e, h', rfl⟩ := hh; cases h'; (first | (refine akc ?_) | (refine aec ?_)); refine awd ?_; try rw [i64n (by omega)]
            refine cal [1] (dN_c l5 b5 (by omega)) ?_ ?_
            · intro xx H' hh; obtain ⟨s, l6, b6, q1f, q2f, q3f, q4f, h', rfl⟩ := hh; cases h'; (first | (refine akc ?_) | (refine aec ?_)); refine awd ?_; try rw [i64n (by omega)]
              refine cal [1] (dB_c l6 b6 (by omega)) ?_ ?_
              · intro xx H' hh; obtain ⟨c, l7, b7, q1g, q2g, q3g, q4g, h', rfl⟩ := hh; cases h'; (first | (refine akc ?_) | (refine aec ?_)); refine awd ?_; try rw [i64n (by omega)]
                refine cal [1] (dN_c l7 b7 (by omega)) ?_ ?_
                · intro xx H' hh; obtain ⟨q, l8, b8, q1h, q2h, q3h, q4h, h', rfl⟩ := hh; cases h'; (first | (refine akc ?_) | (refine aec ?_)); refine awd ?_; try rw [i64n (by omega)]
                  rw [z64 (n := (bl : Int) - 1) (by omega) (by omega)]
                  refine awd ?_
                  refine cal [1] (dT_c l8 b8 (by omega)) ?_ ?_
                  · intro xx H' hh
                    rcases hh with ⟨b, l9, rfl, e9, k9, h', rfl⟩ | ⟨hno, ⟨x, h'⟩, rfl⟩
                    · cases h'
                      obtain ⟨rfl, e8⟩ := q3h rfl
                      obtain ⟨rfl, e7⟩ := q3g rfl
                      obtain ⟨rfl, e6⟩ := q3f rfl
                      obtain ⟨rfl, e5⟩ := q3e rfl
                      obtain ⟨rfl, e4⟩ := q3d rfl
                      obtain ⟨rfl, e3⟩ := q3c rfl
                      obtain ⟨rfl, e2⟩ := q3b rfl
                      obtain ⟨_, e1⟩ := q3a rfl
                      rw [e1, bnd_some, e2, bnd_some, e3, bnd_some, e4, bnd_some, e5, bnd_some, e6, bnd_some, e7, bnd_some, e8, bnd_some, e9, bnd_some] at hM
                      clear q3a q3b q3c q3d q3e q3f q3g q3h q4a q4b q4c q4d q4e q4f q4g q4h
                      first | (refine akc ?_) | (refine aec ?_)
                      refine awd ?_
                      refine cal [1] (dB_c l9 false (by omega)) ?_ ?_
                      · intro xx H' hh; obtain ⟨n, l10, b10, q1i, q2i, q3i, q4i, h', rfl⟩ := hh; cases h'; (first | (refine akc ?_) | (refine aec ?_)); refine awd ?_; try rw [i64n (by omega)]
                        generalize hm0 : (⟨kd, g, f, t, bl, s, c, q, b, []⟩ : Mn) = m0
                        refine c_loop4 (dcSt m0) (fun acc cur j bad => (bad = false → pM l = bnd (pV j cur) (fun vs r => some (withL m0 (acc ++ vs), r))) ∧ (bad = true → pM l = none) ∧ cur.length ≤ l.length ∧ acc.length + j ≤ 255 ∧ j ≤ 256) (fun _ _ j bad => if bad then 0 else j + 1) [] l10 n b10 ⟨fun hb => by rw [hM, (q3i hb).2, ← hm0]; rfl, fun hb => by rw [hM, (q4i hb).2 rfl]; rfl, by omega, by show 0 + n ≤ 255; omega, by omega⟩ ?_ ?_
                        · cases b10 with
                          | false =>
                            refine (Conv.tokBox (id := 26) (j := 9) (sz := 3) (rows := []) rfl rfl (by simp)).trans (.to [] ?_ (.of_eq ?_) (Nat.le_of_ble_eq_true rfl))
                            · unfold dcSt
                              (repeat' (first | (with_reducible exact .nil) | (refine .cons ?_ ?_) | (exact Wk.dead _) | (with_reducible exact Wk.refl _) | (exact WkL.nil))) <;> first | (exact Wk.eq rfl) | (exact Wk.free _ _) | (exact Wk.int (w64 (by omega) (by omega))) | (exact Wk.int (by simp)) | (exact Wk.int (by simp; omega)) | (exact Wk.eq (by simp))
                            · subst hm0
                              rfl
                          | true =>
                            obtain ⟨rfl, _⟩ := q4i rfl
                            (refine Conv.toT ?_ ?_ (Nat.le_of_ble_eq_true rfl)); (focus ((unfold dcSt); (try dsimp only); (repeat' (first | (with_reducible exact .nil) | (refine .cons ?_ ?_) | (exact Wk.dead _) | (with_reducible exact Wk.refl _) | (exact WkL.nil))) <;> (first | (exact Wk.eq rfl) | (exact Wk.dead _) | (exact Wk.free _ _) | (exact Wk.lit _) | (refine WkR.eq ?_; simp; done) | (refine Wk.rows ?_ _; ((repeat' (first | (with_reducible exact LDR.nil) | (with_reducible exact LDL.nil) | (refine LDR.cons ?_ ?_) | (refine LDL.cons ?_ ?_) | (exact LeD.refl _) | (exact LeD.free _ _) | (exact LDR.nil) | (exact LDL.nil)))); done) | (exact Wk.rows (ldr_rep _) _) | (refine Wk.eq ?_; rw [List.map_append]; rfl) | ((refine Wk.int (Eq.trans (z64 ?_ ?_) ?_)) <;> omega) | (refine Wk.int ?_; simp; done) | (refine Wk.int ?_; simp; omega) | (refine Wk.eq ?_; simp; done)))); (focus ((unfold dcSt); (try dsimp only); (repeat' (first | (with_reducible exact WkH.nil) | (refine WkH.cons ?_ ?_) | (exact WkR.refl _) | (refine WkR.box _ ?_) | (refine WkR.eq ?_; simp; done) | (exact WkH.nil))) <;> ((repeat' (first | (with_reducible exact .nil) | (refine .cons ?_ ?_) | (exact Wk.dead _) | (with_reducible exact Wk.refl _) | (exact WkL.nil))) <;> (first | (exact Wk.eq rfl) | (exact Wk.dead _) | (exact Wk.free _ _) | (exact Wk.lit _) | (refine WkR.eq ?_; simp; done) | (refine Wk.rows ?_ _; ((repeat' (first | (with_reducible exact LDR.nil) | (with_reducible exact LDL.nil) | (refine LDR.cons ?_ ?_) | (refine LDL.cons ?_ ?_) | (exact LeD.refl _) | (exact LeD.free _ _) | (exact LDR.nil) | (exact LDL.nil)))); done) | (exact Wk.rows (ldr_rep _) _) | (refine Wk.eq ?_; rw [List.map_append]; rfl) | ((refine Wk.int (Eq.trans (z64 ?_ ?_) ?_)) <;> omega) | (refine Wk.int ?_; simp; done) | (refine Wk.int ?_; simp; omega) | (refine Wk.eq ?_; simp; done)))))
                        · rintro acc cur j (_ | _) ⟨k1, k2, k3, k4, k5⟩
                          · refine c_turn (n' := 38) (fun _ h => h) (fun _ h => h) rfl ?_
                            repeat' (first | (refine awd1 ?_) | (((with_reducible refine is_aops ?_); refine o_split rfl rfl rfl (fun hc => ?_) (fun hc => ?_) <;> rw [hc])) | (((with_reducible refine is_cond ?_); refine c_cond rfl (fun hc => ?_) (fun hc => ?_))) | (((with_reducible refine is_aop ?_); refine a_pick rfl rfl (fun hc => ?_) (fun hc => ?_) <;> rw [hc])) | fail)
                            · obtain ⟨j', rfl⟩ : ∃ j', j = j' + 1 := ⟨j - 1, by simp at hc; omega⟩
                              have hM' : pM l = _ := k1 rfl
                              rw [pV, pV1] at hM'
                              refine cal [1] (dN_c cur false (by omega)) ?_ ?_
                              · intro xx H' hh; obtain ⟨xs, r1, c1, q1m, q2m, q3m, q4m, h', rfl⟩ := hh; cases h'; (first | (refine akc ?_) | (refine aec ?_)); refine awd ?_; try rw [i64n (by omega)]
                                refine cal [1] (dN_c r1 c1 (by omega)) ?_ ?_
                                · intro xx H' hh; obtain ⟨xb, r2, c2, q1n, q2n, q3n, q4n, h', rfl⟩ := hh; cases h'; (first | (refine akc ?_) | (refine aec ?_)); refine awd ?_; try rw [i64n (by omega)]
                                  rw [z64 (n := (xb : Int) - 1) (by omega) (by omega)]
                                  refine awd ?_
                                  refine cal [1] (dT_c r2 c2 (by omega)) ?_ ?_
                                  · intro xx H' hh
                                    rcases hh with ⟨xv, r3, rfl, d3, k9, h', rfl⟩ | ⟨hno, ⟨x, h'⟩, rfl⟩
                                    · cases h'
                                      obtain ⟨rfl, d2⟩ := q3n rfl
                                      obtain ⟨_, d1⟩ := q3m rfl
                                      rw [d1, bnd_some, d2, bnd_some, d3, bnd_some] at hM'
                                      first | (refine akc ?_) | (refine aec ?_)
                                      refine awd ?_
                                      (refine k_loopT ((acc ++ [⟨xs, xb, xv⟩], r3, j', false)) ⟨fun _ => by rw [hM']; exact bnd_next _ _ _ _ withL, fun h => (by cases h), by show r3.length ≤ l.length; omega, by show (acc ++ [_]).length + j' ≤ 255; simp; omega, by show j' ≤ 256; omega⟩ (by first | omega | (simp; done) | (simp; omega)) ?_ ?_); (focus ((unfold dcSt); (try dsimp only); (repeat' (first | (with_reducible exact .nil) | (refine .cons ?_ ?_) | (exact Wk.dead _) | (with_reducible exact Wk.refl _) | (exact WkL.nil))) <;> (first | (exact Wk.eq rfl) | (exact Wk.dead _) | (exact Wk.free _ _) | (exact Wk.lit _) | (refine WkR.eq ?_; simp; done) | (refine Wk.rows ?_ _; ((repeat' (first | (with_reducible exact LDR.nil) | (with_reducible exact LDL.nil) | (refine LDR.cons ?_ ?_) | (refine LDL.cons ?_ ?_) | (exact LeD.refl _) | (exact LeD.free _ _) | (exact LDR.nil) | (exact LDL.nil)))); done) | (exact Wk.rows (ldr_rep _) _) | (refine Wk.eq ?_; rw [List.map_append]; rfl) | ((refine Wk.int (Eq.trans (z64 ?_ ?_) ?_)) <;> omega) | (refine Wk.int ?_; simp; done) | (refine Wk.int ?_; simp; omega) | (refine Wk.eq ?_; simp; done)))); (focus ((unfold dcSt); (try dsimp only); (repeat' (first | (with_reducible exact WkH.nil) | (refine WkH.cons ?_ ?_) | (exact WkR.refl _) | (refine WkR.box _ ?_) | (refine WkR.eq ?_; simp; done) | (exact WkH.nil))) <;> ((repeat' (first | (with_reducible exact .nil) | (refine .cons ?_ ?_) | (exact Wk.dead _) | (with_reducible exact Wk.refl _) | (exact WkL.nil))) <;> (first | (exact Wk.eq rfl) | (exact Wk.dead _) | (exact Wk.free _ _) | (exact Wk.lit _) | (refine WkR.eq ?_; simp; done) | (refine Wk.rows ?_ _; ((repeat' (first | (with_reducible exact LDR.nil) | (with_reducible exact LDL.nil) | (refine LDR.cons ?_ ?_) | (refine LDL.cons ?_ ?_) | (exact LeD.refl _) | (exact LeD.free _ _) | (exact LDR.nil) | (exact LDL.nil)))); done) | (exact Wk.rows (ldr_rep _) _) | (refine Wk.eq ?_; rw [List.map_append]; rfl) | ((refine Wk.int (Eq.trans (z64 ?_ ?_) ?_)) <;> omega) | (refine Wk.int ?_; simp; done) | (refine Wk.int ?_; simp; omega) | (refine Wk.eq ?_; simp; done)))))
                                    · have hN : pM l = none := by
                                        rw [hM']
                                        (rcases c1 with _ | _; rotate_left; (rw [(q4m rfl).2 rfl]; rfl)); (rw [(q3m rfl).2, bnd_some])
                                        (rcases c2 with _ | _; rotate_left; (rw [(q4n rfl).2 rfl]; rfl)); (rw [(q3n rfl).2, bnd_some])
                                        rw [hno rfl]; rfl
                                      cases h'
                                      first | (refine akc ?_) | (refine aec ?_)
                                      refine awd ?_
                                      (refine k_loopT ((acc, [], j', true)) ⟨fun h => (by cases h), fun _ => hN, Nat.zero_le _, by show acc.length + j' ≤ 255; omega, by show j' ≤ 256; omega⟩ (by first | omega | (simp; done) | (simp; omega)) ?_ ?_); (focus ((unfold dcSt); (try dsimp only); (repeat' (first | (with_reducible exact .nil) | (refine .cons ?_ ?_) | (exact Wk.dead _) | (with_reducible exact Wk.refl _) | (exact WkL.nil))) <;> (first | (exact Wk.eq rfl) | (exact Wk.dead _) | (exact Wk.free _ _) | (exact Wk.lit _) | (refine WkR.eq ?_; simp; done) | (refine Wk.rows ?_ _; ((repeat' (first | (with_reducible exact LDR.nil) | (with_reducible exact LDL.nil) | (refine LDR.cons ?_ ?_) | (refine LDL.cons ?_ ?_) | (exact LeD.refl _) | (exact LeD.free _ _) | (exact LDR.nil) | (exact LDL.nil)))); done) | (exact Wk.rows (ldr_rep _) _) | (refine Wk.eq ?_; rw [List.map_append]; rfl) | ((refine Wk.int (Eq.trans (z64 ?_ ?_) ?_)) <;> omega) | (refine Wk.int ?_; simp; done) | (refine Wk.int ?_; simp; omega) | (refine Wk.eq ?_; simp; done)))); (focus ((unfold dcSt); (try dsimp only); (repeat' (first | (with_reducible exact WkH.nil) | (refine WkH.cons ?_ ?_) | (exact WkR.refl _) | (refine WkR.box _ ?_) | (refine WkR.eq ?_; simp; done) | (exact WkH.nil))) <;> ((repeat' (first | (with_reducible exact .nil) | (refine .cons ?_ ?_) | (exact Wk.dead _) | (with_reducible exact Wk.refl _) | (exact WkL.nil))) <;> (first | (exact Wk.eq rfl) | (exact Wk.dead _) | (exact Wk.free _ _) | (exact Wk.lit _) | (refine WkR.eq ?_; simp; done) | (refine Wk.rows ?_ _; ((repeat' (first | (with_reducible exact LDR.nil) | (with_reducible exact LDL.nil) | (refine LDR.cons ?_ ?_) | (refine LDL.cons ?_ ?_) | (exact LeD.refl _) | (exact LeD.free _ _) | (exact LDR.nil) | (exact LDL.nil)))); done) | (exact Wk.rows (ldr_rep _) _) | (refine Wk.eq ?_; rw [List.map_append]; rfl) | ((refine Wk.int (Eq.trans (z64 ?_ ?_) ?_)) <;> omega) | (refine Wk.int ?_; simp; done) | (refine Wk.int ?_; simp; omega) | (refine Wk.eq ?_; simp; done)))))
                                  · intro xx H' hh
                                    rcases hh with ⟨_, _, _, _, _, h', _⟩ | ⟨_, ⟨_, h'⟩, _⟩ <;> cases h'
                                · intro xx H' hh; obtain ⟨_, _, _, _, _, _, _, h', _⟩ := hh; cases h'
                              · intro xx H' hh; obtain ⟨_, _, _, _, _, _, _, h', _⟩ := hh; cases h'
                            · obtain rfl : j = 0 := by simp at hc; omega
                              have hfin : pM l = some (withL m0 acc, cur) := by rw [k1 rfl, pV, bnd_some, List.append_nil]
                              refine cal [1] (refWhole_c cur false) ?_ ?_
                              · refine ret1 ?_; first | (refine akc ?_) | (refine aec ?_)
                                cases cur with
                                | nil =>
                                  refine awd ?_
                                  have hR := refRightM_c (withL m0 acc).ms (by show (acc.map Vn.vt).length < _; rw [List.length_map]; omega)
                                  have hRok := rightB_ok (withL m0 acc)
                                  unfold msv at hR
                                  rw [mnrow_eq] at hR
                                  generalize rightB (withL m0 acc).ms = rb at *
                                  refine calw [] hR ?_ ?_ (hargs := .cons (LeA.agg' (.cons (LeA.refl _) (.cons (LeA.refl _) (.cons (LeA.refl _) (.cons (LeA.refl _) (.cons (LeA.refl _) (.cons (LeA.refl _) (.cons (LeA.refl _) (.cons (LeA.refl _) (.cons (LeA.refl _) (.cons (LeA.free _ _) .nil))))))))))) .nil)
                                  · refine ret1 ?_; first | (refine akc ?_) | (refine aec ?_)
                                    cases rb
                                    · refine awd ?_
                                      exact e_ret (H' := []) (rest := _) rfl (.inr ⟨fun m e hok => (by rw [hfin] at e; cases e; exact absurd (hRok.2 hok) (by decide)), rfl, rfl⟩) (.refl _) (Nat.le_of_ble_eq_true rfl)
                                    · refine awd ?_
                                      refine e_ret_to (τ := ⟨_, [(0, .box (mnrow (withL m0 acc)))], 5000⟩) (Conv.toT (.refl _) ?_ (Nat.le_of_ble_eq_true rfl)) rfl (H' := []) (rest := [(0, .box (mnrow (withL m0 acc)))]) (.inl ⟨withL m0 acc, hfin, hRok.1 rfl, rfl, rfl⟩) (.refl _) (Nat.le_of_ble_eq_true rfl)
                                      (repeat' (first | (with_reducible exact WkH.nil) | (refine WkH.cons ?_ ?_) | (exact WkR.refl _) | (refine WkR.box _ ?_) | (refine WkR.eq ?_; simp; done) | (exact WkH.nil))) <;> ((repeat' (first | (with_reducible exact .nil) | (refine .cons ?_ ?_) | (exact Wk.dead _) | (with_reducible exact Wk.refl _) | (exact WkL.nil))) <;> (first | (exact Wk.eq rfl) | (exact Wk.dead _) | (exact Wk.free _ _) | (exact Wk.lit _) | (refine WkR.eq ?_; simp; done) | (refine Wk.rows ?_ _; ((repeat' (first | (with_reducible exact LDR.nil) | (with_reducible exact LDL.nil) | (refine LDR.cons ?_ ?_) | (refine LDL.cons ?_ ?_) | (exact LeD.refl _) | (exact LeD.free _ _) | (exact LDR.nil) | (exact LDL.nil)))); done) | (exact Wk.rows (ldr_rep _) _) | (refine Wk.eq ?_; rw [List.map_append]; rfl) | ((refine Wk.int (Eq.trans (z64 ?_ ?_) ?_)) <;> omega) | (refine Wk.int ?_; simp; done) | (refine Wk.int ?_; simp; omega) | (refine Wk.eq ?_; simp; done)))
                                  · first | (exact retN) | (exact retP)
                                | cons cc cur =>
                                  rw [show (!false && decide ((((cc :: cur).map brow).length : Int) = 0)) = false by simp; omega]
                                  refine awd ?_
                                  exact e_ret (H' := []) (rest := _) rfl (.inr ⟨fun m e => (by rw [hfin] at e; cases e), rfl, rfl⟩) (.refl _) (Nat.le_of_ble_eq_true rfl)
                              · first | (exact retN) | (exact retP)
                          · refine c_turn (n' := 38) (fun _ h => h) (fun _ h => h) rfl ?_
                            have hN := k2 rfl
                            repeat' (first | (refine awd1 ?_) | (((with_reducible refine is_aops ?_); refine o_split rfl rfl rfl (fun hc => ?_) (fun hc => ?_) <;> first | (exfalso; (simp only [decide_eq_true_eq, decide_eq_false_iff_not, beq_iff_eq, beq_eq_false_iff_ne, bne_iff_ne, bne_eq_false_iff_eq, List.length_map, Int.not_lt, Int.not_le] at hc); omega) | rw [hc])) | (((with_reducible refine is_cond ?_); refine c_cond rfl (fun hc => ?_) (fun hc => ?_) <;> first | (exfalso; (simp only [decide_eq_true_eq, decide_eq_false_iff_not, beq_iff_eq, beq_eq_false_iff_ne, bne_iff_ne, bne_eq_false_iff_eq, List.length_map, Int.not_lt, Int.not_le] at hc); omega) | skip)) | (((with_reducible refine is_aop ?_); refine a_pick rfl rfl (fun hc => ?_) (fun hc => ?_) <;> first | (exfalso; (simp only [decide_eq_true_eq, decide_eq_false_iff_not, beq_iff_eq, beq_eq_false_iff_ne, bne_iff_ne, bne_eq_false_iff_eq, List.length_map, Int.not_lt, Int.not_le] at hc); omega) | rw [hc])) | ((with_reducible refine ret1 ?_); first | (refine akc ?_) | (refine aec ?_)) | (with_reducible exact retN) | (with_reducible exact retP) | (refine cal [1] (refWhole_c [] true) ?_ ?_) | fail)
                            all_goals exact e_ret (H' := []) (rest := _) rfl (.inr ⟨fun m e => (by rw [hN] at e; cases e), rfl, rfl⟩) (.refl _) (Nat.le_of_ble_eq_true rfl)
                      · intro xx H' hh; obtain ⟨_, _, _, _, _, _, _, h', _⟩ := hh; cases h'
                    · have hN : pM l = none := by
                        rw [hM]
                        (rcases b1 with _ | _; rotate_left; (rw [(q4a rfl).2 rfl]; rfl)); (rw [(q3a rfl).2, bnd_some])
                        (rcases b2 with _ | _; rotate_left; (rw [(q4b rfl).2 rfl]; rfl)); (rw [(q3b rfl).2, bnd_some])
                        (rcases b3 with _ | _; rotate_left; (rw [(q4c rfl).2 rfl]; rfl)); (rw [(q3c rfl).2, bnd_some])
                        (rcases b4 with _ | _; rotate_left; (rw [(q4d rfl).2 rfl]; rfl)); (rw [(q3d rfl).2, bnd_some])
                        (rcases b5 with _ | _; rotate_left; (rw [(q4e rfl).2 rfl]; rfl)); (rw [(q3e rfl).2, bnd_some])
                        (rcases b6 with _ | _; rotate_left; (rw [(q4f rfl).2 rfl]; rfl)); (rw [(q3f rfl).2, bnd_some])
                        (rcases b7 with _ | _; rotate_left; (rw [(q4g rfl).2 rfl]; rfl)); (rw [(q3g rfl).2, bnd_some])
                        (rcases b8 with _ | _; rotate_left; (rw [(q4h rfl).2 rfl]; rfl)); (rw [(q3h rfl).2, bnd_some])
                        rw [hno rfl]; rfl
                      cases h'
                      first | (refine akc ?_) | (refine aec ?_)
                      refine awd ?_
                      refine cal [1] (dB_c [] true (by simp)) ?_ ?_
                      · intro xx H' hh
                        obtain ⟨n, l10, b10, f1, f2, f3, f4, h', rfl⟩ := hh
                        obtain rfl := dN_bad _ _ _ _ f3
                        obtain ⟨rfl, _⟩ := f4 rfl
                        cases h'
                        first | (refine akc ?_) | (refine aec ?_)
                        refine awd ?_
                        rw [i64n (by omega)]
                        refine c_once ?_
                        repeat' (first | (refine awd1 ?_) | (((with_reducible refine is_aops ?_); refine o_split rfl rfl rfl (fun hc => ?_) (fun hc => ?_) <;> first | (exfalso; (simp only [decide_eq_true_eq, decide_eq_false_iff_not, beq_iff_eq, beq_eq_false_iff_ne, bne_iff_ne, bne_eq_false_iff_eq, List.length_map, Int.not_lt, Int.not_le] at hc); omega) | rw [hc])) | (((with_reducible refine is_cond ?_); refine c_cond rfl (fun hc => ?_) (fun hc => ?_) <;> first | (exfalso; (simp only [decide_eq_true_eq, decide_eq_false_iff_not, beq_iff_eq, beq_eq_false_iff_ne, bne_iff_ne, bne_eq_false_iff_eq, List.length_map, Int.not_lt, Int.not_le] at hc); omega) | skip)) | (((with_reducible refine is_aop ?_); refine a_pick rfl rfl (fun hc => ?_) (fun hc => ?_) <;> first | (exfalso; (simp only [decide_eq_true_eq, decide_eq_false_iff_not, beq_iff_eq, beq_eq_false_iff_ne, bne_iff_ne, bne_eq_false_iff_eq, List.length_map, Int.not_lt, Int.not_le] at hc); omega) | rw [hc])) | ((with_reducible refine ret1 ?_); first | (refine akc ?_) | (refine aec ?_)) | (with_reducible exact retN) | (with_reducible exact retP) | (refine cal [1] (refWhole_c [] true) ?_ ?_) | fail)
                        all_goals exact e_ret (H' := []) (rest := _) rfl (.inr ⟨fun m e => (by rw [hN] at e; cases e), rfl, rfl⟩) (.refl _) (Nat.le_of_ble_eq_true rfl)
                      · intro xx H' hh; obtain ⟨_, _, _, _, _, _, _, h', _⟩ := hh; cases h'
                  · intro xx H' hh
                    rcases hh with ⟨_, _, _, _, _, h', _⟩ | ⟨_, ⟨_, h'⟩, _⟩ <;> cases h'
                · intro xx H' hh; obtain ⟨_, _, _, _, _, _, _, h', _⟩ := hh; cases h'
              · intro xx H' hh; obtain ⟨_, _, _, _, _, _, _, h', _⟩ := hh; cases h'
            · intro xx H' hh; obtain ⟨_, _, _, _, _, _, _, h', _⟩ := hh; cases h'
          · intro xx H' hh; obtain ⟨_, _, _, _, _, _, _, h', _⟩ := hh; cases h'
        · intro xx H' hh; obtain ⟨_, _, _, _, _, _, _, h', _⟩ := hh; cases h'
      · intro xx H' hh; obtain ⟨_, _, _, _, _, _, _, h', _⟩ := hh; cases h'
    · intro xx H' hh; obtain ⟨_, _, _, _, _, _, _, h', _⟩ := hh; cases h'
  · intro xx H' hh; obtain ⟨_, _, _, _, _, _, _, h', _⟩ := hh; cases h'
end Go.Proofs.Ytdfnepbhgifkkaa
