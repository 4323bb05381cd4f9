/- Messages (chapter 16): read, by contracts. -/
import Derived.Test.YtdfnepbhgifkkaaMc
namespace Go.Proofs.Ytdfnepbhgifkkaa
open Go.Am
set_option linter.unusedSimpArgs false
set_option linter.unusedVariables false
set_option maxRecDepth 100000
theorem rB_c (l : List UInt8) (h : l.length < 70368744177664) : ACalls Try.prog 72 1 2 [.ptr 0 0] (rd l) (fun out H' => (∃ x r, pB l = some (x, r) ∧ (x < 256 ∧ r.length ≤ l.length) ∧ out = .ret (.v (.int .u8 (x : Int))) ∧ H' = rd r) ∨ (pB l = none ∧ out = gone ∧ H' = [])) :=
  (rByte_c l h).mono fun o H' hh => by
    unfold pB
    rcases hh with ⟨h1, h2, h3⟩ | ⟨h1, h2, h3⟩
    · refine .inl ⟨_, _, if_pos h1, ⟨?_, ?_⟩, h2, h3⟩
      · have := ubn_take l 1; omega
      · rw [List.length_drop]; omega
    · exact .inr ⟨if_neg (by omega), h2, h3⟩
theorem rN_c (l : List UInt8) (h : l.length < 70368744177664) : ACalls Try.prog 90 1 2 [.ptr 0 0] (rd l) (fun out H' => (∃ x r, pN l = some (x, r) ∧ (x < 4294967296 ∧ r.length ≤ l.length) ∧ out = .ret (.v (.int .u32 (x : Int))) ∧ H' = rd r) ∨ (pN l = none ∧ out = gone ∧ H' = [])) :=
  (rNum_c l h).mono fun o H' hh => by
    unfold pN
    rcases hh with ⟨h1, h2, h3⟩ | ⟨h1, h2, h3⟩
    · refine .inl ⟨_, _, if_pos h1, ⟨?_, ?_⟩, h2, h3⟩
      · have := ubn_take l 4; omega
      · rw [List.length_drop]; omega
    · exact .inr ⟨if_neg (by omega), h2, h3⟩
theorem rT_c (l : List UInt8) (h : l.length < 70368744177664) : ACalls Try.prog 73 1 3 [.ptr 0 0, .v (.int .i64 1048576)] (rd l) (fun out H' => (∃ x r, pT l = some (x, r) ∧ (x.length ≤ 1048576 ∧ r.length ≤ l.length) ∧ out = .ret (.list (x.map brow) .free) ∧ H' = rd r) ∨ (pT l = none ∧ out = gone ∧ H' = [])) :=
  (rText_c l 1048576 h).mono fun o H' hh => by
    unfold pT
    rcases hh with ⟨h1, h2, h3⟩ | ⟨h1, h2, h3⟩
    · refine .inl ⟨_, _, if_pos h1, ⟨?_, ?_⟩, h2, h3⟩
      · obtain ⟨_, h4, _⟩ := h1
        rw [List.length_take]; omega
      · rw [List.length_drop, List.length_drop]; omega
    · exact .inr ⟨if_neg h1, h2, h3⟩
theorem i64n {x : Nat} (h : x < 4294967296) : IntKind.i64.wrap (x : Int) = (x : Int) := by rw [IntKind.wrap_i64]; omega
/-- what take answers -/
abbrev tkR (l : List UInt8) (out : AOut) (H' : Heap) : Prop := (∃ m r, pM l = some (m, r) ∧ m.Ok ∧ out = .ret (msv m.ms) ∧ H' = rd r) ∨ ((∀ m r, pM l = some (m, r) → ¬ m.Ok) ∧ out = gone ∧ H' = [])
theorem c_loop4 {P : Program} {TT : Types} {D : Nat → List Oper → List AV → Heap → Nat → Kc → Prop} {s : List AV} {L : Heap} {n : Nat} {Kk : Kc} {x : Code} {α β γ δ : Type} (S : α → β → γ → δ → ASt) (C : α → β → γ → δ → Prop) (μ : α → β → γ → δ → Nat) (a : α) (b : β) (c : γ) (d : δ) (ha : C a b c d) (hc : Conv ⟨s, L, n⟩ (S a b c d))
    (hround : ∀ a b c d, C a b c d → acode P TT D x (S a b c d).slots (S a b c d).L (S a b c d).next (loopK (fun p : α × β × γ × δ => S p.1 p.2.1 p.2.2.1 p.2.2.2) (fun p => C p.1 p.2.1 p.2.2.1 p.2.2.2) (fun p => μ p.1 p.2.1 p.2.2.1 p.2.2.2) (a, b, c, d) Kk)) : acode P TT D (.loop x) s L n Kk :=
  c_loop' (fun p : α × β × γ × δ => S p.1 p.2.1 p.2.2.1 p.2.2.2) (fun p => C p.1 p.2.1 p.2.2.1 p.2.2.2) (fun p => μ p.1 p.2.1 p.2.2.1 p.2.2.2) (a := (a, b, c, d)) ha hc fun p h => hround p.1 p.2.1 p.2.2.1 p.2.2.2 h
theorem tk_none {l : List UInt8} (h : pM l = none) : tkR l gone [] := .inr ⟨fun m r e => (by rw [h] at e; cases e), rfl, rfl⟩
theorem bnd_next (o : Option (List Vn × List UInt8)) (x : Vn) (acc : List Vn) (m : Mn) (W : Mn → List Vn → Mn) : bnd (bnd o fun r l => some (x :: r, l)) (fun vs r => some (W m (acc ++ vs), r)) = bnd o fun vs r => some (W m ((acc ++ [x]) ++ vs), r) := by
  rcases o with _ | ⟨a, r⟩
  · rfl
  · simp [bnd_some]
theorem perm5 (a b c d e : Nat × Res) : [a, b, c, d, e].Perm ([c, a, d, e] ++ [b]) :=
  (List.Perm.cons a (.swap c b _)).trans ((List.Perm.swap c a _).trans (.cons c (.cons a (List.perm_append_comm (l₁ := [b]) (l₂ := [d, e])))))
/-- a message's row, its votes still coming -/
def tkrow (m : Mn) (acc : List Vn) : List AV := [.v (.int .i64 m.kind), .v (.int .i64 m.group), .v (.int .i64 m.frm), .v (.int .i64 m.to), .v (.int .i64 ((m.bal : Int) - 1)), .v (.int .i64 m.slot), .v (.int .i64 m.client), .v (.int .i64 m.seq), .list (m.b.map brow) .free, .list (acc.map vnrow) (.tok 14)]
def zrow : List AV := [.v (.int .i64 0), .v (.int .i64 0), .v (.int .i64 0), .v (.int .i64 0), .v (.int .i64 0), .v (.int .i64 0), .v (.int .i64 0), .v (.int .i64 0), .list [] .full, .list [] .full]
def tkSt (m : Mn) (acc : List Vn) (cur : List UInt8) (j : Nat) (N : Unit) : ASt := ⟨[.ptr 0 0, .dead, .ptr 1 0, .ptr 4 0, .v (.int .u8 j)] ++ List.replicate 65 .dead, [(14, .tok 3 (acc.map vnrow).length), (0, .box [.list (cur.map brow) .free]), (4, .box (tkrow m acc)), (1, .box zrow)], 15⟩
def withL (m : Mn) (l : List Vn) : Mn := ⟨m.kind, m.group, m.frm, m.to, m.bal, m.slot, m.client, m.seq, m.b, l⟩
set_option maxHeartbeats 6400000 in
theorem mtake_c (l : List UInt8) (h : l.length < 1000000000000) : ACalls Try.prog 53 1 100000 [.ptr 0 0] (rd l) (tkR l) := by
  have hM : pM l = _ := rfl
  conv at hM => rhs; unfold pM
  refine acalls_of tok dok (f := 53) ⟨Try.func53, rfl, by kernel_rfl⟩ ?_; refine c_start (fun _ h => h) ?_
  refine awd ?_
  refine cal [0] (rB_c l (by omega)) ?_ ?_
  · intro xx H' hh; rcases hh with ⟨kd, l1, e1, ⟨q1e1, q2e1⟩, h', rfl⟩ | ⟨_, h', _⟩ <;> first | (cases h'; done) | (cases h'; (rw [e1] at hM; simp only [bnd_some] at hM); (first | (refine akc ?_) | (refine aec ?_)); refine awd ?_; try rw [i64n (by omega)])
    refine cal [0] (rB_c l1 (by omega)) ?_ ?_
    · intro xx H' hh; rcases hh with ⟨g, l2, e2, ⟨q1e2, q2e2⟩, h', rfl⟩ | ⟨_, h', _⟩ <;> first | (cases h'; done) | (cases h'; (rw [e2] at hM; simp only [bnd_some] at hM); (first | (refine akc ?_) | (refine aec ?_)); refine awd ?_; try rw [i64n (by omega)])
      refine cal [0] (rN_c l2 (by omega)) ?_ ?_
      · intro xx H' hh; rcases hh with ⟨f, l3, e3, ⟨q1e3, q2e3⟩, h', rfl⟩ | ⟨_, h', _⟩ <;> first | (cases h'; done) | (cases h'; (rw [e3] at hM; simp only [bnd_some] at hM); (first | (refine akc ?_) | (refine aec ?_)); refine awd ?_; try rw [i64n (by omega)])
        refine cal [0] (rN_c l3 (by omega)) ?_ ?_
        · intro xx H' hh; rcases hh with ⟨t, l4, e4, ⟨q1e4, q2e4⟩, h', rfl⟩ | ⟨_, h', _⟩ <;> first | (cases h'; done) | (cases h'; (rw [e4] at hM; simp only [bnd_some] at hM); (first | (refine akc ?_) | (refine aec ?_)); refine awd ?_; try rw [i64n (by omega)])
          refine cal [0] (rN_c l4 (by omega)) ?_ ?_
          · intro xx H' hh; rcases hh with ⟨bl, l5, e5, ⟨q1e5, q2e5⟩, h', rfl⟩ | ⟨_, h', _⟩ <;> first | (cases h'; done) | (cases h'; (rw [e5] at hM; simp only [bnd_some] at hM); (first | (refine akc ?_) | (refine aec ?_)); refine awd ?_; try rw [i64n (by omega)])
            refine cal [0] (rN_c l5 (by omega)) ?_ ?_
            · intro xx H' hh; rcases hh with ⟨s, l6, e6, ⟨q1e6, q2e6⟩, h', rfl⟩ | ⟨_, h', _⟩ <;> first | (cases h'; done) | (cases h'; (rw [e6] at hM; simp only [bnd_some] at hM); (first | (refine akc ?_) | (refine aec ?_)); refine awd ?_; try rw [i64n (by omega)])
              refine cal [0] (rB_c l6 (by omega)) ?_ ?_
              · intro xx H' hh; rcases hh with ⟨c, l7, e7, ⟨q1e7, q2e7⟩, h', rfl⟩ | ⟨_, h', _⟩ <;> first | (cases h'; done) | (cases h'; (rw [e7] at hM; simp only [bnd_some] at hM); (first | (refine akc ?_) | (refine aec ?_)); refine awd ?_; try rw [i64n (by omega)])
                refine cal [0] (rN_c l7 (by omega)) ?_ ?_
                · intro xx H' hh; rcases hh with ⟨q, l8, e8, ⟨q1e8, q2e8⟩, h', rfl⟩ | ⟨_, h', _⟩ <;> first | (cases h'; done) | (cases h'; (rw [e8] at hM; simp only [bnd_some] at hM); (first | (refine akc ?_) | (refine aec ?_)); refine awd ?_; try rw [i64n (by omega)])
                  refine cal [0] (rT_c l8 (by omega)) ?_ ?_
                  · intro xx H' hh; rcases hh with ⟨b, l9, e9, ⟨q1e9, q2e9⟩, h', rfl⟩ | ⟨_, h', _⟩ <;> first | (cases h'; done) | (cases h'; (rw [e9] at hM; simp only [bnd_some] at hM); (first | (refine akc ?_) | (refine aec ?_)); refine awd ?_; try rw [i64n (by omega)])
                    refine cal [0] (rB_c l9 (by omega)) ?_ ?_
                    · intro xx H' hh; rcases hh with ⟨n, l10, e10, ⟨q1e10, q2e10⟩, h', rfl⟩ | ⟨_, h', _⟩ <;> first | (cases h'; done) | (cases h'; (rw [e10] at hM; simp only [bnd_some] at hM); (first | (refine akc ?_) | (refine aec ?_)); refine awd ?_; try rw [i64n (by omega)])
                      rw [z64 (n := (bl : Int) - 1) (by omega) (by omega)]
                      generalize hm0 : (⟨kd, g, f, t, bl, s, c, q, b, []⟩ : Mn) = m0
                      have hM2 : pM l = bnd (pV n l10) fun vs r => some (withL m0 ([] ++ vs), r) := by rw [hM, ← hm0]; rfl
                      refine c_loop4 (tkSt m0) (fun acc cur j _ => pM l = bnd (pV j cur) (fun vs r => some (withL m0 (acc ++ vs), r)) ∧ cur.length ≤ l.length ∧ acc.length + j ≤ 255) (fun _ _ j _ => j) [] l10 n () ⟨hM2, by omega, by show 0 + n ≤ 255; omega⟩ ((Conv.tokBox (id := 4) (j := 9) (sz := 3) (rows := []) rfl rfl (by simp)).trans (.to [] ?_ (.of_eq ?_) (Nat.le_of_ble_eq_true rfl))) ?_
                      · unfold tkSt
                        (repeat' (first | (with_reducible exact .nil) | (refine .cons ?_ ?_) | (exact Wk.dead _) | (with_reducible exact Wk.refl _) | (exact WkL.nil))) <;> first | (exact Wk.eq rfl) | (exact Wk.free _ _) | (exact Wk.int (w64 (by omega) (by omega))) | (exact Wk.int (by simp)) | (exact Wk.int (by simp; omega)) | (exact Wk.eq (by simp))
                      · subst hm0
                        rfl
                      · rintro acc cur j _ ⟨k1, k2, k3⟩
                        refine c_turn (n' := 15) (fun _ h => h) (fun _ h => h) rfl ?_
                        clear hM hM2
                        repeat' (first | (refine awd1 ?_) | (((with_reducible refine is_aops ?_); refine o_split rfl rfl rfl (fun hc => ?_) (fun hc => ?_) <;> rw [hc])) | (((with_reducible refine is_cond ?_); refine c_cond rfl (fun hc => ?_) (fun hc => ?_))) | (((with_reducible refine is_aop ?_); refine a_pick rfl rfl (fun hc => ?_) (fun hc => ?_) <;> rw [hc])) | fail)
                        · obtain ⟨j', rfl⟩ : ∃ j', j = j' + 1 := ⟨j - 1, by simp at hc; omega⟩
                          have hM : pM l = _ := k1
                          rw [pV, pV1] at hM
                          refine cal [0] (rN_c cur (by omega)) ?_ ?_
                          · intro xx H' hh; rcases hh with ⟨xs, r1, d1, ⟨q1d1, q2d1⟩, h', rfl⟩ | ⟨_, h', _⟩ <;> first | (cases h'; done) | (cases h'; (rw [d1] at hM; simp only [bnd_some] at hM); (first | (refine akc ?_) | (refine aec ?_)); refine awd ?_; try rw [i64n (by omega)])
                            refine cal [0] (rN_c r1 (by omega)) ?_ ?_
                            · intro xx H' hh; rcases hh with ⟨xb, r2, d2, ⟨q1d2, q2d2⟩, h', rfl⟩ | ⟨_, h', _⟩ <;> first | (cases h'; done) | (cases h'; (rw [d2] at hM; simp only [bnd_some] at hM); (first | (refine akc ?_) | (refine aec ?_)); refine awd ?_; try rw [i64n (by omega)])
                              rw [z64 (n := (xb : Int) - 1) (by omega) (by omega)]
                              refine awd ?_
                              refine cal [0] (rT_c r2 (by omega)) ?_ ?_
                              · intro xx H' hh; rcases hh with ⟨xv, r3, d3, ⟨q1d3, q2d3⟩, h', rfl⟩ | ⟨_, h', _⟩ <;> first | (cases h'; done) | (cases h'; (rw [d3] at hM; simp only [bnd_some] at hM); (first | (refine akc ?_) | (refine aec ?_)); refine awd ?_; try rw [i64n (by omega)])
                                refine k_loopJ (acc ++ [⟨xs, xb, xv⟩], r3, j', ()) [(17, .box (vnrow ⟨xs, xb, xv⟩))] ⟨by rw [hM]; exact bnd_next _ _ _ _ withL, by show r3.length ≤ _; omega, by show (acc ++ [_]).length + j' ≤ 255; simp; omega⟩ (by show j' < j' + 1; omega) ?_ ?_
                                · unfold tkSt
                                  (repeat' (first | (with_reducible exact .nil) | (refine .cons ?_ ?_) | (exact Wk.dead _) | (with_reducible exact Wk.refl _) | (exact WkL.nil))) <;> first | exact Wk.eq rfl | exact Wk.int (by show IntKind.u8.wrap (((j' + 1 : Nat) : Int) - 1) = (j' : Int); rw [IntKind.wrap_u8]; omega)
                                · refine (perm5 _ _ _ _ _).trans (.of_eq ?_)
                                  unfold tkSt tkrow
                                  simp only [List.map_append, List.length_append]
                                  rfl
                              · intro xx H' hh; rcases hh with ⟨_, _, _, _, h', _⟩ | ⟨d3, h', rfl⟩ <;> first | (cases h'; done) | (cases h'; (rw [d3] at hM; simp only [bnd_none] at hM); refine awd ?_; exact e_pan (H' := []) (rest := _) (tk_none hM) (.refl _) (Nat.le_of_ble_eq_true rfl))
                            · intro xx H' hh; rcases hh with ⟨_, _, _, _, h', _⟩ | ⟨d2, h', rfl⟩ <;> first | (cases h'; done) | (cases h'; (rw [d2] at hM; simp only [bnd_none] at hM); refine awd ?_; exact e_pan (H' := []) (rest := _) (tk_none hM) (.refl _) (Nat.le_of_ble_eq_true rfl))
                          · intro xx H' hh; rcases hh with ⟨_, _, _, _, h', _⟩ | ⟨d1, h', rfl⟩ <;> first | (cases h'; done) | (cases h'; (rw [d1] at hM; simp only [bnd_none] at hM); refine awd ?_; exact e_pan (H' := []) (rest := _) (tk_none hM) (.refl _) (Nat.le_of_ble_eq_true rfl))
                        · have hj : j = 0 := by simp at hc; omega
                          subst hj
                          have hfin : pM l = some (withL m0 acc, cur) := by rw [k1, pV, bnd_some, List.append_nil]
                          have hR := mright_c (withL m0 acc).ms (by show (acc.map Vn.vt).length < _; rw [List.length_map]; omega)
                          have hRok := rightB_ok (withL m0 acc)
                          unfold msv at hR
                          rw [mnrow_eq] at hR
                          generalize rightB (withL m0 acc).ms = rb at *
                          refine calw [] hR ?_ ?_ (hargs := .cons (LeA.agg' (.cons (LeA.refl _) (.cons (LeA.refl _) (.cons (LeA.refl _) (.cons (LeA.refl _) (.cons (LeA.refl _) (.cons (LeA.refl _) (.cons (LeA.refl _) (.cons (LeA.refl _) (.cons (LeA.refl _) (.cons (LeA.free _ _) .nil))))))))))) .nil)
                          · refine ret1 ?_; first | (refine akc ?_) | (refine aec ?_)
                            cases rb
                            · refine awd ?_
                              refine cal [0] (fail_c cur) ?_ ?_
                              · first | (exact retN) | (exact retP)
                              · intro xx H' hh
                                obtain ⟨h', rfl⟩ := hh
                                cases h'
                                refine awd ?_
                                exact e_pan (H' := []) (rest := _) (.inr ⟨fun m r e hok => (by rw [hfin] at e; cases e; exact absurd (hRok.2 hok) (by decide)), rfl, rfl⟩) (.refl _) (Nat.le_of_ble_eq_true rfl)
                            · refine awd ?_
                              refine e_ret_to (H' := rd cur) (rest := _) (.wk (.refl _) (.cons (.refl _) (.cons (.refl _) (.cons (.refl _) (.cons (.box _ (.cons (.refl _) (.cons (.refl _) (.cons (.refl _) (.cons (.refl _) (.cons (.refl _) (.cons (.refl _) (.cons (.refl _) (.cons (.refl _) (.cons (.refl _) (.cons (.free _ _) .nil))))))))))) .nil))))) rfl (.inl ⟨withL m0 acc, cur, hfin, hRok.1 rfl, ?_, rfl⟩) (.swap _ _ _) (Nat.le_of_ble_eq_true rfl)
                              unfold msv
                              rw [mnrow_eq]
                              rfl
                          · first | (exact retN) | (exact retP)
                    · intro xx H' hh; rcases hh with ⟨_, _, _, _, h', _⟩ | ⟨e10, h', rfl⟩ <;> first | (cases h'; done) | (cases h'; (rw [e10] at hM; simp only [bnd_none] at hM); refine awd ?_; exact e_pan (H' := []) (rest := _) (tk_none hM) (.refl _) (Nat.le_of_ble_eq_true rfl))
                  · intro xx H' hh; rcases hh with ⟨_, _, _, _, h', _⟩ | ⟨e9, h', rfl⟩ <;> first | (cases h'; done) | (cases h'; (rw [e9] at hM; simp only [bnd_none] at hM); refine awd ?_; exact e_pan (H' := []) (rest := _) (tk_none hM) (.refl _) (Nat.le_of_ble_eq_true rfl))
                · intro xx H' hh; rcases hh with ⟨_, _, _, _, h', _⟩ | ⟨e8, h', rfl⟩ <;> first | (cases h'; done) | (cases h'; (rw [e8] at hM; simp only [bnd_none] at hM); refine awd ?_; exact e_pan (H' := []) (rest := _) (tk_none hM) (.refl _) (Nat.le_of_ble_eq_true rfl))
              · intro xx H' hh; rcases hh with ⟨_, _, _, _, h', _⟩ | ⟨e7, h', rfl⟩ <;> first | (cases h'; done) | (cases h'; (rw [e7] at hM; simp only [bnd_none] at hM); refine awd ?_; exact e_pan (H' := []) (rest := _) (tk_none hM) (.refl _) (Nat.le_of_ble_eq_true rfl))
            · intro xx H' hh; rcases hh with ⟨_, _, _, _, h', _⟩ | ⟨e6, h', rfl⟩ <;> first | (cases h'; done) | (cases h'; (rw [e6] at hM; simp only [bnd_none] at hM); refine awd ?_; exact e_pan (H' := []) (rest := _) (tk_none hM) (.refl _) (Nat.le_of_ble_eq_true rfl))
          · intro xx H' hh; rcases hh with ⟨_, _, _, _, h', _⟩ | ⟨e5, h', rfl⟩ <;> first | (cases h'; done) | (cases h'; (rw [e5] at hM; simp only [bnd_none] at hM); refine awd ?_; exact e_pan (H' := []) (rest := _) (tk_none hM) (.refl _) (Nat.le_of_ble_eq_true rfl))
        · intro xx H' hh; rcases hh with ⟨_, _, _, _, h', _⟩ | ⟨e4, h', rfl⟩ <;> first | (cases h'; done) | (cases h'; (rw [e4] at hM; simp only [bnd_none] at hM); refine awd ?_; exact e_pan (H' := []) (rest := _) (tk_none hM) (.refl _) (Nat.le_of_ble_eq_true rfl))
      · intro xx H' hh; rcases hh with ⟨_, _, _, _, h', _⟩ | ⟨e3, h', rfl⟩ <;> first | (cases h'; done) | (cases h'; (rw [e3] at hM; simp only [bnd_none] at hM); refine awd ?_; exact e_pan (H' := []) (rest := _) (tk_none hM) (.refl _) (Nat.le_of_ble_eq_true rfl))
    · intro xx H' hh; rcases hh with ⟨_, _, _, _, h', _⟩ | ⟨e2, h', rfl⟩ <;> first | (cases h'; done) | (cases h'; (rw [e2] at hM; simp only [bnd_none] at hM); refine awd ?_; exact e_pan (H' := []) (rest := _) (tk_none hM) (.refl _) (Nat.le_of_ble_eq_true rfl))
  · intro xx H' hh; rcases hh with ⟨_, _, _, _, h', _⟩ | ⟨e1, h', rfl⟩ <;> first | (cases h'; done) | (cases h'; (rw [e1] at hM; simp only [bnd_none] at hM); refine awd ?_; exact e_pan (H' := []) (rest := _) (tk_none hM) (.refl _) (Nat.le_of_ble_eq_true rfl))
end Go.Proofs.Ytdfnepbhgifkkaa
