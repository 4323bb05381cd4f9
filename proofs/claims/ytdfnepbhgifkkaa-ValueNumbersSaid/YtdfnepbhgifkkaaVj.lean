/- ValueTells: octets read on both sides, by contracts. -/
import Derived.Test.YtdfnepbhgifkkaaVi
import Derived.Test.YtdfnepbhgifkkaaVc
namespace Go.Proofs.Ytdfnepbhgifkkaa
open Go.Am
set_option linter.unusedSimpArgs false
set_option linter.unusedVariables false
set_option maxRecDepth 100000
def zvH : Heap := [(0, .box [.v (.int .i64 0), .list [] .full, .v (.float .f64 0)])]
theorem reads1_c (l : List UInt8) (hl : l.length < 1000) : ACalls Try.prog 67 2 60 [.ptr 1 0, .ptr 0 0] ((1, .box [.list (l.map brow) .free]) :: zvH) (cbR 1 (fun l' H' => ∃ v, GV l v l' ∧ H' = [(0, .box (vrowV v))]) (fun H' => (∀ v r, ¬ GV l v r) ∧ H' = zvH)) := by
  refine acalls_of tok dok (f := 67) ⟨Try.func67, rfl, by kernel_rfl⟩ ?_; refine c_start (fun _ h => h) ?_
  refine awd ?_
  refine cal [1] (getA_c l hl) ?_ ?_
  · intro x H' hh
    rcases hh with ⟨v, r, g, h', rfl⟩ | ⟨_, h', _⟩
    · cases h'
      first | (refine akc ?_) | (refine aec ?_)
      refine awd ?_
      exact e_ret (H' := (1, .box [.list (r.map brow) .free]) :: [(0, .box (vrowV v))]) (rest := _) rfl (.inl ⟨_, r, _, ⟨v, g, rfl⟩, rfl, rfl⟩) (.of_eq rfl) (Nat.le_of_ble_eq_true rfl)
    · cases h'
  · intro x H' hh
    rcases hh with ⟨v, r, g, h', rfl⟩ | ⟨hno, h', rfl⟩
    · cases h'
    · cases h'
      refine awd ?_
      exact e_pan (H' := zvH) (rest := []) (.inr ⟨_, ⟨hno, rfl⟩, rfl, rfl⟩) (.of_eq rfl) (Nat.le_of_ble_eq_true rfl)
theorem refGetA_c (b : List UInt8) (hb : b.length < 1000) : ACalls Try.prog 68 1 40 [.ptr 0 0] (rr b false) (fun out H' => (∃ v r, GV b v r ∧ out = .ret (vav v) ∧ H' = rr r false) ∨ ((∀ v r, ¬ GV b v r) ∧ (∃ k t n, out = .ret (.agg [.v (.int .i64 k), .list t .free, .v (.float .f64 n)])) ∧ H' = rr [] true)) := by
  have hC := refByte_c b false (by omega)
  by_cases h1 : 1 ≤ b.length
  · obtain ⟨e1, e2, e3⟩ := some_ok h1
    rw [e1, e2, e3] at hC
    clear e1 e2 e3
    have hT := refRText_c (b.drop 1) 16 (by simp; omega)
    have hF := refRFloat_c (b.drop 1) (by simp; omega)
    have g1 : tOk (b.drop 1) 16 → ubn (b.take 1) 0 = 1 → GV b ⟨1, ((b.drop 1).drop 4).take (ubn ((b.drop 1).take 4) 0), 0⟩ (((b.drop 1).drop 4).drop (ubn ((b.drop 1).take 4) 0)) := fun h2 h3 => ⟨h1, .inl ⟨h3, h2, rfl, rfl⟩⟩
    have g2 : fOk (b.drop 1) → ubn (b.take 1) 0 = 2 → GV b ⟨2, [], ubn ((b.drop 1).take 8) 0⟩ ((b.drop 1).drop 8) := fun h2 h3 => ⟨h1, .inr ⟨h3, h2, rfl, rfl⟩⟩
    have n1 : ¬ tOk (b.drop 1) 16 → ubn (b.take 1) 0 = 1 → ∀ v r, ¬ GV b v r := fun h1 h2 v r h => by
      obtain ⟨_, ⟨_, h4, _⟩ | ⟨h4, _⟩⟩ := h
      · exact h1 h4
      · omega
    have n2 : ¬ fOk (b.drop 1) → ubn (b.take 1) 0 = 2 → ∀ v r, ¬ GV b v r := fun h1 h2 v r h => by
      obtain ⟨_, ⟨h4, _⟩ | ⟨_, h4, _⟩⟩ := h
      · omega
      · exact h1 h4
    have n3 : ¬ ubn (b.take 1) 0 = 1 → ¬ ubn (b.take 1) 0 = 2 → ∀ v r, ¬ GV b v r := fun h1 h2 v r h => by
      obtain ⟨_, ⟨h4, _⟩ | ⟨h4, _⟩⟩ := h <;> omega
    have hk := ubn_take b 1
    generalize ubn (b.take 1) 0 = k at *
    generalize ((b.drop 1).drop 4).take (ubn ((b.drop 1).take 4) 0) = tx at *
    generalize ((b.drop 1).drop 4).drop (ubn ((b.drop 1).take 4) 0) = r1 at *
    generalize ubn ((b.drop 1).take 8) 0 = x at *
    generalize (b.drop 1).drop 8 = r2 at *
    refine acalls_of tok dok (f := 68) ⟨Try.func68, rfl, by kernel_rfl⟩ ?_; refine c_start (fun _ h => h) ?_
    refine awd ?_
    refine cal [0] (hC) ?_ ?_
    · refine ret1 ?_; first | (refine akc ?_) | (refine aec ?_)
      repeat' (first | (refine awd1 ?_) | (((with_reducible refine is_aops ?_); refine o_split rfl rfl rfl (fun hc => ?_) (fun hc => ?_) <;> rw [hc])) | (((with_reducible refine is_cond ?_); refine c_cond rfl (fun hc => ?_) (fun hc => ?_))) | (((with_reducible refine is_aop ?_); refine a_pick rfl rfl (fun hc => ?_) (fun hc => ?_) <;> rw [hc])) | fail)
      · obtain rfl : k = 1 := by simp at hc; omega
        refine cal [0] (hT) ?_ ?_
        · intro xx H' hh
          rcases hh with ⟨hg, h', rfl⟩ | ⟨hg, ⟨y, h'⟩, rfl⟩
          · cases h'
            first | (refine akc ?_) | (refine aec ?_)
            refine awd ?_
            exact e_ret (H' := rr r1 false) (rest := _) rfl (.inl ⟨_, _, g1 hg rfl, rfl, rfl⟩) (.of_eq rfl) (Nat.le_of_ble_eq_true rfl)
          · cases h'
            first | (refine akc ?_) | (refine aec ?_)
            refine awd ?_
            exact e_ret (H' := rr [] true) (rest := _) rfl (.inr ⟨n1 hg rfl, ⟨_, _, _, rfl⟩, rfl⟩) (.of_eq rfl) (Nat.le_of_ble_eq_true rfl)
        · intro xx H' hh
          rcases hh with ⟨hg, h', rfl⟩ | ⟨hg, ⟨y, h'⟩, rfl⟩ <;> cases h'
      · obtain rfl : k = 2 := by simp at hc; omega
        refine cal [0] (hF) ?_ ?_
        · intro xx H' hh
          rcases hh with ⟨hg, h', rfl⟩ | ⟨hg, ⟨y, h'⟩, rfl⟩
          · cases h'
            first | (refine akc ?_) | (refine aec ?_)
            refine awd ?_
            exact e_ret_to (H' := rr r2 false) (rest := _) (.wk (.refl _) (.cons (.refl _) (.cons (.box _ (.cons (.refl _) (.cons (.free _ _) (.cons (.refl _) .nil)))) (.refl _)))) rfl (.inl ⟨_, _, g2 hg rfl, rfl, rfl⟩) (.of_eq rfl) (Nat.le_of_ble_eq_true rfl)
          · cases h'
            first | (refine akc ?_) | (refine aec ?_)
            refine awd ?_
            exact e_ret_to (H' := rr [] true) (rest := _) (.wk (.refl _) (.cons (.refl _) (.cons (.box _ (.cons (.refl _) (.cons (.free _ _) (.cons (.refl _) .nil)))) (.refl _)))) rfl (.inr ⟨n2 hg rfl, ⟨_, _, _, rfl⟩, rfl⟩) (.of_eq rfl) (Nat.le_of_ble_eq_true rfl)
        · intro xx H' hh
          rcases hh with ⟨hg, h', rfl⟩ | ⟨hg, ⟨y, h'⟩, rfl⟩ <;> cases h'
      · rename_i hc1
        refine cal [0] (refFail_c _ _) ?_ ?_
        · refine ret1 ?_; first | (refine akc ?_) | (refine aec ?_)
          refine awd ?_
          exact e_ret_to (H' := rr [] true) (rest := _) (.wk (.refl _) (.cons (.refl _) (.cons (.box _ (.cons (.refl _) (.cons (.free _ _) (.cons (.refl _) .nil)))) (.refl _)))) rfl (.inr ⟨n3 (by simp at hc1; omega) (by simp at hc; omega), ⟨_, _, _, rfl⟩, rfl⟩) (.of_eq rfl) (Nat.le_of_ble_eq_true rfl)
        · first | (exact retN) | (exact retP)
    · first | (exact retN) | (exact retP)
  · obtain ⟨e2, e3⟩ := some_no (n := 1) (b := b) (by omega)
    rw [e2, e3, show ubn (rSome 1 b false) 0 = 0 by unfold rSome; rw [if_neg (by rintro ⟨_, h⟩; omega)]; rfl] at hC
    refine acalls_of tok dok (f := 68) ⟨Try.func68, rfl, by kernel_rfl⟩ ?_; refine c_start (fun _ h => h) ?_
    refine awd ?_
    refine cal [0] (hC) ?_ ?_
    · refine ret1 ?_; first | (refine akc ?_) | (refine aec ?_)
      refine awd ?_
      refine cal [0] (refFail_c _ _) ?_ ?_
      · refine ret1 ?_; first | (refine akc ?_) | (refine aec ?_)
        refine awd ?_
        exact e_ret_to (H' := rr [] true) (rest := _) (.wk (.refl _) (.cons (.refl _) (.cons (.box _ (.cons (.refl _) (.cons (.free _ _) (.cons (.refl _) .nil)))) (.refl _)))) rfl (.inr ⟨fun v r h => (by have := h.1; omega), ⟨_, _, _, rfl⟩, rfl⟩) (.of_eq rfl) (Nat.le_of_ble_eq_true rfl)
      · first | (exact retN) | (exact retP)
    · first | (exact retN) | (exact retP)
def zvS : AV := .agg [.v (.int .i64 0), .list [] .free, .v (.float .f64 0)]
set_option maxHeartbeats 3200000 in
theorem reads3_c (l : List UInt8) (hl : l.length < 1000) : ACalls Try.prog 31 0 1000 [.list (l.map brow) .free] [] (fun out H' => out = .ret (.v (.bool true)) ∧ H' = []) := by
  refine acalls_of tok dok (f := 31) ⟨Try.func31, rfl, by kernel_rfl⟩ ?_; refine c_start (fun _ h => h) ?_
  refine awd ?_
  refine calw [0] (read_c (m := 1) (cap := [.ptr 0 0]) (H1 := zvH) (by decide) (reads1_c l hl) (fun f hf => by simp [AV.renL, AV.ren, hf]) (fun f hf => by simp [renH, Res.ren, AV.renL, AV.ren, hf, zvH, Own.ren]) (fun l' H h f hf => by obtain ⟨v, _, rfl⟩ := h; simp [renH, Res.ren, AV.renL, AV.ren, hf, vrowV, Own.ren]) (fun H h f hf => by obtain ⟨_, rfl⟩ := h; simp [renH, Res.ren, AV.renL, AV.ren, hf, zvH, Own.ren])) ?_ ?_
  · intro x H' h
    rcases h with ⟨l', ⟨v, g, rfl⟩, h1⟩ | ⟨⟨hno, rfl⟩, h1⟩
    · cases h1
      have ss := refSame_c v v g.n g.n
      rw [show ordV v v = 0 from ord0_refl _, show ((0 : Int) == 0) = true from rfl] at ss
      refine akc ?_
      refine awd ?_
      refine cal [62] (refGetA_c l hl) ?_ ?_
      · intro x H' h
        rcases h with ⟨v', r', g', h', rfl⟩ | ⟨hno, _, _⟩
        · obtain ⟨rfl, rfl⟩ := g.fn g'
          cases h'
          first | (refine akc ?_) | (refine aec ?_)
          refine awd ?_
          refine cal [62] (refWhole_c l' false) ?_ ?_
          · refine ret1 ?_; first | (refine akc ?_) | (refine aec ?_)
            rw [show (!false && decide (((l'.map brow).length : Int) = 0)) = decide (((l'.map brow).length : Int) = 0) from rfl]
            generalize decide (((l'.map brow).length : Int) = 0) = d
            cases d
            · refine awd ?_
              exact e_ret (H' := []) (rest := _) rfl ⟨rfl, rfl⟩ (.refl _) (Nat.le_of_ble_eq_true rfl)
            · refine awd ?_
              rw [show (v.kind == v.kind) = true from beq_self_eq_true _]
              refine awd ?_
              refine cal [] (ss) ?_ ?_
              · refine ret1 ?_; first | (refine akc ?_) | (refine aec ?_)
                refine awd ?_
                exact e_ret (H' := []) (rest := _) rfl ⟨rfl, rfl⟩ (.refl _) (Nat.le_of_ble_eq_true rfl)
              · first | (exact retN) | (exact retP)
          · first | (exact retN) | (exact retP)
        · exact absurd g (hno _ _)
      · intro x H' h
        rcases h with ⟨v', r', g', h', rfl⟩ | ⟨_, ⟨_, _, _, h'⟩, _⟩ <;> cases h'
    · cases h1
      refine akc ?_
      refine awd ?_
      refine cal [62] (refGetA_c l hl) ?_ ?_
      · intro x H' h
        rcases h with ⟨v', r', g', h', rfl⟩ | ⟨_, ⟨k, t, n, h'⟩, rfl⟩
        · exact absurd g' (hno _ _)
        · cases h'
          first | (refine akc ?_) | (refine aec ?_)
          refine awd ?_
          refine cal [62] (refWhole_c [] true) ?_ ?_
          · refine ret1 ?_; first | (refine akc ?_) | (refine aec ?_)
            refine awd ?_
            exact e_ret (H' := []) (rest := _) rfl ⟨rfl, rfl⟩ (.refl _) (Nat.le_of_ble_eq_true rfl)
          · first | (exact retN) | (exact retP)
      · intro x H' h
        rcases h with ⟨v', r', g', h', rfl⟩ | ⟨_, ⟨_, _, _, h'⟩, _⟩ <;> cases h'
  · intro x H' h
    rcases h with ⟨l', _, h1⟩ | ⟨_, h1⟩ <;> cases h1
end Go.Proofs.Ytdfnepbhgifkkaa
