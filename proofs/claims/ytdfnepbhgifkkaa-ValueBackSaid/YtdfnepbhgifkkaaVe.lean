/- ValueBack, by contracts. -/
import Derived.Test.YtdfnepbhgifkkaaVc
import Derived.Test.YtdfnepbhgifkkaaOcC

namespace Go.Proofs.Ytdfnepbhgifkkaa
open Go.Am
set_option linter.unusedSimpArgs false
set_option linter.unusedVariables false
set_option maxRecDepth 100000
/-- a value's octets -/
def encV (v : Va) : List UInt8 := if v.kind = 1 then 1 :: (be v.b.length 4 ++ v.b) else 2 :: be (canonB v.n) 8
theorem encV_len {v : Va} (h : VOk v) : (encV v).length ≤ 21 := by
  unfold encV
  rcases h with h | h
  · rw [if_pos h.1]; simp [be_len]; omega
  · rw [if_neg (by omega)]; simp [be_len]
theorem put_c (v : Va) (hv : VOk v) (l : List UInt8) (hl : l.length < 1000) : ACalls Try.prog 34 2 10 [.ptr 0 0, vav v] (wr l) (fun out H' => out = .ret (.tuple []) ∧ H' = wr (l ++ encV v)) := by
  obtain ⟨kd, b, n⟩ := v
  rcases hv with ⟨h1, h2, h3⟩ | ⟨h1, h2, h3⟩
  · simp only at h1 h2 h3
    subst h1 h2
    have ee : l ++ encV ⟨1, b, 0⟩ = l ++ [1] ++ (be b.length 4 ++ b) := by simp [encV]
    rw [ee]
    have hT := text_c (l ++ [1]) b (by omega) (by simp; omega)
    rw [if_pos (show b.length ≤ 1048576 by omega)] at hT
    refine acalls_of tok dok (f := 34) ⟨Try.func34, rfl, by kernel_rfl⟩ ?_; refine c_start (fun _ h => h) ?_
    refine awd ?_
    refine cal [0, 1] (byte_c l 1 (by omega)) ?_ ?_
    · refine ret1 ?_; first | (refine akc ?_) | (refine aec ?_)
      refine awd ?_
      refine cal [0, 1] (hT) ?_ ?_
      · refine ret1 ?_; first | (refine akc ?_) | (refine aec ?_)
        refine awd ?_
        exact e_ret (H' := wr (l ++ [1] ++ (be b.length 4 ++ b))) (rest := _) rfl ⟨rfl, rfl⟩ (.of_eq rfl) (Nat.le_of_ble_eq_true rfl)
      · first | (exact retN) | (exact retP)
    · first | (exact retN) | (exact retP)
  · simp only at h1 h2 h3
    subst h1 h2
    have ee : l ++ encV ⟨2, [], n⟩ = l ++ [2] ++ be (canonB n) 8 := by simp [encV]
    rw [ee]
    refine acalls_of tok dok (f := 34) ⟨Try.func34, rfl, by kernel_rfl⟩ ?_; refine c_start (fun _ h => h) ?_
    refine awd ?_
    refine cal [0, 1] (byte_c l 2 (by omega)) ?_ ?_
    · refine ret1 ?_; first | (refine akc ?_) | (refine aec ?_)
      refine awd ?_
      refine cal [0, 1] (float_c (l ++ [2]) n h3 (by simp; omega)) ?_ ?_
      · refine ret1 ?_; first | (refine akc ?_) | (refine aec ?_)
        refine awd ?_
        exact e_ret (H' := wr (l ++ [2] ++ be (canonB n) 8)) (rest := _) rfl ⟨rfl, rfl⟩ (.of_eq rfl) (Nat.le_of_ble_eq_true rfl)
      · first | (exact retN) | (exact retP)
    · first | (exact retN) | (exact retP)
theorem get_c (v : Va) (hv : VOk v) (r : List UInt8) (hr : r.length < 1000) : ACalls Try.prog 38 1 20 [.ptr 0 0] (rd (encV v ++ r)) (fun out H' => out = .ret (vav (canV v)) ∧ H' = rd r) := by
  obtain ⟨kd, b, n⟩ := v
  rcases hv with ⟨h1, h2, h3⟩ | ⟨h1, h2, h3⟩
  · simp only at h1 h2 h3
    subst h1 h2
    have e1 : encV ⟨1, b, 0⟩ ++ r = 1 :: (be b.length 4 ++ (b ++ r)) := by simp [encV]
    have e2 : canV ⟨1, b, 0⟩ = ⟨1, b, 0⟩ := rfl
    rw [e1, e2]
    have hC := rByte_c (1 :: (be b.length 4 ++ (b ++ r))) (by simp [be_len]; omega)
    rw [show ubn ((1 :: (be b.length 4 ++ (b ++ r))).take 1) 0 = 1 by simp [ubn], show (1 :: (be b.length 4 ++ (b ++ r))).drop 1 = be b.length 4 ++ (b ++ r) by simp] at hC
    have hT := rText_c (be b.length 4 ++ (b ++ r)) 16 (by simp [be_len]; omega)
    have hf : tOk (be b.length 4 ++ (b ++ r)) 16 := by
      refine ⟨by simp [be_len], ?_, fun h => ?_, ?_⟩
      · rw [back_be _ 4 _ (by omega)]; omega
      · rw [back_be _ 4 _ (by omega)]; omega
      · rw [back_be _ 4 _ (by omega), drop_be]; simp
    rw [back_be _ 4 _ (by omega), drop_be, List.take_append_of_le_length (Nat.le_refl _), List.take_length, List.drop_append_of_le_length (Nat.le_refl _), List.drop_length, List.nil_append] at hT
    refine acalls_of tok dok (f := 38) ⟨Try.func38, rfl, by kernel_rfl⟩ ?_; refine c_start (fun _ h => h) ?_
    refine awd ?_
    refine cal [0] (hC) ?_ ?_
    · intro x H' h; rcases h with ⟨hg, h1, h2⟩ | ⟨hg, h1, h2⟩ <;> first | (cases h1; done) | (cases h1; subst h2)
      first | (refine akc ?_) | (refine aec ?_)
      refine awd ?_
      refine cal [0] (hT) ?_ ?_
      · intro x H' h; rcases h with ⟨hg, h1, h2⟩ | ⟨hg, h1, h2⟩ <;> first | (cases h1; done) | (cases h1; subst h2)
        first | (refine akc ?_) | (refine aec ?_)
        refine awd ?_
        exact e_ret (H' := rd r) (rest := _) rfl ⟨rfl, rfl⟩ (.of_eq rfl) (Nat.le_of_ble_eq_true rfl)
      · intro x H' h; rcases h with ⟨hg, h1, h2⟩ | ⟨hg, h1, h2⟩ <;> first | (cases h1; done) | (cases h1; subst h2)
        exact (hg hf).elim
    · intro x H' h; rcases h with ⟨hg, h1, h2⟩ | ⟨hg, h1, h2⟩ <;> first | (cases h1; done) | (cases h1; subst h2)
      exact absurd hg (by simp)
  · simp only at h1 h2 h3
    subst h1 h2
    have e1 : encV ⟨2, [], n⟩ ++ r = 2 :: (be (canonB n) 8 ++ r) := rfl
    have e2 : canV ⟨2, [], n⟩ = ⟨2, [], canonB n⟩ := rfl
    rw [e1, e2]
    have hb : canonB n < 256 ^ 8 := by
      unfold canonB
      split
      · decide
      · exact h3
    have hC := rByte_c (2 :: (be (canonB n) 8 ++ r)) (by simp [be_len]; omega)
    rw [show ubn ((2 :: (be (canonB n) 8 ++ r)).take 1) 0 = 2 by simp [ubn], show (2 :: (be (canonB n) 8 ++ r)).drop 1 = be (canonB n) 8 ++ r by simp] at hC
    have hT := rFloat_c (be (canonB n) 8 ++ r) (by simp [be_len]; omega)
    have hf : fOk (be (canonB n) 8 ++ r) := ⟨by simp [be_len], by rw [back_be _ 8 _ hb, canonB_idem]⟩
    rw [back_be _ 8 _ hb, drop_be] at hT
    refine acalls_of tok dok (f := 38) ⟨Try.func38, rfl, by kernel_rfl⟩ ?_; refine c_start (fun _ h => h) ?_
    refine awd ?_
    refine cal [0] (hC) ?_ ?_
    · intro x H' h; rcases h with ⟨hg, h1, h2⟩ | ⟨hg, h1, h2⟩ <;> first | (cases h1; done) | (cases h1; subst h2)
      first | (refine akc ?_) | (refine aec ?_)
      refine awd ?_
      refine cal [0] (hT) ?_ ?_
      · intro x H' h; rcases h with ⟨hg, h1, h2⟩ | ⟨hg, h1, h2⟩ <;> first | (cases h1; done) | (cases h1; subst h2)
        first | (refine akc ?_) | (refine aec ?_)
        refine awd ?_
        exact e_ret_to (H' := rd r) (rest := _) (.wk (.refl _) (.cons (.refl _) (.cons (.refl _) (.cons (.box _ (.cons (.refl _) (.cons (.free _ _) (.cons (.refl _) .nil)))) (.refl _))))) rfl ⟨rfl, rfl⟩ (.of_eq rfl) (Nat.le_of_ble_eq_true rfl)
      · intro x H' h; rcases h with ⟨hg, h1, h2⟩ | ⟨hg, h1, h2⟩ <;> first | (cases h1; done) | (cases h1; subst h2)
        exact (hg hf).elim
    · intro x H' h; rcases h with ⟨hg, h1, h2⟩ | ⟨hg, h1, h2⟩ <;> first | (cases h1; done) | (cases h1; subst h2)
      exact absurd hg (by simp)
theorem kinds_ok {p q : Va} (hp : VOk p) (hq : VOk q) : (p.kind == q.kind || ((ordV p q == -1) == (p.kind == 1))) = true := by
  have h : ∀ v : Va, VOk v → (canV v).kind = v.kind := fun v hv => by
    unfold canV
    rcases hv with h | h
    · rw [if_pos h.1]; exact h.1.symm
    · rw [if_neg (by omega), if_pos h.1]; exact h.1.symm
  by_cases e : p.kind = q.kind
  · rw [e, beq_self_eq_true]; rfl
  · have ho : ordV p q = cmpZ p.kind q.kind := by
      unfold ordV ordV0
      rw [h p hp, h q hq, if_pos e]
    rw [ho]
    rcases hp with hp | hp <;> rcases hq with hq | hq
    · exact absurd (hp.1.trans hq.1.symm) e
    · rw [hp.1, hq.1]; decide
    · rw [hp.1, hq.1]; decide
    · exact absurd (hp.1.trans hq.1.symm) e
def vbH (a b : Va) : Heap := [(0, .box (vrowV a)), (1, .box (vrowV b))]
def vb0 : Heap := [(0, .box [.v (.int .i64 0), .list [] .full, .v (.float .f64 0)]), (1, .box [.v (.int .i64 0), .list [] .full, .v (.float .f64 0)])]
theorem vback1_c (p q : Va) (hp : VOk p) (hq : VOk q) : ACalls Try.prog 37 3 60 [.ptr 2 0, .ptr 0 0, .ptr 1 0] ((2, .box [.list ((encV p ++ encV q).map brow) .free]) :: vb0) (cbR 2 (fun l' H' => l' = [] ∧ H' = vbH (canV p) (canV q)) fun _ => False) := by
  have lp := encV_len hp
  have lq := encV_len hq
  have g1 := get_c p hp (encV q) (by omega)
  have g2 := get_c q hq [] (by decide)
  rw [List.append_nil] at g2
  generalize canV p = x at *
  generalize canV q = y at *
  refine acalls_of tok dok (f := 37) ⟨Try.func37, rfl, by kernel_rfl⟩ ?_; refine c_start (fun _ h => h) ?_
  refine awd ?_
  refine cal [2] (g1) ?_ ?_
  · refine ret1 ?_; first | (refine akc ?_) | (refine aec ?_)
    refine awd ?_
    refine cal [2] (g2) ?_ ?_
    · refine ret1 ?_; first | (refine akc ?_) | (refine aec ?_)
      refine awd ?_
      exact e_ret (H' := (2, .box [.list (([] : List UInt8).map brow) .free]) :: vbH x y) (rest := []) rfl (.inl ⟨_, [], vbH x y, ⟨rfl, rfl⟩, rfl, rfl⟩) (.of_eq rfl) (Nat.le_of_ble_eq_true rfl)
    · first | (exact retN) | (exact retP)
  · first | (exact retN) | (exact retP)
def vbSt (p q : Va) : ASt := ⟨List.replicate 5 .dead ++ [.ptr 2 0, .ptr 3 0] ++ List.replicate 73 .dead, [(3, .box (vrowV q)), (2, .box (vrowV p))], 40⟩
set_option maxHeartbeats 3200000 in
theorem vback_c (t0 t1 : Bool) (n0 n1 : Int) (x0 x1 : Nat) (b0 b1 : List UInt8) (h0 : (-9223372036854775808 ≤ n0 ∧ n0 ≤ 9223372036854775807) ∧ x0 < 18446744073709551616) (h1 : (-9223372036854775808 ≤ n1 ∧ n1 ≤ 9223372036854775807) ∧ x1 < 18446744073709551616) :
    ACalls Try.prog 10 0 5000 [dvav t0 n0 x0 b0, dvav t1 n1 x1 b1] [] (fun out H' => out = .ret (.v (.bool true)) ∧ H' = []) := by
  refine acalls_of tok dok (f := 10) ⟨Try.func10, rfl, by kernel_rfl⟩ ?_; refine c_start (fun _ h => h) ?_
  repeat' (first | ((with_reducible refine is_aops ?_); first | (refine o_op rfl ?_) | (refine o_yes rfl rfl rfl ?_) | (refine o_no rfl rfl rfl (fun _ h => h) ?_) | (refine o_not rfl rfl rfl (fun _ h => h) ?_)) | ((with_reducible refine is_opK ?_); first | (refine k_op' (fun _ h => h) ?_)) | ((with_reducible refine is_aop ?_); first | (refine a_q1 rfl (fun _ h => h) ?_) | (refine a_box rfl (fun _ h => h) ?_) | (refine a_alloc rfl (fun _ h => h) ?_) | (refine a_storev rfl (fun _ h => h) ?_) | (refine a_store rfl (fun _ h => h) ?_) | (refine a_panic rfl rfl ?_)) | ((with_reducible refine is_aop ?_); refine a_qS rfl (qIx (fun _ h => h)) (by assumption) ?_) | (with_reducible refine o_nil ?_) | fail)
  refine c_seq ?_
  refine c_region ?_
  repeat' (first | ((with_reducible refine is_aops ?_); first | (refine o_op rfl ?_) | (refine o_yes rfl rfl rfl ?_) | (refine o_no rfl rfl rfl (fun _ h => h) ?_) | (refine o_not rfl rfl rfl (fun _ h => h) ?_)) | ((with_reducible refine is_opK ?_); first | (refine k_op' (fun _ h => h) ?_)) | ((with_reducible refine is_aop ?_); first | (refine a_q1 rfl (fun _ h => h) ?_) | (refine a_box rfl (fun _ h => h) ?_) | (refine a_alloc rfl (fun _ h => h) ?_) | (refine a_storev rfl (fun _ h => h) ?_) | (refine a_store rfl (fun _ h => h) ?_) | (refine a_panic rfl rfl ?_)) | ((with_reducible refine is_aop ?_); refine a_qS rfl (qIx (fun _ h => h)) (by assumption) ?_) | (with_reducible refine o_nil ?_) | fail)
  refine k_seq ?_
  refine c_seq ?_
  refine c_cutx (fun (p : Va × Va) (_ : Unit) => vbSt p.1 p.2) (fun p _ => VOk p.1 ∧ VOk p.2) ?_ ?_
  · rintro ⟨p, q⟩ _ ⟨hp, hq⟩
    simp only at hp hq
    have lp := encV_len hp
    have lq := encV_len hq
    have lab := order_c p q hp.len hq.len
    have lba := order_c q p hq.len hp.len
    have sab := same3_c p q hp.len hq.len
    have sa := same3_c (canV p) p (canV_len p hp.len) hp.len
    have sb := same3_c (canV q) q (canV_len q hq.len) hq.len
    have e1 : ordV (canV p) p = 0 := by unfold ordV; rw [canV_idem]; exact ord0_refl _
    have e2 : ordV (canV q) q = 0 := by unfold ordV; rw [canV_idem]; exact ord0_refl _
    rw [e1, show ((0 : Int) == 0) = true from rfl] at sa
    rw [e2, show ((0 : Int) == 0) = true from rfl] at sb
    have hk := kinds_ok hp hq
    have p4 : ordV p q = 0 - ordV q p := ord0_anti _ _
    have p5 : -1 ≤ ordV q p ∧ ordV q p ≤ 1 := ord0_bd _ _
    generalize ordV p q = oab at *
    generalize ordV q p = oba at *
    refine c_turn (n' := 40) (fun _ h => h) (fun _ h => h) rfl ?_
    refine awd ?_
    refine cal [] (new_c) ?_ ?_
    · refine ret1 ?_; first | (refine akc ?_) | (refine aec ?_)
      refine awd ?_
      refine cal [40, 41] (put_c p hp [] (by decide)) ?_ ?_
      · refine ret1 ?_; first | (refine akc ?_) | (refine aec ?_)
        refine awd ?_
        refine cal [40, 41] (put_c q hq ([] ++ encV p) (by simp; omega)) ?_ ?_
        · refine ret1 ?_; first | (refine akc ?_) | (refine aec ?_)
          refine awd ?_
          refine cal [40, 41] (done_c ([] ++ encV p ++ encV q) (by simp; omega)) ?_ ?_
          · refine ret1 ?_; first | (refine akc ?_) | (refine aec ?_)
            rw [List.nil_append]
            refine awd ?_
            refine calw [58, 59] (read_c (m := 2) (cap := [.ptr 0 0, .ptr 1 0]) (H1 := vb0) (by decide) (vback1_c p q hp hq) (fun f hf => by simp [AV.renL, AV.ren, hf]) (fun f hf => by simp [renH, Res.ren, AV.renL, AV.ren, hf, vb0, Own.ren]) (fun l' H h f hf => by rw [h.2]; simp [renH, Res.ren, AV.renL, AV.ren, hf, vbH, vrowV, Own.ren]) (fun _ h => h.elim)) ?_ ?_
            · intro x H' h
              rcases h with ⟨l', ⟨rfl, rfl⟩, h1⟩ | ⟨h1, _⟩
              · cases h1
                refine akc ?_
                refine awd ?_
                refine cal [] (sa) ?_ ?_
                · refine ret1 ?_; first | (refine akc ?_) | (refine aec ?_)
                  refine awd ?_
                  refine cal [] (sb) ?_ ?_
                  · refine ret1 ?_; first | (refine akc ?_) | (refine aec ?_)
                    refine awd ?_
                    generalize (p.kind == q.kind) = kb at hk ⊢
                    cases kb
                    · have hk2 : ((oab == -1) == (p.kind == 1)) = true := by simpa using hk
                      refine awd ?_
                      refine cal [] (lab) ?_ ?_
                      · refine ret1 ?_; first | (refine akc ?_) | (refine aec ?_)
                        refine awd ?_
                        rw [hk2]
                        refine awd ?_
                        refine cal [] (lab) ?_ ?_
                        · refine ret1 ?_; first | (refine akc ?_) | (refine aec ?_)
                          refine awd ?_
                          refine cal [] (lba) ?_ ?_
                          · refine ret1 ?_; first | (refine akc ?_) | (refine aec ?_)
                            refine awd ?_
                            rw [z64 (n := 0 - oba) (by omega) (by omega), ← p4, show (oab == oab) = true from beq_self_eq_true oab]
                            refine awd ?_
                            refine cal [] (lab) ?_ ?_
                            · refine ret1 ?_; first | (refine akc ?_) | (refine aec ?_)
                              refine awd ?_
                              refine cal [] (sab) ?_ ?_
                              · refine ret1 ?_; first | (refine akc ?_) | (refine aec ?_)
                                refine awd ?_
                                rw [show ((oab == 0) == (oab == 0)) = true from beq_self_eq_true _]
                                refine awd ?_
                                refine cal [] (known3_c) ?_ ?_
                                · refine ret1 ?_; first | (refine akc ?_) | (refine aec ?_)
                                  refine awd ?_
                                  exact e_ret (H' := []) (rest := _) rfl ⟨rfl, rfl⟩ (.refl _) (Nat.le_of_ble_eq_true rfl)
                                · first | (exact retN) | (exact retP)
                              · first | (exact retN) | (exact retP)
                            · first | (exact retN) | (exact retP)
                          · first | (exact retN) | (exact retP)
                        · first | (exact retN) | (exact retP)
                      · first | (exact retN) | (exact retP)
                    · refine awd ?_
                      refine cal [] (lab) ?_ ?_
                      · refine ret1 ?_; first | (refine akc ?_) | (refine aec ?_)
                        refine awd ?_
                        refine cal [] (lba) ?_ ?_
                        · refine ret1 ?_; first | (refine akc ?_) | (refine aec ?_)
                          refine awd ?_
                          rw [z64 (n := 0 - oba) (by omega) (by omega), ← p4, show (oab == oab) = true from beq_self_eq_true oab]
                          refine awd ?_
                          refine cal [] (lab) ?_ ?_
                          · refine ret1 ?_; first | (refine akc ?_) | (refine aec ?_)
                            refine awd ?_
                            refine cal [] (sab) ?_ ?_
                            · refine ret1 ?_; first | (refine akc ?_) | (refine aec ?_)
                              refine awd ?_
                              rw [show ((oab == 0) == (oab == 0)) = true from beq_self_eq_true _]
                              refine awd ?_
                              refine cal [] (known3_c) ?_ ?_
                              · refine ret1 ?_; first | (refine akc ?_) | (refine aec ?_)
                                refine awd ?_
                                exact e_ret (H' := []) (rest := _) rfl ⟨rfl, rfl⟩ (.refl _) (Nat.le_of_ble_eq_true rfl)
                              · first | (exact retN) | (exact retP)
                            · first | (exact retN) | (exact retP)
                          · first | (exact retN) | (exact retP)
                        · first | (exact retN) | (exact retP)
                      · first | (exact retN) | (exact retP)
                  · first | (exact retN) | (exact retP)
                · first | (exact retN) | (exact retP)
              · exact h1.elim
            · intro x H' h
              rcases h with ⟨l', _, h1⟩ | ⟨_, h1⟩ <;> cases h1
          · first | (exact retN) | (exact retP)
        · first | (exact retN) | (exact retP)
      · first | (exact retN) | (exact retP)
    · first | (exact retN) | (exact retP)
  · intro Kx kN kP kR kE
    refine awd ?_
    refine cal [] (vmade_c t0 n0 x0 b0 h0.1.1 h0.1.2 h0.2) ?_ ?_
    · intro x H' h
      obtain ⟨a, ha, h', rfl⟩ := h
      cases h'
      first | (refine akc ?_) | (refine aec ?_)
      refine awd ?_
      refine cal [] (vmade_c t1 n1 x1 b1 h1.1.1 h1.1.2 h1.2) ?_ ?_
      · intro x H' h
        obtain ⟨b, hb, h', rfl⟩ := h
        cases h'
        first | (refine akc ?_) | (refine aec ?_)
        refine awd ?_
        refine kN (a, b) () _ _ _ ⟨ha, hb⟩ (.to [(1, .box [.v (.bool t1), .v (.int .i64 n1), .v (.float .f64 x1), .list (b1.map brow) .free]), (0, .box [.v (.bool t0), .v (.int .i64 n0), .v (.float .f64 x0), .list (b0.map brow) .free])] ?_ (.of_eq rfl) (Nat.le_of_ble_eq_true rfl))
        unfold vbSt
        (repeat' (first | (with_reducible exact .nil) | (refine .cons ?_ ?_) | (exact Wk.dead _) | (with_reducible exact Wk.refl _) | (exact WkL.nil))) <;> first | (exact Wk.eq rfl) | (exact Wk.int (w64 (by omega) (by omega))) | (exact Wk.int (by simp)) | (exact Wk.int (by simp; omega)) | (exact Wk.eq (by simp))
      · intro x H' h; obtain ⟨_, _, h1, _⟩ := h; cases h1
    · intro x H' h; obtain ⟨_, _, h1, _⟩ := h; cases h1
end Go.Proofs.Ytdfnepbhgifkkaa
