/- ValueOrders, by contracts. -/
import Derived.Test.YtdfnepbhgifkkaaVb

namespace Go.Proofs.Ytdfnepbhgifkkaa
open Go.Am
set_option linter.unusedSimpArgs false
set_option linter.unusedVariables false
set_option maxRecDepth 100000
theorem cmpZ_anti (a b : Int) : cmpZ a b = 0 - cmpZ b a := by unfold cmpZ; repeat' split <;> omega
theorem cmpZ_refl (a : Int) : cmpZ a a = 0 := by unfold cmpZ; repeat' split <;> omega
theorem cmpZ_le (a b : Int) : cmpZ a b ≤ 0 ↔ a ≤ b := by unfold cmpZ; repeat' split <;> omega
theorem cmpZ_bd (a b : Int) : -1 ≤ cmpZ a b ∧ cmpZ a b ≤ 1 := by unfold cmpZ; repeat' split <;> omega
theorem cb_refl : ∀ a : List UInt8, Lib.compareBytes a a = 0
  | [] => rfl
  | x :: a => by
    unfold Lib.compareBytes
    rw [if_neg (by simp), if_neg (by simp)]; exact cb_refl a
theorem cb_anti : ∀ a b : List UInt8, Lib.compareBytes a b = 0 - Lib.compareBytes b a
  | [], [] => rfl
  | [], _ :: _ => rfl
  | _ :: _, [] => rfl
  | x :: a, y :: b => by
    unfold Lib.compareBytes
    have h := cb_anti a b
    simp only [UInt8.lt_iff_toNat_lt]
    repeat' split <;> omega
theorem cb_bd : ∀ a b : List UInt8, -1 ≤ Lib.compareBytes a b ∧ Lib.compareBytes a b ≤ 1
  | [], [] => by decide
  | [], _ :: _ => ⟨Int.le_refl (-1), (by decide : (-1 : Int) ≤ 1)⟩
  | _ :: _, [] => ⟨(by decide : (-1 : Int) ≤ 1), Int.le_refl 1⟩
  | x :: a, y :: b => by
    unfold Lib.compareBytes
    have h := cb_bd a b
    repeat' split <;> omega
theorem cb_tr : ∀ a b c : List UInt8, Lib.compareBytes a b ≤ 0 → Lib.compareBytes b c ≤ 0 → Lib.compareBytes a c ≤ 0
  | [], [], c, _, h => h
  | [], _ :: _, [], _, _ => Int.le_refl _
  | [], _ :: _, _ :: _, _, _ => by show (-1 : Int) ≤ 0; decide
  | _ :: _, [], _, h, _ => by exfalso; revert h; show ¬ (1 : Int) ≤ 0; decide
  | _ :: _, _ :: _, [], _, h => by exfalso; revert h; show ¬ (1 : Int) ≤ 0; decide
  | x :: a, y :: b, z :: c, h1, h2 => by
    unfold Lib.compareBytes at *
    have h := cb_tr a b c
    simp only [UInt8.lt_iff_toNat_lt] at *
    repeat' split
    all_goals (repeat' split at h1)
    all_goals (repeat' split at h2)
    all_goals first | omega | (exact h h1 h2) | skip
theorem ord0_anti (x y : Va) : ordV0 x y = 0 - ordV0 y x := by
  unfold ordV0
  by_cases h : x.kind = y.kind
  · rw [if_neg (show ¬ x.kind ≠ y.kind from fun k => k h), if_neg (show ¬ y.kind ≠ x.kind from fun k => k h.symm), h]
    by_cases k1 : y.kind = 1
    · rw [if_pos k1, if_pos k1]; exact cb_anti _ _
    · rw [if_neg k1, if_neg k1]
      by_cases k2 : y.kind = 2
      · rw [if_pos k2, if_pos k2]; exact cmpZ_anti _ _
      · rw [if_neg k2, if_neg k2]; rfl
  · rw [if_pos (by omega), if_pos (by omega)]; exact cmpZ_anti _ _
theorem ord0_refl (x : Va) : ordV0 x x = 0 := by
  unfold ordV0
  rw [if_neg (by omega)]
  split
  · exact cb_refl _
  · split
    · exact cmpZ_refl _
    · rfl
theorem ord0_bd (x y : Va) : -1 ≤ ordV0 x y ∧ ordV0 x y ≤ 1 := by
  unfold ordV0
  split
  · exact cmpZ_bd _ _
  · split
    · exact cb_bd _ _
    · split
      · exact cmpZ_bd _ _
      · decide
theorem ord0_tr (x y z : Va) (h1 : ordV0 x y ≤ 0) (h2 : ordV0 y z ≤ 0) : ordV0 x z ≤ 0 := by
  unfold ordV0 at *
  by_cases e1 : x.kind = y.kind
  · rw [if_neg (by omega)] at h1
    by_cases e2 : y.kind = z.kind
    · rw [if_neg (by omega)] at h2
      rw [if_neg (by omega)]
      rw [← e1] at h2
      split at h1
      · rename_i hk
        rw [if_pos hk] at h2 ⊢
        exact cb_tr _ _ _ h1 h2
      · rename_i hk
        rw [if_neg hk] at h2 ⊢
        split at h1
        · rename_i hk2
          rw [if_pos hk2] at h2 ⊢
          rw [cmpZ_le] at *
          omega
        · rename_i hk2
          rw [if_neg hk2]; exact Int.le_refl _
    · rw [if_pos (by omega)] at h2
      rw [if_pos (by omega), e1]; exact h2
  · rw [if_pos (by omega)] at h1
    by_cases e2 : y.kind = z.kind
    · rw [if_pos (by omega), ← e2]; exact h1
    · rw [if_pos (by omega)] at h2
      rw [cmpZ_le] at h1 h2
      rw [if_pos (by omega), cmpZ_le]
      omega
theorem canonB_idem (n : Nat) : canonB (canonB n) = canonB n := by
  unfold canonB
  have e : nanB 9221120237041090561 = true := by kernel_rfl
  cases h : nanB n
  · simp [h]
  · simp [e]
theorem canV_idem (v : Va) : canV (canV v) = canV v := by
  unfold canV
  split
  · rfl
  · split
    · show (⟨2, [], canonB (canonB v.n)⟩ : Va) = _
      rw [canonB_idem]
    · rfl
theorem ord_can (v : Va) : ordV v (canV v) = 0 := by
  unfold ordV
  rw [canV_idem]; exact ord0_refl _
/-- an argument as it is drawn -/
def dvav (tx : Bool) (n : Int) (x : Nat) (b : List UInt8) : AV := .agg [.v (.bool tx), .v (.int .i64 n), .v (.float .f64 x), .list (b.map brow) .free]
def valSt (a b c : Va) : ASt := ⟨List.replicate 7 .dead ++ [.ptr 3 0, .ptr 4 0, .ptr 5 0] ++ List.replicate 55 .dead, [(5, .box (vrowV c)), (4, .box (vrowV b)), (3, .box (vrowV a))], 40⟩
def valSt' (a b c : Va) : ASt := ⟨List.replicate 7 .dead ++ [.ptr 3 0, .ptr 4 0, .ptr 5 0] ++ List.replicate 55 .dead, [(5, .box (vrowV c)), (4, .box (vrowV b)), (3, .box (vrowV a))], 1000⟩
set_option maxHeartbeats 3200000 in
theorem orders_c (t0 t1 t2 : Bool) (n0 n1 n2 : Int) (x0 x1 x2 : Nat) (b0 b1 b2 : List UInt8) (h0 : (-9223372036854775808 ≤ n0 ∧ n0 ≤ 9223372036854775807) ∧ x0 < 18446744073709551616) (h1 : (-9223372036854775808 ≤ n1 ∧ n1 ≤ 9223372036854775807) ∧ x1 < 18446744073709551616) (h2 : (-9223372036854775808 ≤ n2 ∧ n2 ≤ 9223372036854775807) ∧ x2 < 18446744073709551616) :
    ACalls Try.prog 3 0 5000 [dvav t0 n0 x0 b0, dvav t1 n1 x1 b1, dvav t2 n2 x2 b2] [] (fun out H' => out = .ret (.v (.bool true)) ∧ H' = []) := by
  refine acalls_of tok dok (f := 3) ⟨Try.func3, rfl, by kernel_rfl⟩ ?_; refine c_start (fun _ h => h) ?_
  repeat' (first | ((with_reducible refine is_aops ?_); first | (refine o_op rfl ?_) | (refine o_yes rfl rfl rfl ?_) | (refine o_no rfl rfl rfl (fun _ h => h) ?_) | (refine o_not rfl rfl rfl (fun _ h => h) ?_)) | ((with_reducible refine is_opK ?_); first | (refine k_op' (fun _ h => h) ?_)) | ((with_reducible refine is_aop ?_); first | (refine a_q1 rfl (fun _ h => h) ?_) | (refine a_box rfl (fun _ h => h) ?_) | (refine a_alloc rfl (fun _ h => h) ?_) | (refine a_storev rfl (fun _ h => h) ?_) | (refine a_store rfl (fun _ h => h) ?_) | (refine a_panic rfl rfl ?_)) | ((with_reducible refine is_aop ?_); refine a_qS rfl (qIx (fun _ h => h)) (by assumption) ?_) | (with_reducible refine o_nil ?_) | fail)
  refine c_seq ?_
  refine c_region ?_
  repeat' (first | ((with_reducible refine is_aops ?_); first | (refine o_op rfl ?_) | (refine o_yes rfl rfl rfl ?_) | (refine o_no rfl rfl rfl (fun _ h => h) ?_) | (refine o_not rfl rfl rfl (fun _ h => h) ?_)) | ((with_reducible refine is_opK ?_); first | (refine k_op' (fun _ h => h) ?_)) | ((with_reducible refine is_aop ?_); first | (refine a_q1 rfl (fun _ h => h) ?_) | (refine a_box rfl (fun _ h => h) ?_) | (refine a_alloc rfl (fun _ h => h) ?_) | (refine a_storev rfl (fun _ h => h) ?_) | (refine a_store rfl (fun _ h => h) ?_) | (refine a_panic rfl rfl ?_)) | ((with_reducible refine is_aop ?_); refine a_qS rfl (qIx (fun _ h => h)) (by assumption) ?_) | (with_reducible refine o_nil ?_) | fail)
  refine k_seq ?_
  refine c_seq ?_
  refine c_cutx (fun (p : Va × Va × Va) (_ : Unit) => valSt p.1 p.2.1 p.2.2) (fun p _ => VOk p.1 ∧ VOk p.2.1 ∧ VOk p.2.2) ?_ ?_
  · rintro ⟨a, b, c⟩ _ ⟨ha, hb, hc0⟩
    simp only at ha hb hc0
    have lab := order_c a b ha.len hb.len
    have lbc := order_c b c hb.len hc0.len
    have lac := order_c a c ha.len hc0.len
    have laa := order_c a a ha.len ha.len
    have lba := order_c b a hb.len ha.len
    have sab := same3_c a b ha.len hb.len
    have sac := same3_c a (canV a) ha.len (canV_len a ha.len)
    have cna := canonv_c a ha.len
    have p1 := ord0_tr (canV a) (canV b) (canV c)
    have p2 : ordV a a = 0 := ord0_refl _
    have p3 := ord_can a
    have p4 : ordV a b = 0 - ordV b a := ord0_anti _ _
    have p5 : -1 ≤ ordV b a ∧ ordV b a ≤ 1 := ord0_bd _ _
    change ordV a b ≤ 0 → ordV b c ≤ 0 → ordV a c ≤ 0 at p1
    rw [p2] at laa
    rw [p3, show ((0 : Int) == 0) = true from rfl] at sac
    generalize ordV a b = oab at *
    generalize ordV b c = obc at *
    generalize ordV a c = oac at *
    generalize ordV b a = oba at *
    refine c_turn (n' := 40) (fun _ h => h) (fun _ h => h) rfl ?_
    refine c_seq ?_
    refine c_cutx (fun (_ : Unit) (_ : Unit) => valSt' a b c) (fun _ _ => True) ?_ ?_
    · rintro _ _ _
      refine c_turn (n' := 1000) (fun _ h => h) (fun _ h => h) rfl ?_
      refine awd ?_
      refine cal [] (laa) ?_ ?_
      · refine ret1 ?_; first | (refine akc ?_) | (refine aec ?_)
        refine awd ?_
        refine cal [] (cna) ?_ ?_
        · refine ret1 ?_; first | (refine akc ?_) | (refine aec ?_)
          refine awd ?_
          refine cal [] (sac) ?_ ?_
          · refine ret1 ?_; first | (refine akc ?_) | (refine aec ?_)
            refine awd ?_
            refine cal [] (lab) ?_ ?_
            · refine ret1 ?_; first | (refine akc ?_) | (refine aec ?_)
              refine awd ?_
              refine cal [] (lba) ?_ ?_
              · refine ret1 ?_; first | (refine akc ?_) | (refine aec ?_)
                refine awd ?_
                rw [z64 (n := 0 - oba) (by omega) (by omega), ← p4, show (oab == oab) = true from beq_self_eq_true oab]
                refine awd ?_
                refine cal [] (lab) ?_ ?_
                · refine ret1 ?_; first | (refine akc ?_) | (refine aec ?_)
                  refine awd ?_
                  refine cal [] (sab) ?_ ?_
                  · refine ret1 ?_; first | (refine akc ?_) | (refine aec ?_)
                    refine awd ?_

                    rw [show ((oab == 0) == (oab == 0)) = true from beq_self_eq_true _]
                    refine awd ?_
                    refine cal [] (known3_c) ?_ ?_
                    · refine ret1 ?_; first | (refine akc ?_) | (refine aec ?_)
                      refine awd ?_
                      exact e_ret (H' := []) (rest := _) rfl ⟨rfl, rfl⟩ (.refl _) (Nat.le_of_ble_eq_true rfl)
                    · first | (exact retN) | (exact retP)
                  · first | (exact retN) | (exact retP)
                · first | (exact retN) | (exact retP)
              · first | (exact retN) | (exact retP)
            · first | (exact retN) | (exact retP)
          · first | (exact retN) | (exact retP)
        · first | (exact retN) | (exact retP)
      · first | (exact retN) | (exact retP)
    · intro Kx kN kP kR kE
      refine awd ?_
      refine cal [] (lab) ?_ ?_
      · refine ret1 ?_; first | (refine akc ?_) | (refine aec ?_)
        repeat' (first | (refine awd1 ?_) | (((with_reducible refine is_aops ?_); refine o_split rfl rfl rfl (fun hc => ?_) (fun hc => ?_) <;> rw [hc])) | (((with_reducible refine is_cond ?_); refine c_cond rfl (fun hc => ?_) (fun hc => ?_))) | (((with_reducible refine is_aop ?_); refine a_pick rfl rfl (fun hc => ?_) (fun hc => ?_) <;> rw [hc])) | fail)
        · have c1 : oab ≤ 0 := by simpa using hc
          refine cal [] (lbc) ?_ ?_
          · refine ret1 ?_; first | (refine akc ?_) | (refine aec ?_)
            repeat' (first | (refine awd1 ?_) | (((with_reducible refine is_aops ?_); refine o_split rfl rfl rfl (fun hc => ?_) (fun hc => ?_) <;> rw [hc])) | (((with_reducible refine is_cond ?_); refine c_cond rfl (fun hc => ?_) (fun hc => ?_))) | (((with_reducible refine is_aop ?_); refine a_pick rfl rfl (fun hc => ?_) (fun hc => ?_) <;> rw [hc])) | fail)
            · have c2 : obc ≤ 0 := by simpa using hc
              refine cal [] (lac) ?_ ?_
              · refine ret1 ?_; first | (refine akc ?_) | (refine aec ?_)
                have c3 := p1 c1 c2
                refine awd ?_
                rw [show decide (oac > 0) = false by simp; omega]
                refine awd ?_
                refine kN () () _ _ _ trivial (.to [] ?_ (.of_eq rfl) (Nat.le_of_ble_eq_true rfl))
                unfold valSt'
                (repeat' (first | (with_reducible exact .nil) | (refine .cons ?_ ?_) | (exact Wk.dead _) | (with_reducible exact Wk.refl _) | (exact WkL.nil))) <;> first | (exact Wk.eq rfl) | (exact Wk.int (w64 (by omega) (by omega))) | (exact Wk.int (by simp)) | (exact Wk.int (by simp; omega)) | (exact Wk.eq (by simp))
              · first | (exact retN) | (exact retP)
            · refine kN () () _ _ _ trivial (.to [] ?_ (.of_eq rfl) (Nat.le_of_ble_eq_true rfl))
              unfold valSt'
              (repeat' (first | (with_reducible exact .nil) | (refine .cons ?_ ?_) | (exact Wk.dead _) | (with_reducible exact Wk.refl _) | (exact WkL.nil))) <;> first | (exact Wk.eq rfl) | (exact Wk.int (w64 (by omega) (by omega))) | (exact Wk.int (by simp)) | (exact Wk.int (by simp; omega)) | (exact Wk.eq (by simp))
          · first | (exact retN) | (exact retP)
        · refine kN () () _ _ _ trivial (.to [] ?_ (.of_eq rfl) (Nat.le_of_ble_eq_true rfl))
          unfold valSt'
          (repeat' (first | (with_reducible exact .nil) | (refine .cons ?_ ?_) | (exact Wk.dead _) | (with_reducible exact Wk.refl _) | (exact WkL.nil))) <;> first | (exact Wk.eq rfl) | (exact Wk.int (w64 (by omega) (by omega))) | (exact Wk.int (by simp)) | (exact Wk.int (by simp; omega)) | (exact Wk.eq (by simp))
      · first | (exact retN) | (exact retP)
  · intro Kx kN kP kR kE
    refine awd ?_
    refine cal [] (vmade_c t0 n0 x0 b0 h0.1.1 h0.1.2 h0.2) ?_ ?_
    · intro x H' h
      obtain ⟨a, ha, h', rfl⟩ := h
      cases h'
      first | (refine akc ?_) | (refine aec ?_)
      refine awd ?_
      refine cal [] (vmade_c t1 n1 x1 b1 h1.1.1 h1.1.2 h1.2) ?_ ?_
      · intro x H' h
        obtain ⟨b, hb, h', rfl⟩ := h
        cases h'
        first | (refine akc ?_) | (refine aec ?_)
        refine awd ?_
        refine cal [] (vmade_c t2 n2 x2 b2 h2.1.1 h2.1.2 h2.2) ?_ ?_
        · intro x H' h
          obtain ⟨c, hcc, h', rfl⟩ := h
          cases h'
          first | (refine akc ?_) | (refine aec ?_)
          refine awd ?_
          refine kN (a, b, c) () _ _ _ ⟨ha, hb, hcc⟩ (.to [(2, .box [.v (.bool t2), .v (.int .i64 n2), .v (.float .f64 x2), .list (b2.map brow) .free]), (1, .box [.v (.bool t1), .v (.int .i64 n1), .v (.float .f64 x1), .list (b1.map brow) .free]), (0, .box [.v (.bool t0), .v (.int .i64 n0), .v (.float .f64 x0), .list (b0.map brow) .free])] ?_ (.of_eq rfl) (Nat.le_of_ble_eq_true rfl))
          unfold valSt
          (repeat' (first | (with_reducible exact .nil) | (refine .cons ?_ ?_) | (exact Wk.dead _) | (with_reducible exact Wk.refl _) | (exact WkL.nil))) <;> first | (exact Wk.eq rfl) | (exact Wk.int (w64 (by omega) (by omega))) | (exact Wk.int (by simp)) | (exact Wk.int (by simp; omega)) | (exact Wk.eq (by simp))
        · intro x H' h; obtain ⟨_, _, h1, _⟩ := h; cases h1
      · intro x H' h; obtain ⟨_, _, h1, _⟩ := h; cases h1
    · intro x H' h; obtain ⟨_, _, h1, _⟩ := h; cases h1
end Go.Proofs.Ytdfnepbhgifkkaa
