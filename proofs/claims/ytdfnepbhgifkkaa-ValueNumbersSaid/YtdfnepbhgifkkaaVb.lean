/- Values (chapter 3): an order, by contracts. -/
import Derived.Test.YtdfnepbhgifkkaaVa
import Derived.Test.YtdfnepbhgifkkaaOcD

namespace Go.Proofs.Ytdfnepbhgifkkaa
open Go.Am
set_option linter.unusedSimpArgs false
set_option linter.unusedVariables false
set_option maxRecDepth 100000
theorem LeA.agg {l l' : List AV} (h : LeL l l') : LeA (.agg l) (.agg l') := fun G x hx => by
  obtain ⟨vs, rfl, h1, h2⟩ := Sim.agg_inv hx
  refine .agg _ _ (by rw [← h.len]; exact h1) fun i a ha => ?_
  obtain ⟨b, hb, hle⟩ := h.get i a ha
  exact hle _ _ (h2 i b hb)
/-- a value: its kind, its text, its number -/
structure Va where
  kind : Int
  b : List UInt8
  n : Nat
def vrowV (v : Va) : List AV := [.v (.int .i64 v.kind), .list (v.b.map brow) .free, .v (.float .f64 v.n)]
def vav (v : Va) : AV := .agg (vrowV v)
def canV (v : Va) : Va := if v.kind = 1 then ⟨1, v.b, 0⟩ else if v.kind = 2 then ⟨2, [], canonB v.n⟩ else ⟨0, [], 0⟩
def ordV0 (a b : Va) : Int := if a.kind ≠ b.kind then cmpZ a.kind b.kind else if a.kind = 1 then Lib.compareBytes a.b b.b else if a.kind = 2 then cmpZ (keyI a.n) (keyI b.n) else 0
def ordV (a b : Va) : Int := ordV0 (canV a) (canV b)
theorem canonv_c (v : Va) (h : v.b.length < 70368744177664) : ACalls Try.prog 14 0 10 [vav v] [] (fun out H' => out = .ret (vav (canV v)) ∧ H' = []) := by
  obtain ⟨kd, b, n⟩ := v
  refine acalls_of tok dok (f := 14) ⟨Try.func14, rfl, by kernel_rfl⟩ ?_; refine c_start (fun _ h => h) ?_
  repeat' (first | (refine awd1 ?_) | (((with_reducible refine is_aops ?_); refine o_split rfl rfl rfl (fun hc => ?_) (fun hc => ?_) <;> rw [hc])) | (((with_reducible refine is_cond ?_); refine c_cond rfl (fun hc => ?_) (fun hc => ?_))) | (((with_reducible refine is_aop ?_); refine a_pick rfl rfl (fun hc => ?_) (fun hc => ?_) <;> rw [hc])) | fail)
  · have hk : kd = 1 := by simpa using hc
    subst hk
    refine cal [] (clone_c (b.map brow) (brows b) (by rw [List.length_map]; exact h)) ?_ ?_
    · refine ret1 ?_; first | (refine akc ?_) | (refine aec ?_)
      refine awd ?_
      exact e_ret (H' := []) (rest := _) rfl ⟨rfl, rfl⟩ (.refl _) (Nat.le_of_ble_eq_true rfl)
    · first | (exact retN) | (exact retP)
  · have hk : kd = 2 := by simpa using hc
    subst hk
    refine cal [] (canon_c n) ?_ ?_
    · refine ret1 ?_; first | (refine akc ?_) | (refine aec ?_)
      refine awd ?_
      exact e_ret_to (H' := []) (.wk (.refl _) (.cons (.box _ (.cons (.refl _) (.cons (.free _ _) (.cons (.refl _) .nil)))) (.refl _))) rfl ⟨rfl, rfl⟩ (.refl _) (Nat.le_of_ble_eq_true rfl)
    · first | (exact retN) | (exact retP)
  · have hk1 : kd ≠ 1 := by rename_i hc1; simpa using hc1
    have hk2 : kd ≠ 2 := by simpa using hc
    refine e_ret_to (H' := []) (.wk (.refl _) (.cons (.box _ (.cons (.refl _) (.cons (.free _ _) (.cons (.refl _) .nil)))) (.refl _))) rfl ⟨?_, rfl⟩ (.refl _) (Nat.le_of_ble_eq_true rfl)
    unfold canV
    rw [if_neg hk1, if_neg hk2]
    rfl
theorem canV_len (v : Va) (h : v.b.length < 70368744177664) : (canV v).b.length < 70368744177664 := by
  unfold canV
  split
  · exact h
  · split <;> (show 0 < _; decide)
theorem order_c (a b : Va) (ha : a.b.length < 70368744177664) (hb : b.b.length < 70368744177664) : ACalls Try.prog 12 0 100 [vav a, vav b] [] (fun out H' => out = .ret (.v (.int .i64 (ordV a b))) ∧ H' = []) := by
  have ca := canonv_c a ha
  have cb := canonv_c b hb
  unfold ordV
  generalize canV a = x at *
  generalize canV b = y at *
  obtain ⟨k1, b1, n1⟩ := x
  obtain ⟨k2, b2, n2⟩ := y
  obtain ⟨ka, ba, na⟩ := a
  obtain ⟨kb, bb, nb⟩ := b
  refine acalls_of tok dok (f := 12) ⟨Try.func12, rfl, by kernel_rfl⟩ ?_; refine c_start (fun _ h => h) ?_
  refine awd ?_
  refine cal [] (ca) ?_ ?_
  · refine ret1 ?_; first | (refine akc ?_) | (refine aec ?_)
    refine awd ?_
    refine cal [] (cb) ?_ ?_
    · refine ret1 ?_; first | (refine akc ?_) | (refine aec ?_)
      repeat' (first | (refine awd1 ?_) | (((with_reducible refine is_aops ?_); refine o_split rfl rfl rfl (fun hc => ?_) (fun hc => ?_) <;> rw [hc])) | (((with_reducible refine is_cond ?_); refine c_cond rfl (fun hc => ?_) (fun hc => ?_))) | (((with_reducible refine is_aop ?_); refine a_pick rfl rfl (fun hc => ?_) (fun hc => ?_) <;> rw [hc])) | fail)
      · have hk : k1 ≠ k2 := by simpa using hc
        refine cal [] (cmpi_c k1 k2) ?_ ?_
        · refine ret1 ?_; first | (refine akc ?_) | (refine aec ?_)
          refine awd ?_
          exact e_ret (H' := []) (rest := _) rfl ⟨by unfold ordV0; rw [if_pos hk]; rfl, rfl⟩ (.refl _) (Nat.le_of_ble_eq_true rfl)
        · first | (exact retN) | (exact retP)
      · have hk : ¬ k1 ≠ k2 := by rename_i h1; simpa using h1
        have hk1 : k1 = 1 := by simpa using hc
        refine cal [] (bcmp_c b1 b2) ?_ ?_
        · refine ret1 ?_; first | (refine akc ?_) | (refine aec ?_)
          refine awd ?_
          exact e_ret (H' := []) (rest := _) rfl ⟨by unfold ordV0; rw [if_neg hk, if_pos hk1]; rfl, rfl⟩ (.refl _) (Nat.le_of_ble_eq_true rfl)
        · first | (exact retN) | (exact retP)
      · have hk : ¬ k1 ≠ k2 := by rename_i h1 _; simpa using h1
        have hk1 : ¬ k1 = 1 := by rename_i _ h1; simpa using h1
        have hk2 : k1 = 2 := by simpa using hc
        refine cal [] (norder_c n1 n2) ?_ ?_
        · refine ret1 ?_; first | (refine akc ?_) | (refine aec ?_)
          refine awd ?_
          exact e_ret (H' := []) (rest := _) rfl ⟨by unfold ordV0; rw [if_neg hk, if_neg hk1, if_pos hk2]; rfl, rfl⟩ (.refl _) (Nat.le_of_ble_eq_true rfl)
        · first | (exact retN) | (exact retP)
      · have hk : ¬ k1 ≠ k2 := by rename_i h1 _; simpa using h1
        have hk1 : ¬ k1 = 1 := by rename_i _ h1; simpa using h1
        have hk2 : ¬ k1 = 2 := by simpa using hc
        exact e_ret (H' := []) (rest := _) rfl ⟨by unfold ordV0; rw [if_neg hk, if_neg hk1, if_neg hk2]; rfl, rfl⟩ (.refl _) (Nat.le_of_ble_eq_true rfl)
    · first | (exact retN) | (exact retP)
  · first | (exact retN) | (exact retP)
theorem same3_c (a b : Va) (ha : a.b.length < 70368744177664) (hb : b.b.length < 70368744177664) : ACalls Try.prog 13 0 200 [vav a, vav b] [] (fun out H' => out = .ret (.v (.bool (ordV a b == 0))) ∧ H' = []) := by
  have cc := order_c a b ha hb
  obtain ⟨ka, ba, na⟩ := a
  obtain ⟨kb, bb, nb⟩ := b
  refine acalls_of tok dok (f := 13) ⟨Try.func13, rfl, by kernel_rfl⟩ ?_; refine c_start (fun _ h => h) ?_
  refine awd ?_
  refine cal [] (cc) ?_ ?_
  · refine ret1 ?_; first | (refine akc ?_) | (refine aec ?_)
    refine awd ?_
    exact e_ret (H' := []) (rest := _) rfl ⟨rfl, rfl⟩ (.refl _) (Nat.le_of_ble_eq_true rfl)
  · first | (exact retN) | (exact retP)
/-- one that may be -/
def VOk (v : Va) : Prop := (v.kind = 1 ∧ v.n = 0 ∧ v.b.length ≤ 16) ∨ (v.kind = 2 ∧ v.b = [] ∧ v.n < 18446744073709551616)
theorem VOk.len {v : Va} (h : VOk v) : v.b.length < 70368744177664 := by
  rcases h with h | h
  · omega
  · rw [h.2.1]; decide
theorem vmade_c (tx : Bool) (n : Int) (x : Nat) (b : List UInt8) (hn1 : -9223372036854775808 ≤ n) (hn2 : n ≤ 9223372036854775807) (hx : x < 18446744073709551616) : ACalls Try.prog 11 0 10 [.agg [.v (.bool tx), .v (.int .i64 n), .v (.float .f64 x), .list (b.map brow) .free]] [] (fun out H' => ∃ v, VOk v ∧ out = .ret (vav v) ∧ H' = []) := by
  refine acalls_of tok dok (f := 11) ⟨Try.func11, rfl, by kernel_rfl⟩ ?_; refine c_start (fun _ h => h) ?_
  repeat' (first | (refine awd1 ?_) | (((with_reducible refine is_aops ?_); refine o_split rfl rfl rfl (fun hc => ?_) (fun hc => ?_) <;> rw [hc])) | (((with_reducible refine is_cond ?_); refine c_cond rfl (fun hc => ?_) (fun hc => ?_))) | (((with_reducible refine is_aop ?_); refine a_pick rfl rfl (fun hc => ?_) (fun hc => ?_) <;> rw [hc])) | fail)
  · refine cal [] (cut_c b 16 (by decide)) ?_ ?_
    · refine ret1 ?_; first | (refine akc ?_) | (refine aec ?_)
      refine awd ?_
      refine e_ret (H' := []) (rest := _) rfl ⟨⟨1, b.take 16, 0⟩, .inl ⟨rfl, rfl, by simp; omega⟩, rfl, rfl⟩ (.refl _) (Nat.le_of_ble_eq_true rfl)
    · first | (exact retN) | (exact retP)
  · refine cal [] (flt_c n x hn1 hn2 hx) ?_ ?_
    · intro x H' h; obtain ⟨fb, hfb, h1, rfl⟩ := h; cases h1; first | (refine akc ?_) | (refine aec ?_)
      refine awd ?_
      exact e_ret_to (H' := []) (.wk (.refl _) (.cons (.box _ (.cons (.refl _) (.cons (.free _ _) (.cons (.refl _) .nil)))) (.refl _))) rfl ⟨⟨2, [], fb⟩, .inr ⟨rfl, rfl, hfb⟩, rfl, rfl⟩ (.refl _) (Nat.le_of_ble_eq_true rfl)
    · intro x H' h; obtain ⟨_, _, h1, _⟩ := h; cases h1
theorem vright_c (v : Va) : ACalls Try.prog 47 0 10 [vav v] [] (fun out H' => out = .ret (.v (.bool (v.kind == 1 && decide ((v.b.length : Int) ≤ 16) || v.kind == 2))) ∧ H' = []) := by
  obtain ⟨kd, b, n⟩ := v
  refine acalls_of tok dok (f := 47) ⟨Try.func47, rfl, by kernel_rfl⟩ ?_; refine c_start (fun _ h => h) ?_
  repeat' (first | (refine awd1 ?_) | (((with_reducible refine is_aops ?_); refine o_split rfl rfl rfl (fun hc => ?_) (fun hc => ?_) <;> rw [hc])) | (((with_reducible refine is_cond ?_); refine c_cond rfl (fun hc => ?_) (fun hc => ?_))) | (((with_reducible refine is_aop ?_); refine a_pick rfl rfl (fun hc => ?_) (fun hc => ?_) <;> rw [hc])) | fail)
  all_goals
    refine e_ret (H' := []) (rest := _) rfl ⟨congrArg (fun z => AOut.ret (.v (.bool z))) ?_, rfl⟩ (.refl _) (Nat.le_of_ble_eq_true rfl)
    simp only [List.length_map] at *
    simp_all
theorem sum3_c : ACalls Try.prog 84 0 0 [.v (.float .f64 4607182418800017408), .v (.float .f64 4611686018427387904)] [] (fun out H' => out = .ret (.v (.float .f64 4613937818241073152)) ∧ H' = []) := by
  refine acalls_of tok dok (f := 84) ⟨Try.func84, rfl, by kernel_rfl⟩ ?_; refine c_start (fun _ h => h) ?_
  refine awd ?_
  have hadd : FloatKind.f64.format.add 4607182418800017408 4611686018427387904 = some 4613937818241073152 := by kernel_rfl
  (with_reducible refine is_aop ?_)
  refine a_q1 rfl (qFallV (.float .f64 4613937818241073152) (fun _ h => h) (fun w => by simp [eqGuard, binOp, Op.floatArith, hadd])) ?_
  refine awd ?_
  refine cal [] (canon_c 4613937818241073152) ?_ ?_
  · refine ret1 ?_; first | (refine akc ?_) | (refine aec ?_)
    refine awd ?_
    exact e_ret (H' := []) (rest := _) rfl ⟨by rw [show canonB 4613937818241073152 = 4613937818241073152 by kernel_rfl]; rfl, rfl⟩ (.refl _) (Nat.le_of_ble_eq_true rfl)
  · first | (exact retN) | (exact retP)
theorem n_c (x : Nat) : ACalls Try.prog 45 0 10 [.v (.float .f64 x)] [] (fun out H' => out = .ret (vav ⟨2, [], x⟩) ∧ H' = []) := by
  refine acalls_of tok dok (f := 45) ⟨Try.func45, rfl, by kernel_rfl⟩ ?_; refine c_start (fun _ h => h) ?_
  refine awd ?_
  exact e_ret_to (H' := []) (.wk (.refl _) (.cons (.box _ (.cons (.refl _) (.cons (.free _ _) (.cons (.refl _) .nil)))) (.refl _))) rfl ⟨rfl, rfl⟩ (.refl _) (Nat.le_of_ble_eq_true rfl)
theorem plus3_c : ACalls Try.prog 46 0 10 [vav ⟨2, [], 4607182418800017408⟩, vav ⟨2, [], 4611686018427387904⟩] [] (fun out H' => out = .ret (.tuple [vav ⟨2, [], 4613937818241073152⟩, .v (.int .i64 0)]) ∧ H' = []) := by
  refine acalls_of tok dok (f := 46) ⟨Try.func46, rfl, by kernel_rfl⟩ ?_; refine c_start (fun _ h => h) ?_
  refine awd ?_
  refine cal [] (sum3_c) ?_ ?_
  · refine ret1 ?_; first | (refine akc ?_) | (refine aec ?_)
    refine awd ?_
    exact e_ret_to (H' := []) (.wk (.refl _) (.cons (.box _ (.cons (.refl _) (.cons (.free _ _) (.cons (.refl _) .nil)))) (.refl _))) rfl ⟨rfl, rfl⟩ (.refl _) (Nat.le_of_ble_eq_true rfl)
  · first | (exact retN) | (exact retP)
theorem plusno_c (b : List UInt8) (n m : Nat) : ACalls Try.prog 46 0 10 [vav ⟨1, b, n⟩, vav ⟨2, [], m⟩] [] (fun out H' => out = .ret (.tuple [vav ⟨0, [], 0⟩, .v (.int .i64 24)]) ∧ H' = []) := by
  refine acalls_of tok dok (f := 46) ⟨Try.func46, rfl, by kernel_rfl⟩ ?_; refine c_start (fun _ h => h) ?_
  refine awd ?_
  exact e_ret_to (H' := []) (.wk (.refl _) (.cons (.box _ (.cons (.refl _) (.cons (.free _ _) (.cons (.refl _) .nil)))) (.refl _))) rfl ⟨rfl, rfl⟩ (.refl _) (Nat.le_of_ble_eq_true rfl)
theorem known3_c : ACalls Try.prog 15 0 1000 [] [] (fun out H' => out = .ret (.v (.bool true)) ∧ H' = []) := by
  refine acalls_of tok dok (f := 15) ⟨Try.func15, rfl, by kernel_rfl⟩ ?_; refine c_start (fun _ h => h) ?_
  refine awd ?_
  refine cal [] (n_c 4607182418800017408) ?_ ?_
  · refine ret1 ?_; first | (refine akc ?_) | (refine aec ?_)
    refine awd ?_
    refine cal [] (n_c 4611686018427387904) ?_ ?_
    · refine ret1 ?_; first | (refine akc ?_) | (refine aec ?_)
      refine awd ?_
      refine cal [] (plus3_c) ?_ ?_
      · refine ret1 ?_; first | (refine akc ?_) | (refine aec ?_)
        refine awd ?_
        refine cal [] (n_c 4607182418800017408) ?_ ?_
        · refine ret1 ?_; first | (refine akc ?_) | (refine aec ?_)
          refine awd ?_
          refine calw [] (plusno_c [] 0 4607182418800017408) ?_ ?_ (hargs := .cons (LeA.agg (.cons (LeA.refl _) (.cons (LeA.free _ _) (.cons (LeA.refl _) .nil)))) (.cons (LeA.refl _) .nil))
          · refine ret1 ?_; first | (refine akc ?_) | (refine aec ?_)
            refine awd ?_
            refine cal [] (n_c 4613937818241073152) ?_ ?_
            · refine ret1 ?_; first | (refine akc ?_) | (refine aec ?_)
              refine awd ?_
              refine cal [] (same3_c ⟨2, [], 4613937818241073152⟩ ⟨2, [], 4613937818241073152⟩ (by decide) (by decide)) ?_ ?_
              · refine ret1 ?_; first | (refine akc ?_) | (refine aec ?_)
                rw [show (ordV ⟨2, [], 4613937818241073152⟩ ⟨2, [], 4613937818241073152⟩ == 0) = true by kernel_rfl]
                refine awd ?_
                refine cal [] (n_c 4607182418800017408) ?_ ?_
                · refine ret1 ?_; first | (refine akc ?_) | (refine aec ?_)
                  refine awd ?_
                  refine cal [] (vright_c ⟨2, [], 4607182418800017408⟩) ?_ ?_
                  · refine ret1 ?_; first | (refine akc ?_) | (refine aec ?_)
                    refine awd ?_
                    refine calw [] (vright_c ⟨0, [], 0⟩) ?_ ?_ (hargs := .cons (LeA.agg (.cons (LeA.refl _) (.cons (LeA.free _ _) (.cons (LeA.refl _) .nil)))) .nil)
                    · refine ret1 ?_; first | (refine akc ?_) | (refine aec ?_)
                      refine awd ?_
                      exact e_ret (H' := []) (rest := _) rfl ⟨rfl, rfl⟩ (.refl _) (Nat.le_of_ble_eq_true rfl)
                    · first | (exact retN) | (exact retP)
                  · first | (exact retN) | (exact retP)
                · first | (exact retN) | (exact retP)
              · first | (exact retN) | (exact retP)
            · first | (exact retN) | (exact retP)
          · first | (exact retN) | (exact retP)
        · first | (exact retN) | (exact retP)
      · first | (exact retN) | (exact retP)
    · first | (exact retN) | (exact retP)
  · first | (exact retN) | (exact retP)
end Go.Proofs.Ytdfnepbhgifkkaa
