/- ValueTells: two values held against one another. -/
import Derived.Test.YtdfnepbhgifkkaaVg
import Derived.Test.YtdfnepbhgifkkaaVc
namespace Go.Proofs.Ytdfnepbhgifkkaa
open Go.Am
set_option linter.unusedSimpArgs false
set_option linter.unusedVariables false
set_option maxRecDepth 100000
theorem sumC_lt (a b : Nat) : sumC a b < 18446744073709551616 := by
  unfold sumC
  split
  · rename_i r h
    exact canonB_lt (add_lt h)
  · decide
theorem plusV_n (a b : Va) : (plusV a b).1.n < 18446744073709551616 := by
  unfold plusV
  split
  · exact sumC_lt _ _
  · show 0 < _; decide
theorem plusV_b (a b : Va) : (plusV a b).1.b = [] := by
  unfold plusV
  split <;> rfl
theorem canV_n (v : Va) (h : v.n < 18446744073709551616) : (canV v).n < 18446744073709551616 := by
  unfold canV
  split
  · show 0 < _; decide
  · split
    · exact canonB_lt h
    · show 0 < _; decide
/-- what a canonical value has -/
theorem canV_cs (v : Va) : (∃ b, canV v = ⟨1, b, 0⟩) ∨ (∃ n, canV v = ⟨2, [], n⟩) ∨ canV v = ⟨0, [], 0⟩ := by
  unfold canV
  split
  · exact .inl ⟨_, rfl⟩
  · split
    · exact .inr (.inl ⟨_, rfl⟩)
    · exact .inr (.inr rfl)
def twSt (ra rb rp rc : List AV) (q : Int) : ASt := ⟨[.dead, .dead, .ptr 0 0, .ptr 1 0, .dead, .ptr 12 0, .v (.int .i64 q), .ptr 23 0, .v (.int .i64 q), .ptr 24 0, .ptr 25 0] ++ List.replicate 89 .dead, [(25, .box rc), (24, .box rc), (23, .box rp), (12, .box rp), (1, .box rb), (0, .box ra)], 50⟩
theorem ord00 : (FloatKind.f64.format.order 0 0 == some Ordering.eq) = true := by kernel_rfl
set_option maxHeartbeats 64000000 in
theorem two_c (a b : Va) (ha : a.n < 18446744073709551616) (hb : b.n < 18446744073709551616) (la : a.b.length < 1000) (lb : b.b.length < 1000) : ACalls Try.prog 29 0 3000 [vav a, vav b] [] (fun out H' => out = .ret (.v (.bool true)) ∧ H' = []) := by
  have p1 := plus_c a b
  have p2 := refPlus_c a b
  have pn := plusV_n a b
  have c1 := canonv_c a (by omega)
  have c2 := refCanon_c a (by omega) ha
  have cn := canV_n a ha
  have s0 := refSame_c (plusV a b).1 (plusV a b).1 pn pn
  have s1 := same3_c a b (by omega) (by omega)
  have s2 := refSame_c a b ha hb
  have s3 := refSame_c (canV a) (canV a) cn cn
  have o1 := order_c a b (by omega) (by omega)
  have o2 := refOrder_c a b ha hb
  have r1 := vright_c a
  have r2 := refRight_c a
  have e0 : ordV (plusV a b).1 (plusV a b).1 = 0 := ord0_refl _
  have e3 : ordV (canV a) (canV a) = 0 := ord0_refl _
  have cs := canV_cs a
  rw [e0, show ((0 : Int) == 0) = true from rfl] at s0
  rw [e3, show ((0 : Int) == 0) = true from rfl] at s3
  generalize (a.kind == 1 && decide ((a.b.length : Int) ≤ 16) || a.kind == 2) = br at *
  generalize ordV a b = oo at *
  generalize (plusV a b).1 = p at *
  generalize (plusV a b).2 = q at *
  generalize canV a = c at *
  clear e0 e3 pn cn
  obtain ⟨ka, ba, na⟩ := a
  obtain ⟨kb, bb, nb⟩ := b
  obtain ⟨kp, bp, np⟩ := p
  obtain ⟨kc, bc, nc⟩ := c
  simp only [vav, vrowV] at *
  refine acalls_of tok dok (f := 29) ⟨Try.func29, rfl, by kernel_rfl⟩ ?_; refine c_start (fun _ h => h) ?_
  refine awd ?_
  refine cal [] (p1) ?_ ?_
  · refine ret1 ?_; first | (refine akc ?_) | (refine aec ?_)
    refine awd ?_
    refine cal [] (p2) ?_ ?_
    · refine ret1 ?_; first | (refine akc ?_) | (refine aec ?_)
      repeat' (first | ((with_reducible refine is_aops ?_); first | (refine o_op rfl ?_) | (refine o_yes rfl rfl rfl ?_) | (refine o_no rfl rfl rfl (fun _ h => h) ?_) | (refine o_not rfl rfl rfl (fun _ h => h) ?_)) | ((with_reducible refine is_opK ?_); first | (refine k_op' (fun _ h => h) ?_)) | ((with_reducible refine is_aop ?_); first | (refine a_q1 rfl (fun _ h => h) ?_) | (refine a_box rfl (fun _ h => h) ?_) | (refine a_alloc rfl (fun _ h => h) ?_) | (refine a_storev rfl (fun _ h => h) ?_) | (refine a_store rfl (fun _ h => h) ?_) | (refine a_panic rfl rfl ?_)) | ((with_reducible refine is_aop ?_); refine a_qS rfl (qIx (fun _ h => h)) (by assumption) ?_) | (with_reducible refine o_nil ?_) | fail)
      refine k_seq ?_
      refine c_seq ?_
      refine c_cutx (fun (_ : Unit) (_ : Unit) => twSt [.v (.int .i64 ka), .list (ba.map brow) .free, .v (.float .f64 na)] [.v (.int .i64 kb), .list (bb.map brow) .free, .v (.float .f64 nb)] [.v (.int .i64 kp), .list (bp.map brow) .free, .v (.float .f64 np)] [.v (.int .i64 kc), .list (bc.map brow) .free, .v (.float .f64 nc)] q) (fun _ _ => True) ?_ ?_
      · rintro _ _ _
        refine c_turn (n' := 50) (fun _ h => h) (fun _ h => h) rfl ?_
        refine awd ?_
        rw [show (q == q) = true from beq_self_eq_true q]
        refine awd ?_
        rw [show (kp == kp) = true from beq_self_eq_true kp]
        refine awd ?_
        refine cal [] (s0) ?_ ?_
        · refine ret1 ?_; first | (refine akc ?_) | (refine aec ?_)
          refine awd ?_
          refine cal [] (r1) ?_ ?_
          · refine ret1 ?_; first | (refine akc ?_) | (refine aec ?_)
            refine awd ?_
            refine cal [] (r2) ?_ ?_
            · refine ret1 ?_; first | (refine akc ?_) | (refine aec ?_)
              refine awd ?_
              rw [show (br == br) = true from beq_self_eq_true br]
              refine awd ?_
              refine cal [] (s1) ?_ ?_
              · refine ret1 ?_; first | (refine akc ?_) | (refine aec ?_)
                refine awd ?_
                refine cal [] (s2) ?_ ?_
                · refine ret1 ?_; first | (refine akc ?_) | (refine aec ?_)
                  refine awd ?_
                  rw [show ((oo == 0) == (oo == 0)) = true from beq_self_eq_true _]
                  refine awd ?_
                  refine cal [] (o1) ?_ ?_
                  · refine ret1 ?_; first | (refine akc ?_) | (refine aec ?_)
                    refine awd ?_
                    refine cal [] (o2) ?_ ?_
                    · refine ret1 ?_; first | (refine akc ?_) | (refine aec ?_)
                      refine awd ?_
                      rw [show (oo == oo) = true from beq_self_eq_true _]
                      refine awd ?_
                      rw [show (kc == kc) = true from beq_self_eq_true _]
                      refine awd ?_
                      refine cal [] (s3) ?_ ?_
                      · refine ret1 ?_; first | (refine akc ?_) | (refine aec ?_)
                        refine awd ?_
                        rcases cs with ⟨cb, e⟩ | ⟨cn, e⟩ | e
                        · cases e
                          refine awd ?_
                          rw [ord00]
                          refine awd ?_
                          exact e_ret (H' := []) (rest := _) rfl ⟨rfl, rfl⟩ (.refl _) (Nat.le_of_ble_eq_true rfl)
                        · cases e
                          refine awd ?_
                          exact e_ret (H' := []) (rest := _) rfl ⟨rfl, rfl⟩ (.refl _) (Nat.le_of_ble_eq_true rfl)
                        · cases e
                          refine awd ?_
                          rw [ord00]
                          refine awd ?_
                          exact e_ret (H' := []) (rest := _) rfl ⟨rfl, rfl⟩ (.refl _) (Nat.le_of_ble_eq_true rfl)
                      · first | (exact retN) | (exact retP)
                    · first | (exact retN) | (exact retP)
                  · first | (exact retN) | (exact retP)
                · first | (exact retN) | (exact retP)
              · first | (exact retN) | (exact retP)
            · first | (exact retN) | (exact retP)
          · first | (exact retN) | (exact retP)
        · first | (exact retN) | (exact retP)
      · intro Kx kN kP kR kE
        refine awd ?_
        refine cal [] (c1) ?_ ?_
        · refine ret1 ?_; first | (refine akc ?_) | (refine aec ?_)
          refine awd ?_
          refine cal [] (c2) ?_ ?_
          · refine ret1 ?_; first | (refine akc ?_) | (refine aec ?_)
            refine awd ?_
            refine kN () () _ _ _ trivial (.to [] ?_ (.of_eq rfl) (Nat.le_of_ble_eq_true rfl))
            unfold twSt
            (repeat' (first | (with_reducible exact .nil) | (refine .cons ?_ ?_) | (exact Wk.dead _) | (with_reducible exact Wk.refl _) | (exact WkL.nil))) <;> first | (exact Wk.eq rfl) | (exact Wk.int (w64 (by omega) (by omega))) | (exact Wk.int (by simp)) | (exact Wk.int (by simp; omega)) | (exact Wk.eq (by simp))
          · first | (exact retN) | (exact retP)
        · first | (exact retN) | (exact retP)
    · first | (exact retN) | (exact retP)
  · first | (exact retN) | (exact retP)
end Go.Proofs.Ytdfnepbhgifkkaa
