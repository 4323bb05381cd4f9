/- SpanTells, by contracts. -/
import Derived.Test.YtjklcpfkmnjjkaaSpA

namespace Go.Proofs.Ytjklcpfkmnjjkaa
open Go.Am
set_option linter.unusedSimpArgs false
set_option linter.unusedVariables false
def irow (n : Int) : List AV := [.v (.int .i64 n)]
def IntOk (n : Int) : Prop := -9223372036854775808 ≤ n ∧ n ≤ 9223372036854775807
theorem w64' {n : Int} (h1 : -9223372036854775808 ≤ n) (h2 : n ≤ 9223372036854775807) : IntKind.i64.wrap n = n := by rw [IntKind.wrap_i64]; omega
def telSt (A B : Sp) (s : ByteArray) (l : List Int) (m : List Sp) (N : Unit) : ASt :=
  ⟨[.dead, .dead, .v (.string s), .list (l.map irow) .free, .ptr 0 0, .ptr 1 0, .dead, .dead, .dead, .list (m.map srow) (.tok 2), .v (.int .i64 m.length)] ++ List.replicate 78 .dead, [(0, .box [.v (.string A.1), .v (.string A.2)]), (1, .box [.v (.string B.1), .v (.string B.2)]), (2, .tok 2 (m.map srow).length)], m.length + 3⟩
set_option maxRecDepth 100000 in
set_option maxHeartbeats 3200000 in
theorem tells_c (a b : Sp) (s : ByteArray) (l : List Int) (hl : ∀ n ∈ l, IntOk n) (h : l.length ≤ 9223372036854775807) : ACalls Try.prog 5 0 60 [spv a, spv b, .v (.string s), .list (l.map irow) .free] [] (fun out H' => out = .ret (.v (.bool true)) ∧ H' = []) := by
  refine acalls_of tok dok (f := 5) ⟨Try.func5, rfl, by kernel_rfl⟩ ?_; refine c_start (fun _ h => h) ?_
  refine awd ?_
  refine cal [] (head_c a.1 20) ?_ ?_
  · refine ret1 ?_; first | (refine akc ?_) | (refine aec ?_)
    refine awd ?_
    refine cal [] (head_c a.2 20) ?_ ?_
    · refine ret1 ?_; first | (refine akc ?_) | (refine aec ?_)
      refine awd ?_
      refine cal [] (head_c b.1 20) ?_ ?_
      · refine ret1 ?_; first | (refine akc ?_) | (refine aec ?_)
        refine awd ?_
        refine cal [] (head_c b.2 20) ?_ ?_
        · refine ret1 ?_; first | (refine akc ?_) | (refine aec ?_)
          refine awd ?_
          refine cal [] (head_c s 20) ?_ ?_
          · refine ret1 ?_; first | (refine akc ?_) | (refine aec ?_)
            generalize headS a.1 20 = a1
            generalize headS a.2 20 = a2
            generalize headS b.1 20 = b1
            generalize headS b.2 20 = b2
            generalize headS s 20 = s0
            refine awd ?_
            refine c_loop2 (telSt (a1, a2) (b1, b2) s0 l) (fun m _ => m.length ≤ 5) (fun m _ => 5 - m.length) [] () (by decide) ?_ ?_
            · refine (Conv.tokSlot (j := 9) (sz := 2) (rows := []) rfl (by simp)).trans (.to [] ?_ ?_ (Nat.le_of_ble_eq_true rfl))
              · unfold telSt
                (repeat' (first | (with_reducible exact .nil) | (refine .cons ?_ ?_) | (exact Wk.dead _) | (with_reducible exact Wk.refl _) | (exact WkL.nil))) <;> first | (exact Wk.eq rfl) | (exact Wk.int (w64 (by omega) (by omega))) | (exact Wk.int (by simp)) | (exact Wk.int (by simp; omega)) | (exact Wk.eq (by simp))
              · exact List.reverse_perm [_, _, _]
            · rintro m N h1
              refine c_turn (n' := m.length + 3) (fun _ h => h) (fun _ h => h) rfl ?_
              refine awd ?_
              rw [w64' (n := (m.length : Int) + 1) (by omega) (by omega)]
              repeat' (first | (refine awd1 ?_) | (((with_reducible refine is_aops ?_); refine o_split rfl rfl rfl (fun hc => ?_) (fun hc => ?_) <;> rw [hc])) | (((with_reducible refine is_cond ?_); refine c_cond rfl (fun hc => ?_) (fun hc => ?_))) | (((with_reducible refine is_aop ?_); refine a_pick rfl rfl (fun hc => ?_) (fun hc => ?_) <;> rw [hc])) | fail)
              · have hi : m.length + 1 < l.length := by simp at *; omega
                have hm5 : m.length < 5 := by simp at *; omega
                have hx0 : 0 ≤ (m.length : Int) ∧ (l.map irow)[(m.length : Int).toNat]? = some (irow l[m.length]) ∧ (irow l[m.length]).length = 1 := ⟨Int.natCast_nonneg _, (by rw [Int.toNat_natCast, List.getElem?_map, List.getElem?_eq_getElem (by omega)]; rfl), rfl⟩
                have hx1 : 0 ≤ IntKind.i64.wrap ((m.length : Int) + 1) ∧ (l.map irow)[(IntKind.i64.wrap ((m.length : Int) + 1)).toNat]? = some (irow l[m.length + 1]) ∧ (irow l[m.length + 1]).length = 1 := by
                  rw [w64' (n := (m.length : Int) + 1) (by omega) (by omega)]
                  refine ⟨by omega, ?_, rfl⟩
                  have : ((m.length : Int) + 1).toNat = m.length + 1 := by omega
                  rw [this, List.getElem?_map, List.getElem?_eq_getElem hi]; rfl
                have q0 := hl _ (List.getElem_mem (show m.length < l.length by omega))
                have q1 := hl _ (List.getElem_mem hi)
                generalize l[m.length] = n0 at *
                generalize l[m.length + 1] = n1 at *
                rcases m with _ | ⟨p0, _ | ⟨p1, _ | ⟨p2, _ | ⟨p3, _ | ⟨p4, m⟩⟩⟩⟩⟩
                · refine awd ?_
                  refine cal [] (made_c n0 n1 q0.1 q0.2 q1.1 q1.2) ?_ ?_
                  · refine ret1 ?_; first | (refine akc ?_) | (refine aec ?_)
                    generalize mLo n0 = x0
                    generalize mLo n1 = x1
                    refine awd ?_
                    refine cal [] (two_c (x0, x1) (a1, a2) s0) ?_ ?_
                    · refine ret1 ?_; first | (refine akc ?_) | (refine aec ?_)
                      refine awd ?_
                      (with_reducible refine is_ev ?_)
                      refine v_yesS rfl rfl rfl rfl rfl rfl (qIx (row := srow (x0, x1)) (fun _ h => h)) (fun _ h => h) ⟨by decide, rfl, rfl⟩ ?_
                      refine awd ?_
                      refine cal [] (row_c n0 q0.1 q0.2) ?_ ?_
                      · refine ret1 ?_; first | (refine akc ?_) | (refine aec ?_)
                        refine awd ?_
                        refine cal [] (two_c (x0, x1) (x0, x1) (rowS n0)) ?_ ?_
                        · refine ret1 ?_; first | (refine akc ?_) | (refine aec ?_)
                          refine awd ?_
                          rw [w64' (n := ((List.length (α := Sp) []) : Int) + 1) (by simp) (by simp)]
                          refine k_loop ([] ++ [(x0, x1)], ()) (by show _ ≤ 5; simp) (by show 5 - _ < 5 - _; simp) (.to [(3, .box [.v (.string x0), .v (.string x1)])] ?_ ?_ (Nat.le_of_ble_eq_true rfl))
                          · unfold telSt
                            (repeat' (first | (with_reducible exact .nil) | (refine .cons ?_ ?_) | (exact Wk.dead _) | (with_reducible exact Wk.refl _) | (exact WkL.nil))) <;> first | (exact Wk.eq rfl) | (exact Wk.int (w64 (by omega) (by omega))) | (exact Wk.int (by simp)) | (exact Wk.int (by simp; omega)) | (exact Wk.eq (by simp))
                          · exact List.perm_append_comm (l₁ := [_])
                        · first | (exact retN) | (exact retP)
                      · first | (exact retN) | (exact retP)
                    · first | (exact retN) | (exact retP)
                  · first | (exact retN) | (exact retP)
                · refine awd ?_
                  refine cal [] (made_c n0 n1 q0.1 q0.2 q1.1 q1.2) ?_ ?_
                  · refine ret1 ?_; first | (refine akc ?_) | (refine aec ?_)
                    generalize mLo n0 = x0
                    generalize mLo n1 = x1
                    refine awd ?_
                    refine cal [] (two_c (x0, x1) (a1, a2) s0) ?_ ?_
                    · refine ret1 ?_; first | (refine akc ?_) | (refine aec ?_)
                      refine awd ?_
                      (with_reducible refine is_ev ?_)
                      refine v_yesS rfl rfl rfl rfl rfl rfl (qIx (row := srow p0) (fun _ h => h)) (fun _ h => h) ⟨by decide, rfl, rfl⟩ ?_
                      refine awd ?_
                      refine cal [] (row_c n0 q0.1 q0.2) ?_ ?_
                      · refine ret1 ?_; first | (refine akc ?_) | (refine aec ?_)
                        refine awd ?_
                        refine cal [] (two_c (x0, x1) p0 (rowS n0)) ?_ ?_
                        · refine ret1 ?_; first | (refine akc ?_) | (refine aec ?_)
                          refine awd ?_
                          rw [w64' (n := ((List.length (α := Sp) [p0]) : Int) + 1) (by simp) (by simp)]
                          refine k_loop ([p0] ++ [(x0, x1)], ()) (by show _ ≤ 5; simp) (by show 5 - _ < 5 - _; simp) (.to [(4, .box [.v (.string x0), .v (.string x1)])] ?_ ?_ (Nat.le_of_ble_eq_true rfl))
                          · unfold telSt
                            (repeat' (first | (with_reducible exact .nil) | (refine .cons ?_ ?_) | (exact Wk.dead _) | (with_reducible exact Wk.refl _) | (exact WkL.nil))) <;> first | (exact Wk.eq rfl) | (exact Wk.int (w64 (by omega) (by omega))) | (exact Wk.int (by simp)) | (exact Wk.int (by simp; omega)) | (exact Wk.eq (by simp))
                          · exact List.perm_append_comm (l₁ := [_])
                        · first | (exact retN) | (exact retP)
                      · first | (exact retN) | (exact retP)
                    · first | (exact retN) | (exact retP)
                  · first | (exact retN) | (exact retP)
                · refine awd ?_
                  refine cal [] (made_c n0 n1 q0.1 q0.2 q1.1 q1.2) ?_ ?_
                  · refine ret1 ?_; first | (refine akc ?_) | (refine aec ?_)
                    generalize mLo n0 = x0
                    generalize mLo n1 = x1
                    refine awd ?_
                    refine cal [] (two_c (x0, x1) (a1, a2) s0) ?_ ?_
                    · refine ret1 ?_; first | (refine akc ?_) | (refine aec ?_)
                      refine awd ?_
                      (with_reducible refine is_ev ?_)
                      refine v_yesS rfl rfl rfl rfl rfl rfl (qIx (row := srow p0) (fun _ h => h)) (fun _ h => h) ⟨by decide, rfl, rfl⟩ ?_
                      refine awd ?_
                      refine cal [] (row_c n0 q0.1 q0.2) ?_ ?_
                      · refine ret1 ?_; first | (refine akc ?_) | (refine aec ?_)
                        refine awd ?_
                        refine cal [] (two_c (x0, x1) p0 (rowS n0)) ?_ ?_
                        · refine ret1 ?_; first | (refine akc ?_) | (refine aec ?_)
                          refine awd ?_
                          rw [w64' (n := ((List.length (α := Sp) [p0, p1]) : Int) + 1) (by simp) (by simp)]
                          refine k_loop ([p0, p1] ++ [(x0, x1)], ()) (by show _ ≤ 5; simp) (by show 5 - _ < 5 - _; simp) (.to [(5, .box [.v (.string x0), .v (.string x1)])] ?_ ?_ (Nat.le_of_ble_eq_true rfl))
                          · unfold telSt
                            (repeat' (first | (with_reducible exact .nil) | (refine .cons ?_ ?_) | (exact Wk.dead _) | (with_reducible exact Wk.refl _) | (exact WkL.nil))) <;> first | (exact Wk.eq rfl) | (exact Wk.int (w64 (by omega) (by omega))) | (exact Wk.int (by simp)) | (exact Wk.int (by simp; omega)) | (exact Wk.eq (by simp))
                          · exact List.perm_append_comm (l₁ := [_])
                        · first | (exact retN) | (exact retP)
                      · first | (exact retN) | (exact retP)
                    · first | (exact retN) | (exact retP)
                  · first | (exact retN) | (exact retP)
                · refine awd ?_
                  refine cal [] (made_c n0 n1 q0.1 q0.2 q1.1 q1.2) ?_ ?_
                  · refine ret1 ?_; first | (refine akc ?_) | (refine aec ?_)
                    generalize mLo n0 = x0
                    generalize mLo n1 = x1
                    refine awd ?_
                    refine cal [] (two_c (x0, x1) (a1, a2) s0) ?_ ?_
                    · refine ret1 ?_; first | (refine akc ?_) | (refine aec ?_)
                      refine awd ?_
                      (with_reducible refine is_ev ?_)
                      refine v_yesS rfl rfl rfl rfl rfl rfl (qIx (row := srow p0) (fun _ h => h)) (fun _ h => h) ⟨by decide, rfl, rfl⟩ ?_
                      refine awd ?_
                      refine cal [] (row_c n0 q0.1 q0.2) ?_ ?_
                      · refine ret1 ?_; first | (refine akc ?_) | (refine aec ?_)
                        refine awd ?_
                        refine cal [] (two_c (x0, x1) p0 (rowS n0)) ?_ ?_
                        · refine ret1 ?_; first | (refine akc ?_) | (refine aec ?_)
                          refine awd ?_
                          rw [w64' (n := ((List.length (α := Sp) [p0, p1, p2]) : Int) + 1) (by simp) (by simp)]
                          refine k_loop ([p0, p1, p2] ++ [(x0, x1)], ()) (by show _ ≤ 5; simp) (by show 5 - _ < 5 - _; simp) (.to [(6, .box [.v (.string x0), .v (.string x1)])] ?_ ?_ (Nat.le_of_ble_eq_true rfl))
                          · unfold telSt
                            (repeat' (first | (with_reducible exact .nil) | (refine .cons ?_ ?_) | (exact Wk.dead _) | (with_reducible exact Wk.refl _) | (exact WkL.nil))) <;> first | (exact Wk.eq rfl) | (exact Wk.int (w64 (by omega) (by omega))) | (exact Wk.int (by simp)) | (exact Wk.int (by simp; omega)) | (exact Wk.eq (by simp))
                          · exact List.perm_append_comm (l₁ := [_])
                        · first | (exact retN) | (exact retP)
                      · first | (exact retN) | (exact retP)
                    · first | (exact retN) | (exact retP)
                  · first | (exact retN) | (exact retP)
                · refine awd ?_
                  refine cal [] (made_c n0 n1 q0.1 q0.2 q1.1 q1.2) ?_ ?_
                  · refine ret1 ?_; first | (refine akc ?_) | (refine aec ?_)
                    generalize mLo n0 = x0
                    generalize mLo n1 = x1
                    refine awd ?_
                    refine cal [] (two_c (x0, x1) (a1, a2) s0) ?_ ?_
                    · refine ret1 ?_; first | (refine akc ?_) | (refine aec ?_)
                      refine awd ?_
                      (with_reducible refine is_ev ?_)
                      refine v_yesS rfl rfl rfl rfl rfl rfl (qIx (row := srow p0) (fun _ h => h)) (fun _ h => h) ⟨by decide, rfl, rfl⟩ ?_
                      refine awd ?_
                      refine cal [] (row_c n0 q0.1 q0.2) ?_ ?_
                      · refine ret1 ?_; first | (refine akc ?_) | (refine aec ?_)
                        refine awd ?_
                        refine cal [] (two_c (x0, x1) p0 (rowS n0)) ?_ ?_
                        · refine ret1 ?_; first | (refine akc ?_) | (refine aec ?_)
                          refine awd ?_
                          rw [w64' (n := ((List.length (α := Sp) [p0, p1, p2, p3]) : Int) + 1) (by simp) (by simp)]
                          refine k_loop ([p0, p1, p2, p3] ++ [(x0, x1)], ()) (by show _ ≤ 5; simp) (by show 5 - _ < 5 - _; simp) (.to [(7, .box [.v (.string x0), .v (.string x1)])] ?_ ?_ (Nat.le_of_ble_eq_true rfl))
                          · unfold telSt
                            (repeat' (first | (with_reducible exact .nil) | (refine .cons ?_ ?_) | (exact Wk.dead _) | (with_reducible exact Wk.refl _) | (exact WkL.nil))) <;> first | (exact Wk.eq rfl) | (exact Wk.int (w64 (by omega) (by omega))) | (exact Wk.int (by simp)) | (exact Wk.int (by simp; omega)) | (exact Wk.eq (by simp))
                          · exact List.perm_append_comm (l₁ := [_])
                        · first | (exact retN) | (exact retP)
                      · first | (exact retN) | (exact retP)
                    · first | (exact retN) | (exact retP)
                  · first | (exact retN) | (exact retP)
                · simp at hm5; omega
              · refine awd ?_
                refine cal [] (two_c (a1, a2) (b1, b2) s0) ?_ ?_
                · refine ret1 ?_; first | (refine akc ?_) | (refine aec ?_)
                  refine awd ?_
                  refine calw [] (lists_c m (by omega)) ?_ ?_
                  · refine ret1 ?_; first | (refine akc ?_) | (refine aec ?_)
                    refine awd ?_
                    refine calw [] (lists_c [(a1, a2), (b1, b2)] (Nat.le_of_ble_eq_true rfl)) ?_ ?_
                    · refine ret1 ?_; first | (refine akc ?_) | (refine aec ?_)
                      refine awd ?_
                      refine cal [] (known7_c) ?_ ?_
                      · refine ret1 ?_; first | (refine akc ?_) | (refine aec ?_)
                        refine awd ?_
                        exact e_ret (H' := []) (rest := _) rfl ⟨rfl, rfl⟩ (.of_eq rfl) (by show m.length + 3 + _ ≤ 60; omega)
                      · first | (exact retN) | (exact retP)
                    · first | (exact retN) | (exact retP)
                  · first | (exact retN) | (exact retP)
                · first | (exact retN) | (exact retP)
              · refine awd ?_
                refine cal [] (two_c (a1, a2) (b1, b2) s0) ?_ ?_
                · refine ret1 ?_; first | (refine akc ?_) | (refine aec ?_)
                  refine awd ?_
                  refine calw [] (lists_c m (by omega)) ?_ ?_
                  · refine ret1 ?_; first | (refine akc ?_) | (refine aec ?_)
                    refine awd ?_
                    refine calw [] (lists_c [(a1, a2), (b1, b2)] (Nat.le_of_ble_eq_true rfl)) ?_ ?_
                    · refine ret1 ?_; first | (refine akc ?_) | (refine aec ?_)
                      refine awd ?_
                      refine cal [] (known7_c) ?_ ?_
                      · refine ret1 ?_; first | (refine akc ?_) | (refine aec ?_)
                        refine awd ?_
                        exact e_ret (H' := []) (rest := _) rfl ⟨rfl, rfl⟩ (.of_eq rfl) (by show m.length + 3 + _ ≤ 60; omega)
                      · first | (exact retN) | (exact retP)
                    · first | (exact retN) | (exact retP)
                  · first | (exact retN) | (exact retP)
                · first | (exact retN) | (exact retP)
          · first | (exact retN) | (exact retP)
        · first | (exact retN) | (exact retP)
      · first | (exact retN) | (exact retP)
    · first | (exact retN) | (exact retP)
  · first | (exact retN) | (exact retP)
end Go.Proofs.Ytjklcpfkmnjjkaa
