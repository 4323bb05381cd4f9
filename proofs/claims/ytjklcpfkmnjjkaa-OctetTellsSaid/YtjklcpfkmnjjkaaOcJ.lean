/- Reading, by the program and by the document. -/
import Derived.Test.YtjklcpfkmnjjkaaOcI

namespace Go.Proofs.Ytjklcpfkmnjjkaa
open Go.Am
set_option linter.unusedSimpArgs false
set_option linter.unusedVariables false

def rdH (l : List Ask) (b : List UInt8) (bad same : Bool) (i : Nat) : Heap := [(0, .box [.list (l.map arow) .free]), (1, .box [.list (b.map brow) .free, .v (.bool bad)]), (2, .box [.ptr 1 0]), (3, .box [.v (.bool same)]), (4, .box [.v (.int .i64 i)])]
def rdSt (l : List Ask) (c : List UInt8) (N i : Nat) : ASt :=
  ⟨[.ptr 5 0, .ptr 0 0, .ptr 3 0, .ptr 2 0, .ptr 4 0, .dead, .v (.int .i64 i)] ++ List.replicate 103 .dead, (5, .box [.list (c.map brow) .free]) :: rdH l c false true i, N + 6⟩
/-- where reading stops short -/
def stops (l : List Ask) (b : List UInt8) (H' : Heap) : Prop := ∃ (i : Nat) (b' : List UInt8), i < 15 ∧ (∃ a, l[i]? = some a ∧ (a.kind = 6 ∨ failsB a b')) ∧ b'.length ≤ b.length ∧ H' = rdH l b' false true i
set_option maxRecDepth 100000 in
set_option maxHeartbeats 8000000 in
theorem reads1_c (l : List Ask) (b : List UInt8) (h : l.length ≤ 9223372036854775807) (hb : b.length < 70368744177664) : ACalls Try.prog 62 6 400 [.ptr 5 0, .ptr 0 0, .ptr 3 0, .ptr 2 0, .ptr 4 0] ((5, .box [.list (b.map brow) .free]) :: rdH l b false true 0) (cbR 5 (fun l' H' => H' = rdH l l' false true (min 15 l.length)) (stops l b)) := by
  refine acalls_of tok dok (f := 62) ⟨Try.func62, rfl, by kernel_rfl⟩ ?_; refine c_start (fun _ h => h) ?_
  refine awd ?_
  refine c_loop4 (fun c N i (_ : Unit) => rdSt l c N i) (fun c N i _ => i ≤ 15 ∧ i ≤ l.length ∧ N ≤ 20 * i ∧ c.length ≤ b.length) (fun _ _ i _ => 15 - i) b 0 0 () ⟨by omega, by omega, by omega, Nat.le_refl _⟩ (.to [] ?_ (.of_eq ?_) (Nat.le_of_ble_eq_true rfl)) ?_
  · unfold rdSt
    (repeat' (first | (with_reducible exact .nil) | (refine .cons ?_ ?_) | (exact Wk.dead _) | (with_reducible exact Wk.refl _) | (exact WkL.nil))) <;> first | (exact Wk.eq rfl) | (exact Wk.int (w64 (by omega) (by omega))) | (exact Wk.int (by simp)) | (exact Wk.int (by simp; omega)) | (exact Wk.eq (by simp))
  · rfl
  · rintro c N i _ ⟨h1, h2, h3, h4⟩
    refine c_turn (n' := N + 6) (fun _ h => h) (fun _ h => h) rfl ?_
    repeat' (first | (refine awd1 ?_) | (((with_reducible refine is_aops ?_); refine o_split rfl rfl rfl (fun hc => ?_) (fun hc => ?_) <;> rw [hc])) | (((with_reducible refine is_cond ?_); refine c_cond rfl (fun hc => ?_) (fun hc => ?_))) | (((with_reducible refine is_aop ?_); refine a_pick rfl rfl (fun hc => ?_) (fun hc => ?_) <;> rw [hc])) | fail)
    · have hi : i < l.length := by simp at *; omega
      have hi15 : i < 15 := by simp at *; omega
      have hix : 0 ≤ (i : Int) ∧ (l.map arow)[(i : Int).toNat]? = some (arow l[i]) ∧ (arow l[i]).length = 5 := ⟨Int.natCast_nonneg i, (by rw [Int.toNat_natCast, List.getElem?_map, List.getElem?_eq_getElem hi]; rfl), rfl⟩
      have hget : l[i]? = some l[i] := List.getElem?_eq_getElem hi
      generalize l[i] = a at *
      obtain ⟨kd, mo, nn, xx, bb⟩ := a
      have hc5 : c.length < 70368744177664 := by omega
      repeat' (first | ((with_reducible refine is_aops ?_); first | (refine o_op rfl ?_) | (refine o_yes rfl rfl rfl ?_) | (refine o_no rfl rfl rfl (fun _ h => h) ?_) | (refine o_not rfl rfl rfl (fun _ h => h) ?_)) | ((with_reducible refine is_opK ?_); first | (refine k_op' (fun _ h => h) ?_)) | ((with_reducible refine is_aop ?_); first | (refine a_q1 rfl (fun _ h => h) ?_) | (refine a_box rfl (fun _ h => h) ?_) | (refine a_alloc rfl (fun _ h => h) ?_) | (refine a_storev rfl (fun _ h => h) ?_) | (refine a_store rfl (fun _ h => h) ?_) | (refine a_panic rfl rfl ?_)) | ((with_reducible refine is_aop ?_); refine a_qS rfl (qIx (fun _ h => h)) (by assumption) ?_) | (with_reducible refine o_nil ?_) | fail)
      refine k_seq (c_cutx (fun c' N' => rdSt l c' N' i) (fun c' N' => c'.length ≤ c.length ∧ N' ≤ 20 * i + 10) ?_ ?_)
      · rintro c' N' ⟨g1, g2⟩
        refine c_turn (n' := N' + 6) (fun _ h => h) (fun _ h => h) rfl ?_
        refine awd ?_
        refine cal [5] (left_c c') ?_ ?_
        · refine ret1 ?_; first | (refine akc ?_) | (refine aec ?_)
          refine awd ?_
          rw [List.length_map (f := brow), beq_self_eq_true, w64 (n := (i : Int) + 1) (by omega) (by omega)]
          refine awd ?_
          refine k_loop (c', N', i + 1, ()) ⟨hi15, hi, (by show N' ≤ 20 * (i + 1); omega), Nat.le_trans g1 h4⟩ (by show 15 - (i + 1) < 15 - i; omega) (.to [] ?_ ?_ (Nat.le_refl (N' + 6)))
          · unfold rdSt
            (repeat' (first | (with_reducible exact .nil) | (refine .cons ?_ ?_) | (exact Wk.dead _) | (with_reducible exact Wk.refl _) | (exact WkL.nil))) <;> first | (exact Wk.eq rfl) | (exact Wk.int (w64 (by omega) (by omega))) | (exact Wk.int (by simp)) | (exact Wk.int (by simp; omega)) | (exact Wk.eq (by simp))
          · exact .of_eq rfl
        · first | (exact retN) | (exact retP)
      · intro Kx kN kP kR kE
        repeat' (first | (refine awd1 ?_) | (((with_reducible refine is_aops ?_); refine o_split rfl rfl rfl (fun hc => ?_) (fun hc => ?_) <;> rw [hc])) | (((with_reducible refine is_cond ?_); refine c_cond rfl (fun hc => ?_) (fun hc => ?_))) | (((with_reducible refine is_aop ?_); refine a_pick rfl rfl (fun hc => ?_) (fun hc => ?_) <;> rw [hc])) | fail)
        · have hk : kd = 1 := by simpa using hc
          refine cal [5] (rByte_c c hc5) ?_ ?_
          · intro x H' h; rcases h with ⟨hg, h1, h2⟩ | ⟨hg, h1, h2⟩ <;> first | (cases h1; done) | (cases h1; subst h2)
            · first | (refine akc ?_) | (refine aec ?_)
              obtain ⟨e1, e2, e3⟩ := some_ok hg
              have hC2 := refByte_c c false hc5
              rw [e1, e2, e3] at hC2
              refine awd ?_
              refine cal [1] (hC2) ?_ ?_
              · refine ret1 ?_; first | (refine akc ?_) | (refine aec ?_)
                refine awd ?_
                rw [beq_self_eq_true]
                refine awd ?_
                refine kN (c.drop 1) (N + 4) _ _ _ ⟨(by rw [List.length_drop]; omega), (by omega)⟩ (.to [] ?_ ?_ (Nat.le_refl (N + 10)))
                · unfold rdSt
                  (repeat' (first | (with_reducible exact .nil) | (refine .cons ?_ ?_) | (exact Wk.dead _) | (with_reducible exact Wk.refl _) | (exact WkL.nil))) <;> first | (exact Wk.eq rfl) | (exact Wk.int (w64 (by omega) (by omega))) | (exact Wk.int (by simp)) | (exact Wk.int (by simp; omega)) | (exact Wk.eq (by simp))
                · exact (List.perm_append_comm (l₁ := [_]) (l₂ := [_, _])).append_right _
              · first | (exact retN) | (exact retP)
          · intro x H' h; rcases h with ⟨hg, h1, h2⟩ | ⟨hg, h1, h2⟩ <;> first | (cases h1; done) | (cases h1; subst h2)
            refine awd ?_
            refine kP _ _ _ _ ?_
            refine awd ?_
            exact e_pan (H' := rdH l c false true i) (rest := []) (.inr ⟨_, ⟨i, c, hi15, ⟨_, hget, .inr (.inl ⟨hk, hg⟩)⟩, h4, rfl⟩, rfl, rfl⟩) (.of_eq rfl) (by show N + 6 + _ ≤ 400; omega)
        · have hk : kd = 2 := by simpa using hc
          refine cal [5] (rNum_c c hc5) ?_ ?_
          · intro x H' h; rcases h with ⟨hg, h1, h2⟩ | ⟨hg, h1, h2⟩ <;> first | (cases h1; done) | (cases h1; subst h2)
            · first | (refine akc ?_) | (refine aec ?_)
              obtain ⟨e1, e2, e3⟩ := some_ok hg
              have hC2 := refRNum_c c false hc5
              rw [e1, e2, e3] at hC2
              refine awd ?_
              refine cal [1] (hC2) ?_ ?_
              · refine ret1 ?_; first | (refine akc ?_) | (refine aec ?_)
                refine awd ?_
                rw [beq_self_eq_true]
                refine awd ?_
                refine kN (c.drop 4) (N + 4) _ _ _ ⟨(by rw [List.length_drop]; omega), (by omega)⟩ (.to [] ?_ ?_ (Nat.le_refl (N + 10)))
                · unfold rdSt
                  (repeat' (first | (with_reducible exact .nil) | (refine .cons ?_ ?_) | (exact Wk.dead _) | (with_reducible exact Wk.refl _) | (exact WkL.nil))) <;> first | (exact Wk.eq rfl) | (exact Wk.int (w64 (by omega) (by omega))) | (exact Wk.int (by simp)) | (exact Wk.int (by simp; omega)) | (exact Wk.eq (by simp))
                · exact (List.perm_append_comm (l₁ := [_]) (l₂ := [_, _])).append_right _
              · first | (exact retN) | (exact retP)
          · intro x H' h; rcases h with ⟨hg, h1, h2⟩ | ⟨hg, h1, h2⟩ <;> first | (cases h1; done) | (cases h1; subst h2)
            refine awd ?_
            refine kP _ _ _ _ ?_
            refine awd ?_
            exact e_pan (H' := rdH l c false true i) (rest := []) (.inr ⟨_, ⟨i, c, hi15, ⟨_, hget, .inr (.inr (.inl ⟨hk, hg⟩))⟩, h4, rfl⟩, rfl, rfl⟩) (.of_eq rfl) (by show N + 6 + _ ≤ 400; omega)
        · have hk : kd = 3 := by simpa using hc
          refine cal [5] (rLong_c c hc5) ?_ ?_
          · intro x H' h; rcases h with ⟨hg, h1, h2⟩ | ⟨hg, h1, h2⟩ <;> first | (cases h1; done) | (cases h1; subst h2)
            · first | (refine akc ?_) | (refine aec ?_)
              obtain ⟨e1, e2, e3⟩ := long_ok hg
              have hC2 := refRLong_c c false hc5
              rw [e1, e2, e3] at hC2
              refine awd ?_
              refine cal [1] (hC2) ?_ ?_
              · refine ret1 ?_; first | (refine akc ?_) | (refine aec ?_)
                refine awd ?_
                rw [beq_self_eq_true]
                refine awd ?_
                refine kN (c.drop 8) (N + 7) _ _ _ ⟨(by rw [List.length_drop]; omega), (by omega)⟩ (.to [] ?_ ?_ (Nat.le_refl (N + 13)))
                · unfold rdSt
                  (repeat' (first | (with_reducible exact .nil) | (refine .cons ?_ ?_) | (exact Wk.dead _) | (with_reducible exact Wk.refl _) | (exact WkL.nil))) <;> first | (exact Wk.eq rfl) | (exact Wk.int (w64 (by omega) (by omega))) | (exact Wk.int (by simp)) | (exact Wk.int (by simp; omega)) | (exact Wk.eq (by simp))
                · exact (List.perm_append_comm (l₁ := [_]) (l₂ := [_, _])).append_right _
              · first | (exact retN) | (exact retP)
          · intro x H' h; rcases h with ⟨hg, h1, h2⟩ | ⟨hg, h1, h2⟩ <;> first | (cases h1; done) | (cases h1; subst h2)
            refine awd ?_
            refine kP _ _ _ _ ?_
            refine awd ?_
            exact e_pan (H' := rdH l c false true i) (rest := []) (.inr ⟨_, ⟨i, c, hi15, ⟨_, hget, .inr (.inr (.inr (.inl ⟨hk, hg⟩)))⟩, h4, rfl⟩, rfl, rfl⟩) (.of_eq rfl) (by show N + 6 + _ ≤ 400; omega)
        · have hk : kd = 4 := by simpa using hc
          refine cal [5] (rFloat_c c hc5) ?_ ?_
          · intro x H' h; rcases h with ⟨hg, h1, h2⟩ | ⟨hg, h1, h2⟩ <;> first | (cases h1; done) | (cases h1; subst h2)
            · first | (refine akc ?_) | (refine aec ?_)
              have hx : ubn (c.take 8) 0 < 18446744073709551616 := by
                have := ubn_take c 8
                have e : (256 : Nat) ^ 8 = 18446744073709551616 := by decide
                omega
              refine awd ?_
              refine cal [] (refBits_c (ubn (c.take 8) 0) hx) ?_ ?_
              · refine ret1 ?_; first | (refine akc ?_) | (refine aec ?_)
                refine awd ?_
                refine cal [1] (refRFloat_c c hc5) ?_ ?_
                · intro x H' h
                  rcases h with ⟨_, q1, q2⟩ | ⟨q, _⟩
                  · cases q1; subst q2
                    first | (refine akc ?_) | (refine aec ?_)
                    refine awd ?_
                    refine cal [] (refBits_c (ubn (c.take 8) 0) hx) ?_ ?_
                    · refine ret1 ?_; first | (refine akc ?_) | (refine aec ?_)
                      refine awd ?_
                      rw [beq_self_eq_true]
                      refine awd ?_
                      refine kN (c.drop 8) (N + 8) _ _ _ ⟨(by rw [List.length_drop]; omega), (by omega)⟩ (.to [] ?_ ?_ (Nat.le_refl (N + 14)))
                      · unfold rdSt
                        (repeat' (first | (with_reducible exact .nil) | (refine .cons ?_ ?_) | (exact Wk.dead _) | (with_reducible exact Wk.refl _) | (exact WkL.nil))) <;> first | (exact Wk.eq rfl) | (exact Wk.int (w64 (by omega) (by omega))) | (exact Wk.int (by simp)) | (exact Wk.int (by simp; omega)) | (exact Wk.eq (by simp))
                      · exact (List.perm_append_comm (l₁ := [_]) (l₂ := [_, _])).append_right _
                    · first | (exact retN) | (exact retP)
                  · exact (q hg).elim
                · intro x H' h
                  rcases h with ⟨_, q1, _⟩ | ⟨_, ⟨_, q1⟩, _⟩ <;> cases q1
              · first | (exact retN) | (exact retP)
          · intro x H' h; rcases h with ⟨hg, h1, h2⟩ | ⟨hg, h1, h2⟩ <;> first | (cases h1; done) | (cases h1; subst h2)
            refine awd ?_
            refine kP _ _ _ _ ?_
            refine awd ?_
            exact e_pan (H' := rdH l c false true i) (rest := []) (.inr ⟨_, ⟨i, c, hi15, ⟨_, hget, .inr (.inr (.inr (.inr (.inl ⟨hk, hg⟩))))⟩, h4, rfl⟩, rfl, rfl⟩) (.of_eq rfl) (by show N + 6 + _ ≤ 400; omega)
        · have hk : kd = 5 := by simpa using hc
          refine cal [5] (rText_c c mo hc5) ?_ ?_
          · intro x H' h; rcases h with ⟨hg, h1, h2⟩ | ⟨hg, h1, h2⟩ <;> first | (cases h1; done) | (cases h1; subst h2)
            · first | (refine akc ?_) | (refine aec ?_)
              refine awd ?_
              refine cal [1] (refRText_c c mo hc5) ?_ ?_
              · intro x H' h
                rcases h with ⟨_, q1, q2⟩ | ⟨q, _⟩
                · cases q1; subst q2
                  first | (refine akc ?_) | (refine aec ?_)
                  refine awd ?_
                  rw [beq_self_eq_true]
                  refine awd ?_
                  refine kN ((c.drop 4).drop (ubn (c.take 4) 0)) (N + 9) _ _ _ ⟨(by rw [List.length_drop, List.length_drop]; omega), (by omega)⟩ (.to [] ?_ ?_ (Nat.le_refl (N + 15)))
                  · unfold rdSt
                    (repeat' (first | (with_reducible exact .nil) | (refine .cons ?_ ?_) | (exact Wk.dead _) | (with_reducible exact Wk.refl _) | (exact WkL.nil))) <;> first | (exact Wk.eq rfl) | (exact Wk.int (w64 (by omega) (by omega))) | (exact Wk.int (by simp)) | (exact Wk.int (by simp; omega)) | (exact Wk.eq (by simp))
                  · exact (List.perm_append_comm (l₁ := [_]) (l₂ := [_, _])).append_right _
                · exact (q hg).elim
              · intro x H' h
                rcases h with ⟨_, q1, _⟩ | ⟨_, ⟨_, q1⟩, _⟩ <;> cases q1
          · intro x H' h; rcases h with ⟨hg, h1, h2⟩ | ⟨hg, h1, h2⟩ <;> first | (cases h1; done) | (cases h1; subst h2)
            refine awd ?_
            refine kP _ _ _ _ ?_
            refine awd ?_
            exact e_pan (H' := rdH l c false true i) (rest := []) (.inr ⟨_, ⟨i, c, hi15, ⟨_, hget, .inr (.inr (.inr (.inr (.inr ⟨hk, hg⟩))))⟩, h4, rfl⟩, rfl, rfl⟩) (.of_eq rfl) (by show N + 6 + _ ≤ 400; omega)
        · have hk : kd = 6 := by simpa using hc
          refine cal [5] (fail_c c) ?_ ?_
          · first | (exact retN) | (exact retP)
          · intro x H' h
            obtain ⟨q1, q2⟩ := h
            cases q1; subst q2
            refine awd ?_
            refine kP _ _ _ _ ?_
            refine awd ?_
            exact e_pan (H' := rdH l c false true i) (rest := [_]) (.inr ⟨_, ⟨i, c, hi15, ⟨_, hget, .inl hk⟩, h4, rfl⟩, rfl, rfl⟩) (List.perm_append_comm (l₁ := [_])) (by show N + 6 + _ ≤ 400; omega)
        · refine kN c N _ _ _ ⟨Nat.le_refl _, by omega⟩ (.to [] ?_ (.of_eq rfl) (Nat.le_refl (N + 6)))
          unfold rdSt
          (repeat' (first | (with_reducible exact .nil) | (refine .cons ?_ ?_) | (exact Wk.dead _) | (with_reducible exact Wk.refl _) | (exact WkL.nil))) <;> first | (exact Wk.eq rfl) | (exact Wk.int (w64 (by omega) (by omega))) | (exact Wk.int (by simp)) | (exact Wk.int (by simp; omega)) | (exact Wk.eq (by simp))
    · have he : min 15 l.length = i := by simp at *; omega
      refine e_ret (H' := (5, .box [.list (c.map brow) .free]) :: rdH l c false true i) (rest := []) rfl (.inl ⟨_, c, rdH l c false true i, by rw [he], rfl, rfl⟩) (.of_eq rfl) (by show N + 6 ≤ 400; omega)
    · have he : min 15 l.length = i := by simp at *; omega
      refine e_ret (H' := (5, .box [.list (c.map brow) .free]) :: rdH l c false true i) (rest := []) rfl (.inl ⟨_, c, rdH l c false true i, by rw [he], rfl, rfl⟩) (.of_eq rfl) (by show N + 6 ≤ 400; omega)
end Go.Proofs.Ytjklcpfkmnjjkaa
