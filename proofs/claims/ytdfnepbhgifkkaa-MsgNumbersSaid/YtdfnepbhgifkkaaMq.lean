/- Messages held against one another, by the program; which may be, by the document. -/
import Derived.Test.YtdfnepbhgifkkaaMr
namespace Go.Proofs.Ytdfnepbhgifkkaa
open Go.Am
set_option linter.unusedSimpArgs false
set_option linter.unusedVariables false
set_option maxRecDepth 100000
def eqSt (l m : List Vt) (i : Nat) : ASt := ⟨[.list (l.map vtrow) .free, .list (m.map vtrow) .free, .fn 60 []] ++ List.replicate 12 .dead ++ [.list (l.map vtrow) .free, .v (.int .i64 l.length), .v (.int .i64 i)] ++ List.replicate 14 .dead, [], 10⟩
theorem eqfunc_c (l m : List Vt) (h : l.length < 1000000000000) (h' : m.length < 1000000000000) : ACalls Try.prog 59 0 1000 [.list (l.map vtrow) .free, .list (m.map vtrow) .free, .fn 60 []] [] (sayR (l = m)) := by
  refine acalls_of tok dok (f := 59) ⟨Try.func59, rfl, by kernel_rfl⟩ ?_; refine c_start (fun _ h => h) ?_
  repeat' (first | (refine awd1 ?_) | (((with_reducible refine is_aops ?_); refine o_split rfl rfl rfl (fun hc => ?_) (fun hc => ?_) <;> rw [hc])) | (((with_reducible refine is_cond ?_); refine c_cond rfl (fun hc => ?_) (fun hc => ?_))) | (((with_reducible refine is_aop ?_); refine a_pick rfl rfl (fun hc => ?_) (fun hc => ?_) <;> rw [hc])) | fail)
  · have hne : l.length ≠ m.length := by simp at hc; omega
    exact e_ret (H' := []) (rest := _) rfl ⟨false, ⟨fun hh => (by cases hh), fun hh => absurd (congrArg List.length hh) hne⟩, rfl, rfl⟩ (.refl _) (Nat.le_of_ble_eq_true rfl)
  · have hlen : l.length = m.length := by simp at hc; omega
    refine c_loop2 (fun i (_ : Unit) => eqSt l m i) (fun i _ => i ≤ l.length ∧ l.take i = m.take i) (fun i _ => l.length - i) 0 () ⟨Nat.zero_le _, rfl⟩ (.to [] ?_ (.of_eq rfl) (Nat.le_of_ble_eq_true rfl)) ?_
    · unfold eqSt
      (repeat' (first | (with_reducible exact .nil) | (refine .cons ?_ ?_) | (exact Wk.dead _) | (with_reducible exact Wk.refl _) | (exact WkL.nil))) <;> first | (exact Wk.eq rfl) | (exact Wk.free _ _) | (exact Wk.int (w64 (by omega) (by omega))) | (exact Wk.int (by simp)) | (exact Wk.int (by simp; omega)) | (exact Wk.eq (by simp))
    · rintro i _ ⟨h1, h2⟩
      refine c_turn (n' := 10) (fun _ h => h) (fun _ h => h) rfl ?_
      repeat' (first | (refine awd1 ?_) | (((with_reducible refine is_aops ?_); refine o_split rfl rfl rfl (fun hc => ?_) (fun hc => ?_) <;> rw [hc])) | (((with_reducible refine is_cond ?_); refine c_cond rfl (fun hc => ?_) (fun hc => ?_))) | (((with_reducible refine is_aop ?_); refine a_pick rfl rfl (fun hc => ?_) (fun hc => ?_) <;> rw [hc])) | fail)
      · have hi : i < l.length := by simp at hc; omega
        have hu : l[i]? = some l[i] := List.getElem?_eq_getElem hi
        have hv : m[i]? = some (m[i]'(by omega)) := List.getElem?_eq_getElem (by omega)
        have hux := vtx hu
        have hvx := vtx hv
        have hne : ¬ l[i] = (m[i]'(by omega)) → ¬ l = m := fun h e => h (Option.some.inj (hu.symm.trans ((congrArg (fun l => l[i]?) e).trans hv)))
        generalize l[i] = u at *
        generalize m[i]'(by omega) = v at *
        have hvv := vsame_c u v
        refine awd ?_
        refine cal [] (hvv) ?_ ?_
        · intro x H' hh
          obtain ⟨r, hr, h', rfl⟩ := hh
          cases h'
          first | (refine akc ?_) | (refine aec ?_)
          cases r
          · refine awd ?_
            exact e_ret (H' := []) (rest := _) rfl ⟨false, ⟨fun hh => (by cases hh), fun hh => absurd hh (hne (fun hq => (by simp at hr; exact hr hq)))⟩, rfl, rfl⟩ (.refl _) (Nat.le_of_ble_eq_true rfl)
          · refine awd ?_
            refine k_loopI (i + 1, ()) ⟨hi, take_next h2 hu hv (hr.1 rfl)⟩ (by show l.length - (i + 1) < l.length - i; omega) ?_
            unfold eqSt
            (repeat' (first | (with_reducible exact .nil) | (refine .cons ?_ ?_) | (exact Wk.dead _) | (with_reducible exact Wk.refl _) | (exact WkL.nil))) <;> first | exact Wk.eq rfl | exact Wk.int (z64 (by omega) (by omega))
        · intro x H' hh
          obtain ⟨_, _, h', _⟩ := hh
          cases h'
      · have hi : i = l.length := by simp at hc; omega
        have e : l = m := by
          have := h2
          rw [hi, List.take_length, hlen, List.take_length] at this
          exact this
        exact e_ret (H' := []) (rest := _) rfl ⟨true, ⟨fun _ => e, fun _ => rfl⟩, rfl, rfl⟩ (.refl _) (Nat.le_of_ble_eq_true rfl)
def wB (a b : Ms) : Bool := a.kind == b.kind && (a.group == b.group && (a.frm == b.frm && a.to == b.to))
def nB (a b : Ms) : Bool := a.ballot == b.ballot && (a.slot == b.slot && (a.client == b.client && a.seq == b.seq))
theorem ms_eq (a b : Ms) : a = b ↔ wB a b = true ∧ nB a b = true ∧ a.b = b.b ∧ a.l = b.l := by
  cases a; cases b
  simp [wB, nB]
  constructor
  · rintro ⟨h1, h2, h3, h4, h5, h6, h7, h8, h9, h10⟩
    exact ⟨⟨h1, h2, h3, h4⟩, ⟨h5, h6, h7, h8⟩, h9, h10⟩
  · rintro ⟨⟨h1, h2, h3, h4⟩, ⟨h5, h6, h7, h8⟩, h9, h10⟩
    exact ⟨h1, h2, h3, h4, h5, h6, h7, h8, h9, h10⟩
def msSt1 (a b : Ms) (w : Bool) : ASt := ⟨[.dead, .dead, .ptr 0 0, .ptr 1 0, .dead, .v (.bool w)] ++ List.replicate 73 .dead, [(1, .box (msrow b)), (0, .box (msrow a))], 10⟩
def msSt2 (a b : Ms) (w n : Bool) : ASt := ⟨[.dead, .dead, .ptr 0 0, .ptr 1 0, .dead, .v (.bool w), .v (.bool n)] ++ List.replicate 72 .dead, [(1, .box (msrow b)), (0, .box (msrow a))], 10⟩
set_option maxHeartbeats 3200000 in
theorem msameM_c (a b : Ms) (ha : a.l.length < 1000000000000) (hb : b.l.length < 1000000000000) : ACalls Try.prog 27 0 2000 [msv a, msv b] [] (sayR (a = b)) := by
  have hq := eqfunc_c a.l b.l ha hb
  have hE := ms_eq a b
  refine acalls_of tok dok (f := 27) ⟨Try.func27, rfl, by kernel_rfl⟩ ?_; refine c_start (fun _ h => h) ?_
  repeat' (first | ((with_reducible refine is_aops ?_); first | (refine o_op rfl ?_) | (refine o_yes rfl rfl rfl ?_) | (refine o_no rfl rfl rfl (fun _ h => h) ?_) | (refine o_not rfl rfl rfl (fun _ h => h) ?_)) | ((with_reducible refine is_opK ?_); first | (refine k_op' (fun _ h => h) ?_)) | ((with_reducible refine is_aop ?_); first | (refine a_q1 rfl (fun _ h => h) ?_) | (refine a_box rfl (fun _ h => h) ?_) | (refine a_alloc rfl (fun _ h => h) ?_) | (refine a_storev rfl (fun _ h => h) ?_) | (refine a_store rfl (fun _ h => h) ?_) | (refine a_panic rfl rfl ?_)) | ((with_reducible refine is_aop ?_); refine a_qS rfl (qIx (fun _ h => h)) (by assumption) ?_) | (with_reducible refine o_nil ?_) | fail)
  refine c_seq ?_
  refine c_region ?_
  repeat' (first | ((with_reducible refine is_aops ?_); first | (refine o_op rfl ?_) | (refine o_yes rfl rfl rfl ?_) | (refine o_no rfl rfl rfl (fun _ h => h) ?_) | (refine o_not rfl rfl rfl (fun _ h => h) ?_)) | ((with_reducible refine is_opK ?_); first | (refine k_op' (fun _ h => h) ?_)) | ((with_reducible refine is_aop ?_); first | (refine a_q1 rfl (fun _ h => h) ?_) | (refine a_box rfl (fun _ h => h) ?_) | (refine a_alloc rfl (fun _ h => h) ?_) | (refine a_storev rfl (fun _ h => h) ?_) | (refine a_store rfl (fun _ h => h) ?_) | (refine a_panic rfl rfl ?_)) | ((with_reducible refine is_aop ?_); refine a_qS rfl (qIx (fun _ h => h)) (by assumption) ?_) | (with_reducible refine o_nil ?_) | fail)
  refine k_seq ?_
  refine c_seq ?_
  refine c_cutx (fun (_ : Unit) (_ : Unit) => msSt1 a b (wB a b)) (fun _ _ => True) ?_ ?_
  · rintro _ _ _
    refine c_turn (n' := 10) (fun _ h => h) (fun _ h => h) rfl ?_
    refine c_seq ?_
    refine c_cutx (fun (_ : Unit) (_ : Unit) => msSt2 a b (wB a b) (nB a b)) (fun _ _ => True) ?_ ?_
    · rintro _ _ _
      generalize wB a b = w at *
      generalize nB a b = n at *
      refine c_turn (n' := 10) (fun _ h => h) (fun _ h => h) rfl ?_
      refine awd ?_
      cases w
      · refine awd ?_
        exact e_ret (H' := []) (rest := _) rfl ⟨false, (by rw [hE]; simp), rfl, rfl⟩ (.refl _) (Nat.le_of_ble_eq_true rfl)
      · refine awd ?_
        cases n
        · refine awd ?_
          exact e_ret (H' := []) (rest := _) rfl ⟨false, (by rw [hE]; simp), rfl, rfl⟩ (.refl _) (Nat.le_of_ble_eq_true rfl)
        · refine awd ?_
          rw [ByteArray.toList_mk, ByteArray.toList_mk]
          by_cases e : a.b = b.b
          · rw [show (a.b == b.b) = true by simp [e]]
            refine awd ?_
            refine cal [] (hq) ?_ ?_
            · intro x H' hh
              obtain ⟨r, hr, h', rfl⟩ := hh
              cases h'
              first | (refine akc ?_) | (refine aec ?_)
              refine awd ?_
              exact e_ret (H' := []) (rest := _) rfl ⟨r, (by rw [hr, hE]; simp [e]), rfl, rfl⟩ (.refl _) (Nat.le_of_ble_eq_true rfl)
            · intro x H' hh
              obtain ⟨_, _, h', _⟩ := hh
              cases h'
          · rw [show (a.b == b.b) = false by simp [e]]
            refine awd ?_
            exact e_ret (H' := []) (rest := _) rfl ⟨false, (by rw [hE]; simp [e]), rfl, rfl⟩ (.refl _) (Nat.le_of_ble_eq_true rfl)
    · intro Kx kN kP kR kE
      repeat' (first | (refine awd1 ?_) | (((with_reducible refine is_aops ?_); refine o_split rfl rfl rfl (fun hc => ?_) (fun hc => ?_) <;> rw [hc])) | (((with_reducible refine is_cond ?_); refine c_cond rfl (fun hc => ?_) (fun hc => ?_))) | (((with_reducible refine is_aop ?_); refine a_pick rfl rfl (fun hc => ?_) (fun hc => ?_) <;> rw [hc])) | fail)
      all_goals
        refine kN () () _ _ _ trivial (.to [] ?_ (.of_eq rfl) (Nat.le_of_ble_eq_true rfl))
        unfold msSt2
        (repeat' (first | (with_reducible exact .nil) | (refine .cons ?_ ?_) | (exact Wk.dead _) | (with_reducible exact Wk.refl _) | (exact WkL.nil))) <;> first | exact Wk.eq rfl | exact Wk.eq (congrArg (fun z => AV.v (.bool z)) (by unfold nB; simp_all))
  · intro Kx kN kP kR kE
    repeat' (first | (refine awd1 ?_) | (((with_reducible refine is_aops ?_); refine o_split rfl rfl rfl (fun hc => ?_) (fun hc => ?_) <;> rw [hc])) | (((with_reducible refine is_cond ?_); refine c_cond rfl (fun hc => ?_) (fun hc => ?_))) | (((with_reducible refine is_aop ?_); refine a_pick rfl rfl (fun hc => ?_) (fun hc => ?_) <;> rw [hc])) | fail)
    all_goals
      refine kN () () _ _ _ trivial (.to [] ?_ (.of_eq rfl) (Nat.le_of_ble_eq_true rfl))
      unfold msSt1
      (repeat' (first | (with_reducible exact .nil) | (refine .cons ?_ ?_) | (exact Wk.dead _) | (with_reducible exact Wk.refl _) | (exact WkL.nil))) <;> first | exact Wk.eq rfl | exact Wk.eq (congrArg (fun z => AV.v (.bool z)) (by unfold wB; simp_all))
end Go.Proofs.Ytdfnepbhgifkkaa
