/- Messages held against one another, by the document. -/
import Derived.Test.YtdfnepbhgifkkaaMr
namespace Go.Proofs.Ytdfnepbhgifkkaa
open Go.Am
set_option linter.unusedSimpArgs false
set_option linter.unusedVariables false
set_option maxRecDepth 100000
def rsSt (a b : Ms) (i : Nat) : ASt := ⟨[.dead, .dead, .ptr 0 0, .ptr 1 0, .dead, .v (.int .i64 i)] ++ List.replicate 124 .dead, [(1, .box (msrow b)), (0, .box (msrow a))], 10⟩
set_option maxHeartbeats 3200000 in
theorem refSameM_c (a b : Ms) (ha : a.l.length < 1000000000000) (hb : b.l.length < 1000000000000) : ACalls Try.prog 22 0 1000 [msv a, msv b] [] (sayR (a = b)) := by
  refine acalls_of tok dok (f := 22) ⟨Try.func22, rfl, by kernel_rfl⟩ ?_; refine c_start (fun _ h => h) ?_
  refine awd ?_
  refine aops_F (fun _ h => h) ?_
  repeat' (first | (refine awd1 ?_) | (((with_reducible refine is_aops ?_); refine o_split rfl rfl rfl (fun hc => ?_) (fun hc => ?_) <;> rw [hc])) | (((with_reducible refine is_cond ?_); refine c_cond rfl (fun hc => ?_) (fun hc => ?_))) | (((with_reducible refine is_aop ?_); refine a_pick rfl rfl (fun hc => ?_) (fun hc => ?_) <;> rw [hc])) | fail)
  all_goals first | (refine e_ret (H' := []) (rest := _) rfl ⟨_, ?_, rfl, rfl⟩ (.refl _) (Nat.le_of_ble_eq_true rfl); constructor <;> intro hh <;> (first | (cases hh; done) | (subst hh; simp at hc; done))) | skip
  have hlen : a.l.length = b.l.length := by simp at hc; omega
  have hE : a = b ↔ a.l = b.l := by
    clear hc
    cases a; cases b; simp_all
  refine c_loop2 (fun i (_ : Unit) => rsSt a b i) (fun i _ => i ≤ a.l.length ∧ a.l.take i = b.l.take i) (fun i _ => a.l.length - i) 0 () ⟨Nat.zero_le _, rfl⟩ (.to [] ?_ (.of_eq rfl) (Nat.le_of_ble_eq_true rfl)) ?_
  · unfold rsSt
    (repeat' (first | (with_reducible exact .nil) | (refine .cons ?_ ?_) | (exact Wk.dead _) | (with_reducible exact Wk.refl _) | (exact WkL.nil))) <;> first | (exact Wk.eq rfl) | (exact Wk.free _ _) | (exact Wk.int (w64 (by omega) (by omega))) | (exact Wk.int (by simp)) | (exact Wk.int (by simp; omega)) | (exact Wk.eq (by simp))
  · rintro i _ ⟨h1, h2⟩
    refine c_turn (n' := 10) (fun _ h => h) (fun _ h => h) rfl ?_
    repeat' (first | (refine awd1 ?_) | (((with_reducible refine is_aops ?_); refine o_split rfl rfl rfl (fun hc => ?_) (fun hc => ?_) <;> rw [hc])) | (((with_reducible refine is_cond ?_); refine c_cond rfl (fun hc => ?_) (fun hc => ?_))) | (((with_reducible refine is_aop ?_); refine a_pick rfl rfl (fun hc => ?_) (fun hc => ?_) <;> rw [hc])) | fail)
    · have hi : i < a.l.length := by simp at hc; omega
      have hu : a.l[i]? = some a.l[i] := List.getElem?_eq_getElem hi
      have hv : b.l[i]? = some (b.l[i]'(by omega)) := List.getElem?_eq_getElem (by omega)
      have hux := vtx hu
      have hvx := vtx hv
      have hne : ¬ a.l[i] = (b.l[i]'(by omega)) → ¬ a.l = b.l := fun h e => h (Option.some.inj (hu.symm.trans ((congrArg (fun l => l[i]?) e).trans hv)))
      generalize a.l[i] = u at *
      generalize b.l[i]'(by omega) = v at *
      refine awd ?_
      by_cases e1 : u.slot = v.slot
      · rw [show (u.slot != v.slot) = false by simp [e1]]
        refine awd ?_
        by_cases e2 : u.ballot = v.ballot
        · rw [show (u.ballot != v.ballot) = false by simp [e2]]
          refine awd ?_
          rw [ByteArray.toList_mk, ByteArray.toList_mk]
          by_cases e3 : u.v = v.v
          · have e : u = v := by cases u; cases v; simp_all
            rw [show (u.v == v.v) = true by simp [e3]]
            refine awd ?_
            rw [z64 (n := (i : Int) + 1) (by omega) (by omega)]
            refine k_loopJ (i + 1, ()) [] ⟨hi, take_next h2 hu hv e⟩ (by show a.l.length - (i + 1) < a.l.length - i; omega) ?_ ?_
            · unfold rsSt
              (repeat' (first | (with_reducible exact .nil) | (refine .cons ?_ ?_) | (exact Wk.dead _) | (with_reducible exact Wk.refl _) | (exact WkL.nil))) <;> first | (exact Wk.eq rfl) | (exact Wk.free _ _) | (exact Wk.int (w64 (by omega) (by omega))) | (exact Wk.int (by simp)) | (exact Wk.int (by simp; omega)) | (exact Wk.eq (by simp))
            · exact .of_eq rfl
          · rw [show (u.v == v.v) = false by simp [e3]]
            refine awd ?_
            exact e_ret (H' := []) (rest := _) rfl ⟨false, ⟨fun hh => (by cases hh), fun hh => absurd (hE.1 hh) (hne (fun hq => e3 (by rw [hq])))⟩, rfl, rfl⟩ (.refl _) (Nat.le_of_ble_eq_true rfl)
        · rw [show (u.ballot != v.ballot) = true by simp [e2]]
          refine awd ?_
          exact e_ret (H' := []) (rest := _) rfl ⟨false, ⟨fun hh => (by cases hh), fun hh => absurd (hE.1 hh) (hne (fun hq => e2 (by rw [hq])))⟩, rfl, rfl⟩ (.refl _) (Nat.le_of_ble_eq_true rfl)
      · rw [show (u.slot != v.slot) = true by simp [e1]]
        refine awd ?_
        exact e_ret (H' := []) (rest := _) rfl ⟨false, ⟨fun hh => (by cases hh), fun hh => absurd (hE.1 hh) (hne (fun hq => e1 (by rw [hq])))⟩, rfl, rfl⟩ (.refl _) (Nat.le_of_ble_eq_true rfl)
    · have hi : i = a.l.length := by simp at hc; omega
      have e : a.l = b.l := by
        have := h2
        rw [hi, List.take_length, hlen, List.take_length] at this
        exact this
      exact e_ret (H' := []) (rest := _) rfl ⟨true, ⟨fun _ => hE.2 e, fun _ => rfl⟩, rfl, rfl⟩ (.refl _) (Nat.le_of_ble_eq_true rfl)
end Go.Proofs.Ytdfnepbhgifkkaa
