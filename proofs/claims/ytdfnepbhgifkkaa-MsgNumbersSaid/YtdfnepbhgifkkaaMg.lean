/- MsgCuts, by contracts. -/
import Derived.Test.YtdfnepbhgifkkaaMe
namespace Go.Proofs.Ytdfnepbhgifkkaa
open Go.Am
set_option linter.unusedSimpArgs false
set_option linter.unusedVariables false
set_option maxRecDepth 100000
def kn : Mn := ⟨3, 0, 0, 0, 6, 0, 0, 0, [], []⟩
theorem kn_ok : kn.Ok := ⟨by decide, by decide, by decide, by decide, by decide, by decide, by decide, by decide, by decide, by decide, fun x hx => (List.not_mem_nil hx).elim⟩
theorem mencno_c : ACalls Try.prog 16 0 100000 [.agg zrow] [] (fun out H' => out = .ret (.tuple [.list [] .full, .v (.int .i64 1)]) ∧ H' = []) := by
  have hR := mright_c ⟨0, 0, 0, 0, 0, 0, 0, 0, [], []⟩ (by decide)
  rw [show rightB ⟨0, 0, 0, 0, 0, 0, 0, 0, [], []⟩ = false by decide] at hR
  refine acalls_of tok dok (f := 16) ⟨Try.func16, rfl, by kernel_rfl⟩ ?_; refine c_start (fun _ h => h) ?_
  refine awd ?_
  refine calw [] hR ?_ ?_ (hargs := .cons (LeA.agg' (.cons (LeA.refl _) (.cons (LeA.refl _) (.cons (LeA.refl _) (.cons (LeA.refl _) (.cons (LeA.refl _) (.cons (LeA.refl _) (.cons (LeA.refl _) (.cons (LeA.refl _) (.cons (LeA.free _ _) (.cons (LeA.free _ _) .nil))))))))))) .nil)
  · refine ret1 ?_; first | (refine akc ?_) | (refine aec ?_)
    refine awd ?_
    exact e_ret (H' := []) (rest := _) rfl ⟨rfl, rfl⟩ (.refl _) (Nat.le_of_ble_eq_true rfl)
  · first | (exact retN) | (exact retP)
theorem mknown_c : ACalls Try.prog 20 0 900000 [] [] (fun out H' => out = .ret (.v (.bool true)) ∧ H' = []) := by
  have hE := mencode_c kn kn_ok
  unfold msv at hE
  rw [mnrow_eq] at hE
  have hlen : (encM kn).length < 1000000000000 := by decide
  have hD := mdecode_c (encM kn) hlen
  have hP := pM_enc kn_ok []
  rw [List.append_nil] at hP
  refine acalls_of tok dok (f := 20) ⟨Try.func20, rfl, by kernel_rfl⟩ ?_; refine c_start (fun _ h => h) ?_
  refine awd ?_
  refine calw [] hE ?_ ?_ (hargs := .cons (LeA.agg' (.cons (LeA.refl _) (.cons (LeA.refl _) (.cons (LeA.refl _) (.cons (LeA.refl _) (.cons (LeA.refl _) (.cons (LeA.refl _) (.cons (LeA.refl _) (.cons (LeA.refl _) (.cons (LeA.free _ _) (.cons (LeA.free _ _) .nil))))))))))) .nil)
  · refine ret1 ?_; first | (refine akc ?_) | (refine aec ?_)
    refine awd ?_
    refine cal [] (hD) ?_ ?_
    · intro x H' hh
      rcases hh with ⟨m, e, ok, h', rfl⟩ | ⟨hno, _, _⟩
      · rw [hP] at e
        cases e
        cases h'
        first | (refine akc ?_) | (refine aec ?_)
        refine awd ?_
        refine cal [] (mencno_c) ?_ ?_
        · refine ret1 ?_; first | (refine akc ?_) | (refine aec ?_)
          refine awd ?_
          refine cal [] (mclient_c) ?_ ?_
          · refine ret1 ?_; first | (refine akc ?_) | (refine aec ?_)
            refine awd ?_
            exact e_ret (H' := []) (rest := _) rfl ⟨rfl, rfl⟩ (.refl _) (Nat.le_of_ble_eq_true rfl)
          · first | (exact retN) | (exact retP)
        · first | (exact retN) | (exact retP)
      · exact absurd kn_ok (hno kn hP)
    · intro x H' hh
      rcases hh with ⟨_, _, _, h', _⟩ | ⟨_, h', _⟩ <;> cases h'
  · first | (exact retN) | (exact retP)
end Go.Proofs.Ytdfnepbhgifkkaa
