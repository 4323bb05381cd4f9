/- MsgCuts, by contracts: the walk. -/
import Derived.Test.YtdfnepbhgifkkaaMf
import Derived.Test.YtdfnepbhgifkkaaMg

namespace Go.Proofs.Ytdfnepbhgifkkaa
open Go.Am
set_option linter.unusedSimpArgs false
set_option linter.unusedVariables false
set_option maxRecDepth 100000
theorem encM_len {m : Mn} (h : m.Ok) : 1 ≤ (encM m).length ∧ (encM m).length ≤ 17826200 := by
  have h1 := encVs_len h.votes
  have h2 := h.b
  have h3 := h.l
  unfold encM encH
  simp [be_len]
  omega
set_option maxHeartbeats 6400000 in
theorem mcuts_c (d : Ms) (hd : DOkM d) (cut : Int) (hcut : I64 cut) (more : UInt8) : ACalls Try.prog 4 0 3000000 [.agg (msrow d), .v (.int .i64 cut), .v (.int .u8 more.toNat)] [] (fun out H' => out = .ret (.v (.bool true)) ∧ H' = []) := by
  have hmd := mmade_c d hd
  obtain ⟨kd, g, f, t, bl, s, c, q, b, l⟩ := d
  refine acalls_of tok dok (f := 4) ⟨Try.func4, rfl, by kernel_rfl⟩ ?_; refine c_start (fun _ h => h) ?_
  refine awd ?_
  refine cal [] (hmd) ?_ ?_
  · intro x H' hh
    obtain ⟨m, ok, h', rfl⟩ := hh
    cases h'
    have hE := mencode_c m ok
    unfold msv at hE
    rw [mnrow_eq] at hE
    have hEl := encM_len ok
    obtain ⟨k, hk, hW⟩ := wn_c cut ((encM m).length - 1) hcut (by omega)
    rw [show ((((encM m).length - 1 : Nat)) : Int) = ((encM m).length : Int) - 1 by omega] at hW
    have hcutN := pM_cut ok k (by omega)
    have hmoreN := pM_more ok more
    have hD1 := mdecode_c ((encM m).take k) (by rw [List.length_take]; omega)
    have hD2 := mdecode_c (encM m ++ [more]) (by rw [List.length_append]; simp; omega)
    generalize encM m = E at *
    first | (refine akc ?_) | (refine aec ?_)
    refine awd ?_
    refine cal [] (hE) ?_ ?_
    · refine ret1 ?_; first | (refine akc ?_) | (refine aec ?_)
      refine awd ?_
      rw [List.length_map, show ((E.length : Int) == 0) = false by rw [beq_eq_false_iff_ne]; omega]
      refine awd ?_
      rw [List.length_map, z64 (n := (E.length : Int) - 1) (by omega) (by omega)]
      refine cal [] (hW) ?_ ?_
      · refine ret1 ?_; first | (refine akc ?_) | (refine aec ?_)
        refine awd ?_
        (with_reducible refine is_aop ?_); first | (refine a_qS rfl (fun _ h => h) ?_ ?_) | (refine a_qS rfl (qIx (fun _ h => h)) ?_ ?_) | (refine a_qS rfl (qAnd5 (fun _ h => h)) ?_ ?_) | (refine a_qS rfl (qStr (fun _ h => h)) ?_ ?_) | (refine a_qS rfl (qAnd4 (fun _ h => h)) ?_ ?_) | (refine a_qS rfl (qAnd2 (fun _ h => h)) ?_ ?_)
        · refine ⟨trivial, Int.natCast_nonneg k, Nat.zero_le _, ?_, brows E⟩
          rw [List.length_map, Int.toNat_natCast]; omega
        refine k_as (.list ((E.take k).map brow) .free) (by rw [List.map_take, List.drop_zero, Int.toNat_natCast]) ?_
        refine awd ?_
        refine cal [] (hD1) ?_ ?_
        · intro x H' hh
          rcases hh with ⟨m', e, _, _, _⟩ | ⟨_, h', rfl⟩
          · exact absurd e (hcutN m')
          · cases h'
            first | (refine akc ?_) | (refine aec ?_)
            refine awd ?_
            rw [show ([] : List (List AV)) ++ E.map brow ++ [[AV.v (.int .u8 (more.toNat : Int))]] = (E ++ [more]).map brow by rw [List.map_append]; rfl]
            refine calw [] (hD2) ?_ ?_
            · intro x H' hh
              rcases hh with ⟨m', e, _, _, _⟩ | ⟨_, h', rfl⟩
              · exact absurd e (hmoreN m')
              · cases h'
                first | (refine akc ?_) | (refine aec ?_)
                refine awd ?_
                refine cal [] (mknown_c) ?_ ?_
                · refine ret1 ?_; first | (refine akc ?_) | (refine aec ?_)
                  refine awd ?_
                  exact e_ret (H' := []) (rest := _) rfl ⟨rfl, rfl⟩ (.refl _) (Nat.le_of_ble_eq_true rfl)
                · first | (exact retN) | (exact retP)
            · intro x H' hh
              rcases hh with ⟨_, _, _, h', _⟩ | ⟨_, h', _⟩ <;> cases h'
        · intro x H' hh
          rcases hh with ⟨_, _, _, h', _⟩ | ⟨_, h', _⟩ <;> cases h'
      · first | (exact retN) | (exact retP)
    · first | (exact retN) | (exact retP)
  · intro x H' h; obtain ⟨_, _, h1, _⟩ := h; cases h1
end Go.Proofs.Ytdfnepbhgifkkaa
