/- Messages written and read, by both. -/
import Derived.Test.YtdfnepbhgifkkaaMt
import Derived.Test.YtdfnepbhgifkkaaMu
import Derived.Test.YtdfnepbhgifkkaaMe
import Derived.Test.YtdfnepbhgifkkaaMp
namespace Go.Proofs.Ytdfnepbhgifkkaa
open Go.Am
set_option linter.unusedSimpArgs false
set_option linter.unusedVariables false
set_option maxRecDepth 100000
theorem mencnoA_c (m : Ms) (h : m.l.length < 1000000000000) (hr : rightB m = false) : ACalls Try.prog 16 0 100000 [.agg (msrow m)] [] (fun out H' => out = .ret (.tuple [.list [] .full, .v (.int .i64 1)]) ∧ H' = []) := by
  have hR := mright_c m h
  rw [hr] at hR
  unfold msv at hR
  obtain ⟨kd, g, f, t, bl, s, c, q, b, l⟩ := m
  refine acalls_of tok dok (f := 16) ⟨Try.func16, rfl, by kernel_rfl⟩ ?_; refine c_start (fun _ h => h) ?_
  refine awd ?_
  refine cal [] (hR) ?_ ?_
  · refine ret1 ?_; first | (refine akc ?_) | (refine aec ?_)
    refine awd ?_
    exact e_ret (H' := []) (rest := _) rfl ⟨rfl, rfl⟩ (.refl _) (Nat.le_of_ble_eq_true rfl)
  · first | (exact retN) | (exact retP)
theorem encodes_c (m : Ms) (h : m.l.length < 1000000000000) : ACalls Try.prog 24 0 200000 [.agg (msrow m)] [] (fun out H' => out = .ret (.v (.bool true)) ∧ H' = []) := by
  have hR := mright_c m h
  have hR' := refRightM_c m h
  unfold msv at hR hR'
  cases hr : rightB m
  · have hE := mencnoA_c m h hr
    rw [hr] at hR hR'
    obtain ⟨kd, g, f, t, bl, s, c, q, b, l⟩ := m
    refine acalls_of tok dok (f := 24) ⟨Try.func24, rfl, by kernel_rfl⟩ ?_; refine c_start (fun _ h => h) ?_
    repeat' (first | (refine awd1 ?_) | (((with_reducible refine is_aops ?_); refine o_split rfl rfl rfl (fun hc => ?_) (fun hc => ?_) <;> first | (exfalso; (simp only [decide_eq_true_eq, decide_eq_false_iff_not, beq_iff_eq, beq_eq_false_iff_ne, bne_iff_ne, bne_eq_false_iff_eq, List.length_map, Int.not_lt, Int.not_le] at hc); omega) | rw [hc])) | (((with_reducible refine is_cond ?_); refine c_cond rfl (fun hc => ?_) (fun hc => ?_) <;> first | (exfalso; (simp only [decide_eq_true_eq, decide_eq_false_iff_not, beq_iff_eq, beq_eq_false_iff_ne, bne_iff_ne, bne_eq_false_iff_eq, List.length_map, Int.not_lt, Int.not_le] at hc); omega) | skip)) | (((with_reducible refine is_aop ?_); refine a_pick rfl rfl (fun hc => ?_) (fun hc => ?_) <;> first | (exfalso; (simp only [decide_eq_true_eq, decide_eq_false_iff_not, beq_iff_eq, beq_eq_false_iff_ne, bne_iff_ne, bne_eq_false_iff_eq, List.length_map, Int.not_lt, Int.not_le] at hc); omega) | rw [hc])) | ((with_reducible refine ret1 ?_); first | (refine akc ?_) | (refine aec ?_)) | (with_reducible exact retN) | (with_reducible exact retP) | (refine cal [] (hE) ?_ ?_) | (refine cal [] (hR) ?_ ?_) | (refine cal [] (hR') ?_ ?_) | fail)
    exact e_ret (H' := []) (rest := _) rfl ⟨rfl, rfl⟩ (.refl _) (Nat.le_of_ble_eq_true rfl)
  · obtain ⟨n, rfl, ok⟩ := ms_of hr
    have hE := mencode_c n ok
    have hF := bAR_list (refEncodeM_c n ok)
    unfold msv at hE
    rw [hr] at hR hR'
    rw [mnrow_eq] at hR hR' hE ⊢
    generalize encM n = E at *
    refine acalls_of tok dok (f := 24) ⟨Try.func24, rfl, by kernel_rfl⟩ ?_; refine c_start (fun _ h => h) ?_
    repeat' (first | (refine awd1 ?_) | (((with_reducible refine is_aops ?_); refine o_split rfl rfl rfl (fun hc => ?_) (fun hc => ?_) <;> first | (exfalso; (simp only [decide_eq_true_eq, decide_eq_false_iff_not, beq_iff_eq, beq_eq_false_iff_ne, bne_iff_ne, bne_eq_false_iff_eq, List.length_map, Int.not_lt, Int.not_le] at hc); omega) | rw [hc])) | (((with_reducible refine is_cond ?_); refine c_cond rfl (fun hc => ?_) (fun hc => ?_) <;> first | (exfalso; (simp only [decide_eq_true_eq, decide_eq_false_iff_not, beq_iff_eq, beq_eq_false_iff_ne, bne_iff_ne, bne_eq_false_iff_eq, List.length_map, Int.not_lt, Int.not_le] at hc); omega) | skip)) | (((with_reducible refine is_aop ?_); refine a_pick rfl rfl (fun hc => ?_) (fun hc => ?_) <;> first | (exfalso; (simp only [decide_eq_true_eq, decide_eq_false_iff_not, beq_iff_eq, beq_eq_false_iff_ne, bne_iff_ne, bne_eq_false_iff_eq, List.length_map, Int.not_lt, Int.not_le] at hc); omega) | rw [hc])) | ((with_reducible refine ret1 ?_); first | (refine akc ?_) | (refine aec ?_)) | (with_reducible exact retN) | (with_reducible exact retP) | (refine cal [] (hE) ?_ ?_) | (refine cal [] (hR) ?_ ?_) | (refine cal [] (hR') ?_ ?_) | (refine cal [] (hF) ?_ ?_) | fail)
    exact e_ret (H' := []) (rest := _) rfl ⟨congrArg (fun z => AOut.ret (.v (.bool z))) (beq_self_eq_true _), rfl⟩ (.refl _) (Nat.le_of_ble_eq_true rfl)
theorem decodes_c (l : List UInt8) (h : l.length < 1000000000000) : ACalls Try.prog 25 0 900000 [.list (l.map brow) .free] [] (fun out H' => out = .ret (.v (.bool true)) ∧ H' = []) := by
  have hD := mdecode_c l h
  have hF := refDecodeM_c l h
  have hZ := refSameM_c ⟨0, 0, 0, 0, 0, 0, 0, 0, [], []⟩ ⟨0, 0, 0, 0, 0, 0, 0, 0, [], []⟩ (by decide) (by decide)
  refine acalls_of tok dok (f := 25) ⟨Try.func25, rfl, by kernel_rfl⟩ ?_; refine c_start (fun _ h => h) ?_
  refine awd ?_
  refine cal [] (hD) ?_ ?_
  · intro xx H' hh
    rcases hh with ⟨m, e, ok, h', rfl⟩ | ⟨hno, h', rfl⟩
    · cases h'
      first | (refine akc ?_) | (refine aec ?_)
      refine awd ?_
      refine cal [] (hF) ?_ ?_
      · intro xx H' hh
        rcases hh with ⟨m', e', ok', h', rfl⟩ | ⟨hno, h', rfl⟩
        · obtain rfl : m = m' := by rw [e] at e'; cases e'; rfl
          cases h'
          first | (refine akc ?_) | (refine aec ?_)
          refine awd ?_
          have hS := refSameM_c m.ms m.ms (by have := ok.l; show (m.l.map Vn.vt).length < _; rw [List.length_map]; omega) (by have := ok.l; show (m.l.map Vn.vt).length < _; rw [List.length_map]; omega)
          unfold msv at hS
          rw [mnrow_eq] at hS
          refine cal [] (hS) ?_ ?_
          · intro xx H' hh
            obtain ⟨r, hr, h', rfl⟩ := hh
            cases h'
            obtain rfl : r = true := hr.2 rfl
            first | (refine akc ?_) | (refine aec ?_)
            refine awd ?_
            exact e_ret (H' := []) (rest := _) rfl ⟨rfl, rfl⟩ (.refl _) (Nat.le_of_ble_eq_true rfl)
          · intro xx H' hh
            obtain ⟨_, _, h', _⟩ := hh
            cases h'
        · exact absurd ok (hno m e)
      · intro xx H' hh
        rcases hh with ⟨_, _, _, h', _⟩ | ⟨_, h', _⟩ <;> cases h'
    · cases h'
      first | (refine akc ?_) | (refine aec ?_)
      refine awd ?_
      refine cal [] (hF) ?_ ?_
      · intro xx H' hh
        rcases hh with ⟨m', e', ok', h', rfl⟩ | ⟨hno, h', rfl⟩
        · exact absurd ok' (hno m' e')
        · cases h'
          first | (refine akc ?_) | (refine aec ?_)
          refine awd ?_
          refine calw [] (hZ) ?_ ?_
          · intro xx H' hh
            obtain ⟨r, hr, h', rfl⟩ := hh
            cases h'
            obtain rfl : r = true := hr.2 rfl
            first | (refine akc ?_) | (refine aec ?_)
            refine awd ?_
            exact e_ret (H' := []) (rest := _) rfl ⟨rfl, rfl⟩ (.refl _) (Nat.le_of_ble_eq_true rfl)
          · intro xx H' hh
            obtain ⟨_, _, h', _⟩ := hh
            cases h'
      · intro xx H' hh
        rcases hh with ⟨_, _, _, h', _⟩ | ⟨_, h', _⟩ <;> cases h'
  · intro xx H' hh
    rcases hh with ⟨_, _, _, h', _⟩ | ⟨_, h', _⟩ <;> cases h'
end Go.Proofs.Ytdfnepbhgifkkaa
