/- 'reads' answers true: the program reads as the document says. -/
import Derived.Test.YtjklcpfkmnjjkaaOcJ

namespace Go.Proofs.Ytjklcpfkmnjjkaa
open Go.Am
set_option linter.unusedSimpArgs false
set_option linter.unusedVariables false

theorem keep_cap : keepL 5 [.ptr 0 0, .ptr 3 0, .ptr 2 0, .ptr 4 0] := fun f hf => by simp [AV.renL, AV.ren, hf]
theorem keep_rdH (l : List Ask) (b : List UInt8) (bad same : Bool) (i : Nat) : keepH 5 (rdH l b bad same i) := fun f hf => by simp [renH, Res.ren, AV.renL, AV.ren, hf, rdH, Own.ren]
theorem read_reads (l : List Ask) (b : List UInt8) (h : l.length ≤ 9223372036854775807) (hb : b.length < 70368744177664) : ACalls Try.prog 32 5 402 [.list (b.map brow) .free, .fn 62 [.ptr 0 0, .ptr 3 0, .ptr 2 0, .ptr 4 0]] (rdH l b false true 0)
    fun out H' => (∃ l', H' = rdH l l' false true (min 15 l.length) ∧ out = .ret (.v (.bool (decide ((((l'.map brow).length : Nat) : Int) = 0))))) ∨ (stops l b H' ∧ out = .ret (.v (.bool false))) :=
  read_c (m := 5) (by decide) (reads1_c l b h hb) keep_cap (keep_rdH _ _ _ _ _) (fun l' H' h => by rw [h]; exact keep_rdH _ _ _ _ _) (fun H' ⟨i, b', _, _, _, h⟩ => by rw [h]; exact keep_rdH _ _ _ _ _)
set_option maxRecDepth 100000 in
set_option maxHeartbeats 3200000 in
theorem reads_c (l : List Ask) (b : List UInt8) (h : l.length ≤ 9223372036854775807) (hb : b.length < 70368744177664) : ACalls Try.prog 27 0 500 [.list (b.map brow) .free, .list (l.map arow) .free] [] (fun out H' => out = .ret (.v (.bool true)) ∧ H' = []) := by
  refine acalls_of tok dok (f := 27) ⟨Try.func27, rfl, by kernel_rfl⟩ ?_; refine c_start (fun _ h => h) ?_
  refine awd ?_
  refine cal [0, 1, 2, 3, 4] (read_reads l b h hb) ?_ ?_
  · intro x H' h
    rcases h with ⟨l', rfl, q1⟩ | ⟨⟨i, b', hi15, ⟨a, hget, hwhy⟩, hle, rfl⟩, q1⟩
    · cases q1
      refine akc ?_
      have hm : min 15 l.length ≤ 15 ∧ min 15 l.length ≤ l.length ∧ (min 15 l.length = 15 ∨ min 15 l.length = l.length) := by omega
      generalize min 15 l.length = m at *
      repeat' (first | (refine awd1 ?_) | (((with_reducible refine is_aops ?_); refine o_split rfl rfl rfl (fun hc => ?_) (fun hc => ?_) <;> rw [hc])) | (((with_reducible refine is_cond ?_); refine c_cond rfl (fun hc => ?_) (fun hc => ?_))) | (((with_reducible refine is_aop ?_); refine a_pick rfl rfl (fun hc => ?_) (fun hc => ?_) <;> rw [hc])) | fail)
      · simp at *
        omega
      ·
        refine cal [1] (refWhole_c l' false) ?_ ?_
        · refine ret1 ?_; first | (refine akc ?_) | (refine aec ?_)
          refine awd ?_
          refine e_ret (H' := []) (rest := _) rfl ⟨congrArg (fun z => AOut.ret (.v (.bool z))) ?_, rfl⟩ (.of_eq rfl) (Nat.le_of_ble_eq_true rfl)
          simp
        · first | (exact retN) | (exact retP)
      ·
        refine cal [1] (refWhole_c l' false) ?_ ?_
        · refine ret1 ?_; first | (refine akc ?_) | (refine aec ?_)
          refine awd ?_
          refine e_ret (H' := []) (rest := _) rfl ⟨congrArg (fun z => AOut.ret (.v (.bool z))) ?_, rfl⟩ (.of_eq rfl) (Nat.le_of_ble_eq_true rfl)
          simp
        · first | (exact retN) | (exact retP)
    · cases q1
      refine akc ?_
      have hi : i < l.length := by
        rcases Nat.lt_or_ge i l.length with h1 | h1
        · exact h1
        · rw [List.getElem?_eq_none h1] at hget; cases hget
      have hix : 0 ≤ (i : Int) ∧ (l.map arow)[(i : Int).toNat]? = some (arow a) ∧ (arow a).length = 5 := ⟨Int.natCast_nonneg i, (by rw [Int.toNat_natCast, List.getElem?_map, hget]; rfl), rfl⟩
      obtain ⟨kd, mo, nn, xx, bb⟩ := a
      refine awd ?_
      rw [decide_eq_true (show (i : Int) < ((l.map arow).length : Int) by simp; omega)]
      refine awd ?_
      rw [decide_eq_true (show (i : Int) < 15 by omega)]
      refine awd ?_
      by_cases h6 : kd = 6
      · subst h6
        refine awd ?_
        refine cal [1] (refFail_c b' false) ?_ ?_
        · refine ret1 ?_; first | (refine akc ?_) | (refine aec ?_)
          refine awd ?_
          refine cal [1] (refWhole_c [] true) ?_ ?_
          · refine ret1 ?_; first | (refine akc ?_) | (refine aec ?_)
            refine awd ?_
            refine e_ret (H' := []) (rest := _) rfl ⟨congrArg (fun z => AOut.ret (.v (.bool z))) ?_, rfl⟩ (.of_eq rfl) (Nat.le_of_ble_eq_true rfl)
            simp
          · first | (exact retN) | (exact retP)
        · first | (exact retN) | (exact retP)
      · have hf : failsB ⟨kd, mo, nn, xx, bb⟩ b' := hwhy.resolve_left h6
        ((with_reducible refine is_cond ?_); refine c_cond rfl (fun hc => ?_) (fun hc => ?_))
        · refine awd ?_
          refine cal [1] (rest_c ⟨kd, mo, nn, xx, bb⟩ b' hf (by omega)) ?_ ?_
          · refine ret1 ?_; first | (refine akc ?_) | (refine aec ?_)
            refine awd ?_
            refine cal [1] (refWhole_c [] true) ?_ ?_
            · refine ret1 ?_; first | (refine akc ?_) | (refine aec ?_)
              refine awd ?_
              refine e_ret (H' := []) (rest := _) rfl ⟨congrArg (fun z => AOut.ret (.v (.bool z))) ?_, rfl⟩ (.of_eq rfl) (Nat.le_of_ble_eq_true rfl)
              simp
            · first | (exact retN) | (exact retP)
          · first | (exact retN) | (exact retP)
        · exfalso
          simp at hc
          omega
  · intro x H' h
    rcases h with ⟨_, _, h1⟩ | ⟨_, h1⟩ <;> cases h1
end Go.Proofs.Ytjklcpfkmnjjkaa
