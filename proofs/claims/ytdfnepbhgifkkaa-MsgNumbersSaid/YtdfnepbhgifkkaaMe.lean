/- Messages (chapter 16): decoded, by contracts. -/
import Derived.Test.YtdfnepbhgifkkaaMd

namespace Go.Proofs.Ytdfnepbhgifkkaa
open Go.Am
set_option linter.unusedSimpArgs false
set_option linter.unusedVariables false
set_option maxRecDepth 100000
abbrev okR (l : List UInt8) (l' : List UInt8) (H' : Heap) : Prop := ∃ m, pM l = some (m, l') ∧ m.Ok ∧ H' = [(0, .box (mnrow m))]
abbrev noR (l : List UInt8) (H' : Heap) : Prop := (∀ m r, pM l = some (m, r) → ¬ m.Ok) ∧ H' = [(0, .box zrow)]
theorem mdec1_c (l : List UInt8) (h : l.length < 1000000000000) : ACalls Try.prog 52 2 200000 [.ptr 1 0, .ptr 0 0] ((1, .box [.list (l.map brow) .free]) :: [(0, .box zrow)]) (cbR 1 (okR l) (noR l)) := by
  refine acalls_of tok dok (f := 52) ⟨Try.func52, rfl, by kernel_rfl⟩ ?_; refine c_start (fun _ h => h) ?_
  refine awd ?_
  refine cal [1] (mtake_c l h) ?_ ?_
  · intro x H' hh
    rcases hh with ⟨m, r, e, ok, h', rfl⟩ | ⟨_, h', _⟩
    · cases h'
      unfold msv
      rw [mnrow_eq]
      first | (refine akc ?_) | (refine aec ?_)
      refine awd ?_
      exact e_ret (H' := (1, .box [.list (r.map brow) .free]) :: [(0, .box (mnrow m))]) (rest := _) rfl (.inl ⟨_, r, _, ⟨m, e, ok, rfl⟩, rfl, rfl⟩) (.of_eq rfl) (Nat.le_of_ble_eq_true rfl)
    · cases h'
  · intro x H' hh
    rcases hh with ⟨m, r, e, ok, h', rfl⟩ | ⟨hno, h', rfl⟩
    · cases h'
    · cases h'
      refine awd ?_
      exact e_pan (H' := [(0, .box zrow)]) (rest := []) (.inr ⟨_, ⟨hno, rfl⟩, rfl, rfl⟩) (.of_eq rfl) (Nat.le_of_ble_eq_true rfl)
theorem keep_z : keepH 1 [(0, .box zrow)] := fun f hf => by simp [renH, Res.ren, AV.renL, AV.ren, hf, zrow, Own.ren]
theorem ren_votes (f : Nat → Nat) (l : List Vn) : AV.ren f (.list (l.map vnrow) .free) = .list (l.map vnrow) .free := by simp [AV.ren, Own.ren]
theorem keep_m (m : Mn) : keepH 1 [(0, .box (mnrow m))] := fun f hf => by simp [renH, Res.ren, AV.renL, AV.ren, hf, mnrow, Own.ren]
theorem mdecode_c (l : List UInt8) (h : l.length < 1000000000000) : ACalls Try.prog 18 0 300000 [.list (l.map brow) .free] [] (fun out H' => (∃ m, pM l = some (m, []) ∧ m.Ok ∧ out = .ret (.tuple [.agg (mnrow m), .v (.int .i64 0)]) ∧ H' = []) ∨ ((∀ m, pM l = some (m, []) → ¬ m.Ok) ∧ out = .ret (.tuple [.agg zrow, .v (.int .i64 12)]) ∧ H' = [])) := by
  refine acalls_of tok dok (f := 18) ⟨Try.func18, rfl, by kernel_rfl⟩ ?_; refine c_start (fun _ h => h) ?_
  refine awd ?_
  refine calw [1] (read_c (m := 1) (cap := [.ptr 0 0]) (H1 := [(0, .box zrow)]) (by decide) (mdec1_c l h) (fun f hf => by simp [AV.renL, AV.ren, hf]) keep_z (fun l' H hh => by obtain ⟨m, _, _, rfl⟩ := hh; exact keep_m m) (fun H hh => by obtain ⟨_, rfl⟩ := hh; exact keep_z)) ?_ ?_
  · intro x H' hh
    rcases hh with ⟨l', ⟨m, e, ok, rfl⟩, h1⟩ | ⟨⟨hno, rfl⟩, h1⟩
    · cases h1
      cases l' with
      | nil =>
        refine akc ?_
        refine awd ?_
        exact e_ret (H' := []) (rest := _) rfl (.inl ⟨m, e, ok, rfl, rfl⟩) (.refl _) (Nat.le_of_ble_eq_true rfl)
      | cons c r =>
        rw [show decide ((((c :: r).map brow).length : Int) = 0) = false by simp; omega]
        refine akc ?_
        refine awd ?_
        exact e_ret (H' := []) (rest := _) rfl (.inr ⟨fun m' e' => (by rw [e] at e'; cases e'), rfl, rfl⟩) (.refl _) (Nat.le_of_ble_eq_true rfl)
    · cases h1
      refine akc ?_
      refine awd ?_
      exact e_ret (H' := []) (rest := _) rfl (.inr ⟨fun m' e' => hno m' [] e', rfl, rfl⟩) (.refl _) (Nat.le_of_ble_eq_true rfl)
  · intro x H' hh
    rcases hh with ⟨l', _, h1⟩ | ⟨_, h1⟩ <;> cases h1
theorem mclient_c : ACalls Try.prog 54 0 0 [.v (.int .i64 3)] [] (fun out H' => out = .ret (.v (.int .i64 103)) ∧ H' = []) := by
  refine acalls_of tok dok (f := 54) ⟨Try.func54, rfl, by kernel_rfl⟩ ?_; refine c_start (fun _ h => h) ?_
  refine awd ?_
  exact e_ret (H' := []) (rest := _) rfl ⟨rfl, rfl⟩ (.refl _) (Nat.le_of_ble_eq_true rfl)
end Go.Proofs.Ytdfnepbhgifkkaa
