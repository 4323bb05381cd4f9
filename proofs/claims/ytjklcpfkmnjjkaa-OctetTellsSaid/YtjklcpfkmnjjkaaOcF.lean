/- What the chapter's closed runs answer. -/
import Derived.Test.YtjklcpfkmnjjkaaOcE

namespace Go.Proofs.Ytjklcpfkmnjjkaa
open Go.Am
set_option linter.unusedSimpArgs false
set_option linter.unusedVariables false

theorem known1_c : ACalls Try.prog 75 1 1 [.ptr 0 0] [(0, .box [.list (([] : List UInt8).map brow) .free])] (cbR 0 (fun l' H' => l' = [] ∧ H' = []) fun _ => False) := by
  refine acalls_of tok dok (f := 75) ⟨Try.func75, rfl, by kernel_rfl⟩ ?_; refine c_start (fun _ h => h) ?_
  refine awd ?_
  exact e_ret (H' := [(0, .box [.list (([] : List UInt8).map brow) .free])]) (rest := []) rfl (.inl ⟨_, [], [], ⟨rfl, rfl⟩, rfl, rfl⟩) (.of_eq rfl) (Nat.le_of_ble_eq_true rfl)
theorem known2_c : ACalls Try.prog 76 1 2 [.ptr 0 0] [(0, .box [.list (([1] : List UInt8).map brow) .free])] (cbR 0 (fun _ _ => False) fun H' => H' = []) := by
  refine acalls_of tok dok (f := 76) ⟨Try.func76, rfl, by kernel_rfl⟩ ?_; refine c_start (fun _ h => h) ?_
  refine awd ?_
  refine cal [0] (rNum_c [1] (by decide)) ?_ ?_
  · intro x H' h; rcases h with ⟨hg, h1, h2⟩ | ⟨hg, h1, h2⟩ <;> first | (cases h1; done) | (cases h1; subst h2)
    simp at hg
  · intro x H' h; rcases h with ⟨hg, h1, h2⟩ | ⟨hg, h1, h2⟩ <;> first | (cases h1; done) | (cases h1; subst h2)
    refine awd ?_
    exact e_pan (H' := []) (rest := _) (.inr ⟨[], rfl, rfl, rfl⟩) (.of_eq rfl) (Nat.le_of_ble_eq_true rfl)
theorem known_c : ACalls Try.prog 33 0 30 [] [] (fun out H' => out = .ret (.v (.bool true)) ∧ H' = []) := by
  refine acalls_of tok dok (f := 33) ⟨Try.func33, rfl, by kernel_rfl⟩ ?_; refine c_start (fun _ h => h) ?_
  refine awd ?_
  refine cal [] (new_c) ?_ ?_
  · refine ret1 ?_; first | (refine akc ?_) | (refine aec ?_)
    refine awd ?_
    refine cal [0, 1] (num_c [] 258 (by decide) (by decide)) ?_ ?_
    · refine ret1 ?_; first | (refine akc ?_) | (refine aec ?_)
      refine awd ?_
      refine cal [0, 1] (done_c (be 258 4) (by decide)) ?_ ?_
      · refine ret1 ?_; first | (refine akc ?_) | (refine aec ?_)
        refine awd ?_
        rw [show ((⟨(be 258 4).toArray⟩ : ByteArray).toList == (⟨#[0, 0, 1, 2]⟩ : ByteArray).toList) = true by kernel_rfl]
        refine awd ?_
        refine calw [] (read_c (cap := []) (H1 := []) (by decide) known1_c (fun _ _ => rfl) (fun _ _ => rfl) (fun _ _ h _ _ => by rw [h.2]; rfl) (fun _ h => h.elim)) ?_ ?_
        · intro x H' h
          rcases h with ⟨l', ⟨rfl, rfl⟩, h1⟩ | ⟨h1, _⟩
          · cases h1
            refine akc ?_
            refine awd ?_
            refine calw [] (read_c (l := [1]) (cap := []) (H1 := []) (by decide) known2_c (fun _ _ => rfl) (fun _ _ => rfl) (fun _ _ h => h.elim) (fun _ h _ _ => by rw [h]; rfl)) ?_ ?_
            · intro x H' h
              rcases h with ⟨l', h1, _⟩ | ⟨rfl, h1⟩
              · exact h1.elim
              · cases h1
                refine akc ?_
                refine awd ?_
                exact e_ret (H' := []) rfl ⟨rfl, rfl⟩ (.refl _) (Nat.le_of_ble_eq_true rfl)
            · intro x H' h
              rcases h with ⟨l', _, h1⟩ | ⟨_, h1⟩ <;> cases h1
          · exact h1.elim
        · intro x H' h
          rcases h with ⟨l', _, h1⟩ | ⟨_, h1⟩ <;> cases h1
      · first | (exact retN) | (exact retP)
    · first | (exact retN) | (exact retP)
  · first | (exact retN) | (exact retP)
end Go.Proofs.Ytjklcpfkmnjjkaa
