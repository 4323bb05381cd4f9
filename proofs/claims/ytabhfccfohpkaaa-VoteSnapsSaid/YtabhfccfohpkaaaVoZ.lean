/- The argument of vote's laws: calls. -/
import Derived.Test.YtabhfccfohpkaaaVoR
import Derived.Test.YtabhfccfohpkaaaAmOp
namespace Go.Proofs.Ytabhfccfohpkaaa
open Go.Am
set_option linter.unusedSimpArgs false
set_option linter.unusedVariables false
section
variable {H : Type} {enc : TypeId × Value → H} {w : World} {base : Nat} {sp : Nat → Bool} {held : Bool}
theorem opnBytesV : Opn enc Try.prog w base sp held 27 fun row => ∃ l : List UInt8, row = [.list (l.map brow) .free] ∧ l.length ≤ maxLen := opn_bytes Try.underlying27 Try.underlying5 (by kernel_rfl)
theorem opnVk : Opn enc Try.prog w base sp held 65 fun row => ∃ a : Vk, VkOk a ∧ row = vkrow a :=
  (opn_struct Try.underlying65 (Rs := [fun row => ∃ n, row = [.v (.int .i64 n)] ∧ IntKind.i64.min ≤ n ∧ n ≤ IntKind.i64.max, fun row => ∃ n, row = [.v (.int .i64 n)] ∧ IntKind.i64.min ≤ n ∧ n ≤ IntKind.i64.max, fun row => ∃ n, row = [.v (.int .i64 n)] ∧ IntKind.i64.min ≤ n ∧ n ≤ IntKind.i64.max, fun row => ∃ l : List UInt8, row = [.list (l.map brow) .free] ∧ l.length ≤ maxLen])
    ⟨rfl, opn_int Try.underlying3, by kernel_rfl, opn_int Try.underlying3, by kernel_rfl, opn_int Try.underlying3, by kernel_rfl, opnBytesV, (show (_ : Nat) = _ by kernel_rfl)⟩).mono
    fun row hrow => by
      obtain ⟨_, _, e0, ⟨k, rfl, k1, k2⟩, _, _, e1, ⟨c, rfl, c1, c2⟩, _, _, e2, ⟨s, rfl, s1, s2⟩, _, _, e4, ⟨l, rfl, _⟩, e5⟩ := hrow
      refine ⟨⟨k, c, s, l⟩, ⟨⟨k1, k2⟩, ⟨c1, c2⟩, s1, s2⟩, ?_⟩
      rw [e0, e1, e2, e4, e5]
      simp [vkrow]
theorem opnVks : Opn enc Try.prog w base sp held 54 fun row => ∃ l : List Vk, (∀ a ∈ l, VkOk a) ∧ l.length ≤ 9223372036854775807 ∧ row = [.list (l.map vkrow) .free] :=
  (opn_slice Try.underlying54 (by kernel_rfl : Try.prog.cellsOf 65 = 4) (by decide) opnVk).mono fun row ⟨rows, h1, h2, h3⟩ => by
    obtain ⟨l, hl, rfl⟩ := listOf (f := vkrow) (Q := VkOk) fun r hr => (h3 r hr).1
    exact ⟨l, hl, by have : maxLen = 9223372036854775807 := by decide
                     simpa [this] using h2, h1⟩
end
end Go.Proofs.Ytabhfccfohpkaaa
