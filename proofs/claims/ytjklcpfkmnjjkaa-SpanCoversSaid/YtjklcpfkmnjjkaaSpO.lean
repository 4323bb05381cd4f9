/- Rows of whole numbers as arguments. -/
import Derived.Test.YtjklcpfkmnjjkaaSpT
import Derived.Test.YtjklcpfkmnjjkaaAmOp
namespace Go.Proofs.Ytjklcpfkmnjjkaa
open Go.Am
set_option linter.unusedSimpArgs false
set_option linter.unusedVariables false
section
variable {H : Type} {enc : TypeId × Value → H} {w : World} {base : Nat} {sp : Nat → Bool} {held : Bool}
theorem opnInts : Opn enc Try.prog w base sp held 40 fun row => ∃ l : List Int, (∀ n ∈ l, IntOk n) ∧ l.length ≤ 9223372036854775807 ∧ row = [.list (l.map irow) .free] :=
  (opn_slice Try.underlying40 (by kernel_rfl : Try.prog.cellsOf 3 = 1) (by decide) (opn_int Try.underlying3)).mono fun row ⟨rows, h1, h2, h3⟩ => by
    obtain ⟨l, hl, rfl⟩ := listOf (f := irow) (Q := IntOk) fun r hr => by
      obtain ⟨⟨n, rfl, h4, h5⟩, _⟩ := h3 r hr
      exact ⟨n, ⟨h4, h5⟩, rfl⟩
    exact ⟨l, hl, by have : maxLen = 9223372036854775807 := by decide
                     simpa [this] using h2, h1⟩
end
end Go.Proofs.Ytjklcpfkmnjjkaa
