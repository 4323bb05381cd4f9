/- Rows of strings as arguments. -/
import Derived.Test.YtjklcpfkmnjjkaaSpV
import Derived.Test.YtjklcpfkmnjjkaaSpO
namespace Go.Proofs.Ytjklcpfkmnjjkaa
open Go.Am
set_option linter.unusedSimpArgs false
set_option linter.unusedVariables false
section
variable {H : Type} {enc : TypeId × Value → H} {w : World} {base : Nat} {sp : Nat → Bool} {held : Bool}
theorem opnStrs : Opn enc Try.prog w base sp held 37 fun row => ∃ l : List ByteArray, row = [.list (l.map nrow) .free] :=
  (opn_slice Try.underlying37 (by kernel_rfl : Try.prog.cellsOf 9 = 1) (by decide) (opn_string Try.underlying9)).mono fun row ⟨rows, h1, h2, h3⟩ => by
    obtain ⟨l, hl, rfl⟩ := listOf (f := nrow) (Q := fun _ => True) fun r hr => by
      obtain ⟨⟨s, rfl, _⟩, _⟩ := h3 r hr
      exact ⟨s, trivial, rfl⟩
    exact ⟨l, h1⟩
end
end Go.Proofs.Ytjklcpfkmnjjkaa
