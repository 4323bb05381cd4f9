/- A value that is drawn as the program's own struct, as an argument. -/
import Derived.Test.YtdfnepbhgifkkaaVd
namespace Go.Proofs.Ytdfnepbhgifkkaa
open Go.Am
set_option linter.unusedSimpArgs false
set_option linter.unusedVariables false
section
variable {H : Type} {enc : TypeId × Value → H} {w : World} {base : Nat} {sp : Nat → Bool} {held : Bool}
theorem opnA : Opn enc Try.prog w base sp held 27 fun row => ∃ v : Va, v.n < 18446744073709551616 ∧ row = vrowV v :=
  (opn_struct Try.underlying27 (Rs := [fun row => ∃ n, row = [.v (.int .i64 n)] ∧ IntKind.i64.min ≤ n ∧ n ≤ IntKind.i64.max, fun row => ∃ l : List UInt8, row = [.list (l.map brow) .free] ∧ l.length ≤ maxLen, fun row => ∃ b, row = [.v (.float .f64 b)] ∧ b < 18446744073709551616])
    ⟨rfl, opn_int Try.underlying3, by kernel_rfl, opnBytes, by kernel_rfl, opn_float Try.underlying22, (show (_ : Nat) = _ by kernel_rfl)⟩).mono
    fun row hrow => by
      obtain ⟨_, _, e0, ⟨n, rfl, h1, h2⟩, _, _, e1, ⟨l, rfl, _⟩, _, _, e2, ⟨x, rfl, hx⟩, e3⟩ := hrow
      refine ⟨⟨n, l, x⟩, hx, ?_⟩
      rw [e0, e1, e2, e3]
      rfl
end
end Go.Proofs.Ytdfnepbhgifkkaa
