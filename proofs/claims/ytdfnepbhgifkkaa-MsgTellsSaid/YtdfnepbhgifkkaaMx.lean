/- A message, as an argument. -/
import Derived.Test.YtdfnepbhgifkkaaMo
namespace Go.Proofs.Ytdfnepbhgifkkaa
open Go.Am
set_option linter.unusedSimpArgs false
set_option linter.unusedVariables false
section
variable {H : Type} {enc : TypeId × Value → H} {w : World} {base : Nat} {sp : Nat → Bool} {held : Bool}
theorem opnMsg : Opn enc Try.prog w base sp held 40 fun row => ∃ d : Ms, DOkM d ∧ row = msrow d :=
  (opn_struct Try.underlying40 (Rs := [fun row => ∃ n, row = [.v (.int .i64 n)] ∧ IntKind.i64.min ≤ n ∧ n ≤ IntKind.i64.max, fun row => ∃ n, row = [.v (.int .i64 n)] ∧ IntKind.i64.min ≤ n ∧ n ≤ IntKind.i64.max, fun row => ∃ n, row = [.v (.int .i64 n)] ∧ IntKind.i64.min ≤ n ∧ n ≤ IntKind.i64.max, fun row => ∃ n, row = [.v (.int .i64 n)] ∧ IntKind.i64.min ≤ n ∧ n ≤ IntKind.i64.max, fun row => ∃ n, row = [.v (.int .i64 n)] ∧ IntKind.i64.min ≤ n ∧ n ≤ IntKind.i64.max, fun row => ∃ n, row = [.v (.int .i64 n)] ∧ IntKind.i64.min ≤ n ∧ n ≤ IntKind.i64.max, fun row => ∃ n, row = [.v (.int .i64 n)] ∧ IntKind.i64.min ≤ n ∧ n ≤ IntKind.i64.max, fun row => ∃ n, row = [.v (.int .i64 n)] ∧ IntKind.i64.min ≤ n ∧ n ≤ IntKind.i64.max, fun row => ∃ l : List UInt8, row = [.list (l.map brow) .free] ∧ l.length ≤ maxLen, fun row => ∃ l : List Vt, (∀ x ∈ l, DOkV x) ∧ row = [.list (l.map vtrow) .free]])
    ⟨rfl, opn_int Try.underlying3, by kernel_rfl, opn_int Try.underlying3, by kernel_rfl, opn_int Try.underlying3, by kernel_rfl, opn_int Try.underlying3, by kernel_rfl, opn_int Try.underlying3, by kernel_rfl, opn_int Try.underlying3, by kernel_rfl, opn_int Try.underlying3, by kernel_rfl, opn_int Try.underlying3, by kernel_rfl, opnBytesM, by kernel_rfl, opnVotes, (show (_ : Nat) = _ by kernel_rfl)⟩).mono
    fun row hrow => by
      obtain ⟨_, _, e0, ⟨kd, rfl, a0, z0⟩, _, _, e1, ⟨g, rfl, a1, z1⟩, _, _, e2, ⟨f, rfl, a2, z2⟩, _, _, e3, ⟨t, rfl, a3, z3⟩, _, _, e4, ⟨bl, rfl, a4, z4⟩, _, _, e5, ⟨s, rfl, a5, z5⟩, _, _, e6, ⟨c, rfl, a6, z6⟩, _, _, e7, ⟨q, rfl, a7, z7⟩, _, _, e8, ⟨b, rfl, _⟩, _, _, e9, ⟨l, hl, rfl⟩, e10⟩ := hrow
      refine ⟨⟨kd, g, f, t, bl, s, c, q, b, l⟩, ⟨⟨a0, z0⟩, ⟨a1, z1⟩, ⟨a2, z2⟩, ⟨a3, z3⟩, ⟨a4, z4⟩, ⟨a5, z5⟩, ⟨a6, z6⟩, ⟨a7, z7⟩, hl⟩, ?_⟩
      rw [e0, e1, e2, e3, e4, e5, e6, e7, e8, e9, e10]
      rfl
end
end Go.Proofs.Ytdfnepbhgifkkaa
