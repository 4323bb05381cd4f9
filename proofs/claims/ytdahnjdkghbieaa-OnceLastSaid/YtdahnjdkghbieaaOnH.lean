/- The argument of once's laws: calls. -/
import Derived.Test.YtdahnjdkghbieaaOnF
import Derived.Test.YtdahnjdkghbieaaAmOp
namespace Go.Proofs.Ytdahnjdkghbieaa
open Go.Am
set_option linter.unusedSimpArgs false
set_option linter.unusedVariables false
section
variable {H : Type} {enc : TypeId × Value → H} {w : World} {base : Nat} {sp : Nat → Bool} {held : Bool}
theorem opnBytesK : Opn enc Try.prog w base sp held 32 fun row => ∃ l : List UInt8, row = [.list (l.map brow) .free] ∧ l.length ≤ maxLen := opn_bytes Try.underlying32 Try.underlying5 (by kernel_rfl)
def CkOk (a : Ck) : Prop := (-9223372036854775808 ≤ a.k ∧ a.k ≤ 9223372036854775807) ∧ (-9223372036854775808 ≤ a.c ∧ a.c ≤ 9223372036854775807) ∧ (-9223372036854775808 ≤ a.s ∧ a.s ≤ 9223372036854775807)
theorem opnCk : Opn enc Try.prog w base sp held 34 fun row => ∃ a : Ck, CkOk a ∧ row = krow a :=
  (opn_struct Try.underlying34 (Rs := [fun row => ∃ n, row = [.v (.int .i64 n)] ∧ IntKind.i64.min ≤ n ∧ n ≤ IntKind.i64.max, fun row => ∃ n, row = [.v (.int .i64 n)] ∧ IntKind.i64.min ≤ n ∧ n ≤ IntKind.i64.max, fun row => ∃ n, row = [.v (.int .i64 n)] ∧ IntKind.i64.min ≤ n ∧ n ≤ IntKind.i64.max, fun row => ∃ l : List UInt8, row = [.list (l.map brow) .free] ∧ l.length ≤ maxLen])
    ⟨rfl, opn_int Try.underlying3, by kernel_rfl, opn_int Try.underlying3, by kernel_rfl, opn_int Try.underlying3, by kernel_rfl, opnBytesK, (show (_ : Nat) = _ by kernel_rfl)⟩).mono
    fun row hrow => by
      obtain ⟨_, _, e0, ⟨k, rfl, k1, k2⟩, _, _, e1, ⟨c, rfl, c1, c2⟩, _, _, e2, ⟨s, rfl, s1, s2⟩, _, _, e4, ⟨l, rfl, _⟩, e5⟩ := hrow
      refine ⟨⟨k, c, s, l⟩, ⟨⟨k1, k2⟩, ⟨c1, c2⟩, s1, s2⟩, ?_⟩
      rw [e0, e1, e2, e4, e5]
      simp [krow]
theorem opnCks : Opn enc Try.prog w base sp held 22 fun row => ∃ l : List Ck, (∀ a ∈ l, CkOk a) ∧ l.length ≤ 9223372036854775807 ∧ row = [.list (l.map krow) .free] :=
  (opn_slice Try.underlying22 (by kernel_rfl : Try.prog.cellsOf 34 = 4) (by decide) opnCk).mono fun row ⟨rows, h1, h2, h3⟩ => by
    obtain ⟨l, hl, rfl⟩ := listOf (f := krow) (Q := CkOk) fun r hr => (h3 r hr).1
    exact ⟨l, hl, by have : maxLen = 9223372036854775807 := by decide
                     simpa [this] using h2, h1⟩
end
end Go.Proofs.Ytdahnjdkghbieaa
