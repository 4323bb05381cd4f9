/- The arguments of chapter 2's laws, opened. -/
import Derived.Test.YtjklcpfkmnjjkaaOcE
import Derived.Test.YtjklcpfkmnjjkaaAmOp
namespace Go.Proofs.Ytjklcpfkmnjjkaa
open Go.Am
set_option linter.unusedSimpArgs false
set_option linter.unusedVariables false
section
variable {H : Type} {enc : TypeId × Value → H} {w : World} {base : Nat} {sp : Nat → Bool} {held : Bool}
theorem opnBytes : Opn enc Try.prog w base sp held 48 fun row => ∃ l : List UInt8, row = [.list (l.map brow) .free] ∧ l.length ≤ maxLen := opn_bytes Try.underlying48 Try.underlying5 (by kernel_rfl)
theorem opnAsk : Opn enc Try.prog w base sp held 50 fun row => ∃ a : Ask, AskOk a ∧ row = arow a :=
  (opn_struct Try.underlying50 (Rs := [fun row => ∃ n, row = [.v (.int .i64 n)] ∧ IntKind.i64.min ≤ n ∧ n ≤ IntKind.i64.max, fun row => ∃ n, row = [.v (.int .i64 n)] ∧ IntKind.i64.min ≤ n ∧ n ≤ IntKind.i64.max, fun row => ∃ n, row = [.v (.int .u64 n)] ∧ IntKind.u64.min ≤ n ∧ n ≤ IntKind.u64.max, fun row => ∃ b, row = [.v (.float .f64 b)] ∧ b < 18446744073709551616, fun row => ∃ l : List UInt8, row = [.list (l.map brow) .free] ∧ l.length ≤ maxLen])
    ⟨rfl, opn_int Try.underlying3, by kernel_rfl, opn_int Try.underlying3, by kernel_rfl, opn_int Try.underlying46, by kernel_rfl, opn_float Try.underlying47, by kernel_rfl, opnBytes, (show (_ : Nat) = _ by kernel_rfl)⟩).mono
    fun row hrow => by
      obtain ⟨_, _, e0, ⟨kd, rfl, _, _⟩, _, _, e1, ⟨mo, rfl, _, _⟩, _, _, e2, ⟨n, rfl, h1, h2⟩, _, _, e3, ⟨x, rfl, hx⟩, _, _, e4, ⟨l, rfl, _⟩, e5⟩ := hrow
      have h1' : 0 ≤ n := h1
      have h2' : n ≤ 18446744073709551615 := h2
      refine ⟨⟨kd, mo, n.toNat, x, l⟩, ⟨by show n.toNat < _; omega, hx⟩, ?_⟩
      rw [e0, e1, e2, e3, e4, e5]
      simp [arow]
      omega
theorem opnAsks : Opn enc Try.prog w base sp held 51 fun row => ∃ l : List Ask, (∀ a ∈ l, AskOk a) ∧ l.length ≤ 9223372036854775807 ∧ row = [.list (l.map arow) .free] :=
  (opn_slice Try.underlying51 (by kernel_rfl : Try.prog.cellsOf 50 = 5) (by decide) opnAsk).mono fun row ⟨rows, h1, h2, h3⟩ => by
    obtain ⟨l, hl, rfl⟩ := listOf (f := arow) (Q := AskOk) fun r hr => (h3 r hr).1
    exact ⟨l, hl, by have : maxLen = 9223372036854775807 := by decide
                     simpa [this] using h2, h1⟩
end
end Go.Proofs.Ytjklcpfkmnjjkaa
