/- Values as they are drawn, as arguments. -/
import Derived.Test.YtdfnepbhgifkkaaVc
import Derived.Test.YtdfnepbhgifkkaaAmOp
namespace Go.Am
section
variable {H : Type} {enc : TypeId × Value → H} {P : Program} {w : World} {base : Nat} {sp : Nat → Bool} {held : Bool}
/-- a struct, as an argument -/
theorem Opn.argS {t : TypeId} {cs : Array Value} {d : DataW H} {ps : List MemPlace} {R : List AV → Prop} (h : Opn enc P w base sp held t R) (hd : DataW.Trod enc P w base sp held t (.agg cs) d ps) : ∃ row, R row ∧ RowSim (cellsX w) row cs.toList := by
  obtain ⟨fuel, hf⟩ := hd
  obtain ⟨row, h1, h2⟩ := h _ _ _ hf
  exact ⟨row, h2, h1⟩
theorem RowSim.agg {G : Ghost} {row : List AV} {cs : Array Value} (h : RowSim G.X row cs.toList) : Sim G (.agg row) (.agg cs) :=
  .agg _ _ (by have := h.1; simpa using this) fun i a ha => by
    have hi : i < cs.size := by
      have := (List.getElem?_eq_some_iff.1 ha).1
      have h1 := h.1
      simp at h1; omega
    have : cs.getD i undef = cs[i] := by simp [hi]
    rw [this]
    exact .data _ _ (h.2 i a cs[i] ha (by simp [hi])).1
end
end Go.Am
namespace Go.Proofs.Ytdfnepbhgifkkaa
open Go.Am
set_option linter.unusedSimpArgs false
set_option linter.unusedVariables false
section
variable {H : Type} {enc : TypeId × Value → H} {w : World} {base : Nat} {sp : Nat → Bool} {held : Bool}
theorem opnBytes : Opn enc Try.prog w base sp held 23 fun row => ∃ l : List UInt8, row = [.list (l.map brow) .free] ∧ l.length ≤ maxLen := opn_bytes Try.underlying23 Try.underlying5 (by kernel_rfl)
def dvrow (tx : Bool) (n : Int) (x : Nat) (b : List UInt8) : List AV := [.v (.bool tx), .v (.int .i64 n), .v (.float .f64 x), .list (b.map brow) .free]
theorem opnV : Opn enc Try.prog w base sp held 25 fun row => ∃ tx n x b, ((-9223372036854775808 ≤ n ∧ n ≤ 9223372036854775807) ∧ x < 18446744073709551616) ∧ row = dvrow tx n x b :=
  (opn_struct Try.underlying25 (Rs := [fun row => ∃ b, row = [.v (.bool b)], fun row => ∃ n, row = [.v (.int .i64 n)] ∧ IntKind.i64.min ≤ n ∧ n ≤ IntKind.i64.max, fun row => ∃ b, row = [.v (.float .f64 b)] ∧ b < 18446744073709551616, fun row => ∃ l : List UInt8, row = [.list (l.map brow) .free] ∧ l.length ≤ maxLen])
    ⟨rfl, opn_bool Try.underlying4, by kernel_rfl, opn_int Try.underlying3, by kernel_rfl, opn_float Try.underlying22, by kernel_rfl, opnBytes, (show (_ : Nat) = _ by kernel_rfl)⟩).mono
    fun row hrow => by
      obtain ⟨_, _, e0, ⟨tx, rfl⟩, _, _, e1, ⟨n, rfl, h1, h2⟩, _, _, e2, ⟨x, rfl, hx⟩, _, _, e3, ⟨l, rfl, _⟩, e4⟩ := hrow
      refine ⟨tx, n, x, l, ⟨⟨h1, h2⟩, hx⟩, ?_⟩
      rw [e0, e1, e2, e3, e4]
      rfl
end
end Go.Proofs.Ytdfnepbhgifkkaa
