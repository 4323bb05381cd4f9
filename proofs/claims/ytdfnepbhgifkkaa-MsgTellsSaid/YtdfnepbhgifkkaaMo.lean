/- Messages as they are drawn, as arguments. -/
import Derived.Test.YtdfnepbhgifkkaaMh
import Derived.Test.YtdfnepbhgifkkaaAmOp
namespace Go.Am
section
variable {H : Type} {enc : TypeId × Value → H} {P : Program} {w : World} {base : Nat} {sp : Nat → Bool} {held : Bool}
/-- a struct, as an argument -/
theorem Opn.argT {t : TypeId} {cs : Array Value} {d : DataW H} {ps : List MemPlace} {R : List AV → Prop} (h : Opn enc P w base sp held t R) (hd : DataW.Trod enc P w base sp held t (.agg cs) d ps) : ∃ row, R row ∧ RowSim (cellsX w) row cs.toList := by
  obtain ⟨fuel, hf⟩ := hd
  obtain ⟨row, h1, h2⟩ := h _ _ _ hf
  exact ⟨row, h2, h1⟩
theorem RowSim.aggT {G : Ghost} {row : List AV} {cs : Array Value} (h : RowSim G.X row cs.toList) : Sim G (.agg row) (.agg cs) :=
  .agg _ _ (by have := h.1; simpa using this) fun i a ha => by
    have hi : i < cs.size := by
      have := (List.getElem?_eq_some_iff.1 ha).1
      have h1 := h.1
      simp at h1; omega
    have : cs.getD i undef = cs[i] := by simp [hi]
    rw [this]
    exact .data _ _ (h.2 i a cs[i] ha (by simp [hi])).1
end
end Go.Am
namespace Go.Proofs.Ytdfnepbhgifkkaa
open Go.Am
set_option linter.unusedSimpArgs false
set_option linter.unusedVariables false
section
variable {H : Type} {enc : TypeId × Value → H} {w : World} {base : Nat} {sp : Nat → Bool} {held : Bool}
theorem opnBytesM : Opn enc Try.prog w base sp held 23 fun row => ∃ l : List UInt8, row = [.list (l.map brow) .free] ∧ l.length ≤ maxLen := opn_bytes Try.underlying23 Try.underlying5 (by kernel_rfl)
theorem opnVote : Opn enc Try.prog w base sp held 49 fun row => ∃ x : Vt, DOkV x ∧ row = vtrow x :=
  (opn_struct Try.underlying49 (Rs := [fun row => ∃ n, row = [.v (.int .i64 n)] ∧ IntKind.i64.min ≤ n ∧ n ≤ IntKind.i64.max, fun row => ∃ n, row = [.v (.int .i64 n)] ∧ IntKind.i64.min ≤ n ∧ n ≤ IntKind.i64.max, fun row => ∃ l : List UInt8, row = [.list (l.map brow) .free] ∧ l.length ≤ maxLen])
    ⟨rfl, opn_int Try.underlying3, by kernel_rfl, opn_int Try.underlying3, by kernel_rfl, opnBytesM, (show (_ : Nat) = _ by kernel_rfl)⟩).mono
    fun row hrow => by
      obtain ⟨_, _, e0, ⟨s, rfl, h1, h2⟩, _, _, e1, ⟨b, rfl, h3, h4⟩, _, _, e2, ⟨l, rfl, _⟩, e3⟩ := hrow
      refine ⟨⟨s, b, l⟩, ⟨⟨h1, h2⟩, ⟨h3, h4⟩⟩, ?_⟩
      rw [e0, e1, e2, e3]
      rfl
theorem opnVotes : Opn enc Try.prog w base sp held 34 fun row => ∃ l : List Vt, (∀ x ∈ l, DOkV x) ∧ row = [.list (l.map vtrow) .free] :=
  (opn_slice Try.underlying34 (by kernel_rfl : Try.prog.cellsOf 49 = 3) (by decide) opnVote).mono fun row ⟨rows, h1, h2, h3⟩ => by
    obtain ⟨l, hl, rfl⟩ := listOf (f := vtrow) (Q := DOkV) fun r hr => (h3 r hr).1
    exact ⟨l, hl, h1⟩
theorem opnDraw : Opn enc Try.prog w base sp held 36 fun row => ∃ d : Ms, DOkM d ∧ row = msrow d :=
  (opn_struct Try.underlying36 (Rs := [fun row => ∃ n, row = [.v (.int .i64 n)] ∧ IntKind.i64.min ≤ n ∧ n ≤ IntKind.i64.max, fun row => ∃ n, row = [.v (.int .i64 n)] ∧ IntKind.i64.min ≤ n ∧ n ≤ IntKind.i64.max, fun row => ∃ n, row = [.v (.int .i64 n)] ∧ IntKind.i64.min ≤ n ∧ n ≤ IntKind.i64.max, fun row => ∃ n, row = [.v (.int .i64 n)] ∧ IntKind.i64.min ≤ n ∧ n ≤ IntKind.i64.max, fun row => ∃ n, row = [.v (.int .i64 n)] ∧ IntKind.i64.min ≤ n ∧ n ≤ IntKind.i64.max, fun row => ∃ n, row = [.v (.int .i64 n)] ∧ IntKind.i64.min ≤ n ∧ n ≤ IntKind.i64.max, fun row => ∃ n, row = [.v (.int .i64 n)] ∧ IntKind.i64.min ≤ n ∧ n ≤ IntKind.i64.max, fun row => ∃ n, row = [.v (.int .i64 n)] ∧ IntKind.i64.min ≤ n ∧ n ≤ IntKind.i64.max, fun row => ∃ l : List UInt8, row = [.list (l.map brow) .free] ∧ l.length ≤ maxLen, fun row => ∃ l : List Vt, (∀ x ∈ l, DOkV x) ∧ row = [.list (l.map vtrow) .free]])
    ⟨rfl, opn_int Try.underlying3, by kernel_rfl, opn_int Try.underlying3, by kernel_rfl, opn_int Try.underlying3, by kernel_rfl, opn_int Try.underlying3, by kernel_rfl, opn_int Try.underlying3, by kernel_rfl, opn_int Try.underlying3, by kernel_rfl, opn_int Try.underlying3, by kernel_rfl, opn_int Try.underlying3, by kernel_rfl, opnBytesM, by kernel_rfl, opnVotes, (show (_ : Nat) = _ by kernel_rfl)⟩).mono
    fun row hrow => by
      obtain ⟨_, _, e0, ⟨kd, rfl, a0, z0⟩, _, _, e1, ⟨g, rfl, a1, z1⟩, _, _, e2, ⟨f, rfl, a2, z2⟩, _, _, e3, ⟨t, rfl, a3, z3⟩, _, _, e4, ⟨bl, rfl, a4, z4⟩, _, _, e5, ⟨s, rfl, a5, z5⟩, _, _, e6, ⟨c, rfl, a6, z6⟩, _, _, e7, ⟨q, rfl, a7, z7⟩, _, _, e8, ⟨b, rfl, _⟩, _, _, e9, ⟨l, hl, rfl⟩, e10⟩ := hrow
      refine ⟨⟨kd, g, f, t, bl, s, c, q, b, l⟩, ⟨⟨a0, z0⟩, ⟨a1, z1⟩, ⟨a2, z2⟩, ⟨a3, z3⟩, ⟨a4, z4⟩, ⟨a5, z5⟩, ⟨a6, z6⟩, ⟨a7, z7⟩, hl⟩, ?_⟩
      rw [e0, e1, e2, e3, e4, e5, e6, e7, e8, e9, e10]
      rfl
end
end Go.Proofs.Ytdfnepbhgifkkaa
