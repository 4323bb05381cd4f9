/- Contracts out of walks of the other kind. -/
import Derived.Test.YtjklcpfkmnjjkaaAmTc
namespace Go.Am
open Go.RowKit
set_option linter.unusedSimpArgs false
set_option linter.unusedVariables false
theorem step_below {G : Ghost} {w w' : World} (hh : Holds G w []) (hb : Below w.heap.size w w') : Holds G w' [] ∧ Step G w [] G w' [] := by
  refine ⟨⟨fun b i v hx => ?_, fun r hr => (List.not_mem_nil hr).elim, by simp, fun r hr => (List.not_mem_nil hr).elim, by simp [blocksOf], fun b hl => ?_⟩, ⟨hb.os, hb.tape, hb.output, hb.size, rfl, fun _ _ _ h => h, fun b h1 _ => ⟨.inl (hb.block b h1), fun _ => hb.block b h1⟩, fun _ _ _ h => .inl h, fun b h => by simp [blocksOf] at h, fun id h => ⟨h, rfl, .inl rfl⟩, fun id h => by simp at h, fun _ h => h, fun _ h => .inl h⟩⟩
  · have h1 := hh.X b i v hx
    have hlt : b < w.heap.size := by
      unfold World.cell? at h1
      split at h1
      · rename_i hg; exact (Array.getElem?_eq_some_iff.1 hg).1
      · cases h1
    unfold World.cell? at h1 ⊢
    simp only at h1 ⊢
    rw [hb.block b hlt]
    exact h1
  · obtain ⟨q1, q2, _⟩ := hh.lits b hl
    exact ⟨q1, Nat.lt_of_lt_of_le q2 hb.size, by simp [blocksOf]⟩
/-- a function that touches nothing, and whose answer is known -/
theorem ACalls.of_calls {P : Program} {f : FuncId} {fn : Func} {c : Code} (hf : FnIs P f fn c) {args : List AV} {av : AV} {v : Value} (hav : ∀ G, Sim G av v)
    (h : ∀ (G : Ghost) (w : World) (vals : Array Value), Holds G w [] → args.length = vals.size → (∀ (i : Nat) a, args[i]? = some a → Sim G a (vals.getD i undef)) → Calls P f vals w fun e w' => e = .returned v ∧ Below w.heap.size w w') :
    ACalls P f 0 0 args [] fun out H' => out = .ret av ∧ H' = [] := by
  intro G w vals hk hlits hbase hh hlen hsim
  left
  refine ⟨?_, (h G w vals hh hlen hsim).mono fun e w' ⟨he, hb⟩ => ?_⟩
  · unfold callFunc
    have hp : program.run P w = .ok P w := rfl
    rw [Sem.run_bind, hp]
    simp only [Result.andThen, hf.get, hf.name, hf.body]
    rfl
  · subst he
    obtain ⟨k1, k2⟩ := step_below hh hb
    exact ⟨G, .ret av, [], ⟨rfl, rfl⟩, hav G, k1, k2, fun id h => .inl h⟩
theorem args1_eq {vals : Array Value} (h : 1 = vals.size) : vals = #[vals.getD 0 undef] := by
  obtain ⟨l⟩ := vals
  match l, h with
  | [x], _ => rfl
theorem args2_eq {vals : Array Value} (h : 2 = vals.size) : vals = #[vals.getD 0 undef, vals.getD 1 undef] := by
  obtain ⟨l⟩ := vals
  match l, h with
  | [x, y], _ => rfl
theorem args3_eq {vals : Array Value} (h : 3 = vals.size) : vals = #[vals.getD 0 undef, vals.getD 1 undef, vals.getD 2 undef] := by
  obtain ⟨l⟩ := vals
  match l, h with
  | [x, y, z], _ => rfl
end Go.Am
