/-
  No cell of these rows narrows 'for every input' (looked for: loops, veiled, ifaces, maps, wideKeys, modest, calm, conditions, laid).
  DERIVED. THE GIVEN ROWS OF THIS SEAT. 6 by the template 'for every input the law returns true; each argument reads behind the call as it read before'; 0 by the template 'total and deterministic' (their statements: YtncffhgoopdfgaaGreatTotals.lean).
  GIVEN WITH THE SEED: the statements are not yours to turn. If you find one false, say at which input.
  Laid BY PROGRAM, IN A SANDBOX (cutbox-rows.mjs): the forced cells as the released guide's own fill.sh prints them over the translation 119ab48ffb5c5832… (all of the seat's roots in one cut). By AI agents, Wed Nov 11 2026. No macro, syntax, notation, axiom, sorry.
-/
import Derived.Test.YtncffhgoopdfgaaGreatChecked
import GoSem.Claim
import GoSem.ClaimJoined
import GoSem.ClaimMapViews
import Derived.JoinedTies
import Derived.KernelRfl
namespace Go.Proofs.YtncffhgoopdfgaaGreat
/- THE CELL 'sum', in the pinned program and in every row, IS THE sha256 OF THE DUMP (.gsa) THAT YtncffhgoopdfgaaGreatProg.lean LOADS. Nothing in Lean hashes anything: it is a label: what it is worth is what the hold of that sum in a sandbox is worth. -/
noncomputable def Tryz.pinned : Pinned := { name := "ytncffhgoopdfgaagreat", sum := "119ab48ffb5c58320a29ddcfb8824840a8badd5f88b2b905c6c9070e65fb8dd5", checked := Tryz.checked }
namespace Rows
def none {H : Type} : Left H := { results := [], args := [] }

/-- 'wardmotelaw8.CmdTells': WHATEVER THE INPUT: true; the input reads as it did. -/
def cmdTellsSpec : ChangeSpec := { name := "cmdTells", fn := fun _ => fun
  | [d1, d2, d3, d4, d5] => { results := [.lit (.bool true)], args := [d1, d2, d3, d4, d5] }
  | _ => none }
def cmdTellsRow : OpenClaim := { program := "ytncffhgoopdfgaagreat", sum := "119ab48ffb5c58320a29ddcfb8824840a8badd5f88b2b905c6c9070e65fb8dd5", func := "wardmote/wardmotelaw8.CmdTells", spec := "cmdTells", inPlace := ["math.Float64bits", "math.Float64frombits"], unfollowed := true, recurses := true, apart := false }
def CmdTellsSaid : Prop := cmdTellsRow.holds Tryz.pinned (OpenSpec.ofChange cmdTellsSpec)

/-- ITS FALSE NEIGHBOUR: 'it returns false'. Refute it at one input. -/
def cmdTellsWrong : ChangeSpec := { name := "cmdTells", fn := fun _ => fun
  | [d1, d2, d3, d4, d5] => { results := [.lit (.bool false)], args := [d1, d2, d3, d4, d5] }
  | _ => none }
def CmdTellsWrongFalsely : Prop := cmdTellsRow.holds Tryz.pinned (OpenSpec.ofChange cmdTellsWrong)

/-- 'wardmotelaw5.ChangeNumbers': WHATEVER THE INPUT: true; the input reads as it did. -/
def changeNumbersSpec : ChangeSpec := { name := "changeNumbers", fn := fun _ => fun
  | [] => { results := [.lit (.bool true)], args := [] }
  | _ => none }
def changeNumbersRow : OpenClaim := { program := "ytncffhgoopdfgaagreat", sum := "119ab48ffb5c58320a29ddcfb8824840a8badd5f88b2b905c6c9070e65fb8dd5", func := "wardmote/wardmotelaw5.ChangeNumbers", spec := "changeNumbers", inPlace := ["math.Float64bits", "math.Float64frombits", "slices.overlaps[wardmote/api.Column]", "slices.overlaps[wardmote/api.Version]", "internal/bytealg.Compare"], unfollowed := true, recurses := true, apart := false }
def ChangeNumbersSaid : Prop := changeNumbersRow.holds Tryz.pinned (OpenSpec.ofChange changeNumbersSpec)

/-- ITS FALSE NEIGHBOUR: 'it returns false'. Refute it at one input. -/
def changeNumbersWrong : ChangeSpec := { name := "changeNumbers", fn := fun _ => fun
  | [] => { results := [.lit (.bool false)], args := [] }
  | _ => none }
def ChangeNumbersWrongFalsely : Prop := changeNumbersRow.holds Tryz.pinned (OpenSpec.ofChange changeNumbersWrong)

/-- 'wardmotelaw5.ChangeTells': WHATEVER THE INPUT: true; the input reads as it did. -/
def changeTellsSpec : ChangeSpec := { name := "changeTells", fn := fun _ => fun
  | [d1, d2, d3, d4, d5, d6, d7] => { results := [.lit (.bool true)], args := [d1, d2, d3, d4, d5, d6, d7] }
  | _ => none }
def changeTellsRow : OpenClaim := { program := "ytncffhgoopdfgaagreat", sum := "119ab48ffb5c58320a29ddcfb8824840a8badd5f88b2b905c6c9070e65fb8dd5", func := "wardmote/wardmotelaw5.ChangeTells", spec := "changeTells", inPlace := ["math.Float64bits", "math.Float64frombits", "slices.overlaps[wardmote/api.Column]", "slices.overlaps[wardmote/api.Version]", "internal/bytealg.Compare"], unfollowed := true, recurses := true, apart := false }
def ChangeTellsSaid : Prop := changeTellsRow.holds Tryz.pinned (OpenSpec.ofChange changeTellsSpec)

/-- ITS FALSE NEIGHBOUR: 'it returns false'. Refute it at one input. -/
def changeTellsWrong : ChangeSpec := { name := "changeTells", fn := fun _ => fun
  | [d1, d2, d3, d4, d5, d6, d7] => { results := [.lit (.bool false)], args := [d1, d2, d3, d4, d5, d6, d7] }
  | _ => none }
def ChangeTellsWrongFalsely : Prop := changeTellsRow.holds Tryz.pinned (OpenSpec.ofChange changeTellsWrong)

/-- 'wardmotelaw8.CmdNumbers': WHATEVER THE INPUT: true; the input reads as it did. -/
def cmdNumbersSpec : ChangeSpec := { name := "cmdNumbers", fn := fun _ => fun
  | [] => { results := [.lit (.bool true)], args := [] }
  | _ => none }
def cmdNumbersRow : OpenClaim := { program := "ytncffhgoopdfgaagreat", sum := "119ab48ffb5c58320a29ddcfb8824840a8badd5f88b2b905c6c9070e65fb8dd5", func := "wardmote/wardmotelaw8.CmdNumbers", spec := "cmdNumbers", inPlace := ["math.Float64frombits", "math.Float64bits", "internal/bytealg.Compare"], unfollowed := true, recurses := true, apart := false }
def CmdNumbersSaid : Prop := cmdNumbersRow.holds Tryz.pinned (OpenSpec.ofChange cmdNumbersSpec)

/-- ITS FALSE NEIGHBOUR: 'it returns false'. Refute it at one input. -/
def cmdNumbersWrong : ChangeSpec := { name := "cmdNumbers", fn := fun _ => fun
  | [] => { results := [.lit (.bool false)], args := [] }
  | _ => none }
def CmdNumbersWrongFalsely : Prop := cmdNumbersRow.holds Tryz.pinned (OpenSpec.ofChange cmdNumbersWrong)

/-- 'wardmotelaw8.CmdAnswers': WHATEVER THE INPUT: true; the input reads as it did. -/
def cmdAnswersSpec : ChangeSpec := { name := "cmdAnswers", fn := fun _ => fun
  | [d1, d2, d3, d4, d5, d6, d7] => { results := [.lit (.bool true)], args := [d1, d2, d3, d4, d5, d6, d7] }
  | _ => none }
def cmdAnswersRow : OpenClaim := { program := "ytncffhgoopdfgaagreat", sum := "119ab48ffb5c58320a29ddcfb8824840a8badd5f88b2b905c6c9070e65fb8dd5", func := "wardmote/wardmotelaw8.CmdAnswers", spec := "cmdAnswers", inPlace := ["math.Float64bits", "math.Float64frombits", "internal/bytealg.Compare"], unfollowed := true, recurses := true, apart := false }
def CmdAnswersSaid : Prop := cmdAnswersRow.holds Tryz.pinned (OpenSpec.ofChange cmdAnswersSpec)

/-- ITS FALSE NEIGHBOUR: 'it returns false'. Refute it at one input. -/
def cmdAnswersWrong : ChangeSpec := { name := "cmdAnswers", fn := fun _ => fun
  | [d1, d2, d3, d4, d5, d6, d7] => { results := [.lit (.bool false)], args := [d1, d2, d3, d4, d5, d6, d7] }
  | _ => none }
def CmdAnswersWrongFalsely : Prop := cmdAnswersRow.holds Tryz.pinned (OpenSpec.ofChange cmdAnswersWrong)

/-- 'wardmotelaw8.CmdSaid': WHATEVER THE INPUT: true; the input reads as it did. -/
def cmdSaidSpec : ChangeSpec := { name := "cmdSaid", fn := fun _ => fun
  | [d1, d2, d3, d4] => { results := [.lit (.bool true)], args := [d1, d2, d3, d4] }
  | _ => none }
def cmdSaidRow : OpenClaim := { program := "ytncffhgoopdfgaagreat", sum := "119ab48ffb5c58320a29ddcfb8824840a8badd5f88b2b905c6c9070e65fb8dd5", func := "wardmote/wardmotelaw8.CmdSaid", spec := "cmdSaid", inPlace := ["math.Float64bits", "math.Float64frombits", "internal/bytealg.Compare"], unfollowed := true, recurses := true, apart := false }
def CmdSaidSaid : Prop := cmdSaidRow.holds Tryz.pinned (OpenSpec.ofChange cmdSaidSpec)

/-- ITS FALSE NEIGHBOUR: 'it returns false'. Refute it at one input. -/
def cmdSaidWrong : ChangeSpec := { name := "cmdSaid", fn := fun _ => fun
  | [d1, d2, d3, d4] => { results := [.lit (.bool false)], args := [d1, d2, d3, d4] }
  | _ => none }
def CmdSaidWrongFalsely : Prop := cmdSaidRow.holds Tryz.pinned (OpenSpec.ofChange cmdSaidWrong)

/- THE SECOND FORM. 'bulk': how many values and letters a reading holds, each counted each time it is reached (what is shared counts as often as it is met; a slice's spare places count too). A statement '..UptoSaid' is the law's where the arguments, and the package variables that the reading takes, are together of bulk at most 1048576: NARROWER than '..Said'. Prove '..Said' where nothing that the law and all that it calls make is longer than what came in: it says more and counts as full. Else prove '..UptoSaid'. A law counts once. -/
mutual
def uptoBulk {H : Type} : DataW H → Nat
  | .lit (.string bytes) => bytes.length + 1
  | .lit _ => 1
  | .nil => 1
  | .ptr d => uptoBulk d + 1
  | .slice elems spare => uptoBulkAll elems + uptoBulkAll spare + 1
  | .agg parts => uptoBulkAll parts + 1
  | .iface _ d => uptoBulk d + 1
  | .map entries => uptoBulkEntries entries + 1
  | .held _ => 1
def uptoBulkAll {H : Type} : List (DataW H) → Nat
  | [] => 0
  | d :: r => uptoBulk d + uptoBulkAll r
def uptoBulkEntries {H : Type} : List (Lit × DataW H) → Nat
  | [] => 0
  | x :: r => uptoBulkEntry x + uptoBulkEntries r
def uptoBulkEntry {H : Type} : Lit × DataW H → Nat
  | (.string bytes, d) => bytes.length + uptoBulk d + 1
  | (_, d) => uptoBulk d + 1
 end
def uptoSmall : (H : Type) → List (DataW H) → Bool := fun _ ds => decide (uptoBulkAll ds ≤ 1048576)
def OpenSpec.upto (s : _root_.Go.ChangeSpec) : _root_.Go.OpenSpec := { _root_.Go.OpenSpec.ofChange s with cond := some uptoSmall }

/-- 'wardmotelaw8.CmdTells', WHERE WHAT IT READS IS OF BULK AT MOST 1048576: true; the input reads as it did. -/
def cmdTellsUptoRow : OpenClaim := { program := "ytncffhgoopdfgaagreat", sum := "119ab48ffb5c58320a29ddcfb8824840a8badd5f88b2b905c6c9070e65fb8dd5", func := "wardmote/wardmotelaw8.CmdTells", spec := "cmdTells", inPlace := ["math.Float64bits", "math.Float64frombits"], unfollowed := true, recurses := true, apart := false, narrowed := true }
def CmdTellsUptoSaid : Prop := cmdTellsUptoRow.holds Tryz.pinned (OpenSpec.upto cmdTellsSpec)

/-- 'wardmotelaw5.ChangeNumbers', WHERE WHAT IT READS IS OF BULK AT MOST 1048576: true; the input reads as it did. -/
def changeNumbersUptoRow : OpenClaim := { program := "ytncffhgoopdfgaagreat", sum := "119ab48ffb5c58320a29ddcfb8824840a8badd5f88b2b905c6c9070e65fb8dd5", func := "wardmote/wardmotelaw5.ChangeNumbers", spec := "changeNumbers", inPlace := ["math.Float64bits", "math.Float64frombits", "slices.overlaps[wardmote/api.Column]", "slices.overlaps[wardmote/api.Version]", "internal/bytealg.Compare"], unfollowed := true, recurses := true, apart := false, narrowed := true }
def ChangeNumbersUptoSaid : Prop := changeNumbersUptoRow.holds Tryz.pinned (OpenSpec.upto changeNumbersSpec)

/-- 'wardmotelaw5.ChangeTells', WHERE WHAT IT READS IS OF BULK AT MOST 1048576: true; the input reads as it did. -/
def changeTellsUptoRow : OpenClaim := { program := "ytncffhgoopdfgaagreat", sum := "119ab48ffb5c58320a29ddcfb8824840a8badd5f88b2b905c6c9070e65fb8dd5", func := "wardmote/wardmotelaw5.ChangeTells", spec := "changeTells", inPlace := ["math.Float64bits", "math.Float64frombits", "slices.overlaps[wardmote/api.Column]", "slices.overlaps[wardmote/api.Version]", "internal/bytealg.Compare"], unfollowed := true, recurses := true, apart := false, narrowed := true }
def ChangeTellsUptoSaid : Prop := changeTellsUptoRow.holds Tryz.pinned (OpenSpec.upto changeTellsSpec)

/-- 'wardmotelaw8.CmdNumbers', WHERE WHAT IT READS IS OF BULK AT MOST 1048576: true; the input reads as it did. -/
def cmdNumbersUptoRow : OpenClaim := { program := "ytncffhgoopdfgaagreat", sum := "119ab48ffb5c58320a29ddcfb8824840a8badd5f88b2b905c6c9070e65fb8dd5", func := "wardmote/wardmotelaw8.CmdNumbers", spec := "cmdNumbers", inPlace := ["math.Float64frombits", "math.Float64bits", "internal/bytealg.Compare"], unfollowed := true, recurses := true, apart := false, narrowed := true }
def CmdNumbersUptoSaid : Prop := cmdNumbersUptoRow.holds Tryz.pinned (OpenSpec.upto cmdNumbersSpec)

/-- 'wardmotelaw8.CmdAnswers', WHERE WHAT IT READS IS OF BULK AT MOST 1048576: true; the input reads as it did. -/
def cmdAnswersUptoRow : OpenClaim := { program := "ytncffhgoopdfgaagreat", sum := "119ab48ffb5c58320a29ddcfb8824840a8badd5f88b2b905c6c9070e65fb8dd5", func := "wardmote/wardmotelaw8.CmdAnswers", spec := "cmdAnswers", inPlace := ["math.Float64bits", "math.Float64frombits", "internal/bytealg.Compare"], unfollowed := true, recurses := true, apart := false, narrowed := true }
def CmdAnswersUptoSaid : Prop := cmdAnswersUptoRow.holds Tryz.pinned (OpenSpec.upto cmdAnswersSpec)

/-- 'wardmotelaw8.CmdSaid', WHERE WHAT IT READS IS OF BULK AT MOST 1048576: true; the input reads as it did. -/
def cmdSaidUptoRow : OpenClaim := { program := "ytncffhgoopdfgaagreat", sum := "119ab48ffb5c58320a29ddcfb8824840a8badd5f88b2b905c6c9070e65fb8dd5", func := "wardmote/wardmotelaw8.CmdSaid", spec := "cmdSaid", inPlace := ["math.Float64bits", "math.Float64frombits", "internal/bytealg.Compare"], unfollowed := true, recurses := true, apart := false, narrowed := true }
def CmdSaidUptoSaid : Prop := cmdSaidUptoRow.holds Tryz.pinned (OpenSpec.upto cmdSaidSpec)

end Rows
end Go.Proofs.YtncffhgoopdfgaaGreat
