/-
  No cell of these rows narrows 'for every input' (looked for: loops, veiled, ifaces, maps, wideKeys, modest, calm, conditions, laid).
  DERIVED. THE GIVEN ROWS OF THIS SEAT. 4 by the template 'for every input the law returns true; each argument reads behind the call as it read before'; 0 by the template 'total and deterministic' (their statements: YtncffhgoopdfgaaTotals.lean).
  GIVEN WITH THE SEED: the statements are not yours to turn. If you find one false, say at which input.
  Laid BY PROGRAM, IN A SANDBOX (cutbox-rows.mjs): the forced cells as the released guide's own fill.sh prints them over the translation ef191a2c8e948817… (all of the seat's roots in one cut). By AI agents, Wed Nov 11 2026. No macro, syntax, notation, axiom, sorry.
-/
import Derived.Test.YtncffhgoopdfgaaChecked
import GoSem.Claim
import GoSem.ClaimJoined
import GoSem.ClaimMapViews
import Derived.JoinedTies
import Derived.KernelRfl
namespace Go.Proofs.Ytncffhgoopdfgaa
/- THE CELL 'sum', in the pinned program and in every row, IS THE sha256 OF THE DUMP (.gsa) THAT YtncffhgoopdfgaaProg.lean LOADS. Nothing in Lean hashes anything: it is a label: what it is worth is what the hold of that sum in a sandbox is worth. -/
noncomputable def Try.pinned : Pinned := { name := "ytncffhgoopdfgaa", sum := "ef191a2c8e948817655f2579e3800437c067621a175d397b4b0185580f965b7e", checked := Try.checked }
namespace Rows
def none {H : Type} : Left H := { results := [], args := [] }

/-- 'wardmotelaw8.CmdBack': WHATEVER THE INPUT: true; the input reads as it did. -/
def cmdBackSpec : ChangeSpec := { name := "cmdBack", fn := fun _ => fun
  | [d1, d2, d3, d4, d5] => { results := [.lit (.bool true)], args := [d1, d2, d3, d4, d5] }
  | _ => none }
def cmdBackRow : OpenClaim := { program := "ytncffhgoopdfgaa", sum := "ef191a2c8e948817655f2579e3800437c067621a175d397b4b0185580f965b7e", func := "wardmote/wardmotelaw8.CmdBack", spec := "cmdBack", inPlace := ["math.Float64bits", "math.Float64frombits"], unfollowed := true, recurses := true, apart := false }
def CmdBackSaid : Prop := cmdBackRow.holds Try.pinned (OpenSpec.ofChange cmdBackSpec)

/-- ITS FALSE NEIGHBOUR: 'it returns false'. Refute it at one input. -/
def cmdBackWrong : ChangeSpec := { name := "cmdBack", fn := fun _ => fun
  | [d1, d2, d3, d4, d5] => { results := [.lit (.bool false)], args := [d1, d2, d3, d4, d5] }
  | _ => none }
def CmdBackWrongFalsely : Prop := cmdBackRow.holds Try.pinned (OpenSpec.ofChange cmdBackWrong)

/-- 'wardmotelaw5.ChangeParts': WHATEVER THE INPUT: true; the input reads as it did. -/
def changePartsSpec : ChangeSpec := { name := "changeParts", fn := fun _ => fun
  | [d1, d2] => { results := [.lit (.bool true)], args := [d1, d2] }
  | _ => none }
def changePartsRow : OpenClaim := { program := "ytncffhgoopdfgaa", sum := "ef191a2c8e948817655f2579e3800437c067621a175d397b4b0185580f965b7e", func := "wardmote/wardmotelaw5.ChangeParts", spec := "changeParts", inPlace := ["math.Float64bits", "math.Float64frombits", "slices.overlaps[wardmote/api.Column]", "slices.overlaps[wardmote/api.Version]", "internal/bytealg.Compare"], unfollowed := true, recurses := true, apart := false }
def ChangePartsSaid : Prop := changePartsRow.holds Try.pinned (OpenSpec.ofChange changePartsSpec)

/-- ITS FALSE NEIGHBOUR: 'it returns false'. Refute it at one input. -/
def changePartsWrong : ChangeSpec := { name := "changeParts", fn := fun _ => fun
  | [d1, d2] => { results := [.lit (.bool false)], args := [d1, d2] }
  | _ => none }
def ChangePartsWrongFalsely : Prop := changePartsRow.holds Try.pinned (OpenSpec.ofChange changePartsWrong)

/-- 'wardmotelaw5.ChangeSums': WHATEVER THE INPUT: true; the input reads as it did. -/
def changeSumsSpec : ChangeSpec := { name := "changeSums", fn := fun _ => fun
  | [d1, d2] => { results := [.lit (.bool true)], args := [d1, d2] }
  | _ => none }
def changeSumsRow : OpenClaim := { program := "ytncffhgoopdfgaa", sum := "ef191a2c8e948817655f2579e3800437c067621a175d397b4b0185580f965b7e", func := "wardmote/wardmotelaw5.ChangeSums", spec := "changeSums", inPlace := ["math.Float64bits", "math.Float64frombits", "slices.overlaps[wardmote/api.Column]", "slices.overlaps[wardmote/api.Version]", "internal/bytealg.Compare"], unfollowed := true, recurses := true, apart := false }
def ChangeSumsSaid : Prop := changeSumsRow.holds Try.pinned (OpenSpec.ofChange changeSumsSpec)

/-- ITS FALSE NEIGHBOUR: 'it returns false'. Refute it at one input. -/
def changeSumsWrong : ChangeSpec := { name := "changeSums", fn := fun _ => fun
  | [d1, d2] => { results := [.lit (.bool false)], args := [d1, d2] }
  | _ => none }
def ChangeSumsWrongFalsely : Prop := changeSumsRow.holds Try.pinned (OpenSpec.ofChange changeSumsWrong)

/-- 'wardmotelaw5.ChangeConds': WHATEVER THE INPUT: true; the input reads as it did. -/
def changeCondsSpec : ChangeSpec := { name := "changeConds", fn := fun _ => fun
  | [d1, d2, d3] => { results := [.lit (.bool true)], args := [d1, d2, d3] }
  | _ => none }
def changeCondsRow : OpenClaim := { program := "ytncffhgoopdfgaa", sum := "ef191a2c8e948817655f2579e3800437c067621a175d397b4b0185580f965b7e", func := "wardmote/wardmotelaw5.ChangeConds", spec := "changeConds", inPlace := ["math.Float64bits", "math.Float64frombits", "slices.overlaps[wardmote/api.Column]", "slices.overlaps[wardmote/api.Version]", "internal/bytealg.Compare"], unfollowed := true, recurses := true, apart := false }
def ChangeCondsSaid : Prop := changeCondsRow.holds Try.pinned (OpenSpec.ofChange changeCondsSpec)

/-- ITS FALSE NEIGHBOUR: 'it returns false'. Refute it at one input. -/
def changeCondsWrong : ChangeSpec := { name := "changeConds", fn := fun _ => fun
  | [d1, d2, d3] => { results := [.lit (.bool false)], args := [d1, d2, d3] }
  | _ => none }
def ChangeCondsWrongFalsely : Prop := changeCondsRow.holds Try.pinned (OpenSpec.ofChange changeCondsWrong)

/- THE SECOND FORM. 'bulk': how many values and letters a reading holds, each counted each time it is reached (what is shared counts as often as it is met; a slice's spare places count too). A statement '..UptoSaid' is the law's where the arguments, and the package variables that the reading takes, are together of bulk at most 1048576: NARROWER than '..Said'. Prove '..Said' where nothing that the law and all that it calls make is longer than what came in: it says more and counts as full. Else prove '..UptoSaid'. A law counts once. -/
mutual
def uptoBulk {H : Type} : DataW H → Nat
  | .lit (.string bytes) => bytes.length + 1
  | .lit _ => 1
  | .nil => 1
  | .ptr d => uptoBulk d + 1
  | .slice elems spare => uptoBulkAll elems + uptoBulkAll spare + 1
  | .agg parts => uptoBulkAll parts + 1
  | .iface _ d => uptoBulk d + 1
  | .map entries => uptoBulkEntries entries + 1
  | .held _ => 1
def uptoBulkAll {H : Type} : List (DataW H) → Nat
  | [] => 0
  | d :: r => uptoBulk d + uptoBulkAll r
def uptoBulkEntries {H : Type} : List (Lit × DataW H) → Nat
  | [] => 0
  | x :: r => uptoBulkEntry x + uptoBulkEntries r
def uptoBulkEntry {H : Type} : Lit × DataW H → Nat
  | (.string bytes, d) => bytes.length + uptoBulk d + 1
  | (_, d) => uptoBulk d + 1
 end
def uptoSmall : (H : Type) → List (DataW H) → Bool := fun _ ds => decide (uptoBulkAll ds ≤ 1048576)
def OpenSpec.upto (s : _root_.Go.ChangeSpec) : _root_.Go.OpenSpec := { _root_.Go.OpenSpec.ofChange s with cond := some uptoSmall }

/-- 'wardmotelaw8.CmdBack', WHERE WHAT IT READS IS OF BULK AT MOST 1048576: true; the input reads as it did. -/
def cmdBackUptoRow : OpenClaim := { program := "ytncffhgoopdfgaa", sum := "ef191a2c8e948817655f2579e3800437c067621a175d397b4b0185580f965b7e", func := "wardmote/wardmotelaw8.CmdBack", spec := "cmdBack", inPlace := ["math.Float64bits", "math.Float64frombits"], unfollowed := true, recurses := true, apart := false, narrowed := true }
def CmdBackUptoSaid : Prop := cmdBackUptoRow.holds Try.pinned (OpenSpec.upto cmdBackSpec)

/-- 'wardmotelaw5.ChangeParts', WHERE WHAT IT READS IS OF BULK AT MOST 1048576: true; the input reads as it did. -/
def changePartsUptoRow : OpenClaim := { program := "ytncffhgoopdfgaa", sum := "ef191a2c8e948817655f2579e3800437c067621a175d397b4b0185580f965b7e", func := "wardmote/wardmotelaw5.ChangeParts", spec := "changeParts", inPlace := ["math.Float64bits", "math.Float64frombits", "slices.overlaps[wardmote/api.Column]", "slices.overlaps[wardmote/api.Version]", "internal/bytealg.Compare"], unfollowed := true, recurses := true, apart := false, narrowed := true }
def ChangePartsUptoSaid : Prop := changePartsUptoRow.holds Try.pinned (OpenSpec.upto changePartsSpec)

/-- 'wardmotelaw5.ChangeSums', WHERE WHAT IT READS IS OF BULK AT MOST 1048576: true; the input reads as it did. -/
def changeSumsUptoRow : OpenClaim := { program := "ytncffhgoopdfgaa", sum := "ef191a2c8e948817655f2579e3800437c067621a175d397b4b0185580f965b7e", func := "wardmote/wardmotelaw5.ChangeSums", spec := "changeSums", inPlace := ["math.Float64bits", "math.Float64frombits", "slices.overlaps[wardmote/api.Column]", "slices.overlaps[wardmote/api.Version]", "internal/bytealg.Compare"], unfollowed := true, recurses := true, apart := false, narrowed := true }
def ChangeSumsUptoSaid : Prop := changeSumsUptoRow.holds Try.pinned (OpenSpec.upto changeSumsSpec)

/-- 'wardmotelaw5.ChangeConds', WHERE WHAT IT READS IS OF BULK AT MOST 1048576: true; the input reads as it did. -/
def changeCondsUptoRow : OpenClaim := { program := "ytncffhgoopdfgaa", sum := "ef191a2c8e948817655f2579e3800437c067621a175d397b4b0185580f965b7e", func := "wardmote/wardmotelaw5.ChangeConds", spec := "changeConds", inPlace := ["math.Float64bits", "math.Float64frombits", "slices.overlaps[wardmote/api.Column]", "slices.overlaps[wardmote/api.Version]", "internal/bytealg.Compare"], unfollowed := true, recurses := true, apart := false, narrowed := true }
def ChangeCondsUptoSaid : Prop := changeCondsUptoRow.holds Try.pinned (OpenSpec.upto changeCondsSpec)

end Rows
end Go.Proofs.Ytncffhgoopdfgaa
