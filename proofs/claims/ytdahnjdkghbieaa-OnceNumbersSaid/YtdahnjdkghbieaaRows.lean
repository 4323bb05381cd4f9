/-
  No cell of these rows narrows 'for every input' (looked for: loops, veiled, ifaces, maps, wideKeys, modest, calm, conditions, laid).
  DERIVED. THE GIVEN ROWS OF THIS SEAT. 9 by the template 'for every input the law returns true; each argument reads behind the call as it read before'; 0 by the template 'total and deterministic' (their statements: YtdahnjdkghbieaaTotals.lean).
  GIVEN WITH THE SEED: the statements are not yours to turn. If you find one false, say at which input.
  Laid BY PROGRAM, IN A SANDBOX (cutbox-rows.mjs): the forced cells as the released guide's own fill.sh prints them over the translation 9bd71919e6868450… (all of the seat's roots in one cut). By AI agents, Wed Nov 11 2026. No macro, syntax, notation, axiom, sorry.
-/
import Derived.Test.YtdahnjdkghbieaaChecked
import GoSem.Claim
import GoSem.ClaimJoined
import GoSem.ClaimMapViews
import Derived.JoinedTies
import Derived.KernelRfl
namespace Go.Proofs.Ytdahnjdkghbieaa
/- THE CELL 'sum', in the pinned program and in every row, IS THE sha256 OF THE DUMP (.gsa) THAT YtdahnjdkghbieaaProg.lean LOADS. Nothing in Lean hashes anything: it is a label: what it is worth is what the hold of that sum in a sandbox is worth. -/
noncomputable def Try.pinned : Pinned := { name := "ytdahnjdkghbieaa", sum := "9bd71919e68684504233b0be08e67548ad9d0ced66771202c1bc477085b07e4f", checked := Try.checked }
namespace Rows
def none {H : Type} : Left H := { results := [], args := [] }

/-- 'wardmotelaw9.OncePlays': WHATEVER THE INPUT: true; the input reads as it did. -/
def oncePlaysSpec : ChangeSpec := { name := "oncePlays", fn := fun _ => fun
  | [d] => { results := [.lit (.bool true)], args := [d] }
  | _ => none }
def oncePlaysRow : OpenClaim := { program := "ytdahnjdkghbieaa", sum := "9bd71919e68684504233b0be08e67548ad9d0ced66771202c1bc477085b07e4f", func := "wardmote/wardmotelaw9.OncePlays", spec := "oncePlays", inPlace := ["slices.overlaps[wardmote/once.told]"], unfollowed := true, recurses := true, apart := false }
def OncePlaysSaid : Prop := oncePlaysRow.holds Try.pinned (OpenSpec.ofChange oncePlaysSpec)

/-- ITS FALSE NEIGHBOUR: 'it returns false'. Refute it at one input. -/
def oncePlaysWrong : ChangeSpec := { name := "oncePlays", fn := fun _ => fun
  | [d] => { results := [.lit (.bool false)], args := [d] }
  | _ => none }
def OncePlaysWrongFalsely : Prop := oncePlaysRow.holds Try.pinned (OpenSpec.ofChange oncePlaysWrong)

/-- 'wardmotelaw9.OnceLast': WHATEVER THE INPUT: true; the input reads as it did. -/
def onceLastSpec : ChangeSpec := { name := "onceLast", fn := fun _ => fun
  | [d] => { results := [.lit (.bool true)], args := [d] }
  | _ => none }
def onceLastRow : OpenClaim := { program := "ytdahnjdkghbieaa", sum := "9bd71919e68684504233b0be08e67548ad9d0ced66771202c1bc477085b07e4f", func := "wardmote/wardmotelaw9.OnceLast", spec := "onceLast", inPlace := ["slices.overlaps[wardmote/once.told]"], unfollowed := true, recurses := true, apart := false }
def OnceLastSaid : Prop := onceLastRow.holds Try.pinned (OpenSpec.ofChange onceLastSpec)

/-- ITS FALSE NEIGHBOUR: 'it returns false'. Refute it at one input. -/
def onceLastWrong : ChangeSpec := { name := "onceLast", fn := fun _ => fun
  | [d] => { results := [.lit (.bool false)], args := [d] }
  | _ => none }
def OnceLastWrongFalsely : Prop := onceLastRow.holds Try.pinned (OpenSpec.ofChange onceLastWrong)

/-- 'wardmotelaw9.OnceJoins': WHATEVER THE INPUT: true; the input reads as it did. -/
def onceJoinsSpec : ChangeSpec := { name := "onceJoins", fn := fun _ => fun
  | [d1, d2] => { results := [.lit (.bool true)], args := [d1, d2] }
  | _ => none }
def onceJoinsRow : OpenClaim := { program := "ytdahnjdkghbieaa", sum := "9bd71919e68684504233b0be08e67548ad9d0ced66771202c1bc477085b07e4f", func := "wardmote/wardmotelaw9.OnceJoins", spec := "onceJoins", inPlace := ["slices.overlaps[wardmote/once.told]"], unfollowed := true, recurses := true, apart := false }
def OnceJoinsSaid : Prop := onceJoinsRow.holds Try.pinned (OpenSpec.ofChange onceJoinsSpec)

/-- ITS FALSE NEIGHBOUR: 'it returns false'. Refute it at one input. -/
def onceJoinsWrong : ChangeSpec := { name := "onceJoins", fn := fun _ => fun
  | [d1, d2] => { results := [.lit (.bool false)], args := [d1, d2] }
  | _ => none }
def OnceJoinsWrongFalsely : Prop := onceJoinsRow.holds Try.pinned (OpenSpec.ofChange onceJoinsWrong)

/-- 'wardmotelaw9.OnceBytes': WHATEVER THE INPUT: true; the input reads as it did. -/
def onceBytesSpec : ChangeSpec := { name := "onceBytes", fn := fun _ => fun
  | [d1, d2, d3] => { results := [.lit (.bool true)], args := [d1, d2, d3] }
  | _ => none }
def onceBytesRow : OpenClaim := { program := "ytdahnjdkghbieaa", sum := "9bd71919e68684504233b0be08e67548ad9d0ced66771202c1bc477085b07e4f", func := "wardmote/wardmotelaw9.OnceBytes", spec := "onceBytes", inPlace := ["slices.overlaps[wardmote/once.told]"], unfollowed := true, recurses := true, apart := false }
def OnceBytesSaid : Prop := onceBytesRow.holds Try.pinned (OpenSpec.ofChange onceBytesSpec)

/-- ITS FALSE NEIGHBOUR: 'it returns false'. Refute it at one input. -/
def onceBytesWrong : ChangeSpec := { name := "onceBytes", fn := fun _ => fun
  | [d1, d2, d3] => { results := [.lit (.bool false)], args := [d1, d2, d3] }
  | _ => none }
def OnceBytesWrongFalsely : Prop := onceBytesRow.holds Try.pinned (OpenSpec.ofChange onceBytesWrong)

/-- 'wardmotelaw9.OnceNumbers': WHATEVER THE INPUT: true; the input reads as it did. -/
def onceNumbersSpec : ChangeSpec := { name := "onceNumbers", fn := fun _ => fun
  | [] => { results := [.lit (.bool true)], args := [] }
  | _ => none }
def onceNumbersRow : OpenClaim := { program := "ytdahnjdkghbieaa", sum := "9bd71919e68684504233b0be08e67548ad9d0ced66771202c1bc477085b07e4f", func := "wardmote/wardmotelaw9.OnceNumbers", spec := "onceNumbers", inPlace := ["slices.overlaps[wardmote/once.told]"], unfollowed := true, recurses := true, apart := false }
def OnceNumbersSaid : Prop := onceNumbersRow.holds Try.pinned (OpenSpec.ofChange onceNumbersSpec)

/-- ITS FALSE NEIGHBOUR: 'it returns false'. Refute it at one input. -/
def onceNumbersWrong : ChangeSpec := { name := "onceNumbers", fn := fun _ => fun
  | [] => { results := [.lit (.bool false)], args := [] }
  | _ => none }
def OnceNumbersWrongFalsely : Prop := onceNumbersRow.holds Try.pinned (OpenSpec.ofChange onceNumbersWrong)

/-- 'wardmotelaw17.VoteFirm': WHATEVER THE INPUT: true; the input reads as it did. -/
def voteFirmSpec : ChangeSpec := { name := "voteFirm", fn := fun _ => fun
  | [d] => { results := [.lit (.bool true)], args := [d] }
  | _ => none }
def voteFirmRow : OpenClaim := { program := "ytdahnjdkghbieaa", sum := "9bd71919e68684504233b0be08e67548ad9d0ced66771202c1bc477085b07e4f", func := "wardmote/wardmotelaw17.VoteFirm", spec := "voteFirm", inPlace := ["slices.overlaps[wardmote/api.Vote]"], unfollowed := true, recurses := true, apart := false }
def VoteFirmSaid : Prop := voteFirmRow.holds Try.pinned (OpenSpec.ofChange voteFirmSpec)

/-- ITS FALSE NEIGHBOUR: 'it returns false'. Refute it at one input. -/
def voteFirmWrong : ChangeSpec := { name := "voteFirm", fn := fun _ => fun
  | [d] => { results := [.lit (.bool false)], args := [d] }
  | _ => none }
def VoteFirmWrongFalsely : Prop := voteFirmRow.holds Try.pinned (OpenSpec.ofChange voteFirmWrong)

/-- 'wardmotelaw17.VotePlays': WHATEVER THE INPUT: true; the input reads as it did. -/
def votePlaysSpec : ChangeSpec := { name := "votePlays", fn := fun _ => fun
  | [d] => { results := [.lit (.bool true)], args := [d] }
  | _ => none }
def votePlaysRow : OpenClaim := { program := "ytdahnjdkghbieaa", sum := "9bd71919e68684504233b0be08e67548ad9d0ced66771202c1bc477085b07e4f", func := "wardmote/wardmotelaw17.VotePlays", spec := "votePlays", inPlace := ["slices.overlaps[wardmote/api.Vote]"], unfollowed := true, recurses := true, apart := false }
def VotePlaysSaid : Prop := votePlaysRow.holds Try.pinned (OpenSpec.ofChange votePlaysSpec)

/-- ITS FALSE NEIGHBOUR: 'it returns false'. Refute it at one input. -/
def votePlaysWrong : ChangeSpec := { name := "votePlays", fn := fun _ => fun
  | [d] => { results := [.lit (.bool false)], args := [d] }
  | _ => none }
def VotePlaysWrongFalsely : Prop := votePlaysRow.holds Try.pinned (OpenSpec.ofChange votePlaysWrong)

/-- 'wardmotelaw17.VoteSnaps': WHATEVER THE INPUT: true; the input reads as it did. -/
def voteSnapsSpec : ChangeSpec := { name := "voteSnaps", fn := fun _ => fun
  | [d1, d2, d3] => { results := [.lit (.bool true)], args := [d1, d2, d3] }
  | _ => none }
def voteSnapsRow : OpenClaim := { program := "ytdahnjdkghbieaa", sum := "9bd71919e68684504233b0be08e67548ad9d0ced66771202c1bc477085b07e4f", func := "wardmote/wardmotelaw17.VoteSnaps", spec := "voteSnaps", inPlace := ["slices.overlaps[wardmote/api.Vote]"], unfollowed := true, recurses := true, apart := false }
def VoteSnapsSaid : Prop := voteSnapsRow.holds Try.pinned (OpenSpec.ofChange voteSnapsSpec)

/-- ITS FALSE NEIGHBOUR: 'it returns false'. Refute it at one input. -/
def voteSnapsWrong : ChangeSpec := { name := "voteSnaps", fn := fun _ => fun
  | [d1, d2, d3] => { results := [.lit (.bool false)], args := [d1, d2, d3] }
  | _ => none }
def VoteSnapsWrongFalsely : Prop := voteSnapsRow.holds Try.pinned (OpenSpec.ofChange voteSnapsWrong)

/-- 'wardmotelaw17.VoteNumbers': WHATEVER THE INPUT: true; the input reads as it did. -/
def voteNumbersSpec : ChangeSpec := { name := "voteNumbers", fn := fun _ => fun
  | [] => { results := [.lit (.bool true)], args := [] }
  | _ => none }
def voteNumbersRow : OpenClaim := { program := "ytdahnjdkghbieaa", sum := "9bd71919e68684504233b0be08e67548ad9d0ced66771202c1bc477085b07e4f", func := "wardmote/wardmotelaw17.VoteNumbers", spec := "voteNumbers", inPlace := ["slices.overlaps[wardmote/api.Vote]"], unfollowed := true, recurses := true, apart := false }
def VoteNumbersSaid : Prop := voteNumbersRow.holds Try.pinned (OpenSpec.ofChange voteNumbersSpec)

/-- ITS FALSE NEIGHBOUR: 'it returns false'. Refute it at one input. -/
def voteNumbersWrong : ChangeSpec := { name := "voteNumbers", fn := fun _ => fun
  | [] => { results := [.lit (.bool false)], args := [] }
  | _ => none }
def VoteNumbersWrongFalsely : Prop := voteNumbersRow.holds Try.pinned (OpenSpec.ofChange voteNumbersWrong)

/- THE SECOND FORM. 'bulk': how many values and letters a reading holds, each counted each time it is reached (what is shared counts as often as it is met; a slice's spare places count too). A statement '..UptoSaid' is the law's where the arguments, and the package variables that the reading takes, are together of bulk at most 1048576: NARROWER than '..Said'. Prove '..Said' where nothing that the law and all that it calls make is longer than what came in: it says more and counts as full. Else prove '..UptoSaid'. A law counts once. -/
mutual
def uptoBulk {H : Type} : DataW H → Nat
  | .lit (.string bytes) => bytes.length + 1
  | .lit _ => 1
  | .nil => 1
  | .ptr d => uptoBulk d + 1
  | .slice elems spare => uptoBulkAll elems + uptoBulkAll spare + 1
  | .agg parts => uptoBulkAll parts + 1
  | .iface _ d => uptoBulk d + 1
  | .map entries => uptoBulkEntries entries + 1
  | .held _ => 1
def uptoBulkAll {H : Type} : List (DataW H) → Nat
  | [] => 0
  | d :: r => uptoBulk d + uptoBulkAll r
def uptoBulkEntries {H : Type} : List (Lit × DataW H) → Nat
  | [] => 0
  | x :: r => uptoBulkEntry x + uptoBulkEntries r
def uptoBulkEntry {H : Type} : Lit × DataW H → Nat
  | (.string bytes, d) => bytes.length + uptoBulk d + 1
  | (_, d) => uptoBulk d + 1
 end
def uptoSmall : (H : Type) → List (DataW H) → Bool := fun _ ds => decide (uptoBulkAll ds ≤ 1048576)
def OpenSpec.upto (s : _root_.Go.ChangeSpec) : _root_.Go.OpenSpec := { _root_.Go.OpenSpec.ofChange s with cond := some uptoSmall }

/-- 'wardmotelaw9.OncePlays', WHERE WHAT IT READS IS OF BULK AT MOST 1048576: true; the input reads as it did. -/
def oncePlaysUptoRow : OpenClaim := { program := "ytdahnjdkghbieaa", sum := "9bd71919e68684504233b0be08e67548ad9d0ced66771202c1bc477085b07e4f", func := "wardmote/wardmotelaw9.OncePlays", spec := "oncePlays", inPlace := ["slices.overlaps[wardmote/once.told]"], unfollowed := true, recurses := true, apart := false, narrowed := true }
def OncePlaysUptoSaid : Prop := oncePlaysUptoRow.holds Try.pinned (OpenSpec.upto oncePlaysSpec)

/-- 'wardmotelaw9.OnceLast', WHERE WHAT IT READS IS OF BULK AT MOST 1048576: true; the input reads as it did. -/
def onceLastUptoRow : OpenClaim := { program := "ytdahnjdkghbieaa", sum := "9bd71919e68684504233b0be08e67548ad9d0ced66771202c1bc477085b07e4f", func := "wardmote/wardmotelaw9.OnceLast", spec := "onceLast", inPlace := ["slices.overlaps[wardmote/once.told]"], unfollowed := true, recurses := true, apart := false, narrowed := true }
def OnceLastUptoSaid : Prop := onceLastUptoRow.holds Try.pinned (OpenSpec.upto onceLastSpec)

/-- 'wardmotelaw9.OnceJoins', WHERE WHAT IT READS IS OF BULK AT MOST 1048576: true; the input reads as it did. -/
def onceJoinsUptoRow : OpenClaim := { program := "ytdahnjdkghbieaa", sum := "9bd71919e68684504233b0be08e67548ad9d0ced66771202c1bc477085b07e4f", func := "wardmote/wardmotelaw9.OnceJoins", spec := "onceJoins", inPlace := ["slices.overlaps[wardmote/once.told]"], unfollowed := true, recurses := true, apart := false, narrowed := true }
def OnceJoinsUptoSaid : Prop := onceJoinsUptoRow.holds Try.pinned (OpenSpec.upto onceJoinsSpec)

/-- 'wardmotelaw9.OnceBytes', WHERE WHAT IT READS IS OF BULK AT MOST 1048576: true; the input reads as it did. -/
def onceBytesUptoRow : OpenClaim := { program := "ytdahnjdkghbieaa", sum := "9bd71919e68684504233b0be08e67548ad9d0ced66771202c1bc477085b07e4f", func := "wardmote/wardmotelaw9.OnceBytes", spec := "onceBytes", inPlace := ["slices.overlaps[wardmote/once.told]"], unfollowed := true, recurses := true, apart := false, narrowed := true }
def OnceBytesUptoSaid : Prop := onceBytesUptoRow.holds Try.pinned (OpenSpec.upto onceBytesSpec)

/-- 'wardmotelaw9.OnceNumbers', WHERE WHAT IT READS IS OF BULK AT MOST 1048576: true; the input reads as it did. -/
def onceNumbersUptoRow : OpenClaim := { program := "ytdahnjdkghbieaa", sum := "9bd71919e68684504233b0be08e67548ad9d0ced66771202c1bc477085b07e4f", func := "wardmote/wardmotelaw9.OnceNumbers", spec := "onceNumbers", inPlace := ["slices.overlaps[wardmote/once.told]"], unfollowed := true, recurses := true, apart := false, narrowed := true }
def OnceNumbersUptoSaid : Prop := onceNumbersUptoRow.holds Try.pinned (OpenSpec.upto onceNumbersSpec)

/-- 'wardmotelaw17.VoteFirm', WHERE WHAT IT READS IS OF BULK AT MOST 1048576: true; the input reads as it did. -/
def voteFirmUptoRow : OpenClaim := { program := "ytdahnjdkghbieaa", sum := "9bd71919e68684504233b0be08e67548ad9d0ced66771202c1bc477085b07e4f", func := "wardmote/wardmotelaw17.VoteFirm", spec := "voteFirm", inPlace := ["slices.overlaps[wardmote/api.Vote]"], unfollowed := true, recurses := true, apart := false, narrowed := true }
def VoteFirmUptoSaid : Prop := voteFirmUptoRow.holds Try.pinned (OpenSpec.upto voteFirmSpec)

/-- 'wardmotelaw17.VotePlays', WHERE WHAT IT READS IS OF BULK AT MOST 1048576: true; the input reads as it did. -/
def votePlaysUptoRow : OpenClaim := { program := "ytdahnjdkghbieaa", sum := "9bd71919e68684504233b0be08e67548ad9d0ced66771202c1bc477085b07e4f", func := "wardmote/wardmotelaw17.VotePlays", spec := "votePlays", inPlace := ["slices.overlaps[wardmote/api.Vote]"], unfollowed := true, recurses := true, apart := false, narrowed := true }
def VotePlaysUptoSaid : Prop := votePlaysUptoRow.holds Try.pinned (OpenSpec.upto votePlaysSpec)

/-- 'wardmotelaw17.VoteSnaps', WHERE WHAT IT READS IS OF BULK AT MOST 1048576: true; the input reads as it did. -/
def voteSnapsUptoRow : OpenClaim := { program := "ytdahnjdkghbieaa", sum := "9bd71919e68684504233b0be08e67548ad9d0ced66771202c1bc477085b07e4f", func := "wardmote/wardmotelaw17.VoteSnaps", spec := "voteSnaps", inPlace := ["slices.overlaps[wardmote/api.Vote]"], unfollowed := true, recurses := true, apart := false, narrowed := true }
def VoteSnapsUptoSaid : Prop := voteSnapsUptoRow.holds Try.pinned (OpenSpec.upto voteSnapsSpec)

/-- 'wardmotelaw17.VoteNumbers', WHERE WHAT IT READS IS OF BULK AT MOST 1048576: true; the input reads as it did. -/
def voteNumbersUptoRow : OpenClaim := { program := "ytdahnjdkghbieaa", sum := "9bd71919e68684504233b0be08e67548ad9d0ced66771202c1bc477085b07e4f", func := "wardmote/wardmotelaw17.VoteNumbers", spec := "voteNumbers", inPlace := ["slices.overlaps[wardmote/api.Vote]"], unfollowed := true, recurses := true, apart := false, narrowed := true }
def VoteNumbersUptoSaid : Prop := voteNumbersUptoRow.holds Try.pinned (OpenSpec.upto voteNumbersSpec)

end Rows
end Go.Proofs.Ytdahnjdkghbieaa
