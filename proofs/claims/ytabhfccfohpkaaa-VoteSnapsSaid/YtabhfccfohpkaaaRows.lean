/-
  No cell of these rows narrows 'for every input' (looked for: loops, veiled, ifaces, maps, wideKeys, modest, calm, conditions, laid).
  DERIVED. THE GIVEN ROWS OF THIS SEAT. 8 by the template 'for every input the law returns true; each argument reads behind the call as it read before'; 0 by the template 'total and deterministic' (their statements: YtabhfccfohpkaaaTotals.lean).
  GIVEN WITH THE SEED: the statements are not yours to turn. If you find one false, say at which input.
  Laid BY PROGRAM, IN A SANDBOX (cutbox-rows.mjs): the forced cells as the released guide's own fill.sh prints them over the translation 55d0a11f8c51a526… (all of the seat's roots in one cut). By AI agents, Wed Nov 11 2026. No macro, syntax, notation, axiom, sorry.
-/
import Derived.Test.YtabhfccfohpkaaaChecked
import GoSem.Claim
import GoSem.ClaimJoined
import GoSem.ClaimMapViews
import Derived.JoinedTies
import Derived.KernelRfl
namespace Go.Proofs.Ytabhfccfohpkaaa
/- THE CELL 'sum', in the pinned program and in every row, IS THE sha256 OF THE DUMP (.gsa) THAT YtabhfccfohpkaaaProg.lean LOADS. Nothing in Lean hashes anything: it is a label: what it is worth is what the hold of that sum in a sandbox is worth. -/
noncomputable def Try.pinned : Pinned := { name := "ytabhfccfohpkaaa", sum := "55d0a11f8c51a526b900eee5244c47f820be57538198e11d228778cbbd0e243d", checked := Try.checked }
namespace Rows
def none {H : Type} : Left H := { results := [], args := [] }

/-- 'wardmotelaw4.RowNewest': WHATEVER THE INPUT: true; the input reads as it did. -/
def rowNewestSpec : ChangeSpec := { name := "rowNewest", fn := fun _ => fun
  | [d1, d2] => { results := [.lit (.bool true)], args := [d1, d2] }
  | _ => none }
def rowNewestRow : OpenClaim := { program := "ytabhfccfohpkaaa", sum := "55d0a11f8c51a526b900eee5244c47f820be57538198e11d228778cbbd0e243d", func := "wardmote/wardmotelaw4.RowNewest", spec := "rowNewest", inPlace := ["math.Float64bits", "math.Float64frombits", "slices.overlaps[wardmote/api.Column]", "slices.overlaps[wardmote/api.Version]"], unfollowed := true, recurses := true, apart := false }
def RowNewestSaid : Prop := rowNewestRow.holds Try.pinned (OpenSpec.ofChange rowNewestSpec)

/-- ITS FALSE NEIGHBOUR: 'it returns false'. Refute it at one input. -/
def rowNewestWrong : ChangeSpec := { name := "rowNewest", fn := fun _ => fun
  | [d1, d2] => { results := [.lit (.bool false)], args := [d1, d2] }
  | _ => none }
def RowNewestWrongFalsely : Prop := rowNewestRow.holds Try.pinned (OpenSpec.ofChange rowNewestWrong)

/-- 'wardmotelaw4.RowColumns': WHATEVER THE INPUT: true; the input reads as it did. -/
def rowColumnsSpec : ChangeSpec := { name := "rowColumns", fn := fun _ => fun
  | [d1, d2] => { results := [.lit (.bool true)], args := [d1, d2] }
  | _ => none }
def rowColumnsRow : OpenClaim := { program := "ytabhfccfohpkaaa", sum := "55d0a11f8c51a526b900eee5244c47f820be57538198e11d228778cbbd0e243d", func := "wardmote/wardmotelaw4.RowColumns", spec := "rowColumns", inPlace := ["math.Float64bits", "math.Float64frombits", "slices.overlaps[wardmote/api.Column]", "slices.overlaps[wardmote/api.Version]"], unfollowed := true, recurses := true, apart := false }
def RowColumnsSaid : Prop := rowColumnsRow.holds Try.pinned (OpenSpec.ofChange rowColumnsSpec)

/-- ITS FALSE NEIGHBOUR: 'it returns false'. Refute it at one input. -/
def rowColumnsWrong : ChangeSpec := { name := "rowColumns", fn := fun _ => fun
  | [d1, d2] => { results := [.lit (.bool false)], args := [d1, d2] }
  | _ => none }
def RowColumnsWrongFalsely : Prop := rowColumnsRow.holds Try.pinned (OpenSpec.ofChange rowColumnsWrong)

/-- 'wardmotelaw4.RowTimes': WHATEVER THE INPUT: true; the input reads as it did. -/
def rowTimesSpec : ChangeSpec := { name := "rowTimes", fn := fun _ => fun
  | [d1, d2, d3, d4] => { results := [.lit (.bool true)], args := [d1, d2, d3, d4] }
  | _ => none }
def rowTimesRow : OpenClaim := { program := "ytabhfccfohpkaaa", sum := "55d0a11f8c51a526b900eee5244c47f820be57538198e11d228778cbbd0e243d", func := "wardmote/wardmotelaw4.RowTimes", spec := "rowTimes", inPlace := ["math.Float64bits", "math.Float64frombits", "slices.overlaps[wardmote/api.Column]", "slices.overlaps[wardmote/api.Version]"], unfollowed := true, recurses := true, apart := false }
def RowTimesSaid : Prop := rowTimesRow.holds Try.pinned (OpenSpec.ofChange rowTimesSpec)

/-- ITS FALSE NEIGHBOUR: 'it returns false'. Refute it at one input. -/
def rowTimesWrong : ChangeSpec := { name := "rowTimes", fn := fun _ => fun
  | [d1, d2, d3, d4] => { results := [.lit (.bool false)], args := [d1, d2, d3, d4] }
  | _ => none }
def RowTimesWrongFalsely : Prop := rowTimesRow.holds Try.pinned (OpenSpec.ofChange rowTimesWrong)

/-- 'wardmotelaw17.VoteFirm': WHATEVER THE INPUT: true; the input reads as it did. -/
def voteFirmSpec : ChangeSpec := { name := "voteFirm", fn := fun _ => fun
  | [d] => { results := [.lit (.bool true)], args := [d] }
  | _ => none }
def voteFirmRow : OpenClaim := { program := "ytabhfccfohpkaaa", sum := "55d0a11f8c51a526b900eee5244c47f820be57538198e11d228778cbbd0e243d", func := "wardmote/wardmotelaw17.VoteFirm", spec := "voteFirm", inPlace := ["slices.overlaps[wardmote/api.Vote]"], unfollowed := true, recurses := true, apart := false }
def VoteFirmSaid : Prop := voteFirmRow.holds Try.pinned (OpenSpec.ofChange voteFirmSpec)

/-- ITS FALSE NEIGHBOUR: 'it returns false'. Refute it at one input. -/
def voteFirmWrong : ChangeSpec := { name := "voteFirm", fn := fun _ => fun
  | [d] => { results := [.lit (.bool false)], args := [d] }
  | _ => none }
def VoteFirmWrongFalsely : Prop := voteFirmRow.holds Try.pinned (OpenSpec.ofChange voteFirmWrong)

/-- 'wardmotelaw17.VotePlays': WHATEVER THE INPUT: true; the input reads as it did. -/
def votePlaysSpec : ChangeSpec := { name := "votePlays", fn := fun _ => fun
  | [d] => { results := [.lit (.bool true)], args := [d] }
  | _ => none }
def votePlaysRow : OpenClaim := { program := "ytabhfccfohpkaaa", sum := "55d0a11f8c51a526b900eee5244c47f820be57538198e11d228778cbbd0e243d", func := "wardmote/wardmotelaw17.VotePlays", spec := "votePlays", inPlace := ["slices.overlaps[wardmote/api.Vote]"], unfollowed := true, recurses := true, apart := false }
def VotePlaysSaid : Prop := votePlaysRow.holds Try.pinned (OpenSpec.ofChange votePlaysSpec)

/-- ITS FALSE NEIGHBOUR: 'it returns false'. Refute it at one input. -/
def votePlaysWrong : ChangeSpec := { name := "votePlays", fn := fun _ => fun
  | [d] => { results := [.lit (.bool false)], args := [d] }
  | _ => none }
def VotePlaysWrongFalsely : Prop := votePlaysRow.holds Try.pinned (OpenSpec.ofChange votePlaysWrong)

/-- 'wardmotelaw17.VoteSnaps': WHATEVER THE INPUT: true; the input reads as it did. -/
def voteSnapsSpec : ChangeSpec := { name := "voteSnaps", fn := fun _ => fun
  | [d1, d2, d3] => { results := [.lit (.bool true)], args := [d1, d2, d3] }
  | _ => none }
def voteSnapsRow : OpenClaim := { program := "ytabhfccfohpkaaa", sum := "55d0a11f8c51a526b900eee5244c47f820be57538198e11d228778cbbd0e243d", func := "wardmote/wardmotelaw17.VoteSnaps", spec := "voteSnaps", inPlace := ["slices.overlaps[wardmote/api.Vote]"], unfollowed := true, recurses := true, apart := false }
def VoteSnapsSaid : Prop := voteSnapsRow.holds Try.pinned (OpenSpec.ofChange voteSnapsSpec)

/-- ITS FALSE NEIGHBOUR: 'it returns false'. Refute it at one input. -/
def voteSnapsWrong : ChangeSpec := { name := "voteSnaps", fn := fun _ => fun
  | [d1, d2, d3] => { results := [.lit (.bool false)], args := [d1, d2, d3] }
  | _ => none }
def VoteSnapsWrongFalsely : Prop := voteSnapsRow.holds Try.pinned (OpenSpec.ofChange voteSnapsWrong)

/-- 'wardmotelaw17.VoteNumbers': WHATEVER THE INPUT: true; the input reads as it did. -/
def voteNumbersSpec : ChangeSpec := { name := "voteNumbers", fn := fun _ => fun
  | [] => { results := [.lit (.bool true)], args := [] }
  | _ => none }
def voteNumbersRow : OpenClaim := { program := "ytabhfccfohpkaaa", sum := "55d0a11f8c51a526b900eee5244c47f820be57538198e11d228778cbbd0e243d", func := "wardmote/wardmotelaw17.VoteNumbers", spec := "voteNumbers", inPlace := ["slices.overlaps[wardmote/api.Vote]"], unfollowed := true, recurses := true, apart := false }
def VoteNumbersSaid : Prop := voteNumbersRow.holds Try.pinned (OpenSpec.ofChange voteNumbersSpec)

/-- ITS FALSE NEIGHBOUR: 'it returns false'. Refute it at one input. -/
def voteNumbersWrong : ChangeSpec := { name := "voteNumbers", fn := fun _ => fun
  | [] => { results := [.lit (.bool false)], args := [] }
  | _ => none }
def VoteNumbersWrongFalsely : Prop := voteNumbersRow.holds Try.pinned (OpenSpec.ofChange voteNumbersWrong)

/-- 'wardmotelaw4.RowPlays': WHATEVER THE INPUT: true; the input reads as it did. -/
def rowPlaysSpec : ChangeSpec := { name := "rowPlays", fn := fun _ => fun
  | [d] => { results := [.lit (.bool true)], args := [d] }
  | _ => none }
def rowPlaysRow : OpenClaim := { program := "ytabhfccfohpkaaa", sum := "55d0a11f8c51a526b900eee5244c47f820be57538198e11d228778cbbd0e243d", func := "wardmote/wardmotelaw4.RowPlays", spec := "rowPlays", inPlace := ["math.Float64bits", "math.Float64frombits", "slices.overlaps[wardmote/api.Column]", "slices.overlaps[wardmote/api.Version]", "internal/bytealg.Compare"], unfollowed := true, recurses := true, apart := false }
def RowPlaysSaid : Prop := rowPlaysRow.holds Try.pinned (OpenSpec.ofChange rowPlaysSpec)

/-- ITS FALSE NEIGHBOUR: 'it returns false'. Refute it at one input. -/
def rowPlaysWrong : ChangeSpec := { name := "rowPlays", fn := fun _ => fun
  | [d] => { results := [.lit (.bool false)], args := [d] }
  | _ => none }
def RowPlaysWrongFalsely : Prop := rowPlaysRow.holds Try.pinned (OpenSpec.ofChange rowPlaysWrong)

/- THE SECOND FORM. 'bulk': how many values and letters a reading holds, each counted each time it is reached (what is shared counts as often as it is met; a slice's spare places count too). A statement '..UptoSaid' is the law's where the arguments, and the package variables that the reading takes, are together of bulk at most 1048576: NARROWER than '..Said'. Prove '..Said' where nothing that the law and all that it calls make is longer than what came in: it says more and counts as full. Else prove '..UptoSaid'. A law counts once. -/
mutual
def uptoBulk {H : Type} : DataW H → Nat
  | .lit (.string bytes) => bytes.length + 1
  | .lit _ => 1
  | .nil => 1
  | .ptr d => uptoBulk d + 1
  | .slice elems spare => uptoBulkAll elems + uptoBulkAll spare + 1
  | .agg parts => uptoBulkAll parts + 1
  | .iface _ d => uptoBulk d + 1
  | .map entries => uptoBulkEntries entries + 1
  | .held _ => 1
def uptoBulkAll {H : Type} : List (DataW H) → Nat
  | [] => 0
  | d :: r => uptoBulk d + uptoBulkAll r
def uptoBulkEntries {H : Type} : List (Lit × DataW H) → Nat
  | [] => 0
  | x :: r => uptoBulkEntry x + uptoBulkEntries r
def uptoBulkEntry {H : Type} : Lit × DataW H → Nat
  | (.string bytes, d) => bytes.length + uptoBulk d + 1
  | (_, d) => uptoBulk d + 1
 end
def uptoSmall : (H : Type) → List (DataW H) → Bool := fun _ ds => decide (uptoBulkAll ds ≤ 1048576)
def OpenSpec.upto (s : _root_.Go.ChangeSpec) : _root_.Go.OpenSpec := { _root_.Go.OpenSpec.ofChange s with cond := some uptoSmall }

/-- 'wardmotelaw4.RowNewest', WHERE WHAT IT READS IS OF BULK AT MOST 1048576: true; the input reads as it did. -/
def rowNewestUptoRow : OpenClaim := { program := "ytabhfccfohpkaaa", sum := "55d0a11f8c51a526b900eee5244c47f820be57538198e11d228778cbbd0e243d", func := "wardmote/wardmotelaw4.RowNewest", spec := "rowNewest", inPlace := ["math.Float64bits", "math.Float64frombits", "slices.overlaps[wardmote/api.Column]", "slices.overlaps[wardmote/api.Version]"], unfollowed := true, recurses := true, apart := false, narrowed := true }
def RowNewestUptoSaid : Prop := rowNewestUptoRow.holds Try.pinned (OpenSpec.upto rowNewestSpec)

/-- 'wardmotelaw4.RowColumns', WHERE WHAT IT READS IS OF BULK AT MOST 1048576: true; the input reads as it did. -/
def rowColumnsUptoRow : OpenClaim := { program := "ytabhfccfohpkaaa", sum := "55d0a11f8c51a526b900eee5244c47f820be57538198e11d228778cbbd0e243d", func := "wardmote/wardmotelaw4.RowColumns", spec := "rowColumns", inPlace := ["math.Float64bits", "math.Float64frombits", "slices.overlaps[wardmote/api.Column]", "slices.overlaps[wardmote/api.Version]"], unfollowed := true, recurses := true, apart := false, narrowed := true }
def RowColumnsUptoSaid : Prop := rowColumnsUptoRow.holds Try.pinned (OpenSpec.upto rowColumnsSpec)

/-- 'wardmotelaw4.RowTimes', WHERE WHAT IT READS IS OF BULK AT MOST 1048576: true; the input reads as it did. -/
def rowTimesUptoRow : OpenClaim := { program := "ytabhfccfohpkaaa", sum := "55d0a11f8c51a526b900eee5244c47f820be57538198e11d228778cbbd0e243d", func := "wardmote/wardmotelaw4.RowTimes", spec := "rowTimes", inPlace := ["math.Float64bits", "math.Float64frombits", "slices.overlaps[wardmote/api.Column]", "slices.overlaps[wardmote/api.Version]"], unfollowed := true, recurses := true, apart := false, narrowed := true }
def RowTimesUptoSaid : Prop := rowTimesUptoRow.holds Try.pinned (OpenSpec.upto rowTimesSpec)

/-- 'wardmotelaw17.VoteFirm', WHERE WHAT IT READS IS OF BULK AT MOST 1048576: true; the input reads as it did. -/
def voteFirmUptoRow : OpenClaim := { program := "ytabhfccfohpkaaa", sum := "55d0a11f8c51a526b900eee5244c47f820be57538198e11d228778cbbd0e243d", func := "wardmote/wardmotelaw17.VoteFirm", spec := "voteFirm", inPlace := ["slices.overlaps[wardmote/api.Vote]"], unfollowed := true, recurses := true, apart := false, narrowed := true }
def VoteFirmUptoSaid : Prop := voteFirmUptoRow.holds Try.pinned (OpenSpec.upto voteFirmSpec)

/-- 'wardmotelaw17.VotePlays', WHERE WHAT IT READS IS OF BULK AT MOST 1048576: true; the input reads as it did. -/
def votePlaysUptoRow : OpenClaim := { program := "ytabhfccfohpkaaa", sum := "55d0a11f8c51a526b900eee5244c47f820be57538198e11d228778cbbd0e243d", func := "wardmote/wardmotelaw17.VotePlays", spec := "votePlays", inPlace := ["slices.overlaps[wardmote/api.Vote]"], unfollowed := true, recurses := true, apart := false, narrowed := true }
def VotePlaysUptoSaid : Prop := votePlaysUptoRow.holds Try.pinned (OpenSpec.upto votePlaysSpec)

/-- 'wardmotelaw17.VoteSnaps', WHERE WHAT IT READS IS OF BULK AT MOST 1048576: true; the input reads as it did. -/
def voteSnapsUptoRow : OpenClaim := { program := "ytabhfccfohpkaaa", sum := "55d0a11f8c51a526b900eee5244c47f820be57538198e11d228778cbbd0e243d", func := "wardmote/wardmotelaw17.VoteSnaps", spec := "voteSnaps", inPlace := ["slices.overlaps[wardmote/api.Vote]"], unfollowed := true, recurses := true, apart := false, narrowed := true }
def VoteSnapsUptoSaid : Prop := voteSnapsUptoRow.holds Try.pinned (OpenSpec.upto voteSnapsSpec)

/-- 'wardmotelaw17.VoteNumbers', WHERE WHAT IT READS IS OF BULK AT MOST 1048576: true; the input reads as it did. -/
def voteNumbersUptoRow : OpenClaim := { program := "ytabhfccfohpkaaa", sum := "55d0a11f8c51a526b900eee5244c47f820be57538198e11d228778cbbd0e243d", func := "wardmote/wardmotelaw17.VoteNumbers", spec := "voteNumbers", inPlace := ["slices.overlaps[wardmote/api.Vote]"], unfollowed := true, recurses := true, apart := false, narrowed := true }
def VoteNumbersUptoSaid : Prop := voteNumbersUptoRow.holds Try.pinned (OpenSpec.upto voteNumbersSpec)

/-- 'wardmotelaw4.RowPlays', WHERE WHAT IT READS IS OF BULK AT MOST 1048576: true; the input reads as it did. -/
def rowPlaysUptoRow : OpenClaim := { program := "ytabhfccfohpkaaa", sum := "55d0a11f8c51a526b900eee5244c47f820be57538198e11d228778cbbd0e243d", func := "wardmote/wardmotelaw4.RowPlays", spec := "rowPlays", inPlace := ["math.Float64bits", "math.Float64frombits", "slices.overlaps[wardmote/api.Column]", "slices.overlaps[wardmote/api.Version]", "internal/bytealg.Compare"], unfollowed := true, recurses := true, apart := false, narrowed := true }
def RowPlaysUptoSaid : Prop := rowPlaysUptoRow.holds Try.pinned (OpenSpec.upto rowPlaysSpec)

end Rows
end Go.Proofs.Ytabhfccfohpkaaa
