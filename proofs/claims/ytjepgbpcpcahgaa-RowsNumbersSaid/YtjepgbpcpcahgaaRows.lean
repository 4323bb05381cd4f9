/-
  No cell of these rows narrows 'for every input' (looked for: loops, veiled, ifaces, maps, wideKeys, modest, calm, conditions, laid).
  DERIVED. THE GIVEN ROWS OF THIS SEAT. 9 by the template 'for every input the law returns true; each argument reads behind the call as it read before'; 0 by the template 'total and deterministic' (their statements: YtjepgbpcpcahgaaTotals.lean).
  GIVEN WITH THE SEED: the statements are not yours to turn. If you find one false, say at which input.
  Laid BY PROGRAM, IN A SANDBOX (cutbox-rows.mjs): the forced cells as the released guide's own fill.sh prints them over the translation 53cb2884655e69cd… (all of the seat's roots in one cut). By AI agents, Wed Nov 11 2026. No macro, syntax, notation, axiom, sorry.
-/
import Derived.Test.YtjepgbpcpcahgaaChecked
import GoSem.Claim
import GoSem.ClaimJoined
import GoSem.ClaimMapViews
import Derived.JoinedTies
import Derived.KernelRfl
namespace Go.Proofs.Ytjepgbpcpcahgaa
/- THE CELL 'sum', in the pinned program and in every row, IS THE sha256 OF THE DUMP (.gsa) THAT YtjepgbpcpcahgaaProg.lean LOADS. Nothing in Lean hashes anything: it is a label: what it is worth is what the hold of that sum in a sandbox is worth. -/
noncomputable def Try.pinned : Pinned := { name := "ytjepgbpcpcahgaa", sum := "53cb2884655e69cd5ffe5112c7757bbba99be44ee567c7a63f112952ea8541b7", checked := Try.checked }
namespace Rows
def none {H : Type} : Left H := { results := [], args := [] }

/-- 'wardmotelaw6.RowsRanges': WHATEVER THE INPUT: true; the input reads as it did. -/
def rowsRangesSpec : ChangeSpec := { name := "rowsRanges", fn := fun _ => fun
  | [d1, d2] => { results := [.lit (.bool true)], args := [d1, d2] }
  | _ => none }
def rowsRangesRow : OpenClaim := { program := "ytjepgbpcpcahgaa", sum := "53cb2884655e69cd5ffe5112c7757bbba99be44ee567c7a63f112952ea8541b7", func := "wardmote/wardmotelaw6.RowsRanges", spec := "rowsRanges", inPlace := ["math.Float64bits", "math.Float64frombits", "slices.overlaps[wardmote/api.Named]"], unfollowed := true, recurses := true, apart := false }
def RowsRangesSaid : Prop := rowsRangesRow.holds Try.pinned (OpenSpec.ofChange rowsRangesSpec)

/-- ITS FALSE NEIGHBOUR: 'it returns false'. Refute it at one input. -/
def rowsRangesWrong : ChangeSpec := { name := "rowsRanges", fn := fun _ => fun
  | [d1, d2] => { results := [.lit (.bool false)], args := [d1, d2] }
  | _ => none }
def RowsRangesWrongFalsely : Prop := rowsRangesRow.holds Try.pinned (OpenSpec.ofChange rowsRangesWrong)

/-- 'wardmotelaw6.RowsNumbers': WHATEVER THE INPUT: true; the input reads as it did. -/
def rowsNumbersSpec : ChangeSpec := { name := "rowsNumbers", fn := fun _ => fun
  | [] => { results := [.lit (.bool true)], args := [] }
  | _ => none }
def rowsNumbersRow : OpenClaim := { program := "ytjepgbpcpcahgaa", sum := "53cb2884655e69cd5ffe5112c7757bbba99be44ee567c7a63f112952ea8541b7", func := "wardmote/wardmotelaw6.RowsNumbers", spec := "rowsNumbers", inPlace := ["math.Float64bits", "math.Float64frombits", "slices.overlaps[wardmote/api.Named]"], unfollowed := true, recurses := true, apart := false }
def RowsNumbersSaid : Prop := rowsNumbersRow.holds Try.pinned (OpenSpec.ofChange rowsNumbersSpec)

/-- ITS FALSE NEIGHBOUR: 'it returns false'. Refute it at one input. -/
def rowsNumbersWrong : ChangeSpec := { name := "rowsNumbers", fn := fun _ => fun
  | [] => { results := [.lit (.bool false)], args := [] }
  | _ => none }
def RowsNumbersWrongFalsely : Prop := rowsNumbersRow.holds Try.pinned (OpenSpec.ofChange rowsNumbersWrong)

/-- 'wardmotelaw6.RowsPlays': WHATEVER THE INPUT: true; the input reads as it did. -/
def rowsPlaysSpec : ChangeSpec := { name := "rowsPlays", fn := fun _ => fun
  | [d1, d2, d3, d4] => { results := [.lit (.bool true)], args := [d1, d2, d3, d4] }
  | _ => none }
def rowsPlaysRow : OpenClaim := { program := "ytjepgbpcpcahgaa", sum := "53cb2884655e69cd5ffe5112c7757bbba99be44ee567c7a63f112952ea8541b7", func := "wardmote/wardmotelaw6.RowsPlays", spec := "rowsPlays", inPlace := ["math.Float64bits", "math.Float64frombits", "slices.overlaps[wardmote/api.Named]"], unfollowed := true, recurses := true, apart := false }
def RowsPlaysSaid : Prop := rowsPlaysRow.holds Try.pinned (OpenSpec.ofChange rowsPlaysSpec)

/-- ITS FALSE NEIGHBOUR: 'it returns false'. Refute it at one input. -/
def rowsPlaysWrong : ChangeSpec := { name := "rowsPlays", fn := fun _ => fun
  | [d1, d2, d3, d4] => { results := [.lit (.bool false)], args := [d1, d2, d3, d4] }
  | _ => none }
def RowsPlaysWrongFalsely : Prop := rowsPlaysRow.holds Try.pinned (OpenSpec.ofChange rowsPlaysWrong)

/-- 'wardmotelaw4.RowNewest': WHATEVER THE INPUT: true; the input reads as it did. -/
def rowNewestSpec : ChangeSpec := { name := "rowNewest", fn := fun _ => fun
  | [d1, d2] => { results := [.lit (.bool true)], args := [d1, d2] }
  | _ => none }
def rowNewestRow : OpenClaim := { program := "ytjepgbpcpcahgaa", sum := "53cb2884655e69cd5ffe5112c7757bbba99be44ee567c7a63f112952ea8541b7", func := "wardmote/wardmotelaw4.RowNewest", spec := "rowNewest", inPlace := ["math.Float64bits", "math.Float64frombits", "slices.overlaps[wardmote/api.Column]", "slices.overlaps[wardmote/api.Version]"], unfollowed := true, recurses := true, apart := false }
def RowNewestSaid : Prop := rowNewestRow.holds Try.pinned (OpenSpec.ofChange rowNewestSpec)

/-- ITS FALSE NEIGHBOUR: 'it returns false'. Refute it at one input. -/
def rowNewestWrong : ChangeSpec := { name := "rowNewest", fn := fun _ => fun
  | [d1, d2] => { results := [.lit (.bool false)], args := [d1, d2] }
  | _ => none }
def RowNewestWrongFalsely : Prop := rowNewestRow.holds Try.pinned (OpenSpec.ofChange rowNewestWrong)

/-- 'wardmotelaw4.RowColumns': WHATEVER THE INPUT: true; the input reads as it did. -/
def rowColumnsSpec : ChangeSpec := { name := "rowColumns", fn := fun _ => fun
  | [d1, d2] => { results := [.lit (.bool true)], args := [d1, d2] }
  | _ => none }
def rowColumnsRow : OpenClaim := { program := "ytjepgbpcpcahgaa", sum := "53cb2884655e69cd5ffe5112c7757bbba99be44ee567c7a63f112952ea8541b7", func := "wardmote/wardmotelaw4.RowColumns", spec := "rowColumns", inPlace := ["math.Float64bits", "math.Float64frombits", "slices.overlaps[wardmote/api.Column]", "slices.overlaps[wardmote/api.Version]"], unfollowed := true, recurses := true, apart := false }
def RowColumnsSaid : Prop := rowColumnsRow.holds Try.pinned (OpenSpec.ofChange rowColumnsSpec)

/-- ITS FALSE NEIGHBOUR: 'it returns false'. Refute it at one input. -/
def rowColumnsWrong : ChangeSpec := { name := "rowColumns", fn := fun _ => fun
  | [d1, d2] => { results := [.lit (.bool false)], args := [d1, d2] }
  | _ => none }
def RowColumnsWrongFalsely : Prop := rowColumnsRow.holds Try.pinned (OpenSpec.ofChange rowColumnsWrong)

/-- 'wardmotelaw4.RowTimes': WHATEVER THE INPUT: true; the input reads as it did. -/
def rowTimesSpec : ChangeSpec := { name := "rowTimes", fn := fun _ => fun
  | [d1, d2, d3, d4] => { results := [.lit (.bool true)], args := [d1, d2, d3, d4] }
  | _ => none }
def rowTimesRow : OpenClaim := { program := "ytjepgbpcpcahgaa", sum := "53cb2884655e69cd5ffe5112c7757bbba99be44ee567c7a63f112952ea8541b7", func := "wardmote/wardmotelaw4.RowTimes", spec := "rowTimes", inPlace := ["math.Float64bits", "math.Float64frombits", "slices.overlaps[wardmote/api.Column]", "slices.overlaps[wardmote/api.Version]"], unfollowed := true, recurses := true, apart := false }
def RowTimesSaid : Prop := rowTimesRow.holds Try.pinned (OpenSpec.ofChange rowTimesSpec)

/-- ITS FALSE NEIGHBOUR: 'it returns false'. Refute it at one input. -/
def rowTimesWrong : ChangeSpec := { name := "rowTimes", fn := fun _ => fun
  | [d1, d2, d3, d4] => { results := [.lit (.bool false)], args := [d1, d2, d3, d4] }
  | _ => none }
def RowTimesWrongFalsely : Prop := rowTimesRow.holds Try.pinned (OpenSpec.ofChange rowTimesWrong)

/-- 'wardmotelaw6.RowsCopies': WHATEVER THE INPUT: true; the input reads as it did. -/
def rowsCopiesSpec : ChangeSpec := { name := "rowsCopies", fn := fun _ => fun
  | [d1, d2] => { results := [.lit (.bool true)], args := [d1, d2] }
  | _ => none }
def rowsCopiesRow : OpenClaim := { program := "ytjepgbpcpcahgaa", sum := "53cb2884655e69cd5ffe5112c7757bbba99be44ee567c7a63f112952ea8541b7", func := "wardmote/wardmotelaw6.RowsCopies", spec := "rowsCopies", inPlace := ["math.Float64bits", "math.Float64frombits", "slices.overlaps[wardmote/api.Named]", "internal/bytealg.Compare"], unfollowed := true, recurses := true, apart := false }
def RowsCopiesSaid : Prop := rowsCopiesRow.holds Try.pinned (OpenSpec.ofChange rowsCopiesSpec)

/-- ITS FALSE NEIGHBOUR: 'it returns false'. Refute it at one input. -/
def rowsCopiesWrong : ChangeSpec := { name := "rowsCopies", fn := fun _ => fun
  | [d1, d2] => { results := [.lit (.bool false)], args := [d1, d2] }
  | _ => none }
def RowsCopiesWrongFalsely : Prop := rowsCopiesRow.holds Try.pinned (OpenSpec.ofChange rowsCopiesWrong)

/-- 'wardmotelaw6.RowsParts': WHATEVER THE INPUT: true; the input reads as it did. -/
def rowsPartsSpec : ChangeSpec := { name := "rowsParts", fn := fun _ => fun
  | [d1, d2] => { results := [.lit (.bool true)], args := [d1, d2] }
  | _ => none }
def rowsPartsRow : OpenClaim := { program := "ytjepgbpcpcahgaa", sum := "53cb2884655e69cd5ffe5112c7757bbba99be44ee567c7a63f112952ea8541b7", func := "wardmote/wardmotelaw6.RowsParts", spec := "rowsParts", inPlace := ["math.Float64bits", "math.Float64frombits", "slices.overlaps[wardmote/api.Named]", "internal/bytealg.Compare"], unfollowed := true, recurses := true, apart := false }
def RowsPartsSaid : Prop := rowsPartsRow.holds Try.pinned (OpenSpec.ofChange rowsPartsSpec)

/-- ITS FALSE NEIGHBOUR: 'it returns false'. Refute it at one input. -/
def rowsPartsWrong : ChangeSpec := { name := "rowsParts", fn := fun _ => fun
  | [d1, d2] => { results := [.lit (.bool false)], args := [d1, d2] }
  | _ => none }
def RowsPartsWrongFalsely : Prop := rowsPartsRow.holds Try.pinned (OpenSpec.ofChange rowsPartsWrong)

/-- 'wardmotelaw4.RowPlays': WHATEVER THE INPUT: true; the input reads as it did. -/
def rowPlaysSpec : ChangeSpec := { name := "rowPlays", fn := fun _ => fun
  | [d] => { results := [.lit (.bool true)], args := [d] }
  | _ => none }
def rowPlaysRow : OpenClaim := { program := "ytjepgbpcpcahgaa", sum := "53cb2884655e69cd5ffe5112c7757bbba99be44ee567c7a63f112952ea8541b7", func := "wardmote/wardmotelaw4.RowPlays", spec := "rowPlays", inPlace := ["math.Float64bits", "math.Float64frombits", "slices.overlaps[wardmote/api.Column]", "slices.overlaps[wardmote/api.Version]", "internal/bytealg.Compare"], unfollowed := true, recurses := true, apart := false }
def RowPlaysSaid : Prop := rowPlaysRow.holds Try.pinned (OpenSpec.ofChange rowPlaysSpec)

/-- ITS FALSE NEIGHBOUR: 'it returns false'. Refute it at one input. -/
def rowPlaysWrong : ChangeSpec := { name := "rowPlays", fn := fun _ => fun
  | [d] => { results := [.lit (.bool false)], args := [d] }
  | _ => none }
def RowPlaysWrongFalsely : Prop := rowPlaysRow.holds Try.pinned (OpenSpec.ofChange rowPlaysWrong)

/- THE SECOND FORM. 'bulk': how many values and letters a reading holds, each counted each time it is reached (what is shared counts as often as it is met; a slice's spare places count too). A statement '..UptoSaid' is the law's where the arguments, and the package variables that the reading takes, are together of bulk at most 1048576: NARROWER than '..Said'. Prove '..Said' where nothing that the law and all that it calls make is longer than what came in: it says more and counts as full. Else prove '..UptoSaid'. A law counts once. -/
mutual
def uptoBulk {H : Type} : DataW H → Nat
  | .lit (.string bytes) => bytes.length + 1
  | .lit _ => 1
  | .nil => 1
  | .ptr d => uptoBulk d + 1
  | .slice elems spare => uptoBulkAll elems + uptoBulkAll spare + 1
  | .agg parts => uptoBulkAll parts + 1
  | .iface _ d => uptoBulk d + 1
  | .map entries => uptoBulkEntries entries + 1
  | .held _ => 1
def uptoBulkAll {H : Type} : List (DataW H) → Nat
  | [] => 0
  | d :: r => uptoBulk d + uptoBulkAll r
def uptoBulkEntries {H : Type} : List (Lit × DataW H) → Nat
  | [] => 0
  | x :: r => uptoBulkEntry x + uptoBulkEntries r
def uptoBulkEntry {H : Type} : Lit × DataW H → Nat
  | (.string bytes, d) => bytes.length + uptoBulk d + 1
  | (_, d) => uptoBulk d + 1
 end
def uptoSmall : (H : Type) → List (DataW H) → Bool := fun _ ds => decide (uptoBulkAll ds ≤ 1048576)
def OpenSpec.upto (s : _root_.Go.ChangeSpec) : _root_.Go.OpenSpec := { _root_.Go.OpenSpec.ofChange s with cond := some uptoSmall }

/-- 'wardmotelaw6.RowsRanges', WHERE WHAT IT READS IS OF BULK AT MOST 1048576: true; the input reads as it did. -/
def rowsRangesUptoRow : OpenClaim := { program := "ytjepgbpcpcahgaa", sum := "53cb2884655e69cd5ffe5112c7757bbba99be44ee567c7a63f112952ea8541b7", func := "wardmote/wardmotelaw6.RowsRanges", spec := "rowsRanges", inPlace := ["math.Float64bits", "math.Float64frombits", "slices.overlaps[wardmote/api.Named]"], unfollowed := true, recurses := true, apart := false, narrowed := true }
def RowsRangesUptoSaid : Prop := rowsRangesUptoRow.holds Try.pinned (OpenSpec.upto rowsRangesSpec)

/-- 'wardmotelaw6.RowsNumbers', WHERE WHAT IT READS IS OF BULK AT MOST 1048576: true; the input reads as it did. -/
def rowsNumbersUptoRow : OpenClaim := { program := "ytjepgbpcpcahgaa", sum := "53cb2884655e69cd5ffe5112c7757bbba99be44ee567c7a63f112952ea8541b7", func := "wardmote/wardmotelaw6.RowsNumbers", spec := "rowsNumbers", inPlace := ["math.Float64bits", "math.Float64frombits", "slices.overlaps[wardmote/api.Named]"], unfollowed := true, recurses := true, apart := false, narrowed := true }
def RowsNumbersUptoSaid : Prop := rowsNumbersUptoRow.holds Try.pinned (OpenSpec.upto rowsNumbersSpec)

/-- 'wardmotelaw6.RowsPlays', WHERE WHAT IT READS IS OF BULK AT MOST 1048576: true; the input reads as it did. -/
def rowsPlaysUptoRow : OpenClaim := { program := "ytjepgbpcpcahgaa", sum := "53cb2884655e69cd5ffe5112c7757bbba99be44ee567c7a63f112952ea8541b7", func := "wardmote/wardmotelaw6.RowsPlays", spec := "rowsPlays", inPlace := ["math.Float64bits", "math.Float64frombits", "slices.overlaps[wardmote/api.Named]"], unfollowed := true, recurses := true, apart := false, narrowed := true }
def RowsPlaysUptoSaid : Prop := rowsPlaysUptoRow.holds Try.pinned (OpenSpec.upto rowsPlaysSpec)

/-- 'wardmotelaw4.RowNewest', WHERE WHAT IT READS IS OF BULK AT MOST 1048576: true; the input reads as it did. -/
def rowNewestUptoRow : OpenClaim := { program := "ytjepgbpcpcahgaa", sum := "53cb2884655e69cd5ffe5112c7757bbba99be44ee567c7a63f112952ea8541b7", func := "wardmote/wardmotelaw4.RowNewest", spec := "rowNewest", inPlace := ["math.Float64bits", "math.Float64frombits", "slices.overlaps[wardmote/api.Column]", "slices.overlaps[wardmote/api.Version]"], unfollowed := true, recurses := true, apart := false, narrowed := true }
def RowNewestUptoSaid : Prop := rowNewestUptoRow.holds Try.pinned (OpenSpec.upto rowNewestSpec)

/-- 'wardmotelaw4.RowColumns', WHERE WHAT IT READS IS OF BULK AT MOST 1048576: true; the input reads as it did. -/
def rowColumnsUptoRow : OpenClaim := { program := "ytjepgbpcpcahgaa", sum := "53cb2884655e69cd5ffe5112c7757bbba99be44ee567c7a63f112952ea8541b7", func := "wardmote/wardmotelaw4.RowColumns", spec := "rowColumns", inPlace := ["math.Float64bits", "math.Float64frombits", "slices.overlaps[wardmote/api.Column]", "slices.overlaps[wardmote/api.Version]"], unfollowed := true, recurses := true, apart := false, narrowed := true }
def RowColumnsUptoSaid : Prop := rowColumnsUptoRow.holds Try.pinned (OpenSpec.upto rowColumnsSpec)

/-- 'wardmotelaw4.RowTimes', WHERE WHAT IT READS IS OF BULK AT MOST 1048576: true; the input reads as it did. -/
def rowTimesUptoRow : OpenClaim := { program := "ytjepgbpcpcahgaa", sum := "53cb2884655e69cd5ffe5112c7757bbba99be44ee567c7a63f112952ea8541b7", func := "wardmote/wardmotelaw4.RowTimes", spec := "rowTimes", inPlace := ["math.Float64bits", "math.Float64frombits", "slices.overlaps[wardmote/api.Column]", "slices.overlaps[wardmote/api.Version]"], unfollowed := true, recurses := true, apart := false, narrowed := true }
def RowTimesUptoSaid : Prop := rowTimesUptoRow.holds Try.pinned (OpenSpec.upto rowTimesSpec)

/-- 'wardmotelaw6.RowsCopies', WHERE WHAT IT READS IS OF BULK AT MOST 1048576: true; the input reads as it did. -/
def rowsCopiesUptoRow : OpenClaim := { program := "ytjepgbpcpcahgaa", sum := "53cb2884655e69cd5ffe5112c7757bbba99be44ee567c7a63f112952ea8541b7", func := "wardmote/wardmotelaw6.RowsCopies", spec := "rowsCopies", inPlace := ["math.Float64bits", "math.Float64frombits", "slices.overlaps[wardmote/api.Named]", "internal/bytealg.Compare"], unfollowed := true, recurses := true, apart := false, narrowed := true }
def RowsCopiesUptoSaid : Prop := rowsCopiesUptoRow.holds Try.pinned (OpenSpec.upto rowsCopiesSpec)

/-- 'wardmotelaw6.RowsParts', WHERE WHAT IT READS IS OF BULK AT MOST 1048576: true; the input reads as it did. -/
def rowsPartsUptoRow : OpenClaim := { program := "ytjepgbpcpcahgaa", sum := "53cb2884655e69cd5ffe5112c7757bbba99be44ee567c7a63f112952ea8541b7", func := "wardmote/wardmotelaw6.RowsParts", spec := "rowsParts", inPlace := ["math.Float64bits", "math.Float64frombits", "slices.overlaps[wardmote/api.Named]", "internal/bytealg.Compare"], unfollowed := true, recurses := true, apart := false, narrowed := true }
def RowsPartsUptoSaid : Prop := rowsPartsUptoRow.holds Try.pinned (OpenSpec.upto rowsPartsSpec)

/-- 'wardmotelaw4.RowPlays', WHERE WHAT IT READS IS OF BULK AT MOST 1048576: true; the input reads as it did. -/
def rowPlaysUptoRow : OpenClaim := { program := "ytjepgbpcpcahgaa", sum := "53cb2884655e69cd5ffe5112c7757bbba99be44ee567c7a63f112952ea8541b7", func := "wardmote/wardmotelaw4.RowPlays", spec := "rowPlays", inPlace := ["math.Float64bits", "math.Float64frombits", "slices.overlaps[wardmote/api.Column]", "slices.overlaps[wardmote/api.Version]", "internal/bytealg.Compare"], unfollowed := true, recurses := true, apart := false, narrowed := true }
def RowPlaysUptoSaid : Prop := rowPlaysUptoRow.holds Try.pinned (OpenSpec.upto rowPlaysSpec)

end Rows
end Go.Proofs.Ytjepgbpcpcahgaa
