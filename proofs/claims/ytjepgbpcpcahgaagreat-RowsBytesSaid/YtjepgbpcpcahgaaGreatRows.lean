/-
  No cell of these rows narrows 'for every input' (looked for: loops, veiled, ifaces, maps, wideKeys, modest, calm, conditions, laid).
  DERIVED. THE GIVEN ROWS OF THIS SEAT. 3 by the template 'for every input the law returns true; each argument reads behind the call as it read before'; 0 by the template 'total and deterministic' (their statements: YtjepgbpcpcahgaaGreatTotals.lean).
  GIVEN WITH THE SEED: the statements are not yours to turn. If you find one false, say at which input.
  Laid BY PROGRAM, IN A SANDBOX (cutbox-rows.mjs): the forced cells as the released guide's own fill.sh prints them over the translation d32b704c1b14a056… (all of the seat's roots in one cut). By AI agents, Wed Nov 11 2026. No macro, syntax, notation, axiom, sorry.
-/
import Derived.Test.YtjepgbpcpcahgaaGreatChecked
import GoSem.Claim
import GoSem.ClaimJoined
import GoSem.ClaimMapViews
import Derived.JoinedTies
import Derived.KernelRfl
namespace Go.Proofs.YtjepgbpcpcahgaaGreat
/- THE CELL 'sum', in the pinned program and in every row, IS THE sha256 OF THE DUMP (.gsa) THAT YtjepgbpcpcahgaaGreatProg.lean LOADS. Nothing in Lean hashes anything: it is a label: what it is worth is what the hold of that sum in a sandbox is worth. -/
noncomputable def Tryz.pinned : Pinned := { name := "ytjepgbpcpcahgaagreat", sum := "d32b704c1b14a056302419ff0f62727e87d86dae52d8d481162967661bf98cb0", checked := Tryz.checked }
namespace Rows
def none {H : Type} : Left H := { results := [], args := [] }

/-- 'wardmotelaw4.RowBytes': WHATEVER THE INPUT: true; the input reads as it did. -/
def rowBytesSpec : ChangeSpec := { name := "rowBytes", fn := fun _ => fun
  | [d1, d2, d3, d4] => { results := [.lit (.bool true)], args := [d1, d2, d3, d4] }
  | _ => none }
def rowBytesRow : OpenClaim := { program := "ytjepgbpcpcahgaagreat", sum := "d32b704c1b14a056302419ff0f62727e87d86dae52d8d481162967661bf98cb0", func := "wardmote/wardmotelaw4.RowBytes", spec := "rowBytes", inPlace := ["math.Float64bits", "math.Float64frombits", "slices.overlaps[wardmote/api.Column]", "slices.overlaps[wardmote/api.Version]"], unfollowed := true, recurses := true, apart := false }
def RowBytesSaid : Prop := rowBytesRow.holds Tryz.pinned (OpenSpec.ofChange rowBytesSpec)

/-- ITS FALSE NEIGHBOUR: 'it returns false'. Refute it at one input. -/
def rowBytesWrong : ChangeSpec := { name := "rowBytes", fn := fun _ => fun
  | [d1, d2, d3, d4] => { results := [.lit (.bool false)], args := [d1, d2, d3, d4] }
  | _ => none }
def RowBytesWrongFalsely : Prop := rowBytesRow.holds Tryz.pinned (OpenSpec.ofChange rowBytesWrong)

/-- 'wardmotelaw6.RowsBytes': WHATEVER THE INPUT: true; the input reads as it did. -/
def rowsBytesSpec : ChangeSpec := { name := "rowsBytes", fn := fun _ => fun
  | [d1, d2, d3, d4] => { results := [.lit (.bool true)], args := [d1, d2, d3, d4] }
  | _ => none }
def rowsBytesRow : OpenClaim := { program := "ytjepgbpcpcahgaagreat", sum := "d32b704c1b14a056302419ff0f62727e87d86dae52d8d481162967661bf98cb0", func := "wardmote/wardmotelaw6.RowsBytes", spec := "rowsBytes", inPlace := ["math.Float64bits", "math.Float64frombits", "slices.overlaps[wardmote/api.Named]"], unfollowed := true, recurses := true, apart := false }
def RowsBytesSaid : Prop := rowsBytesRow.holds Tryz.pinned (OpenSpec.ofChange rowsBytesSpec)

/-- ITS FALSE NEIGHBOUR: 'it returns false'. Refute it at one input. -/
def rowsBytesWrong : ChangeSpec := { name := "rowsBytes", fn := fun _ => fun
  | [d1, d2, d3, d4] => { results := [.lit (.bool false)], args := [d1, d2, d3, d4] }
  | _ => none }
def RowsBytesWrongFalsely : Prop := rowsBytesRow.holds Tryz.pinned (OpenSpec.ofChange rowsBytesWrong)

/-- 'wardmotelaw4.RowNumbers': WHATEVER THE INPUT: true; the input reads as it did. -/
def rowNumbersSpec : ChangeSpec := { name := "rowNumbers", fn := fun _ => fun
  | [] => { results := [.lit (.bool true)], args := [] }
  | _ => none }
def rowNumbersRow : OpenClaim := { program := "ytjepgbpcpcahgaagreat", sum := "d32b704c1b14a056302419ff0f62727e87d86dae52d8d481162967661bf98cb0", func := "wardmote/wardmotelaw4.RowNumbers", spec := "rowNumbers", inPlace := ["math.Float64bits", "math.Float64frombits", "slices.overlaps[wardmote/api.Column]", "slices.overlaps[wardmote/api.Version]", "internal/bytealg.Compare"], unfollowed := true, recurses := true, apart := false }
def RowNumbersSaid : Prop := rowNumbersRow.holds Tryz.pinned (OpenSpec.ofChange rowNumbersSpec)

/-- ITS FALSE NEIGHBOUR: 'it returns false'. Refute it at one input. -/
def rowNumbersWrong : ChangeSpec := { name := "rowNumbers", fn := fun _ => fun
  | [] => { results := [.lit (.bool false)], args := [] }
  | _ => none }
def RowNumbersWrongFalsely : Prop := rowNumbersRow.holds Tryz.pinned (OpenSpec.ofChange rowNumbersWrong)

/- THE SECOND FORM. 'bulk': how many values and letters a reading holds, each counted each time it is reached (what is shared counts as often as it is met; a slice's spare places count too). A statement '..UptoSaid' is the law's where the arguments, and the package variables that the reading takes, are together of bulk at most 1048576: NARROWER than '..Said'. Prove '..Said' where nothing that the law and all that it calls make is longer than what came in: it says more and counts as full. Else prove '..UptoSaid'. A law counts once. -/
mutual
def uptoBulk {H : Type} : DataW H → Nat
  | .lit (.string bytes) => bytes.length + 1
  | .lit _ => 1
  | .nil => 1
  | .ptr d => uptoBulk d + 1
  | .slice elems spare => uptoBulkAll elems + uptoBulkAll spare + 1
  | .agg parts => uptoBulkAll parts + 1
  | .iface _ d => uptoBulk d + 1
  | .map entries => uptoBulkEntries entries + 1
  | .held _ => 1
def uptoBulkAll {H : Type} : List (DataW H) → Nat
  | [] => 0
  | d :: r => uptoBulk d + uptoBulkAll r
def uptoBulkEntries {H : Type} : List (Lit × DataW H) → Nat
  | [] => 0
  | x :: r => uptoBulkEntry x + uptoBulkEntries r
def uptoBulkEntry {H : Type} : Lit × DataW H → Nat
  | (.string bytes, d) => bytes.length + uptoBulk d + 1
  | (_, d) => uptoBulk d + 1
 end
def uptoSmall : (H : Type) → List (DataW H) → Bool := fun _ ds => decide (uptoBulkAll ds ≤ 1048576)
def OpenSpec.upto (s : _root_.Go.ChangeSpec) : _root_.Go.OpenSpec := { _root_.Go.OpenSpec.ofChange s with cond := some uptoSmall }

/-- 'wardmotelaw4.RowBytes', WHERE WHAT IT READS IS OF BULK AT MOST 1048576: true; the input reads as it did. -/
def rowBytesUptoRow : OpenClaim := { program := "ytjepgbpcpcahgaagreat", sum := "d32b704c1b14a056302419ff0f62727e87d86dae52d8d481162967661bf98cb0", func := "wardmote/wardmotelaw4.RowBytes", spec := "rowBytes", inPlace := ["math.Float64bits", "math.Float64frombits", "slices.overlaps[wardmote/api.Column]", "slices.overlaps[wardmote/api.Version]"], unfollowed := true, recurses := true, apart := false, narrowed := true }
def RowBytesUptoSaid : Prop := rowBytesUptoRow.holds Tryz.pinned (OpenSpec.upto rowBytesSpec)

/-- 'wardmotelaw6.RowsBytes', WHERE WHAT IT READS IS OF BULK AT MOST 1048576: true; the input reads as it did. -/
def rowsBytesUptoRow : OpenClaim := { program := "ytjepgbpcpcahgaagreat", sum := "d32b704c1b14a056302419ff0f62727e87d86dae52d8d481162967661bf98cb0", func := "wardmote/wardmotelaw6.RowsBytes", spec := "rowsBytes", inPlace := ["math.Float64bits", "math.Float64frombits", "slices.overlaps[wardmote/api.Named]"], unfollowed := true, recurses := true, apart := false, narrowed := true }
def RowsBytesUptoSaid : Prop := rowsBytesUptoRow.holds Tryz.pinned (OpenSpec.upto rowsBytesSpec)

/-- 'wardmotelaw4.RowNumbers', WHERE WHAT IT READS IS OF BULK AT MOST 1048576: true; the input reads as it did. -/
def rowNumbersUptoRow : OpenClaim := { program := "ytjepgbpcpcahgaagreat", sum := "d32b704c1b14a056302419ff0f62727e87d86dae52d8d481162967661bf98cb0", func := "wardmote/wardmotelaw4.RowNumbers", spec := "rowNumbers", inPlace := ["math.Float64bits", "math.Float64frombits", "slices.overlaps[wardmote/api.Column]", "slices.overlaps[wardmote/api.Version]", "internal/bytealg.Compare"], unfollowed := true, recurses := true, apart := false, narrowed := true }
def RowNumbersUptoSaid : Prop := rowNumbersUptoRow.holds Tryz.pinned (OpenSpec.upto rowNumbersSpec)

end Rows
end Go.Proofs.YtjepgbpcpcahgaaGreat
