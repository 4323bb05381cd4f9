/- The law wardmotelaw3.ValueTells: for every input the call returns true, and every argument reads behind the call as it read before. -/
import Derived.Test.YtdfnepbhgifkkaaRows
import Derived.Test.YtdfnepbhgifkkaaVk
import Derived.Test.YtdfnepbhgifkkaaVl
import Derived.ProofKit
import Derived.OpenShut
import Derived.ShutString
import Derived.Lib.SmallJoins
import Derived.Carry
namespace Go.Proofs.Ytdfnepbhgifkkaa.valueTells
open Go.ChangeShapes Go.WideShapes Go.ChangeAt Go.RowKit
open Go.ChangeMaps (open_string shut_string)
set_option linter.unusedVariables false
set_option linter.unusedSimpArgs false

open Go.Am
theorem walk (w : World) (a b : Va) (t0 t1 : Bool) (n0 n1 : Int) (x0 x1 : Nat) (b0 b1 z : List UInt8) (ha : a.n < 18446744073709551616) (hb : b.n < 18446744073709551616) (h0 : (-9223372036854775808 ≤ n0 ∧ n0 ≤ 9223372036854775807) ∧ x0 < 18446744073709551616) (h1 : (-9223372036854775808 ≤ n1 ∧ n1 ≤ 9223372036854775807) ∧ x1 < 18446744073709551616) (c0 c1 c2 c3 : Array Value) (v4 : Value)
    (hs0 : RowSim (cellsX w) (vrowV a) c0.toList) (hs1 : RowSim (cellsX w) (vrowV b) c1.toList) (hs2 : RowSim (cellsX w) (dvrow t0 n0 x0 b0) c2.toList) (hs3 : RowSim (cellsX w) (dvrow t1 n1 x1 b1) c3.toList) (hs4 : SimD (cellsX w) (.list (z.map brow) .free) v4) :
    Calls Try.prog 9 #[.agg c0, .agg c1, .agg c2, .agg c3, v4] w fun e w' => e = .returned (.bool true) ∧ Below w.heap.size w w' :=
  (vtells_c a b t0 t1 n0 n1 x0 x1 b0 b1 z ha hb h0 h1).walk ⟨Try.func9, rfl, by kernel_rfl⟩ rfl fun i a ha => by
    match i with
    | 0 => simp at ha; subst ha; exact RowSim.agg hs0
    | 1 => simp at ha; subst ha; exact RowSim.agg hs1
    | 2 => simp at ha; subst ha; exact RowSim.agg hs2
    | 3 => simp at ha; subst ha; exact RowSim.agg hs3
    | 4 => simp at ha; subst ha; exact .data _ _ hs4
    | i + 5 => simp at ha

theorem own : ownKnob Try.prog.godebug = none := by kernel_rfl
theorem laidOut : laidOutB Try.prog = true := by kernel_rfl

set_option maxRecDepth 100000 in
theorem lifted (os : Os) (started : os.Started) (H : Type) (enc : TypeId × Value → H) :
    ReturnsInHanded {} Try.checked os 9 .any (Rows.valueTellsSpec.pre6 enc Try.prog Try.f9 Rows.valueTellsRow.domain false) (Rows.valueTellsSpec.post enc Try.prog Try.f9 false true false false) := by
  refine returnsInHanded_of_change (C := Try.checked) own started (by kernel_rfl) Try.func9
    (ChangeSpec.witness6 (enc := enc) (C := Try.checked) false ⟨#[], #[.agg #[.int .i64 0, .slice none 0 0, .float .f64 0], .agg #[.int .i64 0, .slice none 0 0, .float .f64 0], .agg #[.bool false, .int .i64 0, .float .f64 0, .slice none 0 0], .agg #[.bool false, .int .i64 0, .float .f64 0, .slice none 0 0], .slice none 0 0], []⟩ 8 (by kernel_rfl) (by kernel_rfl) (by kernel_rfl) (by kernel_rfl)) ?_
  intro W base args ds gs before hval0 hW hcnd _
  have hval : ∀ (j : Nat) t v, (Try.f9).params[j]? = some t → args[j]? = some v → Value.okWide Try.prog W .any base t v := hval0
  have hW' := hW
  obtain ⟨p, q, hA0, hV, rfl, hfz, hnd⟩ := hW
  have hA : DataW.TrodAll enc Try.prog W 0 (fun _ => true) true (Try.f9).params.toList args.toList ds p := hA0
  rw [Try.params9] at hA hval
  obtain ⟨v0, vs0, d0, ds0, p0, q0, hargs, rfl, rfl, h0, r0⟩ := trodAll_cons hA
  obtain ⟨v1, vs1, d1, ds1, p1, q1, rfl, rfl, rfl, h1, r1⟩ := trodAll_cons r0
  obtain ⟨v2, vs2, d2, ds2, p2, q2, rfl, rfl, rfl, h2, r2⟩ := trodAll_cons r1
  obtain ⟨v3, vs3, d3, ds3, p3, q3, rfl, rfl, rfl, h3, r3⟩ := trodAll_cons r2
  obtain ⟨v4, vs4, d4, ds4, p4, q4, rfl, rfl, rfl, h4, r4⟩ := trodAll_cons r3
  obtain ⟨rfl, rfl, rfl⟩ := trodAll_nil r4
  obtain rfl : args = #[v0, v1, v2, v3, v4] := by cases args; simp_all
  obtain ⟨rfl, rfl⟩ := trodVars_none hV
  have k0 := h0
  have lt0 : ∀ x ∈ p0, x.block < W.heap.size := by obtain ⟨m, hm⟩ := k0; exact DataW.trod_lt m _ _ _ hm
  obtain ⟨cs0, rfl, sz0⟩ := WideShapes.okWide_struct Try.underlying27 (hval 0 27 v0 rfl rfl)
  obtain ⟨a0, ⟨x0, q0, rfl⟩, hs0⟩ := opnA.argS h0
  have k1 := h1
  have lt1 : ∀ x ∈ p1, x.block < W.heap.size := by obtain ⟨m, hm⟩ := k1; exact DataW.trod_lt m _ _ _ hm
  obtain ⟨cs1, rfl, sz1⟩ := WideShapes.okWide_struct Try.underlying27 (hval 1 27 v1 rfl rfl)
  obtain ⟨a1, ⟨x1, q1, rfl⟩, hs1⟩ := opnA.argS h1
  have k2 := h2
  have lt2 : ∀ x ∈ p2, x.block < W.heap.size := by obtain ⟨m, hm⟩ := k2; exact DataW.trod_lt m _ _ _ hm
  obtain ⟨cs2, rfl, sz2⟩ := WideShapes.okWide_struct Try.underlying25 (hval 2 25 v2 rfl rfl)
  obtain ⟨a2, ⟨tx2, n2, x2, b2, q2, rfl⟩, hs2⟩ := opnV.argS h2
  have k3 := h3
  have lt3 : ∀ x ∈ p3, x.block < W.heap.size := by obtain ⟨m, hm⟩ := k3; exact DataW.trod_lt m _ _ _ hm
  obtain ⟨cs3, rfl, sz3⟩ := WideShapes.okWide_struct Try.underlying25 (hval 3 25 v3 rfl rfl)
  obtain ⟨a3, ⟨tx3, n3, x3, b3, q3, rfl⟩, hs3⟩ := opnV.argS h3
  have k4 := h4
  have lt4 : ∀ x ∈ p4, x.block < W.heap.size := by obtain ⟨m, hm⟩ := k4; exact DataW.trod_lt m _ _ _ hm
  obtain ⟨sa4, sl4, sc4, rfl⟩ := WideShapes.okWide_slice Try.underlying23 (hval 4 23 v4 rfl rfl)
  obtain ⟨a4, ⟨l4, ha4, hn4⟩, hs4⟩ := opnBytes.arg h4 rfl
  obtain rfl : a4 = .list (l4.map brow) .free := by simpa using ha4
  clear hA0 hval0
  refine (walk W x0 x1 tx2 tx3 n2 n3 x2 x3 b2 b3 l4 q0 q1 q2 q3 _ _ _ _ _ hs0 hs1 hs2 hs3 hs4).mono fun e W' ⟨he, bel⟩ => ?_
  subst he
  exact ⟨_, rfl, _, _, _, [], _, [], hW', trodAll_mk1 (shut_bool Try.underlying4 _), (trodAll_cons_mk (Below.trod laidOut (by kernel_rfl) (of_decide_eq_true (by kernel_rfl)) k0 bel lt0) (trodAll_cons_mk (Below.trod laidOut (by kernel_rfl) (of_decide_eq_true (by kernel_rfl)) k1 bel lt1) (trodAll_cons_mk (Below.trod laidOut (by kernel_rfl) (of_decide_eq_true (by kernel_rfl)) k2 bel lt2) (trodAll_cons_mk (Below.trod laidOut (by kernel_rfl) (of_decide_eq_true (by kernel_rfl)) k3 bel lt3) (trodAll_cons_mk (Below.trod laidOut (by kernel_rfl) (of_decide_eq_true (by kernel_rfl)) k4 bel lt4) trodAll_mk0))))), rfl, bel.frame _, fun h => by cases h⟩

theorem over : Rows.valueTellsRow.holds Try.pinned (OpenSpec.ofChange Rows.valueTellsSpec) :=
  OpenClaim.holds_of_wide 9 Try.f9 rfl rfl rfl rfl rfl rfl rfl ⟨rfl, rfl, rfl, rfl, rfl⟩ rfl rfl rfl rfl rfl (by kernel_rfl) Try.func9 (by kernel_rfl)
    (of_decide_eq_true (by kernel_rfl)) (by unfold Func.isWrapper; first | (rw [if_pos (by decide +kernel)]; kernel_rfl) | (rw [if_neg (by decide +kernel)]; exact ⟨rfl, rfl⟩))
    (fun os started H enc _ => lifted os started H enc)

/-- THE STATEMENT -/
theorem proved : Rows.ValueTellsSaid := over
#print axioms proved
end Go.Proofs.Ytdfnepbhgifkkaa.valueTells
