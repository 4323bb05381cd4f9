/- The law wardmotelaw3.ValueBack: for every input the call returns true, and every argument reads behind the call as it read before. -/
import Derived.Test.YtdfnepbhgifkkaaRows
import Derived.Test.YtdfnepbhgifkkaaVe
import Derived.Test.YtdfnepbhgifkkaaVd
import Derived.ProofKit
import Derived.OpenShut
import Derived.ShutString
import Derived.Lib.SmallJoins
import Derived.Carry
namespace Go.Proofs.Ytdfnepbhgifkkaa.valueBack
open Go.ChangeShapes Go.WideShapes Go.ChangeAt Go.RowKit
open Go.ChangeMaps (open_string shut_string)
set_option linter.unusedVariables false
set_option linter.unusedSimpArgs false

open Go.Am
theorem walk (w : World) (t0 t1 : Bool) (n0 n1 : Int) (x0 x1 : Nat) (b0 b1 : List UInt8) (h0 : (-9223372036854775808 ≤ n0 ∧ n0 ≤ 9223372036854775807) ∧ x0 < 18446744073709551616) (h1 : (-9223372036854775808 ≤ n1 ∧ n1 ≤ 9223372036854775807) ∧ x1 < 18446744073709551616) (c0 c1 : Array Value) (hs0 : RowSim (cellsX w) (dvrow t0 n0 x0 b0) c0.toList) (hs1 : RowSim (cellsX w) (dvrow t1 n1 x1 b1) c1.toList) :
    Calls Try.prog 10 #[.agg c0, .agg c1] w fun e w' => e = .returned (.bool true) ∧ Below w.heap.size w w' :=
  (vback_c t0 t1 n0 n1 x0 x1 b0 b1 h0 h1).walk ⟨Try.func10, rfl, by kernel_rfl⟩ rfl fun i a ha => by
    match i with
    | 0 => simp at ha; subst ha; exact RowSim.agg hs0
    | 1 => simp at ha; subst ha; exact RowSim.agg hs1
    | i + 2 => simp at ha

theorem own : ownKnob Try.prog.godebug = none := by kernel_rfl
theorem laidOut : laidOutB Try.prog = true := by kernel_rfl

set_option maxRecDepth 100000 in
theorem lifted (os : Os) (started : os.Started) (H : Type) (enc : TypeId × Value → H) :
    ReturnsInHanded {} Try.checked os 10 .any (Rows.valueBackSpec.pre6 enc Try.prog Try.f10 Rows.valueBackRow.domain false) (Rows.valueBackSpec.post enc Try.prog Try.f10 false true false false) := by
  refine returnsInHanded_of_change (C := Try.checked) own started (by kernel_rfl) Try.func10
    (ChangeSpec.witness6 (enc := enc) (C := Try.checked) false ⟨#[], #[.agg #[.bool false, .int .i64 0, .float .f64 0, .slice none 0 0], .agg #[.bool false, .int .i64 0, .float .f64 0, .slice none 0 0]], []⟩ 8 (by kernel_rfl) (by kernel_rfl) (by kernel_rfl) (by kernel_rfl)) ?_
  intro W base args ds gs before hval0 hW hcnd _
  have hval : ∀ (j : Nat) t v, (Try.f10).params[j]? = some t → args[j]? = some v → Value.okWide Try.prog W .any base t v := hval0
  have hW' := hW
  obtain ⟨p, q, hA0, hV, rfl, hfz, hnd⟩ := hW
  have hA : DataW.TrodAll enc Try.prog W 0 (fun _ => true) true (Try.f10).params.toList args.toList ds p := hA0
  rw [Try.params10] at hA hval
  obtain ⟨v0, vs0, d0, ds0, p0, q0, hargs, rfl, rfl, h0, r0⟩ := trodAll_cons hA
  obtain ⟨v1, vs1, d1, ds1, p1, q1, rfl, rfl, rfl, h1, r1⟩ := trodAll_cons r0
  obtain ⟨rfl, rfl, rfl⟩ := trodAll_nil r1
  obtain rfl : args = #[v0, v1] := by cases args; simp_all
  obtain ⟨rfl, rfl⟩ := trodVars_none hV
  have k0 := h0
  have lt0 : ∀ x ∈ p0, x.block < W.heap.size := by obtain ⟨m, hm⟩ := k0; exact DataW.trod_lt m _ _ _ hm
  obtain ⟨cs0, rfl, sz0⟩ := WideShapes.okWide_struct Try.underlying25 (hval 0 25 v0 rfl rfl)
  obtain ⟨a0, ⟨tx0, n0, x0, b0, q0, rfl⟩, hs0⟩ := opnV.argS h0
  have k1 := h1
  have lt1 : ∀ x ∈ p1, x.block < W.heap.size := by obtain ⟨m, hm⟩ := k1; exact DataW.trod_lt m _ _ _ hm
  obtain ⟨cs1, rfl, sz1⟩ := WideShapes.okWide_struct Try.underlying25 (hval 1 25 v1 rfl rfl)
  obtain ⟨a1, ⟨tx1, n1, x1, b1, q1, rfl⟩, hs1⟩ := opnV.argS h1
  clear hA0 hval0
  refine (walk W tx0 tx1 n0 n1 x0 x1 b0 b1 q0 q1 _ _ hs0 hs1).mono fun e W' ⟨he, bel⟩ => ?_
  subst he
  exact ⟨_, rfl, _, _, _, [], _, [], hW', trodAll_mk1 (shut_bool Try.underlying4 _), (trodAll_cons_mk (Below.trod laidOut (by kernel_rfl) (of_decide_eq_true (by kernel_rfl)) k0 bel lt0) (trodAll_cons_mk (Below.trod laidOut (by kernel_rfl) (of_decide_eq_true (by kernel_rfl)) k1 bel lt1) trodAll_mk0)), rfl, bel.frame _, fun h => by cases h⟩

theorem over : Rows.valueBackRow.holds Try.pinned (OpenSpec.ofChange Rows.valueBackSpec) :=
  OpenClaim.holds_of_wide 10 Try.f10 rfl rfl rfl rfl rfl rfl rfl ⟨rfl, rfl, rfl, rfl, rfl⟩ rfl rfl rfl rfl rfl (by kernel_rfl) Try.func10 (by kernel_rfl)
    (of_decide_eq_true (by kernel_rfl)) (by unfold Func.isWrapper; first | (rw [if_pos (by decide +kernel)]; kernel_rfl) | (rw [if_neg (by decide +kernel)]; exact ⟨rfl, rfl⟩))
    (fun os started H enc _ => lifted os started H enc)

/-- THE STATEMENT -/
theorem proved : Rows.ValueBackSaid := over
#print axioms proved
end Go.Proofs.Ytdfnepbhgifkkaa.valueBack
