/- The law wardmotelaw5.ChangeConds: for every input the call returns true, and every argument reads behind the call as it read before. -/
import Derived.Test.YtncffhgoopdfgaaRows
import Derived.Test.YtncffhgoopdfgaaP7
import Derived.ProofKit
import Derived.OpenShut
import Derived.ShutString
import Derived.Lib.SmallJoins
import Derived.Carry
namespace Go.Proofs.Ytncffhgoopdfgaa.changeConds
open Go.ChangeShapes Go.WideShapes Go.ChangeAt Go.RowKit
open Go.ChangeMaps (open_string shut_string)
set_option linter.unusedVariables false
set_option linter.unusedSimpArgs false

open Go.Am
theorem walk (w : World) (l : List Cw) (hl : ∀ a ∈ l, CwOk a) (h1 : l.length ≤ 9223372036854775807) (d1 d2 : Dv) (hd1 : DvOk d1) (hd2 : DvOk d2) (v : Value) (c0 c1 : Array Value) (hs : SimD (cellsX w) (.list (l.map cwrow) .free) v) (hs0 : RowSim (cellsX w) (dvr d1) c0.toList) (hs1 : RowSim (cellsX w) (dvr d2) c1.toList) : Calls Try.prog 6 #[v, .agg c0, .agg c1] w fun e w' => e = .returned (.bool true) ∧ Below w.heap.size w w' :=
  (conds5_rc l hl h1 d1 d2 hd1 hd2).walk ⟨Try.func6, rfl, by kernel_rfl⟩ rfl fun i a ha => by
    match i with
    | 0 => simp at ha; subst ha; exact .data _ _ hs
    | 1 => simp at ha; subst ha; exact RowSim.agg hs0
    | 2 => simp at ha; subst ha; exact RowSim.agg hs1
    | i + 3 => simp at ha

theorem own : ownKnob Try.prog.godebug = none := by kernel_rfl
theorem laidOut : laidOutB Try.prog = true := by kernel_rfl

set_option maxRecDepth 100000 in
theorem lifted (os : Os) (started : os.Started) (H : Type) (enc : TypeId × Value → H) :
    ReturnsInHanded {} Try.checked os 6 .any (Rows.changeCondsSpec.pre6 enc Try.prog Try.f6 Rows.changeCondsRow.domain false) (Rows.changeCondsSpec.post enc Try.prog Try.f6 false true false false) := by
  refine returnsInHanded_of_change (C := Try.checked) own started (by kernel_rfl) Try.func6
    (ChangeSpec.witness6 (enc := enc) (C := Try.checked) false ⟨#[], #[.slice none 0 0, .agg #[.bool false, .int .i64 0, .float .f64 0, .slice none 0 0], .agg #[.bool false, .int .i64 0, .float .f64 0, .slice none 0 0]], []⟩ 8 (by kernel_rfl) (by kernel_rfl) (by kernel_rfl) (by kernel_rfl)) ?_
  intro W base args ds gs before hval0 hW hcnd _
  have hval : ∀ (j : Nat) t v, (Try.f6).params[j]? = some t → args[j]? = some v → Value.okWide Try.prog W .any base t v := hval0
  have hW' := hW
  obtain ⟨p, q, hA0, hV, rfl, hfz, hnd⟩ := hW
  have hA : DataW.TrodAll enc Try.prog W 0 (fun _ => true) true (Try.f6).params.toList args.toList ds p := hA0
  rw [Try.params6] at hA hval
  obtain ⟨v0, vs0, d0, ds0, p0, q0, hargs, rfl, rfl, h0, r0⟩ := trodAll_cons hA
  obtain ⟨v1, vs1, d1, ds1, p1, q1, rfl, rfl, rfl, h1, r1⟩ := trodAll_cons r0
  obtain ⟨v2, vs2, d2, ds2, p2, q2, rfl, rfl, rfl, h2, r2⟩ := trodAll_cons r1
  obtain ⟨rfl, rfl, rfl⟩ := trodAll_nil r2
  obtain rfl : args = #[v0, v1, v2] := by cases args; simp_all
  obtain ⟨rfl, rfl⟩ := trodVars_none hV
  have k0 := h0
  have lt0 : ∀ x ∈ p0, x.block < W.heap.size := by obtain ⟨m, hm⟩ := k0; exact DataW.trod_lt m _ _ _ hm
  obtain ⟨sa0, sl0, sc0, rfl⟩ := WideShapes.okWide_slice Try.underlying26 (hval 0 26 v0 rfl rfl)
  obtain ⟨a0, ⟨l0, hl0, hn0, ha0⟩, hs0⟩ := opnCws.arg h0 rfl
  obtain rfl : a0 = .list (l0.map cwrow) .free := by simpa using ha0
  have k1 := h1
  have lt1 : ∀ x ∈ p1, x.block < W.heap.size := by obtain ⟨m, hm⟩ := k1; exact DataW.trod_lt m _ _ _ hm
  obtain ⟨cs1, rfl, sz1⟩ := WideShapes.okWide_struct Try.underlying25 (hval 1 25 v1 rfl rfl)
  obtain ⟨_, ⟨d1, q1, rfl⟩, hs1⟩ := opnDv.argS h1
  have k2 := h2
  have lt2 : ∀ x ∈ p2, x.block < W.heap.size := by obtain ⟨m, hm⟩ := k2; exact DataW.trod_lt m _ _ _ hm
  obtain ⟨cs2, rfl, sz2⟩ := WideShapes.okWide_struct Try.underlying25 (hval 2 25 v2 rfl rfl)
  obtain ⟨_, ⟨d2, q2, rfl⟩, hs2⟩ := opnDv.argS h2
  clear hA0 hval0
  refine (walk W l0 hl0 hn0 d1 d2 q1 q2 _ _ _ hs0 hs1 hs2).mono fun e W' ⟨he, bel⟩ => ?_
  subst he
  exact ⟨_, rfl, _, _, _, [], _, [], hW', trodAll_mk1 (shut_bool Try.underlying4 _), (trodAll_cons_mk (Below.trod laidOut (by kernel_rfl) (of_decide_eq_true (by kernel_rfl)) k0 bel lt0) (trodAll_cons_mk (Below.trod laidOut (by kernel_rfl) (of_decide_eq_true (by kernel_rfl)) k1 bel lt1) (trodAll_cons_mk (Below.trod laidOut (by kernel_rfl) (of_decide_eq_true (by kernel_rfl)) k2 bel lt2) trodAll_mk0))), rfl, bel.frame _, fun h => by cases h⟩

theorem over : Rows.changeCondsRow.holds Try.pinned (OpenSpec.ofChange Rows.changeCondsSpec) :=
  OpenClaim.holds_of_wide 6 Try.f6 rfl rfl rfl rfl rfl rfl rfl ⟨rfl, rfl, rfl, rfl, rfl⟩ rfl rfl rfl rfl rfl (by kernel_rfl) Try.func6 (by kernel_rfl)
    (of_decide_eq_true (by kernel_rfl)) (by unfold Func.isWrapper; first | (rw [if_pos (by decide +kernel)]; kernel_rfl) | (rw [if_neg (by decide +kernel)]; exact ⟨rfl, rfl⟩))
    (fun os started H enc _ => lifted os started H enc)

/-- THE STATEMENT -/
theorem proved : Rows.ChangeCondsSaid := over
#print axioms proved
end Go.Proofs.Ytncffhgoopdfgaa.changeConds
