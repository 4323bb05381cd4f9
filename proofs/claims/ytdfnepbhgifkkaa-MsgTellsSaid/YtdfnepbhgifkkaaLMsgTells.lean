/- The law wardmotelaw16.MsgTells: for every input the call returns true, and every argument reads behind the call as it read before. -/
import Derived.Test.YtdfnepbhgifkkaaRows
import Derived.Test.YtdfnepbhgifkkaaMw
import Derived.Test.YtdfnepbhgifkkaaMx
import Derived.ProofKit
import Derived.OpenShut
import Derived.ShutString
import Derived.Lib.SmallJoins
import Derived.Carry
namespace Go.Proofs.Ytdfnepbhgifkkaa.msgTells
open Go.ChangeShapes Go.WideShapes Go.ChangeAt Go.RowKit
open Go.ChangeMaps (open_string shut_string)
set_option linter.unusedVariables false
set_option linter.unusedSimpArgs false

open Go.Am
theorem walk (w : World) (d1 d2 r : Ms) (b : List UInt8) (at' turn : Int) (wc : (Lit.int .i64 at').wf = true) (wm : (Lit.int .u8 turn).wf = true) (h1 : DOkM d1) (h2 : DOkM d2) (c0 c1 c2 : Array Value) (v3 : Value) (hs0 : RowSim (cellsX w) (msrow d1) c0.toList) (hs1 : RowSim (cellsX w) (msrow d2) c1.toList) (hs2 : RowSim (cellsX w) (msrow r) c2.toList) (hs3 : SimD (cellsX w) (.list (b.map brow) .free) v3) :
    Calls Try.prog 6 #[.agg c0, .agg c1, .agg c2, v3, .int .i64 at', .int .u8 turn] w fun e w' => e = .returned (.bool true) ∧ Below w.heap.size w w' := by
  simp only [Lit.wf, Bool.and_eq_true, decide_eq_true_eq] at wc wm
  obtain ⟨a1, a2⟩ := wc
  obtain ⟨t1, t2⟩ := wm
  have t1' : 0 ≤ turn := t1
  have t2' : turn ≤ 255 := t2
  have e : ((UInt8.ofNat turn.toNat).toNat : Int) = turn := by
    rw [UInt8.toNat_ofNat_of_lt' (by show turn.toNat < 256; omega)]; omega
  obtain ⟨rk, rg, rf, rt, rb, rs, rc, rq, rB, rL⟩ := r
  have hh := mtells_c d1 d2 h1 h2 rk rg rf rt rb rs rc rq rB rL b at' ⟨a1, a2⟩ (UInt8.ofNat turn.toNat)
  rw [e] at hh
  exact hh.walk ⟨Try.func6, rfl, by kernel_rfl⟩ rfl fun i a ha => by
    match i with
    | 0 => simp at ha; subst ha; exact RowSim.aggT hs0
    | 1 => simp at ha; subst ha; exact RowSim.aggT hs1
    | 2 => simp at ha; subst ha; exact RowSim.aggT hs2
    | 3 => simp at ha; subst ha; exact .data _ _ hs3
    | 4 => simp at ha; subst ha; exact .data _ _ (.v _)
    | 5 => simp at ha; subst ha; exact .data _ _ (.v _)
    | i + 6 => simp at ha

theorem own : ownKnob Try.prog.godebug = none := by kernel_rfl
theorem laidOut : laidOutB Try.prog = true := by kernel_rfl

set_option maxRecDepth 100000 in
theorem lifted (os : Os) (started : os.Started) (H : Type) (enc : TypeId × Value → H) :
    ReturnsInHanded {} Try.checked os 6 .any (Rows.msgTellsSpec.pre6 enc Try.prog Try.f6 Rows.msgTellsRow.domain false) (Rows.msgTellsSpec.post enc Try.prog Try.f6 false true false false) := by
  refine returnsInHanded_of_change (C := Try.checked) own started (by kernel_rfl) Try.func6
    (ChangeSpec.witness6 (enc := enc) (C := Try.checked) false ⟨#[], #[.agg #[.int .i64 0, .int .i64 0, .int .i64 0, .int .i64 0, .int .i64 0, .int .i64 0, .int .i64 0, .int .i64 0, .slice none 0 0, .slice none 0 0], .agg #[.int .i64 0, .int .i64 0, .int .i64 0, .int .i64 0, .int .i64 0, .int .i64 0, .int .i64 0, .int .i64 0, .slice none 0 0, .slice none 0 0], .agg #[.int .i64 0, .int .i64 0, .int .i64 0, .int .i64 0, .int .i64 0, .int .i64 0, .int .i64 0, .int .i64 0, .slice none 0 0, .slice none 0 0], .slice none 0 0, .int .i64 0, .int .u8 0], []⟩ 8 (by kernel_rfl) (by kernel_rfl) (by kernel_rfl) (by kernel_rfl)) ?_
  intro W base args ds gs before hval0 hW hcnd _
  have hval : ∀ (j : Nat) t v, (Try.f6).params[j]? = some t → args[j]? = some v → Value.okWide Try.prog W .any base t v := hval0
  have hW' := hW
  obtain ⟨p, q, hA0, hV, rfl, hfz, hnd⟩ := hW
  have hA : DataW.TrodAll enc Try.prog W 0 (fun _ => true) true (Try.f6).params.toList args.toList ds p := hA0
  rw [Try.params6] at hA hval
  obtain ⟨v0, vs0, d0, ds0, p0, q0, hargs, rfl, rfl, h0, r0⟩ := trodAll_cons hA
  obtain ⟨v1, vs1, d1, ds1, p1, q1, rfl, rfl, rfl, h1, r1⟩ := trodAll_cons r0
  obtain ⟨v2, vs2, d2, ds2, p2, q2, rfl, rfl, rfl, h2, r2⟩ := trodAll_cons r1
  obtain ⟨v3, vs3, d3, ds3, p3, q3, rfl, rfl, rfl, h3, r3⟩ := trodAll_cons r2
  obtain ⟨v4, vs4, d4, ds4, p4, q4, rfl, rfl, rfl, h4, r4⟩ := trodAll_cons r3
  obtain ⟨v5, vs5, d5, ds5, p5, q5, rfl, rfl, rfl, h5, r5⟩ := trodAll_cons r4
  obtain ⟨rfl, rfl, rfl⟩ := trodAll_nil r5
  obtain rfl : args = #[v0, v1, v2, v3, v4, v5] := by cases args; simp_all
  obtain ⟨rfl, rfl⟩ := trodVars_none hV
  have k0 := h0
  have lt0 : ∀ x ∈ p0, x.block < W.heap.size := by obtain ⟨m, hm⟩ := k0; exact DataW.trod_lt m _ _ _ hm
  obtain ⟨cs0, rfl, sz0⟩ := WideShapes.okWide_struct Try.underlying36 (hval 0 36 v0 rfl rfl)
  obtain ⟨a0, ⟨d0, q0, rfl⟩, hs0⟩ := opnDraw.argT h0
  have k1 := h1
  have lt1 : ∀ x ∈ p1, x.block < W.heap.size := by obtain ⟨m, hm⟩ := k1; exact DataW.trod_lt m _ _ _ hm
  obtain ⟨cs1, rfl, sz1⟩ := WideShapes.okWide_struct Try.underlying36 (hval 1 36 v1 rfl rfl)
  obtain ⟨a1, ⟨d1, q1, rfl⟩, hs1⟩ := opnDraw.argT h1
  have k2 := h2
  have lt2 : ∀ x ∈ p2, x.block < W.heap.size := by obtain ⟨m, hm⟩ := k2; exact DataW.trod_lt m _ _ _ hm
  obtain ⟨cs2, rfl, sz2⟩ := WideShapes.okWide_struct Try.underlying40 (hval 2 40 v2 rfl rfl)
  obtain ⟨a2, ⟨d2, q2, rfl⟩, hs2⟩ := opnMsg.argT h2
  have k3 := h3
  have lt3 : ∀ x ∈ p3, x.block < W.heap.size := by obtain ⟨m, hm⟩ := k3; exact DataW.trod_lt m _ _ _ hm
  obtain ⟨sa3, sl3, sc3, rfl⟩ := WideShapes.okWide_slice Try.underlying23 (hval 3 23 v3 rfl rfl)
  obtain ⟨a3, ⟨l3, ha3, hn3⟩, hs3⟩ := opnBytesM.arg h3 rfl
  obtain rfl : a3 = .list (l3.map brow) .free := by simpa using ha3
  have k4 := h4
  have lt4 : ∀ x ∈ p4, x.block < W.heap.size := by obtain ⟨m, hm⟩ := k4; exact DataW.trod_lt m _ _ _ hm
  obtain ⟨at', rfl, _, _, w4⟩ := open_int Try.underlying3 (hval 4 3 v4 rfl rfl) h4
  have k5 := h5
  have lt5 : ∀ x ∈ p5, x.block < W.heap.size := by obtain ⟨m, hm⟩ := k5; exact DataW.trod_lt m _ _ _ hm
  obtain ⟨turn, rfl, _, _, w5⟩ := open_int Try.underlying5 (hval 5 5 v5 rfl rfl) h5
  clear hA0 hval0
  refine (walk W d0 d1 d2 l3 at' turn w4 w5 q0 q1 _ _ _ _ hs0 hs1 hs2 hs3).mono fun e W' ⟨he, bel⟩ => ?_
  subst he
  exact ⟨_, rfl, _, _, _, [], _, [], hW', trodAll_mk1 (shut_bool Try.underlying4 _), (trodAll_cons_mk (Below.trod laidOut (by kernel_rfl) (of_decide_eq_true (by kernel_rfl)) k0 bel lt0) (trodAll_cons_mk (Below.trod laidOut (by kernel_rfl) (of_decide_eq_true (by kernel_rfl)) k1 bel lt1) (trodAll_cons_mk (Below.trod laidOut (by kernel_rfl) (of_decide_eq_true (by kernel_rfl)) k2 bel lt2) (trodAll_cons_mk (Below.trod laidOut (by kernel_rfl) (of_decide_eq_true (by kernel_rfl)) k3 bel lt3) (trodAll_cons_mk (Below.trod laidOut (by kernel_rfl) (of_decide_eq_true (by kernel_rfl)) k4 bel lt4) (trodAll_cons_mk (Below.trod laidOut (by kernel_rfl) (of_decide_eq_true (by kernel_rfl)) k5 bel lt5) trodAll_mk0)))))), rfl, bel.frame _, fun h => by cases h⟩

theorem over : Rows.msgTellsRow.holds Try.pinned (OpenSpec.ofChange Rows.msgTellsSpec) :=
  OpenClaim.holds_of_wide 6 Try.f6 rfl rfl rfl rfl rfl rfl rfl ⟨rfl, rfl, rfl, rfl, rfl⟩ rfl rfl rfl rfl rfl (by kernel_rfl) Try.func6 (by kernel_rfl)
    (of_decide_eq_true (by kernel_rfl)) (by unfold Func.isWrapper; first | (rw [if_pos (by decide +kernel)]; kernel_rfl) | (rw [if_neg (by decide +kernel)]; exact ⟨rfl, rfl⟩))
    (fun os started H enc _ => lifted os started H enc)

/-- THE STATEMENT -/
theorem proved : Rows.MsgTellsSaid := over
#print axioms proved
end Go.Proofs.Ytdfnepbhgifkkaa.msgTells
