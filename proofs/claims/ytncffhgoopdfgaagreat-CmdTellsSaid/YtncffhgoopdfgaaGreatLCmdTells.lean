/- The law wardmotelaw8.CmdTells: for every input the call returns true, and every argument reads behind the call as it read before. -/
import Derived.Test.YtncffhgoopdfgaaGreatRows
import Derived.Test.YtncffhgoopdfgaaGreatP16
import Derived.SizedLaws
import Derived.ProofKit
import Derived.OpenShut
import Derived.ShutString
import Derived.Lib.SmallJoins
import Derived.Carry
namespace Go.Proofs.YtncffhgoopdfgaaGreat.cmdTells
open Go.ChangeShapes Go.WideShapes Go.ChangeAt Go.RowKit
open Go.ChangeMaps (open_string shut_string)
set_option linter.unusedVariables false
set_option linter.unusedSimpArgs false

open Go.Am
theorem walk (w : World) (x : Dw) (raw : Cm) (b : List UInt8) (at' turn : Int) (wc : (Lit.int .i64 at').wf = true) (wm : (Lit.int .u8 turn).wf = true) (hx : DwOk x) (hraw : RawOk raw) (hb : b.length ≤ 140737488351232) (c0 c1 : Array Value) (v2 : Value) (hs0 : RowSim (cellsX w) (dwrow x) c0.toList) (hs1 : RowSim (cellsX w) (cmrow raw) c1.toList) (hs2 : SimD (cellsX w) (.list (b.map brow) .free) v2) :
    Calls Tryz.prog 3 #[.agg c0, .agg c1, v2, .int .i64 at', .int .u8 turn] w fun e w' => e = .returned (.bool true) ∧ Below w.heap.size w w' := by
  simp only [Lit.wf, Bool.and_eq_true, decide_eq_true_eq] at wc wm
  obtain ⟨t1, t2⟩ := wm
  have t1' : 0 ≤ turn := t1
  have t2' : turn ≤ 255 := t2
  have e : ((UInt8.ofNat turn.toNat).toNat : Int) = turn := by
    rw [UInt8.toNat_ofNat_of_lt' (by show turn.toNat < 256; omega)]; omega
  have hh := tells8_rc x hx raw hraw b hb at' wc (UInt8.ofNat turn.toNat)
  rw [e] at hh
  exact hh.walk ⟨Tryz.func3, rfl, by kernel_rfl⟩ rfl fun i a ha => by
    match i with
    | 0 => simp at ha; subst ha; exact RowSim.agg hs0
    | 1 => simp at ha; subst ha; exact RowSim.agg hs1
    | 2 => simp at ha; subst ha; exact .data _ _ hs2
    | 3 => simp at ha; subst ha; exact .data _ _ (.v _)
    | 4 => simp at ha; subst ha; exact .data _ _ (.v _)
    | i + 5 => simp at ha

theorem own : ownKnob Tryz.prog.godebug = none := by kernel_rfl
theorem laidOut : laidOutB Tryz.prog = true := by kernel_rfl

set_option maxRecDepth 100000 in
theorem lifted (os : Os) (started : os.Started) (H : Type) (enc : TypeId × Value → H) :
    ReturnsInHanded {} Tryz.checked os 3 .any (Rows.cmdTellsSpec.pre6 enc Tryz.prog Tryz.f3 Rows.cmdTellsRow.domain false) (Rows.cmdTellsSpec.post enc Tryz.prog Tryz.f3 false true false false) := by
  refine returnsInHanded_of_change_sized (C := Tryz.checked) own started (by kernel_rfl) Tryz.func3
    (ChangeSpec.witness6 (enc := enc) (C := Tryz.checked) false ⟨#[], #[.agg #[.int .i64 0, .int .i64 0, .int .i64 0, .int .i64 0, .int .i64 0, .int .i64 0, .int .i64 0, .int .i64 0, .int .i64 0, .int .i64 0, .int .i64 0, .bool false, .bool false, .bool false, .int .i64 0, .float .f64 0, .slice none 0 0, .slice none 0 0, .slice none 0 0], .agg #[.int .i64 0, .int .i64 0, .string ByteArray.empty, .string ByteArray.empty, .bool false, .bool false, .string ByteArray.empty, .int .i64 0, .slice none 0 0, .float .f64 0, .slice none 0 0, .int .i64 0, .string ByteArray.empty, .string ByteArray.empty, .int .i64 0, .string ByteArray.empty, .int .i64 0, .int .i64 0, .slice none 0 0], .slice none 0 0, .int .i64 0, .int .u8 0], []⟩ 8 (by kernel_rfl) (by kernel_rfl) (by kernel_rfl) (by kernel_rfl)) ?_
  intro W base args ds gs before hval0 hW hcnd hsz0 _
  have hval : ∀ (j : Nat) t v, (Tryz.f3).params[j]? = some t → args[j]? = some v → Value.okWide Tryz.prog W .any base t v := hval0
  have hW' := hW
  obtain ⟨p, q, hA0, hV, rfl, hfz, hnd⟩ := hW
  have hA : DataW.TrodAll enc Tryz.prog W 0 (fun _ => true) true (Tryz.f3).params.toList args.toList ds p := hA0
  have hsz : (DataW.weightsEach Tryz.prog ((Tryz.f3).params.toList ++ Rows.cmdTellsSpec.plain.varTypes Tryz.prog) (ds ++ gs)).all (· ≤ reachBytes) = true := hsz0
  rw [Tryz.params3] at hA hval hsz
  obtain ⟨v0, vs0, d0, ds0, p0, q0, hargs, rfl, rfl, h0, r0⟩ := trodAll_cons hA
  obtain ⟨v1, vs1, d1, ds1, p1, q1, rfl, rfl, rfl, h1, r1⟩ := trodAll_cons r0
  obtain ⟨v2, vs2, d2, ds2, p2, q2, rfl, rfl, rfl, h2, r2⟩ := trodAll_cons r1
  obtain ⟨v3, vs3, d3, ds3, p3, q3, rfl, rfl, rfl, h3, r3⟩ := trodAll_cons r2
  obtain ⟨v4, vs4, d4, ds4, p4, q4, rfl, rfl, rfl, h4, r4⟩ := trodAll_cons r3
  obtain ⟨rfl, rfl, rfl⟩ := trodAll_nil r4
  obtain rfl : args = #[v0, v1, v2, v3, v4] := by cases args; simp_all
  obtain ⟨rfl, rfl⟩ := trodVars_none hV
  have k0 := h0
  have lt0 : ∀ x ∈ p0, x.block < W.heap.size := by obtain ⟨m, hm⟩ := k0; exact DataW.trod_lt m _ _ _ hm
  obtain ⟨cs0, rfl, sz0⟩ := WideShapes.okWide_struct Tryz.underlying30 (hval 0 30 v0 rfl rfl)
  obtain ⟨_, ⟨d0', q0, rfl⟩, hs0⟩ := opnDw.argS h0
  have k1 := h1
  have lt1 : ∀ x ∈ p1, x.block < W.heap.size := by obtain ⟨m, hm⟩ := k1; exact DataW.trod_lt m _ _ _ hm
  obtain ⟨cs1, rfl, sz1⟩ := WideShapes.okWide_struct Tryz.underlying41 (hval 1 41 v1 rfl rfl)
  obtain ⟨_, ⟨d1', q1, rfl⟩, hs1⟩ := opnCm8.argS h1
  have k2 := h2
  have lt2 : ∀ x ∈ p2, x.block < W.heap.size := by obtain ⟨m, hm⟩ := k2; exact DataW.trod_lt m _ _ _ hm
  obtain ⟨sa2, sl2, sc2, rfl⟩ := WideShapes.okWide_slice Tryz.underlying23 (hval 2 23 v2 rfl rfl)
  obtain ⟨a2, ⟨l2, ha2, hn2⟩, hs2⟩ := opnBytes.arg h2 rfl
  obtain rfl : a2 = .list (l2.map brow) .free := by simpa using ha2
  have hb2 : l2.length ≤ 140737488351232 := bytes_sz hsz (j := 2) rfl rfl h2 rfl hs2
  have k3 := h3
  have lt3 : ∀ x ∈ p3, x.block < W.heap.size := by obtain ⟨m, hm⟩ := k3; exact DataW.trod_lt m _ _ _ hm
  obtain ⟨at', rfl, _, _, w3⟩ := open_int Tryz.underlying3 (hval 3 3 v3 rfl rfl) h3
  have k4 := h4
  have lt4 : ∀ x ∈ p4, x.block < W.heap.size := by obtain ⟨m, hm⟩ := k4; exact DataW.trod_lt m _ _ _ hm
  obtain ⟨turn, rfl, _, _, w4⟩ := open_int Tryz.underlying5 (hval 4 5 v4 rfl rfl) h4
  clear hA0 hval0
  refine (walk W d0' d1' l2 at' turn w3 w4 q0 q1 hb2 _ _ _ hs0 hs1 hs2).mono fun e W' ⟨he, bel⟩ => ?_
  subst he
  exact ⟨_, rfl, _, _, _, [], _, [], hW', trodAll_mk1 (shut_bool Tryz.underlying4 _), (trodAll_cons_mk (Below.trod laidOut (by kernel_rfl) (of_decide_eq_true (by kernel_rfl)) k0 bel lt0) (trodAll_cons_mk (Below.trod laidOut (by kernel_rfl) (of_decide_eq_true (by kernel_rfl)) k1 bel lt1) (trodAll_cons_mk (Below.trod laidOut (by kernel_rfl) (of_decide_eq_true (by kernel_rfl)) k2 bel lt2) (trodAll_cons_mk (Below.trod laidOut (by kernel_rfl) (of_decide_eq_true (by kernel_rfl)) k3 bel lt3) (trodAll_cons_mk (Below.trod laidOut (by kernel_rfl) (of_decide_eq_true (by kernel_rfl)) k4 bel lt4) trodAll_mk0))))), rfl, bel.frame _, fun h => by cases h⟩

theorem over : Rows.cmdTellsRow.holds Tryz.pinned (OpenSpec.ofChange Rows.cmdTellsSpec) :=
  OpenClaim.holds_of_wide 3 Tryz.f3 rfl rfl rfl rfl rfl rfl rfl ⟨rfl, rfl, rfl, rfl, rfl⟩ rfl rfl rfl rfl rfl (by kernel_rfl) Tryz.func3 (by kernel_rfl)
    (of_decide_eq_true (by kernel_rfl)) (by unfold Func.isWrapper; first | (rw [if_pos (by decide +kernel)]; kernel_rfl) | (rw [if_neg (by decide +kernel)]; exact ⟨rfl, rfl⟩))
    (fun os started H enc _ => lifted os started H enc)

/-- THE STATEMENT -/
theorem proved : Rows.CmdTellsSaid := over
#print axioms proved
end Go.Proofs.YtncffhgoopdfgaaGreat.cmdTells
