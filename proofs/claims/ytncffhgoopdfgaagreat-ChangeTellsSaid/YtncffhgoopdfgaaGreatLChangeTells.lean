/- The law wardmotelaw5.ChangeTells: for every input the call returns true, and every argument reads behind the call as it read before. -/
import Derived.Test.YtncffhgoopdfgaaGreatRows
import Derived.Test.YtncffhgoopdfgaaGreatP18
import Derived.ProofKit
import Derived.OpenShut
import Derived.ShutString
import Derived.Lib.SmallJoins
import Derived.Carry
namespace Go.Proofs.YtncffhgoopdfgaaGreat.changeTells
open Go.ChangeShapes Go.WideShapes Go.ChangeAt Go.RowKit
open Go.ChangeMaps (open_string shut_string)
set_option linter.unusedVariables false
set_option linter.unusedSimpArgs false

open Go.Am
theorem walk (w : World) (l m : List Cw) (o : Ow) (raw : List Ch) (b : List UInt8) (at' turn : Int) (wc : (Lit.int .i64 at').wf = true) (wm : (Lit.int .u8 turn).wf = true) (hl : ∀ a ∈ l, CwOk a) (h1 : l.length ≤ 9223372036854775807) (hm : ∀ a ∈ m, CwOk a) (h2 : m.length ≤ 9223372036854775807) (ho : OwOk o) (hraw : ∀ x ∈ raw, x.v.n < 18446744073709551616) (v v1 : Value) (c0 : Array Value) (v3 v4 : Value) (hs : SimD (cellsX w) (.list (l.map cwrow) .free) v) (hs1 : SimD (cellsX w) (.list (m.map cwrow) .free) v1) (hs2 : RowSim (cellsX w) (owrow o) c0.toList) (hs3 : SimD (cellsX w) (.list (raw.map chrow) .free) v3) (hs4 : SimD (cellsX w) (.list (b.map brow) .free) v4) :
    Calls Tryz.prog 5 #[v, v1, .agg c0, v3, v4, .int .i64 at', .int .u8 turn] w fun e w' => e = .returned (.bool true) ∧ Below w.heap.size w w' := by
  simp only [Lit.wf, Bool.and_eq_true, decide_eq_true_eq] at wc wm
  obtain ⟨t1, t2⟩ := wm
  have t1' : 0 ≤ turn := t1
  have t2' : turn ≤ 255 := t2
  have e : ((UInt8.ofNat turn.toNat).toNat : Int) = turn := by
    rw [UInt8.toNat_ofNat_of_lt' (by show turn.toNat < 256; omega)]; omega
  have hh := tells5_rc l m o raw b at' (UInt8.ofNat turn.toNat) hl h1 hm h2 ho hraw wc
  rw [e] at hh
  exact hh.walk ⟨Tryz.func5, rfl, by kernel_rfl⟩ rfl fun i a ha => by
    match i with
    | 0 => simp at ha; subst ha; exact .data _ _ hs
    | 1 => simp at ha; subst ha; exact .data _ _ hs1
    | 2 => simp at ha; subst ha; exact RowSim.agg hs2
    | 3 => simp at ha; subst ha; exact .data _ _ hs3
    | 4 => simp at ha; subst ha; exact .data _ _ hs4
    | 5 => simp at ha; subst ha; exact .data _ _ (.v _)
    | 6 => simp at ha; subst ha; exact .data _ _ (.v _)
    | i + 7 => simp at ha

theorem own : ownKnob Tryz.prog.godebug = none := by kernel_rfl
theorem laidOut : laidOutB Tryz.prog = true := by kernel_rfl

set_option maxRecDepth 100000 in
theorem lifted (os : Os) (started : os.Started) (H : Type) (enc : TypeId × Value → H) :
    ReturnsInHanded {} Tryz.checked os 5 .any (Rows.changeTellsSpec.pre6 enc Tryz.prog Tryz.f5 Rows.changeTellsRow.domain false) (Rows.changeTellsSpec.post enc Tryz.prog Tryz.f5 false true false false) := by
  refine returnsInHanded_of_change (C := Tryz.checked) own started (by kernel_rfl) Tryz.func5
    (ChangeSpec.witness6 (enc := enc) (C := Tryz.checked) false ⟨#[], #[.slice none 0 0, .slice none 0 0, .agg #[.int .i64 0, .int .i64 0, .int .i64 0, .int .i64 0, .int .i64 0, .bool false, .bool false, .bool false, .int .i64 0, .float .f64 0, .slice none 0 0, .slice none 0 0], .slice none 0 0, .slice none 0 0, .int .i64 0, .int .u8 0], []⟩ 8 (by kernel_rfl) (by kernel_rfl) (by kernel_rfl) (by kernel_rfl)) ?_
  intro W base args ds gs before hval0 hW hcnd _
  have hval : ∀ (j : Nat) t v, (Tryz.f5).params[j]? = some t → args[j]? = some v → Value.okWide Tryz.prog W .any base t v := hval0
  have hW' := hW
  obtain ⟨p, q, hA0, hV, rfl, hfz, hnd⟩ := hW
  have hA : DataW.TrodAll enc Tryz.prog W 0 (fun _ => true) true (Tryz.f5).params.toList args.toList ds p := hA0
  rw [Tryz.params5] at hA hval
  obtain ⟨v0, vs0, d0, ds0, p0, q0, hargs, rfl, rfl, h0, r0⟩ := trodAll_cons hA
  obtain ⟨v1, vs1, d1, ds1, p1, q1, rfl, rfl, rfl, h1, r1⟩ := trodAll_cons r0
  obtain ⟨v2, vs2, d2, ds2, p2, q2, rfl, rfl, rfl, h2, r2⟩ := trodAll_cons r1
  obtain ⟨v3, vs3, d3, ds3, p3, q3, rfl, rfl, rfl, h3, r3⟩ := trodAll_cons r2
  obtain ⟨v4, vs4, d4, ds4, p4, q4, rfl, rfl, rfl, h4, r4⟩ := trodAll_cons r3
  obtain ⟨v5, vs5, d5, ds5, p5, q5, rfl, rfl, rfl, h5, r5⟩ := trodAll_cons r4
  obtain ⟨v6, vs6, d6, ds6, p6, q6, rfl, rfl, rfl, h6, r6⟩ := trodAll_cons r5
  obtain ⟨rfl, rfl, rfl⟩ := trodAll_nil r6
  obtain rfl : args = #[v0, v1, v2, v3, v4, v5, v6] := by cases args; simp_all
  obtain ⟨rfl, rfl⟩ := trodVars_none hV
  have k0 := h0
  have lt0 : ∀ x ∈ p0, x.block < W.heap.size := by obtain ⟨m, hm⟩ := k0; exact DataW.trod_lt m _ _ _ hm
  obtain ⟨sa0, sl0, sc0, rfl⟩ := WideShapes.okWide_slice Tryz.underlying26 (hval 0 26 v0 rfl rfl)
  obtain ⟨a0, ⟨l0, hl0, hn0, ha0⟩, hs0⟩ := opnCws.arg h0 rfl
  obtain rfl : a0 = .list (l0.map cwrow) .free := by simpa using ha0
  have k1 := h1
  have lt1 : ∀ x ∈ p1, x.block < W.heap.size := by obtain ⟨m, hm⟩ := k1; exact DataW.trod_lt m _ _ _ hm
  obtain ⟨sa1, sl1, sc1, rfl⟩ := WideShapes.okWide_slice Tryz.underlying26 (hval 1 26 v1 rfl rfl)
  obtain ⟨a1, ⟨l1, hl1, hn1, ha1⟩, hs1⟩ := opnCws.arg h1 rfl
  obtain rfl : a1 = .list (l1.map cwrow) .free := by simpa using ha1
  have k2 := h2
  have lt2 : ∀ x ∈ p2, x.block < W.heap.size := by obtain ⟨m, hm⟩ := k2; exact DataW.trod_lt m _ _ _ hm
  obtain ⟨cs2, rfl, sz2⟩ := WideShapes.okWide_struct Tryz.underlying28 (hval 2 28 v2 rfl rfl)
  obtain ⟨_, ⟨d2, q2, rfl⟩, hs2⟩ := opnOw.argS h2
  have k3 := h3
  have lt3 : ∀ x ∈ p3, x.block < W.heap.size := by obtain ⟨m, hm⟩ := k3; exact DataW.trod_lt m _ _ _ hm
  obtain ⟨sa3, sl3, sc3, rfl⟩ := WideShapes.okWide_slice Tryz.underlying35 (hval 3 35 v3 rfl rfl)
  obtain ⟨a3, ⟨l3, hl3, hn3, ha3⟩, hs3⟩ := opnChs.arg h3 rfl
  obtain rfl : a3 = .list (l3.map chrow) .free := by simpa using ha3
  have k4 := h4
  have lt4 : ∀ x ∈ p4, x.block < W.heap.size := by obtain ⟨m, hm⟩ := k4; exact DataW.trod_lt m _ _ _ hm
  obtain ⟨sa4, sl4, sc4, rfl⟩ := WideShapes.okWide_slice Tryz.underlying23 (hval 4 23 v4 rfl rfl)
  obtain ⟨a4, ⟨l4, ha4, hn4⟩, hs4⟩ := opnBytes.arg h4 rfl
  obtain rfl : a4 = .list (l4.map brow) .free := by simpa using ha4
  have k5 := h5
  have lt5 : ∀ x ∈ p5, x.block < W.heap.size := by obtain ⟨m, hm⟩ := k5; exact DataW.trod_lt m _ _ _ hm
  obtain ⟨at', rfl, _, _, w5⟩ := open_int Tryz.underlying3 (hval 5 3 v5 rfl rfl) h5
  have k6 := h6
  have lt6 : ∀ x ∈ p6, x.block < W.heap.size := by obtain ⟨m, hm⟩ := k6; exact DataW.trod_lt m _ _ _ hm
  obtain ⟨turn, rfl, _, _, w6⟩ := open_int Tryz.underlying5 (hval 6 5 v6 rfl rfl) h6
  clear hA0 hval0
  refine (walk W l0 l1 d2 l3 l4 at' turn w5 w6 hl0 hn0 hl1 hn1 q2 hl3 _ _ _ _ _ hs0 hs1 hs2 hs3 hs4).mono fun e W' ⟨he, bel⟩ => ?_
  subst he
  exact ⟨_, rfl, _, _, _, [], _, [], hW', trodAll_mk1 (shut_bool Tryz.underlying4 _), (trodAll_cons_mk (Below.trod laidOut (by kernel_rfl) (of_decide_eq_true (by kernel_rfl)) k0 bel lt0) (trodAll_cons_mk (Below.trod laidOut (by kernel_rfl) (of_decide_eq_true (by kernel_rfl)) k1 bel lt1) (trodAll_cons_mk (Below.trod laidOut (by kernel_rfl) (of_decide_eq_true (by kernel_rfl)) k2 bel lt2) (trodAll_cons_mk (Below.trod laidOut (by kernel_rfl) (of_decide_eq_true (by kernel_rfl)) k3 bel lt3) (trodAll_cons_mk (Below.trod laidOut (by kernel_rfl) (of_decide_eq_true (by kernel_rfl)) k4 bel lt4) (trodAll_cons_mk (Below.trod laidOut (by kernel_rfl) (of_decide_eq_true (by kernel_rfl)) k5 bel lt5) (trodAll_cons_mk (Below.trod laidOut (by kernel_rfl) (of_decide_eq_true (by kernel_rfl)) k6 bel lt6) trodAll_mk0))))))), rfl, bel.frame _, fun h => by cases h⟩

theorem over : Rows.changeTellsRow.holds Tryz.pinned (OpenSpec.ofChange Rows.changeTellsSpec) :=
  OpenClaim.holds_of_wide 5 Tryz.f5 rfl rfl rfl rfl rfl rfl rfl ⟨rfl, rfl, rfl, rfl, rfl⟩ rfl rfl rfl rfl rfl (by kernel_rfl) Tryz.func5 (by kernel_rfl)
    (of_decide_eq_true (by kernel_rfl)) (by unfold Func.isWrapper; first | (rw [if_pos (by decide +kernel)]; kernel_rfl) | (rw [if_neg (by decide +kernel)]; exact ⟨rfl, rfl⟩))
    (fun os started H enc _ => lifted os started H enc)

/-- THE STATEMENT -/
theorem proved : Rows.ChangeTellsSaid := over
#print axioms proved
end Go.Proofs.YtncffhgoopdfgaaGreat.changeTells
