/- The law wardmotelaw6.RowsBytes: for every input the call returns true, and every argument reads behind the call as it read before. -/
import Derived.Test.YtjepgbpcpcahgaaGreatRows
import Derived.Test.YtjepgbpcpcahgaaGreatP8
import Derived.ProofKit
import Derived.OpenShut
import Derived.ShutString
import Derived.Lib.SmallJoins
import Derived.Carry
namespace Go.Proofs.YtjepgbpcpcahgaaGreat.rowsBytes
open Go.ChangeShapes Go.WideShapes Go.ChangeAt Go.RowKit
open Go.ChangeMaps (open_string shut_string)
set_option linter.unusedVariables false
set_option linter.unusedSimpArgs false

open Go.Am
theorem walk (w : World) (l : List Nk) (b : List UInt8) (at' turn : Int) (wc : (Lit.int .i64 at').wf = true) (wm : (Lit.int .u8 turn).wf = true) (hl : ∀ a ∈ l, NkOk a) (h : l.length ≤ 9223372036854775807) (v v1 : Value) (hs : SimD (cellsX w) (.list (l.map nkrow) .free) v) (hs1 : SimD (cellsX w) (.list (b.map brow) .free) v1) :
    Calls Tryz.prog 4 #[v, v1, .int .i64 at', .int .u8 turn] w fun e w' => e = .returned (.bool true) ∧ Below w.heap.size w w' := by
  simp only [Lit.wf, Bool.and_eq_true, decide_eq_true_eq] at wc wm
  obtain ⟨t1, t2⟩ := wm
  have t1' : 0 ≤ turn := t1
  have t2' : turn ≤ 255 := t2
  have e : ((UInt8.ofNat turn.toNat).toNat : Int) = turn := by
    rw [UInt8.toNat_ofNat_of_lt' (by show turn.toNat < 256; omega)]; omega
  have hh := rbytes6_rc l hl h b at' wc (UInt8.ofNat turn.toNat)
  rw [e] at hh
  exact hh.walk ⟨Tryz.func4, rfl, by kernel_rfl⟩ rfl fun i a ha => by
    match i with
    | 0 => simp at ha; subst ha; exact .data _ _ hs
    | 1 => simp at ha; subst ha; exact .data _ _ hs1
    | 2 => simp at ha; subst ha; exact .data _ _ (.v _)
    | 3 => simp at ha; subst ha; exact .data _ _ (.v _)
    | i + 4 => simp at ha

theorem own : ownKnob Tryz.prog.godebug = none := by kernel_rfl
theorem laidOut : laidOutB Tryz.prog = true := by kernel_rfl

set_option maxRecDepth 100000 in
theorem lifted (os : Os) (started : os.Started) (H : Type) (enc : TypeId × Value → H) :
    ReturnsInHanded {} Tryz.checked os 4 .any (Rows.rowsBytesSpec.pre6 enc Tryz.prog Tryz.f4 Rows.rowsBytesRow.domain false) (Rows.rowsBytesSpec.post enc Tryz.prog Tryz.f4 false true false false) := by
  refine returnsInHanded_of_change (C := Tryz.checked) own started (by kernel_rfl) Tryz.func4
    (ChangeSpec.witness6 (enc := enc) (C := Tryz.checked) false ⟨#[], #[.slice none 0 0, .slice none 0 0, .int .i64 0, .int .u8 0], []⟩ 8 (by kernel_rfl) (by kernel_rfl) (by kernel_rfl) (by kernel_rfl)) ?_
  intro W base args ds gs before hval0 hW hcnd _
  have hval : ∀ (j : Nat) t v, (Tryz.f4).params[j]? = some t → args[j]? = some v → Value.okWide Tryz.prog W .any base t v := hval0
  have hW' := hW
  obtain ⟨p, q, hA0, hV, rfl, hfz, hnd⟩ := hW
  have hA : DataW.TrodAll enc Tryz.prog W 0 (fun _ => true) true (Tryz.f4).params.toList args.toList ds p := hA0
  rw [Tryz.params4] at hA hval
  obtain ⟨v0, vs0, d0, ds0, p0, q0, hargs, rfl, rfl, h0, r0⟩ := trodAll_cons hA
  obtain ⟨v1, vs1, d1, ds1, p1, q1, rfl, rfl, rfl, h1, r1⟩ := trodAll_cons r0
  obtain ⟨v2, vs2, d2, ds2, p2, q2, rfl, rfl, rfl, h2, r2⟩ := trodAll_cons r1
  obtain ⟨v3, vs3, d3, ds3, p3, q3, rfl, rfl, rfl, h3, r3⟩ := trodAll_cons r2
  obtain ⟨rfl, rfl, rfl⟩ := trodAll_nil r3
  obtain rfl : args = #[v0, v1, v2, v3] := by cases args; simp_all
  obtain ⟨rfl, rfl⟩ := trodVars_none hV
  have k0 := h0
  have lt0 : ∀ x ∈ p0, x.block < W.heap.size := by obtain ⟨m, hm⟩ := k0; exact DataW.trod_lt m _ _ _ hm
  obtain ⟨sa0, sl0, sc0, rfl⟩ := WideShapes.okWide_slice Tryz.underlying34 (hval 0 34 v0 rfl rfl)
  obtain ⟨a0, ⟨l0, hl0, hn0, ha0⟩, hs0⟩ := opnNks.arg h0 rfl
  obtain rfl : a0 = .list (l0.map nkrow) .free := by simpa using ha0
  have k1 := h1
  have lt1 : ∀ x ∈ p1, x.block < W.heap.size := by obtain ⟨m, hm⟩ := k1; exact DataW.trod_lt m _ _ _ hm
  obtain ⟨sa1, sl1, sc1, rfl⟩ := WideShapes.okWide_slice Tryz.underlying23 (hval 1 23 v1 rfl rfl)
  obtain ⟨a1, ⟨l1, ha1, hn1⟩, hs1⟩ := opnBytes.arg h1 rfl
  obtain rfl : a1 = .list (l1.map brow) .free := by simpa using ha1
  have k2 := h2
  have lt2 : ∀ x ∈ p2, x.block < W.heap.size := by obtain ⟨m, hm⟩ := k2; exact DataW.trod_lt m _ _ _ hm
  obtain ⟨at', rfl, _, _, w2⟩ := open_int Tryz.underlying3 (hval 2 3 v2 rfl rfl) h2
  have k3 := h3
  have lt3 : ∀ x ∈ p3, x.block < W.heap.size := by obtain ⟨m, hm⟩ := k3; exact DataW.trod_lt m _ _ _ hm
  obtain ⟨turn, rfl, _, _, w3⟩ := open_int Tryz.underlying5 (hval 3 5 v3 rfl rfl) h3
  clear hA0 hval0
  refine (walk W l0 l1 at' turn w2 w3 hl0 hn0 _ _ hs0 hs1).mono fun e W' ⟨he, bel⟩ => ?_
  subst he
  exact ⟨_, rfl, _, _, _, [], _, [], hW', trodAll_mk1 (shut_bool Tryz.underlying4 _), (trodAll_cons_mk (Below.trod laidOut (by kernel_rfl) (of_decide_eq_true (by kernel_rfl)) k0 bel lt0) (trodAll_cons_mk (Below.trod laidOut (by kernel_rfl) (of_decide_eq_true (by kernel_rfl)) k1 bel lt1) (trodAll_cons_mk (Below.trod laidOut (by kernel_rfl) (of_decide_eq_true (by kernel_rfl)) k2 bel lt2) (trodAll_cons_mk (Below.trod laidOut (by kernel_rfl) (of_decide_eq_true (by kernel_rfl)) k3 bel lt3) trodAll_mk0)))), rfl, bel.frame _, fun h => by cases h⟩

theorem over : Rows.rowsBytesRow.holds Tryz.pinned (OpenSpec.ofChange Rows.rowsBytesSpec) :=
  OpenClaim.holds_of_wide 4 Tryz.f4 rfl rfl rfl rfl rfl rfl rfl ⟨rfl, rfl, rfl, rfl, rfl⟩ rfl rfl rfl rfl rfl (by kernel_rfl) Tryz.func4 (by kernel_rfl)
    (of_decide_eq_true (by kernel_rfl)) (by unfold Func.isWrapper; first | (rw [if_pos (by decide +kernel)]; kernel_rfl) | (rw [if_neg (by decide +kernel)]; exact ⟨rfl, rfl⟩))
    (fun os started H enc _ => lifted os started H enc)

/-- THE STATEMENT -/
theorem proved : Rows.RowsBytesSaid := over
#print axioms proved
end Go.Proofs.YtjepgbpcpcahgaaGreat.rowsBytes
