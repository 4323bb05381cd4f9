/- The law wardmotelaw2.OctetTells: for every input the call returns true, and every argument reads behind the call as it read before. -/
import Derived.Test.YtjklcpfkmnjjkaaRows
import Derived.Test.YtjklcpfkmnjjkaaOcM
import Derived.Test.YtjklcpfkmnjjkaaOcH
import Derived.ProofKit
import Derived.OpenShut
import Derived.ShutString
import Derived.Lib.SmallJoins
import Derived.Carry
namespace Go.Proofs.Ytjklcpfkmnjjkaa.octetTells
open Go.ChangeShapes Go.WideShapes Go.ChangeAt Go.RowKit
open Go.ChangeMaps (open_string shut_string)
set_option linter.unusedVariables false
set_option linter.unusedSimpArgs false

open Go.Am
theorem walk (w : World) (l m : List Ask) (b : List UInt8) (at' tu : Int) (hl : ∀ a ∈ l, AskOk a) (h : l.length ≤ 9223372036854775807) (hm : m.length ≤ 9223372036854775807) (wa : (Lit.int .i64 at').wf = true) (wt : (Lit.int .u8 tu).wf = true) (v0 v1 v2 : Value) (hs0 : SimD (cellsX w) (.list (l.map arow) .free) v0) (hs1 : SimD (cellsX w) (.list (m.map arow) .free) v1) (hs2 : SimD (cellsX w) (.list (b.map brow) .free) v2) :
    Calls Try.prog 8 #[v0, v1, v2, .int .i64 at', .int .u8 tu] w fun e w' => e = .returned (.bool true) ∧ Below w.heap.size w w' := by
  simp only [Lit.wf, Bool.and_eq_true, decide_eq_true_eq] at wa wt
  obtain ⟨a1, a2⟩ := wa
  obtain ⟨t1, t2⟩ := wt
  have t1' : 0 ≤ tu := t1
  have t2' : tu ≤ 255 := t2
  have a1' : -9223372036854775808 ≤ at' := a1
  have a2' : at' ≤ 9223372036854775807 := a2
  have e : ((UInt8.ofNat tu.toNat).toNat : Int) = tu := by
    rw [UInt8.toNat_ofNat_of_lt' (by show tu.toNat < 256; omega)]; omega
  have hh := octells_c l m b at' (UInt8.ofNat tu.toNat) hl h hm a1' a2'
  rw [e] at hh
  exact hh.walk ⟨Try.func8, rfl, by kernel_rfl⟩ rfl fun i a ha => by
    match i with
    | 0 => simp at ha; subst ha; exact .data _ _ hs0
    | 1 => simp at ha; subst ha; exact .data _ _ hs1
    | 2 => simp at ha; subst ha; exact .data _ _ hs2
    | 3 => simp at ha; subst ha; exact .data _ _ (.v _)
    | 4 => simp at ha; subst ha; exact .data _ _ (.v _)
    | i + 5 => simp at ha

theorem own : ownKnob Try.prog.godebug = none := by kernel_rfl
theorem laidOut : laidOutB Try.prog = true := by kernel_rfl

set_option maxRecDepth 100000 in
theorem lifted (os : Os) (started : os.Started) (H : Type) (enc : TypeId × Value → H) :
    ReturnsInHanded {} Try.checked os 8 .any (Rows.octetTellsSpec.pre6 enc Try.prog Try.f8 Rows.octetTellsRow.domain false) (Rows.octetTellsSpec.post enc Try.prog Try.f8 false true false false) := by
  refine returnsInHanded_of_change (C := Try.checked) own started (by kernel_rfl) Try.func8
    (ChangeSpec.witness6 (enc := enc) (C := Try.checked) false ⟨#[], #[.slice none 0 0, .slice none 0 0, .slice none 0 0, .int .i64 0, .int .u8 0], []⟩ 8 (by kernel_rfl) (by kernel_rfl) (by kernel_rfl) (by kernel_rfl)) ?_
  intro W base args ds gs before hval0 hW hcnd _
  have hval : ∀ (j : Nat) t v, (Try.f8).params[j]? = some t → args[j]? = some v → Value.okWide Try.prog W .any base t v := hval0
  have hW' := hW
  obtain ⟨p, q, hA0, hV, rfl, hfz, hnd⟩ := hW
  have hA : DataW.TrodAll enc Try.prog W 0 (fun _ => true) true (Try.f8).params.toList args.toList ds p := hA0
  rw [Try.params8] at hA hval
  obtain ⟨v0, vs0, d0, ds0, p0, q0, hargs, rfl, rfl, h0, r0⟩ := trodAll_cons hA
  obtain ⟨v1, vs1, d1, ds1, p1, q1, rfl, rfl, rfl, h1, r1⟩ := trodAll_cons r0
  obtain ⟨v2, vs2, d2, ds2, p2, q2, rfl, rfl, rfl, h2, r2⟩ := trodAll_cons r1
  obtain ⟨v3, vs3, d3, ds3, p3, q3, rfl, rfl, rfl, h3, r3⟩ := trodAll_cons r2
  obtain ⟨v4, vs4, d4, ds4, p4, q4, rfl, rfl, rfl, h4, r4⟩ := trodAll_cons r3
  obtain ⟨rfl, rfl, rfl⟩ := trodAll_nil r4
  obtain rfl : args = #[v0, v1, v2, v3, v4] := by cases args; simp_all
  obtain ⟨rfl, rfl⟩ := trodVars_none hV
  have k0 := h0
  have lt0 : ∀ x ∈ p0, x.block < W.heap.size := by obtain ⟨m, hm⟩ := k0; exact DataW.trod_lt m _ _ _ hm
  obtain ⟨sa0, sl0, sc0, rfl⟩ := WideShapes.okWide_slice Try.underlying51 (hval 0 51 v0 rfl rfl)
  obtain ⟨a0, ⟨l0, hl0, hn0, ha0⟩, hs0⟩ := opnAsks.arg h0 rfl
  obtain rfl : a0 = .list (l0.map arow) .free := by simpa using ha0
  have k1 := h1
  have lt1 : ∀ x ∈ p1, x.block < W.heap.size := by obtain ⟨m, hm⟩ := k1; exact DataW.trod_lt m _ _ _ hm
  obtain ⟨sa1, sl1, sc1, rfl⟩ := WideShapes.okWide_slice Try.underlying51 (hval 1 51 v1 rfl rfl)
  obtain ⟨a1, ⟨l1, hl1, hn1, ha1⟩, hs1⟩ := opnAsks.arg h1 rfl
  obtain rfl : a1 = .list (l1.map arow) .free := by simpa using ha1
  have k2 := h2
  have lt2 : ∀ x ∈ p2, x.block < W.heap.size := by obtain ⟨m, hm⟩ := k2; exact DataW.trod_lt m _ _ _ hm
  obtain ⟨sa2, sl2, sc2, rfl⟩ := WideShapes.okWide_slice Try.underlying48 (hval 2 48 v2 rfl rfl)
  obtain ⟨a2, ⟨l2, ha2, hn2⟩, hs2⟩ := opnBytes.arg h2 rfl
  obtain rfl : a2 = .list (l2.map brow) .free := by simpa using ha2
  have k3 := h3
  have lt3 : ∀ x ∈ p3, x.block < W.heap.size := by obtain ⟨m, hm⟩ := k3; exact DataW.trod_lt m _ _ _ hm
  obtain ⟨at', rfl, _, _, w3⟩ := open_int Try.underlying3 (hval 3 3 v3 rfl rfl) h3
  have k4 := h4
  have lt4 : ∀ x ∈ p4, x.block < W.heap.size := by obtain ⟨m, hm⟩ := k4; exact DataW.trod_lt m _ _ _ hm
  obtain ⟨tu, rfl, _, _, w4⟩ := open_int Try.underlying5 (hval 4 5 v4 rfl rfl) h4
  clear hA0 hval0
  refine (walk W l0 l1 l2 at' tu hl0 hn0 hn1 w3 w4 _ _ _ hs0 hs1 hs2).mono fun e W' ⟨he, bel⟩ => ?_
  subst he
  exact ⟨_, rfl, _, _, _, [], _, [], hW', trodAll_mk1 (shut_bool Try.underlying4 _), (trodAll_cons_mk (Below.trod laidOut (by kernel_rfl) (of_decide_eq_true (by kernel_rfl)) k0 bel lt0) (trodAll_cons_mk (Below.trod laidOut (by kernel_rfl) (of_decide_eq_true (by kernel_rfl)) k1 bel lt1) (trodAll_cons_mk (Below.trod laidOut (by kernel_rfl) (of_decide_eq_true (by kernel_rfl)) k2 bel lt2) (trodAll_cons_mk (Below.trod laidOut (by kernel_rfl) (of_decide_eq_true (by kernel_rfl)) k3 bel lt3) (trodAll_cons_mk (Below.trod laidOut (by kernel_rfl) (of_decide_eq_true (by kernel_rfl)) k4 bel lt4) trodAll_mk0))))), rfl, bel.frame _, fun h => by cases h⟩

theorem over : Rows.octetTellsRow.holds Try.pinned (OpenSpec.ofChange Rows.octetTellsSpec) :=
  OpenClaim.holds_of_wide 8 Try.f8 rfl rfl rfl rfl rfl rfl rfl ⟨rfl, rfl, rfl, rfl, rfl⟩ rfl rfl rfl rfl rfl (by kernel_rfl) Try.func8 (by kernel_rfl)
    (of_decide_eq_true (by kernel_rfl)) (by unfold Func.isWrapper; first | (rw [if_pos (by decide +kernel)]; kernel_rfl) | (rw [if_neg (by decide +kernel)]; exact ⟨rfl, rfl⟩))
    (fun os started H enc _ => lifted os started H enc)

/-- THE STATEMENT -/
theorem proved : Rows.OctetTellsSaid := over
#print axioms proved
end Go.Proofs.Ytjklcpfkmnjjkaa.octetTells
