/- The law wardmotelaw7.SpanTells: for every input the call returns true, and every argument reads behind the call as it read before. -/
import Derived.Test.YtjklcpfkmnjjkaaRows
import Derived.Test.YtjklcpfkmnjjkaaSpT
import Derived.Test.YtjklcpfkmnjjkaaSpO
import Derived.ProofKit
import Derived.OpenShut
import Derived.ShutString
import Derived.Lib.SmallJoins
import Derived.Carry
namespace Go.Proofs.Ytjklcpfkmnjjkaa.spanTells
open Go.ChangeShapes Go.WideShapes Go.ChangeAt Go.RowKit
open Go.ChangeMaps (open_string shut_string)
set_option linter.unusedVariables false
set_option linter.unusedSimpArgs false

open Go.Am
theorem walk (w : World) (alo ahi blo bhi s : ByteArray) (l : List Int) (hl : ∀ n ∈ l, IntOk n) (h : l.length ≤ 9223372036854775807) (v : Value) (hs : SimD (cellsX w) (.list (l.map irow) .free) v) :
    Calls Try.prog 5 #[.agg #[.string alo, .string ahi], .agg #[.string blo, .string bhi], .string s, v] w fun e w' => e = .returned (.bool true) ∧ Below w.heap.size w w' :=
  (tells_c (alo, ahi) (blo, bhi) s l hl h).walk ⟨Try.func5, rfl, by kernel_rfl⟩ rfl fun i a ha => by
    match i with
    | 0 => simp at ha; subst ha; exact spv_sim _ (alo, ahi)
    | 1 => simp at ha; subst ha; exact spv_sim _ (blo, bhi)
    | 2 => simp at ha; subst ha; exact .data _ _ (.v _)
    | 3 => simp at ha; subst ha; exact .data _ _ hs
    | i + 4 => simp at ha

theorem own : ownKnob Try.prog.godebug = none := by kernel_rfl
theorem laidOut : laidOutB Try.prog = true := by kernel_rfl

set_option maxRecDepth 100000 in
theorem lifted (os : Os) (started : os.Started) (H : Type) (enc : TypeId × Value → H) :
    ReturnsInHanded {} Try.checked os 5 .any (Rows.spanTellsSpec.pre6 enc Try.prog Try.f5 Rows.spanTellsRow.domain false) (Rows.spanTellsSpec.post enc Try.prog Try.f5 false true false false) := by
  refine returnsInHanded_of_change (C := Try.checked) own started (by kernel_rfl) Try.func5
    (ChangeSpec.witness6 (enc := enc) (C := Try.checked) false ⟨#[], #[.agg #[.string ByteArray.empty, .string ByteArray.empty], .agg #[.string ByteArray.empty, .string ByteArray.empty], .string ByteArray.empty, .slice none 0 0], []⟩ 8 (by kernel_rfl) (by kernel_rfl) (by kernel_rfl) (by kernel_rfl)) ?_
  intro W base args ds gs before hval0 hW hcnd _
  have hval : ∀ (j : Nat) t v, (Try.f5).params[j]? = some t → args[j]? = some v → Value.okWide Try.prog W .any base t v := hval0
  have hW' := hW
  obtain ⟨p, q, hA0, hV, rfl, hfz, hnd⟩ := hW
  have hA : DataW.TrodAll enc Try.prog W 0 (fun _ => true) true (Try.f5).params.toList args.toList ds p := hA0
  rw [Try.params5] at hA hval
  obtain ⟨v0, vs0, d0, ds0, p0, q0, hargs, rfl, rfl, h0, r0⟩ := trodAll_cons hA
  obtain ⟨v1, vs1, d1, ds1, p1, q1, rfl, rfl, rfl, h1, r1⟩ := trodAll_cons r0
  obtain ⟨v2, vs2, d2, ds2, p2, q2, rfl, rfl, rfl, h2, r2⟩ := trodAll_cons r1
  obtain ⟨v3, vs3, d3, ds3, p3, q3, rfl, rfl, rfl, h3, r3⟩ := trodAll_cons r2
  obtain ⟨rfl, rfl, rfl⟩ := trodAll_nil r3
  obtain rfl : args = #[v0, v1, v2, v3] := by cases args; simp_all
  obtain ⟨rfl, rfl⟩ := trodVars_none hV
  have k0 := h0
  have lt0 : ∀ x ∈ p0, x.block < W.heap.size := by obtain ⟨m, hm⟩ := k0; exact DataW.trod_lt m _ _ _ hm
  obtain ⟨aloc0, aloc1, aloy0, aloy1, _, rfl, _, _, alohy0, alohy1⟩ := Joins.open_agg2 Try.underlying23 (by kernel_rfl) (by kernel_rfl : Try.prog.cellsOf 23 = 2) (hval 0 23 v0 rfl rfl) h0
  obtain ⟨alo, aloe, _, w00⟩ := DataW.trod_string Try.underlying9 alohy0
  obtain rfl : aloc0 = .string alo := by simpa using aloe
  obtain ⟨ahi, ahie, _, w01⟩ := DataW.trod_string Try.underlying9 alohy1
  obtain rfl : aloc1 = .string ahi := by simpa using ahie
  have k1 := h1
  have lt1 : ∀ x ∈ p1, x.block < W.heap.size := by obtain ⟨m, hm⟩ := k1; exact DataW.trod_lt m _ _ _ hm
  obtain ⟨bloc0, bloc1, bloy0, bloy1, _, rfl, _, _, blohy0, blohy1⟩ := Joins.open_agg2 Try.underlying23 (by kernel_rfl) (by kernel_rfl : Try.prog.cellsOf 23 = 2) (hval 1 23 v1 rfl rfl) h1
  obtain ⟨blo, bloe, _, w10⟩ := DataW.trod_string Try.underlying9 blohy0
  obtain rfl : bloc0 = .string blo := by simpa using bloe
  obtain ⟨bhi, bhie, _, w11⟩ := DataW.trod_string Try.underlying9 blohy1
  obtain rfl : bloc1 = .string bhi := by simpa using bhie
  have k2 := h2
  have lt2 : ∀ x ∈ p2, x.block < W.heap.size := by obtain ⟨m, hm⟩ := k2; exact DataW.trod_lt m _ _ _ hm
  obtain ⟨s, rfl, _, _, w2⟩ := open_string Try.underlying9 (hval 2 9 v2 rfl rfl) h2
  have k3 := h3
  have lt3 : ∀ x ∈ p3, x.block < W.heap.size := by obtain ⟨m, hm⟩ := k3; exact DataW.trod_lt m _ _ _ hm
  obtain ⟨sa3, sl3, sc3, rfl⟩ := WideShapes.okWide_slice Try.underlying40 (hval 3 40 v3 rfl rfl)
  obtain ⟨a3, ⟨l3, hl3, hn3, ha3⟩, hs3⟩ := opnInts.arg h3 rfl
  obtain rfl : a3 = .list (l3.map irow) .free := by simpa using ha3
  clear hA0 hval0
  refine (walk W alo ahi blo bhi s l3 hl3 hn3 _ hs3).mono fun e W' ⟨he, bel⟩ => ?_
  subst he
  exact ⟨_, rfl, _, _, _, [], _, [], hW', trodAll_mk1 (shut_bool Try.underlying4 _), (trodAll_cons_mk (Below.trod laidOut (by kernel_rfl) (of_decide_eq_true (by kernel_rfl)) k0 bel lt0) (trodAll_cons_mk (Below.trod laidOut (by kernel_rfl) (of_decide_eq_true (by kernel_rfl)) k1 bel lt1) (trodAll_cons_mk (Below.trod laidOut (by kernel_rfl) (of_decide_eq_true (by kernel_rfl)) k2 bel lt2) (trodAll_cons_mk (Below.trod laidOut (by kernel_rfl) (of_decide_eq_true (by kernel_rfl)) k3 bel lt3) trodAll_mk0)))), rfl, bel.frame _, fun h => by cases h⟩

theorem over : Rows.spanTellsRow.holds Try.pinned (OpenSpec.ofChange Rows.spanTellsSpec) :=
  OpenClaim.holds_of_wide 5 Try.f5 rfl rfl rfl rfl rfl rfl rfl ⟨rfl, rfl, rfl, rfl, rfl⟩ rfl rfl rfl rfl rfl (by kernel_rfl) Try.func5 (by kernel_rfl)
    (of_decide_eq_true (by kernel_rfl)) (by unfold Func.isWrapper; first | (rw [if_pos (by decide +kernel)]; kernel_rfl) | (rw [if_neg (by decide +kernel)]; exact ⟨rfl, rfl⟩))
    (fun os started H enc _ => lifted os started H enc)

/-- THE STATEMENT -/
theorem proved : Rows.SpanTellsSaid := over
#print axioms proved
end Go.Proofs.Ytjklcpfkmnjjkaa.spanTells
