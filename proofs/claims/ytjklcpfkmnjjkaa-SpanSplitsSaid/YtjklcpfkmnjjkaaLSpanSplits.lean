/- The law wardmotelaw7.SpanSplits: for every input the call returns true, and every argument reads behind the call as it read before. -/
import Derived.Test.YtjklcpfkmnjjkaaRows
import Derived.Test.YtjklcpfkmnjjkaaSpanLaw
import Derived.Test.YtjklcpfkmnjjkaaSpanRef
import Derived.ProofKit
import Derived.OpenShut
import Derived.ShutString
import Derived.Lib.SmallJoins
import Derived.Carry
namespace Go.Proofs.Ytjklcpfkmnjjkaa.spanSplits
open Go.ChangeShapes Go.WideShapes Go.ChangeAt Go.RowKit
open Go.ChangeMaps (open_string shut_string)
set_option linter.unusedVariables false
set_option linter.unusedSimpArgs false

theorem low_of {lo hi s : ByteArray} (h : sSplitB lo hi s = true) : Op.bytesLess lo.toList s.toList = true ∧ sRight lo hi = true ∧ sRight lo s = true ∧ (hi.toList.isEmpty || Op.bytesLess s.toList hi.toList) = true := by
  unfold sSplitB at h
  simp only [Bool.and_eq_true] at h
  exact ⟨h.2.1, h.1, h.2.2.2, h.2.2.1⟩
theorem right_parts {lo hi : ByteArray} : sRight lo hi = true ↔ (lo.size : Int) ≤ 16 ∧ (hi.size : Int) ≤ 16 ∧ (hi.toList.isEmpty || Op.bytesLess lo.toList hi.toList) = true := by
  unfold sRight; simp [Bool.and_eq_true, and_assoc]
theorem nonempty_of {a b : List UInt8} (h : Op.bytesLess a b = true) : b.isEmpty = false := by
  cases b with
  | nil => cases a <;> simp [Op.bytesLess] at h
  | cons x l => rfl
theorem rowS_size (n : Int) : ((rowS n).size : Int) ≤ 16 := by
  have h := rowS_mem n
  revert h; generalize rowS n = x; intro h
  simp [rowL] at h
  rcases h with h | h | h | h | h | h | h | h <;> subst h <;> decide
theorem split_ok (lo hi s : ByteArray) (hs : (s.size : Int) ≤ 16) : (sRight lo hi && (sHas lo hi s && Op.bytesLess lo.toList s.toList)) = sSplitB lo hi s := by
  unfold sSplitB sHas
  cases hR : sRight lo hi
  · rfl
  · cases hl : Op.bytesLess lo.toList s.toList
    · simp
    · rw [bl_asymm hl]
      have : sRight lo s = true := right_parts.2 ⟨(right_parts.1 hR).1, hs, by simp [hl]⟩
      rw [this]; simp
theorem right_hi {lo hi s : ByteArray} (h : sSplitB lo hi s = true) : sRight s hi = true := by
  obtain ⟨h1, h2, h3, h4⟩ := low_of h
  exact right_parts.2 ⟨(right_parts.1 h3).2.1, (right_parts.1 h2).2.1, h4⟩

set_option maxHeartbeats 4000000 in
theorem walk (a b c : Int) (name : ByteArray) (w : World) (w0 : (Lit.int .i64 a).wf = true) (w1 : (Lit.int .i64 b).wf = true) (w2 : (Lit.int .i64 c).wf = true) :
    Calls Try.prog 3 #[.int .i64 a, .int .i64 b, .int .i64 c, .string name] w fun e w' => e = .returned (.bool true) ∧ Below w.heap.size w w' := by
  obtain ⟨a1, a2⟩ := bounds_i64 w0
  obtain ⟨b1, b2⟩ := bounds_i64 w1
  obtain ⟨c1, c2⟩ := bounds_i64 w2
  clear w0 w1 w2
  have hat := rowS_size c
  go_enter Try.func3, Try.ntmps3
  go_wp2_with fail
  refine (made_any a b _ a1 a2 b1 b2).mono ?_
  rintro e w1 ⟨rfl, hb⟩; obtain ⟨hc, hf, hz⟩ := belowIf hb; (try simp only [World.size_alloc, World.size_setCell, World.size_drew] at hc hf hz); (have Hb := Lib.hid hb); (clear hb)
  go_wp2_with fail
  refine (row_any c _ c1 c2).mono ?_
  rintro e w2 ⟨rfl, hb⟩; obtain ⟨hc, hf, hz⟩ := belowIf hb; (try simp only [World.size_alloc, World.size_setCell, World.size_drew] at hc hf hz); (have Hb := Lib.hid hb); (clear hb)
  generalize mLo a = lo at *
  generalize mLo b = hi at *
  generalize rowS c = s at *
  have hok := split_ok lo hi s hat
  cases hB : sSplitB lo hi s
  · go_wp2_with fail
    (with_reducible refine (split_t lo hi s _).mono ?_); rintro e w3 ⟨rfl, hb⟩; obtain ⟨hc, hf, hz⟩ := belowIf hb; (try simp only [World.size_alloc, World.size_setCell, World.size_drew] at hc hf hz); (have Hb := Lib.hid hb); (clear hb)
    rw [hB] at hok ⊢
    cases hR : sRight lo hi <;> cases hH : sHas lo hi s
    all_goals
      rw [hR, hH] at hok
      simp only [Bool.false_and, Bool.true_and] at hok
      go_wp2_with fail
      (with_reducible refine (right_any lo hi _).mono ?_); rintro e w4 ⟨rfl, hb⟩; obtain ⟨hc, hf, hz⟩ := belowIf hb; (try simp only [World.size_alloc, World.size_setCell, World.size_drew] at hc hf hz); (have Hb := Lib.hid hb); (clear hb)
      rw [hR]
      go_wp2_with (first | ((with_reducible refine (has_any lo hi s _).mono ?_); rintro e w5 ⟨rfl, hb⟩; obtain ⟨hc, hf, hz⟩ := belowIf hb; (try simp only [World.size_alloc, World.size_setCell, World.size_drew] at hc hf hz); (have Hb := Lib.hid hb); (clear hb); rw [hH]) | ((with_reducible refine (known7_any _).mono ?_); rintro e w6 ⟨rfl, hb⟩; obtain ⟨hc, hf, hz⟩ := belowIf hb; (try simp only [World.size_alloc, World.size_setCell, World.size_drew] at hc hf hz); (have Hb := Lib.hid hb); (clear hb)))
      go_ret
      exact ⟨rfl, by (repeat (first | (with_reducible exact Below.refl _ _) | (with_reducible refine Below.drew ?_) | (with_reducible refine Below.setCell ?_ ?_ _) | (with_reducible refine Below.alloc ?_ ?_ _) | (with_reducible refine Below.trans ?_ (Below.mono (RowKit.Hid.out (by with_reducible assumption)) ?_)) | omega | (simp only [World.size_alloc, World.size_setCell, World.size_drew]; omega)))⟩
  · obtain ⟨l1, l2, l3, l4⟩ := low_of hB
    have l5 := right_hi hB
    have hE := nonempty_of l1
    have hL : sRight lo hi = true := l2
    rw [hB, l2, l1] at hok
    have hH : sHas lo hi s = true := by revert hok; cases sHas lo hi s <;> simp
    clear hok
    have hJ : sJoinB lo s s hi = true := by simp [sJoinB, l3, l5, hE]
    have hK : sJoinB s hi lo s = false := by
      unfold sJoinB
      rw [l5, l3]
      cases he : hi.toList.isEmpty
      · have : (hi.toList == lo.toList) = false := by
          rw [beq_eq_false_iff_ne]; intro e
          have := right_low l2
          rw [he, Bool.false_or, e, bl_irrefl] at this; cases this
        simp [this]
      · simp
    have hM1 : sMeet lo s s hi = false := by
      rw [sMeet_eq]; unfold rMeet; simp [hE, bl_irrefl]
    have hM2 : sMeet lo s lo hi = true := by
      rw [sMeet_eq]; unfold rMeet; rw [l3, l2, hE, l1, right_low l2]; simp
    have hM3 : sMeet s hi lo hi = true := by
      have := right_low l2
      rw [sMeet_eq]; unfold rMeet; rw [l5, l2, right_low l2]
      simp; simpa using l4
    have hN : (sHas lo s name || sHas s hi name) = sHas lo hi name := by
      unfold sHas
      rw [hE]
      cases h1 : Op.bytesLess name.toList s.toList
      · have h2 : Op.bytesLess name.toList lo.toList = false := by
          cases h3 : Op.bytesLess name.toList lo.toList
          · rfl
          · rw [bl_trans h3 l1] at h1; cases h1
        rw [h2]; simp
      · cases h2 : Op.bytesLess name.toList lo.toList
        · have : (hi.toList.isEmpty || Op.bytesLess name.toList hi.toList) = true := by
            cases he : hi.toList.isEmpty
            · rw [he, Bool.false_or] at l4; rw [Bool.false_or]; exact bl_trans h1 l4
            · rfl
          rw [this]; simp
        · simp
    have hN2 : (sHas lo s name && sHas s hi name) = false := by
      unfold sHas
      rw [hE]
      cases Op.bytesLess name.toList s.toList <;> simp
    clear l4 hE
    cases hX : sHas lo s name <;> cases hY : sHas s hi name
    all_goals
      rw [hX, hY] at hN hN2
      simp at hN hN2
      try (cases hN2)
    all_goals
      go_wp2_with fail
      (with_reducible refine (split_t lo hi s _).mono ?_); rintro e w3 ⟨rfl, hb⟩; obtain ⟨hc, hf, hz⟩ := belowIf hb; (try simp only [World.size_alloc, World.size_setCell, World.size_drew] at hc hf hz); (have Hb := Lib.hid hb); (clear hb)
      rw [hB]
      go_wp2_with fail
      (with_reducible refine (right_any lo hi _).mono ?_); rintro e w4 ⟨rfl, hb⟩; obtain ⟨hc, hf, hz⟩ := belowIf hb; (try simp only [World.size_alloc, World.size_setCell, World.size_drew] at hc hf hz); (have Hb := Lib.hid hb); (clear hb)
      go_wp2_with fail
      (with_reducible refine (has_any lo hi s _).mono ?_); rintro e w5 ⟨rfl, hb⟩; obtain ⟨hc, hf, hz⟩ := belowIf hb; (try simp only [World.size_alloc, World.size_setCell, World.size_drew] at hc hf hz); (have Hb := Lib.hid hb); (clear hb)
      go_wp2_with fail
      (with_reducible refine (join_t lo s s hi _).mono ?_); rintro e w6 ⟨rfl, hb⟩; obtain ⟨hc, hf, hz⟩ := belowIf hb; (try simp only [World.size_alloc, World.size_setCell, World.size_drew] at hc hf hz); (have Hb := Lib.hid hb); (clear hb)
      go_wp2_with fail
      (with_reducible refine (join_t s hi lo s _).mono ?_); rintro e w7 ⟨rfl, hb⟩; obtain ⟨hc, hf, hz⟩ := belowIf hb; (try simp only [World.size_alloc, World.size_setCell, World.size_drew] at hc hf hz); (have Hb := Lib.hid hb); (clear hb)
      go_wp2_with fail
      go_wp2_with (first | (go_at_call 15; refine (has_any _ _ _ _).mono ?_; rintro e w9 ⟨rfl, hb⟩; obtain ⟨hc, hf, hz⟩ := belowIf hb; (try simp only [World.size_alloc, World.size_setCell, World.size_drew] at hc hf hz); (have Hb := Lib.hid hb); (clear hb)) | (go_at_call 18; refine (meet_any _ _ _ _ _).mono ?_; rintro e w9 ⟨rfl, hb⟩; obtain ⟨hc, hf, hz⟩ := belowIf hb; (try simp only [World.size_alloc, World.size_setCell, World.size_drew] at hc hf hz); (have Hb := Lib.hid hb); (clear hb)) | (go_at_call 16; refine (known7_any _).mono ?_; rintro e w9 ⟨rfl, hb⟩; obtain ⟨hc, hf, hz⟩ := belowIf hb; (try simp only [World.size_alloc, World.size_setCell, World.size_drew] at hc hf hz); (have Hb := Lib.hid hb); (clear hb)))
      go_ret
      exact ⟨rfl, by (repeat (first | (with_reducible exact Below.refl _ _) | (with_reducible refine Below.drew ?_) | (with_reducible refine Below.setCell ?_ ?_ _) | (with_reducible refine Below.alloc ?_ ?_ _) | (with_reducible refine Below.trans ?_ (Below.mono (RowKit.Hid.out (by with_reducible assumption)) ?_)) | omega | (simp only [World.size_alloc, World.size_setCell, World.size_drew]; omega)))⟩

theorem own : ownKnob Try.prog.godebug = none := by kernel_rfl
theorem laidOut : laidOutB Try.prog = true := by kernel_rfl

set_option maxRecDepth 100000 in
theorem lifted (os : Os) (started : os.Started) (H : Type) (enc : TypeId × Value → H) :
    ReturnsInHanded {} Try.checked os 3 .any (Rows.spanSplitsSpec.pre6 enc Try.prog Try.f3 Rows.spanSplitsRow.domain false) (Rows.spanSplitsSpec.post enc Try.prog Try.f3 false true false false) := by
  refine returnsInHanded_of_change (C := Try.checked) own started (by kernel_rfl) Try.func3
    (ChangeSpec.witness6 (enc := enc) (C := Try.checked) false ⟨#[], #[.int .i64 0, .int .i64 0, .int .i64 0, .string ByteArray.empty], []⟩ 8 (by kernel_rfl) (by kernel_rfl) (by kernel_rfl) (by kernel_rfl)) ?_
  intro W base args ds gs before hval0 hW hcnd _
  have hval : ∀ (j : Nat) t v, (Try.f3).params[j]? = some t → args[j]? = some v → Value.okWide Try.prog W .any base t v := hval0
  have hW' := hW
  obtain ⟨p, q, hA0, hV, rfl, hfz, hnd⟩ := hW
  have hA : DataW.TrodAll enc Try.prog W 0 (fun _ => true) true (Try.f3).params.toList args.toList ds p := hA0
  rw [Try.params3] at hA hval
  obtain ⟨v0, vs0, d0, ds0, p0, q0, hargs, rfl, rfl, h0, r0⟩ := trodAll_cons hA
  obtain ⟨v1, vs1, d1, ds1, p1, q1, rfl, rfl, rfl, h1, r1⟩ := trodAll_cons r0
  obtain ⟨v2, vs2, d2, ds2, p2, q2, rfl, rfl, rfl, h2, r2⟩ := trodAll_cons r1
  obtain ⟨v3, vs3, d3, ds3, p3, q3, rfl, rfl, rfl, h3, r3⟩ := trodAll_cons r2
  obtain ⟨rfl, rfl, rfl⟩ := trodAll_nil r3
  obtain rfl : args = #[v0, v1, v2, v3] := by cases args; simp_all
  obtain ⟨rfl, rfl⟩ := trodVars_none hV
  have k0 := h0
  have lt0 : ∀ x ∈ p0, x.block < W.heap.size := by obtain ⟨m, hm⟩ := k0; exact DataW.trod_lt m _ _ _ hm
  obtain ⟨a, rfl, _, _, w0⟩ := open_int Try.underlying3 (hval 0 3 v0 rfl rfl) h0
  have k1 := h1
  have lt1 : ∀ x ∈ p1, x.block < W.heap.size := by obtain ⟨m, hm⟩ := k1; exact DataW.trod_lt m _ _ _ hm
  obtain ⟨b, rfl, _, _, w1⟩ := open_int Try.underlying3 (hval 1 3 v1 rfl rfl) h1
  have k2 := h2
  have lt2 : ∀ x ∈ p2, x.block < W.heap.size := by obtain ⟨m, hm⟩ := k2; exact DataW.trod_lt m _ _ _ hm
  obtain ⟨c, rfl, _, _, w2⟩ := open_int Try.underlying3 (hval 2 3 v2 rfl rfl) h2
  have k3 := h3
  have lt3 : ∀ x ∈ p3, x.block < W.heap.size := by obtain ⟨m, hm⟩ := k3; exact DataW.trod_lt m _ _ _ hm
  obtain ⟨name, rfl, _, _, w3⟩ := open_string Try.underlying9 (hval 3 9 v3 rfl rfl) h3
  clear hA0 hval0
  refine (walk a b c name W w0 w1 w2).mono fun e W' ⟨he, bel⟩ => ?_
  subst he
  exact ⟨_, rfl, _, _, _, [], _, [], hW', trodAll_mk1 (shut_bool Try.underlying4 _), (trodAll_cons_mk (Below.trod laidOut (by kernel_rfl) (of_decide_eq_true (by kernel_rfl)) k0 bel lt0) (trodAll_cons_mk (Below.trod laidOut (by kernel_rfl) (of_decide_eq_true (by kernel_rfl)) k1 bel lt1) (trodAll_cons_mk (Below.trod laidOut (by kernel_rfl) (of_decide_eq_true (by kernel_rfl)) k2 bel lt2) (trodAll_cons_mk (Below.trod laidOut (by kernel_rfl) (of_decide_eq_true (by kernel_rfl)) k3 bel lt3) trodAll_mk0)))), rfl, bel.frame _, fun h => by cases h⟩

theorem over : Rows.spanSplitsRow.holds Try.pinned (OpenSpec.ofChange Rows.spanSplitsSpec) :=
  OpenClaim.holds_of_wide 3 Try.f3 rfl rfl rfl rfl rfl rfl rfl ⟨rfl, rfl, rfl, rfl, rfl⟩ rfl rfl rfl rfl rfl (by kernel_rfl) Try.func3 (by kernel_rfl)
    (of_decide_eq_true (by kernel_rfl)) (by unfold Func.isWrapper; first | (rw [if_pos (by decide +kernel)]; kernel_rfl) | (rw [if_neg (by decide +kernel)]; exact ⟨rfl, rfl⟩))
    (fun os started H enc _ => lifted os started H enc)

/-- THE STATEMENT -/
theorem proved : Rows.SpanSplitsSaid := over
#print axioms proved
end Go.Proofs.Ytjklcpfkmnjjkaa.spanSplits
