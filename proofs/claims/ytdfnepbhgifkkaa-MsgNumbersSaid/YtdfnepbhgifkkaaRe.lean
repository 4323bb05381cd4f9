/- The document's reader, told as a parser. -/
import Derived.Test.YtdfnepbhgifkkaaRd
import Derived.Test.YtdfnepbhgifkkaaMc
namespace Go.Proofs.Ytdfnepbhgifkkaa
open Go.Am
set_option linter.unusedSimpArgs false
set_option linter.unusedVariables false
set_option maxRecDepth 100000
abbrev dR (p : List UInt8 → Option (Nat × List UInt8)) (M : Nat) (K : IntKind) (l : List UInt8) (bad : Bool) (out : AOut) (H' : Heap) : Prop :=
  ∃ x l' bad', x < M ∧ l'.length ≤ l.length ∧ (bad' = false → bad = false ∧ p l = some (x, l')) ∧ (bad' = true → l' = [] ∧ (bad = false → p l = none)) ∧ out = .ret (.v (.int K (x : Nat))) ∧ H' = rr l' bad'
theorem ubn_lt1 {l : List UInt8} (h : l.length = 1) : ubn l 0 < 256 := by
  have := ubn_take l 1
  rwa [List.take_of_length_le (by omega)] at this
theorem ubn_lt4 {l : List UInt8} (h : l.length = 4) : ubn l 0 < 4294967296 := by
  have := ubn_take l 4
  rwa [List.take_of_length_le (by omega)] at this
theorem rd_facts (n : Nat) (l : List UInt8) (bad : Bool) : (rLeft n l bad).length ≤ l.length ∧ (rBad n l bad = false → bad = false ∧ n ≤ l.length ∧ rSome n l bad = l.take n ∧ rLeft n l bad = l.drop n) ∧ (rBad n l bad = true → rLeft n l bad = [] ∧ (bad = false → ¬ n ≤ l.length)) := by
  refine ⟨rLeft_len n l bad, fun h => ?_, fun h => ?_⟩
  · unfold rBad at h
    have h' : bad = false ∧ n ≤ l.length := by simpa using h
    exact ⟨h'.1, h'.2, by unfold rSome; rw [if_pos h'], by unfold rLeft; rw [if_pos h']⟩
  · unfold rBad at h
    have h' : ¬ (bad = false ∧ n ≤ l.length) := fun hh => by rw [decide_eq_true hh] at h; cases h
    exact ⟨by unfold rLeft; rw [if_neg h'], fun hb hn => h' ⟨hb, hn⟩⟩
theorem dB_c (l : List UInt8) (bad : Bool) (h : l.length < 70368744177664) : ACalls Try.prog 93 1 4 [.ptr 0 0] (rr l bad) (dR pB 256 .u8 l bad) :=
  (refByte_c l bad h).mono fun out H' ⟨h1, h2⟩ => by
    obtain ⟨f1, f2, f3⟩ := rd_facts 1 l bad
    refine ⟨_, _, _, ubn_lt1 (rSome_len 1 l bad (by decide)), f1, fun hb => ?_, fun hb => ?_, h1, h2⟩
    · obtain ⟨g1, g2, g3, g4⟩ := f2 hb
      exact ⟨g1, by unfold pB; rw [if_pos g2, g3, g4]⟩
    · obtain ⟨g1, g2⟩ := f3 hb
      exact ⟨g1, fun hb => by unfold pB; rw [if_neg (g2 hb)]⟩
theorem dN_c (l : List UInt8) (bad : Bool) (h : l.length < 70368744177664) : ACalls Try.prog 94 1 4 [.ptr 0 0] (rr l bad) (dR pN 4294967296 .u32 l bad) :=
  (refRNum_c l bad h).mono fun out H' ⟨h1, h2⟩ => by
    obtain ⟨f1, f2, f3⟩ := rd_facts 4 l bad
    refine ⟨_, _, _, ubn_lt4 (rSome_len 4 l bad (by decide)), f1, fun hb => ?_, fun hb => ?_, h1, h2⟩
    · obtain ⟨g1, g2, g3, g4⟩ := f2 hb
      exact ⟨g1, by unfold pN; rw [if_pos g2, g3, g4]⟩
    · obtain ⟨g1, g2⟩ := f3 hb
      exact ⟨g1, fun hb => by unfold pN; rw [if_neg (g2 hb)]⟩
theorem refRTextBad_c (l : List UInt8) (most : Int) (h : l.length < 70368744177664) : ACalls Try.prog 95 1 8 [.ptr 0 0, .v (.int .i64 most)] (rr l true) (fun out H' => (∃ x, out = .ret (.list x .free)) ∧ H' = rr [] true) := by
  have hC := refRNum_c l true h
  obtain ⟨e1, e2⟩ := @bad_no 4 l
  rw [e1, e2] at hC
  refine acalls_of tok dok (f := 95) ⟨Try.func95, rfl, by kernel_rfl⟩ ?_; refine c_start (fun _ h => h) ?_
  refine awd ?_
  refine cal [0] (hC) ?_ ?_
  · refine ret1 ?_; first | (refine akc ?_) | (refine aec ?_)
    repeat' (first | (refine awd1 ?_) | (((with_reducible refine is_aops ?_); refine o_split rfl rfl rfl (fun hc => ?_) (fun hc => ?_) <;> first | (exfalso; (simp only [decide_eq_true_eq, decide_eq_false_iff_not, beq_iff_eq, beq_eq_false_iff_ne, bne_iff_ne, bne_eq_false_iff_eq, List.length_map, Int.not_lt, Int.not_le] at hc); omega) | rw [hc])) | (((with_reducible refine is_cond ?_); refine c_cond rfl (fun hc => ?_) (fun hc => ?_) <;> first | (exfalso; (simp only [decide_eq_true_eq, decide_eq_false_iff_not, beq_iff_eq, beq_eq_false_iff_ne, bne_iff_ne, bne_eq_false_iff_eq, List.length_map, Int.not_lt, Int.not_le] at hc); omega) | skip)) | (((with_reducible refine is_aop ?_); refine a_pick rfl rfl (fun hc => ?_) (fun hc => ?_) <;> first | (exfalso; (simp only [decide_eq_true_eq, decide_eq_false_iff_not, beq_iff_eq, beq_eq_false_iff_ne, bne_iff_ne, bne_eq_false_iff_eq, List.length_map, Int.not_lt, Int.not_le] at hc); omega) | rw [hc])) | ((with_reducible refine ret1 ?_); first | (refine akc ?_) | (refine aec ?_)) | (with_reducible exact retN) | (with_reducible exact retP) | (refine cal [0] (refFail_c [] true) ?_ ?_) | fail)
    all_goals exact e_ret_to (H' := rr [] true) (rest := []) (.freeSlot 4 rfl) rfl ⟨⟨_, rfl⟩, rfl⟩ (.of_eq rfl) (Nat.le_of_ble_eq_true rfl)
  · first | (exact retN) | (exact retP)
/-- a text: read, or all is bad from here on -/
abbrev dTR (l : List UInt8) (bad : Bool) (out : AOut) (H' : Heap) : Prop :=
  (∃ x l', bad = false ∧ pT l = some (x, l') ∧ l'.length ≤ l.length ∧ out = .ret (.list (x.map brow) .free) ∧ H' = rr l' false) ∨ ((bad = false → pT l = none) ∧ (∃ x, out = .ret (.list x .free)) ∧ H' = rr [] true)
theorem dT_c (l : List UInt8) (bad : Bool) (h : l.length < 70368744177664) : ACalls Try.prog 95 1 8 [.ptr 0 0, .v (.int .i64 (-1))] (rr l bad) (dTR l bad) := by
  cases bad with
  | false =>
    refine (refRText_c l (-1) h).mono fun out H' hh => ?_
    have hiff : tOk l (-1) ↔ tOk l 1048576 := by unfold tOk; omega
    rcases hh with ⟨h1, h2, h3⟩ | ⟨h1, h2, h3⟩
    · refine .inl ⟨_, _, rfl, ?_, ?_, h2, h3⟩
      · unfold pT; rw [if_pos (hiff.1 h1)]
      · rw [List.length_drop, List.length_drop]; omega
    · exact .inr ⟨fun _ => by unfold pT; rw [if_neg (fun h => h1 (hiff.2 h))], h2, h3⟩
  | true => exact (refRTextBad_c l (-1) h).mono fun out H' ⟨h1, h2⟩ => .inr ⟨fun h => (by cases h), h1, h2⟩
end Go.Proofs.Ytdfnepbhgifkkaa
