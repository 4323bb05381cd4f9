/- Contracts of the helpers of the laws on spans. -/
import Derived.Test.YtjklcpfkmnjjkaaSpanList
import Derived.Test.YtjklcpfkmnjjkaaKeep
namespace Go.Proofs.Ytjklcpfkmnjjkaa
open Go.RowKit
set_option linter.unusedSimpArgs false
set_option linter.unusedVariables false

def mLo (a : Int) : ByteArray := if a.tmod 5 = 0 then ⟨#[]⟩ else rowS a
theorem made_any (a b : Int) (w : World) (ha1 : -9223372036854775808 ≤ a) (ha2 : a ≤ 9223372036854775807) (hb1 : -9223372036854775808 ≤ b) (hb2 : b ≤ 9223372036854775807) :
    Calls Try.prog 11 #[.int .i64 a, .int .i64 b] w fun e w' => e = .returned (.agg #[.string (mLo a), .string (mLo b)]) ∧ Below w.heap.size w w' := by
  go_enter Try.func11, Try.ntmps11
  go_wp2_with fail
  refine (row_any a _ ha1 ha2).mono ?_
  rintro e w1 ⟨rfl, hb⟩; obtain ⟨hc, hf, hz⟩ := belowIf hb; (try simp only [World.size_alloc, World.size_setCell, World.size_drew] at hc hf hz); (have Hb := Lib.hid hb); (clear hb)
  go_wp2_with fail
  refine (row_any b _ hb1 hb2).mono ?_
  rintro e w2 ⟨rfl, hb⟩; obtain ⟨hc, hf, hz⟩ := belowIf hb; (try simp only [World.size_alloc, World.size_setCell, World.size_drew] at hc hf hz); (have Hb := Lib.hid hb); (clear hb)
  by_cases h1 : a.tmod 5 = 0 <;> by_cases h2 : b.tmod 5 = 0
  all_goals go_wp2
  all_goals (refine bodyPost_ret (by simp [results, Try.results11, go_sem, ↓IntWalk.iteOmega, *]; try rfl) rfl ?_)
  all_goals refine ⟨?_, by (repeat (first | (with_reducible exact Below.refl _ _) | (with_reducible refine Below.drew ?_) | (with_reducible refine Below.setCell ?_ ?_ _) | (with_reducible refine Below.alloc ?_ ?_ _) | (with_reducible refine Below.trans ?_ (Below.mono (RowKit.Hid.out (by with_reducible assumption)) ?_)) | omega | (simp only [World.size_alloc, World.size_setCell, World.size_drew]; omega)))⟩
  all_goals simp [mLo, h1, h2]

theorem spAt_lit (w : World) (t : TypeId) (sp : List (ByteArray × ByteArray)) : SpAt (w.alloc (.cells (sp.flatMap fun p => [Value.string p.1, Value.string p.2]).toArray t)) w.heap.size 0 sp := by
  intro i p hp
  have key : ∀ (l : List (ByteArray × ByteArray)) (i : Nat), l[i]? = some p → (l.flatMap fun p => [Value.string p.1, Value.string p.2])[i * 2]? = some (.string p.1) ∧ (l.flatMap fun p => [Value.string p.1, Value.string p.2])[i * 2 + 1]? = some (.string p.2) := by
    intro l
    induction l with
    | nil => intro i h; simp at h
    | cons x l ih =>
      intro i h
      cases i with
      | zero => simp at h; subst h; simp
      | succ j =>
        have := ih j (by simpa using h)
        simp only [List.flatMap_cons, Nat.succ_mul]
        exact ⟨by simpa using this.1, by simpa using this.2⟩
  have := key sp i hp
  refine ⟨?_, ?_⟩
  · rw [World.cell?_alloc_new]; simpa using this.1
  · rw [World.cell?_alloc_new]; simpa using this.2

theorem spAt_two {w : World} {b : Nat} {p q : ByteArray × ByteArray} (h0 : w.cell? ⟨b, 0, none⟩ = some (.string p.1)) (h1 : w.cell? ⟨b, 1, none⟩ = some (.string p.2)) (h2 : w.cell? ⟨b, 2, none⟩ = some (.string q.1)) (h3 : w.cell? ⟨b, 3, none⟩ = some (.string q.2)) : SpAt w b 0 [p, q] := by
  intro i x hx
  match i, hx with
  | 0, hx => simp at hx; subst hx; exact ⟨h0, h1⟩
  | 1, hx => simp at hx; subst hx; exact ⟨h2, h3⟩
  | j + 2, hx => simp at hx
theorem spAt_three {w : World} {b : Nat} {p q r : ByteArray × ByteArray} (h0 : w.cell? ⟨b, 0, none⟩ = some (.string p.1)) (h1 : w.cell? ⟨b, 1, none⟩ = some (.string p.2)) (h2 : w.cell? ⟨b, 2, none⟩ = some (.string q.1)) (h3 : w.cell? ⟨b, 3, none⟩ = some (.string q.2)) (h4 : w.cell? ⟨b, 4, none⟩ = some (.string r.1)) (h5 : w.cell? ⟨b, 5, none⟩ = some (.string r.2)) : SpAt w b 0 [p, q, r] := by
  intro i x hx
  match i, hx with
  | 0, hx => simp at hx; subst hx; exact ⟨h0, h1⟩
  | 1, hx => simp at hx; subst hx; exact ⟨h2, h3⟩
  | 2, hx => simp at hx; subst hx; exact ⟨h4, h5⟩
  | j + 3, hx => simp at hx

set_option maxHeartbeats 1000000 in
theorem known7_any (w : World) :
    Calls Try.prog 16 #[] w fun e w' => e = .returned (.bool true) ∧ Below w.heap.size w w' := by
  have e1 : sSplitB ⟨#[97]⟩ ⟨#[99]⟩ ⟨#[97]⟩ = false := by simp [sSplitB, sRight, Lib.toList_data, Op.bytesLess]
  have e2 : sCover [(⟨#[]⟩, ⟨#[109]⟩), (⟨#[109]⟩, ⟨#[]⟩)] = true := by
    simp [sCover, cvOk, spD, sRight, Lib.toList_data, Op.bytesLess, List.range_succ]
    decide
  have e3 : sHas ⟨#[97]⟩ ⟨#[]⟩ ⟨#[122, 122]⟩ = true := by simp [sHas, Lib.toList_data, Op.bytesLess]
  go_enter Try.func16, Try.ntmps16
  go_wp2_with fail
  refine (split_t _ _ _ _).mono ?_
  rintro e w1 ⟨rfl, hb⟩; obtain ⟨hc, hf, hz⟩ := belowIf hb; (try simp only [World.size_alloc, World.size_setCell, World.size_drew] at hc hf hz); (have Hb := Lib.hid hb); (clear hb)
  rw [e1]
  go_wp2_with fail
  refine (cover_some _ 0 2 [(⟨#[]⟩, ⟨#[109]⟩), (⟨#[109]⟩, ⟨#[]⟩)] _ (by simp) (by simp) (by simp) (spAt_two (by simp [go_sem]) (by simp [go_sem]) (by simp [go_sem]) (by simp [go_sem]))).mono ?_
  rintro e w2 ⟨rfl, hb⟩; obtain ⟨hc, hf, hz⟩ := belowIf hb; (try simp only [World.size_alloc, World.size_setCell, World.size_drew] at hc hf hz); (have Hb := Lib.hid hb); (clear hb)
  rw [e2]
  go_wp2_with fail
  refine (cover_nil _ _ _).mono ?_
  rintro e w3 ⟨rfl, hb⟩; obtain ⟨hc, hf, hz⟩ := belowIf hb; (try simp only [World.size_alloc, World.size_setCell, World.size_drew] at hc hf hz); (have Hb := Lib.hid hb); (clear hb)
  go_wp2_with fail
  refine (has_any _ _ _ _).mono ?_
  rintro e w4 ⟨rfl, hb⟩; obtain ⟨hc, hf, hz⟩ := belowIf hb; (try simp only [World.size_alloc, World.size_setCell, World.size_drew] at hc hf hz); (have Hb := Lib.hid hb); (clear hb)
  rw [e3]
  go_wp2_with fail
  go_ret
  exact ⟨rfl, by (repeat (first | (with_reducible exact Below.refl _ _) | (with_reducible refine Below.drew ?_) | (with_reducible refine Below.setCell ?_ ?_ _) | (with_reducible refine Below.alloc ?_ ?_ _) | (with_reducible refine Below.trans ?_ (Below.mono (RowKit.Hid.out (by with_reducible assumption)) ?_)) | omega | (simp only [World.size_alloc, World.size_setCell, World.size_drew]; omega)))⟩
end Go.Proofs.Ytjklcpfkmnjjkaa
