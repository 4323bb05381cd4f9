/- The law's list of spans of each kind. -/
import Derived.Test.YtjklcpfkmnjjkaaSpanTwo
namespace Go.Proofs.Ytjklcpfkmnjjkaa
open Go.RowKit
set_option linter.unusedSimpArgs false
set_option linter.unusedVariables false

def longS : ByteArray := ⟨#[115, 101, 118, 101, 110, 116, 101, 101, 110, 46, 98, 121, 116, 101, 115, 46, 108]⟩
def okS : ByteArray := ⟨#[115, 105, 120, 116, 101, 101, 110, 46, 98, 121, 116, 101, 115, 46, 111, 107]⟩
def someL : List (ByteArray × ByteArray) := [(⟨#[]⟩, ⟨#[]⟩), (⟨#[]⟩, ⟨#[97]⟩), (⟨#[97]⟩, ⟨#[]⟩), (⟨#[97]⟩, ⟨#[98]⟩), (⟨#[98]⟩, ⟨#[97]⟩), (⟨#[97]⟩, ⟨#[97]⟩), (⟨#[98]⟩, ⟨#[110]⟩), (⟨#[110]⟩, ⟨#[]⟩), (⟨#[109]⟩, ⟨#[122]⟩), (longS, ⟨#[]⟩), (⟨#[]⟩, longS), (okS, ⟨#[]⟩)]

theorem some_any (w : World) :
    Calls Try.prog 19 #[] w fun e w' => e = .returned (.slice (some ⟨w.heap.size, 0, none⟩) 12 12) ∧ w' = w.alloc (.cells (someL.flatMap fun p => [Value.string p.1, Value.string p.2]).toArray 23) := by
  go_enter Try.func19, Try.ntmps19
  go_wp2
  go_ret
  exact ⟨rfl, rfl⟩

theorem rcover_nil (A : Option Addr) (c : Nat) (w : World) :
    Calls Try.prog 53 #[.slice A 0 c] w fun e w' => e = .returned (.bool false) ∧ Below w.heap.size w w' := by
  go_enter Try.func53, Try.ntmps53
  go_wp2_with fail
  go_rounds 1
  go_ret
  exact ⟨rfl, by (repeat (first | (with_reducible exact Below.refl _ _) | (with_reducible refine Below.drew ?_) | (with_reducible refine Below.setCell ?_ ?_ _) | (with_reducible refine Below.alloc ?_ ?_ _) | (with_reducible refine Below.trans ?_ (Below.mono (RowKit.Hid.out (by with_reducible assumption)) ?_)) | omega | (simp only [World.size_alloc, World.size_setCell, World.size_drew]; omega)))⟩
theorem apart_nil (A : Option Addr) (c : Nat) (w : World) :
    Calls Try.prog 24 #[.slice A 0 c] w fun e w' => e = .returned (.bool true) ∧ Below w.heap.size w w' := by
  go_enter Try.func24, Try.ntmps24
  go_wp2_with fail
  go_rounds 1
  go_ret
  exact ⟨rfl, by (repeat (first | (with_reducible exact Below.refl _ _) | (with_reducible refine Below.drew ?_) | (with_reducible refine Below.setCell ?_ ?_ _) | (with_reducible refine Below.alloc ?_ ?_ _) | (with_reducible refine Below.trans ?_ (Below.mono (RowKit.Hid.out (by with_reducible assumption)) ?_)) | omega | (simp only [World.size_alloc, World.size_setCell, World.size_drew]; omega)))⟩
theorem rapart_nil (A : Option Addr) (c : Nat) (w : World) :
    Calls Try.prog 54 #[.slice A 0 c] w fun e w' => e = .returned (.bool true) ∧ Below w.heap.size w w' := by
  go_enter Try.func54, Try.ntmps54
  go_wp2_with fail
  go_rounds 1
  go_ret
  exact ⟨rfl, by (repeat (first | (with_reducible exact Below.refl _ _) | (with_reducible refine Below.drew ?_) | (with_reducible refine Below.setCell ?_ ?_ _) | (with_reducible refine Below.alloc ?_ ?_ _) | (with_reducible refine Below.trans ?_ (Below.mono (RowKit.Hid.out (by with_reducible assumption)) ?_)) | omega | (simp only [World.size_alloc, World.size_setCell, World.size_drew]; omega)))⟩
theorem lists_nil (A : Option Addr) (c : Nat) (w : World) :
    Calls Try.prog 21 #[.slice A 0 c] w fun e w' => e = .returned (.bool true) ∧ Below w.heap.size w w' := by
  go_enter Try.func21, Try.ntmps21
  go_wp2_with fail
  (with_reducible refine (cover_nil A c _).mono ?_); rintro e w1 ⟨rfl, hb⟩; obtain ⟨hc, hf, hz⟩ := belowIf hb; (try simp only [World.size_alloc, World.size_setCell, World.size_drew] at hc hf hz); (have Hb := Lib.hid hb); (clear hb)
  go_wp2_with fail
  (with_reducible refine (rcover_nil A c _).mono ?_); rintro e w2 ⟨rfl, hb⟩; obtain ⟨hc, hf, hz⟩ := belowIf hb; (try simp only [World.size_alloc, World.size_setCell, World.size_drew] at hc hf hz); (have Hb := Lib.hid hb); (clear hb)
  go_wp2_with fail
  (with_reducible refine (apart_nil A c _).mono ?_); rintro e w3 ⟨rfl, hb⟩; obtain ⟨hc, hf, hz⟩ := belowIf hb; (try simp only [World.size_alloc, World.size_setCell, World.size_drew] at hc hf hz); (have Hb := Lib.hid hb); (clear hb)
  go_wp2_with fail
  (with_reducible refine (rapart_nil A c _).mono ?_); rintro e w4 ⟨rfl, hb⟩; obtain ⟨hc, hf, hz⟩ := belowIf hb; (try simp only [World.size_alloc, World.size_setCell, World.size_drew] at hc hf hz); (have Hb := Lib.hid hb); (clear hb)
  go_wp2_with fail
  go_ret
  exact ⟨rfl, by (repeat (first | (with_reducible exact Below.refl _ _) | (with_reducible refine Below.drew ?_) | (with_reducible refine Below.setCell ?_ ?_ _) | (with_reducible refine Below.alloc ?_ ?_ _) | (with_reducible refine Below.trans ?_ (Below.mono (RowKit.Hid.out (by with_reducible assumption)) ?_)) | omega | (simp only [World.size_alloc, World.size_setCell, World.size_drew]; omega)))⟩
theorem SpAt.take {w : World} {b off : Nat} {sp : List (ByteArray × ByteArray)} (h : SpAt w b off sp) (k : Nat) : SpAt w b off (sp.take k) := fun i p hp => by
  rw [List.getElem?_take] at hp
  split at hp
  · exact h i p hp
  · cases hp
/-- lists of the first k of the spans in memory -/
theorem lists_take (b c k : Nat) (sp : List (ByteArray × ByteArray)) (w : World) (hk : k ≤ sp.length) (hc : sp.length ≤ c) (hm : sp.length ≤ 4611686018427387904) (hb : b < w.heap.size) (h : SpAt w b 0 sp) :
    Calls Try.prog 21 #[.slice (some ⟨b, 0, none⟩) k c] w fun e w' => e = .returned (.bool true) ∧ Below w.heap.size w w' := by
  by_cases h0 : k = 0
  · subst h0; exact lists_nil _ _ _
  · have hl : (sp.take k).length = k := by rw [List.length_take]; omega
    have := lists_any b 0 c (sp.take k) w (by omega) (by omega) (by omega) hb (h.take k)
    rw [hl] at this
    exact this
theorem lists2 (b : Nat) (p q : ByteArray × ByteArray) (w : World) (hb : b < w.heap.size) (h0 : w.cell? ⟨b, 0, none⟩ = some (.string p.1)) (h1 : w.cell? ⟨b, 1, none⟩ = some (.string p.2)) (h2 : w.cell? ⟨b, 2, none⟩ = some (.string q.1)) (h3 : w.cell? ⟨b, 3, none⟩ = some (.string q.2)) :
    Calls Try.prog 21 #[.slice (some ⟨b, 0, none⟩) 2 2] w fun e w' => e = .returned (.bool true) ∧ Below w.heap.size w w' :=
  lists_any b 0 2 [p, q] w (by simp) (by simp) (by simp) hb (spAt_two h0 h1 h2 h3)
theorem lists3 (b : Nat) (p q r : ByteArray × ByteArray) (w : World) (hb : b < w.heap.size) (h0 : w.cell? ⟨b, 0, none⟩ = some (.string p.1)) (h1 : w.cell? ⟨b, 1, none⟩ = some (.string p.2)) (h2 : w.cell? ⟨b, 2, none⟩ = some (.string q.1)) (h3 : w.cell? ⟨b, 3, none⟩ = some (.string q.2)) (h4 : w.cell? ⟨b, 4, none⟩ = some (.string r.1)) (h5 : w.cell? ⟨b, 5, none⟩ = some (.string r.2)) :
    Calls Try.prog 21 #[.slice (some ⟨b, 0, none⟩) 3 3] w fun e w' => e = .returned (.bool true) ∧ Below w.heap.size w w' :=
  lists_any b 0 3 [p, q, r] w (by simp) (by simp) (by simp) hb (spAt_three h0 h1 h2 h3 h4 h5)
end Go.Proofs.Ytjklcpfkmnjjkaa
