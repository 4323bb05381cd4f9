/- Contracts of small helpers: numbers brought within bounds, names of rows. -/
import Derived.Test.YtjklcpfkmnjjkaaChecked
import Derived.Test.YtjklcpfkmnjjkaaPlain
namespace Go.Proofs.Ytjklcpfkmnjjkaa
open Go.RowKit
set_option linter.unusedSimpArgs false
set_option linter.unusedVariables false

def within (n lo hi : Int) : Int := if lo ≤ n ∧ n ≤ hi then n else lo + (if n.tmod (hi - lo + 1) < 0 then n.tmod (hi - lo + 1) + (hi - lo + 1) else n.tmod (hi - lo + 1))
theorem within_bd (n lo hi : Int) (h : lo ≤ hi) : lo ≤ within n lo hi ∧ within n lo hi ≤ hi := by
  unfold within
  split
  · omega
  · have h1 := Int.tmod_lt_of_pos n (b := hi - lo + 1) (by omega)
    have h2 := Int.lt_tmod_of_pos n (b := hi - lo + 1) (by omega)
    split <;> omega
theorem within_same (n lo hi : Int) (h1 : lo ≤ n) (h2 : n ≤ hi) : within n lo hi = n := by unfold within; rw [if_pos ⟨h1, h2⟩]

theorem within_any (n lo hi : Int) (w : World) (hn1 : -9223372036854775808 ≤ n) (hn2 : n ≤ 9223372036854775807) (h0 : -4611686018427387904 ≤ lo) (h : lo ≤ hi) (h2 : hi ≤ 2147483648) (h3 : hi - lo ≤ 2147483648) :
    Calls Try.prog 34 #[.int .i64 n, .int .i64 lo, .int .i64 hi] w fun e w' => e = .returned (.int .i64 (within n lo hi)) ∧ Below w.heap.size w w' := by
  have h4 := Int.tmod_lt_of_pos n (b := hi - lo + 1) (by omega)
  have h5 := Int.lt_tmod_of_pos n (b := hi - lo + 1) (by omega)
  go_enter Try.func34, Try.ntmps34
  go_wp2
  all_goals go_ret
  all_goals refine ⟨ret_int ?_, by (repeat (first | (with_reducible exact Below.refl _ _) | (with_reducible refine Below.drew ?_) | (with_reducible refine Below.setCell ?_ ?_ _) | (with_reducible refine Below.alloc ?_ ?_ _) | (with_reducible refine Below.trans ?_ (Below.mono (RowKit.Hid.out (by with_reducible assumption)) ?_)) | omega | (simp only [World.size_alloc, World.size_setCell, World.size_drew]; omega)))⟩
  all_goals unfold within
  all_goals (repeat' split)
  all_goals omega

theorem pick_any (b L : Nat) (f : Nat → ByteArray) (n : Int) (w : World) (hL : 0 < L) (hL2 : L ≤ 1000) (hn1 : -9223372036854775808 ≤ n) (hn2 : n ≤ 9223372036854775807)
    (hc : ∀ i, i < L → w.cell? ⟨b, i, none⟩ = some (.string (f i))) (hb : b < w.heap.size) :
    Calls Try.prog 47 #[.slice (some ⟨b, 0, none⟩) L L, .int .i64 n] w fun e w' => e = .returned (.string (f (within n 0 1048576 % (L : Int)).toNat)) ∧ Below w.heap.size w w' := by
  have hw := within_bd n 0 1048576 (by omega)
  have hm1 := Int.emod_nonneg (within n 0 1048576) (b := (L : Int)) (by omega)
  have hm2 := Int.emod_lt_of_pos (within n 0 1048576) (b := (L : Int)) (by omega)
  have hcell := hc (within n 0 1048576 % (L : Int)).toNat (by omega)
  clear hc
  go_enter Try.func47, Try.ntmps47
  go_wp2_with (first | (go_at_call 34; (with_reducible refine (within_any _ _ _ _ hn1 hn2 (by omega) (by omega) (by omega) (by omega)).mono ?_); rintro e w' ⟨rfl, hb⟩; (have c : w'.cell? ⟨b, (within n 0 1048576 % (L : Int)).toNat, none⟩ = some (.string (f (within n 0 1048576 % (L : Int)).toNat)) := keepc hb (by first | (simp; done) | (simp; omega)) (by first | (with_reducible assumption) | (simp [go_sem]; done) | go_cell)); (have hz := hb.size); (try simp only [World.size_alloc, World.size_setCell, World.size_drew] at hz); (have Hb := Lib.hid hb); (clear hb)))
  all_goals go_ret
  all_goals exact ⟨rfl, by (repeat (first | (with_reducible exact Below.refl _ _) | (with_reducible refine Below.drew ?_) | (with_reducible refine Below.setCell ?_ ?_ _) | (with_reducible refine Below.alloc ?_ ?_ _) | (with_reducible refine Below.trans ?_ (Below.mono (RowKit.Hid.out (by with_reducible assumption)) ?_)) | omega | (simp only [World.size_alloc, World.size_setCell, World.size_drew]; omega)))⟩

def rowL : List ByteArray := [⟨#[97]⟩, ⟨#[98]⟩, ⟨#[109]⟩, ⟨#[110]⟩, ⟨#[122]⟩, ⟨#[109, 97]⟩, ⟨#[122, 122]⟩, ⟨#[48]⟩]
def rowS (n : Int) : ByteArray := rowL.getD (within n 0 1048576 % 8).toNat ⟨#[]⟩
theorem rowS_mem (n : Int) : rowS n ∈ rowL := by
  have hw := within_bd n 0 1048576 (by omega)
  unfold rowS
  rw [List.getD_eq_getElem?_getD, List.getElem?_eq_getElem (by simp [rowL]; omega)]
  simp

theorem strs_cells (w : World) (t : TypeId) (l : List ByteArray) (i : Nat) (hi : i < l.length) : (w.alloc (.cells (l.map Value.string).toArray t)).cell? ⟨w.heap.size, i, none⟩ = some (.string (l.getD i ⟨#[]⟩)) := by
  simp [World.cell?_alloc_new, List.getD_eq_getElem?_getD, List.getElem?_eq_getElem hi]

theorem row_cells (w : World) : ∀ i, i < 8 → (w.alloc (.cells #[.string ⟨#[97]⟩, .string ⟨#[98]⟩, .string ⟨#[109]⟩, .string ⟨#[110]⟩, .string ⟨#[122]⟩, .string ⟨#[109, 97]⟩, .string ⟨#[122, 122]⟩, .string ⟨#[48]⟩] 9)).cell? ⟨w.heap.size, i, none⟩ = some (.string (rowL.getD i ⟨#[]⟩)) :=
  fun i hi => strs_cells w 9 rowL i hi

theorem row_any (n : Int) (w : World) (hn1 : -9223372036854775808 ≤ n) (hn2 : n ≤ 9223372036854775807) :
    Calls Try.prog 12 #[.int .i64 n] w fun e w' => e = .returned (.string (rowS n)) ∧ Below w.heap.size w w' := by
  go_enter Try.func12, Try.ntmps12
  go_wp2_with (first | (go_at_call 47; (with_reducible refine (pick_any w.heap.size 8 (fun i => rowL.getD i ⟨#[]⟩) n _ (by omega) (by omega) hn1 hn2 (row_cells w) (by simp)).mono ?_); rintro e w' ⟨rfl, hb⟩; skip; (have hz := hb.size); (try simp only [World.size_alloc, World.size_setCell, World.size_drew] at hz); (have Hb := Lib.hid hb); (clear hb)))
  all_goals go_ret
  all_goals exact ⟨rfl, by (repeat (first | (with_reducible exact Below.refl _ _) | (with_reducible refine Below.drew ?_) | (with_reducible refine Below.setCell ?_ ?_ _) | (with_reducible refine Below.alloc ?_ ?_ _) | (with_reducible refine Below.trans ?_ (Below.mono (RowKit.Hid.out (by with_reducible assumption)) ?_)) | omega | (simp only [World.size_alloc, World.size_setCell, World.size_drew]; omega)))⟩
end Go.Proofs.Ytjklcpfkmnjjkaa
