/- The law's helpers 'two' and 'lists' on spans answer true for any. -/
import Derived.Test.YtjklcpfkmnjjkaaSpanRef
import Derived.Test.YtjklcpfkmnjjkaaSpanLaw
namespace Go.Proofs.Ytjklcpfkmnjjkaa
open Go.RowKit
set_option linter.unusedSimpArgs false
set_option linter.unusedVariables false

theorem rmeet_s (alo ahi blo bhi : ByteArray) (w : World) :
    Calls Try.prog 52 #[.agg #[.string alo, .string ahi], .agg #[.string blo, .string bhi]] w fun e w' => e = .returned (.bool (sMeet alo ahi blo bhi)) ∧ Below w.heap.size w w' := by
  rw [sMeet_eq]; exact rmeet_any alo ahi blo bhi w

set_option maxHeartbeats 2000000 in
theorem two_any (alo ahi blo bhi s : ByteArray) (w : World) :
    Calls Try.prog 20 #[.agg #[.string alo, .string ahi], .agg #[.string blo, .string bhi], .string s] w fun e w' => e = .returned (.bool true) ∧ Below w.heap.size w w' := by
  go_enter Try.func20, Try.ntmps20
  go_wp2_with fail
  (with_reducible refine (split_t alo ahi s _).mono ?_); rintro e w1 ⟨rfl, hb⟩; obtain ⟨hc, hf, hz⟩ := belowIf hb; (try simp only [World.size_alloc, World.size_setCell, World.size_drew] at hc hf hz); (have Hb := Lib.hid hb); (clear hb)
  go_wp2_with fail
  (with_reducible refine (rsplit_t alo ahi s _).mono ?_); rintro e w2 ⟨rfl, hb⟩; obtain ⟨hc, hf, hz⟩ := belowIf hb; (try simp only [World.size_alloc, World.size_setCell, World.size_drew] at hc hf hz); (have Hb := Lib.hid hb); (clear hb)
  go_wp2_with fail
  (with_reducible refine (join_t alo ahi blo bhi _).mono ?_); rintro e w3 ⟨rfl, hb⟩; obtain ⟨hc, hf, hz⟩ := belowIf hb; (try simp only [World.size_alloc, World.size_setCell, World.size_drew] at hc hf hz); (have Hb := Lib.hid hb); (clear hb)
  go_wp2_with fail
  (with_reducible refine (rjoin_t alo ahi blo bhi _).mono ?_); rintro e w4 ⟨rfl, hb⟩; obtain ⟨hc, hf, hz⟩ := belowIf hb; (try simp only [World.size_alloc, World.size_setCell, World.size_drew] at hc hf hz); (have Hb := Lib.hid hb); (clear hb)
  go_wp2_with fail
  (refine wp_region_ext (w4.heap.size + 1) (by kernel_rfl) (by kernel_rfl) ?_; (repeat (go_big_quiet_step (first | (go_at_call 14; exact quiet_ext _ (by first | exact Nat.le_refl _ | omega | (simp only [World.size_alloc, World.size_setCell, World.size_drew]; omega)) (right_any _ _ _)) | (go_at_call 50; exact quiet_ext _ (by first | exact Nat.le_refl _ | omega | (simp only [World.size_alloc, World.size_setCell, World.size_drew]; omega)) (rright_any _ _ _)) | (go_at_call 15; exact quiet_ext _ (by first | exact Nat.le_refl _ | omega | (simp only [World.size_alloc, World.size_setCell, World.size_drew]; omega)) (has_any _ _ _ _)) | (go_at_call 51; exact quiet_ext _ (by first | exact Nat.le_refl _ | omega | (simp only [World.size_alloc, World.size_setCell, World.size_drew]; omega)) (rhas_any _ _ _ _)) | (go_at_call 18; exact quiet_ext _ (by first | exact Nat.le_refl _ | omega | (simp only [World.size_alloc, World.size_setCell, World.size_drew]; omega)) (meet_any _ _ _ _ _)) | (go_at_call 52; exact quiet_ext _ (by first | exact Nat.le_refl _ | omega | (simp only [World.size_alloc, World.size_setCell, World.size_drew]; omega)) (rmeet_s _ _ _ _ _))))); refine wpQuiet_nil ?_; intro _ hw'; obtain ⟨xq, hw''⟩ := hw'; subst hw''; have HX := Lib.hid xq.2)
  go_wp2_with fail
  go_ret
  exact ⟨rfl, by (repeat (first | (with_reducible exact Below.refl _ _) | (with_reducible refine Below.drew ?_) | (with_reducible refine Below.setCell ?_ ?_ _) | (with_reducible refine Below.alloc ?_ ?_ _) | (with_reducible refine Below.trans ?_ (Below.mono (RowKit.Hid.out (by with_reducible assumption)) ?_)) | omega | (simp only [World.size_alloc, World.size_setCell, World.size_drew]; omega)))⟩

theorem lists_any (b off c : Nat) (sp : List (ByteArray × ByteArray)) (w : World) (hn : 0 < sp.length) (hnc : sp.length ≤ c) (hm : sp.length ≤ 4611686018427387904) (hb : b < w.heap.size) (hc : SpAt w b off sp) :
    Calls Try.prog 21 #[.slice (some ⟨b, off, none⟩) sp.length c] w fun e w' => e = .returned (.bool true) ∧ Below w.heap.size w w' := by
  have HC := Lib.hid hc; clear hc
  go_enter Try.func21, Try.ntmps21
  go_wp2_with fail
  (with_reducible refine (cover_some b off c sp _ hn hm hb HC.out).mono ?_); rintro e w1 ⟨rfl, hb⟩; obtain ⟨hc, hf, hz⟩ := belowIf hb; (try simp only [World.size_alloc, World.size_setCell, World.size_drew] at hc hf hz); (have Hb := Lib.hid hb); (clear hb)
  have k1 := HC.out.below Hb.out hb
  have HK := Lib.hid k1; clear k1
  go_wp2_with fail
  (with_reducible refine (rcover_some b off c sp _ hm (by omega) HK.out).mono ?_); rintro e w2 ⟨rfl, hb⟩; obtain ⟨hc, hf, hz⟩ := belowIf hb; (try simp only [World.size_alloc, World.size_setCell, World.size_drew] at hc hf hz); (have Hb := Lib.hid hb); (clear hb)
  rw [cover_eq]
  have k2 := HK.out.below Hb.out (by omega)
  have HK2 := Lib.hid k2; clear k2
  go_wp2_with fail
  (with_reducible refine (apart_some b off c sp _ hnc hm (by omega) HK2.out).mono ?_); rintro e w3 ⟨rfl, hb⟩; obtain ⟨hc, hf, hz⟩ := belowIf hb; (try simp only [World.size_alloc, World.size_setCell, World.size_drew] at hc hf hz); (have Hb := Lib.hid hb); (clear hb)
  have k3 := HK2.out.below Hb.out (by omega)
  have HK3 := Lib.hid k3; clear k3
  go_wp2_with fail
  (with_reducible refine (rapart_some b off c sp _ hm (by omega) HK3.out).mono ?_); rintro e w4 ⟨rfl, hb⟩; obtain ⟨hc, hf, hz⟩ := belowIf hb; (try simp only [World.size_alloc, World.size_setCell, World.size_drew] at hc hf hz); (have Hb := Lib.hid hb); (clear hb)
  go_wp2_with fail
  go_ret
  exact ⟨rfl, by (repeat (first | (with_reducible exact Below.refl _ _) | (with_reducible refine Below.drew ?_) | (with_reducible refine Below.setCell ?_ ?_ _) | (with_reducible refine Below.alloc ?_ ?_ _) | (with_reducible refine Below.trans ?_ (Below.mono (RowKit.Hid.out (by with_reducible assumption)) ?_)) | omega | (simp only [World.size_alloc, World.size_setCell, World.size_drew]; omega)))⟩
end Go.Proofs.Ytjklcpfkmnjjkaa
