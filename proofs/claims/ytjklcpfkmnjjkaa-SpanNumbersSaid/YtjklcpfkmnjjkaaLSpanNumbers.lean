/- The law wardmotelaw7.SpanNumbers: for every input the call returns true, and every argument reads behind the call as it read before. -/
import Derived.Test.YtjklcpfkmnjjkaaRows
import Derived.Test.YtjklcpfkmnjjkaaSpanSome
import Derived.ProofKit
import Derived.OpenShut
import Derived.ShutString
import Derived.Lib.SmallJoins
import Derived.Carry
namespace Go.Proofs.Ytjklcpfkmnjjkaa.spanNumbers
open Go.ChangeShapes Go.WideShapes Go.ChangeAt Go.RowKit
open Go.ChangeMaps (open_string shut_string)
set_option linter.unusedVariables false
set_option linter.unusedSimpArgs false

def sevenL : List ByteArray := [⟨#[]⟩, ⟨#[97]⟩, ⟨#[98]⟩, ⟨#[109]⟩, ⟨#[110]⟩, ⟨#[122, 122, 122]⟩, longS]
theorem someL_len : someL.length = 12 := rfl
set_option maxRecDepth 100000 in
set_option maxHeartbeats 4000000 in
theorem walk (w : World) :
    Calls Try.prog 4 #[] w fun e w' => e = .returned (.bool true) ∧ Below w.heap.size w w' := by
  go_enter Try.func4, Try.ntmps4
  go_wp2_with fail
  refine (some_any _).mono ?_
  rintro e w1 ⟨rfl, hw1⟩
  have hs : SpAt w1 w.heap.size 0 someL := by rw [hw1]; exact spAt_lit w _ someL
  have hb : Below w.heap.size w w1 := by rw [hw1]; exact (Below.refl _ _).alloc (Nat.le_refl _) _
  have hz : w1.heap.size = w.heap.size + 1 := by rw [hw1, World.size_alloc]
  have HB := Lib.hid hb; have HS := Lib.hid hs
  clear hw1 hb hs
  obtain ⟨g, hg⟩ : ∃ g, g = w.heap.size := ⟨_, rfl⟩
  have hgz : g < w1.heap.size := by omega
  rw [← hg] at HS ⊢
  have HZ := Lib.hid hz; clear hz
  have HG := Lib.hid hg; clear hg
  go_wp2_with fail
  go_loopw [2] (fun i wr => ∃ k : Nat, k ≤ 12 ∧ i = .int .i64 k ∧ Below w1.heap.size w1 wr) (fun i _ => 12 - (intOf i).toNat)
  case atStart => exact ⟨0, Nat.zero_le _, rfl, Below.refl _ _⟩
  case round =>
    obtain ⟨i, hi, rfl, hB⟩ := hrel
    have hz1 := hB.size
    have HB1 := Lib.hid hB; clear hB
    by_cases hlt : i < 12
    · have hdi : decide ((i : Int) < 12) = true := decide_eq_true (by omega)
      have hli : (i : Int) < 12 := by omega
      obtain ⟨wa, hwa⟩ : ∃ wa : World, wa = wr := ⟨_, rfl⟩
      go_wp2_with fail
      subst hwa
      go_loopw [3] (fun j wi => ∃ k : Nat, k ≤ 12 ∧ j = .int .i64 k ∧ Below w1.heap.size w1 wi) (fun j _ => 12 - (intOf j).toNat)
      case atStart => exact ⟨0, Nat.zero_le _, rfl, HB1.out⟩
      case round =>
        obtain ⟨j, hj, rfl, hB⟩ := hrel
        have hz2 := hB.size
        have HB2 := Lib.hid hB; clear hB
        by_cases hlt2 : j < 12
        · have hdj : decide ((j : Int) < 12) = true := decide_eq_true (by omega)
          have hlj : (j : Int) < 12 := by omega
          go_wp2_with fail
          obtain ⟨wc, hwc⟩ : ∃ wc : World, wc = wr := ⟨_, rfl⟩
          subst hwc
          have h7 : ∀ t, t < 7 → (wc.alloc (.cells (sevenL.map Value.string).toArray 9)).cell? ⟨wc.heap.size, t, none⟩ = some (.string (sevenL.getD t ⟨#[]⟩)) := fun t ht => strs_cells wc 9 sevenL t ht
          have H7 := Lib.hid h7; clear h7
          go_loopw [21] (fun t wi => ∃ k : Nat, k ≤ 7 ∧ t = .int .i64 k ∧ Below (wc.heap.size + 1) (wc.alloc (.cells (sevenL.map Value.string).toArray 9)) wi) (fun t _ => 7 - (intOf t).toNat)
          case atStart => exact ⟨0, Nat.zero_le _, rfl, Below.refl _ _⟩
          case round =>
            obtain ⟨t, ht, rfl, hB⟩ := hrel
            have hz3 := hB.size
            rw [World.size_alloc] at hz3
            have HB3 := Lib.hid hB; clear hB
            have hB4 : Below w1.heap.size w1 wr := by
              refine Below.trans ?_ (HB3.out.mono (by omega))
              exact HB2.out.alloc (by omega) _
            have HB4 := Lib.hid hB4; clear hB4
            by_cases hlt3 : t < 7
            · have ct := keepc HB3.out (by simp) (H7.out t hlt3)
              obtain ⟨ci0, ci1⟩ := (HS.out.below HB4.out (by omega)) i _ (spD_get (by rw [someL_len]; exact hlt))
              obtain ⟨cj0, cj1⟩ := (HS.out.below HB4.out (by omega)) j _ (spD_get (by rw [someL_len]; exact hlt2))
              rw [Nat.zero_add] at ci0 ci1 cj0 cj1
              generalize spD someL i = p at *
              generalize spD someL j = q at *
              go_upto_region 11 with fail
              (refine wp_region_ext (wr.heap.size) (by kernel_rfl) (by kernel_rfl) ?_; (repeat (go_big_quiet_step (first | (go_at_call 20; exact quiet_ext _ (by first | exact Nat.le_refl _ | omega | (simp only [World.size_alloc, World.size_setCell, World.size_drew]; omega)) (two_any _ _ _ _ _ _))))); refine wpQuiet_nil ?_; intro _ hw'; obtain ⟨xq, hw''⟩ := hw'; subst hw''; have HX := Lib.hid xq.2)
              go_wp2_with fail
              go_roundw
              case rel => exact ⟨t + 1, by omega, by go_num, HB3.out.trans (HX.out.mono (by omega))⟩
              case measure => simp [intOf]; omega
            · have ht7 : t = 7 := by omega
              subst ht7
              obtain ⟨ci0, ci1⟩ := (HS.out.below HB4.out (by omega)) i _ (spD_get (by rw [someL_len]; exact hlt))
              obtain ⟨cj0, cj1⟩ := (HS.out.below HB4.out (by omega)) j _ (spD_get (by rw [someL_len]; exact hlt2))
              obtain ⟨cl0, cl1⟩ := (HS.out.below HB4.out (by omega)) 1 _ (spD_get (by rw [someL_len]; omega))
              rw [Nat.zero_add] at ci0 ci1 cj0 cj1 cl0 cl1
              simp only [Nat.one_mul, Nat.reduceAdd] at cl0 cl1
              generalize spD someL i = p at *
              generalize spD someL j = q at *
              generalize spD someL 1 = r at *
              go_upto_region 14 with fail
              go_cut [63] (fun t wx => t = .bool false ∧ Below wr.heap.size wr wx)
              case first =>
                have hgr : g < wr.heap.size := by omega
                go_region_held3 (fun w' => (∀ b o, w'.cell? ⟨b, o, none⟩ = if b < wr.heap.size then World.cell? wr ⟨b, o, none⟩ else farCell w' ⟨b, o, none⟩) ∧ wr.heap.size ≤ w'.heap.size ∧ RowKit.Hid (Below (wr.heap.size) wr w')) ((refine extS ?_ (by first | omega | (simp; omega)); (repeat (first | (with_reducible exact Below.refl _ _) | (with_reducible refine Below.drew ?_) | (with_reducible refine Below.setCell ?_ ?_ _) | (with_reducible refine Below.alloc ?_ ?_ _) | (with_reducible refine Below.trans ?_ (Below.mono (RowKit.Hid.out (by with_reducible assumption)) ?_)) | omega | (simp only [World.size_alloc, World.size_setCell, World.size_drew]; omega))))) (first
                  | (go_at_call_of 21 (2 : Nat); refine Calls.mono (lists2 _ p q _ (by simp) (by simp [go_sem]) (by simp [go_sem]) (by simp [go_sem]) (by simp [go_sem])) ?_; rintro e w2 ⟨rfl, hb⟩; obtain ⟨hc, hf, hz⟩ := belowIf hb; (try simp only [World.size_alloc, World.size_setCell, World.size_drew] at hc hf hz); (have Hb := Lib.hid hb); (clear hb))
                  | (go_at_call_of 21 (3 : Nat); refine Calls.mono (lists3 _ r p q _ (by simp) (by simp [go_sem]) (by simp [go_sem]) (by simp [go_sem]) (by simp [go_sem]) (by simp [go_sem]) (by simp [go_sem])) ?_; rintro e w3 ⟨rfl, hb⟩; obtain ⟨hc, hf, hz⟩ := belowIf hb; (try simp only [World.size_alloc, World.size_setCell, World.size_drew] at hc hf hz); (have Hb := Lib.hid hb); (clear hb)))
                go_wp2_with fail
                go_meet
                exact ⟨rfl, by (repeat (first | (with_reducible exact Below.refl _ _) | (with_reducible refine Below.drew ?_) | (with_reducible refine Below.setCell ?_ ?_ _) | (with_reducible refine Below.alloc ?_ ?_ _) | (with_reducible refine Below.trans ?_ (Below.mono (RowKit.Hid.out (by with_reducible assumption)) ?_)) | omega | (simp only [World.size_alloc, World.size_setCell, World.size_drew]; omega)))⟩
              case rest =>
                obtain ⟨rfl, hb⟩ := hcut
                have hB5 := HB4.out.trans (hb.mono (by omega))
                have HB5 := Lib.hid hB5
                clear hB5 hb
                go_wp2_with fail
                go_roundw
                case rel => exact ⟨j + 1, by omega, by go_num, HB5.out⟩
                case measure => simp [intOf]; omega
        · go_wp2_with fail
          (with_reducible refine (lists_take g 12 i someL _ (by rw [someL_len]; omega) (by rw [someL_len]; omega) (by rw [someL_len]; omega) (by omega) (HS.out.below HB2.out (by omega))).mono ?_); rintro e w2 ⟨rfl, hb⟩; obtain ⟨hc, hf, hz⟩ := belowIf hb; (try simp only [World.size_alloc, World.size_setCell, World.size_drew] at hc hf hz); (have Hb := Lib.hid hb); (clear hb)
          go_wp2_with fail
          go_roundw
          case rel => exact ⟨i + 1, by omega, by go_num, by (repeat (first | (with_reducible exact Below.refl _ _) | (with_reducible refine Below.drew ?_) | (with_reducible refine Below.setCell ?_ ?_ _) | (with_reducible refine Below.alloc ?_ ?_ _) | (with_reducible refine Below.trans ?_ (Below.mono (RowKit.Hid.out (by with_reducible assumption)) ?_)) | omega | (simp only [World.size_alloc, World.size_setCell, World.size_drew]; omega)))⟩
          case measure => simp [intOf]; omega
    · go_wp2_with fail
      refine Calls.mono (lists3 _ (⟨#[]⟩, ⟨#[98]⟩) (⟨#[98]⟩, ⟨#[110]⟩) (⟨#[110]⟩, ⟨#[]⟩) _ (by simp) (by simp) (by simp) (by simp) (by simp) (by simp) (by simp)) ?_
      rintro e w2 ⟨rfl, hb⟩; obtain ⟨hc, hf, hz⟩ := belowIf hb; (try simp only [World.size_alloc, World.size_setCell, World.size_drew] at hc hf hz); (have Hb := Lib.hid hb); (clear hb)
      go_wp2_with fail
      (with_reducible refine (known7_any _).mono ?_); rintro e w3 ⟨rfl, hb⟩; obtain ⟨hc, hf, hz⟩ := belowIf hb; (try simp only [World.size_alloc, World.size_setCell, World.size_drew] at hc hf hz); (have Hb := Lib.hid hb); (clear hb)
      go_wp2_with fail
      go_ret
      have := HZ.out
      have := HB1.out.size
      exact ⟨rfl, by (repeat (first | (with_reducible exact Below.refl _ _) | (with_reducible refine Below.drew ?_) | (with_reducible refine Below.setCell ?_ ?_ _) | (with_reducible refine Below.alloc ?_ ?_ _) | (with_reducible refine Below.trans ?_ (Below.mono (RowKit.Hid.out (by with_reducible assumption)) ?_)) | omega | (simp only [World.size_alloc, World.size_setCell, World.size_drew]; omega)))⟩

theorem own : ownKnob Try.prog.godebug = none := by kernel_rfl
theorem laidOut : laidOutB Try.prog = true := by kernel_rfl

set_option maxRecDepth 100000 in
theorem lifted (os : Os) (started : os.Started) (H : Type) (enc : TypeId × Value → H) :
    ReturnsInHanded {} Try.checked os 4 .any (Rows.spanNumbersSpec.pre6 enc Try.prog Try.f4 Rows.spanNumbersRow.domain false) (Rows.spanNumbersSpec.post enc Try.prog Try.f4 false true false false) := by
  refine returnsInHanded_of_change (C := Try.checked) own started (by kernel_rfl) Try.func4
    (ChangeSpec.witness6 (enc := enc) (C := Try.checked) false ⟨#[], #[], []⟩ 8 (by kernel_rfl) (by kernel_rfl) (by kernel_rfl) (by kernel_rfl)) ?_
  intro W base args ds gs before hval0 hW hcnd _
  have hval : ∀ (j : Nat) t v, (Try.f4).params[j]? = some t → args[j]? = some v → Value.okWide Try.prog W .any base t v := hval0
  have hW' := hW
  obtain ⟨p, q, hA0, hV, rfl, hfz, hnd⟩ := hW
  have hA : DataW.TrodAll enc Try.prog W 0 (fun _ => true) true (Try.f4).params.toList args.toList ds p := hA0
  rw [Try.params4] at hA hval
  obtain ⟨e0, rfl, rfl⟩ := trodAll_none hA
  obtain rfl : args = #[] := by cases args; simp_all
  obtain ⟨rfl, rfl⟩ := trodVars_none hV
  clear hA0 hval0
  refine (walk W).mono fun e W' ⟨he, bel⟩ => ?_
  subst he
  exact ⟨_, rfl, _, _, _, [], _, [], hW', trodAll_mk1 (shut_bool Try.underlying4 _), trodAll_mk0, rfl, bel.frame _, fun h => by cases h⟩

theorem over : Rows.spanNumbersRow.holds Try.pinned (OpenSpec.ofChange Rows.spanNumbersSpec) :=
  OpenClaim.holds_of_wide 4 Try.f4 rfl rfl rfl rfl rfl rfl rfl ⟨rfl, rfl, rfl, rfl, rfl⟩ rfl rfl rfl rfl rfl (by kernel_rfl) Try.func4 (by kernel_rfl)
    (of_decide_eq_true (by kernel_rfl)) (by unfold Func.isWrapper; first | (rw [if_pos (by decide +kernel)]; kernel_rfl) | (rw [if_neg (by decide +kernel)]; exact ⟨rfl, rfl⟩))
    (fun os started H enc _ => lifted os started H enc)

/-- THE STATEMENT -/
theorem proved : Rows.SpanNumbersSaid := over
#print axioms proved
end Go.Proofs.Ytjklcpfkmnjjkaa.spanNumbers
