/- Contracts of span.Cover and span.Apart: lists of spans. -/
import Derived.Test.YtjklcpfkmnjjkaaSpan
namespace Go.Proofs.Ytjklcpfkmnjjkaa
open Go.RowKit
set_option linter.unusedSimpArgs false
set_option linter.unusedVariables false

/-- the spans sp lie in the cells from ⟨b, off⟩ on -/
def SpAt (w : World) (b off : Nat) (sp : List (ByteArray × ByteArray)) : Prop := ∀ i p, sp[i]? = some p → w.cell? ⟨b, off + i * 2, none⟩ = some (.string p.1) ∧ w.cell? ⟨b, off + i * 2 + 1, none⟩ = some (.string p.2)
theorem SpAt.below {w w' : World} {b off : Nat} {sp : List (ByteArray × ByteArray)} (h : SpAt w b off sp) (hb : Below w.heap.size w w') (hlt : b < w.heap.size) : SpAt w' b off sp :=
  fun i p hp => ⟨(hb.cell (by exact hlt)).trans (h i p hp).1, (hb.cell (by exact hlt)).trans (h i p hp).2⟩

def spD (sp : List (ByteArray × ByteArray)) (i : Nat) : ByteArray × ByteArray := sp.getD i (⟨#[]⟩, ⟨#[]⟩)
theorem spD_get {sp : List (ByteArray × ByteArray)} {i : Nat} (h : i < sp.length) : sp[i]? = some (spD sp i) := by
  unfold spD; rw [List.getD_eq_getElem?_getD, List.getElem?_eq_getElem h]; rfl
/-- the i-th span may stand where it stands -/
def cvOk (sp : List (ByteArray × ByteArray)) (i : Nat) : Bool := sRight (spD sp i).1 (spD sp i).2 && (i == 0 || (!(spD sp i).1.toList.isEmpty && (spD sp (i - 1)).2.toList == (spD sp i).1.toList))
def sCover (sp : List (ByteArray × ByteArray)) : Bool := !sp.isEmpty && ((spD sp 0).1.toList.isEmpty && ((spD sp (sp.length - 1)).2.toList.isEmpty && (List.range sp.length).all (cvOk sp)))

theorem cover_no {sp : List (ByteArray × ByteArray)} {k : Nat} (hk : k < sp.length) (h : cvOk sp k = false) : sCover sp = false := by
  have : (List.range sp.length).all (cvOk sp) = false := by
    rw [List.all_eq_false]; exact ⟨k, List.mem_range.2 hk, by simp [h]⟩
  simp [sCover, this]

set_option maxHeartbeats 1000000 in
theorem cover_some (b off c : Nat) (sp : List (ByteArray × ByteArray)) (w : World) (hn : 0 < sp.length) (hm : sp.length ≤ 4611686018427387904) (hb : b < w.heap.size) (hc : SpAt w b off sp) :
    Calls Try.prog 23 #[.slice (some ⟨b, off, none⟩) sp.length c] w fun e w' => e = .returned (.bool (sCover sp)) ∧ Below w.heap.size w w' := by
  have h0 := hc 0 _ (spD_get hn)
  have h1 := hc (sp.length - 1) _ (spD_get (by omega))
  simp only [Nat.zero_mul, Nat.add_zero] at h0
  obtain ⟨h0a, h0b⟩ := h0
  obtain ⟨h1a, h1b⟩ := h1
  have HC := Lib.hid hc; clear hc
  have hl0 : (((sp.length : Nat) : Int) == 0) = false := by simp; intro h; subst h; simp at hn
  have hne : sp.isEmpty = false := by cases sp with | nil => simp at hn | cons => rfl
  have HN := Lib.hid hne; clear hne
  go_enter Try.func23, Try.ntmps23
  go_wp2_with fail
  · go_ret
    exact ⟨ret_bool (by simp [sCover, HN.out, *]), by (repeat (first | (with_reducible exact Below.refl _ _) | (with_reducible refine Below.drew ?_) | (with_reducible refine Below.setCell ?_ ?_ _) | (with_reducible refine Below.alloc ?_ ?_ _) | (with_reducible refine Below.trans ?_ (Below.mono (RowKit.Hid.out (by with_reducible assumption)) ?_)) | omega | (simp only [World.size_alloc, World.size_setCell, World.size_drew]; omega)))⟩
  · go_ret
    have hq : (!(spD sp (sp.length - 1)).2.toList.isEmpty) = true := by assumption
    exact ⟨ret_bool (by simp at hq; simp [sCover, HN.out, hq]), by (repeat (first | (with_reducible exact Below.refl _ _) | (with_reducible refine Below.drew ?_) | (with_reducible refine Below.setCell ?_ ?_ _) | (with_reducible refine Below.alloc ?_ ?_ _) | (with_reducible refine Below.trans ?_ (Below.mono (RowKit.Hid.out (by with_reducible assumption)) ?_)) | omega | (simp only [World.size_alloc, World.size_setCell, World.size_drew]; omega)))⟩
  · have hq1 : (spD sp 0).1.toList.isEmpty = true := by assumption
    have hq2 : (!(spD sp (sp.length - 1)).2.toList.isEmpty) = false := by assumption
    clear h0a h0b h1a h1b
    go_loopw [27] (fun i wr => ∃ k : Nat, k ≤ sp.length ∧ i = .int .i64 k ∧ (∀ j, j < k → cvOk sp j = true) ∧ Below w.heap.size w wr) (fun i _ => sp.length - (intOf i).toNat)
    case atStart => exact ⟨0, Nat.zero_le _, rfl, fun j hj => absurd hj (by omega), Below.refl _ _⟩
    case round =>
      obtain ⟨k, hk, rfl, hall, hB⟩ := hrel
      have HA := Lib.hid hall; clear hall
      have HB := Lib.hid hB; clear hB
      have hz := HB.out.size
      have hb1 : b < wr.heap.size := by omega
      have hb2 : b < wr.heap.size + 1 := by omega
      by_cases hlt : k < sp.length
      · obtain ⟨ck0, ck1⟩ := (HC.out.below HB.out hb) k _ (spD_get hlt)
        go_upto_region 6 with fail
        go_cut [54] (fun t wx => t = .bool (!cvOk sp k) ∧ Below w.heap.size w wx)
        case first =>
          have hxc := fun (x : WExt (wr.heap.size + 1) (wr.alloc (.cells #[.string (spD sp k).1, .string (spD sp k).2] 23))) => x.cell
          by_cases hk0 : 0 < k
          · have hd0 : decide ((0 : Int) < (k : Int)) = true := by simpa using hk0
            have hkb : (k == 0) = false := by simp; omega
            obtain ⟨cj0, cj1⟩ := (HC.out.below HB.out hb) (k - 1) _ (spD_get (by omega))
            cases hR : sRight (spD sp k).1 (spD sp k).2 <;> cases hE : (spD sp k).1.toList.isEmpty <;> cases hP : ((spD sp (k - 1)).2.toList == (spD sp k).1.toList)
            all_goals (refine wp_region_ext (wr.heap.size + 1) (by kernel_rfl) (by kernel_rfl) ?_; (repeat (go_big_quiet_step (first | (go_at_call 14; exact quiet_ext _ (by first | exact Nat.le_refl _ | omega | (simp only [World.size_alloc, World.size_setCell, World.size_drew]; omega)) (right_any _ _ _))))); refine wpQuiet_nil ?_; intro _ hw'; obtain ⟨xq, hw''⟩ := hw'; subst hw''; have HX := Lib.hid xq.2)
            all_goals go_wp2_with fail
            all_goals go_meet
            all_goals exact ⟨by simp [cvOk, hR, hE, hP, hkb], by (repeat (first | (with_reducible exact Below.refl _ _) | (with_reducible refine Below.drew ?_) | (with_reducible refine Below.setCell ?_ ?_ _) | (with_reducible refine Below.alloc ?_ ?_ _) | (with_reducible refine Below.trans ?_ (Below.mono (RowKit.Hid.out (by with_reducible assumption)) ?_)) | omega | (simp only [World.size_alloc, World.size_setCell, World.size_drew]; omega)))⟩
          · have hd0 : decide ((0 : Int) < (k : Int)) = false := by simpa using hk0
            have hkb : (k == 0) = true := by simp; omega
            cases hR : sRight (spD sp k).1 (spD sp k).2
            all_goals (refine wp_region_ext (wr.heap.size + 1) (by kernel_rfl) (by kernel_rfl) ?_; (repeat (go_big_quiet_step (first | (go_at_call 14; exact quiet_ext _ (by first | exact Nat.le_refl _ | omega | (simp only [World.size_alloc, World.size_setCell, World.size_drew]; omega)) (right_any _ _ _))))); refine wpQuiet_nil ?_; intro _ hw'; obtain ⟨xq, hw''⟩ := hw'; subst hw''; have HX := Lib.hid xq.2)
            all_goals go_wp2_with fail
            all_goals go_meet
            all_goals exact ⟨by simp [cvOk, hR, hkb], by (repeat (first | (with_reducible exact Below.refl _ _) | (with_reducible refine Below.drew ?_) | (with_reducible refine Below.setCell ?_ ?_ _) | (with_reducible refine Below.alloc ?_ ?_ _) | (with_reducible refine Below.trans ?_ (Below.mono (RowKit.Hid.out (by with_reducible assumption)) ?_)) | omega | (simp only [World.size_alloc, World.size_setCell, World.size_drew]; omega)))⟩
        case rest =>
          obtain ⟨rfl, hB2⟩ := hcut
          have HB2 := Lib.hid hB2; clear hB2
          cases hcv : cvOk sp k
          · go_wp2_with fail
            go_ret
            exact ⟨ret_bool (cover_no hlt hcv).symm, HB2.out⟩
          · go_wp2_with fail
            go_roundw
            case rel => exact ⟨k + 1, by omega, by go_num, fun j hj => by (rcases Nat.lt_succ_iff_lt_or_eq.1 hj with h | h; exact HA.out j h; rw [h]; exact hcv), HB2.out⟩
            case measure => simp [intOf]; omega
      · go_wp2_with fail
        go_ret
        have hkn : k = sp.length := by omega
        exact ⟨ret_bool (by
          have hq3 : (spD sp (sp.length - 1)).2.toList.isEmpty = true := by simpa using hq2
          have hq4 : (List.range sp.length).all (cvOk sp) = true := List.all_eq_true.2 fun j hj => HA.out j (by rw [hkn]; exact List.mem_range.1 hj)
          simp [sCover, HN.out, hq1, hq3, hq4]), by (repeat (first | (with_reducible exact Below.refl _ _) | (with_reducible refine Below.drew ?_) | (with_reducible refine Below.setCell ?_ ?_ _) | (with_reducible refine Below.alloc ?_ ?_ _) | (with_reducible refine Below.trans ?_ (Below.mono (RowKit.Hid.out (by with_reducible assumption)) ?_)) | omega | (simp only [World.size_alloc, World.size_setCell, World.size_drew]; omega)))⟩

theorem cover_nil (A : Option Addr) (c : Nat) (w : World) :
    Calls Try.prog 23 #[.slice A 0 c] w fun e w' => e = .returned (.bool false) ∧ Below w.heap.size w w' := by
  go_enter Try.func23, Try.ntmps23
  go_wp2_with fail
  go_ret
  exact ⟨rfl, by (repeat (first | (with_reducible exact Below.refl _ _) | (with_reducible refine Below.drew ?_) | (with_reducible refine Below.setCell ?_ ?_ _) | (with_reducible refine Below.alloc ?_ ?_ _) | (with_reducible refine Below.trans ?_ (Below.mono (RowKit.Hid.out (by with_reducible assumption)) ?_)) | omega | (simp only [World.size_alloc, World.size_setCell, World.size_drew]; omega)))⟩

def apOk (sp : List (ByteArray × ByteArray)) (i : Nat) : Bool := sRight (spD sp i).1 (spD sp i).2 && (List.range i).all fun j => !sMeet (spD sp i).1 (spD sp i).2 (spD sp j).1 (spD sp j).2
def sApart (sp : List (ByteArray × ByteArray)) : Bool := (List.range sp.length).all (apOk sp)
theorem apart_no {sp : List (ByteArray × ByteArray)} {k : Nat} (hk : k < sp.length) (h : apOk sp k = false) : sApart sp = false := by
  unfold sApart; rw [List.all_eq_false]; exact ⟨k, List.mem_range.2 hk, by simp [h]⟩
theorem apOk_no {sp : List (ByteArray × ByteArray)} {i j : Nat} (hj : j < i) (h : sMeet (spD sp i).1 (spD sp i).2 (spD sp j).1 (spD sp j).2 = true) : apOk sp i = false := by
  unfold apOk
  have : ((List.range i).all fun j => !sMeet (spD sp i).1 (spD sp i).2 (spD sp j).1 (spD sp j).2) = false := by
    rw [List.all_eq_false]; exact ⟨j, List.mem_range.2 hj, by simp [h]⟩
  rw [this]; simp

set_option maxHeartbeats 1000000 in
theorem apart_some (b off c : Nat) (sp : List (ByteArray × ByteArray)) (w : World) (hn : sp.length ≤ c) (hm : sp.length ≤ 4611686018427387904) (hb : b < w.heap.size) (hc : SpAt w b off sp) :
    Calls Try.prog 24 #[.slice (some ⟨b, off, none⟩) sp.length c] w fun e w' => e = .returned (.bool (sApart sp)) ∧ Below w.heap.size w w' := by
  have HC := Lib.hid hc; clear hc
  go_enter Try.func24, Try.ntmps24
  go_wp2_with fail
  go_loopw [9] (fun i wr => ∃ k : Nat, k ≤ sp.length ∧ i = .int .i64 k ∧ (∀ j, j < k → apOk sp j = true) ∧ Below w.heap.size w wr) (fun i _ => sp.length - (intOf i).toNat)
  case atStart => exact ⟨0, Nat.zero_le _, rfl, fun j hj => absurd hj (by omega), Below.refl _ _⟩
  case round =>
    obtain ⟨k, hk, rfl, hall, hB⟩ := hrel
    have HA := Lib.hid hall; clear hall
    have HB := Lib.hid hB; clear hB
    have hz := HB.out.size
    have hb1 : b < wr.heap.size := by omega
    by_cases hlt : k < sp.length
    · obtain ⟨ck0, ck1⟩ := (HC.out.below HB.out hb) k _ (spD_get hlt)
      have hkc : k ≤ c := by omega
      go_wp2_with fail
      refine (right_any _ _ _).mono ?_
      rintro e w1 ⟨rfl, hb⟩; obtain ⟨hc, hf, hz⟩ := belowIf hb; (try simp only [World.size_alloc, World.size_setCell, World.size_drew] at hc hf hz); (have Hb := Lib.hid hb); (clear hb)
      cases hR : sRight (spD sp k).1 (spD sp k).2
      · go_wp2_with fail
        go_ret
        exact ⟨ret_bool (apart_no hlt (by simp [apOk, hR])).symm, by (repeat (first | (with_reducible exact Below.refl _ _) | (with_reducible refine Below.drew ?_) | (with_reducible refine Below.setCell ?_ ?_ _) | (with_reducible refine Below.alloc ?_ ?_ _) | (with_reducible refine Below.trans ?_ (Below.mono (RowKit.Hid.out (by with_reducible assumption)) ?_)) | omega | (simp only [World.size_alloc, World.size_setCell, World.size_drew]; omega)))⟩
      · have c40 : w1.cell? ⟨wr.heap.size, 0, none⟩ = some (.string (spD sp k).1) := by rw [hc, if_pos (by omega)]; simp [go_sem]
        have c41 : w1.cell? ⟨wr.heap.size, 1, none⟩ = some (.string (spD sp k).2) := by rw [hc, if_pos (by omega)]; simp [go_sem]
        have hB1 : Below w.heap.size w w1 := by (repeat (first | (with_reducible exact Below.refl _ _) | (with_reducible refine Below.drew ?_) | (with_reducible refine Below.setCell ?_ ?_ _) | (with_reducible refine Below.alloc ?_ ?_ _) | (with_reducible refine Below.trans ?_ (Below.mono (RowKit.Hid.out (by with_reducible assumption)) ?_)) | omega | (simp only [World.size_alloc, World.size_setCell, World.size_drew]; omega)))
        have HB1 := Lib.hid hB1
        clear hB1 hc hf
        obtain ⟨wo, hwo⟩ : ∃ wo : World, wo = wr := ⟨_, rfl⟩
        go_wp2_with fail
        subst hwo
        go_loopw [21] (fun i wi => ∃ j : Nat, j ≤ k ∧ i = .int .i64 j ∧ (∀ t, t < j → sMeet (spD sp k).1 (spD sp k).2 (spD sp t).1 (spD sp t).2 = false) ∧ Below w1.heap.size w1 wi) (fun i _ => k - (intOf i).toNat)
        case atStart => exact ⟨0, Nat.zero_le _, rfl, fun j hj => absurd hj (by omega), Below.refl _ _⟩
        case round =>
          obtain ⟨j, hj, rfl, hno, hBi⟩ := hrel
          have HN := Lib.hid hno; clear hno
          have HBi := Lib.hid hBi; clear hBi
          have hzi := HBi.out.size
          have hb2 : b < wr.heap.size := by omega
          have hw2 : wo.heap.size < wr.heap.size := by omega
          by_cases hjk : j < k
          · obtain ⟨cj0, cj1⟩ := ((HC.out.below HB1.out hb).below HBi.out (by omega)) j _ (spD_get (by omega))
            have d40 := keepc HBi.out (by simp; omega) c40
            have d41 := keepc HBi.out (by simp; omega) c41
            clear c40 c41
            go_wp2_with fail
            refine (meet_any _ _ _ _ _).mono ?_
            rintro e w2 ⟨rfl, hb⟩; obtain ⟨hc, hf, hz⟩ := belowIf hb; (try simp only [World.size_alloc, World.size_setCell, World.size_drew] at hc hf hz); (have Hb := Lib.hid hb); (clear hb)
            cases hM : sMeet (spD sp k).1 (spD sp k).2 (spD sp j).1 (spD sp j).2
            · go_wp2_with fail
              go_roundw
              case rel => exact ⟨j + 1, by omega, by go_num, fun t ht => by (rcases Nat.lt_succ_iff_lt_or_eq.1 ht with h | h; exact HN.out t h; rw [h]; exact hM), by (repeat (first | (with_reducible exact Below.refl _ _) | (with_reducible refine Below.drew ?_) | (with_reducible refine Below.setCell ?_ ?_ _) | (with_reducible refine Below.alloc ?_ ?_ _) | (with_reducible refine Below.trans ?_ (Below.mono (RowKit.Hid.out (by with_reducible assumption)) ?_)) | omega | (simp only [World.size_alloc, World.size_setCell, World.size_drew]; omega)))⟩
              case measure => simp [intOf]; omega
            · go_wp2_with fail
              go_ret
              exact ⟨ret_bool (apart_no hlt (apOk_no hjk hM)).symm, by (repeat (first | (with_reducible exact Below.refl _ _) | (with_reducible refine Below.drew ?_) | (with_reducible refine Below.setCell ?_ ?_ _) | (with_reducible refine Below.alloc ?_ ?_ _) | (with_reducible refine Below.trans ?_ (Below.mono (RowKit.Hid.out (by with_reducible assumption)) ?_)) | omega | (simp only [World.size_alloc, World.size_setCell, World.size_drew]; omega)))⟩
          · have hjk2 : j = k := by omega
            go_wp2_with fail
            go_roundw
            case rel => exact ⟨k + 1, by omega, by go_num, fun t ht => by (rcases Nat.lt_succ_iff_lt_or_eq.1 ht with h | h; exact HA.out t h; rw [h]; unfold apOk; rw [hR, Bool.true_and, List.all_eq_true]; intro x hx; rw [HN.out x (by rw [hjk2]; exact List.mem_range.1 hx)]; rfl), by (repeat (first | (with_reducible exact Below.refl _ _) | (with_reducible refine Below.drew ?_) | (with_reducible refine Below.setCell ?_ ?_ _) | (with_reducible refine Below.alloc ?_ ?_ _) | (with_reducible refine Below.trans ?_ (Below.mono (RowKit.Hid.out (by with_reducible assumption)) ?_)) | omega | (simp only [World.size_alloc, World.size_setCell, World.size_drew]; omega)))⟩
            case measure => simp [intOf]; omega
    · go_wp2_with fail
      go_ret
      have hkn : k = sp.length := by omega
      exact ⟨ret_bool (by
        have hq4 : (List.range sp.length).all (apOk sp) = true := List.all_eq_true.2 fun j hj => HA.out j (by rw [hkn]; exact List.mem_range.1 hj)
        simp [sApart, hq4]), by (repeat (first | (with_reducible exact Below.refl _ _) | (with_reducible refine Below.drew ?_) | (with_reducible refine Below.setCell ?_ ?_ _) | (with_reducible refine Below.alloc ?_ ?_ _) | (with_reducible refine Below.trans ?_ (Below.mono (RowKit.Hid.out (by with_reducible assumption)) ?_)) | omega | (simp only [World.size_alloc, World.size_setCell, World.size_drew]; omega)))⟩
end Go.Proofs.Ytjklcpfkmnjjkaa
