/- Contracts of the document's answers on spans (wardmoteref7): each computes what package span computes. -/
import Derived.Test.YtjklcpfkmnjjkaaSpanList
namespace Go.Proofs.Ytjklcpfkmnjjkaa
open Go.RowKit
set_option linter.unusedSimpArgs false
set_option linter.unusedVariables false

theorem rright_any (lo hi : ByteArray) (w : World) :
    Calls Try.prog 50 #[.agg #[.string lo, .string hi]] w fun e w' => e = .returned (.bool (sRight lo hi)) ∧ Below w.heap.size w w' := by
  go_enter Try.func50, Try.ntmps50
  go_wp2
  all_goals go_ret
  all_goals refine ⟨ret_bool ?_, by (repeat (first | (with_reducible exact Below.refl _ _) | (with_reducible refine Below.drew ?_) | (with_reducible refine Below.setCell ?_ ?_ _) | (with_reducible refine Below.alloc ?_ ?_ _) | (with_reducible refine Below.trans ?_ (Below.mono (RowKit.Hid.out (by with_reducible assumption)) ?_)) | omega | (simp only [World.size_alloc, World.size_setCell, World.size_drew]; omega)))⟩
  all_goals simp [sRight, *]
  all_goals omega

theorem rhas_any (lo hi s : ByteArray) (w : World) :
    Calls Try.prog 51 #[.agg #[.string lo, .string hi], .string s] w fun e w' => e = .returned (.bool (sHas lo hi s)) ∧ Below w.heap.size w w' := by
  go_enter Try.func51, Try.ntmps51
  go_wp2
  all_goals go_ret
  all_goals refine ⟨ret_bool ?_, by (repeat (first | (with_reducible exact Below.refl _ _) | (with_reducible refine Below.drew ?_) | (with_reducible refine Below.setCell ?_ ?_ _) | (with_reducible refine Below.alloc ?_ ?_ _) | (with_reducible refine Below.trans ?_ (Below.mono (RowKit.Hid.out (by with_reducible assumption)) ?_)) | omega | (simp only [World.size_alloc, World.size_setCell, World.size_drew]; omega)))⟩
  all_goals simp [sHas, *]

def rMeet (alo ahi blo bhi : ByteArray) : Bool := sRight alo ahi && (sRight blo bhi && ((ahi.toList.isEmpty || Op.bytesLess blo.toList ahi.toList) && (bhi.toList.isEmpty || Op.bytesLess alo.toList bhi.toList)))
theorem rmeet_any (alo ahi blo bhi : ByteArray) (w : World) :
    Calls Try.prog 52 #[.agg #[.string alo, .string ahi], .agg #[.string blo, .string bhi]] w fun e w' => e = .returned (.bool (rMeet alo ahi blo bhi)) ∧ Below w.heap.size w w' := by
  go_enter Try.func52, Try.ntmps52
  go_wp2_with (first | (go_at_call 50; (with_reducible refine (rright_any _ _ _).mono ?_); rintro e w' ⟨rfl, hb⟩; obtain ⟨hc, hf, hz⟩ := belowIf hb; (try simp only [World.size_alloc, World.size_setCell, World.size_drew] at hc hf hz); (have Hb := Lib.hid hb); (clear hb)))
  all_goals go_ret
  all_goals refine ⟨ret_bool ?_, by (repeat (first | (with_reducible exact Below.refl _ _) | (with_reducible refine Below.drew ?_) | (with_reducible refine Below.setCell ?_ ?_ _) | (with_reducible refine Below.alloc ?_ ?_ _) | (with_reducible refine Below.trans ?_ (Below.mono (RowKit.Hid.out (by with_reducible assumption)) ?_)) | omega | (simp only [World.size_alloc, World.size_setCell, World.size_drew]; omega)))⟩
  all_goals simp [rMeet, *]

def rSplitB (lo hi s : ByteArray) : Bool := sRight lo hi && (!decide ((16 : Int) < (s.size : Int)) && (Op.bytesLess lo.toList s.toList && (hi.toList.isEmpty || Op.bytesLess s.toList hi.toList)))
def rSplit (lo hi s : ByteArray) : Value := if rSplitB lo hi s then .tuple #[.agg #[.string lo, .string s], .agg #[.string s, .string hi], .bool true] else .tuple #[.agg #[.string ⟨#[]⟩, .string ⟨#[]⟩], .agg #[.string ⟨#[]⟩, .string ⟨#[]⟩], .bool false]
set_option maxHeartbeats 1000000 in
theorem rsplit_any (lo hi s : ByteArray) (w : World) :
    Calls Try.prog 48 #[.agg #[.string lo, .string hi], .string s] w fun e w' => e = .returned (rSplit lo hi s) ∧ Below w.heap.size w w' := by
  go_enter Try.func48, Try.ntmps48
  go_upto_region 3 with (first | (go_at_call 50; (with_reducible refine (rright_any _ _ _).mono ?_); rintro e w' ⟨rfl, hb⟩; obtain ⟨hc, hf, hz⟩ := belowIf hb; (try simp only [World.size_alloc, World.size_setCell, World.size_drew] at hc hf hz); (have Hb := Lib.hid hb); (clear hb)))
  all_goals (try (go_region; go_wp2))
  all_goals (refine bodyPost_ret (by simp [results, Try.results48, go_sem, ↓IntWalk.iteOmega, *]; try rfl) rfl ?_)
  all_goals refine ⟨?_, by (repeat (first | (with_reducible exact Below.refl _ _) | (with_reducible refine Below.drew ?_) | (with_reducible refine Below.setCell ?_ ?_ _) | (with_reducible refine Below.alloc ?_ ?_ _) | (with_reducible refine Below.trans ?_ (Below.mono (RowKit.Hid.out (by with_reducible assumption)) ?_)) | omega | (simp only [World.size_alloc, World.size_setCell, World.size_drew]; omega)))⟩
  all_goals (go_light; simp_all [rSplit, rSplitB]; try omega)

def rJoinB (alo ahi blo bhi : ByteArray) : Bool := sRight alo ahi && (sRight blo bhi && (!ahi.toList.isEmpty && ahi.toList == blo.toList))
def rJoin (alo ahi blo bhi : ByteArray) : Value := if rJoinB alo ahi blo bhi then .tuple #[.agg #[.string alo, .string bhi], .bool true] else .tuple #[.agg #[.string ⟨#[]⟩, .string ⟨#[]⟩], .bool false]
theorem rjoin_any (alo ahi blo bhi : ByteArray) (w : World) :
    Calls Try.prog 49 #[.agg #[.string alo, .string ahi], .agg #[.string blo, .string bhi]] w fun e w' => e = .returned (rJoin alo ahi blo bhi) ∧ Below w.heap.size w w' := by
  go_enter Try.func49, Try.ntmps49
  go_wp2_with (first | (go_at_call 50; (with_reducible refine (rright_any _ _ _).mono ?_); rintro e w' ⟨rfl, hb⟩; obtain ⟨hc, hf, hz⟩ := belowIf hb; (try simp only [World.size_alloc, World.size_setCell, World.size_drew] at hc hf hz); (have Hb := Lib.hid hb); (clear hb)))
  all_goals (refine bodyPost_ret (by simp [results, Try.results49, go_sem, ↓IntWalk.iteOmega, *]; try rfl) rfl ?_)
  all_goals refine ⟨?_, by (repeat (first | (with_reducible exact Below.refl _ _) | (with_reducible refine Below.drew ?_) | (with_reducible refine Below.setCell ?_ ?_ _) | (with_reducible refine Below.alloc ?_ ?_ _) | (with_reducible refine Below.trans ?_ (Below.mono (RowKit.Hid.out (by with_reducible assumption)) ?_)) | omega | (simp only [World.size_alloc, World.size_setCell, World.size_drew]; omega)))⟩
  all_goals (go_light; simp_all [rJoin, rJoinB]; try omega)

def prevHi (sp : List (ByteArray × ByteArray)) (i : Nat) : ByteArray := if i = 0 then ⟨#[]⟩ else (spD sp (i - 1)).2
theorem ltB (a b : ByteArray) : (a.data.toList < b.data.toList) ↔ Op.bytesLess a.toList b.toList = true := by
  rw [Proofs.bytesLess_eq, Lib.toList_data, Lib.toList_data]; simp
theorem right_low {lo hi : ByteArray} (h : sRight lo hi = true) : (hi.toList.isEmpty || Op.bytesLess lo.toList hi.toList) = true := by
  unfold sRight at h; simp only [Bool.and_eq_true] at h; exact h.2
theorem less_of_not {a b c : List UInt8} (h : Op.bytesLess a b = false) (h2 : Op.bytesLess a c = true) : Op.bytesLess b c = true := by
  rcases bl_tri a b with h1 | h1 | h1
  · rw [h1] at h; cases h
  · subst h1; exact h2
  · exact bl_trans h1 h2
theorem sMeet_eq (alo ahi blo bhi : ByteArray) : sMeet alo ahi blo bhi = rMeet alo ahi blo bhi := by
  unfold sMeet rMeet
  cases hA : sRight alo ahi
  · rfl
  · cases hB : sRight blo bhi
    · rfl
    · have a1 := right_low hA
      have b1 := right_low hB
      simp only [Bool.true_and]
      unfold sHas
      cases hl : Op.bytesLess alo.toList blo.toList
      · have hm : Lib.maxS alo blo = alo := by unfold Lib.maxS; rw [if_neg (by rw [ltB, hl]; simp)]
        rw [hm, bl_irrefl, hl, a1]
        have : (ahi.toList.isEmpty || Op.bytesLess blo.toList ahi.toList) = true := by
          cases he : ahi.toList.isEmpty
          · rw [he, Bool.false_or] at a1; rw [Bool.false_or]; exact less_of_not hl a1
          · rfl
        rw [this]
        simp only [Bool.not_false, Bool.true_and]
      · have hm : Lib.maxS alo blo = blo := by unfold Lib.maxS; rw [if_pos (by rw [ltB, hl])]
        rw [hm, bl_irrefl, bl_asymm hl, b1]
        have : (bhi.toList.isEmpty || Op.bytesLess alo.toList bhi.toList) = true := by
          cases he : bhi.toList.isEmpty
          · rw [he, Bool.false_or] at b1; rw [Bool.false_or]; exact bl_trans hl b1
          · rfl
        rw [this]
        simp only [Bool.not_false, Bool.true_and, Bool.and_true]
theorem split_eq (lo hi s : ByteArray) : rSplit lo hi s = sSplit lo hi s := by
  have : rSplitB lo hi s = sSplitB lo hi s := by
    unfold rSplitB sSplitB
    cases hR : sRight lo hi
    · rfl
    · cases hl : Op.bytesLess lo.toList s.toList
      · simp
      · have : sRight lo s = !decide ((16 : Int) < (s.size : Int)) := by
          unfold sRight at hR ⊢
          simp only [Bool.and_eq_true, decide_eq_true_eq] at hR
          rw [hl, Bool.or_true, Bool.and_true, decide_eq_true hR.1.1, Bool.true_and]
          by_cases h : (s.size : Int) ≤ 16
          · rw [decide_eq_true h, decide_eq_false (by omega)]; rfl
          · rw [decide_eq_false h, decide_eq_true (by omega)]; rfl
        rw [this]
        cases (!decide ((16 : Int) < (s.size : Int))) <;> simp
  unfold rSplit sSplit; rw [this]
theorem join_eq (alo ahi blo bhi : ByteArray) : rJoin alo ahi blo bhi = sJoin alo ahi blo bhi := by
  have : rJoinB alo ahi blo bhi = sJoinB alo ahi blo bhi := by
    unfold rJoinB sJoinB
    cases sRight alo ahi <;> cases sRight blo bhi <;> cases ahi.toList.isEmpty <;> cases (ahi.toList == blo.toList) <;> rfl
  unfold rJoin sJoin; rw [this]

/-- the next span's lower end must be the last one's upper end -/
def rcOk (sp : List (ByteArray × ByteArray)) (i : Nat) : Bool := sRight (spD sp i).1 (spD sp i).2 && (((spD sp i).1.toList == (prevHi sp i).toList) && ((spD sp i).2.toList.isEmpty == decide (i + 1 = sp.length)))
def rCover (sp : List (ByteArray × ByteArray)) : Bool := (List.range sp.length).all (rcOk sp) && decide (0 < sp.length)
theorem rcover_no {sp : List (ByteArray × ByteArray)} {k : Nat} (hk : k < sp.length) (h : rcOk sp k = false) : rCover sp = false := by
  have : (List.range sp.length).all (rcOk sp) = false := by
    rw [List.all_eq_false]; exact ⟨k, List.mem_range.2 hk, by simp [h]⟩
  simp [rCover, this]
set_option maxHeartbeats 1000000 in
theorem rcover_some (b off c : Nat) (sp : List (ByteArray × ByteArray)) (w : World) (hm : sp.length ≤ 4611686018427387904) (hb : b < w.heap.size) (hc : SpAt w b off sp) :
    Calls Try.prog 53 #[.slice (some ⟨b, off, none⟩) sp.length c] w fun e w' => e = .returned (.bool (rCover sp)) ∧ Below w.heap.size w w' := by
  have HC := Lib.hid hc; clear hc
  go_enter Try.func53, Try.ntmps53
  go_wp2_with fail
  go_loopw [3, 4] (fun lo i wr => ∃ k : Nat, k ≤ sp.length ∧ i = .int .i64 k ∧ lo = .string (prevHi sp k) ∧ (∀ j, j < k → rcOk sp j = true) ∧ Below w.heap.size w wr) (fun _ i _ => sp.length - (intOf i).toNat)
  case atStart => exact ⟨0, Nat.zero_le _, rfl, rfl, fun j hj => absurd hj (by omega), Below.refl _ _⟩
  case round =>
    obtain ⟨k, hk, rfl, rfl, hall, hB⟩ := hrel
    have HA := Lib.hid hall; clear hall
    have HB := Lib.hid hB; clear hB
    have hz := HB.out.size
    have hb1 : b < wr.heap.size := by omega
    by_cases hlt : k < sp.length
    · obtain ⟨ck0, ck1⟩ := (HC.out.below HB.out hb) k _ (spD_get hlt)
      go_wp2_with fail
      refine (rright_any _ _ _).mono ?_
      rintro e w1 ⟨rfl, hb⟩; obtain ⟨hc, hf, hz⟩ := belowIf hb; (try simp only [World.size_alloc, World.size_setCell, World.size_drew] at hc hf hz); (have Hb := Lib.hid hb); (clear hb)
      have hnext : prevHi sp (k + 1) = (spD sp k).2 := by simp [prevHi]
      by_cases hl : k + 1 = sp.length <;> cases hR : sRight (spD sp k).1 (spD sp k).2 <;> cases hL : ((spD sp k).1.toList == (prevHi sp k).toList) <;> cases hE : (spD sp k).2.toList.isEmpty
      all_goals
        have hok : rcOk sp k = (sRight (spD sp k).1 (spD sp k).2 && (((spD sp k).1.toList == (prevHi sp k).toList) && ((spD sp k).2.toList.isEmpty == decide (k + 1 = sp.length)))) := rfl
        rw [hR, hL, hE] at hok
        simp [hl] at hok
        have HO := Lib.hid hok
        clear hok
        have HK := Lib.hid hnext
        clear hnext
        first
          | (have hlb : ((k : Int) + 1 == (sp.length : Int)) = true := by rw [beq_iff_eq]; omega)
          | (have hlb : ((k : Int) + 1 == (sp.length : Int)) = false := by rw [beq_eq_false_iff_ne]; omega)
        have HL := Lib.hid hl
        clear hl
        go_wp2_with fail
        first
          | (go_ret; exact ⟨ret_bool (rcover_no hlt HO.out).symm, by (repeat (first | (with_reducible exact Below.refl _ _) | (with_reducible refine Below.drew ?_) | (with_reducible refine Below.setCell ?_ ?_ _) | (with_reducible refine Below.alloc ?_ ?_ _) | (with_reducible refine Below.trans ?_ (Below.mono (RowKit.Hid.out (by with_reducible assumption)) ?_)) | omega | (simp only [World.size_alloc, World.size_setCell, World.size_drew]; omega)))⟩)
          | (go_roundw
             case rel => exact ⟨k + 1, by omega, by go_num, by rw [HK.out], fun j hj => by (rcases Nat.lt_succ_iff_lt_or_eq.1 hj with h | h; exact HA.out j h; rw [h]; exact HO.out), by (repeat (first | (with_reducible exact Below.refl _ _) | (with_reducible refine Below.drew ?_) | (with_reducible refine Below.setCell ?_ ?_ _) | (with_reducible refine Below.alloc ?_ ?_ _) | (with_reducible refine Below.trans ?_ (Below.mono (RowKit.Hid.out (by with_reducible assumption)) ?_)) | omega | (simp only [World.size_alloc, World.size_setCell, World.size_drew]; omega)))⟩
             case measure => simp [intOf]; omega)
    · have hkn : k = sp.length := by omega
      go_wp2_with fail
      all_goals go_ret
      all_goals exact ⟨ret_bool (by
        have hq4 : (List.range sp.length).all (rcOk sp) = true := List.all_eq_true.2 fun j hj => HA.out j (by rw [hkn]; exact List.mem_range.1 hj)
        simp [rCover, hq4]), by (repeat (first | (with_reducible exact Below.refl _ _) | (with_reducible refine Below.drew ?_) | (with_reducible refine Below.setCell ?_ ?_ _) | (with_reducible refine Below.alloc ?_ ?_ _) | (with_reducible refine Below.trans ?_ (Below.mono (RowKit.Hid.out (by with_reducible assumption)) ?_)) | omega | (simp only [World.size_alloc, World.size_setCell, World.size_drew]; omega)))⟩

set_option maxHeartbeats 1000000 in
theorem rapart_some (b off c : Nat) (sp : List (ByteArray × ByteArray)) (w : World) (hm : sp.length ≤ 4611686018427387904) (hb : b < w.heap.size) (hc : SpAt w b off sp) :
    Calls Try.prog 54 #[.slice (some ⟨b, off, none⟩) sp.length c] w fun e w' => e = .returned (.bool (sApart sp)) ∧ Below w.heap.size w w' := by
  have HC := Lib.hid hc; clear hc
  go_enter Try.func54, Try.ntmps54
  go_wp2_with fail
  go_loopw [3] (fun i wr => ∃ k : Nat, k ≤ sp.length ∧ i = .int .i64 k ∧ (∀ j, j < k → apOk sp j = true) ∧ Below w.heap.size w wr) (fun i _ => sp.length - (intOf i).toNat)
  case atStart => exact ⟨0, Nat.zero_le _, rfl, fun j hj => absurd hj (by omega), Below.refl _ _⟩
  case round =>
    obtain ⟨k, hk, rfl, hall, hB⟩ := hrel
    have HA := Lib.hid hall; clear hall
    have HB := Lib.hid hB; clear hB
    have hz := HB.out.size
    have hb1 : b < wr.heap.size := by omega
    by_cases hlt : k < sp.length
    · obtain ⟨ck0, ck1⟩ := (HC.out.below HB.out hb) k _ (spD_get hlt)
      go_wp2_with fail
      refine (rright_any _ _ _).mono ?_
      rintro e w1 ⟨rfl, hb⟩; obtain ⟨hc, hf, hz⟩ := belowIf hb; (try simp only [World.size_alloc, World.size_setCell, World.size_drew] at hc hf hz); (have Hb := Lib.hid hb); (clear hb)
      cases hR : sRight (spD sp k).1 (spD sp k).2
      · go_wp2_with fail
        go_ret
        exact ⟨ret_bool (apart_no hlt (by simp [apOk, hR])).symm, by (repeat (first | (with_reducible exact Below.refl _ _) | (with_reducible refine Below.drew ?_) | (with_reducible refine Below.setCell ?_ ?_ _) | (with_reducible refine Below.alloc ?_ ?_ _) | (with_reducible refine Below.trans ?_ (Below.mono (RowKit.Hid.out (by with_reducible assumption)) ?_)) | omega | (simp only [World.size_alloc, World.size_setCell, World.size_drew]; omega)))⟩
      · have hB1 : Below w.heap.size w w1 := by (repeat (first | (with_reducible exact Below.refl _ _) | (with_reducible refine Below.drew ?_) | (with_reducible refine Below.setCell ?_ ?_ _) | (with_reducible refine Below.alloc ?_ ?_ _) | (with_reducible refine Below.trans ?_ (Below.mono (RowKit.Hid.out (by with_reducible assumption)) ?_)) | omega | (simp only [World.size_alloc, World.size_setCell, World.size_drew]; omega)))
        have HB1 := Lib.hid hB1
        clear hB1 hc hf
        obtain ⟨wo, hwo⟩ : ∃ wo : World, wo = wr := ⟨_, rfl⟩
        go_wp2_with fail
        subst hwo
        go_loopw [4] (fun i wi => ∃ j : Nat, j ≤ k ∧ i = .int .i64 j ∧ (∀ t, t < j → rMeet (spD sp k).1 (spD sp k).2 (spD sp t).1 (spD sp t).2 = false) ∧ Below w1.heap.size w1 wi) (fun i _ => k - (intOf i).toNat)
        case atStart => exact ⟨0, Nat.zero_le _, rfl, fun j hj => absurd hj (by omega), Below.refl _ _⟩
        case round =>
          obtain ⟨j, hj, rfl, hno, hBi⟩ := hrel
          have HN := Lib.hid hno; clear hno
          have HBi := Lib.hid hBi; clear hBi
          have hzi := HBi.out.size
          have hb2 : b < wr.heap.size := by omega
          by_cases hjk : j < k
          · obtain ⟨cj0, cj1⟩ := ((HC.out.below HB1.out hb).below HBi.out (by omega)) j _ (spD_get (by omega))
            obtain ⟨ci0, ci1⟩ := ((HC.out.below HB1.out hb).below HBi.out (by omega)) k _ (spD_get (by omega))
            go_upto_region 9 with fail
            go_cut [30] (fun t wx => t = .bool (rMeet (spD sp k).1 (spD sp k).2 (spD sp j).1 (spD sp j).2) ∧ Below wr.heap.size wr wx)
            case first =>
              have hxc := fun (x : WExt wr.heap.size wr) => x.cell
              (refine wp_region_ext (wr.heap.size) (by kernel_rfl) (by kernel_rfl) ?_; (repeat (go_big_quiet_step (first | (go_at_call 52; exact quiet_ext _ (by first | exact Nat.le_refl _ | omega | (simp only [World.size_alloc, World.size_setCell, World.size_drew]; omega)) (rmeet_any _ _ _ _ _))))); refine wpQuiet_nil ?_; intro _ hw'; obtain ⟨xq, hw''⟩ := hw'; subst hw''; have HX := Lib.hid xq.2)
              go_wp2_with fail
              go_meet
              exact ⟨rfl, by (repeat (first | (with_reducible exact Below.refl _ _) | (with_reducible refine Below.drew ?_) | (with_reducible refine Below.setCell ?_ ?_ _) | (with_reducible refine Below.alloc ?_ ?_ _) | (with_reducible refine Below.trans ?_ (Below.mono (RowKit.Hid.out (by with_reducible assumption)) ?_)) | omega | (simp only [World.size_alloc, World.size_setCell, World.size_drew]; omega)))⟩
            case rest =>
              obtain ⟨rfl, hb⟩ := hcut
              (have hz := hb.size); (try simp only [World.size_alloc, World.size_setCell, World.size_drew] at hz); (have Hb := Lib.hid hb); (clear hb); (try have hz0 : w.heap.size < (wc).heap.size := (by omega)); (try have hz1 : w.heap.size + 1 < (wc).heap.size := (by omega)); (try have hz2 : w.heap.size + 1 + 1 < (wc).heap.size := (by omega)); (try have hz3 : w.heap.size + 1 + 1 + 1 < (wc).heap.size := (by omega))
              cases hM : rMeet (spD sp k).1 (spD sp k).2 (spD sp j).1 (spD sp j).2
              · go_wp2_with fail
                go_roundw
                case rel => exact ⟨j + 1, by omega, by go_num, fun t ht => by (rcases Nat.lt_succ_iff_lt_or_eq.1 ht with h | h; exact HN.out t h; rw [h]; exact hM), by (repeat (first | (with_reducible exact Below.refl _ _) | (with_reducible refine Below.drew ?_) | (with_reducible refine Below.setCell ?_ ?_ _) | (with_reducible refine Below.alloc ?_ ?_ _) | (with_reducible refine Below.trans ?_ (Below.mono (RowKit.Hid.out (by with_reducible assumption)) ?_)) | omega | (simp only [World.size_alloc, World.size_setCell, World.size_drew]; omega)))⟩
                case measure => simp [intOf]; omega
              · go_wp2_with fail
                go_ret
                exact ⟨ret_bool (apart_no hlt (apOk_no hjk (by rw [sMeet_eq]; exact hM))).symm, by (repeat (first | (with_reducible exact Below.refl _ _) | (with_reducible refine Below.drew ?_) | (with_reducible refine Below.setCell ?_ ?_ _) | (with_reducible refine Below.alloc ?_ ?_ _) | (with_reducible refine Below.trans ?_ (Below.mono (RowKit.Hid.out (by with_reducible assumption)) ?_)) | omega | (simp only [World.size_alloc, World.size_setCell, World.size_drew]; omega)))⟩
          · have hjk2 : j = k := by omega
            go_wp2_with fail
            go_roundw
            case rel => exact ⟨k + 1, by omega, by go_num, fun t ht => by (rcases Nat.lt_succ_iff_lt_or_eq.1 ht with h | h; exact HA.out t h; rw [h]; unfold apOk; rw [hR, Bool.true_and, List.all_eq_true]; intro x hx; rw [sMeet_eq, HN.out x (by rw [hjk2]; exact List.mem_range.1 hx)]; rfl), by (repeat (first | (with_reducible exact Below.refl _ _) | (with_reducible refine Below.drew ?_) | (with_reducible refine Below.setCell ?_ ?_ _) | (with_reducible refine Below.alloc ?_ ?_ _) | (with_reducible refine Below.trans ?_ (Below.mono (RowKit.Hid.out (by with_reducible assumption)) ?_)) | omega | (simp only [World.size_alloc, World.size_setCell, World.size_drew]; omega)))⟩
            case measure => simp [intOf]; omega
    · have hkn : k = sp.length := by omega
      go_wp2_with fail
      go_ret
      exact ⟨ret_bool (by
        have hq4 : (List.range sp.length).all (apOk sp) = true := List.all_eq_true.2 fun j hj => HA.out j (by rw [hkn]; exact List.mem_range.1 hj)
        simp [sApart, hq4]), by (repeat (first | (with_reducible exact Below.refl _ _) | (with_reducible refine Below.drew ?_) | (with_reducible refine Below.setCell ?_ ?_ _) | (with_reducible refine Below.alloc ?_ ?_ _) | (with_reducible refine Below.trans ?_ (Below.mono (RowKit.Hid.out (by with_reducible assumption)) ?_)) | omega | (simp only [World.size_alloc, World.size_setCell, World.size_drew]; omega)))⟩

theorem prevHi_succ (sp : List (ByteArray × ByteArray)) (i : Nat) : prevHi sp (i + 1) = (spD sp i).2 := by simp [prevHi]
theorem cover_eq (sp : List (ByteArray × ByteArray)) : rCover sp = sCover sp := by
  rw [Bool.eq_iff_iff]
  unfold rCover sCover
  simp only [Bool.and_eq_true, List.all_eq_true, List.mem_range, decide_eq_true_eq]
  constructor
  · rintro ⟨hall, hn⟩
    have hr : ∀ i, i < sp.length → sRight (spD sp i).1 (spD sp i).2 = true ∧ (spD sp i).1.toList = (prevHi sp i).toList ∧ ((spD sp i).2.toList.isEmpty = decide (i + 1 = sp.length)) := fun i hi => by
      have := hall i hi
      unfold rcOk at this
      simp only [Bool.and_eq_true, beq_iff_eq] at this
      exact ⟨this.1, this.2.1, this.2.2⟩
    refine ⟨by cases sp with | nil => simp at hn | cons => rfl, ?_, ?_, fun i hi => ?_⟩
    · rw [(hr 0 hn).2.1]; simp [prevHi, Lib.toList_data]
    · rw [(hr _ (by omega)).2.2, decide_eq_true (by omega)]
    · unfold cvOk
      rw [(hr i hi).1, Bool.true_and]
      match i, hi with
      | 0, _ => rfl
      | j + 1, hi =>
        have h1 := (hr (j + 1) hi).2.1
        have h2 := (hr j (by omega)).2.2
        rw [prevHi_succ] at h1
        rw [decide_eq_false (by omega)] at h2
        simp [h1, h2]
  · rintro ⟨hne, h0, h1, hall⟩
    have hn : 0 < sp.length := by cases sp with | nil => simp at hne | cons => simp
    have hr : ∀ i, i < sp.length → sRight (spD sp i).1 (spD sp i).2 = true ∧ (i = 0 ∨ ((spD sp i).1.toList.isEmpty = false ∧ (spD sp (i - 1)).2.toList = (spD sp i).1.toList)) := fun i hi => by
      have := hall i hi
      unfold cvOk at this
      simp only [Bool.and_eq_true, Bool.or_eq_true, beq_iff_eq, Bool.not_eq_true'] at this
      exact this
    refine ⟨fun i hi => ?_, hn⟩
    unfold rcOk
    simp only [Bool.and_eq_true, beq_iff_eq]
    refine ⟨(hr i hi).1, ?_, ?_⟩
    · match i, hi with
      | 0, _ => simp [prevHi, Lib.toList_data]; simpa [Lib.toList_data] using h0
      | j + 1, hi =>
        rw [prevHi_succ]
        rcases (hr (j + 1) hi).2 with h | h
        · omega
        · exact h.2.symm
    · by_cases hl : i + 1 = sp.length
      · rw [decide_eq_true hl]
        have : i = sp.length - 1 := by omega
        rw [this]; exact h1
      · rw [decide_eq_false hl]
        rcases (hr (i + 1) (by omega)).2 with h | h
        · omega
        · rw [show i + 1 - 1 = i from rfl] at h
          rw [h.2]; exact h.1

theorem rsplit_t (lo hi s : ByteArray) (w : World) :
    Calls Try.prog 48 #[.agg #[.string lo, .string hi], .string s] w fun e w' => e = .returned (.tuple #[.agg #[.string (sel (sSplitB lo hi s) lo), .string (sel (sSplitB lo hi s) s)], .agg #[.string (sel (sSplitB lo hi s) s), .string (sel (sSplitB lo hi s) hi)], .bool (sSplitB lo hi s)]) ∧ Below w.heap.size w w' :=
  (rsplit_any lo hi s w).mono fun e w' ⟨he, hb⟩ => ⟨by rw [he, split_eq]; unfold sSplit; cases sSplitB lo hi s <;> simp [sel], hb⟩
theorem rjoin_t (alo ahi blo bhi : ByteArray) (w : World) :
    Calls Try.prog 49 #[.agg #[.string alo, .string ahi], .agg #[.string blo, .string bhi]] w fun e w' => e = .returned (.tuple #[.agg #[.string (sel (sJoinB alo ahi blo bhi) alo), .string (sel (sJoinB alo ahi blo bhi) bhi)], .bool (sJoinB alo ahi blo bhi)]) ∧ Below w.heap.size w w' :=
  (rjoin_any alo ahi blo bhi w).mono fun e w' ⟨he, hb⟩ => ⟨by rw [he, join_eq]; unfold sJoin; cases sJoinB alo ahi blo bhi <;> simp [sel], hb⟩
end Go.Proofs.Ytjklcpfkmnjjkaa
