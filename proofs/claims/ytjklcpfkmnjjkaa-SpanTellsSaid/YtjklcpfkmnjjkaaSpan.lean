/- Contracts of the functions of package span that work on plain spans. -/
import Derived.Test.YtjklcpfkmnjjkaaChecked
import Derived.Test.YtjklcpfkmnjjkaaPlain
namespace Go.Proofs.Ytjklcpfkmnjjkaa
open Go.RowKit
set_option linter.unusedSimpArgs false
set_option linter.unusedVariables false

/-- a span that may be -/
def sRight (lo hi : ByteArray) : Bool := decide ((lo.size : Int) ≤ 16) && decide ((hi.size : Int) ≤ 16) && (hi.toList.isEmpty || Op.bytesLess lo.toList hi.toList)
def sHas (lo hi s : ByteArray) : Bool := !Op.bytesLess s.toList lo.toList && (hi.toList.isEmpty || Op.bytesLess s.toList hi.toList)

theorem right_any (lo hi : ByteArray) (w : World) :
    Calls Try.prog 14 #[.agg #[.string lo, .string hi]] w fun e w' => e = .returned (.bool (sRight lo hi)) ∧ Below w.heap.size w w' := by
  go_enter Try.func14, Try.ntmps14
  go_wp2
  all_goals go_ret
  all_goals refine ⟨ret_bool ?_, by go_grown⟩
  all_goals simp [sRight, *]
  all_goals omega

theorem has_any (lo hi s : ByteArray) (w : World) :
    Calls Try.prog 15 #[.agg #[.string lo, .string hi], .string s] w fun e w' => e = .returned (.bool (sHas lo hi s)) ∧ Below w.heap.size w w' := by
  go_enter Try.func15, Try.ntmps15
  go_wp2
  all_goals go_ret
  all_goals refine ⟨ret_bool ?_, by go_grown⟩
  all_goals simp [sHas, *]

def sMeet (alo ahi blo bhi : ByteArray) : Bool := sRight alo ahi && (sRight blo bhi && (sHas alo ahi (Lib.maxS alo blo) && sHas blo bhi (Lib.maxS alo blo)))
theorem meet_any (alo ahi blo bhi : ByteArray) (w : World) :
    Calls Try.prog 18 #[.agg #[.string alo, .string ahi], .agg #[.string blo, .string bhi]] w fun e w' => e = .returned (.bool (sMeet alo ahi blo bhi)) ∧ Below w.heap.size w w' := by
  have hmax := fun (w : World) => Lib.run_max_strs (P := Try.prog) w #[9, 9] 9 alo blo
  go_enter Try.func18, Try.ntmps18
  go_wp2_with (first | (go_at_call 14; (with_reducible refine (right_any _ _ _).mono ?_); rintro e w' ⟨rfl, hb⟩; (have n0 : w'.cell? ⟨w.heap.size, 0, none⟩ = some (.string alo) := keepc hb (by first | (simp; done) | (simp; omega)) (by first | (with_reducible assumption) | (simp [go_sem]; done) | go_cell)); (have n1 : w'.cell? ⟨w.heap.size, 1, none⟩ = some (.string ahi) := keepc hb (by first | (simp; done) | (simp; omega)) (by first | (with_reducible assumption) | (simp [go_sem]; done) | go_cell)); (have n0 : w'.cell? ⟨w.heap.size + 1, 0, none⟩ = some (.string blo) := keepc hb (by first | (simp; done) | (simp; omega)) (by first | (with_reducible assumption) | (simp [go_sem]; done) | go_cell)); (have n1 : w'.cell? ⟨w.heap.size + 1, 1, none⟩ = some (.string bhi) := keepc hb (by first | (simp; done) | (simp; omega)) (by first | (with_reducible assumption) | (simp [go_sem]; done) | go_cell)); (have hz := hb.size); (try simp only [World.size_alloc, World.size_setCell, World.size_drew] at hz); (have Hb := Lib.hid hb); (clear hb)) | (go_at_call 15; (with_reducible refine (has_any _ _ _ _).mono ?_); rintro e w' ⟨rfl, hb⟩; (have n0 : w'.cell? ⟨w.heap.size, 0, none⟩ = some (.string alo) := keepc hb (by first | (simp; done) | (simp; omega)) (by first | (with_reducible assumption) | (simp [go_sem]; done) | go_cell)); (have n1 : w'.cell? ⟨w.heap.size, 1, none⟩ = some (.string ahi) := keepc hb (by first | (simp; done) | (simp; omega)) (by first | (with_reducible assumption) | (simp [go_sem]; done) | go_cell)); (have n0 : w'.cell? ⟨w.heap.size + 1, 0, none⟩ = some (.string blo) := keepc hb (by first | (simp; done) | (simp; omega)) (by first | (with_reducible assumption) | (simp [go_sem]; done) | go_cell)); (have n1 : w'.cell? ⟨w.heap.size + 1, 1, none⟩ = some (.string bhi) := keepc hb (by first | (simp; done) | (simp; omega)) (by first | (with_reducible assumption) | (simp [go_sem]; done) | go_cell)); (have hz := hb.size); (try simp only [World.size_alloc, World.size_setCell, World.size_drew] at hz); (have Hb := Lib.hid hb); (clear hb)))
  all_goals go_ret
  all_goals refine ⟨ret_bool ?_, by (repeat (first | (with_reducible exact Below.refl _ _) | (with_reducible refine Below.drew ?_) | (with_reducible refine Below.setCell ?_ ?_ _) | (with_reducible refine Below.alloc ?_ ?_ _) | (with_reducible refine Below.trans ?_ (Below.mono (RowKit.Hid.out (by with_reducible assumption)) ?_)) | omega | (simp only [World.size_alloc, World.size_setCell, World.size_drew]; omega)))⟩
  all_goals simp [sMeet, *]

def sJoinB (alo ahi blo bhi : ByteArray) : Bool := sRight alo ahi && (sRight blo bhi && (ahi.toList == blo.toList && !ahi.toList.isEmpty))
def sJoin (alo ahi blo bhi : ByteArray) : Value := if sJoinB alo ahi blo bhi then .tuple #[.agg #[.string alo, .string bhi], .bool true] else .tuple #[.agg #[.string ⟨#[]⟩, .string ⟨#[]⟩], .bool false]
theorem join_any (alo ahi blo bhi : ByteArray) (w : World) :
    Calls Try.prog 17 #[.agg #[.string alo, .string ahi], .agg #[.string blo, .string bhi]] w fun e w' => e = .returned (sJoin alo ahi blo bhi) ∧ Below w.heap.size w w' := by
  go_enter Try.func17, Try.ntmps17
  go_wp2_with (first | (go_at_call 14; (with_reducible refine (right_any _ _ _).mono ?_); rintro e w' ⟨rfl, hb⟩; (have n0 : w'.cell? ⟨w.heap.size, 0, none⟩ = some (.string alo) := keepc hb (by first | (simp; done) | (simp; omega)) (by first | (with_reducible assumption) | (simp [go_sem]; done) | go_cell)); (have n1 : w'.cell? ⟨w.heap.size, 1, none⟩ = some (.string ahi) := keepc hb (by first | (simp; done) | (simp; omega)) (by first | (with_reducible assumption) | (simp [go_sem]; done) | go_cell)); (have n0 : w'.cell? ⟨w.heap.size + 1, 0, none⟩ = some (.string blo) := keepc hb (by first | (simp; done) | (simp; omega)) (by first | (with_reducible assumption) | (simp [go_sem]; done) | go_cell)); (have n1 : w'.cell? ⟨w.heap.size + 1, 1, none⟩ = some (.string bhi) := keepc hb (by first | (simp; done) | (simp; omega)) (by first | (with_reducible assumption) | (simp [go_sem]; done) | go_cell)); (have n0 : w'.cell? ⟨w.heap.size + 1 + 1, 0, none⟩ = some (.string ⟨#[]⟩) := keepc hb (by first | (simp; done) | (simp; omega)) (by first | (with_reducible assumption) | (simp [go_sem]; done) | go_cell)); (have n1 : w'.cell? ⟨w.heap.size + 1 + 1, 1, none⟩ = some (.string ⟨#[]⟩) := keepc hb (by first | (simp; done) | (simp; omega)) (by first | (with_reducible assumption) | (simp [go_sem]; done) | go_cell)); (have f0 : w'.frozen? ⟨w.heap.size + 1 + 1, 0, none⟩ = false := keepf hb (by first | (simp; done) | (simp; omega)) (by first | (with_reducible assumption) | (simp [go_sem]; done)));  (have f1 : w'.frozen? ⟨w.heap.size + 1 + 1, 1, none⟩ = false := keepf hb (by first | (simp; done) | (simp; omega)) (by first | (with_reducible assumption) | (simp [go_sem]; done))); (have hz := hb.size); (try simp only [World.size_alloc, World.size_setCell, World.size_drew] at hz); (have Hb := Lib.hid hb); (clear hb)))
  all_goals (refine bodyPost_ret (by simp [results, Try.results17, go_sem, ↓IntWalk.iteOmega, *]; try rfl) rfl ?_)
  all_goals refine ⟨?_, by (repeat (first | (with_reducible exact Below.refl _ _) | (with_reducible refine Below.drew ?_) | (with_reducible refine Below.setCell ?_ ?_ _) | (with_reducible refine Below.alloc ?_ ?_ _) | (with_reducible refine Below.trans ?_ (Below.mono (RowKit.Hid.out (by with_reducible assumption)) ?_)) | omega | (simp only [World.size_alloc, World.size_setCell, World.size_drew]; omega)))⟩
  all_goals simp [sJoin, sJoinB, *]


def sSplitB (lo hi s : ByteArray) : Bool := sRight lo hi && (Op.bytesLess lo.toList s.toList && ((hi.toList.isEmpty || Op.bytesLess s.toList hi.toList) && sRight lo s))
def sSplit (lo hi s : ByteArray) : Value := if sSplitB lo hi s then .tuple #[.agg #[.string lo, .string s], .agg #[.string s, .string hi], .bool true] else .tuple #[.agg #[.string ⟨#[]⟩, .string ⟨#[]⟩], .agg #[.string ⟨#[]⟩, .string ⟨#[]⟩], .bool false]

set_option maxHeartbeats 2000000 in
theorem split_any (lo hi s : ByteArray) (w : World) :
    Calls Try.prog 13 #[.agg #[.string lo, .string hi], .string s] w fun e w' => e = .returned (sSplit lo hi s) ∧ Below w.heap.size w w' := by
  go_enter Try.func13, Try.ntmps13
  go_wp2_with fail
  go_cut [7, 8] (fun p q wx => ∃ i j : Nat, p = .pointer (some ⟨i, 0, none⟩) ∧ q = .pointer (some ⟨j, 0, none⟩) ∧ w.heap.size + 1 + 1 < i ∧ w.heap.size + 1 + 1 < j ∧ i < wx.heap.size ∧ j < wx.heap.size ∧
    wx.cell? ⟨i, 0, none⟩ = some (.string lo) ∧ wx.cell? ⟨i, 1, none⟩ = some (.string s) ∧ wx.cell? ⟨j, 0, none⟩ = some (.string s) ∧ wx.cell? ⟨j, 1, none⟩ = some (.string hi) ∧ Below (((w.alloc (.cells #[.string lo, .string hi] 23)).alloc (.cells #[.string ⟨#[]⟩, .string ⟨#[]⟩] 23)).alloc (.cells #[.string ⟨#[]⟩, .string ⟨#[]⟩] 23)).heap.size (((w.alloc (.cells #[.string lo, .string hi] 23)).alloc (.cells #[.string ⟨#[]⟩, .string ⟨#[]⟩] 23)).alloc (.cells #[.string ⟨#[]⟩, .string ⟨#[]⟩] 23)) wx)
  case first =>
    go_region
    all_goals go_wp2_with fail
    all_goals go_meet
    · exact ⟨w.heap.size + 1 + 1 + 1, w.heap.size + 1 + 1 + 1 + 1, rfl, rfl, by omega, by omega, by simp, by simp, by simp [go_sem], by simp [go_sem], by simp [go_sem], by simp [go_sem], by go_grown⟩
    · exact ⟨w.heap.size + 1 + 1 + 1 + 1, w.heap.size + 1 + 1 + 1, rfl, rfl, by omega, by omega, by simp, by simp, by simp [go_sem], by simp [go_sem], by simp [go_sem], by simp [go_sem], by go_grown⟩
  case rest =>
    obtain ⟨i, j, rfl, rfl, hi1, hj1, hi2, hj2, c1, c2, c3, c4, hb⟩ := hcut
    have ca0 : wc.cell? ⟨w.heap.size, 0, none⟩ = some (.string lo) := keepc hb (by simp; omega) (by simp [go_sem])
    have ca1 : wc.cell? ⟨w.heap.size, 1, none⟩ = some (.string hi) := keepc hb (by simp; omega) (by simp [go_sem])
    have cr0 : wc.cell? ⟨w.heap.size + 1, 0, none⟩ = some (.string ⟨#[]⟩) := keepc hb (by simp) (by simp [go_sem])
    have cr1 : wc.cell? ⟨w.heap.size + 1, 1, none⟩ = some (.string ⟨#[]⟩) := keepc hb (by simp) (by simp [go_sem])
    have ct0 : wc.cell? ⟨w.heap.size + 1 + 1, 0, none⟩ = some (.string ⟨#[]⟩) := keepc hb (by simp) (by simp [go_sem])
    have ct1 : wc.cell? ⟨w.heap.size + 1 + 1, 1, none⟩ = some (.string ⟨#[]⟩) := keepc hb (by simp) (by simp [go_sem])
    have f0 : wc.frozen? ⟨w.heap.size + 1, 0, none⟩ = false := keepf hb (by simp) (by simp [go_sem])
    have f1 : wc.frozen? ⟨w.heap.size + 1, 1, none⟩ = false := keepf hb (by simp) (by simp [go_sem])
    have g0 : wc.frozen? ⟨w.heap.size + 1 + 1, 0, none⟩ = false := keepf hb (by simp) (by simp [go_sem])
    have g1 : wc.frozen? ⟨w.heap.size + 1 + 1, 1, none⟩ = false := keepf hb (by simp) (by simp [go_sem])
    (have hz := hb.size); (try simp only [World.size_alloc, World.size_setCell, World.size_drew] at hz); (have Hb := Lib.hid hb); (clear hb)
    go_upto_region 4 with (first | (go_at_call 14; (with_reducible refine (right_any _ _ _).mono ?_); rintro e w' ⟨rfl, hb⟩; (have n0 : w'.cell? ⟨w.heap.size, 0, none⟩ = some (.string lo) := keepc hb (by first | (simp; done) | (simp; omega)) (by first | (with_reducible assumption) | (simp [go_sem]; done) | go_cell)); (have n1 : w'.cell? ⟨w.heap.size, 1, none⟩ = some (.string hi) := keepc hb (by first | (simp; done) | (simp; omega)) (by first | (with_reducible assumption) | (simp [go_sem]; done) | go_cell)); (have n0 : w'.cell? ⟨w.heap.size + 1, 0, none⟩ = some (.string ⟨#[]⟩) := keepc hb (by first | (simp; done) | (simp; omega)) (by first | (with_reducible assumption) | (simp [go_sem]; done) | go_cell)); (have n1 : w'.cell? ⟨w.heap.size + 1, 1, none⟩ = some (.string ⟨#[]⟩) := keepc hb (by first | (simp; done) | (simp; omega)) (by first | (with_reducible assumption) | (simp [go_sem]; done) | go_cell)); (have n0 : w'.cell? ⟨w.heap.size + 1 + 1, 0, none⟩ = some (.string ⟨#[]⟩) := keepc hb (by first | (simp; done) | (simp; omega)) (by first | (with_reducible assumption) | (simp [go_sem]; done) | go_cell)); (have n1 : w'.cell? ⟨w.heap.size + 1 + 1, 1, none⟩ = some (.string ⟨#[]⟩) := keepc hb (by first | (simp; done) | (simp; omega)) (by first | (with_reducible assumption) | (simp [go_sem]; done) | go_cell)); (have f0 : w'.frozen? ⟨w.heap.size + 1, 0, none⟩ = false := keepf hb (by first | (simp; done) | (simp; omega)) (by first | (with_reducible assumption) | (simp [go_sem]; done))); (have f1 : w'.frozen? ⟨w.heap.size + 1, 1, none⟩ = false := keepf hb (by first | (simp; done) | (simp; omega)) (by first | (with_reducible assumption) | (simp [go_sem]; done))); (have g0 : w'.frozen? ⟨w.heap.size + 1 + 1, 0, none⟩ = false := keepf hb (by first | (simp; done) | (simp; omega)) (by first | (with_reducible assumption) | (simp [go_sem]; done))); (have g1 : w'.frozen? ⟨w.heap.size + 1 + 1, 1, none⟩ = false := keepf hb (by first | (simp; done) | (simp; omega)) (by first | (with_reducible assumption) | (simp [go_sem]; done))); (have n0 : w'.cell? ⟨i, 0, none⟩ = some (.string lo) := keepc hb (by first | (simp; done) | (simp; omega)) (by first | (with_reducible assumption) | (simp [go_sem]; done) | go_cell)); (have n1 : w'.cell? ⟨i, 1, none⟩ = some (.string s) := keepc hb (by first | (simp; done) | (simp; omega)) (by first | (with_reducible assumption) | (simp [go_sem]; done) | go_cell)); (have n0 : w'.cell? ⟨j, 0, none⟩ = some (.string s) := keepc hb (by first | (simp; done) | (simp; omega)) (by first | (with_reducible assumption) | (simp [go_sem]; done) | go_cell)); (have n1 : w'.cell? ⟨j, 1, none⟩ = some (.string hi) := keepc hb (by first | (simp; done) | (simp; omega)) (by first | (with_reducible assumption) | (simp [go_sem]; done) | go_cell)); (have hz := hb.size); (try simp only [World.size_alloc, World.size_setCell, World.size_drew] at hz); (have Hb := Lib.hid hb); (clear hb)))
    all_goals (try (go_region; go_wp2))
    all_goals (refine bodyPost_ret (by simp [results, Try.results13, go_sem, ↓IntWalk.iteOmega, *]; try rfl) rfl ?_)
    all_goals refine ⟨?_, by (repeat (first | (with_reducible exact Below.refl _ _) | (with_reducible refine Below.drew ?_) | (with_reducible refine Below.setCell ?_ ?_ _) | (with_reducible refine Below.alloc ?_ ?_ _) | (with_reducible refine Below.trans ?_ (Below.mono (RowKit.Hid.out (by with_reducible assumption)) ?_)) | omega | (simp only [World.size_alloc, World.size_setCell, World.size_drew]; omega)))⟩
    all_goals go_light
    all_goals (go_light; simp_all [sSplit, sSplitB]; try omega)

def sel (b : Bool) (x : ByteArray) : ByteArray := if b then x else ⟨#[]⟩
@[go_sem] theorem sel_true (x : ByteArray) : sel true x = x := rfl
@[go_sem] theorem sel_false (x : ByteArray) : sel false x = ⟨#[]⟩ := rfl
theorem split_t (lo hi s : ByteArray) (w : World) :
    Calls Try.prog 13 #[.agg #[.string lo, .string hi], .string s] w fun e w' => e = .returned (.tuple #[.agg #[.string (sel (sSplitB lo hi s) lo), .string (sel (sSplitB lo hi s) s)], .agg #[.string (sel (sSplitB lo hi s) s), .string (sel (sSplitB lo hi s) hi)], .bool (sSplitB lo hi s)]) ∧ Below w.heap.size w w' :=
  (split_any lo hi s w).mono fun e w' ⟨he, hb⟩ => ⟨by rw [he]; unfold sSplit; cases sSplitB lo hi s <;> simp [sel], hb⟩
theorem join_t (alo ahi blo bhi : ByteArray) (w : World) :
    Calls Try.prog 17 #[.agg #[.string alo, .string ahi], .agg #[.string blo, .string bhi]] w fun e w' => e = .returned (.tuple #[.agg #[.string (sel (sJoinB alo ahi blo bhi) alo), .string (sel (sJoinB alo ahi blo bhi) bhi)], .bool (sJoinB alo ahi blo bhi)]) ∧ Below w.heap.size w w' :=
  (join_any alo ahi blo bhi w).mono fun e w' ⟨he, hb⟩ => ⟨by rw [he]; unfold sJoin; cases sJoinB alo ahi blo bhi <;> simp [sel], hb⟩
end Go.Proofs.Ytjklcpfkmnjjkaa
