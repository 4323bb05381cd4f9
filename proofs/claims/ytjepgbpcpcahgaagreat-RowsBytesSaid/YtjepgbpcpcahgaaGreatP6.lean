/- Part 6 of what the laws RowsBytes rest on: RtA, RtB, RtC, RtD, RtE, RtF, RtG, RtH, RtI, RtJ, RtK, RtL, RtM, RtN, RtO, RtP, RtQ, RtR, RtS. -/
import Derived.Test.YtjepgbpcpcahgaaGreatP5
set_option linter.unusedSimpArgs false
set_option linter.unusedVariables false
namespace Go.Proofs.YtjepgbpcpcahgaaGreat
open Go.Am
set_option maxRecDepth 100000
theorem foldC_fine : ∀ (l : List Ch) (o : List Co), Fine o → Fine (foldC o l).2
 | [], o, h => h
 | x :: l, o, h => by
  unfold foldC
  split
  ·exact fine_nil
  ·exact foldC_fine l _ (stepC_fine h x)
theorem foldC_sz : ∀ (l : List Ch) (o : List Co), RowSz o → (∀ x ∈ l, ChSz x) → RowSz (foldC o l).2
 | [], o, h, _ => h
 | x :: l, o, h, hl => by
  unfold foldC
  split
  ·exact sz_nil
  ·exact foldC_sz l _ (stepC_sz h (hl x (by simp))) fun y hy => hl y (by simp [hy])
theorem applyR_fine (r : List Co) (l : List Ch) : Fine (applyR r l).2 := by
 unfold applyR
 split
 ·exact fine_nil
 ·split
  ·exact fine_nil
  ·exact foldC_fine l _ (copy_fine r)
theorem applyR_sz {r : List Co} {l : List Ch} (hz : RowSz r) (hl : ∀ x ∈ l, ChSz x) : RowSz (applyR r l).2 := by
 unfold applyR
 split
 ·exact sz_nil
 ·split
  ·exact sz_nil
  ·exact foldC_sz l _ (copy_sz hz) hl
theorem cwex {l : List Cw} {i : Nat} {t : Cw} (h : l[i]? = some t) : 0 ≤ (i : Int) ∧ (l.map cwrow)[(i : Int).toNat]? = some (cwrow t) ∧ (cwrow t).length = 7 := ⟨Int.natCast_nonneg _, by rw [Int.toNat_natCast, List.getElem?_map, h]; rfl, rfl⟩
def FineR (out : AOut) (H' : Heap) : Prop := ∃ M, Fine M ∧ RowSz M ∧ out = .ret (rowA M) ∧ H' = []
def m6St (l : List Cw) (M : List Co) (i : Nat) : ASt := ⟨([.list (l.map cwrow) .free, .dead, .ptr 0 0, .ptr 1 0, .v (.int .i64 i)] ++ List.replicate 27 .dead), [(0, .box [.list [] .full]), (1, .box [.list (M.map corow) .free])], 2⟩
set_option maxHeartbeats 3200000 in
theorem made6_c (l : List Cw) (hl : ∀ a ∈ l, CwOk a) (h : l.length ≤ 9223372036854775807) : ACalls Tryz.prog 43 0 900000 [.list (l.map cwrow) .free] [] FineR := by
 refine no_implicit_lambda% (acalls_of tok dok (f := 43) ⟨Tryz.func43, rfl, by kernel_rfl⟩ ?_); refine no_implicit_lambda% (c_start (fun _ h => h) ?_)
 repeat' (first | (refine no_implicit_lambda% (zH ?_)) | (((with_reducible refine no_implicit_lambda% (zA ?_)); refine no_implicit_lambda% (zD rfl rfl rfl (fun hc => ?_) (fun hc => ?_)) <;> first | exact zG hc | rw [hc])) | (((with_reducible refine no_implicit_lambda% (zB ?_)); refine no_implicit_lambda% (zE rfl (fun hc => ?_) (fun hc => ?_)) <;> first | exact zG hc | skip)) | (((with_reducible refine no_implicit_lambda% (zC ?_)); refine no_implicit_lambda% (zF rfl rfl (fun hc => ?_) (fun hc => ?_)) <;> first | exact zG hc | rw [hc])) | (refine no_implicit_lambda% (ans ?_)) | (with_reducible first | exact zI | exact zJ))
 refine c_loop2 (m6St l) (fun M i => i ≤ l.length ∧ Fine M ∧ RowSz M) (fun _ i => l.length - i) [] 0 ⟨Nat.zero_le _, fine_nil, sz_nil⟩ ?_ ?_
 ·(refine no_implicit_lambda% (Conv.toT ?_ ?_ (LE0 rfl))); (focus ((unfold m6St); (try dsimp only); exact wkl)); (focus ((unfold m6St); (try dsimp only); exact wkh))
 ·rintro M i ⟨i1, hF, hz⟩
  have h4 := hF.len
  refine c_turn (n' := 2) (fun _ h => h) (fun _ h => h) rfl ?_
  rcases hx : l[i]? with _ | a
  ·have hi : i = l.length := by have := List.getElem?_eq_none_iff.1 hx; omega
   repeat' (first | (refine no_implicit_lambda% (zH ?_)) | (((with_reducible refine no_implicit_lambda% (zA ?_)); refine no_implicit_lambda% (zD rfl rfl rfl (fun hc => ?_) (fun hc => ?_)) <;> first | exact zG hc | rw [hc])) | (((with_reducible refine no_implicit_lambda% (zB ?_)); refine no_implicit_lambda% (zE rfl (fun hc => ?_) (fun hc => ?_)) <;> first | exact zG hc | skip)) | (((with_reducible refine no_implicit_lambda% (zC ?_)); refine no_implicit_lambda% (zF rfl rfl (fun hc => ?_) (fun hc => ?_)) <;> first | exact zG hc | rw [hc])) | (refine no_implicit_lambda% (ans ?_)) | (with_reducible first | exact zI | exact zJ))
   exact e_ret (H' := []) (rest := _) rfl ⟨M, hF, hz, rfl, rfl⟩ permT (LE0 rfl)
  ·have hi : i < l.length := (List.getElem?_eq_some_iff.1 hx).1
   have ha := hl a (List.mem_of_getElem? hx)
   have hix := cwex hx
   repeat' (first | (refine no_implicit_lambda% (zH ?_)) | (((with_reducible refine no_implicit_lambda% (zA ?_)); refine no_implicit_lambda% (zD rfl rfl rfl (fun hc => ?_) (fun hc => ?_)) <;> first | exact zG hc | rw [hc])) | (((with_reducible refine no_implicit_lambda% (zB ?_)); refine no_implicit_lambda% (zE rfl (fun hc => ?_) (fun hc => ?_)) <;> first | exact zG hc | skip)) | (((with_reducible refine no_implicit_lambda% (zC ?_)); refine no_implicit_lambda% (zF rfl rfl (fun hc => ?_) (fun hc => ?_)) <;> first | exact zG hc | rw [hc])) | (refine no_implicit_lambda% (ans ?_)) | (with_reducible first | exact zI | exact zJ))
   ·(refine no_implicit_lambda% (cal [] (chmade_c a ha) ?_ ?_))
    ·intro xx H' hh
     obtain ⟨x, hxo, h', rfl⟩ := hh
     cases h'
     first | (refine no_implicit_lambda% (akc ?_)) | (refine no_implicit_lambda% (aec ?_))
     have hxs : ∀ y ∈ [x], ChSz y := fun y hy => by rw [List.mem_singleton.1 hy]; exact hxo.1
     have hp := refApply_c M [x] (by omega) hz hxs (by simp)
     have pf := applyR_fine M [x]
     have pz := applyR_sz hz hxs
     unfold PutRR at hp
     generalize applyR M [x] = Q at *
     obtain ⟨e, X⟩ := Q
     repeat' (first | (refine no_implicit_lambda% (zH ?_)) | (((with_reducible refine no_implicit_lambda% (zA ?_)); refine no_implicit_lambda% (zD rfl rfl rfl (fun hc => ?_) (fun hc => ?_)) <;> first | exact zG hc | rw [hc])) | (((with_reducible refine no_implicit_lambda% (zB ?_)); refine no_implicit_lambda% (zE rfl (fun hc => ?_) (fun hc => ?_)) <;> first | exact zG hc | skip)) | (((with_reducible refine no_implicit_lambda% (zC ?_)); refine no_implicit_lambda% (zF rfl rfl (fun hc => ?_) (fun hc => ?_)) <;> first | exact zG hc | rw [hc])) | (refine no_implicit_lambda% (ans ?_)) | (with_reducible first | exact zI | exact zJ))
     (refine no_implicit_lambda% (calw [] (hp) ?_ ?_))
     ·refine no_implicit_lambda% (ret1 ?_); first | (refine no_implicit_lambda% (akc ?_)) | (refine no_implicit_lambda% (aec ?_))
      repeat' (first | (refine no_implicit_lambda% (zH ?_)) | (((with_reducible refine no_implicit_lambda% (zA ?_)); refine no_implicit_lambda% (zD rfl rfl rfl (fun hc => ?_) (fun hc => ?_)) <;> first | exact zG hc | rw [hc])) | (((with_reducible refine no_implicit_lambda% (zB ?_)); refine no_implicit_lambda% (zE rfl (fun hc => ?_) (fun hc => ?_)) <;> first | exact zG hc | skip)) | (((with_reducible refine no_implicit_lambda% (zC ?_)); refine no_implicit_lambda% (zF rfl rfl (fun hc => ?_) (fun hc => ?_)) <;> first | exact zG hc | rw [hc])) | (refine no_implicit_lambda% (ans ?_)) | (with_reducible first | exact zI | exact zJ))
      ·(refine no_implicit_lambda% (k_loopLT (((X, i + 1) : List Co × Nat)) 0 [0, 1] (by show i + 1 ≤ l.length ∧ Fine X ∧ RowSz X; exact ⟨hi, pf, pz⟩) (by first | omega | (simp; done) | (simp; omega)) (LE0 rfl) (fun _ h => h) (fun _ h => h) ?_ ?_)); (focus ((try dsimp only); exact wkl)); (focus ((try dsimp only); exact wkh))
      ·(refine no_implicit_lambda% (k_loopLT (((M, i + 1) : List Co × Nat)) 0 [0, 1] (by show i + 1 ≤ l.length ∧ Fine M ∧ RowSz M; exact ⟨hi, hF, hz⟩) (by first | omega | (simp; done) | (simp; omega)) (LE0 rfl) (fun _ h => h) (fun _ h => h) ?_ ?_)); (focus ((try dsimp only); exact wkl)); (focus ((try dsimp only); exact wkh))
     ·first | (exact zI) | (exact zJ)
    ·intro xx H' hh
     obtain ⟨_, _, h', _⟩ := hh
     cases h'
   ·exact e_ret (H' := []) (rest := _) rfl ⟨M, hF, hz, rfl, rfl⟩ permT (LE0 rfl)
def someR : List Co := [⟨bsS [99], [⟨5, ⟨1, [118], 0⟩⟩]⟩]
theorem some_fine : Fine someR ∧ RowSz someR := by
 have h1 := putR_fine [] (bsS [99]) 5 ⟨1, [118], 0⟩
 have h2 := putR_sz (r := []) (s := bsS [99]) (t := 5) (v := ⟨1, [118], 0⟩) sz_nil (by decide)
 rw [put_new (by decide) (by decide) (by decide)] at h1 h2
 exact ⟨h1, h2⟩
theorem some6_c : ACalls Tryz.prog 44 0 20000 [] [] (fun out H' => out = .ret (rowA someR) ∧ H' = []) := by
 have hp := qput_c [] (bsS [99]) 5 ⟨1, [118], 0⟩ (by decide) sz_nil (by decide)
 rw [put_new (by decide) (by decide) (by decide)] at hp
 unfold PutRR at hp
 dsimp only at hp
 refine no_implicit_lambda% (acalls_of tok dok (f := 44) ⟨Tryz.func44, rfl, by kernel_rfl⟩ ?_); refine no_implicit_lambda% (c_start (fun _ h => h) ?_)
 repeat' (first | (refine no_implicit_lambda% (zH ?_)) | (((with_reducible refine no_implicit_lambda% (zA ?_)); refine no_implicit_lambda% (zD rfl rfl rfl (fun hc => ?_) (fun hc => ?_)) <;> first | exact zG hc | rw [hc])) | (((with_reducible refine no_implicit_lambda% (zB ?_)); refine no_implicit_lambda% (zE rfl (fun hc => ?_) (fun hc => ?_)) <;> first | exact zG hc | skip)) | (((with_reducible refine no_implicit_lambda% (zC ?_)); refine no_implicit_lambda% (zF rfl rfl (fun hc => ?_) (fun hc => ?_)) <;> first | exact zG hc | rw [hc])) | (refine no_implicit_lambda% (ans ?_)) | (with_reducible first | exact zI | exact zJ))
 (refine no_implicit_lambda% (calw [] (hp) ?_ ?_))
 ·refine no_implicit_lambda% (ret1 ?_); first | (refine no_implicit_lambda% (akc ?_)) | (refine no_implicit_lambda% (aec ?_))
  repeat' (first | (refine no_implicit_lambda% (zH ?_)) | (((with_reducible refine no_implicit_lambda% (zA ?_)); refine no_implicit_lambda% (zD rfl rfl rfl (fun hc => ?_) (fun hc => ?_)) <;> first | exact zG hc | rw [hc])) | (((with_reducible refine no_implicit_lambda% (zB ?_)); refine no_implicit_lambda% (zE rfl (fun hc => ?_) (fun hc => ?_)) <;> first | exact zG hc | skip)) | (((with_reducible refine no_implicit_lambda% (zC ?_)); refine no_implicit_lambda% (zF rfl rfl (fun hc => ?_) (fun hc => ?_)) <;> first | exact zG hc | rw [hc])) | (refine no_implicit_lambda% (ans ?_)) | (with_reducible first | exact zI | exact zJ))
  exact e_ret (H' := []) (rest := _) rfl ⟨rfl, rfl⟩ permT (LE0 rfl)
 ·first | (exact zI) | (exact zJ)
end Go.Proofs.YtjepgbpcpcahgaaGreat
namespace Go.Proofs.YtjepgbpcpcahgaaGreat
open Go.Am
set_option maxRecDepth 100000
theorem overlaps_nam (row : List AV) (rows : List (List AV)) (off m c k : Nat) (hrow : row ≠ []) (hne : rows.length + k ≠ 0) : ACalls Tryz.prog 144 1 1 [.list [row] .free, .arr 0 off m c] [(0, .seq rows k)] (fun out H' => out = .ret (.v (.bool false)) ∧ H' = [(0, .seq rows k)]) :=
 ext_ov (tS := 36) (tR := 4) (fn := Tryz.f144) (by kernel_rfl) (by kernel_rfl) rfl (by kernel_rfl) (by kernel_rfl) (e := 100) (by kernel_rfl) 2 (fun w => by kernel_rfl) hrow hne
set_option maxHeartbeats 3200000 in
theorem insert_nam (rows : List (List AV)) (row : List AV) (i cp : Nat) (hR : RowsOk 2 rows) (hR1 : RowsOk 2 [row]) (hi : i ≤ rows.length) (hl : rows.length < 1000000000) (hcp0 : rows.length ≤ cp) (hcp : cp ≤ maxLen) : ACalls Tryz.prog 101 1 2 [.arr 0 0 rows.length cp, .v (.int .i64 i), .list [row] .free] [(0, .seq rows ((cp - rows.length) * 2))] (fun out H' => ∃ cp', rows.length + 1 ≤ cp' ∧ cp' ≤ maxLen ∧ out = .ret (.arr 1 0 (rows.length + 1) cp') ∧ H' = [(1, .seq (insAt rows i row) ((cp' - (rows.length + 1)) * 2))]) := by
 have hrow : row.length = 2 := hR1.len row (by simp)
 refine no_implicit_lambda% (acalls_of tok dok (f := 101) ⟨Tryz.func101, rfl, by kernel_rfl⟩ ?_); refine no_implicit_lambda% (c_start (fun _ h => h) ?_)
 repeat' (first | (refine no_implicit_lambda% (zH ?_)) | (((with_reducible refine no_implicit_lambda% (zA ?_)); refine no_implicit_lambda% (zD rfl rfl rfl (fun hc => ?_) (fun hc => ?_)) <;> first | exact zG hc | rw [hc])) | (((with_reducible refine no_implicit_lambda% (zB ?_)); refine no_implicit_lambda% (zE rfl (fun hc => ?_) (fun hc => ?_)) <;> first | exact zG hc | skip)) | (((with_reducible refine no_implicit_lambda% (zC ?_)); refine no_implicit_lambda% (zF rfl rfl (fun hc => ?_) (fun hc => ?_)) <;> first | exact zG hc | rw [hc])) | (refine no_implicit_lambda% (ans ?_)) | (with_reducible first | exact zI | exact zJ))
 ((with_reducible refine no_implicit_lambda% (zC ?_)); first | (refine no_implicit_lambda% (a_qS rfl (fun _ h => h) ?_ ?_)) | (refine no_implicit_lambda% (a_qS rfl (qIx (fun _ h => h)) ?_ ?_)) | (refine no_implicit_lambda% (a_qS rfl (qAnd5 (fun _ h => h)) ?_ ?_)) | (refine no_implicit_lambda% (a_qS rfl (qStr (fun _ h => h)) ?_ ?_)) | (refine no_implicit_lambda% (a_qS rfl (qAnd4 (fun _ h => h)) ?_ ?_)) | (refine no_implicit_lambda% (a_qS rfl (qAnd2 (fun _ h => h)) ?_ ?_))); focus ((repeat' (refine no_implicit_lambda% (And.intro ?_ ?_))) <;> (first | exact trivial | exact Int.natCast_nonneg _ | omega | (simp; done) | (simp; omega) | ((show (0 : Int) ≤ _); omega)))
 repeat' (first | (refine no_implicit_lambda% (zH ?_)) | (((with_reducible refine no_implicit_lambda% (zA ?_)); refine no_implicit_lambda% (zD rfl rfl rfl (fun hc => ?_) (fun hc => ?_)) <;> first | exact zG hc | rw [hc])) | (((with_reducible refine no_implicit_lambda% (zB ?_)); refine no_implicit_lambda% (zE rfl (fun hc => ?_) (fun hc => ?_)) <;> first | exact zG hc | skip)) | (((with_reducible refine no_implicit_lambda% (zC ?_)); refine no_implicit_lambda% (zF rfl rfl (fun hc => ?_) (fun hc => ?_)) <;> first | exact zG hc | rw [hc])) | (refine no_implicit_lambda% (ans ?_)) | (with_reducible first | exact zI | exact zJ))
 ·have hin : i = rows.length := by
   have h0 : (i : Int) = rows.length := by simpa using hc
   omega
  subst hin
  ((with_reducible refine no_implicit_lambda% (zC ?_)); refine no_implicit_lambda% (a_appS (sz := 2) (B := 40) (m2 := rows.length + 1) (rows3 := rows ++ [row]) rfl rfl rfl rfl rfl rfl rfl rfl rfl rfl rfl (fun _ h => h) rfl rfl (hR) (hR1) (by first | rfl | (exact List.length_map ..) | (simp; done) | (simp; omega)) rfl (by first | omega | (simp; omega)) (by first | rfl | (simp; done) | (simp; omega)) (by first | rfl | (exact map_snoc _ _) | (rw [List.map_append]; rfl) | (simp; done)) ?_))
  intro cp' h1 h2
  refine no_implicit_lambda% (akc ?_)
  refine no_implicit_lambda% (awd ?_)
  exact e_ret (H' := _) (rest := []) rfl ⟨cp', h1, h2, rfl, by rw [insAt_end]⟩ (.of_eq rfl) (LE0 rfl)
 ·have hcc := of_decide_eq_true hc
  have hne : i < rows.length := by
   rename_i hc0
   have h0 : ¬ (i : Int) = rows.length := by simpa using hc0
   omega
  have hw : IntKind.i64.wrap ((rows.length : Int) + (([row].length : Nat) : Int)) = ((rows.length + 1 : Nat) : Int) := by rw [IntKind.wrap_i64, List.length_singleton]; omega
  rw [hw] at hcc ⊢
  ((with_reducible refine no_implicit_lambda% (zC ?_)); first | (refine no_implicit_lambda% (a_qS rfl (fun _ h => h) ?_ ?_)) | (refine no_implicit_lambda% (a_qS rfl (qIx (fun _ h => h)) ?_ ?_)) | (refine no_implicit_lambda% (a_qS rfl (qAnd5 (fun _ h => h)) ?_ ?_)) | (refine no_implicit_lambda% (a_qS rfl (qStr (fun _ h => h)) ?_ ?_)) | (refine no_implicit_lambda% (a_qS rfl (qAnd4 (fun _ h => h)) ?_ ?_)) | (refine no_implicit_lambda% (a_qS rfl (qAnd2 (fun _ h => h)) ?_ ?_))); focus ((repeat' (refine no_implicit_lambda% (And.intro ?_ ?_))) <;> (first | exact trivial | exact Int.natCast_nonneg _ | omega | (simp; done) | (simp; omega) | ((show (0 : Int) ≤ _); omega)))
  repeat' (first | (refine no_implicit_lambda% (zH ?_)) | (((with_reducible refine no_implicit_lambda% (zA ?_)); refine no_implicit_lambda% (zD rfl rfl rfl (fun hc => ?_) (fun hc => ?_)) <;> first | exact zG hc | rw [hc])) | (((with_reducible refine no_implicit_lambda% (zB ?_)); refine no_implicit_lambda% (zE rfl (fun hc => ?_) (fun hc => ?_)) <;> first | exact zG hc | skip)) | (((with_reducible refine no_implicit_lambda% (zC ?_)); refine no_implicit_lambda% (zF rfl rfl (fun hc => ?_) (fun hc => ?_)) <;> first | exact zG hc | rw [hc])) | (refine no_implicit_lambda% (ans ?_)) | (with_reducible first | exact zI | exact zJ))
  have hw2 : IntKind.i64.wrap (IntKind.i64.wrap ((rows.length : Int) + (([row].length : Nat) : Int)) - (i : Int)) = ((rows.length + 1 - i : Nat) : Int) := by rw [hw, IntKind.wrap_i64]; omega
  rw [hw2]
  (with_reducible refine zC ?_)
  refine a_app_zeros (id := 0) (off := 0) (nn := i) (cp := cp) (m := rows.length + 1 - i) (rows0 := rows.take i) rfl rfl rfl rfl rfl rfl rfl rfl rfl rfl rfl rfl (by omega) (by omega) ⟨by show (i + (rows.length + 1 - i)) * 40 ≤ _; omega, by omega⟩ (aolds_take rfl hR hi rfl) rfl (hR.take i).pure ?_
  intro cp' h1 h2
  rw [show i + (rows.length + 1 - i) = rows.length + 1 by omega] at h1 ⊢
  repeat' (first | (refine no_implicit_lambda% (zH ?_)) | (((with_reducible refine no_implicit_lambda% (zA ?_)); refine no_implicit_lambda% (zD rfl rfl rfl (fun hc => ?_) (fun hc => ?_)) <;> first | exact zG hc | rw [hc])) | (((with_reducible refine no_implicit_lambda% (zB ?_)); refine no_implicit_lambda% (zE rfl (fun hc => ?_) (fun hc => ?_)) <;> first | exact zG hc | skip)) | (((with_reducible refine no_implicit_lambda% (zC ?_)); refine no_implicit_lambda% (zF rfl rfl (fun hc => ?_) (fun hc => ?_)) <;> first | exact zG hc | rw [hc])) | (refine no_implicit_lambda% (ans ?_)) | (with_reducible first | exact zI | exact zJ))
  ((with_reducible refine no_implicit_lambda% (zC ?_)); first | (refine no_implicit_lambda% (a_qS rfl (fun _ h => h) ?_ ?_)) | (refine no_implicit_lambda% (a_qS rfl (qIx (fun _ h => h)) ?_ ?_)) | (refine no_implicit_lambda% (a_qS rfl (qAnd5 (fun _ h => h)) ?_ ?_)) | (refine no_implicit_lambda% (a_qS rfl (qStr (fun _ h => h)) ?_ ?_)) | (refine no_implicit_lambda% (a_qS rfl (qAnd4 (fun _ h => h)) ?_ ?_)) | (refine no_implicit_lambda% (a_qS rfl (qAnd2 (fun _ h => h)) ?_ ?_))); focus ((repeat' (refine no_implicit_lambda% (And.intro ?_ ?_))) <;> (first | exact trivial | exact Int.natCast_nonneg _ | omega | (simp; done) | (simp; omega) | ((show (0 : Int) ≤ _); omega)))
  repeat' (first | (refine no_implicit_lambda% (zH ?_)) | (((with_reducible refine no_implicit_lambda% (zA ?_)); refine no_implicit_lambda% (zD rfl rfl rfl (fun hc => ?_) (fun hc => ?_)) <;> first | exact zG hc | rw [hc])) | (((with_reducible refine no_implicit_lambda% (zB ?_)); refine no_implicit_lambda% (zE rfl (fun hc => ?_) (fun hc => ?_)) <;> first | exact zG hc | skip)) | (((with_reducible refine no_implicit_lambda% (zC ?_)); refine no_implicit_lambda% (zF rfl rfl (fun hc => ?_) (fun hc => ?_)) <;> first | exact zG hc | rw [hc])) | (refine no_implicit_lambda% (ans ?_)) | (with_reducible first | exact zI | exact zJ))
  (with_reducible refine zC ?_)
  refine a_copyEnd (id := 1) (m := 1) (sz := 2) (rows := rows.take i) (rows2 := [row]) (rows' := rows.take i ++ [row]) (k2 := (cp' - (i + 1)) * 2) rfl rfl rfl rfl rfl rfl rfl rfl (fun K h => asrc_rows rfl hR1.len ?_ h) (fun _ h => h) rfl (hR.take i) hR1 ?_ ?_ ?_ ?_ rfl ?_ ?_
  ·simp; omega
  ·exact Nat.min_eq_left (by omega)
  ·simp; omega
  ·simp; omega
  ·simp; omega
  ·simp; omega
  intro v1
  refine no_implicit_lambda% (akc ?_)
  repeat' (first | (refine no_implicit_lambda% (zH ?_)) | (((with_reducible refine no_implicit_lambda% (zA ?_)); refine no_implicit_lambda% (zD rfl rfl rfl (fun hc => ?_) (fun hc => ?_)) <;> first | exact zG hc | rw [hc])) | (((with_reducible refine no_implicit_lambda% (zB ?_)); refine no_implicit_lambda% (zE rfl (fun hc => ?_) (fun hc => ?_)) <;> first | exact zG hc | skip)) | (((with_reducible refine no_implicit_lambda% (zC ?_)); refine no_implicit_lambda% (zF rfl rfl (fun hc => ?_) (fun hc => ?_)) <;> first | exact zG hc | rw [hc])) | (refine no_implicit_lambda% (ans ?_)) | (with_reducible first | exact zI | exact zJ))
  have hw3 : IntKind.i64.wrap ((i : Int) + (([row].length : Nat) : Int)) = ((i + 1 : Nat) : Int) := by rw [IntKind.wrap_i64, List.length_singleton]; omega
  rw [hw3]
  ((with_reducible refine no_implicit_lambda% (is_ev ?_)); first | (refine no_implicit_lambda% (v_qS rfl rfl rfl rfl (qAnd4 (fun _ h => h)) (fun _ h => h) ?_ ?_)) | (refine no_implicit_lambda% (v_qS rfl rfl rfl rfl (qAnd5 (fun _ h => h)) (fun _ h => h) ?_ ?_))); focus ((repeat' (refine no_implicit_lambda% (And.intro ?_ ?_))) <;> (first | exact trivial | exact Int.natCast_nonneg _ | omega | (simp; done) | (simp; omega) | ((show (0 : Int) ≤ _); omega)))
  repeat' (first | (refine no_implicit_lambda% (zH ?_)) | (((with_reducible refine no_implicit_lambda% (zA ?_)); refine no_implicit_lambda% (zD rfl rfl rfl (fun hc => ?_) (fun hc => ?_)) <;> first | exact zG hc | rw [hc])) | (((with_reducible refine no_implicit_lambda% (zB ?_)); refine no_implicit_lambda% (zE rfl (fun hc => ?_) (fun hc => ?_)) <;> first | exact zG hc | skip)) | (((with_reducible refine no_implicit_lambda% (zC ?_)); refine no_implicit_lambda% (zF rfl rfl (fun hc => ?_) (fun hc => ?_)) <;> first | exact zG hc | rw [hc])) | (refine no_implicit_lambda% (ans ?_)) | (with_reducible first | exact zI | exact zJ))
  ((with_reducible refine no_implicit_lambda% (is_ev ?_)); first | (refine no_implicit_lambda% (v_qS rfl rfl rfl rfl (qAnd4 (fun _ h => h)) (fun _ h => h) ?_ ?_)) | (refine no_implicit_lambda% (v_qS rfl rfl rfl rfl (qAnd5 (fun _ h => h)) (fun _ h => h) ?_ ?_))); focus ((repeat' (refine no_implicit_lambda% (And.intro ?_ ?_))) <;> (first | exact trivial | exact Int.natCast_nonneg _ | omega | (simp; done) | (simp; omega) | ((show (0 : Int) ≤ _); omega)))
  repeat' (first | (refine no_implicit_lambda% (zH ?_)) | (((with_reducible refine no_implicit_lambda% (zA ?_)); refine no_implicit_lambda% (zD rfl rfl rfl (fun hc => ?_) (fun hc => ?_)) <;> first | exact zG hc | rw [hc])) | (((with_reducible refine no_implicit_lambda% (zB ?_)); refine no_implicit_lambda% (zE rfl (fun hc => ?_) (fun hc => ?_)) <;> first | exact zG hc | skip)) | (((with_reducible refine no_implicit_lambda% (zC ?_)); refine no_implicit_lambda% (zF rfl rfl (fun hc => ?_) (fun hc => ?_)) <;> first | exact zG hc | rw [hc])) | (refine no_implicit_lambda% (ans ?_)) | (with_reducible first | exact zI | exact zJ))
  (with_reducible refine zC ?_)
  refine a_copyEnd (id := 1) (m := rows.length - i) (sz := 2) (rows := rows.take i ++ [row]) (rows2 := rows.drop i) (rows' := insAt rows i row) (k2 := (cp' - (rows.length + 1)) * 2) rfl rfl rfl rfl rfl rfl rfl rfl (fun K h => asrc_drop rfl rfl hR hi ?_ ?_ ?_ h) (fun _ h => h) rfl ((hR.take i).app hR1) (hR.drop i) ?_ ?_ ?_ ?_ ?_ ?_ ?_
  ·simp
  ·simp
  ·simp
  ·rw [List.length_drop]; exact Nat.min_eq_left (by omega)
  ·simp; omega
  ·simp; omega
  ·simp
  ·simp [insAt]
  ·simp; omega
  intro v2
  repeat' (first | (refine no_implicit_lambda% (zH ?_)) | (((with_reducible refine no_implicit_lambda% (zA ?_)); refine no_implicit_lambda% (zD rfl rfl rfl (fun hc => ?_) (fun hc => ?_)) <;> first | exact zG hc | rw [hc])) | (((with_reducible refine no_implicit_lambda% (zB ?_)); refine no_implicit_lambda% (zE rfl (fun hc => ?_) (fun hc => ?_)) <;> first | exact zG hc | skip)) | (((with_reducible refine no_implicit_lambda% (zC ?_)); refine no_implicit_lambda% (zF rfl rfl (fun hc => ?_) (fun hc => ?_)) <;> first | exact zG hc | rw [hc])) | (refine no_implicit_lambda% (ans ?_)) | (with_reducible first | exact zI | exact zJ))
  exact e_ret (H' := _) (rest := [(0, .seq rows ((cp - rows.length) * 2))]) rfl ⟨cp', h1, h2, rfl, rfl⟩ (.of_eq rfl) (LE0 rfl)
 ·have hcc := of_decide_eq_false hc
  have hne : i < rows.length := by
   rename_i hc0
   have h0 : ¬ (i : Int) = rows.length := by simpa using hc0
   omega
  have hw : IntKind.i64.wrap ((rows.length : Int) + (([row].length : Nat) : Int)) = ((rows.length + 1 : Nat) : Int) := by rw [IntKind.wrap_i64, List.length_singleton]; omega
  rw [hw] at hcc ⊢
  ((with_reducible refine no_implicit_lambda% (zC ?_)); first | (refine no_implicit_lambda% (a_qS rfl (fun _ h => h) ?_ ?_)) | (refine no_implicit_lambda% (a_qS rfl (qIx (fun _ h => h)) ?_ ?_)) | (refine no_implicit_lambda% (a_qS rfl (qAnd5 (fun _ h => h)) ?_ ?_)) | (refine no_implicit_lambda% (a_qS rfl (qStr (fun _ h => h)) ?_ ?_)) | (refine no_implicit_lambda% (a_qS rfl (qAnd4 (fun _ h => h)) ?_ ?_)) | (refine no_implicit_lambda% (a_qS rfl (qAnd2 (fun _ h => h)) ?_ ?_))); focus ((repeat' (refine no_implicit_lambda% (And.intro ?_ ?_))) <;> (first | exact trivial | exact Int.natCast_nonneg _ | omega | (simp; done) | (simp; omega) | ((show (0 : Int) ≤ _); omega)))
  repeat' (first | (refine no_implicit_lambda% (zH ?_)) | (((with_reducible refine no_implicit_lambda% (zA ?_)); refine no_implicit_lambda% (zD rfl rfl rfl (fun hc => ?_) (fun hc => ?_)) <;> first | exact zG hc | rw [hc])) | (((with_reducible refine no_implicit_lambda% (zB ?_)); refine no_implicit_lambda% (zE rfl (fun hc => ?_) (fun hc => ?_)) <;> first | exact zG hc | skip)) | (((with_reducible refine no_implicit_lambda% (zC ?_)); refine no_implicit_lambda% (zF rfl rfl (fun hc => ?_) (fun hc => ?_)) <;> first | exact zG hc | rw [hc])) | (refine no_implicit_lambda% (ans ?_)) | (with_reducible first | exact zI | exact zJ))
  have hw2 : IntKind.i64.wrap ((i : Int) + (([row].length : Nat) : Int)) = ((i + 1 : Nat) : Int) := by rw [IntKind.wrap_i64, List.length_singleton]; omega
  rw [hw2]
  ((with_reducible refine no_implicit_lambda% (zC ?_)); first | (refine no_implicit_lambda% (a_qS rfl (fun _ h => h) ?_ ?_)) | (refine no_implicit_lambda% (a_qS rfl (qIx (fun _ h => h)) ?_ ?_)) | (refine no_implicit_lambda% (a_qS rfl (qAnd5 (fun _ h => h)) ?_ ?_)) | (refine no_implicit_lambda% (a_qS rfl (qStr (fun _ h => h)) ?_ ?_)) | (refine no_implicit_lambda% (a_qS rfl (qAnd4 (fun _ h => h)) ?_ ?_)) | (refine no_implicit_lambda% (a_qS rfl (qAnd2 (fun _ h => h)) ?_ ?_))); focus ((repeat' (refine no_implicit_lambda% (And.intro ?_ ?_))) <;> (first | exact trivial | exact Int.natCast_nonneg _ | omega | (simp; done) | (simp; omega) | ((show (0 : Int) ≤ _); omega)))
  repeat' (first | (refine no_implicit_lambda% (zH ?_)) | (((with_reducible refine no_implicit_lambda% (zA ?_)); refine no_implicit_lambda% (zD rfl rfl rfl (fun hc => ?_) (fun hc => ?_)) <;> first | exact zG hc | rw [hc])) | (((with_reducible refine no_implicit_lambda% (zB ?_)); refine no_implicit_lambda% (zE rfl (fun hc => ?_) (fun hc => ?_)) <;> first | exact zG hc | skip)) | (((with_reducible refine no_implicit_lambda% (zC ?_)); refine no_implicit_lambda% (zF rfl rfl (fun hc => ?_) (fun hc => ?_)) <;> first | exact zG hc | rw [hc])) | (refine no_implicit_lambda% (ans ?_)) | (with_reducible first | exact zI | exact zJ) | (refine no_implicit_lambda% (cal [0] (overlaps_nam row rows _ _ _ _ (by intro h; rw [h] at hrow; cases hrow) (by omega)) ?_ ?_)) | fail)
  rw [show rn [0] 1 0 = 0 from rfl]
  ((with_reducible refine no_implicit_lambda% (is_ev ?_)); first | (refine no_implicit_lambda% (v_qS rfl rfl rfl rfl (qAnd4 (fun _ h => h)) (fun _ h => h) ?_ ?_)) | (refine no_implicit_lambda% (v_qS rfl rfl rfl rfl (qAnd5 (fun _ h => h)) (fun _ h => h) ?_ ?_))); focus ((repeat' (refine no_implicit_lambda% (And.intro ?_ ?_))) <;> (first | exact trivial | exact Int.natCast_nonneg _ | omega | (simp; done) | (simp; omega) | ((show (0 : Int) ≤ _); omega)))
  repeat' (first | (refine no_implicit_lambda% (zH ?_)) | (((with_reducible refine no_implicit_lambda% (zA ?_)); refine no_implicit_lambda% (zD rfl rfl rfl (fun hc => ?_) (fun hc => ?_)) <;> first | exact zG hc | rw [hc])) | (((with_reducible refine no_implicit_lambda% (zB ?_)); refine no_implicit_lambda% (zE rfl (fun hc => ?_) (fun hc => ?_)) <;> first | exact zG hc | skip)) | (((with_reducible refine no_implicit_lambda% (zC ?_)); refine no_implicit_lambda% (zF rfl rfl (fun hc => ?_) (fun hc => ?_)) <;> first | exact zG hc | rw [hc])) | (refine no_implicit_lambda% (ans ?_)) | (with_reducible first | exact zI | exact zJ))
  ((with_reducible refine no_implicit_lambda% (is_ev ?_)); first | (refine no_implicit_lambda% (v_qS rfl rfl rfl rfl (qAnd4 (fun _ h => h)) (fun _ h => h) ?_ ?_)) | (refine no_implicit_lambda% (v_qS rfl rfl rfl rfl (qAnd5 (fun _ h => h)) (fun _ h => h) ?_ ?_))); focus ((repeat' (refine no_implicit_lambda% (And.intro ?_ ?_))) <;> (first | exact trivial | exact Int.natCast_nonneg _ | omega | (simp; done) | (simp; omega) | ((show (0 : Int) ≤ _); omega)))
  repeat' (first | (refine no_implicit_lambda% (zH ?_)) | (((with_reducible refine no_implicit_lambda% (zA ?_)); refine no_implicit_lambda% (zD rfl rfl rfl (fun hc => ?_) (fun hc => ?_)) <;> first | exact zG hc | rw [hc])) | (((with_reducible refine no_implicit_lambda% (zB ?_)); refine no_implicit_lambda% (zE rfl (fun hc => ?_) (fun hc => ?_)) <;> first | exact zG hc | skip)) | (((with_reducible refine no_implicit_lambda% (zC ?_)); refine no_implicit_lambda% (zF rfl rfl (fun hc => ?_) (fun hc => ?_)) <;> first | exact zG hc | rw [hc])) | (refine no_implicit_lambda% (ans ?_)) | (with_reducible first | exact zI | exact zJ))
  obtain ⟨r, hr⟩ : ∃ r, rows[i]? = some r := ⟨_, List.getElem?_eq_getElem hne⟩
  (with_reducible refine zC ?_)
  refine a_copyUp (id := 0) (i := i) (sz := 2) (rows := rows) (r := r) (k2 := (cp - (rows.length + 1)) * 2) rfl rfl rfl rfl rfl rfl rfl rfl rfl (fun _ h => h) rfl rfl hR hr ?_ ?_ ?_ ?_ ?_ ?_ ?_
  ·rw [hw2]; (first | omega | (simp; done) | (simp; omega))
  ·(first | omega | (simp; done) | (simp; omega))
  ·(first | omega | (simp; done) | (simp; omega))
  ·(first | omega | (simp; done) | (simp; omega))
  ·(first | omega | (simp; done) | (simp; omega))
  ·(first | omega | (simp; done) | (simp; omega))
  intro v1
  repeat' (first | (refine no_implicit_lambda% (zH ?_)) | (((with_reducible refine no_implicit_lambda% (zA ?_)); refine no_implicit_lambda% (zD rfl rfl rfl (fun hc => ?_) (fun hc => ?_)) <;> first | exact zG hc | rw [hc])) | (((with_reducible refine no_implicit_lambda% (zB ?_)); refine no_implicit_lambda% (zE rfl (fun hc => ?_) (fun hc => ?_)) <;> first | exact zG hc | skip)) | (((with_reducible refine no_implicit_lambda% (zC ?_)); refine no_implicit_lambda% (zF rfl rfl (fun hc => ?_) (fun hc => ?_)) <;> first | exact zG hc | rw [hc])) | (refine no_implicit_lambda% (ans ?_)) | (with_reducible first | exact zI | exact zJ))
  ((with_reducible refine no_implicit_lambda% (zC ?_)); first | (refine no_implicit_lambda% (a_qS rfl (fun _ h => h) ?_ ?_)) | (refine no_implicit_lambda% (a_qS rfl (qIx (fun _ h => h)) ?_ ?_)) | (refine no_implicit_lambda% (a_qS rfl (qAnd5 (fun _ h => h)) ?_ ?_)) | (refine no_implicit_lambda% (a_qS rfl (qStr (fun _ h => h)) ?_ ?_)) | (refine no_implicit_lambda% (a_qS rfl (qAnd4 (fun _ h => h)) ?_ ?_)) | (refine no_implicit_lambda% (a_qS rfl (qAnd2 (fun _ h => h)) ?_ ?_))); focus ((repeat' (refine no_implicit_lambda% (And.intro ?_ ?_))) <;> (first | exact trivial | exact Int.natCast_nonneg _ | omega | (simp; done) | (simp; omega) | ((show (0 : Int) ≤ _); omega)))
  repeat' (first | (refine no_implicit_lambda% (zH ?_)) | (((with_reducible refine no_implicit_lambda% (zA ?_)); refine no_implicit_lambda% (zD rfl rfl rfl (fun hc => ?_) (fun hc => ?_)) <;> first | exact zG hc | rw [hc])) | (((with_reducible refine no_implicit_lambda% (zB ?_)); refine no_implicit_lambda% (zE rfl (fun hc => ?_) (fun hc => ?_)) <;> first | exact zG hc | skip)) | (((with_reducible refine no_implicit_lambda% (zC ?_)); refine no_implicit_lambda% (zF rfl rfl (fun hc => ?_) (fun hc => ?_)) <;> first | exact zG hc | rw [hc])) | (refine no_implicit_lambda% (ans ?_)) | (with_reducible first | exact zI | exact zJ))
  have hR2 : RowsOk 2 (rows.take i ++ r :: rows.drop i) := (hR.take i).app (RowsOk.app (r1 := [r]) (.one1 (hR.row (List.mem_of_getElem? hr))) (hR.drop i))
  (with_reducible refine zC ?_)
  refine a_copyOne (id := 0) (i := i) (sz := 2) (rows := rows.take i ++ r :: rows.drop i) (row := row) (rows' := insAt rows i row) rfl rfl rfl rfl rfl rfl rfl rfl rfl (fun _ h => h) rfl hR2 hrow ?_ ?_ ?_ ?_ (ins_set hne) ?_
  ·exact fun a ha => hR1.pure a (by simpa using ha)
  ·(first | omega | (simp; done) | (simp; omega))
  ·(first | omega | (simp; done) | (simp; omega))
  ·(first | omega | (simp; done) | (simp; omega))
  intro v2
  repeat' (first | (refine no_implicit_lambda% (zH ?_)) | (((with_reducible refine no_implicit_lambda% (zA ?_)); refine no_implicit_lambda% (zD rfl rfl rfl (fun hc => ?_) (fun hc => ?_)) <;> first | exact zG hc | rw [hc])) | (((with_reducible refine no_implicit_lambda% (zB ?_)); refine no_implicit_lambda% (zE rfl (fun hc => ?_) (fun hc => ?_)) <;> first | exact zG hc | skip)) | (((with_reducible refine no_implicit_lambda% (zC ?_)); refine no_implicit_lambda% (zF rfl rfl (fun hc => ?_) (fun hc => ?_)) <;> first | exact zG hc | rw [hc])) | (refine no_implicit_lambda% (ans ?_)) | (with_reducible first | exact zI | exact zJ))
  refine e_ret_to (H' := [(1, .seq (insAt rows i row) ((cp - (rows.length + 1)) * 2))]) (rest := []) (Conv.anewS (j := 6) rfl (.refl _) ?_) rfl ⟨cp, by omega, hcp, rfl, rfl⟩ (.of_eq rfl) (LE0 rfl)
  rw [insAt_len _ hi]; omega
end Go.Proofs.YtjepgbpcpcahgaaGreat
namespace Go.Proofs.YtjepgbpcpcahgaaGreat
open Go.Am
set_option maxRecDepth 100000
structure Nm where
 n : ByteArray
 r : List Co
def nmrow (x : Nm) : List AV := [.v (.string x.n), .list (x.r.map corow) .free]
theorem nmOk (l : List Nm) : RowsOk 2 (l.map nmrow) := .map (f := nmrow) (fun _ => ⟨rfl, rfl, rfl⟩) l
set_option maxHeartbeats 3200000 in
theorem delete_nam (l : List Nm) (cp i : Nat) (hi : i < l.length) (hl : l.length ≤ 1000) (hcp : l.length ≤ cp) (hcm : cp ≤ maxLen) : ACalls Tryz.prog 100 1 1 [.arr 0 0 l.length cp, .v (.int .i64 i), .v (.int .i64 (i + 1 : Nat))] [(0, .seq (l.map nmrow) ((cp - l.length) * 2))] (fun out H' => out = .ret (.arr 0 0 (l.length - 1) cp) ∧ H' = [(0, .seq ((l.eraseIdx i).map nmrow) ((cp - (l.length - 1)) * 2))]) := by
 obtain ⟨last, hlast⟩ : ∃ last, (l.map nmrow)[(l.map nmrow).length - 1]? = some last := ⟨_, List.getElem?_eq_getElem (by rw [List.length_map]; omega)⟩
 refine no_implicit_lambda% (acalls_of tok dok (f := 100) ⟨Tryz.func100, rfl, by kernel_rfl⟩ ?_); refine no_implicit_lambda% (c_start (fun _ h => h) ?_)
 refine c_seq ?_
 first | (with_reducible refine no_implicit_lambda% (c_seq ?_)) | (with_reducible refine no_implicit_lambda% (c_region ?_)) | (with_reducible refine no_implicit_lambda% (c_ret ?_)) | (with_reducible refine no_implicit_lambda% (c_skip ?_)) | (with_reducible refine no_implicit_lambda% (c_block ?_)) | (with_reducible refine no_implicit_lambda% (c_exit ?_)) | (with_reducible refine no_implicit_lambda% (o_nil ?_)) | (with_reducible refine no_implicit_lambda% (k_seq ?_)) | (with_reducible refine no_implicit_lambda% (k_seq_ret ?_)) | (with_reducible refine no_implicit_lambda% (k_seq_exit ?_)) | (with_reducible refine no_implicit_lambda% (k_seq_pan ?_)) | (with_reducible refine no_implicit_lambda% (k_block ?_)) | (with_reducible refine no_implicit_lambda% (k_block_ret ?_)) | (with_reducible refine no_implicit_lambda% (k_block_pan ?_)) | ((with_reducible refine no_implicit_lambda% (is_blockx ?_)); first | (refine no_implicit_lambda% (k_block_here rfl ?_)) | (refine no_implicit_lambda% (k_block_on rfl ?_))) | (with_reducible refine no_implicit_lambda% (k_pan ?_)) | (with_reducible refine no_implicit_lambda% (k_opP ?_)) | (with_reducible refine no_implicit_lambda% (k_loop_ret ?_)) | (with_reducible refine no_implicit_lambda% (k_loop_exit ?_)) | (with_reducible refine no_implicit_lambda% (k_loop_pan ?_)) | (with_reducible refine no_implicit_lambda% (e_end ?_))
 repeat' (first | ((with_reducible refine no_implicit_lambda% (zA ?_)); first | (refine no_implicit_lambda% (o_op rfl ?_)) | (refine no_implicit_lambda% (o_yes rfl rfl rfl ?_)) | (refine no_implicit_lambda% (o_no rfl rfl rfl (fun _ h => h) ?_)) | (refine no_implicit_lambda% (o_not rfl rfl rfl (fun _ h => h) ?_))) | ((with_reducible refine no_implicit_lambda% (is_opK ?_)); first | (refine no_implicit_lambda% (k_op' (fun _ h => h) ?_))) | ((with_reducible refine no_implicit_lambda% (zC ?_)); first | (refine no_implicit_lambda% (a_q1 rfl (fun _ h => h) ?_)) | (refine no_implicit_lambda% (a_box rfl (fun _ h => h) ?_)) | (refine no_implicit_lambda% (a_alloc rfl (fun _ h => h) ?_)) | (refine no_implicit_lambda% (a_storev rfl (fun _ h => h) ?_)) | (refine no_implicit_lambda% (a_store rfl (fun _ h => h) ?_)) | (refine no_implicit_lambda% (a_panic rfl rfl ?_))) | ((with_reducible refine no_implicit_lambda% (zC ?_)); refine no_implicit_lambda% (a_qS rfl (qIx (fun _ h => h)) (by first | assumption | exact hpx (by assumption) | exact hpy (by assumption)) ?_)) | (with_reducible refine no_implicit_lambda% (o_nil ?_)) | fail)
 refine k_seq_to ⟨_, _, _⟩ (Conv.unseq (L0 := []) (id := 0) (rows := l.map nmrow) (k := (cp - l.length) * 2) (by rw [List.length_map]; omega) (.refl _)) ?_
 repeat' (first | (refine no_implicit_lambda% (zH ?_)) | (((with_reducible refine no_implicit_lambda% (zA ?_)); refine no_implicit_lambda% (zD rfl rfl rfl (fun hc => ?_) (fun hc => ?_)) <;> first | exact zG hc | rw [hc])) | (((with_reducible refine no_implicit_lambda% (zB ?_)); refine no_implicit_lambda% (zE rfl (fun hc => ?_) (fun hc => ?_)) <;> first | exact zG hc | skip)) | (((with_reducible refine no_implicit_lambda% (zC ?_)); refine no_implicit_lambda% (zF rfl rfl (fun hc => ?_) (fun hc => ?_)) <;> first | exact zG hc | rw [hc])) | (refine no_implicit_lambda% (ans ?_)) | (with_reducible first | exact zI | exact zJ))
 (with_reducible refine zC ?_)
 refine a_qS rfl (qAnd6 (fun _ h => h)) ⟨Int.natCast_nonneg _, Int.natCast_nonneg _, Int.natCast_nonneg _, by simp, by simp; omega, by simp; omega⟩ ?_
 repeat' (first | (refine no_implicit_lambda% (zH ?_)) | (((with_reducible refine no_implicit_lambda% (zA ?_)); refine no_implicit_lambda% (zD rfl rfl rfl (fun hc => ?_) (fun hc => ?_)) <;> first | exact zG hc | rw [hc])) | (((with_reducible refine no_implicit_lambda% (zB ?_)); refine no_implicit_lambda% (zE rfl (fun hc => ?_) (fun hc => ?_)) <;> first | exact zG hc | skip)) | (((with_reducible refine no_implicit_lambda% (zC ?_)); refine no_implicit_lambda% (zF rfl rfl (fun hc => ?_) (fun hc => ?_)) <;> first | exact zG hc | rw [hc])) | (refine no_implicit_lambda% (ans ?_)) | (with_reducible first | exact zI | exact zJ))
 ((with_reducible refine no_implicit_lambda% (is_ev ?_)); first | (refine no_implicit_lambda% (v_qS rfl rfl rfl rfl (qAnd4 (fun _ h => h)) (fun _ h => h) ?_ ?_)) | (refine no_implicit_lambda% (v_qS rfl rfl rfl rfl (qAnd5 (fun _ h => h)) (fun _ h => h) ?_ ?_))); focus ((repeat' (refine no_implicit_lambda% (And.intro ?_ ?_))) <;> (first | exact trivial | exact Int.natCast_nonneg _ | omega | (simp; done) | (simp; omega) | ((show (0 : Int) ≤ _); omega)))
 repeat' (first | (refine no_implicit_lambda% (zH ?_)) | (((with_reducible refine no_implicit_lambda% (zA ?_)); refine no_implicit_lambda% (zD rfl rfl rfl (fun hc => ?_) (fun hc => ?_)) <;> first | exact zG hc | rw [hc])) | (((with_reducible refine no_implicit_lambda% (zB ?_)); refine no_implicit_lambda% (zE rfl (fun hc => ?_) (fun hc => ?_)) <;> first | exact zG hc | skip)) | (((with_reducible refine no_implicit_lambda% (zC ?_)); refine no_implicit_lambda% (zF rfl rfl (fun hc => ?_) (fun hc => ?_)) <;> first | exact zG hc | rw [hc])) | (((with_reducible refine no_implicit_lambda% (is_ev ?_)); refine no_implicit_lambda% (v_split rfl rfl rfl rfl (fun hc => ?_) (fun hc => ?_)) <;> first | exact zG hc | rw [hc])) | (refine no_implicit_lambda% (ans ?_)) | (with_reducible first | exact zI | exact zJ))
 ((with_reducible refine no_implicit_lambda% (is_ev ?_)); first | (refine no_implicit_lambda% (v_qS rfl rfl rfl rfl (qAnd4 (fun _ h => h)) (fun _ h => h) ?_ ?_)) | (refine no_implicit_lambda% (v_qS rfl rfl rfl rfl (qAnd5 (fun _ h => h)) (fun _ h => h) ?_ ?_))); focus ((repeat' (refine no_implicit_lambda% (And.intro ?_ ?_))) <;> (first | exact trivial | exact Int.natCast_nonneg _ | omega | (simp; done) | (simp; omega) | ((show (0 : Int) ≤ _); omega)))
 repeat' (first | (refine no_implicit_lambda% (zH ?_)) | (((with_reducible refine no_implicit_lambda% (zA ?_)); refine no_implicit_lambda% (zD rfl rfl rfl (fun hc => ?_) (fun hc => ?_)) <;> first | exact zG hc | rw [hc])) | (((with_reducible refine no_implicit_lambda% (zB ?_)); refine no_implicit_lambda% (zE rfl (fun hc => ?_) (fun hc => ?_)) <;> first | exact zG hc | skip)) | (((with_reducible refine no_implicit_lambda% (zC ?_)); refine no_implicit_lambda% (zF rfl rfl (fun hc => ?_) (fun hc => ?_)) <;> first | exact zG hc | rw [hc])) | (((with_reducible refine no_implicit_lambda% (is_ev ?_)); refine no_implicit_lambda% (v_split rfl rfl rfl rfl (fun hc => ?_) (fun hc => ?_)) <;> first | exact zG hc | rw [hc])) | (refine no_implicit_lambda% (ans ?_)) | (with_reducible first | exact zI | exact zJ))
 (with_reducible refine zC ?_)
 refine a_app_arr (id := 0) (off := 0) (nn := i) (cp := cp) (m := l.length - (i + 1)) (cs := ((l.map nmrow).drop (i + 1)).flatten) rfl rfl rfl rfl rfl rfl rfl rfl rfl ?_ (fun K h => asrc_boxd rfl rfl (nmOk l) ?_ ?_ ?_ h) ?_ ?_ ?_
 ·show AV.arr 0 (0 + 0 * 2) ((i : Int).toNat - 0) (cp - 0) = AV.arr 0 0 i cp
  simp
 ·rw [List.length_map]; omega
 ·show 0 + ((i + 1 : Nat) : Int).toNat * 2 = (i + 1) * 2
  rw [Int.toNat_natCast]; omega
 ·rw [Int.toNat_natCast, List.length_map]
 ·exact ⟨by show (i + (l.length - (i + 1))) * 40 ≤ _; omega, by omega⟩
 ·intro _
  refine ⟨seqC (l.map nmrow) ((cp - l.length) * 2), rfl, ?_, ?_⟩
  ·show 0 + (i + (l.length - (i + 1))) * 2 ≤ _
   rw [seqC_len (nmOk l).len, List.length_map]; omega
  ·have hps := put_shift (k := (cp - l.length) * 2) (nmOk l).len (i := i) (by rw [List.length_map]; exact hi) hlast
   generalize hq : putCells (seqC (l.map nmrow) ((cp - l.length) * 2)) _ ((l.map nmrow).drop (i + 1)).flatten = q
   have hq2 : q = seqC ((l.map nmrow).eraseIdx i ++ [last]) ((cp - l.length) * 2) := by
    rw [← hq]
    show putCells _ (0 + i * 2) _ = _
    rw [Nat.zero_add]; exact hps
   rw [hq2]
   refine no_implicit_lambda% (aec (L2 := [(0, .box (seqC ((l.map nmrow).eraseIdx i ++ [last]) ((cp - l.length) * 2)))]) ?_ (hL := fun q hq => by rw [forceH_eq]; exact hq))
   repeat' (first | (refine no_implicit_lambda% (zH ?_)) | (((with_reducible refine no_implicit_lambda% (zA ?_)); refine no_implicit_lambda% (zD rfl rfl rfl (fun hc => ?_) (fun hc => ?_)) <;> first | exact zG hc | rw [hc])) | (((with_reducible refine no_implicit_lambda% (zB ?_)); refine no_implicit_lambda% (zE rfl (fun hc => ?_) (fun hc => ?_)) <;> first | exact zG hc | skip)) | (((with_reducible refine no_implicit_lambda% (zC ?_)); refine no_implicit_lambda% (zF rfl rfl (fun hc => ?_) (fun hc => ?_)) <;> first | exact zG hc | rw [hc])) | (((with_reducible refine no_implicit_lambda% (is_ev ?_)); refine no_implicit_lambda% (v_split rfl rfl rfl rfl (fun hc => ?_) (fun hc => ?_)) <;> first | exact zG hc | rw [hc])) | (refine no_implicit_lambda% (ans ?_)) | (with_reducible first | exact zI | exact zJ))
   (with_reducible refine is_effK ?_)
   refine no_implicit_lambda% (k_eff (L2 := [(0, .box (seqC ((l.map nmrow).eraseIdx i ++ [last]) ((cp - l.length) * 2)))]) (fun _ h => h) (fun q hq => by rw [forceH_eq]; exact hq) (fun _ h => h) (by intro k h; repeat (first | exact h | refine ⟨rfl, ?_⟩ | refine ⟨trivial, ?_⟩)) ?_)
   repeat' (first | (refine no_implicit_lambda% (zH ?_)) | (((with_reducible refine no_implicit_lambda% (zA ?_)); refine no_implicit_lambda% (zD rfl rfl rfl (fun hc => ?_) (fun hc => ?_)) <;> first | exact zG hc | rw [hc])) | (((with_reducible refine no_implicit_lambda% (zB ?_)); refine no_implicit_lambda% (zE rfl (fun hc => ?_) (fun hc => ?_)) <;> first | exact zG hc | skip)) | (((with_reducible refine no_implicit_lambda% (zC ?_)); refine no_implicit_lambda% (zF rfl rfl (fun hc => ?_) (fun hc => ?_)) <;> first | exact zG hc | rw [hc])) | (((with_reducible refine no_implicit_lambda% (is_ev ?_)); refine no_implicit_lambda% (v_split rfl rfl rfl rfl (fun hc => ?_) (fun hc => ?_)) <;> first | exact zG hc | rw [hc])) | (refine no_implicit_lambda% (ans ?_)) | (with_reducible first | exact zI | exact zJ))
   (with_reducible refine is_drB ?_)
   refine no_implicit_lambda% (b_end (L1 := [(0, .box (seqC ((l.map nmrow).eraseIdx i ++ [last]) ((cp - l.length) * 2)))]) rfl rfl (fun _ h => h) (fun q hq => by show forceH _ q; rw [forceH_eq]; exact hq) ?_)
   have hR2 : RowsOk 2 ((l.map nmrow).eraseIdx i ++ [last]) := by
    have h1 : RowsOk 2 ((l.map nmrow).eraseIdx i) := by
     rw [List.eraseIdx_eq_take_drop_succ]
     exact ((nmOk l).take i).app ((nmOk l).drop (i + 1))
    exact h1.app (.one1 ((nmOk l).row (List.mem_of_getElem? hlast)))
   have hRl : ((l.map nmrow).eraseIdx i ++ [last]).length = l.length := by
    rw [List.length_append, List.length_eraseIdx_of_lt (by rw [List.length_map]; exact hi), List.length_map, List.length_singleton]; omega
   refine k_seq_to ⟨_, _, _⟩ (Conv.toSeq (L0 := []) (id := 0) (rows := (l.map nmrow).eraseIdx i ++ [last]) (k := (cp - l.length) * 2) (.refl _) rfl hR2.pure) ?_
   repeat' (first | (refine no_implicit_lambda% (zH ?_)) | (((with_reducible refine no_implicit_lambda% (zA ?_)); refine no_implicit_lambda% (zD rfl rfl rfl (fun hc => ?_) (fun hc => ?_)) <;> first | exact zG hc | rw [hc])) | (((with_reducible refine no_implicit_lambda% (zB ?_)); refine no_implicit_lambda% (zE rfl (fun hc => ?_) (fun hc => ?_)) <;> first | exact zG hc | skip)) | (((with_reducible refine no_implicit_lambda% (zC ?_)); refine no_implicit_lambda% (zF rfl rfl (fun hc => ?_) (fun hc => ?_)) <;> first | exact zG hc | rw [hc])) | (refine no_implicit_lambda% (ans ?_)) | (with_reducible first | exact zI | exact zJ))
   ((with_reducible refine no_implicit_lambda% (zC ?_)); first | (refine no_implicit_lambda% (a_qS rfl (fun _ h => h) ?_ ?_)) | (refine no_implicit_lambda% (a_qS rfl (qIx (fun _ h => h)) ?_ ?_)) | (refine no_implicit_lambda% (a_qS rfl (qAnd5 (fun _ h => h)) ?_ ?_)) | (refine no_implicit_lambda% (a_qS rfl (qStr (fun _ h => h)) ?_ ?_)) | (refine no_implicit_lambda% (a_qS rfl (qAnd4 (fun _ h => h)) ?_ ?_)) | (refine no_implicit_lambda% (a_qS rfl (qAnd2 (fun _ h => h)) ?_ ?_))); focus ((repeat' (refine no_implicit_lambda% (And.intro ?_ ?_))) <;> (first | exact trivial | exact Int.natCast_nonneg _ | omega | (simp; done) | (simp; omega) | ((show (0 : Int) ≤ _); omega)))
   repeat' (first | (refine no_implicit_lambda% (zH ?_)) | (((with_reducible refine no_implicit_lambda% (zA ?_)); refine no_implicit_lambda% (zD rfl rfl rfl (fun hc => ?_) (fun hc => ?_)) <;> first | exact zG hc | rw [hc])) | (((with_reducible refine no_implicit_lambda% (zB ?_)); refine no_implicit_lambda% (zE rfl (fun hc => ?_) (fun hc => ?_)) <;> first | exact zG hc | skip)) | (((with_reducible refine no_implicit_lambda% (zC ?_)); refine no_implicit_lambda% (zF rfl rfl (fun hc => ?_) (fun hc => ?_)) <;> first | exact zG hc | rw [hc])) | (refine no_implicit_lambda% (ans ?_)) | (with_reducible first | exact zI | exact zJ))
   (with_reducible refine zC ?_)
   refine a_clearToC (id := 0) (i := l.length - 1) (sz := 2) (rows := (l.map nmrow).eraseIdx i ++ [last]) (k2 := (cp - (l.length - 1)) * 2) rfl rfl rfl rfl rfl rfl rfl rfl rfl rfl (fun _ h => h) rfl hR2 ?_ ?_ ?_ ?_ ?_ ?_
   ·omega
   ·show 0 + ((i + (l.length - (i + 1)) : Nat) : Int).toNat * 2 = (l.length - 1) * 2
    rw [Int.toNat_natCast]; omega
   ·rw [Int.toNat_natCast, Int.toNat_natCast, hRl]; omega
   ·omega
   ·rw [hRl]; omega
   ·have e0 : i + (l.length - (i + 1)) = l.length - 1 := by omega
    have e1 : ((l.map nmrow).eraseIdx i ++ [last]).take (l.length - 1) = (l.eraseIdx i).map nmrow := by
     have e2 : ((l.map nmrow).eraseIdx i).length = l.length - 1 := by rw [List.length_eraseIdx_of_lt (by rw [List.length_map]; exact hi), List.length_map]
     rw [List.take_append_of_le_length (by omega), List.take_of_length_le (by omega), List.eraseIdx_eq_take_drop_succ, List.eraseIdx_eq_take_drop_succ, List.map_append, List.map_take, List.map_drop]
    rw [e1, e0]
    repeat' (first | (refine no_implicit_lambda% (zH ?_)) | (((with_reducible refine no_implicit_lambda% (zA ?_)); refine no_implicit_lambda% (zD rfl rfl rfl (fun hc => ?_) (fun hc => ?_)) <;> first | exact zG hc | rw [hc])) | (((with_reducible refine no_implicit_lambda% (zB ?_)); refine no_implicit_lambda% (zE rfl (fun hc => ?_) (fun hc => ?_)) <;> first | exact zG hc | skip)) | (((with_reducible refine no_implicit_lambda% (zC ?_)); refine no_implicit_lambda% (zF rfl rfl (fun hc => ?_) (fun hc => ?_)) <;> first | exact zG hc | rw [hc])) | (refine no_implicit_lambda% (ans ?_)) | (with_reducible first | exact zI | exact zJ))
    exact e_ret (H' := [(0, .seq ((l.eraseIdx i).map nmrow) ((cp - (l.length - 1)) * 2))]) (rest := []) rfl ⟨rfl, rfl⟩ permT (LE0 rfl)
 ·intro h
  exfalso
  omega
end Go.Proofs.YtjepgbpcpcahgaaGreat
namespace Go.Proofs.YtjepgbpcpcahgaaGreat
open Go.Am
set_option maxRecDepth 100000
def nk (Q : List Nm) : List Co := Q.map fun x => ⟨x.n, []⟩
theorem nk_at {Q : List Nm} {i : Nat} {x : Nm} (h : Q[i]? = some x) : (nk Q)[i]? = some ⟨x.n, []⟩ := by unfold nk; rw [List.getElem?_map, h]; rfl
theorem nk_len (Q : List Nm) : (nk Q).length = Q.length := List.length_map ..
theorem nmx {l : List Nm} {i : Nat} {t : Nm} (h : l[i]? = some t) : 0 ≤ (i : Int) ∧ (l.map nmrow)[(i : Int).toNat]? = some (nmrow t) ∧ (nmrow t).length = 2 := ⟨Int.natCast_nonneg _, by rw [Int.toNat_natCast, List.getElem?_map, h]; rfl, rfl⟩
theorem findf_t (c : Nm) (s : ByteArray) : ACalls Tryz.prog 143 0 0 [.agg (nmrow c), .v (.string s)] [] (fun out H' => out = .ret (.v (.int .i64 (cmpS c.n s))) ∧ H' = []) := by
 refine ACalls.top0 (top := 5) ?_
 refine no_implicit_lambda% (acalls_of tok dok (f := 143) ⟨Tryz.func143, rfl, by kernel_rfl⟩ ?_); refine no_implicit_lambda% (c_start (fun _ h => h) ?_)
 repeat' (first | (refine no_implicit_lambda% (zH ?_)) | (((with_reducible refine no_implicit_lambda% (zA ?_)); refine no_implicit_lambda% (zD rfl rfl rfl (fun hc => ?_) (fun hc => ?_)) <;> first | exact zG hc | rw [hc])) | (((with_reducible refine no_implicit_lambda% (zB ?_)); refine no_implicit_lambda% (zE rfl (fun hc => ?_) (fun hc => ?_)) <;> first | exact zG hc | skip)) | (((with_reducible refine no_implicit_lambda% (zC ?_)); refine no_implicit_lambda% (zF rfl rfl (fun hc => ?_) (fun hc => ?_)) <;> first | exact zG hc | rw [hc])) | (refine no_implicit_lambda% (ans ?_)) | (with_reducible first | exact zI | exact zJ) | (refine no_implicit_lambda% (cal [] (compare_s _ _) ?_ ?_)) | fail)
 exact e_ret (H' := []) (rest := _) rfl ⟨rfl, rfl⟩ permT (LE0 rfl)
def ftSt (l : List Nm) (s : ByteArray) (lo hi : Nat) : ASt := ⟨([.list (l.map nmrow) .free, .v (.string s), .fn 143 []] ++ List.replicate 5 .dead ++ [.v (.int .i64 l.length), .v (.int .i64 lo), .v (.int .i64 hi)] ++ List.replicate 38 .dead), [], 0⟩
theorem bsearch_t (l : List Nm) (s : ByteArray) (hl : l.length < 1000000) (hs : Nsort (nk l)) : ACalls Tryz.prog 142 0 0 [.list (l.map nmrow) .free, .v (.string s), .fn 143 []] [] (fun out H' => out = .ret (.tuple [.v (.int .i64 (npos (nk l) s)), .v (.bool (hasN (nk l) s))]) ∧ H' = []) := by
 refine no_implicit_lambda% (acalls_of tok dok (f := 142) ⟨Tryz.func142, rfl, by kernel_rfl⟩ ?_); refine no_implicit_lambda% (c_start (fun _ h => h) ?_)
 repeat' (first | (refine no_implicit_lambda% (zH ?_)) | (((with_reducible refine no_implicit_lambda% (zA ?_)); refine no_implicit_lambda% (zD rfl rfl rfl (fun hc => ?_) (fun hc => ?_)) <;> first | exact zG hc | rw [hc])) | (((with_reducible refine no_implicit_lambda% (zB ?_)); refine no_implicit_lambda% (zE rfl (fun hc => ?_) (fun hc => ?_)) <;> first | exact zG hc | skip)) | (((with_reducible refine no_implicit_lambda% (zC ?_)); refine no_implicit_lambda% (zF rfl rfl (fun hc => ?_) (fun hc => ?_)) <;> first | exact zG hc | rw [hc])) | (refine no_implicit_lambda% (ans ?_)) | (with_reducible first | exact zI | exact zJ))
 refine c_loop2 (ftSt l s) (fun lo hi => lo ≤ hi ∧ hi ≤ l.length ∧ lo ≤ npos (nk l) s ∧ npos (nk l) s ≤ hi) (fun lo hi => hi - lo) 0 l.length ⟨Nat.zero_le _, Nat.le_refl _, Nat.zero_le _, (nk_len l) ▸ npos_le (nk l) s⟩ ?_ ?_
 ·(refine no_implicit_lambda% (Conv.toT ?_ ?_ (LE0 rfl))); (focus ((unfold ftSt); (try dsimp only); exact wkl)); (focus ((unfold ftSt); (try dsimp only); exact wkh))
 ·intro lo hi ⟨h1, h2, h3, h4⟩
  refine c_turn (n' := 0) (fun _ h => h) (fun _ h => h) rfl ?_
  rcases Nat.lt_or_ge lo hi with hlt | hge
  ·have hm : IntKind.i64.wrap ((IntKind.u64.wrap (IntKind.i64.wrap ((lo : Int) + hi))).fdiv (2 ^ min (Int.toNat 1) IntKind.u64.bits)) = (((lo + hi) / 2 : Nat) : Int) := by
    rw [show min (Int.toNat 1) IntKind.u64.bits = 1 from rfl, Int.pow_one, IntKind.wrap_i64, IntKind.wrap_u64]
    rw [Int.fdiv_eq_ediv_of_nonneg _ (by omega)]
    rw [IntKind.wrap_i64]
    omega
   obtain ⟨m, hmm⟩ : ∃ m, (lo + hi) / 2 = m := ⟨_, rfl⟩
   rw [hmm] at hm
   have hml : m < l.length := by omega
   obtain ⟨t, ht⟩ : ∃ t, l[m]? = some t := ⟨_, List.getElem?_eq_getElem hml⟩
   have hk := npos_lt (s := s) hs (nk_at ht)
   have hix := nmx ht
   rw [← hm] at hix
   repeat' (first | (refine no_implicit_lambda% (zH ?_)) | (((with_reducible refine no_implicit_lambda% (zA ?_)); refine no_implicit_lambda% (zD rfl rfl rfl (fun hc => ?_) (fun hc => ?_)) <;> first | exact zG hc | rw [hc])) | (((with_reducible refine no_implicit_lambda% (zB ?_)); refine no_implicit_lambda% (zE rfl (fun hc => ?_) (fun hc => ?_)) <;> first | exact zG hc | skip)) | (((with_reducible refine no_implicit_lambda% (zC ?_)); refine no_implicit_lambda% (zF rfl rfl (fun hc => ?_) (fun hc => ?_)) <;> first | exact zG hc | rw [hc])) | (refine no_implicit_lambda% (ans ?_)) | (with_reducible first | exact zI | exact zJ) | (refine no_implicit_lambda% (cal [] (findf_t t s) ?_ ?_)) | fail)
   ·have hq := of_decide_eq_true hc
    have hq2 : sLt t.n s = true := by rw [sLt_eq]; exact decide_eq_true (by have := cb_bd t.n.toList s.toList; unfold cmpS at *; omega)
    rw [hm]
    (refine no_implicit_lambda% (k_loopT (((m + 1, hi) : Nat × Nat)) (by show m + 1 ≤ hi ∧ hi ≤ l.length ∧ m + 1 ≤ npos (nk l) s ∧ npos (nk l) s ≤ hi; have := hk.2 hq2; omega) (by first | omega | (simp; done) | (simp; omega)) ?_ ?_)); (focus ((unfold ftSt); (try dsimp only); exact wkl)); (focus ((unfold ftSt); (try dsimp only); exact wkh))
   ·have hq := of_decide_eq_false hc
    have hq2 : ¬ sLt t.n s = true := by rw [sLt_eq, decide_eq_true_eq]; omega
    rw [hm]
    (refine no_implicit_lambda% (k_loopT (((lo, m) : Nat × Nat)) (by show lo ≤ m ∧ m ≤ l.length ∧ lo ≤ npos (nk l) s ∧ npos (nk l) s ≤ m; have := mt hk.1 hq2; omega) (by first | omega | (simp; done) | (simp; omega)) ?_ ?_)); (focus ((unfold ftSt); (try dsimp only); exact wkl)); (focus ((unfold ftSt); (try dsimp only); exact wkh))
  ·have hle : lo = hi := by omega
   subst hle
   have hn : lo = npos (nk l) s := by omega
   rcases ht : l[lo]? with _ | t
   ·have hge : ¬ lo < l.length := by have := List.getElem?_eq_none_iff.1 ht; omega
    have hh : hasN (nk l) s = false := by
     unfold hasN
     rw [← hn, show (nk l)[lo]? = none by rw [List.getElem?_eq_none_iff, nk_len]; omega]
    rw [hh, ← hn]
    repeat' (first | (refine no_implicit_lambda% (zH ?_)) | (((with_reducible refine no_implicit_lambda% (zA ?_)); refine no_implicit_lambda% (zD rfl rfl rfl (fun hc => ?_) (fun hc => ?_)) <;> first | exact zG hc | rw [hc])) | (((with_reducible refine no_implicit_lambda% (zB ?_)); refine no_implicit_lambda% (zE rfl (fun hc => ?_) (fun hc => ?_)) <;> first | exact zG hc | skip)) | (((with_reducible refine no_implicit_lambda% (zC ?_)); refine no_implicit_lambda% (zF rfl rfl (fun hc => ?_) (fun hc => ?_)) <;> first | exact zG hc | rw [hc])) | (refine no_implicit_lambda% (ans ?_)) | (with_reducible first | exact zI | exact zJ))
    exact e_ret (H' := []) (rest := _) rfl ⟨rfl, rfl⟩ (.refl _) (LE0 rfl)
   ·have hix := nmx ht
    have hh : hasN (nk l) s = (cmpS t.n s == 0) := by unfold hasN; rw [← hn, nk_at ht]
    rw [hh, ← hn]
    repeat' (first | (refine no_implicit_lambda% (zH ?_)) | (((with_reducible refine no_implicit_lambda% (zA ?_)); refine no_implicit_lambda% (zD rfl rfl rfl (fun hc => ?_) (fun hc => ?_)) <;> first | exact zG hc | rw [hc])) | (((with_reducible refine no_implicit_lambda% (zB ?_)); refine no_implicit_lambda% (zE rfl (fun hc => ?_) (fun hc => ?_)) <;> first | exact zG hc | skip)) | (((with_reducible refine no_implicit_lambda% (zC ?_)); refine no_implicit_lambda% (zF rfl rfl (fun hc => ?_) (fun hc => ?_)) <;> first | exact zG hc | rw [hc])) | (refine no_implicit_lambda% (ans ?_)) | (with_reducible first | exact zI | exact zJ) | (refine no_implicit_lambda% (cal [] (findf_t t s) ?_ ?_)) | fail)
    ·exact e_ret (H' := []) (rest := _) rfl ⟨rfl, rfl⟩ (.refl _) (LE0 rfl)
    ·exfalso
     have h5 := (List.getElem?_eq_some_iff.1 ht).1
     have := of_decide_eq_false hc
     omega
theorem bsearch_o (Q : List Nm) (s : ByteArray) (cp : Nat) (hl : Q.length < 1000000) (hs : Nsort (nk Q)) : ACalls Tryz.prog 142 1 1 [.arr 0 0 Q.length cp, .v (.string s), .fn 143 []] [(0, .seq (Q.map nmrow) ((cp - Q.length) * 2))] (fun out H' => out = .ret (.tuple [.v (.int .i64 (npos (nk Q) s)), .v (.bool (hasN (nk Q) s))]) ∧ H' = [(0, .seq (Q.map nmrow) ((cp - Q.length) * 2))]) :=
 ((bsearch_t Q s hl hs).borrow (k := 1) (top := 1) (args := [.arr 0 0 Q.length cp, .v (.string s), .fn 143 []]) (H := [(0, .seq (Q.map nmrow) ((cp - Q.length) * 2))]) rfl (fun out H' hh => by obtain ⟨rfl, rfl⟩ := hh; rfl) (fun i a' ha => by
  match i with
  | 0 =>
   simp at ha; subst ha
   exact ⟨_, rfl, .seq (k := (cp - Q.length) * 2) (by simp) (nmOk Q) (by simp)⟩
  | 1 =>
   simp at ha; subst ha
   exact ⟨_, rfl, .data rfl⟩
  | 2 =>
   simp at ha; subst ha
   exact ⟨_, rfl, .fn⟩
  | i + 3 => simp at ha)).mono fun out H' hh => by
   obtain ⟨⟨_, h1, _⟩, h2⟩ := hh
   exact ⟨h1, h2⟩
def tbl (Q : List Nm) (cp : Nat) : Heap := [(0, .box [.arr 1 0 Q.length cp]), (1, .seq (Q.map nmrow) ((cp - Q.length) * 2))]
theorem tfind_c (Q : List Nm) (s : ByteArray) (cp : Nat) (hl : Q.length < 1000000) (hs : Nsort (nk Q)) : ACalls Tryz.prog 99 2 2 [.ptr 0 0, .v (.string s)] (tbl Q cp) (fun out H' => out = .ret (.tuple [.v (.int .i64 (npos (nk Q) s)), .v (.bool (hasN (nk Q) s))]) ∧ H' = tbl Q cp) := by
 have hb := bsearch_o Q s cp hl hs
 refine no_implicit_lambda% (acalls_of tok dok (f := 99) ⟨Tryz.func99, rfl, by kernel_rfl⟩ ?_); refine no_implicit_lambda% (c_start (fun _ h => h) ?_)
 repeat' (first | (refine no_implicit_lambda% (zH ?_)) | (((with_reducible refine no_implicit_lambda% (zA ?_)); refine no_implicit_lambda% (zD rfl rfl rfl (fun hc => ?_) (fun hc => ?_)) <;> first | exact zG hc | rw [hc])) | (((with_reducible refine no_implicit_lambda% (zB ?_)); refine no_implicit_lambda% (zE rfl (fun hc => ?_) (fun hc => ?_)) <;> first | exact zG hc | skip)) | (((with_reducible refine no_implicit_lambda% (zC ?_)); refine no_implicit_lambda% (zF rfl rfl (fun hc => ?_) (fun hc => ?_)) <;> first | exact zG hc | rw [hc])) | (refine no_implicit_lambda% (ans ?_)) | (with_reducible first | exact zI | exact zJ) | (refine no_implicit_lambda% (cal [1] (hb) ?_ ?_)) | fail)
 exact e_ret (H' := tbl Q cp) (rest := _) rfl ⟨rfl, rfl⟩ permT (LE0 rfl)
end Go.Proofs.YtjepgbpcpcahgaaGreat
namespace Go.Proofs.YtjepgbpcpcahgaaGreat
open Go.Am
set_option maxRecDepth 100000
def NmSz (l : List Nm) : Prop := ∀ x ∈ l, Fine x.r ∧ RowSz x.r
def coSt (l : List Nm) (k off m cp : Nat) (o : List Nm) (cpo j : Nat) : ASt := ⟨([.dead, .dead, .dead, .arr 1 0 j cpo, .dead, .dead, .arr 0 off m cp, .v (.int .i64 m), .v (.int .i64 j)] ++ List.replicate 14 .dead), [(0, .seq (l.map nmrow) k), (1, .seq (o.map nmrow) ((cpo - j) * 2))], 2⟩
set_option maxHeartbeats 3200000 in
theorem copies_o (l : List Nm) (k i m cp : Nat) (hz : NmSz l) (hi : i + m ≤ l.length) (hl : l.length ≤ 1000) : ACalls Tryz.prog 112 1 2 [.arr 0 (i * 2) m cp] [(0, .seq (l.map nmrow) k)] (fun out H' => ∃ cp2, m ≤ cp2 ∧ cp2 ≤ maxLen ∧ out = .ret (.arr 1 0 m cp2) ∧ H' = [(0, .seq (l.map nmrow) k), (1, .seq (((l.drop i).take m).map nmrow) ((cp2 - m) * 2))]) := by
 refine ACalls.ren (k := 1) (top := 9000) (R := fun out H' => ∃ id cp2, id ≠ 0 ∧ 1 ≤ id ∧ id < 9000 ∧ m ≤ cp2 ∧ cp2 ≤ maxLen ∧ out = .ret (.arr id 0 m cp2) ∧ H' = [(0, .seq (l.map nmrow) k), (id, .seq (((l.drop i).take m).map nmrow) ((cp2 - m) * 2))]) ?_ (by decide) fun out H' hh => ?_
 ·refine no_implicit_lambda% (acalls_of tok dok (f := 112) ⟨Tryz.func112, rfl, by kernel_rfl⟩ ?_); refine no_implicit_lambda% (c_start (fun _ h => h) ?_)
  repeat' (first | (refine no_implicit_lambda% (zH ?_)) | (((with_reducible refine no_implicit_lambda% (zA ?_)); refine no_implicit_lambda% (zD rfl rfl rfl (fun hc => ?_) (fun hc => ?_)) <;> first | exact zG hc | rw [hc])) | (((with_reducible refine no_implicit_lambda% (zB ?_)); refine no_implicit_lambda% (zE rfl (fun hc => ?_) (fun hc => ?_)) <;> first | exact zG hc | skip)) | (((with_reducible refine no_implicit_lambda% (zC ?_)); refine no_implicit_lambda% (zF rfl rfl (fun hc => ?_) (fun hc => ?_)) <;> first | exact zG hc | rw [hc])) | (refine no_implicit_lambda% (ans ?_)) | (with_reducible first | exact zI | exact zJ))
  refine c_l3 (coSt l k (i * 2) m cp) (fun o cpo j => j ≤ m ∧ j ≤ cpo ∧ cpo ≤ maxLen ∧ o = ((l.drop i).take j)) (fun _ _ j => m - j) [] 0 0 ⟨Nat.zero_le _, Nat.le_refl _, by decide, rfl⟩ ((Conv.nilSeq (j := 3) rfl).trans ?_) ?_
  ·(refine no_implicit_lambda% (Conv.toT ?_ ?_ (LE0 rfl))); (focus ((unfold coSt); (try dsimp only); exact wkl)); (focus ((unfold coSt); (try dsimp only); exact wkh))
  ·rintro o cpo j ⟨j1, j2, j3, ho⟩
   have hol : o.length = j := by rw [ho, List.length_take, List.length_drop]; omega
   refine c_turn (n' := 2) (fun _ h => h) (fun _ h => h) rfl ?_
   rcases Nat.lt_or_ge j m with hj | hj
   ·obtain ⟨x, hx⟩ : ∃ x, l[i + j]? = some x := ⟨_, List.getElem?_eq_getElem (by omega)⟩
    have hxz := hz x (List.mem_of_getElem? hx)
    have hcp := copy_f x.r (by have := hxz.1.len; omega) hxz.2
    rw [hxz.1.copy] at hcp
    have hts : (l.drop i).take (j + 1) = (l.drop i).take j ++ [x] := by rw [List.take_add_one, List.getElem?_drop, hx]; rfl
    repeat' (first | (refine no_implicit_lambda% (zH ?_)) | (((with_reducible refine no_implicit_lambda% (zA ?_)); refine no_implicit_lambda% (zD rfl rfl rfl (fun hc => ?_) (fun hc => ?_)) <;> first | exact zG hc | rw [hc])) | (((with_reducible refine no_implicit_lambda% (zB ?_)); refine no_implicit_lambda% (zE rfl (fun hc => ?_) (fun hc => ?_)) <;> first | exact zG hc | skip)) | (((with_reducible refine no_implicit_lambda% (zC ?_)); refine no_implicit_lambda% (zF rfl rfl (fun hc => ?_) (fun hc => ?_)) <;> first | exact zG hc | rw [hc])) | (refine no_implicit_lambda% (ans ?_)) | (with_reducible first | exact zI | exact zJ))
    ((with_reducible refine no_implicit_lambda% (zC ?_)); first | (refine no_implicit_lambda% (a_qS rfl (fun _ h => h) ?_ ?_)) | (refine no_implicit_lambda% (a_qS rfl (qIx (fun _ h => h)) ?_ ?_)) | (refine no_implicit_lambda% (a_qS rfl (qAnd5 (fun _ h => h)) ?_ ?_)) | (refine no_implicit_lambda% (a_qS rfl (qStr (fun _ h => h)) ?_ ?_)) | (refine no_implicit_lambda% (a_qS rfl (qAnd4 (fun _ h => h)) ?_ ?_)) | (refine no_implicit_lambda% (a_qS rfl (qAnd2 (fun _ h => h)) ?_ ?_))); focus (first | omega | (simp; done) | (simp; omega))
    repeat' (first | (refine no_implicit_lambda% (zH ?_)) | (((with_reducible refine no_implicit_lambda% (zA ?_)); refine no_implicit_lambda% (zD rfl rfl rfl (fun hc => ?_) (fun hc => ?_)) <;> first | exact zG hc | rw [hc])) | (((with_reducible refine no_implicit_lambda% (zB ?_)); refine no_implicit_lambda% (zE rfl (fun hc => ?_) (fun hc => ?_)) <;> first | exact zG hc | skip)) | (((with_reducible refine no_implicit_lambda% (zC ?_)); refine no_implicit_lambda% (zF rfl rfl (fun hc => ?_) (fun hc => ?_)) <;> first | exact zG hc | rw [hc])) | (refine no_implicit_lambda% (ans ?_)) | (with_reducible first | exact zI | exact zJ))
    ((with_reducible refine no_implicit_lambda% (zC ?_)); refine no_implicit_lambda% (a_loadSeqA (sz := 2) (rows := l.map nmrow) (i := (i + j)) (j := 0) rfl rfl rfl rfl rfl (nmOk l) ((by rw [List.getElem?_map, hx]; rfl)) (by first | decide | (simp; done)) rfl (by first | rfl | (simp; done) | (simp; omega)) ?_))
    repeat' (first | (refine no_implicit_lambda% (zH ?_)) | (((with_reducible refine no_implicit_lambda% (zA ?_)); refine no_implicit_lambda% (zD rfl rfl rfl (fun hc => ?_) (fun hc => ?_)) <;> first | exact zG hc | rw [hc])) | (((with_reducible refine no_implicit_lambda% (zB ?_)); refine no_implicit_lambda% (zE rfl (fun hc => ?_) (fun hc => ?_)) <;> first | exact zG hc | skip)) | (((with_reducible refine no_implicit_lambda% (zC ?_)); refine no_implicit_lambda% (zF rfl rfl (fun hc => ?_) (fun hc => ?_)) <;> first | exact zG hc | rw [hc])) | (refine no_implicit_lambda% (ans ?_)) | (with_reducible first | exact zI | exact zJ) | (refine no_implicit_lambda% (cal [] (hcp) ?_ ?_)) | fail)
    ((with_reducible refine no_implicit_lambda% (zC ?_)); refine no_implicit_lambda% (a_appS (sz := 2) (B := 40) (m2 := j + 1) (rows3 := (o ++ [x]).map nmrow) rfl rfl rfl rfl rfl rfl rfl rfl rfl rfl rfl (fun _ h => h) rfl rfl (nmOk o) (nmOk [x]) (by first | rfl | (exact List.length_map ..) | (simp; done) | (simp; omega)) rfl (by first | omega | (simp; omega)) (by first | rfl | (simp; done) | (simp; omega)) (by first | rfl | (exact map_snoc _ _) | (rw [List.map_append]; rfl) | (simp; done)) ?_))
    intro cp' c1 c2
    refine no_implicit_lambda% (aec ?_)
    repeat' (first | (refine no_implicit_lambda% (zH ?_)) | (((with_reducible refine no_implicit_lambda% (zA ?_)); refine no_implicit_lambda% (zD rfl rfl rfl (fun hc => ?_) (fun hc => ?_)) <;> first | exact zG hc | rw [hc])) | (((with_reducible refine no_implicit_lambda% (zB ?_)); refine no_implicit_lambda% (zE rfl (fun hc => ?_) (fun hc => ?_)) <;> first | exact zG hc | skip)) | (((with_reducible refine no_implicit_lambda% (zC ?_)); refine no_implicit_lambda% (zF rfl rfl (fun hc => ?_) (fun hc => ?_)) <;> first | exact zG hc | rw [hc])) | (refine no_implicit_lambda% (ans ?_)) | (with_reducible first | exact zI | exact zJ))
    (refine no_implicit_lambda% (k_loopLT (((o ++ [x], cp', j + 1) : List Nm × Nat × Nat)) 1 [0, 3] (by show j + 1 ≤ m ∧ j + 1 ≤ cp' ∧ cp' ≤ maxLen ∧ o ++ [x] = (l.drop i).take (j + 1); exact ⟨hj, c1, c2, by rw [hts, ho]⟩) (by first | omega | (simp; done) | (simp; omega)) (LE0 rfl) (fun _ h => h) (fun _ h => h) ?_ ?_)); (focus ((try dsimp only); exact wkl)); (focus ((try dsimp only); exact wkh))
   ·have hjm : j = m := by omega
    repeat' (first | (refine no_implicit_lambda% (zH ?_)) | (((with_reducible refine no_implicit_lambda% (zA ?_)); refine no_implicit_lambda% (zD rfl rfl rfl (fun hc => ?_) (fun hc => ?_)) <;> first | exact zG hc | rw [hc])) | (((with_reducible refine no_implicit_lambda% (zB ?_)); refine no_implicit_lambda% (zE rfl (fun hc => ?_) (fun hc => ?_)) <;> first | exact zG hc | skip)) | (((with_reducible refine no_implicit_lambda% (zC ?_)); refine no_implicit_lambda% (zF rfl rfl (fun hc => ?_) (fun hc => ?_)) <;> first | exact zG hc | rw [hc])) | (refine no_implicit_lambda% (ans ?_)) | (with_reducible first | exact zI | exact zJ))
    subst hjm
    exact e_ret (H' := [(0, .seq (l.map nmrow) k), (1, .seq (o.map nmrow) ((cpo - j) * 2))]) (rest := _) rfl ⟨1, cpo, by decide, by decide, by decide, j2, j3, rfl, by rw [ho]⟩ permT (LE0 rfl)
 ·obtain ⟨id, cp2, hne, h1, h2, h3, h4, rfl, rfl⟩ := hh
  refine ⟨[0, id], .ret (.arr 1 0 m cp2), [(0, .seq (l.map nmrow) k), (1, .seq (((l.drop i).take m).map nmrow) ((cp2 - m) * 2))], by simp; exact fun h => hne h.symm, (fun q h => by simp at h; omega), (fun q h => by rw [show q = 0 from Nat.lt_one_iff.1 h]; rfl), Nat.le_refl _, ?_, ?_, cp2, h3, h4, rfl, rfl⟩
  ·simp [AOut.ren, AV.ren, AV.renL, rn]
  ·simp [renH, Res.ren, rn]
end Go.Proofs.YtjepgbpcpcahgaaGreat
namespace Go.Proofs.YtjepgbpcpcahgaaGreat
open Go.Am
set_option maxRecDepth 100000
def setN (Q : List Nm) (s : ByteArray) (r : List Co) : Int × List Nm :=
 if nmB s = false ∨ rowB r = false then (1, Q) else
 if r = [] then (0, if hasN (nk Q) s then Q.eraseIdx (npos (nk Q) s) else Q) else
 if hasN (nk Q) s then (0, Q.set (npos (nk Q) s) ⟨s, copyR r⟩) else
 if 32 ≤ Q.length then (13, Q) else (0, insAt Q (npos (nk Q) s) ⟨s, copyR r⟩)
structure TbOk (Q : List Nm) : Prop where
 srt : Nsort (nk Q)
 len : Q.length ≤ 32
 sz : NmSz Q
 nm : ∀ x ∈ Q, nmB x.n = true ∧ x.r ≠ []
def tbl2 (Q : List Nm) (cp : Nat) : Heap := [(0, .box [.arr 2 0 Q.length cp]), (2, .seq (Q.map nmrow) ((cp - Q.length) * 2))]
def tnew (out : AOut) (H' : Heap) : Prop := out = .ret (.ptr 0 0) ∧ H' = tbl [] 0
theorem hasN_len {Q : List Nm} {s : ByteArray} (h : hasN (nk Q) s = true) : npos (nk Q) s < Q.length := by
 have := npos_len h
 rwa [nk_len] at this
theorem hasN_nm {Q : List Nm} {s : ByteArray} (h : hasN (nk Q) s = true) : ∃ x, Q[npos (nk Q) s]? = some x ∧ x.n.toList = s.toList := by
 obtain ⟨x, hx⟩ : ∃ x, Q[npos (nk Q) s]? = some x := ⟨_, List.getElem?_eq_getElem (hasN_len h)⟩
 refine ⟨x, hx, ?_⟩
 unfold hasN at h
 rw [nk_at hx] at h
 have h2 : cmpS x.n s = 0 := by simpa using h
 have h3 := eq_cb x.n.toList s.toList
 unfold cmpS at h2
 rw [h2] at h3
 simpa using h3
theorem bytes_eq {a b : ByteArray} (h : a.toList = b.toList) : a = b := by
 have h2 : a.data.toList = b.data.toList := by
  simpa only [ByteArray.toList_eq] using h
 cases a; cases b
 simp at h2
 rw [h2]
set_option maxHeartbeats 6400000 in
theorem set_c (Q : List Nm) (s : ByteArray) (r : List Co) (cp : Nat) (hQ : TbOk Q) (hc1 : Q.length ≤ cp) (hc2 : cp ≤ maxLen) (hr : r.length < 70368744177664) (hz : RowSz r) : ACalls Tryz.prog 45 2 3 [.ptr 0 0, .v (.string s), rowA r] (tbl Q cp) (fun out H' => ∃ cp2, (setN Q s r).2.length ≤ cp2 ∧ cp2 ≤ maxLen ∧ out = .ret (.v (.int .i64 (setN Q s r).1)) ∧ H' = tbl2 (setN Q s r).2 cp2) := by
 have hl := hQ.len
 have hnm := name_c s
 have hrt := (right_c r hr).top0
 have hfd := tfind_c Q s cp (by omega) hQ.srt
 have hcp := copy_f r hr hz
 have hpl := npos_le (nk Q) s
 rw [nk_len] at hpl
 have hsl : ∀ y : Nm, (Q.set (npos (nk Q) s) y).length = Q.length := fun y => List.length_set ..
 refine ACalls.ren (k := 2) (top := 9000) (R := fun out H' => ∃ id cp2, id ≠ 0 ∧ 2 ≤ id ∧ id < 9000 ∧ (setN Q s r).2.length ≤ cp2 ∧ cp2 ≤ maxLen ∧ out = .ret (.v (.int .i64 (setN Q s r).1)) ∧ H' = [(0, .box [.arr id 0 (setN Q s r).2.length cp2]), (id, .seq ((setN Q s r).2.map nmrow) ((cp2 - (setN Q s r).2.length) * 2))]) ?_ (by decide) fun out H' hh => ?_
 ·have hend : ∀ (e : Int) (cpx : Nat), setN Q s r = (e, Q) → ∃ id cp2, id ≠ 0 ∧ 2 ≤ id ∧ id < 9000 ∧ (setN Q s r).2.length ≤ cp2 ∧ cp2 ≤ maxLen ∧ AOut.ret (.v (.int .i64 e)) = .ret (.v (.int .i64 (setN Q s r).1)) ∧ ([(0, Res.box [.arr 3 0 Q.length cp]), (3, .seq (Q.map nmrow) ((cp - Q.length) * 2))] : Heap) = [(0, .box [.arr id 0 (setN Q s r).2.length cp2]), (id, .seq ((setN Q s r).2.map nmrow) ((cp2 - (setN Q s r).2.length) * 2))] := fun e _ h => by
   rw [h]
   exact ⟨3, cp, by decide, by decide, by decide, hc1, hc2, rfl, rfl⟩
  refine no_implicit_lambda% (acalls_of tok dok (f := 45) ⟨Tryz.func45, rfl, by kernel_rfl⟩ ?_); refine no_implicit_lambda% (c_start (fun _ h => h) ?_)
  repeat' (first | (refine no_implicit_lambda% (zH ?_)) | (((with_reducible refine no_implicit_lambda% (zA ?_)); refine no_implicit_lambda% (zD rfl rfl rfl (fun hc => ?_) (fun hc => ?_)) <;> first | exact zG hc | rw [hc])) | (((with_reducible refine no_implicit_lambda% (zB ?_)); refine no_implicit_lambda% (zE rfl (fun hc => ?_) (fun hc => ?_)) <;> first | exact zG hc | skip)) | (((with_reducible refine no_implicit_lambda% (zC ?_)); refine no_implicit_lambda% (zF rfl rfl (fun hc => ?_) (fun hc => ?_)) <;> first | exact zG hc | rw [hc])) | (refine no_implicit_lambda% (ans ?_)) | (with_reducible first | exact zI | exact zJ) | (refine no_implicit_lambda% (cal [] (hnm) ?_ ?_)) | (refine no_implicit_lambda% (cal [] (hrt) ?_ ?_)) | (refine no_implicit_lambda% (cal [0, 1] (hfd) ?_ ?_)) | fail)
  all_goals try (exfalso; clear hnm hrt hfd hcp hend hsl hQ hz; simp_all; done)
  ·have h1 : nmB s = false := by simpa using hc
   exact e_ret_to (H' := [(0, .box [.arr 3 0 (Q.length) cp]), (3, .seq (Q.map nmrow) ((cp - (Q.length)) * 2))]) (rest := []) ((Conv.anewBox (id := 1) (bid := 0) (j := 0) (off := 0) (m := Q.length) (c := cp) (k := (cp - (Q.length)) * 2) (rows := Q.map nmrow) (cells := [.arr 1 0 (Q.length) cp]) (permT (H := [(1, .seq (Q.map nmrow) ((cp - (Q.length)) * 2)), (0, .box [.arr 1 0 (Q.length) cp])])) rfl (fun h => by rw [List.length_map] at h; omega)).trans (Conv.toT (τ := ⟨_, [(0, .box [.arr 3 0 (Q.length) cp]), (3, .seq (Q.map nmrow) ((cp - (Q.length)) * 2))], 4⟩) (WkL.refl _) (WkH.refl _) (LE0 rfl))) rfl (hend 1 0 (by unfold setN; rw [if_pos (.inl h1)])) (.of_eq rfl) (LE0 rfl)
  ·have h1 : rowB r = false := by simpa using hc
   exact e_ret_to (H' := [(0, .box [.arr 3 0 (Q.length) cp]), (3, .seq (Q.map nmrow) ((cp - (Q.length)) * 2))]) (rest := []) ((Conv.anewBox (id := 1) (bid := 0) (j := 0) (off := 0) (m := Q.length) (c := cp) (k := (cp - (Q.length)) * 2) (rows := Q.map nmrow) (cells := [.arr 1 0 (Q.length) cp]) (permT (H := [(1, .seq (Q.map nmrow) ((cp - (Q.length)) * 2)), (0, .box [.arr 1 0 (Q.length) cp])])) rfl (fun h => by rw [List.length_map] at h; omega)).trans (Conv.toT (τ := ⟨_, [(0, .box [.arr 3 0 (Q.length) cp]), (3, .seq (Q.map nmrow) ((cp - (Q.length)) * 2))], 4⟩) (WkL.refl _) (WkH.refl _) (LE0 rfl))) rfl (hend 1 0 (by unfold setN; rw [if_pos (.inr h1)])) (.of_eq rfl) (LE0 rfl)
  ·have hN : hasN (nk Q) s = true := by assumption
   have h0 : r = [] := by simp only [beq_iff_eq, List.length_map] at *; exact List.eq_nil_of_length_eq_zero (by omega)
   have hnot : ¬ (nmB s = false ∨ rowB r = false) := by simp_all
   have hq : setN Q s r = (0, Q.eraseIdx (npos (nk Q) s)) := by unfold setN; rw [if_neg hnot, if_pos h0, hN, if_pos rfl]
   have hlt := hasN_len hN
   have hd := delete_nam Q cp (npos (nk Q) s) hlt (by omega) hc1 hc2
   have hel : (Q.eraseIdx (npos (nk Q) s)).length = Q.length - 1 := List.length_eraseIdx_of_lt hlt
   rw [show IntKind.i64.wrap ((npos (nk Q) s : Int) + 1) = ((npos (nk Q) s + 1 : Nat) : Int) by rw [z64 (by omega) (by omega)]; omega]
   (refine no_implicit_lambda% (cal [1] (hd) ?_ ?_))
   ·refine no_implicit_lambda% (ret1 ?_); first | (refine no_implicit_lambda% (akc ?_)) | (refine no_implicit_lambda% (aec ?_))
    repeat' (first | (refine no_implicit_lambda% (zH ?_)) | (((with_reducible refine no_implicit_lambda% (zA ?_)); refine no_implicit_lambda% (zD rfl rfl rfl (fun hc => ?_) (fun hc => ?_)) <;> first | exact zG hc | rw [hc])) | (((with_reducible refine no_implicit_lambda% (zB ?_)); refine no_implicit_lambda% (zE rfl (fun hc => ?_) (fun hc => ?_)) <;> first | exact zG hc | skip)) | (((with_reducible refine no_implicit_lambda% (zC ?_)); refine no_implicit_lambda% (zF rfl rfl (fun hc => ?_) (fun hc => ?_)) <;> first | exact zG hc | rw [hc])) | (refine no_implicit_lambda% (ans ?_)) | (with_reducible first | exact zI | exact zJ))
    rw [hq]
    exact e_ret_to (H' := [(0, .box [.arr 3 0 (Q.length - 1) cp]), (3, .seq ((Q.eraseIdx (npos (nk Q) s)).map nmrow) ((cp - (Q.length - 1)) * 2))]) (rest := []) ((Conv.anewBox (id := 1) (bid := 0) (j := 0) (off := 0) (m := Q.length - 1) (c := cp) (k := (cp - (Q.length - 1)) * 2) (rows := (Q.eraseIdx (npos (nk Q) s)).map nmrow) (cells := [.arr 1 0 (Q.length - 1) cp]) (permT (H := [(1, .seq ((Q.eraseIdx (npos (nk Q) s)).map nmrow) ((cp - (Q.length - 1)) * 2)), (0, .box [.arr 1 0 (Q.length - 1) cp])])) rfl (fun h => by rw [List.length_map] at h; omega)).trans (Conv.toT (τ := ⟨_, [(0, .box [.arr 3 0 (Q.length - 1) cp]), (3, .seq ((Q.eraseIdx (npos (nk Q) s)).map nmrow) ((cp - (Q.length - 1)) * 2))], 4⟩) (WkL.refl _) (WkH.refl _) (LE0 rfl))) rfl (⟨3, cp, by decide, by decide, by decide, by show (Q.eraseIdx (npos (nk Q) s)).length ≤ cp; omega, hc2, rfl, by show _ = [(0, Res.box [.arr 3 0 (Q.eraseIdx (npos (nk Q) s)).length cp]), (3, .seq ((Q.eraseIdx (npos (nk Q) s)).map nmrow) ((cp - (Q.eraseIdx (npos (nk Q) s)).length) * 2))]; rw [hel]⟩) (.of_eq rfl) (LE0 rfl)
   ·first | (exact zI) | (exact zJ)
  ·have hN : hasN (nk Q) s = false := by assumption
   have h0 : r = [] := by simp only [beq_iff_eq, List.length_map] at *; exact List.eq_nil_of_length_eq_zero (by omega)
   have hnot : ¬ (nmB s = false ∨ rowB r = false) := by simp_all
   exact e_ret_to (H' := [(0, .box [.arr 3 0 (Q.length) cp]), (3, .seq (Q.map nmrow) ((cp - (Q.length)) * 2))]) (rest := []) ((Conv.anewBox (id := 1) (bid := 0) (j := 0) (off := 0) (m := Q.length) (c := cp) (k := (cp - (Q.length)) * 2) (rows := Q.map nmrow) (cells := [.arr 1 0 (Q.length) cp]) (permT (H := [(1, .seq (Q.map nmrow) ((cp - (Q.length)) * 2)), (0, .box [.arr 1 0 (Q.length) cp])])) rfl (fun h => by rw [List.length_map] at h; omega)).trans (Conv.toT (τ := ⟨_, [(0, .box [.arr 3 0 (Q.length) cp]), (3, .seq (Q.map nmrow) ((cp - (Q.length)) * 2))], 4⟩) (WkL.refl _) (WkH.refl _) (LE0 rfl))) rfl (hend 0 0 (by unfold setN; rw [if_neg hnot, if_pos h0, hN]; rfl)) (.of_eq rfl) (LE0 rfl)
  ·have hN : hasN (nk Q) s = true := by assumption
   have h0 : r ≠ [] := by rintro rfl; simp at *
   have hnot : ¬ (nmB s = false ∨ rowB r = false) := by simp_all
   obtain ⟨x, hx, hxs⟩ := hasN_nm hN
   have hxe := bytes_eq hxs
   have hlt := hasN_len hN
   have hsl2 := hsl ⟨x.n, copyR r⟩
   have hq : setN Q s r = (0, Q.set (npos (nk Q) s) ⟨x.n, copyR r⟩) := by unfold setN; rw [if_neg hnot, if_neg h0, if_pos hN, hxe]
   (refine no_implicit_lambda% (cal [] (hcp) ?_ ?_))
   ·refine no_implicit_lambda% (ret1 ?_); first | (refine no_implicit_lambda% (akc ?_)) | (refine no_implicit_lambda% (aec ?_))
    repeat' (first | (refine no_implicit_lambda% (zH ?_)) | (((with_reducible refine no_implicit_lambda% (zA ?_)); refine no_implicit_lambda% (zD rfl rfl rfl (fun hc => ?_) (fun hc => ?_)) <;> first | exact zG hc | rw [hc])) | (((with_reducible refine no_implicit_lambda% (zB ?_)); refine no_implicit_lambda% (zE rfl (fun hc => ?_) (fun hc => ?_)) <;> first | exact zG hc | skip)) | (((with_reducible refine no_implicit_lambda% (zC ?_)); refine no_implicit_lambda% (zF rfl rfl (fun hc => ?_) (fun hc => ?_)) <;> first | exact zG hc | rw [hc])) | (refine no_implicit_lambda% (ans ?_)) | (with_reducible first | exact zI | exact zJ))
    ((with_reducible refine no_implicit_lambda% (is_ev ?_)); first | (refine no_implicit_lambda% (v_qS rfl rfl rfl rfl (fun _ h => h) (fun _ h => h) ?_ ?_)) | (refine no_implicit_lambda% (v_qS rfl rfl rfl rfl (qAnd2 (fun _ h => h)) (fun _ h => h) ?_ ?_))); focus (first | omega | (simp; done) | (simp; omega))
    repeat' (first | (refine no_implicit_lambda% (zH ?_)) | (((with_reducible refine no_implicit_lambda% (zA ?_)); refine no_implicit_lambda% (zD rfl rfl rfl (fun hc => ?_) (fun hc => ?_)) <;> first | exact zG hc | rw [hc])) | (((with_reducible refine no_implicit_lambda% (zB ?_)); refine no_implicit_lambda% (zE rfl (fun hc => ?_) (fun hc => ?_)) <;> first | exact zG hc | skip)) | (((with_reducible refine no_implicit_lambda% (zC ?_)); refine no_implicit_lambda% (zF rfl rfl (fun hc => ?_) (fun hc => ?_)) <;> first | exact zG hc | rw [hc])) | (refine no_implicit_lambda% (ans ?_)) | (with_reducible first | exact zI | exact zJ))
    ((with_reducible refine no_implicit_lambda% (zC ?_)); refine no_implicit_lambda% (a_storeSeq (sz := 2) (rows := Q.map nmrow) (i := (npos (nk Q) s)) (j := 1) (row' := [.v (.string x.n), .list ((copyR r).map corow) .free]) rfl rfl rfl (fun _ h => h) rfl rfl (nmOk Q) ((by rw [List.getElem?_map, hx]; rfl)) (by first | decide | (simp; done)) (by first | rfl | (simp; done)) (by first | rfl | (simp; done) | (simp; omega)) ?_))
    rw [show (Q.map nmrow).set (npos (nk Q) s) [.v (.string x.n), .list ((copyR r).map corow) .free] = (Q.set (npos (nk Q) s) ⟨x.n, copyR r⟩).map nmrow by rw [List.map_set]; rfl]
    refine no_implicit_lambda% (aec ?_)
    repeat' (first | (refine no_implicit_lambda% (zH ?_)) | (((with_reducible refine no_implicit_lambda% (zA ?_)); refine no_implicit_lambda% (zD rfl rfl rfl (fun hc => ?_) (fun hc => ?_)) <;> first | exact zG hc | rw [hc])) | (((with_reducible refine no_implicit_lambda% (zB ?_)); refine no_implicit_lambda% (zE rfl (fun hc => ?_) (fun hc => ?_)) <;> first | exact zG hc | skip)) | (((with_reducible refine no_implicit_lambda% (zC ?_)); refine no_implicit_lambda% (zF rfl rfl (fun hc => ?_) (fun hc => ?_)) <;> first | exact zG hc | rw [hc])) | (refine no_implicit_lambda% (ans ?_)) | (with_reducible first | exact zI | exact zJ))
    rw [hq]
    exact e_ret_to (H' := [(0, .box [.arr 3 0 (Q.length) cp]), (3, .seq ((Q.set (npos (nk Q) s) ⟨x.n, copyR r⟩).map nmrow) ((cp - (Q.length)) * 2))]) (rest := []) ((Conv.anewBox (id := 1) (bid := 0) (j := 0) (off := 0) (m := Q.length) (c := cp) (k := (cp - (Q.length)) * 2) (rows := (Q.set (npos (nk Q) s) ⟨x.n, copyR r⟩).map nmrow) (cells := [.arr 1 0 (Q.length) cp]) (permT (H := [(1, .seq ((Q.set (npos (nk Q) s) ⟨x.n, copyR r⟩).map nmrow) ((cp - (Q.length)) * 2)), (0, .box [.arr 1 0 (Q.length) cp])])) rfl (fun h => by rw [List.length_map] at h; omega)).trans (Conv.toT (τ := ⟨_, [(0, .box [.arr 3 0 (Q.length) cp]), (3, .seq ((Q.set (npos (nk Q) s) ⟨x.n, copyR r⟩).map nmrow) ((cp - (Q.length)) * 2))], 4⟩) (WkL.refl _) (WkH.refl _) (LE0 rfl))) rfl (⟨3, cp, by decide, by decide, by decide, by show (Q.set _ _).length ≤ cp; rw [List.length_set]; exact hc1, hc2, rfl, by show _ = [(0, Res.box [.arr 3 0 (Q.set (npos (nk Q) s) ⟨x.n, copyR r⟩).length cp]), (3, .seq _ ((cp - (Q.set (npos (nk Q) s) ⟨x.n, copyR r⟩).length) * 2))]; rw [List.length_set]⟩) (.of_eq rfl) (LE0 rfl)
   ·first | (exact zI) | (exact zJ)
  ·have hN : hasN (nk Q) s = false := by assumption
   have h0 : r ≠ [] := by rintro rfl; simp at *
   have hnot : ¬ (nmB s = false ∨ rowB r = false) := by simp_all
   have h32 : 32 ≤ Q.length := by have := of_decide_eq_true hc; omega
   exact e_ret_to (H' := [(0, .box [.arr 3 0 (Q.length) cp]), (3, .seq (Q.map nmrow) ((cp - (Q.length)) * 2))]) (rest := []) ((Conv.anewBox (id := 1) (bid := 0) (j := 0) (off := 0) (m := Q.length) (c := cp) (k := (cp - (Q.length)) * 2) (rows := Q.map nmrow) (cells := [.arr 1 0 (Q.length) cp]) (permT (H := [(1, .seq (Q.map nmrow) ((cp - (Q.length)) * 2)), (0, .box [.arr 1 0 (Q.length) cp])])) rfl (fun h => by rw [List.length_map] at h; omega)).trans (Conv.toT (τ := ⟨_, [(0, .box [.arr 3 0 (Q.length) cp]), (3, .seq (Q.map nmrow) ((cp - (Q.length)) * 2))], 4⟩) (WkL.refl _) (WkH.refl _) (LE0 rfl))) rfl (hend 13 0 (by unfold setN; rw [if_neg hnot, if_neg h0, hN, if_neg (by simp), if_pos h32])) (.of_eq rfl) (LE0 rfl)
  ·have hN : hasN (nk Q) s = false := by assumption
   have h0 : r ≠ [] := by rintro rfl; simp at *
   have hnot : ¬ (nmB s = false ∨ rowB r = false) := by simp_all
   have h32 : ¬ 32 ≤ Q.length := by have := of_decide_eq_false hc; omega
   have hq : setN Q s r = (0, insAt Q (npos (nk Q) s) ⟨s, copyR r⟩) := by unfold setN; rw [if_neg hnot, if_neg h0, hN, if_neg (by simp), if_neg h32]
   have hin := insert_nam (Q.map nmrow) (nmrow ⟨s, copyR r⟩) (npos (nk Q) s) cp (nmOk Q) (nmOk [⟨s, copyR r⟩]) (by rw [List.length_map]; exact hpl) (by rw [List.length_map]; omega) (by rw [List.length_map]; exact hc1) hc2
   rw [List.length_map, insAt_map] at hin
   have hil : (insAt Q (npos (nk Q) s) ⟨s, copyR r⟩).length = Q.length + 1 := insAt_len _ hpl
   (refine no_implicit_lambda% (cal [] (hcp) ?_ ?_))
   ·refine no_implicit_lambda% (ret1 ?_); first | (refine no_implicit_lambda% (akc ?_)) | (refine no_implicit_lambda% (aec ?_))
    repeat' (first | (refine no_implicit_lambda% (zH ?_)) | (((with_reducible refine no_implicit_lambda% (zA ?_)); refine no_implicit_lambda% (zD rfl rfl rfl (fun hc => ?_) (fun hc => ?_)) <;> first | exact zG hc | rw [hc])) | (((with_reducible refine no_implicit_lambda% (zB ?_)); refine no_implicit_lambda% (zE rfl (fun hc => ?_) (fun hc => ?_)) <;> first | exact zG hc | skip)) | (((with_reducible refine no_implicit_lambda% (zC ?_)); refine no_implicit_lambda% (zF rfl rfl (fun hc => ?_) (fun hc => ?_)) <;> first | exact zG hc | rw [hc])) | (refine no_implicit_lambda% (ans ?_)) | (with_reducible first | exact zI | exact zJ))
    (refine no_implicit_lambda% (calw [1] (hin) ?_ ?_))
    ·intro xx H' hh
     obtain ⟨cp', d1, d2, h', rfl⟩ := hh
     cases h'
     first | (refine no_implicit_lambda% (akc ?_)) | (refine no_implicit_lambda% (aec ?_))
     repeat' (first | (refine no_implicit_lambda% (zH ?_)) | (((with_reducible refine no_implicit_lambda% (zA ?_)); refine no_implicit_lambda% (zD rfl rfl rfl (fun hc => ?_) (fun hc => ?_)) <;> first | exact zG hc | rw [hc])) | (((with_reducible refine no_implicit_lambda% (zB ?_)); refine no_implicit_lambda% (zE rfl (fun hc => ?_) (fun hc => ?_)) <;> first | exact zG hc | skip)) | (((with_reducible refine no_implicit_lambda% (zC ?_)); refine no_implicit_lambda% (zF rfl rfl (fun hc => ?_) (fun hc => ?_)) <;> first | exact zG hc | rw [hc])) | (refine no_implicit_lambda% (ans ?_)) | (with_reducible first | exact zI | exact zJ))
     rw [hq]
     exact e_ret (H' := [(0, .box [.arr 3 0 (Q.length + 1) cp']), (3, .seq ((insAt Q (npos (nk Q) s) ⟨s, copyR r⟩).map nmrow) ((cp' - (Q.length + 1)) * 2))]) (rest := _) rfl ⟨3, cp', by decide, by decide, by decide, by show (insAt _ _ _).length ≤ cp'; omega, d2, rfl, by show _ = [(0, Res.box [.arr 3 0 (insAt Q (npos (nk Q) s) ⟨s, copyR r⟩).length cp']), (3, .seq _ ((cp' - (insAt Q (npos (nk Q) s) ⟨s, copyR r⟩).length) * 2))]; rw [hil]⟩ permT (LE0 rfl)
    ·intro xx H' hh
     obtain ⟨_, _, _, h', _⟩ := hh
     cases h'
   ·first | (exact zI) | (exact zJ)
 ·obtain ⟨id, cp2, hne, h1, h2, h3, h4, rfl, rfl⟩ := hh
  refine ⟨[0, 1, id], .ret (.v (.int .i64 (setN Q s r).1)), tbl2 (setN Q s r).2 cp2, by simp; omega, (fun q h => by simp at h; omega), ?_, Nat.le_refl _, ?_, ?_, cp2, h3, h4, rfl, rfl⟩
  ·intro q h
   rcases q with _ | _ | q
   ·rfl
   ·rfl
   ·omega
  ·simp [AOut.ren, AV.ren]
  ·simp [tbl2, renH, Res.ren, rn, AV.renL, AV.ren]
end Go.Proofs.YtjepgbpcpcahgaaGreat
namespace Go.Proofs.YtjepgbpcpcahgaaGreat
open Go.Am
set_option maxRecDepth 100000
theorem tnew_c : ACalls Tryz.prog 42 0 2 [] [] tnew := by
 refine no_implicit_lambda% (acalls_of tok dok (f := 42) ⟨Tryz.func42, rfl, by kernel_rfl⟩ ?_); refine no_implicit_lambda% (c_start (fun _ h => h) ?_)
 repeat' (first | (refine no_implicit_lambda% (zH ?_)) | (((with_reducible refine no_implicit_lambda% (zA ?_)); refine no_implicit_lambda% (zD rfl rfl rfl (fun hc => ?_) (fun hc => ?_)) <;> first | exact zG hc | rw [hc])) | (((with_reducible refine no_implicit_lambda% (zB ?_)); refine no_implicit_lambda% (zE rfl (fun hc => ?_) (fun hc => ?_)) <;> first | exact zG hc | skip)) | (((with_reducible refine no_implicit_lambda% (zC ?_)); refine no_implicit_lambda% (zF rfl rfl (fun hc => ?_) (fun hc => ?_)) <;> first | exact zG hc | rw [hc])) | (refine no_implicit_lambda% (ans ?_)) | (with_reducible first | exact zI | exact zJ))
 exact e_ret_to (H' := tbl [] 0) (rest := []) (Conv.nilBox (id := 0) (j := 0) rfl rfl) rfl ⟨rfl, rfl⟩ permT (LE0 rfl)
theorem tlen_c (Q : List Nm) (cp : Nat) : ACalls Tryz.prog 57 2 2 [.ptr 0 0] (tbl Q cp) (fun out H' => out = .ret (.v (.int .i64 Q.length)) ∧ H' = tbl Q cp) := by
 refine no_implicit_lambda% (acalls_of tok dok (f := 57) ⟨Tryz.func57, rfl, by kernel_rfl⟩ ?_); refine no_implicit_lambda% (c_start (fun _ h => h) ?_)
 repeat' (first | (refine no_implicit_lambda% (zH ?_)) | (((with_reducible refine no_implicit_lambda% (zA ?_)); refine no_implicit_lambda% (zD rfl rfl rfl (fun hc => ?_) (fun hc => ?_)) <;> first | exact zG hc | rw [hc])) | (((with_reducible refine no_implicit_lambda% (zB ?_)); refine no_implicit_lambda% (zE rfl (fun hc => ?_) (fun hc => ?_)) <;> first | exact zG hc | skip)) | (((with_reducible refine no_implicit_lambda% (zC ?_)); refine no_implicit_lambda% (zF rfl rfl (fun hc => ?_) (fun hc => ?_)) <;> first | exact zG hc | rw [hc])) | (refine no_implicit_lambda% (ans ?_)) | (with_reducible first | exact zI | exact zJ))
 exact e_ret (H' := tbl Q cp) (rest := []) rfl ⟨rfl, rfl⟩ permT (LE0 rfl)
def getN (Q : List Nm) (s : ByteArray) : List Co × Bool :=
 if hasN (nk Q) s then ((match Q[npos (nk Q) s]? with | some x => x.r | none => []), true) else ([], false)
theorem tget_c (Q : List Nm) (s : ByteArray) (cp : Nat) (hQ : TbOk Q) : ACalls Tryz.prog 111 2 20 [.ptr 0 0, .v (.string s)] (tbl Q cp) (fun out H' => out = .ret (.tuple [rowA (getN Q s).1, .v (.bool (getN Q s).2)]) ∧ H' = tbl Q cp) := by
 have hl := hQ.len
 have hfd := tfind_c Q s cp (by omega) hQ.srt
 refine no_implicit_lambda% (acalls_of tok dok (f := 111) ⟨Tryz.func111, rfl, by kernel_rfl⟩ ?_); refine no_implicit_lambda% (c_start (fun _ h => h) ?_)
 rcases hN : hasN (nk Q) s with _ | _
 ·have hg : getN Q s = ([], false) := by unfold getN; rw [hN, if_neg (by simp)]
  rw [hN] at hfd
  repeat' (first | (refine no_implicit_lambda% (zH ?_)) | (((with_reducible refine no_implicit_lambda% (zA ?_)); refine no_implicit_lambda% (zD rfl rfl rfl (fun hc => ?_) (fun hc => ?_)) <;> first | exact zG hc | rw [hc])) | (((with_reducible refine no_implicit_lambda% (zB ?_)); refine no_implicit_lambda% (zE rfl (fun hc => ?_) (fun hc => ?_)) <;> first | exact zG hc | skip)) | (((with_reducible refine no_implicit_lambda% (zC ?_)); refine no_implicit_lambda% (zF rfl rfl (fun hc => ?_) (fun hc => ?_)) <;> first | exact zG hc | rw [hc])) | (refine no_implicit_lambda% (ans ?_)) | (with_reducible first | exact zI | exact zJ) | (refine no_implicit_lambda% (cal [0, 1] (hfd) ?_ ?_)) | fail)
  rw [hg]
  refine e_ret_to (H' := tbl Q cp) (rest := [(2, .box [.list [] .free])]) (Conv.toT (τ := ⟨_, [(0, .box [.arr 1 0 Q.length cp]), (1, .seq (Q.map nmrow) ((cp - Q.length) * 2)), (2, .box [.list [] .free])], _⟩) (.refl _) ?_ (Nat.le_refl _)) rfl ⟨rfl, rfl⟩ permT (LE0 rfl)
  exact wkh
 ·have hlt := hasN_len hN
  obtain ⟨x, hx, hxs⟩ := hasN_nm hN
  have hxz := hQ.sz x (List.mem_of_getElem? hx)
  have hcp := copy_f x.r (by have := hxz.1.len; omega) hxz.2
  rw [hxz.1.copy] at hcp
  have hg : getN Q s = (x.r, true) := by unfold getN; rw [hN, if_pos rfl, hx]
  rw [hN] at hfd
  repeat' (first | (refine no_implicit_lambda% (zH ?_)) | (((with_reducible refine no_implicit_lambda% (zA ?_)); refine no_implicit_lambda% (zD rfl rfl rfl (fun hc => ?_) (fun hc => ?_)) <;> first | exact zG hc | rw [hc])) | (((with_reducible refine no_implicit_lambda% (zB ?_)); refine no_implicit_lambda% (zE rfl (fun hc => ?_) (fun hc => ?_)) <;> first | exact zG hc | skip)) | (((with_reducible refine no_implicit_lambda% (zC ?_)); refine no_implicit_lambda% (zF rfl rfl (fun hc => ?_) (fun hc => ?_)) <;> first | exact zG hc | rw [hc])) | (refine no_implicit_lambda% (ans ?_)) | (with_reducible first | exact zI | exact zJ) | (refine no_implicit_lambda% (cal [0, 1] (hfd) ?_ ?_)) | fail)
  ((with_reducible refine no_implicit_lambda% (zC ?_)); first | (refine no_implicit_lambda% (a_qS rfl (fun _ h => h) ?_ ?_)) | (refine no_implicit_lambda% (a_qS rfl (qIx (fun _ h => h)) ?_ ?_)) | (refine no_implicit_lambda% (a_qS rfl (qAnd5 (fun _ h => h)) ?_ ?_)) | (refine no_implicit_lambda% (a_qS rfl (qStr (fun _ h => h)) ?_ ?_)) | (refine no_implicit_lambda% (a_qS rfl (qAnd4 (fun _ h => h)) ?_ ?_)) | (refine no_implicit_lambda% (a_qS rfl (qAnd2 (fun _ h => h)) ?_ ?_))); focus (first | omega | (simp; done) | (simp; omega))
  repeat' (first | (refine no_implicit_lambda% (zH ?_)) | (((with_reducible refine no_implicit_lambda% (zA ?_)); refine no_implicit_lambda% (zD rfl rfl rfl (fun hc => ?_) (fun hc => ?_)) <;> first | exact zG hc | rw [hc])) | (((with_reducible refine no_implicit_lambda% (zB ?_)); refine no_implicit_lambda% (zE rfl (fun hc => ?_) (fun hc => ?_)) <;> first | exact zG hc | skip)) | (((with_reducible refine no_implicit_lambda% (zC ?_)); refine no_implicit_lambda% (zF rfl rfl (fun hc => ?_) (fun hc => ?_)) <;> first | exact zG hc | rw [hc])) | (refine no_implicit_lambda% (ans ?_)) | (with_reducible first | exact zI | exact zJ))
  ((with_reducible refine no_implicit_lambda% (zC ?_)); refine no_implicit_lambda% (a_loadSeqA (sz := 2) (rows := Q.map nmrow) (i := npos (nk Q) s) (j := 1) rfl rfl rfl rfl rfl (nmOk Q) ((by rw [List.getElem?_map, hx]; rfl)) (by first | decide | (simp; done)) rfl (by first | rfl | (simp; done) | (simp; omega)) ?_))
  repeat' (first | (refine no_implicit_lambda% (zH ?_)) | (((with_reducible refine no_implicit_lambda% (zA ?_)); refine no_implicit_lambda% (zD rfl rfl rfl (fun hc => ?_) (fun hc => ?_)) <;> first | exact zG hc | rw [hc])) | (((with_reducible refine no_implicit_lambda% (zB ?_)); refine no_implicit_lambda% (zE rfl (fun hc => ?_) (fun hc => ?_)) <;> first | exact zG hc | skip)) | (((with_reducible refine no_implicit_lambda% (zC ?_)); refine no_implicit_lambda% (zF rfl rfl (fun hc => ?_) (fun hc => ?_)) <;> first | exact zG hc | rw [hc])) | (refine no_implicit_lambda% (ans ?_)) | (with_reducible first | exact zI | exact zJ) | (refine no_implicit_lambda% (cal [] (hcp) ?_ ?_)) | fail)
  rw [hg]
  exact e_ret (H' := tbl Q cp) (rest := _) rfl ⟨rfl, rfl⟩ permT (LE0 rfl)
end Go.Proofs.YtjepgbpcpcahgaaGreat
namespace Go.Proofs.YtjepgbpcpcahgaaGreat
open Go.Am
set_option maxRecDepth 100000
theorem aload_seq {L : Heap} {av : AV} {ti : TI} {id off sz i j k : Nat} {rows : List (List AV)} {row : List AV} (hf : findL L id = some (.seq rows k)) (hk : isAggK ti.kind = false) (hl : RowsOk sz rows) (hi : rows[i]? = some row) (hj : row[j]? = some av) (hoff : off = i * sz + j) : aload L ti (.ptr id off) = some av := by
 subst hoff
 simp only [aload, hf, hk, flat_at hl.len hi hj, Bool.false_eq_true, if_false]
def rangeN (Q : List Nm) (lo hi : ByteArray) (most : Int) : List Nm × ByteArray :=
 let mo := (max 0 (min most 16)).toNat
 let i := npos (nk Q) lo
 let e := if hi.toList = [] then Q.length else npos (nk Q) hi
 if e ≤ i then ([], ⟨#[]⟩) else
 if e - i ≤ mo then ((Q.drop i).take (e - i), ⟨#[]⟩) else
 ((Q.drop i).take mo, match Q[i + mo]? with | some x => x.n | none => ⟨#[]⟩)
set_option maxHeartbeats 6400000 in
theorem trange_c (Q : List Nm) (lo hi : ByteArray) (most : Int) (cp : Nat) (hQ : TbOk Q) (hc1 : Q.length ≤ cp) (hc2 : cp ≤ maxLen) (hm : -9223372036854775808 ≤ most ∧ most ≤ 9223372036854775807) : ACalls Tryz.prog 56 2 3 [.ptr 0 0, .v (.string lo), .v (.string hi), .v (.int .i64 most)] (tbl Q cp) (fun out H' => ∃ cp2, (rangeN Q lo hi most).1.length ≤ cp2 ∧ cp2 ≤ maxLen ∧ out = .ret (.tuple [.arr 2 0 (rangeN Q lo hi most).1.length cp2, .v (.string (rangeN Q lo hi most).2)]) ∧ H' = tbl Q cp ++ [(2, .seq ((rangeN Q lo hi most).1.map nmrow) ((cp2 - (rangeN Q lo hi most).1.length) * 2))]) := by
 have hl := hQ.len
 have hfl := tfind_c Q lo cp (by omega) hQ.srt
 have hfh := tfind_c Q hi cp (by omega) hQ.srt
 have hpl := npos_le (nk Q) lo
 have hph := npos_le (nk Q) hi
 rw [nk_len] at hpl hph
 obtain ⟨mo, hmo⟩ : ∃ mo : Nat, (max 0 (min most 16)).toNat = mo := ⟨_, rfl⟩
 have hmi : (if (if 16 < most then (16 : Int) else most) > 0 then (if 16 < most then (16 : Int) else most) else 0) = (mo : Int) := by
  rw [← hmo]
  omega
 have hcp := fun m h => (show 0 + npos (nk Q) lo * 2 = npos (nk Q) lo * 2 from Nat.zero_add _) ▸ copies_o Q ((cp - Q.length) * 2) (npos (nk Q) lo) m (cp - npos (nk Q) lo) hQ.sz h (by omega)
 have hR : ∀ e : Nat, (if hi.toList = [] then Q.length else npos (nk Q) hi) = e → rangeN Q lo hi most = if e ≤ npos (nk Q) lo then ([], ⟨#[]⟩) else if e - npos (nk Q) lo ≤ mo then ((Q.drop (npos (nk Q) lo)).take (e - npos (nk Q) lo), ⟨#[]⟩) else ((Q.drop (npos (nk Q) lo)).take mo, match Q[npos (nk Q) lo + mo]? with | some x => x.n | none => ⟨#[]⟩) := fun e h => by
  unfold rangeN
  rw [hmo, h]
 have hfin : ∀ (m : Nat) (nm : ByteArray) (cp2 : Nat), npos (nk Q) lo + m ≤ Q.length → rangeN Q lo hi most = ((Q.drop (npos (nk Q) lo)).take m, nm) → m ≤ cp2 → cp2 ≤ maxLen → ∃ cp3, (rangeN Q lo hi most).1.length ≤ cp3 ∧ cp3 ≤ maxLen ∧ AOut.ret (.tuple [.arr 2 0 m cp2, .v (.string nm)]) = .ret (.tuple [.arr 2 0 (rangeN Q lo hi most).1.length cp3, .v (.string (rangeN Q lo hi most).2)]) ∧ (tbl Q cp ++ [(2, .seq (((Q.drop (npos (nk Q) lo)).take m).map nmrow) ((cp2 - m) * 2))] : Heap) = tbl Q cp ++ [(2, .seq ((rangeN Q lo hi most).1.map nmrow) ((cp3 - (rangeN Q lo hi most).1.length) * 2))] := fun m nm cp2 h1 h2 h3 h4 => by
  have hlen : ((Q.drop (npos (nk Q) lo)).take m).length = m := by rw [List.length_take, List.length_drop]; omega
  rw [h2]
  exact ⟨cp2, by show ((Q.drop (npos (nk Q) lo)).take m).length ≤ cp2; omega, h4, by show _ = AOut.ret (.tuple [.arr 2 0 ((Q.drop (npos (nk Q) lo)).take m).length cp2, _]); rw [hlen], by show _ = tbl Q cp ++ [(2, .seq _ ((cp2 - ((Q.drop (npos (nk Q) lo)).take m).length) * 2))]; rw [hlen]⟩
 refine no_implicit_lambda% (acalls_of tok dok (f := 56) ⟨Tryz.func56, rfl, by kernel_rfl⟩ ?_); refine no_implicit_lambda% (c_start (fun _ h => h) ?_)
 repeat' (first | (refine no_implicit_lambda% (zH ?_)) | (((with_reducible refine no_implicit_lambda% (zA ?_)); refine no_implicit_lambda% (zD rfl rfl rfl (fun hc => ?_) (fun hc => ?_)) <;> first | exact zG hc | rw [hc])) | (((with_reducible refine no_implicit_lambda% (zB ?_)); refine no_implicit_lambda% (zE rfl (fun hc => ?_) (fun hc => ?_)) <;> first | exact zG hc | skip)) | (((with_reducible refine no_implicit_lambda% (zC ?_)); refine no_implicit_lambda% (zF rfl rfl (fun hc => ?_) (fun hc => ?_)) <;> first | exact zG hc | rw [hc])) | (refine no_implicit_lambda% (ans ?_)) | (with_reducible first | exact zI | exact zJ) | (refine no_implicit_lambda% (cal [0, 1] (hfl) ?_ ?_)) | (refine no_implicit_lambda% (cal [0, 1] (hfh) ?_ ?_)) | fail)
 ·have hc' := of_decide_eq_true hc
  have he : (if hi.toList = [] then Q.length else npos (nk Q) hi) = npos (nk Q) hi := if_neg (by rintro h; simp_all)
  rw [hR _ he, if_pos (by omega)]
  exact e_ret_to (H' := tbl Q cp ++ [(2, .seq [] 0)]) (rest := []) (Conv.nilSeq (j := 8) rfl) rfl ⟨0, Nat.le_refl _, by decide, rfl, rfl⟩ permT (LE0 rfl)
 ·have hc' := of_decide_eq_false hc
  have he : (if hi.toList = [] then Q.length else npos (nk Q) hi) = npos (nk Q) hi := if_neg (by rintro h; simp_all)
  rw [hmi]
  generalize (if 16 < most then (16 : Int) else most) = w
  ((with_reducible refine no_implicit_lambda% (zC ?_)); first | (refine no_implicit_lambda% (a_qS rfl (fun _ h => h) ?_ ?_)) | (refine no_implicit_lambda% (a_qS rfl (qIx (fun _ h => h)) ?_ ?_)) | (refine no_implicit_lambda% (a_qS rfl (qAnd5 (fun _ h => h)) ?_ ?_)) | (refine no_implicit_lambda% (a_qS rfl (qStr (fun _ h => h)) ?_ ?_)) | (refine no_implicit_lambda% (a_qS rfl (qAnd4 (fun _ h => h)) ?_ ?_)) | (refine no_implicit_lambda% (a_qS rfl (qAnd2 (fun _ h => h)) ?_ ?_))); focus ((repeat' (refine no_implicit_lambda% (And.intro ?_ ?_))) <;> (first | exact trivial | exact Int.natCast_nonneg _ | omega | (simp; done) | (simp; omega) | ((show (0 : Int) ≤ _); omega)))
  repeat' (first | (refine no_implicit_lambda% (zH ?_)) | (((with_reducible refine no_implicit_lambda% (zA ?_)); refine no_implicit_lambda% (zD rfl rfl rfl (fun hc => ?_) (fun hc => ?_)) <;> first | exact zG hc | rw [hc])) | (((with_reducible refine no_implicit_lambda% (zB ?_)); refine no_implicit_lambda% (zE rfl (fun hc => ?_) (fun hc => ?_)) <;> first | exact zG hc | skip)) | (((with_reducible refine no_implicit_lambda% (zC ?_)); refine no_implicit_lambda% (zF rfl rfl (fun hc => ?_) (fun hc => ?_)) <;> first | exact zG hc | rw [hc])) | (refine no_implicit_lambda% (ans ?_)) | (with_reducible first | exact zI | exact zJ))
  ·have hc2' := of_decide_eq_true hc
   have hcc := hcp (npos (nk Q) hi - npos (nk Q) lo) (by omega)
   (refine no_implicit_lambda% (calw [1] (hcc) ?_ ?_))
   ·intro xx H' hh
    obtain ⟨cp2, c1, c2, h', rfl⟩ := hh
    cases h'
    first | (refine no_implicit_lambda% (akc ?_)) | (refine no_implicit_lambda% (aec ?_))
    repeat' (first | (refine no_implicit_lambda% (zH ?_)) | (((with_reducible refine no_implicit_lambda% (zA ?_)); refine no_implicit_lambda% (zD rfl rfl rfl (fun hc => ?_) (fun hc => ?_)) <;> first | exact zG hc | rw [hc])) | (((with_reducible refine no_implicit_lambda% (zB ?_)); refine no_implicit_lambda% (zE rfl (fun hc => ?_) (fun hc => ?_)) <;> first | exact zG hc | skip)) | (((with_reducible refine no_implicit_lambda% (zC ?_)); refine no_implicit_lambda% (zF rfl rfl (fun hc => ?_) (fun hc => ?_)) <;> first | exact zG hc | rw [hc])) | (refine no_implicit_lambda% (ans ?_)) | (with_reducible first | exact zI | exact zJ))
    obtain ⟨cp3, d1, d2, d3, d4⟩ := hfin (npos (nk Q) hi - npos (nk Q) lo) ⟨#[]⟩ cp2 (by omega) (by rw [hR _ he, if_neg (by omega), if_pos (by omega)]) c1 c2
    exact e_ret (H' := tbl Q cp ++ [(2, .seq (((Q.drop (npos (nk Q) lo)).take (npos (nk Q) hi - npos (nk Q) lo)).map nmrow) ((cp2 - (npos (nk Q) hi - npos (nk Q) lo)) * 2))]) (rest := _) rfl ⟨cp3, d1, d2, d3, d4⟩ permT (LE0 rfl)
   ·intro xx H' hh
    obtain ⟨_, _, _, h', _⟩ := hh
    cases h'
  ·have hc2' := of_decide_eq_false hc
   have hcc := hcp mo (by omega)
   obtain ⟨x, hx⟩ : ∃ x, Q[npos (nk Q) lo + mo]? = some x := ⟨_, List.getElem?_eq_getElem (by omega)⟩
   have hq : rangeN Q lo hi most = ((Q.drop (npos (nk Q) lo)).take mo, x.n) := by rw [hR _ he, if_neg (by omega), if_neg (by omega), hx]
   ((with_reducible refine no_implicit_lambda% (is_ev ?_)); first | (refine no_implicit_lambda% (v_qS rfl rfl rfl rfl (qAnd4 (fun _ h => h)) (fun _ h => h) ?_ ?_)) | (refine no_implicit_lambda% (v_qS rfl rfl rfl rfl (qAnd5 (fun _ h => h)) (fun _ h => h) ?_ ?_))); focus ((repeat' (refine no_implicit_lambda% (And.intro ?_ ?_))) <;> (first | exact trivial | exact Int.natCast_nonneg _ | omega | (simp; done) | (simp; omega) | ((show (0 : Int) ≤ _); omega)))
   repeat' (first | (refine no_implicit_lambda% (zH ?_)) | (((with_reducible refine no_implicit_lambda% (zA ?_)); refine no_implicit_lambda% (zD rfl rfl rfl (fun hc => ?_) (fun hc => ?_)) <;> first | exact zG hc | rw [hc])) | (((with_reducible refine no_implicit_lambda% (zB ?_)); refine no_implicit_lambda% (zE rfl (fun hc => ?_) (fun hc => ?_)) <;> first | exact zG hc | skip)) | (((with_reducible refine no_implicit_lambda% (zC ?_)); refine no_implicit_lambda% (zF rfl rfl (fun hc => ?_) (fun hc => ?_)) <;> first | exact zG hc | rw [hc])) | (refine no_implicit_lambda% (ans ?_)) | (with_reducible first | exact zI | exact zJ))
   ((with_reducible refine no_implicit_lambda% (is_ev ?_)); first | (refine no_implicit_lambda% (v_qS rfl rfl rfl rfl (fun _ h => h) (fun _ h => h) ?_ ?_)) | (refine no_implicit_lambda% (v_qS rfl rfl rfl rfl (qAnd2 (fun _ h => h)) (fun _ h => h) ?_ ?_))); focus (first | omega | (simp; done) | (simp; omega))
   repeat' (first | (refine no_implicit_lambda% (zH ?_)) | (((with_reducible refine no_implicit_lambda% (zA ?_)); refine no_implicit_lambda% (zD rfl rfl rfl (fun hc => ?_) (fun hc => ?_)) <;> first | exact zG hc | rw [hc])) | (((with_reducible refine no_implicit_lambda% (zB ?_)); refine no_implicit_lambda% (zE rfl (fun hc => ?_) (fun hc => ?_)) <;> first | exact zG hc | skip)) | (((with_reducible refine no_implicit_lambda% (zC ?_)); refine no_implicit_lambda% (zF rfl rfl (fun hc => ?_) (fun hc => ?_)) <;> first | exact zG hc | rw [hc])) | (refine no_implicit_lambda% (ans ?_)) | (with_reducible first | exact zI | exact zJ))
   ((with_reducible refine no_implicit_lambda% (is_ev ?_)); first | (refine no_implicit_lambda% (v_q rfl rfl rfl rfl (q_loadSeq (sz := 2) (rows := Q.map nmrow) (i := (npos (nk Q) lo + mo)) (j := 0) rfl rfl rfl rfl rfl (nmOk Q) ((by rw [List.getElem?_map, hx]; rfl)) rfl (by first | rfl | (simp; done) | (simp; omega))) (fun _ h => h) ?_)) | (refine no_implicit_lambda% (v_yes rfl rfl rfl rfl rfl rfl (q_loadSeq (sz := 2) (rows := Q.map nmrow) (i := (npos (nk Q) lo + mo)) (j := 0) rfl rfl rfl rfl rfl (nmOk Q) ((by rw [List.getElem?_map, hx]; rfl)) rfl (by first | rfl | (simp; done) | (simp; omega))) (fun _ h => h) ?_)))
   repeat' (first | (refine no_implicit_lambda% (zH ?_)) | (((with_reducible refine no_implicit_lambda% (zA ?_)); refine no_implicit_lambda% (zD rfl rfl rfl (fun hc => ?_) (fun hc => ?_)) <;> first | exact zG hc | rw [hc])) | (((with_reducible refine no_implicit_lambda% (zB ?_)); refine no_implicit_lambda% (zE rfl (fun hc => ?_) (fun hc => ?_)) <;> first | exact zG hc | skip)) | (((with_reducible refine no_implicit_lambda% (zC ?_)); refine no_implicit_lambda% (zF rfl rfl (fun hc => ?_) (fun hc => ?_)) <;> first | exact zG hc | rw [hc])) | (refine no_implicit_lambda% (ans ?_)) | (with_reducible first | exact zI | exact zJ) | (refine no_implicit_lambda% (calw [1] (hcc) ?_ ?_)) | fail)
   ·intro xx H' hh
    obtain ⟨cp2, c1, c2, h', rfl⟩ := hh
    cases h'
    refine no_implicit_lambda% (aec ?_ (hc := by (intro k h; refine ⟨aload_seq (sz := 2) (rows := Q.map nmrow) (i := npos (nk Q) lo + mo) (j := 0) rfl rfl (nmOk Q) (by rw [List.getElem?_map, hx]; rfl) rfl (by first | rfl | (simp; done) | (simp; omega)), ?_⟩; exact h)))
    repeat' (first | (first | (with_reducible refine no_implicit_lambda% (v_nil ?_)) | ((with_reducible refine no_implicit_lambda% (is_ev ?_)); first | (refine no_implicit_lambda% (v_skips rfl rfl (fun _ h => h) ?_)) | (refine no_implicit_lambda% (v_q rfl rfl rfl rfl (fun _ h => h) (fun _ h => h) ?_)) | (refine no_implicit_lambda% (v_alloc rfl rfl rfl (fun _ h => h) rfl ?_)) | (refine no_implicit_lambda% (v_no rfl rfl rfl rfl rfl rfl (fun _ h => h) ?_)) | (refine no_implicit_lambda% (v_yes rfl rfl rfl rfl rfl rfl (fun _ h => h) (fun _ h => h) ?_)) | (refine no_implicit_lambda% (v_not rfl rfl rfl rfl rfl rfl (fun _ h => h) ?_)))) | ((with_reducible refine no_implicit_lambda% (is_drB ?_)); first | (refine no_implicit_lambda% (b_end rfl rfl (fun _ h => h) (fun _ h => h) ?_)) | (refine no_implicit_lambda% (b_eff rfl rfl rfl rfl (fun _ h => h) (fun _ h => h) rfl ?_)) | (refine no_implicit_lambda% (b_no rfl rfl rfl rfl (fun _ h => h) (fun _ h => h) rfl rfl rfl (fun _ h => h) (fun _ h => h) ?_)) | (refine no_implicit_lambda% (b_yes rfl rfl rfl rfl (fun _ h => h) (fun _ h => h) rfl rfl rfl ?_)) | (refine no_implicit_lambda% (b_not rfl rfl rfl rfl (fun _ h => h) (fun _ h => h) rfl rfl rfl (fun _ h => h) (fun _ h => h) ?_))) | ((with_reducible refine no_implicit_lambda% (zC ?_)); first | (refine no_implicit_lambda% (a_q1 rfl (fun _ h => h) ?_)) | (refine no_implicit_lambda% (a_box rfl (fun _ h => h) ?_)) | (refine no_implicit_lambda% (a_alloc rfl (fun _ h => h) ?_)) | (refine no_implicit_lambda% (a_storev rfl (fun _ h => h) ?_)) | (refine no_implicit_lambda% (a_store rfl (fun _ h => h) ?_)) | (refine no_implicit_lambda% (a_panic rfl rfl ?_))))
    refine no_implicit_lambda% (aec ?_ (hc := by (intro k h; refine ⟨aload_seq (sz := 2) (rows := Q.map nmrow) (i := npos (nk Q) lo + mo) (j := 0) rfl rfl (nmOk Q) (by rw [List.getElem?_map, hx]; rfl) rfl (by first | rfl | (simp; done) | (simp; omega)), ?_⟩; exact h)))
    repeat' (first | (refine no_implicit_lambda% (zH ?_)) | (((with_reducible refine no_implicit_lambda% (zA ?_)); refine no_implicit_lambda% (zD rfl rfl rfl (fun hc => ?_) (fun hc => ?_)) <;> first | exact zG hc | rw [hc])) | (((with_reducible refine no_implicit_lambda% (zB ?_)); refine no_implicit_lambda% (zE rfl (fun hc => ?_) (fun hc => ?_)) <;> first | exact zG hc | skip)) | (((with_reducible refine no_implicit_lambda% (zC ?_)); refine no_implicit_lambda% (zF rfl rfl (fun hc => ?_) (fun hc => ?_)) <;> first | exact zG hc | rw [hc])) | (refine no_implicit_lambda% (ans ?_)) | (with_reducible first | exact zI | exact zJ))
    obtain ⟨cp3, d1, d2, d3, d4⟩ := hfin mo x.n cp2 (by omega) hq c1 c2
    exact e_ret (H' := tbl Q cp ++ [(2, .seq (((Q.drop (npos (nk Q) lo)).take mo).map nmrow) ((cp2 - mo) * 2))]) (rest := _) rfl ⟨cp3, d1, d2, d3, d4⟩ permT (LE0 rfl)
   ·intro xx H' hh
    obtain ⟨_, _, _, h', _⟩ := hh
    cases h'
 ·have hc' := of_decide_eq_true hc
  have he : (if hi.toList = [] then Q.length else npos (nk Q) hi) = Q.length := if_pos (by simp_all)
  rw [hR _ he, if_pos (by omega)]
  exact e_ret_to (H' := tbl Q cp ++ [(2, .seq [] 0)]) (rest := []) (Conv.nilSeq (j := 8) rfl) rfl ⟨0, Nat.le_refl _, by decide, rfl, rfl⟩ permT (LE0 rfl)
 ·have hc' := of_decide_eq_false hc
  have he : (if hi.toList = [] then Q.length else npos (nk Q) hi) = Q.length := if_pos (by simp_all)
  rw [hmi]
  generalize (if 16 < most then (16 : Int) else most) = w
  ((with_reducible refine no_implicit_lambda% (zC ?_)); first | (refine no_implicit_lambda% (a_qS rfl (fun _ h => h) ?_ ?_)) | (refine no_implicit_lambda% (a_qS rfl (qIx (fun _ h => h)) ?_ ?_)) | (refine no_implicit_lambda% (a_qS rfl (qAnd5 (fun _ h => h)) ?_ ?_)) | (refine no_implicit_lambda% (a_qS rfl (qStr (fun _ h => h)) ?_ ?_)) | (refine no_implicit_lambda% (a_qS rfl (qAnd4 (fun _ h => h)) ?_ ?_)) | (refine no_implicit_lambda% (a_qS rfl (qAnd2 (fun _ h => h)) ?_ ?_))); focus ((repeat' (refine no_implicit_lambda% (And.intro ?_ ?_))) <;> (first | exact trivial | exact Int.natCast_nonneg _ | omega | (simp; done) | (simp; omega) | ((show (0 : Int) ≤ _); omega)))
  repeat' (first | (refine no_implicit_lambda% (zH ?_)) | (((with_reducible refine no_implicit_lambda% (zA ?_)); refine no_implicit_lambda% (zD rfl rfl rfl (fun hc => ?_) (fun hc => ?_)) <;> first | exact zG hc | rw [hc])) | (((with_reducible refine no_implicit_lambda% (zB ?_)); refine no_implicit_lambda% (zE rfl (fun hc => ?_) (fun hc => ?_)) <;> first | exact zG hc | skip)) | (((with_reducible refine no_implicit_lambda% (zC ?_)); refine no_implicit_lambda% (zF rfl rfl (fun hc => ?_) (fun hc => ?_)) <;> first | exact zG hc | rw [hc])) | (refine no_implicit_lambda% (ans ?_)) | (with_reducible first | exact zI | exact zJ))
  ·have hc2' := of_decide_eq_true hc
   have hcc := hcp (Q.length - npos (nk Q) lo) (by omega)
   (refine no_implicit_lambda% (calw [1] (hcc) ?_ ?_))
   ·intro xx H' hh
    obtain ⟨cp2, c1, c2, h', rfl⟩ := hh
    cases h'
    first | (refine no_implicit_lambda% (akc ?_)) | (refine no_implicit_lambda% (aec ?_))
    repeat' (first | (refine no_implicit_lambda% (zH ?_)) | (((with_reducible refine no_implicit_lambda% (zA ?_)); refine no_implicit_lambda% (zD rfl rfl rfl (fun hc => ?_) (fun hc => ?_)) <;> first | exact zG hc | rw [hc])) | (((with_reducible refine no_implicit_lambda% (zB ?_)); refine no_implicit_lambda% (zE rfl (fun hc => ?_) (fun hc => ?_)) <;> first | exact zG hc | skip)) | (((with_reducible refine no_implicit_lambda% (zC ?_)); refine no_implicit_lambda% (zF rfl rfl (fun hc => ?_) (fun hc => ?_)) <;> first | exact zG hc | rw [hc])) | (refine no_implicit_lambda% (ans ?_)) | (with_reducible first | exact zI | exact zJ))
    obtain ⟨cp3, d1, d2, d3, d4⟩ := hfin (Q.length - npos (nk Q) lo) ⟨#[]⟩ cp2 (by omega) (by rw [hR _ he, if_neg (by omega), if_pos (by omega)]) c1 c2
    exact e_ret (H' := tbl Q cp ++ [(2, .seq (((Q.drop (npos (nk Q) lo)).take (Q.length - npos (nk Q) lo)).map nmrow) ((cp2 - (Q.length - npos (nk Q) lo)) * 2))]) (rest := _) rfl ⟨cp3, d1, d2, d3, d4⟩ permT (LE0 rfl)
   ·intro xx H' hh
    obtain ⟨_, _, _, h', _⟩ := hh
    cases h'
  ·have hc2' := of_decide_eq_false hc
   have hcc := hcp mo (by omega)
   obtain ⟨x, hx⟩ : ∃ x, Q[npos (nk Q) lo + mo]? = some x := ⟨_, List.getElem?_eq_getElem (by omega)⟩
   have hq : rangeN Q lo hi most = ((Q.drop (npos (nk Q) lo)).take mo, x.n) := by rw [hR _ he, if_neg (by omega), if_neg (by omega), hx]
   ((with_reducible refine no_implicit_lambda% (is_ev ?_)); first | (refine no_implicit_lambda% (v_qS rfl rfl rfl rfl (qAnd4 (fun _ h => h)) (fun _ h => h) ?_ ?_)) | (refine no_implicit_lambda% (v_qS rfl rfl rfl rfl (qAnd5 (fun _ h => h)) (fun _ h => h) ?_ ?_))); focus ((repeat' (refine no_implicit_lambda% (And.intro ?_ ?_))) <;> (first | exact trivial | exact Int.natCast_nonneg _ | omega | (simp; done) | (simp; omega) | ((show (0 : Int) ≤ _); omega)))
   repeat' (first | (refine no_implicit_lambda% (zH ?_)) | (((with_reducible refine no_implicit_lambda% (zA ?_)); refine no_implicit_lambda% (zD rfl rfl rfl (fun hc => ?_) (fun hc => ?_)) <;> first | exact zG hc | rw [hc])) | (((with_reducible refine no_implicit_lambda% (zB ?_)); refine no_implicit_lambda% (zE rfl (fun hc => ?_) (fun hc => ?_)) <;> first | exact zG hc | skip)) | (((with_reducible refine no_implicit_lambda% (zC ?_)); refine no_implicit_lambda% (zF rfl rfl (fun hc => ?_) (fun hc => ?_)) <;> first | exact zG hc | rw [hc])) | (refine no_implicit_lambda% (ans ?_)) | (with_reducible first | exact zI | exact zJ))
   ((with_reducible refine no_implicit_lambda% (is_ev ?_)); first | (refine no_implicit_lambda% (v_qS rfl rfl rfl rfl (fun _ h => h) (fun _ h => h) ?_ ?_)) | (refine no_implicit_lambda% (v_qS rfl rfl rfl rfl (qAnd2 (fun _ h => h)) (fun _ h => h) ?_ ?_))); focus (first | omega | (simp; done) | (simp; omega))
   repeat' (first | (refine no_implicit_lambda% (zH ?_)) | (((with_reducible refine no_implicit_lambda% (zA ?_)); refine no_implicit_lambda% (zD rfl rfl rfl (fun hc => ?_) (fun hc => ?_)) <;> first | exact zG hc | rw [hc])) | (((with_reducible refine no_implicit_lambda% (zB ?_)); refine no_implicit_lambda% (zE rfl (fun hc => ?_) (fun hc => ?_)) <;> first | exact zG hc | skip)) | (((with_reducible refine no_implicit_lambda% (zC ?_)); refine no_implicit_lambda% (zF rfl rfl (fun hc => ?_) (fun hc => ?_)) <;> first | exact zG hc | rw [hc])) | (refine no_implicit_lambda% (ans ?_)) | (with_reducible first | exact zI | exact zJ))
   ((with_reducible refine no_implicit_lambda% (is_ev ?_)); first | (refine no_implicit_lambda% (v_q rfl rfl rfl rfl (q_loadSeq (sz := 2) (rows := Q.map nmrow) (i := (npos (nk Q) lo + mo)) (j := 0) rfl rfl rfl rfl rfl (nmOk Q) ((by rw [List.getElem?_map, hx]; rfl)) rfl (by first | rfl | (simp; done) | (simp; omega))) (fun _ h => h) ?_)) | (refine no_implicit_lambda% (v_yes rfl rfl rfl rfl rfl rfl (q_loadSeq (sz := 2) (rows := Q.map nmrow) (i := (npos (nk Q) lo + mo)) (j := 0) rfl rfl rfl rfl rfl (nmOk Q) ((by rw [List.getElem?_map, hx]; rfl)) rfl (by first | rfl | (simp; done) | (simp; omega))) (fun _ h => h) ?_)))
   repeat' (first | (refine no_implicit_lambda% (zH ?_)) | (((with_reducible refine no_implicit_lambda% (zA ?_)); refine no_implicit_lambda% (zD rfl rfl rfl (fun hc => ?_) (fun hc => ?_)) <;> first | exact zG hc | rw [hc])) | (((with_reducible refine no_implicit_lambda% (zB ?_)); refine no_implicit_lambda% (zE rfl (fun hc => ?_) (fun hc => ?_)) <;> first | exact zG hc | skip)) | (((with_reducible refine no_implicit_lambda% (zC ?_)); refine no_implicit_lambda% (zF rfl rfl (fun hc => ?_) (fun hc => ?_)) <;> first | exact zG hc | rw [hc])) | (refine no_implicit_lambda% (ans ?_)) | (with_reducible first | exact zI | exact zJ) | (refine no_implicit_lambda% (calw [1] (hcc) ?_ ?_)) | fail)
   ·intro xx H' hh
    obtain ⟨cp2, c1, c2, h', rfl⟩ := hh
    cases h'
    refine no_implicit_lambda% (aec ?_ (hc := by (intro k h; refine ⟨aload_seq (sz := 2) (rows := Q.map nmrow) (i := npos (nk Q) lo + mo) (j := 0) rfl rfl (nmOk Q) (by rw [List.getElem?_map, hx]; rfl) rfl (by first | rfl | (simp; done) | (simp; omega)), ?_⟩; exact h)))
    repeat' (first | (first | (with_reducible refine no_implicit_lambda% (v_nil ?_)) | ((with_reducible refine no_implicit_lambda% (is_ev ?_)); first | (refine no_implicit_lambda% (v_skips rfl rfl (fun _ h => h) ?_)) | (refine no_implicit_lambda% (v_q rfl rfl rfl rfl (fun _ h => h) (fun _ h => h) ?_)) | (refine no_implicit_lambda% (v_alloc rfl rfl rfl (fun _ h => h) rfl ?_)) | (refine no_implicit_lambda% (v_no rfl rfl rfl rfl rfl rfl (fun _ h => h) ?_)) | (refine no_implicit_lambda% (v_yes rfl rfl rfl rfl rfl rfl (fun _ h => h) (fun _ h => h) ?_)) | (refine no_implicit_lambda% (v_not rfl rfl rfl rfl rfl rfl (fun _ h => h) ?_)))) | ((with_reducible refine no_implicit_lambda% (is_drB ?_)); first | (refine no_implicit_lambda% (b_end rfl rfl (fun _ h => h) (fun _ h => h) ?_)) | (refine no_implicit_lambda% (b_eff rfl rfl rfl rfl (fun _ h => h) (fun _ h => h) rfl ?_)) | (refine no_implicit_lambda% (b_no rfl rfl rfl rfl (fun _ h => h) (fun _ h => h) rfl rfl rfl (fun _ h => h) (fun _ h => h) ?_)) | (refine no_implicit_lambda% (b_yes rfl rfl rfl rfl (fun _ h => h) (fun _ h => h) rfl rfl rfl ?_)) | (refine no_implicit_lambda% (b_not rfl rfl rfl rfl (fun _ h => h) (fun _ h => h) rfl rfl rfl (fun _ h => h) (fun _ h => h) ?_))) | ((with_reducible refine no_implicit_lambda% (zC ?_)); first | (refine no_implicit_lambda% (a_q1 rfl (fun _ h => h) ?_)) | (refine no_implicit_lambda% (a_box rfl (fun _ h => h) ?_)) | (refine no_implicit_lambda% (a_alloc rfl (fun _ h => h) ?_)) | (refine no_implicit_lambda% (a_storev rfl (fun _ h => h) ?_)) | (refine no_implicit_lambda% (a_store rfl (fun _ h => h) ?_)) | (refine no_implicit_lambda% (a_panic rfl rfl ?_))))
    refine no_implicit_lambda% (aec ?_ (hc := by (intro k h; refine ⟨aload_seq (sz := 2) (rows := Q.map nmrow) (i := npos (nk Q) lo + mo) (j := 0) rfl rfl (nmOk Q) (by rw [List.getElem?_map, hx]; rfl) rfl (by first | rfl | (simp; done) | (simp; omega)), ?_⟩; exact h)))
    repeat' (first | (refine no_implicit_lambda% (zH ?_)) | (((with_reducible refine no_implicit_lambda% (zA ?_)); refine no_implicit_lambda% (zD rfl rfl rfl (fun hc => ?_) (fun hc => ?_)) <;> first | exact zG hc | rw [hc])) | (((with_reducible refine no_implicit_lambda% (zB ?_)); refine no_implicit_lambda% (zE rfl (fun hc => ?_) (fun hc => ?_)) <;> first | exact zG hc | skip)) | (((with_reducible refine no_implicit_lambda% (zC ?_)); refine no_implicit_lambda% (zF rfl rfl (fun hc => ?_) (fun hc => ?_)) <;> first | exact zG hc | rw [hc])) | (refine no_implicit_lambda% (ans ?_)) | (with_reducible first | exact zI | exact zJ))
    obtain ⟨cp3, d1, d2, d3, d4⟩ := hfin mo x.n cp2 (by omega) hq c1 c2
    exact e_ret (H' := tbl Q cp ++ [(2, .seq (((Q.drop (npos (nk Q) lo)).take mo).map nmrow) ((cp2 - mo) * 2))]) (rest := _) rfl ⟨cp3, d1, d2, d3, d4⟩ permT (LE0 rfl)
   ·intro xx H' hh
    obtain ⟨_, _, _, h', _⟩ := hh
    cases h'
end Go.Proofs.YtjepgbpcpcahgaaGreat
namespace Go.Proofs.YtjepgbpcpcahgaaGreat
open Go.Am
set_option maxRecDepth 100000
theorem nm_eq {Q : List Nm} {s : ByteArray} {i : Nat} {x : Nm} (hs : Nsort (nk Q)) (hx : Q[i]? = some x) (h : (x.n.toList == s.toList) = true) : npos (nk Q) s = i ∧ hasN (nk Q) s = true ∧ x.n = s := by
 have e := bytes_eq (eq_of_beq h)
 have h2 := npos_at hs (nk_at hx)
 rw [← e]
 exact ⟨h2.1, h2.2, rfl⟩
theorem nm_ne {Q : List Nm} {s : ByteArray} {i : Nat} {x : Nm} (hx : Q[i]? = some x) (h : (x.n.toList == s.toList) = false) (hN : hasN (nk Q) s = true) : npos (nk Q) s ≠ i := by
 rintro rfl
 obtain ⟨y, hy, he⟩ := hasN_nm hN
 rw [hx] at hy
 cases hy
 rw [he] at h
 simp at h
def rffSt (Q : List Nm) (s : ByteArray) (i : Nat) : ASt := ⟨([.list (Q.map nmrow) .free, .v (.string s), .dead, .dead, .ptr 0 0, .dead, .v (.int .i64 i)] ++ List.replicate 20 .dead), [(0, .box [.list [] .full])], 1⟩
theorem rfind_c (Q : List Nm) (s : ByteArray) (hQ : TbOk Q) : ACalls Tryz.prog 104 0 20 [.list (Q.map nmrow) .free, .v (.string s)] [] (fun out H' => out = .ret (.tuple [rowA (getN Q s).1, .v (.bool (getN Q s).2)]) ∧ H' = []) := by
 have hl := hQ.len
 refine no_implicit_lambda% (acalls_of tok dok (f := 104) ⟨Tryz.func104, rfl, by kernel_rfl⟩ ?_); refine no_implicit_lambda% (c_start (fun _ h => h) ?_)
 repeat' (first | (refine no_implicit_lambda% (zH ?_)) | (((with_reducible refine no_implicit_lambda% (zA ?_)); refine no_implicit_lambda% (zD rfl rfl rfl (fun hc => ?_) (fun hc => ?_)) <;> first | exact zG hc | rw [hc])) | (((with_reducible refine no_implicit_lambda% (zB ?_)); refine no_implicit_lambda% (zE rfl (fun hc => ?_) (fun hc => ?_)) <;> first | exact zG hc | skip)) | (((with_reducible refine no_implicit_lambda% (zC ?_)); refine no_implicit_lambda% (zF rfl rfl (fun hc => ?_) (fun hc => ?_)) <;> first | exact zG hc | rw [hc])) | (refine no_implicit_lambda% (ans ?_)) | (with_reducible first | exact zI | exact zJ))
 refine c_loop' (rffSt Q s) (fun i => i ≤ Q.length ∧ (hasN (nk Q) s = true → i ≤ npos (nk Q) s)) (fun i => Q.length - i) (a := 0) ⟨Nat.zero_le _, fun _ => Nat.zero_le _⟩ ?_ ?_
 ·(refine no_implicit_lambda% (Conv.toT ?_ ?_ (LE0 rfl))); (focus ((unfold rffSt); (try dsimp only); exact wkl)); (focus ((unfold rffSt); (try dsimp only); exact wkh))
 ·rintro i ⟨i1, i2⟩
  refine c_turn (n' := 1) (fun _ h => h) (fun _ h => h) rfl ?_
  rcases hx : Q[i]? with _ | x
  ·have hi : Q.length ≤ i := List.getElem?_eq_none_iff.1 hx
   have hN : hasN (nk Q) s = false := by
    rcases h : hasN (nk Q) s with _ | _
    ·rfl
    ·have := hasN_len h; have := i2 h; omega
   have hg : getN Q s = ([], false) := by unfold getN; rw [hN, if_neg (by simp)]
   repeat' (first | (refine no_implicit_lambda% (zH ?_)) | (((with_reducible refine no_implicit_lambda% (zA ?_)); refine no_implicit_lambda% (zD rfl rfl rfl (fun hc => ?_) (fun hc => ?_)) <;> first | exact zG hc | rw [hc])) | (((with_reducible refine no_implicit_lambda% (zB ?_)); refine no_implicit_lambda% (zE rfl (fun hc => ?_) (fun hc => ?_)) <;> first | exact zG hc | skip)) | (((with_reducible refine no_implicit_lambda% (zC ?_)); refine no_implicit_lambda% (zF rfl rfl (fun hc => ?_) (fun hc => ?_)) <;> first | exact zG hc | rw [hc])) | (refine no_implicit_lambda% (ans ?_)) | (with_reducible first | exact zI | exact zJ))
   rw [hg]
   refine e_ret_to (H' := []) (rest := [(0, .box [.list [] .free])]) (Conv.toT (τ := ⟨_, [(0, .box [.list [] .free])], _⟩) (.refl _) ?_ (Nat.le_refl _)) rfl ⟨rfl, rfl⟩ permT (LE0 rfl)
   exact wkh
  ·have hi : i < Q.length := (List.getElem?_eq_some_iff.1 hx).1
   have hix := nmx hx
   have hxz := hQ.sz x (List.mem_of_getElem? hx)
   have hcp := qcopy_f x.r (by have := hxz.1.len; omega) hxz.2
   rw [hxz.1.copy] at hcp
   repeat' (first | (refine no_implicit_lambda% (zH ?_)) | (((with_reducible refine no_implicit_lambda% (zA ?_)); refine no_implicit_lambda% (zD rfl rfl rfl (fun hc => ?_) (fun hc => ?_)) <;> first | exact zG hc | rw [hc])) | (((with_reducible refine no_implicit_lambda% (zB ?_)); refine no_implicit_lambda% (zE rfl (fun hc => ?_) (fun hc => ?_)) <;> first | exact zG hc | skip)) | (((with_reducible refine no_implicit_lambda% (zC ?_)); refine no_implicit_lambda% (zF rfl rfl (fun hc => ?_) (fun hc => ?_)) <;> first | exact zG hc | rw [hc])) | (refine no_implicit_lambda% (ans ?_)) | (with_reducible first | exact zI | exact zJ) | (refine no_implicit_lambda% (cal [] (hcp) ?_ ?_)) | fail)
   ·obtain ⟨h1, h2, h3⟩ := nm_eq hQ.srt hx hc
    have hg : getN Q s = (x.r, true) := by unfold getN; rw [h2, if_pos rfl, h1, hx]
    rw [hg]
    exact e_ret (H' := []) (rest := _) rfl ⟨rfl, rfl⟩ permT (LE0 rfl)
   ·(refine no_implicit_lambda% (k_loopT (i + 1) (by show i + 1 ≤ Q.length ∧ (hasN (nk Q) s = true → i + 1 ≤ npos (nk Q) s); exact ⟨hi, fun h => by have := nm_ne hx hc h; have := i2 h; omega⟩) (by first | omega | (simp; done) | (simp; omega)) ?_ ?_)); (focus ((unfold rffSt); (try dsimp only); exact wkl)); (focus ((unfold rffSt); (try dsimp only); exact wkh))
end Go.Proofs.YtjepgbpcpcahgaaGreat
namespace Go.Proofs.YtjepgbpcpcahgaaGreat
open Go.Am
set_option maxRecDepth 100000
def putNm (Q : List Nm) (s : ByteArray) (r : List Co) : List Nm :=
 if r = [] then (if hasN (nk Q) s then Q.eraseIdx (npos (nk Q) s) else Q) else
 if hasN (nk Q) s then Q.set (npos (nk Q) s) ⟨s, copyR r⟩ else insAt Q (npos (nk Q) s) ⟨s, copyR r⟩
def prt (Q : List Nm) (s : ByteArray) (r : List Co) (i : Nat) : List Nm :=
 if i ≤ npos (nk Q) s then Q.take i else
 Q.take (npos (nk Q) s) ++ ((if r = [] then [] else [⟨s, copyR r⟩]) ++ ((Q.take i).drop (npos (nk Q) s + if hasN (nk Q) s then 1 else 0)))
theorem prt_lo {Q : List Nm} {s : ByteArray} {r : List Co} {i : Nat} (h : i ≤ npos (nk Q) s) : prt Q s r i = Q.take i := if_pos h
theorem prt_hi {Q : List Nm} {s : ByteArray} {r : List Co} {i : Nat} (h : npos (nk Q) s < i) : prt Q s r i = Q.take (npos (nk Q) s) ++ ((if r = [] then [] else [⟨s, copyR r⟩]) ++ ((Q.take i).drop (npos (nk Q) s + if hasN (nk Q) s then 1 else 0))) := if_neg (by omega)
theorem take_s {Q : List Nm} {i : Nat} {x : Nm} (h : Q[i]? = some x) : Q.take (i + 1) = Q.take i ++ [x] := by rw [List.take_add_one, h]; rfl
theorem prt_a {Q : List Nm} {s : ByteArray} {r : List Co} {i : Nat} {x : Nm} (h : Q[i]? = some x) (hi : i < npos (nk Q) s) : prt Q s r (i + 1) = prt Q s r i ++ [x] := by
 rw [prt_lo (by omega), prt_lo (by omega), take_s h]
theorem prt_b {Q : List Nm} {s : ByteArray} {r : List Co} {x : Nm} (h : Q[npos (nk Q) s]? = some x) (hN : hasN (nk Q) s = true) : prt Q s r (npos (nk Q) s + 1) = prt Q s r (npos (nk Q) s) ++ (if r = [] then [] else [⟨s, copyR r⟩]) := by
 rw [prt_hi (by omega), prt_lo (Nat.le_refl _), hN, if_pos rfl, List.drop_eq_nil_of_le (by rw [List.length_take]; omega), List.append_nil]
theorem prt_c {Q : List Nm} {s : ByteArray} {r : List Co} {x : Nm} (h : Q[npos (nk Q) s]? = some x) (hN : hasN (nk Q) s = false) : prt Q s r (npos (nk Q) s + 1) = prt Q s r (npos (nk Q) s) ++ (if r = [] then [] else [⟨s, copyR r⟩]) ++ [x] := by
 have hl := (List.getElem?_eq_some_iff.1 h).1
 rw [prt_hi (by omega), prt_lo (Nat.le_refl _), hN]
 simp only [Bool.false_eq_true, if_false, Nat.add_zero]
 rw [take_s h, List.drop_append_of_le_length (by rw [List.length_take]; omega), List.drop_eq_nil_of_le (by rw [List.length_take]; omega), List.nil_append, List.append_assoc]
theorem prt_d {Q : List Nm} {s : ByteArray} {r : List Co} {i : Nat} {x : Nm} (h : Q[i]? = some x) (hi : npos (nk Q) s < i) : prt Q s r (i + 1) = prt Q s r i ++ [x] := by
 have hl := (List.getElem?_eq_some_iff.1 h).1
 rw [prt_hi (by omega), prt_hi (by omega), take_s h, List.drop_append_of_le_length (by rw [List.length_take]; split <;> omega)]
 simp only [List.append_assoc]
theorem prt_end {Q : List Nm} {s : ByteArray} {r : List Co} : (if r ≠ [] ∧ Q.length ≤ npos (nk Q) s then prt Q s r Q.length ++ [⟨s, copyR r⟩] else prt Q s r Q.length) = putNm Q s r := by
 have hpl := npos_le (nk Q) s
 rw [nk_len] at hpl
 unfold putNm
 rcases Nat.lt_or_ge (npos (nk Q) s) Q.length with hlt | hge
 ·rw [if_neg (by omega), prt_hi hlt, List.take_length]
  rcases hN : hasN (nk Q) s with _ | _
  ·simp only [Bool.false_eq_true, if_false, Nat.add_zero]
   by_cases hr : r = []
   ·simp [hr]
   ·simp [hr, insAt]
  ·simp only [if_true]
   by_cases hr : r = []
   ·simp [hr, List.eraseIdx_eq_take_drop_succ]
   ·simp [hr, List.set_eq_take_append_cons_drop, hlt]
 ·have hN : hasN (nk Q) s = false := by
   rcases h : hasN (nk Q) s with _ | _
   ·rfl
   ·have := hasN_len h; omega
  rw [prt_lo hge, List.take_length, hN]
  by_cases hr : r = []
  ·simp [hr]
  ·have e : npos (nk Q) s = Q.length := by omega
   simp [hr, e, insAt]
theorem setN_eq {Q : List Nm} {s : ByteArray} {r : List Co} (hQ : Q.length ≤ 32) : setN Q s r = if nmB s = false ∨ rowB r = false then (1, Q) else if hasN (nk Q) s = false ∧ r ≠ [] ∧ 32 ≤ Q.length then (13, Q) else (0, putNm Q s r) := by
 unfold setN putNm
 by_cases h1 : nmB s = false ∨ rowB r = false
 ·rw [if_pos h1, if_pos h1]
 ·rw [if_neg h1, if_neg h1]
  by_cases hr : r = []
  ·simp [hr]
  ·rcases hN : hasN (nk Q) s with _ | _
   ·by_cases h32 : 32 ≤ Q.length
    ·simp [hr, h32]
    ·simp [hr, h32]
   ·simp [hr]
end Go.Proofs.YtjepgbpcpcahgaaGreat
namespace Go.Proofs.YtjepgbpcpcahgaaGreat
open Go.Am
set_option maxRecDepth 100000
theorem prt_len {Q : List Nm} {s : ByteArray} {r : List Co} {i : Nat} (h : i ≤ Q.length) : (prt Q s r i).length ≤ i + 1 := by
 unfold prt
 split
 ·rw [List.length_take]; omega
 ·rw [List.length_append, List.length_append, List.length_take, List.length_drop, List.length_take]
  split
  ·simp only [List.length_nil]; omega
  ·simp only [List.length_cons, List.length_nil]; omega
theorem prt_ne {Q : List Nm} {s : ByteArray} {r : List Co} {i : Nat} {x : Nm} (hx : Q[i]? = some x) (hne : (!x.n.toList == s.toList) = true) (hd : r = [] ∨ npos (nk Q) s ≠ i) : prt Q s r i ++ [x] = prt Q s r (i + 1) := by
 rcases Nat.lt_trichotomy i (npos (nk Q) s) with h | h | h
 ·rw [prt_a hx h]
 ·have hr : r = [] := hd.elim id fun h2 => absurd h.symm h2
  subst h
  have hN : hasN (nk Q) s = false := by
   rcases hn : hasN (nk Q) s with _ | _
   ·rfl
   ·exact absurd rfl (nm_ne hx (by simpa using hne) hn)
  rw [prt_c hx hN, if_pos hr, List.append_nil]
 ·rw [prt_d hx h]
theorem prt_eqs {Q : List Nm} {s : ByteArray} {r : List Co} {i : Nat} {x : Nm} (hs : Nsort (nk Q)) (hx : Q[i]? = some x) (he : (!x.n.toList == s.toList) = false) : npos (nk Q) s = i ∧ prt Q s r i ++ (if r = [] then [] else [⟨s, copyR r⟩]) = prt Q s r (i + 1) := by
 obtain ⟨h1, h2, h3⟩ := nm_eq hs hx (by simpa using he)
 subst h1
 exact ⟨rfl, (prt_b hx h2).symm⟩
theorem prt_new {Q : List Nm} {s : ByteArray} {r : List Co} {i : Nat} {x : Nm} (hx : Q[i]? = some x) (hne : (!x.n.toList == s.toList) = true) (hd : npos (nk Q) s = i) (hr : r ≠ []) : prt Q s r i ++ [⟨s, copyR r⟩] ++ [x] = prt Q s r (i + 1) := by
 subst hd
 have hN : hasN (nk Q) s = false := by
  rcases hn : hasN (nk Q) s with _ | _
  ·rfl
  ·exact absurd rfl (nm_ne hx (by simpa using hne) hn)
 rw [prt_c hx hN, if_neg hr]
def rpSt (Q : List Nm) (s : ByteArray) (r : List Co) (o : List Nm) (d : Bool) (i : Nat) : ASt := ⟨([.list (Q.map nmrow) .free, .v (.string s), .dead, .dead, .dead, .ptr 0 0, .dead, .list (o.map nmrow) (.tok 1), .v (.bool d), .v (.int .i64 i)] ++ List.replicate 52 .dead), [(1, .tok 2 o.length), (0, .box [.list (r.map corow) .free])], 2⟩
set_option maxHeartbeats 6400000 in
theorem rput_c (Q : List Nm) (s : ByteArray) (r : List Co) (hQ : TbOk Q) (hr : r.length < 70368744177664) (hz : RowSz r) : ACalls Tryz.prog 105 0 5000 [.list (Q.map nmrow) .free, .v (.string s), rowA r] [] (fun out H' => out = .ret (.list ((putNm Q s r).map nmrow) .free) ∧ H' = []) := by
 have hl := hQ.len
 have hcp := qcopy_f r hr hz
 have hpe : (if r ≠ [] ∧ Q.length ≤ npos (nk Q) s then prt Q s r Q.length ++ [⟨s, copyR r⟩] else prt Q s r Q.length) = putNm Q s r := prt_end
 refine no_implicit_lambda% (acalls_of tok dok (f := 105) ⟨Tryz.func105, rfl, by kernel_rfl⟩ ?_); refine no_implicit_lambda% (c_start (fun _ h => h) ?_)
 repeat' (first | (refine no_implicit_lambda% (zH ?_)) | (((with_reducible refine no_implicit_lambda% (zA ?_)); refine no_implicit_lambda% (zD rfl rfl rfl (fun hc => ?_) (fun hc => ?_)) <;> first | exact zG hc | rw [hc])) | (((with_reducible refine no_implicit_lambda% (zB ?_)); refine no_implicit_lambda% (zE rfl (fun hc => ?_) (fun hc => ?_)) <;> first | exact zG hc | skip)) | (((with_reducible refine no_implicit_lambda% (zC ?_)); refine no_implicit_lambda% (zF rfl rfl (fun hc => ?_) (fun hc => ?_)) <;> first | exact zG hc | rw [hc])) | (refine no_implicit_lambda% (ans ?_)) | (with_reducible first | exact zI | exact zJ))
 refine c_l3 (rpSt Q s r) (fun o d i => i ≤ Q.length ∧ o = prt Q s r i ∧ (d = true ↔ (r = [] ∨ npos (nk Q) s < i))) (fun _ _ i => Q.length - i) [] (((r.map corow).length : Int) == 0) 0 ⟨Nat.zero_le _, by rw [prt_lo (Nat.zero_le _)]; rfl, by
  constructor
  ·intro h
   left
   have h2 := eq_of_beq h
   rw [List.length_map] at h2
   exact List.eq_nil_of_length_eq_zero (by omega)
  ·rintro (h | h)
   ·subst h; rfl
   ·omega⟩ ((Conv.tokSlot (j := 7) (sz := 2) (rows := []) rfl (by simp)).trans ?_) ?_
 ·(refine no_implicit_lambda% (Conv.toT ?_ ?_ (LE0 rfl))); (focus ((unfold rpSt); (try dsimp only); exact wkl)); (focus ((unfold rpSt); (try dsimp only); exact wkh))
 ·rintro o d i ⟨i1, ho, hd⟩
  have hol := prt_len (s := s) (r := r) i1
  rw [← ho] at hol
  have r1 : ∀ row ∈ o.map nmrow, row.length = 2 := (nmOk o).len
  have b1 : (o.map nmrow).length ≤ 40 := by rw [List.length_map]; omega
  have r2 : ∀ row ∈ o.map nmrow ++ [[.v (.string s), .list ((copyR r).map corow) .free]], row.length = 2 := by
   have h := (nmOk (o ++ [(⟨s, copyR r⟩ : Nm)])).len
   rwa [List.map_append] at h
  have b2 : (o.map nmrow ++ [[AV.v (.string s), AV.list ((copyR r).map corow) .free]]).length ≤ 40 := by rw [List.length_append, List.length_map]; simp; omega
  refine c_turn (n' := 2) (fun _ h => h) (fun _ h => h) rfl ?_
  rcases hx : Q[i]? with _ | x
  ·have hi : Q.length ≤ i := List.getElem?_eq_none_iff.1 hx
   have hie : i = Q.length := by omega
   rcases d with _ | _
   ·have hn : r ≠ [] ∧ Q.length ≤ npos (nk Q) s := by
     have h1 : ¬ (r = [] ∨ npos (nk Q) s < i) := fun h => by have := hd.2 h; cases this
     exact ⟨fun h => h1 (.inl h), by have h2 : ¬ npos (nk Q) s < i := fun h => h1 (.inr h); omega⟩
    rw [if_pos hn, ← hie, ← ho] at hpe
    repeat' (first | (refine no_implicit_lambda% (zH ?_)) | (((with_reducible refine no_implicit_lambda% (zA ?_)); refine no_implicit_lambda% (zD rfl rfl rfl (fun hc => ?_) (fun hc => ?_)) <;> first | exact zG hc | rw [hc])) | (((with_reducible refine no_implicit_lambda% (zB ?_)); refine no_implicit_lambda% (zE rfl (fun hc => ?_) (fun hc => ?_)) <;> first | exact zG hc | skip)) | (((with_reducible refine no_implicit_lambda% (zC ?_)); refine no_implicit_lambda% (zF rfl rfl (fun hc => ?_) (fun hc => ?_)) <;> first | exact zG hc | rw [hc])) | (((with_reducible refine no_implicit_lambda% (is_ev ?_)); refine no_implicit_lambda% (v_split rfl rfl rfl rfl (fun hc => ?_) (fun hc => ?_)) <;> first | exact zG hc | rw [hc])) | (refine no_implicit_lambda% (ans ?_)) | (with_reducible first | exact zI | exact zJ) | (refine no_implicit_lambda% (cal [] (hcp) ?_ ?_)) | fail)
    rw [← hpe, List.map_append]
    exact e_ret_to (H' := []) (rest := _) (.freeSlot 6 rfl) rfl ⟨rfl, rfl⟩ (.refl _) (LE0 rfl)
   ·have hn : ¬ (r ≠ [] ∧ Q.length ≤ npos (nk Q) s) := by
     have h1 := hd.1 rfl
     rintro ⟨h2, h3⟩
     rcases h1 with h | h
     ·exact h2 h
     ·omega
    rw [if_neg hn, ← hie, ← ho] at hpe
    repeat' (first | (refine no_implicit_lambda% (zH ?_)) | (((with_reducible refine no_implicit_lambda% (zA ?_)); refine no_implicit_lambda% (zD rfl rfl rfl (fun hc => ?_) (fun hc => ?_)) <;> first | exact zG hc | rw [hc])) | (((with_reducible refine no_implicit_lambda% (zB ?_)); refine no_implicit_lambda% (zE rfl (fun hc => ?_) (fun hc => ?_)) <;> first | exact zG hc | skip)) | (((with_reducible refine no_implicit_lambda% (zC ?_)); refine no_implicit_lambda% (zF rfl rfl (fun hc => ?_) (fun hc => ?_)) <;> first | exact zG hc | rw [hc])) | (((with_reducible refine no_implicit_lambda% (is_ev ?_)); refine no_implicit_lambda% (v_split rfl rfl rfl rfl (fun hc => ?_) (fun hc => ?_)) <;> first | exact zG hc | rw [hc])) | (refine no_implicit_lambda% (ans ?_)) | (with_reducible first | exact zI | exact zJ) | (refine no_implicit_lambda% (cal [] (hcp) ?_ ?_)) | fail)
    rw [← hpe]
    exact e_ret_to (H' := []) (rest := _) (.freeSlot 6 rfl) rfl ⟨rfl, rfl⟩ (.refl _) (LE0 rfl)
  ·have hi : i < Q.length := (List.getElem?_eq_some_iff.1 hx).1
   have hix := nmx hx
   have hk := npos_lt (s := s) hQ.srt (nk_at hx)
   have hI : ∀ (o' : List Nm) (d' : Bool), o' = prt Q s r (i + 1) → (d' = true ↔ (r = [] ∨ npos (nk Q) s < i + 1)) → i + 1 ≤ Q.length ∧ o' = prt Q s r (i + 1) ∧ (d' = true ↔ (r = [] ∨ npos (nk Q) s < i + 1)) := fun _ _ h1 h2 => ⟨hi, h1, h2⟩
   rcases d with _ | _
   ·have h1 : ¬ (r = [] ∨ npos (nk Q) s < i) := fun h => by have := hd.2 h; cases this
    have hrn : r ≠ [] := fun h => h1 (.inl h)
    have hin : i ≤ npos (nk Q) s := by have h2 : ¬ npos (nk Q) s < i := fun h => h1 (.inr h); omega
    repeat' (first | (refine no_implicit_lambda% (zH ?_)) | (((with_reducible refine no_implicit_lambda% (zA ?_)); refine no_implicit_lambda% (zD rfl rfl rfl (fun hc => ?_) (fun hc => ?_)) <;> first | exact zG hc | rw [hc])) | (((with_reducible refine no_implicit_lambda% (zB ?_)); refine no_implicit_lambda% (zE rfl (fun hc => ?_) (fun hc => ?_)) <;> first | exact zG hc | skip)) | (((with_reducible refine no_implicit_lambda% (zC ?_)); refine no_implicit_lambda% (zF rfl rfl (fun hc => ?_) (fun hc => ?_)) <;> first | exact zG hc | rw [hc])) | (((with_reducible refine no_implicit_lambda% (is_ev ?_)); refine no_implicit_lambda% (v_split rfl rfl rfl rfl (fun hc => ?_) (fun hc => ?_)) <;> first | exact zG hc | rw [hc])) | (refine no_implicit_lambda% (ans ?_)) | (with_reducible first | exact zI | exact zJ) | (refine no_implicit_lambda% (cal [] (hcp) ?_ ?_)) | fail)
    ·have hg : (!sLt x.n s) = true := by assumption
     have hni : npos (nk Q) s = i := by
      have h2 : ¬ i < npos (nk Q) s := fun h => by rw [hk.1 h] at hg; cases hg
      omega
     have he : o.map nmrow ++ [[AV.v (.string s), AV.list ((copyR r).map corow) .free]] ++ [[AV.v (.string x.n), AV.list (x.r.map corow) .free]] = (o ++ [(⟨s, copyR r⟩ : Nm)] ++ [x]).map nmrow := by simp [nmrow]
     rw [he]
     (refine no_implicit_lambda% (k_loopLT (((o ++ [⟨s, copyR r⟩] ++ [x], true, i + 1) : List Nm × Bool × Nat)) 0 (List.range 2) (hI _ _ (by rw [ho]; exact prt_new hx hc hni hrn) ⟨fun _ => .inr (by omega), fun _ => rfl⟩) (by first | omega | (simp; done) | (simp; omega)) (LE0 rfl) (fun _ h => h) (fun _ h => h) ?_ ?_)); (focus ((try dsimp only); exact wkl)); (focus ((try dsimp only); exact wkh))
    ·have h2 := prt_eqs (r := r) hQ.srt hx hc
     have hni := h2.1
     rw [if_neg hrn] at h2
     (refine no_implicit_lambda% (k_loopLT (((o ++ [⟨s, copyR r⟩], true, i + 1) : List Nm × Bool × Nat)) 0 (List.range 2) (hI _ _ (by rw [ho]; exact h2.2) ⟨fun _ => .inr (by omega), fun _ => rfl⟩) (by first | omega | (simp; done) | (simp; omega)) (LE0 rfl) (fun _ h => h) (fun _ h => h) ?_ ?_)); (focus ((try dsimp only); exact wkl)); (focus ((try dsimp only); exact wkh))
    ·have hg : (!sLt x.n s) = false := by assumption
     have hlt : i < npos (nk Q) s := hk.2 (by simpa using hg)
     (refine no_implicit_lambda% (k_loopLT (((o ++ [x], false, i + 1) : List Nm × Bool × Nat)) 0 (List.range 2) (hI _ _ (by rw [ho]; exact prt_ne hx hc (.inr (by omega))) ⟨(fun h => by cases h), (fun h => h.elim (fun h => absurd h hrn) (fun h => absurd h (by omega)))⟩) (by first | omega | (simp; done) | (simp; omega)) (LE0 rfl) (fun _ h => h) (fun _ h => h) ?_ ?_)); (focus ((try dsimp only); exact wkl)); (focus ((try dsimp only); exact wkh))
    ·exfalso
     have hg : (!sLt x.n s) = false := by assumption
     have hlt : i < npos (nk Q) s := hk.2 (by simpa using hg)
     have h2 := (prt_eqs (r := r) hQ.srt hx hc).1
     omega
   ·have h1 := hd.1 rfl
    repeat' (first | (refine no_implicit_lambda% (zH ?_)) | (((with_reducible refine no_implicit_lambda% (zA ?_)); refine no_implicit_lambda% (zD rfl rfl rfl (fun hc => ?_) (fun hc => ?_)) <;> first | exact zG hc | rw [hc])) | (((with_reducible refine no_implicit_lambda% (zB ?_)); refine no_implicit_lambda% (zE rfl (fun hc => ?_) (fun hc => ?_)) <;> first | exact zG hc | skip)) | (((with_reducible refine no_implicit_lambda% (zC ?_)); refine no_implicit_lambda% (zF rfl rfl (fun hc => ?_) (fun hc => ?_)) <;> first | exact zG hc | rw [hc])) | (((with_reducible refine no_implicit_lambda% (is_ev ?_)); refine no_implicit_lambda% (v_split rfl rfl rfl rfl (fun hc => ?_) (fun hc => ?_)) <;> first | exact zG hc | rw [hc])) | (refine no_implicit_lambda% (ans ?_)) | (with_reducible first | exact zI | exact zJ))
    ·(refine no_implicit_lambda% (k_loopLT (((o ++ [x], true, i + 1) : List Nm × Bool × Nat)) 0 (List.range 2) (hI _ _ (by rw [ho]; exact prt_ne hx hc (h1.imp id (by omega))) ⟨fun _ => h1.imp id (by omega), fun _ => rfl⟩) (by first | omega | (simp; done) | (simp; omega)) (LE0 rfl) (fun _ h => h) (fun _ h => h) ?_ ?_)); (focus ((try dsimp only); exact wkl)); (focus ((try dsimp only); exact wkh))
    ·have h2 := prt_eqs (r := r) hQ.srt hx hc
     have hr0 : r = [] := h1.elim id (fun h => absurd h (by omega))
     rw [if_pos hr0, List.append_nil] at h2
     (refine no_implicit_lambda% (k_loopLT (((o, true, i + 1) : List Nm × Bool × Nat)) 0 (List.range 2) (hI _ _ (by rw [ho]; exact h2.2) ⟨fun _ => .inl hr0, fun _ => rfl⟩) (by first | omega | (simp; done) | (simp; omega)) (LE0 rfl) (fun _ h => h) (fun _ h => h) ?_ ?_)); (focus ((try dsimp only); exact wkl)); (focus ((try dsimp only); exact wkh))
end Go.Proofs.YtjepgbpcpcahgaaGreat
namespace Go.Proofs.YtjepgbpcpcahgaaGreat
open Go.Am
set_option maxRecDepth 100000
set_option maxHeartbeats 6400000 in
theorem rset_c (Q : List Nm) (s : ByteArray) (r : List Co) (hQ : TbOk Q) (hr : r.length < 70368744177664) (hz : RowSz r) : ACalls Tryz.prog 47 0 20000 [.list (Q.map nmrow) .free, .v (.string s), rowA r] [] (fun out H' => out = .ret (.tuple [.list ((setN Q s r).2.map nmrow) .free, .v (.int .i64 (setN Q s r).1)]) ∧ H' = []) := by
 have hl := hQ.len
 have hnm := rname_c s
 have hrt := (rright_c r hr).top0
 have hfd := rfind_c Q s hQ
 have hpt := rput_c Q s r hQ hr hz
 have hse := setN_eq (s := s) (r := r) hl
 have hg2 : (getN Q s).2 = hasN (nk Q) s := by unfold getN; split <;> simp_all
 rw [hg2] at hfd
 have hrl : (((r.map corow).length : Int) > 0) ↔ r ≠ [] := by rw [List.length_map]; cases r <;> simp
 have hnot : (!nmB s) = false → (!rowB r) = false → ¬ (nmB s = false ∨ rowB r = false) := fun h1 h2 h => by
  rcases h with h | h
  ·rw [h] at h1; cases h1
  ·rw [h] at h2; cases h2
 refine no_implicit_lambda% (acalls_of tok dok (f := 47) ⟨Tryz.func47, rfl, by kernel_rfl⟩ ?_); refine no_implicit_lambda% (c_start (fun _ h => h) ?_)
 repeat' (first | (refine no_implicit_lambda% (zH ?_)) | (((with_reducible refine no_implicit_lambda% (zA ?_)); refine no_implicit_lambda% (zD rfl rfl rfl (fun hc => ?_) (fun hc => ?_)) <;> first | exact zG hc | rw [hc])) | (((with_reducible refine no_implicit_lambda% (zB ?_)); refine no_implicit_lambda% (zE rfl (fun hc => ?_) (fun hc => ?_)) <;> first | exact zG hc | skip)) | (((with_reducible refine no_implicit_lambda% (zC ?_)); refine no_implicit_lambda% (zF rfl rfl (fun hc => ?_) (fun hc => ?_)) <;> first | exact zG hc | rw [hc])) | (((with_reducible refine no_implicit_lambda% (is_ev ?_)); refine no_implicit_lambda% (v_split rfl rfl rfl rfl (fun hc => ?_) (fun hc => ?_)) <;> first | exact zG hc | rw [hc])) | (refine no_implicit_lambda% (ans ?_)) | (with_reducible first | exact zI | exact zJ) | (refine no_implicit_lambda% (cal [] (hnm) ?_ ?_)) | (refine no_implicit_lambda% (cal [] (hrt) ?_ ?_)) | (refine no_implicit_lambda% (cal [] (hfd) ?_ ?_)) | (refine no_implicit_lambda% (cal [] (hpt) ?_ ?_)) | fail)
 ·rw [show setN Q s r = (1, Q) by rw [hse, if_pos (.inl (by simpa using hc))]]
  exact e_ret (H' := []) (rest := _) rfl ⟨rfl, rfl⟩ permT (LE0 rfl)
 ·rw [show setN Q s r = (1, Q) by rw [hse, if_pos (.inr (by simpa using hc))]]
  exact e_ret (H' := []) (rest := _) rfl ⟨rfl, rfl⟩ permT (LE0 rfl)
 ·have hno : ¬ (nmB s = false ∨ rowB r = false) := hnot (by assumption) (by assumption)
  have h3 : hasN (nk Q) s = false := by
   have h : (!hasN (nk Q) s) = true := by assumption
   simpa using h
  have h4 : r ≠ [] := by
   have h : decide (((r.map corow).length : Int) > 0) = true := by assumption
   exact hrl.1 (of_decide_eq_true h)
  have h5 := of_decide_eq_true hc
  rw [List.length_map] at h5
  rw [show setN Q s r = (13, Q) by rw [hse, if_neg hno, if_pos ⟨h3, h4, by omega⟩]]
  exact e_ret (H' := []) (rest := _) rfl ⟨rfl, rfl⟩ permT (LE0 rfl)
 ·have hno : ¬ (nmB s = false ∨ rowB r = false) := hnot (by assumption) (by assumption)
  have h3 : hasN (nk Q) s = false := by
   have h : (!hasN (nk Q) s) = true := by assumption
   simpa using h
  have h4 : r ≠ [] := by
   have h : decide (((r.map corow).length : Int) > 0) = true := by assumption
   exact hrl.1 (of_decide_eq_true h)
  have h5 := of_decide_eq_false hc
  rw [List.length_map] at h5
  rw [show setN Q s r = (0, putNm Q s r) by rw [hse, if_neg hno, if_neg (fun h => by have := h.2.2; omega)]]
  exact e_ret (H' := []) (rest := _) rfl ⟨rfl, rfl⟩ permT (LE0 rfl)
 ·have hno : ¬ (nmB s = false ∨ rowB r = false) := hnot (by assumption) (by assumption)
  have h3 : hasN (nk Q) s = false := by
   have h : (!hasN (nk Q) s) = true := by assumption
   simpa using h
  have h4 : ¬ r ≠ [] := by
   have h : decide (((r.map corow).length : Int) > 0) = false := by assumption
   exact fun h5 => of_decide_eq_false h (hrl.2 h5)
  rw [show setN Q s r = (0, putNm Q s r) by rw [hse, if_neg hno, if_neg (fun h => h4 h.2.1)]]
  exact e_ret (H' := []) (rest := _) rfl ⟨rfl, rfl⟩ permT (LE0 rfl)
 ·have hno : ¬ (nmB s = false ∨ rowB r = false) := hnot (by assumption) (by assumption)
  have h3 : hasN (nk Q) s = true := by simpa using hc
  rw [show setN Q s r = (0, putNm Q s r) by rw [hse, if_neg hno, if_neg (fun h => by rw [h3] at h; cases h.1)]]
  exact e_ret (H' := []) (rest := _) rfl ⟨rfl, rfl⟩ permT (LE0 rfl)
end Go.Proofs.YtjepgbpcpcahgaaGreat
namespace Go.Proofs.YtjepgbpcpcahgaaGreat
open Go.Am
set_option maxRecDepth 100000
theorem ins_sort {o : List Co} (h : Nsort o) {s : ByteArray} (hs : hasN o s = false) : Nsort (o.take (npos o s) ++ ⟨s, []⟩ :: o.drop (npos o s)) := by
 have hle := npos_le o s
 have hso := h
 have hlow : ∀ i c, o[i]? = some c → (i < npos o s ↔ sLt c.n s = true) := fun i c hi => npos_lt hso hi
 have hup : ∀ i c, o[i]? = some c → npos o s ≤ i → sLt s c.n = true := fun i c hi hp => by
  have h5 : ¬ sLt c.n s = true := fun h => by have := (hlow i c hi).2 h; omega
  have h6 : cmpS c.n s ≠ 0 := fun e => by
   rcases Nat.lt_or_ge (npos o s) i with hlt | hge
   ·
    obtain ⟨d, hd⟩ : ∃ d, o[npos o s]? = some d := ⟨_, List.getElem?_eq_getElem (by have := (List.getElem?_eq_some_iff.1 hi).1; omega)⟩
    have h7 : sLt d.n c.n = true := by
     have hp2 := List.pairwise_iff_getElem.1 hso (npos o s) i (List.getElem?_eq_some_iff.1 hd).1 (List.getElem?_eq_some_iff.1 hi).1 hlt
     rw [(List.getElem?_eq_some_iff.1 hd).2, (List.getElem?_eq_some_iff.1 hi).2] at hp2
     exact hp2
    have h8 : c.n.toList = s.toList := by
     have := eq_cb c.n.toList s.toList
     unfold cmpS at e
     rw [e] at this
     simpa using this
    have h9 : sLt d.n s = true := by unfold sLt at *; rw [← h8]; exact h7
    have := (hlow _ d hd).2 h9
    omega
   ·have : i = npos o s := by omega
    subst this
    unfold hasN at hs
    rw [hi] at hs
    simp [e] at hs
  rw [sLt_eq, decide_eq_true_eq] at h5
  rw [sLt_eq, decide_eq_true_eq]
  have ha := cb_anti c.n.toList s.toList
  have hb := cb_bd c.n.toList s.toList
  unfold cmpS at *
  omega
 unfold Nsort at *
 rw [List.pairwise_append, List.pairwise_cons]
 have hs2 := hso
 rw [← List.take_append_drop (npos o s) o, List.pairwise_append] at hs2
 refine ⟨hs2.1, ⟨fun b hb => ?_, hs2.2.1⟩, fun a ha b hb => ?_⟩
 ·obtain ⟨i, hi⟩ := List.getElem?_of_mem hb
  rw [List.getElem?_drop] at hi
  exact hup _ b hi (by omega)
 ·rcases List.mem_cons.1 hb with rfl | hb
  ·obtain ⟨i, hi⟩ := List.getElem?_of_mem ha
   rw [List.getElem?_take] at hi
   split at hi
   ·exact (hlow i a hi).1 (by assumption)
   ·cases hi
  ·exact hs2.2.2 a ha b hb
theorem copy_nil {r : List Co} (h : rowB r = true) (hr : r ≠ []) : copyR r ≠ [] := by
 unfold copyR
 rw [if_pos h]
 cases r
 ·exact absurd rfl hr
 ·simp
theorem setN_ok {Q : List Nm} {s : ByteArray} {r : List Co} (hQ : TbOk Q) (hz : RowSz r) : TbOk (setN Q s r).2 := by
 have hpl := npos_le (nk Q) s
 rw [nk_len] at hpl
 unfold setN
 by_cases h1 : nmB s = false ∨ rowB r = false
 ·rw [if_pos h1]; exact hQ
 rw [if_neg h1]
 have hnm : nmB s = true := by rcases h : nmB s with _ | _; exact absurd (.inl h) h1; rfl
 have hrw : rowB r = true := by rcases h : rowB r with _ | _; exact absurd (.inr h) h1; rfl
 by_cases h2 : r = []
 ·rw [if_pos h2]
  rcases hN : hasN (nk Q) s with _ | _
  ·exact hQ
  ·simp only [if_true]
   have hlt := hasN_len hN
   refine ⟨?_, by rw [List.length_eraseIdx_of_lt hlt]; have := hQ.len; omega, fun x hx => hQ.sz x (List.mem_of_mem_eraseIdx hx), fun x hx => hQ.nm x (List.mem_of_mem_eraseIdx hx)⟩
   have e : nk (Q.eraseIdx (npos (nk Q) s)) = (nk Q).eraseIdx (npos (nk Q) s) := by
    generalize npos (nk Q) s = p
    unfold nk
    rw [List.eraseIdx_eq_take_drop_succ, List.eraseIdx_eq_take_drop_succ, List.map_append, List.map_take, List.map_drop]
   rw [e]
   exact hQ.srt.sublist (List.eraseIdx_sublist _ _)
 rw [if_neg h2]
 have hnew : Fine (copyR r) ∧ RowSz (copyR r) := ⟨copy_fine r, copy_sz hz⟩
 rcases hN : hasN (nk Q) s with _ | _
 ·simp only [Bool.false_eq_true, if_false]
  by_cases h3 : 32 ≤ Q.length
  ·rw [if_pos h3]; exact hQ
  ·rw [if_neg h3]
   refine ⟨?_, by show (insAt _ _ _).length ≤ 32; rw [insAt_len _ hpl]; omega, fun x hx => ?_, fun x hx => ?_⟩
   ·show Nsort (nk (insAt _ _ _))
    have e : nk (insAt Q (npos (nk Q) s) ⟨s, copyR r⟩) = (nk Q).take (npos (nk Q) s) ++ ⟨s, []⟩ :: (nk Q).drop (npos (nk Q) s) := by
     generalize npos (nk Q) s = p
     unfold nk insAt
     rw [List.map_append, List.map_cons, List.map_take, List.map_drop]
    rw [e]
    exact ins_sort hQ.srt hN
   ·rcases List.mem_append.1 hx with hx | hx
    ·exact hQ.sz x (List.mem_of_mem_take hx)
    ·rcases List.mem_cons.1 hx with rfl | hx
     ·exact hnew
     ·exact hQ.sz x (List.mem_of_mem_drop hx)
   ·rcases List.mem_append.1 hx with hx | hx
    ·exact hQ.nm x (List.mem_of_mem_take hx)
    ·rcases List.mem_cons.1 hx with rfl | hx
     ·exact ⟨hnm, copy_nil hrw h2⟩
     ·exact hQ.nm x (List.mem_of_mem_drop hx)
 ·simp only [if_true]
  obtain ⟨x, hx, hxs⟩ := hasN_nm hN
  have hxe := bytes_eq hxs
  refine ⟨?_, by rw [List.length_set]; exact hQ.len, fun y hy => ?_, fun y hy => ?_⟩
  ·have e : nk (Q.set (npos (nk Q) s) ⟨s, copyR r⟩) = nk Q := by
    have h5 := nk_at hx
    obtain ⟨h6, h7⟩ := List.getElem?_eq_some_iff.1 h5
    generalize npos (nk Q) s = p at *
    have h8 : nk (Q.set p ⟨s, copyR r⟩) = (nk Q).set p ⟨s, []⟩ := by unfold nk; rw [List.map_set]
    rw [h8]
    conv => rhs; rw [← List.set_getElem_self h6]
    rw [h7, hxe]
   show Nsort (nk (Q.set _ _))
   rw [e]
   exact hQ.srt
  ·rcases List.mem_or_eq_of_mem_set hy with hy | rfl
   ·exact hQ.sz y hy
   ·exact hnew
  ·rcases List.mem_or_eq_of_mem_set hy with hy | rfl
   ·exact hQ.nm y hy
   ·exact ⟨hnm, copy_nil hrw h2⟩
theorem nil_ok : TbOk [] := ⟨List.Pairwise.nil, by decide, (fun x hx => by cases hx), (fun x hx => by cases hx)⟩
end Go.Proofs.YtjepgbpcpcahgaaGreat
namespace Go.Proofs.YtjepgbpcpcahgaaGreat
open Go.Am
set_option maxRecDepth 100000
def r6sSt (Q : List Nm) (i : Nat) : ASt := ⟨([.list (Q.map nmrow) .free, .list (Q.map nmrow) .free, .dead, .dead, .dead, .v (.int .i64 i)] ++ List.replicate 36 .dead), [], 0⟩
set_option maxHeartbeats 3200000 in
theorem r6same_f (Q : List Nm) (hl : Q.length ≤ 1000) (hz : NmSz Q) : ACalls Tryz.prog 110 0 0 [.list (Q.map nmrow) .free, .list (Q.map nmrow) .free] [] (fun out H' => out = .ret (.v (.bool true)) ∧ H' = []) := by
 refine ACalls.top0 (top := 400) ?_
 refine no_implicit_lambda% (acalls_of tok dok (f := 110) ⟨Tryz.func110, rfl, by kernel_rfl⟩ ?_); refine no_implicit_lambda% (c_start (fun _ h => h) ?_)
 repeat' (first | (refine no_implicit_lambda% (zH ?_)) | (((with_reducible refine no_implicit_lambda% (zA ?_)); refine no_implicit_lambda% (zD rfl rfl rfl (fun hc => ?_) (fun hc => ?_)) <;> first | exact zG hc | rw [hc])) | (((with_reducible refine no_implicit_lambda% (zB ?_)); refine no_implicit_lambda% (zE rfl (fun hc => ?_) (fun hc => ?_)) <;> first | exact zG hc | skip)) | (((with_reducible refine no_implicit_lambda% (zC ?_)); refine no_implicit_lambda% (zF rfl rfl (fun hc => ?_) (fun hc => ?_)) <;> first | exact zG hc | rw [hc])) | (refine no_implicit_lambda% (ans ?_)) | (with_reducible first | exact zI | exact zJ))
 all_goals (first | (exfalso; simp at hc; done) | skip)
 ·refine c_loop' (r6sSt Q) (fun i => i ≤ Q.length) (fun i => Q.length - i) (a := 0) (Nat.zero_le _) ?_ ?_
  ·(refine no_implicit_lambda% (Conv.toT ?_ ?_ (LE0 rfl))); (focus ((unfold r6sSt); (try dsimp only); exact wkl)); (focus ((unfold r6sSt); (try dsimp only); exact wkh))
  ·rintro i i1
   refine c_turn (n' := 0) (fun _ h => h) (fun _ h => h) rfl ?_
   rcases hx : Q[i]? with _ | x
   ·have hi : i = Q.length := by have := List.getElem?_eq_none_iff.1 hx; omega
    repeat' (first | (refine no_implicit_lambda% (zH ?_)) | (((with_reducible refine no_implicit_lambda% (zA ?_)); refine no_implicit_lambda% (zD rfl rfl rfl (fun hc => ?_) (fun hc => ?_)) <;> first | exact zG hc | rw [hc])) | (((with_reducible refine no_implicit_lambda% (zB ?_)); refine no_implicit_lambda% (zE rfl (fun hc => ?_) (fun hc => ?_)) <;> first | exact zG hc | skip)) | (((with_reducible refine no_implicit_lambda% (zC ?_)); refine no_implicit_lambda% (zF rfl rfl (fun hc => ?_) (fun hc => ?_)) <;> first | exact zG hc | rw [hc])) | (refine no_implicit_lambda% (ans ?_)) | (with_reducible first | exact zI | exact zJ))
    exact e_ret (H' := []) (rest := _) rfl ⟨rfl, rfl⟩ permT (LE0 rfl)
   ·have hi : i < Q.length := (List.getElem?_eq_some_iff.1 hx).1
    have hix := nmx hx
    have hxz := hz x (List.mem_of_getElem? hx)
    have hsm := refsame_r x.r (by have := hxz.1.len; omega) (fun c hc => by have := col_len (hxz.1.col c hc); omega) (fun c hc y hy => (hxz.2 c hc y hy).2)
    repeat' (first | (refine no_implicit_lambda% (zH ?_)) | (((with_reducible refine no_implicit_lambda% (zA ?_)); refine no_implicit_lambda% (zD rfl rfl rfl (fun hc => ?_) (fun hc => ?_)) <;> first | exact zG hc | rw [hc])) | (((with_reducible refine no_implicit_lambda% (zB ?_)); refine no_implicit_lambda% (zE rfl (fun hc => ?_) (fun hc => ?_)) <;> first | exact zG hc | skip)) | (((with_reducible refine no_implicit_lambda% (zC ?_)); refine no_implicit_lambda% (zF rfl rfl (fun hc => ?_) (fun hc => ?_)) <;> first | exact zG hc | rw [hc])) | (((with_reducible refine no_implicit_lambda% (is_ev ?_)); refine no_implicit_lambda% (v_split rfl rfl rfl rfl (fun hc => ?_) (fun hc => ?_)) <;> first | exact zG hc | rw [hc])) | (refine no_implicit_lambda% (ans ?_)) | (with_reducible first | exact zI | exact zJ) | (refine no_implicit_lambda% (cal [] (hsm) ?_ ?_)) | fail)
    ·exfalso; simp at hc
    ·(refine no_implicit_lambda% (k_loopT (i + 1) (by show i + 1 ≤ Q.length; exact hi) (by first | omega | (simp; done) | (simp; omega)) ?_ ?_)); (focus ((unfold r6sSt); (try dsimp only); exact wkl)); (focus ((unfold r6sSt); (try dsimp only); exact wkh))
theorem r6same_o (Q : List Nm) (cp k : Nat) (hl : Q.length ≤ 1000) (hz : NmSz Q) : ACalls Tryz.prog 110 1 1 [.arr 0 0 Q.length cp, .list (Q.map nmrow) .free] [(0, .seq (Q.map nmrow) k)] (fun out H' => out = .ret (.v (.bool true)) ∧ H' = [(0, .seq (Q.map nmrow) k)]) :=
 ((r6same_f Q hl hz).borrow (k := 1) (top := 1) (args := [.arr 0 0 Q.length cp, .list (Q.map nmrow) .free]) (H := [(0, .seq (Q.map nmrow) k)]) rfl (fun out H' hh => by obtain ⟨rfl, rfl⟩ := hh; rfl) (fun i a' ha => by
  match i with
  | 0 =>
   simp at ha; subst ha
   exact ⟨_, rfl, .seq (k := k) (by simp) (nmOk Q) (by simp)⟩
  | 1 =>
   simp at ha; subst ha
   exact ⟨_, rfl, .data rfl⟩
  | i + 2 => simp at ha)).mono fun out H' hh => by
   obtain ⟨⟨_, h1, _⟩, h2⟩ := hh
   exact ⟨h1, h2⟩
end Go.Proofs.YtjepgbpcpcahgaaGreat
namespace Go.Proofs.YtjepgbpcpcahgaaGreat
open Go.Am
set_option maxRecDepth 100000
def rEnd (Q : List Nm) (hi : ByteArray) : Nat := if hi.toList = [] then Q.length else npos (nk Q) hi
def rgQ (Q : List Nm) (lo hi : ByteArray) (i : Nat) : List Nm := (Q.take (min i (rEnd Q hi))).drop (npos (nk Q) lo)
def rrSt6 (Q : List Nm) (lo hi : ByteArray) (mo : Nat) (o : List Nm) (i : Nat) : ASt := ⟨([.list (Q.map nmrow) .free, .v (.string lo), .v (.string hi), .v (.int .i64 mo)] ++ List.replicate 6 .dead ++ [.list (o.map nmrow) (.tok 0), .v (.int .i64 i)] ++ List.replicate 47 .dead), [(0, .tok 2 o.length)], 1⟩
theorem rgQ_in {Q : List Nm} {lo hi : ByteArray} {i : Nat} {x : Nm} (hx : Q[i]? = some x) (h1 : npos (nk Q) lo ≤ i) (h2 : i < rEnd Q hi) : rgQ Q lo hi (i + 1) = rgQ Q lo hi i ++ [x] := by
 have hl := (List.getElem?_eq_some_iff.1 hx).1
 unfold rgQ
 rw [Nat.min_eq_left (by omega), Nat.min_eq_left (by omega), take_s hx, List.drop_append_of_le_length (by rw [List.length_take]; omega)]
theorem rgQ_lo {Q : List Nm} {lo hi : ByteArray} {i : Nat} (h1 : i < npos (nk Q) lo) : rgQ Q lo hi (i + 1) = rgQ Q lo hi i := by
 unfold rgQ
 rw [List.drop_eq_nil_of_le (by rw [List.length_take]; omega), List.drop_eq_nil_of_le (by rw [List.length_take]; omega)]
theorem rgQ_hi {Q : List Nm} {lo hi : ByteArray} {i : Nat} (h1 : rEnd Q hi ≤ i) : rgQ Q lo hi (i + 1) = rgQ Q lo hi i := by
 unfold rgQ
 rw [Nat.min_eq_right (by omega), Nat.min_eq_right (by omega)]
theorem rgQ_len {Q : List Nm} {lo hi : ByteArray} {i : Nat} (h : i ≤ Q.length) : (rgQ Q lo hi i).length = min i (rEnd Q hi) - npos (nk Q) lo := by
 unfold rgQ
 rw [List.length_drop, List.length_take]
 omega
set_option maxHeartbeats 6400000 in
theorem rrange_c (Q : List Nm) (lo hi : ByteArray) (most : Int) (hQ : TbOk Q) (hm : -9223372036854775808 ≤ most ∧ most ≤ 9223372036854775807) : ACalls Tryz.prog 109 0 20 [.list (Q.map nmrow) .free, .v (.string lo), .v (.string hi), .v (.int .i64 most)] [] (fun out H' => out = .ret (.tuple [.list ((rangeN Q lo hi most).1.map nmrow) .free, .v (.string (rangeN Q lo hi most).2)]) ∧ H' = []) := by
 have hl := hQ.len
 have hpl := npos_le (nk Q) lo
 have hph := npos_le (nk Q) hi
 rw [nk_len] at hpl hph
 have hen : rEnd Q hi ≤ Q.length := by unfold rEnd; split <;> omega
 obtain ⟨mo, hmo⟩ : ∃ mo : Nat, (max 0 (min most 16)).toNat = mo := ⟨_, rfl⟩
 have hR : rangeN Q lo hi most = if rEnd Q hi ≤ npos (nk Q) lo then ([], ⟨#[]⟩) else if rEnd Q hi - npos (nk Q) lo ≤ mo then ((Q.drop (npos (nk Q) lo)).take (rEnd Q hi - npos (nk Q) lo), ⟨#[]⟩) else ((Q.drop (npos (nk Q) lo)).take mo, match Q[npos (nk Q) lo + mo]? with | some x => x.n | none => ⟨#[]⟩) := by
  unfold rangeN rEnd
  rw [hmo]
  try rfl
 have hmi : (if 16 < (if 0 > most then (0 : Int) else most) then (16 : Int) else (if 0 > most then (0 : Int) else most)) = (mo : Int) := by
  rw [← hmo]
  omega
 refine no_implicit_lambda% (acalls_of tok dok (f := 109) ⟨Tryz.func109, rfl, by kernel_rfl⟩ ?_); refine no_implicit_lambda% (c_start (fun _ h => h) ?_)
 repeat' (first | (refine no_implicit_lambda% (zH ?_)) | (((with_reducible refine no_implicit_lambda% (zA ?_)); refine no_implicit_lambda% (zD rfl rfl rfl (fun hc => ?_) (fun hc => ?_)) <;> first | exact zG hc | rw [hc])) | (((with_reducible refine no_implicit_lambda% (zB ?_)); refine no_implicit_lambda% (zE rfl (fun hc => ?_) (fun hc => ?_)) <;> first | exact zG hc | skip)) | (((with_reducible refine no_implicit_lambda% (zC ?_)); refine no_implicit_lambda% (zF rfl rfl (fun hc => ?_) (fun hc => ?_)) <;> first | exact zG hc | rw [hc])) | (refine no_implicit_lambda% (ans ?_)) | (with_reducible first | exact zI | exact zJ))
 rw [hmi]
 generalize (if 0 > most then (0 : Int) else most) = w
 refine c_loop2 (rrSt6 Q lo hi mo) (fun o i => i ≤ Q.length ∧ o = rgQ Q lo hi i ∧ o.length ≤ mo) (fun _ i => Q.length - i) [] 0 ⟨Nat.zero_le _, by unfold rgQ; rw [Nat.zero_min]; simp, Nat.zero_le _⟩ ((Conv.tokSlot (j := 10) (sz := 2) (rows := []) rfl (by simp)).trans ?_) ?_
 ·(refine no_implicit_lambda% (Conv.toT ?_ ?_ (LE0 rfl))); (focus ((unfold rrSt6); (try dsimp only); exact wkl)); (focus ((unfold rrSt6); (try dsimp only); exact wkh))
 ·rintro o i ⟨i1, ho, h3⟩
  have hol := rgQ_len (lo := lo) (hi := hi) i1
  rw [← ho] at hol
  have r1 : ∀ row ∈ o.map nmrow, row.length = 2 := (nmOk o).len
  have b1 : (o.map nmrow).length ≤ 40 := by rw [List.length_map]; omega
  refine c_turn (n' := 1) (fun _ h => h) (fun _ h => h) rfl ?_
  have hdt : ∀ j, (Q.take j).drop (npos (nk Q) lo) = (Q.drop (npos (nk Q) lo)).take (j - npos (nk Q) lo) := fun j => List.drop_take ..
  have hemp : (⟨#[]⟩ : ByteArray).toList = [] := by simp [ByteArray.toList_eq]
  rcases hx : Q[i]? with _ | x
  ·have hil : Q.length ≤ i := List.getElem?_eq_none_iff.1 hx
   have hend : rangeN Q lo hi most = (o, ⟨#[]⟩) := by
    have ho2 : o = (Q.take (rEnd Q hi)).drop (npos (nk Q) lo) := by rw [ho]; unfold rgQ; rw [Nat.min_eq_right (by omega)]
    rw [hR]
    by_cases h5 : rEnd Q hi ≤ npos (nk Q) lo
    ·rw [if_pos h5, ho2, List.drop_eq_nil_of_le (by rw [List.length_take]; omega)]
    ·rw [if_neg h5, if_pos (by omega), ho2, hdt]
   repeat' (first | (refine no_implicit_lambda% (zH ?_)) | (((with_reducible refine no_implicit_lambda% (zA ?_)); refine no_implicit_lambda% (zD rfl rfl rfl (fun hc => ?_) (fun hc => ?_)) <;> first | exact zG hc | rw [hc])) | (((with_reducible refine no_implicit_lambda% (zB ?_)); refine no_implicit_lambda% (zE rfl (fun hc => ?_) (fun hc => ?_)) <;> first | exact zG hc | skip)) | (((with_reducible refine no_implicit_lambda% (zC ?_)); refine no_implicit_lambda% (zF rfl rfl (fun hc => ?_) (fun hc => ?_)) <;> first | exact zG hc | rw [hc])) | (refine no_implicit_lambda% (ans ?_)) | (with_reducible first | exact zI | exact zJ))
   rw [hend]
   exact e_ret_to (H' := []) (rest := _) (.freeSlot 8 rfl) rfl ⟨rfl, rfl⟩ (.refl _) (LE0 rfl)
  ·have hil : i < Q.length := (List.getElem?_eq_some_iff.1 hx).1
   have hix := nmx hx
   have hk := npos_lt (s := lo) hQ.srt (nk_at hx)
   have hk2 := npos_lt (s := hi) hQ.srt (nk_at hx)
   have hol1 : o.length ≤ i := by omega
   have hlo : sLt x.n lo = false → npos (nk Q) lo ≤ i := fun h => by
    have h2 : ¬ i < npos (nk Q) lo := fun h3 => by rw [hk.1 h3] at h; cases h
    omega
   have he1 : (!hi.toList == (⟨#[]⟩ : ByteArray).toList) = true → rEnd Q hi = npos (nk Q) hi := fun h => if_neg (fun h2 => by rw [h2, hemp] at h; revert h; decide)
   have he0 : (!hi.toList == (⟨#[]⟩ : ByteArray).toList) = false → rEnd Q hi = Q.length := fun h => if_pos (by
    have h2 : hi.toList = (⟨#[]⟩ : ByteArray).toList := by simpa using h
    rw [h2, hemp])
   have hret : npos (nk Q) lo ≤ i → i < rEnd Q hi → (((o.map nmrow).length : Int) == (mo : Int)) = true → rangeN Q lo hi most = (o, x.n) := fun h1 h2 h4 => by
    have h5 := eq_of_beq h4
    rw [List.length_map] at h5
    have ho2 : o = (Q.take i).drop (npos (nk Q) lo) := by rw [ho]; unfold rgQ; rw [Nat.min_eq_left (by omega)]
    have h6 : npos (nk Q) lo + mo = i := by omega
    rw [hR, if_neg (by omega), if_neg (by omega), h6, hx, ho2, hdt, show i - npos (nk Q) lo = mo by omega]
   have hin : npos (nk Q) lo ≤ i → i < rEnd Q hi → (((o.map nmrow).length : Int) == (mo : Int)) = false → i + 1 ≤ Q.length ∧ o ++ [x] = rgQ Q lo hi (i + 1) ∧ (o ++ [x]).length ≤ mo := fun h1 h2 h4 => by
    refine ⟨hil, by rw [rgQ_in hx h1 h2, ho], ?_⟩
    have h5 : ¬ ((o.map nmrow).length : Int) = (mo : Int) := by simpa using h4
    rw [List.length_map] at h5
    rw [List.length_append, List.length_singleton]
    omega
   repeat' (first | (refine no_implicit_lambda% (zH ?_)) | (((with_reducible refine no_implicit_lambda% (zA ?_)); refine no_implicit_lambda% (zD rfl rfl rfl (fun hc => ?_) (fun hc => ?_)) <;> first | exact zG hc | rw [hc])) | (((with_reducible refine no_implicit_lambda% (zB ?_)); refine no_implicit_lambda% (zE rfl (fun hc => ?_) (fun hc => ?_)) <;> first | exact zG hc | skip)) | (((with_reducible refine no_implicit_lambda% (zC ?_)); refine no_implicit_lambda% (zF rfl rfl (fun hc => ?_) (fun hc => ?_)) <;> first | exact zG hc | rw [hc])) | (((with_reducible refine no_implicit_lambda% (is_ev ?_)); refine no_implicit_lambda% (v_split rfl rfl rfl rfl (fun hc => ?_) (fun hc => ?_)) <;> first | exact zG hc | rw [hc])) | (refine no_implicit_lambda% (ans ?_)) | (with_reducible first | exact zI | exact zJ))
   ·(refine no_implicit_lambda% (k_loopLT (((o, i + 1) : List Nm × Nat)) 0 [0] (show i + 1 ≤ Q.length ∧ o = rgQ Q lo hi (i + 1) ∧ o.length ≤ mo from ⟨hil, by rw [rgQ_lo (hk.2 hc), ho], h3⟩) (by first | omega | (simp; done) | (simp; omega)) (LE0 rfl) (fun _ h => h) (fun _ h => h) ?_ ?_)); (focus ((try dsimp only); exact wkl)); (focus ((try dsimp only); exact wkh))
   ·have hg : (!sLt x.n hi) = true := hc
    have h6 : rEnd Q hi ≤ i := by
     rw [he1 (by assumption)]
     have h7 : ¬ i < npos (nk Q) hi := fun h => by rw [hk2.1 h] at hg; cases hg
     omega
    (refine no_implicit_lambda% (k_loopLT (((o, i + 1) : List Nm × Nat)) 0 [0] (show i + 1 ≤ Q.length ∧ o = rgQ Q lo hi (i + 1) ∧ o.length ≤ mo from ⟨hil, by rw [rgQ_hi h6, ho], h3⟩) (by first | omega | (simp; done) | (simp; omega)) (LE0 rfl) (fun _ h => h) (fun _ h => h) ?_ ?_)); (focus ((try dsimp only); exact wkl)); (focus ((try dsimp only); exact wkh))
   ·have hg : (!sLt x.n hi) = false := by assumption
    have h6 : i < rEnd Q hi := by rw [he1 (by assumption)]; exact hk2.2 (by simpa using hg)
    rw [hret (hlo (by assumption)) h6 hc]
    exact e_ret_to (H' := []) (rest := _) (.freeSlot 8 rfl) rfl ⟨rfl, rfl⟩ (.refl _) (LE0 rfl)
   ·have hg : (!sLt x.n hi) = false := by assumption
    have h6 : i < rEnd Q hi := by rw [he1 (by assumption)]; exact hk2.2 (by simpa using hg)
    (refine no_implicit_lambda% (k_loopLT (((o ++ [x], i + 1) : List Nm × Nat)) 0 [0] (hin (hlo (by assumption)) h6 hc) (by first | omega | (simp; done) | (simp; omega)) (LE0 rfl) (fun _ h => h) (fun _ h => h) ?_ ?_)); (focus ((try dsimp only); exact wkl)); (focus ((try dsimp only); exact wkh))
   ·have h6 : i < rEnd Q hi := by rw [he0 (by assumption)]; exact hil
    rw [hret (hlo (by assumption)) h6 hc]
    exact e_ret_to (H' := []) (rest := _) (.freeSlot 8 rfl) rfl ⟨rfl, rfl⟩ (.refl _) (LE0 rfl)
   ·have h6 : i < rEnd Q hi := by rw [he0 (by assumption)]; exact hil
    (refine no_implicit_lambda% (k_loopLT (((o ++ [x], i + 1) : List Nm × Nat)) 0 [0] (hin (hlo (by assumption)) h6 hc) (by first | omega | (simp; done) | (simp; omega)) (LE0 rfl) (fun _ h => h) (fun _ h => h) ?_ ?_)); (focus ((try dsimp only); exact wkl)); (focus ((try dsimp only); exact wkh))
end Go.Proofs.YtjepgbpcpcahgaaGreat
namespace Go.Proofs.YtjepgbpcpcahgaaGreat
open Go.Am
set_option maxRecDepth 100000
def neverS : ByteArray := ⟨#[97, 32, 110, 97, 109, 101, 32, 116, 104, 97, 116, 32, 99, 97, 110, 32, 110, 101, 118, 101, 114, 32, 98, 101, 32, 116, 104, 101, 114, 101]⟩
theorem getN_at {Q : List Nm} (hs : Nsort (nk Q)) {i : Nat} {x : Nm} (hx : Q[i]? = some x) : getN Q x.n = (x.r, true) := by
 have h := npos_at hs (nk_at hx)
 unfold getN
 rw [show hasN (nk Q) x.n = true from h.2, if_pos rfl, show npos (nk Q) x.n = i from h.1, hx]
def t6St (Q : List Nm) (cp i : Nat) : ASt := ⟨([.ptr 0 0, .list (Q.map nmrow) .free] ++ List.replicate 13 .dead ++ [.v (.int .i64 i)] ++ List.replicate 71 .dead), tbl Q cp, 30⟩
theorem getN_never {Q : List Nm} (hQ : TbOk Q) : getN Q neverS = ([], false) := by
 have h : hasN (nk Q) neverS = false := hasN_not fun c hc => by
  unfold nk at hc
  obtain ⟨x, hx, rfl⟩ := List.mem_map.1 hc
  intro he
  have h2 := eq_cb x.n.toList neverS.toList
  have h3 : (x.n.toList == neverS.toList) = true := by
   unfold cmpS at he
   rw [h2]
   exact decide_eq_true he
  have h4 := bytes_eq (eq_of_beq h3)
  have h5 := (hQ.nm x hx).1
  rw [h4] at h5
  exact absurd h5 (by decide)
 unfold getN
 rw [h, if_neg (by simp)]
set_option maxHeartbeats 6400000 in
theorem tells6_c (Q : List Nm) (lo hi : ByteArray) (most : Int) (cp : Nat) (hQ : TbOk Q) (hc1 : Q.length ≤ cp) (hc2 : cp ≤ maxLen) (hm : -9223372036854775808 ≤ most ∧ most ≤ 9223372036854775807) : ACalls Tryz.prog 55 2 2000 [.ptr 0 0, .list (Q.map nmrow) .free, .v (.string lo), .v (.string hi), .v (.int .i64 most)] (tbl Q cp) (fun out H' => out = .ret (.v (.bool true)) ∧ H' = tbl Q cp) := by
 have hl := hQ.len
 have h1 := trange_c Q lo hi most cp hQ hc1 hc2 hm
 have h2 := rrange_c Q lo hi most hQ hm
 have h3 := tlen_c Q cp
 obtain ⟨W, hW⟩ : ∃ W, W = (rangeN Q lo hi most).1 := ⟨_, rfl⟩
 obtain ⟨nx, hnx⟩ : ∃ nx, nx = (rangeN Q lo hi most).2 := ⟨_, rfl⟩
 have hWl : W.length ≤ 32 ∧ NmSz W := by
  rw [hW]
  have hsub : ∀ a b, ((Q.drop a).take b).length ≤ 32 ∧ NmSz ((Q.drop a).take b) := fun a b => ⟨by rw [List.length_take, List.length_drop]; omega, fun x hx => hQ.sz x (List.mem_of_mem_drop (List.mem_of_mem_take hx))⟩
  unfold rangeN
  dsimp only
  repeat' split
  all_goals first | exact hsub _ _ | exact ⟨Nat.zero_le _, fun x hx => by cases hx⟩
 rw [← hW, ← hnx] at h1 h2
 refine no_implicit_lambda% (acalls_of tok dok (f := 55) ⟨Tryz.func55, rfl, by kernel_rfl⟩ ?_); refine no_implicit_lambda% (c_start (fun _ h => h) ?_)
 repeat' (first | (refine no_implicit_lambda% (zH ?_)) | (((with_reducible refine no_implicit_lambda% (zA ?_)); refine no_implicit_lambda% (zD rfl rfl rfl (fun hc => ?_) (fun hc => ?_)) <;> first | exact zG hc | rw [hc])) | (((with_reducible refine no_implicit_lambda% (zB ?_)); refine no_implicit_lambda% (zE rfl (fun hc => ?_) (fun hc => ?_)) <;> first | exact zG hc | skip)) | (((with_reducible refine no_implicit_lambda% (zC ?_)); refine no_implicit_lambda% (zF rfl rfl (fun hc => ?_) (fun hc => ?_)) <;> first | exact zG hc | rw [hc])) | (refine no_implicit_lambda% (ans ?_)) | (with_reducible first | exact zI | exact zJ) | (refine no_implicit_lambda% (calw [0, 1] (h1) ?_ ?_)) | fail)
 ·intro xx H' hh
  obtain ⟨cp2, c1, c2, h', rfl⟩ := hh
  cases h'
  have h4 := r6same_o W cp2 ((cp2 - W.length) * 2) (by omega) hWl.2
  first | (refine no_implicit_lambda% (akc ?_)) | (refine no_implicit_lambda% (aec ?_))
  repeat' (first | (refine no_implicit_lambda% (zH ?_)) | (((with_reducible refine no_implicit_lambda% (zA ?_)); refine no_implicit_lambda% (zD rfl rfl rfl (fun hc => ?_) (fun hc => ?_)) <;> first | exact zG hc | rw [hc])) | (((with_reducible refine no_implicit_lambda% (zB ?_)); refine no_implicit_lambda% (zE rfl (fun hc => ?_) (fun hc => ?_)) <;> first | exact zG hc | skip)) | (((with_reducible refine no_implicit_lambda% (zC ?_)); refine no_implicit_lambda% (zF rfl rfl (fun hc => ?_) (fun hc => ?_)) <;> first | exact zG hc | rw [hc])) | (((with_reducible refine no_implicit_lambda% (is_ev ?_)); refine no_implicit_lambda% (v_split rfl rfl rfl rfl (fun hc => ?_) (fun hc => ?_)) <;> first | exact zG hc | rw [hc])) | (refine no_implicit_lambda% (ans ?_)) | (with_reducible first | exact zI | exact zJ) | (refine no_implicit_lambda% (cal [] (h2) ?_ ?_)) | (refine no_implicit_lambda% (cal [0, 1] (h3) ?_ ?_)) | (refine no_implicit_lambda% (cal [2] (h4) ?_ ?_)) | fail)
  ·exfalso; simp at hc
  ·refine c_loop' (t6St Q cp) (fun i => i ≤ Q.length) (fun i => Q.length - i) (a := 0) (Nat.zero_le _) ?_ ?_
   ·(refine no_implicit_lambda% (Conv.toT ?_ ?_ (LE0 rfl))); (focus ((unfold t6St); (try dsimp only); exact wkl)); (focus ((unfold t6St); (try dsimp only); exact wkh))
   ·rintro i i1
    refine c_turn (n' := 30) (fun _ h => h) (fun _ h => h) rfl ?_
    rcases hx : Q[i]? with _ | x
    ·have hil : Q.length ≤ i := List.getElem?_eq_none_iff.1 hx
     have hg := tget_c Q neverS cp hQ
     rw [getN_never hQ] at hg
     repeat' (first | (refine no_implicit_lambda% (zH ?_)) | (((with_reducible refine no_implicit_lambda% (zA ?_)); refine no_implicit_lambda% (zD rfl rfl rfl (fun hc => ?_) (fun hc => ?_)) <;> first | exact zG hc | rw [hc])) | (((with_reducible refine no_implicit_lambda% (zB ?_)); refine no_implicit_lambda% (zE rfl (fun hc => ?_) (fun hc => ?_)) <;> first | exact zG hc | skip)) | (((with_reducible refine no_implicit_lambda% (zC ?_)); refine no_implicit_lambda% (zF rfl rfl (fun hc => ?_) (fun hc => ?_)) <;> first | exact zG hc | rw [hc])) | (((with_reducible refine no_implicit_lambda% (is_ev ?_)); refine no_implicit_lambda% (v_split rfl rfl rfl rfl (fun hc => ?_) (fun hc => ?_)) <;> first | exact zG hc | rw [hc])) | (refine no_implicit_lambda% (ans ?_)) | (with_reducible first | exact zI | exact zJ) | (refine no_implicit_lambda% (cal [0, 1] (hg) ?_ ?_)) | fail)
     exact e_ret (H' := tbl Q cp) (rest := _) rfl ⟨rfl, rfl⟩ permT (LE0 rfl)
    ·have hil : i < Q.length := (List.getElem?_eq_some_iff.1 hx).1
     have hix := nmx hx
     have hxz := hQ.sz x (List.mem_of_getElem? hx)
     have hg := tget_c Q x.n cp hQ
     rw [getN_at hQ.srt hx] at hg
     have hsm := refsame_r x.r (by have := hxz.1.len; omega) (fun c hc => by have := col_len (hxz.1.col c hc); omega) (fun c hc y hy => (hxz.2 c hc y hy).2)
     repeat' (first | (refine no_implicit_lambda% (zH ?_)) | (((with_reducible refine no_implicit_lambda% (zA ?_)); refine no_implicit_lambda% (zD rfl rfl rfl (fun hc => ?_) (fun hc => ?_)) <;> first | exact zG hc | rw [hc])) | (((with_reducible refine no_implicit_lambda% (zB ?_)); refine no_implicit_lambda% (zE rfl (fun hc => ?_) (fun hc => ?_)) <;> first | exact zG hc | skip)) | (((with_reducible refine no_implicit_lambda% (zC ?_)); refine no_implicit_lambda% (zF rfl rfl (fun hc => ?_) (fun hc => ?_)) <;> first | exact zG hc | rw [hc])) | (((with_reducible refine no_implicit_lambda% (is_ev ?_)); refine no_implicit_lambda% (v_split rfl rfl rfl rfl (fun hc => ?_) (fun hc => ?_)) <;> first | exact zG hc | rw [hc])) | (refine no_implicit_lambda% (ans ?_)) | (with_reducible first | exact zI | exact zJ) | (refine no_implicit_lambda% (cal [0, 1] (hg) ?_ ?_)) | (refine no_implicit_lambda% (cal [] (hsm) ?_ ?_)) | fail)
     (refine no_implicit_lambda% (k_loopLT (i + 1) 2 (List.range 30) (by show i + 1 ≤ Q.length; exact hil) (by first | omega | (simp; done) | (simp; omega)) (LE0 rfl) (fun _ h => h) (fun _ h => h) ?_ ?_)); (focus ((try dsimp only); exact wkl)); (focus ((try dsimp only); exact wkh))
 ·intro xx H' hh
  obtain ⟨_, _, _, h', _⟩ := hh
  cases h'
end Go.Proofs.YtjepgbpcpcahgaaGreat
namespace Go.Proofs.YtjepgbpcpcahgaaGreat
open Go.Am
set_option maxRecDepth 100000
def rowL : List ByteArray := [bsS [97], bsS [98], bsS [109], bsS [110], bsS [122], bsS [109, 97], bsS [122, 122], bsS [48]]
theorem head_e (s : ByteArray) (n : Nat) (hn : n < 1000) : ∃ t : ByteArray, (s.size ≤ n → t = s) ∧ ACalls Tryz.prog 102 0 0 [.v (.string s), .v (.int .i64 n)] [] (fun out H' => out = .ret (.v (.string t)) ∧ H' = []) := by
 by_cases h : n < s.size
 ·refine ⟨s.extract 0 n, fun h2 => absurd h2 (by omega), ?_⟩
  refine no_implicit_lambda% (acalls_of tok dok (f := 102) ⟨Tryz.func102, rfl, by kernel_rfl⟩ ?_); refine no_implicit_lambda% (c_start (fun _ h => h) ?_)
  repeat' (first | (refine no_implicit_lambda% (zH ?_)) | (((with_reducible refine no_implicit_lambda% (zA ?_)); refine no_implicit_lambda% (zD rfl rfl rfl (fun hc => ?_) (fun hc => ?_)) <;> first | exact zG hc | rw [hc])) | (((with_reducible refine no_implicit_lambda% (zB ?_)); refine no_implicit_lambda% (zE rfl (fun hc => ?_) (fun hc => ?_)) <;> first | exact zG hc | skip)) | (((with_reducible refine no_implicit_lambda% (zC ?_)); refine no_implicit_lambda% (zF rfl rfl (fun hc => ?_) (fun hc => ?_)) <;> first | exact zG hc | rw [hc])) | (refine no_implicit_lambda% (ans ?_)) | (with_reducible first | exact zI | exact zJ))
  have h5 := of_decide_eq_true hc
  ((with_reducible refine no_implicit_lambda% (zC ?_)); first | (refine no_implicit_lambda% (a_qS rfl (fun _ h => h) ?_ ?_)) | (refine no_implicit_lambda% (a_qS rfl (qIx (fun _ h => h)) ?_ ?_)) | (refine no_implicit_lambda% (a_qS rfl (qAnd5 (fun _ h => h)) ?_ ?_)) | (refine no_implicit_lambda% (a_qS rfl (qStr (fun _ h => h)) ?_ ?_)) | (refine no_implicit_lambda% (a_qS rfl (qAnd4 (fun _ h => h)) ?_ ?_)) | (refine no_implicit_lambda% (a_qS rfl (qAnd2 (fun _ h => h)) ?_ ?_))); focus ((repeat' (refine no_implicit_lambda% (And.intro ?_ ?_))) <;> (first | exact trivial | exact Int.natCast_nonneg _ | omega | (simp; done) | (simp; omega) | ((show (0 : Int) ≤ _); omega)))
  repeat' (first | (refine no_implicit_lambda% (zH ?_)) | (((with_reducible refine no_implicit_lambda% (zA ?_)); refine no_implicit_lambda% (zD rfl rfl rfl (fun hc => ?_) (fun hc => ?_)) <;> first | exact zG hc | rw [hc])) | (((with_reducible refine no_implicit_lambda% (zB ?_)); refine no_implicit_lambda% (zE rfl (fun hc => ?_) (fun hc => ?_)) <;> first | exact zG hc | skip)) | (((with_reducible refine no_implicit_lambda% (zC ?_)); refine no_implicit_lambda% (zF rfl rfl (fun hc => ?_) (fun hc => ?_)) <;> first | exact zG hc | rw [hc])) | (refine no_implicit_lambda% (ans ?_)) | (with_reducible first | exact zI | exact zJ))
  exact e_ret (H' := []) (rest := _) rfl ⟨rfl, rfl⟩ (.refl _) (LE0 rfl)
 ·refine ⟨s, fun _ => rfl, ?_⟩
  refine no_implicit_lambda% (acalls_of tok dok (f := 102) ⟨Tryz.func102, rfl, by kernel_rfl⟩ ?_); refine no_implicit_lambda% (c_start (fun _ h => h) ?_)
  repeat' (first | (refine no_implicit_lambda% (zH ?_)) | (((with_reducible refine no_implicit_lambda% (zA ?_)); refine no_implicit_lambda% (zD rfl rfl rfl (fun hc => ?_) (fun hc => ?_)) <;> first | exact zG hc | rw [hc])) | (((with_reducible refine no_implicit_lambda% (zB ?_)); refine no_implicit_lambda% (zE rfl (fun hc => ?_) (fun hc => ?_)) <;> first | exact zG hc | skip)) | (((with_reducible refine no_implicit_lambda% (zC ?_)); refine no_implicit_lambda% (zF rfl rfl (fun hc => ?_) (fun hc => ?_)) <;> first | exact zG hc | rw [hc])) | (refine no_implicit_lambda% (ans ?_)) | (with_reducible first | exact zI | exact zJ))
  exact e_ret (H' := []) (rest := _) rfl ⟨rfl, rfl⟩ (.refl _) (LE0 rfl)
theorem pick_e (l : List ByteArray) (n : Int) (hl : 0 < l.length ∧ l.length < 1000) (h1 : -9223372036854775808 ≤ n) (h2 : n ≤ 9223372036854775807) : ∃ t ∈ l, l[((wthn n 0 1048576).tmod l.length).toNat]? = some t ∧ ACalls Tryz.prog 80 0 0 [.list (l.map fun s => [.v (.string s)]) .free, .v (.int .i64 n)] [] (fun out H' => out = .ret (.v (.string t)) ∧ H' = []) := by
 have hw := wthn_c n 0 1048576 h1 h2 (by decide) (by decide) (by decide) (by decide)
 have hb := wthn_bd n 0 1048576 (by decide)
 generalize wthn n 0 1048576 = w at *
 have hj : 0 ≤ w.tmod (l.length : Int) ∧ w.tmod (l.length : Int) < l.length := ⟨Int.tmod_nonneg _ hb.1, Int.tmod_lt_of_pos _ (by omega)⟩
 obtain ⟨t, ht⟩ : ∃ t, l[(w.tmod (l.length : Int)).toNat]? = some t := ⟨_, List.getElem?_eq_getElem (by omega)⟩
 refine ⟨t, List.mem_of_getElem? ht, ht, ?_⟩
 refine no_implicit_lambda% (acalls_of tok dok (f := 80) ⟨Tryz.func80, rfl, by kernel_rfl⟩ ?_); refine no_implicit_lambda% (c_start (fun _ h => h) ?_)
 repeat' (first | (refine no_implicit_lambda% (zH ?_)) | (((with_reducible refine no_implicit_lambda% (zA ?_)); refine no_implicit_lambda% (zD rfl rfl rfl (fun hc => ?_) (fun hc => ?_)) <;> first | exact zG hc | rw [hc])) | (((with_reducible refine no_implicit_lambda% (zB ?_)); refine no_implicit_lambda% (zE rfl (fun hc => ?_) (fun hc => ?_)) <;> first | exact zG hc | skip)) | (((with_reducible refine no_implicit_lambda% (zC ?_)); refine no_implicit_lambda% (zF rfl rfl (fun hc => ?_) (fun hc => ?_)) <;> first | exact zG hc | rw [hc])) | (refine no_implicit_lambda% (ans ?_)) | (with_reducible first | exact zI | exact zJ) | (refine no_implicit_lambda% (cal [] (hw) ?_ ?_)) | fail)
 (with_reducible refine no_implicit_lambda% (zC ?_)); first | (refine no_implicit_lambda% (a_qS rfl (fun _ h => h) ?_ ?_)) | (refine no_implicit_lambda% (a_qS rfl (qIx (fun _ h => h)) ?_ ?_)) | (refine no_implicit_lambda% (a_qS rfl (qAnd5 (fun _ h => h)) ?_ ?_)) | (refine no_implicit_lambda% (a_qS rfl (qStr (fun _ h => h)) ?_ ?_)) | (refine no_implicit_lambda% (a_qS rfl (qAnd4 (fun _ h => h)) ?_ ?_)) | (refine no_implicit_lambda% (a_qS rfl (qAnd2 (fun _ h => h)) ?_ ?_))
 ·rw [List.length_map]; omega
 have el : (l.map fun s => [AV.v (.string s)]).length = l.length := List.length_map ..
 rw [← el] at ht hj
 generalize w.tmod ((l.map fun s => [AV.v (.string s)]).length : Int) = j at *
 have hix : 0 ≤ j ∧ (l.map fun s => [AV.v (.string s)])[j.toNat]? = some [.v (.string t)] ∧ ([AV.v (.string t)] : List AV).length = 1 := ⟨hj.1, by rw [List.getElem?_map, ht]; rfl, rfl⟩
 repeat' (first | (refine no_implicit_lambda% (zH ?_)) | (((with_reducible refine no_implicit_lambda% (zA ?_)); refine no_implicit_lambda% (zD rfl rfl rfl (fun hc => ?_) (fun hc => ?_)) <;> first | exact zG hc | rw [hc])) | (((with_reducible refine no_implicit_lambda% (zB ?_)); refine no_implicit_lambda% (zE rfl (fun hc => ?_) (fun hc => ?_)) <;> first | exact zG hc | skip)) | (((with_reducible refine no_implicit_lambda% (zC ?_)); refine no_implicit_lambda% (zF rfl rfl (fun hc => ?_) (fun hc => ?_)) <;> first | exact zG hc | rw [hc])) | (refine no_implicit_lambda% (ans ?_)) | (with_reducible first | exact zI | exact zJ))
 exact e_ret (H' := []) (rest := _) rfl ⟨rfl, rfl⟩ (.refl _) (LE0 rfl)
theorem keeprow_e (n : Int) (h1 : -9223372036854775808 ≤ n) (h2 : n ≤ 9223372036854775807) : ∃ t ∈ rowL, rowL[((wthn n 0 1048576).tmod 8).toNat]? = some t ∧ ACalls Tryz.prog 103 0 5 [.v (.int .i64 n)] [] (fun out H' => out = .ret (.v (.string t)) ∧ H' = []) := by
 obtain ⟨t, ht, hx, hp⟩ := pick_e rowL n (by decide) h1 h2
 refine ⟨t, ht, hx, ?_⟩
 refine no_implicit_lambda% (acalls_of tok dok (f := 103) ⟨Tryz.func103, rfl, by kernel_rfl⟩ ?_); refine no_implicit_lambda% (c_start (fun _ h => h) ?_)
 repeat' (first | (refine no_implicit_lambda% (zH ?_)) | (((with_reducible refine no_implicit_lambda% (zA ?_)); refine no_implicit_lambda% (zD rfl rfl rfl (fun hc => ?_) (fun hc => ?_)) <;> first | exact zG hc | rw [hc])) | (((with_reducible refine no_implicit_lambda% (zB ?_)); refine no_implicit_lambda% (zE rfl (fun hc => ?_) (fun hc => ?_)) <;> first | exact zG hc | skip)) | (((with_reducible refine no_implicit_lambda% (zC ?_)); refine no_implicit_lambda% (zF rfl rfl (fun hc => ?_) (fun hc => ?_)) <;> first | exact zG hc | rw [hc])) | (refine no_implicit_lambda% (ans ?_)) | (with_reducible first | exact zI | exact zJ))
 (refine no_implicit_lambda% (calw [] (hp) ?_ ?_))
 ·refine no_implicit_lambda% (ret1 ?_); first | (refine no_implicit_lambda% (akc ?_)) | (refine no_implicit_lambda% (aec ?_))
  repeat' (first | (refine no_implicit_lambda% (zH ?_)) | (((with_reducible refine no_implicit_lambda% (zA ?_)); refine no_implicit_lambda% (zD rfl rfl rfl (fun hc => ?_) (fun hc => ?_)) <;> first | exact zG hc | rw [hc])) | (((with_reducible refine no_implicit_lambda% (zB ?_)); refine no_implicit_lambda% (zE rfl (fun hc => ?_) (fun hc => ?_)) <;> first | exact zG hc | skip)) | (((with_reducible refine no_implicit_lambda% (zC ?_)); refine no_implicit_lambda% (zF rfl rfl (fun hc => ?_) (fun hc => ?_)) <;> first | exact zG hc | rw [hc])) | (refine no_implicit_lambda% (ans ?_)) | (with_reducible first | exact zI | exact zJ))
  exact e_ret (H' := []) (rest := _) rfl ⟨rfl, rfl⟩ permT (LE0 rfl)
 ·first | (exact zI) | (exact zJ)
structure Nk where
 k : Int
 r : Int
 many : Bool
 nm : ByteArray
 l : List Cw
def nkrow (a : Nk) : List AV := [.v (.int .i64 a.k), .v (.int .i64 a.r), .v (.bool a.many), .v (.string a.nm), .list (a.l.map cwrow) .free]
structure NkOk (a : Nk) : Prop where
 k : -9223372036854775808 ≤ a.k ∧ a.k ≤ 9223372036854775807
 r : -9223372036854775808 ≤ a.r ∧ a.r ≤ 9223372036854775807
 l : ∀ x ∈ a.l, CwOk x
 n : a.l.length ≤ 9223372036854775807
theorem q_convert_rune {P : Program} {L : Heap} {ev : Operand → AV} {raw : Operand → AV} {o : Oper} {s t : TypeId} {x : Operand} {k : IntKind} {n : Int} (ho : o.op = .convert s t x) (hs : (P.underlying s).isSome = true) (ht : P.underlying t = some .string) (hx : ev x = .v (.int k n)) : QOk P L ev raw o (.v (.string (Utf8.encode n))) :=
 .still fun G w ρ hh => by
  have h1 := hh.ev x (by rw [ho]; simp [Op.operands])
  rw [hx] at h1
  obtain ⟨d, hd⟩ := Option.isSome_iff_exists.1 hs
  refine ⟨.string (Utf8.encode n), ?_, .data _ _ (.v _)⟩
  simp only [execOp, ho, h1.v_inv]
  simp [convert, run_underlying hd, run_underlying ht, Conv.intToString]
theorem encode_size (n : Int) : (Utf8.encode n).size ≤ 4 := by
 unfold Utf8.encode
 dsimp only
 generalize (if Utf8.valid n = true then n.toNat else Utf8.runeError) = c
 split
 ·exact (by decide : (1 : Nat) ≤ 4)
 ·split
  ·exact (by decide : (2 : Nat) ≤ 4)
  ·split
   ·exact (by decide : (3 : Nat) ≤ 4)
   ·exact (by decide : (4 : Nat) ≤ 4)
def kName (r : Int) : ByteArray := ⟨#[107]⟩ ++ Utf8.encode (IntKind.i32.wrap (IntKind.i64.wrap (97 + (IntKind.i64.wrap (r.tmod 45 + 45)).tmod 45)))
def NameIs (a : Nk) (t : ByteArray) : Prop :=
 (a.r.tmod 11 = 10 → a.nm.size ≤ 20 → t = a.nm) ∧ (a.r.tmod 11 ≠ 10 → a.many = true → t = kName a.r) ∧ (a.r.tmod 11 ≠ 10 → a.many = false → rowL[((wthn a.r 0 1048576).tmod 8).toNat]? = some t)
theorem name6_e (a : Nk) (h : NkOk a) : ∃ t : ByteArray, NameIs a t ∧ ACalls Tryz.prog 46 0 20 [.agg (nkrow a)] [] (fun out H' => out = .ret (.v (.string t)) ∧ H' = []) := by
 by_cases hr : a.r.tmod 11 = 10
 ·obtain ⟨t, ht, hp⟩ := head_e a.nm 20 (by decide)
  refine ⟨t, ⟨fun _ => ht, fun h => absurd hr h, fun h => absurd hr h⟩, ?_⟩
  refine no_implicit_lambda% (acalls_of tok dok (f := 46) ⟨Tryz.func46, rfl, by kernel_rfl⟩ ?_); refine no_implicit_lambda% (c_start (fun _ h => h) ?_)
  repeat' (first | (refine no_implicit_lambda% (zH ?_)) | (((with_reducible refine no_implicit_lambda% (zA ?_)); refine no_implicit_lambda% (zD rfl rfl rfl (fun hc => ?_) (fun hc => ?_)) <;> first | exact zG hc | rw [hc])) | (((with_reducible refine no_implicit_lambda% (zB ?_)); refine no_implicit_lambda% (zE rfl (fun hc => ?_) (fun hc => ?_)) <;> first | exact zG hc | skip)) | (((with_reducible refine no_implicit_lambda% (zC ?_)); refine no_implicit_lambda% (zF rfl rfl (fun hc => ?_) (fun hc => ?_)) <;> first | exact zG hc | rw [hc])) | (refine no_implicit_lambda% (ans ?_)) | (with_reducible first | exact zI | exact zJ) | (refine no_implicit_lambda% (cal [] (hp) ?_ ?_)) | fail)
  exact e_ret (H' := []) (rest := _) rfl ⟨rfl, rfl⟩ permT (LE0 rfl)
 ·rcases hm : a.many with _ | _
  ·obtain ⟨t, _, ht, hp⟩ := keeprow_e a.r h.r.1 h.r.2
   refine ⟨t, ⟨fun h => absurd h hr, fun _ h => by simp [hm] at h, fun _ _ => ht⟩, ?_⟩
   refine no_implicit_lambda% (acalls_of tok dok (f := 46) ⟨Tryz.func46, rfl, by kernel_rfl⟩ ?_); refine no_implicit_lambda% (c_start (fun _ h => h) ?_)
   repeat' (first | (refine no_implicit_lambda% (zH ?_)) | (((with_reducible refine no_implicit_lambda% (zA ?_)); refine no_implicit_lambda% (zD rfl rfl rfl (fun hc => ?_) (fun hc => ?_)) <;> first | exact zG hc | rw [hc])) | (((with_reducible refine no_implicit_lambda% (zB ?_)); refine no_implicit_lambda% (zE rfl (fun hc => ?_) (fun hc => ?_)) <;> first | exact zG hc | skip)) | (((with_reducible refine no_implicit_lambda% (zC ?_)); refine no_implicit_lambda% (zF rfl rfl (fun hc => ?_) (fun hc => ?_)) <;> first | exact zG hc | rw [hc])) | (refine no_implicit_lambda% (ans ?_)) | (with_reducible first | exact zI | exact zJ) | (refine no_implicit_lambda% (cal [] (hp) ?_ ?_)) | fail)
   all_goals try (exfalso; clear hp; simp_all; done)
   exact e_ret (H' := []) (rest := _) rfl ⟨rfl, rfl⟩ permT (LE0 rfl)
  ·refine ⟨kName a.r, ⟨fun h => absurd h hr, fun _ _ => rfl, fun _ h => by simp [hm] at h⟩, ?_⟩
   refine no_implicit_lambda% (acalls_of tok dok (f := 46) ⟨Tryz.func46, rfl, by kernel_rfl⟩ ?_); refine no_implicit_lambda% (c_start (fun _ h => h) ?_)
   repeat' (first | (refine no_implicit_lambda% (zH ?_)) | (((with_reducible refine no_implicit_lambda% (zA ?_)); refine no_implicit_lambda% (zD rfl rfl rfl (fun hc => ?_) (fun hc => ?_)) <;> first | exact zG hc | rw [hc])) | (((with_reducible refine no_implicit_lambda% (zB ?_)); refine no_implicit_lambda% (zE rfl (fun hc => ?_) (fun hc => ?_)) <;> first | exact zG hc | skip)) | (((with_reducible refine no_implicit_lambda% (zC ?_)); refine no_implicit_lambda% (zF rfl rfl (fun hc => ?_) (fun hc => ?_)) <;> first | exact zG hc | rw [hc])) | (refine no_implicit_lambda% (ans ?_)) | (with_reducible first | exact zI | exact zJ))
   all_goals try (exfalso; simp_all; done)
   (with_reducible refine no_implicit_lambda% (zC ?_)); refine no_implicit_lambda% (a_known rfl (q_convert_rune rfl (by kernel_rfl) (by kernel_rfl) rfl) ?_)
   repeat' (first | (refine no_implicit_lambda% (zH ?_)) | (((with_reducible refine no_implicit_lambda% (zA ?_)); refine no_implicit_lambda% (zD rfl rfl rfl (fun hc => ?_) (fun hc => ?_)) <;> first | exact zG hc | rw [hc])) | (((with_reducible refine no_implicit_lambda% (zB ?_)); refine no_implicit_lambda% (zE rfl (fun hc => ?_) (fun hc => ?_)) <;> first | exact zG hc | skip)) | (((with_reducible refine no_implicit_lambda% (zC ?_)); refine no_implicit_lambda% (zF rfl rfl (fun hc => ?_) (fun hc => ?_)) <;> first | exact zG hc | rw [hc])) | (refine no_implicit_lambda% (ans ?_)) | (with_reducible first | exact zI | exact zJ))
   unfold kName
   have hez := encode_size (IntKind.i32.wrap (IntKind.i64.wrap (97 + (IntKind.i64.wrap (a.r.tmod 45 + 45)).tmod 45)))
   generalize Utf8.encode (IntKind.i32.wrap (IntKind.i64.wrap (97 + (IntKind.i64.wrap (a.r.tmod 45 + 45)).tmod 45))) = u at *
   (with_reducible refine no_implicit_lambda% (zC ?_))
   refine no_implicit_lambda% (a_qS rfl (fun _ h => h) ?_ ?_)
   ·have h107 : (⟨#[107]⟩ : ByteArray).size = 1 := rfl
    rw [h107]
    show _ ≤ (9223372036854775807 : Int)
    omega
   repeat' (first | (refine no_implicit_lambda% (zH ?_)) | (((with_reducible refine no_implicit_lambda% (zA ?_)); refine no_implicit_lambda% (zD rfl rfl rfl (fun hc => ?_) (fun hc => ?_)) <;> first | exact zG hc | rw [hc])) | (((with_reducible refine no_implicit_lambda% (zB ?_)); refine no_implicit_lambda% (zE rfl (fun hc => ?_) (fun hc => ?_)) <;> first | exact zG hc | skip)) | (((with_reducible refine no_implicit_lambda% (zC ?_)); refine no_implicit_lambda% (zF rfl rfl (fun hc => ?_) (fun hc => ?_)) <;> first | exact zG hc | rw [hc])) | (refine no_implicit_lambda% (ans ?_)) | (with_reducible first | exact zI | exact zJ))
   exact e_ret (H' := []) (rest := _) rfl ⟨rfl, rfl⟩ permT (LE0 rfl)
end Go.Proofs.YtjepgbpcpcahgaaGreat
namespace Go.Proofs.YtjepgbpcpcahgaaGreat
open Go.Am
set_option maxRecDepth 100000
theorem made6_nil : ACalls Tryz.prog 43 0 900000 [.list ([].map cwrow) .free] [] (fun out H' => out = .ret (rowA []) ∧ H' = []) := by
 refine no_implicit_lambda% (acalls_of tok dok (f := 43) ⟨Tryz.func43, rfl, by kernel_rfl⟩ ?_); refine no_implicit_lambda% (c_start (fun _ h => h) ?_)
 repeat' (first | (refine no_implicit_lambda% (zH ?_)) | (((with_reducible refine no_implicit_lambda% (zA ?_)); refine no_implicit_lambda% (zD rfl rfl rfl (fun hc => ?_) (fun hc => ?_)) <;> first | exact zG hc | rw [hc])) | (((with_reducible refine no_implicit_lambda% (zB ?_)); refine no_implicit_lambda% (zE rfl (fun hc => ?_) (fun hc => ?_)) <;> first | exact zG hc | skip)) | (((with_reducible refine no_implicit_lambda% (zC ?_)); refine no_implicit_lambda% (zF rfl rfl (fun hc => ?_) (fun hc => ?_)) <;> first | exact zG hc | rw [hc])) | (refine no_implicit_lambda% (ans ?_)) | (with_reducible first | exact zI | exact zJ))
 refine c_loop2 (m6St []) (fun M i => M = [] ∧ i = 0) (fun _ _ => 0) [] 0 ⟨rfl, rfl⟩ ?_ ?_
 ·(refine no_implicit_lambda% (Conv.toT ?_ ?_ (LE0 rfl))); (focus ((unfold m6St); (try dsimp only); exact wkl)); (focus ((unfold m6St); (try dsimp only); exact wkh))
 ·rintro _ _ ⟨rfl, rfl⟩
  refine c_turn (n' := 2) (fun _ h => h) (fun _ h => h) rfl ?_
  repeat' (first | (refine no_implicit_lambda% (zH ?_)) | (((with_reducible refine no_implicit_lambda% (zA ?_)); refine no_implicit_lambda% (zD rfl rfl rfl (fun hc => ?_) (fun hc => ?_)) <;> first | exact zG hc | rw [hc])) | (((with_reducible refine no_implicit_lambda% (zB ?_)); refine no_implicit_lambda% (zE rfl (fun hc => ?_) (fun hc => ?_)) <;> first | exact zG hc | skip)) | (((with_reducible refine no_implicit_lambda% (zC ?_)); refine no_implicit_lambda% (zF rfl rfl (fun hc => ?_) (fun hc => ?_)) <;> first | exact zG hc | rw [hc])) | (refine no_implicit_lambda% (ans ?_)) | (with_reducible first | exact zI | exact zJ))
  exact e_ret (H' := []) (rest := _) rfl ⟨rfl, rfl⟩ permT (LE0 rfl)
theorem made6_e (a : Nk) (h : NkOk a) : ACalls Tryz.prog 43 0 900000 [.list (a.l.map cwrow) .free] [] (fun out H' => ∃ M, (Fine M ∧ RowSz M ∧ (a.l = [] → M = [])) ∧ out = .ret (rowA M) ∧ H' = []) := by
 by_cases hl : a.l = []
 ·rw [hl]
  exact made6_nil.mono fun out H' hh => ⟨[], ⟨fine_nil, sz_nil, fun _ => rfl⟩, hh.1, hh.2⟩
 ·exact (made6_c a.l h.l h.n).mono fun out H' ⟨M, h1, h2, h3, h4⟩ => ⟨M, ⟨h1, h2, fun h => absurd h hl⟩, h3, h4⟩
def RowIs (a : Nk) (R : List Co) : Prop := Fine R ∧ RowSz R ∧ (a.k = 1 → a.l = [] → R = someR)
inductive PlayR : List Nk → List Nm → Prop
 | nil : PlayR [] []
 | snoc {l : List Nk} {Q : List Nm} {a : Nk} {s : ByteArray} {R : List Co} : PlayR l Q → NameIs a s → RowIs a R → PlayR (l ++ [a]) (setN Q s R).2
def ply6St (l : List Nk) (Q : List Nm) (cp i : Nat) : ASt := ⟨([.list (l.map nkrow) .free, .dead, .dead, .dead, .dead, .ptr 0 0, .list (Q.map nmrow) .free, .v (.int .i64 i)] ++ List.replicate 70 .dead), tbl Q cp, 2⟩
def plz6St (l : List Nk) (Q : List Nm) (cp i : Nat) (R : List Co) : ASt := ⟨([.list (l.map nkrow) .free, .dead, .dead, .dead, .dead, .ptr 0 0, .list (Q.map nmrow) .free, .v (.int .i64 i), .ptr 2 0] ++ List.replicate 69 .dead), tbl Q cp ++ [(2, .box [.list (R.map corow) .free])], 990000⟩
theorem nkex {l : List Nk} {i : Nat} {t : Nk} (h : l[i]? = some t) : 0 ≤ (i : Int) ∧ (l.map nkrow)[(i : Int).toNat]? = some (nkrow t) ∧ (nkrow t).length = 5 := ⟨Int.natCast_nonneg _, by rw [Int.toNat_natCast, List.getElem?_map, h]; rfl, rfl⟩
def PlayO (l : List Nk) (out : AOut) (H' : Heap) : Prop := ∃ Q cp, PlayR (l.take 60) Q ∧ TbOk Q ∧ Q.length ≤ cp ∧ cp ≤ maxLen ∧ out = .ret (.tuple [.ptr 0 0, .list (Q.map nmrow) .free, .v (.bool true)]) ∧ H' = tbl Q cp
set_option maxHeartbeats 6400000 in
theorem play6_c (l : List Nk) (hl : ∀ a ∈ l, NkOk a) (h : l.length ≤ 9223372036854775807) : ACalls Tryz.prog 12 0 2000000 [.list (l.map nkrow) .free] [] (PlayO l) := by
 ·have hnw := tnew_c
  unfold tnew at hnw
  refine no_implicit_lambda% (acalls_of tok dok (f := 12) ⟨Tryz.func12, rfl, by kernel_rfl⟩ ?_); refine no_implicit_lambda% (c_start (fun _ h => h) ?_)
  repeat' (first | (refine no_implicit_lambda% (zH ?_)) | (((with_reducible refine no_implicit_lambda% (zA ?_)); refine no_implicit_lambda% (zD rfl rfl rfl (fun hc => ?_) (fun hc => ?_)) <;> first | exact zG hc | rw [hc])) | (((with_reducible refine no_implicit_lambda% (zB ?_)); refine no_implicit_lambda% (zE rfl (fun hc => ?_) (fun hc => ?_)) <;> first | exact zG hc | skip)) | (((with_reducible refine no_implicit_lambda% (zC ?_)); refine no_implicit_lambda% (zF rfl rfl (fun hc => ?_) (fun hc => ?_)) <;> first | exact zG hc | rw [hc])) | (refine no_implicit_lambda% (ans ?_)) | (with_reducible first | exact zI | exact zJ) | (refine no_implicit_lambda% (cal [] (hnw) ?_ ?_)) | fail)
  refine c_l3 (ply6St l) (fun Q cp i => i ≤ l.length ∧ i ≤ 60 ∧ TbOk Q ∧ Q.length ≤ cp ∧ cp ≤ maxLen ∧ PlayR (l.take i) Q) (fun _ _ i => l.length - i) [] 0 0 ⟨Nat.zero_le _, Nat.zero_le _, nil_ok, Nat.le_refl _, Nat.zero_le _, .nil⟩ ?_ ?_
  ·(refine no_implicit_lambda% (Conv.toT ?_ ?_ (LE0 rfl))); (focus ((unfold ply6St); (try dsimp only); exact wkl)); (focus ((unfold ply6St); (try dsimp only); exact wkh))
  ·rintro Q cp i ⟨i1, i2, hQ, c1, c2, hP⟩
   have hend : (l.length = i ∨ 60 ≤ i) → PlayO l (.ret (.tuple [.ptr 0 0, .list (Q.map nmrow) .free, .v (.bool true)])) (tbl Q cp) := fun hi => ⟨Q, cp, by
    have e : l.take 60 = l.take i := by
     rcases hi with rfl | hi
     ·rw [List.take_length, List.take_of_length_le (by omega)]
     ·rw [show i = 60 by omega]
    rw [e]; exact hP, hQ, c1, c2, rfl, rfl⟩
   refine c_turn (n' := 2) (fun _ h => h) (fun _ h => h) rfl ?_
   rcases hx : l[i]? with _ | a
   ·have hi : i = l.length := by have := List.getElem?_eq_none_iff.1 hx; omega
    repeat' (first | (refine no_implicit_lambda% (zH ?_)) | (((with_reducible refine no_implicit_lambda% (zA ?_)); refine no_implicit_lambda% (zD rfl rfl rfl (fun hc => ?_) (fun hc => ?_)) <;> first | exact zG hc | rw [hc])) | (((with_reducible refine no_implicit_lambda% (zB ?_)); refine no_implicit_lambda% (zE rfl (fun hc => ?_) (fun hc => ?_)) <;> first | exact zG hc | skip)) | (((with_reducible refine no_implicit_lambda% (zC ?_)); refine no_implicit_lambda% (zF rfl rfl (fun hc => ?_) (fun hc => ?_)) <;> first | exact zG hc | rw [hc])) | (refine no_implicit_lambda% (ans ?_)) | (with_reducible first | exact zI | exact zJ))
    exact e_ret (H' := tbl Q cp) (rest := _) rfl (hend (.inl hi.symm)) permT (LE0 rfl)
   ·have hi : i < l.length := (List.getElem?_eq_some_iff.1 hx).1
    have ha := hl a (List.mem_of_getElem? hx)
    have hix := nkex hx
    obtain ⟨s, hs, hnm⟩ := name6_e a ha
    repeat' (first | (refine no_implicit_lambda% (sx1 ?_)) | (((with_reducible refine no_implicit_lambda% (zA ?_)); refine no_implicit_lambda% (zD rfl rfl rfl (fun hc => ?_) (fun hc => ?_)) <;> first | exact zG hc | rw [hc])) | (((with_reducible refine no_implicit_lambda% (zB ?_)); refine no_implicit_lambda% (zE rfl (fun hc => ?_) (fun hc => ?_)) <;> first | exact zG hc | skip)) | (((with_reducible refine no_implicit_lambda% (zC ?_)); refine no_implicit_lambda% (zF rfl rfl (fun hc => ?_) (fun hc => ?_)) <;> first | exact zG hc | rw [hc])) | fail)
    refine k_seq ?_
    repeat' (first | (refine no_implicit_lambda% (sx1 ?_)) | (((with_reducible refine no_implicit_lambda% (zA ?_)); refine no_implicit_lambda% (zD rfl rfl rfl (fun hc => ?_) (fun hc => ?_)) <;> first | exact zG hc | rw [hc])) | (((with_reducible refine no_implicit_lambda% (zB ?_)); refine no_implicit_lambda% (zE rfl (fun hc => ?_) (fun hc => ?_)) <;> first | exact zG hc | skip)) | (((with_reducible refine no_implicit_lambda% (zC ?_)); refine no_implicit_lambda% (zF rfl rfl (fun hc => ?_) (fun hc => ?_)) <;> first | exact zG hc | rw [hc])) | fail)
    ·have h60 : i + 1 ≤ 60 := by have := of_decide_eq_true hc; omega
     refine k_seq ?_
     repeat' (first | (refine no_implicit_lambda% (sx1 ?_)) | (((with_reducible refine no_implicit_lambda% (zA ?_)); refine no_implicit_lambda% (zD rfl rfl rfl (fun hc => ?_) (fun hc => ?_)) <;> first | exact zG hc | rw [hc])) | (((with_reducible refine no_implicit_lambda% (zB ?_)); refine no_implicit_lambda% (zE rfl (fun hc => ?_) (fun hc => ?_)) <;> first | exact zG hc | skip)) | (((with_reducible refine no_implicit_lambda% (zC ?_)); refine no_implicit_lambda% (zF rfl rfl (fun hc => ?_) (fun hc => ?_)) <;> first | exact zG hc | rw [hc])) | fail)
     refine k_seq ?_
     repeat' (first | (refine no_implicit_lambda% (sx1 ?_)) | (((with_reducible refine no_implicit_lambda% (zA ?_)); refine no_implicit_lambda% (zD rfl rfl rfl (fun hc => ?_) (fun hc => ?_)) <;> first | exact zG hc | rw [hc])) | (((with_reducible refine no_implicit_lambda% (zB ?_)); refine no_implicit_lambda% (zE rfl (fun hc => ?_) (fun hc => ?_)) <;> first | exact zG hc | skip)) | (((with_reducible refine no_implicit_lambda% (zC ?_)); refine no_implicit_lambda% (zF rfl rfl (fun hc => ?_) (fun hc => ?_)) <;> first | exact zG hc | rw [hc])) | fail)
     refine k_seq ?_
     repeat' (first | (refine no_implicit_lambda% (sx1 ?_)) | (((with_reducible refine no_implicit_lambda% (zA ?_)); refine no_implicit_lambda% (zD rfl rfl rfl (fun hc => ?_) (fun hc => ?_)) <;> first | exact zG hc | rw [hc])) | (((with_reducible refine no_implicit_lambda% (zB ?_)); refine no_implicit_lambda% (zE rfl (fun hc => ?_) (fun hc => ?_)) <;> first | exact zG hc | skip)) | (((with_reducible refine no_implicit_lambda% (zC ?_)); refine no_implicit_lambda% (zF rfl rfl (fun hc => ?_) (fun hc => ?_)) <;> first | exact zG hc | rw [hc])) | fail)
     refine k_seq ?_
     repeat' (first | (refine no_implicit_lambda% (sx1 ?_)) | (((with_reducible refine no_implicit_lambda% (zA ?_)); refine no_implicit_lambda% (zD rfl rfl rfl (fun hc => ?_) (fun hc => ?_)) <;> first | exact zG hc | rw [hc])) | (((with_reducible refine no_implicit_lambda% (zB ?_)); refine no_implicit_lambda% (zE rfl (fun hc => ?_) (fun hc => ?_)) <;> first | exact zG hc | skip)) | (((with_reducible refine no_implicit_lambda% (zC ?_)); refine no_implicit_lambda% (zF rfl rfl (fun hc => ?_) (fun hc => ?_)) <;> first | exact zG hc | rw [hc])) | fail)
     refine k_seq ?_
     refine c_cutR (fun R => plz6St l Q cp i R) (fun R => RowIs a R) ?_ ?_
     ·rintro R hR
      have h1 := set_c Q s R cp hQ c1 c2 (by have := hR.1.len; omega) hR.2.1
      have h2 := rset_c Q s R hQ (by have := hR.1.len; omega) hR.2.1
      refine c_turn (n' := 990000) (fun _ h => h) (fun _ h => h) rfl ?_
      repeat' (first | (refine no_implicit_lambda% (zH ?_)) | (((with_reducible refine no_implicit_lambda% (zA ?_)); refine no_implicit_lambda% (zD rfl rfl rfl (fun hc => ?_) (fun hc => ?_)) <;> first | exact zG hc | rw [hc])) | (((with_reducible refine no_implicit_lambda% (zB ?_)); refine no_implicit_lambda% (zE rfl (fun hc => ?_) (fun hc => ?_)) <;> first | exact zG hc | skip)) | (((with_reducible refine no_implicit_lambda% (zC ?_)); refine no_implicit_lambda% (zF rfl rfl (fun hc => ?_) (fun hc => ?_)) <;> first | exact zG hc | rw [hc])) | (refine no_implicit_lambda% (ans ?_)) | (with_reducible first | exact zI | exact zJ) | (refine no_implicit_lambda% (cal [] (hnm) ?_ ?_)) | fail)
      (refine no_implicit_lambda% (cal [0, 1] (h1) ?_ ?_))
      ·intro xx H' hh
       obtain ⟨cp2, d1, d2, h', rfl⟩ := hh
       cases h'
       first | (refine no_implicit_lambda% (akc ?_)) | (refine no_implicit_lambda% (aec ?_))
       repeat' (first | (refine no_implicit_lambda% (zH ?_)) | (((with_reducible refine no_implicit_lambda% (zA ?_)); refine no_implicit_lambda% (zD rfl rfl rfl (fun hc => ?_) (fun hc => ?_)) <;> first | exact zG hc | rw [hc])) | (((with_reducible refine no_implicit_lambda% (zB ?_)); refine no_implicit_lambda% (zE rfl (fun hc => ?_) (fun hc => ?_)) <;> first | exact zG hc | skip)) | (((with_reducible refine no_implicit_lambda% (zC ?_)); refine no_implicit_lambda% (zF rfl rfl (fun hc => ?_) (fun hc => ?_)) <;> first | exact zG hc | rw [hc])) | (refine no_implicit_lambda% (ans ?_)) | (with_reducible first | exact zI | exact zJ) | (refine no_implicit_lambda% (cal [] (hnm) ?_ ?_)) | (refine no_implicit_lambda% (cal [] (h2) ?_ ?_)) | fail)
       (refine no_implicit_lambda% (k_loopLT ((((setN Q s R).2, cp2, i + 1) : List Nm × Nat × Nat)) 0 [0, 990020] (by
        show i + 1 ≤ l.length ∧ i + 1 ≤ 60 ∧ TbOk (setN Q s R).2 ∧ (setN Q s R).2.length ≤ cp2 ∧ cp2 ≤ maxLen ∧ PlayR (l.take (i + 1)) (setN Q s R).2
        refine ⟨hi, h60, setN_ok hQ hR.2.1, d1, d2, ?_⟩
        have e : l.take (i + 1) = l.take i ++ [a] := by rw [List.take_add_one, hx]; rfl
        rw [e]
        exact .snoc hP hs hR) (by first | omega | (simp; done) | (simp; omega)) (LE0 rfl) (fun _ h => h) (fun _ h => h) ?_ ?_)); (focus ((try dsimp only); exact wkl)); (focus ((try dsimp only); exact wkh))
      ·intro xx H' hh
       obtain ⟨_, _, _, h', _⟩ := hh
       cases h'
     ·intro Kx kN kP kR kE
      repeat' (first | (refine no_implicit_lambda% (zH ?_)) | (((with_reducible refine no_implicit_lambda% (zA ?_)); refine no_implicit_lambda% (zD rfl rfl rfl (fun hc => ?_) (fun hc => ?_)) <;> first | exact zG hc | rw [hc])) | (((with_reducible refine no_implicit_lambda% (zB ?_)); refine no_implicit_lambda% (zE rfl (fun hc => ?_) (fun hc => ?_)) <;> first | exact zG hc | skip)) | (((with_reducible refine no_implicit_lambda% (zC ?_)); refine no_implicit_lambda% (zF rfl rfl (fun hc => ?_) (fun hc => ?_)) <;> first | exact zG hc | rw [hc])) | (refine no_implicit_lambda% (ans ?_)) | (with_reducible first | exact zI | exact zJ) | (refine no_implicit_lambda% (cal [] (made6_e a ha) ?_ ?_)) | fail)
      ·intro xx H' hh
       obtain ⟨M, ⟨hF, hz, hm⟩, h', rfl⟩ := hh
       cases h'
       first | (refine no_implicit_lambda% (akc ?_)) | (refine no_implicit_lambda% (aec ?_))
       repeat' (first | (refine no_implicit_lambda% (zH ?_)) | (((with_reducible refine no_implicit_lambda% (zA ?_)); refine no_implicit_lambda% (zD rfl rfl rfl (fun hc => ?_) (fun hc => ?_)) <;> first | exact zG hc | rw [hc])) | (((with_reducible refine no_implicit_lambda% (zB ?_)); refine no_implicit_lambda% (zE rfl (fun hc => ?_) (fun hc => ?_)) <;> first | exact zG hc | skip)) | (((with_reducible refine no_implicit_lambda% (zC ?_)); refine no_implicit_lambda% (zF rfl rfl (fun hc => ?_) (fun hc => ?_)) <;> first | exact zG hc | rw [hc])) | (refine no_implicit_lambda% (ans ?_)) | (with_reducible first | exact zI | exact zJ) | (refine no_implicit_lambda% (cal [] (some6_c) ?_ ?_)) | fail)
       ·refine kN someR _ _ _ ⟨some_fine.1, some_fine.2, fun _ _ => rfl⟩ (.inl ?_)
        (refine no_implicit_lambda% (Conv.toT ?_ ?_ (LE0 rfl))); (focus ((unfold plz6St); (try dsimp only); exact wkl)); (focus ((unfold plz6St); (try dsimp only); exact wkh))
       ·refine kN M _ _ _ ⟨hF, hz, fun _ h => ?_⟩ (.inl ?_)
        ·exfalso
         have hM := hm h
         subst hM
         simp at hc
        ·(refine no_implicit_lambda% (Conv.toT ?_ ?_ (LE0 rfl))); (focus ((unfold plz6St); (try dsimp only); exact wkl)); (focus ((unfold plz6St); (try dsimp only); exact wkh))
       ·refine kN M _ _ _ ⟨hF, hz, fun h => ?_⟩ (.inl ?_)
        ·exfalso
         rw [h] at hc
         simp at hc
        ·(refine no_implicit_lambda% (Conv.toT ?_ ?_ (LE0 rfl))); (focus ((unfold plz6St); (try dsimp only); exact wkl)); (focus ((unfold plz6St); (try dsimp only); exact wkh))
      ·intro xx H' hh
       obtain ⟨_, _, h', _⟩ := hh
       cases h'
      ·refine kN [] _ _ _ ⟨fine_nil, sz_nil, fun h => ?_⟩ (.inl ?_)
       ·exfalso
        rw [h] at hc
        simp at hc
       ·(refine no_implicit_lambda% (Conv.toT ?_ ?_ (LE0 rfl))); (focus ((unfold plz6St); (try dsimp only); exact wkl)); (focus ((unfold plz6St); (try dsimp only); exact wkh))
    ·refine k_seq ?_
     repeat' (first | (refine no_implicit_lambda% (zH ?_)) | (((with_reducible refine no_implicit_lambda% (zA ?_)); refine no_implicit_lambda% (zD rfl rfl rfl (fun hc => ?_) (fun hc => ?_)) <;> first | exact zG hc | rw [hc])) | (((with_reducible refine no_implicit_lambda% (zB ?_)); refine no_implicit_lambda% (zE rfl (fun hc => ?_) (fun hc => ?_)) <;> first | exact zG hc | skip)) | (((with_reducible refine no_implicit_lambda% (zC ?_)); refine no_implicit_lambda% (zF rfl rfl (fun hc => ?_) (fun hc => ?_)) <;> first | exact zG hc | rw [hc])) | (refine no_implicit_lambda% (ans ?_)) | (with_reducible first | exact zI | exact zJ))
     exact e_ret (H' := tbl Q cp) (rest := _) rfl (hend (.inr (by have := of_decide_eq_false hc; omega))) permT (LE0 rfl)
end Go.Proofs.YtjepgbpcpcahgaaGreat
namespace Go.Proofs.YtjepgbpcpcahgaaGreat
open Go.Am
set_option maxRecDepth 100000
theorem npos_emp (l : List Co) : npos l ⟨#[]⟩ = 0 := by
 unfold npos
 rw [List.countP_eq_zero]
 intro c _
 unfold sLt
 have : (⟨#[]⟩ : ByteArray).toList = [] := by simp [ByteArray.toList_eq]
 rw [this]
 cases c.n.toList <;> simp [Op.bytesLess]
def nmAt (Q : List Nm) (j : Nat) : ByteArray := match Q[j]? with | some x => x.n | none => ⟨#[]⟩
theorem rng_at {Q : List Nm} (hQ : TbOk Q) {j k : Nat} {fr : ByteArray} (hk : 1 ≤ k ∧ k ≤ 7) (hf : (j = 0 ∧ fr = ⟨#[]⟩) ∨ ∃ x, Q[j]? = some x ∧ fr = x.n) : rangeN Q fr ⟨#[]⟩ k = ((Q.drop j).take k, nmAt Q (j + k)) := by
 have he : (⟨#[]⟩ : ByteArray).toList = [] := by simp [ByteArray.toList_eq]
 have hp : npos (nk Q) fr = j := by
  rcases hf with ⟨rfl, rfl⟩ | ⟨x, hx, rfl⟩
  ·exact npos_emp _
  ·exact (npos_at hQ.srt (nk_at hx)).1
 have hm : (max 0 (min (k : Int) 16)).toNat = k := by omega
 unfold rangeN nmAt
 dsimp only
 rw [if_pos he, hp, hm]
 split
 ·next h =>
  rw [List.drop_eq_nil_of_le h, List.getElem?_eq_none (by omega)]
  simp
 ·split
  ·next h1 h2 =>
   rw [List.getElem?_eq_none (by omega), List.take_of_length_le (by rw [List.length_drop]; omega), List.take_of_length_le (by rw [List.length_drop]; omega)]
  ·rfl
end Go.Proofs.YtjepgbpcpcahgaaGreat
