/- Part 12 of what the laws ChangeTells rest on: RwO, RwP, RwQ, AmSp. -/
import Derived.Test.YtncffhgoopdfgaaGreatP11
set_option linter.unusedSimpArgs false
set_option linter.unusedVariables false
namespace Go.Proofs.YtncffhgoopdfgaaGreat
open Go.Am
set_option maxRecDepth 100000
theorem overlaps_col (row : List AV) (rows : List (List AV)) (off m c k : Nat) (hrow : row ≠ []) (hne : rows.length + k ≠ 0) : ACalls Tryz.prog 211 1 1 [.list [row] .free, .arr 0 off m c] [(0, .seq rows k)] (fun out H' => out = .ret (.v (.bool false)) ∧ H' = [(0, .seq rows k)]) :=
 ext_ov (tS := 50) (tR := 4) (fn := Tryz.f211) (by kernel_rfl) (by kernel_rfl) rfl (by kernel_rfl) (by kernel_rfl) (e := 149) (by kernel_rfl) 2 (fun w => by kernel_rfl) hrow hne
set_option maxHeartbeats 3200000 in
theorem insert_col (rows : List (List AV)) (row : List AV) (i cp : Nat) (hR : RowsOk 2 rows) (hR1 : RowsOk 2 [row]) (hi : i ≤ rows.length) (hl : rows.length < 1000000000) (hcp0 : rows.length ≤ cp) (hcp : cp ≤ maxLen) : ACalls Tryz.prog 194 1 2 [.arr 0 0 rows.length cp, .v (.int .i64 i), .list [row] .free] [(0, .seq rows ((cp - rows.length) * 2))] (fun out H' => ∃ cp', rows.length + 1 ≤ cp' ∧ cp' ≤ maxLen ∧ out = .ret (.arr 1 0 (rows.length + 1) cp') ∧ H' = [(1, .seq (insAt rows i row) ((cp' - (rows.length + 1)) * 2))]) := by
 have hrow : row.length = 2 := hR1.len row (by simp)
 refine no_implicit_lambda% (acalls_of tok dok (f := 194) ⟨Tryz.func194, rfl, by kernel_rfl⟩ ?_); refine no_implicit_lambda% (c_start (fun _ h => h) ?_)
 repeat' (first | (refine no_implicit_lambda% (zH ?_)) | (refine no_implicit_lambda% (spl (fun hc => ?_) (fun hc => ?_)) <;> first | exact zG hc | skip) | (refine no_implicit_lambda% (ans ?_)) | (with_reducible first | exact zI | exact zJ))
 (refine no_implicit_lambda% (aqs ?_ ?_)); focus ((repeat' (refine no_implicit_lambda% (And.intro ?_ ?_))) <;> (first | exact trivial | exact Int.natCast_nonneg _ | omega | (simp; done) | (simp; omega) | ((show (0 : Int) ≤ _); omega)))
 repeat' (first | (refine no_implicit_lambda% (zH ?_)) | (refine no_implicit_lambda% (spl (fun hc => ?_) (fun hc => ?_)) <;> first | exact zG hc | skip) | (refine no_implicit_lambda% (ans ?_)) | (with_reducible first | exact zI | exact zJ))
 ·have hin : i = rows.length := by
   have h0 : (i : Int) = rows.length := by simpa using hc
   omega
  subst hin
  ((with_reducible refine no_implicit_lambda% (zC ?_)); refine no_implicit_lambda% (a_appS (sz := 2) (B := 40) (m2 := rows.length + 1) (rows3 := rows ++ [row]) rfl rfl rfl rfl rfl rfl rfl rfl rfl rfl rfl (fun _ h => h) rfl rfl (hR) (hR1) (by first | rfl | (exact List.length_map ..) | (simp; done) | (simp; omega)) rfl (by first | omega | (simp; omega)) (by first | rfl | (simp; done) | (simp; omega)) (by first | rfl | (exact map_snoc _ _) | (rw [List.map_append]; rfl) | (simp; done)) ?_))
  intro cp' h1 h2
  refine no_implicit_lambda% (akc ?_)
  refine no_implicit_lambda% (awd ?_)
  exact e_ret (H' := _) (rest := []) rfl ⟨cp', h1, h2, rfl, by rw [insAt_end]⟩ (.of_eq rfl) (LE0 rfl)
 ·have hcc := of_decide_eq_true hc
  have hne : i < rows.length := by
   rename_i hc0
   have h0 : ¬ (i : Int) = rows.length := by simpa using hc0
   omega
  have hw : IntKind.i64.wrap ((rows.length : Int) + (([row].length : Nat) : Int)) = ((rows.length + 1 : Nat) : Int) := by rw [IntKind.wrap_i64, List.length_singleton]; omega
  rw [hw] at hcc ⊢
  (refine no_implicit_lambda% (aqs ?_ ?_)); focus ((repeat' (refine no_implicit_lambda% (And.intro ?_ ?_))) <;> (first | exact trivial | exact Int.natCast_nonneg _ | omega | (simp; done) | (simp; omega) | ((show (0 : Int) ≤ _); omega)))
  repeat' (first | (refine no_implicit_lambda% (zH ?_)) | (refine no_implicit_lambda% (spl (fun hc => ?_) (fun hc => ?_)) <;> first | exact zG hc | skip) | (refine no_implicit_lambda% (ans ?_)) | (with_reducible first | exact zI | exact zJ))
  have hw2 : IntKind.i64.wrap (IntKind.i64.wrap ((rows.length : Int) + (([row].length : Nat) : Int)) - (i : Int)) = ((rows.length + 1 - i : Nat) : Int) := by rw [hw, IntKind.wrap_i64]; omega
  rw [hw2]
  (with_reducible refine zC ?_)
  refine a_app_zeros (id := 0) (off := 0) (nn := i) (cp := cp) (m := rows.length + 1 - i) (rows0 := rows.take i) rfl rfl rfl rfl rfl rfl rfl rfl rfl rfl rfl rfl (by omega) (by omega) ⟨by show (i + (rows.length + 1 - i)) * 40 ≤ _; omega, by omega⟩ (aolds_take rfl hR hi rfl) rfl (hR.take i).pure ?_
  intro cp' h1 h2
  rw [show i + (rows.length + 1 - i) = rows.length + 1 by omega] at h1 ⊢
  repeat' (first | (refine no_implicit_lambda% (zH ?_)) | (refine no_implicit_lambda% (spl (fun hc => ?_) (fun hc => ?_)) <;> first | exact zG hc | skip) | (refine no_implicit_lambda% (ans ?_)) | (with_reducible first | exact zI | exact zJ))
  (refine no_implicit_lambda% (aqs ?_ ?_)); focus ((repeat' (refine no_implicit_lambda% (And.intro ?_ ?_))) <;> (first | exact trivial | exact Int.natCast_nonneg _ | omega | (simp; done) | (simp; omega) | ((show (0 : Int) ≤ _); omega)))
  repeat' (first | (refine no_implicit_lambda% (zH ?_)) | (refine no_implicit_lambda% (spl (fun hc => ?_) (fun hc => ?_)) <;> first | exact zG hc | skip) | (refine no_implicit_lambda% (ans ?_)) | (with_reducible first | exact zI | exact zJ))
  (with_reducible refine zC ?_)
  refine a_copyEnd (id := 1) (m := 1) (sz := 2) (rows := rows.take i) (rows2 := [row]) (rows' := rows.take i ++ [row]) (k2 := (cp' - (i + 1)) * 2) rfl rfl rfl rfl rfl rfl rfl rfl (fun K h => asrc_rows rfl hR1.len ?_ h) (fun _ h => h) rfl (hR.take i) hR1 ?_ ?_ ?_ ?_ rfl ?_ ?_
  ·simp; omega
  ·exact Nat.min_eq_left (by omega)
  ·simp; omega
  ·simp; omega
  ·simp; omega
  ·simp; omega
  intro v1
  refine no_implicit_lambda% (akc ?_)
  repeat' (first | (refine no_implicit_lambda% (zH ?_)) | (refine no_implicit_lambda% (spl (fun hc => ?_) (fun hc => ?_)) <;> first | exact zG hc | skip) | (refine no_implicit_lambda% (ans ?_)) | (with_reducible first | exact zI | exact zJ))
  have hw3 : IntKind.i64.wrap ((i : Int) + (([row].length : Nat) : Int)) = ((i + 1 : Nat) : Int) := by rw [IntKind.wrap_i64, List.length_singleton]; omega
  rw [hw3]
  ((with_reducible refine no_implicit_lambda% (is_ev ?_)); first | (refine no_implicit_lambda% (v_qS rfl rfl rfl rfl (qAnd4 (fun _ h => h)) (fun _ h => h) ?_ ?_)) | (refine no_implicit_lambda% (v_qS rfl rfl rfl rfl (qAnd5 (fun _ h => h)) (fun _ h => h) ?_ ?_))); focus ((repeat' (refine no_implicit_lambda% (And.intro ?_ ?_))) <;> (first | exact trivial | exact Int.natCast_nonneg _ | omega | (simp; done) | (simp; omega) | ((show (0 : Int) ≤ _); omega)))
  repeat' (first | (refine no_implicit_lambda% (zH ?_)) | (refine no_implicit_lambda% (spl (fun hc => ?_) (fun hc => ?_)) <;> first | exact zG hc | skip) | (refine no_implicit_lambda% (ans ?_)) | (with_reducible first | exact zI | exact zJ))
  ((with_reducible refine no_implicit_lambda% (is_ev ?_)); first | (refine no_implicit_lambda% (v_qS rfl rfl rfl rfl (qAnd4 (fun _ h => h)) (fun _ h => h) ?_ ?_)) | (refine no_implicit_lambda% (v_qS rfl rfl rfl rfl (qAnd5 (fun _ h => h)) (fun _ h => h) ?_ ?_))); focus ((repeat' (refine no_implicit_lambda% (And.intro ?_ ?_))) <;> (first | exact trivial | exact Int.natCast_nonneg _ | omega | (simp; done) | (simp; omega) | ((show (0 : Int) ≤ _); omega)))
  repeat' (first | (refine no_implicit_lambda% (zH ?_)) | (refine no_implicit_lambda% (spl (fun hc => ?_) (fun hc => ?_)) <;> first | exact zG hc | skip) | (refine no_implicit_lambda% (ans ?_)) | (with_reducible first | exact zI | exact zJ))
  (with_reducible refine zC ?_)
  refine a_copyEnd (id := 1) (m := rows.length - i) (sz := 2) (rows := rows.take i ++ [row]) (rows2 := rows.drop i) (rows' := insAt rows i row) (k2 := (cp' - (rows.length + 1)) * 2) rfl rfl rfl rfl rfl rfl rfl rfl (fun K h => asrc_drop rfl rfl hR hi ?_ ?_ ?_ h) (fun _ h => h) rfl ((hR.take i).app hR1) (hR.drop i) ?_ ?_ ?_ ?_ ?_ ?_ ?_
  ·simp
  ·simp
  ·simp
  ·rw [List.length_drop]; exact Nat.min_eq_left (by omega)
  ·simp; omega
  ·simp; omega
  ·simp
  ·simp [insAt]
  ·simp; omega
  intro v2
  repeat' (first | (refine no_implicit_lambda% (zH ?_)) | (refine no_implicit_lambda% (spl (fun hc => ?_) (fun hc => ?_)) <;> first | exact zG hc | skip) | (refine no_implicit_lambda% (ans ?_)) | (with_reducible first | exact zI | exact zJ))
  exact e_ret (H' := _) (rest := [(0, .seq rows ((cp - rows.length) * 2))]) rfl ⟨cp', h1, h2, rfl, rfl⟩ (.of_eq rfl) (LE0 rfl)
 ·have hcc := of_decide_eq_false hc
  have hne : i < rows.length := by
   rename_i hc0
   have h0 : ¬ (i : Int) = rows.length := by simpa using hc0
   omega
  have hw : IntKind.i64.wrap ((rows.length : Int) + (([row].length : Nat) : Int)) = ((rows.length + 1 : Nat) : Int) := by rw [IntKind.wrap_i64, List.length_singleton]; omega
  rw [hw] at hcc ⊢
  (refine no_implicit_lambda% (aqs ?_ ?_)); focus ((repeat' (refine no_implicit_lambda% (And.intro ?_ ?_))) <;> (first | exact trivial | exact Int.natCast_nonneg _ | omega | (simp; done) | (simp; omega) | ((show (0 : Int) ≤ _); omega)))
  repeat' (first | (refine no_implicit_lambda% (zH ?_)) | (refine no_implicit_lambda% (spl (fun hc => ?_) (fun hc => ?_)) <;> first | exact zG hc | skip) | (refine no_implicit_lambda% (ans ?_)) | (with_reducible first | exact zI | exact zJ))
  have hw2 : IntKind.i64.wrap ((i : Int) + (([row].length : Nat) : Int)) = ((i + 1 : Nat) : Int) := by rw [IntKind.wrap_i64, List.length_singleton]; omega
  rw [hw2]
  (refine no_implicit_lambda% (aqs ?_ ?_)); focus ((repeat' (refine no_implicit_lambda% (And.intro ?_ ?_))) <;> (first | exact trivial | exact Int.natCast_nonneg _ | omega | (simp; done) | (simp; omega) | ((show (0 : Int) ≤ _); omega)))
  repeat' (first | (refine no_implicit_lambda% (zH ?_)) | (refine no_implicit_lambda% (spl (fun hc => ?_) (fun hc => ?_)) <;> first | exact zG hc | skip) | (refine no_implicit_lambda% (ans ?_)) | (with_reducible first | exact zI | exact zJ) | (refine no_implicit_lambda% (cal [0] (overlaps_col row rows _ _ _ _ (by intro h; rw [h] at hrow; cases hrow) (by omega)) ?_ ?_)) | fail)
  rw [show rn [0] 1 0 = 0 from rfl]
  ((with_reducible refine no_implicit_lambda% (is_ev ?_)); first | (refine no_implicit_lambda% (v_qS rfl rfl rfl rfl (qAnd4 (fun _ h => h)) (fun _ h => h) ?_ ?_)) | (refine no_implicit_lambda% (v_qS rfl rfl rfl rfl (qAnd5 (fun _ h => h)) (fun _ h => h) ?_ ?_))); focus ((repeat' (refine no_implicit_lambda% (And.intro ?_ ?_))) <;> (first | exact trivial | exact Int.natCast_nonneg _ | omega | (simp; done) | (simp; omega) | ((show (0 : Int) ≤ _); omega)))
  repeat' (first | (refine no_implicit_lambda% (zH ?_)) | (refine no_implicit_lambda% (spl (fun hc => ?_) (fun hc => ?_)) <;> first | exact zG hc | skip) | (refine no_implicit_lambda% (ans ?_)) | (with_reducible first | exact zI | exact zJ))
  ((with_reducible refine no_implicit_lambda% (is_ev ?_)); first | (refine no_implicit_lambda% (v_qS rfl rfl rfl rfl (qAnd4 (fun _ h => h)) (fun _ h => h) ?_ ?_)) | (refine no_implicit_lambda% (v_qS rfl rfl rfl rfl (qAnd5 (fun _ h => h)) (fun _ h => h) ?_ ?_))); focus ((repeat' (refine no_implicit_lambda% (And.intro ?_ ?_))) <;> (first | exact trivial | exact Int.natCast_nonneg _ | omega | (simp; done) | (simp; omega) | ((show (0 : Int) ≤ _); omega)))
  repeat' (first | (refine no_implicit_lambda% (zH ?_)) | (refine no_implicit_lambda% (spl (fun hc => ?_) (fun hc => ?_)) <;> first | exact zG hc | skip) | (refine no_implicit_lambda% (ans ?_)) | (with_reducible first | exact zI | exact zJ))
  obtain ⟨r, hr⟩ : ∃ r, rows[i]? = some r := ⟨_, List.getElem?_eq_getElem hne⟩
  (with_reducible refine zC ?_)
  refine a_copyUp (id := 0) (i := i) (sz := 2) (rows := rows) (r := r) (k2 := (cp - (rows.length + 1)) * 2) rfl rfl rfl rfl rfl rfl rfl rfl rfl (fun _ h => h) rfl rfl hR hr ?_ ?_ ?_ ?_ ?_ ?_ ?_
  ·rw [hw2]; (first | omega | (simp; done) | (simp; omega))
  ·(first | omega | (simp; done) | (simp; omega))
  ·(first | omega | (simp; done) | (simp; omega))
  ·(first | omega | (simp; done) | (simp; omega))
  ·(first | omega | (simp; done) | (simp; omega))
  ·(first | omega | (simp; done) | (simp; omega))
  intro v1
  repeat' (first | (refine no_implicit_lambda% (zH ?_)) | (refine no_implicit_lambda% (spl (fun hc => ?_) (fun hc => ?_)) <;> first | exact zG hc | skip) | (refine no_implicit_lambda% (ans ?_)) | (with_reducible first | exact zI | exact zJ))
  (refine no_implicit_lambda% (aqs ?_ ?_)); focus ((repeat' (refine no_implicit_lambda% (And.intro ?_ ?_))) <;> (first | exact trivial | exact Int.natCast_nonneg _ | omega | (simp; done) | (simp; omega) | ((show (0 : Int) ≤ _); omega)))
  repeat' (first | (refine no_implicit_lambda% (zH ?_)) | (refine no_implicit_lambda% (spl (fun hc => ?_) (fun hc => ?_)) <;> first | exact zG hc | skip) | (refine no_implicit_lambda% (ans ?_)) | (with_reducible first | exact zI | exact zJ))
  have hR2 : RowsOk 2 (rows.take i ++ r :: rows.drop i) := (hR.take i).app (RowsOk.app (r1 := [r]) (.one1 (hR.row (List.mem_of_getElem? hr))) (hR.drop i))
  (with_reducible refine zC ?_)
  refine a_copyOne (id := 0) (i := i) (sz := 2) (rows := rows.take i ++ r :: rows.drop i) (row := row) (rows' := insAt rows i row) rfl rfl rfl rfl rfl rfl rfl rfl rfl (fun _ h => h) rfl hR2 hrow ?_ ?_ ?_ ?_ (ins_set hne) ?_
  ·exact fun a ha => hR1.pure a (by simpa using ha)
  ·(first | omega | (simp; done) | (simp; omega))
  ·(first | omega | (simp; done) | (simp; omega))
  ·(first | omega | (simp; done) | (simp; omega))
  intro v2
  repeat' (first | (refine no_implicit_lambda% (zH ?_)) | (refine no_implicit_lambda% (spl (fun hc => ?_) (fun hc => ?_)) <;> first | exact zG hc | skip) | (refine no_implicit_lambda% (ans ?_)) | (with_reducible first | exact zI | exact zJ))
  refine e_ret_to (H' := [(1, .seq (insAt rows i row) ((cp - (rows.length + 1)) * 2))]) (rest := []) (Conv.anewS (j := 6) rfl (.refl _) ?_) rfl ⟨cp, by omega, hcp, rfl, rfl⟩ (.of_eq rfl) (LE0 rfl)
  rw [insAt_len _ hi]; omega
end Go.Proofs.YtncffhgoopdfgaaGreat
namespace Go.Proofs.YtncffhgoopdfgaaGreat
open Go.Am
set_option maxRecDepth 100000
theorem overlaps_ver (row : List AV) (rows : List (List AV)) (off m c k : Nat) (hrow : row ≠ []) (hne : rows.length + k ≠ 0) : ACalls Tryz.prog 214 1 1 [.list [row] .free, .arr 0 off m c] [(0, .seq rows k)] (fun out H' => out = .ret (.v (.bool false)) ∧ H' = [(0, .seq rows k)]) :=
 ext_ov (tS := 147) (tR := 4) (fn := Tryz.f214) (by kernel_rfl) (by kernel_rfl) rfl (by kernel_rfl) (by kernel_rfl) (e := 146) (by kernel_rfl) 4 (fun w => by kernel_rfl) hrow hne
set_option maxHeartbeats 3200000 in
theorem insert_ver (rows : List (List AV)) (row : List AV) (i cp : Nat) (hR : RowsOk 4 rows) (hR1 : RowsOk 4 [row]) (hi : i ≤ rows.length) (hl : rows.length < 1000000000) (hcp0 : rows.length ≤ cp) (hcp : cp ≤ maxLen) : ACalls Tryz.prog 197 1 2 [.arr 0 0 rows.length cp, .v (.int .i64 i), .list [row] .free] [(0, .seq rows ((cp - rows.length) * 4))] (fun out H' => ∃ cp', rows.length + 1 ≤ cp' ∧ cp' ≤ maxLen ∧ out = .ret (.arr 1 0 (rows.length + 1) cp') ∧ H' = [(1, .seq (insAt rows i row) ((cp' - (rows.length + 1)) * 4))]) := by
 have hrow : row.length = 4 := hR1.len row (by simp)
 refine no_implicit_lambda% (acalls_of tok dok (f := 197) ⟨Tryz.func197, rfl, by kernel_rfl⟩ ?_); refine no_implicit_lambda% (c_start (fun _ h => h) ?_)
 repeat' (first | (refine no_implicit_lambda% (zH ?_)) | (refine no_implicit_lambda% (spl (fun hc => ?_) (fun hc => ?_)) <;> first | exact zG hc | skip) | (refine no_implicit_lambda% (ans ?_)) | (with_reducible first | exact zI | exact zJ))
 (refine no_implicit_lambda% (aqs ?_ ?_)); focus ((repeat' (refine no_implicit_lambda% (And.intro ?_ ?_))) <;> (first | exact trivial | exact Int.natCast_nonneg _ | omega | (simp; done) | (simp; omega) | ((show (0 : Int) ≤ _); omega)))
 repeat' (first | (refine no_implicit_lambda% (zH ?_)) | (refine no_implicit_lambda% (spl (fun hc => ?_) (fun hc => ?_)) <;> first | exact zG hc | skip) | (refine no_implicit_lambda% (ans ?_)) | (with_reducible first | exact zI | exact zJ))
 ·have hin : i = rows.length := by
   have h0 : (i : Int) = rows.length := by simpa using hc
   omega
  subst hin
  ((with_reducible refine no_implicit_lambda% (zC ?_)); refine no_implicit_lambda% (a_appS (sz := 4) (B := 48) (m2 := rows.length + 1) (rows3 := rows ++ [row]) rfl rfl rfl rfl rfl rfl rfl rfl rfl rfl rfl (fun _ h => h) rfl rfl (hR) (hR1) (by first | rfl | (exact List.length_map ..) | (simp; done) | (simp; omega)) rfl (by first | omega | (simp; omega)) (by first | rfl | (simp; done) | (simp; omega)) (by first | rfl | (exact map_snoc _ _) | (rw [List.map_append]; rfl) | (simp; done)) ?_))
  intro cp' h1 h2
  refine no_implicit_lambda% (akc ?_)
  refine no_implicit_lambda% (awd ?_)
  exact e_ret (H' := _) (rest := []) rfl ⟨cp', h1, h2, rfl, by rw [insAt_end]⟩ (.of_eq rfl) (LE0 rfl)
 ·have hcc := of_decide_eq_true hc
  have hne : i < rows.length := by
   rename_i hc0
   have h0 : ¬ (i : Int) = rows.length := by simpa using hc0
   omega
  have hw : IntKind.i64.wrap ((rows.length : Int) + (([row].length : Nat) : Int)) = ((rows.length + 1 : Nat) : Int) := by rw [IntKind.wrap_i64, List.length_singleton]; omega
  rw [hw] at hcc ⊢
  (refine no_implicit_lambda% (aqs ?_ ?_)); focus ((repeat' (refine no_implicit_lambda% (And.intro ?_ ?_))) <;> (first | exact trivial | exact Int.natCast_nonneg _ | omega | (simp; done) | (simp; omega) | ((show (0 : Int) ≤ _); omega)))
  repeat' (first | (refine no_implicit_lambda% (zH ?_)) | (refine no_implicit_lambda% (spl (fun hc => ?_) (fun hc => ?_)) <;> first | exact zG hc | skip) | (refine no_implicit_lambda% (ans ?_)) | (with_reducible first | exact zI | exact zJ))
  have hw2 : IntKind.i64.wrap (IntKind.i64.wrap ((rows.length : Int) + (([row].length : Nat) : Int)) - (i : Int)) = ((rows.length + 1 - i : Nat) : Int) := by rw [hw, IntKind.wrap_i64]; omega
  rw [hw2]
  (with_reducible refine zC ?_)
  refine a_app_zeros (id := 0) (off := 0) (nn := i) (cp := cp) (m := rows.length + 1 - i) (rows0 := rows.take i) rfl rfl rfl rfl rfl rfl rfl rfl rfl rfl rfl rfl (by omega) (by omega) ⟨by show (i + (rows.length + 1 - i)) * 48 ≤ _; omega, by omega⟩ (aolds_take rfl hR hi rfl) rfl (hR.take i).pure ?_
  intro cp' h1 h2
  rw [show i + (rows.length + 1 - i) = rows.length + 1 by omega] at h1 ⊢
  repeat' (first | (refine no_implicit_lambda% (zH ?_)) | (refine no_implicit_lambda% (spl (fun hc => ?_) (fun hc => ?_)) <;> first | exact zG hc | skip) | (refine no_implicit_lambda% (ans ?_)) | (with_reducible first | exact zI | exact zJ))
  (refine no_implicit_lambda% (aqs ?_ ?_)); focus ((repeat' (refine no_implicit_lambda% (And.intro ?_ ?_))) <;> (first | exact trivial | exact Int.natCast_nonneg _ | omega | (simp; done) | (simp; omega) | ((show (0 : Int) ≤ _); omega)))
  repeat' (first | (refine no_implicit_lambda% (zH ?_)) | (refine no_implicit_lambda% (spl (fun hc => ?_) (fun hc => ?_)) <;> first | exact zG hc | skip) | (refine no_implicit_lambda% (ans ?_)) | (with_reducible first | exact zI | exact zJ))
  (with_reducible refine zC ?_)
  refine a_copyEnd (id := 1) (m := 1) (sz := 4) (rows := rows.take i) (rows2 := [row]) (rows' := rows.take i ++ [row]) (k2 := (cp' - (i + 1)) * 4) rfl rfl rfl rfl rfl rfl rfl rfl (fun K h => asrc_rows rfl hR1.len ?_ h) (fun _ h => h) rfl (hR.take i) hR1 ?_ ?_ ?_ ?_ rfl ?_ ?_
  ·simp; omega
  ·exact Nat.min_eq_left (by omega)
  ·simp; omega
  ·simp; omega
  ·simp; omega
  ·simp; omega
  intro v1
  refine no_implicit_lambda% (akc ?_)
  repeat' (first | (refine no_implicit_lambda% (zH ?_)) | (refine no_implicit_lambda% (spl (fun hc => ?_) (fun hc => ?_)) <;> first | exact zG hc | skip) | (refine no_implicit_lambda% (ans ?_)) | (with_reducible first | exact zI | exact zJ))
  have hw3 : IntKind.i64.wrap ((i : Int) + (([row].length : Nat) : Int)) = ((i + 1 : Nat) : Int) := by rw [IntKind.wrap_i64, List.length_singleton]; omega
  rw [hw3]
  ((with_reducible refine no_implicit_lambda% (is_ev ?_)); first | (refine no_implicit_lambda% (v_qS rfl rfl rfl rfl (qAnd4 (fun _ h => h)) (fun _ h => h) ?_ ?_)) | (refine no_implicit_lambda% (v_qS rfl rfl rfl rfl (qAnd5 (fun _ h => h)) (fun _ h => h) ?_ ?_))); focus ((repeat' (refine no_implicit_lambda% (And.intro ?_ ?_))) <;> (first | exact trivial | exact Int.natCast_nonneg _ | omega | (simp; done) | (simp; omega) | ((show (0 : Int) ≤ _); omega)))
  repeat' (first | (refine no_implicit_lambda% (zH ?_)) | (refine no_implicit_lambda% (spl (fun hc => ?_) (fun hc => ?_)) <;> first | exact zG hc | skip) | (refine no_implicit_lambda% (ans ?_)) | (with_reducible first | exact zI | exact zJ))
  ((with_reducible refine no_implicit_lambda% (is_ev ?_)); first | (refine no_implicit_lambda% (v_qS rfl rfl rfl rfl (qAnd4 (fun _ h => h)) (fun _ h => h) ?_ ?_)) | (refine no_implicit_lambda% (v_qS rfl rfl rfl rfl (qAnd5 (fun _ h => h)) (fun _ h => h) ?_ ?_))); focus ((repeat' (refine no_implicit_lambda% (And.intro ?_ ?_))) <;> (first | exact trivial | exact Int.natCast_nonneg _ | omega | (simp; done) | (simp; omega) | ((show (0 : Int) ≤ _); omega)))
  repeat' (first | (refine no_implicit_lambda% (zH ?_)) | (refine no_implicit_lambda% (spl (fun hc => ?_) (fun hc => ?_)) <;> first | exact zG hc | skip) | (refine no_implicit_lambda% (ans ?_)) | (with_reducible first | exact zI | exact zJ))
  (with_reducible refine zC ?_)
  refine a_copyEnd (id := 1) (m := rows.length - i) (sz := 4) (rows := rows.take i ++ [row]) (rows2 := rows.drop i) (rows' := insAt rows i row) (k2 := (cp' - (rows.length + 1)) * 4) rfl rfl rfl rfl rfl rfl rfl rfl (fun K h => asrc_drop rfl rfl hR hi ?_ ?_ ?_ h) (fun _ h => h) rfl ((hR.take i).app hR1) (hR.drop i) ?_ ?_ ?_ ?_ ?_ ?_ ?_
  ·simp
  ·simp
  ·simp
  ·rw [List.length_drop]; exact Nat.min_eq_left (by omega)
  ·simp; omega
  ·simp; omega
  ·simp
  ·simp [insAt]
  ·simp; omega
  intro v2
  repeat' (first | (refine no_implicit_lambda% (zH ?_)) | (refine no_implicit_lambda% (spl (fun hc => ?_) (fun hc => ?_)) <;> first | exact zG hc | skip) | (refine no_implicit_lambda% (ans ?_)) | (with_reducible first | exact zI | exact zJ))
  exact e_ret (H' := _) (rest := [(0, .seq rows ((cp - rows.length) * 4))]) rfl ⟨cp', h1, h2, rfl, rfl⟩ (.of_eq rfl) (LE0 rfl)
 ·have hcc := of_decide_eq_false hc
  have hne : i < rows.length := by
   rename_i hc0
   have h0 : ¬ (i : Int) = rows.length := by simpa using hc0
   omega
  have hw : IntKind.i64.wrap ((rows.length : Int) + (([row].length : Nat) : Int)) = ((rows.length + 1 : Nat) : Int) := by rw [IntKind.wrap_i64, List.length_singleton]; omega
  rw [hw] at hcc ⊢
  (refine no_implicit_lambda% (aqs ?_ ?_)); focus ((repeat' (refine no_implicit_lambda% (And.intro ?_ ?_))) <;> (first | exact trivial | exact Int.natCast_nonneg _ | omega | (simp; done) | (simp; omega) | ((show (0 : Int) ≤ _); omega)))
  repeat' (first | (refine no_implicit_lambda% (zH ?_)) | (refine no_implicit_lambda% (spl (fun hc => ?_) (fun hc => ?_)) <;> first | exact zG hc | skip) | (refine no_implicit_lambda% (ans ?_)) | (with_reducible first | exact zI | exact zJ))
  have hw2 : IntKind.i64.wrap ((i : Int) + (([row].length : Nat) : Int)) = ((i + 1 : Nat) : Int) := by rw [IntKind.wrap_i64, List.length_singleton]; omega
  rw [hw2]
  (refine no_implicit_lambda% (aqs ?_ ?_)); focus ((repeat' (refine no_implicit_lambda% (And.intro ?_ ?_))) <;> (first | exact trivial | exact Int.natCast_nonneg _ | omega | (simp; done) | (simp; omega) | ((show (0 : Int) ≤ _); omega)))
  repeat' (first | (refine no_implicit_lambda% (zH ?_)) | (refine no_implicit_lambda% (spl (fun hc => ?_) (fun hc => ?_)) <;> first | exact zG hc | skip) | (refine no_implicit_lambda% (ans ?_)) | (with_reducible first | exact zI | exact zJ) | (refine no_implicit_lambda% (cal [0] (overlaps_ver row rows _ _ _ _ (by intro h; rw [h] at hrow; cases hrow) (by omega)) ?_ ?_)) | fail)
  rw [show rn [0] 1 0 = 0 from rfl]
  ((with_reducible refine no_implicit_lambda% (is_ev ?_)); first | (refine no_implicit_lambda% (v_qS rfl rfl rfl rfl (qAnd4 (fun _ h => h)) (fun _ h => h) ?_ ?_)) | (refine no_implicit_lambda% (v_qS rfl rfl rfl rfl (qAnd5 (fun _ h => h)) (fun _ h => h) ?_ ?_))); focus ((repeat' (refine no_implicit_lambda% (And.intro ?_ ?_))) <;> (first | exact trivial | exact Int.natCast_nonneg _ | omega | (simp; done) | (simp; omega) | ((show (0 : Int) ≤ _); omega)))
  repeat' (first | (refine no_implicit_lambda% (zH ?_)) | (refine no_implicit_lambda% (spl (fun hc => ?_) (fun hc => ?_)) <;> first | exact zG hc | skip) | (refine no_implicit_lambda% (ans ?_)) | (with_reducible first | exact zI | exact zJ))
  ((with_reducible refine no_implicit_lambda% (is_ev ?_)); first | (refine no_implicit_lambda% (v_qS rfl rfl rfl rfl (qAnd4 (fun _ h => h)) (fun _ h => h) ?_ ?_)) | (refine no_implicit_lambda% (v_qS rfl rfl rfl rfl (qAnd5 (fun _ h => h)) (fun _ h => h) ?_ ?_))); focus ((repeat' (refine no_implicit_lambda% (And.intro ?_ ?_))) <;> (first | exact trivial | exact Int.natCast_nonneg _ | omega | (simp; done) | (simp; omega) | ((show (0 : Int) ≤ _); omega)))
  repeat' (first | (refine no_implicit_lambda% (zH ?_)) | (refine no_implicit_lambda% (spl (fun hc => ?_) (fun hc => ?_)) <;> first | exact zG hc | skip) | (refine no_implicit_lambda% (ans ?_)) | (with_reducible first | exact zI | exact zJ))
  obtain ⟨r, hr⟩ : ∃ r, rows[i]? = some r := ⟨_, List.getElem?_eq_getElem hne⟩
  (with_reducible refine zC ?_)
  refine a_copyUp (id := 0) (i := i) (sz := 4) (rows := rows) (r := r) (k2 := (cp - (rows.length + 1)) * 4) rfl rfl rfl rfl rfl rfl rfl rfl rfl (fun _ h => h) rfl rfl hR hr ?_ ?_ ?_ ?_ ?_ ?_ ?_
  ·rw [hw2]; (first | omega | (simp; done) | (simp; omega))
  ·(first | omega | (simp; done) | (simp; omega))
  ·(first | omega | (simp; done) | (simp; omega))
  ·(first | omega | (simp; done) | (simp; omega))
  ·(first | omega | (simp; done) | (simp; omega))
  ·(first | omega | (simp; done) | (simp; omega))
  intro v1
  repeat' (first | (refine no_implicit_lambda% (zH ?_)) | (refine no_implicit_lambda% (spl (fun hc => ?_) (fun hc => ?_)) <;> first | exact zG hc | skip) | (refine no_implicit_lambda% (ans ?_)) | (with_reducible first | exact zI | exact zJ))
  (refine no_implicit_lambda% (aqs ?_ ?_)); focus ((repeat' (refine no_implicit_lambda% (And.intro ?_ ?_))) <;> (first | exact trivial | exact Int.natCast_nonneg _ | omega | (simp; done) | (simp; omega) | ((show (0 : Int) ≤ _); omega)))
  repeat' (first | (refine no_implicit_lambda% (zH ?_)) | (refine no_implicit_lambda% (spl (fun hc => ?_) (fun hc => ?_)) <;> first | exact zG hc | skip) | (refine no_implicit_lambda% (ans ?_)) | (with_reducible first | exact zI | exact zJ))
  have hR2 : RowsOk 4 (rows.take i ++ r :: rows.drop i) := (hR.take i).app (RowsOk.app (r1 := [r]) (.one1 (hR.row (List.mem_of_getElem? hr))) (hR.drop i))
  (with_reducible refine zC ?_)
  refine a_copyOne (id := 0) (i := i) (sz := 4) (rows := rows.take i ++ r :: rows.drop i) (row := row) (rows' := insAt rows i row) rfl rfl rfl rfl rfl rfl rfl rfl rfl (fun _ h => h) rfl hR2 hrow ?_ ?_ ?_ ?_ (ins_set hne) ?_
  ·exact fun a ha => hR1.pure a (by simpa using ha)
  ·(first | omega | (simp; done) | (simp; omega))
  ·(first | omega | (simp; done) | (simp; omega))
  ·(first | omega | (simp; done) | (simp; omega))
  intro v2
  repeat' (first | (refine no_implicit_lambda% (zH ?_)) | (refine no_implicit_lambda% (spl (fun hc => ?_) (fun hc => ?_)) <;> first | exact zG hc | skip) | (refine no_implicit_lambda% (ans ?_)) | (with_reducible first | exact zI | exact zJ))
  refine e_ret_to (H' := [(1, .seq (insAt rows i row) ((cp - (rows.length + 1)) * 4))]) (rest := []) (Conv.anewS (j := 6) rfl (.refl _) ?_) rfl ⟨cp, by omega, hcp, rfl, rfl⟩ (.of_eq rfl) (LE0 rfl)
  rw [insAt_len _ hi]; omega
end Go.Proofs.YtncffhgoopdfgaaGreat
namespace Go.Proofs.YtncffhgoopdfgaaGreat
open Go.Am
set_option maxRecDepth 100000
def sl1 (n : Nat) (s : Int) : Heap := [(n, .box [.v (.int .i64 s)])]
def TimeIs (f : Nat) : Prop := ∀ (t : Ve) (s : Int), ACalls Tryz.prog f 1 5 [.agg (verow t), .ptr 0 0] (sl1 0 s) (fun out H' => out = .ret (.v (.bool (decide (t.t = s)))) ∧ H' = sl1 0 s)
theorem put1_c : TimeIs 196 := fun t s => by
 refine no_implicit_lambda% (acalls_of tok dok (f := 196) ⟨Tryz.func196, rfl, by kernel_rfl⟩ ?_); refine no_implicit_lambda% (c_start (fun _ h => h) ?_)
 repeat' (first | (refine no_implicit_lambda% (zH ?_)) | (refine no_implicit_lambda% (spl (fun hc => ?_) (fun hc => ?_)) <;> first | exact zG hc | skip) | (refine no_implicit_lambda% (ans ?_)) | (with_reducible first | exact zI | exact zJ))
 exact e_ret (H' := sl1 0 s) (rest := _) rfl ⟨rfl, rfl⟩ permT (LE0 rfl)
theorem drop1_c : TimeIs 198 := fun t s => by
 refine no_implicit_lambda% (acalls_of tok dok (f := 198) ⟨Tryz.func198, rfl, by kernel_rfl⟩ ?_); refine no_implicit_lambda% (c_start (fun _ h => h) ?_)
 repeat' (first | (refine no_implicit_lambda% (zH ?_)) | (refine no_implicit_lambda% (spl (fun hc => ?_) (fun hc => ?_)) <;> first | exact zG hc | skip) | (refine no_implicit_lambda% (ans ?_)) | (with_reducible first | exact zI | exact zJ))
 exact e_ret (H' := sl1 0 s) (rest := _) rfl ⟨rfl, rfl⟩ permT (LE0 rfl)
def ifSt (f : Nat) (l : List Ve) (cp k : Nat) (s : Int) (i : Nat) : ASt := ⟨([.arr 0 0 l.length cp, .fn f [.ptr 1 0]] ++ List.replicate 5 .dead ++ [.v (.int .i64 l.length), .v (.int .i64 i)] ++ List.replicate 10 .dead), [(0, .seq (l.map verow) k)] ++ sl1 1 s, 2⟩
abbrev ifR (l : List Ve) (k : Nat) (s : Int) (out : AOut) (H' : Heap) : Prop := ∃ r : Int, ((∃ (i : Nat) (t : Ve), l[i]? = some t ∧ t.t = s ∧ (∀ u ∈ l.take i, ¬ u.t = s) ∧ r = i) ∨ ((∀ u ∈ l, ¬ u.t = s) ∧ r = -1)) ∧ out = .ret (.v (.int .i64 r)) ∧ H' = [(0, .seq (l.map verow) k)] ++ sl1 1 s
theorem indexf_c {f : Nat} (hF : TimeIs f) (l : List Ve) (cp k : Nat) (s : Int) (hl : l.length < 1000000) : ACalls Tryz.prog 213 2 50 [.arr 0 0 l.length cp, .fn f [.ptr 1 0]] ([(0, .seq (l.map verow) k)] ++ sl1 1 s) (ifR l k s) := by
 refine no_implicit_lambda% (acalls_of tok dok (f := 213) ⟨Tryz.func213, rfl, by kernel_rfl⟩ ?_); refine no_implicit_lambda% (c_start (fun _ h => h) ?_)
 repeat' (first | (refine no_implicit_lambda% (zH ?_)) | (refine no_implicit_lambda% (spl (fun hc => ?_) (fun hc => ?_)) <;> first | exact zG hc | skip) | (refine no_implicit_lambda% (ans ?_)) | (with_reducible first | exact zI | exact zJ))
 refine c_loop' (ifSt f l cp k s) (fun i => i ≤ l.length ∧ ∀ u ∈ l.take i, ¬ u.t = s) (fun i => l.length - i) (a := 0) ⟨Nat.zero_le _, by simp⟩ ?_ ?_
 ·(refine no_implicit_lambda% (Conv.toT ?_ ?_ (LE0 rfl))); (focus ((unfold ifSt); (try dsimp only); exact wkl)); (focus ((unfold ifSt); (try dsimp only); exact wkh))
 ·rintro i ⟨i1, i2⟩
  refine c_turn (n' := 2) (fun _ h => h) (fun _ h => h) rfl ?_
  rcases ht : l[i]? with _ | t
  ·have hi : i = l.length := by have := List.getElem?_eq_none_iff.1 ht; omega
   repeat' (first | (refine no_implicit_lambda% (zH ?_)) | (refine no_implicit_lambda% (spl (fun hc => ?_) (fun hc => ?_)) <;> first | exact zG hc | skip) | (refine no_implicit_lambda% (ans ?_)) | (with_reducible first | exact zI | exact zJ))
   rw [hi, List.take_length] at i2
   exact e_ret (H' := [(0, .seq (l.map verow) k)] ++ sl1 1 s) (rest := []) rfl ⟨-1, .inr ⟨i2, rfl⟩, rfl, rfl⟩ permT (LE0 rfl)
  ·have hi : i < l.length := (List.getElem?_eq_some_iff.1 ht).1
   have hts : l.take (i + 1) = l.take i ++ [t] := by rw [List.take_add_one, ht]; rfl
   repeat' (first | (refine no_implicit_lambda% (zH ?_)) | (refine no_implicit_lambda% (spl (fun hc => ?_) (fun hc => ?_)) <;> first | exact zG hc | skip) | (refine no_implicit_lambda% (ans ?_)) | (with_reducible first | exact zI | exact zJ))
   (refine no_implicit_lambda% (aqs ?_ ?_)); focus (first | omega | (simp; done) | (simp; omega))
   repeat' (first | (refine no_implicit_lambda% (zH ?_)) | (refine no_implicit_lambda% (spl (fun hc => ?_) (fun hc => ?_)) <;> first | exact zG hc | skip) | (refine no_implicit_lambda% (ans ?_)) | (with_reducible first | exact zI | exact zJ))
   ((with_reducible refine no_implicit_lambda% (zC ?_)); refine no_implicit_lambda% (a_loadSeqA (sz := 4) (rows := l.map verow) (i := i) (j := 0) rfl rfl rfl rfl rfl (veOk l) ((by rw [List.getElem?_map, ht]; rfl)) (by first | decide | (simp; done)) rfl (by first | rfl | (simp; done) | (simp; omega)) ?_))
   repeat' (first | (refine no_implicit_lambda% (zH ?_)) | (refine no_implicit_lambda% (spl (fun hc => ?_) (fun hc => ?_)) <;> first | exact zG hc | skip) | (refine no_implicit_lambda% (ans ?_)) | (with_reducible first | exact zI | exact zJ) | (refine no_implicit_lambda% (cal [1] (hF t s) ?_ ?_)) | fail)
   ·exact e_ret (H' := [(0, .seq (l.map verow) k)] ++ sl1 1 s) (rest := []) rfl ⟨i, .inl ⟨i, t, ht, of_decide_eq_true hc, i2, rfl⟩, rfl, rfl⟩ permT (LE0 rfl)
   ·(refine no_implicit_lambda% (k_loopLT (i + 1) 2 [0, 1] (by show i + 1 ≤ l.length ∧ ∀ u ∈ l.take (i + 1), ¬ u.t = s; exact ⟨hi, by rw [hts]; intro u hu; rcases List.mem_append.1 hu with hu | hu; exact i2 u hu; rw [List.mem_singleton.1 hu]; exact of_decide_eq_false hc⟩) (by first | omega | (simp; done) | (simp; omega)) (LE0 rfl) (fun _ h => h) (fun _ h => h) ?_ ?_)); (focus ((try dsimp only); exact wkl)); (focus ((try dsimp only); exact wkh))
theorem dropV_snoc (l : List Ve) (t : Ve) (s : Int) : dropV (l ++ [t]) s = dropV l s ++ (if t.t = s then [] else [t]) := by
 unfold dropV
 rw [List.filter_append]
 congr 1
 by_cases h : t.t = s <;> simp [h]
theorem dropV_len (l : List Ve) (s : Int) : (dropV l s).length ≤ l.length := List.length_filter_le _ _
def dfSt (f : Nat) (l cur : List Ve) (cp k : Nat) (s : Int) (i j : Nat) : ASt := ⟨([.arr 0 0 l.length cp, .fn f [.ptr 1 0], .dead, .dead, .dead, .v (.int .i64 i), .v (.int .i64 j)] ++ List.replicate 35 .dead), [(0, .seq (cur.map verow) k)] ++ sl1 1 s, 50⟩
theorem deletef_c {f : Nat} (hF : TimeIs f) (l : List Ve) (cp : Nat) (s : Int) (hl : l.length < 1000000) (hcp : l.length ≤ cp) : ACalls Tryz.prog 195 2 200 [.arr 0 0 l.length cp, .fn f [.ptr 1 0]] ([(0, .seq (l.map verow) ((cp - l.length) * 4))] ++ sl1 1 s) (fun out H' => out = .ret (.arr 0 0 (dropV l s).length cp) ∧ H' = [(0, .seq ((dropV l s).map verow) ((cp - (dropV l s).length) * 4))] ++ sl1 1 s) := by
 refine no_implicit_lambda% (acalls_of tok dok (f := 195) ⟨Tryz.func195, rfl, by kernel_rfl⟩ ?_); refine no_implicit_lambda% (c_start (fun _ h => h) ?_)
 refine no_implicit_lambda% (awd ?_)
 (refine no_implicit_lambda% (cal [0, 1] (indexf_c hF l cp ((cp - l.length) * 4) s hl) ?_ ?_))
 ·intro xx H' hh
  obtain ⟨r, hr, h', rfl⟩ := hh
  cases h'
  first | (refine no_implicit_lambda% (akc ?_)) | (refine no_implicit_lambda% (aec ?_))
  repeat' (first | (refine no_implicit_lambda% (zH ?_)) | (refine no_implicit_lambda% (spl (fun hc => ?_) (fun hc => ?_)) <;> first | exact zG hc | skip) | (refine no_implicit_lambda% (ans ?_)) | (with_reducible first | exact zI | exact zJ))
  ·have hr1 : r = -1 := by simpa using hc
   have hk : dropV l s = l := by
    rcases hr with ⟨i, t, _, _, _, e⟩ | ⟨h, _⟩
    ·omega
    ·unfold dropV
     rw [List.filter_eq_self]
     intro t ht
     simpa using h t ht
   rw [hk]
   exact e_ret (H' := [(0, .seq (l.map verow) ((cp - l.length) * 4))] ++ sl1 1 s) (rest := []) rfl ⟨rfl, rfl⟩ permT (LE0 rfl)
  ·have hr1 : r ≠ -1 := by simpa using hc
   obtain ⟨i, t, ht, htc, hi2, rfl⟩ : ∃ (i : Nat) (t : Ve), l[i]? = some t ∧ t.t = s ∧ (∀ u ∈ l.take i, ¬ u.t = s) ∧ r = i := by
    rcases hr with h | ⟨_, e⟩
    ·exact h
    ·exact absurd e hr1
   have hil : i < l.length := (List.getElem?_eq_some_iff.1 ht).1
   rw [show IntKind.i64.wrap ((i : Int) + 1) = ((i + 1 : Nat) : Int) by rw [IntKind.wrap_i64]; omega]
   have hk0 : dropV (l.take (i + 1)) s = l.take i := by
    rw [List.take_add_one, ht]
    show dropV (l.take i ++ [t]) s = _
    rw [dropV_snoc, if_pos htc, List.append_nil]
    unfold dropV
    rw [List.filter_eq_self]
    intro u hu
    simpa using hi2 u hu
   refine c_l3 (fun cur a j => dfSt f l cur cp ((cp - l.length) * 4) s a j) (fun cur a j => j ≤ l.length ∧ a ≤ j ∧ cur.length = l.length ∧ cur.take a = dropV (l.take j) s ∧ cur.drop j = l.drop j ∧ a = (dropV (l.take j) s).length) (fun _ _ j => l.length - j) l i (i + 1) ⟨hil, by omega, rfl, hk0.symm, rfl, by rw [hk0, List.length_take]; omega⟩ ?_ ?_
   ·(refine no_implicit_lambda% (Conv.toT ?_ ?_ (LE0 rfl))); (focus ((unfold dfSt); (try dsimp only); exact wkl)); (focus ((unfold dfSt); (try dsimp only); exact wkh))
   ·rintro cur a j ⟨j1, j2, j3, j4, j5, j6⟩
    refine c_turn (n' := 50) (fun _ h => h) (fun _ h => h) rfl ?_
    rcases hu : l[j]? with _ | u
    ·have hj : j = l.length := by have := List.getElem?_eq_none_iff.1 hu; omega
     repeat' (first | (refine no_implicit_lambda% (zH ?_)) | (refine no_implicit_lambda% (spl (fun hc => ?_) (fun hc => ?_)) <;> first | exact zG hc | skip) | (refine no_implicit_lambda% (ans ?_)) | (with_reducible first | exact zI | exact zJ))
     (refine no_implicit_lambda% (aqs ?_ ?_)); focus ((repeat' (refine no_implicit_lambda% (And.intro ?_ ?_))) <;> (first | exact trivial | exact Int.natCast_nonneg _ | omega | (simp; done) | (simp; omega) | ((show (0 : Int) ≤ _); omega)))
     repeat' (first | (refine no_implicit_lambda% (zH ?_)) | (refine no_implicit_lambda% (spl (fun hc => ?_) (fun hc => ?_)) <;> first | exact zG hc | skip) | (refine no_implicit_lambda% (ans ?_)) | (with_reducible first | exact zI | exact zJ))
     have hcl : (cur.map verow).length = l.length := by rw [List.length_map]; exact j3
     rw [hj, List.take_length] at j4 j6
     (with_reducible refine zC ?_)
     refine a_clearToC (id := 0) (i := a) (sz := 4) (rows := cur.map verow) (k2 := (cp - a) * 4) rfl rfl rfl rfl rfl rfl rfl rfl rfl rfl (fun _ h => h) rfl (veOk cur) ?_ ?_ ?_ ?_ ?_ ?_
     ·omega
     ·simp
     ·rw [hcl]; simp
     ·omega
     ·rw [hcl]; omega
     repeat' (first | (refine no_implicit_lambda% (zH ?_)) | (refine no_implicit_lambda% (spl (fun hc => ?_) (fun hc => ?_)) <;> first | exact zG hc | skip) | (refine no_implicit_lambda% (ans ?_)) | (with_reducible first | exact zI | exact zJ))
     (refine no_implicit_lambda% (aqs ?_ ?_)); focus ((repeat' (refine no_implicit_lambda% (And.intro ?_ ?_))) <;> (first | exact trivial | exact Int.natCast_nonneg _ | omega | (simp; done) | (simp; omega) | ((show (0 : Int) ≤ _); omega)))
     repeat' (first | (refine no_implicit_lambda% (zH ?_)) | (refine no_implicit_lambda% (spl (fun hc => ?_) (fun hc => ?_)) <;> first | exact zG hc | skip) | (refine no_implicit_lambda% (ans ?_)) | (with_reducible first | exact zI | exact zJ))
     have hfin : (cur.map verow).take a = (dropV l s).map verow := by rw [← List.map_take, j4]
     rw [hfin, j6]
     exact e_ret (H' := [(0, .seq ((dropV l s).map verow) ((cp - (dropV l s).length) * 4))] ++ sl1 1 s) (rest := []) rfl ⟨rfl, rfl⟩ permT (LE0 rfl)
    ·have hj : j < l.length := (List.getElem?_eq_some_iff.1 hu).1
     have hcu : cur[j]? = some u := by
      have := congrArg (fun z => z[0]?) j5
      simp only [List.getElem?_drop, Nat.add_zero] at this
      rw [this, hu]
     have hts : l.take (j + 1) = l.take j ++ [u] := by rw [List.take_add_one, hu]; rfl
     have hkj := dropV_snoc (l.take j) u s
     rw [← hts] at hkj
     have hdr : cur.drop (j + 1) = l.drop (j + 1) := by
      have := congrArg (List.drop 1) j5
      simpa [List.drop_drop] using this
     repeat' (first | (refine no_implicit_lambda% (zH ?_)) | (refine no_implicit_lambda% (spl (fun hc => ?_) (fun hc => ?_)) <;> first | exact zG hc | skip) | (refine no_implicit_lambda% (ans ?_)) | (with_reducible first | exact zI | exact zJ))
     (refine no_implicit_lambda% (aqs ?_ ?_)); focus (first | omega | (simp; done) | (simp; omega))
     repeat' (first | (refine no_implicit_lambda% (zH ?_)) | (refine no_implicit_lambda% (spl (fun hc => ?_) (fun hc => ?_)) <;> first | exact zG hc | skip) | (refine no_implicit_lambda% (ans ?_)) | (with_reducible first | exact zI | exact zJ))
     ((with_reducible refine no_implicit_lambda% (zC ?_)); refine no_implicit_lambda% (a_loadSeqA (sz := 4) (rows := cur.map verow) (i := j) (j := 0) rfl rfl rfl rfl rfl (veOk cur) ((by rw [List.getElem?_map, hcu]; rfl)) (by first | decide | (simp; done)) rfl (by first | rfl | (simp; done) | (simp; omega)) ?_))
     repeat' (first | (refine no_implicit_lambda% (zH ?_)) | (refine no_implicit_lambda% (spl (fun hc => ?_) (fun hc => ?_)) <;> first | exact zG hc | skip) | (refine no_implicit_lambda% (ans ?_)) | (with_reducible first | exact zI | exact zJ) | (refine no_implicit_lambda% (cal [1] (hF u s) ?_ ?_)) | fail)
     ·have hcc : ¬ u.t = s := by simpa using hc
      rw [if_neg hcc] at hkj
      (refine no_implicit_lambda% (aqs ?_ ?_)); focus (first | omega | (simp; done) | (simp; omega))
      repeat' (first | (refine no_implicit_lambda% (zH ?_)) | (refine no_implicit_lambda% (spl (fun hc => ?_) (fun hc => ?_)) <;> first | exact zG hc | skip) | (refine no_implicit_lambda% (ans ?_)) | (with_reducible first | exact zI | exact zJ))
      obtain ⟨w, hw⟩ : ∃ w, cur[a]? = some w := ⟨_, List.getElem?_eq_getElem (by omega)⟩
      ((with_reducible refine no_implicit_lambda% (zC ?_)); refine no_implicit_lambda% (a_storeSeq (sz := 4) (rows := cur.map verow) (i := a) (j := 0) (row' := verow u) rfl rfl rfl (fun _ h => h) rfl rfl (veOk cur) ((by rw [List.getElem?_map, hw]; rfl)) (by first | decide | (simp; done)) (by first | rfl | (simp; done)) (by first | rfl | (simp; done) | (simp; omega)) ?_))
      repeat' (first | (refine no_implicit_lambda% (zH ?_)) | (refine no_implicit_lambda% (spl (fun hc => ?_) (fun hc => ?_)) <;> first | exact zG hc | skip) | (refine no_implicit_lambda% (ans ?_)) | (with_reducible first | exact zI | exact zJ))
      rw [← List.map_set]
      have hset1 : (cur.set a u).take (a + 1) = dropV (l.take (j + 1)) s := by
       rw [hkj, ← j4, List.take_add_one, List.getElem?_set_self (by omega), List.take_set_of_le (Nat.le_refl _)]; rfl
      have hset2 : (cur.set a u).drop (j + 1) = l.drop (j + 1) := by rw [List.drop_set_of_lt (by omega)]; exact hdr
      (refine no_implicit_lambda% (k_loopLT (((cur.set a u, a + 1, j + 1) : List Ve × Nat × Nat)) 2 (List.range 50) (by show j + 1 ≤ l.length ∧ a + 1 ≤ j + 1 ∧ (cur.set a u).length = l.length ∧ (cur.set a u).take (a + 1) = dropV (l.take (j + 1)) s ∧ (cur.set a u).drop (j + 1) = l.drop (j + 1) ∧ a + 1 = (dropV (l.take (j + 1)) s).length; exact ⟨hj, by omega, by rw [List.length_set]; exact j3, hset1, hset2, by rw [hkj, List.length_append, ← j6]; rfl⟩) (by first | omega | (simp; done) | (simp; omega)) (LE0 rfl) (fun _ h => h) (fun _ h => h) ?_ ?_)); (focus ((try dsimp only); exact wkl)); (focus ((try dsimp only); exact wkh))
     ·have hcc : u.t = s := by simpa using hc
      rw [if_pos hcc, List.append_nil] at hkj
      (refine no_implicit_lambda% (k_loopLT (((cur, a, j + 1) : List Ve × Nat × Nat)) 2 (List.range 50) (by show j + 1 ≤ l.length ∧ a ≤ j + 1 ∧ cur.length = l.length ∧ cur.take a = dropV (l.take (j + 1)) s ∧ cur.drop (j + 1) = l.drop (j + 1) ∧ a = (dropV (l.take (j + 1)) s).length; exact ⟨hj, by omega, j3, by rw [hkj]; exact j4, hdr, by rw [hkj]; exact j6⟩) (by first | omega | (simp; done) | (simp; omega)) (LE0 rfl) (fun _ h => h) (fun _ h => h) ?_ ?_)); (focus ((try dsimp only); exact wkl)); (focus ((try dsimp only); exact wkh))
 ·intro xx H' hh
  obtain ⟨_, _, h', _⟩ := hh
  cases h'
end Go.Proofs.YtncffhgoopdfgaaGreat
namespace Go.Am
open Go.RowKit
def forceHs {α : Type} : Heap → (Heap → α) → α
 | [], k => k []
 | (i, r) :: H, k => forceHs H fun H' => k ((i, r) :: H')
theorem forceHs_eq {α : Type} (H : Heap) (k : Heap → α) : forceHs H k = k H := by
 induction H generalizing k with
 | nil => rfl
 | cons p H ih => obtain ⟨i, r⟩ := p; simp [forceHs, ih]
theorem hs_to {L' L'' : Heap} (hL : ∀ k : Heap → Prop, k L'' → forceHs L' k) : ∀ k : Heap → Prop, k L'' → forceH L' k := fun k h => by
 have := hL k h
 rw [forceHs_eq] at this
 rw [forceH_eq]; exact this
section
variable {P : Program} {TT : Types} {D : Dr} {all rest : List Oper} {o : Oper} {s s' : List AV} {L L' L'' : Heap} {n n' : Nat} {K : Kn} {KP : AV → Kn} {av : AV} {Kk : Kc}
theorem akcs {d : Option Nat} {x : AV} (h : aops P TT all rest s' L'' n' K KP) (hx : ∀ k : AV → Prop, k av → fv x k := by exact fun _ h => h) (hs : ∀ k : List AV → Prop, k s' → putD s d av k := by exact fun _ h => h) (hL : ∀ k : Heap → Prop, k L'' → forceHs L' k := by exact fun _ h => h) : opK P TT all rest s d K KP x L' n' :=
 k_opc hx hs (hs_to hL) h
theorem aecs {pr : List Nat} {E S FL S' : Nat} {js : List Nat} {fuel e : Nat} {L1 L2 : Heap} {d : Option Nat} {x : AV} (h : evGoM P TT all pr S' L2 js E s' n (drBM P TT all pr K KP fuel S' FL L2)) (hx : ∀ k : AV → Prop, k av → fv x k := by exact fun _ h => h) (hs : ∀ k : List AV → Prop, k s' → putD s d av k := by exact fun _ h => h) (hL : ∀ k : Heap → Prop, k L2 → forceHs L1 k := by exact fun _ h => h)
  (hr : ∀ k : List Nat → Prop, k js → forceN (List.range all.length) k := by exact fun _ h => h) (hc : ∀ k : Prop, k → rechkM TT all (pr.getD e 0) E s' L2 js k := by (intro k h; repeat (first | exact h | refine ⟨rfl, ?_⟩ | refine ⟨trivial, ?_⟩))) (hS' : ∀ k : Nat → Prop, k S' → forceNat (addM S e) k := by exact fun _ h => h) : effK P TT all pr K KP fuel E S FL e s d x L1 n :=
 k_effc hx hs (hs_to hL) hr hc h hS'
theorem b_ends {pr : List Nat} {E S FL : Nat} {fuel : Nat} {A : List Nat} {L1 : Heap} (h : K s L1 n) (he : effsOfM all S (fun _ => true) = [] := by rfl) (hsat : satBM all pr E S = true := by rfl) (hA : ∀ k : List Nat → Prop, k A → forceN (allocsOfM all FL (fun _ => true)) k := by exact fun _ h => h) (hf : ∀ k : Heap → Prop, k L1 → flush TT all s A L fun L => forceHs L k := by exact fun _ h => h) : drBM P TT all pr K KP fuel S FL L E s n :=
 b_end he hsat hA (fun k hk => by
  have := hf k hk
  simp only [forceHs_eq] at this
  simpa only [forceH_eq] using this) h
theorem c_turns {c : Code} (h : acode P TT D c s' L' n' Kk) (hs : ∀ k : List AV → Prop, k s' → forceA s k := by exact fun _ h => h) (hL : ∀ k : Heap → Prop, k L' → forceHs L k := by exact fun _ h => h) (hn : n = n' := by rfl) : acode P TT D c s L n Kk :=
 c_turn hs (hs_to hL) hn h
theorem a_storeT {K KP : AV → Heap → Nat → Prop} {t : TypeId} {x y : Operand} {ti : TI} {id off : Nat} {cells l cells' : List AV} (h : K .dead (setL L id (.box cells')) n) (hk : (l.all AV.one && (Nat.beq l.length ti.size && Nat.ble (off + l.length) cells.length)) = true) (hp : putCells cells off l = cells') (ho : o.op = .store t x y := by rfl) (ht : TT t = some ti := by rfl) (hx : ev s x = .ptr id off := by rfl) (hf : findL L id = some (.box cells) := by rfl) (hl : acells (ev s y) = some l := by rfl) : aop P TT o s L n K KP :=
 a_storeAt ho ht hx hf hl hk hp h
theorem a_stores {K KP : AV → Heap → Nat → Prop} {t : TypeId} {x y : Operand} {ti : TI} {id off : Nat} {cells l cells' : List AV} (h : K .dead L' n) (ho : o.op = .store t x y := by rfl) (ht : TT t = some ti := by rfl) (hx : ev s x = .ptr id off := by rfl) (hf : findL L id = some (.box cells) := by rfl) (hl : acells (ev s y) = some l := by rfl) (hk : (l.all AV.one && (Nat.beq l.length ti.size && Nat.ble (off + l.length) cells.length)) = true := by rfl)
  (hp : ∀ k : List AV → Prop, k cells' → forceV (putCells cells off l) k := by exact fun _ h => h) (hL : ∀ k : Heap → Prop, k L' → forceHs (setL L id (.box cells')) k := by exact fun _ h => h) : aop P TT o s L n K KP := by
 have e1 : putCells cells off l = cells' := by
  have := hp (fun q => q = cells') rfl
  rwa [forceV_eq] at this
 have e2 : setL L id (.box cells') = L' := by
  have := hL (fun q => q = L') rfl
  rwa [forceHs_eq] at this
 subst e1; subst e2
 exact a_storeAt ho ht hx hf hl hk rfl h
end
theorem renL_pure {l : List AV} (h : ∀ a ∈ l, a.pure = true) (f : Nat → Nat) : AV.renL f l = l := by
 rw [renL_eq]
 conv => rhs; rw [← List.map_id l]
 exact List.map_congr_left fun a ha => AV.pure_ren (h a ha) f
theorem renL_app (f : Nat → Nat) (l m : List AV) : AV.renL f (l ++ m) = AV.renL f l ++ AV.renL f m := by simp only [renL_eq, List.map_append]
theorem renL_rows {sz : Nat} {rows : List (List AV)} (h : RowsOk sz rows) (f : Nat → Nat) : AV.renL f rows.flatten = rows.flatten := renL_pure h.pure f
theorem renL_dead (f : Nat → Nat) (k : Nat) : AV.renL f (List.replicate k .dead) = List.replicate k .dead := by rw [renL_eq, List.map_replicate, AV.ren]
theorem k_loopE {Kk : Kc} {s : List AV} {L : Heap} {n : Nat} {low : Nat → Prop} {α : Type} {S : α → ASt} {C : α → Prop} {μ : α → Nat} {a : α} {s2 : List AV} {L2 H1 rest0 : Heap} (b : α) (N : Nat) (ids : List Nat) (hb : C b) (hm : μ b < μ a) (hlow : low N) (hs : ∀ k : List AV → Prop, k s2 → forceA (AV.renL (rn ids n) (S b).slots) k) (hL : renH (rn ids n) (S b).L = L2) (hw : WkL s s2) (hH : WkH H1 L2)
  (ht : ∀ k : Heap → Heap → Prop, k H1 rest0 → takeH (keysH L2) L k := by exact fun _ h => h) (hM : ids.length = (S b).next := by rfl) (hnd : ids.Nodup := by decide) (hlt : ∀ i ∈ ids, i < n := by decide) (hN : ∀ i, i < N → ids[i]? = some i := by decide) : loopK low S C μ a Kk .normal s L n :=
 k_loopLT b N ids hb hm hlow hs (fun k h => by rw [forceH_eq, hL]; exact h) hw hH ht hM hnd hlt hN
theorem seq_put {sz k i : Nat} {rows r2 : List (List AV)} (h : ∀ row ∈ rows, row.length = sz) (h2 : ∀ row ∈ r2, row.length = sz) (hi : i = rows.length) (hk : r2.length * sz ≤ k) : putCells (seqC rows k) (i * sz) r2.flatten = seqC (rows ++ r2) (k - r2.length * sz) := by
 subst hi
 have e : k = r2.length * sz + (k - r2.length * sz) := by omega
 conv => lhs; rw [e]
 have hl := flatten_length h
 have hl2 := flatten_length h2
 unfold seqC
 rw [← List.replicate_append_replicate, ← hl, put_mid _ _ _ _ (by rw [List.length_replicate, hl2])]
 simp
theorem seq_take {sz k : Nat} {rows : List (List AV)} (h : ∀ row ∈ rows, row.length = sz) : (seqC rows k).take (rows.length * sz) = rows.flatten := by
 unfold seqC
 rw [← flatten_length h, List.take_left']
 rfl
theorem a_appN {P : Program} {TT : Types} {o : Oper} {s : List AV} {L : Heap} {n : Nat} {K KP : AV → Heap → Nat → Prop} {c : Call} {x y : Operand} {t tx e e2 : TypeId} {te : TI} {z : Value} {id nn cp m sz : Nat} {rows r2 : List (List AV)} (r : Res) (ho : o.op = .call c) (hk : opKind o = .append) (ha : c.args.toList = [x, y]) (hty : c.argTypes.toList = [t, tx])
  (hkt : kindT TT t = .slice e) (hkx : kindT TT tx = .slice e2) (hte : TT e = some te) (hz : te.zero = some z) (hzk : zok te z = true) (hx : ev s x = .arr id 0 nn cp) (hf : findL L id = some r) (hsz : te.size = sz)
  (hr : r = .box (seqC rows ((cp - nn) * sz)) ∨ (r = .seq rows ((cp - nn) * sz) ∧ cp < nn + m))
  (hrow : ∀ row ∈ rows, row.length = sz) (hone : rows.flatten.all AV.one = true) (hr2 : ∀ row ∈ r2, row.length = sz) (hn : rows.length = nn) (hm : r2.length = m) (hcp : nn ≤ cp)
  (hroom : (nn + m) * te.bytes ≤ 140737488355328 ∧ nn + m ≤ 4611686018427387904)
  (hy : ∀ K : Nat → List AV → Prop, K m r2.flatten → asrc L te.size (fun m => m) (ev s y) K)
  (hin : nn + m ≤ cp → K (.arr id 0 (nn + m) cp) (setL L id (.box (seqC (rows ++ r2) ((cp - (nn + m)) * sz)))) n)
  (hnew : cp < nn + m → ∀ cp', nn + m ≤ cp' → cp' ≤ maxLen → K (.arr n 0 (nn + m) cp') ((n, .box (seqC (rows ++ r2) ((cp' - (nn + m)) * sz))) :: L) (n + 1)) : aop P TT o s L n K KP := by
 subst hsz
 have hlen := flatten_length hrow
 have hl2 := flatten_length hr2
 have htk : ((seqC rows ((cp - nn) * te.size)).drop 0).take (nn * te.size) = rows.flatten := by rw [List.drop_zero, ← hn]; exact seq_take hrow
 have hlt : nn * te.size ≤ (seqC rows ((cp - nn) * te.size)).length := by rw [seqC_len hrow, hn, ← Nat.add_mul, Nat.add_mul]; omega
 refine a_app_arr (m := m) (cs := r2.flatten) ho hk ha hty hkt hkx hte hz hzk hx hy hroom (fun h => ?_) (fun h => ⟨rows.flatten, ?_, fun cp' h1 h2 => ?_⟩)
 ·rcases hr with rfl | ⟨_, hr⟩
  ·refine ⟨_, hf, ?_, ?_⟩
   ·rw [seqC_len hrow, hn, Nat.zero_add]
    have : (nn + m) * te.size ≤ cp * te.size := Nat.mul_le_mul_right _ h
    have e : nn * te.size + (cp - nn) * te.size = cp * te.size := by rw [← Nat.add_mul]; congr 1; omega
    omega
   ·have h3 : m * te.size ≤ (cp - nn) * te.size := Nat.mul_le_mul_right _ (by omega)
    rw [Nat.zero_add, seq_put hrow hr2 hn.symm (by rw [hm]; exact h3)]
    have e : (cp - nn) * te.size - r2.length * te.size = (cp - (nn + m)) * te.size := by rw [hm, ← Nat.sub_mul]; congr 1; omega
    rw [e]
    exact hin h
  ·omega
 ·rcases hr with rfl | ⟨rfl, _⟩
  ·exact ⟨rfl, rfl, .inr (.inr ⟨_, hf, by rw [Nat.zero_add]; exact hlt, by rw [htk]; exact hone, htk.symm⟩)⟩
  ·exact ⟨rfl, rfl, .inr (.inl ⟨_, _, hf, by rw [Nat.zero_add]; exact hlt, by rw [htk]; exact hone, htk.symm⟩)⟩
 ·have e : rows.flatten ++ r2.flatten = (rows ++ r2).flatten := by simp
  rw [e]
  exact hnew h cp' h1 h2
def seqTail : Nat → Code → Code
 | 0, c => c
 | n + 1, .seq _ c => seqTail n c
 | _, c => c
theorem SeqTo.renE {low : Nat → Prop} {τ : ASt} {s s2 : List AV} {L L2 : Heap} {n n2 : Nat} (N : Nat) (ids : List Nat) (hlow : low N) (hL : renH (rn ids n2) τ.L = L2) (hs : ∀ k : List AV → Prop, k s2 → forceA (AV.renL (rn ids n2) τ.slots) k) (hc : Conv ⟨s, L, n⟩ ⟨s2, L2, n2⟩)
  (hM : ids.length = τ.next := by rfl) (hnd : ids.Nodup := by decide) (hlt : ∀ i ∈ ids, i < n2 := by decide) (hN : ∀ i, i < N → ids[i]? = some i := by decide) : SeqTo low ⟨s, L, n⟩ τ := by
 have e1 : s2 = AV.renL (rn ids n2) τ.slots := by
  have := hs (fun x => s2 = x) rfl
  rwa [forceA_eq] at this
 subst e1; subst hL
 exact .inr ⟨N, hlow, (ConvN.ren ids hnd hlt hN hM).after hc⟩
theorem WkL.app {a b c d : List AV} (h : WkL a b) (h2 : WkL c d) : WkL (a ++ c) (b ++ d) := by
 induction a generalizing b with
 | nil => cases h; exact h2
 | cons x a ih => cases h with | cons h hs => exact .cons h (ih hs)
theorem WkL.dead : ∀ (l : List AV), WkL l (List.replicate l.length .dead)
 | [] => .nil
 | a :: l => .cons (.dead a) (WkL.dead l)
theorem Conv.seqTake {s : List AV} {L L0 : Heap} {n id k sz : Nat} {rows : List (List AV)} (m : Nat) (hp : L.Perm ((id, .seq rows k) :: L0)) (hR : RowsOk sz rows) (hm : m ≤ rows.length) (hne : rows.length + k ≠ 0) : Conv ⟨s, L, n⟩ ⟨s, (id, .seq (rows.take m) (k + (rows.length - m) * sz)) :: L0, n⟩ := by
 refine (Conv.unseq hne hp).trans ((Conv.wk (.refl _) (.cons (.box id ?_) (.refl _))).trans (Conv.toSeq (cells := seqC (rows.take m) (k + (rows.length - m) * sz)) (.refl _) rfl (hR.take m).pure))
 have hd : (rows.drop m).flatten.length = (rows.length - m) * sz := by rw [flatten_length (hR.drop m).len, List.length_drop]
 rw [seq_split hR.len m]
 unfold seqC
 refine .app (.refl _) ?_
 rw [Nat.add_comm, ← List.replicate_append_replicate, ← hd]
 exact .app (.dead _) (.refl _)
theorem q_loadSeq {P : Program} {TT : Types} {o : Oper} {s : List AV} {L : Heap} {av : AV} {t : TypeId} {x : Operand} {ti : TI} {id off sz i j k : Nat} {rows : List (List AV)} {row : List AV} (ho : o.op = .load t x) (ht : TT t = some ti) (hx : ev s x = .ptr id off) (hf : findL L id = some (.seq rows k)) (hk : isAggK ti.kind = false)
  (hl : RowsOk sz rows) (hi : rows[i]? = some row) (hj : row[j]? = some av) (hoff : off = i * sz + j) : ∀ K : AV → Prop, K av → aq P TT L (ev s) (raw s) o fun x => fv x K := fun K h => by
 subst hoff
 unfold aq; simp only [ho]; rw [ht, hx]
 simp only [opt1, aload, hf, hk, flat_at hl.len hi hj, Bool.false_eq_true, if_false, fv_eq]
 exact h
theorem asrc_seqg {L : Heap} {sz : Nat} {y : AV} {id off i m cp k : Nat} {rows r2 : List (List AV)} {K : Nat → List AV → Prop} (hy : y = .arr id off m cp) (hf : findL L id = some (.seq rows k)) (hR : RowsOk sz rows) (hi : i + m ≤ rows.length) (hoff : off = i * sz) (h2 : (rows.drop i).take m = r2) (h : K m r2.flatten) : asrc L sz (fun m => m) y K := by
 subst hy; subst h2
 have hd : RowsOk sz (rows.drop i) := hR.drop i
 have e : ((seqC rows k).drop off).take (m * sz) = ((rows.drop i).take m).flatten := by
  have hl := flatten_length (hd.take m).len
  rw [List.length_take, List.length_drop, Nat.min_eq_left (by omega)] at hl
  rw [hoff, seq_from hR.len i k (by omega), List.take_append_of_le_length (by rw [flatten_length hd.len, List.length_drop]; exact Nat.mul_le_mul_right _ (by omega))]
  conv => lhs; rw [← List.take_append_drop m (rows.drop i), List.flatten_append]
  rw [← hl, List.take_left]
 have hle : off + m * sz ≤ (seqC rows k).length := by
  rw [seqC_len hR.len, hoff, ← Nat.add_mul]
  have := Nat.mul_le_mul_right sz hi
  omega
 unfold asrc
 simp only [hf]
 rw [e]
 exact ⟨Nat.le_refl _, hle, (hd.take m).one, h⟩
theorem a_appSg {P : Program} {TT : Types} {o : Oper} {s : List AV} {L : Heap} {n : Nat} {K KP : AV → Heap → Nat → Prop} {c : Call} {x y : Operand} {t tx e e2 : TypeId} {te : TI} {z : Value} {id nn cp k sz B : Nat} {rows rows2 rows3 : List (List AV)} {L0 : Heap} {m2 : Nat} (ho : o.op = .call c) (hk : opKind o = .append) (ha : c.args.toList = [x, y]) (hty : c.argTypes.toList = [t, tx])
  (hkt : kindT TT t = .slice e) (hkx : kindT TT tx = .slice e2) (hte : TT e = some te) (hz : te.zero = some z) (hzk : zok te z = true) (hx : ev s x = .arr id 0 nn cp) (ht : ∀ k' : Res → Heap → Prop, k' (.seq rows k) L0 → takeO L id k') (hsz : te.size = sz) (hB : te.bytes = B)
  (hy : ∀ K : Nat → List AV → Prop, K rows2.length rows2.flatten → asrc L sz (fun m => m) (ev s y) K)
  (hR : RowsOk sz rows) (hR2 : RowsOk sz rows2) (hn : rows.length = nn) (hkk : k = (cp - nn) * sz) (hroom : (nn + rows2.length) * B ≤ 140737488355328 ∧ nn + rows2.length ≤ 4611686018427387904 ∧ 0 < nn + rows2.length)
  (hm2 : nn + rows2.length = m2) (h3 : rows ++ rows2 = rows3) (h : ∀ cp', m2 ≤ cp' → cp' ≤ maxLen → K (.arr n 0 m2 cp') ((n, .seq rows3 ((cp' - m2) * sz)) :: L0) (n + 1)) : aop P TT o s L n K KP := by
 subst hsz; subst hB; subst hm2; subst h3
 unfold aop; rw [hk]; simp only [ho]
 refine .inr (.inr ?_)
 unfold aappendS
 rw [ha, hty]
 simp only [hkt, hkx, hte, hz, hzk, opt1, if_pos]
 exact hy _ ⟨rows2, rfl, rfl, hR2.len, hR2.pure, .inl ⟨id, nn, cp, rows, k, L0, hx, takeO_at ht, hR.len, hn, hkk, hR.one, hroom.1, hroom.2.1, hroom.2.2, h⟩⟩
theorem a_appS0g {P : Program} {TT : Types} {o : Oper} {s : List AV} {L : Heap} {n : Nat} {K KP : AV → Heap → Nat → Prop} {c : Call} {x y : Operand} {t tx e e2 : TypeId} {te : TI} {z : Value} {sz B m2 : Nat} {rows2 : List (List AV)} (ho : o.op = .call c) (hk : opKind o = .append) (ha : c.args.toList = [x, y]) (hty : c.argTypes.toList = [t, tx])
  (hkt : kindT TT t = .slice e) (hkx : kindT TT tx = .slice e2) (hte : TT e = some te) (hz : te.zero = some z) (hzk : zok te z = true) (hx : ev s x = .list [] .full ∨ ∃ id off, ev s x = .arr id off 0 0) (hsz : te.size = sz) (hB : te.bytes = B)
  (hy : ∀ K : Nat → List AV → Prop, K rows2.length rows2.flatten → asrc L sz (fun m => m) (ev s y) K)
  (hR2 : RowsOk sz rows2) (hroom : rows2.length * B ≤ 140737488355328 ∧ rows2.length ≤ 4611686018427387904)
  (hm2 : rows2.length = m2) (h : ∀ cp', m2 ≤ cp' → cp' ≤ maxLen → K (.arr n 0 m2 cp') ((n, .seq rows2 ((cp' - m2) * sz)) :: L) (n + 1)) : aop P TT o s L n K KP := by
 subst hsz; subst hB; subst hm2
 unfold aop; rw [hk]; simp only [ho]
 refine .inr (.inr ?_)
 unfold aappendS
 rw [ha, hty]
 simp only [hkt, hkx, hte, hz, hzk, opt1, if_pos]
 exact hy _ ⟨rows2, rfl, rfl, hR2.len, hR2.pure, .inr ⟨hx, hroom.1, hroom.2, h⟩⟩
theorem wsp {p q : Prop} (h : q) (f : Tag q → p := by (intro hTag; (first | (((with_reducible refine no_implicit_lambda% (ret1 ?_)); first | (refine no_implicit_lambda% (akcs ?_)) | (refine no_implicit_lambda% (aecs ?_)))) | (((with_reducible refine no_implicit_lambda% (is_effK ?_)); refine no_implicit_lambda% (aecs ?_))) | (((with_reducible refine no_implicit_lambda% (is_drB ?_)); refine no_implicit_lambda% (b_ends ?_))) | (((with_reducible refine no_implicit_lambda% (zC ?_)); refine no_implicit_lambda% (a_stores ?_))) | ((with_reducible refine no_implicit_lambda% (zC ?_)); first | (refine no_implicit_lambda% (a_append_tok rfl rfl rfl rfl rfl rfl rfl rfl rfl rfl rfl rfl rfl rfl (by first | rfl | (simp; done)) (fun q hq => by rw [forceH_eq]; exact hq) (by (first | assumption | (intro row hr; simp only [List.mem_cons, List.not_mem_nil, or_false] at hr; rcases hr with rfl | rfl | rfl | rfl <;> rfl) | (intro row hr; simp at hr; done) | (intro row hr; simp only [List.mem_singleton] at hr; subst hr; rfl) | (intro row hr; obtain ⟨_, _, rfl⟩ := List.mem_map.1 hr; rfl))) (by (refine ⟨?_, ?_⟩ <;> (simp only [List.length_map, List.length_append, List.length_cons, List.length_nil]; omega))) ?_)))); exact Tag.out hTag)) : p := f ⟨h⟩
end Go.Am
