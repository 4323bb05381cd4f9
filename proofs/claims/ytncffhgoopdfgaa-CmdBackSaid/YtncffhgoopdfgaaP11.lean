/- Part 11 of what the laws CmdBack rest on: CdB, CdH, OcN, CtN, CdC, CdD, CdE. -/
import Derived.Test.YtncffhgoopdfgaaP10
set_option linter.unusedSimpArgs false
set_option linter.unusedVariables false
namespace Go.Proofs.Ytncffhgoopdfgaa
open Go.Am
set_option maxRecDepth 100000
theorem kd3 (k : Int) : k = 1 ∨ k = 2 ∨ k = 3 ∨ (k ≠ 1 ∧ k ≠ 2 ∧ k ≠ 3) := by omega
set_option maxHeartbeats 3200000 in
theorem rightOp_c (q : Oq) (hl : q.l.length < 1000000000000) : ACalls Try.prog 33 0 3000 [.agg (oqrow q)] [] (fun out H' => out = .ret (.v (.bool (opB q))) ∧ H' = []) := by
 have h1 := name_c q.row
 have h2 := cond_c q.d
 have h3 := contains8_c q.l hl
 have h4 := spright_c ⟨q.row, q.hi⟩
 obtain ⟨k, row, hi, d, l, most⟩ := q
 dsimp only at *
 have hlm : ((l.map chrow).length : Int) = l.length := by rw [List.length_map]
 rcases kd3 k with rfl | rfl | rfl | ⟨k1, k2, k3⟩
 ·rw [opB1 rfl]
  refine no_implicit_lambda% (acalls_of tok dok (f := 33) ⟨Try.func33, rfl, by kernel_rfl⟩ ?_); refine no_implicit_lambda% (c_start (fun _ h => h) ?_)
  repeat' (first | (refine no_implicit_lambda% (zH ?_)) | (refine no_implicit_lambda% (spl (fun hc => ?_) (fun hc => ?_)) <;> first | exact zG hc | skip) | (refine no_implicit_lambda% (ans ?_)) | (with_reducible first | exact zI | exact zJ) | (refine no_implicit_lambda% (cal [] (h1) ?_ ?_)) | fail)
  exact e_ret (H' := []) (rest := _) rfl ⟨rfl, rfl⟩ permT (LE0 rfl)
 ·rw [opB2 rfl]
  dsimp only
  generalize nmB row = n at *
  generalize rcB d = r at *
  generalize l.all chB = a at *
  refine no_implicit_lambda% (acalls_of tok dok (f := 33) ⟨Try.func33, rfl, by kernel_rfl⟩ ?_); refine no_implicit_lambda% (c_start (fun _ h => h) ?_)
  repeat' (first | (refine no_implicit_lambda% (zH ?_)) | (refine no_implicit_lambda% (spl (fun hc => ?_) (fun hc => ?_)) <;> first | exact zG hc | skip) | (refine no_implicit_lambda% (ans ?_)) | (with_reducible first | exact zI | exact zJ) | (refine no_implicit_lambda% (cal [] (h1) ?_ ?_)) | (refine no_implicit_lambda% (cal [] (h2) ?_ ?_)) | (refine no_implicit_lambda% (cal [] (h3) ?_ ?_)) | fail)
  all_goals (refine e_ret (H' := []) (rest := _) rfl ⟨congrArg (fun b => AOut.ret (.v (.bool b))) ?_, rfl⟩ permT (LE0 rfl); rw [hlm] at *; ((try simp only [bl_gt, bl_le, ibeq] at *); (try simp only [decide_eq_true_eq, decide_eq_false_iff_not, beq_iff_eq, beq_eq_false_iff_ne, bne_iff_ne, bne_eq_false_iff_eq, Bool.not_eq_true', Bool.not_eq_false', ne_eq] at *); first | (simp_all; done) | (simp_all; omega) | (simp_all; intros; omega)))
 ·rw [opB3 rfl]
  dsimp only
  generalize spB ⟨row, hi⟩ = s at *
  refine no_implicit_lambda% (acalls_of tok dok (f := 33) ⟨Try.func33, rfl, by kernel_rfl⟩ ?_); refine no_implicit_lambda% (c_start (fun _ h => h) ?_)
  repeat' (first | (refine no_implicit_lambda% (zH ?_)) | (refine no_implicit_lambda% (spl (fun hc => ?_) (fun hc => ?_)) <;> first | exact zG hc | skip) | (refine no_implicit_lambda% (ans ?_)) | (with_reducible first | exact zI | exact zJ) | (refine no_implicit_lambda% (cal [] (h4) ?_ ?_)) | fail)
  all_goals (refine e_ret (H' := []) (rest := _) rfl ⟨congrArg (fun b => AOut.ret (.v (.bool b))) ?_, rfl⟩ permT (LE0 rfl); ((try simp only [bl_gt, bl_le, ibeq] at *); (try simp only [decide_eq_true_eq, decide_eq_false_iff_not, beq_iff_eq, beq_eq_false_iff_ne, bne_iff_ne, bne_eq_false_iff_eq, Bool.not_eq_true', Bool.not_eq_false', ne_eq] at *); first | (simp_all; done) | (simp_all; omega) | (simp_all; intros; omega)))
 ·rw [opB0 k1 k2 k3]
  refine no_implicit_lambda% (acalls_of tok dok (f := 33) ⟨Try.func33, rfl, by kernel_rfl⟩ ?_); refine no_implicit_lambda% (c_start (fun _ h => h) ?_)
  repeat' (first | (refine no_implicit_lambda% (zH ?_)) | (refine no_implicit_lambda% (spl (fun hc => ?_) (fun hc => ?_)) <;> first | exact zG hc | skip) | (refine no_implicit_lambda% (ans ?_)) | (with_reducible first | exact zI | exact zJ))
  exact e_ret (H' := []) (rest := _) rfl ⟨rfl, rfl⟩ permT (LE0 rfl)
structure Cm where
 k : Int
 op : Oq
 sp : Sn
 gen : Int
 at' : ByteArray
 to : Int
 dw : Int
 st : List UInt8
def cmrow (c : Cm) : List AV := .v (.int .i64 c.k) :: (oqrow c.op ++ snrow c.sp ++ [.v (.int .i64 c.gen), .v (.string c.at'), .v (.int .i64 c.to), .v (.int .i64 c.dw), .list (c.st.map brow) .free])
def genB (n : Int) : Bool := decide (1 ≤ n) && decide (n ≤ 1073741824)
theorem gen_c (n : Int) : ACalls Try.prog 35 0 10 [.v (.int .i64 n)] [] (fun out H' => out = .ret (.v (.bool (genB n))) ∧ H' = []) := by
 refine no_implicit_lambda% (acalls_of tok dok (f := 35) ⟨Try.func35, rfl, by kernel_rfl⟩ ?_); refine no_implicit_lambda% (c_start (fun _ h => h) ?_)
 repeat' (first | (refine no_implicit_lambda% (zH ?_)) | (refine no_implicit_lambda% (spl (fun hc => ?_) (fun hc => ?_)) <;> first | exact zG hc | skip) | (refine no_implicit_lambda% (ans ?_)) | (with_reducible first | exact zI | exact zJ))
 all_goals (refine e_ret (H' := []) (rest := _) rfl ⟨congrArg (fun b => AOut.ret (.v (.bool b))) ?_, rfl⟩ permT (LE0 rfl); unfold genB; ((try simp only [bl_gt, bl_le, ibeq] at *); (try simp only [decide_eq_true_eq, decide_eq_false_iff_not, beq_iff_eq, beq_eq_false_iff_ne, bne_iff_ne, bne_eq_false_iff_eq, Bool.not_eq_true', Bool.not_eq_false', ne_eq] at *); first | (simp_all; done) | (simp_all; omega) | (simp_all; intros; omega)))
theorem cin_c (n m : Int) : ACalls Try.prog 37 0 10 [.v (.int .i64 n), .v (.int .i64 m)] [] (fun out H' => out = .ret (.v (.bool (decide (0 ≤ n) && decide (n ≤ m)))) ∧ H' = []) := by
 refine no_implicit_lambda% (acalls_of tok dok (f := 37) ⟨Try.func37, rfl, by kernel_rfl⟩ ?_); refine no_implicit_lambda% (c_start (fun _ h => h) ?_)
 repeat' (first | (refine no_implicit_lambda% (zH ?_)) | (refine no_implicit_lambda% (spl (fun hc => ?_) (fun hc => ?_)) <;> first | exact zG hc | skip) | (refine no_implicit_lambda% (ans ?_)) | (with_reducible first | exact zI | exact zJ))
 all_goals (refine e_ret (H' := []) (rest := _) rfl ⟨congrArg (fun b => AOut.ret (.v (.bool b))) ?_, rfl⟩ permT (LE0 rfl); ((try simp only [bl_gt, bl_le, ibeq] at *); (try simp only [decide_eq_true_eq, decide_eq_false_iff_not, beq_iff_eq, beq_eq_false_iff_ne, bne_iff_ne, bne_eq_false_iff_eq, Bool.not_eq_true', Bool.not_eq_false', ne_eq] at *); first | (simp_all; done) | (simp_all; omega) | (simp_all; intros; omega)))
def cmB (c : Cm) : Bool :=
 if c.k = 1 then opB c.op else
 if c.k = 2 ∨ c.k = 4 then spB c.sp && genB c.gen else
 if c.k = 3 then spB c.sp && (genB c.gen && decide (c.st.length ≤ 1048576)) else
 if c.k = 5 ∨ c.k = 6 then spliB c.sp c.at' && genB c.gen else
 if c.k = 7 then le16 c.at' else
 if c.k = 8 then decide (c.dw = 0) || (decide (1 ≤ c.dw) && (decide (c.dw ≤ 3) && (le16 c.at' && (decide (0 ≤ c.to) && decide (c.to ≤ 255))))) else
 if c.k = 9 then genB c.gen && (decide (c.to = 0) || decide (c.to = -1)) else decide (c.k = 10)
theorem kd10 (k : Int) : k = 1 ∨ k = 2 ∨ k = 4 ∨ k = 3 ∨ k = 5 ∨ k = 6 ∨ k = 7 ∨ k = 8 ∨ k = 9 ∨ (k ≠ 1 ∧ k ≠ 2 ∧ k ≠ 3 ∧ k ≠ 4 ∧ k ≠ 5 ∧ k ≠ 6 ∧ k ≠ 7 ∧ k ≠ 8 ∧ k ≠ 9) := by omega
theorem cmB0 {c : Cm} (h : c.k ≠ 1 ∧ c.k ≠ 2 ∧ c.k ≠ 3 ∧ c.k ≠ 4 ∧ c.k ≠ 5 ∧ c.k ≠ 6 ∧ c.k ≠ 7 ∧ c.k ≠ 8 ∧ c.k ≠ 9) : cmB c = decide (c.k = 10) := by
 unfold cmB
 rw [if_neg (by omega), if_neg (by omega), if_neg (by omega), if_neg (by omega), if_neg (by omega), if_neg (by omega), if_neg (by omega)]
set_option maxHeartbeats 6400000 in
theorem cright_c (c : Cm) (hl : c.op.l.length < 1000000000000) : ACalls Try.prog 8 0 5000 [.agg (cmrow c)] [] (fun out H' => out = .ret (.v (.bool (cmB c))) ∧ H' = []) := by
 have h1 := rightOp_c c.op hl
 have h2 := spright_c c.sp
 have h3 := gen_c c.gen
 have h4 := split_c c.sp c.at'
 unfold splO at h4
 have h5 := cin_c c.to 255
 obtain ⟨k, op, sp, gen, at', to, dw, st⟩ := c
 dsimp only at *
 rcases kd10 k with rfl | rfl | rfl | rfl | rfl | rfl | rfl | rfl | rfl | hk
 ·refine no_implicit_lambda% (acalls_of tok dok (f := 8) ⟨Try.func8, rfl, by kernel_rfl⟩ ?_); refine no_implicit_lambda% (c_start (fun _ h => h) ?_)
  repeat' (first | (refine no_implicit_lambda% (zH ?_)) | (refine no_implicit_lambda% (spl (fun hc => ?_) (fun hc => ?_)) <;> first | exact zG hc | skip) | (refine no_implicit_lambda% (ans ?_)) | (with_reducible first | exact zI | exact zJ) | (refine no_implicit_lambda% (cal [] (h1) ?_ ?_)) | fail)
  exact e_ret (H' := []) (rest := _) rfl ⟨rfl, rfl⟩ permT (LE0 rfl)
 ·rw [show cmB ⟨2, op, sp, gen, at', to, dw, st⟩ = (spB sp && genB gen) from rfl]
  generalize spB sp = s at *
  generalize genB gen = g at *
  refine no_implicit_lambda% (acalls_of tok dok (f := 8) ⟨Try.func8, rfl, by kernel_rfl⟩ ?_); refine no_implicit_lambda% (c_start (fun _ h => h) ?_)
  repeat' (first | (refine no_implicit_lambda% (zH ?_)) | (refine no_implicit_lambda% (spl (fun hc => ?_) (fun hc => ?_)) <;> first | exact zG hc | skip) | (refine no_implicit_lambda% (ans ?_)) | (with_reducible first | exact zI | exact zJ) | (refine no_implicit_lambda% (cal [] (h2) ?_ ?_)) | (refine no_implicit_lambda% (cal [] (h3) ?_ ?_)) | fail)
  all_goals (refine e_ret (H' := []) (rest := _) rfl ⟨congrArg (fun b => AOut.ret (.v (.bool b))) ?_, rfl⟩ permT (LE0 rfl); ((try simp only [bl_gt, bl_le, ibeq] at *); (try simp only [decide_eq_true_eq, decide_eq_false_iff_not, beq_iff_eq, beq_eq_false_iff_ne, bne_iff_ne, bne_eq_false_iff_eq, Bool.not_eq_true', Bool.not_eq_false', ne_eq] at *); first | (simp_all; done) | (simp_all; omega) | (simp_all; intros; omega)))
 ·rw [show cmB ⟨4, op, sp, gen, at', to, dw, st⟩ = (spB sp && genB gen) from rfl]
  generalize spB sp = s at *
  generalize genB gen = g at *
  refine no_implicit_lambda% (acalls_of tok dok (f := 8) ⟨Try.func8, rfl, by kernel_rfl⟩ ?_); refine no_implicit_lambda% (c_start (fun _ h => h) ?_)
  repeat' (first | (refine no_implicit_lambda% (zH ?_)) | (refine no_implicit_lambda% (spl (fun hc => ?_) (fun hc => ?_)) <;> first | exact zG hc | skip) | (refine no_implicit_lambda% (ans ?_)) | (with_reducible first | exact zI | exact zJ) | (refine no_implicit_lambda% (cal [] (h2) ?_ ?_)) | (refine no_implicit_lambda% (cal [] (h3) ?_ ?_)) | fail)
  all_goals (refine e_ret (H' := []) (rest := _) rfl ⟨congrArg (fun b => AOut.ret (.v (.bool b))) ?_, rfl⟩ permT (LE0 rfl); ((try simp only [bl_gt, bl_le, ibeq] at *); (try simp only [decide_eq_true_eq, decide_eq_false_iff_not, beq_iff_eq, beq_eq_false_iff_ne, bne_iff_ne, bne_eq_false_iff_eq, Bool.not_eq_true', Bool.not_eq_false', ne_eq] at *); first | (simp_all; done) | (simp_all; omega) | (simp_all; intros; omega)))
 ·rw [show cmB ⟨3, op, sp, gen, at', to, dw, st⟩ = (spB sp && (genB gen && decide (st.length ≤ 1048576))) from rfl]
  have hlm : ((st.map brow).length : Int) = st.length := by rw [List.length_map]
  generalize spB sp = s at *
  generalize genB gen = g at *
  refine no_implicit_lambda% (acalls_of tok dok (f := 8) ⟨Try.func8, rfl, by kernel_rfl⟩ ?_); refine no_implicit_lambda% (c_start (fun _ h => h) ?_)
  repeat' (first | (refine no_implicit_lambda% (zH ?_)) | (refine no_implicit_lambda% (spl (fun hc => ?_) (fun hc => ?_)) <;> first | exact zG hc | skip) | (refine no_implicit_lambda% (ans ?_)) | (with_reducible first | exact zI | exact zJ) | (refine no_implicit_lambda% (cal [] (h2) ?_ ?_)) | (refine no_implicit_lambda% (cal [] (h3) ?_ ?_)) | fail)
  all_goals (refine e_ret (H' := []) (rest := _) rfl ⟨congrArg (fun b => AOut.ret (.v (.bool b))) ?_, rfl⟩ permT (LE0 rfl); rw [hlm] at *; ((try simp only [bl_gt, bl_le, ibeq] at *); (try simp only [decide_eq_true_eq, decide_eq_false_iff_not, beq_iff_eq, beq_eq_false_iff_ne, bne_iff_ne, bne_eq_false_iff_eq, Bool.not_eq_true', Bool.not_eq_false', ne_eq] at *); first | (simp_all; done) | (simp_all; omega) | (simp_all; intros; omega)))
 ·rw [show cmB ⟨5, op, sp, gen, at', to, dw, st⟩ = (spliB sp at' && genB gen) from rfl]
  generalize spliB sp at' = s at *
  generalize genB gen = g at *
  refine no_implicit_lambda% (acalls_of tok dok (f := 8) ⟨Try.func8, rfl, by kernel_rfl⟩ ?_); refine no_implicit_lambda% (c_start (fun _ h => h) ?_)
  repeat' (first | (refine no_implicit_lambda% (zH ?_)) | (refine no_implicit_lambda% (spl (fun hc => ?_) (fun hc => ?_)) <;> first | exact zG hc | skip) | (refine no_implicit_lambda% (ans ?_)) | (with_reducible first | exact zI | exact zJ) | (refine no_implicit_lambda% (cal [] (h4) ?_ ?_)) | (refine no_implicit_lambda% (cal [] (h3) ?_ ?_)) | fail)
  all_goals (refine e_ret (H' := []) (rest := _) rfl ⟨congrArg (fun b => AOut.ret (.v (.bool b))) ?_, rfl⟩ permT (LE0 rfl); ((try simp only [bl_gt, bl_le, ibeq] at *); (try simp only [decide_eq_true_eq, decide_eq_false_iff_not, beq_iff_eq, beq_eq_false_iff_ne, bne_iff_ne, bne_eq_false_iff_eq, Bool.not_eq_true', Bool.not_eq_false', ne_eq] at *); first | (simp_all; done) | (simp_all; omega) | (simp_all; intros; omega)))
 ·rw [show cmB ⟨6, op, sp, gen, at', to, dw, st⟩ = (spliB sp at' && genB gen) from rfl]
  generalize spliB sp at' = s at *
  generalize genB gen = g at *
  refine no_implicit_lambda% (acalls_of tok dok (f := 8) ⟨Try.func8, rfl, by kernel_rfl⟩ ?_); refine no_implicit_lambda% (c_start (fun _ h => h) ?_)
  repeat' (first | (refine no_implicit_lambda% (zH ?_)) | (refine no_implicit_lambda% (spl (fun hc => ?_) (fun hc => ?_)) <;> first | exact zG hc | skip) | (refine no_implicit_lambda% (ans ?_)) | (with_reducible first | exact zI | exact zJ) | (refine no_implicit_lambda% (cal [] (h4) ?_ ?_)) | (refine no_implicit_lambda% (cal [] (h3) ?_ ?_)) | fail)
  all_goals (refine e_ret (H' := []) (rest := _) rfl ⟨congrArg (fun b => AOut.ret (.v (.bool b))) ?_, rfl⟩ permT (LE0 rfl); ((try simp only [bl_gt, bl_le, ibeq] at *); (try simp only [decide_eq_true_eq, decide_eq_false_iff_not, beq_iff_eq, beq_eq_false_iff_ne, bne_iff_ne, bne_eq_false_iff_eq, Bool.not_eq_true', Bool.not_eq_false', ne_eq] at *); first | (simp_all; done) | (simp_all; omega) | (simp_all; intros; omega)))
 ·refine no_implicit_lambda% (acalls_of tok dok (f := 8) ⟨Try.func8, rfl, by kernel_rfl⟩ ?_); refine no_implicit_lambda% (c_start (fun _ h => h) ?_)
  repeat' (first | (refine no_implicit_lambda% (zH ?_)) | (refine no_implicit_lambda% (spl (fun hc => ?_) (fun hc => ?_)) <;> first | exact zG hc | skip) | (refine no_implicit_lambda% (ans ?_)) | (with_reducible first | exact zI | exact zJ))
  exact e_ret (H' := []) (rest := _) rfl ⟨rfl, rfl⟩ permT (LE0 rfl)
 ·rw [show cmB ⟨8, op, sp, gen, at', to, dw, st⟩ = (decide (dw = 0) || (decide (1 ≤ dw) && (decide (dw ≤ 3) && (le16 at' && (decide (0 ≤ to) && decide (to ≤ 255)))))) from rfl]
  refine no_implicit_lambda% (acalls_of tok dok (f := 8) ⟨Try.func8, rfl, by kernel_rfl⟩ ?_); refine no_implicit_lambda% (c_start (fun _ h => h) ?_)
  repeat' (first | (refine no_implicit_lambda% (zH ?_)) | (refine no_implicit_lambda% (spl (fun hc => ?_) (fun hc => ?_)) <;> first | exact zG hc | skip) | (refine no_implicit_lambda% (ans ?_)) | (with_reducible first | exact zI | exact zJ) | (refine no_implicit_lambda% (cal [] (h5) ?_ ?_)) | fail)
  all_goals (refine e_ret (H' := []) (rest := _) rfl ⟨congrArg (fun b => AOut.ret (.v (.bool b))) ?_, rfl⟩ permT (LE0 rfl); unfold le16 at *; ((try simp only [bl_gt, bl_le, ibeq] at *); (try simp only [decide_eq_true_eq, decide_eq_false_iff_not, beq_iff_eq, beq_eq_false_iff_ne, bne_iff_ne, bne_eq_false_iff_eq, Bool.not_eq_true', Bool.not_eq_false', ne_eq] at *); first | (simp_all; done) | (simp_all; omega) | (simp_all; intros; omega)))
 ·rw [show cmB ⟨9, op, sp, gen, at', to, dw, st⟩ = (genB gen && (decide (to = 0) || decide (to = -1))) from rfl]
  generalize genB gen = g at *
  refine no_implicit_lambda% (acalls_of tok dok (f := 8) ⟨Try.func8, rfl, by kernel_rfl⟩ ?_); refine no_implicit_lambda% (c_start (fun _ h => h) ?_)
  repeat' (first | (refine no_implicit_lambda% (zH ?_)) | (refine no_implicit_lambda% (spl (fun hc => ?_) (fun hc => ?_)) <;> first | exact zG hc | skip) | (refine no_implicit_lambda% (ans ?_)) | (with_reducible first | exact zI | exact zJ) | (refine no_implicit_lambda% (cal [] (h3) ?_ ?_)) | fail)
  all_goals (refine e_ret (H' := []) (rest := _) rfl ⟨congrArg (fun b => AOut.ret (.v (.bool b))) ?_, rfl⟩ permT (LE0 rfl); ((try simp only [bl_gt, bl_le, ibeq] at *); (try simp only [decide_eq_true_eq, decide_eq_false_iff_not, beq_iff_eq, beq_eq_false_iff_ne, bne_iff_ne, bne_eq_false_iff_eq, Bool.not_eq_true', Bool.not_eq_false', ne_eq] at *); first | (simp_all; done) | (simp_all; omega) | (simp_all; intros; omega)))
 ·rw [cmB0 hk]
  dsimp only at hk ⊢
  refine no_implicit_lambda% (acalls_of tok dok (f := 8) ⟨Try.func8, rfl, by kernel_rfl⟩ ?_); refine no_implicit_lambda% (c_start (fun _ h => h) ?_)
  repeat' (first | (refine no_implicit_lambda% (zH ?_)) | (refine no_implicit_lambda% (spl (fun hc => ?_) (fun hc => ?_)) <;> first | exact zG hc | skip) | (refine no_implicit_lambda% (ans ?_)) | (with_reducible first | exact zI | exact zJ))
  all_goals (refine e_ret (H' := []) (rest := _) rfl ⟨congrArg (fun b => AOut.ret (.v (.bool b))) ?_, rfl⟩ permT (LE0 rfl); rfl)
end Go.Proofs.Ytncffhgoopdfgaa
namespace Go.Proofs.Ytncffhgoopdfgaa
open Go.Am
set_option maxRecDepth 100000
abbrev rQ {α : Type} (p : List UInt8 → Option (α × List UInt8)) (ok : α → Prop) (val : α → AV) (l : List UInt8) (out : AOut) (H' : Heap) : Prop :=
 (∃ x r, p l = some (x, r) ∧ (ok x ∧ r.length ≤ l.length) ∧ out = .ret (val x) ∧ H' = rd r) ∨ (p l = none ∧ out = gone ∧ H' = [])
theorem ids1 : ∀ q : Nat, q < 1 → [0][q]? = some q := fun q h => by rw [show q = 0 from Nat.lt_one_iff.1 h]; rfl
theorem rQ_top {α : Type} {P : Program} {f : FuncId} {top : Nat} {args : List AV} {p : List UInt8 → Option (α × List UInt8)} {ok : α → Prop} {val : α → AV} {l : List UInt8} (h : ACalls P f 1 top args (rd l) (rQ p ok val l)) (ht : 1 ≤ top) (hv : ∀ x g, (val x).ren g = val x) : ACalls P f 1 1 args (rd l) (rQ p ok val l) :=
 ACalls.ren h ht fun out H' hh => by
  rcases hh with ⟨o, r, h1, h2, rfl, rfl⟩ | ⟨h1, rfl, rfl⟩
  ·refine ⟨[0], .ret (val o), rd r, by decide, (fun i hi => by rw [List.mem_singleton.1 hi]; exact ht), ids1, Nat.le_refl _, by simp [AOut.ren, hv], ?_, .inl ⟨o, r, h1, h2, rfl, rfl⟩⟩
   simp [rd, renH, Res.ren, rn, AV.ren, AV.renL, Own.ren]
  ·exact ⟨[0], gone, [], by decide, (fun i hi => by rw [List.mem_singleton.1 hi]; exact ht), ids1, Nat.le_refl _, rfl, rfl, .inr ⟨h1, rfl, rfl⟩⟩
theorem ren_l (l : List UInt8) (g : Nat → Nat) : (AV.list (l.map brow) .free).ren g = .list (l.map brow) .free := by simp [AV.ren, Own.ren]
theorem oB_c (l : List UInt8) (h : l.length < 281474976710656) : ACalls Try.prog 51 1 1 [.ptr 0 0] (rd l) (rQ pB (· < 256) (fun x => .v (.int .u8 (x : Nat))) l) := rQ_top (rB_c l h) (by decide) (fun _ _ => rfl)
theorem oN_c (l : List UInt8) (h : l.length < 281474976710656) : ACalls Try.prog 52 1 1 [.ptr 0 0] (rd l) (rQ pN (· < 4294967296) (fun x => .v (.int .u32 (x : Nat))) l) := rQ_top (rN_c l h) (by decide) (fun _ _ => rfl)
theorem oX_c (l : List UInt8) (h : l.length < 281474976710656) : ACalls Try.prog 53 1 1 [.ptr 0 0, .v (.int .i64 16)] (rd l) (rQ pX (·.length ≤ 16) (fun x => .list (x.map brow) .free) l) := rQ_top (rX_c l h) (by decide) (fun x g => ren_l x g)
theorem oT_c (l : List UInt8) (h : l.length < 281474976710656) : ACalls Try.prog 53 1 1 [.ptr 0 0, .v (.int .i64 1048576)] (rd l) (rQ pT (·.length ≤ 1048576) (fun x => .list (x.map brow) .free) l) := rQ_top (rT_c l h) (by decide) (fun x g => ren_l x g)
theorem oCh_c (l : List UInt8) (h : l.length < 281474976710656) : ACalls Try.prog 113 1 1 [.ptr 0 0] (rd l) (rQ pCh ChB (fun x => .agg (chrow x)) l) :=
 rQ_top (ok := ChB) ((take5_c l h).mono fun out H' hh => by
  rcases hh with ⟨x, r, h1, ⟨h2, h3, h4⟩, h5, h6⟩ | hh
  ·exact .inl ⟨x, r, h1, ⟨h2, h4⟩, h5, h6⟩
  ·exact .inr hh) (by decide) (fun x g => by simp [chrow, vrowV, AV.ren, AV.renL, Own.ren])
theorem oCd_c (l : List UInt8) (h : l.length < 281474976710656) : ACalls Try.prog 112 1 1 [.ptr 0 0] (rd l) (rQ pCd CdB (fun x => .agg (cdrow x)) l) := rQ_top (takecd_c l h) (by decide) (fun x g => by simp [cdrow, vrowV, AV.ren, AV.renL, Own.ren])
noncomputable def pChs : Nat → List UInt8 → Option (List Ch × List UInt8)
 | 0, l => some ([], l)
 | n + 1, l => bnd (pCh l) fun x r => bnd (pChs n r) fun xs r2 => some (x :: xs, r2)
noncomputable def opK (k : Nat) (s : List UInt8) (r : List UInt8) : Option (Oq × List UInt8) :=
 if k = 2 then bnd (pCd r) fun d r1 => bnd (pB r1) fun n r2 => bnd (pChs n r2) fun xs r3 => some (⟨2, ⟨s.toArray⟩, ⟨#[]⟩, d, xs, 0⟩, r3) else
 if k = 3 then bnd (pX r) fun h r1 => bnd (pB r1) fun m r2 => some (⟨3, ⟨s.toArray⟩, ⟨h.toArray⟩, zCd, [], m⟩, r2) else some (⟨k, ⟨s.toArray⟩, ⟨#[]⟩, zCd, [], 0⟩, r)
noncomputable def pOp (l : List UInt8) : Option (Oq × List UInt8) := bnd (pB l) fun k r => bnd (pX r) fun s r2 => opK k s r2
def OqB (q : Oq) : Prop := q.l.length ≤ 255 ∧ CdB q.d ∧ ∀ x ∈ q.l, ChB x
theorem zCd_B : CdB zCd := ⟨Nat.zero_le _, by decide⟩
def toSt (k : Nat) (s : List UInt8) (d : Cd) (cur : List UInt8) (xs : List Ch) (n : Nat) : ASt := ⟨([.ptr 0 0, .dead, .ptr 1 0, .ptr 2 0, .v (.int .u8 n)] ++ List.replicate 39 .dead), rd cur ++ [(2, .box ([.v (.int .i64 k), .v (.string ⟨s.toArray⟩), .v (.string ⟨#[]⟩)] ++ cdrow d ++ [.list (xs.map chrow) (.tok 3), .v (.int .i64 0)])), (3, .tok 6 xs.length), (1, .box (oqrow ⟨0, ⟨#[]⟩, ⟨#[]⟩, zCd, [], 0⟩))], 4⟩
set_option maxHeartbeats 6400000 in
theorem takeop_c (l : List UInt8) (hl : l.length < 281474976710656) : ACalls Try.prog 83 1 100 [.ptr 0 0] (rd l) (rQ pOp OqB (fun q => .agg (oqrow q)) l) := by
 have hP : pOp l = bnd (pB l) fun k r => bnd (pX r) fun s r2 => opK k s r2 := rfl
 refine no_implicit_lambda% (acalls_of tok dok (f := 83) ⟨Try.func83, rfl, by kernel_rfl⟩ ?_); refine no_implicit_lambda% (c_start (fun _ h => h) ?_)
 repeat' (first | (refine no_implicit_lambda% (zH ?_)) | (refine no_implicit_lambda% (spl (fun hc => ?_) (fun hc => ?_)) <;> first | exact zG hc | skip) | (refine no_implicit_lambda% (ans ?_)) | (with_reducible first | exact zI | exact zJ))
 ((refine no_implicit_lambda% (cal [0] (oB_c l (by omega)) ?_ ?_)); rotate_left; (focus (intro xx H' hh; rcases hh with ⟨_, _, _, _, h', _⟩ | ⟨hN, h', rfl⟩ <;> first | (cases h'; done) | (cases h'; repeat' (first | (refine no_implicit_lambda% (zH ?_)) | (refine no_implicit_lambda% (spl (fun hc => ?_) (fun hc => ?_)) <;> first | exact zG hc | skip) | (refine no_implicit_lambda% (ans ?_)) | (with_reducible first | exact zI | exact zJ)); exact e_pan (H' := []) (rest := _) (.inr ⟨by (rw [hP, hN]; rfl), rfl, rfl⟩) permT (LE0 rfl)))); (intro xx H' hh); (rcases hh with ⟨k, r0, hX, ⟨hk, hr0⟩, h', rfl⟩ | ⟨_, h', _⟩); rotate_left; (focus (cases h'; done)); (cases h'); (first | (refine no_implicit_lambda% (akc ?_)) | (refine no_implicit_lambda% (aec ?_))); (rw [hX, bnd_some] at hP); (clear hX); repeat' (first | (refine no_implicit_lambda% (zH ?_)) | (refine no_implicit_lambda% (spl (fun hc => ?_) (fun hc => ?_)) <;> first | exact zG hc | skip) | (refine no_implicit_lambda% (ans ?_)) | (with_reducible first | exact zI | exact zJ)))
 rw [show IntKind.i64.wrap (k : Int) = (k : Int) from z64 (by omega) (by omega)]
 ((refine no_implicit_lambda% (cal [0] (oX_c r0 (by omega)) ?_ ?_)); rotate_left; (focus (intro xx H' hh; rcases hh with ⟨_, _, _, _, h', _⟩ | ⟨hN, h', rfl⟩ <;> first | (cases h'; done) | (cases h'; repeat' (first | (refine no_implicit_lambda% (zH ?_)) | (refine no_implicit_lambda% (spl (fun hc => ?_) (fun hc => ?_)) <;> first | exact zG hc | skip) | (refine no_implicit_lambda% (ans ?_)) | (with_reducible first | exact zI | exact zJ)); exact e_pan (H' := []) (rest := _) (.inr ⟨by (rw [hP, hN]; rfl), rfl, rfl⟩) permT (LE0 rfl)))); (intro xx H' hh); (rcases hh with ⟨s, r1, hX, ⟨hs, hr1⟩, h', rfl⟩ | ⟨_, h', _⟩); rotate_left; (focus (cases h'; done)); (cases h'); (first | (refine no_implicit_lambda% (akc ?_)) | (refine no_implicit_lambda% (aec ?_))); (rw [hX, bnd_some] at hP); (clear hX); repeat' (first | (refine no_implicit_lambda% (zH ?_)) | (refine no_implicit_lambda% (spl (fun hc => ?_) (fun hc => ?_)) <;> first | exact zG hc | skip) | (refine no_implicit_lambda% (ans ?_)) | (with_reducible first | exact zI | exact zJ)))
 ·have hk2 : k = 2 := by have := eq_of_beq hc; omega
  subst hk2
  replace hP : pOp l = bnd (pCd r1) fun d r1 => bnd (pB r1) fun n r2 => bnd (pChs n r2) fun xs r3 => some (⟨2, ⟨s.toArray⟩, ⟨#[]⟩, d, xs, 0⟩, r3) := hP
  ((refine no_implicit_lambda% (cal [0] (oCd_c r1 (by omega)) ?_ ?_)); rotate_left; (focus (intro xx H' hh; rcases hh with ⟨_, _, _, _, h', _⟩ | ⟨hN, h', rfl⟩ <;> first | (cases h'; done) | (cases h'; repeat' (first | (refine no_implicit_lambda% (zH ?_)) | (refine no_implicit_lambda% (spl (fun hc => ?_) (fun hc => ?_)) <;> first | exact zG hc | skip) | (refine no_implicit_lambda% (ans ?_)) | (with_reducible first | exact zI | exact zJ)); exact e_pan (H' := []) (rest := _) (.inr ⟨by (rw [hP, hN]; rfl), rfl, rfl⟩) permT (LE0 rfl)))); (intro xx H' hh); (rcases hh with ⟨d, r2, hX, ⟨hd, hr2⟩, h', rfl⟩ | ⟨_, h', _⟩); rotate_left; (focus (cases h'; done)); (cases h'); (first | (refine no_implicit_lambda% (akc ?_)) | (refine no_implicit_lambda% (aec ?_))); (rw [hX, bnd_some] at hP); (clear hX); repeat' (first | (refine no_implicit_lambda% (zH ?_)) | (refine no_implicit_lambda% (spl (fun hc => ?_) (fun hc => ?_)) <;> first | exact zG hc | skip) | (refine no_implicit_lambda% (ans ?_)) | (with_reducible first | exact zI | exact zJ)))
  ((refine no_implicit_lambda% (cal [0] (oB_c r2 (by omega)) ?_ ?_)); rotate_left; (focus (intro xx H' hh; rcases hh with ⟨_, _, _, _, h', _⟩ | ⟨hN, h', rfl⟩ <;> first | (cases h'; done) | (cases h'; repeat' (first | (refine no_implicit_lambda% (zH ?_)) | (refine no_implicit_lambda% (spl (fun hc => ?_) (fun hc => ?_)) <;> first | exact zG hc | skip) | (refine no_implicit_lambda% (ans ?_)) | (with_reducible first | exact zI | exact zJ)); exact e_pan (H' := []) (rest := _) (.inr ⟨by (rw [hP, hN]; rfl), rfl, rfl⟩) permT (LE0 rfl)))); (intro xx H' hh); (rcases hh with ⟨n, r3, hX, ⟨hn, hr3⟩, h', rfl⟩ | ⟨_, h', _⟩); rotate_left; (focus (cases h'; done)); (cases h'); (first | (refine no_implicit_lambda% (akc ?_)) | (refine no_implicit_lambda% (aec ?_))); (rw [hX, bnd_some] at hP); (clear hX); repeat' (first | (refine no_implicit_lambda% (zH ?_)) | (refine no_implicit_lambda% (spl (fun hc => ?_) (fun hc => ?_)) <;> first | exact zG hc | skip) | (refine no_implicit_lambda% (ans ?_)) | (with_reducible first | exact zI | exact zJ)))
  refine c_l3 (fun cur xs n => toSt 2 s d cur xs n) (fun cur xs n => cur.length ≤ l.length ∧ xs.length + n ≤ 255 ∧ (∀ x ∈ xs, ChB x) ∧ pOp l = bnd (pChs n cur) fun ys r => some (⟨2, ⟨s.toArray⟩, ⟨#[]⟩, d, xs ++ ys, 0⟩, r)) (fun _ _ n => n) r3 [] n ⟨by omega, by simp; omega, (fun x hx => by cases hx), hP⟩ ((Conv.tokBox (id := 2) (j := 9) (sz := 6) (rows := []) rfl rfl (by simp)).trans ?_) ?_
  ·(refine no_implicit_lambda% (Conv.toT ?_ ?_ (LE0 rfl))); (focus ((unfold toSt); (try dsimp only); exact wkl)); (focus ((unfold toSt); (try dsimp only); exact wkh))
  ·rintro cur xs n ⟨g1, g2, g3, hP⟩
   refine c_turn (n' := 4) (fun _ h => h) (fun _ h => h) rfl ?_
   rcases n with _ | n
   ·repeat' (first | (refine no_implicit_lambda% (zH ?_)) | (refine no_implicit_lambda% (spl (fun hc => ?_) (fun hc => ?_)) <;> first | exact zG hc | skip) | (refine no_implicit_lambda% (ans ?_)) | (with_reducible first | exact zI | exact zJ))
    replace hP : pOp l = some (⟨2, ⟨s.toArray⟩, ⟨#[]⟩, d, xs ++ [], 0⟩, cur) := hP
    rw [List.append_nil] at hP
    (refine e_ret_to (H' := rd cur) (rest := [(2, .box (oqrow ((⟨2, ⟨s.toArray⟩, ⟨#[]⟩, d, xs, 0⟩ : Oq)))), (1, .box (oqrow ((⟨2, ⟨s.toArray⟩, ⟨#[]⟩, d, xs, 0⟩ : Oq))))]) (Conv.toT (τ := ⟨_, [(0, .box [.list ((cur).map brow) .free]), (2, .box (oqrow ((⟨2, ⟨s.toArray⟩, ⟨#[]⟩, d, xs, 0⟩ : Oq)))), (1, .box (oqrow ((⟨2, ⟨s.toArray⟩, ⟨#[]⟩, d, xs, 0⟩ : Oq))))], _⟩) (.refl _) ?_ (Nat.le_refl _)) rfl (.inl ⟨((⟨2, ⟨s.toArray⟩, ⟨#[]⟩, d, xs, 0⟩ : Oq)), cur, hP, ⟨⟨by omega, hd, g3⟩, g1⟩, rfl, rfl⟩) permT (LE0 rfl); exact wkh)
   ·replace hP : pOp l = bnd (bnd (pCh cur) fun x r => bnd (pChs n r) fun xs r2 => some (x :: xs, r2)) fun ys r => some (⟨2, ⟨s.toArray⟩, ⟨#[]⟩, d, xs ++ ys, 0⟩, r) := hP
    simp only [bnd_assoc, bnd_some] at hP
    repeat' (first | (refine no_implicit_lambda% (zH ?_)) | (refine no_implicit_lambda% (spl (fun hc => ?_) (fun hc => ?_)) <;> first | exact zG hc | skip) | (refine no_implicit_lambda% (ans ?_)) | (with_reducible first | exact zI | exact zJ))
    ((refine no_implicit_lambda% (cal [0] (oCh_c cur (by omega)) ?_ ?_)); rotate_left; (focus (intro xx H' hh; rcases hh with ⟨_, _, _, _, h', _⟩ | ⟨hN, h', rfl⟩ <;> first | (cases h'; done) | (cases h'; repeat' (first | (refine no_implicit_lambda% (zH ?_)) | (refine no_implicit_lambda% (spl (fun hc => ?_) (fun hc => ?_)) <;> first | exact zG hc | skip) | (refine no_implicit_lambda% (ans ?_)) | (with_reducible first | exact zI | exact zJ)); exact e_pan (H' := []) (rest := _) (.inr ⟨by (rw [hP, hN]; rfl), rfl, rfl⟩) permT (LE0 rfl)))); (intro xx H' hh); (rcases hh with ⟨x, r4, hX, ⟨hx, hr4⟩, h', rfl⟩ | ⟨_, h', _⟩); rotate_left; (focus (cases h'; done)); (cases h'); (first | (refine no_implicit_lambda% (akc ?_)) | (refine no_implicit_lambda% (aec ?_))); (rw [hX, bnd_some] at hP); (clear hX); repeat' (first | (refine no_implicit_lambda% (zH ?_)) | (refine no_implicit_lambda% (spl (fun hc => ?_) (fun hc => ?_)) <;> first | exact zG hc | skip) | (refine no_implicit_lambda% (ans ?_)) | (with_reducible first | exact zI | exact zJ)))
    rw [show IntKind.u8.wrap (((n + 1 : Nat) : Int) - 1) = (n : Int) by rw [IntKind.wrap_u8]; omega]
    (refine no_implicit_lambda% (k_loopLT (((r4, xs ++ [x], n) : List UInt8 × List Ch × Nat)) 1 (List.range 4) (by
     show r4.length ≤ l.length ∧ (xs ++ [x]).length + n ≤ 255 ∧ (∀ y ∈ xs ++ [x], ChB y) ∧ pOp l = bnd (pChs n r4) fun ys r => some (⟨2, ⟨s.toArray⟩, ⟨#[]⟩, d, (xs ++ [x]) ++ ys, 0⟩, r)
     refine ⟨by omega, by rw [List.length_append]; simp; omega, fun y hy => ?_, ?_⟩
     ·rcases List.mem_append.1 hy with hy | hy
      ·exact g3 y hy
      ·rw [List.mem_singleton.1 hy]; exact hx
     ·rw [hP]
      simp only [List.append_assoc, List.singleton_append]) (by first | omega | (simp; done) | (simp; omega)) (LE0 rfl) (fun _ h => h) (fun _ h => h) ?_ ?_)); (focus ((try dsimp only); exact wkl)); (focus ((try dsimp only); exact wkh))
 ·have hk3 : k = 3 := by have := eq_of_beq hc; omega
  subst hk3
  replace hP : pOp l = bnd (pX r1) fun h r1 => bnd (pB r1) fun m r2 => some (⟨3, ⟨s.toArray⟩, ⟨h.toArray⟩, zCd, [], m⟩, r2) := hP
  ((refine no_implicit_lambda% (cal [0] (oX_c r1 (by omega)) ?_ ?_)); rotate_left; (focus (intro xx H' hh; rcases hh with ⟨_, _, _, _, h', _⟩ | ⟨hN, h', rfl⟩ <;> first | (cases h'; done) | (cases h'; repeat' (first | (refine no_implicit_lambda% (zH ?_)) | (refine no_implicit_lambda% (spl (fun hc => ?_) (fun hc => ?_)) <;> first | exact zG hc | skip) | (refine no_implicit_lambda% (ans ?_)) | (with_reducible first | exact zI | exact zJ)); exact e_pan (H' := []) (rest := _) (.inr ⟨by (rw [hP, hN]; rfl), rfl, rfl⟩) permT (LE0 rfl)))); (intro xx H' hh); (rcases hh with ⟨h, r2, hX, ⟨hh, hr2⟩, h', rfl⟩ | ⟨_, h', _⟩); rotate_left; (focus (cases h'; done)); (cases h'); (first | (refine no_implicit_lambda% (akc ?_)) | (refine no_implicit_lambda% (aec ?_))); (rw [hX, bnd_some] at hP); (clear hX); repeat' (first | (refine no_implicit_lambda% (zH ?_)) | (refine no_implicit_lambda% (spl (fun hc => ?_) (fun hc => ?_)) <;> first | exact zG hc | skip) | (refine no_implicit_lambda% (ans ?_)) | (with_reducible first | exact zI | exact zJ)))
  ((refine no_implicit_lambda% (cal [0] (oB_c r2 (by omega)) ?_ ?_)); rotate_left; (focus (intro xx H' hh; rcases hh with ⟨_, _, _, _, h', _⟩ | ⟨hN, h', rfl⟩ <;> first | (cases h'; done) | (cases h'; repeat' (first | (refine no_implicit_lambda% (zH ?_)) | (refine no_implicit_lambda% (spl (fun hc => ?_) (fun hc => ?_)) <;> first | exact zG hc | skip) | (refine no_implicit_lambda% (ans ?_)) | (with_reducible first | exact zI | exact zJ)); exact e_pan (H' := []) (rest := _) (.inr ⟨by (rw [hP, hN]; rfl), rfl, rfl⟩) permT (LE0 rfl)))); (intro xx H' hh); (rcases hh with ⟨m, r3, hX, ⟨hm, hr3⟩, h', rfl⟩ | ⟨_, h', _⟩); rotate_left; (focus (cases h'; done)); (cases h'); (first | (refine no_implicit_lambda% (akc ?_)) | (refine no_implicit_lambda% (aec ?_))); (rw [hX, bnd_some] at hP); (clear hX); repeat' (first | (refine no_implicit_lambda% (zH ?_)) | (refine no_implicit_lambda% (spl (fun hc => ?_) (fun hc => ?_)) <;> first | exact zG hc | skip) | (refine no_implicit_lambda% (ans ?_)) | (with_reducible first | exact zI | exact zJ)))
  rw [show IntKind.i64.wrap (m : Int) = (m : Int) from z64 (by omega) (by omega)]
  (refine e_ret_to (H' := rd r3) (rest := [(2, .box (oqrow ((⟨3, ⟨s.toArray⟩, ⟨h.toArray⟩, zCd, [], m⟩ : Oq)))), (1, .box (oqrow ((⟨3, ⟨s.toArray⟩, ⟨h.toArray⟩, zCd, [], m⟩ : Oq))))]) (Conv.toT (τ := ⟨_, [(0, .box [.list ((r3).map brow) .free]), (2, .box (oqrow ((⟨3, ⟨s.toArray⟩, ⟨h.toArray⟩, zCd, [], m⟩ : Oq)))), (1, .box (oqrow ((⟨3, ⟨s.toArray⟩, ⟨h.toArray⟩, zCd, [], m⟩ : Oq))))], _⟩) (.refl _) ?_ (Nat.le_refl _)) rfl (.inl ⟨((⟨3, ⟨s.toArray⟩, ⟨h.toArray⟩, zCd, [], m⟩ : Oq)), r3, hP, ⟨⟨Nat.zero_le _, zCd_B, (fun x hx => by cases hx)⟩, by omega⟩, rfl, rfl⟩) permT (LE0 rfl); exact wkh)
 ·have hk2 : k ≠ 2 := by intro h; subst h; simp at *
  have hk3 : k ≠ 3 := by intro h; subst h; simp at *
  replace hP : pOp l = some (⟨k, ⟨s.toArray⟩, ⟨#[]⟩, zCd, [], 0⟩, r1) := by rw [hP]; unfold opK; rw [if_neg hk2, if_neg hk3]
  (refine e_ret_to (H' := rd r1) (rest := [(2, .box (oqrow ((⟨k, ⟨s.toArray⟩, ⟨#[]⟩, zCd, [], 0⟩ : Oq)))), (1, .box (oqrow ((⟨k, ⟨s.toArray⟩, ⟨#[]⟩, zCd, [], 0⟩ : Oq))))]) (Conv.toT (τ := ⟨_, [(0, .box [.list ((r1).map brow) .free]), (2, .box (oqrow ((⟨k, ⟨s.toArray⟩, ⟨#[]⟩, zCd, [], 0⟩ : Oq)))), (1, .box (oqrow ((⟨k, ⟨s.toArray⟩, ⟨#[]⟩, zCd, [], 0⟩ : Oq))))], _⟩) (.refl _) ?_ (Nat.le_refl _)) rfl (.inl ⟨((⟨k, ⟨s.toArray⟩, ⟨#[]⟩, zCd, [], 0⟩ : Oq)), r1, hP, ⟨⟨Nat.zero_le _, zCd_B, (fun x hx => by cases hx)⟩, by omega⟩, rfl, rfl⟩) permT (LE0 rfl); exact wkh)
def pSr (l : List UInt8) : Option (Sn × List UInt8) := bnd (pX l) fun a r => bnd (pX r) fun b r2 => some (⟨⟨a.toArray⟩, ⟨b.toArray⟩⟩, r2)
def pSn (l : List UInt8) : Option (Sn × List UInt8) := bnd (pSr l) fun s r => if spB s then some (s, r) else none
theorem takesp_c (l : List UInt8) (hl : l.length < 281474976710656) : ACalls Try.prog 84 1 100 [.ptr 0 0] (rd l) (rQ pSn (fun s => spB s = true) (fun s => .agg (snrow s)) l) := by
 have hP : pSn l = bnd (pX l) fun a r => bnd (pX r) fun b r2 => if spB ⟨⟨a.toArray⟩, ⟨b.toArray⟩⟩ then some (⟨⟨a.toArray⟩, ⟨b.toArray⟩⟩, r2) else none := by
  unfold pSn pSr
  simp only [bnd_assoc, bnd_some]
 refine no_implicit_lambda% (acalls_of tok dok (f := 84) ⟨Try.func84, rfl, by kernel_rfl⟩ ?_); refine no_implicit_lambda% (c_start (fun _ h => h) ?_)
 repeat' (first | (refine no_implicit_lambda% (zH ?_)) | (refine no_implicit_lambda% (spl (fun hc => ?_) (fun hc => ?_)) <;> first | exact zG hc | skip) | (refine no_implicit_lambda% (ans ?_)) | (with_reducible first | exact zI | exact zJ))
 ((refine no_implicit_lambda% (cal [0] (oX_c l (by omega)) ?_ ?_)); rotate_left; (focus (intro xx H' hh; rcases hh with ⟨_, _, _, _, h', _⟩ | ⟨hN, h', rfl⟩ <;> first | (cases h'; done) | (cases h'; repeat' (first | (refine no_implicit_lambda% (zH ?_)) | (refine no_implicit_lambda% (spl (fun hc => ?_) (fun hc => ?_)) <;> first | exact zG hc | skip) | (refine no_implicit_lambda% (ans ?_)) | (with_reducible first | exact zI | exact zJ)); exact e_pan (H' := []) (rest := _) (.inr ⟨by (rw [hP, hN]; rfl), rfl, rfl⟩) permT (LE0 rfl)))); (intro xx H' hh); (rcases hh with ⟨a, r0, hX, ⟨ha, hr0⟩, h', rfl⟩ | ⟨_, h', _⟩); rotate_left; (focus (cases h'; done)); (cases h'); (first | (refine no_implicit_lambda% (akc ?_)) | (refine no_implicit_lambda% (aec ?_))); (rw [hX, bnd_some] at hP); (clear hX); repeat' (first | (refine no_implicit_lambda% (zH ?_)) | (refine no_implicit_lambda% (spl (fun hc => ?_) (fun hc => ?_)) <;> first | exact zG hc | skip) | (refine no_implicit_lambda% (ans ?_)) | (with_reducible first | exact zI | exact zJ)))
 ((refine no_implicit_lambda% (cal [0] (oX_c r0 (by omega)) ?_ ?_)); rotate_left; (focus (intro xx H' hh; rcases hh with ⟨_, _, _, _, h', _⟩ | ⟨hN, h', rfl⟩ <;> first | (cases h'; done) | (cases h'; repeat' (first | (refine no_implicit_lambda% (zH ?_)) | (refine no_implicit_lambda% (spl (fun hc => ?_) (fun hc => ?_)) <;> first | exact zG hc | skip) | (refine no_implicit_lambda% (ans ?_)) | (with_reducible first | exact zI | exact zJ)); exact e_pan (H' := []) (rest := _) (.inr ⟨by (rw [hP, hN]; rfl), rfl, rfl⟩) permT (LE0 rfl)))); (intro xx H' hh); (rcases hh with ⟨b, r1, hX, ⟨hb, hr1⟩, h', rfl⟩ | ⟨_, h', _⟩); rotate_left; (focus (cases h'; done)); (cases h'); (first | (refine no_implicit_lambda% (akc ?_)) | (refine no_implicit_lambda% (aec ?_))); (rw [hX, bnd_some] at hP); (clear hX); repeat' (first | (refine no_implicit_lambda% (zH ?_)) | (refine no_implicit_lambda% (spl (fun hc => ?_) (fun hc => ?_)) <;> first | exact zG hc | skip) | (refine no_implicit_lambda% (ans ?_)) | (with_reducible first | exact zI | exact zJ)))
 have hs := (spright_c ⟨⟨a.toArray⟩, ⟨b.toArray⟩⟩).top0
 have hfc := fail_c r1
 rcases hB : spB ⟨⟨a.toArray⟩, ⟨b.toArray⟩⟩ with _ | _
 ·rw [hB] at hs hP
  repeat' (first | (refine no_implicit_lambda% (zH ?_)) | (refine no_implicit_lambda% (spl (fun hc => ?_) (fun hc => ?_)) <;> first | exact zG hc | skip) | (refine no_implicit_lambda% (ans ?_)) | (with_reducible first | exact zI | exact zJ) | (refine no_implicit_lambda% (cal [] (hs) ?_ ?_)) | fail)
  (refine no_implicit_lambda% (cal [0] (hfc) ?_ ?_))
  ·first | (exact zI) | (exact zJ)
  ·intro xx H' hh
   obtain ⟨h', rfl⟩ := hh
   cases h'
   repeat' (first | (refine no_implicit_lambda% (zH ?_)) | (refine no_implicit_lambda% (spl (fun hc => ?_) (fun hc => ?_)) <;> first | exact zG hc | skip) | (refine no_implicit_lambda% (ans ?_)) | (with_reducible first | exact zI | exact zJ))
   exact e_pan (H' := []) (rest := _) (.inr ⟨hP, rfl, rfl⟩) permT (LE0 rfl)
 ·rw [hB] at hs hP
  repeat' (first | (refine no_implicit_lambda% (zH ?_)) | (refine no_implicit_lambda% (spl (fun hc => ?_) (fun hc => ?_)) <;> first | exact zG hc | skip) | (refine no_implicit_lambda% (ans ?_)) | (with_reducible first | exact zI | exact zJ) | (refine no_implicit_lambda% (cal [] (hs) ?_ ?_)) | fail)
  refine e_ret_to (H' := rd r1) (rest := [(2, .box (snrow ⟨⟨a.toArray⟩, ⟨b.toArray⟩⟩)), (1, .box (snrow ⟨⟨a.toArray⟩, ⟨b.toArray⟩⟩))]) (Conv.toT (τ := ⟨_, [(0, .box [.list (r1.map brow) .free]), (2, .box (snrow ⟨⟨a.toArray⟩, ⟨b.toArray⟩⟩)), (1, .box (snrow ⟨⟨a.toArray⟩, ⟨b.toArray⟩⟩))], _⟩) (.refl _) ?_ (Nat.le_refl _)) rfl (.inl ⟨⟨⟨a.toArray⟩, ⟨b.toArray⟩⟩, r1, hP, ⟨hB, by omega⟩, rfl, rfl⟩) permT (LE0 rfl)
  exact wkh
end Go.Proofs.Ytncffhgoopdfgaa
namespace Go.Proofs.Ytncffhgoopdfgaa
open Go.Am
set_option maxRecDepth 100000
theorem broOk (l : List UInt8) : RowsOk 1 (l.map brow) := .map (f := brow) (fun _ => ⟨rfl, rfl, rfl⟩) l
def bA (id : Nat) (l : List UInt8) (cp : Nat) : Heap := [(id, .seq (l.map brow) ((cp - l.length) * 1))]
abbrev bAR (id : Nat) (l : List UInt8) (out : AOut) (H' : Heap) : Prop := ∃ cp, l.length ≤ cp ∧ cp ≤ maxLen ∧ out = .ret (.arr id 0 l.length cp) ∧ H' = bA id l cp
theorem refNumA_c (b : List UInt8) (hb : 0 < b.length) (x : Nat) (hx : x < 4294967296) (h : b.length < 1073741824) : ACalls Try.prog 55 0 2 [.list (b.map brow) .free, .v (.int .u32 x)] [] (bAR 1 (b ++ be x 4)) := by
 have hbe := be_len x 4
 refine no_implicit_lambda% (acalls_of tok dok (f := 55) ⟨Try.func55, rfl, by kernel_rfl⟩ ?_); refine no_implicit_lambda% (c_start (fun _ h => h) ?_)
 refine no_implicit_lambda% (awdz ?_)
 ((with_reducible refine no_implicit_lambda% (zC ?_)); refine no_implicit_lambda% (a_appS0 (sz := 1) (B := 1) (m2 := b.length) rfl rfl rfl rfl rfl rfl rfl rfl rfl (by first | exact .inl rfl | exact .inr ⟨_, _, rfl⟩) rfl rfl rfl (broOk b) (by first | omega | (simp; done) | (simp; omega)) (by first | omega | (simp; omega)) (by first | rfl | (exact List.length_map ..) | (simp; done)) ?_))
 intro cp h1 h2
 refine no_implicit_lambda% (akc ?_)
 refine no_implicit_lambda% (awdz ?_)
 rw [oct_of x 24 (min (Int.toNat 24) IntKind.u32.bits) rfl, oct_of x 16 (min (Int.toNat 16) IntKind.u32.bits) rfl, oct_of x 8 (min (Int.toNat 8) IntKind.u32.bits) rfl, oct_0]
 ((with_reducible refine no_implicit_lambda% (zC ?_)); refine no_implicit_lambda% (a_appS (sz := 1) (B := 1) (m2 := (b ++ be x 4).length) (rows3 := (b ++ be x 4).map brow) rfl rfl rfl rfl rfl rfl rfl rfl rfl rfl rfl (fun _ h => h) rfl rfl (broOk b) (broOk (be x 4)) (by first | rfl | (exact List.length_map ..) | (simp; done) | (simp; omega)) rfl (by first | omega | (simp; omega)) (by first | rfl | (simp; done) | (simp; omega)) (by first | rfl | (exact map_snoc _ _) | (rw [List.map_append]; rfl) | (simp; done)) ?_))
 intro cp' h1' h2'
 refine no_implicit_lambda% (akc ?_)
 refine no_implicit_lambda% (awdz ?_)
 exact e_ret (H' := bA 1 (b ++ be x 4) cp') (rest := []) rfl ⟨cp', h1', h2', rfl, rfl⟩ (.of_eq rfl) (LE0 rfl)
theorem refTextA_c (b x : List UInt8) (hb : 0 < b.length) (h : b.length < 1073741000) (hx : x.length < 1048577) : ACalls Try.prog 54 0 20 [.list (b.map brow) .free, .list (x.map brow) .free] [] (bAR 2 (b ++ (be x.length 4 ++ x))) := by
 have hbe := be_len x.length 4
 refine no_implicit_lambda% (acalls_of tok dok (f := 54) ⟨Try.func54, rfl, by kernel_rfl⟩ ?_); refine no_implicit_lambda% (c_start (fun _ h => h) ?_)
 refine no_implicit_lambda% (awdz ?_)
 rw [show IntKind.u32.wrap ((x.map brow).length : Int) = x.length by rw [IntKind.wrap_u32, List.length_map]; omega]
 refine no_implicit_lambda% (cal [] (refNumA_c b hb x.length (by omega) (by omega)) ?_ ?_)
 ·intro xx H' hh
  obtain ⟨cp, c1, c2, h', rfl⟩ := hh
  cases h'
  first | (refine no_implicit_lambda% (akc ?_)) | (refine no_implicit_lambda% (aec ?_))
  refine no_implicit_lambda% (awdz ?_)
  ((with_reducible refine no_implicit_lambda% (zC ?_)); refine no_implicit_lambda% (a_appS (sz := 1) (B := 1) (m2 := (b ++ (be x.length 4 ++ x)).length) (rows3 := (b ++ (be x.length 4 ++ x)).map brow) rfl rfl rfl rfl rfl rfl rfl rfl rfl rfl rfl (fun _ h => h) rfl rfl (broOk (b ++ be x.length 4)) (broOk x) (by first | rfl | (exact List.length_map ..) | (simp; done) | (simp; omega)) rfl (by first | omega | (simp; omega)) (by first | rfl | (simp; done) | (simp; omega)) (by first | rfl | (exact map_snoc _ _) | (rw [List.map_append]; rfl) | (simp; done)) ?_))
  intro cp' h1' h2'
  refine no_implicit_lambda% (akc ?_)
  refine no_implicit_lambda% (awdz ?_)
  exact e_ret (H' := bA 2 (b ++ (be x.length 4 ++ x)) cp') (rest := []) rfl ⟨cp', h1', h2', rfl, rfl⟩ (.of_eq rfl) (LE0 rfl)
 ·intro x H' hh
  obtain ⟨_, _, _, h', _⟩ := hh
  cases h'
theorem bAR_ren {P : Program} {f : FuncId} {top : Nat} {args : List AV} {l : List UInt8} (h : ACalls P f 0 top args [] fun out H' => ∃ id, id < top ∧ bAR id l out H') : ACalls P f 0 1 args [] (bAR 0 l) :=
 h.ren (Nat.zero_le _) fun out H' hh => by
  obtain ⟨id, hid, cp, c1, c2, rfl, rfl⟩ := hh
  exact ⟨[id], .ret (.arr 0 0 l.length cp), bA 0 l cp, by simp, by simpa using hid, fun i h => by omega, Nat.le_refl _, by simp [AOut.ren, AV.ren, rn], by simp [bA, renH, Res.ren, rn], cp, c1, c2, rfl, rfl⟩
theorem bAR_list {P : Program} {f : FuncId} {top : Nat} {args : List AV} {l : List UInt8} {id : Nat} (h : ACalls P f 0 top args [] (bAR id l)) : ACalls P f 0 top args [] fun out H' => out = .ret (.list (l.map brow) .free) ∧ H' = [] :=
 h.conv (Nat.zero_le _) (Nat.le_refl _) (fun x H' hh => by
  obtain ⟨cp, c1, c2, h', rfl⟩ := hh
  cases h'
  exact ⟨.list (l.map brow) .free, [], top, Nat.le_refl _, (Conv.freezeS (j := 0) (sz := 1) rfl (.refl _) (broOk l) (List.length_map ..)).toN 0, fun rows h => (by cases h), rfl, rfl⟩) fun x H' hh => by
  obtain ⟨_, _, _, h', _⟩ := hh
  cases h'
end Go.Proofs.Ytncffhgoopdfgaa
namespace Go.Proofs.Ytncffhgoopdfgaa
open Go.Am
set_option maxRecDepth 100000
theorem refNumO_c (b : List UInt8) (hb : 0 < b.length) (x : Nat) (hx : x < 4294967296) (h : b.length < 1073741824) : ACalls Try.prog 55 0 1 [.list (b.map brow) .free, .v (.int .u32 x)] [] (bAR 0 (b ++ be x 4)) := bAR_ren ((refNumA_c b hb x hx h).mono fun _ _ h => ⟨1, by decide, h⟩)
theorem refTextO_c (b x : List UInt8) (hb : 0 < b.length) (h : b.length < 1073741000) (hx : x.length < 1048577) : ACalls Try.prog 54 0 1 [.list (b.map brow) .free, .list (x.map brow) .free] [] (bAR 0 (b ++ (be x.length 4 ++ x))) := bAR_ren ((refTextA_c b x hb h hx).mono fun _ _ h => ⟨2, by decide, h⟩)
end Go.Proofs.Ytncffhgoopdfgaa
namespace Go.Proofs.Ytncffhgoopdfgaa
open Go.Am
set_option maxRecDepth 100000
theorem bl_top8 {P : Program} {f : FuncId} {top : Nat} {args : List AV} {l : List UInt8} (h : ACalls P f 0 top args [] (fun out H' => out = .ret (.list (l.map brow) .free) ∧ H' = [])) : ACalls P f 0 0 args [] (fun out H' => out = .ret (.list (l.map brow) .free) ∧ H' = []) :=
 ACalls.ren h (Nat.zero_le _) fun out H' hh => by
  obtain ⟨rfl, rfl⟩ := hh
  exact ⟨[], .ret (.list (l.map brow) .free), [], List.nodup_nil, (fun q h => by cases h), (fun q h => by omega), Nat.le_refl _, rfl, rfl, rfl, rfl⟩
def encSn (s : Sn) : List UInt8 := encT s.lo ++ encT s.hi
theorem le16_n {s : ByteArray} (h : le16 s = true) : s.data.toList.length ≤ 16 := by
 have h1 := of_decide_eq_true h
 have h2 : s.data.toList.length = s.size := rfl
 omega
theorem spB_n {s : Sn} (h : spB s = true) : s.lo.data.toList.length ≤ 16 ∧ s.hi.data.toList.length ≤ 16 := by
 unfold spB at h
 simp only [Bool.and_eq_true] at h
 exact ⟨le16_n h.1, le16_n h.2.1⟩
theorem encSn_len {s : Sn} (h : spB s = true) : (encSn s).length ≤ 40 := by
 have := spB_n h
 unfold encSn
 rw [List.length_append, encT_len, encT_len]; omega
end Go.Proofs.Ytncffhgoopdfgaa
namespace Go.Proofs.Ytncffhgoopdfgaa
open Go.Am
set_option maxRecDepth 100000
theorem wr_top {P : Program} {f : FuncId} {top : Nat} {args : List AV} {l l' : List UInt8} (h : ACalls P f 2 top args (wr l) (fun out H' => out = .ret (.tuple []) ∧ H' = wr l')) (ht : 2 ≤ top) : ACalls P f 2 2 args (wr l) (fun out H' => out = .ret (.tuple []) ∧ H' = wr l') :=
 ACalls.ren h ht fun out H' hh => by
  obtain ⟨rfl, rfl⟩ := hh
  refine ⟨[0, 1], .ret (.tuple []), wr l', by decide, (fun i hi => by simp only [List.mem_cons, List.not_mem_nil, or_false] at hi; omega), (fun q h => ?_), Nat.le_refl _, rfl, ?_, rfl, rfl⟩
  ·match q, h with
   | 0, _ => rfl
   | 1, _ => rfl
  ·simp [wr, renH, Res.ren, rn, AV.ren, AV.renL, Own.ren]
theorem cmdtext_c (l : List UInt8) (s : ByteArray) (hs : s.data.toList.length ≤ 1048576) (h : l.length < 1000000000) : ACalls Try.prog 44 2 2 [.ptr 0 0, .v (.string s)] (wr l) (fun out H' => out = .ret (.tuple []) ∧ H' = wr (l ++ encT s)) := by
 have ht := text_c l s.data.toList (by omega) h
 rw [if_pos hs] at ht
 refine wr_top (top := 3) ?_ (by decide)
 refine no_implicit_lambda% (acalls_of tok dok (f := 44) ⟨Try.func44, rfl, by kernel_rfl⟩ ?_); refine no_implicit_lambda% (c_start (fun _ h => h) ?_)
 repeat' (first | (refine no_implicit_lambda% (zH ?_)) | (refine no_implicit_lambda% (spl (fun hc => ?_) (fun hc => ?_)) <;> first | exact zG hc | skip) | (refine no_implicit_lambda% (ans ?_)) | (with_reducible first | exact zI | exact zJ))
 refine no_implicit_lambda% (aqs ?_ ?_)
 ·show s.data.toList.length ≤ 4611686018427387904
  omega
 repeat' (first | (refine no_implicit_lambda% (zH ?_)) | (refine no_implicit_lambda% (spl (fun hc => ?_) (fun hc => ?_)) <;> first | exact zG hc | skip) | (refine no_implicit_lambda% (ans ?_)) | (with_reducible first | exact zI | exact zJ) | (refine no_implicit_lambda% (cal [0, 1] (ht) ?_ ?_)) | fail)
 exact e_ret (H' := wr (l ++ encT s)) (rest := _) rfl ⟨rfl, rfl⟩ permT (LE0 rfl)
theorem wspan_c (l : List UInt8) (s : Sn) (hs : spB s = true) (h : l.length < 100000000) : ACalls Try.prog 41 2 2 [.ptr 0 0, .agg (snrow s)] (wr l) (fun out H' => out = .ret (.tuple []) ∧ H' = wr (l ++ encSn s)) := by
 have hn := spB_n hs
 have h1 := text_c l s.lo.data.toList (by omega) (by omega)
 have h2 := text_c (l ++ encT s.lo) s.hi.data.toList (by omega) (by rw [List.length_append, encT_len]; omega)
 rw [if_pos (by omega)] at h1 h2
 have he : l ++ encSn s = l ++ encT s.lo ++ encT s.hi := by unfold encSn; rw [List.append_assoc]
 rw [he]
 obtain ⟨lo, hi⟩ := s
 dsimp only at *
 refine wr_top (top := 3) ?_ (by decide)
 refine no_implicit_lambda% (acalls_of tok dok (f := 41) ⟨Try.func41, rfl, by kernel_rfl⟩ ?_); refine no_implicit_lambda% (c_start (fun _ h => h) ?_)
 repeat' (first | (refine no_implicit_lambda% (zH ?_)) | (refine no_implicit_lambda% (spl (fun hc => ?_) (fun hc => ?_)) <;> first | exact zG hc | skip) | (refine no_implicit_lambda% (ans ?_)) | (with_reducible first | exact zI | exact zJ))
 refine no_implicit_lambda% (aqs ?_ ?_)
 ·show lo.data.toList.length ≤ 4611686018427387904
  omega
 repeat' (first | (refine no_implicit_lambda% (zH ?_)) | (refine no_implicit_lambda% (spl (fun hc => ?_) (fun hc => ?_)) <;> first | exact zG hc | skip) | (refine no_implicit_lambda% (ans ?_)) | (with_reducible first | exact zI | exact zJ) | (refine no_implicit_lambda% (cal [0, 1] (h1) ?_ ?_)) | fail)
 refine no_implicit_lambda% (aqs ?_ ?_)
 ·show hi.data.toList.length ≤ 4611686018427387904
  omega
 repeat' (first | (refine no_implicit_lambda% (zH ?_)) | (refine no_implicit_lambda% (spl (fun hc => ?_) (fun hc => ?_)) <;> first | exact zG hc | skip) | (refine no_implicit_lambda% (ans ?_)) | (with_reducible first | exact zI | exact zJ) | (refine no_implicit_lambda% (cal [0, 1] (h2) ?_ ?_)) | fail)
 exact e_ret (H' := wr (l ++ encT lo ++ encT hi)) (rest := _) rfl ⟨rfl, rfl⟩ permT (LE0 rfl)
def encOp (q : Oq) : List UInt8 := UInt8.ofNat q.k.toNat :: (encT q.row ++ (if q.k = 2 then encD q.d ++ (UInt8.ofNat q.l.length :: q.l.flatMap encCh) else if q.k = 3 then encT q.hi ++ [UInt8.ofNat q.most.toNat] else []))
def OqN (q : Oq) : Prop := q.d.v.n < 18446744073709551616 ∧ ∀ x ∈ q.l, x.v.n < 18446744073709551616
structure Op2 (q : Oq) : Prop where
 row : nmB q.row = true
 d : rcB q.d = true
 l1 : 0 < q.l.length
 l8 : q.l.length ≤ 8
 l : ∀ x ∈ q.l, rightC x = 0
theorem op2_of {q : Oq} (hk : q.k = 2) (h : opB q = true) : Op2 q := by
 rw [opB2 hk] at h
 simp only [Bool.and_eq_true, decide_eq_true_eq, List.all_eq_true] at h
 obtain ⟨h1, h2, h3, h4, h5⟩ := h
 exact ⟨h1, h2, h3, h4, fun x hx => by have := h5 x hx; unfold chB at this; simpa using this⟩
theorem op_k {q : Oq} (h : opB q = true) : q.k = 1 ∨ q.k = 2 ∨ q.k = 3 := by
 rcases kd3 q.k with h1 | h1 | h1 | ⟨h1, h2, h3⟩
 ·exact .inl h1
 ·exact .inr (.inl h1)
 ·exact .inr (.inr h1)
 ·rw [opB0 h1 h2 h3] at h; cases h
theorem chs_len {l : List Ch} (h : ∀ x ∈ l, rightC x = 0) : (l.flatMap encCh).length ≤ l.length * 54 := flat_len encCh 54 l fun x hx => (encCh_len (h x hx)).2
theorem flat_step {α : Type} (f : α → List UInt8) {l : List α} {i : Nat} {x : α} (h : l[i]? = some x) : (l.take (i + 1)).flatMap f = (l.take i).flatMap f ++ f x := by
 obtain ⟨h5, h6⟩ := List.getElem?_eq_some_iff.1 h
 rw [List.take_succ_eq_append_getElem h5, List.flatMap_append, h6]; simp
def woSt (q : Oq) (cur : List UInt8) (i : Nat) : ASt := ⟨([.ptr 0 0] ++ List.replicate 29 .dead ++ [.list (q.l.map chrow) .free, .v (.int .i64 q.l.length), .v (.int .i64 i)] ++ List.replicate 18 .dead), (2, .box (oqrow q)) :: wr cur, 3⟩
set_option maxHeartbeats 6400000 in
theorem wop_c (q : Oq) (p : List UInt8) (hq : opB q = true) (hN : OqN q) (hp : p.length < 1000000) : ACalls Try.prog 40 2 2 [.ptr 0 0, .agg (oqrow q)] (wr p) (fun out H' => out = .ret (.tuple []) ∧ H' = wr (p ++ encOp q)) := by
 have hk := op_k hq
 obtain ⟨k, row, hi, d, l, most⟩ := q
 dsimp only at *
 rcases hk with rfl | rfl | rfl
 ·rw [opB1 rfl] at hq
  dsimp only at hq
  have hc16 := nmB_len hq
  have hb := byte_c p 1 (by omega)
  have ht := cmdtext_c (p ++ [1]) row (by omega) (by simp; omega)
  have he : p ++ encOp ⟨1, row, hi, d, l, most⟩ = p ++ [1] ++ encT row := by show p ++ ([1] ++ (encT row ++ [])) = _; rw [List.append_nil, List.append_assoc]
  rw [he]
  refine wr_top (top := 1000) ?_ (by decide)
  refine no_implicit_lambda% (acalls_of tok dok (f := 40) ⟨Try.func40, rfl, by kernel_rfl⟩ ?_); refine no_implicit_lambda% (c_start (fun _ h => h) ?_)
  repeat' (first | (refine no_implicit_lambda% (zH ?_)) | (refine no_implicit_lambda% (spl (fun hc => ?_) (fun hc => ?_)) <;> first | exact zG hc | skip) | (refine no_implicit_lambda% (ans ?_)) | (with_reducible first | exact zI | exact zJ) | (refine no_implicit_lambda% (cal [0, 1] (hb) ?_ ?_)) | (refine no_implicit_lambda% (cal [0, 1] (ht) ?_ ?_)) | fail)
  exact e_ret (H' := wr (p ++ [1] ++ encT row)) (rest := _) rfl ⟨rfl, rfl⟩ permT (LE0 rfl)
 ·obtain ⟨h1, h2, h3, h4, h5⟩ := op2_of rfl hq
  dsimp only at *
  have hc16 := nmB_len h1
  have hd46 := encD_len h2
  have hb := byte_c p 2 (by omega)
  have ht := cmdtext_c (p ++ [2]) row (by omega) (by simp; omega)
  have hw := wr_top (wcond_c d (p ++ [2] ++ encT row) h2 hN.1 (by simp only [List.length_append, encT_len, List.length_singleton]; omega)) (by decide)
  have hm := byte_c (p ++ [2] ++ encT row ++ encD d) (UInt8.ofNat l.length) (by simp only [List.length_append, encT_len, List.length_singleton]; omega)
  have he : p ++ encOp ⟨2, row, hi, d, l, most⟩ = p ++ [2] ++ encT row ++ encD d ++ [UInt8.ofNat l.length] ++ l.flatMap encCh := by show p ++ ([2] ++ (encT row ++ (encD d ++ ([UInt8.ofNat l.length] ++ l.flatMap encCh)))) = _; simp only [List.append_assoc]
  rw [he]
  have hpl : (p ++ [2] ++ encT row ++ encD d ++ [UInt8.ofNat l.length]).length < 1100000 := by simp only [List.length_append, encT_len, List.length_singleton]; omega
  refine wr_top (top := 1000) ?_ (by decide)
  refine no_implicit_lambda% (acalls_of tok dok (f := 40) ⟨Try.func40, rfl, by kernel_rfl⟩ ?_); refine no_implicit_lambda% (c_start (fun _ h => h) ?_)
  repeat' (first | (refine no_implicit_lambda% (zH ?_)) | (refine no_implicit_lambda% (spl (fun hc => ?_) (fun hc => ?_)) <;> first | exact zG hc | skip) | (refine no_implicit_lambda% (ans ?_)) | (with_reducible first | exact zI | exact zJ) | (refine no_implicit_lambda% (cal [0, 1] (hb) ?_ ?_)) | (refine no_implicit_lambda% (cal [0, 1] (ht) ?_ ?_)) | (refine no_implicit_lambda% (cal [0, 1] (hw) ?_ ?_)) | fail)
  rw [show IntKind.u8.wrap ((l.map chrow).length : Int) = ((UInt8.ofNat l.length).toNat : Int) by rw [List.length_map]; exact u8len l.length]
  repeat' (first | (refine no_implicit_lambda% (zH ?_)) | (refine no_implicit_lambda% (spl (fun hc => ?_) (fun hc => ?_)) <;> first | exact zG hc | skip) | (refine no_implicit_lambda% (ans ?_)) | (with_reducible first | exact zI | exact zJ) | (refine no_implicit_lambda% (cal [0, 1] (hm) ?_ ?_)) | fail)
  generalize p ++ [2] ++ encT row ++ encD d ++ [UInt8.ofNat l.length] = P at *
  refine c_loop2 (woSt ⟨2, row, hi, d, l, most⟩) (fun cur i => i ≤ l.length ∧ cur = P ++ (l.take i).flatMap encCh) (fun _ i => l.length - i) P 0 ⟨Nat.zero_le _, by simp⟩ ?_ ?_
  ·(refine no_implicit_lambda% (Conv.toT ?_ ?_ (LE0 rfl))); (focus ((unfold woSt); (try dsimp only); exact wkl)); (focus ((unfold woSt); (try dsimp only); exact wkh))
  ·rintro cur i ⟨i1, hcur⟩
   refine c_turn (n' := 3) (fun _ h => h) (fun _ h => h) rfl ?_
   have hlm : ((l.map chrow).length : Int) = l.length := by rw [List.length_map]
   rcases hx : l[i]? with _ | x
   ·have hi : i = l.length := by have := List.getElem?_eq_none_iff.1 hx; omega
    subst hi
    rw [List.take_length] at hcur
    subst hcur
    repeat' (first | (refine no_implicit_lambda% (zH ?_)) | (refine no_implicit_lambda% (spl (fun hc => ?_) (fun hc => ?_)) <;> first | exact zG hc | skip) | (refine no_implicit_lambda% (ans ?_)) | (with_reducible first | exact zI | exact zJ))
    exact e_ret (H' := wr (P ++ l.flatMap encCh)) (rest := _) rfl ⟨rfl, rfl⟩ permT (LE0 rfl)
   ·have hi : i < l.length := (List.getElem?_eq_some_iff.1 hx).1
    have hix := chx hx
    have hm := List.mem_of_getElem? hx
    have hfl := chs_len (l := l.take i) (fun x hx => h5 x (List.mem_of_mem_take hx))
    have htl : (l.take i).length ≤ 8 := by rw [List.length_take]; omega
    have hcl : cur.length < 10000000 := by rw [hcur, List.length_append]; omega
    have hw := wr_top (write5_c x cur (h5 x hm) (hN.2 x hm) hcl) (by decide)
    have hs := flat_step encCh hx
    repeat' (first | (refine no_implicit_lambda% (zH ?_)) | (refine no_implicit_lambda% (spl (fun hc => ?_) (fun hc => ?_)) <;> first | exact zG hc | skip) | (refine no_implicit_lambda% (ans ?_)) | (with_reducible first | exact zI | exact zJ) | (refine no_implicit_lambda% (cal [0, 1] (hw) ?_ ?_)) | fail)
    (refine no_implicit_lambda% (k_loopLT (((cur ++ encCh x, i + 1) : List UInt8 × Nat)) 2 [0, 1, 2] (by
     refine ⟨hi, ?_⟩
     show cur ++ encCh x = P ++ (l.take (i + 1)).flatMap encCh
     rw [hs, hcur, List.append_assoc]) (by first | omega | (simp; done) | (simp; omega)) (LE0 rfl) (fun _ h => h) (fun _ h => h) ?_ ?_)); (focus ((try dsimp only); exact wkl)); (focus ((try dsimp only); exact wkh))
 ·rw [opB3 rfl] at hq
  simp only [Bool.and_eq_true, decide_eq_true_eq] at hq
  obtain ⟨hs, hm1, hm2⟩ := hq
  have hn := spB_n hs
  dsimp only at hn
  have hb := byte_c p 3 (by omega)
  have ht := cmdtext_c (p ++ [3]) row (by omega) (by simp; omega)
  have ht2 := cmdtext_c (p ++ [3] ++ encT row) hi (by omega) (by simp only [List.length_append, encT_len, List.length_singleton]; omega)
  have hm := byte_c (p ++ [3] ++ encT row ++ encT hi) (UInt8.ofNat most.toNat) (by simp only [List.length_append, encT_len, List.length_singleton]; omega)
  have he : p ++ encOp ⟨3, row, hi, d, l, most⟩ = p ++ [3] ++ encT row ++ encT hi ++ [UInt8.ofNat most.toNat] := by show p ++ ([3] ++ (encT row ++ (encT hi ++ [UInt8.ofNat most.toNat]))) = _; simp only [List.append_assoc]
  rw [he]
  refine wr_top (top := 1000) ?_ (by decide)
  refine no_implicit_lambda% (acalls_of tok dok (f := 40) ⟨Try.func40, rfl, by kernel_rfl⟩ ?_); refine no_implicit_lambda% (c_start (fun _ h => h) ?_)
  repeat' (first | (refine no_implicit_lambda% (zH ?_)) | (refine no_implicit_lambda% (spl (fun hc => ?_) (fun hc => ?_)) <;> first | exact zG hc | skip) | (refine no_implicit_lambda% (ans ?_)) | (with_reducible first | exact zI | exact zJ) | (refine no_implicit_lambda% (cal [0, 1] (hb) ?_ ?_)) | (refine no_implicit_lambda% (cal [0, 1] (ht) ?_ ?_)) | (refine no_implicit_lambda% (cal [0, 1] (ht2) ?_ ?_)) | fail)
  rw [show IntKind.u8.wrap most = ((UInt8.ofNat most.toNat).toNat : Int) by rw [← u8len, Int.toNat_of_nonneg (by omega)]]
  repeat' (first | (refine no_implicit_lambda% (zH ?_)) | (refine no_implicit_lambda% (spl (fun hc => ?_) (fun hc => ?_)) <;> first | exact zG hc | skip) | (refine no_implicit_lambda% (ans ?_)) | (with_reducible first | exact zI | exact zJ) | (refine no_implicit_lambda% (cal [0, 1] (hm) ?_ ?_)) | fail)
  exact e_ret (H' := wr (p ++ [3] ++ encT row ++ encT hi ++ [UInt8.ofNat most.toNat])) (rest := _) rfl ⟨rfl, rfl⟩ permT (LE0 rfl)
end Go.Proofs.Ytncffhgoopdfgaa
namespace Go.Proofs.Ytncffhgoopdfgaa
open Go.Am
set_option maxRecDepth 100000
def encCm (c : Cm) : List UInt8 := UInt8.ofNat c.k.toNat :: (
 if c.k = 1 then encOp c.op else
 if c.k = 2 ∨ c.k = 4 then encSn c.sp ++ be c.gen.toNat 4 else
 if c.k = 3 then encSn c.sp ++ (be c.gen.toNat 4 ++ (be c.st.length 4 ++ c.st)) else
 if c.k = 5 ∨ c.k = 6 then encSn c.sp ++ (be c.gen.toNat 4 ++ encT c.at') else
 if c.k = 7 then encT c.at' else
 if c.k = 8 then UInt8.ofNat c.dw.toNat :: (if c.dw = 0 then [] else encT c.at' ++ [UInt8.ofNat c.to.toNat]) else
 if c.k = 9 then be c.gen.toNat 4 ++ [UInt8.ofNat (-c.to).toNat] else [])
theorem encOp_len {q : Oq} (h : opB q = true) : (encOp q).length ≤ 600 := by
 have hk := op_k h
 obtain ⟨k, row, hi, d, l, most⟩ := q
 dsimp only at hk
 rcases hk with rfl | rfl | rfl
 ·rw [opB1 rfl] at h
  have := nmB_len h
  dsimp only at this
  show List.length (_ :: (encT row ++ [])) ≤ 600
  simp only [List.length_cons, List.length_append, encT_len, List.length_nil]; omega
 ·obtain ⟨h1, h2, h3, h4, h5⟩ := op2_of rfl h
  dsimp only at *
  have := nmB_len h1
  have := encD_len h2
  have := chs_len h5
  show List.length (_ :: (encT row ++ (encD d ++ (_ :: l.flatMap encCh)))) ≤ 600
  simp only [List.length_cons, List.length_append, encT_len, List.length_nil]; omega
 ·rw [opB3 rfl] at h
  simp only [Bool.and_eq_true] at h
  have := spB_n h.1
  dsimp only at this
  show List.length (_ :: (encT row ++ (encT hi ++ [_]))) ≤ 600
  simp only [List.length_cons, List.length_append, encT_len, List.length_nil]; omega
theorem genB_n {n : Int} (h : genB n = true) : 1 ≤ n ∧ n ≤ 1073741824 := by
 unfold genB at h
 simpa only [Bool.and_eq_true, decide_eq_true_eq] using h
theorem spliB_n {s : Sn} {t : ByteArray} (h : spliB s t = true) : spB s = true ∧ t.data.toList.length ≤ 16 := by
 unfold spliB at h
 simp only [Bool.and_eq_true] at h
 exact ⟨h.1, le16_n h.2.1⟩
theorem u32g {n : Int} (h1 : 1 ≤ n) (h2 : n ≤ 1073741824) : IntKind.u32.wrap n = (n.toNat : Int) := by rw [IntKind.wrap_u32]; omega
theorem u8g {n : Int} (h1 : 0 ≤ n) : IntKind.u8.wrap n = ((UInt8.ofNat n.toNat).toNat : Int) := by rw [← u8len, Int.toNat_of_nonneg h1]
set_option maxHeartbeats 6400000 in
theorem encode8_ok (c : Cm) (hc : cmB c = true) (hN : OqN c.op) (hl : c.op.l.length < 1000000000000) : ACalls Try.prog 9 0 10000 [.agg (cmrow c)] [] (fun out H' => out = .ret (.tuple [.list ((encCm c).map brow) .free, .v (.int .i64 0)]) ∧ H' = []) := by
 have h0 := (cright_c c hl).top0
 rw [hc] at h0
 have hnw := new_c
 obtain ⟨k, op, sp, gen, at', to, dw, st⟩ := c
 dsimp only at *
 rcases kd10 k with rfl | rfl | rfl | rfl | rfl | rfl | rfl | rfl | rfl | hk
 ·have hq : opB op = true := hc
  have ho := encOp_len hq
  have hb := byte_c [] 1 (by decide)
  have hw := wop_c op [1] hq hN (by decide)
  have hd := done_c ([1] ++ encOp op) (by (first | (decide; done) | (simp only [List.length_append, List.length_cons, List.length_nil, encT_len, be_len]; omega)))
  refine no_implicit_lambda% (acalls_of tok dok (f := 9) ⟨Try.func9, rfl, by kernel_rfl⟩ ?_); refine no_implicit_lambda% (c_start (fun _ h => h) ?_)
  repeat' (first | (refine no_implicit_lambda% (zH ?_)) | (refine no_implicit_lambda% (spl (fun hc => ?_) (fun hc => ?_)) <;> first | exact zG hc | skip) | (refine no_implicit_lambda% (ans ?_)) | (with_reducible first | exact zI | exact zJ) | (refine no_implicit_lambda% (cal [] (h0) ?_ ?_)) | (refine no_implicit_lambda% (cal [] (hnw) ?_ ?_)) | (refine no_implicit_lambda% (cal [1, 2] (hb) ?_ ?_)) | (refine no_implicit_lambda% (cal [1, 2] (hw) ?_ ?_)) | (refine no_implicit_lambda% (cal [1, 2] (hd) ?_ ?_)) | fail)
  exact e_ret (H' := []) (rest := _) rfl ⟨rfl, rfl⟩ permT (LE0 rfl)
 ·obtain ⟨hs, hg⟩ := Bool.and_eq_true_iff.1 (show (spB sp && genB gen) = true from hc)
  obtain ⟨g1, g2⟩ := genB_n hg
  have hsl := encSn_len hs
  have hb := byte_c [] 2 (by decide)
  have hw := wspan_c [2] sp hs (by decide)
  have hn := num_c ([2] ++ encSn sp) gen.toNat (by omega) (by (first | (decide; done) | (simp only [List.length_append, List.length_cons, List.length_nil, encT_len, be_len]; omega)))
  have hd := done_c ([2] ++ encSn sp ++ be gen.toNat 4) (by (first | (decide; done) | (simp only [List.length_append, List.length_cons, List.length_nil, encT_len, be_len]; omega)))
  rw [show encCm ⟨2, op, sp, gen, at', to, dw, st⟩ = [2] ++ encSn sp ++ be gen.toNat 4 from rfl]
  refine no_implicit_lambda% (acalls_of tok dok (f := 9) ⟨Try.func9, rfl, by kernel_rfl⟩ ?_); refine no_implicit_lambda% (c_start (fun _ h => h) ?_)
  repeat' (first | (refine no_implicit_lambda% (zH ?_)) | (refine no_implicit_lambda% (spl (fun hc => ?_) (fun hc => ?_)) <;> first | exact zG hc | skip) | (refine no_implicit_lambda% (ans ?_)) | (with_reducible first | exact zI | exact zJ) | (refine no_implicit_lambda% (cal [] (h0) ?_ ?_)) | (refine no_implicit_lambda% (cal [] (hnw) ?_ ?_)) | (refine no_implicit_lambda% (cal [1, 2] (hb) ?_ ?_)) | (refine no_implicit_lambda% (cal [1, 2] (hw) ?_ ?_)) | fail)
  rw [u32g g1 g2]
  repeat' (first | (refine no_implicit_lambda% (zH ?_)) | (refine no_implicit_lambda% (spl (fun hc => ?_) (fun hc => ?_)) <;> first | exact zG hc | skip) | (refine no_implicit_lambda% (ans ?_)) | (with_reducible first | exact zI | exact zJ) | (refine no_implicit_lambda% (cal [1, 2] (hn) ?_ ?_)) | (refine no_implicit_lambda% (cal [1, 2] (hd) ?_ ?_)) | fail)
  exact e_ret (H' := []) (rest := _) rfl ⟨rfl, rfl⟩ permT (LE0 rfl)
 ·obtain ⟨hs, hg⟩ := Bool.and_eq_true_iff.1 (show (spB sp && genB gen) = true from hc)
  obtain ⟨g1, g2⟩ := genB_n hg
  have hsl := encSn_len hs
  have hb := byte_c [] 4 (by decide)
  have hw := wspan_c [4] sp hs (by decide)
  have hn := num_c ([4] ++ encSn sp) gen.toNat (by omega) (by (first | (decide; done) | (simp only [List.length_append, List.length_cons, List.length_nil, encT_len, be_len]; omega)))
  have hd := done_c ([4] ++ encSn sp ++ be gen.toNat 4) (by (first | (decide; done) | (simp only [List.length_append, List.length_cons, List.length_nil, encT_len, be_len]; omega)))
  rw [show encCm ⟨4, op, sp, gen, at', to, dw, st⟩ = [4] ++ encSn sp ++ be gen.toNat 4 from rfl]
  refine no_implicit_lambda% (acalls_of tok dok (f := 9) ⟨Try.func9, rfl, by kernel_rfl⟩ ?_); refine no_implicit_lambda% (c_start (fun _ h => h) ?_)
  repeat' (first | (refine no_implicit_lambda% (zH ?_)) | (refine no_implicit_lambda% (spl (fun hc => ?_) (fun hc => ?_)) <;> first | exact zG hc | skip) | (refine no_implicit_lambda% (ans ?_)) | (with_reducible first | exact zI | exact zJ) | (refine no_implicit_lambda% (cal [] (h0) ?_ ?_)) | (refine no_implicit_lambda% (cal [] (hnw) ?_ ?_)) | (refine no_implicit_lambda% (cal [1, 2] (hb) ?_ ?_)) | (refine no_implicit_lambda% (cal [1, 2] (hw) ?_ ?_)) | fail)
  rw [u32g g1 g2]
  repeat' (first | (refine no_implicit_lambda% (zH ?_)) | (refine no_implicit_lambda% (spl (fun hc => ?_) (fun hc => ?_)) <;> first | exact zG hc | skip) | (refine no_implicit_lambda% (ans ?_)) | (with_reducible first | exact zI | exact zJ) | (refine no_implicit_lambda% (cal [1, 2] (hn) ?_ ?_)) | (refine no_implicit_lambda% (cal [1, 2] (hd) ?_ ?_)) | fail)
  exact e_ret (H' := []) (rest := _) rfl ⟨rfl, rfl⟩ permT (LE0 rfl)
 ·obtain ⟨hs, hg⟩ := Bool.and_eq_true_iff.1 (show (spB sp && (genB gen && decide (st.length ≤ 1048576))) = true from hc)
  obtain ⟨hg, ht⟩ := Bool.and_eq_true_iff.1 hg
  have ht := of_decide_eq_true ht
  obtain ⟨g1, g2⟩ := genB_n hg
  have hsl := encSn_len hs
  have hb := byte_c [] 3 (by decide)
  have hw := wspan_c [3] sp hs (by decide)
  have hn := num_c ([3] ++ encSn sp) gen.toNat (by omega) (by (first | (decide; done) | (simp only [List.length_append, List.length_cons, List.length_nil, encT_len, be_len]; omega)))
  have hx := text_c ([3] ++ encSn sp ++ be gen.toNat 4) st (by omega) (by (first | (decide; done) | (simp only [List.length_append, List.length_cons, List.length_nil, encT_len, be_len]; omega)))
  rw [if_pos ht] at hx
  have hd := done_c ([3] ++ encSn sp ++ be gen.toNat 4 ++ (be st.length 4 ++ st)) (by (first | (decide; done) | (simp only [List.length_append, List.length_cons, List.length_nil, encT_len, be_len]; omega)))
  rw [show encCm ⟨3, op, sp, gen, at', to, dw, st⟩ = [3] ++ encSn sp ++ be gen.toNat 4 ++ (be st.length 4 ++ st) by show [3] ++ (encSn sp ++ (be gen.toNat 4 ++ (be st.length 4 ++ st))) = _; simp only [List.append_assoc]]
  refine no_implicit_lambda% (acalls_of tok dok (f := 9) ⟨Try.func9, rfl, by kernel_rfl⟩ ?_); refine no_implicit_lambda% (c_start (fun _ h => h) ?_)
  repeat' (first | (refine no_implicit_lambda% (zH ?_)) | (refine no_implicit_lambda% (spl (fun hc => ?_) (fun hc => ?_)) <;> first | exact zG hc | skip) | (refine no_implicit_lambda% (ans ?_)) | (with_reducible first | exact zI | exact zJ) | (refine no_implicit_lambda% (cal [] (h0) ?_ ?_)) | (refine no_implicit_lambda% (cal [] (hnw) ?_ ?_)) | (refine no_implicit_lambda% (cal [1, 2] (hb) ?_ ?_)) | (refine no_implicit_lambda% (cal [1, 2] (hw) ?_ ?_)) | fail)
  rw [u32g g1 g2]
  repeat' (first | (refine no_implicit_lambda% (zH ?_)) | (refine no_implicit_lambda% (spl (fun hc => ?_) (fun hc => ?_)) <;> first | exact zG hc | skip) | (refine no_implicit_lambda% (ans ?_)) | (with_reducible first | exact zI | exact zJ) | (refine no_implicit_lambda% (cal [1, 2] (hn) ?_ ?_)) | (refine no_implicit_lambda% (cal [1, 2] (hx) ?_ ?_)) | (refine no_implicit_lambda% (cal [1, 2] (hd) ?_ ?_)) | fail)
  exact e_ret (H' := []) (rest := _) rfl ⟨rfl, rfl⟩ permT (LE0 rfl)
 ·obtain ⟨hs, hg⟩ := Bool.and_eq_true_iff.1 (show (spliB sp at' && genB gen) = true from hc)
  obtain ⟨hs, ha⟩ := spliB_n hs
  obtain ⟨g1, g2⟩ := genB_n hg
  have hsl := encSn_len hs
  have hb := byte_c [] 5 (by decide)
  have hw := wspan_c [5] sp hs (by decide)
  have hn := num_c ([5] ++ encSn sp) gen.toNat (by omega) (by (first | (decide; done) | (simp only [List.length_append, List.length_cons, List.length_nil, encT_len, be_len]; omega)))
  have hx := cmdtext_c ([5] ++ encSn sp ++ be gen.toNat 4) at' (by omega) (by (first | (decide; done) | (simp only [List.length_append, List.length_cons, List.length_nil, encT_len, be_len]; omega)))
  have hd := done_c ([5] ++ encSn sp ++ be gen.toNat 4 ++ encT at') (by (first | (decide; done) | (simp only [List.length_append, List.length_cons, List.length_nil, encT_len, be_len]; omega)))
  rw [show encCm ⟨5, op, sp, gen, at', to, dw, st⟩ = [5] ++ encSn sp ++ be gen.toNat 4 ++ encT at' by show [5] ++ (encSn sp ++ (be gen.toNat 4 ++ encT at')) = _; simp only [List.append_assoc]]
  refine no_implicit_lambda% (acalls_of tok dok (f := 9) ⟨Try.func9, rfl, by kernel_rfl⟩ ?_); refine no_implicit_lambda% (c_start (fun _ h => h) ?_)
  repeat' (first | (refine no_implicit_lambda% (zH ?_)) | (refine no_implicit_lambda% (spl (fun hc => ?_) (fun hc => ?_)) <;> first | exact zG hc | skip) | (refine no_implicit_lambda% (ans ?_)) | (with_reducible first | exact zI | exact zJ) | (refine no_implicit_lambda% (cal [] (h0) ?_ ?_)) | (refine no_implicit_lambda% (cal [] (hnw) ?_ ?_)) | (refine no_implicit_lambda% (cal [1, 2] (hb) ?_ ?_)) | (refine no_implicit_lambda% (cal [1, 2] (hw) ?_ ?_)) | fail)
  rw [u32g g1 g2]
  repeat' (first | (refine no_implicit_lambda% (zH ?_)) | (refine no_implicit_lambda% (spl (fun hc => ?_) (fun hc => ?_)) <;> first | exact zG hc | skip) | (refine no_implicit_lambda% (ans ?_)) | (with_reducible first | exact zI | exact zJ) | (refine no_implicit_lambda% (cal [1, 2] (hn) ?_ ?_)) | (refine no_implicit_lambda% (cal [1, 2] (hx) ?_ ?_)) | (refine no_implicit_lambda% (cal [1, 2] (hd) ?_ ?_)) | fail)
  exact e_ret (H' := []) (rest := _) rfl ⟨rfl, rfl⟩ permT (LE0 rfl)
 ·obtain ⟨hs, hg⟩ := Bool.and_eq_true_iff.1 (show (spliB sp at' && genB gen) = true from hc)
  obtain ⟨hs, ha⟩ := spliB_n hs
  obtain ⟨g1, g2⟩ := genB_n hg
  have hsl := encSn_len hs
  have hb := byte_c [] 6 (by decide)
  have hw := wspan_c [6] sp hs (by decide)
  have hn := num_c ([6] ++ encSn sp) gen.toNat (by omega) (by (first | (decide; done) | (simp only [List.length_append, List.length_cons, List.length_nil, encT_len, be_len]; omega)))
  have hx := cmdtext_c ([6] ++ encSn sp ++ be gen.toNat 4) at' (by omega) (by (first | (decide; done) | (simp only [List.length_append, List.length_cons, List.length_nil, encT_len, be_len]; omega)))
  have hd := done_c ([6] ++ encSn sp ++ be gen.toNat 4 ++ encT at') (by (first | (decide; done) | (simp only [List.length_append, List.length_cons, List.length_nil, encT_len, be_len]; omega)))
  rw [show encCm ⟨6, op, sp, gen, at', to, dw, st⟩ = [6] ++ encSn sp ++ be gen.toNat 4 ++ encT at' by show [6] ++ (encSn sp ++ (be gen.toNat 4 ++ encT at')) = _; simp only [List.append_assoc]]
  refine no_implicit_lambda% (acalls_of tok dok (f := 9) ⟨Try.func9, rfl, by kernel_rfl⟩ ?_); refine no_implicit_lambda% (c_start (fun _ h => h) ?_)
  repeat' (first | (refine no_implicit_lambda% (zH ?_)) | (refine no_implicit_lambda% (spl (fun hc => ?_) (fun hc => ?_)) <;> first | exact zG hc | skip) | (refine no_implicit_lambda% (ans ?_)) | (with_reducible first | exact zI | exact zJ) | (refine no_implicit_lambda% (cal [] (h0) ?_ ?_)) | (refine no_implicit_lambda% (cal [] (hnw) ?_ ?_)) | (refine no_implicit_lambda% (cal [1, 2] (hb) ?_ ?_)) | (refine no_implicit_lambda% (cal [1, 2] (hw) ?_ ?_)) | fail)
  rw [u32g g1 g2]
  repeat' (first | (refine no_implicit_lambda% (zH ?_)) | (refine no_implicit_lambda% (spl (fun hc => ?_) (fun hc => ?_)) <;> first | exact zG hc | skip) | (refine no_implicit_lambda% (ans ?_)) | (with_reducible first | exact zI | exact zJ) | (refine no_implicit_lambda% (cal [1, 2] (hn) ?_ ?_)) | (refine no_implicit_lambda% (cal [1, 2] (hx) ?_ ?_)) | (refine no_implicit_lambda% (cal [1, 2] (hd) ?_ ?_)) | fail)
  exact e_ret (H' := []) (rest := _) rfl ⟨rfl, rfl⟩ permT (LE0 rfl)
 ·have ha := le16_n (show le16 at' = true from hc)
  have hb := byte_c [] 7 (by decide)
  have hx := cmdtext_c [7] at' (by omega) (by (first | (decide; done) | (simp only [List.length_append, List.length_cons, List.length_nil, encT_len, be_len]; omega)))
  have hd := done_c ([7] ++ encT at') (by (first | (decide; done) | (simp only [List.length_append, List.length_cons, List.length_nil, encT_len, be_len]; omega)))
  refine no_implicit_lambda% (acalls_of tok dok (f := 9) ⟨Try.func9, rfl, by kernel_rfl⟩ ?_); refine no_implicit_lambda% (c_start (fun _ h => h) ?_)
  repeat' (first | (refine no_implicit_lambda% (zH ?_)) | (refine no_implicit_lambda% (spl (fun hc => ?_) (fun hc => ?_)) <;> first | exact zG hc | skip) | (refine no_implicit_lambda% (ans ?_)) | (with_reducible first | exact zI | exact zJ) | (refine no_implicit_lambda% (cal [] (h0) ?_ ?_)) | (refine no_implicit_lambda% (cal [] (hnw) ?_ ?_)) | (refine no_implicit_lambda% (cal [1, 2] (hb) ?_ ?_)) | (refine no_implicit_lambda% (cal [1, 2] (hx) ?_ ?_)) | (refine no_implicit_lambda% (cal [1, 2] (hd) ?_ ?_)) | fail)
  exact e_ret (H' := []) (rest := _) rfl ⟨rfl, rfl⟩ permT (LE0 rfl)
 ·have hb := byte_c [] 8 (by decide)
  by_cases hz : dw = 0
  ·subst hz
   have hb2 := byte_c [8] 0 (by decide)
   have hd := done_c [8, 0] (by decide)
   refine no_implicit_lambda% (acalls_of tok dok (f := 9) ⟨Try.func9, rfl, by kernel_rfl⟩ ?_); refine no_implicit_lambda% (c_start (fun _ h => h) ?_)
   repeat' (first | (refine no_implicit_lambda% (zH ?_)) | (refine no_implicit_lambda% (spl (fun hc => ?_) (fun hc => ?_)) <;> first | exact zG hc | skip) | (refine no_implicit_lambda% (ans ?_)) | (with_reducible first | exact zI | exact zJ) | (refine no_implicit_lambda% (cal [] (h0) ?_ ?_)) | (refine no_implicit_lambda% (cal [] (hnw) ?_ ?_)) | (refine no_implicit_lambda% (cal [1, 2] (hb) ?_ ?_)) | (refine no_implicit_lambda% (cal [1, 2] (hb2) ?_ ?_)) | (refine no_implicit_lambda% (cal [1, 2] (hd) ?_ ?_)) | fail)
   exact e_ret (H' := []) (rest := _) rfl ⟨rfl, rfl⟩ permT (LE0 rfl)
  ·have hc2 : (decide (dw = 0) || (decide (1 ≤ dw) && (decide (dw ≤ 3) && (le16 at' && (decide (0 ≤ to) && decide (to ≤ 255)))))) = true := hc
   rw [decide_eq_false hz, Bool.false_or] at hc2
   simp only [Bool.and_eq_true, decide_eq_true_eq] at hc2
   obtain ⟨d1, d2, ha, t1, t2⟩ := hc2
   have ha := le16_n ha
   have hb2 := byte_c [8] (UInt8.ofNat dw.toNat) (by decide)
   have hx := cmdtext_c ([8] ++ [UInt8.ofNat dw.toNat]) at' (by omega) (by (first | (decide; done) | (simp only [List.length_append, List.length_cons, List.length_nil, encT_len, be_len]; omega)))
   have hb3 := byte_c ([8] ++ [UInt8.ofNat dw.toNat] ++ encT at') (UInt8.ofNat to.toNat) (by (first | (decide; done) | (simp only [List.length_append, List.length_cons, List.length_nil, encT_len, be_len]; omega)))
   have hd := done_c ([8] ++ [UInt8.ofNat dw.toNat] ++ encT at' ++ [UInt8.ofNat to.toNat]) (by (first | (decide; done) | (simp only [List.length_append, List.length_cons, List.length_nil, encT_len, be_len]; omega)))
   rw [show encCm ⟨8, op, sp, gen, at', to, dw, st⟩ = [8] ++ [UInt8.ofNat dw.toNat] ++ encT at' ++ [UInt8.ofNat to.toNat] by show 8 :: UInt8.ofNat dw.toNat :: (if dw = 0 then [] else encT at' ++ [UInt8.ofNat to.toNat]) = _; rw [if_neg hz]; simp]
   refine no_implicit_lambda% (acalls_of tok dok (f := 9) ⟨Try.func9, rfl, by kernel_rfl⟩ ?_); refine no_implicit_lambda% (c_start (fun _ h => h) ?_)
   repeat' (first | (refine no_implicit_lambda% (zH ?_)) | (refine no_implicit_lambda% (spl (fun hc => ?_) (fun hc => ?_)) <;> first | exact zG hc | skip) | (refine no_implicit_lambda% (ans ?_)) | (with_reducible first | exact zI | exact zJ) | (refine no_implicit_lambda% (cal [] (h0) ?_ ?_)) | (refine no_implicit_lambda% (cal [] (hnw) ?_ ?_)) | (refine no_implicit_lambda% (cal [1, 2] (hb) ?_ ?_)) | fail)
   rw [u8g (n := dw) (by omega)]
   repeat' (first | (refine no_implicit_lambda% (zH ?_)) | (refine no_implicit_lambda% (spl (fun hc => ?_) (fun hc => ?_)) <;> first | exact zG hc | skip) | (refine no_implicit_lambda% (ans ?_)) | (with_reducible first | exact zI | exact zJ) | (refine no_implicit_lambda% (cal [1, 2] (hb2) ?_ ?_)) | (refine no_implicit_lambda% (cal [1, 2] (hx) ?_ ?_)) | fail)
   rw [u8g (n := to) (by omega)]
   repeat' (first | (refine no_implicit_lambda% (zH ?_)) | (refine no_implicit_lambda% (spl (fun hc => ?_) (fun hc => ?_)) <;> first | exact zG hc | skip) | (refine no_implicit_lambda% (ans ?_)) | (with_reducible first | exact zI | exact zJ) | (refine no_implicit_lambda% (cal [1, 2] (hb3) ?_ ?_)) | (refine no_implicit_lambda% (cal [1, 2] (hd) ?_ ?_)) | fail)
   exact e_ret (H' := []) (rest := _) rfl ⟨rfl, rfl⟩ permT (LE0 rfl)
 ·obtain ⟨hg, ht⟩ := Bool.and_eq_true_iff.1 (show (genB gen && (decide (to = 0) || decide (to = -1))) = true from hc)
  obtain ⟨g1, g2⟩ := genB_n hg
  have ht2 : to = 0 ∨ to = -1 := by simpa using ht
  have hb := byte_c [] 9 (by decide)
  have hn := num_c [9] gen.toNat (by omega) (by (first | (decide; done) | (simp only [List.length_append, List.length_cons, List.length_nil, encT_len, be_len]; omega)))
  rcases ht2 with rfl | rfl
  ·have hb2 := byte_c ([9] ++ be gen.toNat 4) 0 (by (first | (decide; done) | (simp only [List.length_append, List.length_cons, List.length_nil, encT_len, be_len]; omega)))
   have hd := done_c ([9] ++ be gen.toNat 4 ++ [0]) (by (first | (decide; done) | (simp only [List.length_append, List.length_cons, List.length_nil, encT_len, be_len]; omega)))
   refine no_implicit_lambda% (acalls_of tok dok (f := 9) ⟨Try.func9, rfl, by kernel_rfl⟩ ?_); refine no_implicit_lambda% (c_start (fun _ h => h) ?_)
   repeat' (first | (refine no_implicit_lambda% (zH ?_)) | (refine no_implicit_lambda% (spl (fun hc => ?_) (fun hc => ?_)) <;> first | exact zG hc | skip) | (refine no_implicit_lambda% (ans ?_)) | (with_reducible first | exact zI | exact zJ) | (refine no_implicit_lambda% (cal [] (h0) ?_ ?_)) | (refine no_implicit_lambda% (cal [] (hnw) ?_ ?_)) | (refine no_implicit_lambda% (cal [1, 2] (hb) ?_ ?_)) | fail)
   rw [u32g g1 g2]
   repeat' (first | (refine no_implicit_lambda% (zH ?_)) | (refine no_implicit_lambda% (spl (fun hc => ?_) (fun hc => ?_)) <;> first | exact zG hc | skip) | (refine no_implicit_lambda% (ans ?_)) | (with_reducible first | exact zI | exact zJ) | (refine no_implicit_lambda% (cal [1, 2] (hn) ?_ ?_)) | (refine no_implicit_lambda% (cal [1, 2] (hb2) ?_ ?_)) | (refine no_implicit_lambda% (cal [1, 2] (hd) ?_ ?_)) | fail)
   exact e_ret (H' := []) (rest := _) rfl ⟨rfl, rfl⟩ permT (LE0 rfl)
  ·have hb2 := byte_c ([9] ++ be gen.toNat 4) 1 (by (first | (decide; done) | (simp only [List.length_append, List.length_cons, List.length_nil, encT_len, be_len]; omega)))
   have hd := done_c ([9] ++ be gen.toNat 4 ++ [1]) (by (first | (decide; done) | (simp only [List.length_append, List.length_cons, List.length_nil, encT_len, be_len]; omega)))
   refine no_implicit_lambda% (acalls_of tok dok (f := 9) ⟨Try.func9, rfl, by kernel_rfl⟩ ?_); refine no_implicit_lambda% (c_start (fun _ h => h) ?_)
   repeat' (first | (refine no_implicit_lambda% (zH ?_)) | (refine no_implicit_lambda% (spl (fun hc => ?_) (fun hc => ?_)) <;> first | exact zG hc | skip) | (refine no_implicit_lambda% (ans ?_)) | (with_reducible first | exact zI | exact zJ) | (refine no_implicit_lambda% (cal [] (h0) ?_ ?_)) | (refine no_implicit_lambda% (cal [] (hnw) ?_ ?_)) | (refine no_implicit_lambda% (cal [1, 2] (hb) ?_ ?_)) | fail)
   rw [u32g g1 g2]
   repeat' (first | (refine no_implicit_lambda% (zH ?_)) | (refine no_implicit_lambda% (spl (fun hc => ?_) (fun hc => ?_)) <;> first | exact zG hc | skip) | (refine no_implicit_lambda% (ans ?_)) | (with_reducible first | exact zI | exact zJ) | (refine no_implicit_lambda% (cal [1, 2] (hn) ?_ ?_)) | (refine no_implicit_lambda% (cal [1, 2] (hb2) ?_ ?_)) | (refine no_implicit_lambda% (cal [1, 2] (hd) ?_ ?_)) | fail)
   exact e_ret (H' := []) (rest := _) rfl ⟨rfl, rfl⟩ permT (LE0 rfl)
 ·rw [cmB0 hk] at hc
  have h10 : k = 10 := of_decide_eq_true hc
  subst h10
  have hb := byte_c [] 10 (by decide)
  have hd := done_c [10] (by decide)
  refine no_implicit_lambda% (acalls_of tok dok (f := 9) ⟨Try.func9, rfl, by kernel_rfl⟩ ?_); refine no_implicit_lambda% (c_start (fun _ h => h) ?_)
  repeat' (first | (refine no_implicit_lambda% (zH ?_)) | (refine no_implicit_lambda% (spl (fun hc => ?_) (fun hc => ?_)) <;> first | exact zG hc | skip) | (refine no_implicit_lambda% (ans ?_)) | (with_reducible first | exact zI | exact zJ) | (refine no_implicit_lambda% (cal [] (h0) ?_ ?_)) | (refine no_implicit_lambda% (cal [] (hnw) ?_ ?_)) | (refine no_implicit_lambda% (cal [1, 2] (hb) ?_ ?_)) | (refine no_implicit_lambda% (cal [1, 2] (hd) ?_ ?_)) | fail)
  exact e_ret (H' := []) (rest := _) rfl ⟨rfl, rfl⟩ permT (LE0 rfl)
theorem encode8_no (c : Cm) (hc : cmB c = false) (hl : c.op.l.length < 1000000000000) : ACalls Try.prog 9 0 10000 [.agg (cmrow c)] [] (fun out H' => out = .ret (.tuple [.list [] .free, .v (.int .i64 1)]) ∧ H' = []) := by
 have h0 := (cright_c c hl).top0
 rw [hc] at h0
 obtain ⟨k, op, sp, gen, at', to, dw, st⟩ := c
 refine no_implicit_lambda% (acalls_of tok dok (f := 9) ⟨Try.func9, rfl, by kernel_rfl⟩ ?_); refine no_implicit_lambda% (c_start (fun _ h => h) ?_)
 repeat' (first | (refine no_implicit_lambda% (zH ?_)) | (refine no_implicit_lambda% (spl (fun hc => ?_) (fun hc => ?_)) <;> first | exact zG hc | skip) | (refine no_implicit_lambda% (ans ?_)) | (with_reducible first | exact zI | exact zJ) | (refine no_implicit_lambda% (cal [] (h0) ?_ ?_)) | fail)
 exact e_ret_to (H' := []) (rest := _) (.freeSlot 2 rfl) rfl ⟨rfl, rfl⟩ permT (LE0 rfl)
end Go.Proofs.Ytncffhgoopdfgaa
