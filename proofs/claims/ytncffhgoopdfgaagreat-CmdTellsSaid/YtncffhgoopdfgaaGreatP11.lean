/- Part 11 of what the laws CmdTells rest on: CdA, CdB, CdC, CdD. -/
import Derived.Test.YtncffhgoopdfgaaGreatP10
set_option linter.unusedSimpArgs false
set_option linter.unusedVariables false
namespace Go.Proofs.YtncffhgoopdfgaaGreat
open Go.Am
set_option maxRecDepth 100000
theorem bl_gt (a b : List UInt8) : (!Op.bytesLess b a && !(b == a)) = Op.bytesLess a b := by
 rw [less_cb, less_cb, eq_cb, cb_anti a b]
 rcases cb_three b a with h | h | h <;> rw [h] <;> decide
theorem bl_le (a b : List UInt8) : (Op.bytesLess a b || a == b) = !Op.bytesLess b a := by
 rw [less_cb, less_cb, eq_cb, cb_anti b a]
 rcases cb_three a b with h | h | h <;> rw [h] <;> decide
theorem ibeq (a b : Int) : (a == b) = decide (a = b) := rfl
structure Sn where
 lo : ByteArray
 hi : ByteArray
def snrow (s : Sn) : List AV := [.v (.string s.lo), .v (.string s.hi)]
def le16 (s : ByteArray) : Bool := decide ((s.size : Int) ≤ 16)
def spB (s : Sn) : Bool := le16 s.lo && (le16 s.hi && (s.hi.toList == [] || sLt s.lo s.hi))
def spliB (s : Sn) (t : ByteArray) : Bool := spB s && (le16 t && (sLt s.lo t && (s.hi.toList == [] || sLt t s.hi)))
def spl1 (s : Sn) (t : ByteArray) : Sn := if spliB s t then ⟨s.lo, t⟩ else ⟨⟨#[]⟩, ⟨#[]⟩⟩
def spl2 (s : Sn) (t : ByteArray) : Sn := if spliB s t then ⟨t, s.hi⟩ else ⟨⟨#[]⟩, ⟨#[]⟩⟩
def splO (s : Sn) (t : ByteArray) : AOut := .ret (.tuple [.agg (snrow (spl1 s t)), .agg (snrow (spl2 s t)), .v (.bool (spliB s t))])
theorem splO_t {s : Sn} {t : ByteArray} (h : spliB s t = true) : splO s t = .ret (.tuple [.agg [.v (.string s.lo), .v (.string t)], .agg [.v (.string t), .v (.string s.hi)], .v (.bool true)]) := by
 unfold splO spl1 spl2
 rw [h]; rfl
theorem splO_f {s : Sn} {t : ByteArray} (h : spliB s t = false) : splO s t = .ret (.tuple [.agg [.v (.string ⟨#[]⟩), .v (.string ⟨#[]⟩)], .agg [.v (.string ⟨#[]⟩), .v (.string ⟨#[]⟩)], .v (.bool false)]) := by
 unfold splO spl1 spl2
 rw [h]; rfl
theorem spright_c (s : Sn) : ACalls Tryz.prog 112 0 10 [.agg (snrow s)] [] (fun out H' => out = .ret (.v (.bool (spB s))) ∧ H' = []) := by
 refine no_implicit_lambda% (acalls_of tok dok (f := 112) ⟨Tryz.func112, rfl, by kernel_rfl⟩ ?_); refine no_implicit_lambda% (c_start (fun _ h => h) ?_)
 repeat' (first | (refine no_implicit_lambda% (zH ?_)) | (refine no_implicit_lambda% (spl (fun hc => ?_) (fun hc => ?_)) <;> first | exact zG hc | skip) | (refine no_implicit_lambda% (ans ?_)) | (with_reducible first | exact zI | exact zJ))
 all_goals (refine e_ret (H' := []) (rest := _) rfl ⟨congrArg (fun b => AOut.ret (.v (.bool b))) ?_, rfl⟩ permT (LE0 rfl); unfold spB le16 sLt; ((try simp only [bl_gt, bl_le, ibeq] at *); (try simp only [decide_eq_true_eq, decide_eq_false_iff_not, beq_iff_eq, beq_eq_false_iff_ne, bne_iff_ne, bne_eq_false_iff_eq, Bool.not_eq_true', Bool.not_eq_false', ne_eq] at *); first | (simp_all; done) | (simp_all; omega) | (simp_all; intros; omega)))
theorem rspright_c (s : Sn) : ACalls Tryz.prog 49 0 10 [.agg (snrow s)] [] (fun out H' => out = .ret (.v (.bool (spB s))) ∧ H' = []) := by
 refine no_implicit_lambda% (acalls_of tok dok (f := 49) ⟨Tryz.func49, rfl, by kernel_rfl⟩ ?_); refine no_implicit_lambda% (c_start (fun _ h => h) ?_)
 repeat' (first | (refine no_implicit_lambda% (zH ?_)) | (refine no_implicit_lambda% (spl (fun hc => ?_) (fun hc => ?_)) <;> first | exact zG hc | skip) | (refine no_implicit_lambda% (ans ?_)) | (with_reducible first | exact zI | exact zJ))
 all_goals (refine e_ret (H' := []) (rest := _) rfl ⟨congrArg (fun b => AOut.ret (.v (.bool b))) ?_, rfl⟩ permT (LE0 rfl); unfold spB le16 sLt; ((try simp only [bl_gt, bl_le, ibeq] at *); (try simp only [decide_eq_true_eq, decide_eq_false_iff_not, beq_iff_eq, beq_eq_false_iff_ne, bne_iff_ne, bne_eq_false_iff_eq, Bool.not_eq_true', Bool.not_eq_false', ne_eq] at *); first | (simp_all; done) | (simp_all; omega) | (simp_all; intros; omega)))
theorem split_c (s : Sn) (t : ByteArray) : ACalls Tryz.prog 114 0 50 [.agg (snrow s), .v (.string t)] [] (fun out H' => out = splO s t ∧ H' = []) := by
 have h1 := spright_c s
 have h2 := spright_c ⟨s.lo, t⟩
 refine no_implicit_lambda% (acalls_of tok dok (f := 114) ⟨Tryz.func114, rfl, by kernel_rfl⟩ ?_); refine no_implicit_lambda% (c_start (fun _ h => h) ?_)
 repeat' (first | (refine no_implicit_lambda% (zH ?_)) | (refine no_implicit_lambda% (spl (fun hc => ?_) (fun hc => ?_)) <;> first | exact zG hc | skip) | (refine no_implicit_lambda% (ans ?_)) | (with_reducible first | exact zI | exact zJ) | (refine no_implicit_lambda% (cal [] (h1) ?_ ?_)) | (refine no_implicit_lambda% (cal [] (h2) ?_ ?_)) | fail)
 all_goals first | (refine e_ret (H' := []) (rest := _) rfl ⟨(splO_t (s := s) (t := t) ?_).symm, rfl⟩ permT (LE0 rfl); clear h1; (try clear h2); unfold spliB spB le16 sLt at *; ((try simp only [bl_gt, bl_le, ibeq] at *); (try simp only [decide_eq_true_eq, decide_eq_false_iff_not, beq_iff_eq, beq_eq_false_iff_ne, bne_iff_ne, bne_eq_false_iff_eq, Bool.not_eq_true', Bool.not_eq_false', ne_eq] at *); first | (simp_all; done) | (simp_all; omega) | (simp_all; intros; omega)); done) | (refine e_ret (H' := []) (rest := _) rfl ⟨(splO_f (s := s) (t := t) ?_).symm, rfl⟩ permT (LE0 rfl); clear h1; (try clear h2); unfold spliB spB le16 sLt at *; ((try simp only [bl_gt, bl_le, ibeq] at *); (try simp only [decide_eq_true_eq, decide_eq_false_iff_not, beq_iff_eq, beq_eq_false_iff_ne, bne_iff_ne, bne_eq_false_iff_eq, Bool.not_eq_true', Bool.not_eq_false', ne_eq] at *); first | (simp_all; done) | (simp_all; omega) | (simp_all; intros; omega)); done)
theorem rsplit_c (s : Sn) (t : ByteArray) : ACalls Tryz.prog 51 0 50 [.agg (snrow s), .v (.string t)] [] (fun out H' => out = splO s t ∧ H' = []) := by
 have h1 := rspright_c s
 refine no_implicit_lambda% (acalls_of tok dok (f := 51) ⟨Tryz.func51, rfl, by kernel_rfl⟩ ?_); refine no_implicit_lambda% (c_start (fun _ h => h) ?_)
 repeat' (first | (refine no_implicit_lambda% (zH ?_)) | (refine no_implicit_lambda% (spl (fun hc => ?_) (fun hc => ?_)) <;> first | exact zG hc | skip) | (refine no_implicit_lambda% (ans ?_)) | (with_reducible first | exact zI | exact zJ) | (refine no_implicit_lambda% (cal [] (h1) ?_ ?_)) | fail)
 all_goals first | (refine e_ret (H' := []) (rest := _) rfl ⟨(splO_t (s := s) (t := t) ?_).symm, rfl⟩ permT (LE0 rfl); clear h1; (try clear h2); unfold spliB spB le16 sLt at *; ((try simp only [bl_gt, bl_le, ibeq] at *); (try simp only [decide_eq_true_eq, decide_eq_false_iff_not, beq_iff_eq, beq_eq_false_iff_ne, bne_iff_ne, bne_eq_false_iff_eq, Bool.not_eq_true', Bool.not_eq_false', ne_eq] at *); first | (simp_all; done) | (simp_all; omega) | (simp_all; intros; omega)); done) | (refine e_ret (H' := []) (rest := _) rfl ⟨(splO_f (s := s) (t := t) ?_).symm, rfl⟩ permT (LE0 rfl); clear h1; (try clear h2); unfold spliB spB le16 sLt at *; ((try simp only [bl_gt, bl_le, ibeq] at *); (try simp only [decide_eq_true_eq, decide_eq_false_iff_not, beq_iff_eq, beq_eq_false_iff_ne, bne_iff_ne, bne_eq_false_iff_eq, Bool.not_eq_true', Bool.not_eq_false', ne_eq] at *); first | (simp_all; done) | (simp_all; omega) | (simp_all; intros; omega)); done)
theorem cond_c (d : Cd) : ACalls Tryz.prog 119 0 50 [.agg (cdrow d)] [] (fun out H' => out = .ret (.v (.bool (rcB d))) ∧ H' = []) := by
 have h1 := name_c d.c
 have h2 : ACalls Tryz.prog 145 0 10 [vav d.v] [] (fun out H' => out = .ret (.v (.bool (vRt d.v))) ∧ H' = []) := vright_c d.v
 obtain ⟨has, want, c, v⟩ := d
 unfold rcB
 dsimp only at *
 generalize nmB c = n at *
 generalize vRt v = r at *
 cases has <;> cases want <;> cases n <;> cases r
 all_goals
  refine no_implicit_lambda% (acalls_of tok dok (f := 119) ⟨Tryz.func119, rfl, by kernel_rfl⟩ ?_); refine no_implicit_lambda% (c_start (fun _ h => h) ?_)
  repeat' (first | (refine no_implicit_lambda% (zH ?_)) | (refine no_implicit_lambda% (spl (fun hc => ?_) (fun hc => ?_)) <;> first | exact zG hc | skip) | (refine no_implicit_lambda% (ans ?_)) | (with_reducible first | exact zI | exact zJ) | (refine no_implicit_lambda% (cal [] (h1) ?_ ?_)) | (refine no_implicit_lambda% (cal [] (h2) ?_ ?_)) | fail)
  exact e_ret (H' := []) (rest := _) rfl ⟨rfl, rfl⟩ permT (LE0 rfl)
def chB (x : Ch) : Bool := rightC x == 0
theorem wrong_c (x : Ch) : ACalls Tryz.prog 118 0 80 [.agg (chrow x)] [] (fun out H' => out = .ret (.v (.bool (!chB x))) ∧ H' = []) := by
 have hr := right5_c x
 unfold chB
 generalize rightC x = e at *
 refine no_implicit_lambda% (acalls_of tok dok (f := 118) ⟨Tryz.func118, rfl, by kernel_rfl⟩ ?_); refine no_implicit_lambda% (c_start (fun _ h => h) ?_)
 repeat' (first | (refine no_implicit_lambda% (zH ?_)) | (refine no_implicit_lambda% (spl (fun hc => ?_) (fun hc => ?_)) <;> first | exact zG hc | skip) | (refine no_implicit_lambda% (ans ?_)) | (with_reducible first | exact zI | exact zJ) | (refine no_implicit_lambda% (cal [] (hr) ?_ ?_)) | fail)
 all_goals (refine e_ret (H' := []) (rest := _) rfl ⟨congrArg (fun b => AOut.ret (.v (.bool b))) ?_, rfl⟩ permT (LE0 rfl); first | rfl | (((try simp only [bl_gt, bl_le, ibeq] at *); (try simp only [decide_eq_true_eq, decide_eq_false_iff_not, beq_iff_eq, beq_eq_false_iff_ne, bne_iff_ne, bne_eq_false_iff_eq, Bool.not_eq_true', Bool.not_eq_false', ne_eq] at *); first | (simp_all; done) | (simp_all; omega) | (simp_all; intros; omega)); done))
def ixSt8 (l : List Ch) (i : Nat) : ASt := ⟨([.list (l.map chrow) .free, .fn 118 []] ++ List.replicate 5 .dead ++ [.v (.int .i64 l.length), .v (.int .i64 i)] ++ List.replicate 10 .dead), [], 0⟩
theorem index8_c (l : List Ch) (h : l.length < 1000000000000) : ACalls Tryz.prog 170 0 1000 [.list (l.map chrow) .free, .fn 118 []] [] (fun out H' => ∃ i : Int, decide (i ≥ 0) = !(l.all chB) ∧ out = .ret (.v (.int .i64 i)) ∧ H' = []) := by
 refine no_implicit_lambda% (acalls_of tok dok (f := 170) ⟨Tryz.func170, rfl, by kernel_rfl⟩ ?_); refine no_implicit_lambda% (c_start (fun _ h => h) ?_)
 repeat' (first | (refine no_implicit_lambda% (zH ?_)) | (refine no_implicit_lambda% (spl (fun hc => ?_) (fun hc => ?_)) <;> first | exact zG hc | skip) | (refine no_implicit_lambda% (ans ?_)) | (with_reducible first | exact zI | exact zJ))
 refine c_loop' (ixSt8 l) (fun i => i ≤ l.length ∧ (l.take i).all chB = true) (fun i => l.length - i) (a := 0) ⟨Nat.zero_le _, rfl⟩ ?_ ?_
 ·(refine no_implicit_lambda% (Conv.toT ?_ ?_ (LE0 rfl))); (focus ((unfold ixSt8); (try dsimp only); exact wkl)); (focus ((unfold ixSt8); (try dsimp only); exact wkh))
 ·rintro i ⟨h1, h2⟩
  refine c_turn (n' := 0) (fun _ h => h) (fun _ h => h) rfl ?_
  have hlm : ((l.map chrow).length : Int) = l.length := by rw [List.length_map]
  rcases hx : l[i]? with _ | x
  ·have hi : i = l.length := by have := List.getElem?_eq_none_iff.1 hx; omega
   repeat' (first | (refine no_implicit_lambda% (zH ?_)) | (refine no_implicit_lambda% (spl (fun hc => ?_) (fun hc => ?_)) <;> first | exact zG hc | skip) | (refine no_implicit_lambda% (ans ?_)) | (with_reducible first | exact zI | exact zJ))
   refine e_ret (H' := []) (rest := _) rfl ⟨-1, ?_, rfl, rfl⟩ permT (LE0 rfl)
   rw [hi, List.take_length] at h2
   rw [h2]; rfl
  ·have hi : i < l.length := (List.getElem?_eq_some_iff.1 hx).1
   have hix := chx hx
   have hr := wrong_c x
   have hmem : chB x = false → l.all chB = false := fun e => by
    rw [List.all_eq_false]
    exact ⟨x, List.mem_of_getElem? hx, by simp [e]⟩
   have hsucc : (l.take (i + 1)).all chB = ((l.take i).all chB && chB x) := by
    obtain ⟨h5, h6⟩ := List.getElem?_eq_some_iff.1 hx
    rw [List.take_succ_eq_append_getElem h5, List.all_append, h6]; simp
   generalize chB x = r at *
   repeat' (first | (refine no_implicit_lambda% (zH ?_)) | (refine no_implicit_lambda% (spl (fun hc => ?_) (fun hc => ?_)) <;> first | exact zG hc | skip) | (refine no_implicit_lambda% (ans ?_)) | (with_reducible first | exact zI | exact zJ) | (refine no_implicit_lambda% (cal [] (hr) ?_ ?_)) | fail)
   ·have hr0 : r = false := by simpa using hc
    refine e_ret (H' := []) (rest := _) rfl ⟨(i : Int), ?_, rfl, rfl⟩ permT (LE0 rfl)
    rw [hmem hr0]; simp
   ·have hr0 : r = true := by simpa using hc
    (refine no_implicit_lambda% (k_loopLT (i + 1) 0 [] (⟨hi, by rw [hsucc, h2, hr0]; rfl⟩ : i + 1 ≤ l.length ∧ (l.take (i + 1)).all chB = true) (by first | omega | (simp; done) | (simp; omega)) (LE0 rfl) (fun _ h => h) (fun _ h => h) ?_ ?_)); (focus ((try dsimp only); exact wkl)); (focus ((try dsimp only); exact wkh))
theorem contains8_c (l : List Ch) (h : l.length < 1000000000000) : ACalls Tryz.prog 117 0 1000 [.list (l.map chrow) .free, .fn 118 []] [] (fun out H' => out = .ret (.v (.bool (!(l.all chB)))) ∧ H' = []) := by
 refine no_implicit_lambda% (acalls_of tok dok (f := 117) ⟨Tryz.func117, rfl, by kernel_rfl⟩ ?_); refine no_implicit_lambda% (c_start (fun _ h => h) ?_)
 refine no_implicit_lambda% (awd ?_)
 refine no_implicit_lambda% (cal [] (index8_c l h) ?_ ?_)
 ·intro x H' h
  obtain ⟨i, hi, h1, rfl⟩ := h
  cases h1
  first | (refine no_implicit_lambda% (akc ?_)) | (refine no_implicit_lambda% (aec ?_))
  refine no_implicit_lambda% (awd ?_)
  exact e_ret (H' := []) (rest := _) rfl ⟨by rw [← hi]; rfl, rfl⟩ permT (LE0 rfl)
 ·intro x H' h
  obtain ⟨_, _, h', _⟩ := h
  cases h'
def opB (q : Oq) : Bool := if q.k = 1 then nmB q.row else if q.k = 2 then nmB q.row && (rcB q.d && (decide (0 < q.l.length) && (decide (q.l.length ≤ 8) && q.l.all chB))) else if q.k = 3 then spB ⟨q.row, q.hi⟩ && (decide (1 ≤ q.most) && decide (q.most ≤ 16)) else false
theorem opB1 {q : Oq} (h : q.k = 1) : opB q = nmB q.row := by unfold opB; rw [if_pos h]
theorem opB2 {q : Oq} (h : q.k = 2) : opB q = (nmB q.row && (rcB q.d && (decide (0 < q.l.length) && (decide (q.l.length ≤ 8) && q.l.all chB)))) := by unfold opB; rw [if_neg (by omega), if_pos h]
theorem opB3 {q : Oq} (h : q.k = 3) : opB q = (spB ⟨q.row, q.hi⟩ && (decide (1 ≤ q.most) && decide (q.most ≤ 16))) := by unfold opB; rw [if_neg (by omega), if_neg (by omega), if_pos h]
theorem opB0 {q : Oq} (h1 : q.k ≠ 1) (h2 : q.k ≠ 2) (h3 : q.k ≠ 3) : opB q = false := by unfold opB; rw [if_neg h1, if_neg h2, if_neg h3]
end Go.Proofs.YtncffhgoopdfgaaGreat
namespace Go.Proofs.YtncffhgoopdfgaaGreat
open Go.Am
set_option maxRecDepth 100000
theorem kd3 (k : Int) : k = 1 ∨ k = 2 ∨ k = 3 ∨ (k ≠ 1 ∧ k ≠ 2 ∧ k ≠ 3) := by omega
set_option maxHeartbeats 3200000 in
theorem rightOp_c (q : Oq) (hl : q.l.length < 1000000000000) : ACalls Tryz.prog 44 0 3000 [.agg (oqrow q)] [] (fun out H' => out = .ret (.v (.bool (opB q))) ∧ H' = []) := by
 have h1 := name_c q.row
 have h2 := cond_c q.d
 have h3 := contains8_c q.l hl
 have h4 := spright_c ⟨q.row, q.hi⟩
 obtain ⟨k, row, hi, d, l, most⟩ := q
 dsimp only at *
 have hlm : ((l.map chrow).length : Int) = l.length := by rw [List.length_map]
 rcases kd3 k with rfl | rfl | rfl | ⟨k1, k2, k3⟩
 ·rw [opB1 rfl]
  refine no_implicit_lambda% (acalls_of tok dok (f := 44) ⟨Tryz.func44, rfl, by kernel_rfl⟩ ?_); refine no_implicit_lambda% (c_start (fun _ h => h) ?_)
  repeat' (first | (refine no_implicit_lambda% (zH ?_)) | (refine no_implicit_lambda% (spl (fun hc => ?_) (fun hc => ?_)) <;> first | exact zG hc | skip) | (refine no_implicit_lambda% (ans ?_)) | (with_reducible first | exact zI | exact zJ) | (refine no_implicit_lambda% (cal [] (h1) ?_ ?_)) | fail)
  exact e_ret (H' := []) (rest := _) rfl ⟨rfl, rfl⟩ permT (LE0 rfl)
 ·rw [opB2 rfl]
  dsimp only
  generalize nmB row = n at *
  generalize rcB d = r at *
  generalize l.all chB = a at *
  refine no_implicit_lambda% (acalls_of tok dok (f := 44) ⟨Tryz.func44, rfl, by kernel_rfl⟩ ?_); refine no_implicit_lambda% (c_start (fun _ h => h) ?_)
  repeat' (first | (refine no_implicit_lambda% (zH ?_)) | (refine no_implicit_lambda% (spl (fun hc => ?_) (fun hc => ?_)) <;> first | exact zG hc | skip) | (refine no_implicit_lambda% (ans ?_)) | (with_reducible first | exact zI | exact zJ) | (refine no_implicit_lambda% (cal [] (h1) ?_ ?_)) | (refine no_implicit_lambda% (cal [] (h2) ?_ ?_)) | (refine no_implicit_lambda% (cal [] (h3) ?_ ?_)) | fail)
  all_goals (refine e_ret (H' := []) (rest := _) rfl ⟨congrArg (fun b => AOut.ret (.v (.bool b))) ?_, rfl⟩ permT (LE0 rfl); rw [hlm] at *; ((try simp only [bl_gt, bl_le, ibeq] at *); (try simp only [decide_eq_true_eq, decide_eq_false_iff_not, beq_iff_eq, beq_eq_false_iff_ne, bne_iff_ne, bne_eq_false_iff_eq, Bool.not_eq_true', Bool.not_eq_false', ne_eq] at *); first | (simp_all; done) | (simp_all; omega) | (simp_all; intros; omega)))
 ·rw [opB3 rfl]
  dsimp only
  generalize spB ⟨row, hi⟩ = s at *
  refine no_implicit_lambda% (acalls_of tok dok (f := 44) ⟨Tryz.func44, rfl, by kernel_rfl⟩ ?_); refine no_implicit_lambda% (c_start (fun _ h => h) ?_)
  repeat' (first | (refine no_implicit_lambda% (zH ?_)) | (refine no_implicit_lambda% (spl (fun hc => ?_) (fun hc => ?_)) <;> first | exact zG hc | skip) | (refine no_implicit_lambda% (ans ?_)) | (with_reducible first | exact zI | exact zJ) | (refine no_implicit_lambda% (cal [] (h4) ?_ ?_)) | fail)
  all_goals (refine e_ret (H' := []) (rest := _) rfl ⟨congrArg (fun b => AOut.ret (.v (.bool b))) ?_, rfl⟩ permT (LE0 rfl); ((try simp only [bl_gt, bl_le, ibeq] at *); (try simp only [decide_eq_true_eq, decide_eq_false_iff_not, beq_iff_eq, beq_eq_false_iff_ne, bne_iff_ne, bne_eq_false_iff_eq, Bool.not_eq_true', Bool.not_eq_false', ne_eq] at *); first | (simp_all; done) | (simp_all; omega) | (simp_all; intros; omega)))
 ·rw [opB0 k1 k2 k3]
  refine no_implicit_lambda% (acalls_of tok dok (f := 44) ⟨Tryz.func44, rfl, by kernel_rfl⟩ ?_); refine no_implicit_lambda% (c_start (fun _ h => h) ?_)
  repeat' (first | (refine no_implicit_lambda% (zH ?_)) | (refine no_implicit_lambda% (spl (fun hc => ?_) (fun hc => ?_)) <;> first | exact zG hc | skip) | (refine no_implicit_lambda% (ans ?_)) | (with_reducible first | exact zI | exact zJ))
  exact e_ret (H' := []) (rest := _) rfl ⟨rfl, rfl⟩ permT (LE0 rfl)
def rrSt8 (q : Oq) (i : Nat) : ASt := ⟨([.dead, .ptr 0 0, .dead, .v (.int .i64 i)] ++ List.replicate 63 .dead), [(0, .box (oqrow q))], 1⟩
set_option maxHeartbeats 3200000 in
theorem rrightOp_c (q : Oq) (hl : q.l.length < 1000000000000) : ACalls Tryz.prog 45 0 3000 [.agg (oqrow q)] [] (fun out H' => out = .ret (.v (.bool (opB q))) ∧ H' = []) := by
 have h1 := rname_c q.row
 have h2 := (rcond_c q.d).top0
 have h4 := rspright_c ⟨q.row, q.hi⟩
 obtain ⟨k, row, hi, d, l, most⟩ := q
 dsimp only at *
 have hlm : ((l.map chrow).length : Int) = l.length := by rw [List.length_map]
 rcases kd3 k with rfl | rfl | rfl | ⟨k1, k2, k3⟩
 ·rw [opB1 rfl]
  refine no_implicit_lambda% (acalls_of tok dok (f := 45) ⟨Tryz.func45, rfl, by kernel_rfl⟩ ?_); refine no_implicit_lambda% (c_start (fun _ h => h) ?_)
  repeat' (first | (refine no_implicit_lambda% (zH ?_)) | (refine no_implicit_lambda% (spl (fun hc => ?_) (fun hc => ?_)) <;> first | exact zG hc | skip) | (refine no_implicit_lambda% (ans ?_)) | (with_reducible first | exact zI | exact zJ) | (refine no_implicit_lambda% (cal [] (h1) ?_ ?_)) | fail)
  exact e_ret (H' := []) (rest := _) rfl ⟨rfl, rfl⟩ permT (LE0 rfl)
 ·have hop := @opB2 ⟨2, row, hi, d, l, most⟩ rfl
  dsimp only at hop
  generalize opB ⟨2, row, hi, d, l, most⟩ = B at *
  generalize nmB row = n at *
  generalize rcB d = r at *
  refine no_implicit_lambda% (acalls_of tok dok (f := 45) ⟨Tryz.func45, rfl, by kernel_rfl⟩ ?_); refine no_implicit_lambda% (c_start (fun _ h => h) ?_)
  repeat' (first | (refine no_implicit_lambda% (zH ?_)) | (refine no_implicit_lambda% (spl (fun hc => ?_) (fun hc => ?_)) <;> first | exact zG hc | skip) | (refine no_implicit_lambda% (ans ?_)) | (with_reducible first | exact zI | exact zJ) | (refine no_implicit_lambda% (cal [] (h1) ?_ ?_)) | (refine no_implicit_lambda% (cal [] (h2) ?_ ?_)) | fail)
  all_goals first | ((refine e_ret (H' := []) (rest := _) rfl ⟨congrArg (fun b => AOut.ret (.v (.bool b))) ?_, rfl⟩ permT (LE0 rfl); rw [hop]; (try dsimp only at *); (try simp only [List.length_map] at *); ((try simp only [bl_gt, bl_le, ibeq] at *); (try simp only [decide_eq_true_eq, decide_eq_false_iff_not, beq_iff_eq, beq_eq_false_iff_ne, bne_iff_ne, bne_eq_false_iff_eq, Bool.not_eq_true', Bool.not_eq_false', ne_eq] at *); first | (simp_all; done) | (simp_all; omega) | (simp_all; intros; omega))); done) | skip
  ·have hop2 : B = l.all chB := by
    rw [hop]
    (try dsimp only at *)
    (try simp only [List.length_map] at *)
    have e1 : n = true := by ((try simp only [bl_gt, bl_le, ibeq] at *); (try simp only [decide_eq_true_eq, decide_eq_false_iff_not, beq_iff_eq, beq_eq_false_iff_ne, bne_iff_ne, bne_eq_false_iff_eq, Bool.not_eq_true', Bool.not_eq_false', ne_eq] at *); first | (simp_all; done) | (simp_all; omega) | (simp_all; intros; omega))
    have e2 : r = true := by ((try simp only [bl_gt, bl_le, ibeq] at *); (try simp only [decide_eq_true_eq, decide_eq_false_iff_not, beq_iff_eq, beq_eq_false_iff_ne, bne_iff_ne, bne_eq_false_iff_eq, Bool.not_eq_true', Bool.not_eq_false', ne_eq] at *); first | (simp_all; done) | (simp_all; omega) | (simp_all; intros; omega))
    have e3 : 0 < l.length := by simp only [decide_eq_true_eq, decide_eq_false_iff_not] at *; omega
    have e4 : l.length ≤ 8 := by simp only [decide_eq_true_eq, decide_eq_false_iff_not] at *; omega
    rw [e1, e2, decide_eq_true e3, decide_eq_true e4]
    rfl
   refine c_loop' (rrSt8 ⟨2, row, hi, d, l, most⟩) (fun i => i ≤ l.length ∧ (l.take i).all chB = true) (fun i => l.length - i) (a := 0) ⟨Nat.zero_le _, rfl⟩ ?_ ?_
   ·(refine no_implicit_lambda% (Conv.toT ?_ ?_ (LE0 rfl))); (focus ((unfold rrSt8); (try dsimp only); exact wkl)); (focus ((unfold rrSt8); (try dsimp only); exact wkh))
   ·rintro i ⟨h1, h2⟩
    refine c_turn (n' := 1) (fun _ h => h) (fun _ h => h) rfl ?_
    rcases hx : l[i]? with _ | x
    ·have hi : i = l.length := by have := List.getElem?_eq_none_iff.1 hx; omega
     repeat' (first | (refine no_implicit_lambda% (zH ?_)) | (refine no_implicit_lambda% (spl (fun hc => ?_) (fun hc => ?_)) <;> first | exact zG hc | skip) | (refine no_implicit_lambda% (ans ?_)) | (with_reducible first | exact zI | exact zJ))
     (refine e_ret (H' := []) (rest := _) rfl ⟨congrArg (fun b => AOut.ret (.v (.bool b))) ?_, rfl⟩ permT (LE0 rfl); rw [hop2, ← List.take_length (l := l), ← hi, h2])
    ·have hi : i < l.length := (List.getElem?_eq_some_iff.1 hx).1
     have hix := chx hx
     have hr : ACalls Tryz.prog 59 0 50 [.agg (chrow x)] [] (fun out H' => out = .ret (.v (.int .i64 (rightC x))) ∧ H' = []) := refRightC_c x
     have hmem : chB x = false → l.all chB = false := fun e => by
      rw [List.all_eq_false]
      exact ⟨x, List.mem_of_getElem? hx, by simp [e]⟩
     have hsucc : (l.take (i + 1)).all chB = ((l.take i).all chB && chB x) := by
      obtain ⟨h5, h6⟩ := List.getElem?_eq_some_iff.1 hx
      rw [List.take_succ_eq_append_getElem h5, List.all_append, h6]; simp
     have hcx : chB x = (rightC x == 0) := rfl
     generalize rightC x = e at *
     repeat' (first | (refine no_implicit_lambda% (zH ?_)) | (refine no_implicit_lambda% (spl (fun hc => ?_) (fun hc => ?_)) <;> first | exact zG hc | skip) | (refine no_implicit_lambda% (ans ?_)) | (with_reducible first | exact zI | exact zJ) | (refine no_implicit_lambda% (cal [] (hr) ?_ ?_)) | fail)
     ·(refine e_ret (H' := []) (rest := _) rfl ⟨congrArg (fun b => AOut.ret (.v (.bool b))) ?_, rfl⟩ permT (LE0 rfl); rw [hop2, hmem (by rw [hcx]; simpa using hc)])
     ·(refine no_implicit_lambda% (k_loopLT (i + 1) 0 [0] (⟨hi, by rw [hsucc, h2, hcx]; simpa using hc⟩ : i + 1 ≤ l.length ∧ (l.take (i + 1)).all chB = true) (by first | omega | (simp; done) | (simp; omega)) (LE0 rfl) (fun _ h => h) (fun _ h => h) ?_ ?_)); (focus ((try dsimp only); exact wkl)); (focus ((try dsimp only); exact wkh))
 ·rw [opB3 rfl]
  dsimp only
  generalize spB ⟨row, hi⟩ = s at *
  refine no_implicit_lambda% (acalls_of tok dok (f := 45) ⟨Tryz.func45, rfl, by kernel_rfl⟩ ?_); refine no_implicit_lambda% (c_start (fun _ h => h) ?_)
  repeat' (first | (refine no_implicit_lambda% (zH ?_)) | (refine no_implicit_lambda% (spl (fun hc => ?_) (fun hc => ?_)) <;> first | exact zG hc | skip) | (refine no_implicit_lambda% (ans ?_)) | (with_reducible first | exact zI | exact zJ) | (refine no_implicit_lambda% (cal [] (h4) ?_ ?_)) | fail)
  all_goals (refine e_ret (H' := []) (rest := _) rfl ⟨congrArg (fun b => AOut.ret (.v (.bool b))) ?_, rfl⟩ permT (LE0 rfl); ((try simp only [bl_gt, bl_le, ibeq] at *); (try simp only [decide_eq_true_eq, decide_eq_false_iff_not, beq_iff_eq, beq_eq_false_iff_ne, bne_iff_ne, bne_eq_false_iff_eq, Bool.not_eq_true', Bool.not_eq_false', ne_eq] at *); first | (simp_all; done) | (simp_all; omega) | (simp_all; intros; omega)))
 ·rw [opB0 k1 k2 k3]
  refine no_implicit_lambda% (acalls_of tok dok (f := 45) ⟨Tryz.func45, rfl, by kernel_rfl⟩ ?_); refine no_implicit_lambda% (c_start (fun _ h => h) ?_)
  repeat' (first | (refine no_implicit_lambda% (zH ?_)) | (refine no_implicit_lambda% (spl (fun hc => ?_) (fun hc => ?_)) <;> first | exact zG hc | skip) | (refine no_implicit_lambda% (ans ?_)) | (with_reducible first | exact zI | exact zJ))
  exact e_ret (H' := []) (rest := _) rfl ⟨rfl, rfl⟩ permT (LE0 rfl)
structure Cm where
 k : Int
 op : Oq
 sp : Sn
 gen : Int
 at' : ByteArray
 to : Int
 dw : Int
 st : List UInt8
def cmrow (c : Cm) : List AV := .v (.int .i64 c.k) :: (oqrow c.op ++ snrow c.sp ++ [.v (.int .i64 c.gen), .v (.string c.at'), .v (.int .i64 c.to), .v (.int .i64 c.dw), .list (c.st.map brow) .free])
def genB (n : Int) : Bool := decide (1 ≤ n) && decide (n ≤ 1073741824)
theorem gen_c (n : Int) : ACalls Tryz.prog 113 0 10 [.v (.int .i64 n)] [] (fun out H' => out = .ret (.v (.bool (genB n))) ∧ H' = []) := by
 refine no_implicit_lambda% (acalls_of tok dok (f := 113) ⟨Tryz.func113, rfl, by kernel_rfl⟩ ?_); refine no_implicit_lambda% (c_start (fun _ h => h) ?_)
 repeat' (first | (refine no_implicit_lambda% (zH ?_)) | (refine no_implicit_lambda% (spl (fun hc => ?_) (fun hc => ?_)) <;> first | exact zG hc | skip) | (refine no_implicit_lambda% (ans ?_)) | (with_reducible first | exact zI | exact zJ))
 all_goals (refine e_ret (H' := []) (rest := _) rfl ⟨congrArg (fun b => AOut.ret (.v (.bool b))) ?_, rfl⟩ permT (LE0 rfl); unfold genB; ((try simp only [bl_gt, bl_le, ibeq] at *); (try simp only [decide_eq_true_eq, decide_eq_false_iff_not, beq_iff_eq, beq_eq_false_iff_ne, bne_iff_ne, bne_eq_false_iff_eq, Bool.not_eq_true', Bool.not_eq_false', ne_eq] at *); first | (simp_all; done) | (simp_all; omega) | (simp_all; intros; omega)))
theorem rgen_c (n : Int) : ACalls Tryz.prog 50 0 10 [.v (.int .i64 n)] [] (fun out H' => out = .ret (.v (.bool (genB n))) ∧ H' = []) := by
 refine no_implicit_lambda% (acalls_of tok dok (f := 50) ⟨Tryz.func50, rfl, by kernel_rfl⟩ ?_); refine no_implicit_lambda% (c_start (fun _ h => h) ?_)
 repeat' (first | (refine no_implicit_lambda% (zH ?_)) | (refine no_implicit_lambda% (spl (fun hc => ?_) (fun hc => ?_)) <;> first | exact zG hc | skip) | (refine no_implicit_lambda% (ans ?_)) | (with_reducible first | exact zI | exact zJ))
 all_goals (refine e_ret (H' := []) (rest := _) rfl ⟨congrArg (fun b => AOut.ret (.v (.bool b))) ?_, rfl⟩ permT (LE0 rfl); unfold genB; ((try simp only [bl_gt, bl_le, ibeq] at *); (try simp only [decide_eq_true_eq, decide_eq_false_iff_not, beq_iff_eq, beq_eq_false_iff_ne, bne_iff_ne, bne_eq_false_iff_eq, Bool.not_eq_true', Bool.not_eq_false', ne_eq] at *); first | (simp_all; done) | (simp_all; omega) | (simp_all; intros; omega)))
theorem cin_c (n m : Int) : ACalls Tryz.prog 115 0 10 [.v (.int .i64 n), .v (.int .i64 m)] [] (fun out H' => out = .ret (.v (.bool (decide (0 ≤ n) && decide (n ≤ m)))) ∧ H' = []) := by
 refine no_implicit_lambda% (acalls_of tok dok (f := 115) ⟨Tryz.func115, rfl, by kernel_rfl⟩ ?_); refine no_implicit_lambda% (c_start (fun _ h => h) ?_)
 repeat' (first | (refine no_implicit_lambda% (zH ?_)) | (refine no_implicit_lambda% (spl (fun hc => ?_) (fun hc => ?_)) <;> first | exact zG hc | skip) | (refine no_implicit_lambda% (ans ?_)) | (with_reducible first | exact zI | exact zJ))
 all_goals (refine e_ret (H' := []) (rest := _) rfl ⟨congrArg (fun b => AOut.ret (.v (.bool b))) ?_, rfl⟩ permT (LE0 rfl); ((try simp only [bl_gt, bl_le, ibeq] at *); (try simp only [decide_eq_true_eq, decide_eq_false_iff_not, beq_iff_eq, beq_eq_false_iff_ne, bne_iff_ne, bne_eq_false_iff_eq, Bool.not_eq_true', Bool.not_eq_false', ne_eq] at *); first | (simp_all; done) | (simp_all; omega) | (simp_all; intros; omega)))
def cmB (c : Cm) : Bool :=
 if c.k = 1 then opB c.op else
 if c.k = 2 ∨ c.k = 4 then spB c.sp && genB c.gen else
 if c.k = 3 then spB c.sp && (genB c.gen && decide (c.st.length ≤ 1048576)) else
 if c.k = 5 ∨ c.k = 6 then spliB c.sp c.at' && genB c.gen else
 if c.k = 7 then le16 c.at' else
 if c.k = 8 then decide (c.dw = 0) || (decide (1 ≤ c.dw) && (decide (c.dw ≤ 3) && (le16 c.at' && (decide (0 ≤ c.to) && decide (c.to ≤ 255))))) else
 if c.k = 9 then genB c.gen && (decide (c.to = 0) || decide (c.to = -1)) else decide (c.k = 10)
theorem kd10 (k : Int) : k = 1 ∨ k = 2 ∨ k = 4 ∨ k = 3 ∨ k = 5 ∨ k = 6 ∨ k = 7 ∨ k = 8 ∨ k = 9 ∨ (k ≠ 1 ∧ k ≠ 2 ∧ k ≠ 3 ∧ k ≠ 4 ∧ k ≠ 5 ∧ k ≠ 6 ∧ k ≠ 7 ∧ k ≠ 8 ∧ k ≠ 9) := by omega
theorem cmB0 {c : Cm} (h : c.k ≠ 1 ∧ c.k ≠ 2 ∧ c.k ≠ 3 ∧ c.k ≠ 4 ∧ c.k ≠ 5 ∧ c.k ≠ 6 ∧ c.k ≠ 7 ∧ c.k ≠ 8 ∧ c.k ≠ 9) : cmB c = decide (c.k = 10) := by
 unfold cmB
 rw [if_neg (by omega), if_neg (by omega), if_neg (by omega), if_neg (by omega), if_neg (by omega), if_neg (by omega), if_neg (by omega)]
set_option maxHeartbeats 6400000 in
theorem cright_c (c : Cm) (hl : c.op.l.length < 1000000000000) : ACalls Tryz.prog 43 0 5000 [.agg (cmrow c)] [] (fun out H' => out = .ret (.v (.bool (cmB c))) ∧ H' = []) := by
 have h1 := rightOp_c c.op hl
 have h2 := spright_c c.sp
 have h3 := gen_c c.gen
 have h4 := split_c c.sp c.at'
 unfold splO at h4
 have h5 := cin_c c.to 255
 obtain ⟨k, op, sp, gen, at', to, dw, st⟩ := c
 dsimp only at *
 rcases kd10 k with rfl | rfl | rfl | rfl | rfl | rfl | rfl | rfl | rfl | hk
 ·refine no_implicit_lambda% (acalls_of tok dok (f := 43) ⟨Tryz.func43, rfl, by kernel_rfl⟩ ?_); refine no_implicit_lambda% (c_start (fun _ h => h) ?_)
  repeat' (first | (refine no_implicit_lambda% (zH ?_)) | (refine no_implicit_lambda% (spl (fun hc => ?_) (fun hc => ?_)) <;> first | exact zG hc | skip) | (refine no_implicit_lambda% (ans ?_)) | (with_reducible first | exact zI | exact zJ) | (refine no_implicit_lambda% (cal [] (h1) ?_ ?_)) | fail)
  exact e_ret (H' := []) (rest := _) rfl ⟨rfl, rfl⟩ permT (LE0 rfl)
 ·rw [show cmB ⟨2, op, sp, gen, at', to, dw, st⟩ = (spB sp && genB gen) from rfl]
  generalize spB sp = s at *
  generalize genB gen = g at *
  refine no_implicit_lambda% (acalls_of tok dok (f := 43) ⟨Tryz.func43, rfl, by kernel_rfl⟩ ?_); refine no_implicit_lambda% (c_start (fun _ h => h) ?_)
  repeat' (first | (refine no_implicit_lambda% (zH ?_)) | (refine no_implicit_lambda% (spl (fun hc => ?_) (fun hc => ?_)) <;> first | exact zG hc | skip) | (refine no_implicit_lambda% (ans ?_)) | (with_reducible first | exact zI | exact zJ) | (refine no_implicit_lambda% (cal [] (h2) ?_ ?_)) | (refine no_implicit_lambda% (cal [] (h3) ?_ ?_)) | fail)
  all_goals (refine e_ret (H' := []) (rest := _) rfl ⟨congrArg (fun b => AOut.ret (.v (.bool b))) ?_, rfl⟩ permT (LE0 rfl); ((try simp only [bl_gt, bl_le, ibeq] at *); (try simp only [decide_eq_true_eq, decide_eq_false_iff_not, beq_iff_eq, beq_eq_false_iff_ne, bne_iff_ne, bne_eq_false_iff_eq, Bool.not_eq_true', Bool.not_eq_false', ne_eq] at *); first | (simp_all; done) | (simp_all; omega) | (simp_all; intros; omega)))
 ·rw [show cmB ⟨4, op, sp, gen, at', to, dw, st⟩ = (spB sp && genB gen) from rfl]
  generalize spB sp = s at *
  generalize genB gen = g at *
  refine no_implicit_lambda% (acalls_of tok dok (f := 43) ⟨Tryz.func43, rfl, by kernel_rfl⟩ ?_); refine no_implicit_lambda% (c_start (fun _ h => h) ?_)
  repeat' (first | (refine no_implicit_lambda% (zH ?_)) | (refine no_implicit_lambda% (spl (fun hc => ?_) (fun hc => ?_)) <;> first | exact zG hc | skip) | (refine no_implicit_lambda% (ans ?_)) | (with_reducible first | exact zI | exact zJ) | (refine no_implicit_lambda% (cal [] (h2) ?_ ?_)) | (refine no_implicit_lambda% (cal [] (h3) ?_ ?_)) | fail)
  all_goals (refine e_ret (H' := []) (rest := _) rfl ⟨congrArg (fun b => AOut.ret (.v (.bool b))) ?_, rfl⟩ permT (LE0 rfl); ((try simp only [bl_gt, bl_le, ibeq] at *); (try simp only [decide_eq_true_eq, decide_eq_false_iff_not, beq_iff_eq, beq_eq_false_iff_ne, bne_iff_ne, bne_eq_false_iff_eq, Bool.not_eq_true', Bool.not_eq_false', ne_eq] at *); first | (simp_all; done) | (simp_all; omega) | (simp_all; intros; omega)))
 ·rw [show cmB ⟨3, op, sp, gen, at', to, dw, st⟩ = (spB sp && (genB gen && decide (st.length ≤ 1048576))) from rfl]
  have hlm : ((st.map brow).length : Int) = st.length := by rw [List.length_map]
  generalize spB sp = s at *
  generalize genB gen = g at *
  refine no_implicit_lambda% (acalls_of tok dok (f := 43) ⟨Tryz.func43, rfl, by kernel_rfl⟩ ?_); refine no_implicit_lambda% (c_start (fun _ h => h) ?_)
  repeat' (first | (refine no_implicit_lambda% (zH ?_)) | (refine no_implicit_lambda% (spl (fun hc => ?_) (fun hc => ?_)) <;> first | exact zG hc | skip) | (refine no_implicit_lambda% (ans ?_)) | (with_reducible first | exact zI | exact zJ) | (refine no_implicit_lambda% (cal [] (h2) ?_ ?_)) | (refine no_implicit_lambda% (cal [] (h3) ?_ ?_)) | fail)
  all_goals (refine e_ret (H' := []) (rest := _) rfl ⟨congrArg (fun b => AOut.ret (.v (.bool b))) ?_, rfl⟩ permT (LE0 rfl); rw [hlm] at *; ((try simp only [bl_gt, bl_le, ibeq] at *); (try simp only [decide_eq_true_eq, decide_eq_false_iff_not, beq_iff_eq, beq_eq_false_iff_ne, bne_iff_ne, bne_eq_false_iff_eq, Bool.not_eq_true', Bool.not_eq_false', ne_eq] at *); first | (simp_all; done) | (simp_all; omega) | (simp_all; intros; omega)))
 ·rw [show cmB ⟨5, op, sp, gen, at', to, dw, st⟩ = (spliB sp at' && genB gen) from rfl]
  generalize spliB sp at' = s at *
  generalize genB gen = g at *
  refine no_implicit_lambda% (acalls_of tok dok (f := 43) ⟨Tryz.func43, rfl, by kernel_rfl⟩ ?_); refine no_implicit_lambda% (c_start (fun _ h => h) ?_)
  repeat' (first | (refine no_implicit_lambda% (zH ?_)) | (refine no_implicit_lambda% (spl (fun hc => ?_) (fun hc => ?_)) <;> first | exact zG hc | skip) | (refine no_implicit_lambda% (ans ?_)) | (with_reducible first | exact zI | exact zJ) | (refine no_implicit_lambda% (cal [] (h4) ?_ ?_)) | (refine no_implicit_lambda% (cal [] (h3) ?_ ?_)) | fail)
  all_goals (refine e_ret (H' := []) (rest := _) rfl ⟨congrArg (fun b => AOut.ret (.v (.bool b))) ?_, rfl⟩ permT (LE0 rfl); ((try simp only [bl_gt, bl_le, ibeq] at *); (try simp only [decide_eq_true_eq, decide_eq_false_iff_not, beq_iff_eq, beq_eq_false_iff_ne, bne_iff_ne, bne_eq_false_iff_eq, Bool.not_eq_true', Bool.not_eq_false', ne_eq] at *); first | (simp_all; done) | (simp_all; omega) | (simp_all; intros; omega)))
 ·rw [show cmB ⟨6, op, sp, gen, at', to, dw, st⟩ = (spliB sp at' && genB gen) from rfl]
  generalize spliB sp at' = s at *
  generalize genB gen = g at *
  refine no_implicit_lambda% (acalls_of tok dok (f := 43) ⟨Tryz.func43, rfl, by kernel_rfl⟩ ?_); refine no_implicit_lambda% (c_start (fun _ h => h) ?_)
  repeat' (first | (refine no_implicit_lambda% (zH ?_)) | (refine no_implicit_lambda% (spl (fun hc => ?_) (fun hc => ?_)) <;> first | exact zG hc | skip) | (refine no_implicit_lambda% (ans ?_)) | (with_reducible first | exact zI | exact zJ) | (refine no_implicit_lambda% (cal [] (h4) ?_ ?_)) | (refine no_implicit_lambda% (cal [] (h3) ?_ ?_)) | fail)
  all_goals (refine e_ret (H' := []) (rest := _) rfl ⟨congrArg (fun b => AOut.ret (.v (.bool b))) ?_, rfl⟩ permT (LE0 rfl); ((try simp only [bl_gt, bl_le, ibeq] at *); (try simp only [decide_eq_true_eq, decide_eq_false_iff_not, beq_iff_eq, beq_eq_false_iff_ne, bne_iff_ne, bne_eq_false_iff_eq, Bool.not_eq_true', Bool.not_eq_false', ne_eq] at *); first | (simp_all; done) | (simp_all; omega) | (simp_all; intros; omega)))
 ·refine no_implicit_lambda% (acalls_of tok dok (f := 43) ⟨Tryz.func43, rfl, by kernel_rfl⟩ ?_); refine no_implicit_lambda% (c_start (fun _ h => h) ?_)
  repeat' (first | (refine no_implicit_lambda% (zH ?_)) | (refine no_implicit_lambda% (spl (fun hc => ?_) (fun hc => ?_)) <;> first | exact zG hc | skip) | (refine no_implicit_lambda% (ans ?_)) | (with_reducible first | exact zI | exact zJ))
  exact e_ret (H' := []) (rest := _) rfl ⟨rfl, rfl⟩ permT (LE0 rfl)
 ·rw [show cmB ⟨8, op, sp, gen, at', to, dw, st⟩ = (decide (dw = 0) || (decide (1 ≤ dw) && (decide (dw ≤ 3) && (le16 at' && (decide (0 ≤ to) && decide (to ≤ 255)))))) from rfl]
  refine no_implicit_lambda% (acalls_of tok dok (f := 43) ⟨Tryz.func43, rfl, by kernel_rfl⟩ ?_); refine no_implicit_lambda% (c_start (fun _ h => h) ?_)
  repeat' (first | (refine no_implicit_lambda% (zH ?_)) | (refine no_implicit_lambda% (spl (fun hc => ?_) (fun hc => ?_)) <;> first | exact zG hc | skip) | (refine no_implicit_lambda% (ans ?_)) | (with_reducible first | exact zI | exact zJ) | (refine no_implicit_lambda% (cal [] (h5) ?_ ?_)) | fail)
  all_goals (refine e_ret (H' := []) (rest := _) rfl ⟨congrArg (fun b => AOut.ret (.v (.bool b))) ?_, rfl⟩ permT (LE0 rfl); unfold le16 at *; ((try simp only [bl_gt, bl_le, ibeq] at *); (try simp only [decide_eq_true_eq, decide_eq_false_iff_not, beq_iff_eq, beq_eq_false_iff_ne, bne_iff_ne, bne_eq_false_iff_eq, Bool.not_eq_true', Bool.not_eq_false', ne_eq] at *); first | (simp_all; done) | (simp_all; omega) | (simp_all; intros; omega)))
 ·rw [show cmB ⟨9, op, sp, gen, at', to, dw, st⟩ = (genB gen && (decide (to = 0) || decide (to = -1))) from rfl]
  generalize genB gen = g at *
  refine no_implicit_lambda% (acalls_of tok dok (f := 43) ⟨Tryz.func43, rfl, by kernel_rfl⟩ ?_); refine no_implicit_lambda% (c_start (fun _ h => h) ?_)
  repeat' (first | (refine no_implicit_lambda% (zH ?_)) | (refine no_implicit_lambda% (spl (fun hc => ?_) (fun hc => ?_)) <;> first | exact zG hc | skip) | (refine no_implicit_lambda% (ans ?_)) | (with_reducible first | exact zI | exact zJ) | (refine no_implicit_lambda% (cal [] (h3) ?_ ?_)) | fail)
  all_goals (refine e_ret (H' := []) (rest := _) rfl ⟨congrArg (fun b => AOut.ret (.v (.bool b))) ?_, rfl⟩ permT (LE0 rfl); ((try simp only [bl_gt, bl_le, ibeq] at *); (try simp only [decide_eq_true_eq, decide_eq_false_iff_not, beq_iff_eq, beq_eq_false_iff_ne, bne_iff_ne, bne_eq_false_iff_eq, Bool.not_eq_true', Bool.not_eq_false', ne_eq] at *); first | (simp_all; done) | (simp_all; omega) | (simp_all; intros; omega)))
 ·rw [cmB0 hk]
  dsimp only at hk ⊢
  refine no_implicit_lambda% (acalls_of tok dok (f := 43) ⟨Tryz.func43, rfl, by kernel_rfl⟩ ?_); refine no_implicit_lambda% (c_start (fun _ h => h) ?_)
  repeat' (first | (refine no_implicit_lambda% (zH ?_)) | (refine no_implicit_lambda% (spl (fun hc => ?_) (fun hc => ?_)) <;> first | exact zG hc | skip) | (refine no_implicit_lambda% (ans ?_)) | (with_reducible first | exact zI | exact zJ))
  all_goals (refine e_ret (H' := []) (rest := _) rfl ⟨congrArg (fun b => AOut.ret (.v (.bool b))) ?_, rfl⟩ permT (LE0 rfl); rfl)
set_option maxHeartbeats 6400000 in
theorem rcright_c (c : Cm) (hl : c.op.l.length < 1000000000000) : ACalls Tryz.prog 13 0 5000 [.agg (cmrow c)] [] (fun out H' => out = .ret (.v (.bool (cmB c))) ∧ H' = []) := by
 have h1 := rrightOp_c c.op hl
 have h2 := rspright_c c.sp
 have h3 := rgen_c c.gen
 have h4 := rsplit_c c.sp c.at'
 unfold splO at h4
 obtain ⟨k, op, sp, gen, at', to, dw, st⟩ := c
 dsimp only at *
 rcases kd10 k with rfl | rfl | rfl | rfl | rfl | rfl | rfl | rfl | rfl | hk
 ·refine no_implicit_lambda% (acalls_of tok dok (f := 13) ⟨Tryz.func13, rfl, by kernel_rfl⟩ ?_); refine no_implicit_lambda% (c_start (fun _ h => h) ?_)
  repeat' (first | (refine no_implicit_lambda% (zH ?_)) | (refine no_implicit_lambda% (spl (fun hc => ?_) (fun hc => ?_)) <;> first | exact zG hc | skip) | (refine no_implicit_lambda% (ans ?_)) | (with_reducible first | exact zI | exact zJ) | (refine no_implicit_lambda% (cal [] (h1) ?_ ?_)) | fail)
  exact e_ret (H' := []) (rest := _) rfl ⟨rfl, rfl⟩ permT (LE0 rfl)
 ·rw [show cmB ⟨2, op, sp, gen, at', to, dw, st⟩ = (spB sp && genB gen) from rfl]
  generalize spB sp = s at *
  generalize genB gen = g at *
  refine no_implicit_lambda% (acalls_of tok dok (f := 13) ⟨Tryz.func13, rfl, by kernel_rfl⟩ ?_); refine no_implicit_lambda% (c_start (fun _ h => h) ?_)
  repeat' (first | (refine no_implicit_lambda% (zH ?_)) | (refine no_implicit_lambda% (spl (fun hc => ?_) (fun hc => ?_)) <;> first | exact zG hc | skip) | (refine no_implicit_lambda% (ans ?_)) | (with_reducible first | exact zI | exact zJ) | (refine no_implicit_lambda% (cal [] (h2) ?_ ?_)) | (refine no_implicit_lambda% (cal [] (h3) ?_ ?_)) | fail)
  all_goals (refine e_ret (H' := []) (rest := _) rfl ⟨congrArg (fun b => AOut.ret (.v (.bool b))) ?_, rfl⟩ permT (LE0 rfl); ((try simp only [bl_gt, bl_le, ibeq] at *); (try simp only [decide_eq_true_eq, decide_eq_false_iff_not, beq_iff_eq, beq_eq_false_iff_ne, bne_iff_ne, bne_eq_false_iff_eq, Bool.not_eq_true', Bool.not_eq_false', ne_eq] at *); first | (simp_all; done) | (simp_all; omega) | (simp_all; intros; omega)))
 ·rw [show cmB ⟨4, op, sp, gen, at', to, dw, st⟩ = (spB sp && genB gen) from rfl]
  generalize spB sp = s at *
  generalize genB gen = g at *
  refine no_implicit_lambda% (acalls_of tok dok (f := 13) ⟨Tryz.func13, rfl, by kernel_rfl⟩ ?_); refine no_implicit_lambda% (c_start (fun _ h => h) ?_)
  repeat' (first | (refine no_implicit_lambda% (zH ?_)) | (refine no_implicit_lambda% (spl (fun hc => ?_) (fun hc => ?_)) <;> first | exact zG hc | skip) | (refine no_implicit_lambda% (ans ?_)) | (with_reducible first | exact zI | exact zJ) | (refine no_implicit_lambda% (cal [] (h2) ?_ ?_)) | (refine no_implicit_lambda% (cal [] (h3) ?_ ?_)) | fail)
  all_goals (refine e_ret (H' := []) (rest := _) rfl ⟨congrArg (fun b => AOut.ret (.v (.bool b))) ?_, rfl⟩ permT (LE0 rfl); ((try simp only [bl_gt, bl_le, ibeq] at *); (try simp only [decide_eq_true_eq, decide_eq_false_iff_not, beq_iff_eq, beq_eq_false_iff_ne, bne_iff_ne, bne_eq_false_iff_eq, Bool.not_eq_true', Bool.not_eq_false', ne_eq] at *); first | (simp_all; done) | (simp_all; omega) | (simp_all; intros; omega)))
 ·rw [show cmB ⟨3, op, sp, gen, at', to, dw, st⟩ = (spB sp && (genB gen && decide (st.length ≤ 1048576))) from rfl]
  have hlm : ((st.map brow).length : Int) = st.length := by rw [List.length_map]
  generalize spB sp = s at *
  generalize genB gen = g at *
  refine no_implicit_lambda% (acalls_of tok dok (f := 13) ⟨Tryz.func13, rfl, by kernel_rfl⟩ ?_); refine no_implicit_lambda% (c_start (fun _ h => h) ?_)
  repeat' (first | (refine no_implicit_lambda% (zH ?_)) | (refine no_implicit_lambda% (spl (fun hc => ?_) (fun hc => ?_)) <;> first | exact zG hc | skip) | (refine no_implicit_lambda% (ans ?_)) | (with_reducible first | exact zI | exact zJ) | (refine no_implicit_lambda% (cal [] (h2) ?_ ?_)) | (refine no_implicit_lambda% (cal [] (h3) ?_ ?_)) | fail)
  all_goals (refine e_ret (H' := []) (rest := _) rfl ⟨congrArg (fun b => AOut.ret (.v (.bool b))) ?_, rfl⟩ permT (LE0 rfl); rw [hlm] at *; ((try simp only [bl_gt, bl_le, ibeq] at *); (try simp only [decide_eq_true_eq, decide_eq_false_iff_not, beq_iff_eq, beq_eq_false_iff_ne, bne_iff_ne, bne_eq_false_iff_eq, Bool.not_eq_true', Bool.not_eq_false', ne_eq] at *); first | (simp_all; done) | (simp_all; omega) | (simp_all; intros; omega)))
 ·rw [show cmB ⟨5, op, sp, gen, at', to, dw, st⟩ = (spliB sp at' && genB gen) from rfl]
  generalize spliB sp at' = s at *
  generalize genB gen = g at *
  refine no_implicit_lambda% (acalls_of tok dok (f := 13) ⟨Tryz.func13, rfl, by kernel_rfl⟩ ?_); refine no_implicit_lambda% (c_start (fun _ h => h) ?_)
  repeat' (first | (refine no_implicit_lambda% (zH ?_)) | (refine no_implicit_lambda% (spl (fun hc => ?_) (fun hc => ?_)) <;> first | exact zG hc | skip) | (refine no_implicit_lambda% (ans ?_)) | (with_reducible first | exact zI | exact zJ) | (refine no_implicit_lambda% (cal [] (h4) ?_ ?_)) | (refine no_implicit_lambda% (cal [] (h3) ?_ ?_)) | fail)
  all_goals (refine e_ret (H' := []) (rest := _) rfl ⟨congrArg (fun b => AOut.ret (.v (.bool b))) ?_, rfl⟩ permT (LE0 rfl); ((try simp only [bl_gt, bl_le, ibeq] at *); (try simp only [decide_eq_true_eq, decide_eq_false_iff_not, beq_iff_eq, beq_eq_false_iff_ne, bne_iff_ne, bne_eq_false_iff_eq, Bool.not_eq_true', Bool.not_eq_false', ne_eq] at *); first | (simp_all; done) | (simp_all; omega) | (simp_all; intros; omega)))
 ·rw [show cmB ⟨6, op, sp, gen, at', to, dw, st⟩ = (spliB sp at' && genB gen) from rfl]
  generalize spliB sp at' = s at *
  generalize genB gen = g at *
  refine no_implicit_lambda% (acalls_of tok dok (f := 13) ⟨Tryz.func13, rfl, by kernel_rfl⟩ ?_); refine no_implicit_lambda% (c_start (fun _ h => h) ?_)
  repeat' (first | (refine no_implicit_lambda% (zH ?_)) | (refine no_implicit_lambda% (spl (fun hc => ?_) (fun hc => ?_)) <;> first | exact zG hc | skip) | (refine no_implicit_lambda% (ans ?_)) | (with_reducible first | exact zI | exact zJ) | (refine no_implicit_lambda% (cal [] (h4) ?_ ?_)) | (refine no_implicit_lambda% (cal [] (h3) ?_ ?_)) | fail)
  all_goals (refine e_ret (H' := []) (rest := _) rfl ⟨congrArg (fun b => AOut.ret (.v (.bool b))) ?_, rfl⟩ permT (LE0 rfl); ((try simp only [bl_gt, bl_le, ibeq] at *); (try simp only [decide_eq_true_eq, decide_eq_false_iff_not, beq_iff_eq, beq_eq_false_iff_ne, bne_iff_ne, bne_eq_false_iff_eq, Bool.not_eq_true', Bool.not_eq_false', ne_eq] at *); first | (simp_all; done) | (simp_all; omega) | (simp_all; intros; omega)))
 ·refine no_implicit_lambda% (acalls_of tok dok (f := 13) ⟨Tryz.func13, rfl, by kernel_rfl⟩ ?_); refine no_implicit_lambda% (c_start (fun _ h => h) ?_)
  repeat' (first | (refine no_implicit_lambda% (zH ?_)) | (refine no_implicit_lambda% (spl (fun hc => ?_) (fun hc => ?_)) <;> first | exact zG hc | skip) | (refine no_implicit_lambda% (ans ?_)) | (with_reducible first | exact zI | exact zJ))
  exact e_ret (H' := []) (rest := _) rfl ⟨rfl, rfl⟩ permT (LE0 rfl)
 ·rw [show cmB ⟨8, op, sp, gen, at', to, dw, st⟩ = (decide (dw = 0) || (decide (1 ≤ dw) && (decide (dw ≤ 3) && (le16 at' && (decide (0 ≤ to) && decide (to ≤ 255)))))) from rfl]
  refine no_implicit_lambda% (acalls_of tok dok (f := 13) ⟨Tryz.func13, rfl, by kernel_rfl⟩ ?_); refine no_implicit_lambda% (c_start (fun _ h => h) ?_)
  repeat' (first | (refine no_implicit_lambda% (zH ?_)) | (refine no_implicit_lambda% (spl (fun hc => ?_) (fun hc => ?_)) <;> first | exact zG hc | skip) | (refine no_implicit_lambda% (ans ?_)) | (with_reducible first | exact zI | exact zJ))
  all_goals (refine e_ret (H' := []) (rest := _) rfl ⟨congrArg (fun b => AOut.ret (.v (.bool b))) ?_, rfl⟩ permT (LE0 rfl); unfold le16 at *; ((try simp only [bl_gt, bl_le, ibeq] at *); (try simp only [decide_eq_true_eq, decide_eq_false_iff_not, beq_iff_eq, beq_eq_false_iff_ne, bne_iff_ne, bne_eq_false_iff_eq, Bool.not_eq_true', Bool.not_eq_false', ne_eq] at *); first | (simp_all; done) | (simp_all; omega) | (simp_all; intros; omega)))
 ·rw [show cmB ⟨9, op, sp, gen, at', to, dw, st⟩ = (genB gen && (decide (to = 0) || decide (to = -1))) from rfl]
  generalize genB gen = g at *
  refine no_implicit_lambda% (acalls_of tok dok (f := 13) ⟨Tryz.func13, rfl, by kernel_rfl⟩ ?_); refine no_implicit_lambda% (c_start (fun _ h => h) ?_)
  repeat' (first | (refine no_implicit_lambda% (zH ?_)) | (refine no_implicit_lambda% (spl (fun hc => ?_) (fun hc => ?_)) <;> first | exact zG hc | skip) | (refine no_implicit_lambda% (ans ?_)) | (with_reducible first | exact zI | exact zJ) | (refine no_implicit_lambda% (cal [] (h3) ?_ ?_)) | fail)
  all_goals (refine e_ret (H' := []) (rest := _) rfl ⟨congrArg (fun b => AOut.ret (.v (.bool b))) ?_, rfl⟩ permT (LE0 rfl); ((try simp only [bl_gt, bl_le, ibeq] at *); (try simp only [decide_eq_true_eq, decide_eq_false_iff_not, beq_iff_eq, beq_eq_false_iff_ne, bne_iff_ne, bne_eq_false_iff_eq, Bool.not_eq_true', Bool.not_eq_false', ne_eq] at *); first | (simp_all; done) | (simp_all; omega) | (simp_all; intros; omega)))
 ·rw [cmB0 hk]
  dsimp only at hk ⊢
  refine no_implicit_lambda% (acalls_of tok dok (f := 13) ⟨Tryz.func13, rfl, by kernel_rfl⟩ ?_); refine no_implicit_lambda% (c_start (fun _ h => h) ?_)
  repeat' (first | (refine no_implicit_lambda% (zH ?_)) | (refine no_implicit_lambda% (spl (fun hc => ?_) (fun hc => ?_)) <;> first | exact zG hc | skip) | (refine no_implicit_lambda% (ans ?_)) | (with_reducible first | exact zI | exact zJ))
  all_goals (refine e_ret (H' := []) (rest := _) rfl ⟨congrArg (fun b => AOut.ret (.v (.bool b))) ?_, rfl⟩ permT (LE0 rfl); rfl)
end Go.Proofs.YtncffhgoopdfgaaGreat
namespace Go.Proofs.YtncffhgoopdfgaaGreat
open Go.Am
set_option maxRecDepth 100000
set_option maxHeartbeats 6400000 in
theorem rwrite5P_c (x : Ch) (p : List UInt8) (hx : rightC x = 0) (hn : x.v.n < 18446744073709551616) (hp0 : p.length < 10000000) : ACalls Tryz.prog 22 0 1 [.list (p.map brow) .free, .agg (chrow x)] [] (bAR 0 (p ++ encCh x)) := by
 have r1 : ∀ row ∈ p.map brow, row.length = 1 := fun row h => by obtain ⟨_, _, rfl⟩ := List.mem_map.1 h; rfl
 have b1 : (p.map brow).length < 10000000 := by rw [List.length_map]; exact hp0
 have b2 : ([] ++ p.map brow).length < 10000000 := b1
 obtain ⟨h1, h2, h3, h4, h5⟩ := rightC_inv hx
 obtain ⟨k, c, t, v⟩ := x
 dsimp only at *
 refine bAR_ren (top := 40) ?_
 have hk : k = 1 ∨ k = 5 ∨ k = 2 ∨ k = 3 ∨ k = 4 := by omega
 rcases hk with rfl | rfl | rfl | rfl | rfl
 ·(have hc16 := nmB_len (h2 (by decide)); have ht := refText_c (p ++ [1]) c.data.toList (by simp; omega) (by omega))
  (have ht0 := h3 (by decide); unfold tmOk at ht0; have htt := of_decide_eq_true ht0)
  (have hl8 := refLong_c (p ++ [1] ++ encT c) t.toNat (by omega) (by simp only [List.length_append, encT_len, List.length_singleton]; omega))
  have hp := refPutO_c (p ++ [1] ++ encT c ++ be t.toNat 8) v (by simp only [List.length_append, encT_len, List.length_singleton, be_len]; omega) (h4 (by decide)) hn
  have he : p ++ encCh ⟨1, c, t, v⟩ = p ++ [1] ++ encT c ++ be t.toNat 8 ++ encA v := by show p ++ ([1] ++ encT c ++ be t.toNat 8 ++ encA v) = _; simp only [List.append_assoc]
  rw [he]
  refine no_implicit_lambda% (acalls_of tok dok (f := 22) ⟨Tryz.func22, rfl, by kernel_rfl⟩ ?_); refine no_implicit_lambda% (c_start (fun _ h => h) ?_)
  repeat' (first | (refine no_implicit_lambda% (zH ?_)) | (refine no_implicit_lambda% (splv (fun hc => ?_) (fun hc => ?_)) <;> first | exact zG hc | skip) | (refine no_implicit_lambda% (ans ?_)) | (with_reducible first | exact zI | exact zJ))
  rw [show [] ++ List.map brow p ++ [[AV.v (.int .u8 (IntKind.u8.wrap (⟨1, c, t, v⟩ : Ch).k))]] = (p ++ [1]).map brow from app3 p 1 (by decide)]
  refine no_implicit_lambda% (aqs ?_ ?_)
  ·show c.data.toList.length ≤ 4611686018427387904
   omega
  repeat' (first | (refine no_implicit_lambda% (zH ?_)) | (refine no_implicit_lambda% (splv (fun hc => ?_) (fun hc => ?_)) <;> first | exact zG hc | skip) | (refine no_implicit_lambda% (ans ?_)) | (with_reducible first | exact zI | exact zJ))
  (refine no_implicit_lambda% (calw [] (ht) ?_ ?_))
  rotate_left
  ·first | (exact zI) | (exact zJ)
  refine no_implicit_lambda% (ret1 ?_); first | (refine no_implicit_lambda% (akc ?_)) | (refine no_implicit_lambda% (aec ?_))
  repeat' (first | (refine no_implicit_lambda% (zH ?_)) | (refine no_implicit_lambda% (splv (fun hc => ?_) (fun hc => ?_)) <;> first | exact zG hc | skip) | (refine no_implicit_lambda% (ans ?_)) | (with_reducible first | exact zI | exact zJ))
  (rw [show IntKind.u64.wrap t = (t.toNat : Int) by rw [IntKind.wrap_u64]; omega])
  (refine no_implicit_lambda% (calw [] (hl8) ?_ ?_))
  rotate_left
  ·first | (exact zI) | (exact zJ)
  refine no_implicit_lambda% (ret1 ?_); first | (refine no_implicit_lambda% (akc ?_)) | (refine no_implicit_lambda% (aec ?_))
  repeat' (first | (refine no_implicit_lambda% (zH ?_)) | (refine no_implicit_lambda% (splv (fun hc => ?_) (fun hc => ?_)) <;> first | exact zG hc | skip) | (refine no_implicit_lambda% (ans ?_)) | (with_reducible first | exact zI | exact zJ))
  ((refine no_implicit_lambda% (calw [] (hp) ?_ ?_)); rotate_left; (intro x H' hh; obtain ⟨_, _, _, h', _⟩ := hh; cases h'); intro xx H' hh; obtain ⟨cp, c1, c2, h', rfl⟩ := hh; cases h'; first | (refine no_implicit_lambda% (akc ?_)) | (refine no_implicit_lambda% (aec ?_)))
  repeat' (first | (refine no_implicit_lambda% (zH ?_)) | (refine no_implicit_lambda% (splv (fun hc => ?_) (fun hc => ?_)) <;> first | exact zG hc | skip) | (refine no_implicit_lambda% (ans ?_)) | (with_reducible first | exact zI | exact zJ))
  exact e_ret (H' := bA _ (p ++ [1] ++ encT c ++ be t.toNat 8 ++ encA v) cp) (rest := _) rfl ⟨_, by decide, cp, c1, c2, rfl, rfl⟩ permT (LE0 rfl)
 ·(have hc16 := nmB_len (h2 (by decide)); have ht := refText_c (p ++ [5]) c.data.toList (by simp; omega) (by omega))
  (have ht0 := h3 (by decide); unfold tmOk at ht0; have htt := of_decide_eq_true ht0)
  (have hl8 := refLong_c (p ++ [5] ++ encT c) t.toNat (by omega) (by simp only [List.length_append, encT_len, List.length_singleton]; omega))
  have hp := refPutO_c (p ++ [5] ++ encT c ++ be t.toNat 8) v (by simp only [List.length_append, encT_len, List.length_singleton, be_len]; omega) (h4 (by decide)) hn
  have he : p ++ encCh ⟨5, c, t, v⟩ = p ++ [5] ++ encT c ++ be t.toNat 8 ++ encA v := by show p ++ ([5] ++ encT c ++ be t.toNat 8 ++ encA v) = _; simp only [List.append_assoc]
  rw [he]
  refine no_implicit_lambda% (acalls_of tok dok (f := 22) ⟨Tryz.func22, rfl, by kernel_rfl⟩ ?_); refine no_implicit_lambda% (c_start (fun _ h => h) ?_)
  repeat' (first | (refine no_implicit_lambda% (zH ?_)) | (refine no_implicit_lambda% (splv (fun hc => ?_) (fun hc => ?_)) <;> first | exact zG hc | skip) | (refine no_implicit_lambda% (ans ?_)) | (with_reducible first | exact zI | exact zJ))
  rw [show [] ++ List.map brow p ++ [[AV.v (.int .u8 (IntKind.u8.wrap (⟨5, c, t, v⟩ : Ch).k))]] = (p ++ [5]).map brow from app3 p 5 (by decide)]
  refine no_implicit_lambda% (aqs ?_ ?_)
  ·show c.data.toList.length ≤ 4611686018427387904
   omega
  repeat' (first | (refine no_implicit_lambda% (zH ?_)) | (refine no_implicit_lambda% (splv (fun hc => ?_) (fun hc => ?_)) <;> first | exact zG hc | skip) | (refine no_implicit_lambda% (ans ?_)) | (with_reducible first | exact zI | exact zJ))
  (refine no_implicit_lambda% (calw [] (ht) ?_ ?_))
  rotate_left
  ·first | (exact zI) | (exact zJ)
  refine no_implicit_lambda% (ret1 ?_); first | (refine no_implicit_lambda% (akc ?_)) | (refine no_implicit_lambda% (aec ?_))
  repeat' (first | (refine no_implicit_lambda% (zH ?_)) | (refine no_implicit_lambda% (splv (fun hc => ?_) (fun hc => ?_)) <;> first | exact zG hc | skip) | (refine no_implicit_lambda% (ans ?_)) | (with_reducible first | exact zI | exact zJ))
  (rw [show IntKind.u64.wrap t = (t.toNat : Int) by rw [IntKind.wrap_u64]; omega])
  (refine no_implicit_lambda% (calw [] (hl8) ?_ ?_))
  rotate_left
  ·first | (exact zI) | (exact zJ)
  refine no_implicit_lambda% (ret1 ?_); first | (refine no_implicit_lambda% (akc ?_)) | (refine no_implicit_lambda% (aec ?_))
  repeat' (first | (refine no_implicit_lambda% (zH ?_)) | (refine no_implicit_lambda% (splv (fun hc => ?_) (fun hc => ?_)) <;> first | exact zG hc | skip) | (refine no_implicit_lambda% (ans ?_)) | (with_reducible first | exact zI | exact zJ))
  ((refine no_implicit_lambda% (calw [] (hp) ?_ ?_)); rotate_left; (intro x H' hh; obtain ⟨_, _, _, h', _⟩ := hh; cases h'); intro xx H' hh; obtain ⟨cp, c1, c2, h', rfl⟩ := hh; cases h'; first | (refine no_implicit_lambda% (akc ?_)) | (refine no_implicit_lambda% (aec ?_)))
  repeat' (first | (refine no_implicit_lambda% (zH ?_)) | (refine no_implicit_lambda% (splv (fun hc => ?_) (fun hc => ?_)) <;> first | exact zG hc | skip) | (refine no_implicit_lambda% (ans ?_)) | (with_reducible first | exact zI | exact zJ))
  exact e_ret (H' := bA _ (p ++ [5] ++ encT c ++ be t.toNat 8 ++ encA v) cp) (rest := _) rfl ⟨_, by decide, cp, c1, c2, rfl, rfl⟩ permT (LE0 rfl)
 ·(have hc16 := nmB_len (h2 (by decide)); have ht := refText_c (p ++ [2]) c.data.toList (by simp; omega) (by omega))
  (have ht0 := h3 (by decide); unfold tmOk at ht0; have htt := of_decide_eq_true ht0)
  have hp := refLongO_c (p ++ [2] ++ encT c) (by simp only [List.length_append, List.length_singleton]; omega) t.toNat (by omega) (by simp only [List.length_append, encT_len, List.length_singleton]; omega)
  have he : p ++ encCh ⟨2, c, t, v⟩ = p ++ [2] ++ encT c ++ be t.toNat 8 := by show p ++ ([2] ++ encT c ++ be t.toNat 8) = _; simp only [List.append_assoc]
  rw [he]
  refine no_implicit_lambda% (acalls_of tok dok (f := 22) ⟨Tryz.func22, rfl, by kernel_rfl⟩ ?_); refine no_implicit_lambda% (c_start (fun _ h => h) ?_)
  repeat' (first | (refine no_implicit_lambda% (zH ?_)) | (refine no_implicit_lambda% (splv (fun hc => ?_) (fun hc => ?_)) <;> first | exact zG hc | skip) | (refine no_implicit_lambda% (ans ?_)) | (with_reducible first | exact zI | exact zJ))
  rw [show [] ++ List.map brow p ++ [[AV.v (.int .u8 (IntKind.u8.wrap (⟨2, c, t, v⟩ : Ch).k))]] = (p ++ [2]).map brow from app3 p 2 (by decide)]
  refine no_implicit_lambda% (aqs ?_ ?_)
  ·show c.data.toList.length ≤ 4611686018427387904
   omega
  repeat' (first | (refine no_implicit_lambda% (zH ?_)) | (refine no_implicit_lambda% (splv (fun hc => ?_) (fun hc => ?_)) <;> first | exact zG hc | skip) | (refine no_implicit_lambda% (ans ?_)) | (with_reducible first | exact zI | exact zJ))
  (refine no_implicit_lambda% (calw [] (ht) ?_ ?_))
  rotate_left
  ·first | (exact zI) | (exact zJ)
  refine no_implicit_lambda% (ret1 ?_); first | (refine no_implicit_lambda% (akc ?_)) | (refine no_implicit_lambda% (aec ?_))
  repeat' (first | (refine no_implicit_lambda% (zH ?_)) | (refine no_implicit_lambda% (splv (fun hc => ?_) (fun hc => ?_)) <;> first | exact zG hc | skip) | (refine no_implicit_lambda% (ans ?_)) | (with_reducible first | exact zI | exact zJ))
  (rw [show IntKind.u64.wrap t = (t.toNat : Int) by rw [IntKind.wrap_u64]; omega])
  ((refine no_implicit_lambda% (calw [] (hp) ?_ ?_)); rotate_left; (intro x H' hh; obtain ⟨_, _, _, h', _⟩ := hh; cases h'); intro xx H' hh; obtain ⟨cp, c1, c2, h', rfl⟩ := hh; cases h'; first | (refine no_implicit_lambda% (akc ?_)) | (refine no_implicit_lambda% (aec ?_)))
  repeat' (first | (refine no_implicit_lambda% (zH ?_)) | (refine no_implicit_lambda% (splv (fun hc => ?_) (fun hc => ?_)) <;> first | exact zG hc | skip) | (refine no_implicit_lambda% (ans ?_)) | (with_reducible first | exact zI | exact zJ))
  exact e_ret (H' := bA _ (p ++ [2] ++ encT c ++ be t.toNat 8) cp) (rest := _) rfl ⟨_, by decide, cp, c1, c2, rfl, rfl⟩ permT (LE0 rfl)
 ·have hc16 := nmB_len (h2 (by decide))
  have hp := refTextO_c (p ++ [3]) c.data.toList (by simp) (by simp; omega) (by omega)
  have he : p ++ encCh ⟨3, c, t, v⟩ = p ++ [3] ++ encT c := by show p ++ ([3] ++ encT c) = _; simp only [List.append_assoc]
  rw [he]
  refine no_implicit_lambda% (acalls_of tok dok (f := 22) ⟨Tryz.func22, rfl, by kernel_rfl⟩ ?_); refine no_implicit_lambda% (c_start (fun _ h => h) ?_)
  repeat' (first | (refine no_implicit_lambda% (zH ?_)) | (refine no_implicit_lambda% (splv (fun hc => ?_) (fun hc => ?_)) <;> first | exact zG hc | skip) | (refine no_implicit_lambda% (ans ?_)) | (with_reducible first | exact zI | exact zJ))
  rw [show [] ++ List.map brow p ++ [[AV.v (.int .u8 (IntKind.u8.wrap (⟨3, c, t, v⟩ : Ch).k))]] = (p ++ [3]).map brow from app3 p 3 (by decide)]
  refine no_implicit_lambda% (aqs ?_ ?_)
  ·show c.data.toList.length ≤ 4611686018427387904
   omega
  repeat' (first | (refine no_implicit_lambda% (zH ?_)) | (refine no_implicit_lambda% (splv (fun hc => ?_) (fun hc => ?_)) <;> first | exact zG hc | skip) | (refine no_implicit_lambda% (ans ?_)) | (with_reducible first | exact zI | exact zJ))
  ((refine no_implicit_lambda% (calw [] (hp) ?_ ?_)); rotate_left; (intro x H' hh; obtain ⟨_, _, _, h', _⟩ := hh; cases h'); intro xx H' hh; obtain ⟨cp, c1, c2, h', rfl⟩ := hh; cases h'; first | (refine no_implicit_lambda% (akc ?_)) | (refine no_implicit_lambda% (aec ?_)))
  repeat' (first | (refine no_implicit_lambda% (zH ?_)) | (refine no_implicit_lambda% (splv (fun hc => ?_) (fun hc => ?_)) <;> first | exact zG hc | skip) | (refine no_implicit_lambda% (ans ?_)) | (with_reducible first | exact zI | exact zJ))
  exact e_ret (H' := bA _ (p ++ [3] ++ encT c) cp) (rest := _) rfl ⟨_, by decide, cp, c1, c2, rfl, rfl⟩ permT (LE0 rfl)
 ·have he : p ++ encCh ⟨4, c, t, v⟩ = p ++ [4] := rfl
  rw [he]
  refine no_implicit_lambda% (acalls_of tok dok (f := 22) ⟨Tryz.func22, rfl, by kernel_rfl⟩ ?_); refine no_implicit_lambda% (c_start (fun _ h => h) ?_)
  refine no_implicit_lambda% (awdz ?_)
  ((with_reducible refine no_implicit_lambda% (zC ?_)); refine no_implicit_lambda% (a_appS0 (sz := 1) (B := 1) (m2 := p.length) rfl rfl rfl rfl rfl rfl rfl rfl rfl (by first | exact .inl rfl | exact .inr ⟨_, _, rfl⟩) rfl rfl rfl (broOk p) (by first | omega | (simp; done) | (simp; omega)) (by first | omega | (simp; done) | (simp; omega)) (by first | rfl | (exact List.length_map ..) | (simp; done)) ?_))
  intro cp0 d1 d2
  refine no_implicit_lambda% (aec ?_)
  refine no_implicit_lambda% (awdz ?_)
  ((with_reducible refine no_implicit_lambda% (zC ?_)); refine no_implicit_lambda% (a_appS (sz := 1) (B := 1) (m2 := (p ++ [4]).length) (rows3 := (p ++ [4]).map brow) rfl rfl rfl rfl rfl rfl rfl rfl rfl rfl rfl (fun _ h => h) rfl rfl (broOk p) (broOk ([4] : List UInt8)) (by first | rfl | (exact List.length_map ..) | (simp; done) | (simp; omega)) rfl (by first | omega | (simp; done) | (simp; omega)) (by first | rfl | (simp; done) | (simp; omega)) (by first | rfl | (exact map_snoc _ _) | (rw [List.map_append]; rfl) | (simp; done)) ?_))
  intro cp c1 c2
  refine no_implicit_lambda% (aec ?_)
  refine no_implicit_lambda% (awdz ?_)
  exact e_ret (H' := bA _ (p ++ [4]) cp) (rest := _) rfl ⟨_, by decide, cp, c1, c2, rfl, rfl⟩ permT (LE0 rfl)
theorem oneO_c (p : List UInt8) (n : Nat) (hn : n < 256) (hp : p.length < 100000000) : ACalls Tryz.prog 55 0 1 [.list (p.map brow) .free, .v (.int .i64 n)] [] (bAR 0 (p ++ [UInt8.ofNat n])) := by
 refine bAR_ren (top := 20) ?_
 refine no_implicit_lambda% (acalls_of tok dok (f := 55) ⟨Tryz.func55, rfl, by kernel_rfl⟩ ?_); refine no_implicit_lambda% (c_start (fun _ h => h) ?_)
 refine no_implicit_lambda% (awdz ?_)
 ((with_reducible refine no_implicit_lambda% (zC ?_)); refine no_implicit_lambda% (a_appS0 (sz := 1) (B := 1) (m2 := p.length) rfl rfl rfl rfl rfl rfl rfl rfl rfl (by first | exact .inl rfl | exact .inr ⟨_, _, rfl⟩) rfl rfl rfl (broOk p) (by first | omega | (simp; done) | (simp; omega)) (by first | omega | (simp; done) | (simp; omega)) (by first | rfl | (exact List.length_map ..) | (simp; done)) ?_))
 intro cp0 d1 d2
 refine no_implicit_lambda% (akc ?_)
 refine no_implicit_lambda% (awdz ?_)
 rw [show IntKind.u8.wrap (n : Int) = ((UInt8.ofNat n).toNat : Int) from u8len n]
 ((with_reducible refine no_implicit_lambda% (zC ?_)); refine no_implicit_lambda% (a_appS (sz := 1) (B := 1) (m2 := (p ++ [UInt8.ofNat n]).length) (rows3 := (p ++ [UInt8.ofNat n]).map brow) rfl rfl rfl rfl rfl rfl rfl rfl rfl rfl rfl (fun _ h => h) rfl rfl (broOk p) (broOk ([UInt8.ofNat n] : List UInt8)) (by first | rfl | (exact List.length_map ..) | (simp; done) | (simp; omega)) rfl (by first | omega | (simp; done) | (simp; omega)) (by first | rfl | (simp; done) | (simp; omega)) (by first | rfl | (exact map_snoc _ _) | (rw [List.map_append]; rfl) | (simp; done)) ?_))
 intro cp c1 c2
 refine no_implicit_lambda% (akc ?_)
 refine no_implicit_lambda% (awdz ?_)
 exact e_ret (H' := bA _ (p ++ [UInt8.ofNat n]) cp) (rest := _) rfl ⟨_, by decide, cp, c1, c2, rfl, rfl⟩ permT (LE0 rfl)
theorem bl_top8 {P : Program} {f : FuncId} {top : Nat} {args : List AV} {l : List UInt8} (h : ACalls P f 0 top args [] (fun out H' => out = .ret (.list (l.map brow) .free) ∧ H' = [])) : ACalls P f 0 0 args [] (fun out H' => out = .ret (.list (l.map brow) .free) ∧ H' = []) :=
 ACalls.ren h (Nat.zero_le _) fun out H' hh => by
  obtain ⟨rfl, rfl⟩ := hh
  exact ⟨[], .ret (.list (l.map brow) .free), [], List.nodup_nil, (fun q h => by cases h), (fun q h => by omega), Nat.le_refl _, rfl, rfl, rfl, rfl⟩
theorem one8_c (p : List UInt8) (n : Nat) (hn : n < 256) (hp : p.length < 100000000) : ACalls Tryz.prog 55 0 0 [.list (p.map brow) .free, .v (.int .i64 n)] [] (fun out H' => out = .ret (.list ((p ++ [UInt8.ofNat n]).map brow) .free) ∧ H' = []) := bl_top8 (bAR_list (oneO_c p n hn hp))
theorem textsO_c (p : List UInt8) (s : ByteArray) (h0 : 0 < p.length) (hs : s.data.toList.length ≤ 1048576) (hp : p.length < 100000000) : ACalls Tryz.prog 54 0 1 [.list (p.map brow) .free, .v (.string s)] [] (bAR 0 (p ++ encT s)) := by
 refine bAR_ren (top := 20) ?_
 refine no_implicit_lambda% (acalls_of tok dok (f := 54) ⟨Tryz.func54, rfl, by kernel_rfl⟩ ?_); refine no_implicit_lambda% (c_start (fun _ h => h) ?_)
 repeat' (first | (refine no_implicit_lambda% (zH ?_)) | (refine no_implicit_lambda% (spl (fun hc => ?_) (fun hc => ?_)) <;> first | exact zG hc | skip) | (refine no_implicit_lambda% (ans ?_)) | (with_reducible first | exact zI | exact zJ))
 refine no_implicit_lambda% (aqs ?_ ?_)
 ·show s.data.toList.length ≤ 4611686018427387904
  omega
 repeat' (first | (refine no_implicit_lambda% (zH ?_)) | (refine no_implicit_lambda% (spl (fun hc => ?_) (fun hc => ?_)) <;> first | exact zG hc | skip) | (refine no_implicit_lambda% (ans ?_)) | (with_reducible first | exact zI | exact zJ))
 ((refine no_implicit_lambda% (calw [] (refTextO_c p s.data.toList h0 (by omega) (by omega)) ?_ ?_)); rotate_left; (intro x H' hh; obtain ⟨_, _, _, h', _⟩ := hh; cases h'); intro xx H' hh; obtain ⟨cp, c1, c2, h', rfl⟩ := hh; cases h'; first | (refine no_implicit_lambda% (akc ?_)) | (refine no_implicit_lambda% (aec ?_)))
 refine no_implicit_lambda% (awd ?_)
 exact e_ret (H' := bA _ (p ++ encT s) cp) (rest := _) rfl ⟨_, by decide, cp, c1, c2, rfl, rfl⟩ permT (LE0 rfl)
theorem texts8_c (p : List UInt8) (s : ByteArray) (h0 : 0 < p.length) (hs : s.data.toList.length ≤ 1048576) (hp : p.length < 100000000) : ACalls Tryz.prog 54 0 0 [.list (p.map brow) .free, .v (.string s)] [] (fun out H' => out = .ret (.list ((p ++ encT s).map brow) .free) ∧ H' = []) := bl_top8 (bAR_list (textsO_c p s h0 hs hp))
def encSn (s : Sn) : List UInt8 := encT s.lo ++ encT s.hi
theorem le16_n {s : ByteArray} (h : le16 s = true) : s.data.toList.length ≤ 16 := by
 have h1 := of_decide_eq_true h
 have h2 : s.data.toList.length = s.size := rfl
 omega
theorem spB_n {s : Sn} (h : spB s = true) : s.lo.data.toList.length ≤ 16 ∧ s.hi.data.toList.length ≤ 16 := by
 unfold spB at h
 simp only [Bool.and_eq_true] at h
 exact ⟨le16_n h.1, le16_n h.2.1⟩
theorem encSn_len {s : Sn} (h : spB s = true) : (encSn s).length ≤ 40 := by
 have := spB_n h
 unfold encSn
 rw [List.length_append, encT_len, encT_len]; omega
theorem spans8_c (p : List UInt8) (s : Sn) (h0 : 0 < p.length) (hs : spB s = true) (hp : p.length < 10000000) : ACalls Tryz.prog 57 0 0 [.list (p.map brow) .free, .agg (snrow s)] [] (fun out H' => out = .ret (.list ((p ++ encSn s).map brow) .free) ∧ H' = []) := by
 have hn := spB_n hs
 refine bl_top8 (bAR_list (id := 0) (bAR_ren (top := 20) ?_))
 have h1 := texts8_c p s.lo h0 (by omega) (by omega)
 have h2 := textsO_c (p ++ encT s.lo) s.hi (by simp; omega) (by omega) (by rw [List.length_append, encT_len]; omega)
 have he : p ++ encSn s = p ++ encT s.lo ++ encT s.hi := by unfold encSn; rw [List.append_assoc]
 rw [he]
 obtain ⟨lo, hi⟩ := s
 refine no_implicit_lambda% (acalls_of tok dok (f := 57) ⟨Tryz.func57, rfl, by kernel_rfl⟩ ?_); refine no_implicit_lambda% (c_start (fun _ h => h) ?_)
 repeat' (first | (refine no_implicit_lambda% (zH ?_)) | (refine no_implicit_lambda% (splv (fun hc => ?_) (fun hc => ?_)) <;> first | exact zG hc | skip) | (refine no_implicit_lambda% (ans ?_)) | (with_reducible first | exact zI | exact zJ) | (refine no_implicit_lambda% (cal [] (h1) ?_ ?_)) | fail)
 ((refine no_implicit_lambda% (calw [] (h2) ?_ ?_)); rotate_left; (intro x H' hh; obtain ⟨_, _, _, h', _⟩ := hh; cases h'); intro xx H' hh; obtain ⟨cp, c1, c2, h', rfl⟩ := hh; cases h'; first | (refine no_implicit_lambda% (akc ?_)) | (refine no_implicit_lambda% (aec ?_)))
 repeat' (first | (refine no_implicit_lambda% (zH ?_)) | (refine no_implicit_lambda% (splv (fun hc => ?_) (fun hc => ?_)) <;> first | exact zG hc | skip) | (refine no_implicit_lambda% (ans ?_)) | (with_reducible first | exact zI | exact zJ))
 exact e_ret (H' := bA _ (p ++ encT lo ++ encT hi) cp) (rest := _) rfl ⟨_, by decide, cp, c1, c2, rfl, rfl⟩ permT (LE0 rfl)
end Go.Proofs.YtncffhgoopdfgaaGreat
namespace Go.Proofs.YtncffhgoopdfgaaGreat
open Go.Am
set_option maxRecDepth 100000
theorem wr_top {P : Program} {f : FuncId} {top : Nat} {args : List AV} {l l' : List UInt8} (h : ACalls P f 2 top args (wr l) (fun out H' => out = .ret (.tuple []) ∧ H' = wr l')) (ht : 2 ≤ top) : ACalls P f 2 2 args (wr l) (fun out H' => out = .ret (.tuple []) ∧ H' = wr l') :=
 ACalls.ren h ht fun out H' hh => by
  obtain ⟨rfl, rfl⟩ := hh
  refine ⟨[0, 1], .ret (.tuple []), wr l', by decide, (fun i hi => by simp only [List.mem_cons, List.not_mem_nil, or_false] at hi; omega), (fun q h => ?_), Nat.le_refl _, rfl, ?_, rfl, rfl⟩
  ·match q, h with
   | 0, _ => rfl
   | 1, _ => rfl
  ·simp [wr, renH, Res.ren, rn, AV.ren, AV.renL, Own.ren]
theorem cmdtext_c (l : List UInt8) (s : ByteArray) (hs : s.data.toList.length ≤ 1048576) (h : l.length < 1000000000) : ACalls Tryz.prog 100 2 2 [.ptr 0 0, .v (.string s)] (wr l) (fun out H' => out = .ret (.tuple []) ∧ H' = wr (l ++ encT s)) := by
 have ht := text_c l s.data.toList (by omega) h
 rw [if_pos hs] at ht
 refine wr_top (top := 3) ?_ (by decide)
 refine no_implicit_lambda% (acalls_of tok dok (f := 100) ⟨Tryz.func100, rfl, by kernel_rfl⟩ ?_); refine no_implicit_lambda% (c_start (fun _ h => h) ?_)
 repeat' (first | (refine no_implicit_lambda% (zH ?_)) | (refine no_implicit_lambda% (spl (fun hc => ?_) (fun hc => ?_)) <;> first | exact zG hc | skip) | (refine no_implicit_lambda% (ans ?_)) | (with_reducible first | exact zI | exact zJ))
 refine no_implicit_lambda% (aqs ?_ ?_)
 ·show s.data.toList.length ≤ 4611686018427387904
  omega
 repeat' (first | (refine no_implicit_lambda% (zH ?_)) | (refine no_implicit_lambda% (spl (fun hc => ?_) (fun hc => ?_)) <;> first | exact zG hc | skip) | (refine no_implicit_lambda% (ans ?_)) | (with_reducible first | exact zI | exact zJ) | (refine no_implicit_lambda% (cal [0, 1] (ht) ?_ ?_)) | fail)
 exact e_ret (H' := wr (l ++ encT s)) (rest := _) rfl ⟨rfl, rfl⟩ permT (LE0 rfl)
theorem wspan_c (l : List UInt8) (s : Sn) (hs : spB s = true) (h : l.length < 100000000) : ACalls Tryz.prog 102 2 2 [.ptr 0 0, .agg (snrow s)] (wr l) (fun out H' => out = .ret (.tuple []) ∧ H' = wr (l ++ encSn s)) := by
 have hn := spB_n hs
 have h1 := text_c l s.lo.data.toList (by omega) (by omega)
 have h2 := text_c (l ++ encT s.lo) s.hi.data.toList (by omega) (by rw [List.length_append, encT_len]; omega)
 rw [if_pos (by omega)] at h1 h2
 have he : l ++ encSn s = l ++ encT s.lo ++ encT s.hi := by unfold encSn; rw [List.append_assoc]
 rw [he]
 obtain ⟨lo, hi⟩ := s
 dsimp only at *
 refine wr_top (top := 3) ?_ (by decide)
 refine no_implicit_lambda% (acalls_of tok dok (f := 102) ⟨Tryz.func102, rfl, by kernel_rfl⟩ ?_); refine no_implicit_lambda% (c_start (fun _ h => h) ?_)
 repeat' (first | (refine no_implicit_lambda% (zH ?_)) | (refine no_implicit_lambda% (spl (fun hc => ?_) (fun hc => ?_)) <;> first | exact zG hc | skip) | (refine no_implicit_lambda% (ans ?_)) | (with_reducible first | exact zI | exact zJ))
 refine no_implicit_lambda% (aqs ?_ ?_)
 ·show lo.data.toList.length ≤ 4611686018427387904
  omega
 repeat' (first | (refine no_implicit_lambda% (zH ?_)) | (refine no_implicit_lambda% (spl (fun hc => ?_) (fun hc => ?_)) <;> first | exact zG hc | skip) | (refine no_implicit_lambda% (ans ?_)) | (with_reducible first | exact zI | exact zJ) | (refine no_implicit_lambda% (cal [0, 1] (h1) ?_ ?_)) | fail)
 refine no_implicit_lambda% (aqs ?_ ?_)
 ·show hi.data.toList.length ≤ 4611686018427387904
  omega
 repeat' (first | (refine no_implicit_lambda% (zH ?_)) | (refine no_implicit_lambda% (spl (fun hc => ?_) (fun hc => ?_)) <;> first | exact zG hc | skip) | (refine no_implicit_lambda% (ans ?_)) | (with_reducible first | exact zI | exact zJ) | (refine no_implicit_lambda% (cal [0, 1] (h2) ?_ ?_)) | fail)
 exact e_ret (H' := wr (l ++ encT lo ++ encT hi)) (rest := _) rfl ⟨rfl, rfl⟩ permT (LE0 rfl)
def encOp (q : Oq) : List UInt8 := UInt8.ofNat q.k.toNat :: (encT q.row ++ (if q.k = 2 then encD q.d ++ (UInt8.ofNat q.l.length :: q.l.flatMap encCh) else if q.k = 3 then encT q.hi ++ [UInt8.ofNat q.most.toNat] else []))
def OqN (q : Oq) : Prop := q.d.v.n < 18446744073709551616 ∧ ∀ x ∈ q.l, x.v.n < 18446744073709551616
structure Op2 (q : Oq) : Prop where
 row : nmB q.row = true
 d : rcB q.d = true
 l1 : 0 < q.l.length
 l8 : q.l.length ≤ 8
 l : ∀ x ∈ q.l, rightC x = 0
theorem op2_of {q : Oq} (hk : q.k = 2) (h : opB q = true) : Op2 q := by
 rw [opB2 hk] at h
 simp only [Bool.and_eq_true, decide_eq_true_eq, List.all_eq_true] at h
 obtain ⟨h1, h2, h3, h4, h5⟩ := h
 exact ⟨h1, h2, h3, h4, fun x hx => by have := h5 x hx; unfold chB at this; simpa using this⟩
theorem op_k {q : Oq} (h : opB q = true) : q.k = 1 ∨ q.k = 2 ∨ q.k = 3 := by
 rcases kd3 q.k with h1 | h1 | h1 | ⟨h1, h2, h3⟩
 ·exact .inl h1
 ·exact .inr (.inl h1)
 ·exact .inr (.inr h1)
 ·rw [opB0 h1 h2 h3] at h; cases h
theorem chs_len {l : List Ch} (h : ∀ x ∈ l, rightC x = 0) : (l.flatMap encCh).length ≤ l.length * 54 := flat_len encCh 54 l fun x hx => (encCh_len (h x hx)).2
theorem flat_step {α : Type} (f : α → List UInt8) {l : List α} {i : Nat} {x : α} (h : l[i]? = some x) : (l.take (i + 1)).flatMap f = (l.take i).flatMap f ++ f x := by
 obtain ⟨h5, h6⟩ := List.getElem?_eq_some_iff.1 h
 rw [List.take_succ_eq_append_getElem h5, List.flatMap_append, h6]; simp
def woSt (q : Oq) (cur : List UInt8) (i : Nat) : ASt := ⟨([.ptr 0 0] ++ List.replicate 29 .dead ++ [.list (q.l.map chrow) .free, .v (.int .i64 q.l.length), .v (.int .i64 i)] ++ List.replicate 18 .dead), (2, .box (oqrow q)) :: wr cur, 3⟩
set_option maxHeartbeats 6400000 in
theorem wop_c (q : Oq) (p : List UInt8) (hq : opB q = true) (hN : OqN q) (hp : p.length < 1000000) : ACalls Tryz.prog 111 2 2 [.ptr 0 0, .agg (oqrow q)] (wr p) (fun out H' => out = .ret (.tuple []) ∧ H' = wr (p ++ encOp q)) := by
 have hk := op_k hq
 obtain ⟨k, row, hi, d, l, most⟩ := q
 dsimp only at *
 rcases hk with rfl | rfl | rfl
 ·rw [opB1 rfl] at hq
  dsimp only at hq
  have hc16 := nmB_len hq
  have hb := byte_c p 1 (by omega)
  have ht := cmdtext_c (p ++ [1]) row (by omega) (by simp; omega)
  have he : p ++ encOp ⟨1, row, hi, d, l, most⟩ = p ++ [1] ++ encT row := by show p ++ ([1] ++ (encT row ++ [])) = _; rw [List.append_nil, List.append_assoc]
  rw [he]
  refine wr_top (top := 1000) ?_ (by decide)
  refine no_implicit_lambda% (acalls_of tok dok (f := 111) ⟨Tryz.func111, rfl, by kernel_rfl⟩ ?_); refine no_implicit_lambda% (c_start (fun _ h => h) ?_)
  repeat' (first | (refine no_implicit_lambda% (zH ?_)) | (refine no_implicit_lambda% (spl (fun hc => ?_) (fun hc => ?_)) <;> first | exact zG hc | skip) | (refine no_implicit_lambda% (ans ?_)) | (with_reducible first | exact zI | exact zJ) | (refine no_implicit_lambda% (cal [0, 1] (hb) ?_ ?_)) | (refine no_implicit_lambda% (cal [0, 1] (ht) ?_ ?_)) | fail)
  exact e_ret (H' := wr (p ++ [1] ++ encT row)) (rest := _) rfl ⟨rfl, rfl⟩ permT (LE0 rfl)
 ·obtain ⟨h1, h2, h3, h4, h5⟩ := op2_of rfl hq
  dsimp only at *
  have hc16 := nmB_len h1
  have hd46 := encD_len h2
  have hb := byte_c p 2 (by omega)
  have ht := cmdtext_c (p ++ [2]) row (by omega) (by simp; omega)
  have hw := wr_top (wcond_c d (p ++ [2] ++ encT row) h2 hN.1 (by simp only [List.length_append, encT_len, List.length_singleton]; omega)) (by decide)
  have hm := byte_c (p ++ [2] ++ encT row ++ encD d) (UInt8.ofNat l.length) (by simp only [List.length_append, encT_len, List.length_singleton]; omega)
  have he : p ++ encOp ⟨2, row, hi, d, l, most⟩ = p ++ [2] ++ encT row ++ encD d ++ [UInt8.ofNat l.length] ++ l.flatMap encCh := by show p ++ ([2] ++ (encT row ++ (encD d ++ ([UInt8.ofNat l.length] ++ l.flatMap encCh)))) = _; simp only [List.append_assoc]
  rw [he]
  have hpl : (p ++ [2] ++ encT row ++ encD d ++ [UInt8.ofNat l.length]).length < 1100000 := by simp only [List.length_append, encT_len, List.length_singleton]; omega
  refine wr_top (top := 1000) ?_ (by decide)
  refine no_implicit_lambda% (acalls_of tok dok (f := 111) ⟨Tryz.func111, rfl, by kernel_rfl⟩ ?_); refine no_implicit_lambda% (c_start (fun _ h => h) ?_)
  repeat' (first | (refine no_implicit_lambda% (zH ?_)) | (refine no_implicit_lambda% (spl (fun hc => ?_) (fun hc => ?_)) <;> first | exact zG hc | skip) | (refine no_implicit_lambda% (ans ?_)) | (with_reducible first | exact zI | exact zJ) | (refine no_implicit_lambda% (cal [0, 1] (hb) ?_ ?_)) | (refine no_implicit_lambda% (cal [0, 1] (ht) ?_ ?_)) | (refine no_implicit_lambda% (cal [0, 1] (hw) ?_ ?_)) | fail)
  rw [show IntKind.u8.wrap ((l.map chrow).length : Int) = ((UInt8.ofNat l.length).toNat : Int) by rw [List.length_map]; exact u8len l.length]
  repeat' (first | (refine no_implicit_lambda% (zH ?_)) | (refine no_implicit_lambda% (spl (fun hc => ?_) (fun hc => ?_)) <;> first | exact zG hc | skip) | (refine no_implicit_lambda% (ans ?_)) | (with_reducible first | exact zI | exact zJ) | (refine no_implicit_lambda% (cal [0, 1] (hm) ?_ ?_)) | fail)
  generalize p ++ [2] ++ encT row ++ encD d ++ [UInt8.ofNat l.length] = P at *
  refine c_loop2 (woSt ⟨2, row, hi, d, l, most⟩) (fun cur i => i ≤ l.length ∧ cur = P ++ (l.take i).flatMap encCh) (fun _ i => l.length - i) P 0 ⟨Nat.zero_le _, by simp⟩ ?_ ?_
  ·(refine no_implicit_lambda% (Conv.toT ?_ ?_ (LE0 rfl))); (focus ((unfold woSt); (try dsimp only); exact wkl)); (focus ((unfold woSt); (try dsimp only); exact wkh))
  ·rintro cur i ⟨i1, hcur⟩
   refine c_turn (n' := 3) (fun _ h => h) (fun _ h => h) rfl ?_
   have hlm : ((l.map chrow).length : Int) = l.length := by rw [List.length_map]
   rcases hx : l[i]? with _ | x
   ·have hi : i = l.length := by have := List.getElem?_eq_none_iff.1 hx; omega
    subst hi
    rw [List.take_length] at hcur
    subst hcur
    repeat' (first | (refine no_implicit_lambda% (zH ?_)) | (refine no_implicit_lambda% (spl (fun hc => ?_) (fun hc => ?_)) <;> first | exact zG hc | skip) | (refine no_implicit_lambda% (ans ?_)) | (with_reducible first | exact zI | exact zJ))
    exact e_ret (H' := wr (P ++ l.flatMap encCh)) (rest := _) rfl ⟨rfl, rfl⟩ permT (LE0 rfl)
   ·have hi : i < l.length := (List.getElem?_eq_some_iff.1 hx).1
    have hix := chx hx
    have hm := List.mem_of_getElem? hx
    have hfl := chs_len (l := l.take i) (fun x hx => h5 x (List.mem_of_mem_take hx))
    have htl : (l.take i).length ≤ 8 := by rw [List.length_take]; omega
    have hcl : cur.length < 10000000 := by rw [hcur, List.length_append]; omega
    have hw := wr_top (write5_c x cur (h5 x hm) (hN.2 x hm) hcl) (by decide)
    have hs := flat_step encCh hx
    repeat' (first | (refine no_implicit_lambda% (zH ?_)) | (refine no_implicit_lambda% (spl (fun hc => ?_) (fun hc => ?_)) <;> first | exact zG hc | skip) | (refine no_implicit_lambda% (ans ?_)) | (with_reducible first | exact zI | exact zJ) | (refine no_implicit_lambda% (cal [0, 1] (hw) ?_ ?_)) | fail)
    (refine no_implicit_lambda% (k_loopLT (((cur ++ encCh x, i + 1) : List UInt8 × Nat)) 2 [0, 1, 2] (by
     refine ⟨hi, ?_⟩
     show cur ++ encCh x = P ++ (l.take (i + 1)).flatMap encCh
     rw [hs, hcur, List.append_assoc]) (by first | omega | (simp; done) | (simp; omega)) (LE0 rfl) (fun _ h => h) (fun _ h => h) ?_ ?_)); (focus ((try dsimp only); exact wkl)); (focus ((try dsimp only); exact wkh))
 ·rw [opB3 rfl] at hq
  simp only [Bool.and_eq_true, decide_eq_true_eq] at hq
  obtain ⟨hs, hm1, hm2⟩ := hq
  have hn := spB_n hs
  dsimp only at hn
  have hb := byte_c p 3 (by omega)
  have ht := cmdtext_c (p ++ [3]) row (by omega) (by simp; omega)
  have ht2 := cmdtext_c (p ++ [3] ++ encT row) hi (by omega) (by simp only [List.length_append, encT_len, List.length_singleton]; omega)
  have hm := byte_c (p ++ [3] ++ encT row ++ encT hi) (UInt8.ofNat most.toNat) (by simp only [List.length_append, encT_len, List.length_singleton]; omega)
  have he : p ++ encOp ⟨3, row, hi, d, l, most⟩ = p ++ [3] ++ encT row ++ encT hi ++ [UInt8.ofNat most.toNat] := by show p ++ ([3] ++ (encT row ++ (encT hi ++ [UInt8.ofNat most.toNat]))) = _; simp only [List.append_assoc]
  rw [he]
  refine wr_top (top := 1000) ?_ (by decide)
  refine no_implicit_lambda% (acalls_of tok dok (f := 111) ⟨Tryz.func111, rfl, by kernel_rfl⟩ ?_); refine no_implicit_lambda% (c_start (fun _ h => h) ?_)
  repeat' (first | (refine no_implicit_lambda% (zH ?_)) | (refine no_implicit_lambda% (spl (fun hc => ?_) (fun hc => ?_)) <;> first | exact zG hc | skip) | (refine no_implicit_lambda% (ans ?_)) | (with_reducible first | exact zI | exact zJ) | (refine no_implicit_lambda% (cal [0, 1] (hb) ?_ ?_)) | (refine no_implicit_lambda% (cal [0, 1] (ht) ?_ ?_)) | (refine no_implicit_lambda% (cal [0, 1] (ht2) ?_ ?_)) | fail)
  rw [show IntKind.u8.wrap most = ((UInt8.ofNat most.toNat).toNat : Int) by rw [← u8len, Int.toNat_of_nonneg (by omega)]]
  repeat' (first | (refine no_implicit_lambda% (zH ?_)) | (refine no_implicit_lambda% (spl (fun hc => ?_) (fun hc => ?_)) <;> first | exact zG hc | skip) | (refine no_implicit_lambda% (ans ?_)) | (with_reducible first | exact zI | exact zJ) | (refine no_implicit_lambda% (cal [0, 1] (hm) ?_ ?_)) | fail)
  exact e_ret (H' := wr (p ++ [3] ++ encT row ++ encT hi ++ [UInt8.ofNat most.toNat])) (rest := _) rfl ⟨rfl, rfl⟩ permT (LE0 rfl)
end Go.Proofs.YtncffhgoopdfgaaGreat
