/- Part 12 of what the laws CmdTells rest on: CdE, CdF, CdG. -/
import Derived.Test.YtncffhgoopdfgaaGreatP11
set_option linter.unusedSimpArgs false
set_option linter.unusedVariables false
namespace Go.Proofs.YtncffhgoopdfgaaGreat
open Go.Am
set_option maxRecDepth 100000
def encCm (c : Cm) : List UInt8 := UInt8.ofNat c.k.toNat :: (
 if c.k = 1 then encOp c.op else
 if c.k = 2 ∨ c.k = 4 then encSn c.sp ++ be c.gen.toNat 4 else
 if c.k = 3 then encSn c.sp ++ (be c.gen.toNat 4 ++ (be c.st.length 4 ++ c.st)) else
 if c.k = 5 ∨ c.k = 6 then encSn c.sp ++ (be c.gen.toNat 4 ++ encT c.at') else
 if c.k = 7 then encT c.at' else
 if c.k = 8 then UInt8.ofNat c.dw.toNat :: (if c.dw = 0 then [] else encT c.at' ++ [UInt8.ofNat c.to.toNat]) else
 if c.k = 9 then be c.gen.toNat 4 ++ [UInt8.ofNat (-c.to).toNat] else [])
theorem encOp_len {q : Oq} (h : opB q = true) : (encOp q).length ≤ 600 := by
 have hk := op_k h
 obtain ⟨k, row, hi, d, l, most⟩ := q
 dsimp only at hk
 rcases hk with rfl | rfl | rfl
 ·rw [opB1 rfl] at h
  have := nmB_len h
  dsimp only at this
  show List.length (_ :: (encT row ++ [])) ≤ 600
  simp only [List.length_cons, List.length_append, encT_len, List.length_nil]; omega
 ·obtain ⟨h1, h2, h3, h4, h5⟩ := op2_of rfl h
  dsimp only at *
  have := nmB_len h1
  have := encD_len h2
  have := chs_len h5
  show List.length (_ :: (encT row ++ (encD d ++ (_ :: l.flatMap encCh)))) ≤ 600
  simp only [List.length_cons, List.length_append, encT_len, List.length_nil]; omega
 ·rw [opB3 rfl] at h
  simp only [Bool.and_eq_true] at h
  have := spB_n h.1
  dsimp only at this
  show List.length (_ :: (encT row ++ (encT hi ++ [_]))) ≤ 600
  simp only [List.length_cons, List.length_append, encT_len, List.length_nil]; omega
theorem genB_n {n : Int} (h : genB n = true) : 1 ≤ n ∧ n ≤ 1073741824 := by
 unfold genB at h
 simpa only [Bool.and_eq_true, decide_eq_true_eq] using h
theorem spliB_n {s : Sn} {t : ByteArray} (h : spliB s t = true) : spB s = true ∧ t.data.toList.length ≤ 16 := by
 unfold spliB at h
 simp only [Bool.and_eq_true] at h
 exact ⟨h.1, le16_n h.2.1⟩
theorem u32g {n : Int} (h1 : 1 ≤ n) (h2 : n ≤ 1073741824) : IntKind.u32.wrap n = (n.toNat : Int) := by rw [IntKind.wrap_u32]; omega
theorem u8g {n : Int} (h1 : 0 ≤ n) : IntKind.u8.wrap n = ((UInt8.ofNat n.toNat).toNat : Int) := by rw [← u8len, Int.toNat_of_nonneg h1]
set_option maxHeartbeats 6400000 in
theorem encode8_ok (c : Cm) (hc : cmB c = true) (hN : OqN c.op) (hl : c.op.l.length < 1000000000000) : ACalls Tryz.prog 42 0 10000 [.agg (cmrow c)] [] (fun out H' => out = .ret (.tuple [.list ((encCm c).map brow) .free, .v (.int .i64 0)]) ∧ H' = []) := by
 have h0 := (cright_c c hl).top0
 rw [hc] at h0
 have hnw := new_c
 obtain ⟨k, op, sp, gen, at', to, dw, st⟩ := c
 dsimp only at *
 rcases kd10 k with rfl | rfl | rfl | rfl | rfl | rfl | rfl | rfl | rfl | hk
 ·have hq : opB op = true := hc
  have ho := encOp_len hq
  have hb := byte_c [] 1 (by decide)
  have hw := wop_c op [1] hq hN (by decide)
  have hd := done_c ([1] ++ encOp op) (by (first | (decide; done) | (simp only [List.length_append, List.length_cons, List.length_nil, encT_len, be_len]; omega)))
  refine no_implicit_lambda% (acalls_of tok dok (f := 42) ⟨Tryz.func42, rfl, by kernel_rfl⟩ ?_); refine no_implicit_lambda% (c_start (fun _ h => h) ?_)
  repeat' (first | (refine no_implicit_lambda% (zH ?_)) | (refine no_implicit_lambda% (spl (fun hc => ?_) (fun hc => ?_)) <;> first | exact zG hc | skip) | (refine no_implicit_lambda% (ans ?_)) | (with_reducible first | exact zI | exact zJ) | (refine no_implicit_lambda% (cal [] (h0) ?_ ?_)) | (refine no_implicit_lambda% (cal [] (hnw) ?_ ?_)) | (refine no_implicit_lambda% (cal [1, 2] (hb) ?_ ?_)) | (refine no_implicit_lambda% (cal [1, 2] (hw) ?_ ?_)) | (refine no_implicit_lambda% (cal [1, 2] (hd) ?_ ?_)) | fail)
  exact e_ret (H' := []) (rest := _) rfl ⟨rfl, rfl⟩ permT (LE0 rfl)
 ·obtain ⟨hs, hg⟩ := Bool.and_eq_true_iff.1 (show (spB sp && genB gen) = true from hc)
  obtain ⟨g1, g2⟩ := genB_n hg
  have hsl := encSn_len hs
  have hb := byte_c [] 2 (by decide)
  have hw := wspan_c [2] sp hs (by decide)
  have hn := num_c ([2] ++ encSn sp) gen.toNat (by omega) (by (first | (decide; done) | (simp only [List.length_append, List.length_cons, List.length_nil, encT_len, be_len]; omega)))
  have hd := done_c ([2] ++ encSn sp ++ be gen.toNat 4) (by (first | (decide; done) | (simp only [List.length_append, List.length_cons, List.length_nil, encT_len, be_len]; omega)))
  rw [show encCm ⟨2, op, sp, gen, at', to, dw, st⟩ = [2] ++ encSn sp ++ be gen.toNat 4 from rfl]
  refine no_implicit_lambda% (acalls_of tok dok (f := 42) ⟨Tryz.func42, rfl, by kernel_rfl⟩ ?_); refine no_implicit_lambda% (c_start (fun _ h => h) ?_)
  repeat' (first | (refine no_implicit_lambda% (zH ?_)) | (refine no_implicit_lambda% (spl (fun hc => ?_) (fun hc => ?_)) <;> first | exact zG hc | skip) | (refine no_implicit_lambda% (ans ?_)) | (with_reducible first | exact zI | exact zJ) | (refine no_implicit_lambda% (cal [] (h0) ?_ ?_)) | (refine no_implicit_lambda% (cal [] (hnw) ?_ ?_)) | (refine no_implicit_lambda% (cal [1, 2] (hb) ?_ ?_)) | (refine no_implicit_lambda% (cal [1, 2] (hw) ?_ ?_)) | fail)
  rw [u32g g1 g2]
  repeat' (first | (refine no_implicit_lambda% (zH ?_)) | (refine no_implicit_lambda% (spl (fun hc => ?_) (fun hc => ?_)) <;> first | exact zG hc | skip) | (refine no_implicit_lambda% (ans ?_)) | (with_reducible first | exact zI | exact zJ) | (refine no_implicit_lambda% (cal [1, 2] (hn) ?_ ?_)) | (refine no_implicit_lambda% (cal [1, 2] (hd) ?_ ?_)) | fail)
  exact e_ret (H' := []) (rest := _) rfl ⟨rfl, rfl⟩ permT (LE0 rfl)
 ·obtain ⟨hs, hg⟩ := Bool.and_eq_true_iff.1 (show (spB sp && genB gen) = true from hc)
  obtain ⟨g1, g2⟩ := genB_n hg
  have hsl := encSn_len hs
  have hb := byte_c [] 4 (by decide)
  have hw := wspan_c [4] sp hs (by decide)
  have hn := num_c ([4] ++ encSn sp) gen.toNat (by omega) (by (first | (decide; done) | (simp only [List.length_append, List.length_cons, List.length_nil, encT_len, be_len]; omega)))
  have hd := done_c ([4] ++ encSn sp ++ be gen.toNat 4) (by (first | (decide; done) | (simp only [List.length_append, List.length_cons, List.length_nil, encT_len, be_len]; omega)))
  rw [show encCm ⟨4, op, sp, gen, at', to, dw, st⟩ = [4] ++ encSn sp ++ be gen.toNat 4 from rfl]
  refine no_implicit_lambda% (acalls_of tok dok (f := 42) ⟨Tryz.func42, rfl, by kernel_rfl⟩ ?_); refine no_implicit_lambda% (c_start (fun _ h => h) ?_)
  repeat' (first | (refine no_implicit_lambda% (zH ?_)) | (refine no_implicit_lambda% (spl (fun hc => ?_) (fun hc => ?_)) <;> first | exact zG hc | skip) | (refine no_implicit_lambda% (ans ?_)) | (with_reducible first | exact zI | exact zJ) | (refine no_implicit_lambda% (cal [] (h0) ?_ ?_)) | (refine no_implicit_lambda% (cal [] (hnw) ?_ ?_)) | (refine no_implicit_lambda% (cal [1, 2] (hb) ?_ ?_)) | (refine no_implicit_lambda% (cal [1, 2] (hw) ?_ ?_)) | fail)
  rw [u32g g1 g2]
  repeat' (first | (refine no_implicit_lambda% (zH ?_)) | (refine no_implicit_lambda% (spl (fun hc => ?_) (fun hc => ?_)) <;> first | exact zG hc | skip) | (refine no_implicit_lambda% (ans ?_)) | (with_reducible first | exact zI | exact zJ) | (refine no_implicit_lambda% (cal [1, 2] (hn) ?_ ?_)) | (refine no_implicit_lambda% (cal [1, 2] (hd) ?_ ?_)) | fail)
  exact e_ret (H' := []) (rest := _) rfl ⟨rfl, rfl⟩ permT (LE0 rfl)
 ·obtain ⟨hs, hg⟩ := Bool.and_eq_true_iff.1 (show (spB sp && (genB gen && decide (st.length ≤ 1048576))) = true from hc)
  obtain ⟨hg, ht⟩ := Bool.and_eq_true_iff.1 hg
  have ht := of_decide_eq_true ht
  obtain ⟨g1, g2⟩ := genB_n hg
  have hsl := encSn_len hs
  have hb := byte_c [] 3 (by decide)
  have hw := wspan_c [3] sp hs (by decide)
  have hn := num_c ([3] ++ encSn sp) gen.toNat (by omega) (by (first | (decide; done) | (simp only [List.length_append, List.length_cons, List.length_nil, encT_len, be_len]; omega)))
  have hx := text_c ([3] ++ encSn sp ++ be gen.toNat 4) st (by omega) (by (first | (decide; done) | (simp only [List.length_append, List.length_cons, List.length_nil, encT_len, be_len]; omega)))
  rw [if_pos ht] at hx
  have hd := done_c ([3] ++ encSn sp ++ be gen.toNat 4 ++ (be st.length 4 ++ st)) (by (first | (decide; done) | (simp only [List.length_append, List.length_cons, List.length_nil, encT_len, be_len]; omega)))
  rw [show encCm ⟨3, op, sp, gen, at', to, dw, st⟩ = [3] ++ encSn sp ++ be gen.toNat 4 ++ (be st.length 4 ++ st) by show [3] ++ (encSn sp ++ (be gen.toNat 4 ++ (be st.length 4 ++ st))) = _; simp only [List.append_assoc]]
  refine no_implicit_lambda% (acalls_of tok dok (f := 42) ⟨Tryz.func42, rfl, by kernel_rfl⟩ ?_); refine no_implicit_lambda% (c_start (fun _ h => h) ?_)
  repeat' (first | (refine no_implicit_lambda% (zH ?_)) | (refine no_implicit_lambda% (spl (fun hc => ?_) (fun hc => ?_)) <;> first | exact zG hc | skip) | (refine no_implicit_lambda% (ans ?_)) | (with_reducible first | exact zI | exact zJ) | (refine no_implicit_lambda% (cal [] (h0) ?_ ?_)) | (refine no_implicit_lambda% (cal [] (hnw) ?_ ?_)) | (refine no_implicit_lambda% (cal [1, 2] (hb) ?_ ?_)) | (refine no_implicit_lambda% (cal [1, 2] (hw) ?_ ?_)) | fail)
  rw [u32g g1 g2]
  repeat' (first | (refine no_implicit_lambda% (zH ?_)) | (refine no_implicit_lambda% (spl (fun hc => ?_) (fun hc => ?_)) <;> first | exact zG hc | skip) | (refine no_implicit_lambda% (ans ?_)) | (with_reducible first | exact zI | exact zJ) | (refine no_implicit_lambda% (cal [1, 2] (hn) ?_ ?_)) | (refine no_implicit_lambda% (cal [1, 2] (hx) ?_ ?_)) | (refine no_implicit_lambda% (cal [1, 2] (hd) ?_ ?_)) | fail)
  exact e_ret (H' := []) (rest := _) rfl ⟨rfl, rfl⟩ permT (LE0 rfl)
 ·obtain ⟨hs, hg⟩ := Bool.and_eq_true_iff.1 (show (spliB sp at' && genB gen) = true from hc)
  obtain ⟨hs, ha⟩ := spliB_n hs
  obtain ⟨g1, g2⟩ := genB_n hg
  have hsl := encSn_len hs
  have hb := byte_c [] 5 (by decide)
  have hw := wspan_c [5] sp hs (by decide)
  have hn := num_c ([5] ++ encSn sp) gen.toNat (by omega) (by (first | (decide; done) | (simp only [List.length_append, List.length_cons, List.length_nil, encT_len, be_len]; omega)))
  have hx := cmdtext_c ([5] ++ encSn sp ++ be gen.toNat 4) at' (by omega) (by (first | (decide; done) | (simp only [List.length_append, List.length_cons, List.length_nil, encT_len, be_len]; omega)))
  have hd := done_c ([5] ++ encSn sp ++ be gen.toNat 4 ++ encT at') (by (first | (decide; done) | (simp only [List.length_append, List.length_cons, List.length_nil, encT_len, be_len]; omega)))
  rw [show encCm ⟨5, op, sp, gen, at', to, dw, st⟩ = [5] ++ encSn sp ++ be gen.toNat 4 ++ encT at' by show [5] ++ (encSn sp ++ (be gen.toNat 4 ++ encT at')) = _; simp only [List.append_assoc]]
  refine no_implicit_lambda% (acalls_of tok dok (f := 42) ⟨Tryz.func42, rfl, by kernel_rfl⟩ ?_); refine no_implicit_lambda% (c_start (fun _ h => h) ?_)
  repeat' (first | (refine no_implicit_lambda% (zH ?_)) | (refine no_implicit_lambda% (spl (fun hc => ?_) (fun hc => ?_)) <;> first | exact zG hc | skip) | (refine no_implicit_lambda% (ans ?_)) | (with_reducible first | exact zI | exact zJ) | (refine no_implicit_lambda% (cal [] (h0) ?_ ?_)) | (refine no_implicit_lambda% (cal [] (hnw) ?_ ?_)) | (refine no_implicit_lambda% (cal [1, 2] (hb) ?_ ?_)) | (refine no_implicit_lambda% (cal [1, 2] (hw) ?_ ?_)) | fail)
  rw [u32g g1 g2]
  repeat' (first | (refine no_implicit_lambda% (zH ?_)) | (refine no_implicit_lambda% (spl (fun hc => ?_) (fun hc => ?_)) <;> first | exact zG hc | skip) | (refine no_implicit_lambda% (ans ?_)) | (with_reducible first | exact zI | exact zJ) | (refine no_implicit_lambda% (cal [1, 2] (hn) ?_ ?_)) | (refine no_implicit_lambda% (cal [1, 2] (hx) ?_ ?_)) | (refine no_implicit_lambda% (cal [1, 2] (hd) ?_ ?_)) | fail)
  exact e_ret (H' := []) (rest := _) rfl ⟨rfl, rfl⟩ permT (LE0 rfl)
 ·obtain ⟨hs, hg⟩ := Bool.and_eq_true_iff.1 (show (spliB sp at' && genB gen) = true from hc)
  obtain ⟨hs, ha⟩ := spliB_n hs
  obtain ⟨g1, g2⟩ := genB_n hg
  have hsl := encSn_len hs
  have hb := byte_c [] 6 (by decide)
  have hw := wspan_c [6] sp hs (by decide)
  have hn := num_c ([6] ++ encSn sp) gen.toNat (by omega) (by (first | (decide; done) | (simp only [List.length_append, List.length_cons, List.length_nil, encT_len, be_len]; omega)))
  have hx := cmdtext_c ([6] ++ encSn sp ++ be gen.toNat 4) at' (by omega) (by (first | (decide; done) | (simp only [List.length_append, List.length_cons, List.length_nil, encT_len, be_len]; omega)))
  have hd := done_c ([6] ++ encSn sp ++ be gen.toNat 4 ++ encT at') (by (first | (decide; done) | (simp only [List.length_append, List.length_cons, List.length_nil, encT_len, be_len]; omega)))
  rw [show encCm ⟨6, op, sp, gen, at', to, dw, st⟩ = [6] ++ encSn sp ++ be gen.toNat 4 ++ encT at' by show [6] ++ (encSn sp ++ (be gen.toNat 4 ++ encT at')) = _; simp only [List.append_assoc]]
  refine no_implicit_lambda% (acalls_of tok dok (f := 42) ⟨Tryz.func42, rfl, by kernel_rfl⟩ ?_); refine no_implicit_lambda% (c_start (fun _ h => h) ?_)
  repeat' (first | (refine no_implicit_lambda% (zH ?_)) | (refine no_implicit_lambda% (spl (fun hc => ?_) (fun hc => ?_)) <;> first | exact zG hc | skip) | (refine no_implicit_lambda% (ans ?_)) | (with_reducible first | exact zI | exact zJ) | (refine no_implicit_lambda% (cal [] (h0) ?_ ?_)) | (refine no_implicit_lambda% (cal [] (hnw) ?_ ?_)) | (refine no_implicit_lambda% (cal [1, 2] (hb) ?_ ?_)) | (refine no_implicit_lambda% (cal [1, 2] (hw) ?_ ?_)) | fail)
  rw [u32g g1 g2]
  repeat' (first | (refine no_implicit_lambda% (zH ?_)) | (refine no_implicit_lambda% (spl (fun hc => ?_) (fun hc => ?_)) <;> first | exact zG hc | skip) | (refine no_implicit_lambda% (ans ?_)) | (with_reducible first | exact zI | exact zJ) | (refine no_implicit_lambda% (cal [1, 2] (hn) ?_ ?_)) | (refine no_implicit_lambda% (cal [1, 2] (hx) ?_ ?_)) | (refine no_implicit_lambda% (cal [1, 2] (hd) ?_ ?_)) | fail)
  exact e_ret (H' := []) (rest := _) rfl ⟨rfl, rfl⟩ permT (LE0 rfl)
 ·have ha := le16_n (show le16 at' = true from hc)
  have hb := byte_c [] 7 (by decide)
  have hx := cmdtext_c [7] at' (by omega) (by (first | (decide; done) | (simp only [List.length_append, List.length_cons, List.length_nil, encT_len, be_len]; omega)))
  have hd := done_c ([7] ++ encT at') (by (first | (decide; done) | (simp only [List.length_append, List.length_cons, List.length_nil, encT_len, be_len]; omega)))
  refine no_implicit_lambda% (acalls_of tok dok (f := 42) ⟨Tryz.func42, rfl, by kernel_rfl⟩ ?_); refine no_implicit_lambda% (c_start (fun _ h => h) ?_)
  repeat' (first | (refine no_implicit_lambda% (zH ?_)) | (refine no_implicit_lambda% (spl (fun hc => ?_) (fun hc => ?_)) <;> first | exact zG hc | skip) | (refine no_implicit_lambda% (ans ?_)) | (with_reducible first | exact zI | exact zJ) | (refine no_implicit_lambda% (cal [] (h0) ?_ ?_)) | (refine no_implicit_lambda% (cal [] (hnw) ?_ ?_)) | (refine no_implicit_lambda% (cal [1, 2] (hb) ?_ ?_)) | (refine no_implicit_lambda% (cal [1, 2] (hx) ?_ ?_)) | (refine no_implicit_lambda% (cal [1, 2] (hd) ?_ ?_)) | fail)
  exact e_ret (H' := []) (rest := _) rfl ⟨rfl, rfl⟩ permT (LE0 rfl)
 ·have hb := byte_c [] 8 (by decide)
  by_cases hz : dw = 0
  ·subst hz
   have hb2 := byte_c [8] 0 (by decide)
   have hd := done_c [8, 0] (by decide)
   refine no_implicit_lambda% (acalls_of tok dok (f := 42) ⟨Tryz.func42, rfl, by kernel_rfl⟩ ?_); refine no_implicit_lambda% (c_start (fun _ h => h) ?_)
   repeat' (first | (refine no_implicit_lambda% (zH ?_)) | (refine no_implicit_lambda% (spl (fun hc => ?_) (fun hc => ?_)) <;> first | exact zG hc | skip) | (refine no_implicit_lambda% (ans ?_)) | (with_reducible first | exact zI | exact zJ) | (refine no_implicit_lambda% (cal [] (h0) ?_ ?_)) | (refine no_implicit_lambda% (cal [] (hnw) ?_ ?_)) | (refine no_implicit_lambda% (cal [1, 2] (hb) ?_ ?_)) | (refine no_implicit_lambda% (cal [1, 2] (hb2) ?_ ?_)) | (refine no_implicit_lambda% (cal [1, 2] (hd) ?_ ?_)) | fail)
   exact e_ret (H' := []) (rest := _) rfl ⟨rfl, rfl⟩ permT (LE0 rfl)
  ·have hc2 : (decide (dw = 0) || (decide (1 ≤ dw) && (decide (dw ≤ 3) && (le16 at' && (decide (0 ≤ to) && decide (to ≤ 255)))))) = true := hc
   rw [decide_eq_false hz, Bool.false_or] at hc2
   simp only [Bool.and_eq_true, decide_eq_true_eq] at hc2
   obtain ⟨d1, d2, ha, t1, t2⟩ := hc2
   have ha := le16_n ha
   have hb2 := byte_c [8] (UInt8.ofNat dw.toNat) (by decide)
   have hx := cmdtext_c ([8] ++ [UInt8.ofNat dw.toNat]) at' (by omega) (by (first | (decide; done) | (simp only [List.length_append, List.length_cons, List.length_nil, encT_len, be_len]; omega)))
   have hb3 := byte_c ([8] ++ [UInt8.ofNat dw.toNat] ++ encT at') (UInt8.ofNat to.toNat) (by (first | (decide; done) | (simp only [List.length_append, List.length_cons, List.length_nil, encT_len, be_len]; omega)))
   have hd := done_c ([8] ++ [UInt8.ofNat dw.toNat] ++ encT at' ++ [UInt8.ofNat to.toNat]) (by (first | (decide; done) | (simp only [List.length_append, List.length_cons, List.length_nil, encT_len, be_len]; omega)))
   rw [show encCm ⟨8, op, sp, gen, at', to, dw, st⟩ = [8] ++ [UInt8.ofNat dw.toNat] ++ encT at' ++ [UInt8.ofNat to.toNat] by show 8 :: UInt8.ofNat dw.toNat :: (if dw = 0 then [] else encT at' ++ [UInt8.ofNat to.toNat]) = _; rw [if_neg hz]; simp]
   refine no_implicit_lambda% (acalls_of tok dok (f := 42) ⟨Tryz.func42, rfl, by kernel_rfl⟩ ?_); refine no_implicit_lambda% (c_start (fun _ h => h) ?_)
   repeat' (first | (refine no_implicit_lambda% (zH ?_)) | (refine no_implicit_lambda% (spl (fun hc => ?_) (fun hc => ?_)) <;> first | exact zG hc | skip) | (refine no_implicit_lambda% (ans ?_)) | (with_reducible first | exact zI | exact zJ) | (refine no_implicit_lambda% (cal [] (h0) ?_ ?_)) | (refine no_implicit_lambda% (cal [] (hnw) ?_ ?_)) | (refine no_implicit_lambda% (cal [1, 2] (hb) ?_ ?_)) | fail)
   rw [u8g (n := dw) (by omega)]
   repeat' (first | (refine no_implicit_lambda% (zH ?_)) | (refine no_implicit_lambda% (spl (fun hc => ?_) (fun hc => ?_)) <;> first | exact zG hc | skip) | (refine no_implicit_lambda% (ans ?_)) | (with_reducible first | exact zI | exact zJ) | (refine no_implicit_lambda% (cal [1, 2] (hb2) ?_ ?_)) | (refine no_implicit_lambda% (cal [1, 2] (hx) ?_ ?_)) | fail)
   rw [u8g (n := to) (by omega)]
   repeat' (first | (refine no_implicit_lambda% (zH ?_)) | (refine no_implicit_lambda% (spl (fun hc => ?_) (fun hc => ?_)) <;> first | exact zG hc | skip) | (refine no_implicit_lambda% (ans ?_)) | (with_reducible first | exact zI | exact zJ) | (refine no_implicit_lambda% (cal [1, 2] (hb3) ?_ ?_)) | (refine no_implicit_lambda% (cal [1, 2] (hd) ?_ ?_)) | fail)
   exact e_ret (H' := []) (rest := _) rfl ⟨rfl, rfl⟩ permT (LE0 rfl)
 ·obtain ⟨hg, ht⟩ := Bool.and_eq_true_iff.1 (show (genB gen && (decide (to = 0) || decide (to = -1))) = true from hc)
  obtain ⟨g1, g2⟩ := genB_n hg
  have ht2 : to = 0 ∨ to = -1 := by simpa using ht
  have hb := byte_c [] 9 (by decide)
  have hn := num_c [9] gen.toNat (by omega) (by (first | (decide; done) | (simp only [List.length_append, List.length_cons, List.length_nil, encT_len, be_len]; omega)))
  rcases ht2 with rfl | rfl
  ·have hb2 := byte_c ([9] ++ be gen.toNat 4) 0 (by (first | (decide; done) | (simp only [List.length_append, List.length_cons, List.length_nil, encT_len, be_len]; omega)))
   have hd := done_c ([9] ++ be gen.toNat 4 ++ [0]) (by (first | (decide; done) | (simp only [List.length_append, List.length_cons, List.length_nil, encT_len, be_len]; omega)))
   refine no_implicit_lambda% (acalls_of tok dok (f := 42) ⟨Tryz.func42, rfl, by kernel_rfl⟩ ?_); refine no_implicit_lambda% (c_start (fun _ h => h) ?_)
   repeat' (first | (refine no_implicit_lambda% (zH ?_)) | (refine no_implicit_lambda% (spl (fun hc => ?_) (fun hc => ?_)) <;> first | exact zG hc | skip) | (refine no_implicit_lambda% (ans ?_)) | (with_reducible first | exact zI | exact zJ) | (refine no_implicit_lambda% (cal [] (h0) ?_ ?_)) | (refine no_implicit_lambda% (cal [] (hnw) ?_ ?_)) | (refine no_implicit_lambda% (cal [1, 2] (hb) ?_ ?_)) | fail)
   rw [u32g g1 g2]
   repeat' (first | (refine no_implicit_lambda% (zH ?_)) | (refine no_implicit_lambda% (spl (fun hc => ?_) (fun hc => ?_)) <;> first | exact zG hc | skip) | (refine no_implicit_lambda% (ans ?_)) | (with_reducible first | exact zI | exact zJ) | (refine no_implicit_lambda% (cal [1, 2] (hn) ?_ ?_)) | (refine no_implicit_lambda% (cal [1, 2] (hb2) ?_ ?_)) | (refine no_implicit_lambda% (cal [1, 2] (hd) ?_ ?_)) | fail)
   exact e_ret (H' := []) (rest := _) rfl ⟨rfl, rfl⟩ permT (LE0 rfl)
  ·have hb2 := byte_c ([9] ++ be gen.toNat 4) 1 (by (first | (decide; done) | (simp only [List.length_append, List.length_cons, List.length_nil, encT_len, be_len]; omega)))
   have hd := done_c ([9] ++ be gen.toNat 4 ++ [1]) (by (first | (decide; done) | (simp only [List.length_append, List.length_cons, List.length_nil, encT_len, be_len]; omega)))
   refine no_implicit_lambda% (acalls_of tok dok (f := 42) ⟨Tryz.func42, rfl, by kernel_rfl⟩ ?_); refine no_implicit_lambda% (c_start (fun _ h => h) ?_)
   repeat' (first | (refine no_implicit_lambda% (zH ?_)) | (refine no_implicit_lambda% (spl (fun hc => ?_) (fun hc => ?_)) <;> first | exact zG hc | skip) | (refine no_implicit_lambda% (ans ?_)) | (with_reducible first | exact zI | exact zJ) | (refine no_implicit_lambda% (cal [] (h0) ?_ ?_)) | (refine no_implicit_lambda% (cal [] (hnw) ?_ ?_)) | (refine no_implicit_lambda% (cal [1, 2] (hb) ?_ ?_)) | fail)
   rw [u32g g1 g2]
   repeat' (first | (refine no_implicit_lambda% (zH ?_)) | (refine no_implicit_lambda% (spl (fun hc => ?_) (fun hc => ?_)) <;> first | exact zG hc | skip) | (refine no_implicit_lambda% (ans ?_)) | (with_reducible first | exact zI | exact zJ) | (refine no_implicit_lambda% (cal [1, 2] (hn) ?_ ?_)) | (refine no_implicit_lambda% (cal [1, 2] (hb2) ?_ ?_)) | (refine no_implicit_lambda% (cal [1, 2] (hd) ?_ ?_)) | fail)
   exact e_ret (H' := []) (rest := _) rfl ⟨rfl, rfl⟩ permT (LE0 rfl)
 ·rw [cmB0 hk] at hc
  have h10 : k = 10 := of_decide_eq_true hc
  subst h10
  have hb := byte_c [] 10 (by decide)
  have hd := done_c [10] (by decide)
  refine no_implicit_lambda% (acalls_of tok dok (f := 42) ⟨Tryz.func42, rfl, by kernel_rfl⟩ ?_); refine no_implicit_lambda% (c_start (fun _ h => h) ?_)
  repeat' (first | (refine no_implicit_lambda% (zH ?_)) | (refine no_implicit_lambda% (spl (fun hc => ?_) (fun hc => ?_)) <;> first | exact zG hc | skip) | (refine no_implicit_lambda% (ans ?_)) | (with_reducible first | exact zI | exact zJ) | (refine no_implicit_lambda% (cal [] (h0) ?_ ?_)) | (refine no_implicit_lambda% (cal [] (hnw) ?_ ?_)) | (refine no_implicit_lambda% (cal [1, 2] (hb) ?_ ?_)) | (refine no_implicit_lambda% (cal [1, 2] (hd) ?_ ?_)) | fail)
  exact e_ret (H' := []) (rest := _) rfl ⟨rfl, rfl⟩ permT (LE0 rfl)
theorem encode8_no (c : Cm) (hc : cmB c = false) (hl : c.op.l.length < 1000000000000) : ACalls Tryz.prog 42 0 10000 [.agg (cmrow c)] [] (fun out H' => out = .ret (.tuple [.list [] .free, .v (.int .i64 1)]) ∧ H' = []) := by
 have h0 := (cright_c c hl).top0
 rw [hc] at h0
 obtain ⟨k, op, sp, gen, at', to, dw, st⟩ := c
 refine no_implicit_lambda% (acalls_of tok dok (f := 42) ⟨Tryz.func42, rfl, by kernel_rfl⟩ ?_); refine no_implicit_lambda% (c_start (fun _ h => h) ?_)
 repeat' (first | (refine no_implicit_lambda% (zH ?_)) | (refine no_implicit_lambda% (spl (fun hc => ?_) (fun hc => ?_)) <;> first | exact zG hc | skip) | (refine no_implicit_lambda% (ans ?_)) | (with_reducible first | exact zI | exact zJ) | (refine no_implicit_lambda% (cal [] (h0) ?_ ?_)) | fail)
 exact e_ret_to (H' := []) (rest := _) (.freeSlot 2 rfl) rfl ⟨rfl, rfl⟩ permT (LE0 rfl)
end Go.Proofs.YtncffhgoopdfgaaGreat
namespace Go.Proofs.YtncffhgoopdfgaaGreat
open Go.Am
set_option maxRecDepth 100000
def reSt (c : Cm) (cur : List UInt8) (cp i : Nat) : ASt := ⟨([.dead, .dead, .dead, .arr 2 0 cur.length cp, .ptr 1 0, .v (.int .i64 i)] ++ List.replicate 124 .dead), [(2, .seq (cur.map brow) ((cp - cur.length) * 1)), (1, .box (oqrow c.op)), (0, .box (cmrow c))], 3⟩
def reSt' (c : Cm) (cur : List UInt8) (i : Nat) : ASt := ⟨([.dead, .dead, .dead, .list (cur.map brow) .free, .ptr 1 0, .v (.int .i64 i)] ++ List.replicate 124 .dead), [(1, .box (oqrow c.op)), (0, .box (cmrow c))], 3⟩
set_option maxHeartbeats 6400000 in
theorem rencode1_c (c : Cm) (h1 : c.k = 1) (hc : cmB c = true) (hN : OqN c.op) : ACalls Tryz.prog 15 0 1 [.agg (cmrow c)] [] (bAR 0 (encCm c)) := by
 refine bAR_ren (top := 1000) ?_
 obtain ⟨k, op, sp, gen, at', to, dw, st⟩ := c
 dsimp only at h1
 subst h1
 have hq : opB op = true := hc
 have hk := op_k hq
 obtain ⟨k, row, hi, d, l, most⟩ := op
 dsimp only at *
 rcases hk with rfl | rfl | rfl
 ·rw [opB1 rfl] at hq
  dsimp only at hq
  have hc16 := nmB_len hq
  have o1 := one8_c [1] 1 (by decide) (by decide)
  have o2 := textsO_c ([1] ++ [1]) row (by decide) (by omega) (by decide)
  rw [show encCm ⟨1, ⟨1, row, hi, d, l, most⟩, sp, gen, at', to, dw, st⟩ = [1] ++ [1] ++ encT row by show [1] ++ ([1] ++ (encT row ++ [])) = _; rw [List.append_nil, List.append_assoc]]
  refine no_implicit_lambda% (acalls_of tok dok (f := 15) ⟨Tryz.func15, rfl, by kernel_rfl⟩ ?_); refine no_implicit_lambda% (c_start (fun _ h => h) ?_)
  repeat' (first | (refine no_implicit_lambda% (zH ?_)) | (refine no_implicit_lambda% (splv (fun hc => ?_) (fun hc => ?_)) <;> first | exact zG hc | skip) | (refine no_implicit_lambda% (ans ?_)) | (with_reducible first | exact zI | exact zJ))
  ((refine no_implicit_lambda% (calw [] (o1) ?_ ?_)); rotate_left; (focus (first | (exact zI) | (exact zJ))); refine no_implicit_lambda% (ret1 ?_); first | (refine no_implicit_lambda% (akc ?_)) | (refine no_implicit_lambda% (aec ?_)); repeat' (first | (refine no_implicit_lambda% (zH ?_)) | (refine no_implicit_lambda% (splv (fun hc => ?_) (fun hc => ?_)) <;> first | exact zG hc | skip) | (refine no_implicit_lambda% (ans ?_)) | (with_reducible first | exact zI | exact zJ)))
  ((refine no_implicit_lambda% (calw [] (o2) ?_ ?_)); rotate_left; (intro x H' hh; obtain ⟨_, _, _, h', _⟩ := hh; cases h'); intro xx H' hh; obtain ⟨cp, c1, c2, h', rfl⟩ := hh; cases h'; first | (refine no_implicit_lambda% (akc ?_)) | (refine no_implicit_lambda% (aec ?_)))
  repeat' (first | (refine no_implicit_lambda% (zH ?_)) | (refine no_implicit_lambda% (splv (fun hc => ?_) (fun hc => ?_)) <;> first | exact zG hc | skip) | (refine no_implicit_lambda% (ans ?_)) | (with_reducible first | exact zI | exact zJ))
  exact e_ret (H' := bA _ ([1] ++ [1] ++ encT row) cp) (rest := _) rfl ⟨_, by decide, cp, c1, c2, rfl, rfl⟩ permT (LE0 rfl)
 ·obtain ⟨h1, h2, h3, h4, h5⟩ := op2_of rfl hq
  dsimp only at *
  have hc16 := nmB_len h1
  have hd46 := encD_len h2
  have o1 := one8_c [1] 2 (by decide) (by decide)
  have o2 := texts8_c ([1] ++ [2]) row (by decide) (by omega) (by decide)
  have o3 := bl_top8 (rwcond_c d ([1] ++ [2] ++ encT row) h2 hN.1 (by (first | (decide; done) | (simp only [List.length_append, List.length_cons, List.length_nil, encT_len, be_len]; omega))))
  have o4 := oneO_c ([1] ++ [2] ++ encT row ++ encD d) l.length (by omega) (by (first | (decide; done) | (simp only [List.length_append, List.length_cons, List.length_nil, encT_len, be_len]; omega)))
  rw [show encCm ⟨1, ⟨2, row, hi, d, l, most⟩, sp, gen, at', to, dw, st⟩ = [1] ++ [2] ++ encT row ++ encD d ++ [UInt8.ofNat l.length] ++ l.flatMap encCh by show [1] ++ ([2] ++ (encT row ++ (encD d ++ ([UInt8.ofNat l.length] ++ l.flatMap encCh)))) = _; simp only [List.append_assoc]]
  have hpl : ([1] ++ [2] ++ encT row ++ encD d ++ [UInt8.ofNat l.length]).length < 1100000 := by (first | (decide; done) | (simp only [List.length_append, List.length_cons, List.length_nil, encT_len, be_len]; omega))
  have hlm : ((l.map chrow).length : Int) = l.length := by rw [List.length_map]
  refine no_implicit_lambda% (acalls_of tok dok (f := 15) ⟨Tryz.func15, rfl, by kernel_rfl⟩ ?_); refine no_implicit_lambda% (c_start (fun _ h => h) ?_)
  repeat' (first | (refine no_implicit_lambda% (zH ?_)) | (refine no_implicit_lambda% (splv (fun hc => ?_) (fun hc => ?_)) <;> first | exact zG hc | skip) | (refine no_implicit_lambda% (ans ?_)) | (with_reducible first | exact zI | exact zJ))
  ((refine no_implicit_lambda% (calw [] (o1) ?_ ?_)); rotate_left; (focus (first | (exact zI) | (exact zJ))); refine no_implicit_lambda% (ret1 ?_); first | (refine no_implicit_lambda% (akc ?_)) | (refine no_implicit_lambda% (aec ?_)); repeat' (first | (refine no_implicit_lambda% (zH ?_)) | (refine no_implicit_lambda% (splv (fun hc => ?_) (fun hc => ?_)) <;> first | exact zG hc | skip) | (refine no_implicit_lambda% (ans ?_)) | (with_reducible first | exact zI | exact zJ)))
  ((refine no_implicit_lambda% (calw [] (o2) ?_ ?_)); rotate_left; (focus (first | (exact zI) | (exact zJ))); refine no_implicit_lambda% (ret1 ?_); first | (refine no_implicit_lambda% (akc ?_)) | (refine no_implicit_lambda% (aec ?_)); repeat' (first | (refine no_implicit_lambda% (zH ?_)) | (refine no_implicit_lambda% (splv (fun hc => ?_) (fun hc => ?_)) <;> first | exact zG hc | skip) | (refine no_implicit_lambda% (ans ?_)) | (with_reducible first | exact zI | exact zJ)))
  ((refine no_implicit_lambda% (calw [] (o3) ?_ ?_)); rotate_left; (focus (first | (exact zI) | (exact zJ))); refine no_implicit_lambda% (ret1 ?_); first | (refine no_implicit_lambda% (akc ?_)) | (refine no_implicit_lambda% (aec ?_)); repeat' (first | (refine no_implicit_lambda% (zH ?_)) | (refine no_implicit_lambda% (splv (fun hc => ?_) (fun hc => ?_)) <;> first | exact zG hc | skip) | (refine no_implicit_lambda% (ans ?_)) | (with_reducible first | exact zI | exact zJ)))
  rw [hlm]
  ((refine no_implicit_lambda% (calw [] (o4) ?_ ?_)); rotate_left; (intro x H' hh; obtain ⟨_, _, _, h', _⟩ := hh; cases h'); intro xx H' hh; obtain ⟨cp, c1, c2, h', rfl⟩ := hh; cases h'; first | (refine no_implicit_lambda% (akc ?_)) | (refine no_implicit_lambda% (aec ?_)))
  repeat' (first | (refine no_implicit_lambda% (zH ?_)) | (refine no_implicit_lambda% (splv (fun hc => ?_) (fun hc => ?_)) <;> first | exact zG hc | skip) | (refine no_implicit_lambda% (ans ?_)) | (with_reducible first | exact zI | exact zJ))
  generalize hP : [1] ++ [2] ++ encT row ++ encD d ++ [UInt8.ofNat l.length] = P at *
  refine c_l3 (fun cur cp i => reSt ⟨1, ⟨2, row, hi, d, l, most⟩, sp, gen, at', to, dw, st⟩ cur cp i) (fun cur cp i => i ≤ l.length ∧ cur = P ++ (l.take i).flatMap encCh ∧ cur.length ≤ cp ∧ cp ≤ maxLen) (fun _ _ i => l.length - i) P cp 0 ⟨Nat.zero_le _, by simp, c1, c2⟩ ?_ ?_
  ·(refine no_implicit_lambda% (Conv.toT ?_ ?_ (LE0 rfl))); (focus ((unfold reSt); (try dsimp only); exact wkl)); (focus ((unfold reSt); (try dsimp only); exact wkh))
  ·rintro cur cp i ⟨i1, hcur, c1, c2⟩
   refine c_turn (n' := 3) (fun _ h => h) (fun _ h => h) rfl ?_
   rcases hx : l[i]? with _ | x
   ·have hi : i = l.length := by have := List.getElem?_eq_none_iff.1 hx; omega
    subst hi
    rw [List.take_length] at hcur
    subst hcur
    repeat' (first | (refine no_implicit_lambda% (zH ?_)) | (refine no_implicit_lambda% (spl (fun hc => ?_) (fun hc => ?_)) <;> first | exact zG hc | skip) | (refine no_implicit_lambda% (ans ?_)) | (with_reducible first | exact zI | exact zJ))
    exact e_ret (H' := bA 2 (P ++ l.flatMap encCh) cp) (rest := _) rfl ⟨2, by decide, cp, c1, c2, rfl, rfl⟩ permT (LE0 rfl)
   ·have hil : i < l.length := (List.getElem?_eq_some_iff.1 hx).1
    have hix := chx hx
    have hm := List.mem_of_getElem? hx
    have hfl := chs_len (l := l.take i) (fun x hx => h5 x (List.mem_of_mem_take hx))
    have htl : (l.take i).length ≤ 8 := by rw [List.length_take]; omega
    have hcl : cur.length < 10000000 := by rw [hcur, List.length_append]; omega
    have hw := rwrite5P_c x cur (h5 x hm) (hN.2 x hm) hcl
    have hs := flat_step encCh hx
    repeat' (first | (refine no_implicit_lambda% (sx1 ?_)) | (refine no_implicit_lambda% (spl (fun hc => ?_) (fun hc => ?_)) <;> first | exact zG hc | skip) | fail)
    refine k_seq ?_
    repeat' (first | (refine no_implicit_lambda% (sx1 ?_)) | (refine no_implicit_lambda% (spl (fun hc => ?_) (fun hc => ?_)) <;> first | exact zG hc | skip) | fail)
    refine k_seq_to (reSt' ⟨1, ⟨2, row, hi, d, l, most⟩, sp, gen, at', to, dw, st⟩ cur i) ((Conv.freezeS (j := 3) (sz := 1) (L0 := [(1, .box (oqrow ⟨2, row, hi, d, l, most⟩)), (0, .box (cmrow ⟨1, ⟨2, row, hi, d, l, most⟩, sp, gen, at', to, dw, st⟩))]) rfl (.refl _) (broOk cur) (List.length_map ..)).trans ?_) ?_
    ·(refine no_implicit_lambda% (Conv.toT ?_ ?_ (LE0 rfl))); (focus ((unfold reSt'); (try dsimp only); exact wkl)); (focus ((unfold reSt'); (try dsimp only); exact wkh))
    ·refine c_turn (n' := 3) (fun _ h => h) (fun _ h => h) rfl ?_
     clear c1 c2
     repeat' (first | (refine no_implicit_lambda% (zH ?_)) | (refine no_implicit_lambda% (spl (fun hc => ?_) (fun hc => ?_)) <;> first | exact zG hc | skip) | (refine no_implicit_lambda% (ans ?_)) | (with_reducible first | exact zI | exact zJ))
     ((refine no_implicit_lambda% (cal [] (hw) ?_ ?_)); rotate_left; (intro x H' hh; obtain ⟨_, _, _, h', _⟩ := hh; cases h'); intro xx H' hh; obtain ⟨cp, c1, c2, h', rfl⟩ := hh; cases h'; first | (refine no_implicit_lambda% (akc ?_)) | (refine no_implicit_lambda% (aec ?_)))
     repeat' (first | (refine no_implicit_lambda% (zH ?_)) | (refine no_implicit_lambda% (spl (fun hc => ?_) (fun hc => ?_)) <;> first | exact zG hc | skip) | (refine no_implicit_lambda% (ans ?_)) | (with_reducible first | exact zI | exact zJ))
     (refine no_implicit_lambda% (k_loopLT (((cur ++ encCh x, cp, i + 1) : List UInt8 × Nat × Nat)) 0 [0, 1, 3] (by
      show i + 1 ≤ l.length ∧ cur ++ encCh x = P ++ (l.take (i + 1)).flatMap encCh ∧ (cur ++ encCh x).length ≤ cp ∧ cp ≤ maxLen
      exact ⟨hil, by rw [hs, hcur, List.append_assoc], c1, c2⟩) (by first | omega | (simp; done) | (simp; omega)) (LE0 rfl) (fun _ h => h) (fun _ h => h) ?_ ?_)); (focus ((try dsimp only); exact wkl)); (focus ((try dsimp only); exact wkh))
 ·rw [opB3 rfl] at hq
  simp only [Bool.and_eq_true, decide_eq_true_eq] at hq
  obtain ⟨hs, hm1, hm2⟩ := hq
  have hn := spB_n hs
  dsimp only at hn
  have o1 := one8_c [1] 3 (by decide) (by decide)
  have o2 := texts8_c ([1] ++ [3]) row (by decide) (by omega) (by decide)
  have o3 := texts8_c ([1] ++ [3] ++ encT row) hi (by simp) (by omega) (by (first | (decide; done) | (simp only [List.length_append, List.length_cons, List.length_nil, encT_len, be_len]; omega)))
  have o4 := oneO_c ([1] ++ [3] ++ encT row ++ encT hi) most.toNat (by omega) (by (first | (decide; done) | (simp only [List.length_append, List.length_cons, List.length_nil, encT_len, be_len]; omega)))
  rw [Int.toNat_of_nonneg (by omega)] at o4
  rw [show encCm ⟨1, ⟨3, row, hi, d, l, most⟩, sp, gen, at', to, dw, st⟩ = [1] ++ [3] ++ encT row ++ encT hi ++ [UInt8.ofNat most.toNat] by show [1] ++ ([3] ++ (encT row ++ (encT hi ++ [UInt8.ofNat most.toNat]))) = _; simp only [List.append_assoc]]
  refine no_implicit_lambda% (acalls_of tok dok (f := 15) ⟨Tryz.func15, rfl, by kernel_rfl⟩ ?_); refine no_implicit_lambda% (c_start (fun _ h => h) ?_)
  repeat' (first | (refine no_implicit_lambda% (zH ?_)) | (refine no_implicit_lambda% (splv (fun hc => ?_) (fun hc => ?_)) <;> first | exact zG hc | skip) | (refine no_implicit_lambda% (ans ?_)) | (with_reducible first | exact zI | exact zJ))
  ((refine no_implicit_lambda% (calw [] (o1) ?_ ?_)); rotate_left; (focus (first | (exact zI) | (exact zJ))); refine no_implicit_lambda% (ret1 ?_); first | (refine no_implicit_lambda% (akc ?_)) | (refine no_implicit_lambda% (aec ?_)); repeat' (first | (refine no_implicit_lambda% (zH ?_)) | (refine no_implicit_lambda% (splv (fun hc => ?_) (fun hc => ?_)) <;> first | exact zG hc | skip) | (refine no_implicit_lambda% (ans ?_)) | (with_reducible first | exact zI | exact zJ)))
  ((refine no_implicit_lambda% (calw [] (o2) ?_ ?_)); rotate_left; (focus (first | (exact zI) | (exact zJ))); refine no_implicit_lambda% (ret1 ?_); first | (refine no_implicit_lambda% (akc ?_)) | (refine no_implicit_lambda% (aec ?_)); repeat' (first | (refine no_implicit_lambda% (zH ?_)) | (refine no_implicit_lambda% (splv (fun hc => ?_) (fun hc => ?_)) <;> first | exact zG hc | skip) | (refine no_implicit_lambda% (ans ?_)) | (with_reducible first | exact zI | exact zJ)))
  ((refine no_implicit_lambda% (calw [] (o3) ?_ ?_)); rotate_left; (focus (first | (exact zI) | (exact zJ))); refine no_implicit_lambda% (ret1 ?_); first | (refine no_implicit_lambda% (akc ?_)) | (refine no_implicit_lambda% (aec ?_)); repeat' (first | (refine no_implicit_lambda% (zH ?_)) | (refine no_implicit_lambda% (splv (fun hc => ?_) (fun hc => ?_)) <;> first | exact zG hc | skip) | (refine no_implicit_lambda% (ans ?_)) | (with_reducible first | exact zI | exact zJ)))
  ((refine no_implicit_lambda% (calw [] (o4) ?_ ?_)); rotate_left; (intro x H' hh; obtain ⟨_, _, _, h', _⟩ := hh; cases h'); intro xx H' hh; obtain ⟨cp, c1, c2, h', rfl⟩ := hh; cases h'; first | (refine no_implicit_lambda% (akc ?_)) | (refine no_implicit_lambda% (aec ?_)))
  repeat' (first | (refine no_implicit_lambda% (zH ?_)) | (refine no_implicit_lambda% (splv (fun hc => ?_) (fun hc => ?_)) <;> first | exact zG hc | skip) | (refine no_implicit_lambda% (ans ?_)) | (with_reducible first | exact zI | exact zJ))
  exact e_ret (H' := bA _ ([1] ++ [3] ++ encT row ++ encT hi ++ [UInt8.ofNat most.toNat]) cp) (rest := _) rfl ⟨_, by decide, cp, c1, c2, rfl, rfl⟩ permT (LE0 rfl)
set_option maxHeartbeats 6400000 in
theorem rencode_c (c : Cm) (hc : cmB c = true) (hN : OqN c.op) : ACalls Tryz.prog 15 0 1 [.agg (cmrow c)] [] (bAR 0 (encCm c)) := by
 by_cases hk1 : c.k = 1
 ·exact rencode1_c c hk1 hc hN
 refine bAR_ren (top := 1000) ?_
 obtain ⟨k, op, sp, gen, at', to, dw, st⟩ := c
 dsimp only at *
 rcases kd10 k with rfl | rfl | rfl | rfl | rfl | rfl | rfl | rfl | rfl | hk
 ·exact absurd rfl hk1
 ·obtain ⟨hs, hg⟩ := Bool.and_eq_true_iff.1 (show (spB sp && genB gen) = true from hc)
  obtain ⟨g1, g2⟩ := genB_n hg
  have hsl := encSn_len hs
  have o1 := spans8_c [2] sp (by decide) hs (by decide)
  have o2 := refNumO_c ([2] ++ encSn sp) (by simp) gen.toNat (by omega) (by (first | (decide; done) | (simp only [List.length_append, List.length_cons, List.length_nil, encT_len, be_len]; omega)))
  rw [show encCm ⟨2, op, sp, gen, at', to, dw, st⟩ = [2] ++ encSn sp ++ be gen.toNat 4 from rfl]
  refine no_implicit_lambda% (acalls_of tok dok (f := 15) ⟨Tryz.func15, rfl, by kernel_rfl⟩ ?_); refine no_implicit_lambda% (c_start (fun _ h => h) ?_)
  repeat' (first | (refine no_implicit_lambda% (zH ?_)) | (refine no_implicit_lambda% (splv (fun hc => ?_) (fun hc => ?_)) <;> first | exact zG hc | skip) | (refine no_implicit_lambda% (ans ?_)) | (with_reducible first | exact zI | exact zJ))
  ((refine no_implicit_lambda% (calw [] (o1) ?_ ?_)); rotate_left; (focus (first | (exact zI) | (exact zJ))); refine no_implicit_lambda% (ret1 ?_); first | (refine no_implicit_lambda% (akc ?_)) | (refine no_implicit_lambda% (aec ?_)); repeat' (first | (refine no_implicit_lambda% (zH ?_)) | (refine no_implicit_lambda% (splv (fun hc => ?_) (fun hc => ?_)) <;> first | exact zG hc | skip) | (refine no_implicit_lambda% (ans ?_)) | (with_reducible first | exact zI | exact zJ)))
  rw [u32g g1 g2]
  ((refine no_implicit_lambda% (calw [] (o2) ?_ ?_)); rotate_left; (intro x H' hh; obtain ⟨_, _, _, h', _⟩ := hh; cases h'); intro xx H' hh; obtain ⟨cp, c1, c2, h', rfl⟩ := hh; cases h'; first | (refine no_implicit_lambda% (akc ?_)) | (refine no_implicit_lambda% (aec ?_)))
  repeat' (first | (refine no_implicit_lambda% (zH ?_)) | (refine no_implicit_lambda% (splv (fun hc => ?_) (fun hc => ?_)) <;> first | exact zG hc | skip) | (refine no_implicit_lambda% (ans ?_)) | (with_reducible first | exact zI | exact zJ))
  exact e_ret (H' := bA _ ([2] ++ encSn sp ++ be gen.toNat 4) cp) (rest := _) rfl ⟨_, by decide, cp, c1, c2, rfl, rfl⟩ permT (LE0 rfl)
 ·obtain ⟨hs, hg⟩ := Bool.and_eq_true_iff.1 (show (spB sp && genB gen) = true from hc)
  obtain ⟨g1, g2⟩ := genB_n hg
  have hsl := encSn_len hs
  have o1 := spans8_c [4] sp (by decide) hs (by decide)
  have o2 := refNumO_c ([4] ++ encSn sp) (by simp) gen.toNat (by omega) (by (first | (decide; done) | (simp only [List.length_append, List.length_cons, List.length_nil, encT_len, be_len]; omega)))
  rw [show encCm ⟨4, op, sp, gen, at', to, dw, st⟩ = [4] ++ encSn sp ++ be gen.toNat 4 from rfl]
  refine no_implicit_lambda% (acalls_of tok dok (f := 15) ⟨Tryz.func15, rfl, by kernel_rfl⟩ ?_); refine no_implicit_lambda% (c_start (fun _ h => h) ?_)
  repeat' (first | (refine no_implicit_lambda% (zH ?_)) | (refine no_implicit_lambda% (splv (fun hc => ?_) (fun hc => ?_)) <;> first | exact zG hc | skip) | (refine no_implicit_lambda% (ans ?_)) | (with_reducible first | exact zI | exact zJ))
  ((refine no_implicit_lambda% (calw [] (o1) ?_ ?_)); rotate_left; (focus (first | (exact zI) | (exact zJ))); refine no_implicit_lambda% (ret1 ?_); first | (refine no_implicit_lambda% (akc ?_)) | (refine no_implicit_lambda% (aec ?_)); repeat' (first | (refine no_implicit_lambda% (zH ?_)) | (refine no_implicit_lambda% (splv (fun hc => ?_) (fun hc => ?_)) <;> first | exact zG hc | skip) | (refine no_implicit_lambda% (ans ?_)) | (with_reducible first | exact zI | exact zJ)))
  rw [u32g g1 g2]
  ((refine no_implicit_lambda% (calw [] (o2) ?_ ?_)); rotate_left; (intro x H' hh; obtain ⟨_, _, _, h', _⟩ := hh; cases h'); intro xx H' hh; obtain ⟨cp, c1, c2, h', rfl⟩ := hh; cases h'; first | (refine no_implicit_lambda% (akc ?_)) | (refine no_implicit_lambda% (aec ?_)))
  repeat' (first | (refine no_implicit_lambda% (zH ?_)) | (refine no_implicit_lambda% (splv (fun hc => ?_) (fun hc => ?_)) <;> first | exact zG hc | skip) | (refine no_implicit_lambda% (ans ?_)) | (with_reducible first | exact zI | exact zJ))
  exact e_ret (H' := bA _ ([4] ++ encSn sp ++ be gen.toNat 4) cp) (rest := _) rfl ⟨_, by decide, cp, c1, c2, rfl, rfl⟩ permT (LE0 rfl)
 ·obtain ⟨hs, hg⟩ := Bool.and_eq_true_iff.1 (show (spB sp && (genB gen && decide (st.length ≤ 1048576))) = true from hc)
  obtain ⟨hg, ht⟩ := Bool.and_eq_true_iff.1 hg
  have ht := of_decide_eq_true ht
  obtain ⟨g1, g2⟩ := genB_n hg
  have hsl := encSn_len hs
  have o1 := spans8_c [3] sp (by decide) hs (by decide)
  have o2 := bl_top8 (bAR_list (refNumO_c ([3] ++ encSn sp) (by simp) gen.toNat (by omega) (by (first | (decide; done) | (simp only [List.length_append, List.length_cons, List.length_nil, encT_len, be_len]; omega)))))
  have o3 := refTextO_c ([3] ++ encSn sp ++ be gen.toNat 4) st (by simp) (by (first | (decide; done) | (simp only [List.length_append, List.length_cons, List.length_nil, encT_len, be_len]; omega))) (by omega)
  rw [show encCm ⟨3, op, sp, gen, at', to, dw, st⟩ = [3] ++ encSn sp ++ be gen.toNat 4 ++ (be st.length 4 ++ st) by show [3] ++ (encSn sp ++ (be gen.toNat 4 ++ (be st.length 4 ++ st))) = _; simp only [List.append_assoc]]
  refine no_implicit_lambda% (acalls_of tok dok (f := 15) ⟨Tryz.func15, rfl, by kernel_rfl⟩ ?_); refine no_implicit_lambda% (c_start (fun _ h => h) ?_)
  repeat' (first | (refine no_implicit_lambda% (zH ?_)) | (refine no_implicit_lambda% (splv (fun hc => ?_) (fun hc => ?_)) <;> first | exact zG hc | skip) | (refine no_implicit_lambda% (ans ?_)) | (with_reducible first | exact zI | exact zJ))
  ((refine no_implicit_lambda% (calw [] (o1) ?_ ?_)); rotate_left; (focus (first | (exact zI) | (exact zJ))); refine no_implicit_lambda% (ret1 ?_); first | (refine no_implicit_lambda% (akc ?_)) | (refine no_implicit_lambda% (aec ?_)); repeat' (first | (refine no_implicit_lambda% (zH ?_)) | (refine no_implicit_lambda% (splv (fun hc => ?_) (fun hc => ?_)) <;> first | exact zG hc | skip) | (refine no_implicit_lambda% (ans ?_)) | (with_reducible first | exact zI | exact zJ)))
  rw [u32g g1 g2]
  ((refine no_implicit_lambda% (calw [] (o2) ?_ ?_)); rotate_left; (focus (first | (exact zI) | (exact zJ))); refine no_implicit_lambda% (ret1 ?_); first | (refine no_implicit_lambda% (akc ?_)) | (refine no_implicit_lambda% (aec ?_)); repeat' (first | (refine no_implicit_lambda% (zH ?_)) | (refine no_implicit_lambda% (splv (fun hc => ?_) (fun hc => ?_)) <;> first | exact zG hc | skip) | (refine no_implicit_lambda% (ans ?_)) | (with_reducible first | exact zI | exact zJ)))
  ((refine no_implicit_lambda% (calw [] (o3) ?_ ?_)); rotate_left; (intro x H' hh; obtain ⟨_, _, _, h', _⟩ := hh; cases h'); intro xx H' hh; obtain ⟨cp, c1, c2, h', rfl⟩ := hh; cases h'; first | (refine no_implicit_lambda% (akc ?_)) | (refine no_implicit_lambda% (aec ?_)))
  repeat' (first | (refine no_implicit_lambda% (zH ?_)) | (refine no_implicit_lambda% (splv (fun hc => ?_) (fun hc => ?_)) <;> first | exact zG hc | skip) | (refine no_implicit_lambda% (ans ?_)) | (with_reducible first | exact zI | exact zJ))
  exact e_ret (H' := bA _ ([3] ++ encSn sp ++ be gen.toNat 4 ++ (be st.length 4 ++ st)) cp) (rest := _) rfl ⟨_, by decide, cp, c1, c2, rfl, rfl⟩ permT (LE0 rfl)
 ·obtain ⟨hs, hg⟩ := Bool.and_eq_true_iff.1 (show (spliB sp at' && genB gen) = true from hc)
  obtain ⟨hs, ha⟩ := spliB_n hs
  obtain ⟨g1, g2⟩ := genB_n hg
  have hsl := encSn_len hs
  have o1 := spans8_c [5] sp (by decide) hs (by decide)
  have o2 := bl_top8 (bAR_list (refNumO_c ([5] ++ encSn sp) (by simp) gen.toNat (by omega) (by (first | (decide; done) | (simp only [List.length_append, List.length_cons, List.length_nil, encT_len, be_len]; omega)))))
  have o3 := textsO_c ([5] ++ encSn sp ++ be gen.toNat 4) at' (by simp) (by omega) (by (first | (decide; done) | (simp only [List.length_append, List.length_cons, List.length_nil, encT_len, be_len]; omega)))
  rw [show encCm ⟨5, op, sp, gen, at', to, dw, st⟩ = [5] ++ encSn sp ++ be gen.toNat 4 ++ encT at' by show [5] ++ (encSn sp ++ (be gen.toNat 4 ++ encT at')) = _; simp only [List.append_assoc]]
  refine no_implicit_lambda% (acalls_of tok dok (f := 15) ⟨Tryz.func15, rfl, by kernel_rfl⟩ ?_); refine no_implicit_lambda% (c_start (fun _ h => h) ?_)
  repeat' (first | (refine no_implicit_lambda% (zH ?_)) | (refine no_implicit_lambda% (splv (fun hc => ?_) (fun hc => ?_)) <;> first | exact zG hc | skip) | (refine no_implicit_lambda% (ans ?_)) | (with_reducible first | exact zI | exact zJ))
  ((refine no_implicit_lambda% (calw [] (o1) ?_ ?_)); rotate_left; (focus (first | (exact zI) | (exact zJ))); refine no_implicit_lambda% (ret1 ?_); first | (refine no_implicit_lambda% (akc ?_)) | (refine no_implicit_lambda% (aec ?_)); repeat' (first | (refine no_implicit_lambda% (zH ?_)) | (refine no_implicit_lambda% (splv (fun hc => ?_) (fun hc => ?_)) <;> first | exact zG hc | skip) | (refine no_implicit_lambda% (ans ?_)) | (with_reducible first | exact zI | exact zJ)))
  rw [u32g g1 g2]
  ((refine no_implicit_lambda% (calw [] (o2) ?_ ?_)); rotate_left; (focus (first | (exact zI) | (exact zJ))); refine no_implicit_lambda% (ret1 ?_); first | (refine no_implicit_lambda% (akc ?_)) | (refine no_implicit_lambda% (aec ?_)); repeat' (first | (refine no_implicit_lambda% (zH ?_)) | (refine no_implicit_lambda% (splv (fun hc => ?_) (fun hc => ?_)) <;> first | exact zG hc | skip) | (refine no_implicit_lambda% (ans ?_)) | (with_reducible first | exact zI | exact zJ)))
  ((refine no_implicit_lambda% (calw [] (o3) ?_ ?_)); rotate_left; (intro x H' hh; obtain ⟨_, _, _, h', _⟩ := hh; cases h'); intro xx H' hh; obtain ⟨cp, c1, c2, h', rfl⟩ := hh; cases h'; first | (refine no_implicit_lambda% (akc ?_)) | (refine no_implicit_lambda% (aec ?_)))
  repeat' (first | (refine no_implicit_lambda% (zH ?_)) | (refine no_implicit_lambda% (splv (fun hc => ?_) (fun hc => ?_)) <;> first | exact zG hc | skip) | (refine no_implicit_lambda% (ans ?_)) | (with_reducible first | exact zI | exact zJ))
  exact e_ret (H' := bA _ ([5] ++ encSn sp ++ be gen.toNat 4 ++ encT at') cp) (rest := _) rfl ⟨_, by decide, cp, c1, c2, rfl, rfl⟩ permT (LE0 rfl)
 ·obtain ⟨hs, hg⟩ := Bool.and_eq_true_iff.1 (show (spliB sp at' && genB gen) = true from hc)
  obtain ⟨hs, ha⟩ := spliB_n hs
  obtain ⟨g1, g2⟩ := genB_n hg
  have hsl := encSn_len hs
  have o1 := spans8_c [6] sp (by decide) hs (by decide)
  have o2 := bl_top8 (bAR_list (refNumO_c ([6] ++ encSn sp) (by simp) gen.toNat (by omega) (by (first | (decide; done) | (simp only [List.length_append, List.length_cons, List.length_nil, encT_len, be_len]; omega)))))
  have o3 := textsO_c ([6] ++ encSn sp ++ be gen.toNat 4) at' (by simp) (by omega) (by (first | (decide; done) | (simp only [List.length_append, List.length_cons, List.length_nil, encT_len, be_len]; omega)))
  rw [show encCm ⟨6, op, sp, gen, at', to, dw, st⟩ = [6] ++ encSn sp ++ be gen.toNat 4 ++ encT at' by show [6] ++ (encSn sp ++ (be gen.toNat 4 ++ encT at')) = _; simp only [List.append_assoc]]
  refine no_implicit_lambda% (acalls_of tok dok (f := 15) ⟨Tryz.func15, rfl, by kernel_rfl⟩ ?_); refine no_implicit_lambda% (c_start (fun _ h => h) ?_)
  repeat' (first | (refine no_implicit_lambda% (zH ?_)) | (refine no_implicit_lambda% (splv (fun hc => ?_) (fun hc => ?_)) <;> first | exact zG hc | skip) | (refine no_implicit_lambda% (ans ?_)) | (with_reducible first | exact zI | exact zJ))
  ((refine no_implicit_lambda% (calw [] (o1) ?_ ?_)); rotate_left; (focus (first | (exact zI) | (exact zJ))); refine no_implicit_lambda% (ret1 ?_); first | (refine no_implicit_lambda% (akc ?_)) | (refine no_implicit_lambda% (aec ?_)); repeat' (first | (refine no_implicit_lambda% (zH ?_)) | (refine no_implicit_lambda% (splv (fun hc => ?_) (fun hc => ?_)) <;> first | exact zG hc | skip) | (refine no_implicit_lambda% (ans ?_)) | (with_reducible first | exact zI | exact zJ)))
  rw [u32g g1 g2]
  ((refine no_implicit_lambda% (calw [] (o2) ?_ ?_)); rotate_left; (focus (first | (exact zI) | (exact zJ))); refine no_implicit_lambda% (ret1 ?_); first | (refine no_implicit_lambda% (akc ?_)) | (refine no_implicit_lambda% (aec ?_)); repeat' (first | (refine no_implicit_lambda% (zH ?_)) | (refine no_implicit_lambda% (splv (fun hc => ?_) (fun hc => ?_)) <;> first | exact zG hc | skip) | (refine no_implicit_lambda% (ans ?_)) | (with_reducible first | exact zI | exact zJ)))
  ((refine no_implicit_lambda% (calw [] (o3) ?_ ?_)); rotate_left; (intro x H' hh; obtain ⟨_, _, _, h', _⟩ := hh; cases h'); intro xx H' hh; obtain ⟨cp, c1, c2, h', rfl⟩ := hh; cases h'; first | (refine no_implicit_lambda% (akc ?_)) | (refine no_implicit_lambda% (aec ?_)))
  repeat' (first | (refine no_implicit_lambda% (zH ?_)) | (refine no_implicit_lambda% (splv (fun hc => ?_) (fun hc => ?_)) <;> first | exact zG hc | skip) | (refine no_implicit_lambda% (ans ?_)) | (with_reducible first | exact zI | exact zJ))
  exact e_ret (H' := bA _ ([6] ++ encSn sp ++ be gen.toNat 4 ++ encT at') cp) (rest := _) rfl ⟨_, by decide, cp, c1, c2, rfl, rfl⟩ permT (LE0 rfl)
 ·have ha := le16_n (show le16 at' = true from hc)
  have o3 := textsO_c [7] at' (by decide) (by omega) (by decide)
  rw [show encCm ⟨7, op, sp, gen, at', to, dw, st⟩ = [7] ++ encT at' from rfl]
  refine no_implicit_lambda% (acalls_of tok dok (f := 15) ⟨Tryz.func15, rfl, by kernel_rfl⟩ ?_); refine no_implicit_lambda% (c_start (fun _ h => h) ?_)
  repeat' (first | (refine no_implicit_lambda% (zH ?_)) | (refine no_implicit_lambda% (splv (fun hc => ?_) (fun hc => ?_)) <;> first | exact zG hc | skip) | (refine no_implicit_lambda% (ans ?_)) | (with_reducible first | exact zI | exact zJ))
  ((refine no_implicit_lambda% (calw [] (o3) ?_ ?_)); rotate_left; (intro x H' hh; obtain ⟨_, _, _, h', _⟩ := hh; cases h'); intro xx H' hh; obtain ⟨cp, c1, c2, h', rfl⟩ := hh; cases h'; first | (refine no_implicit_lambda% (akc ?_)) | (refine no_implicit_lambda% (aec ?_)))
  repeat' (first | (refine no_implicit_lambda% (zH ?_)) | (refine no_implicit_lambda% (splv (fun hc => ?_) (fun hc => ?_)) <;> first | exact zG hc | skip) | (refine no_implicit_lambda% (ans ?_)) | (with_reducible first | exact zI | exact zJ))
  exact e_ret (H' := bA _ ([7] ++ encT at') cp) (rest := _) rfl ⟨_, by decide, cp, c1, c2, rfl, rfl⟩ permT (LE0 rfl)
 ·by_cases hz : dw = 0
  ·subst hz
   have o1 := oneO_c [8] 0 (by decide) (by decide)
   rw [show encCm ⟨8, op, sp, gen, at', to, 0, st⟩ = [8] ++ [UInt8.ofNat 0] from rfl]
   refine no_implicit_lambda% (acalls_of tok dok (f := 15) ⟨Tryz.func15, rfl, by kernel_rfl⟩ ?_); refine no_implicit_lambda% (c_start (fun _ h => h) ?_)
   repeat' (first | (refine no_implicit_lambda% (zH ?_)) | (refine no_implicit_lambda% (splv (fun hc => ?_) (fun hc => ?_)) <;> first | exact zG hc | skip) | (refine no_implicit_lambda% (ans ?_)) | (with_reducible first | exact zI | exact zJ))
   ((refine no_implicit_lambda% (calw [] (o1) ?_ ?_)); rotate_left; (intro x H' hh; obtain ⟨_, _, _, h', _⟩ := hh; cases h'); intro xx H' hh; obtain ⟨cp, c1, c2, h', rfl⟩ := hh; cases h'; first | (refine no_implicit_lambda% (akc ?_)) | (refine no_implicit_lambda% (aec ?_)))
   repeat' (first | (refine no_implicit_lambda% (zH ?_)) | (refine no_implicit_lambda% (splv (fun hc => ?_) (fun hc => ?_)) <;> first | exact zG hc | skip) | (refine no_implicit_lambda% (ans ?_)) | (with_reducible first | exact zI | exact zJ))
   exact e_ret (H' := bA _ ([8] ++ [UInt8.ofNat 0]) cp) (rest := _) rfl ⟨_, by decide, cp, c1, c2, rfl, rfl⟩ permT (LE0 rfl)
  ·have hc2 : (decide (dw = 0) || (decide (1 ≤ dw) && (decide (dw ≤ 3) && (le16 at' && (decide (0 ≤ to) && decide (to ≤ 255)))))) = true := hc
   rw [decide_eq_false hz, Bool.false_or] at hc2
   simp only [Bool.and_eq_true, decide_eq_true_eq] at hc2
   obtain ⟨d1, d2, ha, t1, t2⟩ := hc2
   have ha := le16_n ha
   have o1 := one8_c [8] dw.toNat (by omega) (by decide)
   have o2 := texts8_c ([8] ++ [UInt8.ofNat dw.toNat]) at' (by simp) (by omega) (by (first | (decide; done) | (simp only [List.length_append, List.length_cons, List.length_nil, encT_len, be_len]; omega)))
   have o3 := oneO_c ([8] ++ [UInt8.ofNat dw.toNat] ++ encT at') to.toNat (by omega) (by (first | (decide; done) | (simp only [List.length_append, List.length_cons, List.length_nil, encT_len, be_len]; omega)))
   rw [Int.toNat_of_nonneg (by omega)] at o1 o3
   rw [show encCm ⟨8, op, sp, gen, at', to, dw, st⟩ = [8] ++ [UInt8.ofNat dw.toNat] ++ encT at' ++ [UInt8.ofNat to.toNat] by show 8 :: UInt8.ofNat dw.toNat :: (if dw = 0 then [] else encT at' ++ [UInt8.ofNat to.toNat]) = _; rw [if_neg hz]; simp]
   refine no_implicit_lambda% (acalls_of tok dok (f := 15) ⟨Tryz.func15, rfl, by kernel_rfl⟩ ?_); refine no_implicit_lambda% (c_start (fun _ h => h) ?_)
   repeat' (first | (refine no_implicit_lambda% (zH ?_)) | (refine no_implicit_lambda% (splv (fun hc => ?_) (fun hc => ?_)) <;> first | exact zG hc | skip) | (refine no_implicit_lambda% (ans ?_)) | (with_reducible first | exact zI | exact zJ))
   ((refine no_implicit_lambda% (calw [] (o1) ?_ ?_)); rotate_left; (focus (first | (exact zI) | (exact zJ))); refine no_implicit_lambda% (ret1 ?_); first | (refine no_implicit_lambda% (akc ?_)) | (refine no_implicit_lambda% (aec ?_)); repeat' (first | (refine no_implicit_lambda% (zH ?_)) | (refine no_implicit_lambda% (splv (fun hc => ?_) (fun hc => ?_)) <;> first | exact zG hc | skip) | (refine no_implicit_lambda% (ans ?_)) | (with_reducible first | exact zI | exact zJ)))
   refine no_implicit_lambda% (awd ?_)
   ((with_reducible refine no_implicit_lambda% (zB ?_)); refine no_implicit_lambda% (zE rfl (fun hc => ?_) (fun hc => ?_)))
   rotate_left
   ·exact absurd (by simpa using hc) hz
   repeat' (first | (refine no_implicit_lambda% (zH ?_)) | (refine no_implicit_lambda% (splv (fun hc => ?_) (fun hc => ?_)) <;> first | exact zG hc | skip) | (refine no_implicit_lambda% (ans ?_)) | (with_reducible first | exact zI | exact zJ))
   ((refine no_implicit_lambda% (calw [] (o2) ?_ ?_)); rotate_left; (focus (first | (exact zI) | (exact zJ))); refine no_implicit_lambda% (ret1 ?_); first | (refine no_implicit_lambda% (akc ?_)) | (refine no_implicit_lambda% (aec ?_)); repeat' (first | (refine no_implicit_lambda% (zH ?_)) | (refine no_implicit_lambda% (splv (fun hc => ?_) (fun hc => ?_)) <;> first | exact zG hc | skip) | (refine no_implicit_lambda% (ans ?_)) | (with_reducible first | exact zI | exact zJ)))
   ((refine no_implicit_lambda% (calw [] (o3) ?_ ?_)); rotate_left; (intro x H' hh; obtain ⟨_, _, _, h', _⟩ := hh; cases h'); intro xx H' hh; obtain ⟨cp, c1, c2, h', rfl⟩ := hh; cases h'; first | (refine no_implicit_lambda% (akc ?_)) | (refine no_implicit_lambda% (aec ?_)))
   repeat' (first | (refine no_implicit_lambda% (zH ?_)) | (refine no_implicit_lambda% (splv (fun hc => ?_) (fun hc => ?_)) <;> first | exact zG hc | skip) | (refine no_implicit_lambda% (ans ?_)) | (with_reducible first | exact zI | exact zJ))
   exact e_ret (H' := bA _ ([8] ++ [UInt8.ofNat dw.toNat] ++ encT at' ++ [UInt8.ofNat to.toNat]) cp) (rest := _) rfl ⟨_, by decide, cp, c1, c2, rfl, rfl⟩ permT (LE0 rfl)
 ·obtain ⟨hg, ht⟩ := Bool.and_eq_true_iff.1 (show (genB gen && (decide (to = 0) || decide (to = -1))) = true from hc)
  obtain ⟨g1, g2⟩ := genB_n hg
  have ht2 : to = 0 ∨ to = -1 := by simpa using ht
  have o1 := bl_top8 (bAR_list (refNumO_c [9] (by decide) gen.toNat (by omega) (by decide)))
  rcases ht2 with rfl | rfl
  ·have o2 := oneO_c ([9] ++ be gen.toNat 4) 0 (by decide) (by (first | (decide; done) | (simp only [List.length_append, List.length_cons, List.length_nil, encT_len, be_len]; omega)))
   rw [show encCm ⟨9, op, sp, gen, at', 0, dw, st⟩ = [9] ++ be gen.toNat 4 ++ [UInt8.ofNat 0] from rfl]
   refine no_implicit_lambda% (acalls_of tok dok (f := 15) ⟨Tryz.func15, rfl, by kernel_rfl⟩ ?_); refine no_implicit_lambda% (c_start (fun _ h => h) ?_)
   repeat' (first | (refine no_implicit_lambda% (zH ?_)) | (refine no_implicit_lambda% (splv (fun hc => ?_) (fun hc => ?_)) <;> first | exact zG hc | skip) | (refine no_implicit_lambda% (ans ?_)) | (with_reducible first | exact zI | exact zJ))
   rw [u32g g1 g2]
   ((refine no_implicit_lambda% (calw [] (o1) ?_ ?_)); rotate_left; (focus (first | (exact zI) | (exact zJ))); refine no_implicit_lambda% (ret1 ?_); first | (refine no_implicit_lambda% (akc ?_)) | (refine no_implicit_lambda% (aec ?_)); repeat' (first | (refine no_implicit_lambda% (zH ?_)) | (refine no_implicit_lambda% (splv (fun hc => ?_) (fun hc => ?_)) <;> first | exact zG hc | skip) | (refine no_implicit_lambda% (ans ?_)) | (with_reducible first | exact zI | exact zJ)))
   ((refine no_implicit_lambda% (calw [] (o2) ?_ ?_)); rotate_left; (intro x H' hh; obtain ⟨_, _, _, h', _⟩ := hh; cases h'); intro xx H' hh; obtain ⟨cp, c1, c2, h', rfl⟩ := hh; cases h'; first | (refine no_implicit_lambda% (akc ?_)) | (refine no_implicit_lambda% (aec ?_)))
   repeat' (first | (refine no_implicit_lambda% (zH ?_)) | (refine no_implicit_lambda% (splv (fun hc => ?_) (fun hc => ?_)) <;> first | exact zG hc | skip) | (refine no_implicit_lambda% (ans ?_)) | (with_reducible first | exact zI | exact zJ))
   exact e_ret (H' := bA _ ([9] ++ be gen.toNat 4 ++ [UInt8.ofNat 0]) cp) (rest := _) rfl ⟨_, by decide, cp, c1, c2, rfl, rfl⟩ permT (LE0 rfl)
  ·have o2 := oneO_c ([9] ++ be gen.toNat 4) 1 (by decide) (by (first | (decide; done) | (simp only [List.length_append, List.length_cons, List.length_nil, encT_len, be_len]; omega)))
   rw [show encCm ⟨9, op, sp, gen, at', -1, dw, st⟩ = [9] ++ be gen.toNat 4 ++ [UInt8.ofNat 1] from rfl]
   refine no_implicit_lambda% (acalls_of tok dok (f := 15) ⟨Tryz.func15, rfl, by kernel_rfl⟩ ?_); refine no_implicit_lambda% (c_start (fun _ h => h) ?_)
   repeat' (first | (refine no_implicit_lambda% (zH ?_)) | (refine no_implicit_lambda% (splv (fun hc => ?_) (fun hc => ?_)) <;> first | exact zG hc | skip) | (refine no_implicit_lambda% (ans ?_)) | (with_reducible first | exact zI | exact zJ))
   rw [u32g g1 g2]
   ((refine no_implicit_lambda% (calw [] (o1) ?_ ?_)); rotate_left; (focus (first | (exact zI) | (exact zJ))); refine no_implicit_lambda% (ret1 ?_); first | (refine no_implicit_lambda% (akc ?_)) | (refine no_implicit_lambda% (aec ?_)); repeat' (first | (refine no_implicit_lambda% (zH ?_)) | (refine no_implicit_lambda% (splv (fun hc => ?_) (fun hc => ?_)) <;> first | exact zG hc | skip) | (refine no_implicit_lambda% (ans ?_)) | (with_reducible first | exact zI | exact zJ)))
   ((refine no_implicit_lambda% (calw [] (o2) ?_ ?_)); rotate_left; (intro x H' hh; obtain ⟨_, _, _, h', _⟩ := hh; cases h'); intro xx H' hh; obtain ⟨cp, c1, c2, h', rfl⟩ := hh; cases h'; first | (refine no_implicit_lambda% (akc ?_)) | (refine no_implicit_lambda% (aec ?_)))
   repeat' (first | (refine no_implicit_lambda% (zH ?_)) | (refine no_implicit_lambda% (splv (fun hc => ?_) (fun hc => ?_)) <;> first | exact zG hc | skip) | (refine no_implicit_lambda% (ans ?_)) | (with_reducible first | exact zI | exact zJ))
   exact e_ret (H' := bA _ ([9] ++ be gen.toNat 4 ++ [UInt8.ofNat 1]) cp) (rest := _) rfl ⟨_, by decide, cp, c1, c2, rfl, rfl⟩ permT (LE0 rfl)
 ·rw [cmB0 hk] at hc
  have h10 : k = 10 := of_decide_eq_true hc
  subst h10
  rw [show encCm ⟨10, op, sp, gen, at', to, dw, st⟩ = [10] from rfl]
  refine no_implicit_lambda% (acalls_of tok dok (f := 15) ⟨Tryz.func15, rfl, by kernel_rfl⟩ ?_); refine no_implicit_lambda% (c_start (fun _ h => h) ?_)
  repeat' (first | (refine no_implicit_lambda% (sx1 ?_)) | (refine no_implicit_lambda% (spl (fun hc => ?_) (fun hc => ?_)) <;> first | exact zG hc | skip) | fail)
  refine k_seq ?_
  (with_reducible refine no_implicit_lambda% (c_seq ?_))
  (with_reducible refine no_implicit_lambda% (c_region ?_))
  iterate 3 (((with_reducible refine no_implicit_lambda% (zA ?_)); first | (refine no_implicit_lambda% (o_op rfl ?_)) | (refine no_implicit_lambda% (o_yes rfl rfl rfl ?_)) | (refine no_implicit_lambda% (o_no rfl rfl rfl (fun _ h => h) ?_)) | (refine no_implicit_lambda% (o_not rfl rfl rfl (fun _ h => h) ?_))); ((with_reducible refine no_implicit_lambda% (zC ?_)); first | (refine no_implicit_lambda% (a_q1 rfl (fun _ h => h) ?_)) | (refine no_implicit_lambda% (a_box rfl (fun _ h => h) ?_)) | (refine no_implicit_lambda% (a_alloc rfl (fun _ h => h) ?_)) | (refine no_implicit_lambda% (a_storev rfl (fun _ h => h) ?_)) | (refine no_implicit_lambda% (a_store rfl (fun _ h => h) ?_)) | (refine no_implicit_lambda% (a_panic rfl rfl ?_))); ((with_reducible refine no_implicit_lambda% (is_opK ?_)); first | (refine no_implicit_lambda% (k_op' (fun _ h => h) ?_))))
  ((with_reducible refine no_implicit_lambda% (zA ?_)); first | (refine no_implicit_lambda% (o_op rfl ?_)) | (refine no_implicit_lambda% (o_yes rfl rfl rfl ?_)) | (refine no_implicit_lambda% (o_no rfl rfl rfl (fun _ h => h) ?_)) | (refine no_implicit_lambda% (o_not rfl rfl rfl (fun _ h => h) ?_)))
  (with_reducible refine no_implicit_lambda% (zC ?_))
  refine no_implicit_lambda% (a_buildO (cells := [.v (.int .u8 10)]) rfl rfl rfl rfl rfl rfl rfl rfl ?_)
  refine no_implicit_lambda% (akc ?_)
  repeat' (first | (refine no_implicit_lambda% (zH ?_)) | (refine no_implicit_lambda% (splv (fun hc => ?_) (fun hc => ?_)) <;> first | exact zG hc | skip) | (refine no_implicit_lambda% (ans ?_)) | (with_reducible first | exact zI | exact zJ))
  exact e_ret_to (H' := bA 1 [10] 1) (rest := _) (Conv.toSeq (rows := ([10] : List UInt8).map brow) (k := 0) (.refl _) rfl (broOk [10]).pure) rfl ⟨1, by decide, 1, by decide, by decide, rfl, rfl⟩ permT (LE0 rfl)
end Go.Proofs.YtncffhgoopdfgaaGreat
namespace Go.Proofs.YtncffhgoopdfgaaGreat
open Go.Am
set_option maxRecDepth 100000
theorem rencode_f (c : Cm) (hc : cmB c = true) (hN : OqN c.op) : ACalls Tryz.prog 15 0 0 [.agg (cmrow c)] [] (fun out H' => out = .ret (.list ((encCm c).map brow) .free) ∧ H' = []) := bl_top8 (bAR_list (rencode_c c hc hN))
set_option maxHeartbeats 6400000 in
theorem encodes8_c (c : Cm) (hN : OqN c.op) (hl : c.op.l.length < 1000000000000) : ACalls Tryz.prog 11 0 50000 [.agg (cmrow c)] [] (fun out H' => out = .ret (.v (.bool true)) ∧ H' = []) := by
 have h1 := (cright_c c hl).top0
 have h2 := (rcright_c c hl).top0
 have h3 := (rightOp_c c.op hl).top0
 have h4 := (rrightOp_c c.op hl).top0
 have hb := opB c.op
 rcases hc : cmB c with _ | _
 ·have h0 := encode8_no c hc hl
  rw [hc] at h1 h2
  clear hc
  generalize opB c.op = B at *
  obtain ⟨k, op, sp, gen, at', to, dw, st⟩ := c
  cases B
  all_goals
   refine no_implicit_lambda% (acalls_of tok dok (f := 11) ⟨Tryz.func11, rfl, by kernel_rfl⟩ ?_); refine no_implicit_lambda% (c_start (fun _ h => h) ?_)
   repeat' (first | (refine no_implicit_lambda% (zH ?_)) | (refine no_implicit_lambda% (spl (fun hc => ?_) (fun hc => ?_)) <;> first | exact zG hc | skip) | (refine no_implicit_lambda% (ans ?_)) | (with_reducible first | exact zI | exact zJ) | (refine no_implicit_lambda% (cal [] (h0) ?_ ?_)) | (refine no_implicit_lambda% (cal [] (h1) ?_ ?_)) | (refine no_implicit_lambda% (cal [] (h2) ?_ ?_)) | (refine no_implicit_lambda% (cal [] (h3) ?_ ?_)) | (refine no_implicit_lambda% (cal [] (h4) ?_ ?_)) | fail)
   exact e_ret (H' := []) (rest := _) rfl ⟨rfl, rfl⟩ permT (LE0 rfl)
 ·have h0 := encode8_ok c hc hN hl
  have h5 := rencode_f c hc hN
  rw [hc] at h1 h2
  clear hc
  generalize encCm c = e at *
  generalize opB c.op = B at *
  obtain ⟨k, op, sp, gen, at', to, dw, st⟩ := c
  cases B
  all_goals
   refine no_implicit_lambda% (acalls_of tok dok (f := 11) ⟨Tryz.func11, rfl, by kernel_rfl⟩ ?_); refine no_implicit_lambda% (c_start (fun _ h => h) ?_)
   repeat' (first | (refine no_implicit_lambda% (zH ?_)) | (refine no_implicit_lambda% (spl (fun hc => ?_) (fun hc => ?_)) <;> first | exact zG hc | skip) | (refine no_implicit_lambda% (ans ?_)) | (with_reducible first | exact zI | exact zJ) | (refine no_implicit_lambda% (cal [] (h0) ?_ ?_)) | (refine no_implicit_lambda% (cal [] (h1) ?_ ?_)) | (refine no_implicit_lambda% (cal [] (h2) ?_ ?_)) | (refine no_implicit_lambda% (cal [] (h3) ?_ ?_)) | (refine no_implicit_lambda% (cal [] (h4) ?_ ?_)) | (refine no_implicit_lambda% (cal [] (h5) ?_ ?_)) | fail)
   all_goals first | (exact e_ret (H' := []) (rest := _) rfl ⟨rfl, rfl⟩ permT (LE0 rfl)) | (refine no_implicit_lambda% (e_ret (H' := []) (rest := _) rfl ⟨congrArg (fun z => AOut.ret (.v (.bool z))) ?_, rfl⟩ (.refl _) (LE0 rfl)); simp)
end Go.Proofs.YtncffhgoopdfgaaGreat
