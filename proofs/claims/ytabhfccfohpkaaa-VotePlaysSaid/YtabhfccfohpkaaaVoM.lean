/- vote: Snap. -/
import Derived.Test.YtabhfccfohpkaaaVoK
import Derived.Test.YtabhfccfohpkaaaVoL
namespace Go.Proofs.Ytabhfccfohpkaaa
open Go.Am
set_option linter.unusedSimpArgs false
set_option linter.unusedVariables false
set_option maxRecDepth 100000
def snapB (A : Ac) (slot : Int) (st : List UInt8) : Bool := decide (A.base < slot ∧ slot ≤ 1073741824 ∧ st.length ≤ 1048576)
def Ac.snap (A : Ac) (slot : Int) (st : List UInt8) : Ac := ⟨A.p, kept A.l slot, slot, st⟩
theorem snap_ok {A : Ac} (h : AcOk A) {slot : Int} {st : List UInt8} (hb : snapB A slot st = true) : AcOk (A.snap slot st) := by
  obtain ⟨h1, h2, h3⟩ := of_decide_eq_true hb
  have hbase := h.base
  refine ⟨?_, fun t ht => ?_, h.p, ⟨by show 0 ≤ slot; omega, h2⟩, h3⟩
  · exact h.sorted.sublist (List.Sublist.map _ List.filter_sublist)
  · obtain ⟨hm, hc⟩ := List.mem_filter.1 ht
    obtain ⟨a, b, c, d, e⟩ := h.votes t hm
    have hc' : ¬ t.c < slot := by simpa using hc
    exact ⟨by show slot ≤ t.c; omega, by show t.c < slot + 8; omega, c, d, e⟩
theorem encVs_snoc : ∀ (l : List Td) (t : Td), encVs (l ++ [t]) = encVs l ++ encV t
  | [], t => by simp [encVs]
  | u :: l, t => by show encV u ++ encVs (l ++ [t]) = _; rw [encVs_snoc l t]; simp [encVs]
def wrV (a b : Nat) (l : List UInt8) : Heap := [(a, .box [.list (l.map brow) (.tok b)]), (b, .tok 1 (l.map brow).length)]
def swSt (B : Ac) (cp : Nat) (recs : List (List UInt8)) (out : List UInt8) (i : Nat) : ASt := ⟨([.ptr 0 0] ++ List.replicate 6 .dead ++ [.ptr 204 0] ++ List.replicate 70 .dead ++ [.arr 1 0 B.l.length cp, .v (.int .i64 B.l.length), .v (.int .i64 i)] ++ List.replicate 15 .dead), acP 0 1 2 3 B cp recs ++ wrV 204 205 out, 300⟩
set_option maxHeartbeats 3200000 in
theorem snap_c0 (A : Ac) (cp : Nat) (recs : List (List UInt8)) (slot : Int) (st : List UInt8) (hA : AcOk A) (hcp0 : A.l.length ≤ cp) (hcp : cp ≤ maxLen) (hst : st.length < 1000000000) : ACalls Try.prog 31 4 900 [.ptr 0 0, .v (.int .i64 slot), .list (st.map brow) .free] (acP 0 1 2 3 A cp recs) (fun out H' => (snapB A slot st = false ∧ out = .ret (.v (.bool false)) ∧ H' = acP 0 1 2 3 A cp recs) ∨ (snapB A slot st = true ∧ ∃ n, 4 ≤ n ∧ n < 900 ∧ out = .ret (.v (.bool true)) ∧ H' = acP 0 1 2 n (A.snap slot st) cp [encW (A.snap slot st)])) := by
  have hl := hA.len
  have hcl := clone_c (st.map brow) (brows st) (by rw [List.length_map]; omega)
  have hdf := deletef_c A.l cp slot (by omega) hcp0
  refine acalls_of tok dok (f := 31) ⟨Try.func31, rfl, by kernel_rfl⟩ ?_; refine c_start (fun _ h => h) ?_
  repeat' (first | (refine awd1 ?_) | (((with_reducible refine is_aops ?_); refine o_split rfl rfl rfl (fun hc => ?_) (fun hc => ?_) <;> first | (exfalso; (simp only [decide_eq_true_eq, decide_eq_false_iff_not, beq_iff_eq, beq_eq_false_iff_ne, bne_iff_ne, bne_eq_false_iff_eq, List.length_map, Int.not_lt, Int.not_le] at hc); omega) | rw [hc])) | (((with_reducible refine is_cond ?_); refine c_cond rfl (fun hc => ?_) (fun hc => ?_) <;> first | (exfalso; (simp only [decide_eq_true_eq, decide_eq_false_iff_not, beq_iff_eq, beq_eq_false_iff_ne, bne_iff_ne, bne_eq_false_iff_eq, List.length_map, Int.not_lt, Int.not_le] at hc); omega) | skip)) | (((with_reducible refine is_aop ?_); refine a_pick rfl rfl (fun hc => ?_) (fun hc => ?_) <;> first | (exfalso; (simp only [decide_eq_true_eq, decide_eq_false_iff_not, beq_iff_eq, beq_eq_false_iff_ne, bne_iff_ne, bne_eq_false_iff_eq, List.length_map, Int.not_lt, Int.not_le] at hc); omega) | rw [hc])) | (((with_reducible refine is_ev ?_); refine v_split rfl rfl rfl rfl (fun hc => ?_) (fun hc => ?_) <;> first | (exfalso; (simp only [decide_eq_true_eq, decide_eq_false_iff_not, beq_iff_eq, beq_eq_false_iff_ne, bne_iff_ne, bne_eq_false_iff_eq, List.length_map, Int.not_lt, Int.not_le] at hc); omega) | rw [hc])) | ((with_reducible refine ret1 ?_); first | (refine akc ?_) | (refine aec ?_)) | (with_reducible exact retN) | (with_reducible exact retP) | (refine cal [] (hcl) ?_ ?_) | fail)
  iterate 3
    · have hn : snapB A slot st = false := by
        simp only [decide_eq_true_eq, decide_eq_false_iff_not, List.length_map] at hc
        exact decide_eq_false (by omega)
      exact e_ret (H' := acP 0 1 2 3 A cp recs) (rest := _) rfl (.inl ⟨hn, rfl, rfl⟩) permT (Nat.le_of_ble_eq_true rfl)
  have hn : snapB A slot st = true := by
    simp only [decide_eq_true_eq, decide_eq_false_iff_not, List.length_map] at *
    exact decide_eq_true (by omega)
  obtain ⟨s1, s2, s3⟩ := of_decide_eq_true hn
  have hb := hA.base
  have hB : AcOk (A.snap slot st) := snap_ok hA hn
  have hBl := hB.len
  have hvb : ∀ t ∈ (A.snap slot st).l, t.b.length ≤ 1048576 := fun t ht => (hB.votes t ht).2.2.2.2
  have hpp := hA.p
  have hkl : (kept A.l slot).length ≤ 8 := hBl
  have w1 : IntKind.u32.wrap (IntKind.i64.wrap (A.p + 1)) = (((A.p + 1).toNat : Nat) : Int) := by rw [IntKind.wrap_u32, IntKind.wrap_i64]; omega
  have w2 : IntKind.u32.wrap slot = ((slot.toNat : Nat) : Int) := by rw [IntKind.wrap_u32]; omega
  have w3 : IntKind.u8.wrap (((kept A.l slot).length : Nat) : Int) = (((UInt8.ofNat (kept A.l slot).length).toNat : Nat) : Int) := by
    rw [IntKind.wrap_u8, UInt8.toNat_ofNat_of_lt' (by show (kept A.l slot).length < 256; omega)]; omega
  have y1 := byte_c [] (UInt8.ofNat 3) (by simp)
  have y2 := num_c ([] ++ [UInt8.ofNat 3]) (A.p + 1).toNat (by omega) (by simp)
  have y3 := num_c ([] ++ [UInt8.ofNat 3] ++ be (A.p + 1).toNat 4) slot.toNat (by omega) (by simp [be_len])
  have y4 := text_c ([] ++ [UInt8.ofNat 3] ++ be (A.p + 1).toNat 4 ++ be slot.toNat 4) st (by omega) (by simp [be_len])
  rw [if_pos s3] at y4
  have y5 := byte_c ([] ++ [UInt8.ofNat 3] ++ be (A.p + 1).toNat 4 ++ be slot.toNat 4 ++ (be st.length 4 ++ st)) (UInt8.ofNat (kept A.l slot).length) (by simp [be_len]; omega)
  rw [← w1] at y2
  rw [← w2] at y3
  rw [← w3] at y5
  have hol : ([] ++ [UInt8.ofNat 3] ++ be (A.p + 1).toNat 4 ++ be slot.toNat 4 ++ (be st.length 4 ++ st) ++ [UInt8.ofNat (kept A.l slot).length]).length ≤ 1048600 := by simp [be_len]; omega
  have henc : ([] ++ [UInt8.ofNat 3] ++ be (A.p + 1).toNat 4 ++ be slot.toNat 4 ++ (be st.length 4 ++ st) ++ [UInt8.ofNat (kept A.l slot).length]) ++ encVs (A.snap slot st).l = encW (A.snap slot st) := by simp [encW, Ac.snap]
  repeat' (first | (refine awd1 ?_) | (((with_reducible refine is_aops ?_); refine o_split rfl rfl rfl (fun hc => ?_) (fun hc => ?_) <;> first | (exfalso; (simp only [decide_eq_true_eq, decide_eq_false_iff_not, beq_iff_eq, beq_eq_false_iff_ne, bne_iff_ne, bne_eq_false_iff_eq, List.length_map, Int.not_lt, Int.not_le] at hc); omega) | rw [hc])) | (((with_reducible refine is_cond ?_); refine c_cond rfl (fun hc => ?_) (fun hc => ?_) <;> first | (exfalso; (simp only [decide_eq_true_eq, decide_eq_false_iff_not, beq_iff_eq, beq_eq_false_iff_ne, bne_iff_ne, bne_eq_false_iff_eq, List.length_map, Int.not_lt, Int.not_le] at hc); omega) | skip)) | (((with_reducible refine is_aop ?_); refine a_pick rfl rfl (fun hc => ?_) (fun hc => ?_) <;> first | (exfalso; (simp only [decide_eq_true_eq, decide_eq_false_iff_not, beq_iff_eq, beq_eq_false_iff_ne, bne_iff_ne, bne_eq_false_iff_eq, List.length_map, Int.not_lt, Int.not_le] at hc); omega) | rw [hc])) | ((with_reducible refine ret1 ?_); first | (refine akc ?_) | (refine aec ?_)) | (with_reducible exact retN) | (with_reducible exact retP) | (refine cal [1, 4] (hdf) ?_ ?_) | (refine cal [] (new_c) ?_ ?_) | (refine cal [204, 205] (y1) ?_ ?_) | (refine cal [204, 205] (y2) ?_ ?_) | (refine cal [204, 205] (y3) ?_ ?_) | (refine cal [204, 205] (y4) ?_ ?_) | (refine cal [204, 205] (y5) ?_ ?_) | fail)
  generalize hO : [] ++ [UInt8.ofNat 3] ++ be (A.p + 1).toNat 4 ++ be slot.toNat 4 ++ (be st.length 4 ++ st) ++ [UInt8.ofNat (kept A.l slot).length] = o5 at *
  refine c_loop2 (swSt (A.snap slot st) cp recs) (fun out i => i ≤ (A.snap slot st).l.length ∧ out = o5 ++ encVs ((A.snap slot st).l.take i)) (fun _ i => (A.snap slot st).l.length - i) o5 0 ⟨Nat.zero_le _, by simp [encVs]⟩ ?_ ?_
  · (refine Conv.toT ?_ ?_ (Nat.le_of_ble_eq_true rfl)); (focus ((unfold swSt); (try dsimp only); (repeat' (first | (with_reducible exact .nil) | (refine .cons ?_ ?_) | (exact Wk.dead _) | (with_reducible exact Wk.refl _) | (exact WkL.nil))) <;> (first | (exact Wk.eq rfl) | (exact Wk.dead _) | (exact Wk.free _ _) | (exact Wk.lit _) | (refine WkR.eq ?_; simp; done) | (refine Wk.rows ?_ _; ((repeat' (first | (with_reducible exact LDR.nil) | (with_reducible exact LDL.nil) | (refine LDR.cons ?_ ?_) | (refine LDL.cons ?_ ?_) | (exact LeD.refl _) | (exact LeD.free _ _) | (exact LDR.nil) | (exact LDL.nil)))); done) | (exact Wk.rows (ldr_rep _) _) | (refine Wk.eq ?_; rw [List.map_append]; rfl) | ((refine Wk.int (Eq.trans (z64 ?_ ?_) ?_)) <;> omega) | (refine Wk.int ?_; simp; done) | (refine Wk.int ?_; simp; omega) | (refine Wk.eq ?_; simp; done)))); (focus ((unfold swSt); (try dsimp only); (repeat' (first | (with_reducible exact WkH.nil) | (refine WkH.cons ?_ ?_) | (exact WkR.refl _) | (refine WkR.box _ ?_) | (refine WkR.eq ?_; simp; done) | (exact WkH.nil))) <;> ((repeat' (first | (with_reducible exact .nil) | (refine .cons ?_ ?_) | (exact Wk.dead _) | (with_reducible exact Wk.refl _) | (exact WkL.nil))) <;> (first | (exact Wk.eq rfl) | (exact Wk.dead _) | (exact Wk.free _ _) | (exact Wk.lit _) | (refine WkR.eq ?_; simp; done) | (refine Wk.rows ?_ _; ((repeat' (first | (with_reducible exact LDR.nil) | (with_reducible exact LDL.nil) | (refine LDR.cons ?_ ?_) | (refine LDL.cons ?_ ?_) | (exact LeD.refl _) | (exact LeD.free _ _) | (exact LDR.nil) | (exact LDL.nil)))); done) | (exact Wk.rows (ldr_rep _) _) | (refine Wk.eq ?_; rw [List.map_append]; rfl) | ((refine Wk.int (Eq.trans (z64 ?_ ?_) ?_)) <;> omega) | (refine Wk.int ?_; simp; done) | (refine Wk.int ?_; simp; omega) | (refine Wk.eq ?_; simp; done)))))
  · rintro out i ⟨i1, ho⟩
    subst ho
    generalize hBB : A.snap slot st = B at *
    refine c_turn (n' := 300) (fun _ h => h) (fun _ h => h) rfl ?_
    rcases ht : B.l[i]? with _ | t
    · have hi : i = B.l.length := by have := List.getElem?_eq_none_iff.1 ht; omega
      have e : B.l.take i = B.l := by rw [hi, List.take_length]
      rw [e, henc]
      have hwl : (encW B).length ≤ 20000000 := by
        have := encVs_len B.l hvb
        rw [← henc, List.length_append]; omega
      have hdn := done_c (encW B) (by omega)
      have hrp := dreplace_c recs [encW B] (by simp) (by simp; omega)
      repeat' (first | (refine awd1 ?_) | (((with_reducible refine is_aops ?_); refine o_split rfl rfl rfl (fun hc => ?_) (fun hc => ?_) <;> first | (exfalso; (simp only [decide_eq_true_eq, decide_eq_false_iff_not, beq_iff_eq, beq_eq_false_iff_ne, bne_iff_ne, bne_eq_false_iff_eq, List.length_map, Int.not_lt, Int.not_le] at hc); omega) | rw [hc])) | (((with_reducible refine is_cond ?_); refine c_cond rfl (fun hc => ?_) (fun hc => ?_) <;> first | (exfalso; (simp only [decide_eq_true_eq, decide_eq_false_iff_not, beq_iff_eq, beq_eq_false_iff_ne, bne_iff_ne, bne_eq_false_iff_eq, List.length_map, Int.not_lt, Int.not_le] at hc); omega) | skip)) | (((with_reducible refine is_aop ?_); refine a_pick rfl rfl (fun hc => ?_) (fun hc => ?_) <;> first | (exfalso; (simp only [decide_eq_true_eq, decide_eq_false_iff_not, beq_iff_eq, beq_eq_false_iff_ne, bne_iff_ne, bne_eq_false_iff_eq, List.length_map, Int.not_lt, Int.not_le] at hc); omega) | rw [hc])) | ((with_reducible refine ret1 ?_); first | (refine akc ?_) | (refine aec ?_)) | (with_reducible exact retN) | (with_reducible exact retP) | (refine cal [204, 205] (hdn) ?_ ?_) | fail)
      (refine calw [2, 3] (hrp) ?_ ?_)
      · refine ret1 ?_; first | (refine akc ?_) | (refine aec ?_)
        repeat' (first | (refine awd1 ?_) | (((with_reducible refine is_aops ?_); refine o_split rfl rfl rfl (fun hc => ?_) (fun hc => ?_) <;> first | (exfalso; (simp only [decide_eq_true_eq, decide_eq_false_iff_not, beq_iff_eq, beq_eq_false_iff_ne, bne_iff_ne, bne_eq_false_iff_eq, List.length_map, Int.not_lt, Int.not_le] at hc); omega) | rw [hc])) | (((with_reducible refine is_cond ?_); refine c_cond rfl (fun hc => ?_) (fun hc => ?_) <;> first | (exfalso; (simp only [decide_eq_true_eq, decide_eq_false_iff_not, beq_iff_eq, beq_eq_false_iff_ne, bne_iff_ne, bne_eq_false_iff_eq, List.length_map, Int.not_lt, Int.not_le] at hc); omega) | skip)) | (((with_reducible refine is_aop ?_); refine a_pick rfl rfl (fun hc => ?_) (fun hc => ?_) <;> first | (exfalso; (simp only [decide_eq_true_eq, decide_eq_false_iff_not, beq_iff_eq, beq_eq_false_iff_ne, bne_iff_ne, bne_eq_false_iff_eq, List.length_map, Int.not_lt, Int.not_le] at hc); omega) | rw [hc])) | ((with_reducible refine ret1 ?_); first | (refine akc ?_) | (refine aec ?_)) | (with_reducible exact retN) | (with_reducible exact retP) | fail | fail)
        exact e_ret (H' := acP 0 1 2 301 B cp [encW B]) (rest := _) rfl (.inr ⟨hn, 301, by omega, by omega, rfl, rfl⟩) permT (Nat.le_of_ble_eq_true rfl)
      · first | (exact retN) | (exact retP)
    · have hi : i < B.l.length := (List.getElem?_eq_some_iff.1 ht).1
      obtain ⟨v1, v2, v3, v4, v5⟩ := hB.votes t (List.mem_of_getElem? ht)
      have hb2 := hB.base
      have hp2 := hB.p
      have hts : B.l.take (i + 1) = B.l.take i ++ [t] := by rw [List.take_add_one, ht]; rfl
      have hvl := encVs_len (B.l.take i) fun u hu => hvb u (List.mem_of_mem_take hu)
      rw [List.length_take] at hvl
      have hwr := write_c t (o5 ++ encVs (B.l.take i)) (by omega) (by omega) v5 (by rw [List.length_append]; omega)
      have hnx : o5 ++ encVs (B.l.take i) ++ encV t = o5 ++ encVs (B.l.take (i + 1)) := by rw [hts, encVs_snoc, List.append_assoc]
      rw [hnx] at hwr
      repeat' (first | (refine awd1 ?_) | (((with_reducible refine is_aops ?_); refine o_split rfl rfl rfl (fun hc => ?_) (fun hc => ?_) <;> first | (exfalso; (simp only [decide_eq_true_eq, decide_eq_false_iff_not, beq_iff_eq, beq_eq_false_iff_ne, bne_iff_ne, bne_eq_false_iff_eq, List.length_map, Int.not_lt, Int.not_le] at hc); omega) | rw [hc])) | (((with_reducible refine is_cond ?_); refine c_cond rfl (fun hc => ?_) (fun hc => ?_) <;> first | (exfalso; (simp only [decide_eq_true_eq, decide_eq_false_iff_not, beq_iff_eq, beq_eq_false_iff_ne, bne_iff_ne, bne_eq_false_iff_eq, List.length_map, Int.not_lt, Int.not_le] at hc); omega) | skip)) | (((with_reducible refine is_aop ?_); refine a_pick rfl rfl (fun hc => ?_) (fun hc => ?_) <;> first | (exfalso; (simp only [decide_eq_true_eq, decide_eq_false_iff_not, beq_iff_eq, beq_eq_false_iff_ne, bne_iff_ne, bne_eq_false_iff_eq, List.length_map, Int.not_lt, Int.not_le] at hc); omega) | rw [hc])) | ((with_reducible refine ret1 ?_); first | (refine akc ?_) | (refine aec ?_)) | (with_reducible exact retN) | (with_reducible exact retP) | fail | fail)
      ((with_reducible refine is_aop ?_); first | (refine a_qS rfl (fun _ h => h) ?_ ?_) | (refine a_qS rfl (qIx (fun _ h => h)) ?_ ?_) | (refine a_qS rfl (qAnd5 (fun _ h => h)) ?_ ?_) | (refine a_qS rfl (qStr (fun _ h => h)) ?_ ?_) | (refine a_qS rfl (qAnd4 (fun _ h => h)) ?_ ?_) | (refine a_qS rfl (qAnd2 (fun _ h => h)) ?_ ?_)); focus (first | omega | (simp; done) | (simp; omega))
      repeat' (first | (refine awd1 ?_) | (((with_reducible refine is_aops ?_); refine o_split rfl rfl rfl (fun hc => ?_) (fun hc => ?_) <;> first | (exfalso; (simp only [decide_eq_true_eq, decide_eq_false_iff_not, beq_iff_eq, beq_eq_false_iff_ne, bne_iff_ne, bne_eq_false_iff_eq, List.length_map, Int.not_lt, Int.not_le] at hc); omega) | rw [hc])) | (((with_reducible refine is_cond ?_); refine c_cond rfl (fun hc => ?_) (fun hc => ?_) <;> first | (exfalso; (simp only [decide_eq_true_eq, decide_eq_false_iff_not, beq_iff_eq, beq_eq_false_iff_ne, bne_iff_ne, bne_eq_false_iff_eq, List.length_map, Int.not_lt, Int.not_le] at hc); omega) | skip)) | (((with_reducible refine is_aop ?_); refine a_pick rfl rfl (fun hc => ?_) (fun hc => ?_) <;> first | (exfalso; (simp only [decide_eq_true_eq, decide_eq_false_iff_not, beq_iff_eq, beq_eq_false_iff_ne, bne_iff_ne, bne_eq_false_iff_eq, List.length_map, Int.not_lt, Int.not_le] at hc); omega) | rw [hc])) | ((with_reducible refine ret1 ?_); first | (refine akc ?_) | (refine aec ?_)) | (with_reducible exact retN) | (with_reducible exact retP) | fail | fail)
      ((with_reducible refine is_aop ?_); refine a_loadSeqA (sz := 3) (rows := B.l.map trow) (i := i) (j := 0) rfl rfl rfl rfl rfl (tdOk B.l) ((by rw [List.getElem?_map, ht]; rfl)) (by first | decide | (simp; done)) rfl (by first | rfl | (simp; done) | (simp; omega)) ?_)
      repeat' (first | (refine awd1 ?_) | (((with_reducible refine is_aops ?_); refine o_split rfl rfl rfl (fun hc => ?_) (fun hc => ?_) <;> first | (exfalso; (simp only [decide_eq_true_eq, decide_eq_false_iff_not, beq_iff_eq, beq_eq_false_iff_ne, bne_iff_ne, bne_eq_false_iff_eq, List.length_map, Int.not_lt, Int.not_le] at hc); omega) | rw [hc])) | (((with_reducible refine is_cond ?_); refine c_cond rfl (fun hc => ?_) (fun hc => ?_) <;> first | (exfalso; (simp only [decide_eq_true_eq, decide_eq_false_iff_not, beq_iff_eq, beq_eq_false_iff_ne, bne_iff_ne, bne_eq_false_iff_eq, List.length_map, Int.not_lt, Int.not_le] at hc); omega) | skip)) | (((with_reducible refine is_aop ?_); refine a_pick rfl rfl (fun hc => ?_) (fun hc => ?_) <;> first | (exfalso; (simp only [decide_eq_true_eq, decide_eq_false_iff_not, beq_iff_eq, beq_eq_false_iff_ne, bne_iff_ne, bne_eq_false_iff_eq, List.length_map, Int.not_lt, Int.not_le] at hc); omega) | rw [hc])) | ((with_reducible refine ret1 ?_); first | (refine akc ?_) | (refine aec ?_)) | (with_reducible exact retN) | (with_reducible exact retP) | (refine cal [204, 205] (hwr) ?_ ?_) | fail)
      (refine k_loopT (((o5 ++ encVs (B.l.take (i + 1)), i + 1) : List UInt8 × Nat)) (by show i + 1 ≤ B.l.length ∧ o5 ++ encVs (B.l.take (i + 1)) = o5 ++ encVs (B.l.take (i + 1)); exact ⟨hi, rfl⟩) (by first | omega | (simp; done) | (simp; omega)) ?_ ?_); (focus ((unfold swSt); (try dsimp only); (repeat' (first | (with_reducible exact .nil) | (refine .cons ?_ ?_) | (exact Wk.dead _) | (with_reducible exact Wk.refl _) | (exact WkL.nil))) <;> (first | (exact Wk.eq rfl) | (exact Wk.dead _) | (exact Wk.free _ _) | (exact Wk.lit _) | (refine WkR.eq ?_; simp; done) | (refine Wk.rows ?_ _; ((repeat' (first | (with_reducible exact LDR.nil) | (with_reducible exact LDL.nil) | (refine LDR.cons ?_ ?_) | (refine LDL.cons ?_ ?_) | (exact LeD.refl _) | (exact LeD.free _ _) | (exact LDR.nil) | (exact LDL.nil)))); done) | (exact Wk.rows (ldr_rep _) _) | (refine Wk.eq ?_; rw [List.map_append]; rfl) | ((refine Wk.int (Eq.trans (z64 ?_ ?_) ?_)) <;> omega) | (refine Wk.int ?_; simp; done) | (refine Wk.int ?_; simp; omega) | (refine Wk.eq ?_; simp; done)))); (focus ((unfold swSt); (try dsimp only); (repeat' (first | (with_reducible exact WkH.nil) | (refine WkH.cons ?_ ?_) | (exact WkR.refl _) | (refine WkR.box _ ?_) | (refine WkR.eq ?_; simp; done) | (exact WkH.nil))) <;> ((repeat' (first | (with_reducible exact .nil) | (refine .cons ?_ ?_) | (exact Wk.dead _) | (with_reducible exact Wk.refl _) | (exact WkL.nil))) <;> (first | (exact Wk.eq rfl) | (exact Wk.dead _) | (exact Wk.free _ _) | (exact Wk.lit _) | (refine WkR.eq ?_; simp; done) | (refine Wk.rows ?_ _; ((repeat' (first | (with_reducible exact LDR.nil) | (with_reducible exact LDL.nil) | (refine LDR.cons ?_ ?_) | (refine LDL.cons ?_ ?_) | (exact LeD.refl _) | (exact LeD.free _ _) | (exact LDR.nil) | (exact LDL.nil)))); done) | (exact Wk.rows (ldr_rep _) _) | (refine Wk.eq ?_; rw [List.map_append]; rfl) | ((refine Wk.int (Eq.trans (z64 ?_ ?_) ?_)) <;> omega) | (refine Wk.int ?_; simp; done) | (refine Wk.int ?_; simp; omega) | (refine Wk.eq ?_; simp; done)))))
end Go.Proofs.Ytabhfccfohpkaaa
