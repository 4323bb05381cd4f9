/- once: numbers at each bound, all clients. -/
import Derived.Test.YtdahnjdkghbieaaOnO
import Derived.Test.YtdahnjdkghbieaaOnM
namespace Go.Proofs.Ytdahnjdkghbieaa
open Go.Am
set_option linter.unusedSimpArgs false
set_option linter.unusedVariables false
set_option maxRecDepth 100000
theorem qFv {P : Program} {X : (AV → Prop) → Prop} {op : BinOp} {t : TypeId} {x y : Operand} {a b : Value} (v : Value) (h : ∀ K : AV → Prop, fallB P op t x y (some a) (some b) (fun z => fv z K) → X K) (hv : ∀ w, (do eqGuard op t x y a b; binOp op t a b : Sem Value).run P w = .ok v w) : ∀ K : AV → Prop, K (.ofValue v) → X K := fun K hK => h K ⟨v, hv, by show fv (.ofValue v) K; rw [fv_eq]; exact hK⟩
def dt (j : Nat) : Td := ⟨j, j + 1, [UInt8.ofNat j]⟩
def dl (n : Nat) : List Td := (List.range n).map dt
theorem dl_snoc (n : Nat) : dl (n + 1) = dl n ++ [dt n] := by unfold dl; rw [List.range_succ, List.map_append]; rfl
theorem dl_len (n : Nat) : (dl n).length = n := by unfold dl; simp
theorem dl_at {n i : Nat} (h : i < n) : (dl n)[i]? = some (dt i) := by unfold dl; rw [List.getElem?_map, List.getElem?_range h]; rfl
theorem dl_lst {n : Nat} (h : n ≤ 256) : Lst (dl n) := by
  induction n with
  | zero => exact Lst.nil
  | succ n ih =>
    rw [dl_snoc]
    refine lst_snoc (ih (by omega)) ⟨by show (0 : Int) ≤ n; omega, by show (n : Int) ≤ 255; omega, by show (1 : Int) ≤ n + 1; omega, by show (n : Int) + 1 ≤ _; omega, by show (1 : Nat) ≤ _; omega⟩ ?_
    cases n with
    | zero => decide
    | succ k => rw [dl_snoc, lastC_snoc]; show (k : Int) < ((k + 1 : Nat) : Int); omega
theorem dl_keep {n : Nat} (h : n < 256) : keep (dl n) n (n + 1) [UInt8.ofNat n] = dl (n + 1) := by
  have h1 := keep_snoc (p := dl n) (t := dt n) (by rw [← dl_snoc]; exact dl_lst (by omega))
  rw [dl_snoc]; exact h1
theorem dl_keeps {n : Nat} (h : n < 256) : keeps (dl n) n (n + 1) [UInt8.ofNat n] = true := by
  have hl := dl_lst (n := n) (by omega)
  have hB := (dl_lst (n := n + 1) (by omega)).ok (dt n) (by rw [dl_snoc]; simp)
  refine (keeps_iff hl hB).2 fun u hu e => ?_
  unfold dl at hu
  obtain ⟨j, hj, rfl⟩ := List.mem_map.1 hu
  have hj' : j < n := by simpa using hj
  have e' : (j : Int) = n := e
  omega
theorem dl_rkeep {n : Nat} (h : n < 256) : rkeep (dl n) n (n + 1) [UInt8.ofNat n] = dl (n + 1) ∧ rkeeps (dl n) n (n + 1) [UInt8.ofNat n] = true := by
  have hk := keeps_eq (dl_lst (n := n) (by omega)) (.refl _) n (n + 1) [UInt8.ofNat n]
  rw [dl_keeps h] at hk
  refine ⟨?_, hk.symm⟩
  unfold rkeep
  rw [← hk, if_pos rfl, dl_snoc]
  congr 1
  rw [List.filter_eq_self]
  intro t ht
  unfold dl at ht
  obtain ⟨j, hj, rfl⟩ := List.mem_map.1 ht
  have hj' : j < n := by simpa using hj
  have : ((j : Int)) ≠ n := by omega
  exact decide_eq_true (show (dt j).c ≠ n from this)
def jzSt (l2 : List Td) (cp2 cp3 i : Nat) : ASt := ⟨(List.replicate 5 .dead ++ [.ptr 2 0] ++ List.replicate 12 .dead ++ [.arr 1 0 l2.length cp2, .v (.int .i64 l2.length), .v (.int .i64 i)] ++ List.replicate 13 .dead), caP 0 1 l2 cp2 ++ caP 2 3 (l2.take i) cp3, 4⟩
theorem joinZ_c (l : List Td) (cp : Nat) (h : Lst l) (h1 : l.length ≤ cp) (h2 : cp ≤ maxLen) : ACalls Try.prog 18 2 100 [.v (.pointer none), .ptr 0 0] (caP 0 1 l cp) (fun out H' => ∃ cp', l.length ≤ cp' ∧ cp' ≤ maxLen ∧ out = .ret (.ptr 2 0) ∧ H' = caP 0 1 l cp ++ caP 2 3 l cp') := by
  have hlen := h.len
  have hb : ∀ t ∈ l, t.b.length < 1000000000 := fun t ht => by have := (h.ok t ht).2.2.2.2; omega
  refine acalls_of tok dok (f := 18) ⟨Try.func18, rfl, by kernel_rfl⟩ ?_; refine c_start (fun _ h => h) ?_
  repeat' (first | (refine awd1 ?_) | (((with_reducible refine is_aops ?_); refine o_split rfl rfl rfl (fun hc => ?_) (fun hc => ?_) <;> first | (exfalso; (simp only [decide_eq_true_eq, decide_eq_false_iff_not, beq_iff_eq, beq_eq_false_iff_ne, bne_iff_ne, bne_eq_false_iff_eq, List.length_map, Int.not_lt, Int.not_le] at hc); omega) | rw [hc])) | (((with_reducible refine is_cond ?_); refine c_cond rfl (fun hc => ?_) (fun hc => ?_) <;> first | (exfalso; (simp only [decide_eq_true_eq, decide_eq_false_iff_not, beq_iff_eq, beq_eq_false_iff_ne, bne_iff_ne, bne_eq_false_iff_eq, List.length_map, Int.not_lt, Int.not_le] at hc); omega) | skip)) | (((with_reducible refine is_aop ?_); refine a_pick rfl rfl (fun hc => ?_) (fun hc => ?_) <;> first | (exfalso; (simp only [decide_eq_true_eq, decide_eq_false_iff_not, beq_iff_eq, beq_eq_false_iff_ne, bne_iff_ne, bne_eq_false_iff_eq, List.length_map, Int.not_lt, Int.not_le] at hc); omega) | rw [hc])) | ((with_reducible refine ret1 ?_); first | (refine akc ?_) | (refine aec ?_)) | (with_reducible exact retN) | (with_reducible exact retP) | (refine cal [] (new_cc) ?_ ?_) | fail)
  (with_reducible refine is_aop ?_)
  refine a_q1 rfl (qFv (.bool false) (fun _ h => h) (fun w => rfl)) ?_
  repeat' (first | (refine awd1 ?_) | (((with_reducible refine is_aops ?_); refine o_split rfl rfl rfl (fun hc => ?_) (fun hc => ?_) <;> first | (exfalso; (simp only [decide_eq_true_eq, decide_eq_false_iff_not, beq_iff_eq, beq_eq_false_iff_ne, bne_iff_ne, bne_eq_false_iff_eq, List.length_map, Int.not_lt, Int.not_le] at hc); omega) | rw [hc])) | (((with_reducible refine is_cond ?_); refine c_cond rfl (fun hc => ?_) (fun hc => ?_) <;> first | (exfalso; (simp only [decide_eq_true_eq, decide_eq_false_iff_not, beq_iff_eq, beq_eq_false_iff_ne, bne_iff_ne, bne_eq_false_iff_eq, List.length_map, Int.not_lt, Int.not_le] at hc); omega) | skip)) | (((with_reducible refine is_aop ?_); refine a_pick rfl rfl (fun hc => ?_) (fun hc => ?_) <;> first | (exfalso; (simp only [decide_eq_true_eq, decide_eq_false_iff_not, beq_iff_eq, beq_eq_false_iff_ne, bne_iff_ne, bne_eq_false_iff_eq, List.length_map, Int.not_lt, Int.not_le] at hc); omega) | rw [hc])) | ((with_reducible refine ret1 ?_); first | (refine akc ?_) | (refine aec ?_)) | (with_reducible exact retN) | (with_reducible exact retP) | fail | fail)
  refine c_loop2 (jzSt l cp) (fun cp2 i => i ≤ l.length ∧ (l.take i).length ≤ cp2 ∧ cp2 ≤ maxLen) (fun _ i => l.length - i) 0 0 ⟨by omega, by simp, by decide⟩ ?_ ?_
  · (refine Conv.toT ?_ ?_ (Nat.le_of_ble_eq_true rfl)); (focus ((unfold jzSt); (try dsimp only); (repeat' (first | (with_reducible exact .nil) | (refine .cons ?_ ?_) | (exact Wk.dead _) | (with_reducible exact Wk.refl _) | (exact WkL.nil))) <;> (first | (exact Wk.eq rfl) | (exact Wk.dead _) | (exact Wk.free _ _) | (exact Wk.lit _) | (refine WkR.eq ?_; simp; done) | (refine Wk.rows ?_ _; ((repeat' (first | (with_reducible exact LDR.nil) | (with_reducible exact LDL.nil) | (refine LDR.cons ?_ ?_) | (refine LDL.cons ?_ ?_) | (exact LeD.refl _) | (exact LeD.free _ _) | (exact LDR.nil) | (exact LDL.nil)))); done) | (exact Wk.rows (ldr_rep _) _) | (refine Wk.eq ?_; rw [List.map_append]; rfl) | ((refine Wk.int (Eq.trans (z64 ?_ ?_) ?_)) <;> omega) | (refine Wk.int ?_; simp; done) | (refine Wk.int ?_; simp; omega) | (refine Wk.eq ?_; simp; done)))); (focus ((unfold jzSt); (try dsimp only); (repeat' (first | (with_reducible exact WkH.nil) | (refine WkH.cons ?_ ?_) | (exact WkR.refl _) | (refine WkR.box _ ?_) | (refine WkR.eq ?_; simp; done) | (exact WkH.nil))) <;> ((repeat' (first | (with_reducible exact .nil) | (refine .cons ?_ ?_) | (exact Wk.dead _) | (with_reducible exact Wk.refl _) | (exact WkL.nil))) <;> (first | (exact Wk.eq rfl) | (exact Wk.dead _) | (exact Wk.free _ _) | (exact Wk.lit _) | (refine WkR.eq ?_; simp; done) | (refine Wk.rows ?_ _; ((repeat' (first | (with_reducible exact LDR.nil) | (with_reducible exact LDL.nil) | (refine LDR.cons ?_ ?_) | (refine LDL.cons ?_ ?_) | (exact LeD.refl _) | (exact LeD.free _ _) | (exact LDR.nil) | (exact LDL.nil)))); done) | (exact Wk.rows (ldr_rep _) _) | (refine Wk.eq ?_; rw [List.map_append]; rfl) | ((refine Wk.int (Eq.trans (z64 ?_ ?_) ?_)) <;> omega) | (refine Wk.int ?_; simp; done) | (refine Wk.int ?_; simp; omega) | (refine Wk.eq ?_; simp; done)))))
  · rintro cp2 i ⟨i1, i2, i3⟩
    refine c_turn (n' := 4) (fun _ h => h) (fun _ h => h) rfl ?_
    rcases ht : l[i]? with _ | t
    · have hi : i = l.length := by have := List.getElem?_eq_none_iff.1 ht; omega
      repeat' (first | (refine awd1 ?_) | (((with_reducible refine is_aops ?_); refine o_split rfl rfl rfl (fun hc => ?_) (fun hc => ?_) <;> first | (exfalso; (simp only [decide_eq_true_eq, decide_eq_false_iff_not, beq_iff_eq, beq_eq_false_iff_ne, bne_iff_ne, bne_eq_false_iff_eq, List.length_map, Int.not_lt, Int.not_le] at hc); omega) | rw [hc])) | (((with_reducible refine is_cond ?_); refine c_cond rfl (fun hc => ?_) (fun hc => ?_) <;> first | (exfalso; (simp only [decide_eq_true_eq, decide_eq_false_iff_not, beq_iff_eq, beq_eq_false_iff_ne, bne_iff_ne, bne_eq_false_iff_eq, List.length_map, Int.not_lt, Int.not_le] at hc); omega) | skip)) | (((with_reducible refine is_aop ?_); refine a_pick rfl rfl (fun hc => ?_) (fun hc => ?_) <;> first | (exfalso; (simp only [decide_eq_true_eq, decide_eq_false_iff_not, beq_iff_eq, beq_eq_false_iff_ne, bne_iff_ne, bne_eq_false_iff_eq, List.length_map, Int.not_lt, Int.not_le] at hc); omega) | rw [hc])) | ((with_reducible refine ret1 ?_); first | (refine akc ?_) | (refine aec ?_)) | (with_reducible exact retN) | (with_reducible exact retP) | fail | fail)
      have e : l.take i = l := by rw [hi, List.take_length]
      rw [e] at i2 ⊢
      exact e_ret (H' := caP 0 1 l cp ++ caP 2 3 l cp2) (rest := []) rfl ⟨cp2, i2, i3, rfl, rfl⟩ permT (Nat.le_of_ble_eq_true rfl)
    · have hi : i < l.length := (List.getElem?_eq_some_iff.1 ht).1
      have htl : (l.take i).length = i := by rw [List.length_take]; omega
      have hk := keep_c (l.take i) t.c t.s t.b cp2 (by omega) i2 i3 (fun u hu => by have := hb u (List.mem_of_mem_take hu); omega) (by have := hb t (List.mem_of_getElem? ht); omega) (h.take i).sorted
      have hts : l.take (i + 1) = l.take i ++ [t] := by rw [List.take_add_one, ht]; rfl
      rw [keep_snoc (by rw [← hts]; exact h.take _), ← hts] at hk
      repeat' (first | (refine awd1 ?_) | (((with_reducible refine is_aops ?_); refine o_split rfl rfl rfl (fun hc => ?_) (fun hc => ?_) <;> first | (exfalso; (simp only [decide_eq_true_eq, decide_eq_false_iff_not, beq_iff_eq, beq_eq_false_iff_ne, bne_iff_ne, bne_eq_false_iff_eq, List.length_map, Int.not_lt, Int.not_le] at hc); omega) | rw [hc])) | (((with_reducible refine is_cond ?_); refine c_cond rfl (fun hc => ?_) (fun hc => ?_) <;> first | (exfalso; (simp only [decide_eq_true_eq, decide_eq_false_iff_not, beq_iff_eq, beq_eq_false_iff_ne, bne_iff_ne, bne_eq_false_iff_eq, List.length_map, Int.not_lt, Int.not_le] at hc); omega) | skip)) | (((with_reducible refine is_aop ?_); refine a_pick rfl rfl (fun hc => ?_) (fun hc => ?_) <;> first | (exfalso; (simp only [decide_eq_true_eq, decide_eq_false_iff_not, beq_iff_eq, beq_eq_false_iff_ne, bne_iff_ne, bne_eq_false_iff_eq, List.length_map, Int.not_lt, Int.not_le] at hc); omega) | rw [hc])) | ((with_reducible refine ret1 ?_); first | (refine akc ?_) | (refine aec ?_)) | (with_reducible exact retN) | (with_reducible exact retP) | fail | fail)
      ((with_reducible refine is_aop ?_); first | (refine a_qS rfl (fun _ h => h) ?_ ?_) | (refine a_qS rfl (qIx (fun _ h => h)) ?_ ?_) | (refine a_qS rfl (qAnd5 (fun _ h => h)) ?_ ?_) | (refine a_qS rfl (qStr (fun _ h => h)) ?_ ?_) | (refine a_qS rfl (qAnd4 (fun _ h => h)) ?_ ?_) | (refine a_qS rfl (qAnd2 (fun _ h => h)) ?_ ?_)); focus (first | omega | (simp; done) | (simp; omega))
      repeat' (first | (refine awd1 ?_) | (((with_reducible refine is_aops ?_); refine o_split rfl rfl rfl (fun hc => ?_) (fun hc => ?_) <;> first | (exfalso; (simp only [decide_eq_true_eq, decide_eq_false_iff_not, beq_iff_eq, beq_eq_false_iff_ne, bne_iff_ne, bne_eq_false_iff_eq, List.length_map, Int.not_lt, Int.not_le] at hc); omega) | rw [hc])) | (((with_reducible refine is_cond ?_); refine c_cond rfl (fun hc => ?_) (fun hc => ?_) <;> first | (exfalso; (simp only [decide_eq_true_eq, decide_eq_false_iff_not, beq_iff_eq, beq_eq_false_iff_ne, bne_iff_ne, bne_eq_false_iff_eq, List.length_map, Int.not_lt, Int.not_le] at hc); omega) | skip)) | (((with_reducible refine is_aop ?_); refine a_pick rfl rfl (fun hc => ?_) (fun hc => ?_) <;> first | (exfalso; (simp only [decide_eq_true_eq, decide_eq_false_iff_not, beq_iff_eq, beq_eq_false_iff_ne, bne_iff_ne, bne_eq_false_iff_eq, List.length_map, Int.not_lt, Int.not_le] at hc); omega) | rw [hc])) | ((with_reducible refine ret1 ?_); first | (refine akc ?_) | (refine aec ?_)) | (with_reducible exact retN) | (with_reducible exact retP) | fail | fail)
      ((with_reducible refine is_aop ?_); refine a_loadSeqA (sz := 3) (rows := l.map trow) (i := i) (j := 0) rfl rfl rfl rfl rfl (tdOk l) ((by rw [List.getElem?_map, ht]; rfl)) (by first | decide | (simp; done)) rfl (by first | rfl | (simp; done) | (simp; omega)) ?_)
      repeat' (first | (refine awd1 ?_) | (((with_reducible refine is_aops ?_); refine o_split rfl rfl rfl (fun hc => ?_) (fun hc => ?_) <;> first | (exfalso; (simp only [decide_eq_true_eq, decide_eq_false_iff_not, beq_iff_eq, beq_eq_false_iff_ne, bne_iff_ne, bne_eq_false_iff_eq, List.length_map, Int.not_lt, Int.not_le] at hc); omega) | rw [hc])) | (((with_reducible refine is_cond ?_); refine c_cond rfl (fun hc => ?_) (fun hc => ?_) <;> first | (exfalso; (simp only [decide_eq_true_eq, decide_eq_false_iff_not, beq_iff_eq, beq_eq_false_iff_ne, bne_iff_ne, bne_eq_false_iff_eq, List.length_map, Int.not_lt, Int.not_le] at hc); omega) | skip)) | (((with_reducible refine is_aop ?_); refine a_pick rfl rfl (fun hc => ?_) (fun hc => ?_) <;> first | (exfalso; (simp only [decide_eq_true_eq, decide_eq_false_iff_not, beq_iff_eq, beq_eq_false_iff_ne, bne_iff_ne, bne_eq_false_iff_eq, List.length_map, Int.not_lt, Int.not_le] at hc); omega) | rw [hc])) | ((with_reducible refine ret1 ?_); first | (refine akc ?_) | (refine aec ?_)) | (with_reducible exact retN) | (with_reducible exact retP) | fail | fail)
      (refine cal [2, 3] (hk) ?_ ?_)
      · intro xx H' hh
        obtain ⟨cp', c1, c2, h', rfl⟩ := hh
        cases h'
        first | (refine akc ?_) | (refine aec ?_)
        repeat' (first | (refine awd1 ?_) | (((with_reducible refine is_aops ?_); refine o_split rfl rfl rfl (fun hc => ?_) (fun hc => ?_) <;> first | (exfalso; (simp only [decide_eq_true_eq, decide_eq_false_iff_not, beq_iff_eq, beq_eq_false_iff_ne, bne_iff_ne, bne_eq_false_iff_eq, List.length_map, Int.not_lt, Int.not_le] at hc); omega) | rw [hc])) | (((with_reducible refine is_cond ?_); refine c_cond rfl (fun hc => ?_) (fun hc => ?_) <;> first | (exfalso; (simp only [decide_eq_true_eq, decide_eq_false_iff_not, beq_iff_eq, beq_eq_false_iff_ne, bne_iff_ne, bne_eq_false_iff_eq, List.length_map, Int.not_lt, Int.not_le] at hc); omega) | skip)) | (((with_reducible refine is_aop ?_); refine a_pick rfl rfl (fun hc => ?_) (fun hc => ?_) <;> first | (exfalso; (simp only [decide_eq_true_eq, decide_eq_false_iff_not, beq_iff_eq, beq_eq_false_iff_ne, bne_iff_ne, bne_eq_false_iff_eq, List.length_map, Int.not_lt, Int.not_le] at hc); omega) | rw [hc])) | ((with_reducible refine ret1 ?_); first | (refine akc ?_) | (refine aec ?_)) | (with_reducible exact retN) | (with_reducible exact retP) | fail | fail)
        (refine k_loopLT (((cp', i + 1) : Nat × Nat)) 2 [0, 1, 2, 5] (by show i + 1 ≤ l.length ∧ (l.take (i + 1)).length ≤ cp' ∧ cp' ≤ maxLen; exact ⟨hi, c1, c2⟩) (by first | omega | (simp; done) | (simp; omega)) (Nat.le_of_ble_eq_true rfl) (fun _ h => h) (fun _ h => h) ?_ ?_); (focus ((try dsimp only); (repeat' (first | (with_reducible exact .nil) | (refine .cons ?_ ?_) | (exact Wk.dead _) | (with_reducible exact Wk.refl _) | (exact WkL.nil))) <;> (first | (exact Wk.eq rfl) | (exact Wk.dead _) | (exact Wk.free _ _) | (exact Wk.lit _) | (refine WkR.eq ?_; simp; done) | (refine Wk.rows ?_ _; ((repeat' (first | (with_reducible exact LDR.nil) | (with_reducible exact LDL.nil) | (refine LDR.cons ?_ ?_) | (refine LDL.cons ?_ ?_) | (exact LeD.refl _) | (exact LeD.free _ _) | (exact LDR.nil) | (exact LDL.nil)))); done) | (exact Wk.rows (ldr_rep _) _) | (refine Wk.eq ?_; rw [List.map_append]; rfl) | ((refine Wk.int (Eq.trans (z64 ?_ ?_) ?_)) <;> omega) | (refine Wk.int ?_; simp; done) | (refine Wk.int ?_; simp; omega) | (refine Wk.eq ?_; simp; done)))); (focus ((try dsimp only); (repeat' (first | (with_reducible exact WkH.nil) | (refine WkH.cons ?_ ?_) | (exact WkR.refl _) | (refine WkR.box _ ?_) | (refine WkR.eq ?_; simp; done) | (exact WkH.nil))) <;> ((repeat' (first | (with_reducible exact .nil) | (refine .cons ?_ ?_) | (exact Wk.dead _) | (with_reducible exact Wk.refl _) | (exact WkL.nil))) <;> (first | (exact Wk.eq rfl) | (exact Wk.dead _) | (exact Wk.free _ _) | (exact Wk.lit _) | (refine WkR.eq ?_; simp; done) | (refine Wk.rows ?_ _; ((repeat' (first | (with_reducible exact LDR.nil) | (with_reducible exact LDL.nil) | (refine LDR.cons ?_ ?_) | (refine LDL.cons ?_ ?_) | (exact LeD.refl _) | (exact LeD.free _ _) | (exact LDR.nil) | (exact LDL.nil)))); done) | (exact Wk.rows (ldr_rep _) _) | (refine Wk.eq ?_; rw [List.map_append]; rfl) | ((refine Wk.int (Eq.trans (z64 ?_ ?_) ?_)) <;> omega) | (refine Wk.int ?_; simp; done) | (refine Wk.int ?_; simp; omega) | (refine Wk.eq ?_; simp; done)))))
      · intro xx H' hh
        obtain ⟨_, _, _, h', _⟩ := hh
        cases h'
def c1L : List Td := [⟨0, 1073741824, []⟩]
def c2L : List Td := [⟨0, 1073741824, []⟩, ⟨255, 1, []⟩]
theorem nm1 : keep [] (-1) 5 [] = [] ∧ keeps [] (-1) 5 [] = false := ⟨rfl, rfl⟩
theorem nm2 : keep [] 256 5 [] = [] ∧ keeps [] 256 5 [] = false := ⟨rfl, rfl⟩
theorem nm3 : keep [] 0 0 [] = [] ∧ keeps [] 0 0 [] = false := ⟨rfl, rfl⟩
theorem nm4 : keep [] 0 1073741825 [] = [] ∧ keeps [] 0 1073741825 [] = false := ⟨rfl, rfl⟩
theorem nm5 : keep [] 0 1073741824 [] = c1L ∧ keeps [] 0 1073741824 [] = true := ⟨rfl, rfl⟩
theorem nm6 : keep c1L 255 1 [] = c2L ∧ keeps c1L 255 1 [] = true := ⟨rfl, rfl⟩
theorem nm7 : keep c2L 255 1 [] = c2L ∧ keeps c2L 255 1 [] = false := ⟨rfl, rfl⟩
theorem kz (l : List Td) (cp : Nat) (h0 : l.length ≤ 2) (c s : Int) (l2 : List Td) (b : Bool) (hb : ∀ t ∈ l, t.b = []) (hs : (tkeys l).Pairwise (· < ·)) (hk : keep l c s [] = l2 ∧ keeps l c s [] = b) (h1 : l.length ≤ cp) (h2 : cp ≤ maxLen) :
    ACalls Try.prog 16 2 3 [.ptr 0 0, .v (.int .i64 c), .v (.int .i64 s), .list (([] : List UInt8).map brow) .free] (ca l cp) (fun out H' => ∃ cp', l2.length ≤ cp' ∧ cp' ≤ maxLen ∧ out = .ret (.v (.bool b)) ∧ H' = caN 2 l2 cp') := by
  have := keep_c l c s [] cp (by omega) h1 h2 (fun t ht => by rw [hb t ht]; simp) (by simp) hs
  rwa [hk.1, hk.2] at this
def n1St (p7 cp i : Nat) : ASt := ⟨([.dead, .ptr 0 0, .list ((dl i).map trow) .free, .ptr 9 0, .v (.int .i64 i)] ++ List.replicate 129 .dead), caP 0 8 c2L p7 ++ caP 9 10 (dl i) cp, 11⟩
def n2St (D : List Td) (cp cp2 i : Nat) : ASt := ⟨([.dead, .dead, .list (D.map trow) .free, .ptr 9 0, .dead, .dead, .ptr 109 0, .v (.int .i64 i)] ++ List.replicate 126 .dead), caP 9 10 D cp ++ [(109, .box [.ptr 111 0])] ++ caP 111 112 D cp2, 2000⟩
set_option maxHeartbeats 3200000 in
theorem numbers_c : ACalls Try.prog 7 0 3000 [] [] (fun out H' => out = .ret (.v (.bool true)) ∧ H' = []) := by
  refine acalls_of tok dok (f := 7) ⟨Try.func7, rfl, by kernel_rfl⟩ ?_; refine c_start (fun _ h => h) ?_
  repeat' (first | (refine awd1 ?_) | (((with_reducible refine is_aops ?_); refine o_split rfl rfl rfl (fun hc => ?_) (fun hc => ?_) <;> first | (exfalso; (simp only [decide_eq_true_eq, decide_eq_false_iff_not, beq_iff_eq, beq_eq_false_iff_ne, bne_iff_ne, bne_eq_false_iff_eq, List.length_map, Int.not_lt, Int.not_le] at hc); omega) | rw [hc])) | (((with_reducible refine is_cond ?_); refine c_cond rfl (fun hc => ?_) (fun hc => ?_) <;> first | (exfalso; (simp only [decide_eq_true_eq, decide_eq_false_iff_not, beq_iff_eq, beq_eq_false_iff_ne, bne_iff_ne, bne_eq_false_iff_eq, List.length_map, Int.not_lt, Int.not_le] at hc); omega) | skip)) | (((with_reducible refine is_aop ?_); refine a_pick rfl rfl (fun hc => ?_) (fun hc => ?_) <;> first | (exfalso; (simp only [decide_eq_true_eq, decide_eq_false_iff_not, beq_iff_eq, beq_eq_false_iff_ne, bne_iff_ne, bne_eq_false_iff_eq, List.length_map, Int.not_lt, Int.not_le] at hc); omega) | rw [hc])) | ((with_reducible refine ret1 ?_); first | (refine akc ?_) | (refine aec ?_)) | (with_reducible exact retN) | (with_reducible exact retP) | (refine cal [] (new_cc) ?_ ?_) | fail)
  (refine calw [0, 1] (kz [] 0 (by decide) (-1) (5) [] false (by simp [c1L, c2L]) (by simp [tkeys, c1L, c2L]) nm1 (by simp) (by decide)) ?_ ?_)
  rotate_left
  · intro xx H' hh
    obtain ⟨_, _, _, h', _⟩ := hh
    cases h'
  intro xx H' hh
  obtain ⟨p1, r1, s1, h', rfl⟩ := hh
  cases h'
  first | (refine akc ?_) | (refine aec ?_)
  repeat' (first | (refine awd1 ?_) | (((with_reducible refine is_aops ?_); refine o_split rfl rfl rfl (fun hc => ?_) (fun hc => ?_) <;> first | (exfalso; (simp only [decide_eq_true_eq, decide_eq_false_iff_not, beq_iff_eq, beq_eq_false_iff_ne, bne_iff_ne, bne_eq_false_iff_eq, List.length_map, Int.not_lt, Int.not_le] at hc); omega) | rw [hc])) | (((with_reducible refine is_cond ?_); refine c_cond rfl (fun hc => ?_) (fun hc => ?_) <;> first | (exfalso; (simp only [decide_eq_true_eq, decide_eq_false_iff_not, beq_iff_eq, beq_eq_false_iff_ne, bne_iff_ne, bne_eq_false_iff_eq, List.length_map, Int.not_lt, Int.not_le] at hc); omega) | skip)) | (((with_reducible refine is_aop ?_); refine a_pick rfl rfl (fun hc => ?_) (fun hc => ?_) <;> first | (exfalso; (simp only [decide_eq_true_eq, decide_eq_false_iff_not, beq_iff_eq, beq_eq_false_iff_ne, bne_iff_ne, bne_eq_false_iff_eq, List.length_map, Int.not_lt, Int.not_le] at hc); omega) | rw [hc])) | ((with_reducible refine ret1 ?_); first | (refine akc ?_) | (refine aec ?_)) | (with_reducible exact retN) | (with_reducible exact retP) | (refine cal [] (new_cc) ?_ ?_) | fail)
  (refine calw [0, 2] (kz [] p1 (by decide) (256) (5) [] false (by simp [c1L, c2L]) (by simp [tkeys, c1L, c2L]) nm2 (r1) (s1)) ?_ ?_)
  rotate_left
  · intro xx H' hh
    obtain ⟨_, _, _, h', _⟩ := hh
    cases h'
  intro xx H' hh
  obtain ⟨p2, r2, s2, h', rfl⟩ := hh
  cases h'
  first | (refine akc ?_) | (refine aec ?_)
  repeat' (first | (refine awd1 ?_) | (((with_reducible refine is_aops ?_); refine o_split rfl rfl rfl (fun hc => ?_) (fun hc => ?_) <;> first | (exfalso; (simp only [decide_eq_true_eq, decide_eq_false_iff_not, beq_iff_eq, beq_eq_false_iff_ne, bne_iff_ne, bne_eq_false_iff_eq, List.length_map, Int.not_lt, Int.not_le] at hc); omega) | rw [hc])) | (((with_reducible refine is_cond ?_); refine c_cond rfl (fun hc => ?_) (fun hc => ?_) <;> first | (exfalso; (simp only [decide_eq_true_eq, decide_eq_false_iff_not, beq_iff_eq, beq_eq_false_iff_ne, bne_iff_ne, bne_eq_false_iff_eq, List.length_map, Int.not_lt, Int.not_le] at hc); omega) | skip)) | (((with_reducible refine is_aop ?_); refine a_pick rfl rfl (fun hc => ?_) (fun hc => ?_) <;> first | (exfalso; (simp only [decide_eq_true_eq, decide_eq_false_iff_not, beq_iff_eq, beq_eq_false_iff_ne, bne_iff_ne, bne_eq_false_iff_eq, List.length_map, Int.not_lt, Int.not_le] at hc); omega) | rw [hc])) | ((with_reducible refine ret1 ?_); first | (refine akc ?_) | (refine aec ?_)) | (with_reducible exact retN) | (with_reducible exact retP) | (refine cal [] (new_cc) ?_ ?_) | fail)
  (refine calw [0, 3] (kz [] p2 (by decide) (0) (0) [] false (by simp [c1L, c2L]) (by simp [tkeys, c1L, c2L]) nm3 (r2) (s2)) ?_ ?_)
  rotate_left
  · intro xx H' hh
    obtain ⟨_, _, _, h', _⟩ := hh
    cases h'
  intro xx H' hh
  obtain ⟨p3, r3, s3, h', rfl⟩ := hh
  cases h'
  first | (refine akc ?_) | (refine aec ?_)
  repeat' (first | (refine awd1 ?_) | (((with_reducible refine is_aops ?_); refine o_split rfl rfl rfl (fun hc => ?_) (fun hc => ?_) <;> first | (exfalso; (simp only [decide_eq_true_eq, decide_eq_false_iff_not, beq_iff_eq, beq_eq_false_iff_ne, bne_iff_ne, bne_eq_false_iff_eq, List.length_map, Int.not_lt, Int.not_le] at hc); omega) | rw [hc])) | (((with_reducible refine is_cond ?_); refine c_cond rfl (fun hc => ?_) (fun hc => ?_) <;> first | (exfalso; (simp only [decide_eq_true_eq, decide_eq_false_iff_not, beq_iff_eq, beq_eq_false_iff_ne, bne_iff_ne, bne_eq_false_iff_eq, List.length_map, Int.not_lt, Int.not_le] at hc); omega) | skip)) | (((with_reducible refine is_aop ?_); refine a_pick rfl rfl (fun hc => ?_) (fun hc => ?_) <;> first | (exfalso; (simp only [decide_eq_true_eq, decide_eq_false_iff_not, beq_iff_eq, beq_eq_false_iff_ne, bne_iff_ne, bne_eq_false_iff_eq, List.length_map, Int.not_lt, Int.not_le] at hc); omega) | rw [hc])) | ((with_reducible refine ret1 ?_); first | (refine akc ?_) | (refine aec ?_)) | (with_reducible exact retN) | (with_reducible exact retP) | (refine cal [] (new_cc) ?_ ?_) | fail)
  (refine calw [0, 4] (kz [] p3 (by decide) (0) (1073741825) [] false (by simp [c1L, c2L]) (by simp [tkeys, c1L, c2L]) nm4 (r3) (s3)) ?_ ?_)
  rotate_left
  · intro xx H' hh
    obtain ⟨_, _, _, h', _⟩ := hh
    cases h'
  intro xx H' hh
  obtain ⟨p4, r4, s4, h', rfl⟩ := hh
  cases h'
  first | (refine akc ?_) | (refine aec ?_)
  repeat' (first | (refine awd1 ?_) | (((with_reducible refine is_aops ?_); refine o_split rfl rfl rfl (fun hc => ?_) (fun hc => ?_) <;> first | (exfalso; (simp only [decide_eq_true_eq, decide_eq_false_iff_not, beq_iff_eq, beq_eq_false_iff_ne, bne_iff_ne, bne_eq_false_iff_eq, List.length_map, Int.not_lt, Int.not_le] at hc); omega) | rw [hc])) | (((with_reducible refine is_cond ?_); refine c_cond rfl (fun hc => ?_) (fun hc => ?_) <;> first | (exfalso; (simp only [decide_eq_true_eq, decide_eq_false_iff_not, beq_iff_eq, beq_eq_false_iff_ne, bne_iff_ne, bne_eq_false_iff_eq, List.length_map, Int.not_lt, Int.not_le] at hc); omega) | skip)) | (((with_reducible refine is_aop ?_); refine a_pick rfl rfl (fun hc => ?_) (fun hc => ?_) <;> first | (exfalso; (simp only [decide_eq_true_eq, decide_eq_false_iff_not, beq_iff_eq, beq_eq_false_iff_ne, bne_iff_ne, bne_eq_false_iff_eq, List.length_map, Int.not_lt, Int.not_le] at hc); omega) | rw [hc])) | ((with_reducible refine ret1 ?_); first | (refine akc ?_) | (refine aec ?_)) | (with_reducible exact retN) | (with_reducible exact retP) | (refine cal [] (new_cc) ?_ ?_) | fail)
  (refine calw [0, 5] (kz [] p4 (by decide) (0) (1073741824) c1L true (by simp [c1L, c2L]) (by simp [tkeys, c1L, c2L]) nm5 (r4) (s4)) ?_ ?_)
  rotate_left
  · intro xx H' hh
    obtain ⟨_, _, _, h', _⟩ := hh
    cases h'
  intro xx H' hh
  obtain ⟨p5, r5, s5, h', rfl⟩ := hh
  cases h'
  first | (refine akc ?_) | (refine aec ?_)
  repeat' (first | (refine awd1 ?_) | (((with_reducible refine is_aops ?_); refine o_split rfl rfl rfl (fun hc => ?_) (fun hc => ?_) <;> first | (exfalso; (simp only [decide_eq_true_eq, decide_eq_false_iff_not, beq_iff_eq, beq_eq_false_iff_ne, bne_iff_ne, bne_eq_false_iff_eq, List.length_map, Int.not_lt, Int.not_le] at hc); omega) | rw [hc])) | (((with_reducible refine is_cond ?_); refine c_cond rfl (fun hc => ?_) (fun hc => ?_) <;> first | (exfalso; (simp only [decide_eq_true_eq, decide_eq_false_iff_not, beq_iff_eq, beq_eq_false_iff_ne, bne_iff_ne, bne_eq_false_iff_eq, List.length_map, Int.not_lt, Int.not_le] at hc); omega) | skip)) | (((with_reducible refine is_aop ?_); refine a_pick rfl rfl (fun hc => ?_) (fun hc => ?_) <;> first | (exfalso; (simp only [decide_eq_true_eq, decide_eq_false_iff_not, beq_iff_eq, beq_eq_false_iff_ne, bne_iff_ne, bne_eq_false_iff_eq, List.length_map, Int.not_lt, Int.not_le] at hc); omega) | rw [hc])) | ((with_reducible refine ret1 ?_); first | (refine akc ?_) | (refine aec ?_)) | (with_reducible exact retN) | (with_reducible exact retP) | (refine cal [] (new_cc) ?_ ?_) | fail)
  (refine calw [0, 6] (kz c1L p5 (by decide) (255) (1) c2L true (by simp [c1L, c2L]) (by simp [tkeys, c1L, c2L]) nm6 (r5) (s5)) ?_ ?_)
  rotate_left
  · intro xx H' hh
    obtain ⟨_, _, _, h', _⟩ := hh
    cases h'
  intro xx H' hh
  obtain ⟨p6, r6, s6, h', rfl⟩ := hh
  cases h'
  first | (refine akc ?_) | (refine aec ?_)
  repeat' (first | (refine awd1 ?_) | (((with_reducible refine is_aops ?_); refine o_split rfl rfl rfl (fun hc => ?_) (fun hc => ?_) <;> first | (exfalso; (simp only [decide_eq_true_eq, decide_eq_false_iff_not, beq_iff_eq, beq_eq_false_iff_ne, bne_iff_ne, bne_eq_false_iff_eq, List.length_map, Int.not_lt, Int.not_le] at hc); omega) | rw [hc])) | (((with_reducible refine is_cond ?_); refine c_cond rfl (fun hc => ?_) (fun hc => ?_) <;> first | (exfalso; (simp only [decide_eq_true_eq, decide_eq_false_iff_not, beq_iff_eq, beq_eq_false_iff_ne, bne_iff_ne, bne_eq_false_iff_eq, List.length_map, Int.not_lt, Int.not_le] at hc); omega) | skip)) | (((with_reducible refine is_aop ?_); refine a_pick rfl rfl (fun hc => ?_) (fun hc => ?_) <;> first | (exfalso; (simp only [decide_eq_true_eq, decide_eq_false_iff_not, beq_iff_eq, beq_eq_false_iff_ne, bne_iff_ne, bne_eq_false_iff_eq, List.length_map, Int.not_lt, Int.not_le] at hc); omega) | rw [hc])) | ((with_reducible refine ret1 ?_); first | (refine akc ?_) | (refine aec ?_)) | (with_reducible exact retN) | (with_reducible exact retP) | (refine cal [] (new_cc) ?_ ?_) | fail)
  (refine calw [0, 7] (kz c2L p6 (by decide) (255) (1) c2L false (by simp [c1L, c2L]) (by simp [tkeys, c1L, c2L]) nm7 (r6) (s6)) ?_ ?_)
  rotate_left
  · intro xx H' hh
    obtain ⟨_, _, _, h', _⟩ := hh
    cases h'
  intro xx H' hh
  obtain ⟨p7, r7, s7, h', rfl⟩ := hh
  cases h'
  first | (refine akc ?_) | (refine aec ?_)
  repeat' (first | (refine awd1 ?_) | (((with_reducible refine is_aops ?_); refine o_split rfl rfl rfl (fun hc => ?_) (fun hc => ?_) <;> first | (exfalso; (simp only [decide_eq_true_eq, decide_eq_false_iff_not, beq_iff_eq, beq_eq_false_iff_ne, bne_iff_ne, bne_eq_false_iff_eq, List.length_map, Int.not_lt, Int.not_le] at hc); omega) | rw [hc])) | (((with_reducible refine is_cond ?_); refine c_cond rfl (fun hc => ?_) (fun hc => ?_) <;> first | (exfalso; (simp only [decide_eq_true_eq, decide_eq_false_iff_not, beq_iff_eq, beq_eq_false_iff_ne, bne_iff_ne, bne_eq_false_iff_eq, List.length_map, Int.not_lt, Int.not_le] at hc); omega) | skip)) | (((with_reducible refine is_aop ?_); refine a_pick rfl rfl (fun hc => ?_) (fun hc => ?_) <;> first | (exfalso; (simp only [decide_eq_true_eq, decide_eq_false_iff_not, beq_iff_eq, beq_eq_false_iff_ne, bne_iff_ne, bne_eq_false_iff_eq, List.length_map, Int.not_lt, Int.not_le] at hc); omega) | rw [hc])) | ((with_reducible refine ret1 ?_); first | (refine akc ?_) | (refine aec ?_)) | (with_reducible exact retN) | (with_reducible exact retP) | (refine cal [] (new_cc) ?_ ?_) | fail)
  refine c_loop2 (n1St p7) (fun cp i => i ≤ 256 ∧ i ≤ cp ∧ cp ≤ maxLen) (fun _ i => 256 - i) 0 0 ⟨by omega, by omega, by decide⟩ ?_ ?_
  · (refine Conv.toT ?_ ?_ (Nat.le_of_ble_eq_true rfl)); (focus ((unfold n1St); (try dsimp only); (repeat' (first | (with_reducible exact .nil) | (refine .cons ?_ ?_) | (exact Wk.dead _) | (with_reducible exact Wk.refl _) | (exact WkL.nil))) <;> (first | (exact Wk.eq rfl) | (exact Wk.dead _) | (exact Wk.free _ _) | (exact Wk.lit _) | (refine WkR.eq ?_; simp; done) | (refine Wk.rows ?_ _; ((repeat' (first | (with_reducible exact LDR.nil) | (with_reducible exact LDL.nil) | (refine LDR.cons ?_ ?_) | (refine LDL.cons ?_ ?_) | (exact LeD.refl _) | (exact LeD.free _ _) | (exact LDR.nil) | (exact LDL.nil)))); done) | (exact Wk.rows (ldr_rep _) _) | (refine Wk.eq ?_; rw [List.map_append]; rfl) | ((refine Wk.int (Eq.trans (z64 ?_ ?_) ?_)) <;> omega) | (refine Wk.int ?_; simp; done) | (refine Wk.int ?_; simp; omega) | (refine Wk.eq ?_; simp; done)))); (focus ((unfold n1St); (try dsimp only); (repeat' (first | (with_reducible exact WkH.nil) | (refine WkH.cons ?_ ?_) | (exact WkR.refl _) | (refine WkR.box _ ?_) | (refine WkR.eq ?_; simp; done) | (exact WkH.nil))) <;> ((repeat' (first | (with_reducible exact .nil) | (refine .cons ?_ ?_) | (exact Wk.dead _) | (with_reducible exact Wk.refl _) | (exact WkL.nil))) <;> (first | (exact Wk.eq rfl) | (exact Wk.dead _) | (exact Wk.free _ _) | (exact Wk.lit _) | (refine WkR.eq ?_; simp; done) | (refine Wk.rows ?_ _; ((repeat' (first | (with_reducible exact LDR.nil) | (with_reducible exact LDL.nil) | (refine LDR.cons ?_ ?_) | (refine LDL.cons ?_ ?_) | (exact LeD.refl _) | (exact LeD.free _ _) | (exact LDR.nil) | (exact LDL.nil)))); done) | (exact Wk.rows (ldr_rep _) _) | (refine Wk.eq ?_; rw [List.map_append]; rfl) | ((refine Wk.int (Eq.trans (z64 ?_ ?_) ?_)) <;> omega) | (refine Wk.int ?_; simp; done) | (refine Wk.int ?_; simp; omega) | (refine Wk.eq ?_; simp; done)))))
  · rintro cp i ⟨i1, i2, i3⟩
    refine c_turn (n' := 11) (fun _ h => h) (fun _ h => h) rfl ?_
    rcases Nat.lt_or_ge i 256 with hi | hi
    · have hdl := dl_lst (n := i) i1
      have hdn := dl_len i
      have hdb : ∀ t ∈ dl i, t.b.length < 1000000000 := fun t ht => by have := (hdl.ok t ht).2.2.2.2; omega
      have hk := keep_c (dl i) i (i + 1) [UInt8.ofNat i] cp (by omega) (by omega) i3 (fun t ht => by have := hdb t ht; omega) (by simp) hdl.sorted
      rw [dl_keep hi, dl_keeps hi] at hk
      have hrk := rkeep_c (dl i) i (i + 1) [UInt8.ofNat i] (by omega) hdb (by simp)
      rw [(dl_rkeep hi).1, (dl_rkeep hi).2] at hrk
      have hu : IntKind.u8.wrap ((i : Nat) : Int) = (((UInt8.ofNat i).toNat : Nat) : Int) := by
        rw [IntKind.wrap_u8, UInt8.toNat_ofNat_of_lt' (by show i < 256; omega)]; omega
      have hw : IntKind.i64.wrap ((i : Int) + 1) = (i : Int) + 1 := z64 (by omega) (by omega)
      repeat' (first | (refine awd1 ?_) | (((with_reducible refine is_aops ?_); refine o_split rfl rfl rfl (fun hc => ?_) (fun hc => ?_) <;> first | (exfalso; (simp only [decide_eq_true_eq, decide_eq_false_iff_not, beq_iff_eq, beq_eq_false_iff_ne, bne_iff_ne, bne_eq_false_iff_eq, List.length_map, Int.not_lt, Int.not_le] at hc); omega) | rw [hc])) | (((with_reducible refine is_cond ?_); refine c_cond rfl (fun hc => ?_) (fun hc => ?_) <;> first | (exfalso; (simp only [decide_eq_true_eq, decide_eq_false_iff_not, beq_iff_eq, beq_eq_false_iff_ne, bne_iff_ne, bne_eq_false_iff_eq, List.length_map, Int.not_lt, Int.not_le] at hc); omega) | skip)) | (((with_reducible refine is_aop ?_); refine a_pick rfl rfl (fun hc => ?_) (fun hc => ?_) <;> first | (exfalso; (simp only [decide_eq_true_eq, decide_eq_false_iff_not, beq_iff_eq, beq_eq_false_iff_ne, bne_iff_ne, bne_eq_false_iff_eq, List.length_map, Int.not_lt, Int.not_le] at hc); omega) | rw [hc])) | ((with_reducible refine ret1 ?_); first | (refine akc ?_) | (refine aec ?_)) | (with_reducible exact retN) | (with_reducible exact retP) | fail | fail)
      rw [hu, hw]
      (refine calw [9, 10] (hk) ?_ ?_)
      rotate_left
      · intro xx H' hh
        obtain ⟨_, _, _, h', _⟩ := hh
        cases h'
      intro xx H' hh
      obtain ⟨cp', c1, c2, h', rfl⟩ := hh
      rw [dl_len] at c1
      cases h'
      first | (refine akc ?_) | (refine aec ?_)
      repeat' (first | (refine awd1 ?_) | (((with_reducible refine is_aops ?_); refine o_split rfl rfl rfl (fun hc => ?_) (fun hc => ?_) <;> first | (exfalso; (simp only [decide_eq_true_eq, decide_eq_false_iff_not, beq_iff_eq, beq_eq_false_iff_ne, bne_iff_ne, bne_eq_false_iff_eq, List.length_map, Int.not_lt, Int.not_le] at hc); omega) | rw [hc])) | (((with_reducible refine is_cond ?_); refine c_cond rfl (fun hc => ?_) (fun hc => ?_) <;> first | (exfalso; (simp only [decide_eq_true_eq, decide_eq_false_iff_not, beq_iff_eq, beq_eq_false_iff_ne, bne_iff_ne, bne_eq_false_iff_eq, List.length_map, Int.not_lt, Int.not_le] at hc); omega) | skip)) | (((with_reducible refine is_aop ?_); refine a_pick rfl rfl (fun hc => ?_) (fun hc => ?_) <;> first | (exfalso; (simp only [decide_eq_true_eq, decide_eq_false_iff_not, beq_iff_eq, beq_eq_false_iff_ne, bne_iff_ne, bne_eq_false_iff_eq, List.length_map, Int.not_lt, Int.not_le] at hc); omega) | rw [hc])) | ((with_reducible refine ret1 ?_); first | (refine akc ?_) | (refine aec ?_)) | (with_reducible exact retN) | (with_reducible exact retP) | fail | fail)
      rw [hu, hw]
      (refine calw [] (hrk) ?_ ?_)
      rotate_left
      · first | (exact retN) | (exact retP)
      refine ret1 ?_; first | (refine akc ?_) | (refine aec ?_)
      repeat' (first | (refine awd1 ?_) | (((with_reducible refine is_aops ?_); refine o_split rfl rfl rfl (fun hc => ?_) (fun hc => ?_) <;> first | (exfalso; (simp only [decide_eq_true_eq, decide_eq_false_iff_not, beq_iff_eq, beq_eq_false_iff_ne, bne_iff_ne, bne_eq_false_iff_eq, List.length_map, Int.not_lt, Int.not_le] at hc); omega) | rw [hc])) | (((with_reducible refine is_cond ?_); refine c_cond rfl (fun hc => ?_) (fun hc => ?_) <;> first | (exfalso; (simp only [decide_eq_true_eq, decide_eq_false_iff_not, beq_iff_eq, beq_eq_false_iff_ne, bne_iff_ne, bne_eq_false_iff_eq, List.length_map, Int.not_lt, Int.not_le] at hc); omega) | skip)) | (((with_reducible refine is_aop ?_); refine a_pick rfl rfl (fun hc => ?_) (fun hc => ?_) <;> first | (exfalso; (simp only [decide_eq_true_eq, decide_eq_false_iff_not, beq_iff_eq, beq_eq_false_iff_ne, bne_iff_ne, bne_eq_false_iff_eq, List.length_map, Int.not_lt, Int.not_le] at hc); omega) | rw [hc])) | ((with_reducible refine ret1 ?_); first | (refine akc ?_) | (refine aec ?_)) | (with_reducible exact retN) | (with_reducible exact retP) | fail | fail)
      (refine k_loopLT (((cp', i + 1) : Nat × Nat)) 0 [0, 1, 2, 3, 4, 5, 6, 7, 8, 9, 11] (by show i + 1 ≤ 256 ∧ i + 1 ≤ cp' ∧ cp' ≤ maxLen; exact ⟨hi, c1, c2⟩) (by first | omega | (simp; done) | (simp; omega)) (Nat.le_of_ble_eq_true rfl) (fun _ h => h) (fun _ h => h) ?_ ?_); (focus ((try dsimp only); (repeat' (first | (with_reducible exact .nil) | (refine .cons ?_ ?_) | (exact Wk.dead _) | (with_reducible exact Wk.refl _) | (exact WkL.nil))) <;> (first | (exact Wk.eq rfl) | (exact Wk.dead _) | (exact Wk.free _ _) | (exact Wk.lit _) | (refine WkR.eq ?_; simp; done) | (refine Wk.rows ?_ _; ((repeat' (first | (with_reducible exact LDR.nil) | (with_reducible exact LDL.nil) | (refine LDR.cons ?_ ?_) | (refine LDL.cons ?_ ?_) | (exact LeD.refl _) | (exact LeD.free _ _) | (exact LDR.nil) | (exact LDL.nil)))); done) | (exact Wk.rows (ldr_rep _) _) | (refine Wk.eq ?_; rw [List.map_append]; rfl) | ((refine Wk.int (Eq.trans (z64 ?_ ?_) ?_)) <;> omega) | (refine Wk.int ?_; simp; done) | (refine Wk.int ?_; simp; omega) | (refine Wk.eq ?_; simp; done)))); (focus ((try dsimp only); (repeat' (first | (with_reducible exact WkH.nil) | (refine WkH.cons ?_ ?_) | (exact WkR.refl _) | (refine WkR.box _ ?_) | (refine WkR.eq ?_; simp; done) | (exact WkH.nil))) <;> ((repeat' (first | (with_reducible exact .nil) | (refine .cons ?_ ?_) | (exact Wk.dead _) | (with_reducible exact Wk.refl _) | (exact WkL.nil))) <;> (first | (exact Wk.eq rfl) | (exact Wk.dead _) | (exact Wk.free _ _) | (exact Wk.lit _) | (refine WkR.eq ?_; simp; done) | (refine Wk.rows ?_ _; ((repeat' (first | (with_reducible exact LDR.nil) | (with_reducible exact LDL.nil) | (refine LDR.cons ?_ ?_) | (refine LDL.cons ?_ ?_) | (exact LeD.refl _) | (exact LeD.free _ _) | (exact LDR.nil) | (exact LDL.nil)))); done) | (exact Wk.rows (ldr_rep _) _) | (refine Wk.eq ?_; rw [List.map_append]; rfl) | ((refine Wk.int (Eq.trans (z64 ?_ ?_) ?_)) <;> omega) | (refine Wk.int ?_; simp; done) | (refine Wk.int ?_; simp; omega) | (refine Wk.eq ?_; simp; done)))))
    · have : i = 256 := by omega
      subst this
      have hD := dl_lst (n := 256) (by omega)
      have hDl := dl_len 256
      have hlk := fun (i : Nat) (s : Int) (ce : Nat) => looks_c (dl 256) (dl 256) i s ce hD (.refl _)
      have hpc0 : pC (encC (dl 256)) = some (dl 256, []) := by have := pC_enc hD []; rwa [List.append_nil] at this
      have hxl : 4 ≤ (encC (dl 256)).length ∧ (encC (dl 256)).length ≤ 300000000 := by
        have := encL_len (dl 256) hD.ok
        unfold encC
        rw [List.length_append, be_len]; omega
      have hwt := write_cc (dl 256) cp hD
      generalize hDD : dl 256 = D at *
      generalize hx : encC D = x at *
      have hdn := done_c x (by omega)
      repeat' (first | (refine awd1 ?_) | (((with_reducible refine is_aops ?_); refine o_split rfl rfl rfl (fun hc => ?_) (fun hc => ?_) <;> first | (exfalso; (simp only [decide_eq_true_eq, decide_eq_false_iff_not, beq_iff_eq, beq_eq_false_iff_ne, bne_iff_ne, bne_eq_false_iff_eq, List.length_map, Int.not_lt, Int.not_le] at hc); omega) | rw [hc])) | (((with_reducible refine is_cond ?_); refine c_cond rfl (fun hc => ?_) (fun hc => ?_) <;> first | (exfalso; (simp only [decide_eq_true_eq, decide_eq_false_iff_not, beq_iff_eq, beq_eq_false_iff_ne, bne_iff_ne, bne_eq_false_iff_eq, List.length_map, Int.not_lt, Int.not_le] at hc); omega) | skip)) | (((with_reducible refine is_aop ?_); refine a_pick rfl rfl (fun hc => ?_) (fun hc => ?_) <;> first | (exfalso; (simp only [decide_eq_true_eq, decide_eq_false_iff_not, beq_iff_eq, beq_eq_false_iff_ne, bne_iff_ne, bne_eq_false_iff_eq, List.length_map, Int.not_lt, Int.not_le] at hc); omega) | rw [hc])) | ((with_reducible refine ret1 ?_); first | (refine akc ?_) | (refine aec ?_)) | (with_reducible exact retN) | (with_reducible exact retP) | (refine cal [] (new_c) ?_ ?_) | (refine cal [9, 10, 11, 12] (hwt) ?_ ?_) | (refine cal [11, 12] (hdn) ?_ ?_) | fail)
      (refine cal [109] (nuread_c x (by omega) D hpc0) ?_ ?_)
      rotate_left
      · intro xx H' hh
        obtain ⟨_, _, _, _, h', _⟩ := hh
        cases h'
      intro xx H' hh
      obtain ⟨cp2, _, c1, c2, h', rfl⟩ := hh
      cases h'
      first | (refine akc ?_) | (refine aec ?_)
      have hs1 := same_cc D D cp cp2 (by omega) (by omega)
      rw [sameL_refl] at hs1
      have hs2 := same_cc c2L D p7 cp (by decide) (by omega)
      rw [sameL_len c2L D (by rw [hDl]; decide)] at hs2
      repeat' (first | (refine awd1 ?_) | (((with_reducible refine is_aops ?_); refine o_split rfl rfl rfl (fun hc => ?_) (fun hc => ?_) <;> first | (exfalso; (simp only [decide_eq_true_eq, decide_eq_false_iff_not, beq_iff_eq, beq_eq_false_iff_ne, bne_iff_ne, bne_eq_false_iff_eq, List.length_map, Int.not_lt, Int.not_le] at hc); omega) | rw [hc])) | (((with_reducible refine is_cond ?_); refine c_cond rfl (fun hc => ?_) (fun hc => ?_) <;> first | (exfalso; (simp only [decide_eq_true_eq, decide_eq_false_iff_not, beq_iff_eq, beq_eq_false_iff_ne, bne_iff_ne, bne_eq_false_iff_eq, List.length_map, Int.not_lt, Int.not_le] at hc); omega) | skip)) | (((with_reducible refine is_aop ?_); refine a_pick rfl rfl (fun hc => ?_) (fun hc => ?_) <;> first | (exfalso; (simp only [decide_eq_true_eq, decide_eq_false_iff_not, beq_iff_eq, beq_eq_false_iff_ne, bne_iff_ne, bne_eq_false_iff_eq, List.length_map, Int.not_lt, Int.not_le] at hc); omega) | rw [hc])) | ((with_reducible refine ret1 ?_); first | (refine akc ?_) | (refine aec ?_)) | (with_reducible exact retN) | (with_reducible exact retP) | (refine cal [9, 10, 111, 112] (hs1) ?_ ?_) | (refine cal [0, 8, 9, 10] (hs2) ?_ ?_) | (refine cal [111, 112] (len_cc D cp2) ?_ ?_) | fail)
      refine c_loop' (n2St D cp cp2) (fun i => i ≤ 256) (fun i => 256 - i) (a := 0) (by omega) ?_ ?_
      · (refine Conv.toT ?_ ?_ (Nat.le_of_ble_eq_true rfl)); (focus ((unfold n2St); (try dsimp only); (repeat' (first | (with_reducible exact .nil) | (refine .cons ?_ ?_) | (exact Wk.dead _) | (with_reducible exact Wk.refl _) | (exact WkL.nil))) <;> (first | (exact Wk.eq rfl) | (exact Wk.dead _) | (exact Wk.free _ _) | (exact Wk.lit _) | (refine WkR.eq ?_; simp; done) | (refine Wk.rows ?_ _; ((repeat' (first | (with_reducible exact LDR.nil) | (with_reducible exact LDL.nil) | (refine LDR.cons ?_ ?_) | (refine LDL.cons ?_ ?_) | (exact LeD.refl _) | (exact LeD.free _ _) | (exact LDR.nil) | (exact LDL.nil)))); done) | (exact Wk.rows (ldr_rep _) _) | (refine Wk.eq ?_; rw [List.map_append]; rfl) | ((refine Wk.int (Eq.trans (z64 ?_ ?_) ?_)) <;> omega) | (refine Wk.int ?_; simp; done) | (refine Wk.int ?_; simp; omega) | (refine Wk.eq ?_; simp; done)))); (focus ((unfold n2St); (try dsimp only); (repeat' (first | (with_reducible exact WkH.nil) | (refine WkH.cons ?_ ?_) | (exact WkR.refl _) | (refine WkR.box _ ?_) | (refine WkR.eq ?_; simp; done) | (exact WkH.nil))) <;> ((repeat' (first | (with_reducible exact .nil) | (refine .cons ?_ ?_) | (exact Wk.dead _) | (with_reducible exact Wk.refl _) | (exact WkL.nil))) <;> (first | (exact Wk.eq rfl) | (exact Wk.dead _) | (exact Wk.free _ _) | (exact Wk.lit _) | (refine WkR.eq ?_; simp; done) | (refine Wk.rows ?_ _; ((repeat' (first | (with_reducible exact LDR.nil) | (with_reducible exact LDL.nil) | (refine LDR.cons ?_ ?_) | (refine LDL.cons ?_ ?_) | (exact LeD.refl _) | (exact LeD.free _ _) | (exact LDR.nil) | (exact LDL.nil)))); done) | (exact Wk.rows (ldr_rep _) _) | (refine Wk.eq ?_; rw [List.map_append]; rfl) | ((refine Wk.int (Eq.trans (z64 ?_ ?_) ?_)) <;> omega) | (refine Wk.int ?_; simp; done) | (refine Wk.int ?_; simp; omega) | (refine Wk.eq ?_; simp; done)))))
      · rintro i i0
        refine c_turn (n' := 2000) (fun _ h => h) (fun _ h => h) rfl ?_
        rcases Nat.lt_or_ge i 256 with hi | hi
        · repeat' (first | (refine awd1 ?_) | (((with_reducible refine is_aops ?_); refine o_split rfl rfl rfl (fun hc => ?_) (fun hc => ?_) <;> first | (exfalso; (simp only [decide_eq_true_eq, decide_eq_false_iff_not, beq_iff_eq, beq_eq_false_iff_ne, bne_iff_ne, bne_eq_false_iff_eq, List.length_map, Int.not_lt, Int.not_le] at hc); omega) | rw [hc])) | (((with_reducible refine is_cond ?_); refine c_cond rfl (fun hc => ?_) (fun hc => ?_) <;> first | (exfalso; (simp only [decide_eq_true_eq, decide_eq_false_iff_not, beq_iff_eq, beq_eq_false_iff_ne, bne_iff_ne, bne_eq_false_iff_eq, List.length_map, Int.not_lt, Int.not_le] at hc); omega) | skip)) | (((with_reducible refine is_aop ?_); refine a_pick rfl rfl (fun hc => ?_) (fun hc => ?_) <;> first | (exfalso; (simp only [decide_eq_true_eq, decide_eq_false_iff_not, beq_iff_eq, beq_eq_false_iff_ne, bne_iff_ne, bne_eq_false_iff_eq, List.length_map, Int.not_lt, Int.not_le] at hc); omega) | rw [hc])) | ((with_reducible refine ret1 ?_); first | (refine akc ?_) | (refine aec ?_)) | (with_reducible exact retN) | (with_reducible exact retP) | (refine cal [111, 112] (hlk i _ cp2) ?_ ?_) | fail)
          (refine k_loopT (i + 1) (by show i + 1 ≤ 256; exact hi) (by first | omega | (simp; done) | (simp; omega)) ?_ ?_); (focus ((unfold n2St); (try dsimp only); (repeat' (first | (with_reducible exact .nil) | (refine .cons ?_ ?_) | (exact Wk.dead _) | (with_reducible exact Wk.refl _) | (exact WkL.nil))) <;> (first | (exact Wk.eq rfl) | (exact Wk.dead _) | (exact Wk.free _ _) | (exact Wk.lit _) | (refine WkR.eq ?_; simp; done) | (refine Wk.rows ?_ _; ((repeat' (first | (with_reducible exact LDR.nil) | (with_reducible exact LDL.nil) | (refine LDR.cons ?_ ?_) | (refine LDL.cons ?_ ?_) | (exact LeD.refl _) | (exact LeD.free _ _) | (exact LDR.nil) | (exact LDL.nil)))); done) | (exact Wk.rows (ldr_rep _) _) | (refine Wk.eq ?_; rw [List.map_append]; rfl) | ((refine Wk.int (Eq.trans (z64 ?_ ?_) ?_)) <;> omega) | (refine Wk.int ?_; simp; done) | (refine Wk.int ?_; simp; omega) | (refine Wk.eq ?_; simp; done)))); (focus ((unfold n2St); (try dsimp only); (repeat' (first | (with_reducible exact WkH.nil) | (refine WkH.cons ?_ ?_) | (exact WkR.refl _) | (refine WkR.box _ ?_) | (refine WkR.eq ?_; simp; done) | (exact WkH.nil))) <;> ((repeat' (first | (with_reducible exact .nil) | (refine .cons ?_ ?_) | (exact Wk.dead _) | (with_reducible exact Wk.refl _) | (exact WkL.nil))) <;> (first | (exact Wk.eq rfl) | (exact Wk.dead _) | (exact Wk.free _ _) | (exact Wk.lit _) | (refine WkR.eq ?_; simp; done) | (refine Wk.rows ?_ _; ((repeat' (first | (with_reducible exact LDR.nil) | (with_reducible exact LDL.nil) | (refine LDR.cons ?_ ?_) | (refine LDL.cons ?_ ?_) | (exact LeD.refl _) | (exact LeD.free _ _) | (exact LDR.nil) | (exact LDL.nil)))); done) | (exact Wk.rows (ldr_rep _) _) | (refine Wk.eq ?_; rw [List.map_append]; rfl) | ((refine Wk.int (Eq.trans (z64 ?_ ?_) ?_)) <;> omega) | (refine Wk.int ?_; simp; done) | (refine Wk.int ?_; simp; omega) | (refine Wk.eq ?_; simp; done)))))
        · have : i = 256 := by omega
          subst this
          repeat' (first | (refine awd1 ?_) | (((with_reducible refine is_aops ?_); refine o_split rfl rfl rfl (fun hc => ?_) (fun hc => ?_) <;> first | (exfalso; (simp only [decide_eq_true_eq, decide_eq_false_iff_not, beq_iff_eq, beq_eq_false_iff_ne, bne_iff_ne, bne_eq_false_iff_eq, List.length_map, Int.not_lt, Int.not_le] at hc); omega) | rw [hc])) | (((with_reducible refine is_cond ?_); refine c_cond rfl (fun hc => ?_) (fun hc => ?_) <;> first | (exfalso; (simp only [decide_eq_true_eq, decide_eq_false_iff_not, beq_iff_eq, beq_eq_false_iff_ne, bne_iff_ne, bne_eq_false_iff_eq, List.length_map, Int.not_lt, Int.not_le] at hc); omega) | skip)) | (((with_reducible refine is_aop ?_); refine a_pick rfl rfl (fun hc => ?_) (fun hc => ?_) <;> first | (exfalso; (simp only [decide_eq_true_eq, decide_eq_false_iff_not, beq_iff_eq, beq_eq_false_iff_ne, bne_iff_ne, bne_eq_false_iff_eq, List.length_map, Int.not_lt, Int.not_le] at hc); omega) | rw [hc])) | ((with_reducible refine ret1 ?_); first | (refine akc ?_) | (refine aec ?_)) | (with_reducible exact retN) | (with_reducible exact retP) | fail | fail)
          (refine cal [9, 10] (joinZ_c D cp hD (by omega) i3) ?_ ?_)
          rotate_left
          · intro xx H' hh
            obtain ⟨_, _, _, h', _⟩ := hh
            cases h'
          intro xx H' hh
          obtain ⟨cp3, d1, d2, h', rfl⟩ := hh
          cases h'
          first | (refine akc ?_) | (refine aec ?_)
          have hs3 := same_cc D D cp3 cp (by omega) (by omega)
          rw [sameL_refl] at hs3
          repeat' (first | (refine awd1 ?_) | (((with_reducible refine is_aops ?_); refine o_split rfl rfl rfl (fun hc => ?_) (fun hc => ?_) <;> first | (exfalso; (simp only [decide_eq_true_eq, decide_eq_false_iff_not, beq_iff_eq, beq_eq_false_iff_ne, bne_iff_ne, bne_eq_false_iff_eq, List.length_map, Int.not_lt, Int.not_le] at hc); omega) | rw [hc])) | (((with_reducible refine is_cond ?_); refine c_cond rfl (fun hc => ?_) (fun hc => ?_) <;> first | (exfalso; (simp only [decide_eq_true_eq, decide_eq_false_iff_not, beq_iff_eq, beq_eq_false_iff_ne, bne_iff_ne, bne_eq_false_iff_eq, List.length_map, Int.not_lt, Int.not_le] at hc); omega) | skip)) | (((with_reducible refine is_aop ?_); refine a_pick rfl rfl (fun hc => ?_) (fun hc => ?_) <;> first | (exfalso; (simp only [decide_eq_true_eq, decide_eq_false_iff_not, beq_iff_eq, beq_eq_false_iff_ne, bne_iff_ne, bne_eq_false_iff_eq, List.length_map, Int.not_lt, Int.not_le] at hc); omega) | rw [hc])) | ((with_reducible refine ret1 ?_); first | (refine akc ?_) | (refine aec ?_)) | (with_reducible exact retN) | (with_reducible exact retP) | (refine cal [2000, 2001, 9, 10] (hs3) ?_ ?_) | (refine cal [] (known_cc) ?_ ?_) | fail)
          all_goals (refine e_ret (H' := []) (rest := _) rfl ⟨congrArg (fun z => AOut.ret (.v (.bool z))) ?_, rfl⟩ (.refl _) (Nat.le_of_ble_eq_true rfl); rfl)
end Go.Proofs.Ytdahnjdkghbieaa
