/- once: joined, each client has the greater number. -/
import Derived.Test.YtdahnjdkghbieaaOnK
import Derived.Test.YtdahnjdkghbieaaOnG
namespace Go.Proofs.Ytdahnjdkghbieaa
open Go.Am
set_option linter.unusedSimpArgs false
set_option linter.unusedVariables false
set_option maxRecDepth 100000
theorem play_c2 (L : List Ck) (hL : L.length ≤ 9223372036854775807) : ACalls Try.prog 12 0 2 [.list (L.map krow) .free] [] (fun out H' => ∃ l m cp, Both l m cp ∧ out = .ret (.tuple [.ptr 0 0, .list (m.map trow) .free, .v (.bool true)]) ∧ H' = caP 0 1 l cp) :=
  (play_c L hL).ren (by omega) fun out H' hh => by
    obtain ⟨l, m, cp, hB, rfl, rfl⟩ := hh
    refine ⟨[0, 1], .ret (.tuple [.ptr 0 0, .list (m.map trow) .free, .v (.bool true)]), caP 0 1 l cp, by decide, by decide, fun i h => by omega, by decide, ?_, ?_, l, m, cp, hB, rfl, rfl⟩
    · simp [AOut.ren, AV.ren, AV.renL, rn, Own.ren]
    · rw [caP_ren 0 1 0 1 _ rfl rfl]; rfl
def ojSt (l l2 x y j r m : List Td) (cp cp2 cpj cpr i : Nat) : ASt := ⟨(List.replicate 5 .dead ++ [.ptr 0 0, .list (x.map trow) .free, .dead, .ptr 2 0, .list (y.map trow) .free, .dead, .ptr 4 0, .ptr 6 0, .list (m.map trow) .free, .v (.int .i64 i)] ++ List.replicate 115 .dead), caP 0 1 l cp ++ caP 2 3 l2 cp2 ++ caP 4 5 j cpj ++ caP 6 7 r cpr, 1000⟩
set_option maxHeartbeats 3200000 in
theorem joins_c (L K : List Ck) (hL : L.length ≤ 9223372036854775807) (hK : K.length ≤ 9223372036854775807) : ACalls Try.prog 5 0 3000 [.list (L.map krow) .free, .list (K.map krow) .free] [] (fun out H' => out = .ret (.v (.bool true)) ∧ H' = []) := by
  have hp := play_c2 L hL
  have hp2 := play_c2 K hK
  refine acalls_of tok dok (f := 5) ⟨Try.func5, rfl, by kernel_rfl⟩ ?_; refine c_start (fun _ h => h) ?_
  repeat' (first | (refine awd1 ?_) | (((with_reducible refine is_aops ?_); refine o_split rfl rfl rfl (fun hc => ?_) (fun hc => ?_) <;> first | (exfalso; (simp only [decide_eq_true_eq, decide_eq_false_iff_not, beq_iff_eq, beq_eq_false_iff_ne, bne_iff_ne, bne_eq_false_iff_eq, List.length_map, Int.not_lt, Int.not_le] at hc); omega) | rw [hc])) | (((with_reducible refine is_cond ?_); refine c_cond rfl (fun hc => ?_) (fun hc => ?_) <;> first | (exfalso; (simp only [decide_eq_true_eq, decide_eq_false_iff_not, beq_iff_eq, beq_eq_false_iff_ne, bne_iff_ne, bne_eq_false_iff_eq, List.length_map, Int.not_lt, Int.not_le] at hc); omega) | skip)) | (((with_reducible refine is_aop ?_); refine a_pick rfl rfl (fun hc => ?_) (fun hc => ?_) <;> first | (exfalso; (simp only [decide_eq_true_eq, decide_eq_false_iff_not, beq_iff_eq, beq_eq_false_iff_ne, bne_iff_ne, bne_eq_false_iff_eq, List.length_map, Int.not_lt, Int.not_le] at hc); omega) | rw [hc])) | ((with_reducible refine ret1 ?_); first | (refine akc ?_) | (refine aec ?_)) | (with_reducible exact retN) | (with_reducible exact retP) | fail | fail)
  (refine cal [] (hp) ?_ ?_)
  · intro xx H' hh
    obtain ⟨l, x, cp, hB, h', rfl⟩ := hh
    cases h'
    first | (refine akc ?_) | (refine aec ?_)
    repeat' (first | (refine awd1 ?_) | (((with_reducible refine is_aops ?_); refine o_split rfl rfl rfl (fun hc => ?_) (fun hc => ?_) <;> first | (exfalso; (simp only [decide_eq_true_eq, decide_eq_false_iff_not, beq_iff_eq, beq_eq_false_iff_ne, bne_iff_ne, bne_eq_false_iff_eq, List.length_map, Int.not_lt, Int.not_le] at hc); omega) | rw [hc])) | (((with_reducible refine is_cond ?_); refine c_cond rfl (fun hc => ?_) (fun hc => ?_) <;> first | (exfalso; (simp only [decide_eq_true_eq, decide_eq_false_iff_not, beq_iff_eq, beq_eq_false_iff_ne, bne_iff_ne, bne_eq_false_iff_eq, List.length_map, Int.not_lt, Int.not_le] at hc); omega) | skip)) | (((with_reducible refine is_aop ?_); refine a_pick rfl rfl (fun hc => ?_) (fun hc => ?_) <;> first | (exfalso; (simp only [decide_eq_true_eq, decide_eq_false_iff_not, beq_iff_eq, beq_eq_false_iff_ne, bne_iff_ne, bne_eq_false_iff_eq, List.length_map, Int.not_lt, Int.not_le] at hc); omega) | rw [hc])) | ((with_reducible refine ret1 ?_); first | (refine akc ?_) | (refine aec ?_)) | (with_reducible exact retN) | (with_reducible exact retP) | fail | fail)
    (refine cal [] (hp2) ?_ ?_)
    · intro xx H' hh
      obtain ⟨l2, y, cp2, hB2, h', rfl⟩ := hh
      cases h'
      first | (refine akc ?_) | (refine aec ?_)
      repeat' (first | (refine awd1 ?_) | (((with_reducible refine is_aops ?_); refine o_split rfl rfl rfl (fun hc => ?_) (fun hc => ?_) <;> first | (exfalso; (simp only [decide_eq_true_eq, decide_eq_false_iff_not, beq_iff_eq, beq_eq_false_iff_ne, bne_iff_ne, bne_eq_false_iff_eq, List.length_map, Int.not_lt, Int.not_le] at hc); omega) | rw [hc])) | (((with_reducible refine is_cond ?_); refine c_cond rfl (fun hc => ?_) (fun hc => ?_) <;> first | (exfalso; (simp only [decide_eq_true_eq, decide_eq_false_iff_not, beq_iff_eq, beq_eq_false_iff_ne, bne_iff_ne, bne_eq_false_iff_eq, List.length_map, Int.not_lt, Int.not_le] at hc); omega) | skip)) | (((with_reducible refine is_aop ?_); refine a_pick rfl rfl (fun hc => ?_) (fun hc => ?_) <;> first | (exfalso; (simp only [decide_eq_true_eq, decide_eq_false_iff_not, beq_iff_eq, beq_eq_false_iff_ne, bne_iff_ne, bne_eq_false_iff_eq, List.length_map, Int.not_lt, Int.not_le] at hc); omega) | rw [hc])) | ((with_reducible refine ret1 ?_); first | (refine akc ?_) | (refine aec ?_)) | (with_reducible exact retN) | (with_reducible exact retP) | fail | fail)
      (refine cal [0, 1, 2, 3] (join_cc l l2 cp cp2 hB.lst hB.room hB.cap hB2.lst hB2.room hB2.cap) ?_ ?_)
      · intro xx H' hh
        obtain ⟨cpj, c1, c2, h', rfl⟩ := hh
        cases h'
        first | (refine akc ?_) | (refine aec ?_)
        repeat' (first | (refine awd1 ?_) | (((with_reducible refine is_aops ?_); refine o_split rfl rfl rfl (fun hc => ?_) (fun hc => ?_) <;> first | (exfalso; (simp only [decide_eq_true_eq, decide_eq_false_iff_not, beq_iff_eq, beq_eq_false_iff_ne, bne_iff_ne, bne_eq_false_iff_eq, List.length_map, Int.not_lt, Int.not_le] at hc); omega) | rw [hc])) | (((with_reducible refine is_cond ?_); refine c_cond rfl (fun hc => ?_) (fun hc => ?_) <;> first | (exfalso; (simp only [decide_eq_true_eq, decide_eq_false_iff_not, beq_iff_eq, beq_eq_false_iff_ne, bne_iff_ne, bne_eq_false_iff_eq, List.length_map, Int.not_lt, Int.not_le] at hc); omega) | skip)) | (((with_reducible refine is_aop ?_); refine a_pick rfl rfl (fun hc => ?_) (fun hc => ?_) <;> first | (exfalso; (simp only [decide_eq_true_eq, decide_eq_false_iff_not, beq_iff_eq, beq_eq_false_iff_ne, bne_iff_ne, bne_eq_false_iff_eq, List.length_map, Int.not_lt, Int.not_le] at hc); omega) | rw [hc])) | ((with_reducible refine ret1 ?_); first | (refine akc ?_) | (refine aec ?_)) | (with_reducible exact retN) | (with_reducible exact retP) | fail | fail)
        (refine cal [2, 3, 0, 1] (join_cc l2 l cp2 cp hB2.lst hB2.room hB2.cap hB.lst hB.room hB.cap) ?_ ?_)
        · intro xx H' hh
          obtain ⟨cpr, d1, d2, h', rfl⟩ := hh
          cases h'
          first | (refine akc ?_) | (refine aec ?_)
          have hJ := joinL_lst hB.lst l2
          have hR := joinL_lst hB2.lst l
          have hP := joinL_all hB.lst hB.perm hB2.lst hB2.perm
          have hlen : (joinL l2 l).length = (joinL l l2).length := join_len hB.lst hB2.lst
          have hml : (rjoin x y).length = (joinL l l2).length := hP.length_eq.symm
          have hlo := fun {t : Td} => look_other (t := t) hB.lst hB2.lst
          have hJl := hJ.len
          repeat' (first | (refine awd1 ?_) | (((with_reducible refine is_aops ?_); refine o_split rfl rfl rfl (fun hc => ?_) (fun hc => ?_) <;> first | (exfalso; (simp only [decide_eq_true_eq, decide_eq_false_iff_not, beq_iff_eq, beq_eq_false_iff_ne, bne_iff_ne, bne_eq_false_iff_eq, List.length_map, Int.not_lt, Int.not_le] at hc); omega) | rw [hc])) | (((with_reducible refine is_cond ?_); refine c_cond rfl (fun hc => ?_) (fun hc => ?_) <;> first | (exfalso; (simp only [decide_eq_true_eq, decide_eq_false_iff_not, beq_iff_eq, beq_eq_false_iff_ne, bne_iff_ne, bne_eq_false_iff_eq, List.length_map, Int.not_lt, Int.not_le] at hc); omega) | skip)) | (((with_reducible refine is_aop ?_); refine a_pick rfl rfl (fun hc => ?_) (fun hc => ?_) <;> first | (exfalso; (simp only [decide_eq_true_eq, decide_eq_false_iff_not, beq_iff_eq, beq_eq_false_iff_ne, bne_iff_ne, bne_eq_false_iff_eq, List.length_map, Int.not_lt, Int.not_le] at hc); omega) | rw [hc])) | ((with_reducible refine ret1 ?_); first | (refine akc ?_) | (refine aec ?_)) | (with_reducible exact retN) | (with_reducible exact retP) | (refine cal [] (rjoin_c x y l l2 hB.lst hB.perm hB2.lst hB2.perm) ?_ ?_) | fail)
          generalize hj : joinL l l2 = j at *
          generalize hr : joinL l2 l = r at *
          generalize hm : rjoin x y = m at *
          have hBj : Both j m cpj := ⟨hJ, hP, c1, c2⟩
          have hlx : x.length = l.length := hB.perm.length_eq.symm
          have hly : y.length = l2.length := hB2.perm.length_eq.symm
          repeat' (first | (refine awd1 ?_) | (((with_reducible refine is_aops ?_); refine o_split rfl rfl rfl (fun hc => ?_) (fun hc => ?_) <;> first | (exfalso; (simp only [decide_eq_true_eq, decide_eq_false_iff_not, beq_iff_eq, beq_eq_false_iff_ne, bne_iff_ne, bne_eq_false_iff_eq, List.length_map, Int.not_lt, Int.not_le] at hc); omega) | rw [hc])) | (((with_reducible refine is_cond ?_); refine c_cond rfl (fun hc => ?_) (fun hc => ?_) <;> first | (exfalso; (simp only [decide_eq_true_eq, decide_eq_false_iff_not, beq_iff_eq, beq_eq_false_iff_ne, bne_iff_ne, bne_eq_false_iff_eq, List.length_map, Int.not_lt, Int.not_le] at hc); omega) | skip)) | (((with_reducible refine is_aop ?_); refine a_pick rfl rfl (fun hc => ?_) (fun hc => ?_) <;> first | (exfalso; (simp only [decide_eq_true_eq, decide_eq_false_iff_not, beq_iff_eq, beq_eq_false_iff_ne, bne_iff_ne, bne_eq_false_iff_eq, List.length_map, Int.not_lt, Int.not_le] at hc); omega) | rw [hc])) | ((with_reducible refine ret1 ?_); first | (refine akc ?_) | (refine aec ?_)) | (with_reducible exact retN) | (with_reducible exact retP) | (refine cal [4, 5] (len_cc j cpj) ?_ ?_) | (refine cal [6, 7] (len_cc r cpr) ?_ ?_) | fail)
          refine c_loop' (ojSt l l2 x y j r m cp cp2 cpj cpr) (fun i => i ≤ m.length) (fun i => m.length - i) (a := 0) (Nat.zero_le _) ?_ ?_
          · (refine Conv.toT ?_ ?_ (Nat.le_of_ble_eq_true rfl)); (focus ((unfold ojSt); (try dsimp only); (repeat' (first | (with_reducible exact .nil) | (refine .cons ?_ ?_) | (exact Wk.dead _) | (with_reducible exact Wk.refl _) | (exact WkL.nil))) <;> (first | (exact Wk.eq rfl) | (exact Wk.dead _) | (exact Wk.free _ _) | (exact Wk.lit _) | (refine WkR.eq ?_; simp; done) | (refine Wk.rows ?_ _; ((repeat' (first | (with_reducible exact LDR.nil) | (with_reducible exact LDL.nil) | (refine LDR.cons ?_ ?_) | (refine LDL.cons ?_ ?_) | (exact LeD.refl _) | (exact LeD.free _ _) | (exact LDR.nil) | (exact LDL.nil)))); done) | (exact Wk.rows (ldr_rep _) _) | (refine Wk.eq ?_; rw [List.map_append]; rfl) | ((refine Wk.int (Eq.trans (z64 ?_ ?_) ?_)) <;> omega) | (refine Wk.int ?_; simp; done) | (refine Wk.int ?_; simp; omega) | (refine Wk.eq ?_; simp; done)))); (focus ((unfold ojSt); (try dsimp only); (repeat' (first | (with_reducible exact WkH.nil) | (refine WkH.cons ?_ ?_) | (exact WkR.refl _) | (refine WkR.box _ ?_) | (refine WkR.eq ?_; simp; done) | (exact WkH.nil))) <;> ((repeat' (first | (with_reducible exact .nil) | (refine .cons ?_ ?_) | (exact Wk.dead _) | (with_reducible exact Wk.refl _) | (exact WkL.nil))) <;> (first | (exact Wk.eq rfl) | (exact Wk.dead _) | (exact Wk.free _ _) | (exact Wk.lit _) | (refine WkR.eq ?_; simp; done) | (refine Wk.rows ?_ _; ((repeat' (first | (with_reducible exact LDR.nil) | (with_reducible exact LDL.nil) | (refine LDR.cons ?_ ?_) | (refine LDL.cons ?_ ?_) | (exact LeD.refl _) | (exact LeD.free _ _) | (exact LDR.nil) | (exact LDL.nil)))); done) | (exact Wk.rows (ldr_rep _) _) | (refine Wk.eq ?_; rw [List.map_append]; rfl) | ((refine Wk.int (Eq.trans (z64 ?_ ?_) ?_)) <;> omega) | (refine Wk.int ?_; simp; done) | (refine Wk.int ?_; simp; omega) | (refine Wk.eq ?_; simp; done)))))
          · rintro i i1
            refine c_turn (n' := 1000) (fun _ h => h) (fun _ h => h) rfl ?_
            rcases ht : m[i]? with _ | t
            · have hi : i = m.length := by have := List.getElem?_eq_none_iff.1 ht; omega
              repeat' (first | (refine awd1 ?_) | (((with_reducible refine is_aops ?_); refine o_split rfl rfl rfl (fun hc => ?_) (fun hc => ?_) <;> first | (exfalso; (simp only [decide_eq_true_eq, decide_eq_false_iff_not, beq_iff_eq, beq_eq_false_iff_ne, bne_iff_ne, bne_eq_false_iff_eq, List.length_map, Int.not_lt, Int.not_le] at hc); omega) | rw [hc])) | (((with_reducible refine is_cond ?_); refine c_cond rfl (fun hc => ?_) (fun hc => ?_) <;> first | (exfalso; (simp only [decide_eq_true_eq, decide_eq_false_iff_not, beq_iff_eq, beq_eq_false_iff_ne, bne_iff_ne, bne_eq_false_iff_eq, List.length_map, Int.not_lt, Int.not_le] at hc); omega) | skip)) | (((with_reducible refine is_aop ?_); refine a_pick rfl rfl (fun hc => ?_) (fun hc => ?_) <;> first | (exfalso; (simp only [decide_eq_true_eq, decide_eq_false_iff_not, beq_iff_eq, beq_eq_false_iff_ne, bne_iff_ne, bne_eq_false_iff_eq, List.length_map, Int.not_lt, Int.not_le] at hc); omega) | rw [hc])) | ((with_reducible refine ret1 ?_); first | (refine akc ?_) | (refine aec ?_)) | (with_reducible exact retN) | (with_reducible exact retP) | fail | fail)
              (refine cal [0, 1] (copy_cc l cp hB.lst hB.room hB.cap) ?_ ?_)
              · intro xx H' hh
                obtain ⟨cpc, e1, e2, h', rfl⟩ := hh
                cases h'
                first | (refine akc ?_) | (refine aec ?_)
                have hl1 := hB.lst.len
                have hl2 := hB2.lst.len
                have hsm := same_cc l l cpc cp (by omega) (by omega)
                rw [sameL_refl] at hsm
                repeat' (first | (refine awd1 ?_) | (((with_reducible refine is_aops ?_); refine o_split rfl rfl rfl (fun hc => ?_) (fun hc => ?_) <;> first | (exfalso; (simp only [decide_eq_true_eq, decide_eq_false_iff_not, beq_iff_eq, beq_eq_false_iff_ne, bne_iff_ne, bne_eq_false_iff_eq, List.length_map, Int.not_lt, Int.not_le] at hc); omega) | rw [hc])) | (((with_reducible refine is_cond ?_); refine c_cond rfl (fun hc => ?_) (fun hc => ?_) <;> first | (exfalso; (simp only [decide_eq_true_eq, decide_eq_false_iff_not, beq_iff_eq, beq_eq_false_iff_ne, bne_iff_ne, bne_eq_false_iff_eq, List.length_map, Int.not_lt, Int.not_le] at hc); omega) | skip)) | (((with_reducible refine is_aop ?_); refine a_pick rfl rfl (fun hc => ?_) (fun hc => ?_) <;> first | (exfalso; (simp only [decide_eq_true_eq, decide_eq_false_iff_not, beq_iff_eq, beq_eq_false_iff_ne, bne_iff_ne, bne_eq_false_iff_eq, List.length_map, Int.not_lt, Int.not_le] at hc); omega) | rw [hc])) | ((with_reducible refine ret1 ?_); first | (refine akc ?_) | (refine aec ?_)) | (with_reducible exact retN) | (with_reducible exact retP) | (refine cal [1000, 1001, 0, 1] (hsm) ?_ ?_) | (refine cal [0, 1] (len_cc l cp) ?_ ?_) | (refine cal [2, 3] (len_cc l2 cp2) ?_ ?_) | (refine cal [] (known_cc) ?_ ?_) | fail)
                refine e_ret (H' := []) (rest := _) rfl ⟨congrArg (fun z => AOut.ret (.v (.bool z))) ?_, rfl⟩ (.refl _) (Nat.le_of_ble_eq_true rfl)
                simp_all
              · intro xx H' hh
                obtain ⟨_, _, _, h', _⟩ := hh
                cases h'
            · have hi : i < m.length := (List.getElem?_eq_some_iff.1 ht).1
              have hx := tdx ht
              have hrl := hR.len
              have hlk := look_c r t.c t.s cpr (by omega) (fun u hu => by have := (hR.ok u hu).2.2.2.2; omega) hR.sorted
              rw [show look r t.c t.s = ((look r t.c t.s).1, 2) from Prod.ext rfl (hlo (hP.mem_iff.2 (List.mem_of_getElem? ht)))] at hlk
              repeat' (first | (refine awd1 ?_) | (((with_reducible refine is_aops ?_); refine o_split rfl rfl rfl (fun hc => ?_) (fun hc => ?_) <;> first | (exfalso; (simp only [decide_eq_true_eq, decide_eq_false_iff_not, beq_iff_eq, beq_eq_false_iff_ne, bne_iff_ne, bne_eq_false_iff_eq, List.length_map, Int.not_lt, Int.not_le] at hc); omega) | rw [hc])) | (((with_reducible refine is_cond ?_); refine c_cond rfl (fun hc => ?_) (fun hc => ?_) <;> first | (exfalso; (simp only [decide_eq_true_eq, decide_eq_false_iff_not, beq_iff_eq, beq_eq_false_iff_ne, bne_iff_ne, bne_eq_false_iff_eq, List.length_map, Int.not_lt, Int.not_le] at hc); omega) | skip)) | (((with_reducible refine is_aop ?_); refine a_pick rfl rfl (fun hc => ?_) (fun hc => ?_) <;> first | (exfalso; (simp only [decide_eq_true_eq, decide_eq_false_iff_not, beq_iff_eq, beq_eq_false_iff_ne, bne_iff_ne, bne_eq_false_iff_eq, List.length_map, Int.not_lt, Int.not_le] at hc); omega) | rw [hc])) | ((with_reducible refine ret1 ?_); first | (refine akc ?_) | (refine aec ?_)) | (with_reducible exact retN) | (with_reducible exact retP) | (refine cal [6, 7] (hlk) ?_ ?_) | (refine cal [4, 5] (looks_c j m t.c t.s cpj hJ hP) ?_ ?_) | fail)
              (refine k_loopT (i + 1) (by show i + 1 ≤ m.length; exact hi) (by first | omega | (simp; done) | (simp; omega)) ?_ ?_); (focus ((unfold ojSt); (try dsimp only); (repeat' (first | (with_reducible exact .nil) | (refine .cons ?_ ?_) | (exact Wk.dead _) | (with_reducible exact Wk.refl _) | (exact WkL.nil))) <;> (first | (exact Wk.eq rfl) | (exact Wk.dead _) | (exact Wk.free _ _) | (exact Wk.lit _) | (refine WkR.eq ?_; simp; done) | (refine Wk.rows ?_ _; ((repeat' (first | (with_reducible exact LDR.nil) | (with_reducible exact LDL.nil) | (refine LDR.cons ?_ ?_) | (refine LDL.cons ?_ ?_) | (exact LeD.refl _) | (exact LeD.free _ _) | (exact LDR.nil) | (exact LDL.nil)))); done) | (exact Wk.rows (ldr_rep _) _) | (refine Wk.eq ?_; rw [List.map_append]; rfl) | ((refine Wk.int (Eq.trans (z64 ?_ ?_) ?_)) <;> omega) | (refine Wk.int ?_; simp; done) | (refine Wk.int ?_; simp; omega) | (refine Wk.eq ?_; simp; done)))); (focus ((unfold ojSt); (try dsimp only); (repeat' (first | (with_reducible exact WkH.nil) | (refine WkH.cons ?_ ?_) | (exact WkR.refl _) | (refine WkR.box _ ?_) | (refine WkR.eq ?_; simp; done) | (exact WkH.nil))) <;> ((repeat' (first | (with_reducible exact .nil) | (refine .cons ?_ ?_) | (exact Wk.dead _) | (with_reducible exact Wk.refl _) | (exact WkL.nil))) <;> (first | (exact Wk.eq rfl) | (exact Wk.dead _) | (exact Wk.free _ _) | (exact Wk.lit _) | (refine WkR.eq ?_; simp; done) | (refine Wk.rows ?_ _; ((repeat' (first | (with_reducible exact LDR.nil) | (with_reducible exact LDL.nil) | (refine LDR.cons ?_ ?_) | (refine LDL.cons ?_ ?_) | (exact LeD.refl _) | (exact LeD.free _ _) | (exact LDR.nil) | (exact LDL.nil)))); done) | (exact Wk.rows (ldr_rep _) _) | (refine Wk.eq ?_; rw [List.map_append]; rfl) | ((refine Wk.int (Eq.trans (z64 ?_ ?_) ?_)) <;> omega) | (refine Wk.int ?_; simp; done) | (refine Wk.int ?_; simp; omega) | (refine Wk.eq ?_; simp; done)))))
        · intro xx H' hh
          obtain ⟨_, _, _, h', _⟩ := hh
          cases h'
      · intro xx H' hh
        obtain ⟨_, _, _, h', _⟩ := hh
        cases h'
    · intro x H' hh
      obtain ⟨_, _, _, _, h', _⟩ := hh
      cases h'
  · intro x H' hh
    obtain ⟨_, _, _, _, h', _⟩ := hh
    cases h'
end Go.Proofs.Ytdahnjdkghbieaa
