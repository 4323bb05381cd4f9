/- vote: Open. -/
import Derived.Test.YtabhfccfohpkaaaVoH
import Derived.Test.YtabhfccfohpkaaaOcV
namespace Go.Proofs.Ytabhfccfohpkaaa
open Go.Am
set_option linter.unusedSimpArgs false
set_option linter.unusedVariables false
set_option maxRecDepth 100000
theorem rdQ_ren {A' : Ac} {recs : List (List UInt8)} {N : Nat} {args : List AV} {H : Heap} (hN : 5 ≤ N) (h : ACalls Try.prog 59 5 N args H (rdQ A' recs N)) : ACalls Try.prog 59 5 6 args H (fun out H' => ∃ cp', A'.l.length ≤ cp' ∧ cp' ≤ maxLen ∧ out = .ret (.tuple []) ∧ H' = (4, .box [.list (([] : List UInt8).map brow) .free]) :: acP 0 5 2 3 A' cp' recs) :=
  h.ren hN fun out H' hh => by
    obtain ⟨cp', n, n1, n2, c1, c2, rfl, rfl⟩ := hh
    refine ⟨[0, 1, 2, 3, 4, n], .ret (.tuple []), (4, .box [.list (([] : List UInt8).map brow) .free]) :: acP 0 5 2 3 A' cp' recs, ?_, ?_, fun i h => ?_, Nat.le_refl _, ?_, ?_, cp', c1, c2, rfl, rfl⟩
    · simp; omega
    · simp; omega
    · have : i = 0 ∨ i = 1 ∨ i = 2 ∨ i = 3 ∨ i = 4 := by omega
      rcases this with rfl | rfl | rfl | rfl | rfl <;> rfl
    · simp [AOut.ren, AV.ren, AV.renL]
    · have := acP_ren 0 5 2 3 0 n 2 3 (rn [0, 1, 2, 3, 4, n] N) rfl rfl rfl rfl A' cp' recs
      show _ = _ :: renH _ _
      rw [this]; rfl
theorem readO_c (A : Ac) (cp : Nat) (recs : List (List UInt8)) (o : Ro) (hA : AcOk A) (ho : roOk A o) (hcp0 : A.l.length ≤ cp) (hcp : cp ≤ maxLen) : ACalls Try.prog 59 5 6 [.ptr 0 0, .ptr 4 0] ((4, .box [.list ((encO o).map brow) .free]) :: acP 0 1 2 3 A cp recs) (fun out H' => ∃ cp', (ap A o).l.length ≤ cp' ∧ cp' ≤ maxLen ∧ out = .ret (.tuple []) ∧ H' = (4, .box [.list (([] : List UInt8).map brow) .free]) :: acP 0 5 2 3 (ap A o) cp' recs) := by
  have hl := hA.len
  cases o with
  | P b => exact rdQ_ren (by omega) (readP_c0 A cp recs b ⟨ho.1, ho.2.1⟩ hcp0 hcp)
  | B t => exact rdQ_ren (by omega) (readB_c0 A cp recs t ho.1 hA.base (by omega) hcp0 hcp hA.sorted)
  | W A' => exact rdQ_ren (by omega) (readW_c0 A A' cp recs ho.1 ho.1.len)
theorem keepH_ac (A : Ac) (cp : Nat) (recs : List (List UInt8)) : keepH 4 (acP 0 1 2 3 A cp recs) := fun f hf => acP_ren 0 1 2 3 0 1 2 3 f (hf 0 (by omega)) (hf 1 (by omega)) (hf 2 (by omega)) (hf 3 (by omega)) A cp recs
/-- a record, by octet.Read -/
theorem readR_c (A : Ac) (cp : Nat) (recs : List (List UInt8)) (o : Ro) (hA : AcOk A) (ho : roOk A o) (hcp0 : A.l.length ≤ cp) (hcp : cp ≤ maxLen) : ACalls Try.prog 58 4 8 [.list ((encO o).map brow) .free, .bnd 59 [.ptr 0 0]] (acP 0 1 2 3 A cp recs) (fun out H' => ∃ cp', (ap A o).l.length ≤ cp' ∧ cp' ≤ maxLen ∧ out = .ret (.v (.bool true)) ∧ H' = acP 0 7 2 3 (ap A o) cp' recs) :=
  (read_b (m := 4) (fst := [.ptr 0 0]) (H1 := acP 0 1 2 3 A cp recs) (Rok := fun l' H1' => ∃ cp', (ap A o).l.length ≤ cp' ∧ cp' ≤ maxLen ∧ l' = [] ∧ H1' = acP 0 5 2 3 (ap A o) cp' recs) (Rbad := fun _ => False) (by decide) ((readO_c A cp recs o hA ho hcp0 hcp).mono fun out H' hh => by
      obtain ⟨cp', c1, c2, rfl, rfl⟩ := hh
      exact .inl ⟨_, [], _, ⟨cp', c1, c2, rfl, rfl⟩, rfl, rfl⟩) (fun f hf => by simp [AV.renL, AV.ren, hf]) (keepH_ac A cp recs)).mono fun out H' hh => by
    rcases hh with ⟨l', ⟨H1', ⟨cp', c1, c2, rfl, rfl⟩, rfl⟩, h1⟩ | ⟨⟨_, h, _⟩, _⟩
    · exact ⟨cp', c1, c2, h1, acP_ren 0 5 2 3 0 7 2 3 _ rfl rfl rfl rfl _ _ _⟩
    · exact h.elim
theorem dall2_c (recs : List (List UInt8)) (hr : recs.length < 1000000000) (hb : ∀ b ∈ recs, b.length < 70368744177664) : ACalls Try.prog 57 2 2 [.ptr 0 0] (dkP 0 1 recs) (fun out H' => out = .ret (.list (recs.map rrow) .free) ∧ H' = dkP 0 1 recs) :=
  (dall_c recs hr hb).ren (by decide) fun out H' hh => by
    obtain ⟨rfl, rfl⟩ := hh
    refine ⟨[0, 1], .ret (.list (recs.map rrow) .free), dkP 0 1 recs, by decide, by decide, by decide, by decide, ?_, (dkP_ren 0 1 0 1 _ rfl rfl _).symm, rfl, rfl⟩
    simp [AOut.ren, AV.ren, Own.ren]
def opSt (ops : List Ro) (A : Ac) (cp i : Nat) : ASt := ⟨([.dead, .dead, .dead, .dead, .ptr 2 0] ++ List.replicate 9 .dead ++ [.list ((ops.map encO).map rrow) .free, .v (.int .i64 ((ops.map encO).map rrow).length), .v (.int .i64 i)] ++ List.replicate 36 .dead), acP 2 3 0 1 A cp (ops.map encO), 4⟩
theorem open_c0 (ops : List Ro) (hg : good A0 ops) (hr : ops.length < 1000000) (hb : ∀ o ∈ ops, (encO o).length < 1000000000) : ACalls Try.prog 23 2 100 [.ptr 0 0] (dkP 0 1 (ops.map encO)) (fun out H' => ∃ cp', (ops.foldl ap A0).l.length ≤ cp' ∧ cp' ≤ maxLen ∧ out = .ret (.tuple [.ptr 2 0, .v (.int .i64 0)]) ∧ H' = acP 2 3 0 1 (ops.foldl ap A0) cp' (ops.map encO)) := by
  have hall := dall2_c (ops.map encO) (by rw [List.length_map]; omega) (fun b hb' => by obtain ⟨o, ho, rfl⟩ := List.mem_map.1 hb'; have := hb o ho; omega)
  refine acalls_of tok dok (f := 23) ⟨Try.func23, rfl, by kernel_rfl⟩ ?_; refine c_start (fun _ h => h) ?_
  repeat' (first | (refine awd1 ?_) | (((with_reducible refine is_aops ?_); refine o_split rfl rfl rfl (fun hc => ?_) (fun hc => ?_) <;> first | (exfalso; (simp only [decide_eq_true_eq, decide_eq_false_iff_not, beq_iff_eq, beq_eq_false_iff_ne, bne_iff_ne, bne_eq_false_iff_eq, List.length_map, Int.not_lt, Int.not_le] at hc); omega) | rw [hc])) | (((with_reducible refine is_cond ?_); refine c_cond rfl (fun hc => ?_) (fun hc => ?_) <;> first | (exfalso; (simp only [decide_eq_true_eq, decide_eq_false_iff_not, beq_iff_eq, beq_eq_false_iff_ne, bne_iff_ne, bne_eq_false_iff_eq, List.length_map, Int.not_lt, Int.not_le] at hc); omega) | skip)) | (((with_reducible refine is_aop ?_); refine a_pick rfl rfl (fun hc => ?_) (fun hc => ?_) <;> first | (exfalso; (simp only [decide_eq_true_eq, decide_eq_false_iff_not, beq_iff_eq, beq_eq_false_iff_ne, bne_iff_ne, bne_eq_false_iff_eq, List.length_map, Int.not_lt, Int.not_le] at hc); omega) | rw [hc])) | ((with_reducible refine ret1 ?_); first | (refine akc ?_) | (refine aec ?_)) | (with_reducible exact retN) | (with_reducible exact retP) | (refine cal [0, 1] (hall) ?_ ?_) | fail)
  refine c_l3 (opSt ops) (fun A cp i => i ≤ ops.length ∧ A.l.length ≤ cp ∧ cp ≤ maxLen ∧ A = (ops.take i).foldl ap A0) (fun _ _ i => ops.length - i) A0 0 0 ⟨by omega, by simp [A0], by decide, rfl⟩ ((Conv.nilBox (id := 2) (j := 2) rfl rfl).trans ?_) ?_
  · (refine Conv.toT ?_ ?_ (Nat.le_of_ble_eq_true rfl)); (focus ((unfold opSt); (try dsimp only); (repeat' (first | (with_reducible exact .nil) | (refine .cons ?_ ?_) | (exact Wk.dead _) | (with_reducible exact Wk.refl _) | (exact WkL.nil))) <;> (first | (exact Wk.eq rfl) | (exact Wk.dead _) | (exact Wk.free _ _) | (exact Wk.lit _) | (refine WkR.eq ?_; simp; done) | (refine Wk.rows ?_ _; ((repeat' (first | (with_reducible exact LDR.nil) | (with_reducible exact LDL.nil) | (refine LDR.cons ?_ ?_) | (refine LDL.cons ?_ ?_) | (exact LeD.refl _) | (exact LeD.free _ _) | (exact LDR.nil) | (exact LDL.nil)))); done) | (exact Wk.rows (ldr_rep _) _) | (refine Wk.eq ?_; rw [List.map_append]; rfl) | ((refine Wk.int (Eq.trans (z64 ?_ ?_) ?_)) <;> omega) | (refine Wk.int ?_; simp; done) | (refine Wk.int ?_; simp; omega) | (refine Wk.eq ?_; simp; done)))); (focus ((unfold opSt); (try dsimp only); (repeat' (first | (with_reducible exact WkH.nil) | (refine WkH.cons ?_ ?_) | (exact WkR.refl _) | (refine WkR.box _ ?_) | (refine WkR.eq ?_; simp; done) | (exact WkH.nil))) <;> ((repeat' (first | (with_reducible exact .nil) | (refine .cons ?_ ?_) | (exact Wk.dead _) | (with_reducible exact Wk.refl _) | (exact WkL.nil))) <;> (first | (exact Wk.eq rfl) | (exact Wk.dead _) | (exact Wk.free _ _) | (exact Wk.lit _) | (refine WkR.eq ?_; simp; done) | (refine Wk.rows ?_ _; ((repeat' (first | (with_reducible exact LDR.nil) | (with_reducible exact LDL.nil) | (refine LDR.cons ?_ ?_) | (refine LDL.cons ?_ ?_) | (exact LeD.refl _) | (exact LeD.free _ _) | (exact LDR.nil) | (exact LDL.nil)))); done) | (exact Wk.rows (ldr_rep _) _) | (refine Wk.eq ?_; rw [List.map_append]; rfl) | ((refine Wk.int (Eq.trans (z64 ?_ ?_) ?_)) <;> omega) | (refine Wk.int ?_; simp; done) | (refine Wk.int ?_; simp; omega) | (refine Wk.eq ?_; simp; done)))))
  · rintro A cp i ⟨i1, i2, i3, i4⟩
    refine c_turn (n' := 4) (fun _ h => h) (fun _ h => h) rfl ?_
    rcases ht : ops[i]? with _ | o
    · have hi : i = ops.length := by have := List.getElem?_eq_none_iff.1 ht; omega
      have hml : ((ops.map encO).map rrow).length = ops.length := by simp
      repeat' (first | (refine awd1 ?_) | (((with_reducible refine is_aops ?_); refine o_split rfl rfl rfl (fun hc => ?_) (fun hc => ?_) <;> first | (exfalso; (simp only [decide_eq_true_eq, decide_eq_false_iff_not, beq_iff_eq, beq_eq_false_iff_ne, bne_iff_ne, bne_eq_false_iff_eq, List.length_map, Int.not_lt, Int.not_le] at hc); omega) | rw [hc])) | (((with_reducible refine is_cond ?_); refine c_cond rfl (fun hc => ?_) (fun hc => ?_) <;> first | (exfalso; (simp only [decide_eq_true_eq, decide_eq_false_iff_not, beq_iff_eq, beq_eq_false_iff_ne, bne_iff_ne, bne_eq_false_iff_eq, List.length_map, Int.not_lt, Int.not_le] at hc); omega) | skip)) | (((with_reducible refine is_aop ?_); refine a_pick rfl rfl (fun hc => ?_) (fun hc => ?_) <;> first | (exfalso; (simp only [decide_eq_true_eq, decide_eq_false_iff_not, beq_iff_eq, beq_eq_false_iff_ne, bne_iff_ne, bne_eq_false_iff_eq, List.length_map, Int.not_lt, Int.not_le] at hc); omega) | rw [hc])) | ((with_reducible refine ret1 ?_); first | (refine akc ?_) | (refine aec ?_)) | (with_reducible exact retN) | (with_reducible exact retP) | fail | fail)
      have e : ops.take i = ops := by rw [hi, List.take_length]
      rw [e] at i4
      subst i4
      exact e_ret (H' := acP 2 3 0 1 (ops.foldl ap A0) cp (ops.map encO)) (rest := []) rfl ⟨cp, i2, i3, rfl, rfl⟩ permT (Nat.le_of_ble_eq_true rfl)
    · have hi : i < ops.length := (List.getElem?_eq_some_iff.1 ht).1
      have hml : ((ops.map encO).map rrow).length = ops.length := by simp
      have hx := rrx (m := ops.map encO) (i := i) (t := encO o) (by rw [List.getElem?_map, ht]; rfl)
      have hts : ops.take (i + 1) = ops.take i ++ [o] := by rw [List.take_add_one, ht]; rfl
      have hA := good_ok _ _ A0_ok (good_take hg i)
      have hro := good_at hg ht
      rw [← i4] at hA hro
      obtain ⟨hA2, hpp⟩ := ap_ok hA hro
      have hrd := readR_c _ cp (ops.map encO) o hA hro i2 i3
      have hfo : ap A o = (ops.take (i + 1)).foldl ap A0 := by rw [hts, List.foldl_append, i4]; rfl
      generalize hA' : ap A o = A' at *
      obtain ⟨p1, p2⟩ := hA2.p
      obtain ⟨b1, b2⟩ := hA2.base
      repeat' (first | (refine awd1 ?_) | (((with_reducible refine is_aops ?_); refine o_split rfl rfl rfl (fun hc => ?_) (fun hc => ?_) <;> first | (exfalso; (simp only [decide_eq_true_eq, decide_eq_false_iff_not, beq_iff_eq, beq_eq_false_iff_ne, bne_iff_ne, bne_eq_false_iff_eq, List.length_map, Int.not_lt, Int.not_le] at hc); omega) | rw [hc])) | (((with_reducible refine is_cond ?_); refine c_cond rfl (fun hc => ?_) (fun hc => ?_) <;> first | (exfalso; (simp only [decide_eq_true_eq, decide_eq_false_iff_not, beq_iff_eq, beq_eq_false_iff_ne, bne_iff_ne, bne_eq_false_iff_eq, List.length_map, Int.not_lt, Int.not_le] at hc); omega) | skip)) | (((with_reducible refine is_aop ?_); refine a_pick rfl rfl (fun hc => ?_) (fun hc => ?_) <;> first | (exfalso; (simp only [decide_eq_true_eq, decide_eq_false_iff_not, beq_iff_eq, beq_eq_false_iff_ne, bne_iff_ne, bne_eq_false_iff_eq, List.length_map, Int.not_lt, Int.not_le] at hc); omega) | rw [hc])) | ((with_reducible refine ret1 ?_); first | (refine akc ?_) | (refine aec ?_)) | (with_reducible exact retN) | (with_reducible exact retP) | fail | fail)
      (refine cal [2, 3, 0, 1] (hrd) ?_ ?_)
      · intro xx H' hh
        obtain ⟨cp', c1, c2, h', rfl⟩ := hh
        cases h'
        first | (refine akc ?_) | (refine aec ?_)
        repeat' (first | (refine awd1 ?_) | (((with_reducible refine is_aops ?_); refine o_split rfl rfl rfl (fun hc => ?_) (fun hc => ?_) <;> first | (exfalso; (simp only [decide_eq_true_eq, decide_eq_false_iff_not, beq_iff_eq, beq_eq_false_iff_ne, bne_iff_ne, bne_eq_false_iff_eq, List.length_map, Int.not_lt, Int.not_le] at hc); omega) | rw [hc])) | (((with_reducible refine is_cond ?_); refine c_cond rfl (fun hc => ?_) (fun hc => ?_) <;> first | (exfalso; (simp only [decide_eq_true_eq, decide_eq_false_iff_not, beq_iff_eq, beq_eq_false_iff_ne, bne_iff_ne, bne_eq_false_iff_eq, List.length_map, Int.not_lt, Int.not_le] at hc); omega) | skip)) | (((with_reducible refine is_aop ?_); refine a_pick rfl rfl (fun hc => ?_) (fun hc => ?_) <;> first | (exfalso; (simp only [decide_eq_true_eq, decide_eq_false_iff_not, beq_iff_eq, beq_eq_false_iff_ne, bne_iff_ne, bne_eq_false_iff_eq, List.length_map, Int.not_lt, Int.not_le] at hc); omega) | rw [hc])) | ((with_reducible refine ret1 ?_); first | (refine akc ?_) | (refine aec ?_)) | (with_reducible exact retN) | (with_reducible exact retP) | fail | fail)
        (refine k_loopLT (((A', cp', i + 1) : Ac × Nat × Nat)) 2 [0, 1, 2, 7] (by show i + 1 ≤ ops.length ∧ A'.l.length ≤ cp' ∧ cp' ≤ maxLen ∧ A' = (ops.take (i + 1)).foldl ap A0; exact ⟨hi, c1, c2, hfo⟩) (by first | omega | (simp; done) | (simp; omega)) (Nat.le_of_ble_eq_true rfl) (fun _ h => h) (fun _ h => h) ?_ ?_); (focus ((try dsimp only); (repeat' (first | (with_reducible exact .nil) | (refine .cons ?_ ?_) | (exact Wk.dead _) | (with_reducible exact Wk.refl _) | (exact WkL.nil))) <;> (first | (exact Wk.eq rfl) | (exact Wk.dead _) | (exact Wk.free _ _) | (exact Wk.lit _) | (refine WkR.eq ?_; simp; done) | (refine Wk.rows ?_ _; ((repeat' (first | (with_reducible exact LDR.nil) | (with_reducible exact LDL.nil) | (refine LDR.cons ?_ ?_) | (refine LDL.cons ?_ ?_) | (exact LeD.refl _) | (exact LeD.free _ _) | (exact LDR.nil) | (exact LDL.nil)))); done) | (exact Wk.rows (ldr_rep _) _) | (refine Wk.eq ?_; rw [List.map_append]; rfl) | ((refine Wk.int (Eq.trans (z64 ?_ ?_) ?_)) <;> omega) | (refine Wk.int ?_; simp; done) | (refine Wk.int ?_; simp; omega) | (refine Wk.eq ?_; simp; done)))); (focus ((try dsimp only); (repeat' (first | (with_reducible exact WkH.nil) | (refine WkH.cons ?_ ?_) | (exact WkR.refl _) | (refine WkR.box _ ?_) | (refine WkR.eq ?_; simp; done) | (exact WkH.nil))) <;> ((repeat' (first | (with_reducible exact .nil) | (refine .cons ?_ ?_) | (exact Wk.dead _) | (with_reducible exact Wk.refl _) | (exact WkL.nil))) <;> (first | (exact Wk.eq rfl) | (exact Wk.dead _) | (exact Wk.free _ _) | (exact Wk.lit _) | (refine WkR.eq ?_; simp; done) | (refine Wk.rows ?_ _; ((repeat' (first | (with_reducible exact LDR.nil) | (with_reducible exact LDL.nil) | (refine LDR.cons ?_ ?_) | (refine LDL.cons ?_ ?_) | (exact LeD.refl _) | (exact LeD.free _ _) | (exact LDR.nil) | (exact LDL.nil)))); done) | (exact Wk.rows (ldr_rep _) _) | (refine Wk.eq ?_; rw [List.map_append]; rfl) | ((refine Wk.int (Eq.trans (z64 ?_ ?_) ?_)) <;> omega) | (refine Wk.int ?_; simp; done) | (refine Wk.int ?_; simp; omega) | (refine Wk.eq ?_; simp; done)))))
      · intro xx H' hh
        obtain ⟨_, _, _, h', _⟩ := hh
        cases h'
theorem open_c (ops : List Ro) (hg : good A0 ops) (hr : ops.length < 1000000) (hb : ∀ o ∈ ops, (encO o).length < 1000000000) : ACalls Try.prog 23 2 4 [.ptr 0 0] (dkP 0 1 (ops.map encO)) (fun out H' => ∃ cp', (ops.foldl ap A0).l.length ≤ cp' ∧ cp' ≤ maxLen ∧ out = .ret (.tuple [.ptr 2 0, .v (.int .i64 0)]) ∧ H' = acP 2 3 0 1 (ops.foldl ap A0) cp' (ops.map encO)) :=
  (open_c0 ops hg hr hb).ren (by decide) fun out H' hh => by
    obtain ⟨cp', c1, c2, rfl, rfl⟩ := hh
    refine ⟨[0, 1, 2, 3], .ret (.tuple [.ptr 2 0, .v (.int .i64 0)]), acP 2 3 0 1 (ops.foldl ap A0) cp' (ops.map encO), by decide, by decide, by decide, by decide, ?_, (acP_ren 2 3 0 1 2 3 0 1 _ rfl rfl rfl rfl _ _ _).symm, cp', c1, c2, rfl, rfl⟩
    simp [AOut.ren, AV.ren, AV.renL, rn]
end Go.Proofs.Ytabhfccfohpkaaa
