/- Messages (chapter 16): which may be, by contracts. -/
import Derived.Test.YtdfnepbhgifkkaaVa
import Derived.Test.YtdfnepbhgifkkaaOcD

namespace Go.Proofs.Ytdfnepbhgifkkaa
open Go.Am
set_option linter.unusedSimpArgs false
set_option linter.unusedVariables false
set_option maxRecDepth 100000
structure Vt where
  slot : Int
  ballot : Int
  v : List UInt8
structure Ms where
  kind : Int
  group : Int
  frm : Int
  to : Int
  ballot : Int
  slot : Int
  client : Int
  seq : Int
  b : List UInt8
  l : List Vt
def vtrow (x : Vt) : List AV := [.v (.int .i64 x.slot), .v (.int .i64 x.ballot), .list (x.v.map brow) .free]
def msrow (m : Ms) : List AV := [.v (.int .i64 m.kind), .v (.int .i64 m.group), .v (.int .i64 m.frm), .v (.int .i64 m.to), .v (.int .i64 m.ballot), .v (.int .i64 m.slot), .v (.int .i64 m.client), .v (.int .i64 m.seq), .list (m.b.map brow) .free, .list (m.l.map vtrow) .free]
def msv (m : Ms) : AV := .agg (msrow m)
def inB (n lo hi : Int) : Bool := decide (lo ≤ n ∧ n ≤ hi)
def vtB (x : Vt) : Bool := inB x.slot 0 1073741824 && (inB x.ballot (-1) 1073741824 && decide ((x.v.length : Int) ≤ 1048576))
def waysB (m : Ms) : Bool := inB m.kind 1 9 && (inB m.group 0 3 && (inB m.frm 0 355 && inB m.to 0 355))
def numsB (m : Ms) : Bool := inB m.ballot (-1) 1073741824 && (inB m.slot 0 1073741824 && (inB m.client 0 255 && inB m.seq 0 1073741824))
def rightB (m : Ms) : Bool := waysB m && (numsB m && (decide ((m.b.length : Int) ≤ 1048576) && (decide ((m.l.length : Int) ≤ 16) && m.l.all vtB)))
theorem in_c (n lo hi : Int) : ACalls Try.prog 85 0 0 [.v (.int .i64 n), .v (.int .i64 lo), .v (.int .i64 hi)] [] (fun out H' => out = .ret (.v (.bool (inB n lo hi))) ∧ H' = []) := by
  refine acalls_of tok dok (f := 85) ⟨Try.func85, rfl, by kernel_rfl⟩ ?_; refine c_start (fun _ h => h) ?_
  repeat' (first | (refine awd1 ?_) | (((with_reducible refine is_aops ?_); refine o_split rfl rfl rfl (fun hc => ?_) (fun hc => ?_) <;> rw [hc])) | (((with_reducible refine is_cond ?_); refine c_cond rfl (fun hc => ?_) (fun hc => ?_))) | (((with_reducible refine is_aop ?_); refine a_pick rfl rfl (fun hc => ?_) (fun hc => ?_) <;> rw [hc])) | fail)
  all_goals
    refine e_ret (H' := []) (rest := _) rfl ⟨congrArg (fun z => AOut.ret (.v (.bool z))) ?_, rfl⟩ (.refl _) (Nat.le_of_ble_eq_true rfl)
    unfold inB
    simp only [decide_eq_true_eq, decide_eq_false_iff_not] at *
    first | (simp; omega) | (simp; done) | omega
theorem vote_c (x : Vt) : ACalls Try.prog 88 0 10 [.agg (vtrow x)] [] (fun out H' => out = .ret (.v (.bool (vtB x))) ∧ H' = []) := by
  obtain ⟨s, b, v⟩ := x
  refine acalls_of tok dok (f := 88) ⟨Try.func88, rfl, by kernel_rfl⟩ ?_; refine c_start (fun _ h => h) ?_
  refine awd ?_
  refine cal [] (in_c s 0 1073741824) ?_ ?_
  · refine ret1 ?_; first | (refine akc ?_) | (refine aec ?_)
    unfold vtB
    simp only
    cases inB s 0 1073741824
    · refine awd ?_
      exact e_ret (H' := []) (rest := _) rfl ⟨rfl, rfl⟩ (.refl _) (Nat.le_of_ble_eq_true rfl)
    · refine awd ?_
      refine cal [] (in_c b (-1) 1073741824) ?_ ?_
      · refine ret1 ?_; first | (refine akc ?_) | (refine aec ?_)
        cases inB b (-1) 1073741824
        · refine awd ?_
          exact e_ret (H' := []) (rest := _) rfl ⟨rfl, rfl⟩ (.refl _) (Nat.le_of_ble_eq_true rfl)
        · refine awd ?_
          exact e_ret (H' := []) (rest := _) rfl ⟨by rw [List.length_map]; rfl, rfl⟩ (.refl _) (Nat.le_of_ble_eq_true rfl)
      · first | (exact retN) | (exact retP)
  · first | (exact retN) | (exact retP)
theorem rneg_c (x : Vt) : ACalls Try.prog 87 0 20 [.agg (vtrow x)] [] (fun out H' => out = .ret (.v (.bool (!vtB x))) ∧ H' = []) := by
  have hv := vote_c x
  generalize vtB x = r at *
  obtain ⟨s, b, v⟩ := x
  refine acalls_of tok dok (f := 87) ⟨Try.func87, rfl, by kernel_rfl⟩ ?_; refine c_start (fun _ h => h) ?_
  refine awd ?_
  refine cal [] (hv) ?_ ?_
  · refine ret1 ?_; first | (refine akc ?_) | (refine aec ?_)
    refine awd ?_
    exact e_ret (H' := []) (rest := _) rfl ⟨rfl, rfl⟩ (.refl _) (Nat.le_of_ble_eq_true rfl)
  · first | (exact retN) | (exact retP)
def ixSt (l : List Vt) (i : Nat) (N : Unit) : ASt := ⟨[.list (l.map vtrow) .free, .fn 87 [], .dead, .dead, .dead, .dead, .dead, .v (.int .i64 l.length), .v (.int .i64 i)] ++ List.replicate 10 .dead, [], 10⟩
theorem index_c (l : List Vt) (h : l.length < 1000000000000) : ACalls Try.prog 111 0 1000 [.list (l.map vtrow) .free, .fn 87 []] [] (fun out H' => ∃ i : Int, decide (i ≥ 0) = !(l.all vtB) ∧ out = .ret (.v (.int .i64 i)) ∧ H' = []) := by
  refine acalls_of tok dok (f := 111) ⟨Try.func111, rfl, by kernel_rfl⟩ ?_; refine c_start (fun _ h => h) ?_
  refine awd ?_
  refine c_loop2 (ixSt l) (fun i _ => i ≤ l.length ∧ (l.take i).all vtB = true) (fun i _ => l.length - i) 0 () ⟨Nat.zero_le _, rfl⟩ (.to [] ?_ (.of_eq rfl) (Nat.le_of_ble_eq_true rfl)) ?_
  · unfold ixSt
    (repeat' (first | (with_reducible exact .nil) | (refine .cons ?_ ?_) | (exact Wk.dead _) | (with_reducible exact Wk.refl _) | (exact WkL.nil))) <;> first | (exact Wk.eq rfl) | (exact Wk.free _ _) | (exact Wk.int (w64 (by omega) (by omega))) | (exact Wk.int (by simp)) | (exact Wk.int (by simp; omega)) | (exact Wk.eq (by simp))
  · rintro i _ ⟨h1, h2⟩
    refine c_turn (n' := 10) (fun _ h => h) (fun _ h => h) rfl ?_
    repeat' (first | (refine awd1 ?_) | (((with_reducible refine is_aops ?_); refine o_split rfl rfl rfl (fun hc => ?_) (fun hc => ?_) <;> rw [hc])) | (((with_reducible refine is_cond ?_); refine c_cond rfl (fun hc => ?_) (fun hc => ?_))) | (((with_reducible refine is_aop ?_); refine a_pick rfl rfl (fun hc => ?_) (fun hc => ?_) <;> rw [hc])) | fail)
    · have hi : i < l.length := by simp at hc; omega
      have hx0 : 0 ≤ (i : Int) ∧ (l.map vtrow)[(i : Int).toNat]? = some (vtrow l[i]) ∧ (vtrow l[i]).length = 3 := ⟨Int.natCast_nonneg _, (by rw [Int.toNat_natCast, List.getElem?_map, List.getElem?_eq_getElem hi]; rfl), rfl⟩
      have hsucc : (l.take (i + 1)).all vtB = ((l.take i).all vtB && vtB l[i]) := by rw [List.take_succ_eq_append_getElem hi, List.all_append]; simp
      have hmem : vtB l[i] = false → l.all vtB = false := fun e => by
        rw [List.all_eq_false]
        exact ⟨_, List.getElem_mem hi, by simp [e]⟩
      generalize l[i] = x at *
      have hr := rneg_c x
      generalize vtB x = r at *
      refine awd ?_
      refine cal [] (hr) ?_ ?_
      · refine ret1 ?_; first | (refine akc ?_) | (refine aec ?_)
        repeat' (first | (refine awd1 ?_) | (((with_reducible refine is_aops ?_); refine o_split rfl rfl rfl (fun hc => ?_) (fun hc => ?_) <;> rw [hc])) | (((with_reducible refine is_cond ?_); refine c_cond rfl (fun hc => ?_) (fun hc => ?_))) | (((with_reducible refine is_aop ?_); refine a_pick rfl rfl (fun hc => ?_) (fun hc => ?_) <;> rw [hc])) | fail)
        · have hr0 : r = false := by simpa using hc
          refine e_ret (H' := []) (rest := _) rfl ⟨(i : Int), ?_, rfl, rfl⟩ (.refl _) (Nat.le_of_ble_eq_true rfl)
          rw [hmem hr0]; simp
        · have hr0 : r = true := by simpa using hc
          refine k_loopI (i + 1, ()) ⟨hi, by rw [hsucc, h2, hr0]; rfl⟩ (by show l.length - (i + 1) < l.length - i; omega) ?_
          unfold ixSt
          (repeat' (first | (with_reducible exact .nil) | (refine .cons ?_ ?_) | (exact Wk.dead _) | (with_reducible exact Wk.refl _) | (exact WkL.nil))) <;> first | exact Wk.eq rfl | exact Wk.int (z64 (by omega) (by omega))
      · first | (exact retN) | (exact retP)
    · have hi : i = l.length := by simp at hc; omega
      refine e_ret (H' := []) (rest := _) rfl ⟨-1, ?_, rfl, rfl⟩ (.refl _) (Nat.le_of_ble_eq_true rfl)
      rw [hi, List.take_length] at h2
      rw [h2]; rfl
theorem contains_c (l : List Vt) (h : l.length < 1000000000000) : ACalls Try.prog 86 0 1000 [.list (l.map vtrow) .free, .fn 87 []] [] (fun out H' => out = .ret (.v (.bool (!(l.all vtB)))) ∧ H' = []) := by
  refine acalls_of tok dok (f := 86) ⟨Try.func86, rfl, by kernel_rfl⟩ ?_; refine c_start (fun _ h => h) ?_
  refine awd ?_
  refine cal [] (index_c l h) ?_ ?_
  · intro x H' h
    obtain ⟨i, hi, h1, rfl⟩ := h
    cases h1
    first | (refine akc ?_) | (refine aec ?_)
    refine awd ?_
    exact e_ret (H' := []) (rest := _) rfl ⟨by rw [← hi]; rfl, rfl⟩ (.refl _) (Nat.le_of_ble_eq_true rfl)
  · intro x H' h; obtain ⟨_, _, h1, _⟩ := h; cases h1
def mrSt (m : Ms) (w : Bool) : ASt := ⟨[.dead, .ptr 0 0, .dead, .v (.bool w)] ++ List.replicate 61 .dead, [(0, .box (msrow m))], 10⟩
def mrSt2 (m : Ms) (w v : Bool) : ASt := ⟨[.dead, .ptr 0 0, .dead, .v (.bool w), .v (.bool v)] ++ List.replicate 60 .dead, [(0, .box (msrow m))], 10⟩
set_option maxHeartbeats 3200000 in
theorem mright_c (m : Ms) (h : m.l.length < 1000000000000) : ACalls Try.prog 48 0 2000 [msv m] [] (fun out H' => out = .ret (.v (.bool (rightB m))) ∧ H' = []) := by
  obtain ⟨kd, g, f, t, bl, s, c, q, b, l⟩ := m
  simp only at h
  have hcn := contains_c l h
  have i1 := in_c kd 1 9
  have i2 := in_c g 0 3
  have i3 := in_c f 0 355
  have i4 := in_c t 0 355
  have j1 := in_c bl (-1) 1073741824
  have j2 := in_c s 0 1073741824
  have j3 := in_c c 0 255
  have j4 := in_c q 0 1073741824
  unfold rightB waysB numsB
  simp only
  generalize inB kd 1 9 = x1 at *
  generalize inB g 0 3 = x2 at *
  generalize inB f 0 355 = x3 at *
  generalize inB t 0 355 = x4 at *
  generalize inB bl (-1) 1073741824 = y1 at *
  generalize inB s 0 1073741824 = y2 at *
  generalize inB c 0 255 = y3 at *
  generalize inB q 0 1073741824 = y4 at *
  generalize hz : l.all vtB = z at *
  refine acalls_of tok dok (f := 48) ⟨Try.func48, rfl, by kernel_rfl⟩ ?_; refine c_start (fun _ h => h) ?_
  repeat' (first | ((with_reducible refine is_aops ?_); first | (refine o_op rfl ?_) | (refine o_yes rfl rfl rfl ?_) | (refine o_no rfl rfl rfl (fun _ h => h) ?_) | (refine o_not rfl rfl rfl (fun _ h => h) ?_)) | ((with_reducible refine is_opK ?_); first | (refine k_op' (fun _ h => h) ?_)) | ((with_reducible refine is_aop ?_); first | (refine a_q1 rfl (fun _ h => h) ?_) | (refine a_box rfl (fun _ h => h) ?_) | (refine a_alloc rfl (fun _ h => h) ?_) | (refine a_storev rfl (fun _ h => h) ?_) | (refine a_store rfl (fun _ h => h) ?_) | (refine a_panic rfl rfl ?_)) | ((with_reducible refine is_aop ?_); refine a_qS rfl (qIx (fun _ h => h)) (by assumption) ?_) | (with_reducible refine o_nil ?_) | fail)
  refine c_seq ?_
  refine c_region ?_
  repeat' (first | ((with_reducible refine is_aops ?_); first | (refine o_op rfl ?_) | (refine o_yes rfl rfl rfl ?_) | (refine o_no rfl rfl rfl (fun _ h => h) ?_) | (refine o_not rfl rfl rfl (fun _ h => h) ?_)) | ((with_reducible refine is_opK ?_); first | (refine k_op' (fun _ h => h) ?_)) | ((with_reducible refine is_aop ?_); first | (refine a_q1 rfl (fun _ h => h) ?_) | (refine a_box rfl (fun _ h => h) ?_) | (refine a_alloc rfl (fun _ h => h) ?_) | (refine a_storev rfl (fun _ h => h) ?_) | (refine a_store rfl (fun _ h => h) ?_) | (refine a_panic rfl rfl ?_)) | ((with_reducible refine is_aop ?_); refine a_qS rfl (qIx (fun _ h => h)) (by assumption) ?_) | (with_reducible refine o_nil ?_) | fail)
  refine k_seq ?_
  refine c_seq ?_
  refine c_cutx (fun (_ : Unit) (_ : Unit) => mrSt ⟨kd, g, f, t, bl, s, c, q, b, l⟩ (x1 && (x2 && (x3 && x4)))) (fun _ _ => True) ?_ ?_
  · rintro _ _ _
    generalize (x1 && (x2 && (x3 && x4))) = x
    refine c_turn (n' := 10) (fun _ h => h) (fun _ h => h) rfl ?_
    refine c_seq ?_
    refine c_cutx (fun (_ : Unit) (_ : Unit) => mrSt2 ⟨kd, g, f, t, bl, s, c, q, b, l⟩ x (y1 && (y2 && (y3 && y4)))) (fun _ _ => True) ?_ ?_
    · rintro _ _ _
      generalize (y1 && (y2 && (y3 && y4))) = y
      refine c_turn (n' := 10) (fun _ h => h) (fun _ h => h) rfl ?_
      refine awd ?_
      refine cal [] (hcn) ?_ ?_
      · refine ret1 ?_; first | (refine akc ?_) | (refine aec ?_)
        cases x
        · refine awd ?_
          exact e_ret (H' := []) (rest := _) rfl ⟨rfl, rfl⟩ (.refl _) (Nat.le_of_ble_eq_true rfl)
        · cases y
          · refine awd ?_
            exact e_ret (H' := []) (rest := _) rfl ⟨rfl, rfl⟩ (.refl _) (Nat.le_of_ble_eq_true rfl)
          · repeat' (first | (refine awd1 ?_) | (((with_reducible refine is_aops ?_); refine o_split rfl rfl rfl (fun hc => ?_) (fun hc => ?_) <;> rw [hc])) | (((with_reducible refine is_cond ?_); refine c_cond rfl (fun hc => ?_) (fun hc => ?_))) | (((with_reducible refine is_aop ?_); refine a_pick rfl rfl (fun hc => ?_) (fun hc => ?_) <;> rw [hc])) | fail)
            all_goals
              refine e_ret (H' := []) (rest := _) rfl ⟨congrArg (fun z => AOut.ret (.v (.bool z))) ?_, rfl⟩ (.refl _) (Nat.le_of_ble_eq_true rfl)
              simp only [List.length_map] at *
              first | (simp_all; done) | (simp_all; intro hh; exfalso; omega) | (simp_all; omega)
      · first | (exact retN) | (exact retP)
    · intro Kx kN kP kR kE
      refine awd ?_
      refine cal [] (j1) ?_ ?_
      · refine ret1 ?_; first | (refine akc ?_) | (refine aec ?_)
        cases y1
        · refine awd ?_
          refine kN () () _ _ _ trivial (.to [] ?_ (.of_eq rfl) (Nat.le_of_ble_eq_true rfl))
          unfold mrSt2
          (repeat' (first | (with_reducible exact .nil) | (refine .cons ?_ ?_) | (exact Wk.dead _) | (with_reducible exact Wk.refl _) | (exact WkL.nil))) <;> first | (exact Wk.eq rfl) | (exact Wk.free _ _) | (exact Wk.int (w64 (by omega) (by omega))) | (exact Wk.int (by simp)) | (exact Wk.int (by simp; omega)) | (exact Wk.eq (by simp))
        · refine awd ?_
          refine cal [] (j2) ?_ ?_
          · refine ret1 ?_; first | (refine akc ?_) | (refine aec ?_)
            cases y2
            · refine awd ?_
              refine kN () () _ _ _ trivial (.to [] ?_ (.of_eq rfl) (Nat.le_of_ble_eq_true rfl))
              unfold mrSt2
              (repeat' (first | (with_reducible exact .nil) | (refine .cons ?_ ?_) | (exact Wk.dead _) | (with_reducible exact Wk.refl _) | (exact WkL.nil))) <;> first | (exact Wk.eq rfl) | (exact Wk.free _ _) | (exact Wk.int (w64 (by omega) (by omega))) | (exact Wk.int (by simp)) | (exact Wk.int (by simp; omega)) | (exact Wk.eq (by simp))
            · refine awd ?_
              refine cal [] (j3) ?_ ?_
              · refine ret1 ?_; first | (refine akc ?_) | (refine aec ?_)
                cases y3
                · refine awd ?_
                  refine kN () () _ _ _ trivial (.to [] ?_ (.of_eq rfl) (Nat.le_of_ble_eq_true rfl))
                  unfold mrSt2
                  (repeat' (first | (with_reducible exact .nil) | (refine .cons ?_ ?_) | (exact Wk.dead _) | (with_reducible exact Wk.refl _) | (exact WkL.nil))) <;> first | (exact Wk.eq rfl) | (exact Wk.free _ _) | (exact Wk.int (w64 (by omega) (by omega))) | (exact Wk.int (by simp)) | (exact Wk.int (by simp; omega)) | (exact Wk.eq (by simp))
                · refine awd ?_
                  refine cal [] (j4) ?_ ?_
                  · refine ret1 ?_; first | (refine akc ?_) | (refine aec ?_)
                    refine awd ?_
                    refine kN () () _ _ _ trivial (.to [] ?_ (.of_eq rfl) (Nat.le_of_ble_eq_true rfl))
                    unfold mrSt2
                    (repeat' (first | (with_reducible exact .nil) | (refine .cons ?_ ?_) | (exact Wk.dead _) | (with_reducible exact Wk.refl _) | (exact WkL.nil))) <;> first | (exact Wk.eq rfl) | (exact Wk.free _ _) | (exact Wk.int (w64 (by omega) (by omega))) | (exact Wk.int (by simp)) | (exact Wk.int (by simp; omega)) | (exact Wk.eq (by simp))
                  · first | (exact retN) | (exact retP)
              · first | (exact retN) | (exact retP)
          · first | (exact retN) | (exact retP)
      · first | (exact retN) | (exact retP)
  · intro Kx kN kP kR kE
    refine awd ?_
    refine cal [] (i1) ?_ ?_
    · refine ret1 ?_; first | (refine akc ?_) | (refine aec ?_)
      cases x1
      · refine awd ?_
        refine kN () () _ _ _ trivial (.to [] ?_ (.of_eq rfl) (Nat.le_of_ble_eq_true rfl))
        unfold mrSt
        (repeat' (first | (with_reducible exact .nil) | (refine .cons ?_ ?_) | (exact Wk.dead _) | (with_reducible exact Wk.refl _) | (exact WkL.nil))) <;> first | (exact Wk.eq rfl) | (exact Wk.free _ _) | (exact Wk.int (w64 (by omega) (by omega))) | (exact Wk.int (by simp)) | (exact Wk.int (by simp; omega)) | (exact Wk.eq (by simp))
      · refine awd ?_
        refine cal [] (i2) ?_ ?_
        · refine ret1 ?_; first | (refine akc ?_) | (refine aec ?_)
          cases x2
          · refine awd ?_
            refine kN () () _ _ _ trivial (.to [] ?_ (.of_eq rfl) (Nat.le_of_ble_eq_true rfl))
            unfold mrSt
            (repeat' (first | (with_reducible exact .nil) | (refine .cons ?_ ?_) | (exact Wk.dead _) | (with_reducible exact Wk.refl _) | (exact WkL.nil))) <;> first | (exact Wk.eq rfl) | (exact Wk.free _ _) | (exact Wk.int (w64 (by omega) (by omega))) | (exact Wk.int (by simp)) | (exact Wk.int (by simp; omega)) | (exact Wk.eq (by simp))
          · refine awd ?_
            refine cal [] (i3) ?_ ?_
            · refine ret1 ?_; first | (refine akc ?_) | (refine aec ?_)
              cases x3
              · refine awd ?_
                refine kN () () _ _ _ trivial (.to [] ?_ (.of_eq rfl) (Nat.le_of_ble_eq_true rfl))
                unfold mrSt
                (repeat' (first | (with_reducible exact .nil) | (refine .cons ?_ ?_) | (exact Wk.dead _) | (with_reducible exact Wk.refl _) | (exact WkL.nil))) <;> first | (exact Wk.eq rfl) | (exact Wk.free _ _) | (exact Wk.int (w64 (by omega) (by omega))) | (exact Wk.int (by simp)) | (exact Wk.int (by simp; omega)) | (exact Wk.eq (by simp))
              · refine awd ?_
                refine cal [] (i4) ?_ ?_
                · refine ret1 ?_; first | (refine akc ?_) | (refine aec ?_)
                  refine awd ?_
                  refine kN () () _ _ _ trivial (.to [] ?_ (.of_eq rfl) (Nat.le_of_ble_eq_true rfl))
                  unfold mrSt
                  (repeat' (first | (with_reducible exact .nil) | (refine .cons ?_ ?_) | (exact Wk.dead _) | (with_reducible exact Wk.refl _) | (exact WkL.nil))) <;> first | (exact Wk.eq rfl) | (exact Wk.free _ _) | (exact Wk.int (w64 (by omega) (by omega))) | (exact Wk.int (by simp)) | (exact Wk.int (by simp; omega)) | (exact Wk.eq (by simp))
                · first | (exact retN) | (exact retP)
            · first | (exact retN) | (exact retP)
        · first | (exact retN) | (exact retP)
    · first | (exact retN) | (exact retP)
end Go.Proofs.Ytdfnepbhgifkkaa
