/- Part 7 of what the laws RowBytes rest on: RyB, RyE, RyF, OcN, RyG, RxB. -/
import Derived.Test.YtjepgbpcpcahgaaGreatP6
namespace Go.Proofs.YtjepgbpcpcahgaaGreat
open Go.Am
set_option linter.unusedSimpArgs false
set_option linter.unusedVariables false
set_option maxRecDepth 100000
theorem app1 (p : List UInt8) (c : UInt8) : [] ++ p.map brow ++ [[AV.v (.int .u8 c.toNat)]] = (p ++ [c]).map brow := by simp [brow]
theorem app2 (p : List UInt8) (c : UInt8) : p.map brow ++ [[AV.v (.int .u8 c.toNat)]] = (p ++ [c]).map brow := by simp [brow]
theorem refPutP_c (p : List UInt8) (v : Va) (hp : p.length < 100000000) (hb : v.b.length ≤ 20) (hn : v.n < 18446744073709551616) : ACalls Tryz.prog 33 0 20 [.list (p.map brow) .free, vav v] [] (fun out H' => out = .ret (.list ((p ++ encA v).map brow) .free) ∧ H' = []) := by
  obtain ⟨kd, b, n⟩ := v
  simp only at hb hn
  have r1 : ∀ row ∈ p.map brow, row.length = 1 := fun row h => by obtain ⟨_, _, rfl⟩ := List.mem_map.1 h; rfl
  have b1 : (p.map brow).length < 100000000 := by rw [List.length_map]; exact hp
  have b2 : ([] ++ p.map brow).length < 100000000 := b1
  by_cases h1 : kd = 1
  · subst h1
    have ee : p ++ encA ⟨1, b, n⟩ = p ++ [1] ++ (be b.length 4 ++ b) := by simp [encA]
    rw [ee]
    refine no_implicit_lambda% (acalls_of tok dok (f := 33) ⟨Tryz.func33, rfl, by kernel_rfl⟩ ?_); refine no_implicit_lambda% (c_start (fun _ h => h) ?_)
    repeat' (first | (refine no_implicit_lambda% (awd1 ?_)) | (((with_reducible refine no_implicit_lambda% (is_aops ?_)); refine no_implicit_lambda% (o_split rfl rfl rfl (fun hc => ?_) (fun hc => ?_)) <;> first | exact decx hc | rw [hc])) | (((with_reducible refine no_implicit_lambda% (is_cond ?_)); refine no_implicit_lambda% (c_cond rfl (fun hc => ?_) (fun hc => ?_)) <;> first | exact decx hc | skip)) | (((with_reducible refine no_implicit_lambda% (is_aop ?_)); refine no_implicit_lambda% (a_pick rfl rfl (fun hc => ?_) (fun hc => ?_)) <;> first | exact decx hc | rw [hc])) | (refine no_implicit_lambda% (ans ?_)) | (with_reducible exact retN) | (with_reducible exact retP) | fail | fail)
    rw [show [] ++ p.map brow ++ [[AV.v (.int .u8 1)]] = (p ++ [1]).map brow by simp [brow]]
    refine no_implicit_lambda% (calw [] (refText_c (p ++ [1]) b (by simp; omega) (by omega)) ?_ ?_)
    · refine no_implicit_lambda% (ret1 ?_); first | (refine no_implicit_lambda% (akc ?_)) | (refine no_implicit_lambda% (aec ?_))
      refine no_implicit_lambda% (awd ?_)
      exact e_ret_to (H' := []) (rest := _) (.freeSlot 4 rfl) rfl ⟨rfl, rfl⟩ (.of_eq rfl) (Nat.le_of_ble_eq_true rfl)
    · first | (exact retN) | (exact retP)
  · by_cases h2 : kd = 2
    · subst h2
      have ee : p ++ encA ⟨2, b, n⟩ = p ++ [2] ++ be (canonB n) 8 := by simp [encA]
      rw [ee]
      refine no_implicit_lambda% (acalls_of tok dok (f := 33) ⟨Tryz.func33, rfl, by kernel_rfl⟩ ?_); refine no_implicit_lambda% (c_start (fun _ h => h) ?_)
      repeat' (first | (refine no_implicit_lambda% (awd1 ?_)) | (((with_reducible refine no_implicit_lambda% (is_aops ?_)); refine no_implicit_lambda% (o_split rfl rfl rfl (fun hc => ?_) (fun hc => ?_)) <;> first | exact decx hc | rw [hc])) | (((with_reducible refine no_implicit_lambda% (is_cond ?_)); refine no_implicit_lambda% (c_cond rfl (fun hc => ?_) (fun hc => ?_)) <;> first | exact decx hc | skip)) | (((with_reducible refine no_implicit_lambda% (is_aop ?_)); refine no_implicit_lambda% (a_pick rfl rfl (fun hc => ?_) (fun hc => ?_)) <;> first | exact decx hc | rw [hc])) | (refine no_implicit_lambda% (ans ?_)) | (with_reducible exact retN) | (with_reducible exact retP) | fail | fail)
      rw [show [] ++ p.map brow ++ [[AV.v (.int .u8 2)]] = (p ++ [2]).map brow by simp [brow]]
      refine no_implicit_lambda% (calw [] (refFloat_c (p ++ [2]) n hn (by simp; omega)) ?_ ?_)
      · refine no_implicit_lambda% (ret1 ?_); first | (refine no_implicit_lambda% (akc ?_)) | (refine no_implicit_lambda% (aec ?_))
        refine no_implicit_lambda% (awd ?_)
        exact e_ret_to (H' := []) (rest := _) (.freeSlot 4 rfl) rfl ⟨rfl, rfl⟩ (.of_eq rfl) (Nat.le_of_ble_eq_true rfl)
      · first | (exact retN) | (exact retP)
    · have ee : encA ⟨kd, b, n⟩ = [0] := by simp [encA, h1, h2]
      rw [ee]
      have e1 := k_ne h1
      have e2 := k_ne h2
      refine no_implicit_lambda% (acalls_of tok dok (f := 33) ⟨Tryz.func33, rfl, by kernel_rfl⟩ ?_); refine no_implicit_lambda% (c_start (fun _ h => h) ?_)
      repeat' (first | (refine no_implicit_lambda% (awd1 ?_)) | (((with_reducible refine no_implicit_lambda% (is_aops ?_)); refine no_implicit_lambda% (o_split rfl rfl rfl (fun hc => ?_) (fun hc => ?_)) <;> first | exact decx hc | rw [hc])) | (((with_reducible refine no_implicit_lambda% (is_cond ?_)); refine no_implicit_lambda% (c_cond rfl (fun hc => ?_) (fun hc => ?_)) <;> first | exact decx hc | skip)) | (((with_reducible refine no_implicit_lambda% (is_aop ?_)); refine no_implicit_lambda% (a_pick rfl rfl (fun hc => ?_) (fun hc => ?_)) <;> first | exact decx hc | rw [hc])) | (refine no_implicit_lambda% (ans ?_)) | (with_reducible exact retN) | (with_reducible exact retP) | fail | fail)
      all_goals try (exfalso; simp_all; done)
      rw [show [] ++ p.map brow ++ [[AV.v (.int .u8 0)]] = (p ++ [0]).map brow by simp [brow]]
      exact e_ret_to (H' := []) (rest := _) (.freeSlot 4 rfl) rfl ⟨rfl, rfl⟩ (.of_eq rfl) (Nat.le_of_ble_eq_true rfl)
def rwSt1 (o : List Co) (e : List UInt8) (i : Nat) : ASt := ⟨([.list (e.map brow) .free, .dead, .dead, .ptr 0 0, .dead, .v (.int .i64 i)] ++ List.replicate 74 .dead), [(0, .box [.list (o.map corow) .free])], 2⟩
def rwSt2 (o : List Co) (i : Nat) (e : List UInt8) (k : Nat) : ASt := ⟨([.list (e.map brow) .free, .dead, .dead, .ptr 0 0, .dead, .v (.int .i64 i), .v (.int .i64 k)] ++ List.replicate 73 .dead), [(0, .box [.list (o.map corow) .free])], 3⟩
set_option maxHeartbeats 6400000 in
theorem rwrite_c (p : List UInt8) (r : List Co) (hr : r.length < 70368744177664) (hz : RowSz r) (hp : p.length < 10000000) : ACalls Tryz.prog 7 0 100000 [.list (p.map brow) .free, rowA r] [] (fun out H' => out = .ret (.list ((p ++ encR (copyR r)).map brow) .free) ∧ H' = []) := by
  have hcp := qcopy_f r hr hz
  have hw := copy_w hz
  generalize copyR r = o at *
  have ho4 := hw.1
  have r1 : ∀ row ∈ p.map brow, row.length = 1 := fun row h => by obtain ⟨_, _, rfl⟩ := List.mem_map.1 h; rfl
  have b1 : (p.map brow).length < 10000000 := by rw [List.length_map]; exact hp
  have b2 : ([] ++ p.map brow).length < 10000000 := b1
  refine no_implicit_lambda% (acalls_of tok dok (f := 7) ⟨Tryz.func7, rfl, by kernel_rfl⟩ ?_); refine no_implicit_lambda% (c_start (fun _ h => h) ?_)
  repeat' (first | (refine no_implicit_lambda% (awd1 ?_)) | (((with_reducible refine no_implicit_lambda% (is_aops ?_)); refine no_implicit_lambda% (o_split rfl rfl rfl (fun hc => ?_) (fun hc => ?_)) <;> first | exact decx hc | rw [hc])) | (((with_reducible refine no_implicit_lambda% (is_cond ?_)); refine no_implicit_lambda% (c_cond rfl (fun hc => ?_) (fun hc => ?_)) <;> first | exact decx hc | skip)) | (((with_reducible refine no_implicit_lambda% (is_aop ?_)); refine no_implicit_lambda% (a_pick rfl rfl (fun hc => ?_) (fun hc => ?_)) <;> first | exact decx hc | rw [hc])) | (refine no_implicit_lambda% (ans ?_)) | (with_reducible exact retN) | (with_reducible exact retP) | (refine no_implicit_lambda% (cal [] (hcp) ?_ ?_)) | fail)
  rw [List.length_map, u8len, app1]
  have hfl : ∀ i, ((o.take i).flatMap encC).length ≤ 360 := fun i => by
    have h1 := flat_len encC 90 (o.take i) fun c hc => encC_len (hw.2 c (List.mem_of_mem_take hc))
    have h2 : (o.take i).length ≤ 4 := by rw [List.length_take]; omega
    omega
  refine c_loop' (fun i => rwSt1 o (p ++ [UInt8.ofNat o.length] ++ (o.take i).flatMap encC) i) (fun i => i ≤ o.length) (fun i => o.length - i) (a := 0) (Nat.zero_le _) ?_ ?_
  · refine (Conv.toT ?_ ?_ (Nat.le_of_ble_eq_true rfl))
    · unfold rwSt1
      simp only [List.take_zero, List.flatMap_nil, List.append_nil]
      exact wkl
    · unfold rwSt1
      exact wkh
  · rintro i i1
    refine c_turn (n' := 2) (fun _ h => h) (fun _ h => h) rfl ?_
    have hfi := hfl i
    rcases hx : o[i]? with _ | c
    · have hi : i = o.length := by have := List.getElem?_eq_none_iff.1 hx; omega
      repeat' (first | (refine no_implicit_lambda% (awd1 ?_)) | (((with_reducible refine no_implicit_lambda% (is_aops ?_)); refine no_implicit_lambda% (o_split rfl rfl rfl (fun hc => ?_) (fun hc => ?_)) <;> first | exact decx hc | rw [hc])) | (((with_reducible refine no_implicit_lambda% (is_cond ?_)); refine no_implicit_lambda% (c_cond rfl (fun hc => ?_) (fun hc => ?_)) <;> first | exact decx hc | skip)) | (((with_reducible refine no_implicit_lambda% (is_aop ?_)); refine no_implicit_lambda% (a_pick rfl rfl (fun hc => ?_) (fun hc => ?_)) <;> first | exact decx hc | rw [hc])) | (refine no_implicit_lambda% (ans ?_)) | (with_reducible exact retN) | (with_reducible exact retP) | fail | fail)
      subst hi
      rw [List.take_length]
      have he : p ++ [UInt8.ofNat o.length] ++ o.flatMap encC = p ++ encR o := by unfold encR; simp
      rw [he]
      exact e_ret (H' := []) (rest := _) rfl ⟨rfl, rfl⟩ permT (Nat.le_of_ble_eq_true rfl)
    · have hi : i < o.length := (List.getElem?_eq_some_iff.1 hx).1
      have hix := cox hx
      have hcw := hw.2 c (List.mem_of_getElem? hx)
      have hfs := flat_s (f := encC) hx
      obtain ⟨e0, he0⟩ : ∃ e0, e0 = p ++ [UInt8.ofNat o.length] ++ (o.take i).flatMap encC := ⟨_, rfl⟩
      have hel : e0.length ≤ p.length + 361 := by rw [he0]; simp only [List.length_append, List.length_singleton]; omega
      rw [← he0]
      have hn16 := hcw.1
      have ht := refText_c e0 c.n.data.toList (by omega) (by omega)
      repeat' (first | (refine no_implicit_lambda% (awd1 ?_)) | (((with_reducible refine no_implicit_lambda% (is_aops ?_)); refine no_implicit_lambda% (o_split rfl rfl rfl (fun hc => ?_) (fun hc => ?_)) <;> first | exact decx hc | rw [hc])) | (((with_reducible refine no_implicit_lambda% (is_cond ?_)); refine no_implicit_lambda% (c_cond rfl (fun hc => ?_) (fun hc => ?_)) <;> first | exact decx hc | skip)) | (((with_reducible refine no_implicit_lambda% (is_aop ?_)); refine no_implicit_lambda% (a_pick rfl rfl (fun hc => ?_) (fun hc => ?_)) <;> first | exact decx hc | rw [hc])) | (((with_reducible refine no_implicit_lambda% (is_ev ?_)); refine no_implicit_lambda% (v_split rfl rfl rfl rfl (fun hc => ?_) (fun hc => ?_)) <;> first | exact decx hc | rw [hc])) | (refine no_implicit_lambda% (ans ?_)) | (with_reducible exact retN) | (with_reducible exact retP) | fail | fail)
      ((with_reducible refine no_implicit_lambda% (is_ev ?_)); refine no_implicit_lambda% (v_qS rfl rfl rfl rfl (fun _ h => h) (fun _ h => h) ?_ ?_))
      · show c.n.data.toList.length ≤ 4611686018427387904
        omega
      have b4 : (be c.n.data.toList.length 4).length = 4 := be_len _ _
      repeat' (first | (refine no_implicit_lambda% (awd1 ?_)) | (((with_reducible refine no_implicit_lambda% (is_aops ?_)); refine no_implicit_lambda% (o_split rfl rfl rfl (fun hc => ?_) (fun hc => ?_)) <;> first | exact decx hc | rw [hc])) | (((with_reducible refine no_implicit_lambda% (is_cond ?_)); refine no_implicit_lambda% (c_cond rfl (fun hc => ?_) (fun hc => ?_)) <;> first | exact decx hc | skip)) | (((with_reducible refine no_implicit_lambda% (is_aop ?_)); refine no_implicit_lambda% (a_pick rfl rfl (fun hc => ?_) (fun hc => ?_)) <;> first | exact decx hc | rw [hc])) | (((with_reducible refine no_implicit_lambda% (is_ev ?_)); refine no_implicit_lambda% (v_split rfl rfl rfl rfl (fun hc => ?_) (fun hc => ?_)) <;> first | exact decx hc | rw [hc])) | (refine no_implicit_lambda% (ans ?_)) | (with_reducible exact retN) | (with_reducible exact retP) | (refine no_implicit_lambda% (cal [] (ht) ?_ ?_)) | fail)
      rw [List.length_map, u8len, app2]
      obtain ⟨e, he⟩ : ∃ e, e = e0 ++ (be c.n.data.toList.length 4 ++ c.n.data.toList) ++ [UInt8.ofNat c.l.length] := ⟨_, rfl⟩
      have hee : e.length ≤ p.length + 382 := by rw [he]; simp only [List.length_append, be_len, List.length_singleton]; omega
      rw [← he]
      have hl2 := hcw.2.1
      refine c_loop' (fun k => rwSt2 o i (e ++ (c.l.take k).flatMap encE) k) (fun k => k ≤ c.l.length) (fun k => c.l.length - k) (a := 0) (Nat.zero_le _) ?_ ?_
      · refine (Conv.toT ?_ ?_ (Nat.le_of_ble_eq_true rfl))
        · unfold rwSt2
          simp only [List.take_zero, List.flatMap_nil, List.append_nil]
          exact wkl
        · unfold rwSt2
          exact wkh
      · rintro k k1
        refine c_turn (n' := 3) (fun _ h => h) (fun _ h => h) rfl ?_
        rcases hy : c.l[k]? with _ | x
        · have hk : k = c.l.length := by have := List.getElem?_eq_none_iff.1 hy; omega
          repeat' (first | (refine no_implicit_lambda% (awd1 ?_)) | (((with_reducible refine no_implicit_lambda% (is_aops ?_)); refine no_implicit_lambda% (o_split rfl rfl rfl (fun hc => ?_) (fun hc => ?_)) <;> first | exact decx hc | rw [hc])) | (((with_reducible refine no_implicit_lambda% (is_cond ?_)); refine no_implicit_lambda% (c_cond rfl (fun hc => ?_) (fun hc => ?_)) <;> first | exact decx hc | skip)) | (((with_reducible refine no_implicit_lambda% (is_aop ?_)); refine no_implicit_lambda% (a_pick rfl rfl (fun hc => ?_) (fun hc => ?_)) <;> first | exact decx hc | rw [hc])) | (refine no_implicit_lambda% (ans ?_)) | (with_reducible exact retN) | (with_reducible exact retP) | fail | fail)
          subst hk
          rw [List.take_length]
          have h9 : e ++ c.l.flatMap encE = p ++ [UInt8.ofNat o.length] ++ (o.take (i + 1)).flatMap encC := by
            rw [hfs, he, he0]
            unfold encC
            simp only [List.append_assoc]
          rw [h9]
          (refine no_implicit_lambda% (k_loopLT (i + 1) 0 [0, 1] (show i + 1 ≤ o.length from hi) (by first | omega | (simp; done) | (simp; omega)) (Nat.le_of_ble_eq_true rfl) (fun _ h => h) (fun _ h => h) ?_ ?_)); (focus ((try dsimp only); exact wkl)); (focus ((try dsimp only); exact wkh))
        · have hk : k < c.l.length := (List.getElem?_eq_some_iff.1 hy).1
          have hiy := vex hy
          have hvw := hcw.2.2 x (List.mem_of_getElem? hy)
          have hfe := flat_s (f := encE) hy
          have hpl : ((c.l.take k).flatMap encE).length ≤ 66 := by
            have h1 := flat_len encE 33 (c.l.take k) fun y hy => encE_len (hcw.2.2 y (List.mem_of_mem_take hy))
            have h2 : (c.l.take k).length ≤ 2 := by rw [List.length_take]; omega
            omega
          have hl8 := refLong_c (e ++ (c.l.take k).flatMap encE) x.t.toNat (by have := hvw.1; omega) (by rw [List.length_append]; omega)
          have hpa := refPutP_c (e ++ (c.l.take k).flatMap encE ++ be x.t.toNat 8) x.v (by simp only [List.length_append, be_len]; omega) hvw.2.1 hvw.2.2
          repeat' (first | (refine no_implicit_lambda% (awd1 ?_)) | (((with_reducible refine no_implicit_lambda% (is_aops ?_)); refine no_implicit_lambda% (o_split rfl rfl rfl (fun hc => ?_) (fun hc => ?_)) <;> first | exact decx hc | rw [hc])) | (((with_reducible refine no_implicit_lambda% (is_cond ?_)); refine no_implicit_lambda% (c_cond rfl (fun hc => ?_) (fun hc => ?_)) <;> first | exact decx hc | skip)) | (((with_reducible refine no_implicit_lambda% (is_aop ?_)); refine no_implicit_lambda% (a_pick rfl rfl (fun hc => ?_) (fun hc => ?_)) <;> first | exact decx hc | rw [hc])) | (((with_reducible refine no_implicit_lambda% (is_ev ?_)); refine no_implicit_lambda% (v_split rfl rfl rfl rfl (fun hc => ?_) (fun hc => ?_)) <;> first | exact decx hc | rw [hc])) | (refine no_implicit_lambda% (ans ?_)) | (with_reducible exact retN) | (with_reducible exact retP) | fail | fail)
          rw [show IntKind.u64.wrap x.t = (x.t.toNat : Int) by rw [IntKind.wrap_u64]; have := hvw.1; omega]
          repeat' (first | (refine no_implicit_lambda% (awd1 ?_)) | (((with_reducible refine no_implicit_lambda% (is_aops ?_)); refine no_implicit_lambda% (o_split rfl rfl rfl (fun hc => ?_) (fun hc => ?_)) <;> first | exact decx hc | rw [hc])) | (((with_reducible refine no_implicit_lambda% (is_cond ?_)); refine no_implicit_lambda% (c_cond rfl (fun hc => ?_) (fun hc => ?_)) <;> first | exact decx hc | skip)) | (((with_reducible refine no_implicit_lambda% (is_aop ?_)); refine no_implicit_lambda% (a_pick rfl rfl (fun hc => ?_) (fun hc => ?_)) <;> first | exact decx hc | rw [hc])) | (((with_reducible refine no_implicit_lambda% (is_ev ?_)); refine no_implicit_lambda% (v_split rfl rfl rfl rfl (fun hc => ?_) (fun hc => ?_)) <;> first | exact decx hc | rw [hc])) | (refine no_implicit_lambda% (ans ?_)) | (with_reducible exact retN) | (with_reducible exact retP) | (refine no_implicit_lambda% (cal [] (hl8) ?_ ?_)) | fail)
          (refine no_implicit_lambda% (calw [] (hpa) ?_ ?_))
          · refine no_implicit_lambda% (ret1 ?_); first | (refine no_implicit_lambda% (akc ?_)) | (refine no_implicit_lambda% (aec ?_))
            repeat' (first | (refine no_implicit_lambda% (awd1 ?_)) | (((with_reducible refine no_implicit_lambda% (is_aops ?_)); refine no_implicit_lambda% (o_split rfl rfl rfl (fun hc => ?_) (fun hc => ?_)) <;> first | exact decx hc | rw [hc])) | (((with_reducible refine no_implicit_lambda% (is_cond ?_)); refine no_implicit_lambda% (c_cond rfl (fun hc => ?_) (fun hc => ?_)) <;> first | exact decx hc | skip)) | (((with_reducible refine no_implicit_lambda% (is_aop ?_)); refine no_implicit_lambda% (a_pick rfl rfl (fun hc => ?_) (fun hc => ?_)) <;> first | exact decx hc | rw [hc])) | (((with_reducible refine no_implicit_lambda% (is_ev ?_)); refine no_implicit_lambda% (v_split rfl rfl rfl rfl (fun hc => ?_) (fun hc => ?_)) <;> first | exact decx hc | rw [hc])) | (refine no_implicit_lambda% (ans ?_)) | (with_reducible exact retN) | (with_reducible exact retP) | fail | fail)
            have h9 : e ++ (c.l.take k).flatMap encE ++ be x.t.toNat 8 ++ encA x.v = e ++ (c.l.take (k + 1)).flatMap encE := by
              rw [hfe]
              unfold encE
              simp only [List.append_assoc]
            rw [h9]
            (refine no_implicit_lambda% (k_loopLT (k + 1) 0 [0, 1, 2] (show k + 1 ≤ c.l.length from hk) (by first | omega | (simp; done) | (simp; omega)) (Nat.le_of_ble_eq_true rfl) (fun _ h => h) (fun _ h => h) ?_ ?_)); (focus ((try dsimp only); exact wkl)); (focus ((try dsimp only); exact wkh))
          · first | (exact retN) | (exact retP)
end Go.Proofs.YtjepgbpcpcahgaaGreat
namespace Go.Proofs.YtjepgbpcpcahgaaGreat
open Go.Am
set_option linter.unusedSimpArgs false
set_option linter.unusedVariables false
set_option maxRecDepth 100000
theorem rowB_tm {o : List Co} (h : rowB o = true) : ∀ c ∈ o, ∀ x ∈ c.l, tmOk x.t = true := fun c hc x hx => by
  have h1 := row_mem h hc
  unfold colB at h1
  simp only [Bool.and_eq_true] at h1
  exact ((vers_to h1.2).1 x hx).1
theorem tm_bad {t : Nat} (h1 : 1099511627776 < t) (h2 : t < 18446744073709551616) : tmOk (IntKind.i64.wrap (t : Int)) = false := by
  unfold tmOk
  refine decide_eq_false fun h => ?_
  rw [IntKind.wrap_i64] at h
  omega
theorem bnd_inv {α β : Type} {p : Option (α × List UInt8)} {q : α → List UInt8 → Option β} (h : ∀ a r, p = some (a, r) → q a r = none) : bnd p q = none := by
  cases p with
  | none => rfl
  | some a => exact h a.1 a.2 rfl
theorem pR_late {l cur r3 : List UInt8} {acc : List Co} {s : ByteArray} {vs : List Ve} {n k t : Nat} (hE : pRaw l = bnd (pEs (k + 1) cur) fun xs r => bnd (pCs n r) fun o r3 => some (acc ++ ⟨s, vs ++ xs⟩ :: o, r3)) (hL : pL cur = some (t, r3)) (h1 : 1099511627776 < t) (h2 : t < 18446744073709551616) : pR l = none := by
  unfold pR
  rw [hE]
  simp only [pEs, pE, hL, bnd_some, bnd_assoc]
  refine bnd_inv fun v r _ => bnd_inv fun xs r2 _ => bnd_inv fun o r3 _ => if_neg fun h => ?_
  have h9 := rowB_tm h ⟨s, vs ++ ⟨IntKind.i64.wrap (t : Int), v⟩ :: xs⟩ (List.mem_append_right _ (List.mem_cons_self ..)) ⟨IntKind.i64.wrap (t : Int), v⟩ (List.mem_append_right _ (List.mem_cons_self ..))
  rw [tm_bad h1 h2] at h9
  cases h9
theorem rright_o (o : List Co) (cp : Nat) (hl : o.length < 1000000) : ACalls Tryz.prog 69 1 1 [.agg [.arr 0 0 o.length cp]] [(0, .seq (o.map corow) ((cp - o.length) * 2))] (fun out H' => out = .ret (.v (.bool (rowB o))) ∧ H' = [(0, .seq (o.map corow) ((cp - o.length) * 2))]) :=
  (((rright_c o (by omega)).top0).borrow (k := 1) (top := 1) (args := [.agg [.arr 0 0 o.length cp]]) (H := [(0, .seq (o.map corow) ((cp - o.length) * 2))]) rfl (fun out H' hh => by obtain ⟨rfl, rfl⟩ := hh; rfl) (fun i a' ha => by
    match i with
    | 0 =>
      simp at ha; subst ha
      refine ⟨_, rfl, .agg rfl fun j b hb => ?_⟩
      match j with
      | 0 =>
        simp at hb; subst hb
        exact ⟨_, rfl, .seq (k := (cp - o.length) * 2) (by simp) (coOk o) (by simp)⟩
      | j + 1 => simp at hb
    | i + 1 => simp at ha)).mono fun out H' hh => by
      obtain ⟨⟨_, h1, _⟩, h2⟩ := hh
      exact ⟨h1, h2⟩
def rtSt1 (cur : List UInt8) (bad : Bool) (acc : List Co) (cp n : Nat) : ASt := ⟨([.ptr 0 0, .dead, .ptr 1 0, .ptr 2 0, .v (.int .i64 n)] ++ List.replicate 70 .dead), rr cur bad ++ [(1, .box [.list [] .full]), (2, .box [.arr 6 0 acc.length cp]), (6, .seq (acc.map corow) ((cp - acc.length) * 2))], 7⟩
def rtSt2 (acc : List Co) (cp n : Nat) (s : ByteArray) (cur : List UInt8) (bad : Bool) (vs : List Ve) (k : Nat) : ASt := ⟨([.ptr 0 0, .dead, .ptr 1 0, .ptr 2 0, .v (.int .i64 n), .ptr 14 0, .v (.int .i64 k)] ++ List.replicate 68 .dead), rr cur bad ++ [(14, .box [.v (.string s), .list (vs.map verow) (.tok 18)]), (18, .tok 4 vs.length), (1, .box [.list [] .full]), (2, .box [.arr 6 0 acc.length cp]), (6, .seq (acc.map corow) ((cp - acc.length) * 2))], 19⟩
set_option maxHeartbeats 6400000 in
theorem rtake4_c (l : List UInt8) (bad0 : Bool) (hl : l.length < 10000000) : ACalls Tryz.prog 39 1 100000 [.ptr 0 0] (rr l bad0) (dQ pR RowSz rowA l bad0) := by
  refine no_implicit_lambda% (acalls_of tok dok (f := 39) ⟨Tryz.func39, rfl, by kernel_rfl⟩ ?_); refine no_implicit_lambda% (c_start (fun _ h => h) ?_)
  repeat' (first | (refine no_implicit_lambda% (awd1 ?_)) | (((with_reducible refine no_implicit_lambda% (is_aops ?_)); refine no_implicit_lambda% (o_split rfl rfl rfl (fun hc => ?_) (fun hc => ?_)) <;> first | exact decx hc | rw [hc])) | (((with_reducible refine no_implicit_lambda% (is_cond ?_)); refine no_implicit_lambda% (c_cond rfl (fun hc => ?_) (fun hc => ?_)) <;> first | exact decx hc | skip)) | (((with_reducible refine no_implicit_lambda% (is_aop ?_)); refine no_implicit_lambda% (a_pick rfl rfl (fun hc => ?_) (fun hc => ?_)) <;> first | exact decx hc | rw [hc])) | (refine no_implicit_lambda% (ans ?_)) | (with_reducible exact retN) | (with_reducible exact retP) | fail | fail)
  (refine no_implicit_lambda% (cal [0] (qB_c l bad0 (by omega)) ?_ ?_))
  rotate_left
  · intro xx H' hh
    obtain ⟨_, _, _, _, _, _, _, h', _⟩ := hh
    cases h'
  intro xx H' hh
  obtain ⟨N, r0, b0, hN, hr0, q1, q2, h', rfl⟩ := hh
  cases h'
  first | (refine no_implicit_lambda% (akc ?_)) | (refine no_implicit_lambda% (aec ?_))
  repeat' (first | (refine no_implicit_lambda% (awd1 ?_)) | (((with_reducible refine no_implicit_lambda% (is_aops ?_)); refine no_implicit_lambda% (o_split rfl rfl rfl (fun hc => ?_) (fun hc => ?_)) <;> first | exact decx hc | rw [hc])) | (((with_reducible refine no_implicit_lambda% (is_cond ?_)); refine no_implicit_lambda% (c_cond rfl (fun hc => ?_) (fun hc => ?_)) <;> first | exact decx hc | skip)) | (((with_reducible refine no_implicit_lambda% (is_aop ?_)); refine no_implicit_lambda% (a_pick rfl rfl (fun hc => ?_) (fun hc => ?_)) <;> first | exact decx hc | rw [hc])) | (refine no_implicit_lambda% (ans ?_)) | (with_reducible exact retN) | (with_reducible exact retP) | fail | fail)
  rw [show IntKind.i64.wrap (N : Int) = (N : Int) from z64 (by omega) (by omega)]
  have hN2 : N < 256 := hN
  refine c_l5 (fun cur bad acc cp n => rtSt1 cur bad acc cp n) (fun cur bad acc cp n => cur.length ≤ l.length ∧ acc.length ≤ cp ∧ cp ≤ maxLen ∧ RowSz acc ∧ acc.length + n ≤ 255 ∧ (bad = false → bad0 = false ∧ pRaw l = bnd (pCs n cur) fun o r => some (acc ++ o, r)) ∧ (bad = true → cur = [] ∧ (bad0 = false → pR l = none))) (fun _ _ _ _ n => n) r0 b0 [] 0 N ⟨hr0, Nat.le_refl _, by decide, (fun c hc => by cases hc), by simp; omega, fun hb => ⟨(q1 hb).1, by unfold pRaw; rw [(q1 hb).2, bnd_some]; cases pCs N r0 <;> rfl⟩, fun hb => ⟨(q2 hb).1, fun hb0 => by unfold pR pRaw; rw [(q2 hb).2 hb0]; rfl⟩⟩ ((Conv.nilBox (id := 2) (j := 0) (cells := [.list [] .full]) rfl rfl).trans ?_) ?_
  · (refine no_implicit_lambda% (Conv.toT ?_ ?_ (Nat.le_of_ble_eq_true rfl))); (focus ((unfold rtSt1); (try dsimp only); exact wkl)); (focus ((unfold rtSt1); (try dsimp only); exact wkh))
  · rintro cur bad acc cp n ⟨h1, h2, h3, hz, h5, hE, hEb⟩
    refine c_turn (n' := 7) (fun _ h => h) (fun _ h => h) rfl ?_
    cases bad with
    | true =>
      repeat' (first | (refine no_implicit_lambda% (awd1 ?_)) | (((with_reducible refine no_implicit_lambda% (is_aops ?_)); refine no_implicit_lambda% (o_split rfl rfl rfl (fun hc => ?_) (fun hc => ?_)) <;> first | exact decx hc | rw [hc])) | (((with_reducible refine no_implicit_lambda% (is_cond ?_)); refine no_implicit_lambda% (c_cond rfl (fun hc => ?_) (fun hc => ?_)) <;> first | exact decx hc | skip)) | (((with_reducible refine no_implicit_lambda% (is_aop ?_)); refine no_implicit_lambda% (a_pick rfl rfl (fun hc => ?_) (fun hc => ?_)) <;> first | exact decx hc | rw [hc])) | (refine no_implicit_lambda% (ans ?_)) | (with_reducible exact retN) | (with_reducible exact retP) | (refine no_implicit_lambda% (cal [0] (refFail_c cur true) ?_ ?_)) | fail)
      all_goals refine e_ret_to (H' := rr [] true) (rest := [(1, .box [.list [] .free])]) (Conv.toT (τ := ⟨_, [(0, .box [.list [] .free, .v (.bool true)]), (1, .box [.list [] .free])], _⟩) (.refl _) ?_ (Nat.le_refl _)) rfl ⟨[], [], true, (fun c hc => by cases hc), Nat.zero_le _, (fun h => by cases h), fun _ => ⟨rfl, (hEb rfl).2⟩, rfl, rfl⟩ permT (Nat.le_of_ble_eq_true rfl); exact wkh
    | false =>
      obtain ⟨hb0, hE⟩ := hE rfl
      have hro := rright_o acc cp (by omega)
      have hfc := refFail_c cur false
      rcases n with _ | n
      · have hraw2 : pRaw l = some (acc, cur) := by rw [hE]; show some (acc ++ [], cur) = _; rw [List.append_nil]
        have hpR : pR l = if rowB acc then some (acc, cur) else none := by unfold pR; rw [hraw2]; rfl
        repeat' (first | (refine no_implicit_lambda% (awd1 ?_)) | (((with_reducible refine no_implicit_lambda% (is_aops ?_)); refine no_implicit_lambda% (o_split rfl rfl rfl (fun hc => ?_) (fun hc => ?_)) <;> first | exact decx hc | rw [hc])) | (((with_reducible refine no_implicit_lambda% (is_cond ?_)); refine no_implicit_lambda% (c_cond rfl (fun hc => ?_) (fun hc => ?_)) <;> first | exact decx hc | skip)) | (((with_reducible refine no_implicit_lambda% (is_aop ?_)); refine no_implicit_lambda% (a_pick rfl rfl (fun hc => ?_) (fun hc => ?_)) <;> first | exact decx hc | rw [hc])) | (refine no_implicit_lambda% (ans ?_)) | (with_reducible exact retN) | (with_reducible exact retP) | (refine no_implicit_lambda% (cal [6] (hro) ?_ ?_)) | (refine no_implicit_lambda% (cal [0] (hfc) ?_ ?_)) | fail)
        · have hb : rowB acc = false := by simpa using hc
          rw [hb] at hpR
          refine e_ret_to (H' := rr [] true) (rest := [(1, .box [.list [] .free])]) (Conv.toT (τ := ⟨_, [(0, .box [.list [] .free, .v (.bool true)]), (1, .box [.list [] .free])], _⟩) (.refl _) ?_ (Nat.le_refl _)) rfl ⟨[], [], true, (fun c hc => by cases hc), Nat.zero_le _, (fun h => by cases h), fun _ => ⟨rfl, fun _ => hpR⟩, rfl, rfl⟩ permT (Nat.le_of_ble_eq_true rfl); exact wkh
        · have hb : rowB acc = true := by simpa using hc
          rw [hb] at hpR
          refine e_ret_to (H' := rr cur false) (rest := [(1, .box [.list (acc.map corow) .free])]) ((Conv.toT (τ := ⟨_, [(6, .seq (acc.map corow) ((cp - acc.length) * 2)), (1, .box [.arr 6 0 acc.length cp]), (0, .box [.list (cur.map brow) .free, .v (.bool false)])], _⟩) (.refl _) ?_ (Nat.le_refl _)).trans (Conv.freezeBox (id := 6) (bid := 1) (j := 0) (.refl _) rfl (coOk acc) (List.length_map ..))) rfl ⟨acc, cur, false, hz, h1, fun _ => ⟨hb0, hpR⟩, fun h => (by cases h), rfl, rfl⟩ permT (Nat.le_of_ble_eq_true rfl)
          exact wkh
      · repeat' (first | (refine no_implicit_lambda% (awd1 ?_)) | (((with_reducible refine no_implicit_lambda% (is_aops ?_)); refine no_implicit_lambda% (o_split rfl rfl rfl (fun hc => ?_) (fun hc => ?_)) <;> first | exact decx hc | rw [hc])) | (((with_reducible refine no_implicit_lambda% (is_cond ?_)); refine no_implicit_lambda% (c_cond rfl (fun hc => ?_) (fun hc => ?_)) <;> first | exact decx hc | skip)) | (((with_reducible refine no_implicit_lambda% (is_aop ?_)); refine no_implicit_lambda% (a_pick rfl rfl (fun hc => ?_) (fun hc => ?_)) <;> first | exact decx hc | rw [hc])) | (refine no_implicit_lambda% (ans ?_)) | (with_reducible exact retN) | (with_reducible exact retP) | fail | fail)
        (refine no_implicit_lambda% (cal [0] (qX_c cur false (by omega)) ?_ ?_))
        rotate_left
        · intro xx H' hh
          obtain ⟨_, _, _, _, _, _, _, h', _⟩ := hh
          cases h'
        intro xx H' hh
        obtain ⟨s, r1, b1, hs16, hr1, u1, u2, h', rfl⟩ := hh
        cases h'
        first | (refine no_implicit_lambda% (akc ?_)) | (refine no_implicit_lambda% (aec ?_))
        repeat' (first | (refine no_implicit_lambda% (awd1 ?_)) | (((with_reducible refine no_implicit_lambda% (is_aops ?_)); refine no_implicit_lambda% (o_split rfl rfl rfl (fun hc => ?_) (fun hc => ?_)) <;> first | exact decx hc | rw [hc])) | (((with_reducible refine no_implicit_lambda% (is_cond ?_)); refine no_implicit_lambda% (c_cond rfl (fun hc => ?_) (fun hc => ?_)) <;> first | exact decx hc | skip)) | (((with_reducible refine no_implicit_lambda% (is_aop ?_)); refine no_implicit_lambda% (a_pick rfl rfl (fun hc => ?_) (fun hc => ?_)) <;> first | exact decx hc | rw [hc])) | (refine no_implicit_lambda% (ans ?_)) | (with_reducible exact retN) | (with_reducible exact retP) | fail | fail)
        (refine no_implicit_lambda% (cal [0] (qB_c r1 b1 (by omega)) ?_ ?_))
        rotate_left
        · intro xx H' hh
          obtain ⟨_, _, _, _, _, _, _, h', _⟩ := hh
          cases h'
        intro xx H' hh
        obtain ⟨K, r2, b2, hK, hr2, v1, v2, h', rfl⟩ := hh
        cases h'
        first | (refine no_implicit_lambda% (akc ?_)) | (refine no_implicit_lambda% (aec ?_))
        repeat' (first | (refine no_implicit_lambda% (awd1 ?_)) | (((with_reducible refine no_implicit_lambda% (is_aops ?_)); refine no_implicit_lambda% (o_split rfl rfl rfl (fun hc => ?_) (fun hc => ?_)) <;> first | exact decx hc | rw [hc])) | (((with_reducible refine no_implicit_lambda% (is_cond ?_)); refine no_implicit_lambda% (c_cond rfl (fun hc => ?_) (fun hc => ?_)) <;> first | exact decx hc | skip)) | (((with_reducible refine no_implicit_lambda% (is_aop ?_)); refine no_implicit_lambda% (a_pick rfl rfl (fun hc => ?_) (fun hc => ?_)) <;> first | exact decx hc | rw [hc])) | (refine no_implicit_lambda% (ans ?_)) | (with_reducible exact retN) | (with_reducible exact retP) | fail | fail)
        have hK2 : K < 256 := hK
        rw [show IntKind.i64.wrap (K : Int) = (K : Int) from z64 (by omega) (by omega)]
        have hE2 : b2 = false → pRaw l = bnd (pEs K r2) fun xs r => bnd (pCs n r) fun o r3 => some (acc ++ ⟨⟨s.toArray⟩, [] ++ xs⟩ :: o, r3) := fun hb => by
          obtain ⟨e1, e2⟩ := v1 hb
          rw [hE]
          simp only [pCs, pC, (u1 e1).2, bnd_some, e2, bnd_assoc, List.nil_append]
        have hE3 : b2 = true → r2 = [] ∧ (bad0 = false → pR l = none) := fun hb => ⟨(v2 hb).1, fun _ => by
          unfold pR
          rw [hE]
          cases b1 with
          | false => simp only [pCs, pC, (u1 rfl).2, bnd_some, (v2 hb).2 rfl, bnd_none]
          | true => simp only [pCs, pC, (u2 rfl).2 rfl, bnd_none]⟩
        refine c_l4 (fun cur2 bad vs k => rtSt2 acc cp (n + 1) ⟨s.toArray⟩ cur2 bad vs k) (fun cur2 bad vs k => cur2.length ≤ l.length ∧ vs.length + k ≤ 255 ∧ (∀ x ∈ vs, x.v.b.length < 1073741824 ∧ x.v.n < 18446744073709551616) ∧ (bad = false → pRaw l = bnd (pEs k cur2) fun xs r => bnd (pCs n r) fun o r3 => some (acc ++ ⟨⟨s.toArray⟩, vs ++ xs⟩ :: o, r3)) ∧ (bad = true → cur2 = [] ∧ (bad0 = false → pR l = none))) (fun _ _ _ k => k) r2 b2 [] K ⟨by omega, by simp; omega, (fun c hc => by cases hc), hE2, hE3⟩ ((Conv.tokBox (id := 14) (j := 1) (sz := 4) (rows := []) rfl rfl (by simp)).trans ?_) ?_
        · (refine no_implicit_lambda% (Conv.toT ?_ ?_ (Nat.le_of_ble_eq_true rfl))); (focus ((unfold rtSt2); (try dsimp only); exact wkl)); (focus ((unfold rtSt2); (try dsimp only); exact wkh))
        · rintro cur2 bad vs k ⟨g1, g2, g3, g4, g5⟩
          refine c_turn (n' := 19) (fun _ h => h) (fun _ h => h) rfl ?_
          have hOut : (bad = false → k = 0) → (bad = false → bad0 = false ∧ pRaw l = bnd (pCs n cur2) fun o r => some ((acc ++ [(⟨⟨s.toArray⟩, vs⟩ : Co)]) ++ o, r)) ∧ RowSz (acc ++ [(⟨⟨s.toArray⟩, vs⟩ : Co)]) ∧ (acc ++ [(⟨⟨s.toArray⟩, vs⟩ : Co)]).length + n ≤ 255 := fun hk => by
            refine ⟨fun hb => ⟨hb0, ?_⟩, fun c hc => ?_, by rw [List.length_append]; simp; omega⟩
            · have h9 := g4 hb
              rw [hk hb] at h9
              rw [h9]
              simp only [pEs, bnd_some, List.append_nil, List.append_assoc, List.singleton_append]
            · rcases List.mem_append.1 hc with hc | hc
              · exact hz c hc
              · rw [List.mem_singleton.1 hc]; exact g3
          have hsub : IntKind.i64.wrap (((n + 1 : Nat) : Int) - 1) = (n : Int) := by rw [z64 (by omega) (by omega)]; omega
          cases bad with
          | true =>
            obtain ⟨o1, o2, o3⟩ := hOut (fun h => by cases h)
            repeat' (first | (refine no_implicit_lambda% (awd1 ?_)) | (((with_reducible refine no_implicit_lambda% (is_aops ?_)); refine no_implicit_lambda% (o_split rfl rfl rfl (fun hc => ?_) (fun hc => ?_)) <;> first | exact decx hc | rw [hc])) | (((with_reducible refine no_implicit_lambda% (is_cond ?_)); refine no_implicit_lambda% (c_cond rfl (fun hc => ?_) (fun hc => ?_)) <;> first | exact decx hc | skip)) | (((with_reducible refine no_implicit_lambda% (is_aop ?_)); refine no_implicit_lambda% (a_pick rfl rfl (fun hc => ?_) (fun hc => ?_)) <;> first | exact decx hc | rw [hc])) | (refine no_implicit_lambda% (ans ?_)) | (with_reducible exact retN) | (with_reducible exact retP) | fail | fail)
            all_goals (((with_reducible refine no_implicit_lambda% (is_aop ?_)); refine no_implicit_lambda% (a_appS (sz := 2) (B := 40) (m2 := (acc ++ [(⟨⟨s.toArray⟩, vs⟩ : Co)]).length) (rows3 := (acc ++ [(⟨⟨s.toArray⟩, vs⟩ : Co)]).map corow) rfl rfl rfl rfl rfl rfl rfl rfl rfl rfl rfl (fun _ h => h) rfl rfl (coOk acc) (coOk [(⟨⟨s.toArray⟩, vs⟩ : Co)]) (by first | rfl | (exact List.length_map ..) | (simp; done) | (simp; omega)) rfl (by first | omega | (simp; omega)) (by first | rfl | (simp; done) | (simp; omega)) (by first | rfl | (exact map_snoc _ _) | (rw [List.map_append]; rfl) | (simp; done)) ?_)))
            all_goals (intro cp' c1 c2; refine no_implicit_lambda% (akc ?_); repeat' (first | (refine no_implicit_lambda% (awd1 ?_)) | (((with_reducible refine no_implicit_lambda% (is_aops ?_)); refine no_implicit_lambda% (o_split rfl rfl rfl (fun hc => ?_) (fun hc => ?_)) <;> first | exact decx hc | rw [hc])) | (((with_reducible refine no_implicit_lambda% (is_cond ?_)); refine no_implicit_lambda% (c_cond rfl (fun hc => ?_) (fun hc => ?_)) <;> first | exact decx hc | skip)) | (((with_reducible refine no_implicit_lambda% (is_aop ?_)); refine no_implicit_lambda% (a_pick rfl rfl (fun hc => ?_) (fun hc => ?_)) <;> first | exact decx hc | rw [hc])) | (refine no_implicit_lambda% (ans ?_)) | (with_reducible exact retN) | (with_reducible exact retP) | fail | fail); rw [hsub]; (refine no_implicit_lambda% (k_loopLT (((cur2, true, acc ++ [(⟨⟨s.toArray⟩, vs⟩ : Co)], cp', n) : List UInt8 × Bool × List Co × Nat × Nat)) 1 [0, 1, 2, 3, 4, 5, 19] (⟨g1, c1, c2, o2, o3, o1, g5⟩) (by first | omega | (simp; done) | (simp; omega)) (Nat.le_of_ble_eq_true rfl) (fun _ h => h) (fun _ h => h) ?_ ?_)); (focus ((try dsimp only); exact wkl)); (focus ((try dsimp only); exact wkh)))
          | false =>
            rcases k with _ | k
            · obtain ⟨o1, o2, o3⟩ := hOut (fun _ => rfl)
              repeat' (first | (refine no_implicit_lambda% (awd1 ?_)) | (((with_reducible refine no_implicit_lambda% (is_aops ?_)); refine no_implicit_lambda% (o_split rfl rfl rfl (fun hc => ?_) (fun hc => ?_)) <;> first | exact decx hc | rw [hc])) | (((with_reducible refine no_implicit_lambda% (is_cond ?_)); refine no_implicit_lambda% (c_cond rfl (fun hc => ?_) (fun hc => ?_)) <;> first | exact decx hc | skip)) | (((with_reducible refine no_implicit_lambda% (is_aop ?_)); refine no_implicit_lambda% (a_pick rfl rfl (fun hc => ?_) (fun hc => ?_)) <;> first | exact decx hc | rw [hc])) | (refine no_implicit_lambda% (ans ?_)) | (with_reducible exact retN) | (with_reducible exact retP) | fail | fail)
              all_goals (((with_reducible refine no_implicit_lambda% (is_aop ?_)); refine no_implicit_lambda% (a_appS (sz := 2) (B := 40) (m2 := (acc ++ [(⟨⟨s.toArray⟩, vs⟩ : Co)]).length) (rows3 := (acc ++ [(⟨⟨s.toArray⟩, vs⟩ : Co)]).map corow) rfl rfl rfl rfl rfl rfl rfl rfl rfl rfl rfl (fun _ h => h) rfl rfl (coOk acc) (coOk [(⟨⟨s.toArray⟩, vs⟩ : Co)]) (by first | rfl | (exact List.length_map ..) | (simp; done) | (simp; omega)) rfl (by first | omega | (simp; omega)) (by first | rfl | (simp; done) | (simp; omega)) (by first | rfl | (exact map_snoc _ _) | (rw [List.map_append]; rfl) | (simp; done)) ?_)))
              all_goals (intro cp' c1 c2; refine no_implicit_lambda% (akc ?_); repeat' (first | (refine no_implicit_lambda% (awd1 ?_)) | (((with_reducible refine no_implicit_lambda% (is_aops ?_)); refine no_implicit_lambda% (o_split rfl rfl rfl (fun hc => ?_) (fun hc => ?_)) <;> first | exact decx hc | rw [hc])) | (((with_reducible refine no_implicit_lambda% (is_cond ?_)); refine no_implicit_lambda% (c_cond rfl (fun hc => ?_) (fun hc => ?_)) <;> first | exact decx hc | skip)) | (((with_reducible refine no_implicit_lambda% (is_aop ?_)); refine no_implicit_lambda% (a_pick rfl rfl (fun hc => ?_) (fun hc => ?_)) <;> first | exact decx hc | rw [hc])) | (refine no_implicit_lambda% (ans ?_)) | (with_reducible exact retN) | (with_reducible exact retP) | fail | fail); rw [hsub]; (refine no_implicit_lambda% (k_loopLT (((cur2, false, acc ++ [(⟨⟨s.toArray⟩, vs⟩ : Co)], cp', n) : List UInt8 × Bool × List Co × Nat × Nat)) 1 [0, 1, 2, 3, 4, 5, 19] (⟨g1, c1, c2, o2, o3, o1, g5⟩) (by first | omega | (simp; done) | (simp; omega)) (Nat.le_of_ble_eq_true rfl) (fun _ h => h) (fun _ h => h) ?_ ?_)); (focus ((try dsimp only); exact wkl)); (focus ((try dsimp only); exact wkh)))
            · repeat' (first | (refine no_implicit_lambda% (awd1 ?_)) | (((with_reducible refine no_implicit_lambda% (is_aops ?_)); refine no_implicit_lambda% (o_split rfl rfl rfl (fun hc => ?_) (fun hc => ?_)) <;> first | exact decx hc | rw [hc])) | (((with_reducible refine no_implicit_lambda% (is_cond ?_)); refine no_implicit_lambda% (c_cond rfl (fun hc => ?_) (fun hc => ?_)) <;> first | exact decx hc | skip)) | (((with_reducible refine no_implicit_lambda% (is_aop ?_)); refine no_implicit_lambda% (a_pick rfl rfl (fun hc => ?_) (fun hc => ?_)) <;> first | exact decx hc | rw [hc])) | (refine no_implicit_lambda% (ans ?_)) | (with_reducible exact retN) | (with_reducible exact retP) | fail | fail)
              (refine no_implicit_lambda% (cal [0] (qL_c cur2 false (by omega)) ?_ ?_))
              rotate_left
              · intro xx H' hh
                obtain ⟨_, _, _, _, _, _, _, h', _⟩ := hh
                cases h'
              intro xx H' hh
              obtain ⟨t, r3, b3, ht, hr3, w1, w2, h', rfl⟩ := hh
              cases h'
              first | (refine no_implicit_lambda% (akc ?_)) | (refine no_implicit_lambda% (aec ?_))
              have ht2 : t < 18446744073709551616 := ht
              have hsub2 : IntKind.i64.wrap (((k + 1 : Nat) : Int) - 1) = (k : Int) := by rw [z64 (by omega) (by omega)]; omega
              have hVs : ∀ v : Va, (v.b.length ≤ 16 ∧ v.n < 18446744073709551616) → ∀ x ∈ vs ++ [(⟨IntKind.i64.wrap (t : Int), v⟩ : Ve)], x.v.b.length < 1073741824 ∧ x.v.n < 18446744073709551616 := fun v hv x hx => by
                rcases List.mem_append.1 hx with hx | hx
                · exact g3 x hx
                · rw [List.mem_singleton.1 hx]; exact ⟨by have := hv.1; show v.b.length < _; omega, hv.2⟩
              repeat' (first | (refine no_implicit_lambda% (awd1 ?_)) | (((with_reducible refine no_implicit_lambda% (is_aops ?_)); refine no_implicit_lambda% (o_split rfl rfl rfl (fun hc => ?_) (fun hc => ?_)) <;> first | exact decx hc | rw [hc])) | (((with_reducible refine no_implicit_lambda% (is_cond ?_)); refine no_implicit_lambda% (c_cond rfl (fun hc => ?_) (fun hc => ?_)) <;> first | exact decx hc | skip)) | (((with_reducible refine no_implicit_lambda% (is_aop ?_)); refine no_implicit_lambda% (a_pick rfl rfl (fun hc => ?_) (fun hc => ?_)) <;> first | exact decx hc | rw [hc])) | (refine no_implicit_lambda% (ans ?_)) | (with_reducible exact retN) | (with_reducible exact retP) | (refine no_implicit_lambda% (cal [0] (refFail_c r3 b3) ?_ ?_)) | fail)
              · have hbig : 1099511627776 < t := by have h9 := of_decide_eq_true hc; omega
                have hnone : bad0 = false → pR l = none := fun _ => by
                  cases b3 with
                  | false => exact pR_late (g4 rfl) (w1 rfl).2 hbig ht2
                  | true =>
                    unfold pR
                    rw [g4 rfl]
                    simp only [pEs, pE, (w2 rfl).2 rfl, bnd_none]
                (refine no_implicit_lambda% (cal [0] (qV_c [] true (by decide)) ?_ ?_))
                rotate_left
                · intro xx H' hh
                  obtain ⟨_, _, _, _, _, _, _, h', _⟩ := hh
                  cases h'
                intro xx H' hh
                obtain ⟨v, l4, b4, hv, hl4, p1, p2, h', rfl⟩ := hh
                cases h'
                first | (refine no_implicit_lambda% (akc ?_)) | (refine no_implicit_lambda% (aec ?_))
                have hi1 : l4.length ≤ l.length := by
                  have : l4.length ≤ 0 := hl4
                  omega
                have hi2 : (vs ++ [(⟨IntKind.i64.wrap (t : Int), v⟩ : Ve)]).length + k ≤ 255 := by rw [List.length_append]; simp; omega
                have hg1 : b4 = false → pRaw l = bnd (pEs k l4) fun xs r => bnd (pCs n r) fun o r3 => some (acc ++ ⟨⟨s.toArray⟩, (vs ++ [(⟨IntKind.i64.wrap (t : Int), v⟩ : Ve)]) ++ xs⟩ :: o, r3) := fun hb => by cases (p1 hb).1
                have hg2 : b4 = true → l4 = [] ∧ (bad0 = false → pR l = none) := fun hb => ⟨(p2 hb).1, hnone⟩
                repeat' (first | (refine no_implicit_lambda% (awd1 ?_)) | (((with_reducible refine no_implicit_lambda% (is_drB ?_)); refine no_implicit_lambda% (b_two rfl rfl rfl rfl rfl (fun _ h => h) (fun _ h => h) (fun _ h => h) (fun _ h => h) rfl rfl ?_ ?_))) | fail)
                all_goals rw [hsub2]
                all_goals ((refine no_implicit_lambda% (k_loopLT (((l4, b4, vs ++ [(⟨IntKind.i64.wrap (t : Int), v⟩ : Ve)], k) : List UInt8 × Bool × List Ve × Nat)) 1 (List.range 19) (⟨hi1, hi2, hVs v hv, hg1, hg2⟩) (by first | omega | (simp; done) | (simp; omega)) (Nat.le_of_ble_eq_true rfl) (fun _ h => h) (fun _ h => h) ?_ ?_)); (focus ((try dsimp only); exact wkl)); (focus ((try dsimp only); exact wkh)))
              · (refine no_implicit_lambda% (cal [0] (qV_c r3 b3 (by omega)) ?_ ?_))
                rotate_left
                · intro xx H' hh
                  obtain ⟨_, _, _, _, _, _, _, h', _⟩ := hh
                  cases h'
                intro xx H' hh
                obtain ⟨v, l4, b4, hv, hl4, p1, p2, h', rfl⟩ := hh
                cases h'
                first | (refine no_implicit_lambda% (akc ?_)) | (refine no_implicit_lambda% (aec ?_))
                have hg1 : b4 = false → pRaw l = bnd (pEs k l4) fun xs r => bnd (pCs n r) fun o r3 => some (acc ++ ⟨⟨s.toArray⟩, (vs ++ [(⟨IntKind.i64.wrap (t : Int), v⟩ : Ve)]) ++ xs⟩ :: o, r3) := fun hb => by
                  obtain ⟨e1, e2⟩ := p1 hb
                  rw [g4 rfl]
                  simp only [pEs, pE, (w1 e1).2, bnd_some, e2, bnd_assoc, List.append_assoc, List.singleton_append]
                have hg2 : b4 = true → l4 = [] ∧ (bad0 = false → pR l = none) := fun hb => ⟨(p2 hb).1, fun _ => by
                  unfold pR
                  rw [g4 rfl]
                  cases b3 with
                  | false => simp only [pEs, pE, (w1 rfl).2, bnd_some, (p2 hb).2 rfl, bnd_none]
                  | true => simp only [pEs, pE, (w2 rfl).2 rfl, bnd_none]⟩
                have hi1 : l4.length ≤ l.length := by omega
                have hi2 : (vs ++ [(⟨IntKind.i64.wrap (t : Int), v⟩ : Ve)]).length + k ≤ 255 := by rw [List.length_append]; simp; omega
                repeat' (first | (refine no_implicit_lambda% (awd1 ?_)) | (((with_reducible refine no_implicit_lambda% (is_drB ?_)); refine no_implicit_lambda% (b_two rfl rfl rfl rfl rfl (fun _ h => h) (fun _ h => h) (fun _ h => h) (fun _ h => h) rfl rfl ?_ ?_))) | fail)
                all_goals rw [hsub2]
                all_goals ((refine no_implicit_lambda% (k_loopLT (((l4, b4, vs ++ [(⟨IntKind.i64.wrap (t : Int), v⟩ : Ve)], k) : List UInt8 × Bool × List Ve × Nat)) 1 (List.range 19) (⟨hi1, hi2, hVs v hv, hg1, hg2⟩) (by first | omega | (simp; done) | (simp; omega)) (Nat.le_of_ble_eq_true rfl) (fun _ h => h) (fun _ h => h) ?_ ?_)); (focus ((try dsimp only); exact wkl)); (focus ((try dsimp only); exact wkh)))
end Go.Proofs.YtjepgbpcpcahgaaGreat
namespace Go.Proofs.YtjepgbpcpcahgaaGreat
open Go.Am
set_option linter.unusedSimpArgs false
set_option linter.unusedVariables false
set_option maxRecDepth 100000
set_option maxHeartbeats 3200000 in
theorem writes4_c (r : List Co) (hr : r.length < 70368744177664) (hz : RowSz r) : ACalls Tryz.prog 8 0 200000 [rowA r] [] (fun out H' => out = .ret (.v (.bool true)) ∧ H' = []) := by
  have hw := write_c r [] hr hz (by decide)
  have hd := done_c ([] ++ encR (copyR r)) (by have := encR_len (copy_w hz); simp; omega)
  have hq := rwrite_c [] r hr hz (by decide)
  rw [List.nil_append] at hw hd hq
  generalize encR (copyR r) = e at *
  refine no_implicit_lambda% (acalls_of tok dok (f := 8) ⟨Tryz.func8, rfl, by kernel_rfl⟩ ?_); refine no_implicit_lambda% (c_start (fun _ h => h) ?_)
  repeat' (first | (refine no_implicit_lambda% (awd1 ?_)) | (((with_reducible refine no_implicit_lambda% (is_aops ?_)); refine no_implicit_lambda% (o_split rfl rfl rfl (fun hc => ?_) (fun hc => ?_)) <;> first | exact decx hc | rw [hc])) | (((with_reducible refine no_implicit_lambda% (is_cond ?_)); refine no_implicit_lambda% (c_cond rfl (fun hc => ?_) (fun hc => ?_)) <;> first | exact decx hc | skip)) | (((with_reducible refine no_implicit_lambda% (is_aop ?_)); refine no_implicit_lambda% (a_pick rfl rfl (fun hc => ?_) (fun hc => ?_)) <;> first | exact decx hc | rw [hc])) | (refine no_implicit_lambda% (ans ?_)) | (with_reducible exact retN) | (with_reducible exact retP) | (refine no_implicit_lambda% (cal [] (new_c) ?_ ?_)) | fail)
  (refine no_implicit_lambda% (cal [1, 2] (hw) ?_ ?_))
  · refine no_implicit_lambda% (ret1 ?_); first | (refine no_implicit_lambda% (akc ?_)) | (refine no_implicit_lambda% (aec ?_))
    repeat' (first | (refine no_implicit_lambda% (awd1 ?_)) | (((with_reducible refine no_implicit_lambda% (is_aops ?_)); refine no_implicit_lambda% (o_split rfl rfl rfl (fun hc => ?_) (fun hc => ?_)) <;> first | exact decx hc | rw [hc])) | (((with_reducible refine no_implicit_lambda% (is_cond ?_)); refine no_implicit_lambda% (c_cond rfl (fun hc => ?_) (fun hc => ?_)) <;> first | exact decx hc | skip)) | (((with_reducible refine no_implicit_lambda% (is_aop ?_)); refine no_implicit_lambda% (a_pick rfl rfl (fun hc => ?_) (fun hc => ?_)) <;> first | exact decx hc | rw [hc])) | (((with_reducible refine no_implicit_lambda% (is_ev ?_)); refine no_implicit_lambda% (v_split rfl rfl rfl rfl (fun hc => ?_) (fun hc => ?_)) <;> first | exact decx hc | rw [hc])) | (refine no_implicit_lambda% (ans ?_)) | (with_reducible exact retN) | (with_reducible exact retP) | (refine no_implicit_lambda% (cal [1, 2] (hd) ?_ ?_)) | fail)
    (refine no_implicit_lambda% (calw [] (hq) ?_ ?_))
    · refine no_implicit_lambda% (ret1 ?_); first | (refine no_implicit_lambda% (akc ?_)) | (refine no_implicit_lambda% (aec ?_))
      repeat' (first | (refine no_implicit_lambda% (awd1 ?_)) | (((with_reducible refine no_implicit_lambda% (is_aops ?_)); refine no_implicit_lambda% (o_split rfl rfl rfl (fun hc => ?_) (fun hc => ?_)) <;> first | exact decx hc | rw [hc])) | (((with_reducible refine no_implicit_lambda% (is_cond ?_)); refine no_implicit_lambda% (c_cond rfl (fun hc => ?_) (fun hc => ?_)) <;> first | exact decx hc | skip)) | (((with_reducible refine no_implicit_lambda% (is_aop ?_)); refine no_implicit_lambda% (a_pick rfl rfl (fun hc => ?_) (fun hc => ?_)) <;> first | exact decx hc | rw [hc])) | (((with_reducible refine no_implicit_lambda% (is_ev ?_)); refine no_implicit_lambda% (v_split rfl rfl rfl rfl (fun hc => ?_) (fun hc => ?_)) <;> first | exact decx hc | rw [hc])) | (refine no_implicit_lambda% (ans ?_)) | (with_reducible exact retN) | (with_reducible exact retP) | fail | fail)
      exact e_ret (H' := []) (rest := _) rfl ⟨congrArg (fun b => AOut.ret (.v (.bool b))) (beq_self_eq_true _), rfl⟩ permT (Nat.le_of_ble_eq_true rfl)
    · first | (exact retN) | (exact retP)
  · first | (exact retN) | (exact retP)
theorem pR_row {l r : List UInt8} {o : List Co} (h : pR l = some (o, r)) : rowB o = true := by
  unfold pR at h
  cases h1 : pRaw l with
  | none => rw [h1] at h; cases h
  | some a =>
    rw [h1] at h
    have h2 : (if rowB a.1 then some (a.1, a.2) else none) = some (o, r) := h
    split at h2
    · rename_i hb
      cases h2
      exact hb
    · cases h2
theorem same_raw {o : List Co} (h : rowB o = true) (hz : RowSz o) : ACalls Tryz.prog 22 0 0 [rowA o, rowA o] [] (fun out H' => out = .ret (.v (.bool true)) ∧ H' = []) := by
  have h2 := h
  unfold rowB at h2
  simp only [Bool.and_eq_true, decide_eq_true_eq] at h2
  exact refsame_r o (by omega) (fun c hc => by have := col_len (row_mem h hc); omega) (fun c hc y hy => (hz c hc y hy).2)
def zrH : Heap := [(0, .box [.list [] .full])]
theorem reads4b_c (l : List UInt8) (hl : l.length < 10000000) : ACalls Tryz.prog 37 2 100010 [.ptr 1 0, .ptr 0 0] ((1, .box [.list (l.map brow) .free]) :: zrH) (cbR 1 (fun l' H' => ∃ o, pR l = some (o, l') ∧ RowSz o ∧ H' = [(0, .box [.list (o.map corow) .free])]) (fun H' => pR l = none ∧ H' = zrH)) := by
  have ht := take4_c l hl
  refine no_implicit_lambda% (acalls_of tok dok (f := 37) ⟨Tryz.func37, rfl, by kernel_rfl⟩ ?_); refine no_implicit_lambda% (c_start (fun _ h => h) ?_)
  refine no_implicit_lambda% (awd ?_)
  (refine no_implicit_lambda% (cal [1] (ht) ?_ ?_))
  · intro x H' hh
    rcases hh with ⟨o, r, g, ⟨hz, _⟩, h', rfl⟩ | ⟨_, h', _⟩
    · cases h'
      first | (refine no_implicit_lambda% (akc ?_)) | (refine no_implicit_lambda% (aec ?_))
      refine no_implicit_lambda% (awd ?_)
      exact e_ret (H' := (1, .box [.list (r.map brow) .free]) :: [(0, .box [.list (o.map corow) .free])]) (rest := _) rfl (.inl ⟨_, r, _, ⟨o, g, hz, rfl⟩, rfl, rfl⟩) permT (Nat.le_of_ble_eq_true rfl)
    · cases h'
  · intro x H' hh
    rcases hh with ⟨_, _, _, _, h', _⟩ | ⟨hno, h', rfl⟩
    · cases h'
    · cases h'
      refine no_implicit_lambda% (awd ?_)
      exact e_pan (H' := zrH) (rest := []) (.inr ⟨_, ⟨hno, rfl⟩, rfl, rfl⟩) permT (Nat.le_of_ble_eq_true rfl)
set_option maxHeartbeats 3200000 in
theorem reads4_c (l : List UInt8) (hl : l.length < 10000000) : ACalls Tryz.prog 9 0 300000 [.list (l.map brow) .free] [] (fun out H' => out = .ret (.v (.bool true)) ∧ H' = []) := by
  refine no_implicit_lambda% (acalls_of tok dok (f := 9) ⟨Tryz.func9, rfl, by kernel_rfl⟩ ?_); refine no_implicit_lambda% (c_start (fun _ h => h) ?_)
  refine no_implicit_lambda% (awd ?_)
  (refine no_implicit_lambda% (calw [0] (read_c (m := 1) (cap := [.ptr 0 0]) (H1 := zrH) (by decide) (reads4b_c l hl) (fun f hf => by simp [AV.renL, AV.ren, hf]) (fun f hf => by simp [renH, Res.ren, AV.renL, AV.ren, hf, zrH, Own.ren]) (fun l' H h f hf => by obtain ⟨v, _, _, rfl⟩ := h; simp [renH, Res.ren, AV.renL, AV.ren, hf, Own.ren]) (fun H h f hf => by obtain ⟨_, rfl⟩ := h; simp [renH, Res.ren, AV.renL, AV.ren, hf, zrH, Own.ren])) ?_ ?_))
  · intro x H' h
    rcases h with ⟨l', ⟨o, g, hz, rfl⟩, h1⟩ | ⟨⟨hno, rfl⟩, h1⟩
    · cases h1
      refine no_implicit_lambda% (akc ?_)
      refine no_implicit_lambda% (awd ?_)
      (refine no_implicit_lambda% (cal [100012] (rtake4_c l false hl) ?_ ?_))
      · intro x H' h
        obtain ⟨o2, r2, b2, hz2, hr2, p1, p2, h', rfl⟩ := h
        cases h'
        cases b2 with
        | true => exact absurd ((p2 rfl).2 rfl) (by rw [g]; simp)
        | false =>
          have h9 := (p1 rfl).2
          rw [g] at h9
          cases h9
          have ss := same_raw (pR_row g) hz
          have hwh := refWhole_c l' false
          rw [show (!false && decide (((l'.map brow).length : Int) = 0)) = decide (((l'.map brow).length : Int) = 0) from rfl] at hwh
          first | (refine no_implicit_lambda% (akc ?_)) | (refine no_implicit_lambda% (aec ?_))
          generalize decide (((l'.map brow).length : Int) = 0) = d at *
          cases d <;> repeat' (first | (refine no_implicit_lambda% (awd1 ?_)) | (((with_reducible refine no_implicit_lambda% (is_aops ?_)); refine no_implicit_lambda% (o_split rfl rfl rfl (fun hc => ?_) (fun hc => ?_)) <;> first | exact decx hc | rw [hc])) | (((with_reducible refine no_implicit_lambda% (is_cond ?_)); refine no_implicit_lambda% (c_cond rfl (fun hc => ?_) (fun hc => ?_)) <;> first | exact decx hc | skip)) | (((with_reducible refine no_implicit_lambda% (is_aop ?_)); refine no_implicit_lambda% (a_pick rfl rfl (fun hc => ?_) (fun hc => ?_)) <;> first | exact decx hc | rw [hc])) | (refine no_implicit_lambda% (ans ?_)) | (with_reducible exact retN) | (with_reducible exact retP) | (refine no_implicit_lambda% (cal [100012] (hwh) ?_ ?_)) | (refine no_implicit_lambda% (cal [] (ss) ?_ ?_)) | fail)
          all_goals exact e_ret (H' := []) (rest := _) rfl ⟨rfl, rfl⟩ permT (Nat.le_of_ble_eq_true rfl)
      · intro x H' h
        obtain ⟨_, _, _, _, _, _, _, h', _⟩ := h
        cases h'
    · cases h1
      refine no_implicit_lambda% (akc ?_)
      refine no_implicit_lambda% (awd ?_)
      (refine no_implicit_lambda% (cal [100012] (rtake4_c l false hl) ?_ ?_))
      · intro x H' h
        obtain ⟨o2, r2, b2, hz2, hr2, p1, p2, h', rfl⟩ := h
        cases h'
        cases b2 with
        | false => exact absurd (p1 rfl).2 (by rw [hno]; simp)
        | true =>
          first | (refine no_implicit_lambda% (akc ?_)) | (refine no_implicit_lambda% (aec ?_))
          repeat' (first | (refine no_implicit_lambda% (awd1 ?_)) | (((with_reducible refine no_implicit_lambda% (is_aops ?_)); refine no_implicit_lambda% (o_split rfl rfl rfl (fun hc => ?_) (fun hc => ?_)) <;> first | exact decx hc | rw [hc])) | (((with_reducible refine no_implicit_lambda% (is_cond ?_)); refine no_implicit_lambda% (c_cond rfl (fun hc => ?_) (fun hc => ?_)) <;> first | exact decx hc | skip)) | (((with_reducible refine no_implicit_lambda% (is_aop ?_)); refine no_implicit_lambda% (a_pick rfl rfl (fun hc => ?_) (fun hc => ?_)) <;> first | exact decx hc | rw [hc])) | (refine no_implicit_lambda% (ans ?_)) | (with_reducible exact retN) | (with_reducible exact retP) | (refine no_implicit_lambda% (cal [100012] (refWhole_c r2 true) ?_ ?_)) | fail)
          all_goals exact e_ret (H' := []) (rest := _) rfl ⟨rfl, rfl⟩ permT (Nat.le_of_ble_eq_true rfl)
      · intro x H' h
        obtain ⟨_, _, _, _, _, _, _, h', _⟩ := h
        cases h'
  · intro x H' h
    rcases h with ⟨_, _, h1⟩ | ⟨_, h1⟩ <;> cases h1
end Go.Proofs.YtjepgbpcpcahgaaGreat
namespace Go.Proofs.YtjepgbpcpcahgaaGreat
open Go.Am
set_option linter.unusedSimpArgs false
set_option linter.unusedVariables false
set_option maxRecDepth 100000
theorem broOk (l : List UInt8) : RowsOk 1 (l.map brow) := .map (f := brow) (fun _ => ⟨rfl, rfl, rfl⟩) l
theorem map_snoc (l : List UInt8) (x : Nat) : l.map brow ++ [[AV.v (.int .u8 ((UInt8.ofNat x).toNat : Int))]] = (l ++ [UInt8.ofNat x]).map brow := by rw [List.map_append]; rfl
theorem u8_any (z : Int) : ∃ u : UInt8, IntKind.u8.wrap z = (u.toNat : Int) := by
  refine ⟨UInt8.ofNat (IntKind.u8.wrap z).toNat, ?_⟩
  have h1 : 0 ≤ IntKind.u8.wrap z ∧ IntKind.u8.wrap z < 256 := by rw [IntKind.wrap_u8]; omega
  generalize IntKind.u8.wrap z = x at *
  rw [UInt8.toNat_ofNat_of_lt' (by show x.toNat < 256; omega)]
  omega
end Go.Proofs.YtjepgbpcpcahgaaGreat
namespace Go.Proofs.YtjepgbpcpcahgaaGreat
open Go.Am
set_option linter.unusedSimpArgs false
set_option linter.unusedVariables false
set_option maxRecDepth 100000
def rbSt (M : List Co) (e b : List UInt8) (turn : UInt8) (q : Nat) : ASt := ⟨([.dead, .list (b.map brow) .free, .dead, .v (.int .u8 turn.toNat)] ++ List.replicate 5 .dead ++ [.ptr 90000 0, .list (e.map brow) .free, .v (.int .i64 q)] ++ List.replicate 41 .dead), [(90000, .box [.list (M.map corow) .free])], 200000⟩
def rbSt2 (M : List Co) (e b y : List UInt8) : ASt := ⟨([.dead, .list (b.map brow) .free] ++ List.replicate 7 .dead ++ [.ptr 90000 0, .list (e.map brow) .free, .dead, .list (y.map brow) .free] ++ List.replicate 40 .dead), [(90000, .box [.list (M.map corow) .free])], 200001⟩
set_option maxHeartbeats 6400000 in
theorem rbytes_rc (l : List Rk) (hl : ∀ a ∈ l, RkOk a) (h : l.length ≤ 9223372036854775807) (b : List UInt8) (at' : Int) (ha : -9223372036854775808 ≤ at' ∧ at' ≤ 9223372036854775807) (turn : UInt8) : ACalls Tryz.prog 3 0 9000000 [.list (l.map rkrow) .free, .list (b.map brow) .free, .v (.int .i64 at'), .v (.int .u8 turn.toNat)] [] (fun out H' => out = .ret (.v (.bool true)) ∧ H' = []) := by
  have hm := made4_c l hl h
  have hk := known_rc
  refine no_implicit_lambda% (acalls_of tok dok (f := 3) ⟨Tryz.func3, rfl, by kernel_rfl⟩ ?_); refine no_implicit_lambda% (c_start (fun _ h => h) ?_)
  repeat' (first | (refine no_implicit_lambda% (awd1 ?_)) | (((with_reducible refine no_implicit_lambda% (is_aops ?_)); refine no_implicit_lambda% (o_split rfl rfl rfl (fun hc => ?_) (fun hc => ?_)) <;> first | exact decx hc | rw [hc])) | (((with_reducible refine no_implicit_lambda% (is_cond ?_)); refine no_implicit_lambda% (c_cond rfl (fun hc => ?_) (fun hc => ?_)) <;> first | exact decx hc | skip)) | (((with_reducible refine no_implicit_lambda% (is_aop ?_)); refine no_implicit_lambda% (a_pick rfl rfl (fun hc => ?_) (fun hc => ?_)) <;> first | exact decx hc | rw [hc])) | (refine no_implicit_lambda% (ans ?_)) | (with_reducible exact retN) | (with_reducible exact retP) | fail | fail)
  (refine no_implicit_lambda% (cal [] (hm) ?_ ?_))
  rotate_left
  · intro xx H' hh
    obtain ⟨_, _, _, _, h', _⟩ := hh
    cases h'
  intro xx H' hh
  obtain ⟨M, hF, hz, _, h', rfl⟩ := hh
  cases h'
  first | (refine no_implicit_lambda% (akc ?_)) | (refine no_implicit_lambda% (aec ?_))
  have hM4 := hF.len
  have hw := rwrite_c [] M (by omega) hz (by decide)
  have hel := encR_len (hF.row_w hz)
  have he0 : 0 < (encR M).length := Nat.succ_pos _
  rw [hF.copy, List.nil_append] at hw
  have hws := writes4_c M (by omega) hz
  generalize encR M = e at *
  repeat' (first | (refine no_implicit_lambda% (awd1 ?_)) | (((with_reducible refine no_implicit_lambda% (is_aops ?_)); refine no_implicit_lambda% (o_split rfl rfl rfl (fun hc => ?_) (fun hc => ?_)) <;> first | exact decx hc | rw [hc])) | (((with_reducible refine no_implicit_lambda% (is_cond ?_)); refine no_implicit_lambda% (c_cond rfl (fun hc => ?_) (fun hc => ?_)) <;> first | exact decx hc | skip)) | (((with_reducible refine no_implicit_lambda% (is_aop ?_)); refine no_implicit_lambda% (a_pick rfl rfl (fun hc => ?_) (fun hc => ?_)) <;> first | exact decx hc | rw [hc])) | (refine no_implicit_lambda% (ans ?_)) | (with_reducible exact retN) | (with_reducible exact retP) | fail | fail)
  (refine no_implicit_lambda% (calw [] (hw) ?_ ?_))
  rotate_left
  · first | (exact retN) | (exact retP)
  refine no_implicit_lambda% (ret1 ?_); first | (refine no_implicit_lambda% (akc ?_)) | (refine no_implicit_lambda% (aec ?_))
  repeat' (first | ((with_reducible refine no_implicit_lambda% (is_aops ?_)); first | (refine no_implicit_lambda% (o_op rfl ?_)) | (refine no_implicit_lambda% (o_yes rfl rfl rfl ?_)) | (refine no_implicit_lambda% (o_no rfl rfl rfl (fun _ h => h) ?_)) | (refine no_implicit_lambda% (o_not rfl rfl rfl (fun _ h => h) ?_))) | ((with_reducible refine no_implicit_lambda% (is_opK ?_)); first | (refine no_implicit_lambda% (k_op' (fun _ h => h) ?_))) | ((with_reducible refine no_implicit_lambda% (is_aop ?_)); first | (refine no_implicit_lambda% (a_q1 rfl (fun _ h => h) ?_)) | (refine no_implicit_lambda% (a_box rfl (fun _ h => h) ?_)) | (refine no_implicit_lambda% (a_alloc rfl (fun _ h => h) ?_)) | (refine no_implicit_lambda% (a_storev rfl (fun _ h => h) ?_)) | (refine no_implicit_lambda% (a_store rfl (fun _ h => h) ?_)) | (refine no_implicit_lambda% (a_panic rfl rfl ?_))) | ((with_reducible refine no_implicit_lambda% (is_aop ?_)); first | (refine no_implicit_lambda% (a_append_tok rfl rfl rfl rfl rfl rfl rfl rfl rfl rfl rfl rfl rfl rfl (by first | rfl | (simp; done)) (fun _ h => h) (by (first | assumption | (intro row hr; simp only [List.mem_cons, List.not_mem_nil, or_false] at hr; rcases hr with rfl | rfl | rfl | rfl <;> rfl) | (intro row hr; simp at hr; done) | (intro row hr; simp only [List.mem_singleton] at hr; subst hr; rfl) | (intro row hr; obtain ⟨_, _, rfl⟩ := List.mem_map.1 hr; rfl))) (by (refine ⟨?_, ?_⟩ <;> (simp only [List.length_map, List.length_append, List.length_cons, List.length_nil]; omega))) ?_)) | (refine no_implicit_lambda% (a_append_full rfl rfl rfl rfl rfl rfl rfl rfl rfl rfl rfl rfl (by (first | assumption | (intro row hr; simp only [List.mem_cons, List.not_mem_nil, or_false] at hr; rcases hr with rfl | rfl | rfl | rfl <;> rfl) | (intro row hr; simp at hr; done) | (intro row hr; simp only [List.mem_singleton] at hr; subst hr; rfl) | (intro row hr; obtain ⟨_, _, rfl⟩ := List.mem_map.1 hr; rfl))) (by (first | assumption | (intro row hr; simp only [List.mem_cons, List.not_mem_nil, or_false] at hr; rcases hr with rfl | rfl | rfl | rfl <;> rfl) | (intro row hr; simp at hr; done) | (intro row hr; simp only [List.mem_singleton] at hr; subst hr; rfl) | (intro row hr; obtain ⟨_, _, rfl⟩ := List.mem_map.1 hr; rfl))) (by (refine ⟨?_, ?_⟩ <;> (simp only [List.length_map, List.length_append, List.length_cons, List.length_nil]; omega))) ?_))) | (first | (with_reducible refine no_implicit_lambda% (c_seq ?_)) | (with_reducible refine no_implicit_lambda% (c_region ?_)) | (with_reducible refine no_implicit_lambda% (c_ret ?_)) | (with_reducible refine no_implicit_lambda% (c_skip ?_)) | (with_reducible refine no_implicit_lambda% (c_block ?_)) | (with_reducible refine no_implicit_lambda% (c_exit ?_)) | (with_reducible refine no_implicit_lambda% (o_nil ?_)) | (with_reducible refine no_implicit_lambda% (k_seq ?_)) | (with_reducible refine no_implicit_lambda% (k_seq_ret ?_)) | (with_reducible refine no_implicit_lambda% (k_seq_exit ?_)) | (with_reducible refine no_implicit_lambda% (k_seq_pan ?_)) | (with_reducible refine no_implicit_lambda% (k_block ?_)) | (with_reducible refine no_implicit_lambda% (k_block_ret ?_)) | (with_reducible refine no_implicit_lambda% (k_block_pan ?_)) | ((with_reducible refine no_implicit_lambda% (is_blockx ?_)); first | (refine no_implicit_lambda% (k_block_here rfl ?_)) | (refine no_implicit_lambda% (k_block_on rfl ?_))) | (with_reducible refine no_implicit_lambda% (k_pan ?_)) | (with_reducible refine no_implicit_lambda% (k_opP ?_)) | (with_reducible refine no_implicit_lambda% (k_loop_ret ?_)) | (with_reducible refine no_implicit_lambda% (k_loop_exit ?_)) | (with_reducible refine no_implicit_lambda% (k_loop_pan ?_)) | (with_reducible refine no_implicit_lambda% (e_end ?_))) | (((with_reducible refine no_implicit_lambda% (is_cond ?_)); first | (refine no_implicit_lambda% (c_true rfl ?_)) | (refine no_implicit_lambda% (c_false rfl ?_)))) | ((with_reducible refine no_implicit_lambda% (is_aop ?_)); refine no_implicit_lambda% (a_qS rfl (qIx (fun _ h => h)) (by first | assumption | exact hpx (by assumption) | exact hpy (by assumption)) ?_)) | (((with_reducible refine no_implicit_lambda% (is_aops ?_)); refine no_implicit_lambda% (o_split rfl rfl rfl (fun hc => ?_) (fun hc => ?_)) <;> first | exact decx hc | rw [hc])) | (((with_reducible refine no_implicit_lambda% (is_cond ?_)); refine no_implicit_lambda% (c_cond rfl (fun hc => ?_) (fun hc => ?_)) <;> first | exact decx hc | skip)) | (((with_reducible refine no_implicit_lambda% (is_aop ?_)); refine no_implicit_lambda% (a_pick rfl rfl (fun hc => ?_) (fun hc => ?_)) <;> first | exact decx hc | rw [hc])) | (refine no_implicit_lambda% (ans ?_)) | (with_reducible exact retN) | (with_reducible exact retP) | fail | fail)
  (with_reducible refine no_implicit_lambda% (is_aop ?_)); first | (refine no_implicit_lambda% (a_qS rfl (fun _ h => h) ?_ ?_)) | (refine no_implicit_lambda% (a_qS rfl (qIx (fun _ h => h)) ?_ ?_)) | (refine no_implicit_lambda% (a_qS rfl (qAnd5 (fun _ h => h)) ?_ ?_)) | (refine no_implicit_lambda% (a_qS rfl (qStr (fun _ h => h)) ?_ ?_)) | (refine no_implicit_lambda% (a_qS rfl (qAnd4 (fun _ h => h)) ?_ ?_)) | (refine no_implicit_lambda% (a_qS rfl (qAnd2 (fun _ h => h)) ?_ ?_))
  · rw [List.length_map]; omega
  rw [List.length_map]
  have ht : -(e.length : Int) < at'.tmod e.length ∧ at'.tmod e.length < e.length := ⟨Int.lt_tmod_of_pos _ (by omega), Int.tmod_lt_of_pos _ (by omega)⟩
  generalize at'.tmod (e.length : Int) = k0 at *
  repeat' (first | (refine no_implicit_lambda% (sx1 ?_)) | (((with_reducible refine no_implicit_lambda% (is_aops ?_)); refine no_implicit_lambda% (o_split rfl rfl rfl (fun hc => ?_) (fun hc => ?_)) <;> first | exact decx hc | rw [hc])) | (((with_reducible refine no_implicit_lambda% (is_cond ?_)); refine no_implicit_lambda% (c_cond rfl (fun hc => ?_) (fun hc => ?_)) <;> first | exact decx hc | skip)) | (((with_reducible refine no_implicit_lambda% (is_aop ?_)); refine no_implicit_lambda% (a_pick rfl rfl (fun hc => ?_) (fun hc => ?_)) <;> first | exact decx hc | rw [hc])) | fail)
  refine k_seq ?_
  repeat' (first | (refine no_implicit_lambda% (sx1 ?_)) | (((with_reducible refine no_implicit_lambda% (is_aops ?_)); refine no_implicit_lambda% (o_split rfl rfl rfl (fun hc => ?_) (fun hc => ?_)) <;> first | exact decx hc | rw [hc])) | (((with_reducible refine no_implicit_lambda% (is_cond ?_)); refine no_implicit_lambda% (c_cond rfl (fun hc => ?_) (fun hc => ?_)) <;> first | exact decx hc | skip)) | (((with_reducible refine no_implicit_lambda% (is_aop ?_)); refine no_implicit_lambda% (a_pick rfl rfl (fun hc => ?_) (fun hc => ?_)) <;> first | exact decx hc | rw [hc])) | fail)
  refine k_seq ?_
  refine c_cutR (fun q => rbSt M e b turn q) (fun q => q < e.length) ?_ ?_
  · rintro q hq
    have h1 := reads4_c e (by omega)
    have h3 := cut_c b 60 (by decide)
    have h4 := reads4_c (b.take 60) (by rw [List.length_take]; omega)
    refine c_turn (n' := 200000) (fun _ h => h) (fun _ h => h) rfl ?_
    refine no_implicit_lambda% (awdz ?_)
    ((with_reducible refine no_implicit_lambda% (is_aop ?_)); refine no_implicit_lambda% (a_appS0 (sz := 1) (B := 1) (m2 := e.length) rfl rfl rfl rfl rfl rfl rfl rfl rfl (by first | exact .inl rfl | exact .inr ⟨_, _, rfl⟩) rfl rfl rfl (broOk e) (by first | omega | (simp; done) | (simp; omega)) (by first | omega | (simp; omega)) (by first | rfl | (exact List.length_map ..) | (simp; done)) ?_))
    intro cp h5 h6
    refine no_implicit_lambda% (akc ?_)
    refine no_implicit_lambda% (awdz ?_)
    (with_reducible refine no_implicit_lambda% (is_aop ?_)); first | (refine no_implicit_lambda% (a_qS rfl (fun _ h => h) ?_ ?_)) | (refine no_implicit_lambda% (a_qS rfl (qIx (fun _ h => h)) ?_ ?_)) | (refine no_implicit_lambda% (a_qS rfl (qAnd5 (fun _ h => h)) ?_ ?_)) | (refine no_implicit_lambda% (a_qS rfl (qStr (fun _ h => h)) ?_ ?_)) | (refine no_implicit_lambda% (a_qS rfl (qAnd4 (fun _ h => h)) ?_ ?_)) | (refine no_implicit_lambda% (a_qS rfl (qAnd2 (fun _ h => h)) ?_ ?_))
    · exact ⟨Int.natCast_nonneg q, by omega⟩
    refine no_implicit_lambda% (awdz ?_)
    have hrow : (e.map brow)[q]? = some (brow e[q]) := by rw [List.getElem?_map, List.getElem?_eq_getElem hq]; rfl
    generalize e[q] = c at *
    ((with_reducible refine no_implicit_lambda% (is_aop ?_)); refine no_implicit_lambda% (a_loadSeq (sz := 1) (rows := e.map brow) (i := q) (j := 0) rfl rfl rfl rfl rfl (broOk e) (hrow) rfl (by first | rfl | (simp; done) | (simp; omega)) ?_))
    refine no_implicit_lambda% (awdz ?_)
    obtain ⟨u, hu⟩ := u8_any ((BitVec.ofInt IntKind.u8.bits (c.toNat : Int) ^^^ BitVec.ofInt IntKind.u8.bits (turn.toNat : Int)).toNat : Nat)
    rw [hu]
    (with_reducible refine no_implicit_lambda% (is_aop ?_)); first | (refine no_implicit_lambda% (a_qS rfl (fun _ h => h) ?_ ?_)) | (refine no_implicit_lambda% (a_qS rfl (qIx (fun _ h => h)) ?_ ?_)) | (refine no_implicit_lambda% (a_qS rfl (qAnd5 (fun _ h => h)) ?_ ?_)) | (refine no_implicit_lambda% (a_qS rfl (qStr (fun _ h => h)) ?_ ?_)) | (refine no_implicit_lambda% (a_qS rfl (qAnd4 (fun _ h => h)) ?_ ?_)) | (refine no_implicit_lambda% (a_qS rfl (qAnd2 (fun _ h => h)) ?_ ?_))
    · exact ⟨Int.natCast_nonneg q, by omega⟩
    refine no_implicit_lambda% (awdz ?_)
    ((with_reducible refine no_implicit_lambda% (is_aop ?_)); refine no_implicit_lambda% (a_storeSeq (sz := 1) (rows := e.map brow) (i := q) (j := 0) (row' := brow u) rfl rfl rfl (fun _ h => h) rfl rfl (broOk e) (hrow) (by first | decide | (simp; done)) (by first | rfl | (simp; done)) (by first | rfl | (simp; done) | (simp; omega)) ?_))
    rw [← List.map_set]
    obtain ⟨Z, hZ⟩ : ∃ Z, Z = e.set q u := ⟨_, rfl⟩
    have hZl : e.length = Z.length := by rw [hZ, List.length_set]
    rw [← hZ]
    refine no_implicit_lambda% (akc ?_)
    repeat' (first | ((with_reducible refine no_implicit_lambda% (is_aops ?_)); first | (refine no_implicit_lambda% (o_op rfl ?_)) | (refine no_implicit_lambda% (o_yes rfl rfl rfl ?_)) | (refine no_implicit_lambda% (o_no rfl rfl rfl (fun _ h => h) ?_)) | (refine no_implicit_lambda% (o_not rfl rfl rfl (fun _ h => h) ?_))) | ((with_reducible refine no_implicit_lambda% (is_opK ?_)); first | (refine no_implicit_lambda% (k_op' (fun _ h => h) ?_))) | ((with_reducible refine no_implicit_lambda% (is_aop ?_)); first | (refine no_implicit_lambda% (a_q1 rfl (fun _ h => h) ?_)) | (refine no_implicit_lambda% (a_box rfl (fun _ h => h) ?_)) | (refine no_implicit_lambda% (a_alloc rfl (fun _ h => h) ?_)) | (refine no_implicit_lambda% (a_storev rfl (fun _ h => h) ?_)) | (refine no_implicit_lambda% (a_store rfl (fun _ h => h) ?_)) | (refine no_implicit_lambda% (a_panic rfl rfl ?_))) | ((with_reducible refine no_implicit_lambda% (is_aop ?_)); refine no_implicit_lambda% (a_qS rfl (qIx (fun _ h => h)) (by first | assumption | exact hpx (by assumption) | exact hpy (by assumption)) ?_)) | (with_reducible refine no_implicit_lambda% (o_nil ?_)) | fail)
    have h2 := reads4_c Z (by omega)
    refine k_seq_to (rbSt2 M e b Z) ((Conv.freezeS (j := 12) (sz := 1) (L0 := [(90000, .box [.list (M.map corow) .free])]) rfl (.refl _) (broOk Z) (by rw [List.length_map]; exact hZl.symm)).trans ?_) ?_
    · (refine no_implicit_lambda% (Conv.toT ?_ ?_ (Nat.le_of_ble_eq_true rfl))); (focus ((unfold rbSt2); (try dsimp only); exact wkl)); (focus ((unfold rbSt2); (try dsimp only); exact wkh))
    · refine c_turn (n' := 200001) (fun _ h => h) (fun _ h => h) rfl ?_
      repeat' (first | (refine no_implicit_lambda% (awd1 ?_)) | (((with_reducible refine no_implicit_lambda% (is_aops ?_)); refine no_implicit_lambda% (o_split rfl rfl rfl (fun hc => ?_) (fun hc => ?_)) <;> first | exact decx hc | rw [hc])) | (((with_reducible refine no_implicit_lambda% (is_cond ?_)); refine no_implicit_lambda% (c_cond rfl (fun hc => ?_) (fun hc => ?_)) <;> first | exact decx hc | skip)) | (((with_reducible refine no_implicit_lambda% (is_aop ?_)); refine no_implicit_lambda% (a_pick rfl rfl (fun hc => ?_) (fun hc => ?_)) <;> first | exact decx hc | rw [hc])) | (((with_reducible refine no_implicit_lambda% (is_ev ?_)); refine no_implicit_lambda% (v_split rfl rfl rfl rfl (fun hc => ?_) (fun hc => ?_)) <;> first | exact decx hc | rw [hc])) | (refine no_implicit_lambda% (ans ?_)) | (with_reducible exact retN) | (with_reducible exact retP) | ((with_reducible refine no_implicit_lambda% (ret1 ?_)); first | (refine no_implicit_lambda% (akcs ?_)) | (refine no_implicit_lambda% (aecs ?_))) | (refine no_implicit_lambda% (cal [] (hws) ?_ ?_)) | (refine no_implicit_lambda% (cal [] (h1) ?_ ?_)) | (refine no_implicit_lambda% (cal [] (h2) ?_ ?_)) | (refine no_implicit_lambda% (cal [] (h3) ?_ ?_)) | (refine no_implicit_lambda% (cal [] (h4) ?_ ?_)) | (refine no_implicit_lambda% (cal [] (hk) ?_ ?_)) | (((with_reducible refine no_implicit_lambda% (is_effK ?_)); refine no_implicit_lambda% (aecs ?_))) | (((with_reducible refine no_implicit_lambda% (is_drB ?_)); refine no_implicit_lambda% (b_ends ?_))) | (((with_reducible refine no_implicit_lambda% (is_aop ?_)); refine no_implicit_lambda% (a_stores ?_))) | ((with_reducible refine no_implicit_lambda% (is_aop ?_)); first | (refine no_implicit_lambda% (a_append_tok rfl rfl rfl rfl rfl rfl rfl rfl rfl rfl rfl rfl rfl rfl (by first | rfl | (simp; done)) (fun q hq => by rw [forceH_eq]; exact hq) (by (first | assumption | (intro row hr; simp only [List.mem_cons, List.not_mem_nil, or_false] at hr; rcases hr with rfl | rfl | rfl | rfl <;> rfl) | (intro row hr; simp at hr; done) | (intro row hr; simp only [List.mem_singleton] at hr; subst hr; rfl) | (intro row hr; obtain ⟨_, _, rfl⟩ := List.mem_map.1 hr; rfl))) (by (refine ⟨?_, ?_⟩ <;> (simp only [List.length_map, List.length_append, List.length_cons, List.length_nil]; omega))) ?_))) | fail)
      exact e_ret (H' := []) (rest := _) rfl ⟨rfl, rfl⟩ permT (Nat.le_of_ble_eq_true rfl)
  · intro Kx kN kP kR kE
    repeat' (first | (refine no_implicit_lambda% (awd1 ?_)) | (((with_reducible refine no_implicit_lambda% (is_aops ?_)); refine no_implicit_lambda% (o_split rfl rfl rfl (fun hc => ?_) (fun hc => ?_)) <;> first | exact decx hc | rw [hc])) | (((with_reducible refine no_implicit_lambda% (is_cond ?_)); refine no_implicit_lambda% (c_cond rfl (fun hc => ?_) (fun hc => ?_)) <;> first | exact decx hc | skip)) | (((with_reducible refine no_implicit_lambda% (is_aop ?_)); refine no_implicit_lambda% (a_pick rfl rfl (fun hc => ?_) (fun hc => ?_)) <;> first | exact decx hc | rw [hc])) | (refine no_implicit_lambda% (ans ?_)) | (with_reducible exact retN) | (with_reducible exact retP) | fail | fail)
    · have hneg : k0 < 0 := of_decide_eq_true hc
      rw [show IntKind.i64.wrap (0 - k0) = ((-k0).toNat : Int) by rw [z64 (by omega) (by omega)]; omega]
      refine kN (-k0).toNat _ _ _ (by omega) (.inl ?_)
      (refine no_implicit_lambda% (Conv.toT ?_ ?_ (Nat.le_of_ble_eq_true rfl))); (focus ((unfold rbSt); (try dsimp only); exact wkl)); (focus ((unfold rbSt); (try dsimp only); exact wkh))
    · have hneg : ¬ k0 < 0 := of_decide_eq_false hc
      rw [show k0 = ((k0.toNat : Nat) : Int) by omega]
      refine kN k0.toNat _ _ _ (by omega) (.inl ?_)
      (refine no_implicit_lambda% (Conv.toT ?_ ?_ (Nat.le_of_ble_eq_true rfl))); (focus ((unfold rbSt); (try dsimp only); exact wkl)); (focus ((unfold rbSt); (try dsimp only); exact wkh))
end Go.Proofs.YtjepgbpcpcahgaaGreat
namespace Go.Proofs.YtjepgbpcpcahgaaGreat
open Go.Am
set_option linter.unusedSimpArgs false
set_option linter.unusedVariables false
section
variable {H : Type} {enc : TypeId × Value → H} {w : World} {base : Nat} {sp : Nat → Bool} {held : Bool}
theorem opnRk : Opn enc Tryz.prog w base sp held 49 fun row => ∃ a : Rk, RkOk a ∧ row = rkrow a :=
  (opn_struct Tryz.underlying49 (Rs := [fun row => ∃ n, row = [.v (.int .i64 n)] ∧ IntKind.i64.min ≤ n ∧ n ≤ IntKind.i64.max, fun row => ∃ n, row = [.v (.int .i64 n)] ∧ IntKind.i64.min ≤ n ∧ n ≤ IntKind.i64.max, fun row => ∃ s : ByteArray, row = [.v (.string s)] ∧ s.size ≤ maxLen, fun row => ∃ n, row = [.v (.int .i64 n)] ∧ IntKind.i64.min ≤ n ∧ n ≤ IntKind.i64.max, fun row => ∃ tx n x b, ((-9223372036854775808 ≤ n ∧ n ≤ 9223372036854775807) ∧ x < 18446744073709551616) ∧ row = dvrow tx n x b])
    ⟨rfl, opn_int Tryz.underlying3, by kernel_rfl, opn_int Tryz.underlying3, by kernel_rfl, opn_string Tryz.underlying9, by kernel_rfl, opn_int Tryz.underlying2, by kernel_rfl, opnV, (show (_ : Nat) = _ by kernel_rfl)⟩).mono
    fun row hrow => by
      obtain ⟨_, _, e0, ⟨k, rfl, k1, k2⟩, _, _, e1, ⟨c, rfl, c1, c2⟩, _, _, e2, ⟨s, rfl, _⟩, _, _, e3, ⟨t, rfl, t1, t2⟩, _, _, e4, ⟨tx, n, x, b, ⟨n1, x1⟩, rfl⟩, e5⟩ := hrow
      refine ⟨⟨k, c, s, t, tx, n, x, b⟩, ⟨⟨c1, c2⟩, ⟨t1, t2⟩, n1, x1⟩, ?_⟩
      rw [e0, e1, e2, e3, e4, e5]
      simp [rkrow, dvrow]
theorem opnRks : Opn enc Tryz.prog w base sp held 22 fun row => ∃ l : List Rk, (∀ a ∈ l, RkOk a) ∧ l.length ≤ 9223372036854775807 ∧ row = [.list (l.map rkrow) .free] :=
  (opn_slice Tryz.underlying22 (by kernel_rfl : Tryz.prog.cellsOf 49 = 8) (by decide) opnRk).mono fun row ⟨rows, h1, h2, h3⟩ => by
    obtain ⟨l, hl, rfl⟩ := listOf (f := rkrow) (Q := RkOk) fun r hr => (h3 r hr).1
    exact ⟨l, hl, by have : maxLen = 9223372036854775807 := by decide
                     simpa [this] using h2, h1⟩
end
end Go.Proofs.YtjepgbpcpcahgaaGreat
