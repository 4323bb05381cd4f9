/- ValueNumbers: chapter 3's closed sentence. -/
import Derived.Test.YtdfnepbhgifkkaaVk
import Derived.Test.YtdfnepbhgifkkaaAmLd
namespace Go.Proofs.Ytdfnepbhgifkkaa
open Go.Am
set_option linter.unusedSimpArgs false
set_option linter.unusedVariables false
set_option maxRecDepth 100000
def Small (v : Va) : Prop := v.n < 18446744073709551616 ∧ v.b.length ≤ 20
theorem VOk.small {v : Va} (h : VOk v) : Small v := by
  rcases h with h | h
  · exact ⟨by rw [h.2.1]; decide, by omega⟩
  · exact ⟨h.2.2, by rw [h.2.1]; decide⟩
def z16 : List UInt8 := List.replicate 16 0
def z17 : List UInt8 := List.replicate 17 0
def seven : List Va := [⟨0, [], 0⟩, ⟨9, [], 4617315517961601024⟩, ⟨1, [], 0⟩, ⟨1, [97], 4613937818241073152⟩, ⟨1, [97, 98], 0⟩, ⟨1, z16, 0⟩, ⟨1, z17, 0⟩]
theorem seven_small : ∀ v ∈ seven, Small v := by
  intro v hv
  simp only [seven, List.mem_cons, List.not_mem_nil, or_false] at hv
  rcases hv with rfl | rfl | rfl | rfl | rfl | rfl | rfl <;> exact ⟨by decide, by decide⟩
def frow (v : Va) : List AV := [.v (.int .i64 v.kind), .list (v.b.map brow) .full, .v (.float .f64 v.n)]
theorem rows7 : ∀ l : List Va, LDR (seven.map frow ++ l.map vrowV) ((seven ++ l).map vrowV) := by
  have e : ∀ v : Va, LDL (frow v) (vrowV v) := fun v => .cons (.refl _) (.cons (.free _ _) (.cons (.refl _) .nil))
  have r : ∀ l : List Va, LDR (l.map vrowV) (l.map vrowV) := fun l => by
    induction l with
    | nil => exact .nil
    | cons v l ih => exact .cons (.cons (.refl _) (.cons (.refl _) (.cons (.refl _) .nil))) ih
  intro l
  exact .cons (e _) (.cons (e _) (.cons (e _) (.cons (e _) (.cons (e _) (.cons (e _) (.cons (e _) (r l)))))))
/-- the loop's state: R are the rows as they are written out in the text -/
def smSt (R : List (List AV)) (l : List Va) (i : Nat) : ASt := ⟨[.dead, .list (R ++ l.map vrowV) (.tok 0), .v (.int .i64 i)] ++ List.replicate 25 .dead, [(0, .tok 3 (R.length + l.length))], 1⟩
set_option maxHeartbeats 3200000 in
theorem some3_c : ACalls Try.prog 28 0 1000 [] [] (fun out H' => ∃ l : List Va, (∀ v ∈ l, Small v) ∧ l.length ≤ 16 ∧ out = .ret (.list (l.map vrowV) .free) ∧ H' = []) := by
  refine acalls_of tok dok (f := 28) ⟨Try.func28, rfl, by kernel_rfl⟩ ?_; refine c_start (fun _ h => h) ?_
  refine awd ?_
  (with_reducible refine is_ev ?_); refine v_qS rfl rfl rfl rfl (qAnd4 (fun _ h => h)) (fun _ h => h) (by decide) ?_
  refine awd ?_
  (with_reducible refine is_ev ?_); refine v_qS rfl rfl rfl rfl (qAnd4 (fun _ h => h)) (fun _ h => h) (by decide) ?_
  refine awd ?_
  refine c_loop2 (fun l i => smSt (seven.map frow) l i) (fun l i => i ≤ 9 ∧ l.length = i ∧ ∀ v ∈ l, Small v) (fun _ i => 9 - i) [] 0 ⟨by omega, rfl, fun v hv => (List.not_mem_nil hv).elim⟩ ((Conv.tokSlot (rows := seven.map frow) (j := 1) (sz := 3) rfl (by intro row hr; obtain ⟨_, _, rfl⟩ := List.mem_map.1 hr; rfl)).trans (.to [] ?_ (.of_eq rfl) (Nat.le_of_ble_eq_true rfl))) ?_
  · unfold smSt
    (repeat' (first | (with_reducible exact .nil) | (refine .cons ?_ ?_) | (exact Wk.dead _) | (with_reducible exact Wk.refl _) | (exact WkL.nil))) <;> first | (exact Wk.eq rfl) | (exact Wk.int (w64 (by omega) (by omega))) | (exact Wk.int (by simp)) | (exact Wk.int (by simp; omega)) | (exact Wk.eq (by simp))
  · rintro l i ⟨h1, h2, h3⟩
    have hr7 := rows7 l
    have hR : ∀ row ∈ seven.map frow ++ l.map vrowV, row.length = 3 := by
      intro row hr
      rcases List.mem_append.1 hr with hr | hr <;> (obtain ⟨_, _, rfl⟩ := List.mem_map.1 hr; rfl)
    have hl : (seven.map frow).length = 7 := rfl
    have hl2 : (seven.map frow ++ l.map vrowV).length ≤ 100 := by simp [seven]; omega
    generalize seven.map frow = R at *
    refine c_turn (n' := 1) (fun _ h => h) (fun _ h => h) rfl ?_
    repeat' (first | (refine awd1 ?_) | (((with_reducible refine is_aops ?_); refine o_split rfl rfl rfl (fun hc => ?_) (fun hc => ?_) <;> rw [hc])) | (((with_reducible refine is_cond ?_); refine c_cond rfl (fun hc => ?_) (fun hc => ?_))) | (((with_reducible refine is_aop ?_); refine a_pick rfl rfl (fun hc => ?_) (fun hc => ?_) <;> rw [hc])) | fail)
    · have hi9 : i < 9 := by simp at hc; omega
      refine calw [] (vmade_c false i 4602678819172646912 [] (by omega) (by omega) (by decide)) ?_ ?_ (hargs := .cons (LeA.agg (.cons (LeA.refl _) (.cons (LeA.refl _) (.cons (LeA.refl _) (.cons (LeA.free _ _) .nil))))) .nil)
      · intro x H' h
        obtain ⟨v, hv, h1, rfl⟩ := h
        cases h1
        first | (refine akc ?_) | (refine aec ?_)
        refine awd ?_
        rw [z64 (n := (i : Int) + 1) (by omega) (by omega)]
        refine k_loopJ (l ++ [v], i + 1) [] ⟨hi9, by simp; omega, fun y hy => ?_⟩ (by show 9 - (i + 1) < 9 - i; omega) ?_ ?_
        · rcases List.mem_append.1 hy with hy | hy
          · exact h3 y hy
          · obtain rfl := List.mem_singleton.1 hy
            exact hv.small
        · unfold smSt
          (repeat' (first | (with_reducible exact .nil) | (refine .cons ?_ ?_) | (exact Wk.dead _) | (with_reducible exact Wk.refl _) | (exact WkL.nil))) <;> first | exact Wk.eq rfl | exact Wk.int (w64 (by omega) (by omega)) | exact Wk.eq (by rw [List.map_append, ← List.append_assoc]; rfl)
        · refine .of_eq ?_
          unfold smSt
          simp only [List.map_append, List.length_append, List.length_map]
          rfl
      · intro x H' h; obtain ⟨_, _, h1, _⟩ := h; cases h1
    · exact e_ret_to (H' := []) (rest := _) (.wk (.cons (Wk.rows hr7 _) (.refl _)) (.refl _)) rfl ⟨seven ++ l, fun v hv => (List.mem_append.1 hv).elim (seven_small v) (h3 v), by rw [List.length_append]; show 7 + _ ≤ _; omega, rfl, rfl⟩ (.refl _) (Nat.le_of_ble_eq_true rfl)
theorem cup {s : List AV} {L : Heap} {n m : Nat} (h : n ≤ m) : Conv ⟨s, L, n⟩ ⟨s, L, m⟩ := .to [] (.refl _) (.of_eq (by simp)) h
/-- what was put, with room for more -/
theorem refPutT_c (v : Va) (hb : v.b.length ≤ 20) (hn : v.n < 18446744073709551616) : ACalls Try.prog 30 0 20 [.list (([] : List UInt8).map brow) .free, vav v] [] (fun out H' => out = .ret (.list ((encA v).map brow) (.tok 15)) ∧ H' = tokH 15 (encA v).length) := by
  obtain ⟨kd, b, n⟩ := v
  simp only at hb hn
  by_cases h1 : kd = 1
  · subst h1
    have ee : encA ⟨1, b, n⟩ = [1] ++ (be b.length 4 ++ b) := by simp [encA]
    rw [ee]
    refine acalls_of tok dok (f := 30) ⟨Try.func30, rfl, by kernel_rfl⟩ ?_; refine c_start (fun _ h => h) ?_
    refine awd ?_
    refine calw [] (refText_c [1] b (by decide) (by omega)) ?_ ?_
    · refine ret1 ?_; first | (refine akc ?_) | (refine aec ?_)
      refine awd ?_
      exact e_ret_to (H' := tokH 15 _) (rest := _) ((cup (m := 15) (Nat.le_of_ble_eq_true rfl)).trans (Conv.retok (j := 4) rfl (.refl _))) rfl ⟨rfl, rfl⟩ (.of_eq rfl) (Nat.le_of_ble_eq_true rfl)
    · first | (exact retN) | (exact retP)
  · by_cases h2 : kd = 2
    · subst h2
      have ee : encA ⟨2, b, n⟩ = [2] ++ be (canonB n) 8 := by simp [encA]
      rw [ee]
      refine acalls_of tok dok (f := 30) ⟨Try.func30, rfl, by kernel_rfl⟩ ?_; refine c_start (fun _ h => h) ?_
      refine awd ?_
      refine calw [] (refFloat_c [2] n hn (by decide)) ?_ ?_
      · refine ret1 ?_; first | (refine akc ?_) | (refine aec ?_)
        refine awd ?_
        exact e_ret_to (H' := tokH 15 _) (rest := _) ((cup (m := 15) (Nat.le_of_ble_eq_true rfl)).trans (Conv.retok (j := 4) rfl (.refl _))) rfl ⟨rfl, rfl⟩ (.of_eq rfl) (Nat.le_of_ble_eq_true rfl)
      · first | (exact retN) | (exact retP)
    · have ee : encA ⟨kd, b, n⟩ = [0] := by simp [encA, h1, h2]
      rw [ee]
      have e1 := k_ne h1
      have e2 := k_ne h2
      refine acalls_of tok dok (f := 30) ⟨Try.func30, rfl, by kernel_rfl⟩ ?_; refine c_start (fun _ h => h) ?_
      repeat' (first | (refine awd1 ?_) | (((with_reducible refine is_aops ?_); refine o_split rfl rfl rfl (fun hc => ?_) (fun hc => ?_) <;> rw [hc])) | (((with_reducible refine is_cond ?_); refine c_cond rfl (fun hc => ?_) (fun hc => ?_))) | (((with_reducible refine is_aop ?_); refine a_pick rfl rfl (fun hc => ?_) (fun hc => ?_) <;> rw [hc])) | fail)
      · rw [e1] at hc; cases hc
      · rw [e2] at hc; cases hc
      · exact e_ret_to (H' := tokH 15 _) (rest := _) ((cup (m := 15) (Nat.le_of_ble_eq_true rfl)).trans (Conv.retok (j := 4) rfl (.refl _))) rfl ⟨rfl, rfl⟩ (.of_eq rfl) (Nat.le_of_ble_eq_true rfl)
def nmSt (l : List Va) (i : Nat) : ASt := ⟨[.v (.bool false), .list (l.map vrowV) .free, .v (.int .i64 i)] ++ List.replicate 56 .dead, [], 1000⟩
def nkSt (l : List Va) (i k : Nat) : ASt := ⟨[.v (.bool false), .list (l.map vrowV) .free, .v (.int .i64 i), .v (.int .i64 k)] ++ List.replicate 55 .dead, [], 1000⟩
def nnSt (l : List Va) (e : List UInt8) (i n : Nat) : ASt := ⟨[.v (.bool false), .list (l.map vrowV) .free, .v (.int .i64 i), .dead, .list (e.map brow) (.tok 1015), .v (.int .i64 n)] ++ List.replicate 53 .dead, [(1015, .tok 1 e.length)], 1100⟩
theorem vix {l : List Va} {i : Nat} (hi : i < l.length) : 0 ≤ (i : Int) ∧ (l.map vrowV)[(i : Int).toNat]? = some (vrowV l[i]) ∧ (vrowV l[i]).length = 3 := ⟨Int.natCast_nonneg i, (by rw [Int.toNat_natCast, List.getElem?_map, List.getElem?_eq_getElem hi]; rfl), rfl⟩
theorem leApp (e : List UInt8) (o : Own) : LeL [.list (e.map brow ++ [[.v (.int .u8 0)]]) o] [.list ((e ++ [0]).map brow) .free] := by
  have h : (e ++ [0]).map brow = e.map brow ++ [[.v (.int .u8 0)]] := by rw [List.map_append]; rfl
  rw [h]
  exact .cons (LeA.free _ _) .nil
set_option maxHeartbeats 6400000 in
theorem vnumbers_c : ACalls Try.prog 8 0 1000000 [] [] (fun out H' => out = .ret (.v (.bool true)) ∧ H' = []) := by
  refine acalls_of tok dok (f := 8) ⟨Try.func8, rfl, by kernel_rfl⟩ ?_; refine c_start (fun _ h => h) ?_
  refine awd ?_
  refine cal [] (some3_c) ?_ ?_
  · intro x H' h
    obtain ⟨l, hs, hl, h1, rfl⟩ := h
    cases h1
    first | (refine akc ?_) | (refine aec ?_)
    refine awd ?_
    refine c_loop2 (fun i (_ : Unit) => nmSt l i) (fun i _ => i ≤ l.length) (fun i _ => l.length - i) 0 () (by omega) (.to [] ?_ (.of_eq rfl) (Nat.le_of_ble_eq_true rfl)) ?_
    · unfold nmSt
      (repeat' (first | (with_reducible exact .nil) | (refine .cons ?_ ?_) | (exact Wk.dead _) | (with_reducible exact Wk.refl _) | (exact WkL.nil))) <;> first | (exact Wk.eq rfl) | (exact Wk.int (w64 (by omega) (by omega))) | (exact Wk.int (by simp)) | (exact Wk.int (by simp; omega)) | (exact Wk.eq (by simp))
    · rintro i _ h1
      refine c_turn (n' := 1000) (fun _ h => h) (fun _ h => h) rfl ?_
      repeat' (first | (refine awd1 ?_) | (((with_reducible refine is_aops ?_); refine o_split rfl rfl rfl (fun hc => ?_) (fun hc => ?_) <;> rw [hc])) | (((with_reducible refine is_cond ?_); refine c_cond rfl (fun hc => ?_) (fun hc => ?_))) | (((with_reducible refine is_aop ?_); refine a_pick rfl rfl (fun hc => ?_) (fun hc => ?_) <;> rw [hc])) | fail)
      · have hi : i < l.length := by simp at hc; omega
        have hiv := vix hi
        have hvs := hs _ (List.getElem_mem hi)
        generalize l[i] = v at *
        refine c_loop2 (fun k (_ : Unit) => nkSt l i k) (fun k _ => k ≤ l.length) (fun k _ => l.length - k) 0 () (by omega) (.to [] ?_ (.of_eq rfl) (Nat.le_of_ble_eq_true rfl)) ?_
        · unfold nkSt
          (repeat' (first | (with_reducible exact .nil) | (refine .cons ?_ ?_) | (exact Wk.dead _) | (with_reducible exact Wk.refl _) | (exact WkL.nil))) <;> first | (exact Wk.eq rfl) | (exact Wk.int (w64 (by omega) (by omega))) | (exact Wk.int (by simp)) | (exact Wk.int (by simp; omega)) | (exact Wk.eq (by simp))
        · rintro k _ h2
          refine c_turn (n' := 1000) (fun _ h => h) (fun _ h => h) rfl ?_
          repeat' (first | (refine awd1 ?_) | (((with_reducible refine is_aops ?_); refine o_split rfl rfl rfl (fun hc => ?_) (fun hc => ?_) <;> rw [hc])) | (((with_reducible refine is_cond ?_); refine c_cond rfl (fun hc => ?_) (fun hc => ?_))) | (((with_reducible refine is_aop ?_); refine a_pick rfl rfl (fun hc => ?_) (fun hc => ?_) <;> rw [hc])) | fail)
          · have hk : k < l.length := by simp at hc; omega
            have hkv := vix hk
            have hus := hs _ (List.getElem_mem hk)
            generalize l[k] = u at *
            refine awd ?_
            refine cal [] (two_c v u hvs.1 hus.1 (by have := hvs.2; omega) (by have := hus.2; omega)) ?_ ?_
            · refine ret1 ?_; first | (refine akc ?_) | (refine aec ?_)
              refine awd ?_
              rw [z64 (n := (k : Int) + 1) (by omega) (by omega)]
              refine k_loopJ (k + 1, ()) [] hk (by show l.length - (k + 1) < l.length - k; omega) ?_ ?_
              · unfold nkSt
                (repeat' (first | (with_reducible exact .nil) | (refine .cons ?_ ?_) | (exact Wk.dead _) | (with_reducible exact Wk.refl _) | (exact WkL.nil))) <;> first | (exact Wk.eq rfl) | (exact Wk.int (w64 (by omega) (by omega))) | (exact Wk.int (by simp)) | (exact Wk.int (by simp; omega)) | (exact Wk.eq (by simp))
              · exact .of_eq rfl
            · first | (exact retN) | (exact retP)
          · have el := encA_len hvs.2
            refine calw [] (refPutT_c v hvs.2 hvs.1) ?_ ?_
            · refine ret1 ?_; first | (refine akc ?_) | (refine aec ?_)
              have hw := writes3_c v hvs.2 hvs.1
              generalize encA v = e at *
              refine awd ?_
              refine c_loop2 (fun n (_ : Unit) => nnSt l e i n) (fun n _ => n ≤ e.length + 1) (fun n _ => e.length + 1 - n) 0 () (by omega) (.to [] ?_ (.of_eq rfl) (Nat.le_of_ble_eq_true rfl)) ?_
              · unfold nnSt
                (repeat' (first | (with_reducible exact .nil) | (refine .cons ?_ ?_) | (exact Wk.dead _) | (with_reducible exact Wk.refl _) | (exact WkL.nil))) <;> first | (exact Wk.eq rfl) | (exact Wk.int (w64 (by omega) (by omega))) | (exact Wk.int (by simp)) | (exact Wk.int (by simp; omega)) | (exact Wk.eq (by simp))
              · rintro n _ h3
                refine c_turn (n' := 1100) (fun _ h => h) (fun _ h => h) rfl ?_
                repeat' (first | (refine awd1 ?_) | (((with_reducible refine is_aops ?_); refine o_split rfl rfl rfl (fun hc => ?_) (fun hc => ?_) <;> rw [hc])) | (((with_reducible refine is_cond ?_); refine c_cond rfl (fun hc => ?_) (fun hc => ?_))) | (((with_reducible refine is_aop ?_); refine a_pick rfl rfl (fun hc => ?_) (fun hc => ?_) <;> rw [hc])) | fail)
                · have hn : n ≤ e.length := by simp at hc; omega
                  (with_reducible refine is_aop ?_); first | (refine a_qS rfl (fun _ h => h) ?_ ?_) | (refine a_qS rfl (qIx (fun _ h => h)) ?_ ?_) | (refine a_qS rfl (qAnd5 (fun _ h => h)) ?_ ?_) | (refine a_qS rfl (qStr (fun _ h => h)) ?_ ?_) | (refine a_qS rfl (qAnd4 (fun _ h => h)) ?_ ?_)
                  · refine ⟨trivial, Int.natCast_nonneg n, Nat.zero_le _, ?_, brows e⟩
                    rw [List.length_map, Int.toNat_natCast]; exact hn
                  refine k_as (.list ((e.take n).map brow) .free) (by rw [List.map_take, List.drop_zero, Int.toNat_natCast]) ?_
                  refine awd ?_
                  refine cal [] (reads3_c (e.take n) (by simp; omega)) ?_ ?_
                  · refine ret1 ?_; first | (refine akc ?_) | (refine aec ?_)
                    refine awd ?_
                    rw [z64 (n := (n : Int) + 1) (by omega) (by omega)]
                    refine k_loopJ (n + 1, ()) [] (by omega) (by show e.length + 1 - (n + 1) < e.length + 1 - n; omega) ?_ ?_
                    · unfold nnSt
                      (repeat' (first | (with_reducible exact .nil) | (refine .cons ?_ ?_) | (exact Wk.dead _) | (with_reducible exact Wk.refl _) | (exact WkL.nil))) <;> first | (exact Wk.eq rfl) | (exact Wk.int (w64 (by omega) (by omega))) | (exact Wk.int (by simp)) | (exact Wk.int (by simp; omega)) | (exact Wk.eq (by simp))
                    · exact .of_eq rfl
                  · first | (exact retN) | (exact retP)
                · refine cal [] (hw) ?_ ?_
                  · refine ret1 ?_; first | (refine akc ?_) | (refine aec ?_)
                    refine awd ?_
                    refine calw [] (reads3_c (e ++ [0]) (by simp; omega)) ?_ ?_ (hargs := leApp e _)
                    · refine ret1 ?_; first | (refine akc ?_) | (refine aec ?_)
                      refine awd ?_
                      rw [z64 (n := (i : Int) + 1) (by omega) (by omega)]
                      refine k_loopJ (i + 1, ()) [(1015, .tok 1 ((e.map brow).length + 1))] hi (by show l.length - (i + 1) < l.length - i; omega) ?_ ?_
                      · unfold nmSt
                        (repeat' (first | (with_reducible exact .nil) | (refine .cons ?_ ?_) | (exact Wk.dead _) | (with_reducible exact Wk.refl _) | (exact WkL.nil))) <;> first | (exact Wk.eq rfl) | (exact Wk.int (w64 (by omega) (by omega))) | (exact Wk.int (by simp)) | (exact Wk.int (by simp; omega)) | (exact Wk.eq (by simp))
                      · exact .of_eq rfl
                    · first | (exact retN) | (exact retP)
                  · first | (exact retN) | (exact retP)
            · first | (exact retN) | (exact retP)
      · refine cal [] (known3_c) ?_ ?_
        · refine ret1 ?_; first | (refine akc ?_) | (refine aec ?_)
          refine awd ?_
          exact e_ret (H' := []) (rest := _) rfl ⟨rfl, rfl⟩ (.refl _) (Nat.le_of_ble_eq_true rfl)
        · first | (exact retN) | (exact retP)
  · intro x H' h
    obtain ⟨_, _, _, h1, _⟩ := h
    cases h1
end Go.Proofs.Ytdfnepbhgifkkaa
