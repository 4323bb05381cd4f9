/- Messages written by the document. -/
import Derived.Test.YtdfnepbhgifkkaaMb
import Derived.Test.YtdfnepbhgifkkaaOcN
namespace Go.Proofs.Ytdfnepbhgifkkaa
open Go.Am
set_option linter.unusedSimpArgs false
set_option linter.unusedVariables false
set_option maxRecDepth 100000
theorem refnum_c (b : List UInt8) (x : Int) (hx : 0 ≤ x ∧ x < 4294967296) (h : b.length < 1073741824) : ACalls Try.prog 55 0 1 [.list (b.map brow) .free, .v (.int .i64 x)] [] (fun out H' => out = .ret (.list ((b ++ be x.toNat 4).map brow) (.tok 0)) ∧ H' = tokH 0 (b ++ be x.toNat 4).length) := by
  obtain ⟨n, rfl⟩ : ∃ n : Nat, x = n := ⟨x.toNat, by omega⟩
  rw [Int.toNat_natCast]
  refine acalls_of tok dok (f := 55) ⟨Try.func55, rfl, by kernel_rfl⟩ ?_; refine c_start (fun _ h => h) ?_
  refine awd ?_
  rw [m32 (by omega)]
  refine cal [] (refNum_c b n (by omega) h) ?_ ?_
  · refine ret1 ?_; first | (refine akc ?_) | (refine aec ?_)
    refine awd ?_
    exact e_ret (H' := tokH 0 (b ++ be n 4).length) (rest := []) rfl ⟨rfl, rfl⟩ (.of_eq rfl) (Nat.le_of_ble_eq_true rfl)
  · first | (exact retN) | (exact retP)
theorem vnx {l : List Vn} {i : Nat} {u : Vn} (h : l[i]? = some u) : 0 ≤ (i : Int) ∧ (l.map vnrow)[(i : Int).toNat]? = some (vnrow u) ∧ (vnrow u).length = 3 := ⟨Int.natCast_nonneg _, (by rw [Int.toNat_natCast, List.getElem?_map, h]; rfl), rfl⟩
theorem perm_l3 {a b c x : Nat × Res} : [a, b, c, x].Perm ([x] ++ [a, b, c]) := List.perm_append_comm (l₁ := [a, b, c]) (l₂ := [x])
theorem perm_l3' {a b c x : Nat × Res} : [a, b, c, x].Perm ([a, x] ++ [b, c]) := (List.perm_append_comm (l₁ := [b, c]) (l₂ := [x])).cons a
theorem perm_last {a b c d e f x : Nat × Res} : [a, b, c, d, e, f, x].Perm ([x] ++ [a, b, c, d, e, f]) := List.perm_append_comm (l₁ := [a, b, c, d, e, f]) (l₂ := [x])
def reSt (kd g f t bl s c q : Nat) (b : List UInt8) (l : List Vn) (base : List UInt8) (i : Nat) : Option Nat → ASt
  | none => ⟨([.dead, .ptr 0 0, .dead, .list ((base ++ encVs (l.take i)).map brow) .free, .v (.int .i64 i)] ++ List.replicate 70 .dead), [(0, .box [.v (.int .i64 kd), .v (.int .i64 g), .v (.int .i64 f), .v (.int .i64 t), .v (.int .i64 ((bl : Int) - 1)), .v (.int .i64 s), .v (.int .i64 c), .v (.int .i64 q), .list (b.map brow) .free, .list (l.map vnrow) .free])], 20⟩
  | some cp => ⟨([.dead, .ptr 0 0, .dead, .arr 20 0 (base ++ encVs l).length cp, .v (.int .i64 l.length)] ++ List.replicate 70 .dead), [(20, .seq ((base ++ encVs l).map brow) ((cp - (base ++ encVs l).length) * 1)), (0, .box [.v (.int .i64 kd), .v (.int .i64 g), .v (.int .i64 f), .v (.int .i64 t), .v (.int .i64 ((bl : Int) - 1)), .v (.int .i64 s), .v (.int .i64 c), .v (.int .i64 q), .list (b.map brow) .free, .list (l.map vnrow) .free])], 21⟩
set_option maxHeartbeats 6400000 in
theorem refEncodeM_c (m : Mn) (h : m.Ok) : ACalls Try.prog 23 0 1 [.agg (mnrow m)] [] (bAR 0 (encM m)) := by
  refine bAR_ren (top := 2000) ?_
  have hvl := encVs_len h.votes
  obtain ⟨kd, g, f, t, bl, s, c, q, b, l⟩ := m
  obtain ⟨o1, o2, o3, o4, o5, o6, o7, o8, o9, o10, o11⟩ := h
  unfold mnrow
  simp only at *
  refine acalls_of tok dok (f := 23) ⟨Try.func23, rfl, by kernel_rfl⟩ ?_; refine c_start (fun _ h => h) ?_
  refine awd ?_
  rw [m8, m8]
  refine calw [] (refnum_c [UInt8.ofNat kd, UInt8.ofNat g] f (by omega) (by simp)) ?_ ?_
  · refine ret1 ?_; first | (refine akc ?_) | (refine aec ?_)
    refine awd ?_
    refine calw [] (refnum_c ([UInt8.ofNat kd, UInt8.ofNat g] ++ be f 4) t (by omega) (by simp [be_len])) ?_ ?_
    · refine ret1 ?_; first | (refine akc ?_) | (refine aec ?_)
      refine awd ?_
      rw [z64 (n := (bl : Int) - 1 + 1) (by omega) (by omega), show (bl : Int) - 1 + 1 = bl by omega]
      refine calw [] (refnum_c ([UInt8.ofNat kd, UInt8.ofNat g] ++ be f 4 ++ be t 4) bl (by omega) (by simp [be_len])) ?_ ?_
      · refine ret1 ?_; first | (refine akc ?_) | (refine aec ?_)
        refine awd ?_
        refine calw [] (refnum_c ([UInt8.ofNat kd, UInt8.ofNat g] ++ be f 4 ++ be t 4 ++ be bl 4) s (by omega) (by simp [be_len])) ?_ ?_
        · refine ret1 ?_; first | (refine akc ?_) | (refine aec ?_)
          simp only [Int.toNat_natCast]
          generalize hb0 : [UInt8.ofNat kd, UInt8.ofNat g] ++ be f 4 ++ be t 4 ++ be bl 4 ++ be s 4 = b0
          have hl0 : b0.length = 18 := by rw [← hb0]; simp [be_len]
          refine awd ?_
          rw [m8, map_snoc]
          refine calw [] (refnum_c (b0 ++ [UInt8.ofNat c]) q (by omega) (by simp; omega)) ?_ ?_
          · refine ret1 ?_; first | (refine akc ?_) | (refine aec ?_)
            simp only [Int.toNat_natCast]
            generalize hb1 : b0 ++ [UInt8.ofNat c] ++ be q 4 = b1
            have hl1 : b1.length = 23 := by rw [← hb1]; simp [be_len]; omega
            refine awd ?_
            have hbl := be_len b.length 4
            cases l with
            | nil =>
              refine calw [] (refTextA_c b1 b (by omega) (by omega) (by omega)) ?_ ?_
              · intro xx H' hh
                obtain ⟨cp, c1, c2, h', rfl⟩ := hh
                cases h'
                first | (refine akc ?_) | (refine aec ?_)
                refine awdz ?_
                rw [show IntKind.u8.wrap (((([] : List Vn).map vnrow).length : Nat) : Int) = ((UInt8.ofNat 0).toNat : Int) from rfl]
                ((with_reducible refine is_aop ?_); refine a_appS (sz := 1) (B := 1) (m2 := (b1 ++ (be b.length 4 ++ b) ++ [UInt8.ofNat 0]).length) (rows3 := (b1 ++ (be b.length 4 ++ b) ++ [UInt8.ofNat 0]).map brow) rfl rfl rfl rfl rfl rfl rfl rfl rfl rfl rfl (fun _ h => h) rfl rfl (broOk (b1 ++ (be b.length 4 ++ b))) (broOk [UInt8.ofNat 0]) (by first | rfl | (exact List.length_map ..) | (simp; done) | (simp; omega)) rfl (by first | omega | (simp; omega)) (by first | rfl | (simp; done) | (simp; omega)) (by first | rfl | (exact map_snoc _ _) | (rw [List.map_append]; rfl) | (simp; done)) ?_)
                intro cp' h1' h2'
                refine akc ?_
                refine awdz ?_
                refine c_once ?_
                refine awdz ?_
                refine e_ret (H' := bA 26 (b1 ++ (be b.length 4 ++ b) ++ [UInt8.ofNat 0]) cp') (rest := _) rfl ⟨26, by decide, ?_⟩ (.of_eq rfl) (Nat.le_of_ble_eq_true rfl)
                have e : encM ⟨kd, g, f, t, bl, s, c, q, b, []⟩ = b1 ++ (be b.length 4 ++ b) ++ [UInt8.ofNat 0] := by rw [← hb1, ← hb0]; simp [encM, encH, encVs]
                rw [e]
                exact ⟨cp', h1', h2', rfl, rfl⟩
              · intro x H' hh
                obtain ⟨_, _, _, h', _⟩ := hh
                cases h'
            | cons v l =>
              refine calw [] (refText_c b1 b (by omega) (by omega)) ?_ ?_
              · refine ret1 ?_; first | (refine akc ?_) | (refine aec ?_)
                refine awd ?_
                rw [m8, map_snoc]
                generalize hb2 : b1 ++ (be b.length 4 ++ b) ++ [UInt8.ofNat ((v :: l).map vnrow).length] = b2
                have e : encM ⟨kd, g, f, t, bl, s, c, q, b, v :: l⟩ = b2 ++ encVs (v :: l) := by rw [← hb2, ← hb1, ← hb0]; simp [encM, encH]
                have hl2 : b2.length ≤ 1048700 := by rw [← hb2]; simp; omega
                generalize hl' : v :: l = ll at *
                have hpos : 0 < ll.length := by rw [← hl']; simp
                have hmr : mnrow ⟨kd, g, f, t, bl, s, c, q, b, ll⟩ = _ := rfl
                unfold mnrow at hmr
                simp only at hmr
                refine c_loop2 (reSt kd g f t bl s c q b ll b2) (fun i o => match o with | none => i < ll.length | some cp => i = ll.length ∧ (b2 ++ encVs ll).length ≤ cp ∧ cp ≤ maxLen) (fun i _ => ll.length - i) 0 none hpos (.to _ ?_ (perm_last ..) (Nat.le_of_ble_eq_true rfl)) ?_
                · unfold reSt
                  rw [List.take_zero, show encVs [] = [] from rfl, List.append_nil]
                  (repeat' (first | (with_reducible exact .nil) | (refine .cons ?_ ?_) | (exact Wk.dead _) | (with_reducible exact Wk.refl _) | (exact WkL.nil))) <;> first | (exact Wk.eq rfl) | (exact Wk.free _ _) | (exact Wk.int (w64 (by omega) (by omega))) | (exact Wk.int (by simp)) | (exact Wk.int (by simp; omega)) | (exact Wk.eq (by simp))
                · rintro i (_ | cp) hC
                  · have hi : i < ll.length := hC
                    refine c_turn (n' := 20) (fun _ h => h) (fun _ h => h) rfl ?_
                    repeat' (first | (refine awd1 ?_) | (((with_reducible refine is_aops ?_); refine o_split rfl rfl rfl (fun hc => ?_) (fun hc => ?_) <;> rw [hc])) | (((with_reducible refine is_cond ?_); refine c_cond rfl (fun hc => ?_) (fun hc => ?_))) | (((with_reducible refine is_aop ?_); refine a_pick rfl rfl (fun hc => ?_) (fun hc => ?_) <;> rw [hc])) | fail)
                    · have hu : ll[i]? = some ll[i] := List.getElem?_eq_getElem hi
                      have hux := vnx hu
                      have hok := o11 _ (List.mem_of_getElem? hu)
                      have hen := encVs_succ ll i hi
                      generalize ll[i] = u at *
                      obtain ⟨us, ub, uv⟩ := u
                      obtain ⟨u1, u2, u3⟩ := hok
                      simp only at u1 u2 u3
                      have hlen : (encVs (ll.take i)).length ≤ 1048588 * 16 := by
                        have := encVs_len (l := ll.take i) (fun x hx => o11 x (List.mem_of_mem_take hx))
                        rw [List.length_take] at this
                        omega
                      refine awd ?_
                      generalize hB : b2 ++ encVs (ll.take i) = B
                      have hBl : B.length ≤ 20000000 := by rw [← hB, List.length_append]; omega
                      have hfin : B ++ be us 4 ++ be ub 4 ++ (be uv.length 4 ++ uv) = b2 ++ encVs (ll.take (i + 1)) := by rw [hen, ← hB]; simp [encVn]
                      refine cal [] (refnum_c B us (by omega) (by omega)) ?_ ?_
                      · refine ret1 ?_; first | (refine akc ?_) | (refine aec ?_)
                        refine awd ?_
                        rw [z64 (n := (ub : Int) - 1 + 1) (by omega) (by omega), show (ub : Int) - 1 + 1 = ub by omega]
                        refine calw [] (refnum_c (B ++ be us 4) ub (by omega) (by simp [be_len]; omega)) ?_ ?_
                        · refine ret1 ?_; first | (refine akc ?_) | (refine aec ?_)
                          refine awd ?_
                          simp only [Int.toNat_natCast]
                          by_cases hlast : i + 1 < ll.length
                          · refine calw [] (refText_c (B ++ be us 4 ++ be ub 4) uv (by simp [be_len]; omega) (by omega)) ?_ ?_
                            · refine ret1 ?_; first | (refine akc ?_) | (refine aec ?_)
                              refine awd ?_
                              rw [hfin]
                              refine k_loopJ (i + 1, none) _ hlast (by show ll.length - (i + 1) < ll.length - i; omega) ?_ (perm_l3 ..)
                              unfold reSt
                              (repeat' (first | (with_reducible exact .nil) | (refine .cons ?_ ?_) | (exact Wk.dead _) | (with_reducible exact Wk.refl _) | (exact WkL.nil))) <;> first | exact Wk.eq rfl | exact Wk.int (z64 (by omega) (by omega)) | exact Wk.free _ _
                            · first | (exact retN) | (exact retP)
                          · refine calw [] (refTextA_c (B ++ be us 4 ++ be ub 4) uv (by simp [be_len]) (by simp [be_len]; omega) (by omega)) ?_ ?_
                            · intro xx H' hh
                              obtain ⟨cp, c1, c2, h', rfl⟩ := hh
                              cases h'
                              first | (refine akc ?_) | (refine aec ?_)
                              refine awd ?_
                              have hll : ll.take (i + 1) = ll := List.take_of_length_le (by omega)
                              rw [hll] at hfin
                              rw [hfin] at c1 ⊢
                              refine k_loopR (n' := 42) (i + 1, some cp) (List.range 20 ++ [24]) ⟨by omega, c1, c2⟩ (by show ll.length - (i + 1) < ll.length - i; omega) ?_ (hN := by show ∀ j, j < 20 → (List.range 20 ++ [24])[j]? = some j; decide)
                              refine .to _ ?_ (perm_l3' ..) (Nat.le_of_ble_eq_true rfl)
                              unfold reSt
                              (repeat' (first | (with_reducible exact .nil) | (refine .cons ?_ ?_) | (exact Wk.dead _) | (with_reducible exact Wk.refl _) | (exact WkL.nil))) <;> first | exact Wk.eq rfl | exact Wk.eq (congrArg (fun z => AV.v (.int .i64 z)) (by rw [z64 (by omega) (by omega)]; omega))
                            · intro x H' hh
                              obtain ⟨_, _, _, h', _⟩ := hh
                              cases h'
                        · first | (exact retN) | (exact retP)
                      · first | (exact retN) | (exact retP)
                    · simp at hc; omega
                  · obtain ⟨rfl, c1, c2⟩ := hC
                    refine c_turn (n' := 21) (fun _ h => h) (fun _ h => h) rfl ?_
                    repeat' (first | (refine awd1 ?_) | (((with_reducible refine is_aops ?_); refine o_split rfl rfl rfl (fun hc => ?_) (fun hc => ?_) <;> rw [hc])) | (((with_reducible refine is_cond ?_); refine c_cond rfl (fun hc => ?_) (fun hc => ?_))) | (((with_reducible refine is_aop ?_); refine a_pick rfl rfl (fun hc => ?_) (fun hc => ?_) <;> rw [hc])) | fail)
                    · simp at hc
                    · refine e_ret (H' := bA 20 (b2 ++ encVs ll) cp) (rest := _) rfl ⟨20, by decide, ?_⟩ (.of_eq rfl) (Nat.le_of_ble_eq_true rfl)
                      rw [e]
                      exact ⟨cp, c1, c2, rfl, rfl⟩
              · first | (exact retN) | (exact retP)
          · first | (exact retN) | (exact retP)
        · first | (exact retN) | (exact retP)
      · first | (exact retN) | (exact retP)
    · first | (exact retN) | (exact retP)
  · first | (exact retN) | (exact retP)
end Go.Proofs.Ytdfnepbhgifkkaa
