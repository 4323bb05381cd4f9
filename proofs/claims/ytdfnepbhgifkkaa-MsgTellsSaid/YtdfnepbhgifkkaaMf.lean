/- Messages (chapter 16): made as they are drawn, by contracts. -/
import Derived.Test.YtdfnepbhgifkkaaMe
namespace Go.Proofs.Ytdfnepbhgifkkaa
open Go.Am
set_option linter.unusedSimpArgs false
set_option linter.unusedVariables false
set_option maxRecDepth 100000
abbrev I64 (n : Int) : Prop := -9223372036854775808 ≤ n ∧ n ≤ 9223372036854775807
theorem wn_c (n : Int) (hi : Nat) (h : I64 n) (hh : hi ≤ 2147483648) : ∃ g : Nat, g ≤ hi ∧ ACalls Try.prog 19 0 0 [.v (.int .i64 n), .v (.int .i64 0), .v (.int .i64 (hi : Int))] [] (fun out H' => out = .ret (.v (.int .i64 (g : Int))) ∧ H' = []) := by
  have hb := wthn_bd n 0 hi (by omega)
  have hw := wthn_c n 0 hi h.1 h.2 (by decide) (by omega) (by omega) (by omega)
  generalize wthn n 0 hi = z at *
  obtain ⟨k, rfl⟩ := Int.eq_ofNat_of_zero_le hb.1
  exact ⟨k, by omega, hw⟩
theorem wb_c (n : Int) (h : I64 n) : ∃ g : Nat, g ≤ 1073741825 ∧ ACalls Try.prog 19 0 0 [.v (.int .i64 n), .v (.int .i64 (-1)), .v (.int .i64 1073741824)] [] (fun out H' => out = .ret (.v (.int .i64 ((g : Int) - 1))) ∧ H' = []) := by
  have hb := wthn_bd n (-1) 1073741824 (by omega)
  have hw := wthn_c n (-1) 1073741824 h.1 h.2 (by decide) (by omega) (by omega) (by omega)
  generalize wthn n (-1) 1073741824 = z at *
  refine ⟨(z + 1).toNat, by omega, ?_⟩
  rw [show ((z + 1).toNat : Int) - 1 = z by omega]
  exact hw
structure DOkV (x : Vt) : Prop where
  slot : I64 x.slot
  ballot : I64 x.ballot
structure DOkM (d : Ms) : Prop where
  kind : I64 d.kind
  group : I64 d.group
  frm : I64 d.frm
  to : I64 d.to
  ballot : I64 d.ballot
  slot : I64 d.slot
  client : I64 d.client
  seq : I64 d.seq
  l : ∀ x ∈ d.l, DOkV x
def mzrow (m : Mn) : List AV := [.v (.int .i64 m.kind), .v (.int .i64 m.group), .v (.int .i64 m.frm), .v (.int .i64 m.to), .v (.int .i64 ((m.bal : Int) - 1)), .v (.int .i64 m.slot), .v (.int .i64 m.client), .v (.int .i64 m.seq), .list (m.b.map brow) .free, .list [] .full]
def mdrow (m : Mn) (acc : List Vn) : List AV := [.v (.int .i64 m.kind), .v (.int .i64 m.group), .v (.int .i64 m.frm), .v (.int .i64 m.to), .v (.int .i64 ((m.bal : Int) - 1)), .v (.int .i64 m.slot), .v (.int .i64 m.client), .v (.int .i64 m.seq), .list (m.b.map brow) .free, .list (acc.map vnrow) (.tok 3)]
def mdSt0 (d : Ms) (m : Mn) : ASt := ⟨[.dead, .ptr 0 0, .ptr 1 0, .ptr 2 0] ++ List.replicate 70 .dead, [(2, .box (mzrow m)), (1, .box zrow), (0, .box (msrow d))], 3⟩
def mdSt (d : Ms) (m : Mn) (acc : List Vn) (i : Nat) : ASt := ⟨[.dead, .ptr 0 0, .ptr 1 0, .ptr 2 0, .v (.int .i64 i)] ++ List.replicate 69 .dead, [(3, .tok 3 (acc.map vnrow).length), (2, .box (mdrow m acc)), (1, .box zrow), (0, .box (msrow d))], 4⟩
set_option maxHeartbeats 6400000 in
theorem mmade_c (d : Ms) (h : DOkM d) : ACalls Try.prog 17 0 2000 [.agg (msrow d)] [] (fun out H' => ∃ m : Mn, m.Ok ∧ out = .ret (.agg (mnrow m)) ∧ H' = []) := by
  obtain ⟨kd, g, f, t, bl, s, c, q, b, l⟩ := d
  obtain ⟨o1, o2, o3, o4, o5, o6, o7, o8, o9⟩ := h
  simp only at *
  obtain ⟨kd', p1, c1⟩ := wn_c kd 1048576 o1 (by decide)
  obtain ⟨g', p2, c2⟩ := wn_c g 3 o2 (by decide)
  obtain ⟨f', p3, c3⟩ := wn_c f 355 o3 (by decide)
  obtain ⟨t', p4, c4⟩ := wn_c t 355 o4 (by decide)
  obtain ⟨bl', p5, c5⟩ := wb_c bl o5
  obtain ⟨s', p6, c6⟩ := wn_c s 1073741824 o6 (by decide)
  obtain ⟨cl', p7, c7⟩ := wn_c c 255 o7 (by decide)
  obtain ⟨q', p8, c8⟩ := wn_c q 1073741824 o8 (by decide)
  have cb := cut_c b 40 (by decide)
  refine acalls_of tok dok (f := 17) ⟨Try.func17, rfl, by kernel_rfl⟩ ?_; refine c_start (fun _ h => h) ?_
  repeat' (first | ((with_reducible refine is_aops ?_); first | (refine o_op rfl ?_) | (refine o_yes rfl rfl rfl ?_) | (refine o_no rfl rfl rfl (fun _ h => h) ?_) | (refine o_not rfl rfl rfl (fun _ h => h) ?_)) | ((with_reducible refine is_opK ?_); first | (refine k_op' (fun _ h => h) ?_)) | ((with_reducible refine is_aop ?_); first | (refine a_q1 rfl (fun _ h => h) ?_) | (refine a_box rfl (fun _ h => h) ?_) | (refine a_alloc rfl (fun _ h => h) ?_) | (refine a_storev rfl (fun _ h => h) ?_) | (refine a_store rfl (fun _ h => h) ?_) | (refine a_panic rfl rfl ?_)) | ((with_reducible refine is_aop ?_); refine a_qS rfl (qIx (fun _ h => h)) (by assumption) ?_) | (with_reducible refine o_nil ?_) | fail)
  refine c_seq ?_
  refine c_region ?_
  repeat' (first | ((with_reducible refine is_aops ?_); first | (refine o_op rfl ?_) | (refine o_yes rfl rfl rfl ?_) | (refine o_no rfl rfl rfl (fun _ h => h) ?_) | (refine o_not rfl rfl rfl (fun _ h => h) ?_)) | ((with_reducible refine is_opK ?_); first | (refine k_op' (fun _ h => h) ?_)) | ((with_reducible refine is_aop ?_); first | (refine a_q1 rfl (fun _ h => h) ?_) | (refine a_box rfl (fun _ h => h) ?_) | (refine a_alloc rfl (fun _ h => h) ?_) | (refine a_storev rfl (fun _ h => h) ?_) | (refine a_store rfl (fun _ h => h) ?_) | (refine a_panic rfl rfl ?_)) | ((with_reducible refine is_aop ?_); refine a_qS rfl (qIx (fun _ h => h)) (by assumption) ?_) | (with_reducible refine o_nil ?_) | fail)
  refine k_seq ?_
  refine c_seq ?_
  refine c_cutx (fun (m : Mn) (_ : Unit) => mdSt0 ⟨kd, g, f, t, bl, s, c, q, b, l⟩ m) (fun m _ => m.Ok) ?_ ?_
  · rintro m0 _ ok0
    refine c_turn (n' := 3) (fun _ h => h) (fun _ h => h) rfl ?_
    refine awd ?_
    refine c_loop2 (fun acc i => mdSt ⟨kd, g, f, t, bl, s, c, q, b, l⟩ m0 acc i) (fun acc i => i ≤ 5 ∧ acc.length ≤ i ∧ ∀ x ∈ acc, x.Ok) (fun _ i => 5 - i) [] 0 ⟨by omega, by decide, fun x hx => (List.not_mem_nil hx).elim⟩ ((Conv.tokBox (id := 2) (j := 9) (sz := 3) (rows := []) rfl rfl (by simp)).trans (.to [] ?_ (.of_eq rfl) (Nat.le_of_ble_eq_true rfl))) ?_
    · unfold mdSt
      (repeat' (first | (with_reducible exact .nil) | (refine .cons ?_ ?_) | (exact Wk.dead _) | (with_reducible exact Wk.refl _) | (exact WkL.nil))) <;> first | (exact Wk.eq rfl) | (exact Wk.free _ _) | (exact Wk.int (w64 (by omega) (by omega))) | (exact Wk.int (by simp)) | (exact Wk.int (by simp; omega)) | (exact Wk.eq (by simp))
    · rintro acc i ⟨k1, k2, k3⟩
      refine c_turn (n' := 4) (fun _ h => h) (fun _ h => h) rfl ?_
      repeat' (first | (refine awd1 ?_) | (((with_reducible refine is_aops ?_); refine o_split rfl rfl rfl (fun hc => ?_) (fun hc => ?_) <;> rw [hc])) | (((with_reducible refine is_cond ?_); refine c_cond rfl (fun hc => ?_) (fun hc => ?_))) | (((with_reducible refine is_aop ?_); refine a_pick rfl rfl (fun hc => ?_) (fun hc => ?_) <;> rw [hc])) | fail)
      · have hi : i < l.length := by simp at *; omega
        have hi5 : i < 5 := by simp at *; omega
        have hx0 : 0 ≤ (i : Int) ∧ (l.map vtrow)[(i : Int).toNat]? = some (vtrow l[i]) ∧ (vtrow l[i]).length = 3 := ⟨Int.natCast_nonneg _, (by rw [Int.toNat_natCast, List.getElem?_map, List.getElem?_eq_getElem hi]; rfl), rfl⟩
        have hxo := o9 _ (List.getElem_mem hi)
        generalize l[i] = x at *
        obtain ⟨xs, xb, xv⟩ := x
        obtain ⟨xo1, xo2⟩ := hxo
        obtain ⟨s1, r1, d1⟩ := wn_c xs 1073741824 xo1 (by decide)
        obtain ⟨b1, r2, d2⟩ := wb_c xb xo2
        have d3 := cut_c xv 20 (by decide)
        refine awd ?_
        refine cal [] (d1) ?_ ?_
        · refine ret1 ?_; first | (refine akc ?_) | (refine aec ?_)
          refine awd ?_
          refine cal [] (d2) ?_ ?_
          · refine ret1 ?_; first | (refine akc ?_) | (refine aec ?_)
            refine awd ?_
            refine cal [] (d3) ?_ ?_
            · refine ret1 ?_; first | (refine akc ?_) | (refine aec ?_)
              refine awd ?_
              rw [z64 (n := (i : Int) + 1) (by omega) (by omega)]
              refine k_loopJ (acc ++ [⟨s1, b1, xv.take 20⟩], i + 1) [] ⟨hi5, by simp; omega, fun y hy => ?_⟩ (by show 5 - (i + 1) < 5 - i; omega) ?_ ?_
              · rcases List.mem_append.1 hy with hy | hy
                · exact k3 y hy
                · obtain rfl := List.mem_singleton.1 hy
                  exact ⟨r1, r2, by show (xv.take 20).length ≤ _; rw [List.length_take]; omega⟩
              · unfold mdSt
                (repeat' (first | (with_reducible exact .nil) | (refine .cons ?_ ?_) | (exact Wk.dead _) | (with_reducible exact Wk.refl _) | (exact WkL.nil))) <;> first | (exact Wk.eq rfl) | (exact Wk.free _ _) | (exact Wk.int (w64 (by omega) (by omega))) | (exact Wk.int (by simp)) | (exact Wk.int (by simp; omega)) | (exact Wk.eq (by simp))
              · refine .of_eq ?_
                unfold mdSt mdrow
                simp only [List.map_append, List.length_append]
                rfl
            · first | (exact retN) | (exact retP)
          · first | (exact retN) | (exact retP)
        · first | (exact retN) | (exact retP)
      · exact e_ret_to (H' := []) (rest := _) (.wk (.refl _) (.cons (.refl _) (.cons (.refl _) (.cons (.box _ (.cons (.refl _) (.cons (.refl _) (.cons (.refl _) (.cons (.refl _) (.cons (.refl _) (.cons (.refl _) (.cons (.refl _) (.cons (.refl _) (.cons (.refl _) (.cons (.free _ _) .nil))))))))))) (.refl _))))) rfl ⟨withL m0 acc, ⟨ok0.1, ok0.2, ok0.3, ok0.4, ok0.5, ok0.6, ok0.7, ok0.8, ok0.9, by show acc.length ≤ 16; omega, k3⟩, rfl, rfl⟩ (.refl _) (Nat.le_of_ble_eq_true rfl)
      · exact e_ret_to (H' := []) (rest := _) (.wk (.refl _) (.cons (.refl _) (.cons (.refl _) (.cons (.box _ (.cons (.refl _) (.cons (.refl _) (.cons (.refl _) (.cons (.refl _) (.cons (.refl _) (.cons (.refl _) (.cons (.refl _) (.cons (.refl _) (.cons (.refl _) (.cons (.free _ _) .nil))))))))))) (.refl _))))) rfl ⟨withL m0 acc, ⟨ok0.1, ok0.2, ok0.3, ok0.4, ok0.5, ok0.6, ok0.7, ok0.8, ok0.9, by show acc.length ≤ 16; omega, k3⟩, rfl, rfl⟩ (.refl _) (Nat.le_of_ble_eq_true rfl)
  · intro Kx kN kP kR kE
    refine awd ?_
    refine cal [] (c1) ?_ ?_
    · refine ret1 ?_; first | (refine akc ?_) | (refine aec ?_)
      refine awd ?_
      refine cal [] (c2) ?_ ?_
      · refine ret1 ?_; first | (refine akc ?_) | (refine aec ?_)
        refine awd ?_
        refine cal [] (c3) ?_ ?_
        · refine ret1 ?_; first | (refine akc ?_) | (refine aec ?_)
          refine awd ?_
          refine cal [] (c4) ?_ ?_
          · refine ret1 ?_; first | (refine akc ?_) | (refine aec ?_)
            refine awd ?_
            refine cal [] (c5) ?_ ?_
            · refine ret1 ?_; first | (refine akc ?_) | (refine aec ?_)
              refine awd ?_
              refine cal [] (c6) ?_ ?_
              · refine ret1 ?_; first | (refine akc ?_) | (refine aec ?_)
                refine awd ?_
                refine cal [] (c7) ?_ ?_
                · refine ret1 ?_; first | (refine akc ?_) | (refine aec ?_)
                  refine awd ?_
                  refine cal [] (c8) ?_ ?_
                  · refine ret1 ?_; first | (refine akc ?_) | (refine aec ?_)
                    refine awd ?_
                    refine cal [] (cb) ?_ ?_
                    · refine ret1 ?_; first | (refine akc ?_) | (refine aec ?_)
                      refine awd ?_
                      have z1 : 0 ≤ (kd' : Int).tmod 9 := by rw [Int.tmod_eq_emod_of_nonneg (Int.natCast_nonneg _)]; omega
                      have z2 : (kd' : Int).tmod 9 < 9 := by rw [Int.tmod_eq_emod_of_nonneg (Int.natCast_nonneg _)]; omega
                      obtain ⟨k9, hk9⟩ : ∃ k : Nat, IntKind.i64.wrap (1 + (kd' : Int).tmod 9) = (k : Int) ∧ 1 ≤ k ∧ k ≤ 9 := by
                        rw [z64 (n := 1 + (kd' : Int).tmod 9) (by omega) (by omega)]
                        exact ⟨(1 + (kd' : Int).tmod 9).toNat, by omega, by omega, by omega⟩
                      rw [hk9.1]
                      refine kN ⟨k9, g', f', t', bl', s', cl', q', b.take 40, []⟩ () _ _ _ ⟨hk9.2, p2, p3, p4, p5, p6, p7, p8, by show (b.take 40).length ≤ _; rw [List.length_take]; omega, Nat.zero_le 16, fun x hx => (List.not_mem_nil hx).elim⟩ (.to [] ?_ (.of_eq rfl) (Nat.le_of_ble_eq_true rfl))
                      unfold mdSt0
                      (repeat' (first | (with_reducible exact .nil) | (refine .cons ?_ ?_) | (exact Wk.dead _) | (with_reducible exact Wk.refl _) | (exact WkL.nil))) <;> first | (exact Wk.eq rfl) | (exact Wk.free _ _) | (exact Wk.int (w64 (by omega) (by omega))) | (exact Wk.int (by simp)) | (exact Wk.int (by simp; omega)) | (exact Wk.eq (by simp))
                    · first | (exact retN) | (exact retP)
                  · first | (exact retN) | (exact retP)
                · first | (exact retN) | (exact retP)
              · first | (exact retN) | (exact retP)
            · first | (exact retN) | (exact retP)
          · first | (exact retN) | (exact retP)
        · first | (exact retN) | (exact retP)
      · first | (exact retN) | (exact retP)
    · first | (exact retN) | (exact retP)
end Go.Proofs.Ytdfnepbhgifkkaa
