/- MsgTells, by contracts: the walk. -/
import Derived.Test.YtdfnepbhgifkkaaMv
import Derived.Test.YtdfnepbhgifkkaaMq
import Derived.Test.YtdfnepbhgifkkaaMh
namespace Go.Proofs.Ytdfnepbhgifkkaa
open Go.Am
set_option linter.unusedSimpArgs false
set_option linter.unusedVariables false
set_option maxRecDepth 100000
theorem retS {p : Prop} {Q : AV → Heap → Prop} (h : ∀ r, (r = true ↔ p) → Q (.v (.bool r)) []) : ∀ x H', sayR p (.ret x) H' → Q x H' := by
  rintro x H' ⟨r, hr, h1, h2⟩
  cases h1; subst h2; exact h r hr
theorem retSN {p : Prop} {Q : AV → Heap → Prop} : ∀ x H', sayR p (.panic x) H' → Q x H' := by
  rintro x H' ⟨r, hr, h1, h2⟩
  cases h1
theorem sayR_ren {p : Prop} {P : Program} {f : FuncId} {k top : Nat} {args : List AV} (h : ACalls P f k top args [] (sayR p)) : ACalls P f k top args [] (sayR p) := h
def rawrow (rk rg rf rt rb rs rc rq : Int) (rB : List UInt8) (L : List Vt) : List AV := [.v (.int .i64 rk), .v (.int .i64 rg), .v (.int .i64 rf), .v (.int .i64 rt), .v (.int .i64 rb), .v (.int .i64 rs), .v (.int .i64 rc), .v (.int .i64 rq), .list (rB.map brow) .free, .list (L.map vtrow) .free]
def twSt (m k : Mn) (raw : List AV) (b : List UInt8) (at' : Int) (turn : UInt8) : ASt := ⟨([.dead, .dead, .dead, .list (b.map brow) .free, .v (.int .i64 at'), .v (.int .u8 turn.toNat), .dead, .dead, .ptr 2 0, .dead, .dead, .dead, .dead, .ptr 3 0, .ptr 4 0] ++ List.replicate 62 .dead), [(4, .box (mnrow k)), (3, .box (mnrow m)), (2, .box raw)], 9000⟩
def twSt2 (m k : Mn) (raw : List AV) (b z : List UInt8) : ASt := ⟨([.dead, .dead, .dead, .list (b.map brow) .free, .dead, .dead, .dead, .dead, .ptr 2 0, .dead, .dead, .dead, .dead, .ptr 3 0, .ptr 4 0, .list (z.map brow) .free] ++ List.replicate 61 .dead), [(4, .box (mnrow k)), (3, .box (mnrow m)), (2, .box raw)], 12000⟩
set_option maxHeartbeats 6400000 in
theorem mtells_c (d1 d2 : Ms) (h1 : DOkM d1) (h2 : DOkM d2) (rk rg rf rt rb rs rc rq : Int) (rB : List UInt8) (rL : List Vt) (b : List UInt8) (at' : Int) (hat : I64 at') (turn : UInt8) :
    ACalls Try.prog 6 0 9000000 [.agg (msrow d1), .agg (msrow d2), .agg (msrow ⟨rk, rg, rf, rt, rb, rs, rc, rq, rB, rL⟩), .list (b.map brow) .free, .v (.int .i64 at'), .v (.int .u8 turn.toNat)] [] (fun out H' => out = .ret (.v (.bool true)) ∧ H' = []) := by
  have hm1 := mmade_c d1 h1
  have hm2 := mmade_c d2 h2
  obtain ⟨kd, g, f, t, bl, s, c, q, xb, l⟩ := d1
  obtain ⟨kd', g', f', t', bl', s', c', q', xb', l'⟩ := d2
  refine acalls_of tok dok (f := 6) ⟨Try.func6, rfl, by kernel_rfl⟩ ?_; refine c_start (fun _ h => h) ?_
  refine awd ?_
  refine cal [] (hm1) ?_ ?_
  · intro x H' hh
    obtain ⟨m, ok, h', rfl⟩ := hh
    cases h'
    first | (refine akc ?_) | (refine aec ?_)
    refine awd ?_
    refine cal [] (hm2) ?_ ?_
    · intro x H' hh
      obtain ⟨k, ok2, h', rfl⟩ := hh
      cases h'
      first | (refine akc ?_) | (refine aec ?_)
      refine awd ?_
      refine c_cutx (fun (L : List Vt) (_ : Unit) => twSt m k (rawrow rk rg rf rt rb rs rc rq rB L) b at' turn) (fun L _ => L.length ≤ 20) ?_ ?_
      · intro L _ hL
        have hEl := encM_len ok
        obtain ⟨j, hj, hW⟩ := wn_c at' ((encM m).length - 1) hat (by omega)
        rw [show ((((encM m).length - 1 : Nat)) : Int) = ((encM m).length : Int) - 1 by omega] at hW
        have hE := refEncodeM_c m ok
        refine c_turn (n' := 9000) (fun _ h => h) (fun _ h => h) rfl ?_
        generalize hE' : encM m = E at *
        refine awd ?_
        refine cal [] (hE) ?_ ?_
        · intro x H' hh
          obtain ⟨cp, c1, c2, h', rfl⟩ := hh
          cases h'
          first | (refine akc ?_) | (refine aec ?_)
          refine awd ?_
          rw [z64 (n := (E.length : Int) - 1) (by omega) (by omega)]
          refine cal [] (hW) ?_ ?_
          · refine ret1 ?_; first | (refine akc ?_) | (refine aec ?_)
            refine awd ?_
            have hjE : j < E.length := by omega
            have hrow : (E.map brow)[j]? = some (brow E[j]) := by rw [List.getElem?_map, List.getElem?_eq_getElem hjE]; rfl
            generalize E[j] = e at *
            (with_reducible refine is_aop ?_); first | (refine a_qS rfl (fun _ h => h) ?_ ?_) | (refine a_qS rfl (qIx (fun _ h => h)) ?_ ?_) | (refine a_qS rfl (qAnd5 (fun _ h => h)) ?_ ?_) | (refine a_qS rfl (qStr (fun _ h => h)) ?_ ?_) | (refine a_qS rfl (qAnd4 (fun _ h => h)) ?_ ?_) | (refine a_qS rfl (qAnd2 (fun _ h => h)) ?_ ?_)
            · exact ⟨Int.natCast_nonneg j, by omega⟩
            refine awd ?_
            ((with_reducible refine is_aop ?_); refine a_loadSeq (sz := 1) (rows := E.map brow) (i := j) (j := 0) rfl rfl rfl rfl rfl (broOk E) (hrow) rfl (by first | rfl | (simp; done) | (simp; omega)) ?_)
            refine awd ?_
            obtain ⟨u, hu⟩ := u8_any ((BitVec.ofInt IntKind.u8.bits (e.toNat : Int) ^^^ BitVec.ofInt IntKind.u8.bits (turn.toNat : Int)).toNat : Nat)
            rw [hu]
            (with_reducible refine is_aop ?_); first | (refine a_qS rfl (fun _ h => h) ?_ ?_) | (refine a_qS rfl (qIx (fun _ h => h)) ?_ ?_) | (refine a_qS rfl (qAnd5 (fun _ h => h)) ?_ ?_) | (refine a_qS rfl (qStr (fun _ h => h)) ?_ ?_) | (refine a_qS rfl (qAnd4 (fun _ h => h)) ?_ ?_) | (refine a_qS rfl (qAnd2 (fun _ h => h)) ?_ ?_)
            · exact ⟨Int.natCast_nonneg j, by omega⟩
            refine awd ?_
            ((with_reducible refine is_aop ?_); refine a_storeSeq (sz := 1) (rows := E.map brow) (i := j) (j := 0) (row' := brow u) rfl rfl rfl (fun _ h => h) rfl rfl (broOk E) (hrow) (by first | decide | (simp; done)) (by first | rfl | (simp; done)) (by first | rfl | (simp; done) | (simp; omega)) ?_)
            rw [← List.map_set]
            generalize hZ : E.set j u = Z
            have hZl : E.length = Z.length := by rw [← hZ, List.length_set]
            rw [hZl]
            refine akc ?_
            repeat' (first | ((with_reducible refine is_aops ?_); first | (refine o_op rfl ?_) | (refine o_yes rfl rfl rfl ?_) | (refine o_no rfl rfl rfl (fun _ h => h) ?_) | (refine o_not rfl rfl rfl (fun _ h => h) ?_)) | ((with_reducible refine is_opK ?_); first | (refine k_op' (fun _ h => h) ?_)) | ((with_reducible refine is_aop ?_); first | (refine a_q1 rfl (fun _ h => h) ?_) | (refine a_box rfl (fun _ h => h) ?_) | (refine a_alloc rfl (fun _ h => h) ?_) | (refine a_storev rfl (fun _ h => h) ?_) | (refine a_store rfl (fun _ h => h) ?_) | (refine a_panic rfl rfl ?_)) | ((with_reducible refine is_aop ?_); refine a_qS rfl (qIx (fun _ h => h)) (by assumption) ?_) | (with_reducible refine o_nil ?_) | fail)
            refine k_seq_to (twSt2 m k (rawrow rk rg rf rt rb rs rc rq rB L) b Z) ((Conv.freezeS (j := 15) (sz := 1) (L0 := [(4, .box (mnrow k)), (3, .box (mnrow m)), (2, .box (rawrow rk rg rf rt rb rs rc rq rB L))]) rfl (.refl _) (broOk Z) (List.length_map ..)).trans ?_) ?_
            · (refine Conv.toT ?_ ?_ (Nat.le_of_ble_eq_true rfl)); (focus ((unfold twSt2); (try dsimp only); (repeat' (first | (with_reducible exact .nil) | (refine .cons ?_ ?_) | (exact Wk.dead _) | (with_reducible exact Wk.refl _) | (exact WkL.nil))) <;> (first | (exact Wk.eq rfl) | (exact Wk.dead _) | (exact WkR.eq (by simp; done)) | (exact Wk.eq (by rw [List.map_append]; rfl)) | (exact Wk.int (Eq.trans (z64 (by omega) (by omega)) (by omega))) | (exact Wk.free _ _) | (exact Wk.lit _) | (exact Wk.int (z64 (by omega) (by omega))) | (exact Wk.int (by simp)) | (exact Wk.int (by simp; omega)) | (exact Wk.eq (by simp))))); (focus ((unfold twSt2); (try dsimp only); (repeat' (first | (with_reducible exact WkH.nil) | (refine WkH.cons ?_ ?_) | (exact WkR.refl _) | (refine WkR.box _ ?_) | (exact WkR.eq (by simp; done)) | (exact WkH.nil))) <;> ((repeat' (first | (with_reducible exact .nil) | (refine .cons ?_ ?_) | (exact Wk.dead _) | (with_reducible exact Wk.refl _) | (exact WkL.nil))) <;> (first | (exact Wk.eq rfl) | (exact Wk.dead _) | (exact WkR.eq (by simp; done)) | (exact Wk.eq (by rw [List.map_append]; rfl)) | (exact Wk.int (Eq.trans (z64 (by omega) (by omega)) (by omega))) | (exact Wk.free _ _) | (exact Wk.lit _) | (exact Wk.int (z64 (by omega) (by omega))) | (exact Wk.int (by simp)) | (exact Wk.int (by simp; omega)) | (exact Wk.eq (by simp))))))
            · refine c_turn (n' := 12000) (fun _ h => h) (fun _ h => h) rfl ?_
              have hX1 := encodes_c m.ms (by have := ok.l; show (m.l.map Vn.vt).length < _; rw [List.length_map]; omega)
              rw [mnrow_eq] at hX1
              have hX2 := encodes_c ⟨rk, rg, rf, rt, rb, rs, rc, rq, rB, L⟩ (by show L.length < _; omega)
              have hX3 := decodes_c Z (by omega)
              have hX4 := cut_c b 80 (by decide)
              have hX5 := decodes_c (b.take 80) (by rw [List.length_take]; omega)
              have hlm : m.ms.l.length < 1000000000000 := by have := ok.l; show (m.l.map Vn.vt).length < _; rw [List.length_map]; omega
              have hlk : k.ms.l.length < 1000000000000 := by have := ok2.l; show (k.l.map Vn.vt).length < _; rw [List.length_map]; omega
              have hS1 := msameM_c m.ms k.ms hlm hlk
              have hS2 := refSameM_c m.ms k.ms hlm hlk
              have hS3 := msameM_c m.ms ⟨rk, rg, rf, rt, rb, rs, rc, rq, rB, L⟩ hlm (by show L.length < _; omega)
              have hS4 := refSameM_c m.ms ⟨rk, rg, rf, rt, rb, rs, rc, rq, rB, L⟩ hlm (by show L.length < _; omega)
              unfold msv at hS1 hS2 hS3 hS4
              rw [mnrow_eq] at hS1 hS2 hS3 hS4
              rw [mnrow_eq] at hS1 hS2
              repeat' (first | (refine awd1 ?_) | (((with_reducible refine is_aops ?_); refine o_split rfl rfl rfl (fun hc => ?_) (fun hc => ?_) <;> first | (exfalso; (simp only [decide_eq_true_eq, decide_eq_false_iff_not, beq_iff_eq, beq_eq_false_iff_ne, bne_iff_ne, bne_eq_false_iff_eq, List.length_map, Int.not_lt, Int.not_le] at hc); omega) | rw [hc])) | (((with_reducible refine is_cond ?_); refine c_cond rfl (fun hc => ?_) (fun hc => ?_) <;> first | (exfalso; (simp only [decide_eq_true_eq, decide_eq_false_iff_not, beq_iff_eq, beq_eq_false_iff_ne, bne_iff_ne, bne_eq_false_iff_eq, List.length_map, Int.not_lt, Int.not_le] at hc); omega) | skip)) | (((with_reducible refine is_aop ?_); refine a_pick rfl rfl (fun hc => ?_) (fun hc => ?_) <;> first | (exfalso; (simp only [decide_eq_true_eq, decide_eq_false_iff_not, beq_iff_eq, beq_eq_false_iff_ne, bne_iff_ne, bne_eq_false_iff_eq, List.length_map, Int.not_lt, Int.not_le] at hc); omega) | rw [hc])) | ((with_reducible refine ret1 ?_); first | (refine akc ?_) | (refine aec ?_)) | (with_reducible exact retN) | (with_reducible exact retP) | (refine cal [] (hX1) ?_ ?_) | (refine cal [] (hX2) ?_ ?_) | (refine cal [] (hX3) ?_ ?_) | (refine cal [] (hX4) ?_ ?_) | (refine cal [] (hX5) ?_ ?_) | fail)
              refine cal [] (hS1) ?_ ?_
              · refine retS fun r1 e1 => ?_
                first | (refine akc ?_) | (refine aec ?_)
                refine awd ?_
                refine cal [] (hS2) ?_ ?_
                · refine retS fun r2 e2 => ?_
                  obtain rfl : r1 = r2 := by cases r1 <;> cases r2 <;> simp_all
                  first | (refine akc ?_) | (refine aec ?_)
                  refine awd ?_
                  rw [show (r1 == r1) = true from beq_self_eq_true _]
                  refine awd ?_
                  refine cal [] (hS3) ?_ ?_
                  · refine retS fun r3 e3 => ?_
                    first | (refine akc ?_) | (refine aec ?_)
                    refine awd ?_
                    refine cal [] (hS4) ?_ ?_
                    · refine retS fun r4 e4 => ?_
                      obtain rfl : r3 = r4 := by cases r3 <;> cases r4 <;> simp_all
                      first | (refine akc ?_) | (refine aec ?_)
                      refine awd ?_
                      rw [show (r3 == r3) = true from beq_self_eq_true _]
                      refine awd ?_
                      refine cal [] (mknown_c) ?_ ?_
                      · refine ret1 ?_; first | (refine akc ?_) | (refine aec ?_)
                        refine awd ?_
                        exact e_ret (H' := []) (rest := _) rfl ⟨rfl, rfl⟩ (.refl _) (Nat.le_of_ble_eq_true rfl)
                      · first | (exact retN) | (exact retP)
                    · exact retSN
                  · exact retSN
                · exact retSN
              · exact retSN
          · first | (exact retN) | (exact retP)
        · intro x H' hh
          obtain ⟨_, _, _, h', _⟩ := hh
          cases h'
      · intro Kx kN kP kR kE
        repeat' (first | (refine awd1 ?_) | (((with_reducible refine is_aops ?_); refine o_split rfl rfl rfl (fun hc => ?_) (fun hc => ?_) <;> rw [hc])) | (((with_reducible refine is_cond ?_); refine c_cond rfl (fun hc => ?_) (fun hc => ?_))) | (((with_reducible refine is_aop ?_); refine a_pick rfl rfl (fun hc => ?_) (fun hc => ?_) <;> rw [hc])) | fail)
        · (with_reducible refine is_aop ?_); first | (refine a_qS rfl (fun _ h => h) ?_ ?_) | (refine a_qS rfl (qIx (fun _ h => h)) ?_ ?_) | (refine a_qS rfl (qAnd5 (fun _ h => h)) ?_ ?_) | (refine a_qS rfl (qStr (fun _ h => h)) ?_ ?_) | (refine a_qS rfl (qAnd4 (fun _ h => h)) ?_ ?_) | (refine a_qS rfl (qAnd2 (fun _ h => h)) ?_ ?_)
          · refine ⟨trivial, (by show (0 : Int) ≤ 20; decide), Nat.zero_le _, ?_, ?_⟩
            · simp at hc ⊢; omega
            · intro row hr
              obtain ⟨x, _, rfl⟩ := List.mem_map.1 hr
              rfl
          refine k_as (.list ((rL.take 20).map vtrow) .free) (by rw [List.map_take, List.drop_zero]; rfl) ?_
          refine awd ?_
          refine kN (rL.take 20) () _ _ _ (by rw [List.length_take]; omega) ?_
          (refine Conv.toT ?_ ?_ (Nat.le_of_ble_eq_true rfl)); (focus ((unfold twSt); (try dsimp only); (repeat' (first | (with_reducible exact .nil) | (refine .cons ?_ ?_) | (exact Wk.dead _) | (with_reducible exact Wk.refl _) | (exact WkL.nil))) <;> (first | (exact Wk.eq rfl) | (exact Wk.dead _) | (exact WkR.eq (by simp; done)) | (exact Wk.eq (by rw [List.map_append]; rfl)) | (exact Wk.int (Eq.trans (z64 (by omega) (by omega)) (by omega))) | (exact Wk.free _ _) | (exact Wk.lit _) | (exact Wk.int (z64 (by omega) (by omega))) | (exact Wk.int (by simp)) | (exact Wk.int (by simp; omega)) | (exact Wk.eq (by simp))))); (focus ((unfold twSt); (try dsimp only); (repeat' (first | (with_reducible exact WkH.nil) | (refine WkH.cons ?_ ?_) | (exact WkR.refl _) | (refine WkR.box _ ?_) | (exact WkR.eq (by simp; done)) | (exact WkH.nil))) <;> ((repeat' (first | (with_reducible exact .nil) | (refine .cons ?_ ?_) | (exact Wk.dead _) | (with_reducible exact Wk.refl _) | (exact WkL.nil))) <;> (first | (exact Wk.eq rfl) | (exact Wk.dead _) | (exact WkR.eq (by simp; done)) | (exact Wk.eq (by rw [List.map_append]; rfl)) | (exact Wk.int (Eq.trans (z64 (by omega) (by omega)) (by omega))) | (exact Wk.free _ _) | (exact Wk.lit _) | (exact Wk.int (z64 (by omega) (by omega))) | (exact Wk.int (by simp)) | (exact Wk.int (by simp; omega)) | (exact Wk.eq (by simp))))))
        · refine kN rL () _ _ _ (by simp at hc; omega) ?_
          (refine Conv.toT ?_ ?_ (Nat.le_of_ble_eq_true rfl)); (focus ((unfold twSt); (try dsimp only); (repeat' (first | (with_reducible exact .nil) | (refine .cons ?_ ?_) | (exact Wk.dead _) | (with_reducible exact Wk.refl _) | (exact WkL.nil))) <;> (first | (exact Wk.eq rfl) | (exact Wk.dead _) | (exact WkR.eq (by simp; done)) | (exact Wk.eq (by rw [List.map_append]; rfl)) | (exact Wk.int (Eq.trans (z64 (by omega) (by omega)) (by omega))) | (exact Wk.free _ _) | (exact Wk.lit _) | (exact Wk.int (z64 (by omega) (by omega))) | (exact Wk.int (by simp)) | (exact Wk.int (by simp; omega)) | (exact Wk.eq (by simp))))); (focus ((unfold twSt); (try dsimp only); (repeat' (first | (with_reducible exact WkH.nil) | (refine WkH.cons ?_ ?_) | (exact WkR.refl _) | (refine WkR.box _ ?_) | (exact WkR.eq (by simp; done)) | (exact WkH.nil))) <;> ((repeat' (first | (with_reducible exact .nil) | (refine .cons ?_ ?_) | (exact Wk.dead _) | (with_reducible exact Wk.refl _) | (exact WkL.nil))) <;> (first | (exact Wk.eq rfl) | (exact Wk.dead _) | (exact WkR.eq (by simp; done)) | (exact Wk.eq (by rw [List.map_append]; rfl)) | (exact Wk.int (Eq.trans (z64 (by omega) (by omega)) (by omega))) | (exact Wk.free _ _) | (exact Wk.lit _) | (exact Wk.int (z64 (by omega) (by omega))) | (exact Wk.int (by simp)) | (exact Wk.int (by simp; omega)) | (exact Wk.eq (by simp))))))
    · intro x H' h; obtain ⟨_, _, h1, _⟩ := h; cases h1
  · intro x H' h; obtain ⟨_, _, h1, _⟩ := h; cases h1
end Go.Proofs.Ytdfnepbhgifkkaa
