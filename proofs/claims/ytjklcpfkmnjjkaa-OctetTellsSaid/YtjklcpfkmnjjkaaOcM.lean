/- OctetTells, by contracts. -/
import Derived.Test.YtjklcpfkmnjjkaaOcK
import Derived.Test.YtjklcpfkmnjjkaaOcF
import Derived.Test.YtjklcpfkmnjjkaaKeep
import Derived.Test.YtjklcpfkmnjjkaaAmIn
namespace Go.Proofs.Ytjklcpfkmnjjkaa
open Go.Am
set_option linter.unusedSimpArgs false
set_option linter.unusedVariables false
def ocell (b : UInt8) : AV := .v (.int .u8 b.toNat)
theorem flat_brow (l : List UInt8) : (l.map brow).flatten = l.map ocell := by
  induction l with
  | nil => rfl
  | cons b l ih => rw [List.map_cons, List.flatten_cons, ih]; rfl
theorem u8_some (z : Int) : ∃ u : UInt8, IntKind.u8.wrap z = (u.toNat : Int) := by
  refine ⟨UInt8.ofNat (IntKind.u8.wrap z).toNat, ?_⟩
  have h1 : 0 ≤ IntKind.u8.wrap z ∧ IntKind.u8.wrap z < 256 := by rw [IntKind.wrap_u8]; omega
  generalize IntKind.u8.wrap z = x at *
  rw [UInt8.toNat_ofNat_of_lt' (by show x.toNat < 256; omega)]
  omega
theorem put_set (l : List UInt8) (i : Nat) (u : UInt8) (h : i < l.length) : putCells (l.map ocell) i [ocell u] = (l.set i u).map ocell := by
  unfold putCells
  rw [List.set_eq_take_append_cons_drop, if_pos h]
  simp
theorem within_c (n lo hi : Int) (hn1 : -9223372036854775808 ≤ n) (hn2 : n ≤ 9223372036854775807) (h0 : -4611686018427387904 ≤ lo) (h : lo ≤ hi) (h2 : hi ≤ 2147483648) (h3 : hi - lo ≤ 2147483648) : ACalls Try.prog 34 0 0 [.v (.int .i64 n), .v (.int .i64 lo), .v (.int .i64 hi)] [] (fun out H' => out = .ret (.v (.int .i64 (within n lo hi))) ∧ H' = []) :=
  .of_calls ⟨Try.func34, rfl, by kernel_rfl⟩ (fun G => .data _ _ (.v _)) fun G w vals hh hl hs => by
    rw [args3_eq hl, (hs 0 _ rfl).v_inv, (hs 1 _ rfl).v_inv, (hs 2 _ rfl).v_inv]
    exact within_any n lo hi w hn1 hn2 h0 h h2 h3
theorem seqK_assoc {P : Program} {TT : Types} {D : Nat → List Oper → List AV → Heap → Nat → Kc → Prop} {Kk : Kc} {x y : Code} : seqK P TT D (.seq x y) Kk = seqK P TT D x (seqK P TT D y Kk) := by
  funext e s L n
  cases e <;> rfl
/-- what follows the next statement is walked once -/
theorem c_cutx2 {P : Program} {TT : Types} {D : Nat → List Oper → List AV → Heap → Nat → Kc → Prop} {s : List AV} {L : Heap} {n : Nat} {Kk : Kc} {α β : Type} {x x2 y : Code} (S : α → β → ASt) (C : α → β → Prop) (hy : ∀ a b, C a b → acode P TT D y (S a b).slots (S a b).L (S a b).next Kk)
    (hx : ∀ Kx : Kc, (∀ a b s L n, C a b → Conv ⟨s, L, n⟩ (S a b) → Kx .normal s L n) → (∀ x s L n, Kk (.panic x) s L n → Kx (.panic x) s L n) → (∀ s L n, Kk .ret s L n → Kx .ret s L n) → (∀ i s L n, Kk (.exit i) s L n → Kx (.exit i) s L n) → acode P TT D x s L n (seqK P TT D x2 Kx)) : acode P TT D x s L n (seqK P TT D (.seq x2 y) Kk) := by
  rw [seqK_assoc]
  exact hx (seqK P TT D y Kk) (fun a b s L n h hc => ⟨S a b, hc, hy a b h⟩) (fun _ _ _ _ h => h) (fun _ _ _ h => h) (fun _ _ _ _ h => h)
/-- what was written lies turned in y -/
def tuSt (l m : List Ask) (b E y : List UInt8) : ASt :=
  ⟨[.list (l.map arow) .free, .list (m.map arow) .free, .list (b.map brow) .free, .dead, .dead, .dead, .dead, .dead, .dead, .dead, .dead, .dead, .list (E.map brow) (.tok 89), .dead, .list (y.map brow) .free] ++ List.replicate 57 .dead, tokH 89 E.length, 200⟩
set_option maxRecDepth 100000 in
set_option maxHeartbeats 3200000 in
theorem octells_c (l m : List Ask) (b : List UInt8) (at' : Int) (turn : UInt8) (hl : ∀ a ∈ l, AskOk a) (h : l.length ≤ 9223372036854775807) (hm : m.length ≤ 9223372036854775807) (ha1 : -9223372036854775808 ≤ at') (ha2 : at' ≤ 9223372036854775807) :
    ACalls Try.prog 8 0 3000 [.list (l.map arow) .free, .list (m.map arow) .free, .list (b.map brow) .free, .v (.int .i64 at'), .v (.int .u8 turn.toNat)] [] (fun out H' => out = .ret (.v (.bool true)) ∧ H' = []) := by
  have hE : (enc (l.take 15)).length ≤ 510 := by
    have h1 := enc_len (l.take 15)
    have h2 : (l.take 15).length ≤ 15 := by simp; omega
    omega
  refine acalls_of tok dok (f := 8) ⟨Try.func8, rfl, by kernel_rfl⟩ ?_; refine c_start (fun _ h => h) ?_
  refine awd ?_
  refine cal [] (written_c l hl h) ?_ ?_
  · refine ret1 ?_; first | (refine akc ?_) | (refine aec ?_)
    generalize enc (l.take 15) = E at *
    repeat' (first | ((with_reducible refine is_aops ?_); first | (refine o_op rfl ?_) | (refine o_yes rfl rfl rfl ?_) | (refine o_no rfl rfl rfl (fun _ h => h) ?_) | (refine o_not rfl rfl rfl (fun _ h => h) ?_)) | ((with_reducible refine is_opK ?_); first | (refine k_op' (fun _ h => h) ?_)) | ((with_reducible refine is_aop ?_); first | (refine a_q1 rfl (fun _ h => h) ?_) | (refine a_box rfl (fun _ h => h) ?_) | (refine a_alloc rfl (fun _ h => h) ?_) | (refine a_storev rfl (fun _ h => h) ?_) | (refine a_store rfl (fun _ h => h) ?_) | (refine a_panic rfl rfl ?_)) | ((with_reducible refine is_aop ?_); refine a_qS rfl (qIx (fun _ h => h)) (by assumption) ?_) | (with_reducible refine o_nil ?_) | fail)
    refine k_seq ?_
    refine c_seq ?_
    refine c_seq ?_
    refine awd ?_
    rw [beq_self_eq_true]
    ((with_reducible refine is_cond ?_); first | (refine c_true rfl ?_) | (refine c_false rfl ?_))
    refine c_skip ?_
    refine k_seq ?_
    refine c_seq ?_
    refine c_cutx2 (fun (y : List UInt8) (_ : Unit) => tuSt l m b E y) (fun y _ => y.length ≤ 510) ?_ ?_
    · rintro y _ hy
      have hb60 : (b.take 60).length ≤ 60 := by simp; omega
      refine c_turn (n' := 200) (fun _ h => h) (fun _ h => h) rfl ?_
      refine awd ?_
      refine cal [] (cut_c b 60 (by decide)) ?_ ?_
      · refine ret1 ?_; first | (refine akc ?_) | (refine aec ?_)
        refine awd ?_
        refine cal [] (reads_c l y h (by omega)) ?_ ?_
        · refine ret1 ?_; first | (refine akc ?_) | (refine aec ?_)
          refine awd ?_
          refine calw [] (reads_c m E hm (by omega)) ?_ ?_
          · refine ret1 ?_; first | (refine akc ?_) | (refine aec ?_)
            refine awd ?_
            refine cal [] (reads_c m (b.take 60) hm (by omega)) ?_ ?_
            · refine ret1 ?_; first | (refine akc ?_) | (refine aec ?_)
              refine awd ?_
              rw [← List.map_append]
              refine calw [] (reads_c l (E ++ b.take 60) h (by rw [List.length_append]; omega)) ?_ ?_
              · refine ret1 ?_; first | (refine akc ?_) | (refine aec ?_)
                refine awd ?_
                refine cal [] (known_c) ?_ ?_
                · refine ret1 ?_; first | (refine akc ?_) | (refine aec ?_)
                  refine awd ?_
                  exact e_ret (H' := []) (rest := _) rfl ⟨rfl, rfl⟩ (.refl _) (Nat.le_of_ble_eq_true rfl)
                · first | (exact retN) | (exact retP)
              · first | (exact retN) | (exact retP)
            · first | (exact retN) | (exact retP)
          · first | (exact retN) | (exact retP)
        · first | (exact retN) | (exact retP)
      · first | (exact retN) | (exact retP)
    · intro Kx kN kP kR kE
      refine c_turn (L' := [(89, .tok 1 E.length)]) (n' := 90) (fun _ h => h) (fun _ h => h) rfl ?_
      by_cases h0 : E.length = 0
      · obtain rfl := List.length_eq_zero_iff.1 h0
        refine awd ?_
        refine kN [] () _ _ _ (by decide) (.to _ ?_ (List.perm_append_comm (l₁ := [_])) (Nat.le_of_ble_eq_true rfl))
        unfold tuSt
        (repeat' (first | (with_reducible exact .nil) | (refine .cons ?_ ?_) | (exact Wk.dead _) | (with_reducible exact Wk.refl _) | (exact WkL.nil))) <;> first | exact Wk.eq rfl | exact Wk.free _ _
      · refine c_region ?_
        repeat' (first | ((with_reducible refine is_aops ?_); first | (refine o_op rfl ?_) | (refine o_yes rfl rfl rfl ?_) | (refine o_no rfl rfl rfl (fun _ h => h) ?_) | (refine o_not rfl rfl rfl (fun _ h => h) ?_)) | ((with_reducible refine is_opK ?_); first | (refine k_op' (fun _ h => h) ?_)) | ((with_reducible refine is_aop ?_); first | (refine a_q1 rfl (fun _ h => h) ?_) | (refine a_box rfl (fun _ h => h) ?_) | (refine a_alloc rfl (fun _ h => h) ?_) | (refine a_storev rfl (fun _ h => h) ?_) | (refine a_store rfl (fun _ h => h) ?_) | (refine a_panic rfl rfl ?_)) | ((with_reducible refine is_aop ?_); refine a_qS rfl (qIx (fun _ h => h)) (by assumption) ?_) | (with_reducible refine o_nil ?_) | fail)
        (with_reducible refine is_aop ?_)
        refine a_append_arr rfl rfl rfl rfl rfl rfl rfl rfl rfl rfl rfl (brows E) (by rw [List.length_map]; omega) (by constructor <;> (rw [List.length_map]) <;> first | omega | (show E.length * 1 ≤ _; omega)) (flat_brow E) ?_
        refine awd ?_
        ((with_reducible refine is_cond ?_); refine c_cond rfl (fun hc => ?_) (fun hc => ?_))
        · obtain ⟨q, hq, hql⟩ : ∃ q : Nat, within at' 0 ((E.length : Int) - 1) = q ∧ q < E.length := by
            have := within_bd at' 0 ((E.length : Int) - 1) (by omega)
            exact ⟨(within at' 0 ((E.length : Int) - 1)).toNat, by omega, by omega⟩
          have hw := within_c at' 0 ((E.length : Int) - 1) ha1 ha2 (by decide) (by omega) (by omega) (by omega)
          rw [hq] at hw
          refine awd ?_
          rw [List.length_map, w64 (n := (E.length : Int) - 1) (by omega) (by omega)]
          refine cal [] (hw) ?_ ?_
          · refine ret1 ?_
            refine akc (L'' := [(90, .box (E.map ocell)), (89, .tok 1 E.length)]) ?_ (hL := fun q hq => by rw [forceH_eq]; exact hq)
            refine awd ?_
            (with_reducible refine is_aop ?_)
            refine a_qS rfl (qAnd2 (fun _ h => h)) ⟨Int.natCast_nonneg q, Int.ofNat_lt.2 hql⟩ ?_
            refine awd ?_
            (with_reducible refine is_aop ?_)
            refine a_loadAt rfl rfl rfl rfl rfl (av := ocell E[q]) (by show (E.map ocell)[(q : Int).toNat * 1]? = _; rw [Int.toNat_natCast, Nat.mul_one, List.getElem?_map, List.getElem?_eq_getElem hql]; rfl) ?_
            refine awd ?_
            obtain ⟨u, hu⟩ := u8_some ((BitVec.ofInt IntKind.u8.bits (E[q].toNat : Int) ^^^ BitVec.ofInt IntKind.u8.bits (turn.toNat : Int)).toNat : Int)
            rw [hu]
            (with_reducible refine is_aop ?_)
            refine a_qS rfl (qAnd2 (fun _ h => h)) ⟨Int.natCast_nonneg q, Int.ofNat_lt.2 hql⟩ ?_
            refine awd ?_
            (with_reducible refine is_aop ?_)
            refine a_storeAt rfl rfl rfl rfl rfl (cells' := (E.set q u).map ocell) (by
              show (true && (true && Nat.ble ((q : Int).toNat * 1 + 1) (E.map ocell).length)) = true
              rw [Int.toNat_natCast, Nat.mul_one, List.length_map, Bool.true_and, Bool.true_and]
              exact Nat.ble_eq_true_of_le hql) (by
              show putCells (E.map ocell) ((q : Int).toNat * 1) [ocell u] = _
              rw [Int.toNat_natCast, Nat.mul_one]
              exact put_set E q u hql) ?_
            refine awd ?_
            refine kN (E.set q u) () _ _ _ (by rw [List.length_set]; exact hE) ((Conv.freeze (j := 14) (rows := (E.set q u).map brow) (sz := 1) (L0 := [(89, .tok 1 E.length)]) (cells := (E.set q u).map ocell) rfl (.of_eq rfl) (flat_brow _).symm (brows _) (by rw [List.length_map, List.length_set]) (fun a ha => by
              obtain ⟨c, _, rfl⟩ := List.mem_map.1 ha
              exact ⟨_, rfl, rfl⟩)).trans (.to [] ?_ (.of_eq rfl) (Nat.le_of_ble_eq_true rfl)))
            unfold tuSt
            (repeat' (first | (with_reducible exact .nil) | (refine .cons ?_ ?_) | (exact Wk.dead _) | (with_reducible exact Wk.refl _) | (exact WkL.nil))) <;> first | exact Wk.eq rfl | exact Wk.free _ _
          · first | (exact retN) | (exact retP)
        · exfalso
          rw [List.length_map] at hc
          simp at hc
          exact h0 (by rw [hc]; rfl)
  · first | (exact retN) | (exact retP)
end Go.Proofs.Ytjklcpfkmnjjkaa
