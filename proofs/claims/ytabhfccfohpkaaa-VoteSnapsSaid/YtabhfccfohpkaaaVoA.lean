/- votes: a place in a list by rising slots. -/
import Derived.Test.YtabhfccfohpkaaaOcB
import Derived.Test.YtabhfccfohpkaaaAmTc
namespace Go.Proofs.Ytabhfccfohpkaaa
open Go.Am
set_option linter.unusedSimpArgs false
set_option linter.unusedVariables false
set_option maxRecDepth 100000
/-- how many keys lie below -/
def kpos (ks : List Int) (c : Int) : Nat := ks.countP (fun x => decide (x < c))
theorem kpos_le (ks : List Int) (c : Int) : kpos ks c ≤ ks.length := List.countP_le_length
theorem kpos_eq : ∀ (ks : List Int) (c : Int) (p : Nat), p ≤ ks.length → (∀ i x, i < p → ks[i]? = some x → x < c) → (∀ i x, p ≤ i → ks[i]? = some x → c ≤ x) → kpos ks c = p := by
  intro ks c p hp h1 h2
  unfold kpos
  conv => lhs; rw [← List.take_append_drop p ks]
  rw [List.countP_append, List.countP_eq_length.2, List.countP_eq_zero.2, List.length_take]
  · omega
  · intro x hx
    obtain ⟨i, hi⟩ := List.getElem?_of_mem hx
    rw [List.getElem?_drop] at hi
    have := h2 _ x (by omega) hi
    simp; omega
  · intro x hx
    obtain ⟨i, hi⟩ := List.getElem?_of_mem hx
    rw [List.getElem?_take] at hi
    split at hi
    · rename_i hlt
      have := h1 _ x hlt hi
      simp; omega
    · cases hi
theorem kpos_lt {ks : List Int} {c : Int} (hs : ks.Pairwise (· < ·)) {i : Nat} {x : Int} (hi : ks[i]? = some x) : i < kpos ks c ↔ x < c := by
  unfold kpos
  induction ks generalizing i with
  | nil => cases hi
  | cons y ks ih =>
    rw [List.pairwise_cons] at hs
    rw [List.countP_cons]
    cases i with
    | zero =>
      cases hi
      by_cases hc : x < c
      · simp [hc]
      · have : ks.countP (fun x => decide (x < c)) = 0 := List.countP_eq_zero.2 fun z hz => by
          have := hs.1 z hz
          simp; omega
        simp [hc, this]
    | succ i =>
      rw [List.getElem?_cons_succ] at hi
      have := ih hs.2 hi
      have hy := hs.1 x (List.mem_of_getElem? hi)
      by_cases hc : y < c
      · simp [hc]; omega
      · have h0 : ks.countP (fun x => decide (x < c)) = 0 := List.countP_eq_zero.2 fun z hz => by
          have := hs.1 z hz
          simp; omega
        simp [hc, h0]; omega
/-- what clients were told -/
structure Td where
  c : Int
  s : Int
  b : List UInt8
def trow (t : Td) : List AV := [.v (.int .i64 t.c), .v (.int .i64 t.s), .list (t.b.map brow) .free]
def tkeys (l : List Td) : List Int := l.map (·.c)
theorem tdOk (l : List Td) : RowsOk 3 (l.map trow) := .map (f := trow) (fun _ => ⟨rfl, rfl, rfl⟩) l
theorem isNaN_i (n : Int) : ACalls Try.prog 129 0 0 [.v (.int .i64 n)] [] (fun out H' => out = .ret (.v (.bool false)) ∧ H' = []) := by
  refine no_implicit_lambda% (acalls_of tok dok (f := 129) ⟨Try.func129, rfl, by kernel_rfl⟩ ?_); refine no_implicit_lambda% (c_start (fun _ h => h) ?_)
  repeat' (first | (refine no_implicit_lambda% (awd1 ?_)) | (((with_reducible refine no_implicit_lambda% (is_aops ?_)); refine no_implicit_lambda% (o_split rfl rfl rfl (fun hc => ?_) (fun hc => ?_)) <;> first | (exfalso; (simp only [decide_eq_true_eq, decide_eq_false_iff_not, beq_iff_eq, beq_eq_false_iff_ne, bne_iff_ne, bne_eq_false_iff_eq, List.length_map, Int.not_lt, Int.not_le] at hc); omega) | rw [hc])) | (((with_reducible refine no_implicit_lambda% (is_cond ?_)); refine no_implicit_lambda% (c_cond rfl (fun hc => ?_) (fun hc => ?_)) <;> first | (exfalso; (simp only [decide_eq_true_eq, decide_eq_false_iff_not, beq_iff_eq, beq_eq_false_iff_ne, bne_iff_ne, bne_eq_false_iff_eq, List.length_map, Int.not_lt, Int.not_le] at hc); omega) | skip)) | (((with_reducible refine no_implicit_lambda% (is_aop ?_)); refine no_implicit_lambda% (a_pick rfl rfl (fun hc => ?_) (fun hc => ?_)) <;> first | (exfalso; (simp only [decide_eq_true_eq, decide_eq_false_iff_not, beq_iff_eq, beq_eq_false_iff_ne, bne_iff_ne, bne_eq_false_iff_eq, List.length_map, Int.not_lt, Int.not_le] at hc); omega) | rw [hc])) | ((with_reducible refine no_implicit_lambda% (ret1 ?_)); first | (refine no_implicit_lambda% (akc ?_)) | (refine no_implicit_lambda% (aec ?_))) | (with_reducible exact retN) | (with_reducible exact retP) | fail | fail)
  refine no_implicit_lambda% (e_ret (H' := []) (rest := _) rfl ⟨congrArg (fun z => AOut.ret (.v (.bool z))) ?_, rfl⟩ (.refl _) (Nat.le_of_ble_eq_true rfl))
  simp
def cmpI (a b : Int) : Int := if a < b then -1 else if b < a then 1 else 0
theorem compare_i (a b : Int) : ACalls Try.prog 111 0 0 [.v (.int .i64 a), .v (.int .i64 b)] [] (fun out H' => out = .ret (.v (.int .i64 (cmpI a b))) ∧ H' = []) := by
  refine no_implicit_lambda% (acalls_of tok dok (f := 111) ⟨Try.func111, rfl, by kernel_rfl⟩ ?_); refine no_implicit_lambda% (c_start (fun _ h => h) ?_)
  repeat' (first | (refine no_implicit_lambda% (awd1 ?_)) | (((with_reducible refine no_implicit_lambda% (is_aops ?_)); refine no_implicit_lambda% (o_split rfl rfl rfl (fun hc => ?_) (fun hc => ?_)) <;> first | (exfalso; (simp only [decide_eq_true_eq, decide_eq_false_iff_not, beq_iff_eq, beq_eq_false_iff_ne, bne_iff_ne, bne_eq_false_iff_eq, List.length_map, Int.not_lt, Int.not_le] at hc); omega) | rw [hc])) | (((with_reducible refine no_implicit_lambda% (is_cond ?_)); refine no_implicit_lambda% (c_cond rfl (fun hc => ?_) (fun hc => ?_)) <;> first | (exfalso; (simp only [decide_eq_true_eq, decide_eq_false_iff_not, beq_iff_eq, beq_eq_false_iff_ne, bne_iff_ne, bne_eq_false_iff_eq, List.length_map, Int.not_lt, Int.not_le] at hc); omega) | skip)) | (((with_reducible refine no_implicit_lambda% (is_aop ?_)); refine no_implicit_lambda% (a_pick rfl rfl (fun hc => ?_) (fun hc => ?_)) <;> first | (exfalso; (simp only [decide_eq_true_eq, decide_eq_false_iff_not, beq_iff_eq, beq_eq_false_iff_ne, bne_iff_ne, bne_eq_false_iff_eq, List.length_map, Int.not_lt, Int.not_le] at hc); omega) | rw [hc])) | ((with_reducible refine no_implicit_lambda% (ret1 ?_)); first | (refine no_implicit_lambda% (akc ?_)) | (refine no_implicit_lambda% (aec ?_))) | (with_reducible exact retN) | (with_reducible exact retP) | (refine no_implicit_lambda% (cal [] (isNaN_i _) ?_ ?_)) | fail)
  all_goals (refine e_ret (H' := []) (rest := _) rfl ⟨congrArg (fun z => AOut.ret (.v (.int .i64 z))) ?_, rfl⟩ (.refl _) (Nat.le_of_ble_eq_true rfl); unfold cmpI; simp_all; try omega)
theorem findf_c (t : Td) (c : Int) : ACalls Try.prog 110 0 1 [.agg (trow t), .v (.int .i64 c)] [] (fun out H' => out = .ret (.v (.int .i64 (cmpI t.c c))) ∧ H' = []) := by
  refine no_implicit_lambda% (acalls_of tok dok (f := 110) ⟨Try.func110, rfl, by kernel_rfl⟩ ?_); refine no_implicit_lambda% (c_start (fun _ h => h) ?_)
  repeat' (first | (refine no_implicit_lambda% (awd1 ?_)) | (((with_reducible refine no_implicit_lambda% (is_aops ?_)); refine no_implicit_lambda% (o_split rfl rfl rfl (fun hc => ?_) (fun hc => ?_)) <;> first | (exfalso; (simp only [decide_eq_true_eq, decide_eq_false_iff_not, beq_iff_eq, beq_eq_false_iff_ne, bne_iff_ne, bne_eq_false_iff_eq, List.length_map, Int.not_lt, Int.not_le] at hc); omega) | rw [hc])) | (((with_reducible refine no_implicit_lambda% (is_cond ?_)); refine no_implicit_lambda% (c_cond rfl (fun hc => ?_) (fun hc => ?_)) <;> first | (exfalso; (simp only [decide_eq_true_eq, decide_eq_false_iff_not, beq_iff_eq, beq_eq_false_iff_ne, bne_iff_ne, bne_eq_false_iff_eq, List.length_map, Int.not_lt, Int.not_le] at hc); omega) | skip)) | (((with_reducible refine no_implicit_lambda% (is_aop ?_)); refine no_implicit_lambda% (a_pick rfl rfl (fun hc => ?_) (fun hc => ?_)) <;> first | (exfalso; (simp only [decide_eq_true_eq, decide_eq_false_iff_not, beq_iff_eq, beq_eq_false_iff_ne, bne_iff_ne, bne_eq_false_iff_eq, List.length_map, Int.not_lt, Int.not_le] at hc); omega) | rw [hc])) | ((with_reducible refine no_implicit_lambda% (ret1 ?_)); first | (refine no_implicit_lambda% (akc ?_)) | (refine no_implicit_lambda% (aec ?_))) | (with_reducible exact retN) | (with_reducible exact retP) | (refine no_implicit_lambda% (cal [] (compare_i _ _) ?_ ?_)) | fail)
  exact e_ret (H' := []) (rest := _) rfl ⟨rfl, rfl⟩ (.refl _) (Nat.le_of_ble_eq_true rfl)
theorem mid_eq {a b : Nat} (ha : a < 1000000000) (hb : b < 1000000001) : IntKind.i64.wrap ((IntKind.u64.wrap (IntKind.i64.wrap ((a : Int) + b))).fdiv (2 ^ min (Int.toNat 1) IntKind.u64.bits)) = (((a + b) / 2 : Nat) : Int) := by
  rw [show min (Int.toNat 1) IntKind.u64.bits = 1 from rfl, Int.pow_one, IntKind.wrap_i64, IntKind.wrap_u64]
  rw [Int.fdiv_eq_ediv_of_nonneg _ (by omega)]
  rw [IntKind.wrap_i64]
  omega
def bsSt (l : List Td) (c : Int) (cp k : Nat) (lo hi : Nat) : ASt := ⟨([.arr 0 0 l.length cp, .v (.int .i64 c), .fn 110 []] ++ List.replicate 5 .dead ++ [.v (.int .i64 l.length), .v (.int .i64 lo), .v (.int .i64 hi)] ++ List.replicate 38 .dead), [(0, .seq (l.map trow) k)], 1⟩
theorem bsearch_c (l : List Td) (c : Int) (cp k : Nat) (hl : l.length < 1000000000) (hs : (tkeys l).Pairwise (· < ·)) : ACalls Try.prog 109 1 2 [.arr 0 0 l.length cp, .v (.int .i64 c), .fn 110 []] [(0, .seq (l.map trow) k)] (fun out H' => out = .ret (.tuple [.v (.int .i64 (kpos (tkeys l) c)), .v (.bool (decide ((tkeys l)[kpos (tkeys l) c]? = some c)))]) ∧ H' = [(0, .seq (l.map trow) k)]) := by
  refine no_implicit_lambda% (acalls_of tok dok (f := 109) ⟨Try.func109, rfl, by kernel_rfl⟩ ?_); refine no_implicit_lambda% (c_start (fun _ h => h) ?_)
  repeat' (first | (refine no_implicit_lambda% (awd1 ?_)) | (((with_reducible refine no_implicit_lambda% (is_aops ?_)); refine no_implicit_lambda% (o_split rfl rfl rfl (fun hc => ?_) (fun hc => ?_)) <;> first | (exfalso; (simp only [decide_eq_true_eq, decide_eq_false_iff_not, beq_iff_eq, beq_eq_false_iff_ne, bne_iff_ne, bne_eq_false_iff_eq, List.length_map, Int.not_lt, Int.not_le] at hc); omega) | rw [hc])) | (((with_reducible refine no_implicit_lambda% (is_cond ?_)); refine no_implicit_lambda% (c_cond rfl (fun hc => ?_) (fun hc => ?_)) <;> first | (exfalso; (simp only [decide_eq_true_eq, decide_eq_false_iff_not, beq_iff_eq, beq_eq_false_iff_ne, bne_iff_ne, bne_eq_false_iff_eq, List.length_map, Int.not_lt, Int.not_le] at hc); omega) | skip)) | (((with_reducible refine no_implicit_lambda% (is_aop ?_)); refine no_implicit_lambda% (a_pick rfl rfl (fun hc => ?_) (fun hc => ?_)) <;> first | (exfalso; (simp only [decide_eq_true_eq, decide_eq_false_iff_not, beq_iff_eq, beq_eq_false_iff_ne, bne_iff_ne, bne_eq_false_iff_eq, List.length_map, Int.not_lt, Int.not_le] at hc); omega) | rw [hc])) | ((with_reducible refine no_implicit_lambda% (ret1 ?_)); first | (refine no_implicit_lambda% (akc ?_)) | (refine no_implicit_lambda% (aec ?_))) | (with_reducible exact retN) | (with_reducible exact retP) | fail | fail)
  refine c_loop2 (bsSt l c cp k) (fun lo hi => lo ≤ hi ∧ hi ≤ l.length ∧ lo ≤ kpos (tkeys l) c ∧ kpos (tkeys l) c ≤ hi) (fun lo hi => hi - lo) 0 l.length ⟨Nat.zero_le _, Nat.le_refl _, Nat.zero_le _, by have := kpos_le (tkeys l) c; simpa [tkeys] using this⟩ ?_ ?_
  · (refine no_implicit_lambda% (Conv.toT ?_ ?_ (Nat.le_of_ble_eq_true rfl))); (focus ((unfold bsSt); (try dsimp only); (repeat' (first | (with_reducible exact .nil) | (refine no_implicit_lambda% (.cons ?_ ?_)) | (exact Wk.dead _) | (with_reducible exact Wk.refl _) | (exact WkL.nil))) <;> (first | (exact Wk.eq rfl) | (exact Wk.dead _) | (exact Wk.free _ _) | (exact Wk.lit _) | (refine no_implicit_lambda% (WkR.eq ?_); simp; done) | (refine no_implicit_lambda% (Wk.rows ?_ _); ((repeat' (first | (with_reducible exact LDR.nil) | (with_reducible exact LDL.nil) | (refine no_implicit_lambda% (LDR.cons ?_ ?_)) | (refine no_implicit_lambda% (LDL.cons ?_ ?_)) | (exact LeD.refl _) | (exact LeD.free _ _) | (exact LDR.nil) | (exact LDL.nil)))); done) | (exact Wk.rows (ldr_rep _) _) | (refine no_implicit_lambda% (Wk.eq ?_); rw [List.map_append]; rfl) | ((refine no_implicit_lambda% (Wk.int (Eq.trans (z64 ?_ ?_) ?_))) <;> omega) | (refine no_implicit_lambda% (Wk.int ?_); simp; done) | (refine no_implicit_lambda% (Wk.int ?_); simp; omega) | (refine no_implicit_lambda% (Wk.eq ?_); simp; done)))); (focus ((unfold bsSt); (try dsimp only); (repeat' (first | (with_reducible exact WkH.nil) | (refine no_implicit_lambda% (WkH.cons ?_ ?_)) | (exact WkR.refl _) | (refine no_implicit_lambda% (WkR.box _ ?_)) | (refine no_implicit_lambda% (WkR.eq ?_); simp; done) | (exact WkH.nil))) <;> ((repeat' (first | (with_reducible exact .nil) | (refine no_implicit_lambda% (.cons ?_ ?_)) | (exact Wk.dead _) | (with_reducible exact Wk.refl _) | (exact WkL.nil))) <;> (first | (exact Wk.eq rfl) | (exact Wk.dead _) | (exact Wk.free _ _) | (exact Wk.lit _) | (refine no_implicit_lambda% (WkR.eq ?_); simp; done) | (refine no_implicit_lambda% (Wk.rows ?_ _); ((repeat' (first | (with_reducible exact LDR.nil) | (with_reducible exact LDL.nil) | (refine no_implicit_lambda% (LDR.cons ?_ ?_)) | (refine no_implicit_lambda% (LDL.cons ?_ ?_)) | (exact LeD.refl _) | (exact LeD.free _ _) | (exact LDR.nil) | (exact LDL.nil)))); done) | (exact Wk.rows (ldr_rep _) _) | (refine no_implicit_lambda% (Wk.eq ?_); rw [List.map_append]; rfl) | ((refine no_implicit_lambda% (Wk.int (Eq.trans (z64 ?_ ?_) ?_))) <;> omega) | (refine no_implicit_lambda% (Wk.int ?_); simp; done) | (refine no_implicit_lambda% (Wk.int ?_); simp; omega) | (refine no_implicit_lambda% (Wk.eq ?_); simp; done)))))
  · intro lo hi ⟨h1, h2, h3, h4⟩
    refine c_turn (n' := 1) (fun _ h => h) (fun _ h => h) rfl ?_
    repeat' (first | (refine no_implicit_lambda% (awd1 ?_)) | (((with_reducible refine no_implicit_lambda% (is_aops ?_)); refine no_implicit_lambda% (o_split rfl rfl rfl (fun hc => ?_) (fun hc => ?_)) <;> first | (exfalso; (simp only [decide_eq_true_eq, decide_eq_false_iff_not, beq_iff_eq, beq_eq_false_iff_ne, bne_iff_ne, bne_eq_false_iff_eq, List.length_map, Int.not_lt, Int.not_le] at hc); omega) | rw [hc])) | (((with_reducible refine no_implicit_lambda% (is_cond ?_)); refine no_implicit_lambda% (c_cond rfl (fun hc => ?_) (fun hc => ?_)) <;> first | (exfalso; (simp only [decide_eq_true_eq, decide_eq_false_iff_not, beq_iff_eq, beq_eq_false_iff_ne, bne_iff_ne, bne_eq_false_iff_eq, List.length_map, Int.not_lt, Int.not_le] at hc); omega) | skip)) | (((with_reducible refine no_implicit_lambda% (is_aop ?_)); refine no_implicit_lambda% (a_pick rfl rfl (fun hc => ?_) (fun hc => ?_)) <;> first | (exfalso; (simp only [decide_eq_true_eq, decide_eq_false_iff_not, beq_iff_eq, beq_eq_false_iff_ne, bne_iff_ne, bne_eq_false_iff_eq, List.length_map, Int.not_lt, Int.not_le] at hc); omega) | rw [hc])) | ((with_reducible refine no_implicit_lambda% (ret1 ?_)); first | (refine no_implicit_lambda% (akc ?_)) | (refine no_implicit_lambda% (aec ?_))) | (with_reducible exact retN) | (with_reducible exact retP) | fail | fail)
    · have hlt : lo < hi := by simp at hc; omega
      rw [show IntKind.i64.wrap ((IntKind.u64.wrap (IntKind.i64.wrap ((lo : Int) + hi))).fdiv (2 ^ min (Int.toNat 1) IntKind.u64.bits)) = (((lo + hi) / 2 : Nat) : Int) from mid_eq (by omega) (by omega)]
      obtain ⟨m, hm⟩ : ∃ m, (lo + hi) / 2 = m := ⟨_, rfl⟩
      rw [hm]
      have hml : m < l.length := by omega
      obtain ⟨t, ht⟩ : ∃ t, l[m]? = some t := ⟨_, List.getElem?_eq_getElem hml⟩
      have hk : (tkeys l)[m]? = some t.c := by unfold tkeys; rw [List.getElem?_map, ht]; rfl
      have hlt2 := kpos_lt (c := c) hs hk
      (with_reducible refine no_implicit_lambda% (is_aop ?_)); first | (refine no_implicit_lambda% (a_qS rfl (fun _ h => h) ?_ ?_)) | (refine no_implicit_lambda% (a_qS rfl (qIx (fun _ h => h)) ?_ ?_)) | (refine no_implicit_lambda% (a_qS rfl (qAnd5 (fun _ h => h)) ?_ ?_)) | (refine no_implicit_lambda% (a_qS rfl (qStr (fun _ h => h)) ?_ ?_)) | (refine no_implicit_lambda% (a_qS rfl (qAnd4 (fun _ h => h)) ?_ ?_)) | (refine no_implicit_lambda% (a_qS rfl (qAnd2 (fun _ h => h)) ?_ ?_))
      · simp; omega
      refine no_implicit_lambda% (awd ?_)
      ((with_reducible refine no_implicit_lambda% (is_aop ?_)); refine no_implicit_lambda% (a_loadSeqA (sz := 3) (rows := l.map trow) (i := m) (j := 0) rfl rfl rfl rfl rfl (tdOk l) ((by rw [List.getElem?_map, ht]; rfl)) (by first | decide | (simp; done)) rfl (by first | rfl | (simp; done) | (simp; omega)) ?_))
      repeat' (first | (refine no_implicit_lambda% (awd1 ?_)) | (((with_reducible refine no_implicit_lambda% (is_aops ?_)); refine no_implicit_lambda% (o_split rfl rfl rfl (fun hc => ?_) (fun hc => ?_)) <;> first | (exfalso; (simp only [decide_eq_true_eq, decide_eq_false_iff_not, beq_iff_eq, beq_eq_false_iff_ne, bne_iff_ne, bne_eq_false_iff_eq, List.length_map, Int.not_lt, Int.not_le] at hc); omega) | rw [hc])) | (((with_reducible refine no_implicit_lambda% (is_cond ?_)); refine no_implicit_lambda% (c_cond rfl (fun hc => ?_) (fun hc => ?_)) <;> first | (exfalso; (simp only [decide_eq_true_eq, decide_eq_false_iff_not, beq_iff_eq, beq_eq_false_iff_ne, bne_iff_ne, bne_eq_false_iff_eq, List.length_map, Int.not_lt, Int.not_le] at hc); omega) | skip)) | (((with_reducible refine no_implicit_lambda% (is_aop ?_)); refine no_implicit_lambda% (a_pick rfl rfl (fun hc => ?_) (fun hc => ?_)) <;> first | (exfalso; (simp only [decide_eq_true_eq, decide_eq_false_iff_not, beq_iff_eq, beq_eq_false_iff_ne, bne_iff_ne, bne_eq_false_iff_eq, List.length_map, Int.not_lt, Int.not_le] at hc); omega) | rw [hc])) | ((with_reducible refine no_implicit_lambda% (ret1 ?_)); first | (refine no_implicit_lambda% (akc ?_)) | (refine no_implicit_lambda% (aec ?_))) | (with_reducible exact retN) | (with_reducible exact retP) | (refine no_implicit_lambda% (cal [] (findf_c t c) ?_ ?_)) | fail)
      · have hq := of_decide_eq_true hc
        have hq2 : t.c < c := by unfold cmpI at hq; split at hq; omega; split at hq <;> omega
        rw [show IntKind.i64.wrap ((m : Int) + 1) = ((m + 1 : Nat) : Int) by rw [IntKind.wrap_i64]; omega]
        (refine no_implicit_lambda% (k_loopT (((m + 1, hi) : Nat × Nat)) (by show m + 1 ≤ hi ∧ hi ≤ l.length ∧ m + 1 ≤ kpos (tkeys l) c ∧ kpos (tkeys l) c ≤ hi; have := hlt2.2 hq2; omega) (by first | omega | (simp; done) | (simp; omega)) ?_ ?_)); (focus ((unfold bsSt); (try dsimp only); (repeat' (first | (with_reducible exact .nil) | (refine no_implicit_lambda% (.cons ?_ ?_)) | (exact Wk.dead _) | (with_reducible exact Wk.refl _) | (exact WkL.nil))) <;> (first | (exact Wk.eq rfl) | (exact Wk.dead _) | (exact Wk.free _ _) | (exact Wk.lit _) | (refine no_implicit_lambda% (WkR.eq ?_); simp; done) | (refine no_implicit_lambda% (Wk.rows ?_ _); ((repeat' (first | (with_reducible exact LDR.nil) | (with_reducible exact LDL.nil) | (refine no_implicit_lambda% (LDR.cons ?_ ?_)) | (refine no_implicit_lambda% (LDL.cons ?_ ?_)) | (exact LeD.refl _) | (exact LeD.free _ _) | (exact LDR.nil) | (exact LDL.nil)))); done) | (exact Wk.rows (ldr_rep _) _) | (refine no_implicit_lambda% (Wk.eq ?_); rw [List.map_append]; rfl) | ((refine no_implicit_lambda% (Wk.int (Eq.trans (z64 ?_ ?_) ?_))) <;> omega) | (refine no_implicit_lambda% (Wk.int ?_); simp; done) | (refine no_implicit_lambda% (Wk.int ?_); simp; omega) | (refine no_implicit_lambda% (Wk.eq ?_); simp; done)))); (focus ((unfold bsSt); (try dsimp only); (repeat' (first | (with_reducible exact WkH.nil) | (refine no_implicit_lambda% (WkH.cons ?_ ?_)) | (exact WkR.refl _) | (refine no_implicit_lambda% (WkR.box _ ?_)) | (refine no_implicit_lambda% (WkR.eq ?_); simp; done) | (exact WkH.nil))) <;> ((repeat' (first | (with_reducible exact .nil) | (refine no_implicit_lambda% (.cons ?_ ?_)) | (exact Wk.dead _) | (with_reducible exact Wk.refl _) | (exact WkL.nil))) <;> (first | (exact Wk.eq rfl) | (exact Wk.dead _) | (exact Wk.free _ _) | (exact Wk.lit _) | (refine no_implicit_lambda% (WkR.eq ?_); simp; done) | (refine no_implicit_lambda% (Wk.rows ?_ _); ((repeat' (first | (with_reducible exact LDR.nil) | (with_reducible exact LDL.nil) | (refine no_implicit_lambda% (LDR.cons ?_ ?_)) | (refine no_implicit_lambda% (LDL.cons ?_ ?_)) | (exact LeD.refl _) | (exact LeD.free _ _) | (exact LDR.nil) | (exact LDL.nil)))); done) | (exact Wk.rows (ldr_rep _) _) | (refine no_implicit_lambda% (Wk.eq ?_); rw [List.map_append]; rfl) | ((refine no_implicit_lambda% (Wk.int (Eq.trans (z64 ?_ ?_) ?_))) <;> omega) | (refine no_implicit_lambda% (Wk.int ?_); simp; done) | (refine no_implicit_lambda% (Wk.int ?_); simp; omega) | (refine no_implicit_lambda% (Wk.eq ?_); simp; done)))))
      · have hq := of_decide_eq_false hc
        have hq2 : ¬ t.c < c := by intro h; apply hq; unfold cmpI; rw [if_pos h]; decide
        (refine no_implicit_lambda% (k_loopT (((lo, m) : Nat × Nat)) (by show lo ≤ m ∧ m ≤ l.length ∧ lo ≤ kpos (tkeys l) c ∧ kpos (tkeys l) c ≤ m; have := mt hlt2.1 hq2; omega) (by first | omega | (simp; done) | (simp; omega)) ?_ ?_)); (focus ((unfold bsSt); (try dsimp only); (repeat' (first | (with_reducible exact .nil) | (refine no_implicit_lambda% (.cons ?_ ?_)) | (exact Wk.dead _) | (with_reducible exact Wk.refl _) | (exact WkL.nil))) <;> (first | (exact Wk.eq rfl) | (exact Wk.dead _) | (exact Wk.free _ _) | (exact Wk.lit _) | (refine no_implicit_lambda% (WkR.eq ?_); simp; done) | (refine no_implicit_lambda% (Wk.rows ?_ _); ((repeat' (first | (with_reducible exact LDR.nil) | (with_reducible exact LDL.nil) | (refine no_implicit_lambda% (LDR.cons ?_ ?_)) | (refine no_implicit_lambda% (LDL.cons ?_ ?_)) | (exact LeD.refl _) | (exact LeD.free _ _) | (exact LDR.nil) | (exact LDL.nil)))); done) | (exact Wk.rows (ldr_rep _) _) | (refine no_implicit_lambda% (Wk.eq ?_); rw [List.map_append]; rfl) | ((refine no_implicit_lambda% (Wk.int (Eq.trans (z64 ?_ ?_) ?_))) <;> omega) | (refine no_implicit_lambda% (Wk.int ?_); simp; done) | (refine no_implicit_lambda% (Wk.int ?_); simp; omega) | (refine no_implicit_lambda% (Wk.eq ?_); simp; done)))); (focus ((unfold bsSt); (try dsimp only); (repeat' (first | (with_reducible exact WkH.nil) | (refine no_implicit_lambda% (WkH.cons ?_ ?_)) | (exact WkR.refl _) | (refine no_implicit_lambda% (WkR.box _ ?_)) | (refine no_implicit_lambda% (WkR.eq ?_); simp; done) | (exact WkH.nil))) <;> ((repeat' (first | (with_reducible exact .nil) | (refine no_implicit_lambda% (.cons ?_ ?_)) | (exact Wk.dead _) | (with_reducible exact Wk.refl _) | (exact WkL.nil))) <;> (first | (exact Wk.eq rfl) | (exact Wk.dead _) | (exact Wk.free _ _) | (exact Wk.lit _) | (refine no_implicit_lambda% (WkR.eq ?_); simp; done) | (refine no_implicit_lambda% (Wk.rows ?_ _); ((repeat' (first | (with_reducible exact LDR.nil) | (with_reducible exact LDL.nil) | (refine no_implicit_lambda% (LDR.cons ?_ ?_)) | (refine no_implicit_lambda% (LDL.cons ?_ ?_)) | (exact LeD.refl _) | (exact LeD.free _ _) | (exact LDR.nil) | (exact LDL.nil)))); done) | (exact Wk.rows (ldr_rep _) _) | (refine no_implicit_lambda% (Wk.eq ?_); rw [List.map_append]; rfl) | ((refine no_implicit_lambda% (Wk.int (Eq.trans (z64 ?_ ?_) ?_))) <;> omega) | (refine no_implicit_lambda% (Wk.int ?_); simp; done) | (refine no_implicit_lambda% (Wk.int ?_); simp; omega) | (refine no_implicit_lambda% (Wk.eq ?_); simp; done)))))
    · have hlt : lo < l.length := by simp at hc; omega
      have he : lo = hi := by rename_i hc0; have := of_decide_eq_false hc0; omega
      subst he
      have he : lo = kpos (tkeys l) c := by omega
      obtain ⟨t, ht⟩ : ∃ t, l[lo]? = some t := ⟨_, List.getElem?_eq_getElem hlt⟩
      have hk : (tkeys l)[lo]? = some t.c := by unfold tkeys; rw [List.getElem?_map, ht]; rfl
      have hlt2 := kpos_lt (c := c) hs hk
      (with_reducible refine no_implicit_lambda% (is_aop ?_)); first | (refine no_implicit_lambda% (a_qS rfl (fun _ h => h) ?_ ?_)) | (refine no_implicit_lambda% (a_qS rfl (qIx (fun _ h => h)) ?_ ?_)) | (refine no_implicit_lambda% (a_qS rfl (qAnd5 (fun _ h => h)) ?_ ?_)) | (refine no_implicit_lambda% (a_qS rfl (qStr (fun _ h => h)) ?_ ?_)) | (refine no_implicit_lambda% (a_qS rfl (qAnd4 (fun _ h => h)) ?_ ?_)) | (refine no_implicit_lambda% (a_qS rfl (qAnd2 (fun _ h => h)) ?_ ?_))
      · simp; omega
      refine no_implicit_lambda% (awd ?_)
      ((with_reducible refine no_implicit_lambda% (is_aop ?_)); refine no_implicit_lambda% (a_loadSeqA (sz := 3) (rows := l.map trow) (i := lo) (j := 0) rfl rfl rfl rfl rfl (tdOk l) ((by rw [List.getElem?_map, ht]; rfl)) (by first | decide | (simp; done)) rfl (by first | rfl | (simp; done) | (simp; omega)) ?_))
      repeat' (first | (refine no_implicit_lambda% (awd1 ?_)) | (((with_reducible refine no_implicit_lambda% (is_aops ?_)); refine no_implicit_lambda% (o_split rfl rfl rfl (fun hc => ?_) (fun hc => ?_)) <;> first | (exfalso; (simp only [decide_eq_true_eq, decide_eq_false_iff_not, beq_iff_eq, beq_eq_false_iff_ne, bne_iff_ne, bne_eq_false_iff_eq, List.length_map, Int.not_lt, Int.not_le] at hc); omega) | rw [hc])) | (((with_reducible refine no_implicit_lambda% (is_cond ?_)); refine no_implicit_lambda% (c_cond rfl (fun hc => ?_) (fun hc => ?_)) <;> first | (exfalso; (simp only [decide_eq_true_eq, decide_eq_false_iff_not, beq_iff_eq, beq_eq_false_iff_ne, bne_iff_ne, bne_eq_false_iff_eq, List.length_map, Int.not_lt, Int.not_le] at hc); omega) | skip)) | (((with_reducible refine no_implicit_lambda% (is_aop ?_)); refine no_implicit_lambda% (a_pick rfl rfl (fun hc => ?_) (fun hc => ?_)) <;> first | (exfalso; (simp only [decide_eq_true_eq, decide_eq_false_iff_not, beq_iff_eq, beq_eq_false_iff_ne, bne_iff_ne, bne_eq_false_iff_eq, List.length_map, Int.not_lt, Int.not_le] at hc); omega) | rw [hc])) | ((with_reducible refine no_implicit_lambda% (ret1 ?_)); first | (refine no_implicit_lambda% (akc ?_)) | (refine no_implicit_lambda% (aec ?_))) | (with_reducible exact retN) | (with_reducible exact retP) | (refine no_implicit_lambda% (cal [] (findf_c t c) ?_ ?_)) | fail)
      rw [← he, hk]
      refine e_ret (H' := _) (rest := []) rfl ⟨congrArg (fun z => AOut.ret (.tuple [.v (.int .i64 (lo : Int)), .v (.bool z)])) ?_, rfl⟩ (.of_eq (by simp)) (Nat.le_of_ble_eq_true rfl)
      rw [← he] at hlt2
      have : ¬ t.c < c := by simpa using hlt2
      unfold cmpI
      rw [if_neg this]
      split <;> simp <;> omega
    · have hlt : ¬ lo < l.length := by simp at hc; omega
      have he : lo = hi := by rename_i hc0; have := of_decide_eq_false hc0; omega
      subst he
      have he : lo = kpos (tkeys l) c := by omega
      have hk : (tkeys l)[lo]? = none := by unfold tkeys; rw [List.getElem?_eq_none]; simp; omega
      rw [← he, hk]
      exact e_ret (H' := _) (rest := []) rfl ⟨rfl, rfl⟩ (.of_eq (by simp)) (Nat.le_of_ble_eq_true rfl)
end Go.Proofs.Ytabhfccfohpkaaa
