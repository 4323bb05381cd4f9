/- vote: the document's Vote. -/
import Derived.Test.YtabhfccfohpkaaaVoN
namespace Go.Proofs.Ytabhfccfohpkaaa
open Go.Am
set_option linter.unusedSimpArgs false
set_option linter.unusedVariables false
set_option maxRecDepth 100000
def lows (l : List Td) (c : Int) : List Td := l.filter (fun t => decide (t.c < c))
def highs (l : List Td) (c : Int) : List Td := l.filter (fun t => decide (c < t.c))
theorem putL_eq {l : List Td} (hs : (tkeys l).Pairwise (· < ·)) (x : Td) : putL l x = lows l x.c ++ x :: highs l x.c := by
  have hle := kpos_le (tkeys l) x.c
  have hln : (tkeys l).length = l.length := List.length_map ..
  have hk : ∀ i t, l[i]? = some t → (i < kpos (tkeys l) x.c ↔ t.c < x.c) := fun i t h => kpos_lt hs (by unfold tkeys; rw [List.getElem?_map, h]; rfl)
  have hpw : l.Pairwise (fun a b => a.c < b.c) := List.Pairwise.of_map (fun t : Td => t.c) (fun a b h => h) hs
  have hkey : (tkeys l)[kpos (tkeys l) x.c]? = (l[kpos (tkeys l) x.c]?).map (·.c) := by
    conv => lhs; rw [show tkeys l = l.map (·.c) from rfl, List.getElem?_map]
    rfl
  unfold putL
  rw [hkey]
  generalize kpos (tkeys l) x.c = p at *
  have hlow : lows l x.c = l.take p := by
    unfold lows
    conv => lhs; rw [← List.take_append_drop p l, List.filter_append]
    rw [List.filter_eq_self.2, List.filter_eq_nil_iff.2, List.append_nil]
    · intro t ht
      obtain ⟨i, hi⟩ := List.getElem?_of_mem ht
      rw [List.getElem?_drop] at hi
      have := hk _ _ hi
      simp; omega
    · intro t ht
      obtain ⟨i, hi⟩ := List.getElem?_of_mem ht
      rw [List.getElem?_take] at hi
      split at hi
      · have := hk _ _ hi
        simp; omega
      · cases hi
  have hhigh0 : highs l x.c = (l.drop p).filter (fun t => decide (x.c < t.c)) := by
    unfold highs
    conv => lhs; rw [← List.take_append_drop p l, List.filter_append]
    rw [List.filter_eq_nil_iff.2, List.nil_append]
    intro t ht
    obtain ⟨i, hi⟩ := List.getElem?_of_mem ht
    rw [List.getElem?_take] at hi
    split at hi
    · have := hk _ _ hi
      simp; omega
    · cases hi
  rw [hlow, hhigh0]
  cases hq : l[p]? with
  | none =>
    have hp : l.length ≤ p := List.getElem?_eq_none_iff.1 hq
    rw [if_neg (by simp)]
    unfold insAt
    rw [List.drop_eq_nil_of_le hp]; rfl
  | some t =>
    obtain ⟨hlt, hget⟩ := List.getElem?_eq_some_iff.1 hq
    have hge : x.c ≤ t.c := by have := hk p t hq; omega
    have hd : l.drop p = t :: l.drop (p + 1) := by rw [← hget, List.getElem_cons_drop]
    have hgt : ∀ u ∈ l.drop (p + 1), t.c < u.c := by
      have h1 := hpw
      rw [← List.take_append_drop p l, List.pairwise_append, hd, List.pairwise_cons] at h1
      exact h1.2.1.1
    have hf : (l.drop (p + 1)).filter (fun t => decide (x.c < t.c)) = l.drop (p + 1) := by
      rw [List.filter_eq_self]
      intro u hu
      have := hgt u hu
      simp; omega
    by_cases he : t.c = x.c
    · rw [if_pos (by simp [he]), hd, List.filter_cons_of_neg (by simp; omega), hf, List.set_eq_take_append_cons_drop, if_pos hlt]
    · rw [if_neg (by simp [he]), hd, List.filter_cons_of_pos (by simp; omega), hf]
      unfold insAt
      rw [hd]
theorem lows_snoc (l : List Td) (t : Td) (c : Int) : lows (l ++ [t]) c = lows l c ++ (if t.c < c then [t] else []) := by
  unfold lows
  rw [List.filter_append]
  congr 1
  by_cases h : t.c < c <;> simp [h]
theorem highs_snoc (l : List Td) (t : Td) (c : Int) : highs (l ++ [t]) c = highs l c ++ (if c < t.c then [t] else []) := by
  unfold highs
  rw [List.filter_append]
  congr 1
  by_cases h : c < t.c <;> simp [h]
theorem lows_highs (l : List Td) (c : Int) : (lows l c).length + (highs l c).length ≤ l.length := by
  induction l with
  | nil => simp [lows, highs]
  | cons t l ih =>
    unfold lows highs at *
    rw [List.filter_cons, List.filter_cons]
    by_cases h1 : t.c < c
    · rw [if_pos (by simpa using h1), if_neg (by simp; omega)]
      simp only [List.length_cons]; omega
    · rw [if_neg (by simpa using h1)]
      split <;> simp only [List.length_cons] <;> omega
def rvtSt (A : Ac) (x : Td) (out : List Td) (done : Bool) (i : Nat) : ASt := ⟨([.ptr 0 0, .dead, .v (.int .i64 x.c)] ++ List.replicate 6 .dead ++ [.list (out.map trow) (.tok 3), .v (.bool done), .ptr 2 0, .v (.int .i64 i)] ++ List.replicate 103 .dead), mP 0 ⟨x.s, A.l, A.base, A.st⟩ ++ [(2, .box (trow x)), (3, .tok 3 out.length)], 4⟩
set_option maxHeartbeats 3200000 in
theorem rvote_c (A : Ac) (x : Td) (hA : AcOk A) (hb : x.b.length < 1000000000) : ACalls Try.prog 74 1 60 [.ptr 0 0, .v (.int .i64 x.s), .v (.int .i64 x.c), .list (x.b.map brow) .free] (mP 0 A) (fun out H' => out = .ret (.v (.bool (voteB A x))) ∧ H' = mP 0 (A.vote x)) := by
  have hl := hA.len
  have hbs := hA.base
  have hpp := hA.p
  have hw : IntKind.i64.wrap (A.base + 8) = A.base + 8 := z64 (by omega) (by omega)
  refine no_implicit_lambda% (acalls_of tok dok (f := 74) ⟨Try.func74, rfl, by kernel_rfl⟩ ?_); refine no_implicit_lambda% (c_start (fun _ h => h) ?_)
  repeat' (first | (refine no_implicit_lambda% (awd1 ?_)) | (((with_reducible refine no_implicit_lambda% (is_aops ?_)); refine no_implicit_lambda% (o_split rfl rfl rfl (fun hc => ?_) (fun hc => ?_)) <;> first | (exfalso; (simp only [decide_eq_true_eq, decide_eq_false_iff_not, beq_iff_eq, beq_eq_false_iff_ne, bne_iff_ne, bne_eq_false_iff_eq, List.length_map, Int.not_lt, Int.not_le] at hc); omega) | rw [hc])) | (((with_reducible refine no_implicit_lambda% (is_cond ?_)); refine no_implicit_lambda% (c_cond rfl (fun hc => ?_) (fun hc => ?_)) <;> first | (exfalso; (simp only [decide_eq_true_eq, decide_eq_false_iff_not, beq_iff_eq, beq_eq_false_iff_ne, bne_iff_ne, bne_eq_false_iff_eq, List.length_map, Int.not_lt, Int.not_le] at hc); omega) | skip)) | (((with_reducible refine no_implicit_lambda% (is_aop ?_)); refine no_implicit_lambda% (a_pick rfl rfl (fun hc => ?_) (fun hc => ?_)) <;> first | (exfalso; (simp only [decide_eq_true_eq, decide_eq_false_iff_not, beq_iff_eq, beq_eq_false_iff_ne, bne_iff_ne, bne_eq_false_iff_eq, List.length_map, Int.not_lt, Int.not_le] at hc); omega) | rw [hc])) | ((with_reducible refine no_implicit_lambda% (ret1 ?_)); first | (refine no_implicit_lambda% (akc ?_)) | (refine no_implicit_lambda% (aec ?_))) | (with_reducible exact retN) | (with_reducible exact retP) | fail | fail)
  iterate 6
    · have hn : voteB A x = false := by
        simp only [hw, decide_eq_true_eq, decide_eq_false_iff_not, List.length_map] at hc
        unfold voteB inB
        rw [← Bool.decide_and]
        exact decide_eq_false (by omega)
      have hv : A.vote x = A := by unfold Ac.vote; rw [hn]; rfl
      rw [hn, hv]
      exact e_ret (H' := mP 0 A) (rest := []) rfl ⟨rfl, rfl⟩ permT (Nat.le_of_ble_eq_true rfl)
  have hn : voteB A x = true := by
    unfold voteB inB
    rw [← Bool.decide_and]
    simp only [hw, decide_eq_true_eq, decide_eq_false_iff_not, List.length_map] at *
    omega
  have hv : A.vote x = ⟨x.s, lows A.l x.c ++ x :: highs A.l x.c, A.base, A.st⟩ := by
    unfold Ac.vote
    rw [hn, ← putL_eq hA.sorted]; rfl
  rw [hn, hv]
  have hpw : A.l.Pairwise (fun a b => a.c < b.c) := List.Pairwise.of_map (fun t : Td => t.c) (fun a b h => h) hA.sorted
  refine c_l3 (rvtSt A x) (fun out done i => i ≤ A.l.length ∧ out.length ≤ 9 ∧ (done = false → out = A.l.take i ∧ lows (A.l.take i) x.c = A.l.take i ∧ highs (A.l.take i) x.c = []) ∧ (done = true → out = lows (A.l.take i) x.c ++ x :: highs (A.l.take i) x.c ∧ ∃ u ∈ A.l.take i, x.c ≤ u.c)) (fun _ _ i => A.l.length - i) [] false 0 ⟨Nat.zero_le _, by simp, fun _ => ⟨rfl, rfl, rfl⟩, fun h => by cases h⟩ ((Conv.tokSlot (j := 9) (sz := 3) (rows := []) rfl (by simp)).trans ?_) ?_
  · (refine no_implicit_lambda% (Conv.toT ?_ ?_ (Nat.le_of_ble_eq_true rfl))); (focus ((unfold rvtSt); (try dsimp only); (repeat' (first | (with_reducible exact .nil) | (refine no_implicit_lambda% (.cons ?_ ?_)) | (exact Wk.dead _) | (with_reducible exact Wk.refl _) | (exact WkL.nil))) <;> (first | (exact Wk.eq rfl) | (exact Wk.dead _) | (exact Wk.free _ _) | (exact Wk.lit _) | (refine no_implicit_lambda% (WkR.eq ?_); simp; done) | (refine no_implicit_lambda% (Wk.rows ?_ _); ((repeat' (first | (with_reducible exact LDR.nil) | (with_reducible exact LDL.nil) | (refine no_implicit_lambda% (LDR.cons ?_ ?_)) | (refine no_implicit_lambda% (LDL.cons ?_ ?_)) | (exact LeD.refl _) | (exact LeD.free _ _) | (exact LDR.nil) | (exact LDL.nil)))); done) | (exact Wk.rows (ldr_rep _) _) | (refine no_implicit_lambda% (Wk.eq ?_); rw [List.map_append]; rfl) | ((refine no_implicit_lambda% (Wk.int (Eq.trans (z64 ?_ ?_) ?_))) <;> omega) | (refine no_implicit_lambda% (Wk.int ?_); simp; done) | (refine no_implicit_lambda% (Wk.int ?_); simp; omega) | (refine no_implicit_lambda% (Wk.eq ?_); simp; done)))); (focus ((unfold rvtSt); (try dsimp only); (repeat' (first | (with_reducible exact WkH.nil) | (refine no_implicit_lambda% (WkH.cons ?_ ?_)) | (exact WkR.refl _) | (refine no_implicit_lambda% (WkR.box _ ?_)) | (refine no_implicit_lambda% (WkR.eq ?_); simp; done) | (exact WkH.nil))) <;> ((repeat' (first | (with_reducible exact .nil) | (refine no_implicit_lambda% (.cons ?_ ?_)) | (exact Wk.dead _) | (with_reducible exact Wk.refl _) | (exact WkL.nil))) <;> (first | (exact Wk.eq rfl) | (exact Wk.dead _) | (exact Wk.free _ _) | (exact Wk.lit _) | (refine no_implicit_lambda% (WkR.eq ?_); simp; done) | (refine no_implicit_lambda% (Wk.rows ?_ _); ((repeat' (first | (with_reducible exact LDR.nil) | (with_reducible exact LDL.nil) | (refine no_implicit_lambda% (LDR.cons ?_ ?_)) | (refine no_implicit_lambda% (LDL.cons ?_ ?_)) | (exact LeD.refl _) | (exact LeD.free _ _) | (exact LDR.nil) | (exact LDL.nil)))); done) | (exact Wk.rows (ldr_rep _) _) | (refine no_implicit_lambda% (Wk.eq ?_); rw [List.map_append]; rfl) | ((refine no_implicit_lambda% (Wk.int (Eq.trans (z64 ?_ ?_) ?_))) <;> omega) | (refine no_implicit_lambda% (Wk.int ?_); simp; done) | (refine no_implicit_lambda% (Wk.int ?_); simp; omega) | (refine no_implicit_lambda% (Wk.eq ?_); simp; done)))))
  · rintro out done i ⟨i1, i2, i3, i4⟩
    refine c_turn (n' := 4) (fun _ h => h) (fun _ h => h) rfl ?_
    rcases ht : A.l[i]? with _ | t
    · have hi : i = A.l.length := by have := List.getElem?_eq_none_iff.1 ht; omega
      subst hi
      rw [List.take_length] at i3 i4
      cases done
      · obtain ⟨e1, e2, e3⟩ := i3 rfl
        subst e1
        rw [e2, e3]
        repeat' (first | (refine no_implicit_lambda% (awd1 ?_)) | (((with_reducible refine no_implicit_lambda% (is_aops ?_)); refine no_implicit_lambda% (o_split rfl rfl rfl (fun hc => ?_) (fun hc => ?_)) <;> first | (exfalso; (simp only [decide_eq_true_eq, decide_eq_false_iff_not, beq_iff_eq, beq_eq_false_iff_ne, bne_iff_ne, bne_eq_false_iff_eq, List.length_map, Int.not_lt, Int.not_le] at hc); omega) | rw [hc])) | (((with_reducible refine no_implicit_lambda% (is_cond ?_)); refine no_implicit_lambda% (c_cond rfl (fun hc => ?_) (fun hc => ?_)) <;> first | (exfalso; (simp only [decide_eq_true_eq, decide_eq_false_iff_not, beq_iff_eq, beq_eq_false_iff_ne, bne_iff_ne, bne_eq_false_iff_eq, List.length_map, Int.not_lt, Int.not_le] at hc); omega) | skip)) | (((with_reducible refine no_implicit_lambda% (is_aop ?_)); refine no_implicit_lambda% (a_pick rfl rfl (fun hc => ?_) (fun hc => ?_)) <;> first | (exfalso; (simp only [decide_eq_true_eq, decide_eq_false_iff_not, beq_iff_eq, beq_eq_false_iff_ne, bne_iff_ne, bne_eq_false_iff_eq, List.length_map, Int.not_lt, Int.not_le] at hc); omega) | rw [hc])) | ((with_reducible refine no_implicit_lambda% (ret1 ?_)); first | (refine no_implicit_lambda% (akc ?_)) | (refine no_implicit_lambda% (aec ?_))) | (with_reducible exact retN) | (with_reducible exact retP) | fail | fail)
        rw [show A.l.map trow ++ [[AV.v (.int .i64 x.c), .v (.int .i64 x.s), .list (x.b.map brow) .free]] = (A.l ++ [x]).map trow by rw [List.map_append]; rfl]
        refine e_ret_to (H' := mP 0 ⟨x.s, A.l ++ [x], A.base, A.st⟩) (rest := []) (Conv.toT (τ := ⟨_, mP 0 ⟨x.s, A.l ++ [x], A.base, A.st⟩, _⟩) (.refl _) ?_ (Nat.le_refl _)) rfl ⟨rfl, rfl⟩ (.of_eq (by simp)) (Nat.le_of_ble_eq_true rfl)
        unfold mP
        (repeat' (first | (with_reducible exact WkH.nil) | (refine no_implicit_lambda% (WkH.cons ?_ ?_)) | (exact WkR.refl _) | (refine no_implicit_lambda% (WkR.box _ ?_)) | (refine no_implicit_lambda% (WkR.eq ?_); simp; done) | (exact WkH.nil))) <;> ((repeat' (first | (with_reducible exact .nil) | (refine no_implicit_lambda% (.cons ?_ ?_)) | (exact Wk.dead _) | (with_reducible exact Wk.refl _) | (exact WkL.nil))) <;> (first | (exact Wk.eq rfl) | (exact Wk.dead _) | (exact Wk.free _ _) | (exact Wk.lit _) | (refine no_implicit_lambda% (WkR.eq ?_); simp; done) | (refine no_implicit_lambda% (Wk.rows ?_ _); ((repeat' (first | (with_reducible exact LDR.nil) | (with_reducible exact LDL.nil) | (refine no_implicit_lambda% (LDR.cons ?_ ?_)) | (refine no_implicit_lambda% (LDL.cons ?_ ?_)) | (exact LeD.refl _) | (exact LeD.free _ _) | (exact LDR.nil) | (exact LDL.nil)))); done) | (exact Wk.rows (ldr_rep _) _) | (refine no_implicit_lambda% (Wk.eq ?_); rw [List.map_append]; rfl) | ((refine no_implicit_lambda% (Wk.int (Eq.trans (z64 ?_ ?_) ?_))) <;> omega) | (refine no_implicit_lambda% (Wk.int ?_); simp; done) | (refine no_implicit_lambda% (Wk.int ?_); simp; omega) | (refine no_implicit_lambda% (Wk.eq ?_); simp; done)))
      · obtain ⟨e1, _⟩ := i4 rfl
        rw [← e1]
        repeat' (first | (refine no_implicit_lambda% (awd1 ?_)) | (((with_reducible refine no_implicit_lambda% (is_aops ?_)); refine no_implicit_lambda% (o_split rfl rfl rfl (fun hc => ?_) (fun hc => ?_)) <;> first | (exfalso; (simp only [decide_eq_true_eq, decide_eq_false_iff_not, beq_iff_eq, beq_eq_false_iff_ne, bne_iff_ne, bne_eq_false_iff_eq, List.length_map, Int.not_lt, Int.not_le] at hc); omega) | rw [hc])) | (((with_reducible refine no_implicit_lambda% (is_cond ?_)); refine no_implicit_lambda% (c_cond rfl (fun hc => ?_) (fun hc => ?_)) <;> first | (exfalso; (simp only [decide_eq_true_eq, decide_eq_false_iff_not, beq_iff_eq, beq_eq_false_iff_ne, bne_iff_ne, bne_eq_false_iff_eq, List.length_map, Int.not_lt, Int.not_le] at hc); omega) | skip)) | (((with_reducible refine no_implicit_lambda% (is_aop ?_)); refine no_implicit_lambda% (a_pick rfl rfl (fun hc => ?_) (fun hc => ?_)) <;> first | (exfalso; (simp only [decide_eq_true_eq, decide_eq_false_iff_not, beq_iff_eq, beq_eq_false_iff_ne, bne_iff_ne, bne_eq_false_iff_eq, List.length_map, Int.not_lt, Int.not_le] at hc); omega) | rw [hc])) | ((with_reducible refine no_implicit_lambda% (ret1 ?_)); first | (refine no_implicit_lambda% (akc ?_)) | (refine no_implicit_lambda% (aec ?_))) | (with_reducible exact retN) | (with_reducible exact retP) | fail | fail)
        refine e_ret_to (H' := mP 0 ⟨x.s, out, A.base, A.st⟩) (rest := []) (Conv.toT (τ := ⟨_, mP 0 ⟨x.s, out, A.base, A.st⟩, _⟩) (.refl _) ?_ (Nat.le_refl _)) rfl ⟨rfl, rfl⟩ (.of_eq (by simp)) (Nat.le_of_ble_eq_true rfl)
        unfold mP
        (repeat' (first | (with_reducible exact WkH.nil) | (refine no_implicit_lambda% (WkH.cons ?_ ?_)) | (exact WkR.refl _) | (refine no_implicit_lambda% (WkR.box _ ?_)) | (refine no_implicit_lambda% (WkR.eq ?_); simp; done) | (exact WkH.nil))) <;> ((repeat' (first | (with_reducible exact .nil) | (refine no_implicit_lambda% (.cons ?_ ?_)) | (exact Wk.dead _) | (with_reducible exact Wk.refl _) | (exact WkL.nil))) <;> (first | (exact Wk.eq rfl) | (exact Wk.dead _) | (exact Wk.free _ _) | (exact Wk.lit _) | (refine no_implicit_lambda% (WkR.eq ?_); simp; done) | (refine no_implicit_lambda% (Wk.rows ?_ _); ((repeat' (first | (with_reducible exact LDR.nil) | (with_reducible exact LDL.nil) | (refine no_implicit_lambda% (LDR.cons ?_ ?_)) | (refine no_implicit_lambda% (LDL.cons ?_ ?_)) | (exact LeD.refl _) | (exact LeD.free _ _) | (exact LDR.nil) | (exact LDL.nil)))); done) | (exact Wk.rows (ldr_rep _) _) | (refine no_implicit_lambda% (Wk.eq ?_); rw [List.map_append]; rfl) | ((refine no_implicit_lambda% (Wk.int (Eq.trans (z64 ?_ ?_) ?_))) <;> omega) | (refine no_implicit_lambda% (Wk.int ?_); simp; done) | (refine no_implicit_lambda% (Wk.int ?_); simp; omega) | (refine no_implicit_lambda% (Wk.eq ?_); simp; done)))
    · have hi : i < A.l.length := (List.getElem?_eq_some_iff.1 ht).1
      have hx := vdx ht
      have hts : A.l.take (i + 1) = A.l.take i ++ [t] := by rw [List.take_add_one, ht]; rfl
      have hls := lows_snoc (A.l.take i) t x.c
      have hhs := highs_snoc (A.l.take i) t x.c
      rw [← hts] at hls hhs
      have htl : (A.l.take i).length ≤ 8 := by rw [List.length_take]; omega
      cases done
      · obtain ⟨e1, e2, e3⟩ := i3 rfl
        rw [e2] at hls
        rw [e3, List.nil_append] at hhs
        rcases Int.lt_trichotomy t.c x.c with hlt | heq | hgt
        · rw [if_pos hlt, ← hts] at hls
          rw [if_neg (by omega)] at hhs
          repeat' (first | (refine no_implicit_lambda% (awd1 ?_)) | (((with_reducible refine no_implicit_lambda% (is_aops ?_)); refine no_implicit_lambda% (o_split rfl rfl rfl (fun hc => ?_) (fun hc => ?_)) <;> first | (exfalso; (simp only [decide_eq_true_eq, decide_eq_false_iff_not, beq_iff_eq, beq_eq_false_iff_ne, bne_iff_ne, bne_eq_false_iff_eq, List.length_map, Int.not_lt, Int.not_le] at hc); omega) | rw [hc])) | (((with_reducible refine no_implicit_lambda% (is_cond ?_)); refine no_implicit_lambda% (c_cond rfl (fun hc => ?_) (fun hc => ?_)) <;> first | (exfalso; (simp only [decide_eq_true_eq, decide_eq_false_iff_not, beq_iff_eq, beq_eq_false_iff_ne, bne_iff_ne, bne_eq_false_iff_eq, List.length_map, Int.not_lt, Int.not_le] at hc); omega) | skip)) | (((with_reducible refine no_implicit_lambda% (is_aop ?_)); refine no_implicit_lambda% (a_pick rfl rfl (fun hc => ?_) (fun hc => ?_)) <;> first | (exfalso; (simp only [decide_eq_true_eq, decide_eq_false_iff_not, beq_iff_eq, beq_eq_false_iff_ne, bne_iff_ne, bne_eq_false_iff_eq, List.length_map, Int.not_lt, Int.not_le] at hc); omega) | rw [hc])) | ((with_reducible refine no_implicit_lambda% (ret1 ?_)); first | (refine no_implicit_lambda% (akc ?_)) | (refine no_implicit_lambda% (aec ?_))) | (with_reducible exact retN) | (with_reducible exact retP) | fail | fail)
          (refine no_implicit_lambda% (k_loopT (((out ++ [t], false, i + 1) : List Td × Bool × Nat)) (by show i + 1 ≤ A.l.length ∧ (out ++ [t]).length ≤ 9 ∧ (false = false → out ++ [t] = A.l.take (i + 1) ∧ lows (A.l.take (i + 1)) x.c = A.l.take (i + 1) ∧ highs (A.l.take (i + 1)) x.c = []) ∧ (false = true → out ++ [t] = lows (A.l.take (i + 1)) x.c ++ x :: highs (A.l.take (i + 1)) x.c ∧ ∃ u ∈ A.l.take (i + 1), x.c ≤ u.c); exact ⟨hi, by rw [List.length_append, e1]; simp; omega, fun _ => ⟨by rw [hts, e1], hls, hhs⟩, fun h => by cases h⟩) (by first | omega | (simp; done) | (simp; omega)) ?_ ?_)); (focus ((unfold rvtSt); (try dsimp only); (repeat' (first | (with_reducible exact .nil) | (refine no_implicit_lambda% (.cons ?_ ?_)) | (exact Wk.dead _) | (with_reducible exact Wk.refl _) | (exact WkL.nil))) <;> (first | (exact Wk.eq rfl) | (exact Wk.dead _) | (exact Wk.free _ _) | (exact Wk.lit _) | (refine no_implicit_lambda% (WkR.eq ?_); simp; done) | (refine no_implicit_lambda% (Wk.rows ?_ _); ((repeat' (first | (with_reducible exact LDR.nil) | (with_reducible exact LDL.nil) | (refine no_implicit_lambda% (LDR.cons ?_ ?_)) | (refine no_implicit_lambda% (LDL.cons ?_ ?_)) | (exact LeD.refl _) | (exact LeD.free _ _) | (exact LDR.nil) | (exact LDL.nil)))); done) | (exact Wk.rows (ldr_rep _) _) | (refine no_implicit_lambda% (Wk.eq ?_); rw [List.map_append]; rfl) | ((refine no_implicit_lambda% (Wk.int (Eq.trans (z64 ?_ ?_) ?_))) <;> omega) | (refine no_implicit_lambda% (Wk.int ?_); simp; done) | (refine no_implicit_lambda% (Wk.int ?_); simp; omega) | (refine no_implicit_lambda% (Wk.eq ?_); simp; done)))); (focus ((unfold rvtSt); (try dsimp only); (repeat' (first | (with_reducible exact WkH.nil) | (refine no_implicit_lambda% (WkH.cons ?_ ?_)) | (exact WkR.refl _) | (refine no_implicit_lambda% (WkR.box _ ?_)) | (refine no_implicit_lambda% (WkR.eq ?_); simp; done) | (exact WkH.nil))) <;> ((repeat' (first | (with_reducible exact .nil) | (refine no_implicit_lambda% (.cons ?_ ?_)) | (exact Wk.dead _) | (with_reducible exact Wk.refl _) | (exact WkL.nil))) <;> (first | (exact Wk.eq rfl) | (exact Wk.dead _) | (exact Wk.free _ _) | (exact Wk.lit _) | (refine no_implicit_lambda% (WkR.eq ?_); simp; done) | (refine no_implicit_lambda% (Wk.rows ?_ _); ((repeat' (first | (with_reducible exact LDR.nil) | (with_reducible exact LDL.nil) | (refine no_implicit_lambda% (LDR.cons ?_ ?_)) | (refine no_implicit_lambda% (LDL.cons ?_ ?_)) | (exact LeD.refl _) | (exact LeD.free _ _) | (exact LDR.nil) | (exact LDL.nil)))); done) | (exact Wk.rows (ldr_rep _) _) | (refine no_implicit_lambda% (Wk.eq ?_); rw [List.map_append]; rfl) | ((refine no_implicit_lambda% (Wk.int (Eq.trans (z64 ?_ ?_) ?_))) <;> omega) | (refine no_implicit_lambda% (Wk.int ?_); simp; done) | (refine no_implicit_lambda% (Wk.int ?_); simp; omega) | (refine no_implicit_lambda% (Wk.eq ?_); simp; done)))))
        · rw [if_neg (by omega), List.append_nil] at hls
          rw [if_neg (by omega)] at hhs
          repeat' (first | (refine no_implicit_lambda% (awd1 ?_)) | (((with_reducible refine no_implicit_lambda% (is_aops ?_)); refine no_implicit_lambda% (o_split rfl rfl rfl (fun hc => ?_) (fun hc => ?_)) <;> first | (exfalso; (simp only [decide_eq_true_eq, decide_eq_false_iff_not, beq_iff_eq, beq_eq_false_iff_ne, bne_iff_ne, bne_eq_false_iff_eq, List.length_map, Int.not_lt, Int.not_le] at hc); omega) | rw [hc])) | (((with_reducible refine no_implicit_lambda% (is_cond ?_)); refine no_implicit_lambda% (c_cond rfl (fun hc => ?_) (fun hc => ?_)) <;> first | (exfalso; (simp only [decide_eq_true_eq, decide_eq_false_iff_not, beq_iff_eq, beq_eq_false_iff_ne, bne_iff_ne, bne_eq_false_iff_eq, List.length_map, Int.not_lt, Int.not_le] at hc); omega) | skip)) | (((with_reducible refine no_implicit_lambda% (is_aop ?_)); refine no_implicit_lambda% (a_pick rfl rfl (fun hc => ?_) (fun hc => ?_)) <;> first | (exfalso; (simp only [decide_eq_true_eq, decide_eq_false_iff_not, beq_iff_eq, beq_eq_false_iff_ne, bne_iff_ne, bne_eq_false_iff_eq, List.length_map, Int.not_lt, Int.not_le] at hc); omega) | rw [hc])) | ((with_reducible refine no_implicit_lambda% (ret1 ?_)); first | (refine no_implicit_lambda% (akc ?_)) | (refine no_implicit_lambda% (aec ?_))) | (with_reducible exact retN) | (with_reducible exact retP) | fail | fail)
          (refine no_implicit_lambda% (k_loopT (((out ++ [x], true, i + 1) : List Td × Bool × Nat)) (by show i + 1 ≤ A.l.length ∧ (out ++ [x]).length ≤ 9 ∧ (true = false → out ++ [x] = A.l.take (i + 1) ∧ lows (A.l.take (i + 1)) x.c = A.l.take (i + 1) ∧ highs (A.l.take (i + 1)) x.c = []) ∧ (true = true → out ++ [x] = lows (A.l.take (i + 1)) x.c ++ x :: highs (A.l.take (i + 1)) x.c ∧ ∃ u ∈ A.l.take (i + 1), x.c ≤ u.c); exact ⟨hi, by rw [List.length_append, e1]; simp; omega, (fun h => by cases h), fun _ => ⟨by rw [hls, hhs, e1], t, by rw [hts]; simp, by omega⟩⟩) (by first | omega | (simp; done) | (simp; omega)) ?_ ?_)); (focus ((unfold rvtSt); (try dsimp only); (repeat' (first | (with_reducible exact .nil) | (refine no_implicit_lambda% (.cons ?_ ?_)) | (exact Wk.dead _) | (with_reducible exact Wk.refl _) | (exact WkL.nil))) <;> (first | (exact Wk.eq rfl) | (exact Wk.dead _) | (exact Wk.free _ _) | (exact Wk.lit _) | (refine no_implicit_lambda% (WkR.eq ?_); simp; done) | (refine no_implicit_lambda% (Wk.rows ?_ _); ((repeat' (first | (with_reducible exact LDR.nil) | (with_reducible exact LDL.nil) | (refine no_implicit_lambda% (LDR.cons ?_ ?_)) | (refine no_implicit_lambda% (LDL.cons ?_ ?_)) | (exact LeD.refl _) | (exact LeD.free _ _) | (exact LDR.nil) | (exact LDL.nil)))); done) | (exact Wk.rows (ldr_rep _) _) | (refine no_implicit_lambda% (Wk.eq ?_); rw [List.map_append]; rfl) | ((refine no_implicit_lambda% (Wk.int (Eq.trans (z64 ?_ ?_) ?_))) <;> omega) | (refine no_implicit_lambda% (Wk.int ?_); simp; done) | (refine no_implicit_lambda% (Wk.int ?_); simp; omega) | (refine no_implicit_lambda% (Wk.eq ?_); simp; done)))); (focus ((unfold rvtSt); (try dsimp only); (repeat' (first | (with_reducible exact WkH.nil) | (refine no_implicit_lambda% (WkH.cons ?_ ?_)) | (exact WkR.refl _) | (refine no_implicit_lambda% (WkR.box _ ?_)) | (refine no_implicit_lambda% (WkR.eq ?_); simp; done) | (exact WkH.nil))) <;> ((repeat' (first | (with_reducible exact .nil) | (refine no_implicit_lambda% (.cons ?_ ?_)) | (exact Wk.dead _) | (with_reducible exact Wk.refl _) | (exact WkL.nil))) <;> (first | (exact Wk.eq rfl) | (exact Wk.dead _) | (exact Wk.free _ _) | (exact Wk.lit _) | (refine no_implicit_lambda% (WkR.eq ?_); simp; done) | (refine no_implicit_lambda% (Wk.rows ?_ _); ((repeat' (first | (with_reducible exact LDR.nil) | (with_reducible exact LDL.nil) | (refine no_implicit_lambda% (LDR.cons ?_ ?_)) | (refine no_implicit_lambda% (LDL.cons ?_ ?_)) | (exact LeD.refl _) | (exact LeD.free _ _) | (exact LDR.nil) | (exact LDL.nil)))); done) | (exact Wk.rows (ldr_rep _) _) | (refine no_implicit_lambda% (Wk.eq ?_); rw [List.map_append]; rfl) | ((refine no_implicit_lambda% (Wk.int (Eq.trans (z64 ?_ ?_) ?_))) <;> omega) | (refine no_implicit_lambda% (Wk.int ?_); simp; done) | (refine no_implicit_lambda% (Wk.int ?_); simp; omega) | (refine no_implicit_lambda% (Wk.eq ?_); simp; done)))))
        · rw [if_neg (by omega), List.append_nil] at hls
          rw [if_pos hgt] at hhs
          repeat' (first | (refine no_implicit_lambda% (awd1 ?_)) | (((with_reducible refine no_implicit_lambda% (is_aops ?_)); refine no_implicit_lambda% (o_split rfl rfl rfl (fun hc => ?_) (fun hc => ?_)) <;> first | (exfalso; (simp only [decide_eq_true_eq, decide_eq_false_iff_not, beq_iff_eq, beq_eq_false_iff_ne, bne_iff_ne, bne_eq_false_iff_eq, List.length_map, Int.not_lt, Int.not_le] at hc); omega) | rw [hc])) | (((with_reducible refine no_implicit_lambda% (is_cond ?_)); refine no_implicit_lambda% (c_cond rfl (fun hc => ?_) (fun hc => ?_)) <;> first | (exfalso; (simp only [decide_eq_true_eq, decide_eq_false_iff_not, beq_iff_eq, beq_eq_false_iff_ne, bne_iff_ne, bne_eq_false_iff_eq, List.length_map, Int.not_lt, Int.not_le] at hc); omega) | skip)) | (((with_reducible refine no_implicit_lambda% (is_aop ?_)); refine no_implicit_lambda% (a_pick rfl rfl (fun hc => ?_) (fun hc => ?_)) <;> first | (exfalso; (simp only [decide_eq_true_eq, decide_eq_false_iff_not, beq_iff_eq, beq_eq_false_iff_ne, bne_iff_ne, bne_eq_false_iff_eq, List.length_map, Int.not_lt, Int.not_le] at hc); omega) | rw [hc])) | ((with_reducible refine no_implicit_lambda% (ret1 ?_)); first | (refine no_implicit_lambda% (akc ?_)) | (refine no_implicit_lambda% (aec ?_))) | (with_reducible exact retN) | (with_reducible exact retP) | fail | fail)
          rw [show out.map trow ++ [[AV.v (.int .i64 x.c), .v (.int .i64 x.s), .list (x.b.map brow) .free]] ++ [[AV.v (.int .i64 t.c), .v (.int .i64 t.s), .list (t.b.map brow) .free]] = (out ++ [x] ++ [t]).map trow by rw [List.map_append, List.map_append]; rfl]
          (refine no_implicit_lambda% (k_loopT (((out ++ [x] ++ [t], true, i + 1) : List Td × Bool × Nat)) (by show i + 1 ≤ A.l.length ∧ (out ++ [x] ++ [t]).length ≤ 9 ∧ (true = false → out ++ [x] ++ [t] = A.l.take (i + 1) ∧ lows (A.l.take (i + 1)) x.c = A.l.take (i + 1) ∧ highs (A.l.take (i + 1)) x.c = []) ∧ (true = true → out ++ [x] ++ [t] = lows (A.l.take (i + 1)) x.c ++ x :: highs (A.l.take (i + 1)) x.c ∧ ∃ u ∈ A.l.take (i + 1), x.c ≤ u.c); exact ⟨hi, by rw [List.length_append, List.length_append, e1]; show (A.l.take i).length + 1 + 1 ≤ 9; rw [List.length_take]; omega, (fun h => by cases h), fun _ => ⟨by rw [hls, hhs, e1, List.append_assoc]; rfl, t, by rw [hts]; simp, by omega⟩⟩) (by first | omega | (simp; done) | (simp; omega)) ?_ ?_)); (focus ((unfold rvtSt); (try dsimp only); (repeat' (first | (with_reducible exact .nil) | (refine no_implicit_lambda% (.cons ?_ ?_)) | (exact Wk.dead _) | (with_reducible exact Wk.refl _) | (exact WkL.nil))) <;> (first | (exact Wk.eq rfl) | (exact Wk.dead _) | (exact Wk.free _ _) | (exact Wk.lit _) | (refine no_implicit_lambda% (WkR.eq ?_); simp; done) | (refine no_implicit_lambda% (Wk.rows ?_ _); ((repeat' (first | (with_reducible exact LDR.nil) | (with_reducible exact LDL.nil) | (refine no_implicit_lambda% (LDR.cons ?_ ?_)) | (refine no_implicit_lambda% (LDL.cons ?_ ?_)) | (exact LeD.refl _) | (exact LeD.free _ _) | (exact LDR.nil) | (exact LDL.nil)))); done) | (exact Wk.rows (ldr_rep _) _) | (refine no_implicit_lambda% (Wk.eq ?_); rw [List.map_append]; rfl) | ((refine no_implicit_lambda% (Wk.int (Eq.trans (z64 ?_ ?_) ?_))) <;> omega) | (refine no_implicit_lambda% (Wk.int ?_); simp; done) | (refine no_implicit_lambda% (Wk.int ?_); simp; omega) | (refine no_implicit_lambda% (Wk.eq ?_); simp; done)))); (focus ((unfold rvtSt); (try dsimp only); (repeat' (first | (with_reducible exact WkH.nil) | (refine no_implicit_lambda% (WkH.cons ?_ ?_)) | (exact WkR.refl _) | (refine no_implicit_lambda% (WkR.box _ ?_)) | (refine no_implicit_lambda% (WkR.eq ?_); simp; done) | (exact WkH.nil))) <;> ((repeat' (first | (with_reducible exact .nil) | (refine no_implicit_lambda% (.cons ?_ ?_)) | (exact Wk.dead _) | (with_reducible exact Wk.refl _) | (exact WkL.nil))) <;> (first | (exact Wk.eq rfl) | (exact Wk.dead _) | (exact Wk.free _ _) | (exact Wk.lit _) | (refine no_implicit_lambda% (WkR.eq ?_); simp; done) | (refine no_implicit_lambda% (Wk.rows ?_ _); ((repeat' (first | (with_reducible exact LDR.nil) | (with_reducible exact LDL.nil) | (refine no_implicit_lambda% (LDR.cons ?_ ?_)) | (refine no_implicit_lambda% (LDL.cons ?_ ?_)) | (exact LeD.refl _) | (exact LeD.free _ _) | (exact LDR.nil) | (exact LDL.nil)))); done) | (exact Wk.rows (ldr_rep _) _) | (refine no_implicit_lambda% (Wk.eq ?_); rw [List.map_append]; rfl) | ((refine no_implicit_lambda% (Wk.int (Eq.trans (z64 ?_ ?_) ?_))) <;> omega) | (refine no_implicit_lambda% (Wk.int ?_); simp; done) | (refine no_implicit_lambda% (Wk.int ?_); simp; omega) | (refine no_implicit_lambda% (Wk.eq ?_); simp; done)))))
      · obtain ⟨e1, u, hu, hxu⟩ := i4 rfl
        have hgt : x.c < t.c := by
          have h1 := hpw
          rw [← List.take_append_drop i A.l, List.pairwise_append] at h1
          have hd : t ∈ A.l.drop i := by
            obtain ⟨hlt', hget⟩ := List.getElem?_eq_some_iff.1 ht
            rw [List.drop_eq_getElem_cons hlt', hget]; simp
          have := h1.2.2 u hu t hd
          omega
        rw [if_neg (by omega), List.append_nil] at hls
        rw [if_pos hgt] at hhs
        have hlen : (lows (A.l.take i) x.c).length + (highs (A.l.take i) x.c).length ≤ i := Nat.le_trans (lows_highs _ _) (by rw [List.length_take]; omega)
        repeat' (first | (refine no_implicit_lambda% (awd1 ?_)) | (((with_reducible refine no_implicit_lambda% (is_aops ?_)); refine no_implicit_lambda% (o_split rfl rfl rfl (fun hc => ?_) (fun hc => ?_)) <;> first | (exfalso; (simp only [decide_eq_true_eq, decide_eq_false_iff_not, beq_iff_eq, beq_eq_false_iff_ne, bne_iff_ne, bne_eq_false_iff_eq, List.length_map, Int.not_lt, Int.not_le] at hc); omega) | rw [hc])) | (((with_reducible refine no_implicit_lambda% (is_cond ?_)); refine no_implicit_lambda% (c_cond rfl (fun hc => ?_) (fun hc => ?_)) <;> first | (exfalso; (simp only [decide_eq_true_eq, decide_eq_false_iff_not, beq_iff_eq, beq_eq_false_iff_ne, bne_iff_ne, bne_eq_false_iff_eq, List.length_map, Int.not_lt, Int.not_le] at hc); omega) | skip)) | (((with_reducible refine no_implicit_lambda% (is_aop ?_)); refine no_implicit_lambda% (a_pick rfl rfl (fun hc => ?_) (fun hc => ?_)) <;> first | (exfalso; (simp only [decide_eq_true_eq, decide_eq_false_iff_not, beq_iff_eq, beq_eq_false_iff_ne, bne_iff_ne, bne_eq_false_iff_eq, List.length_map, Int.not_lt, Int.not_le] at hc); omega) | rw [hc])) | ((with_reducible refine no_implicit_lambda% (ret1 ?_)); first | (refine no_implicit_lambda% (akc ?_)) | (refine no_implicit_lambda% (aec ?_))) | (with_reducible exact retN) | (with_reducible exact retP) | fail | fail)
        (refine no_implicit_lambda% (k_loopT (((out ++ [t], true, i + 1) : List Td × Bool × Nat)) (by show i + 1 ≤ A.l.length ∧ (out ++ [t]).length ≤ 9 ∧ (true = false → out ++ [t] = A.l.take (i + 1) ∧ lows (A.l.take (i + 1)) x.c = A.l.take (i + 1) ∧ highs (A.l.take (i + 1)) x.c = []) ∧ (true = true → out ++ [t] = lows (A.l.take (i + 1)) x.c ++ x :: highs (A.l.take (i + 1)) x.c ∧ ∃ u ∈ A.l.take (i + 1), x.c ≤ u.c); exact ⟨hi, by rw [List.length_append, e1]; simp; omega, (fun h => by cases h), fun _ => ⟨by rw [hls, hhs, e1]; simp, u, by rw [hts]; simp [hu], hxu⟩⟩) (by first | omega | (simp; done) | (simp; omega)) ?_ ?_)); (focus ((unfold rvtSt); (try dsimp only); (repeat' (first | (with_reducible exact .nil) | (refine no_implicit_lambda% (.cons ?_ ?_)) | (exact Wk.dead _) | (with_reducible exact Wk.refl _) | (exact WkL.nil))) <;> (first | (exact Wk.eq rfl) | (exact Wk.dead _) | (exact Wk.free _ _) | (exact Wk.lit _) | (refine no_implicit_lambda% (WkR.eq ?_); simp; done) | (refine no_implicit_lambda% (Wk.rows ?_ _); ((repeat' (first | (with_reducible exact LDR.nil) | (with_reducible exact LDL.nil) | (refine no_implicit_lambda% (LDR.cons ?_ ?_)) | (refine no_implicit_lambda% (LDL.cons ?_ ?_)) | (exact LeD.refl _) | (exact LeD.free _ _) | (exact LDR.nil) | (exact LDL.nil)))); done) | (exact Wk.rows (ldr_rep _) _) | (refine no_implicit_lambda% (Wk.eq ?_); rw [List.map_append]; rfl) | ((refine no_implicit_lambda% (Wk.int (Eq.trans (z64 ?_ ?_) ?_))) <;> omega) | (refine no_implicit_lambda% (Wk.int ?_); simp; done) | (refine no_implicit_lambda% (Wk.int ?_); simp; omega) | (refine no_implicit_lambda% (Wk.eq ?_); simp; done)))); (focus ((unfold rvtSt); (try dsimp only); (repeat' (first | (with_reducible exact WkH.nil) | (refine no_implicit_lambda% (WkH.cons ?_ ?_)) | (exact WkR.refl _) | (refine no_implicit_lambda% (WkR.box _ ?_)) | (refine no_implicit_lambda% (WkR.eq ?_); simp; done) | (exact WkH.nil))) <;> ((repeat' (first | (with_reducible exact .nil) | (refine no_implicit_lambda% (.cons ?_ ?_)) | (exact Wk.dead _) | (with_reducible exact Wk.refl _) | (exact WkL.nil))) <;> (first | (exact Wk.eq rfl) | (exact Wk.dead _) | (exact Wk.free _ _) | (exact Wk.lit _) | (refine no_implicit_lambda% (WkR.eq ?_); simp; done) | (refine no_implicit_lambda% (Wk.rows ?_ _); ((repeat' (first | (with_reducible exact LDR.nil) | (with_reducible exact LDL.nil) | (refine no_implicit_lambda% (LDR.cons ?_ ?_)) | (refine no_implicit_lambda% (LDL.cons ?_ ?_)) | (exact LeD.refl _) | (exact LeD.free _ _) | (exact LDR.nil) | (exact LDL.nil)))); done) | (exact Wk.rows (ldr_rep _) _) | (refine no_implicit_lambda% (Wk.eq ?_); rw [List.map_append]; rfl) | ((refine no_implicit_lambda% (Wk.int (Eq.trans (z64 ?_ ?_) ?_))) <;> omega) | (refine no_implicit_lambda% (Wk.int ?_); simp; done) | (refine no_implicit_lambda% (Wk.int ?_); simp; omega) | (refine no_implicit_lambda% (Wk.eq ?_); simp; done)))))
end Go.Proofs.Ytabhfccfohpkaaa
