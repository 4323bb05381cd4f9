/- Part 6 of what the laws RowBytes rest on: RwT, RwU, RwV, RwW, RwX, RwY, RwM, RwZ, RxA, AmOp, Vd, RxC, RxD, Vi, RyA, OcR, RyC, Vj, RyD. -/
import Derived.Test.YtjepgbpcpcahgaaGreatP5
import Derived.ChangeSlices
import Derived.ShutString
namespace Go.Proofs.YtjepgbpcpcahgaaGreat
open Go.Am
set_option linter.unusedSimpArgs false
set_option linter.unusedVariables false
set_option maxRecDepth 100000
/-- a copy with a version laid in -/
def putA (o : List Co) (s : ByteArray) (x : Ve) : List Co := if hasN o s then (match o[npos o s]? with | some c => o.set (npos o s) (putC c x) | none => o) else insAt o (npos o s) ⟨s, [x]⟩
theorem filter_take {d : List Ve} {t : Int} {j : Nat} (hd : Vsort d) (hne : ∀ y ∈ d, y.t ≠ t) (h1 : ∀ y ∈ d.take j, t < y.t) (h2 : ∀ y, d[j]? = some y → ¬ t < y.t) : d.filter (fun y => decide (t < y.t)) = d.take j ∧ d.filter (fun y => decide (y.t < t)) = d.drop j := by
  have hB : ∀ y ∈ d.drop j, y.t < t := fun y hy => by
    obtain ⟨i, hi⟩ := List.getElem?_of_mem hy
    rw [List.getElem?_drop] at hi
    have hm := hne y (List.mem_of_getElem? hi)
    obtain ⟨z, hz⟩ : ∃ z, d[j]? = some z := ⟨_, List.getElem?_eq_getElem (by have := (List.getElem?_eq_some_iff.1 hi).1; omega)⟩
    have hz1 := h2 z hz
    rcases Nat.eq_zero_or_pos i with rfl | h0
    · rw [Nat.add_zero, hz] at hi
      cases hi; omega
    · have := List.pairwise_iff_getElem.1 hd j (j + i) (List.getElem?_eq_some_iff.1 hz).1 (List.getElem?_eq_some_iff.1 hi).1 (by omega)
      rw [(List.getElem?_eq_some_iff.1 hz).2, (List.getElem?_eq_some_iff.1 hi).2] at this
      omega
  have hs : d = d.take j ++ d.drop j := (List.take_append_drop j d).symm
  constructor
  · conv => lhs; rw [hs]
    rw [List.filter_append, List.filter_eq_self.2 fun y hy => decide_eq_true (h1 y hy), List.filter_eq_nil_iff.2 fun y hy => by have := hB y hy; simp; omega, List.append_nil]
  · conv => lhs; rw [hs]
    rw [List.filter_append, List.filter_eq_nil_iff.2 fun y hy => by have := h1 y hy; simp; omega, List.filter_eq_self.2 fun y hy => decide_eq_true (hB y hy), List.nil_append]
theorem ins_eq {vs : List Ve} {x : Ve} {j : Nat} (hs : Vsort vs) (h1 : ∀ y ∈ (dropV vs x.t).take j, x.t < y.t) (h2 : ∀ y, (dropV vs x.t)[j]? = some y → ¬ x.t < y.t) : insAt (dropV vs x.t) j x = insV vs x := by
  obtain ⟨a, b⟩ := filter_take (d := dropV vs x.t) (hs.filter _) (fun y hy => of_decide_eq_true (List.mem_filter.1 hy).2) h1 h2
  unfold insAt insV
  rw [← a, ← b]
  unfold dropV
  rw [List.filter_filter, List.filter_filter]
  congr 1
  · exact List.filter_congr fun y _ => by rcases Int.lt_trichotomy x.t y.t with h | h | h <;> simp <;> omega
  · congr 1
    exact List.filter_congr fun y _ => by rcases Int.lt_trichotomy x.t y.t with h | h | h <;> simp <;> omega
theorem put_nrows {o1 : List Co} {nm : ByteArray} {v w : AV} {o2 : List Co} {k : Nat} : putCells (seqC (nrows o1 nm v o2) k) (o1.length * 2 + 1) [w] = seqC (nrows o1 nm w o2) k := by
  have hl : ((o1.map corow).flatten ++ [AV.v (.string nm)]).length = o1.length * 2 + 1 := by rw [List.length_append, flatten_length (coOk o1).len, List.length_map]; rfl
  have e : ∀ z, seqC (nrows o1 nm z o2) k = ((o1.map corow).flatten ++ [.v (.string nm)]) ++ ([z] ++ ((o2.map corow).flatten ++ List.replicate k .dead)) := fun z => by unfold seqC nrows; simp
  rw [e v, e w, ← hl]
  exact put_mid _ [v] _ [w] rfl
theorem set_nrows {o1 : List Co} {nm : ByteArray} {v w : AV} {o2 : List Co} {k : Nat} : setA (seqC (nrows o1 nm v o2) k) (o1.length * 2 + 1) w = seqC (nrows o1 nm w o2) k := by
  rw [← put_nrows (v := v) (w := w), setA_eq]
  have hlt : o1.length * 2 + 1 < (seqC (nrows o1 nm v o2) k).length := by rw [seqC_len nrows_row, nrows_len]; omega
  unfold putCells
  rw [List.set_eq_take_append_cons_drop, if_pos hlt]; rfl
theorem get_nrows {o1 : List Co} {nm : ByteArray} {v : AV} {o2 : List Co} {k : Nat} : (seqC (nrows o1 nm v o2) k)[o1.length * 2 + 1]? = some v := by
  have hl : ((o1.map corow).flatten ++ [AV.v (.string nm)]).length = o1.length * 2 + 1 := by rw [List.length_append, flatten_length (coOk o1).len, List.length_map]; rfl
  have e : seqC (nrows o1 nm v o2) k = ((o1.map corow).flatten ++ [.v (.string nm)]) ++ ([v] ++ ((o2.map corow).flatten ++ List.replicate k .dead)) := by unfold seqC nrows; simp
  rw [e, ← hl, List.getElem?_append_right (Nat.le_refl _), Nat.sub_self]; rfl
theorem nrows_free (o1 : List Co) (nm : ByteArray) (vs : List Ve) (o2 : List Co) : nrows o1 nm (.list (vs.map verow) .free) o2 = (o1 ++ ⟨nm, vs⟩ :: o2).map corow := by unfold nrows; simp [corow]
theorem insAt_map {α β : Type} (f : α → β) (l : List α) (i : Nat) (x : α) : insAt (l.map f) i (f x) = (insAt l i x).map f := by simp [insAt, List.map_take, List.map_drop]
abbrev PtI := List Co × ByteArray × List Ve × List Co × Nat × Nat
def ptSt (t : Int) (v : Va) : PtI → ASt
  | (o1, nm, vs, o2, cp, cpv) => ⟨(List.replicate 6 .dead ++ [.ptr 1 0, .ptr 2 0, .ptr 3 0, .dead, .ptr 4 0, .v (.int .i64 o1.length)] ++ List.replicate 86 .dead), [(1, .box [.v (.int .i64 t)]), (2, .box (vrowV v)), (3, .box [.list [] .full]), (4, .box [.arr 5 0 (o1.length + 1 + o2.length) cp]), (5, .box (seqC (nrows o1 nm (.arr 6 0 vs.length cpv) o2) ((cp - (o1.length + 1 + o2.length)) * 2))), (6, .seq (vs.map verow) ((cpv - vs.length) * 4))], 7⟩
def ptC (F : List Co) (x : Ve) : PtI → Prop
  | (o1, nm, vs, o2, cp, cpv) => o1.length + 1 + o2.length ≤ 4 ∧ vs.length ≤ 2 ∧ vs.length ≤ cpv ∧ cpv ≤ maxLen ∧ o1.length + 1 + o2.length ≤ cp ∧ cp ≤ maxLen ∧ Vsort vs ∧ o1 ++ ⟨nm, putV vs x⟩ :: o2 = F
def plSt (t : Int) (v : Va) (o1 : List Co) (nm : ByteArray) (o2 : List Co) (cp : Nat) (w : AV) (d : List Ve) (cpv : Nat) (j : Nat) : ASt := ⟨(List.replicate 6 .dead ++ [.ptr 1 0, .ptr 2 0, .ptr 3 0, .dead, .ptr 4 0, .v (.int .i64 o1.length), .dead, .arr 6 0 d.length cpv, .v (.int .i64 j)] ++ List.replicate 83 .dead), [(1, .box [.v (.int .i64 t)]), (2, .box (vrowV v)), (3, .box [.list [] .full]), (4, .box [.arr 5 0 (o1.length + 1 + o2.length) cp]), (5, .box (seqC (nrows o1 nm w o2) ((cp - (o1.length + 1 + o2.length)) * 2))), (6, .seq (d.map verow) ((cpv - d.length) * 4))], 300⟩
def putQ (F : List Co) (out : AOut) (H' : Heap) : Prop := out = .ret (.tuple [rowA F, .v (.int .i64 0)]) ∧ H' = []
def pzSt (F : List Co) : ASt := ⟨(List.replicate 8 .dead ++ [.ptr 3 0, .dead, .ptr 4 0] ++ List.replicate 87 .dead), [(3, .box [.list [] .full]), (4, .box [.list (F.map corow) .free])], 400⟩
set_option maxHeartbeats 3200000 in
theorem put_rest (t : Int) (v : Va) (F : List Co) (hF : Fine F) (hFs : RowSz F) (hv : v.b.length < 1073741824) (R : AOut → Heap → Prop) (hR : ∀ out H', putQ F out H' → R out H') (a : PtI) (hC : ptC F ⟨t, canV v⟩ a) : acode Tryz.prog TT { run := DD, low := fun N => 0 ≤ N } (seqTail 5 (Tryz.f21.body.getD .skip)) (ptSt t v a).slots (ptSt t v a).L (ptSt t v a).next (aend Tryz.prog TT (Tryz.f21.results.toList) 9000 R) := by
  obtain ⟨o1, nm, vs, o2, cp, cpv⟩ := a
  obtain ⟨h1, h2, h3, h4, h5, h6, hvs, hFe⟩ := hC
  refine c_turns (n' := 7) ?_
  refine c_seq ?_
  repeat' (first | (refine no_implicit_lambda% (awd1 ?_)) | (((with_reducible refine no_implicit_lambda% (is_aops ?_)); refine no_implicit_lambda% (o_split rfl rfl rfl (fun hc => ?_) (fun hc => ?_)) <;> first | exact decx hc | rw [hc])) | (((with_reducible refine no_implicit_lambda% (is_cond ?_)); refine no_implicit_lambda% (c_cond rfl (fun hc => ?_) (fun hc => ?_)) <;> first | exact decx hc | skip)) | (((with_reducible refine no_implicit_lambda% (is_aop ?_)); refine no_implicit_lambda% (a_pick rfl rfl (fun hc => ?_) (fun hc => ?_)) <;> first | exact decx hc | rw [hc])) | (((with_reducible refine no_implicit_lambda% (is_ev ?_)); refine no_implicit_lambda% (v_split rfl rfl rfl rfl (fun hc => ?_) (fun hc => ?_)) <;> first | exact decx hc | rw [hc])) | (refine no_implicit_lambda% (ans ?_)) | (with_reducible exact retN) | (with_reducible exact retP) | ((with_reducible refine no_implicit_lambda% (ret1 ?_)); first | (refine no_implicit_lambda% (akcs ?_)) | (refine no_implicit_lambda% (aecs ?_))) | fail | (((with_reducible refine no_implicit_lambda% (is_effK ?_)); refine no_implicit_lambda% (aecs ?_))) | (((with_reducible refine no_implicit_lambda% (is_drB ?_)); refine no_implicit_lambda% (b_ends ?_))) | (((with_reducible refine no_implicit_lambda% (is_aop ?_)); refine no_implicit_lambda% (a_stores ?_))) | ((with_reducible refine no_implicit_lambda% (is_aop ?_)); first | (refine no_implicit_lambda% (a_append_tok rfl rfl rfl rfl rfl rfl rfl rfl rfl rfl rfl rfl rfl rfl (by first | rfl | (simp; done)) (fun q hq => by rw [forceH_eq]; exact hq) (by (first | assumption | (intro row hr; simp only [List.mem_cons, List.not_mem_nil, or_false] at hr; rcases hr with rfl | rfl | rfl | rfl <;> rfl) | (intro row hr; simp at hr; done) | (intro row hr; simp only [List.mem_singleton] at hr; subst hr; rfl) | (intro row hr; obtain ⟨_, _, rfl⟩ := List.mem_map.1 hr; rfl))) (by (refine ⟨?_, ?_⟩ <;> (simp only [List.length_map, List.length_append, List.length_cons, List.length_nil]; omega))) ?_))) | fail)
  ((with_reducible refine no_implicit_lambda% (is_aop ?_)); first | (refine no_implicit_lambda% (a_qS rfl (fun _ h => h) ?_ ?_)) | (refine no_implicit_lambda% (a_qS rfl (qIx (fun _ h => h)) ?_ ?_)) | (refine no_implicit_lambda% (a_qS rfl (qAnd5 (fun _ h => h)) ?_ ?_)) | (refine no_implicit_lambda% (a_qS rfl (qStr (fun _ h => h)) ?_ ?_)) | (refine no_implicit_lambda% (a_qS rfl (qAnd4 (fun _ h => h)) ?_ ?_)) | (refine no_implicit_lambda% (a_qS rfl (qAnd2 (fun _ h => h)) ?_ ?_))); focus (first | omega | (simp; done) | (simp; omega))
  repeat' (first | (refine no_implicit_lambda% (awd1 ?_)) | (((with_reducible refine no_implicit_lambda% (is_aops ?_)); refine no_implicit_lambda% (o_split rfl rfl rfl (fun hc => ?_) (fun hc => ?_)) <;> first | exact decx hc | rw [hc])) | (((with_reducible refine no_implicit_lambda% (is_cond ?_)); refine no_implicit_lambda% (c_cond rfl (fun hc => ?_) (fun hc => ?_)) <;> first | exact decx hc | skip)) | (((with_reducible refine no_implicit_lambda% (is_aop ?_)); refine no_implicit_lambda% (a_pick rfl rfl (fun hc => ?_) (fun hc => ?_)) <;> first | exact decx hc | rw [hc])) | (((with_reducible refine no_implicit_lambda% (is_ev ?_)); refine no_implicit_lambda% (v_split rfl rfl rfl rfl (fun hc => ?_) (fun hc => ?_)) <;> first | exact decx hc | rw [hc])) | (refine no_implicit_lambda% (ans ?_)) | (with_reducible exact retN) | (with_reducible exact retP) | ((with_reducible refine no_implicit_lambda% (ret1 ?_)); first | (refine no_implicit_lambda% (akcs ?_)) | (refine no_implicit_lambda% (aecs ?_))) | fail | (((with_reducible refine no_implicit_lambda% (is_effK ?_)); refine no_implicit_lambda% (aecs ?_))) | (((with_reducible refine no_implicit_lambda% (is_drB ?_)); refine no_implicit_lambda% (b_ends ?_))) | (((with_reducible refine no_implicit_lambda% (is_aop ?_)); refine no_implicit_lambda% (a_stores ?_))) | ((with_reducible refine no_implicit_lambda% (is_aop ?_)); first | (refine no_implicit_lambda% (a_append_tok rfl rfl rfl rfl rfl rfl rfl rfl rfl rfl rfl rfl rfl rfl (by first | rfl | (simp; done)) (fun q hq => by rw [forceH_eq]; exact hq) (by (first | assumption | (intro row hr; simp only [List.mem_cons, List.not_mem_nil, or_false] at hr; rcases hr with rfl | rfl | rfl | rfl <;> rfl) | (intro row hr; simp at hr; done) | (intro row hr; simp only [List.mem_singleton] at hr; subst hr; rfl) | (intro row hr; obtain ⟨_, _, rfl⟩ := List.mem_map.1 hr; rfl))) (by (refine ⟨?_, ?_⟩ <;> (simp only [List.length_map, List.length_append, List.length_cons, List.length_nil]; omega))) ?_))) | fail)
  (with_reducible refine is_aop ?_)
  refine no_implicit_lambda% (a_loadAt (av := .arr 6 0 vs.length cpv) rfl rfl rfl rfl rfl ?_ ?_)
  · have e : 0 + (o1.length : Int).toNat * 2 + 1 = o1.length * 2 + 1 := by rw [Int.toNat_natCast]; omega
    exact e ▸ get_nrows
  repeat' (first | (refine no_implicit_lambda% (awd1 ?_)) | (((with_reducible refine no_implicit_lambda% (is_aops ?_)); refine no_implicit_lambda% (o_split rfl rfl rfl (fun hc => ?_) (fun hc => ?_)) <;> first | exact decx hc | rw [hc])) | (((with_reducible refine no_implicit_lambda% (is_cond ?_)); refine no_implicit_lambda% (c_cond rfl (fun hc => ?_) (fun hc => ?_)) <;> first | exact decx hc | skip)) | (((with_reducible refine no_implicit_lambda% (is_aop ?_)); refine no_implicit_lambda% (a_pick rfl rfl (fun hc => ?_) (fun hc => ?_)) <;> first | exact decx hc | rw [hc])) | (((with_reducible refine no_implicit_lambda% (is_ev ?_)); refine no_implicit_lambda% (v_split rfl rfl rfl rfl (fun hc => ?_) (fun hc => ?_)) <;> first | exact decx hc | rw [hc])) | (refine no_implicit_lambda% (ans ?_)) | (with_reducible exact retN) | (with_reducible exact retP) | ((with_reducible refine no_implicit_lambda% (ret1 ?_)); first | (refine no_implicit_lambda% (akcs ?_)) | (refine no_implicit_lambda% (aecs ?_))) | fail | (((with_reducible refine no_implicit_lambda% (is_effK ?_)); refine no_implicit_lambda% (aecs ?_))) | (((with_reducible refine no_implicit_lambda% (is_drB ?_)); refine no_implicit_lambda% (b_ends ?_))) | (((with_reducible refine no_implicit_lambda% (is_aop ?_)); refine no_implicit_lambda% (a_stores ?_))) | ((with_reducible refine no_implicit_lambda% (is_aop ?_)); first | (refine no_implicit_lambda% (a_append_tok rfl rfl rfl rfl rfl rfl rfl rfl rfl rfl rfl rfl rfl rfl (by first | rfl | (simp; done)) (fun q hq => by rw [forceH_eq]; exact hq) (by (first | assumption | (intro row hr; simp only [List.mem_cons, List.not_mem_nil, or_false] at hr; rcases hr with rfl | rfl | rfl | rfl <;> rfl) | (intro row hr; simp at hr; done) | (intro row hr; simp only [List.mem_singleton] at hr; subst hr; rfl) | (intro row hr; obtain ⟨_, _, rfl⟩ := List.mem_map.1 hr; rfl))) (by (refine ⟨?_, ?_⟩ <;> (simp only [List.length_map, List.length_append, List.length_cons, List.length_nil]; omega))) ?_))) | fail)
  have hdf := deletef_c put1_c vs cpv t (by omega) h3
  (refine no_implicit_lambda% (cal [6, 1] (hdf) ?_ ?_))
  · ((with_reducible refine no_implicit_lambda% (ret1 ?_)); first | (refine no_implicit_lambda% (akcs ?_)) | (refine no_implicit_lambda% (aecs ?_)))
    have hie : ∀ j, (∀ y ∈ (dropV vs t).take j, t < y.t) → (∀ y, (dropV vs t)[j]? = some y → ¬ t < y.t) → insAt (dropV vs t) j ⟨t, canV v⟩ = insV vs ⟨t, canV v⟩ := fun j a b => ins_eq (x := ⟨t, canV v⟩) hvs a b
    generalize hd : dropV vs t = d at *
    have hdl : d.length ≤ 2 := by rw [← hd]; have := dropV_len vs t; omega
    have hdc : d.length ≤ cpv := by rw [← hd]; have := dropV_len vs t; omega
    repeat' (first | (refine no_implicit_lambda% (sx1 ?_)) | (((with_reducible refine no_implicit_lambda% (is_aops ?_)); refine no_implicit_lambda% (o_split rfl rfl rfl (fun hc => ?_) (fun hc => ?_)) <;> first | exact decx hc | rw [hc])) | (((with_reducible refine no_implicit_lambda% (is_cond ?_)); refine no_implicit_lambda% (c_cond rfl (fun hc => ?_) (fun hc => ?_)) <;> first | exact decx hc | skip)) | (((with_reducible refine no_implicit_lambda% (is_aop ?_)); refine no_implicit_lambda% (a_pick rfl rfl (fun hc => ?_) (fun hc => ?_)) <;> first | exact decx hc | rw [hc])) | fail)
    refine k_seq ?_
    repeat' (first | (refine no_implicit_lambda% (sx1 ?_)) | (((with_reducible refine no_implicit_lambda% (is_aops ?_)); refine no_implicit_lambda% (o_split rfl rfl rfl (fun hc => ?_) (fun hc => ?_)) <;> first | exact decx hc | rw [hc])) | (((with_reducible refine no_implicit_lambda% (is_cond ?_)); refine no_implicit_lambda% (c_cond rfl (fun hc => ?_) (fun hc => ?_)) <;> first | exact decx hc | skip)) | (((with_reducible refine no_implicit_lambda% (is_aop ?_)); refine no_implicit_lambda% (a_pick rfl rfl (fun hc => ?_) (fun hc => ?_)) <;> first | exact decx hc | rw [hc])) | fail)
    refine k_seq ?_
    have hcn := canonv_c v (by omega)
    refine c_seq ?_
    refine c_cutR (plSt t v o1 nm o2 cp (.arr 6 0 vs.length cpv) d cpv) (fun j => j ≤ d.length ∧ insAt d j ⟨t, canV v⟩ = insV vs ⟨t, canV v⟩) ?_ ?_
    · rintro j ⟨j1, j2⟩
      refine c_turns (n' := 300) ?_
      have hin := insert_ver (d.map verow) (verow ⟨t, canV v⟩) j cpv (veOk d) (veOk [⟨t, canV v⟩]) (by rw [List.length_map]; exact j1) (by rw [List.length_map]; omega) (by rw [List.length_map]; exact hdc) h4
      rw [List.length_map, insAt_map, j2] at hin
      have hil : (insV vs ⟨t, canV v⟩).length = d.length + 1 := by rw [← j2]; exact insAt_len _ j1
      generalize hq : insV vs ⟨t, canV v⟩ = q at *
      repeat' (first | (refine no_implicit_lambda% (awd1 ?_)) | (((with_reducible refine no_implicit_lambda% (is_aops ?_)); refine no_implicit_lambda% (o_split rfl rfl rfl (fun hc => ?_) (fun hc => ?_)) <;> first | exact decx hc | rw [hc])) | (((with_reducible refine no_implicit_lambda% (is_cond ?_)); refine no_implicit_lambda% (c_cond rfl (fun hc => ?_) (fun hc => ?_)) <;> first | exact decx hc | skip)) | (((with_reducible refine no_implicit_lambda% (is_aop ?_)); refine no_implicit_lambda% (a_pick rfl rfl (fun hc => ?_) (fun hc => ?_)) <;> first | exact decx hc | rw [hc])) | (((with_reducible refine no_implicit_lambda% (is_ev ?_)); refine no_implicit_lambda% (v_split rfl rfl rfl rfl (fun hc => ?_) (fun hc => ?_)) <;> first | exact decx hc | rw [hc])) | (refine no_implicit_lambda% (ans ?_)) | (with_reducible exact retN) | (with_reducible exact retP) | ((with_reducible refine no_implicit_lambda% (ret1 ?_)); first | (refine no_implicit_lambda% (akcs ?_)) | (refine no_implicit_lambda% (aecs ?_))) | (refine no_implicit_lambda% (cal [] (hcn) ?_ ?_)) | (((with_reducible refine no_implicit_lambda% (is_effK ?_)); refine no_implicit_lambda% (aecs ?_))) | (((with_reducible refine no_implicit_lambda% (is_drB ?_)); refine no_implicit_lambda% (b_ends ?_))) | (((with_reducible refine no_implicit_lambda% (is_aop ?_)); refine no_implicit_lambda% (a_stores ?_))) | ((with_reducible refine no_implicit_lambda% (is_aop ?_)); first | (refine no_implicit_lambda% (a_append_tok rfl rfl rfl rfl rfl rfl rfl rfl rfl rfl rfl rfl rfl rfl (by first | rfl | (simp; done)) (fun q hq => by rw [forceH_eq]; exact hq) (by (first | assumption | (intro row hr; simp only [List.mem_cons, List.not_mem_nil, or_false] at hr; rcases hr with rfl | rfl | rfl | rfl <;> rfl) | (intro row hr; simp at hr; done) | (intro row hr; simp only [List.mem_singleton] at hr; subst hr; rfl) | (intro row hr; obtain ⟨_, _, rfl⟩ := List.mem_map.1 hr; rfl))) (by (refine ⟨?_, ?_⟩ <;> (simp only [List.length_map, List.length_append, List.length_cons, List.length_nil]; omega))) ?_))) | fail)
      (refine no_implicit_lambda% (calw [6] (hin) ?_ ?_))
      · intro xx H' hh
        obtain ⟨cp', c1, c2, h', rfl⟩ := hh
        cases h'
        refine no_implicit_lambda% (aecs ?_)
        repeat' (first | (refine no_implicit_lambda% (awd1 ?_)) | (((with_reducible refine no_implicit_lambda% (is_aops ?_)); refine no_implicit_lambda% (o_split rfl rfl rfl (fun hc => ?_) (fun hc => ?_)) <;> first | exact decx hc | rw [hc])) | (((with_reducible refine no_implicit_lambda% (is_cond ?_)); refine no_implicit_lambda% (c_cond rfl (fun hc => ?_) (fun hc => ?_)) <;> first | exact decx hc | skip)) | (((with_reducible refine no_implicit_lambda% (is_aop ?_)); refine no_implicit_lambda% (a_pick rfl rfl (fun hc => ?_) (fun hc => ?_)) <;> first | exact decx hc | rw [hc])) | (((with_reducible refine no_implicit_lambda% (is_ev ?_)); refine no_implicit_lambda% (v_split rfl rfl rfl rfl (fun hc => ?_) (fun hc => ?_)) <;> first | exact decx hc | rw [hc])) | (refine no_implicit_lambda% (ans ?_)) | (with_reducible exact retN) | (with_reducible exact retP) | ((with_reducible refine no_implicit_lambda% (ret1 ?_)); first | (refine no_implicit_lambda% (akcs ?_)) | (refine no_implicit_lambda% (aecs ?_))) | fail | (((with_reducible refine no_implicit_lambda% (is_effK ?_)); refine no_implicit_lambda% (aecs ?_))) | (((with_reducible refine no_implicit_lambda% (is_drB ?_)); refine no_implicit_lambda% (b_ends ?_))) | (((with_reducible refine no_implicit_lambda% (is_aop ?_)); refine no_implicit_lambda% (a_stores ?_))) | ((with_reducible refine no_implicit_lambda% (is_aop ?_)); first | (refine no_implicit_lambda% (a_append_tok rfl rfl rfl rfl rfl rfl rfl rfl rfl rfl rfl rfl rfl rfl (by first | rfl | (simp; done)) (fun q hq => by rw [forceH_eq]; exact hq) (by (first | assumption | (intro row hr; simp only [List.mem_cons, List.not_mem_nil, or_false] at hr; rcases hr with rfl | rfl | rfl | rfl <;> rfl) | (intro row hr; simp at hr; done) | (intro row hr; simp only [List.mem_singleton] at hr; subst hr; rfl) | (intro row hr; obtain ⟨_, _, rfl⟩ := List.mem_map.1 hr; rfl))) (by (refine ⟨?_, ?_⟩ <;> (simp only [List.length_map, List.length_append, List.length_cons, List.length_nil]; omega))) ?_))) | fail)
        ((with_reducible refine no_implicit_lambda% (is_ev ?_)); first | (refine no_implicit_lambda% (v_qS rfl rfl rfl rfl (qAnd4 (fun _ h => h)) (fun _ h => h) ?_ ?_)) | (refine no_implicit_lambda% (v_qS rfl rfl rfl rfl (qAnd5 (fun _ h => h)) (fun _ h => h) ?_ ?_))); focus ((repeat' (refine no_implicit_lambda% (And.intro ?_ ?_))) <;> (first | exact trivial | exact Int.natCast_nonneg _ | omega | (simp; done) | (simp; omega) | ((show (0 : Int) ≤ _); omega)))
        repeat' (first | (refine no_implicit_lambda% (awd1 ?_)) | (((with_reducible refine no_implicit_lambda% (is_aops ?_)); refine no_implicit_lambda% (o_split rfl rfl rfl (fun hc => ?_) (fun hc => ?_)) <;> first | exact decx hc | rw [hc])) | (((with_reducible refine no_implicit_lambda% (is_cond ?_)); refine no_implicit_lambda% (c_cond rfl (fun hc => ?_) (fun hc => ?_)) <;> first | exact decx hc | skip)) | (((with_reducible refine no_implicit_lambda% (is_aop ?_)); refine no_implicit_lambda% (a_pick rfl rfl (fun hc => ?_) (fun hc => ?_)) <;> first | exact decx hc | rw [hc])) | (((with_reducible refine no_implicit_lambda% (is_ev ?_)); refine no_implicit_lambda% (v_split rfl rfl rfl rfl (fun hc => ?_) (fun hc => ?_)) <;> first | exact decx hc | rw [hc])) | (refine no_implicit_lambda% (ans ?_)) | (with_reducible exact retN) | (with_reducible exact retP) | ((with_reducible refine no_implicit_lambda% (ret1 ?_)); first | (refine no_implicit_lambda% (akcs ?_)) | (refine no_implicit_lambda% (aecs ?_))) | fail | (((with_reducible refine no_implicit_lambda% (is_effK ?_)); refine no_implicit_lambda% (aecs ?_))) | (((with_reducible refine no_implicit_lambda% (is_drB ?_)); refine no_implicit_lambda% (b_ends ?_))) | (((with_reducible refine no_implicit_lambda% (is_aop ?_)); refine no_implicit_lambda% (a_stores ?_))) | ((with_reducible refine no_implicit_lambda% (is_aop ?_)); first | (refine no_implicit_lambda% (a_append_tok rfl rfl rfl rfl rfl rfl rfl rfl rfl rfl rfl rfl rfl rfl (by first | rfl | (simp; done)) (fun q hq => by rw [forceH_eq]; exact hq) (by (first | assumption | (intro row hr; simp only [List.mem_cons, List.not_mem_nil, or_false] at hr; rcases hr with rfl | rfl | rfl | rfl <;> rfl) | (intro row hr; simp at hr; done) | (intro row hr; simp only [List.mem_singleton] at hr; subst hr; rfl) | (intro row hr; obtain ⟨_, _, rfl⟩ := List.mem_map.1 hr; rfl))) (by (refine ⟨?_, ?_⟩ <;> (simp only [List.length_map, List.length_append, List.length_cons, List.length_nil]; omega))) ?_))) | fail)
        ((with_reducible refine no_implicit_lambda% (is_ev ?_)); first | (refine no_implicit_lambda% (v_qS rfl rfl rfl rfl (fun _ h => h) (fun _ h => h) ?_ ?_)) | (refine no_implicit_lambda% (v_qS rfl rfl rfl rfl (qAnd2 (fun _ h => h)) (fun _ h => h) ?_ ?_))); focus (first | omega | (simp; done) | (simp; omega))
        repeat' (first | (refine no_implicit_lambda% (awd1 ?_)) | (((with_reducible refine no_implicit_lambda% (is_aops ?_)); refine no_implicit_lambda% (o_split rfl rfl rfl (fun hc => ?_) (fun hc => ?_)) <;> first | exact decx hc | rw [hc])) | (((with_reducible refine no_implicit_lambda% (is_cond ?_)); refine no_implicit_lambda% (c_cond rfl (fun hc => ?_) (fun hc => ?_)) <;> first | exact decx hc | skip)) | (((with_reducible refine no_implicit_lambda% (is_aop ?_)); refine no_implicit_lambda% (a_pick rfl rfl (fun hc => ?_) (fun hc => ?_)) <;> first | exact decx hc | rw [hc])) | (((with_reducible refine no_implicit_lambda% (is_ev ?_)); refine no_implicit_lambda% (v_split rfl rfl rfl rfl (fun hc => ?_) (fun hc => ?_)) <;> first | exact decx hc | rw [hc])) | (refine no_implicit_lambda% (ans ?_)) | (with_reducible exact retN) | (with_reducible exact retP) | ((with_reducible refine no_implicit_lambda% (ret1 ?_)); first | (refine no_implicit_lambda% (akcs ?_)) | (refine no_implicit_lambda% (aecs ?_))) | fail | (((with_reducible refine no_implicit_lambda% (is_effK ?_)); refine no_implicit_lambda% (aecs ?_))) | (((with_reducible refine no_implicit_lambda% (is_drB ?_)); refine no_implicit_lambda% (b_ends ?_))) | (((with_reducible refine no_implicit_lambda% (is_aop ?_)); refine no_implicit_lambda% (a_stores ?_))) | ((with_reducible refine no_implicit_lambda% (is_aop ?_)); first | (refine no_implicit_lambda% (a_append_tok rfl rfl rfl rfl rfl rfl rfl rfl rfl rfl rfl rfl rfl rfl (by first | rfl | (simp; done)) (fun q hq => by rw [forceH_eq]; exact hq) (by (first | assumption | (intro row hr; simp only [List.mem_cons, List.not_mem_nil, or_false] at hr; rcases hr with rfl | rfl | rfl | rfl <;> rfl) | (intro row hr; simp at hr; done) | (intro row hr; simp only [List.mem_singleton] at hr; subst hr; rfl) | (intro row hr; obtain ⟨_, _, rfl⟩ := List.mem_map.1 hr; rfl))) (by (refine ⟨?_, ?_⟩ <;> (simp only [List.length_map, List.length_append, List.length_cons, List.length_nil]; omega))) ?_))) | fail)
        have hm : ((if (2 : Int) < ((d.length + 1 : Nat) : Int) then (2 : Int) else ((d.length + 1 : Nat) : Int)).toNat - 0) = min (d.length + 1) 2 := by split <;> omega
        have hml : min (d.length + 1) 2 ≤ q.length := by omega
        generalize hmm : min (d.length + 1) 2 = m at *
        (with_reducible refine is_aop ?_)
        refine no_implicit_lambda% (a_storeT (id := 5) (off := o1.length * 2 + 1) (l := [.arr 310 0 m cp']) (cells' := seqC (nrows o1 nm (.arr 310 0 m cp') o2) ((cp - (o1.length + 1 + o2.length)) * 2)) ?_ ?_ put_nrows rfl rfl ?_ rfl ?_)
        · refine no_implicit_lambda% (aecs ?_)
          repeat' (first | (first | (with_reducible refine no_implicit_lambda% (v_nil ?_)) | ((with_reducible refine no_implicit_lambda% (is_ev ?_)); first | (refine no_implicit_lambda% (v_skips rfl rfl (fun _ h => h) ?_)) | (refine no_implicit_lambda% (v_q rfl rfl rfl rfl (fun _ h => h) (fun _ h => h) ?_)) | (refine no_implicit_lambda% (v_alloc rfl rfl rfl (fun _ h => h) rfl ?_)) | (refine no_implicit_lambda% (v_no rfl rfl rfl rfl rfl rfl (fun _ h => h) ?_)) | (refine no_implicit_lambda% (v_yes rfl rfl rfl rfl rfl rfl (fun _ h => h) (fun _ h => h) ?_)) | (refine no_implicit_lambda% (v_not rfl rfl rfl rfl rfl rfl (fun _ h => h) ?_)))) | (((with_reducible refine no_implicit_lambda% (is_drB ?_)); refine no_implicit_lambda% (b_ends ?_))))
          have e1 : (q.map verow).take m = (putV vs ⟨t, canV v⟩).map verow := by
            unfold putV
            rw [hq, ← List.map_take]
            congr 1
            rcases Nat.lt_or_ge d.length 1 with h | h
            · rw [List.take_of_length_le (by omega), List.take_of_length_le (by omega)]
            · rw [show m = 2 by omega]
          refine k_seq_to (pzSt F) ((Conv.seqTake (id := 310) (rows := q.map verow) (k := (cp' - (d.length + 1)) * 4) m (permT (H := [(310, .seq (q.map verow) ((cp' - (d.length + 1)) * 4))])) (veOk q) (by rw [List.length_map]; exact hml) (by rw [List.length_map]; omega)).trans ((Conv.freezeBox (id := 310) (bid := 5) (cells := seqC (nrows o1 nm (.arr 310 0 m cp') o2) ((cp - (o1.length + 1 + o2.length)) * 2)) (j := o1.length * 2 + 1) (m := m) (cp := cp') (permT (H := [(310, .seq ((q.map verow).take m) _), (5, .box (seqC (nrows o1 nm (.arr 310 0 m cp') o2) ((cp - (o1.length + 1 + o2.length)) * 2)))])) get_nrows ((veOk q).take m) (by rw [List.length_take, List.length_map]; omega)).trans ?_)) ?_
          · rw [set_nrows, e1, nrows_free, hFe]
            have hFl : F.length = o1.length + 1 + o2.length := by rw [← hFe]; simp; omega
            refine (Conv.toSeq (id := 5) (rows := F.map corow) (cells := seqC (F.map corow) ((cp - (o1.length + 1 + o2.length)) * 2)) (.refl _) rfl (coOk F).pure).trans ((Conv.freezeBox (id := 5) (bid := 4) (cells := [.arr 5 0 (o1.length + 1 + o2.length) cp]) (j := 0) (m := o1.length + 1 + o2.length) (cp := cp) (permT (H := [(5, .seq (F.map corow) _), (4, .box [.arr 5 0 (o1.length + 1 + o2.length) cp])])) rfl (coOk F) (by rw [List.length_map]; exact hFl)).trans ?_)
            (refine no_implicit_lambda% (Conv.toT ?_ ?_ (Nat.le_of_ble_eq_true rfl))); (focus ((unfold pzSt); (try dsimp only); exact wkl)); (focus ((unfold pzSt); (try dsimp only); exact wkh))
          · have hcc := copy_f F (by have := hF.len; omega) hFs
            rw [hF.copy] at hcc
            refine c_turns (n' := 400) ?_
            repeat' (first | (refine no_implicit_lambda% (awd1 ?_)) | (((with_reducible refine no_implicit_lambda% (is_aops ?_)); refine no_implicit_lambda% (o_split rfl rfl rfl (fun hc => ?_) (fun hc => ?_)) <;> first | exact decx hc | rw [hc])) | (((with_reducible refine no_implicit_lambda% (is_cond ?_)); refine no_implicit_lambda% (c_cond rfl (fun hc => ?_) (fun hc => ?_)) <;> first | exact decx hc | skip)) | (((with_reducible refine no_implicit_lambda% (is_aop ?_)); refine no_implicit_lambda% (a_pick rfl rfl (fun hc => ?_) (fun hc => ?_)) <;> first | exact decx hc | rw [hc])) | (refine no_implicit_lambda% (ans ?_)) | (with_reducible exact retN) | (with_reducible exact retP) | (refine no_implicit_lambda% (cal [] (hcc) ?_ ?_)) | fail)
            exact e_ret (H' := []) (rest := _) rfl (hR _ _ ⟨rfl, rfl⟩) permT (Nat.le_of_ble_eq_true rfl)
        · show (true && (true && Nat.ble (o1.length * 2 + 1 + 1) (seqC (nrows o1 nm (.arr 6 0 vs.length cpv) o2) ((cp - (o1.length + 1 + o2.length)) * 2)).length)) = true
          rw [Bool.true_and, Bool.true_and, Nat.ble_eq, seqC_len nrows_row, nrows_len]
          omega
        · show AV.ptr 5 (0 + (o1.length : Int).toNat * 2 + 1) = .ptr 5 (o1.length * 2 + 1)
          rw [Int.toNat_natCast, Nat.zero_add]
        · show some [AV.arr 310 (0 + 0 * 4) _ (cp' - 0)] = some [AV.arr 310 0 m cp']
          rw [hm]; rfl
      · intro xx H' hh
        obtain ⟨_, _, _, h', _⟩ := hh
        cases h'
    · intro Kx kN kP kR kE
      repeat' (first | (refine no_implicit_lambda% (awd1 ?_)) | (((with_reducible refine no_implicit_lambda% (is_aops ?_)); refine no_implicit_lambda% (o_split rfl rfl rfl (fun hc => ?_) (fun hc => ?_)) <;> first | exact decx hc | rw [hc])) | (((with_reducible refine no_implicit_lambda% (is_cond ?_)); refine no_implicit_lambda% (c_cond rfl (fun hc => ?_) (fun hc => ?_)) <;> first | exact decx hc | skip)) | (((with_reducible refine no_implicit_lambda% (is_aop ?_)); refine no_implicit_lambda% (a_pick rfl rfl (fun hc => ?_) (fun hc => ?_)) <;> first | exact decx hc | rw [hc])) | (((with_reducible refine no_implicit_lambda% (is_ev ?_)); refine no_implicit_lambda% (v_split rfl rfl rfl rfl (fun hc => ?_) (fun hc => ?_)) <;> first | exact decx hc | rw [hc])) | (refine no_implicit_lambda% (ans ?_)) | (with_reducible exact retN) | (with_reducible exact retP) | ((with_reducible refine no_implicit_lambda% (ret1 ?_)); first | (refine no_implicit_lambda% (akcs ?_)) | (refine no_implicit_lambda% (aecs ?_))) | fail | (((with_reducible refine no_implicit_lambda% (is_effK ?_)); refine no_implicit_lambda% (aecs ?_))) | (((with_reducible refine no_implicit_lambda% (is_drB ?_)); refine no_implicit_lambda% (b_ends ?_))) | (((with_reducible refine no_implicit_lambda% (is_aop ?_)); refine no_implicit_lambda% (a_stores ?_))) | ((with_reducible refine no_implicit_lambda% (is_aop ?_)); first | (refine no_implicit_lambda% (a_append_tok rfl rfl rfl rfl rfl rfl rfl rfl rfl rfl rfl rfl rfl rfl (by first | rfl | (simp; done)) (fun q hq => by rw [forceH_eq]; exact hq) (by (first | assumption | (intro row hr; simp only [List.mem_cons, List.not_mem_nil, or_false] at hr; rcases hr with rfl | rfl | rfl | rfl <;> rfl) | (intro row hr; simp at hr; done) | (intro row hr; simp only [List.mem_singleton] at hr; subst hr; rfl) | (intro row hr; obtain ⟨_, _, rfl⟩ := List.mem_map.1 hr; rfl))) (by (refine ⟨?_, ?_⟩ <;> (simp only [List.length_map, List.length_append, List.length_cons, List.length_nil]; omega))) ?_))) | fail)
      refine c_loop' (plSt t v o1 nm o2 cp (.arr 6 0 vs.length cpv) d cpv) (fun j => j ≤ d.length ∧ ∀ y ∈ d.take j, t < y.t) (fun j => d.length - j) (a := 0) ⟨Nat.zero_le _, by simp⟩ ?_ ?_
      · (refine no_implicit_lambda% (Conv.toT ?_ ?_ (Nat.le_of_ble_eq_true rfl))); (focus ((unfold plSt); (try dsimp only); exact wkl)); (focus ((unfold plSt); (try dsimp only); exact wkh))
      · rintro j ⟨j1, j2⟩
        refine c_turns (n' := 300) ?_
        rcases hy : d[j]? with _ | y
        · have hj : j = d.length := by have := List.getElem?_eq_none_iff.1 hy; omega
          repeat' (first | (refine no_implicit_lambda% (awd1 ?_)) | (((with_reducible refine no_implicit_lambda% (is_aops ?_)); refine no_implicit_lambda% (o_split rfl rfl rfl (fun hc => ?_) (fun hc => ?_)) <;> first | exact decx hc | rw [hc])) | (((with_reducible refine no_implicit_lambda% (is_cond ?_)); refine no_implicit_lambda% (c_cond rfl (fun hc => ?_) (fun hc => ?_)) <;> first | exact decx hc | skip)) | (((with_reducible refine no_implicit_lambda% (is_aop ?_)); refine no_implicit_lambda% (a_pick rfl rfl (fun hc => ?_) (fun hc => ?_)) <;> first | exact decx hc | rw [hc])) | (((with_reducible refine no_implicit_lambda% (is_ev ?_)); refine no_implicit_lambda% (v_split rfl rfl rfl rfl (fun hc => ?_) (fun hc => ?_)) <;> first | exact decx hc | rw [hc])) | (refine no_implicit_lambda% (ans ?_)) | (with_reducible exact retN) | (with_reducible exact retP) | ((with_reducible refine no_implicit_lambda% (ret1 ?_)); first | (refine no_implicit_lambda% (akcs ?_)) | (refine no_implicit_lambda% (aecs ?_))) | fail | (((with_reducible refine no_implicit_lambda% (is_effK ?_)); refine no_implicit_lambda% (aecs ?_))) | (((with_reducible refine no_implicit_lambda% (is_drB ?_)); refine no_implicit_lambda% (b_ends ?_))) | (((with_reducible refine no_implicit_lambda% (is_aop ?_)); refine no_implicit_lambda% (a_stores ?_))) | ((with_reducible refine no_implicit_lambda% (is_aop ?_)); first | (refine no_implicit_lambda% (a_append_tok rfl rfl rfl rfl rfl rfl rfl rfl rfl rfl rfl rfl rfl rfl (by first | rfl | (simp; done)) (fun q hq => by rw [forceH_eq]; exact hq) (by (first | assumption | (intro row hr; simp only [List.mem_cons, List.not_mem_nil, or_false] at hr; rcases hr with rfl | rfl | rfl | rfl <;> rfl) | (intro row hr; simp at hr; done) | (intro row hr; simp only [List.mem_singleton] at hr; subst hr; rfl) | (intro row hr; obtain ⟨_, _, rfl⟩ := List.mem_map.1 hr; rfl))) (by (refine ⟨?_, ?_⟩ <;> (simp only [List.length_map, List.length_append, List.length_cons, List.length_nil]; omega))) ?_))) | fail)
          refine kN j _ _ _ ⟨j1, hie j j2 (fun y h => by rw [hy] at h; cases h)⟩ (.inl ?_)
          (refine no_implicit_lambda% (Conv.toT ?_ ?_ (Nat.le_of_ble_eq_true rfl))); (focus ((unfold plSt); (try dsimp only); exact wkl)); (focus ((unfold plSt); (try dsimp only); exact wkh))
        · have hj : j < d.length := (List.getElem?_eq_some_iff.1 hy).1
          refine no_implicit_lambda% (awd ?_)
          ((with_reducible refine no_implicit_lambda% (is_ev ?_)); refine no_implicit_lambda% (v_split rfl rfl rfl rfl (fun hc => ?_) (fun hc => ?_)) <;> first | exact decx hc | rw [hc])
          refine no_implicit_lambda% (awd ?_)
          ((with_reducible refine no_implicit_lambda% (is_ev ?_)); first | (refine no_implicit_lambda% (v_yesS rfl rfl rfl rfl rfl rfl (fun _ h => h) (fun _ h => h) ?_ ?_)) | (refine no_implicit_lambda% (v_yesS rfl rfl rfl rfl rfl rfl (qAnd2 (fun _ h => h)) (fun _ h => h) ?_ ?_))); focus (first | omega | (simp; done) | (simp; omega))
          refine no_implicit_lambda% (awd ?_)
          ((with_reducible refine no_implicit_lambda% (is_ev ?_)); first | (refine no_implicit_lambda% (v_q rfl rfl rfl rfl (q_loadSeq (sz := 4) (rows := d.map verow) (i := j) (j := 0) rfl rfl rfl rfl rfl (veOk d) ((by rw [List.getElem?_map, hy]; rfl)) rfl (by first | rfl | (simp; done) | (simp; omega))) (fun _ h => h) ?_)) | (refine no_implicit_lambda% (v_yes rfl rfl rfl rfl rfl rfl (q_loadSeq (sz := 4) (rows := d.map verow) (i := j) (j := 0) rfl rfl rfl rfl rfl (veOk d) ((by rw [List.getElem?_map, hy]; rfl)) rfl (by first | rfl | (simp; done) | (simp; omega))) (fun _ h => h) ?_)))
          refine no_implicit_lambda% (awd ?_)
          ((with_reducible refine no_implicit_lambda% (is_drB ?_)); refine no_implicit_lambda% (b_ends ?_))
          repeat' (first | (refine no_implicit_lambda% (awd1 ?_)) | (((with_reducible refine no_implicit_lambda% (is_aops ?_)); refine no_implicit_lambda% (o_split rfl rfl rfl (fun hc => ?_) (fun hc => ?_)) <;> first | exact decx hc | rw [hc])) | (((with_reducible refine no_implicit_lambda% (is_cond ?_)); refine no_implicit_lambda% (c_cond rfl (fun hc => ?_) (fun hc => ?_)) <;> first | exact decx hc | skip)) | (((with_reducible refine no_implicit_lambda% (is_aop ?_)); refine no_implicit_lambda% (a_pick rfl rfl (fun hc => ?_) (fun hc => ?_)) <;> first | exact decx hc | rw [hc])) | (refine no_implicit_lambda% (ans ?_)) | (with_reducible exact retN) | (with_reducible exact retP) | fail | fail)
          · (refine no_implicit_lambda% (k_loopE (L2 := (plSt t v o1 nm o2 cp (.arr 6 0 vs.length cpv) d cpv (j + 1)).L) (j + 1) 0 (List.range 300) (by show j + 1 ≤ d.length ∧ ∀ z ∈ d.take (j + 1), t < z.t; exact ⟨hj, by rw [List.take_add_one, hy]; intro z hz; rcases List.mem_append.1 hz with hz | hz; exact j2 z hz; rw [List.mem_singleton.1 hz]; exact of_decide_eq_true hc⟩) (by first | omega | (simp; done) | (simp; omega)) (Nat.le_of_ble_eq_true rfl) (fun _ h => h) (by (unfold plSt; simp only [renH, Res.ren, ren_nrows]; rfl)) ?_ ?_)); (focus ((try dsimp only); exact wkl)); (focus ((try dsimp only); exact wkh))
          · refine kN j _ _ _ ⟨j1, hie j j2 (fun z h => by rw [hy] at h; cases h; exact of_decide_eq_false hc)⟩ (.inl ?_)
            (refine no_implicit_lambda% (Conv.toT ?_ ?_ (Nat.le_of_ble_eq_true rfl))); (focus ((unfold plSt); (try dsimp only); exact wkl)); (focus ((unfold plSt); (try dsimp only); exact wkh))
  · first | (exact retN) | (exact retP)
end Go.Proofs.YtjepgbpcpcahgaaGreat
namespace Go.Proofs.YtjepgbpcpcahgaaGreat
open Go.Am
set_option linter.unusedSimpArgs false
set_option linter.unusedVariables false
set_option maxRecDepth 100000
def putR (r : List Co) (s : ByteArray) (t : Int) (v : Va) : Int × List Co := if nmB s && tmOk t && vRt v then (if hasN (copyR r) s = false ∧ (copyR r).length = 4 then (13, []) else (0, putA (copyR r) s ⟨t, canV v⟩)) else (1, [])
theorem canE_can (t : Int) (v : Va) : canE ⟨t, canV v⟩ = ⟨t, canV v⟩ := by unfold canE; simp [canV_idem]
theorem has_at {o : List Co} {s : ByteArray} (h : hasN o s = true) : ∃ c, o[npos o s]? = some c := by
  unfold hasN at h
  split at h
  · exact ⟨_, by assumption⟩
  · cases h
theorem put_fine {o : List Co} (h : Fine o) {s : ByteArray} (hn : nmB s = true) {t : Int} {v : Va} (ht : tmOk t = true) (hv : vRt v = true) (hl : ¬ (hasN o s = false ∧ o.length = 4)) : Fine (putA o s ⟨t, canV v⟩) := by
  unfold putA
  rcases hN : hasN o s with _ | _
  · have h4 := h.len
    rw [if_neg (by simp)]
    exact ins_fine h hn hN (by rw [hN] at hl; simp at hl; omega) ht (vRt_can v hv) (canE_can t v)
  · obtain ⟨c, hc⟩ := has_at hN
    rw [if_pos rfl, hc]
    exact set_fine h hc ht (vRt_can v hv) (canE_can t v)
theorem put_sz {o : List Co} (h : RowSz o) {s : ByteArray} {t : Int} {v : Va} (hv : v.b.length < 1073741824 ∧ v.n < 18446744073709551616) : RowSz (putA o s ⟨t, canV v⟩) := by
  have hcv := canV_sz hv.1 hv.2
  unfold putA
  split
  · split
    · rename_i c hc
      intro d hd y hy
      rcases List.mem_or_eq_of_mem_set hd with hd | rfl
      · exact h d hd y hy
      · have hy2 := List.mem_of_mem_take hy
        unfold insV at hy2
        rcases List.mem_append.1 hy2 with hy3 | hy3
        · exact h c (List.mem_of_getElem? hc) y (List.mem_filter.1 hy3).1
        · rcases List.mem_cons.1 hy3 with rfl | hy3
          · exact hcv
          · exact h c (List.mem_of_getElem? hc) y (List.mem_filter.1 hy3).1
    · exact h
  · intro d hd y hy
    unfold insAt at hd
    rcases List.mem_append.1 hd with hd | hd
    · exact h d (List.mem_of_mem_take hd) y hy
    · rcases List.mem_cons.1 hd with rfl | hd
      · rw [List.mem_singleton.1 hy]; exact hcv
      · exact h d (List.mem_of_mem_drop hd) y hy
theorem putR_sz {r : List Co} (h : RowSz r) {s : ByteArray} {t : Int} {v : Va} (hv : v.b.length < 1073741824 ∧ v.n < 18446744073709551616) : RowSz (putR r s t v).2 := by
  unfold putR
  split
  · split
    · intro c hc; cases hc
    · exact put_sz (copy_sz h) hv
  · intro c hc; cases hc
theorem putR_fine (r : List Co) (s : ByteArray) (t : Int) (v : Va) : Fine (putR r s t v).2 := by
  have h0 : Fine [] := ⟨by simp, fun c hc => (by cases hc), fun c hc => (by cases hc), List.Pairwise.nil⟩
  unfold putR
  split
  · rename_i h
    simp only [Bool.and_eq_true] at h
    split
    · exact h0
    · exact put_fine (copy_fine r) h.1.1 h.1.2 h.2 (by assumption)
  · exact h0
def PutRR (q : Int × List Co) (out : AOut) (H' : Heap) : Prop := out = .ret (.tuple [rowA q.2, .v (.int .i64 q.1)]) ∧ H' = []
set_option maxHeartbeats 3200000 in
theorem put_c (r : List Co) (s : ByteArray) (t : Int) (v : Va) (hr : r.length < 70368744177664) (hs : RowSz r) (hv : v.b.length < 1073741824 ∧ v.n < 18446744073709551616) : ACalls Tryz.prog 21 0 9000 [rowA r, .v (.string s), .v (.int .i64 t), vav v] [] (PutRR (putR r s t v)) := by
  have hnm := name_c s
  have hvr : ACalls Tryz.prog 62 0 10 [vav v] [] (fun out H' => out = .ret (.v (.bool (vRt v))) ∧ H' = []) := vright_c v
  have hso := copy_sort r
  have h4 := copy_len r
  have hz := copy_sz hs
  have hfi := copy_fine r
  have hpf := putR_fine r s t v
  have hpz := putR_sz (s := s) (t := t) hs hv
  have hbad : (nmB s && tmOk t && vRt v) = false → putR r s t v = (1, []) := fun h => by unfold putR; rw [h]; rfl
  have hgood : (nmB s && tmOk t && vRt v) = true → putR r s t v = (if hasN (copyR r) s = false ∧ (copyR r).length = 4 then (13, []) else (0, putA (copyR r) s ⟨t, canV v⟩)) := fun h => by unfold putR; rw [if_pos h]
  have hcn := copy_n r hr hs
  have hcg := fun g hg => copy_g r g hg hr hs
  generalize putR r s t v = Q at *
  generalize copyR r = o at *
  refine no_implicit_lambda% (acalls_of tok dok (f := 21) ⟨Tryz.func21, rfl, by kernel_rfl⟩ ?_); refine no_implicit_lambda% (c_start (fun _ h => h) ?_)
  repeat' (first | (refine no_implicit_lambda% (awd1 ?_)) | (((with_reducible refine no_implicit_lambda% (is_aops ?_)); refine no_implicit_lambda% (o_split rfl rfl rfl (fun hc => ?_) (fun hc => ?_)) <;> first | exact decx hc | rw [hc])) | (((with_reducible refine no_implicit_lambda% (is_cond ?_)); refine no_implicit_lambda% (c_cond rfl (fun hc => ?_) (fun hc => ?_)) <;> first | exact decx hc | skip)) | (((with_reducible refine no_implicit_lambda% (is_aop ?_)); refine no_implicit_lambda% (a_pick rfl rfl (fun hc => ?_) (fun hc => ?_)) <;> first | exact decx hc | rw [hc])) | (refine no_implicit_lambda% (ans ?_)) | (with_reducible exact retN) | (with_reducible exact retP) | (refine no_implicit_lambda% (cal [] (hnm) ?_ ?_)) | (refine no_implicit_lambda% (cal [] (hvr) ?_ ?_)) | fail)
  iterate 4
    · have hb : Q = (1, []) := hbad (by unfold tmOk; simp only [Bool.not_eq_true', Bool.not_eq_false', decide_eq_true_eq, decide_eq_false_iff_not] at *; rw [Bool.eq_false_iff]; intro h; simp only [Bool.and_eq_true, decide_eq_true_eq] at h; first | omega | (simp_all; done))
      subst hb
      refine e_ret_to (H' := []) (rest := _) (Conv.toT (τ := ⟨_, [(3, .box [.list [] .free])], _⟩) (.refl _) ?_ (Nat.le_refl _)) rfl ⟨rfl, rfl⟩ (.of_eq rfl) (Nat.le_of_ble_eq_true rfl)
      exact wkh
  have hq := hgood (by unfold tmOk; simp only [Bool.not_eq_true', Bool.not_eq_false', decide_eq_true_eq, decide_eq_false_iff_not] at *; simp only [Bool.and_eq_true, decide_eq_true_eq]; refine ⟨⟨by assumption, by omega⟩, by assumption⟩)
  rcases hN : hasN o s with _ | _
  · (refine no_implicit_lambda% (cal [] (hcn) ?_ ?_))
    · intro xx H' hh
      obtain ⟨cp, c1, c2, h', rfl⟩ := hh
      cases h'
      first | (refine no_implicit_lambda% (akc ?_)) | (refine no_implicit_lambda% (aec ?_))
      have hf := find_o o s cp (by omega) hso
      rw [hN] at hf
      repeat' (first | (refine no_implicit_lambda% (awd1 ?_)) | (((with_reducible refine no_implicit_lambda% (is_aops ?_)); refine no_implicit_lambda% (o_split rfl rfl rfl (fun hc => ?_) (fun hc => ?_)) <;> first | exact decx hc | rw [hc])) | (((with_reducible refine no_implicit_lambda% (is_cond ?_)); refine no_implicit_lambda% (c_cond rfl (fun hc => ?_) (fun hc => ?_)) <;> first | exact decx hc | skip)) | (((with_reducible refine no_implicit_lambda% (is_aop ?_)); refine no_implicit_lambda% (a_pick rfl rfl (fun hc => ?_) (fun hc => ?_)) <;> first | exact decx hc | rw [hc])) | (refine no_implicit_lambda% (ans ?_)) | (with_reducible exact retN) | (with_reducible exact retP) | fail | fail)
      (refine no_implicit_lambda% (cal [14] (hf) ?_ ?_))
      · refine no_implicit_lambda% (ret1 ?_); first | (refine no_implicit_lambda% (akc ?_)) | (refine no_implicit_lambda% (aec ?_))
        repeat' (first | (refine no_implicit_lambda% (awd1 ?_)) | (((with_reducible refine no_implicit_lambda% (is_aops ?_)); refine no_implicit_lambda% (o_split rfl rfl rfl (fun hc => ?_) (fun hc => ?_)) <;> first | exact decx hc | rw [hc])) | (((with_reducible refine no_implicit_lambda% (is_cond ?_)); refine no_implicit_lambda% (c_cond rfl (fun hc => ?_) (fun hc => ?_)) <;> first | exact decx hc | skip)) | (((with_reducible refine no_implicit_lambda% (is_aop ?_)); refine no_implicit_lambda% (a_pick rfl rfl (fun hc => ?_) (fun hc => ?_)) <;> first | exact decx hc | rw [hc])) | (refine no_implicit_lambda% (ans ?_)) | (with_reducible exact retN) | (with_reducible exact retP) | fail | fail)
        · have hl4 : o.length = 4 := by have := of_decide_eq_true hc; simp only [beq_iff_eq] at *; omega
          rw [if_pos ⟨hN, hl4⟩] at hq
          subst hq
          refine e_ret_to (H' := []) (rest := _) (Conv.toT (τ := ⟨_, [(3, .box [.list [] .free])], _⟩) (.refl _) ?_ (Nat.le_refl _)) rfl ⟨rfl, rfl⟩ (.of_eq rfl) (Nat.le_of_ble_eq_true rfl)
          exact wkh
        · rename_i hc0
          have hl4 : ¬ o.length = 4 := by simp only [beq_eq_false_iff_ne] at *; omega
          have hpl := npos_le o s
          rw [if_neg (fun h => hl4 h.2)] at hq
          have hin := insert_col (o.map corow) [.v (.string s), .list [] .full] (npos o s) cp (coOk o) (.one1 ⟨rfl, rfl, rfl⟩) (by rw [List.length_map]; exact hpl) (by rw [List.length_map]; omega) (by rw [List.length_map]; exact c1) c2
          rw [List.length_map] at hin
          (refine no_implicit_lambda% (calw [14] (hin) ?_ ?_))
          · intro xx H' hh
            obtain ⟨cp', d1, d2, h', rfl⟩ := hh
            cases h'
            first | (refine no_implicit_lambda% (akc ?_)) | (refine no_implicit_lambda% (aec ?_))
            repeat' (first | (refine no_implicit_lambda% (sx1 ?_)) | (((with_reducible refine no_implicit_lambda% (is_aops ?_)); refine no_implicit_lambda% (o_split rfl rfl rfl (fun hc => ?_) (fun hc => ?_)) <;> first | exact decx hc | rw [hc])) | (((with_reducible refine no_implicit_lambda% (is_cond ?_)); refine no_implicit_lambda% (c_cond rfl (fun hc => ?_) (fun hc => ?_)) <;> first | exact decx hc | skip)) | (((with_reducible refine no_implicit_lambda% (is_aop ?_)); refine no_implicit_lambda% (a_pick rfl rfl (fun hc => ?_) (fun hc => ?_)) <;> first | exact decx hc | rw [hc])) | fail)
            have hins : insAt (o.map corow) (npos o s) [.v (.string s), .list [] .full] = nrows (o.take (npos o s)) s (.list [] .full) (o.drop (npos o s)) := by unfold insAt nrows; rw [List.map_take, List.map_drop]
            have hol : (o.take (npos o s)).length = npos o s := by rw [List.length_take]; omega
            have hol2 : (o.take (npos o s)).length + 1 + (o.drop (npos o s)).length = o.length + 1 := by rw [List.length_take, List.length_drop]; omega
            refine ⟨ptSt t v (o.take (npos o s), s, [], o.drop (npos o s), cp', 0), ?_, put_rest t v Q.2 hpf hpz hv.1 _ (fun out H' h => ?_) (o.take (npos o s), s, [], o.drop (npos o s), cp', 0) ⟨by omega, by simp, by simp, by decide, by omega, d2, List.Pairwise.nil, ?_⟩⟩
            · refine SeqTo.renE (n2 := 18) (L2 := [(1, .box [.v (.int .i64 t)]), (2, .box (vrowV v)), (3, .box [.list [] .full]), (15, .box [.arr 16 0 ((o.take (npos o s)).length + 1 + (o.drop (npos o s)).length) cp']), (16, .box (seqC (nrows (o.take (npos o s)) s (.arr 17 0 0 0) (o.drop (npos o s))) ((cp' - ((o.take (npos o s)).length + 1 + (o.drop (npos o s)).length)) * 2))), (17, .seq [] 0)]) 0 [0, 1, 2, 3, 15, 16, 17] (Nat.le_refl 0) (by unfold ptSt; simp only [renH, Res.ren, ren_nrows]; rfl) (fun _ h => h) ?_
              refine (Conv.unseq (id := 16) (rows := insAt (o.map corow) (npos o s) [.v (.string s), .list [] .full]) (k := (cp' - (o.length + 1)) * 2) (by rw [insAt_len _ (by rw [List.length_map]; exact hpl)]; omega) (permT (H := [(16, .seq (insAt (o.map corow) (npos o s) [.v (.string s), .list [] .full]) ((cp' - (o.length + 1)) * 2))]))).trans ?_
              rw [hins]
              refine (Conv.nilBox (n := 17) (id := 16) (j := (o.take (npos o s)).length * 2 + 1) (cells := seqC (nrows (o.take (npos o s)) s (.list [] .full) (o.drop (npos o s))) ((cp' - (o.length + 1)) * 2)) rfl get_nrows).trans ?_
              rw [set_nrows, hol2]
              refine no_implicit_lambda% (Conv.toT ?_ ?_ (Nat.le_of_ble_eq_true rfl))
              · rw [hol]; exact wkl
              · exact wkh
            · exact ⟨by rw [h.1, show Q.1 = 0 by rw [hq]], h.2⟩
            · rw [hq]
              unfold putA
              rw [hN, if_neg (by simp)]
              rfl
          · intro xx H' hh
            obtain ⟨_, _, _, h', _⟩ := hh
            cases h'
      · first | (exact retN) | (exact retP)
    · intro xx H' hh
      obtain ⟨_, _, _, h', _⟩ := hh
      cases h'
  · have hlt := npos_len hN
    (refine no_implicit_lambda% (cal [] (hcg (npos o s) hlt) ?_ ?_))
    · intro xx H' hh
      obtain ⟨cp, cpv, c, hc1, c1, c2, c3, c4, h', rfl⟩ := hh
      cases h'
      have hlc := hfi.len
      have hoc : (o.take (npos o s)).length = npos o s := by rw [List.length_take]; omega
      have hol2 : (o.take (npos o s)).length + 1 + (o.drop (npos o s + 1)).length = o.length := by rw [List.length_take, List.length_drop]; omega
      have hcb := hfi.col c (List.mem_of_getElem? hc1)
      have hcl := col_len hcb
      refine no_implicit_lambda% (akcs (L'' := [(14, .box (seqC (nrows (o.take (npos o s)) c.n (.arr 15 0 c.l.length cpv) (o.drop (npos o s + 1))) ((cp - o.length) * 2))), (15, .seq (c.l.map verow) ((cpv - c.l.length) * 4)), (3, .box [.list [] .full]), (2, .box (vrowV v)), (1, .box [.v (.int .i64 t)]), (0, .box [.list (r.map corow) .free])]) ?_ (hL := fun q hq => by rw [forceHs_eq]; show q (renH _ _ ++ _); simp only [renH, Res.ren, ren_nrows]; exact hq))
      have hf := find_g o s (npos o s) cp cpv c hc1 (by omega) hso
      rw [hN] at hf
      repeat' (first | (refine no_implicit_lambda% (awd1 ?_)) | (((with_reducible refine no_implicit_lambda% (is_aops ?_)); refine no_implicit_lambda% (o_split rfl rfl rfl (fun hc => ?_) (fun hc => ?_)) <;> first | exact decx hc | rw [hc])) | (((with_reducible refine no_implicit_lambda% (is_cond ?_)); refine no_implicit_lambda% (c_cond rfl (fun hc => ?_) (fun hc => ?_)) <;> first | exact decx hc | skip)) | (((with_reducible refine no_implicit_lambda% (is_aop ?_)); refine no_implicit_lambda% (a_pick rfl rfl (fun hc => ?_) (fun hc => ?_)) <;> first | exact decx hc | rw [hc])) | (((with_reducible refine no_implicit_lambda% (is_ev ?_)); refine no_implicit_lambda% (v_split rfl rfl rfl rfl (fun hc => ?_) (fun hc => ?_)) <;> first | exact decx hc | rw [hc])) | (refine no_implicit_lambda% (ans ?_)) | (with_reducible exact retN) | (with_reducible exact retP) | ((with_reducible refine no_implicit_lambda% (ret1 ?_)); first | (refine no_implicit_lambda% (akcs ?_)) | (refine no_implicit_lambda% (aecs ?_))) | fail | (((with_reducible refine no_implicit_lambda% (is_effK ?_)); refine no_implicit_lambda% (aecs ?_))) | (((with_reducible refine no_implicit_lambda% (is_drB ?_)); refine no_implicit_lambda% (b_ends ?_))) | (((with_reducible refine no_implicit_lambda% (is_aop ?_)); refine no_implicit_lambda% (a_stores ?_))) | ((with_reducible refine no_implicit_lambda% (is_aop ?_)); first | (refine no_implicit_lambda% (a_append_tok rfl rfl rfl rfl rfl rfl rfl rfl rfl rfl rfl rfl rfl rfl (by first | rfl | (simp; done)) (fun q hq => by rw [forceH_eq]; exact hq) (by (first | assumption | (intro row hr; simp only [List.mem_cons, List.not_mem_nil, or_false] at hr; rcases hr with rfl | rfl | rfl | rfl <;> rfl) | (intro row hr; simp at hr; done) | (intro row hr; simp only [List.mem_singleton] at hr; subst hr; rfl) | (intro row hr; obtain ⟨_, _, rfl⟩ := List.mem_map.1 hr; rfl))) (by (refine ⟨?_, ?_⟩ <;> (simp only [List.length_map, List.length_append, List.length_cons, List.length_nil]; omega))) ?_))) | fail)
      refine no_implicit_lambda% (cal (H1 := [(14, .box (seqC (nrows (o.take (npos o s)) c.n (.arr 15 0 c.l.length cpv) (o.drop (npos o s + 1))) ((cp - o.length) * 2))), (15, .seq (c.l.map verow) ((cpv - c.l.length) * 4))]) [14, 15] hf ?_ ?_ (heq := by simp only [renH, Res.ren, ren_nrows]; rfl))
      · refine no_implicit_lambda% (ret1 ?_)
        refine no_implicit_lambda% (akcs (L'' := [(14, .box (seqC (nrows (o.take (npos o s)) c.n (.arr 15 0 c.l.length cpv) (o.drop (npos o s + 1))) ((cp - o.length) * 2))), (15, .seq (c.l.map verow) ((cpv - c.l.length) * 4)), (16, .box [.arr 14 0 o.length cp]), (3, .box [.list [] .full]), (2, .box (vrowV v)), (1, .box [.v (.int .i64 t)]), (0, .box [.list (r.map corow) .free])]) ?_ (hL := fun q hq => by rw [forceHs_eq]; show q (renH _ _ ++ _); simp only [renH, Res.ren, ren_nrows]; exact hq))
        repeat' (first | (refine no_implicit_lambda% (sx1 ?_)) | (((with_reducible refine no_implicit_lambda% (is_aops ?_)); refine no_implicit_lambda% (o_split rfl rfl rfl (fun hc => ?_) (fun hc => ?_)) <;> first | exact decx hc | rw [hc])) | (((with_reducible refine no_implicit_lambda% (is_cond ?_)); refine no_implicit_lambda% (c_cond rfl (fun hc => ?_) (fun hc => ?_)) <;> first | exact decx hc | skip)) | (((with_reducible refine no_implicit_lambda% (is_aop ?_)); refine no_implicit_lambda% (a_pick rfl rfl (fun hc => ?_) (fun hc => ?_)) <;> first | exact decx hc | rw [hc])) | fail)
        refine k_seq ?_
        repeat' (first | (refine no_implicit_lambda% (sx1 ?_)) | (((with_reducible refine no_implicit_lambda% (is_aops ?_)); refine no_implicit_lambda% (o_split rfl rfl rfl (fun hc => ?_) (fun hc => ?_)) <;> first | exact decx hc | rw [hc])) | (((with_reducible refine no_implicit_lambda% (is_cond ?_)); refine no_implicit_lambda% (c_cond rfl (fun hc => ?_) (fun hc => ?_)) <;> first | exact decx hc | skip)) | (((with_reducible refine no_implicit_lambda% (is_aop ?_)); refine no_implicit_lambda% (a_pick rfl rfl (fun hc => ?_) (fun hc => ?_)) <;> first | exact decx hc | rw [hc])) | fail)
        refine k_seq ?_
        repeat' (first | (refine no_implicit_lambda% (sx1 ?_)) | (((with_reducible refine no_implicit_lambda% (is_aops ?_)); refine no_implicit_lambda% (o_split rfl rfl rfl (fun hc => ?_) (fun hc => ?_)) <;> first | exact decx hc | rw [hc])) | (((with_reducible refine no_implicit_lambda% (is_cond ?_)); refine no_implicit_lambda% (c_cond rfl (fun hc => ?_) (fun hc => ?_)) <;> first | exact decx hc | skip)) | (((with_reducible refine no_implicit_lambda% (is_aop ?_)); refine no_implicit_lambda% (a_pick rfl rfl (fun hc => ?_) (fun hc => ?_)) <;> first | exact decx hc | rw [hc])) | fail)
        refine ⟨ptSt t v (o.take (npos o s), c.n, c.l, o.drop (npos o s + 1), cp, cpv), ?_, put_rest t v Q.2 hpf hpz hv.1 _ (fun out H' h => ⟨by rw [h.1, show Q.1 = 0 by rw [hq, if_neg (by rw [hN]; simp)]], h.2⟩) (o.take (npos o s), c.n, c.l, o.drop (npos o s + 1), cp, cpv) ⟨by omega, hcl.2, c3, c4, by omega, c2, ?_, ?_⟩⟩
        · refine SeqTo.renE (n2 := 17) (L2 := [(1, .box [.v (.int .i64 t)]), (2, .box (vrowV v)), (3, .box [.list [] .full]), (16, .box [.arr 14 0 ((o.take (npos o s)).length + 1 + (o.drop (npos o s + 1)).length) cp]), (14, .box (seqC (nrows (o.take (npos o s)) c.n (.arr 15 0 c.l.length cpv) (o.drop (npos o s + 1))) ((cp - ((o.take (npos o s)).length + 1 + (o.drop (npos o s + 1)).length)) * 2))), (15, .seq (c.l.map verow) ((cpv - c.l.length) * 4))]) 0 [0, 1, 2, 3, 16, 14, 15] (Nat.le_refl 0) (by unfold ptSt; simp only [renH, Res.ren, ren_nrows]; rfl) (fun _ h => h) ?_
          rw [hol2]
          refine no_implicit_lambda% (Conv.toT ?_ ?_ (Nat.le_of_ble_eq_true rfl))
          · rw [hoc]; exact wkl
          · exact wkh
        · unfold colB at hcb
          simp only [Bool.and_eq_true] at hcb
          exact (vers_to hcb.2).2.1
        · rw [hq, if_neg (by rw [hN]; simp)]
          unfold putA
          rw [hN, if_pos rfl, hc1]
          show _ = o.set (npos o s) (putC c ⟨t, canV v⟩)
          rw [List.set_eq_take_append_cons_drop, if_pos hlt]
          rfl
      · exact retN
    · intro xx H' hh
      obtain ⟨_, _, _, _, _, _, _, _, h', _⟩ := hh
      cases h'
end Go.Proofs.YtjepgbpcpcahgaaGreat
namespace Go.Proofs.YtjepgbpcpcahgaaGreat
open Go.Am
set_option linter.unusedSimpArgs false
set_option linter.unusedVariables false
set_option maxRecDepth 100000
end Go.Proofs.YtjepgbpcpcahgaaGreat
namespace Go.Proofs.YtjepgbpcpcahgaaGreat
open Go.Am
set_option linter.unusedSimpArgs false
set_option linter.unusedVariables false
set_option maxRecDepth 100000
theorem qcopy_n (r : List Co) (hr : r.length < 70368744177664) (hs : RowSz r) : ACalls Tryz.prog 23 0 1 [rowA r] [] (CN (copyR r)) :=
  (qcopy_s r hr hs).ren (Nat.zero_le _) fun out H' hh => by
    obtain ⟨id, cp, h0, h1, h2, rfl, rfl⟩ := hh
    refine ⟨[id], .ret (.agg [.arr 0 0 (copyR r).length cp]), [(0, .seq ((copyR r).map corow) ((cp - (copyR r).length) * 2))], by simp, (fun i h => by simp at h; omega), (fun i h => absurd h (Nat.not_lt_zero i)), Nat.le_refl _, ?_, ?_, cp, h1, h2, rfl, rfl⟩
    · simp [AOut.ren, AV.ren, AV.renL, rn]
    · simp [renH, Res.ren, rn]
theorem qfind_o (o : List Co) (s : ByteArray) (cp : Nat) (hl : o.length < 1000000) (hs : Nsort o) : ACalls Tryz.prog 60 1 1 [.agg [.arr 0 0 o.length cp], .v (.string s)] [(0, .seq (o.map corow) ((cp - o.length) * 2))] (fun out H' => out = .ret (.tuple [.v (.int .i64 (npos o s)), .v (.bool (hasN o s))]) ∧ H' = [(0, .seq (o.map corow) ((cp - o.length) * 2))]) :=
  ((qfind_f o s hl hs).borrow (k := 1) (top := 1) (args := [.agg [.arr 0 0 o.length cp], .v (.string s)]) (H := [(0, .seq (o.map corow) ((cp - o.length) * 2))]) rfl (fun out H' hh => by obtain ⟨rfl, rfl⟩ := hh; rfl) (fun i a' ha => by
    match i with
    | 0 =>
      simp at ha; subst ha
      refine ⟨_, rfl, .agg rfl fun j b hb => ?_⟩
      match j with
      | 0 =>
        simp at hb; subst hb
        exact ⟨_, rfl, .seq (k := (cp - o.length) * 2) (by simp) (coOk o) (by simp)⟩
      | j + 1 => simp at hb
    | 1 =>
      simp at ha; subst ha
      exact ⟨_, rfl, .data rfl⟩
    | i + 2 => simp at ha)).mono fun out H' hh => by
      obtain ⟨⟨_, h1, _⟩, h2⟩ := hh
      exact ⟨h1, h2⟩
theorem ins_eq2 {l : List Ve} {x : Ve} {j : Nat} (hs : Vsort l) (h1 : ∀ y ∈ l.take j, x.t < y.t) (h2 : ∀ y, l[j]? = some y → ¬ x.t < y.t) : l.take j ++ x :: dropV (l.drop j) x.t = insV l x := by
  have hB : ∀ y ∈ l.drop j, y.t ≤ x.t := fun y hy => by
    obtain ⟨i, hi⟩ := List.getElem?_of_mem hy
    rw [List.getElem?_drop] at hi
    obtain ⟨z, hz⟩ : ∃ z, l[j]? = some z := ⟨_, List.getElem?_eq_getElem (by have := (List.getElem?_eq_some_iff.1 hi).1; omega)⟩
    have hz1 := h2 z hz
    rcases Nat.eq_zero_or_pos i with rfl | h0
    · rw [Nat.add_zero, hz] at hi
      cases hi; omega
    · have := List.pairwise_iff_getElem.1 hs j (j + i) (List.getElem?_eq_some_iff.1 hz).1 (List.getElem?_eq_some_iff.1 hi).1 (by omega)
      rw [(List.getElem?_eq_some_iff.1 hz).2, (List.getElem?_eq_some_iff.1 hi).2] at this
      omega
  have e1 : l.filter (fun y => decide (x.t < y.t)) = l.take j := by
    conv => lhs; rw [← List.take_append_drop j l]
    rw [List.filter_append, List.filter_eq_self.2 fun y hy => decide_eq_true (h1 y hy), List.filter_eq_nil_iff.2 fun y hy => by have := hB y hy; simp; omega, List.append_nil]
  have e2 : l.filter (fun y => decide (y.t < x.t)) = dropV (l.drop j) x.t := by
    conv => lhs; rw [← List.take_append_drop j l]
    rw [List.filter_append, List.filter_eq_nil_iff.2 fun y hy => by have := h1 y hy; simp; omega, List.nil_append]
    unfold dropV
    exact List.filter_congr fun y hy => decide_eq_decide.2 (by have := hB y hy; omega)
  unfold insV
  rw [e1, e2]
def qtSt (t : Int) (v : Va) (F0 : List Co) (cp i : Nat) : ASt := ⟨([.dead, .dead, .v (.int .i64 t), .dead, .dead, .dead, .dead, .ptr 0 0, .ptr 1 0, .dead, .ptr 2 0, .v (.int .i64 i)] ++ List.replicate 119 .dead), [(0, .box (vrowV v)), (1, .box [.list [] .full]), (2, .box [.arr 3 0 F0.length cp]), (3, .seq (F0.map corow) ((cp - F0.length) * 2))], 4⟩
def q1St (t : Int) (v : Va) (F0 : List Co) (cp i : Nat) (l q : List Ve) (k : Nat) : ASt := ⟨([.dead, .dead, .v (.int .i64 t), .dead, .dead, .dead, .dead, .ptr 0 0, .ptr 1 0, .dead, .ptr 2 0, .v (.int .i64 i), .dead, .list (l.map verow) .free, .list (q.map verow) (.tok 4), .v (.int .i64 k)] ++ List.replicate 115 .dead), [(4, .tok 4 q.length), (0, .box (vrowV v)), (1, .box [.list [] .full]), (2, .box [.arr 3 0 F0.length cp]), (3, .seq (F0.map corow) ((cp - F0.length) * 2))], 90⟩
def q2St (t : Int) (v : Va) (F0 : List Co) (cp i : Nat) (l q : List Ve) (k : Nat) : ASt := ⟨([.dead, .dead, .v (.int .i64 t), .dead, .dead, .dead, .dead, .ptr 0 0, .ptr 1 0, .dead, .ptr 2 0, .v (.int .i64 i), .dead, .list (l.map verow) .free, .list (q.map verow) (.tok 4), .v (.int .i64 k)] ++ List.replicate 115 .dead), [(4, .tok 4 q.length), (0, .box (vrowV v)), (1, .box [.list [] .full]), (2, .box [.arr 3 0 F0.length cp]), (3, .seq (F0.map corow) ((cp - F0.length) * 2))], 100⟩
theorem dropV_take {l : List Ve} {k : Nat} {y : Ve} {t : Int} (h : l[k]? = some y) : dropV (l.take (k + 1)) t = dropV (l.take k) t ++ (if y.t = t then [] else [y]) := by
  rw [List.take_add_one, h]
  exact dropV_snoc _ _ _
def q3St (t : Int) (v : Va) (F0 : List Co) (cp i : Nat) (q : List Ve) : ASt := ⟨(List.replicate 8 .dead ++ [.ptr 1 0, .dead, .ptr 2 0, .v (.int .i64 i), .dead, .dead, .list (q.map verow) .free] ++ List.replicate 116 .dead), [(1, .box [.list [] .full]), (2, .box [.arr 3 0 F0.length cp]), (3, .seq (F0.map corow) ((cp - F0.length) * 2))], 200⟩
set_option maxHeartbeats 3200000 in
theorem qput_rest (t : Int) (v : Va) (hv : v.b.length < 1073741824 ∧ v.n < 18446744073709551616) (R : AOut → Heap → Prop) (F F0 : List Co) (cp i : Nat) (c : Co) (hR : ∀ out H', putQ F out H' → R out H') (h4 : F0.length ≤ 4) (hFc : F0[i]? = some c) (hvs : Vsort c.l) (hl2 : c.l.length ≤ 2) (h1 : F0.length ≤ cp) (h2 : cp ≤ maxLen) (hF : F0.set i (putC c ⟨t, canV v⟩) = F) :
    acode Tryz.prog TT { run := DD, low := fun N => 0 ≤ N } (seqTail 5 (Tryz.f19.body.getD .skip)) (qtSt t v F0 cp i).slots (qtSt t v F0 cp i).L (qtSt t v F0 cp i).next (aend Tryz.prog TT (Tryz.f19.results.toList) 9000 R) := by
  have hi : i < F0.length := (List.getElem?_eq_some_iff.1 hFc).1
  have hcn := refCanon_c v (by omega) hv.2
  refine c_turn (n' := 4) (fun _ h => h) (fun _ h => h) rfl ?_
  refine c_seq ?_
  repeat' (first | (refine no_implicit_lambda% (awd1 ?_)) | (((with_reducible refine no_implicit_lambda% (is_aops ?_)); refine no_implicit_lambda% (o_split rfl rfl rfl (fun hc => ?_) (fun hc => ?_)) <;> first | exact decx hc | rw [hc])) | (((with_reducible refine no_implicit_lambda% (is_cond ?_)); refine no_implicit_lambda% (c_cond rfl (fun hc => ?_) (fun hc => ?_)) <;> first | exact decx hc | skip)) | (((with_reducible refine no_implicit_lambda% (is_aop ?_)); refine no_implicit_lambda% (a_pick rfl rfl (fun hc => ?_) (fun hc => ?_)) <;> first | exact decx hc | rw [hc])) | (refine no_implicit_lambda% (ans ?_)) | (with_reducible exact retN) | (with_reducible exact retP) | fail | fail)
  ((with_reducible refine no_implicit_lambda% (is_aop ?_)); first | (refine no_implicit_lambda% (a_qS rfl (fun _ h => h) ?_ ?_)) | (refine no_implicit_lambda% (a_qS rfl (qIx (fun _ h => h)) ?_ ?_)) | (refine no_implicit_lambda% (a_qS rfl (qAnd5 (fun _ h => h)) ?_ ?_)) | (refine no_implicit_lambda% (a_qS rfl (qStr (fun _ h => h)) ?_ ?_)) | (refine no_implicit_lambda% (a_qS rfl (qAnd4 (fun _ h => h)) ?_ ?_)) | (refine no_implicit_lambda% (a_qS rfl (qAnd2 (fun _ h => h)) ?_ ?_))); focus (first | omega | (simp; done) | (simp; omega))
  repeat' (first | (refine no_implicit_lambda% (awd1 ?_)) | (((with_reducible refine no_implicit_lambda% (is_aops ?_)); refine no_implicit_lambda% (o_split rfl rfl rfl (fun hc => ?_) (fun hc => ?_)) <;> first | exact decx hc | rw [hc])) | (((with_reducible refine no_implicit_lambda% (is_cond ?_)); refine no_implicit_lambda% (c_cond rfl (fun hc => ?_) (fun hc => ?_)) <;> first | exact decx hc | skip)) | (((with_reducible refine no_implicit_lambda% (is_aop ?_)); refine no_implicit_lambda% (a_pick rfl rfl (fun hc => ?_) (fun hc => ?_)) <;> first | exact decx hc | rw [hc])) | (refine no_implicit_lambda% (ans ?_)) | (with_reducible exact retN) | (with_reducible exact retP) | fail | fail)
  ((with_reducible refine no_implicit_lambda% (is_aop ?_)); refine no_implicit_lambda% (a_loadSeq (sz := 2) (rows := F0.map corow) (i := i) (j := 1) rfl rfl rfl rfl rfl (coOk F0) ((by rw [List.getElem?_map, hFc]; rfl)) rfl (by first | rfl | (simp; done) | (simp; omega)) ?_))
  repeat' (first | (refine no_implicit_lambda% (sx1 ?_)) | (((with_reducible refine no_implicit_lambda% (is_aops ?_)); refine no_implicit_lambda% (o_split rfl rfl rfl (fun hc => ?_) (fun hc => ?_)) <;> first | exact decx hc | rw [hc])) | (((with_reducible refine no_implicit_lambda% (is_cond ?_)); refine no_implicit_lambda% (c_cond rfl (fun hc => ?_) (fun hc => ?_)) <;> first | exact decx hc | skip)) | (((with_reducible refine no_implicit_lambda% (is_aop ?_)); refine no_implicit_lambda% (a_pick rfl rfl (fun hc => ?_) (fun hc => ?_)) <;> first | exact decx hc | rw [hc])) | fail)
  refine k_seq ?_
  repeat' (first | (refine no_implicit_lambda% (sx1 ?_)) | (((with_reducible refine no_implicit_lambda% (is_aops ?_)); refine no_implicit_lambda% (o_split rfl rfl rfl (fun hc => ?_) (fun hc => ?_)) <;> first | exact decx hc | rw [hc])) | (((with_reducible refine no_implicit_lambda% (is_cond ?_)); refine no_implicit_lambda% (c_cond rfl (fun hc => ?_) (fun hc => ?_)) <;> first | exact decx hc | skip)) | (((with_reducible refine no_implicit_lambda% (is_aop ?_)); refine no_implicit_lambda% (a_pick rfl rfl (fun hc => ?_) (fun hc => ?_)) <;> first | exact decx hc | rw [hc])) | fail)
  refine k_seq ?_
  repeat' (first | (refine no_implicit_lambda% (sx1 ?_)) | (((with_reducible refine no_implicit_lambda% (is_aops ?_)); refine no_implicit_lambda% (o_split rfl rfl rfl (fun hc => ?_) (fun hc => ?_)) <;> first | exact decx hc | rw [hc])) | (((with_reducible refine no_implicit_lambda% (is_cond ?_)); refine no_implicit_lambda% (c_cond rfl (fun hc => ?_) (fun hc => ?_)) <;> first | exact decx hc | skip)) | (((with_reducible refine no_implicit_lambda% (is_aop ?_)); refine no_implicit_lambda% (a_pick rfl rfl (fun hc => ?_) (fun hc => ?_)) <;> first | exact decx hc | rw [hc])) | fail)
  refine k_seq ?_
  refine c_seq ?_
  -- behind the first loop
  refine c_cutR (fun j => q1St t v F0 cp i c.l (c.l.take j) j) (fun j => j ≤ c.l.length ∧ c.l.take j ++ ⟨t, canV v⟩ :: dropV (c.l.drop j) t = insV c.l ⟨t, canV v⟩) ?_ ?_
  · rintro j ⟨j1, j2⟩
    refine c_turn (n' := 90) (fun _ h => h) (fun _ h => h) rfl ?_
    have hlj : (c.l.take j).length ≤ 2 := by rw [List.length_take]; omega
    repeat' (first | (refine no_implicit_lambda% (awd1 ?_)) | (((with_reducible refine no_implicit_lambda% (is_aops ?_)); refine no_implicit_lambda% (o_split rfl rfl rfl (fun hc => ?_) (fun hc => ?_)) <;> first | exact decx hc | rw [hc])) | (((with_reducible refine no_implicit_lambda% (is_cond ?_)); refine no_implicit_lambda% (c_cond rfl (fun hc => ?_) (fun hc => ?_)) <;> first | exact decx hc | skip)) | (((with_reducible refine no_implicit_lambda% (is_aop ?_)); refine no_implicit_lambda% (a_pick rfl rfl (fun hc => ?_) (fun hc => ?_)) <;> first | exact decx hc | rw [hc])) | (refine no_implicit_lambda% (ans ?_)) | (with_reducible exact retN) | (with_reducible exact retP) | (refine no_implicit_lambda% (cal [] (hcn) ?_ ?_)) | fail)
    refine c_loop2 (fun q k => q2St t v F0 cp i c.l q k) (fun q k => j ≤ k ∧ k ≤ c.l.length ∧ q = c.l.take j ++ ⟨t, canV v⟩ :: dropV ((c.l.drop j).take (k - j)) t) (fun _ k => c.l.length - k) (c.l.take j ++ [⟨t, canV v⟩]) j ⟨Nat.le_refl _, j1, by simp [dropV]⟩ ?_ ?_
    · (refine no_implicit_lambda% (Conv.toT ?_ ?_ (Nat.le_of_ble_eq_true rfl))); (focus ((unfold q2St); (try dsimp only); exact wkl)); (focus ((unfold q2St); (try dsimp only); exact wkh))
    · rintro q k ⟨k1, k2, hq⟩
      refine c_turn (n' := 100) (fun _ h => h) (fun _ h => h) rfl ?_
      have hdl := dropV_len ((c.l.drop j).take (k - j)) t
      have hql : q.length ≤ 3 := by
        rw [hq, List.length_append, List.length_cons]
        simp only [List.length_take, List.length_drop] at *
        omega
      rcases hy : c.l[k]? with _ | y
      · have hk : k = c.l.length := by have := List.getElem?_eq_none_iff.1 hy; omega
        have hqp : q.take 2 = putV c.l ⟨t, canV v⟩ := by
          unfold putV
          have e : (c.l.drop j).take (c.l.length - j) = c.l.drop j := List.take_of_length_le (by rw [List.length_drop]; omega)
          rw [hq, hk, e, j2]
        repeat' (first | (refine no_implicit_lambda% (sx1 ?_)) | (((with_reducible refine no_implicit_lambda% (is_aops ?_)); refine no_implicit_lambda% (o_split rfl rfl rfl (fun hc => ?_) (fun hc => ?_)) <;> first | exact decx hc | rw [hc])) | (((with_reducible refine no_implicit_lambda% (is_cond ?_)); refine no_implicit_lambda% (c_cond rfl (fun hc => ?_) (fun hc => ?_)) <;> first | exact decx hc | skip)) | (((with_reducible refine no_implicit_lambda% (is_aop ?_)); refine no_implicit_lambda% (a_pick rfl rfl (fun hc => ?_) (fun hc => ?_)) <;> first | exact decx hc | rw [hc])) | fail)
        refine k_seq ?_
        repeat' (first | (refine no_implicit_lambda% (sx1 ?_)) | (((with_reducible refine no_implicit_lambda% (is_aops ?_)); refine no_implicit_lambda% (o_split rfl rfl rfl (fun hc => ?_) (fun hc => ?_)) <;> first | exact decx hc | rw [hc])) | (((with_reducible refine no_implicit_lambda% (is_cond ?_)); refine no_implicit_lambda% (c_cond rfl (fun hc => ?_) (fun hc => ?_)) <;> first | exact decx hc | skip)) | (((with_reducible refine no_implicit_lambda% (is_aop ?_)); refine no_implicit_lambda% (a_pick rfl rfl (fun hc => ?_) (fun hc => ?_)) <;> first | exact decx hc | rw [hc])) | fail)
        refine k_seq ?_
        repeat' (first | (refine no_implicit_lambda% (sx1 ?_)) | (((with_reducible refine no_implicit_lambda% (is_aops ?_)); refine no_implicit_lambda% (o_split rfl rfl rfl (fun hc => ?_) (fun hc => ?_)) <;> first | exact decx hc | rw [hc])) | (((with_reducible refine no_implicit_lambda% (is_cond ?_)); refine no_implicit_lambda% (c_cond rfl (fun hc => ?_) (fun hc => ?_)) <;> first | exact decx hc | skip)) | (((with_reducible refine no_implicit_lambda% (is_aop ?_)); refine no_implicit_lambda% (a_pick rfl rfl (fun hc => ?_) (fun hc => ?_)) <;> first | exact decx hc | rw [hc])) | fail)
        refine k_seq ?_
        refine c_cutR (fun _ : Unit => q3St t v F0 cp i (putV c.l ⟨t, canV v⟩)) (fun _ => True) ?_ ?_
        · rintro _ _
          have hFl : F.length = F0.length := by rw [← hF]; exact List.length_set ..
          refine c_turn (n' := 200) (fun _ h => h) (fun _ h => h) rfl ?_
          repeat' (first | (refine no_implicit_lambda% (awd1 ?_)) | (((with_reducible refine no_implicit_lambda% (is_aops ?_)); refine no_implicit_lambda% (o_split rfl rfl rfl (fun hc => ?_) (fun hc => ?_)) <;> first | exact decx hc | rw [hc])) | (((with_reducible refine no_implicit_lambda% (is_cond ?_)); refine no_implicit_lambda% (c_cond rfl (fun hc => ?_) (fun hc => ?_)) <;> first | exact decx hc | skip)) | (((with_reducible refine no_implicit_lambda% (is_aop ?_)); refine no_implicit_lambda% (a_pick rfl rfl (fun hc => ?_) (fun hc => ?_)) <;> first | exact decx hc | rw [hc])) | (refine no_implicit_lambda% (ans ?_)) | (with_reducible exact retN) | (with_reducible exact retP) | fail | fail)
          ((with_reducible refine no_implicit_lambda% (is_aop ?_)); first | (refine no_implicit_lambda% (a_qS rfl (fun _ h => h) ?_ ?_)) | (refine no_implicit_lambda% (a_qS rfl (qIx (fun _ h => h)) ?_ ?_)) | (refine no_implicit_lambda% (a_qS rfl (qAnd5 (fun _ h => h)) ?_ ?_)) | (refine no_implicit_lambda% (a_qS rfl (qStr (fun _ h => h)) ?_ ?_)) | (refine no_implicit_lambda% (a_qS rfl (qAnd4 (fun _ h => h)) ?_ ?_)) | (refine no_implicit_lambda% (a_qS rfl (qAnd2 (fun _ h => h)) ?_ ?_))); focus (first | omega | (simp; done) | (simp; omega))
          repeat' (first | (refine no_implicit_lambda% (awd1 ?_)) | (((with_reducible refine no_implicit_lambda% (is_aops ?_)); refine no_implicit_lambda% (o_split rfl rfl rfl (fun hc => ?_) (fun hc => ?_)) <;> first | exact decx hc | rw [hc])) | (((with_reducible refine no_implicit_lambda% (is_cond ?_)); refine no_implicit_lambda% (c_cond rfl (fun hc => ?_) (fun hc => ?_)) <;> first | exact decx hc | skip)) | (((with_reducible refine no_implicit_lambda% (is_aop ?_)); refine no_implicit_lambda% (a_pick rfl rfl (fun hc => ?_) (fun hc => ?_)) <;> first | exact decx hc | rw [hc])) | (refine no_implicit_lambda% (ans ?_)) | (with_reducible exact retN) | (with_reducible exact retP) | fail | fail)
          ((with_reducible refine no_implicit_lambda% (is_aop ?_)); refine no_implicit_lambda% (a_storeSeq (sz := 2) (rows := F0.map corow) (i := i) (j := 1) (row' := [.v (.string c.n), .list ((putV c.l ⟨t, canV v⟩).map verow) .free]) rfl rfl rfl (fun _ h => h) rfl rfl (coOk F0) ((by rw [List.getElem?_map, hFc]; rfl)) (by first | decide | (simp; done)) (by first | rfl | (simp; done)) (by first | rfl | (simp; done) | (simp; omega)) ?_))
          rw [show (F0.map corow).set i [.v (.string c.n), .list ((putV c.l ⟨t, canV v⟩).map verow) .free] = F.map corow by rw [← hF, List.map_set]; rfl]
          repeat' (first | (refine no_implicit_lambda% (awd1 ?_)) | (((with_reducible refine no_implicit_lambda% (is_aops ?_)); refine no_implicit_lambda% (o_split rfl rfl rfl (fun hc => ?_) (fun hc => ?_)) <;> first | exact decx hc | rw [hc])) | (((with_reducible refine no_implicit_lambda% (is_cond ?_)); refine no_implicit_lambda% (c_cond rfl (fun hc => ?_) (fun hc => ?_)) <;> first | exact decx hc | skip)) | (((with_reducible refine no_implicit_lambda% (is_aop ?_)); refine no_implicit_lambda% (a_pick rfl rfl (fun hc => ?_) (fun hc => ?_)) <;> first | exact decx hc | rw [hc])) | (refine no_implicit_lambda% (ans ?_)) | (with_reducible exact retN) | (with_reducible exact retP) | fail | fail)
          exact e_ret_to (H' := []) (rest := _) (Conv.freezeBox (j := 0) (id := 3) (bid := 1) (sz := 2) (rows := F.map corow) (k := (cp - F0.length) * 2) (m := F0.length) (cp := cp) (cells := [.arr 3 0 F0.length cp]) (permT (H := [(3, .seq (F.map corow) ((cp - F0.length) * 2)), (1, .box [.arr 3 0 F0.length cp])])) rfl (coOk F) (by rw [List.length_map, hFl])) rfl (hR _ _ ⟨rfl, rfl⟩) (.of_eq (by simp; rfl)) (Nat.le_of_ble_eq_true rfl)
        · intro Kx kN kP kR kE
          repeat' (first | (refine no_implicit_lambda% (awd1 ?_)) | (((with_reducible refine no_implicit_lambda% (is_aops ?_)); refine no_implicit_lambda% (o_split rfl rfl rfl (fun hc => ?_) (fun hc => ?_)) <;> first | exact decx hc | rw [hc])) | (((with_reducible refine no_implicit_lambda% (is_cond ?_)); refine no_implicit_lambda% (c_cond rfl (fun hc => ?_) (fun hc => ?_)) <;> first | exact decx hc | skip)) | (((with_reducible refine no_implicit_lambda% (is_aop ?_)); refine no_implicit_lambda% (a_pick rfl rfl (fun hc => ?_) (fun hc => ?_)) <;> first | exact decx hc | rw [hc])) | (refine no_implicit_lambda% (ans ?_)) | (with_reducible exact retN) | (with_reducible exact retP) | fail | fail)
          · have hq3 : 2 ≤ q.length := by have := of_decide_eq_true hc; rw [List.length_map] at this; omega
            ((with_reducible refine no_implicit_lambda% (is_aop ?_)); first | (refine no_implicit_lambda% (a_qS rfl (fun _ h => h) ?_ ?_)) | (refine no_implicit_lambda% (a_qS rfl (qIx (fun _ h => h)) ?_ ?_)) | (refine no_implicit_lambda% (a_qS rfl (qAnd5 (fun _ h => h)) ?_ ?_)) | (refine no_implicit_lambda% (a_qS rfl (qStr (fun _ h => h)) ?_ ?_)) | (refine no_implicit_lambda% (a_qS rfl (qAnd4 (fun _ h => h)) ?_ ?_)) | (refine no_implicit_lambda% (a_qS rfl (qAnd2 (fun _ h => h)) ?_ ?_))); focus ((repeat' (refine no_implicit_lambda% (And.intro ?_ ?_))) <;> (first | exact trivial | exact (veOk q).len | exact Int.natCast_nonneg _ | omega | (simp; done) | (simp; omega) | ((show (0 : Int) ≤ _); omega)))
            repeat' (first | (refine no_implicit_lambda% (awd1 ?_)) | (((with_reducible refine no_implicit_lambda% (is_aops ?_)); refine no_implicit_lambda% (o_split rfl rfl rfl (fun hc => ?_) (fun hc => ?_)) <;> first | exact decx hc | rw [hc])) | (((with_reducible refine no_implicit_lambda% (is_cond ?_)); refine no_implicit_lambda% (c_cond rfl (fun hc => ?_) (fun hc => ?_)) <;> first | exact decx hc | skip)) | (((with_reducible refine no_implicit_lambda% (is_aop ?_)); refine no_implicit_lambda% (a_pick rfl rfl (fun hc => ?_) (fun hc => ?_)) <;> first | exact decx hc | rw [hc])) | (refine no_implicit_lambda% (ans ?_)) | (with_reducible exact retN) | (with_reducible exact retP) | fail | fail)
            refine kN () _ _ _ trivial (.inl ?_)
            rw [show List.drop 0 (List.take (2 : Int).toNat (q.map verow)) = (putV c.l ⟨t, canV v⟩).map verow by rw [← hqp, List.map_take]; rfl]
            (refine no_implicit_lambda% (Conv.toT ?_ ?_ (Nat.le_of_ble_eq_true rfl))); (focus ((unfold q3St); (try dsimp only); exact wkl)); (focus ((unfold q3St); (try dsimp only); exact wkh))
          · have hq2 : q = putV c.l ⟨t, canV v⟩ := by
              rw [← hqp, List.take_of_length_le]
              have := of_decide_eq_false hc
              rw [List.length_map] at this
              omega
            refine kN () _ _ _ trivial (.inl ?_)
            rw [← hq2]
            (refine no_implicit_lambda% (Conv.toT ?_ ?_ (Nat.le_of_ble_eq_true rfl))); (focus ((unfold q3St); (try dsimp only); exact wkl)); (focus ((unfold q3St); (try dsimp only); exact wkh))
      · have hk : k < c.l.length := (List.getElem?_eq_some_iff.1 hy).1
        have hix := vex hy
        have hdt := dropV_take (t := t) (l := c.l.drop j) (k := k - j) (y := y) (by rw [List.getElem?_drop, show j + (k - j) = k by omega]; exact hy)
        rw [show k - j + 1 = k + 1 - j by omega] at hdt
        repeat' (first | (refine no_implicit_lambda% (awd1 ?_)) | (((with_reducible refine no_implicit_lambda% (is_aops ?_)); refine no_implicit_lambda% (o_split rfl rfl rfl (fun hc => ?_) (fun hc => ?_)) <;> first | exact decx hc | rw [hc])) | (((with_reducible refine no_implicit_lambda% (is_cond ?_)); refine no_implicit_lambda% (c_cond rfl (fun hc => ?_) (fun hc => ?_)) <;> first | exact decx hc | skip)) | (((with_reducible refine no_implicit_lambda% (is_aop ?_)); refine no_implicit_lambda% (a_pick rfl rfl (fun hc => ?_) (fun hc => ?_)) <;> first | exact decx hc | rw [hc])) | (refine no_implicit_lambda% (ans ?_)) | (with_reducible exact retN) | (with_reducible exact retP) | fail | fail)
        · have hne : y.t ≠ t := by simpa using hc
          (refine no_implicit_lambda% (k_loopLT (((q ++ [y], k + 1) : List Ve × Nat)) 0 (List.range 100) (by show j ≤ k + 1 ∧ k + 1 ≤ c.l.length ∧ q ++ [y] = c.l.take j ++ ⟨t, canV v⟩ :: dropV ((c.l.drop j).take (k + 1 - j)) t; exact ⟨by omega, hk, by rw [hdt, if_neg hne, hq]; simp⟩) (by first | omega | (simp; done) | (simp; omega)) (Nat.le_of_ble_eq_true rfl) (fun _ h => h) (fun _ h => h) ?_ ?_)); (focus ((try dsimp only); exact wkl)); (focus ((try dsimp only); exact wkh))
        · have hne : y.t = t := by simpa using hc
          (refine no_implicit_lambda% (k_loopLT (((q, k + 1) : List Ve × Nat)) 0 (List.range 100) (by show j ≤ k + 1 ∧ k + 1 ≤ c.l.length ∧ q = c.l.take j ++ ⟨t, canV v⟩ :: dropV ((c.l.drop j).take (k + 1 - j)) t; exact ⟨by omega, hk, by rw [hdt, if_pos hne, hq]; simp⟩) (by first | omega | (simp; done) | (simp; omega)) (Nat.le_of_ble_eq_true rfl) (fun _ h => h) (fun _ h => h) ?_ ?_)); (focus ((try dsimp only); exact wkl)); (focus ((try dsimp only); exact wkh))
  · intro Kx kN kP kR kE
    repeat' (first | (refine no_implicit_lambda% (awd1 ?_)) | (((with_reducible refine no_implicit_lambda% (is_aops ?_)); refine no_implicit_lambda% (o_split rfl rfl rfl (fun hc => ?_) (fun hc => ?_)) <;> first | exact decx hc | rw [hc])) | (((with_reducible refine no_implicit_lambda% (is_cond ?_)); refine no_implicit_lambda% (c_cond rfl (fun hc => ?_) (fun hc => ?_)) <;> first | exact decx hc | skip)) | (((with_reducible refine no_implicit_lambda% (is_aop ?_)); refine no_implicit_lambda% (a_pick rfl rfl (fun hc => ?_) (fun hc => ?_)) <;> first | exact decx hc | rw [hc])) | (refine no_implicit_lambda% (ans ?_)) | (with_reducible exact retN) | (with_reducible exact retP) | fail | fail)
    refine c_loop2 (fun q j => q1St t v F0 cp i c.l q j) (fun q j => q = c.l.take j ∧ j ≤ c.l.length ∧ ∀ y ∈ c.l.take j, t < y.t) (fun _ j => c.l.length - j) [] 0 ⟨rfl, Nat.zero_le _, by simp⟩ ((Conv.tokSlot (j := 14) (sz := 4) (rows := []) rfl (by simp)).trans ?_) ?_
    · (refine no_implicit_lambda% (Conv.toT ?_ ?_ (Nat.le_of_ble_eq_true rfl))); (focus ((unfold q1St); (try dsimp only); exact wkl)); (focus ((unfold q1St); (try dsimp only); exact wkh))
    · rintro q j ⟨hq, j1, j2⟩
      have hlj : q.length ≤ 2 := by rw [hq, List.length_take]; omega
      refine c_turn (n' := 90) (fun _ h => h) (fun _ h => h) rfl ?_
      rcases hy : c.l[j]? with _ | y
      · have hj : j = c.l.length := by have := List.getElem?_eq_none_iff.1 hy; omega
        repeat' (first | (refine no_implicit_lambda% (awd1 ?_)) | (((with_reducible refine no_implicit_lambda% (is_aops ?_)); refine no_implicit_lambda% (o_split rfl rfl rfl (fun hc => ?_) (fun hc => ?_)) <;> first | exact decx hc | rw [hc])) | (((with_reducible refine no_implicit_lambda% (is_cond ?_)); refine no_implicit_lambda% (c_cond rfl (fun hc => ?_) (fun hc => ?_)) <;> first | exact decx hc | skip)) | (((with_reducible refine no_implicit_lambda% (is_aop ?_)); refine no_implicit_lambda% (a_pick rfl rfl (fun hc => ?_) (fun hc => ?_)) <;> first | exact decx hc | rw [hc])) | (refine no_implicit_lambda% (ans ?_)) | (with_reducible exact retN) | (with_reducible exact retP) | fail | fail)
        refine kN j _ _ _ ⟨j1, ins_eq2 hvs j2 (fun y h => by rw [hy] at h; cases h)⟩ (.inl ?_)
        subst hq
        (refine no_implicit_lambda% (Conv.toT ?_ ?_ (Nat.le_of_ble_eq_true rfl))); (focus ((unfold q1St); (try dsimp only); exact wkl)); (focus ((unfold q1St); (try dsimp only); exact wkh))
      · have hj : j < c.l.length := (List.getElem?_eq_some_iff.1 hy).1
        have hix := vex hy
        have hts : c.l.take (j + 1) = c.l.take j ++ [y] := by rw [List.take_add_one, hy]; rfl
        repeat' (first | (refine no_implicit_lambda% (awd1 ?_)) | (((with_reducible refine no_implicit_lambda% (is_aops ?_)); refine no_implicit_lambda% (o_split rfl rfl rfl (fun hc => ?_) (fun hc => ?_)) <;> first | exact decx hc | rw [hc])) | (((with_reducible refine no_implicit_lambda% (is_cond ?_)); refine no_implicit_lambda% (c_cond rfl (fun hc => ?_) (fun hc => ?_)) <;> first | exact decx hc | skip)) | (((with_reducible refine no_implicit_lambda% (is_aop ?_)); refine no_implicit_lambda% (a_pick rfl rfl (fun hc => ?_) (fun hc => ?_)) <;> first | exact decx hc | rw [hc])) | (refine no_implicit_lambda% (ans ?_)) | (with_reducible exact retN) | (with_reducible exact retP) | fail | fail)
        · (refine no_implicit_lambda% (k_loopLT (((q ++ [y], j + 1) : List Ve × Nat)) 0 (List.range 90) (by show q ++ [y] = c.l.take (j + 1) ∧ j + 1 ≤ c.l.length ∧ ∀ z ∈ c.l.take (j + 1), t < z.t; exact ⟨by rw [hts, hq], hj, by rw [hts]; intro z hz; rcases List.mem_append.1 hz with hz | hz; exact j2 z hz; rw [List.mem_singleton.1 hz]; exact of_decide_eq_true hc⟩) (by first | omega | (simp; done) | (simp; omega)) (Nat.le_of_ble_eq_true rfl) (fun _ h => h) (fun _ h => h) ?_ ?_)); (focus ((try dsimp only); exact wkl)); (focus ((try dsimp only); exact wkh))
        · refine kN j _ _ _ ⟨j1, ins_eq2 hvs j2 (fun z h => by rw [hy] at h; cases h; exact of_decide_eq_false hc)⟩ (.inl ?_)
          subst hq
          (refine no_implicit_lambda% (Conv.toT ?_ ?_ (Nat.le_of_ble_eq_true rfl))); (focus ((unfold q1St); (try dsimp only); exact wkl)); (focus ((unfold q1St); (try dsimp only); exact wkh))
end Go.Proofs.YtjepgbpcpcahgaaGreat
namespace Go.Proofs.YtjepgbpcpcahgaaGreat
open Go.Am
set_option linter.unusedSimpArgs false
set_option linter.unusedVariables false
set_option maxRecDepth 100000
theorem ins_rows (o : List Co) (p : Nat) (s : ByteArray) : (o.take p).map corow ++ [[.v (.string s), .list [] .full]] ++ (o.drop p).map corow = nrows (o.take p) s (.list [] .full) (o.drop p) := by unfold nrows; simp
theorem wk_nrows {o1 : List Co} {nm : ByteArray} {v w : AV} {o2 : List Co} {k : Nat} (h : Wk v w) : WkL (seqC (nrows o1 nm v o2) k) (seqC (nrows o1 nm w o2) k) := by
  have e : ∀ z, seqC (nrows o1 nm z o2) k = ((o1.map corow).flatten ++ [AV.v (.string nm)]) ++ ([z] ++ ((o2.map corow).flatten ++ List.replicate k .dead)) := fun z => by unfold seqC nrows; simp
  rw [e v, e w]
  exact .app (.refl _) (.app (.cons h .nil) (.refl _))
set_option maxHeartbeats 3200000 in
theorem qput_c (r : List Co) (s : ByteArray) (t : Int) (v : Va) (hr : r.length < 70368744177664) (hs : RowSz r) (hv : v.b.length < 1073741824 ∧ v.n < 18446744073709551616) : ACalls Tryz.prog 19 0 9000 [rowA r, .v (.string s), .v (.int .i64 t), vav v] [] (PutRR (putR r s t v)) := by
  have hnm := rname_c s
  have hvr : ACalls Tryz.prog 59 0 10 [vav v] [] (fun out H' => out = .ret (.v (.bool (vRt v))) ∧ H' = []) := refRight_c v
  have hso := copy_sort r
  have h4 := copy_len r
  have hfi := copy_fine r
  have hbad : (nmB s && tmOk t && vRt v) = false → putR r s t v = (1, []) := fun h => by unfold putR; rw [h]; rfl
  have hgood : (nmB s && tmOk t && vRt v) = true → putR r s t v = (if hasN (copyR r) s = false ∧ (copyR r).length = 4 then (13, []) else (0, putA (copyR r) s ⟨t, canV v⟩)) := fun h => by unfold putR; rw [if_pos h]
  have hcn := qcopy_n r hr hs
  generalize putR r s t v = Q at *
  generalize copyR r = o at *
  refine no_implicit_lambda% (acalls_of tok dok (f := 19) ⟨Tryz.func19, rfl, by kernel_rfl⟩ ?_); refine no_implicit_lambda% (c_start (fun _ h => h) ?_)
  repeat' (first | (refine no_implicit_lambda% (awd1 ?_)) | (((with_reducible refine no_implicit_lambda% (is_aops ?_)); refine no_implicit_lambda% (o_split rfl rfl rfl (fun hc => ?_) (fun hc => ?_)) <;> first | exact decx hc | rw [hc])) | (((with_reducible refine no_implicit_lambda% (is_cond ?_)); refine no_implicit_lambda% (c_cond rfl (fun hc => ?_) (fun hc => ?_)) <;> first | exact decx hc | skip)) | (((with_reducible refine no_implicit_lambda% (is_aop ?_)); refine no_implicit_lambda% (a_pick rfl rfl (fun hc => ?_) (fun hc => ?_)) <;> first | exact decx hc | rw [hc])) | (refine no_implicit_lambda% (ans ?_)) | (with_reducible exact retN) | (with_reducible exact retP) | (refine no_implicit_lambda% (cal [] (hnm) ?_ ?_)) | (refine no_implicit_lambda% (cal [] (hvr) ?_ ?_)) | fail)
  iterate 4
    · have hb : Q = (1, []) := hbad (by unfold tmOk; simp only [Bool.not_eq_true', Bool.not_eq_false', decide_eq_true_eq, decide_eq_false_iff_not] at *; rw [Bool.eq_false_iff]; intro h; simp only [Bool.and_eq_true, decide_eq_true_eq] at h; first | omega | (simp_all; done))
      subst hb
      refine e_ret_to (H' := []) (rest := _) (Conv.toT (τ := ⟨_, [(2, .box [.list [] .free])], _⟩) (.refl _) ?_ (Nat.le_refl _)) rfl ⟨rfl, rfl⟩ (.of_eq rfl) (Nat.le_of_ble_eq_true rfl)
      exact wkh
  have hq := hgood (by unfold tmOk; simp only [Bool.not_eq_true', Bool.not_eq_false', decide_eq_true_eq, decide_eq_false_iff_not] at *; simp only [Bool.and_eq_true, decide_eq_true_eq]; refine ⟨⟨by assumption, by omega⟩, by assumption⟩)
  (refine no_implicit_lambda% (cal [] (hcn) ?_ ?_))
  · intro xx H' hh
    obtain ⟨cp, c1, c2, h', rfl⟩ := hh
    cases h'
    first | (refine no_implicit_lambda% (akc ?_)) | (refine no_implicit_lambda% (aec ?_))
    have hf := qfind_o o s cp (by omega) hso
    rcases hN : hasN o s with _ | _
    · rw [hN] at hf
      repeat' (first | (refine no_implicit_lambda% (awd1 ?_)) | (((with_reducible refine no_implicit_lambda% (is_aops ?_)); refine no_implicit_lambda% (o_split rfl rfl rfl (fun hc => ?_) (fun hc => ?_)) <;> first | exact decx hc | rw [hc])) | (((with_reducible refine no_implicit_lambda% (is_cond ?_)); refine no_implicit_lambda% (c_cond rfl (fun hc => ?_) (fun hc => ?_)) <;> first | exact decx hc | skip)) | (((with_reducible refine no_implicit_lambda% (is_aop ?_)); refine no_implicit_lambda% (a_pick rfl rfl (fun hc => ?_) (fun hc => ?_)) <;> first | exact decx hc | rw [hc])) | (refine no_implicit_lambda% (ans ?_)) | (with_reducible exact retN) | (with_reducible exact retP) | fail | fail)
      (refine no_implicit_lambda% (cal [13] (hf) ?_ ?_))
      · refine no_implicit_lambda% (ret1 ?_); first | (refine no_implicit_lambda% (akc ?_)) | (refine no_implicit_lambda% (aec ?_))
        repeat' (first | (refine no_implicit_lambda% (awd1 ?_)) | (((with_reducible refine no_implicit_lambda% (is_aops ?_)); refine no_implicit_lambda% (o_split rfl rfl rfl (fun hc => ?_) (fun hc => ?_)) <;> first | exact decx hc | rw [hc])) | (((with_reducible refine no_implicit_lambda% (is_cond ?_)); refine no_implicit_lambda% (c_cond rfl (fun hc => ?_) (fun hc => ?_)) <;> first | exact decx hc | skip)) | (((with_reducible refine no_implicit_lambda% (is_aop ?_)); refine no_implicit_lambda% (a_pick rfl rfl (fun hc => ?_) (fun hc => ?_)) <;> first | exact decx hc | rw [hc])) | (refine no_implicit_lambda% (ans ?_)) | (with_reducible exact retN) | (with_reducible exact retP) | fail | fail)
        · have hl4 : o.length = 4 := by have := of_decide_eq_true hc; omega
          rw [if_pos ⟨hN, hl4⟩] at hq
          subst hq
          refine e_ret_to (H' := []) (rest := _) (Conv.toT (τ := ⟨_, [(2, .box [.list [] .free])], _⟩) (.refl _) ?_ (Nat.le_refl _)) rfl ⟨rfl, rfl⟩ (.of_eq rfl) (Nat.le_of_ble_eq_true rfl)
          exact wkh
        · have hl4 : ¬ o.length = 4 := by have := of_decide_eq_false hc; omega
          have hpl := npos_le o s
          rw [if_neg (fun h => hl4 h.2)] at hq
          ((with_reducible refine no_implicit_lambda% (is_ev ?_)); first | (refine no_implicit_lambda% (v_qS rfl rfl rfl rfl (qAnd4 (fun _ h => h)) (fun _ h => h) ?_ ?_)) | (refine no_implicit_lambda% (v_qS rfl rfl rfl rfl (qAnd5 (fun _ h => h)) (fun _ h => h) ?_ ?_))); focus ((repeat' (refine no_implicit_lambda% (And.intro ?_ ?_))) <;> (first | exact trivial | exact Int.natCast_nonneg _ | omega | (simp; done) | (simp; omega) | ((show (0 : Int) ≤ _); omega)))
          repeat' (first | (refine no_implicit_lambda% (awd1 ?_)) | (((with_reducible refine no_implicit_lambda% (is_aops ?_)); refine no_implicit_lambda% (o_split rfl rfl rfl (fun hc => ?_) (fun hc => ?_)) <;> first | exact decx hc | rw [hc])) | (((with_reducible refine no_implicit_lambda% (is_cond ?_)); refine no_implicit_lambda% (c_cond rfl (fun hc => ?_) (fun hc => ?_)) <;> first | exact decx hc | skip)) | (((with_reducible refine no_implicit_lambda% (is_aop ?_)); refine no_implicit_lambda% (a_pick rfl rfl (fun hc => ?_) (fun hc => ?_)) <;> first | exact decx hc | rw [hc])) | (refine no_implicit_lambda% (ans ?_)) | (with_reducible exact retN) | (with_reducible exact retP) | fail | fail)
          ((with_reducible refine no_implicit_lambda% (is_ev ?_)); first | (refine no_implicit_lambda% (v_qS rfl rfl rfl rfl (qAnd4 (fun _ h => h)) (fun _ h => h) ?_ ?_)) | (refine no_implicit_lambda% (v_qS rfl rfl rfl rfl (qAnd5 (fun _ h => h)) (fun _ h => h) ?_ ?_))); focus ((repeat' (refine no_implicit_lambda% (And.intro ?_ ?_))) <;> (first | exact trivial | exact Int.natCast_nonneg _ | omega | (simp; done) | (simp; omega) | ((show (0 : Int) ≤ _); omega)))
          repeat' (first | (refine no_implicit_lambda% (awd1 ?_)) | (((with_reducible refine no_implicit_lambda% (is_aops ?_)); refine no_implicit_lambda% (o_split rfl rfl rfl (fun hc => ?_) (fun hc => ?_)) <;> first | exact decx hc | rw [hc])) | (((with_reducible refine no_implicit_lambda% (is_cond ?_)); refine no_implicit_lambda% (c_cond rfl (fun hc => ?_) (fun hc => ?_)) <;> first | exact decx hc | skip)) | (((with_reducible refine no_implicit_lambda% (is_aop ?_)); refine no_implicit_lambda% (a_pick rfl rfl (fun hc => ?_) (fun hc => ?_)) <;> first | exact decx hc | rw [hc])) | (refine no_implicit_lambda% (ans ?_)) | (with_reducible exact retN) | (with_reducible exact retP) | fail | fail)
          have hlt4 := hfi.len
          have hpe : (npos o s : Int).toNat = npos o s := Int.toNat_natCast _
          generalize hpp : npos o s = p at *
          have l1 : ((o.take p).map corow).length = p := by rw [List.length_map, List.length_take]; omega
          have l2 : ((o.drop p).map corow).length = o.length - p := by rw [List.length_map, List.length_drop]
          (with_reducible refine is_aop ?_)
          refine no_implicit_lambda% (a_appS0g (sz := 2) (B := 40) (m2 := p) (rows2 := (o.take p).map corow) rfl rfl rfl rfl rfl rfl rfl rfl rfl (.inl rfl) rfl rfl (fun K h => asrc_seqg (id := 13) (off := 0) (i := 0) (m := ((o.take p).map corow).length) (cp := cp) ?_ rfl (coOk o) ?_ (by simp) ?_ h) (coOk _) ⟨by omega, by omega⟩ l1 ?_)
          · rw [l1]
            show AV.arr 13 (0 + 0 * 2) ((p : Int).toNat - 0) (cp - 0) = AV.arr 13 0 p cp
            rw [hpe]; rfl
          · rw [l1, List.length_map]; omega
          · rw [l1, List.drop_zero, List.map_take]
          intro cp1 d1 d2
          refine no_implicit_lambda% (aec ?_)
          repeat' (first | (refine no_implicit_lambda% (awd1 ?_)) | (((with_reducible refine no_implicit_lambda% (is_aops ?_)); refine no_implicit_lambda% (o_split rfl rfl rfl (fun hc => ?_) (fun hc => ?_)) <;> first | exact decx hc | rw [hc])) | (((with_reducible refine no_implicit_lambda% (is_cond ?_)); refine no_implicit_lambda% (c_cond rfl (fun hc => ?_) (fun hc => ?_)) <;> first | exact decx hc | skip)) | (((with_reducible refine no_implicit_lambda% (is_aop ?_)); refine no_implicit_lambda% (a_pick rfl rfl (fun hc => ?_) (fun hc => ?_)) <;> first | exact decx hc | rw [hc])) | (refine no_implicit_lambda% (ans ?_)) | (with_reducible exact retN) | (with_reducible exact retP) | fail | fail)
          ((with_reducible refine no_implicit_lambda% (is_aop ?_)); refine no_implicit_lambda% (a_appS (sz := 2) (B := 40) (m2 := p + 1) (rows3 := ((o.take p).map corow ++ [[.v (.string s), .list [] .full]])) rfl rfl rfl rfl rfl rfl rfl rfl rfl rfl rfl (fun _ h => h) rfl rfl (coOk (o.take p)) ((.one1 (row := [.v (.string s), .list [] .full]) ⟨rfl, rfl, rfl⟩)) (by first | rfl | (exact List.length_map ..) | (simp; done) | (simp; omega)) rfl (by first | omega | (simp; omega)) (by first | rfl | (simp; done) | (simp; omega)) (by first | rfl | (exact map_snoc _ _) | (rw [List.map_append]; rfl) | (simp; done)) ?_))
          intro cp2 e1 e2
          refine no_implicit_lambda% (aec ?_)
          repeat' (first | (refine no_implicit_lambda% (awd1 ?_)) | (((with_reducible refine no_implicit_lambda% (is_aops ?_)); refine no_implicit_lambda% (o_split rfl rfl rfl (fun hc => ?_) (fun hc => ?_)) <;> first | exact decx hc | rw [hc])) | (((with_reducible refine no_implicit_lambda% (is_cond ?_)); refine no_implicit_lambda% (c_cond rfl (fun hc => ?_) (fun hc => ?_)) <;> first | exact decx hc | skip)) | (((with_reducible refine no_implicit_lambda% (is_aop ?_)); refine no_implicit_lambda% (a_pick rfl rfl (fun hc => ?_) (fun hc => ?_)) <;> first | exact decx hc | rw [hc])) | (refine no_implicit_lambda% (ans ?_)) | (with_reducible exact retN) | (with_reducible exact retP) | fail | fail)
          (with_reducible refine is_aop ?_)
          refine no_implicit_lambda% (a_appSg (sz := 2) (B := 40) (m2 := o.length + 1) (rows := (o.take p).map corow ++ [[AV.v (.string s), AV.list [] .full]]) (rows2 := (o.drop p).map corow) (rows3 := nrows (o.take p) s (.list [] .full) (o.drop p)) rfl rfl rfl rfl rfl rfl rfl rfl rfl rfl (fun _ h => h) rfl rfl (fun K h => asrc_seqg (id := 13) (off := p * 2) (i := p) (m := ((o.drop p).map corow).length) (cp := cp - p) ?_ rfl (coOk o) ?_ rfl ?_ h) ?_ (coOk _) ?_ ?_ ⟨by omega, by omega, by omega⟩ (by omega) (ins_rows o p s) ?_)
          · rw [l2]
            show AV.arr 13 (0 + (p : Int).toNat * 2) (o.length - (p : Int).toNat) (cp - (p : Int).toNat) = AV.arr 13 (p * 2) (o.length - p) (cp - p)
            rw [hpe, Nat.zero_add]
          · rw [l2, List.length_map]; omega
          · rw [l2, List.map_drop, List.take_of_length_le (by rw [List.length_drop, List.length_map]; omega)]
          · exact (coOk _).app (.one1 ⟨rfl, rfl, rfl⟩)
          · rw [List.length_append, l1]; rfl
          · rfl
          intro cp3 f1 f2
          refine no_implicit_lambda% (aec ?_)
          repeat' (first | (first | (with_reducible refine no_implicit_lambda% (v_nil ?_)) | ((with_reducible refine no_implicit_lambda% (is_ev ?_)); first | (refine no_implicit_lambda% (v_skips rfl rfl (fun _ h => h) ?_)) | (refine no_implicit_lambda% (v_q rfl rfl rfl rfl (fun _ h => h) (fun _ h => h) ?_)) | (refine no_implicit_lambda% (v_alloc rfl rfl rfl (fun _ h => h) rfl ?_)) | (refine no_implicit_lambda% (v_no rfl rfl rfl rfl rfl rfl (fun _ h => h) ?_)) | (refine no_implicit_lambda% (v_yes rfl rfl rfl rfl rfl rfl (fun _ h => h) (fun _ h => h) ?_)) | (refine no_implicit_lambda% (v_not rfl rfl rfl rfl rfl rfl (fun _ h => h) ?_)))) | ((with_reducible refine no_implicit_lambda% (is_drB ?_)); first | (refine no_implicit_lambda% (b_end rfl rfl (fun _ h => h) (fun _ h => h) ?_)) | (refine no_implicit_lambda% (b_eff rfl rfl rfl rfl (fun _ h => h) (fun _ h => h) rfl ?_)) | (refine no_implicit_lambda% (b_no rfl rfl rfl rfl (fun _ h => h) (fun _ h => h) rfl rfl rfl (fun _ h => h) (fun _ h => h) ?_)) | (refine no_implicit_lambda% (b_yes rfl rfl rfl rfl (fun _ h => h) (fun _ h => h) rfl rfl rfl ?_)) | (refine no_implicit_lambda% (b_not rfl rfl rfl rfl (fun _ h => h) (fun _ h => h) rfl rfl rfl (fun _ h => h) (fun _ h => h) ?_))) | ((with_reducible refine no_implicit_lambda% (is_effK ?_)); refine no_implicit_lambda% (k_eff (fun _ h => h) (fun _ h => h) (fun _ h => h) (by intro k h; repeat (first | exact h | refine ⟨rfl, ?_⟩ | refine ⟨trivial, ?_⟩)) ?_)) | ((with_reducible refine no_implicit_lambda% (is_aop ?_)); first | (refine no_implicit_lambda% (a_q1 rfl (fun _ h => h) ?_)) | (refine no_implicit_lambda% (a_box rfl (fun _ h => h) ?_)) | (refine no_implicit_lambda% (a_alloc rfl (fun _ h => h) ?_)) | (refine no_implicit_lambda% (a_storev rfl (fun _ h => h) ?_)) | (refine no_implicit_lambda% (a_store rfl (fun _ h => h) ?_)) | (refine no_implicit_lambda% (a_panic rfl rfl ?_))) | fail)
          have hFl : (o.take p ++ ⟨s, []⟩ :: o.drop p).length = o.length + 1 := by simp; omega
          have hFp : (o.take p ++ (⟨s, []⟩ : Co) :: o.drop p)[p]? = some ⟨s, []⟩ := by
            rw [List.getElem?_append_right (by rw [List.length_take]; omega), List.length_take, Nat.min_eq_left (by omega), Nat.sub_self]; rfl
          have hFr : nrows (o.take p) s (.list [] .free) (o.drop p) = (o.take p ++ ⟨s, []⟩ :: o.drop p).map corow := nrows_free _ _ [] _
          refine ⟨qtSt t v (o.take p ++ ⟨s, []⟩ :: o.drop p) cp3 p, ?_, qput_rest t v hv _ Q.2 (o.take p ++ ⟨s, []⟩ :: o.drop p) cp3 p ⟨s, []⟩ (fun out H' h => ⟨by rw [h.1, show Q.1 = 0 by rw [hq]], h.2⟩) (by omega) hFp List.Pairwise.nil (by simp) (by omega) f2 ?_⟩
          · refine SeqTo.renE (n2 := 18) (L2 := [(1, .box (vrowV v)), (2, .box [.list [] .full]), (14, .box [.arr 17 0 (o.take p ++ ⟨s, []⟩ :: o.drop p).length cp3]), (17, .seq ((o.take p ++ ⟨s, []⟩ :: o.drop p).map corow) ((cp3 - (o.take p ++ (⟨s, []⟩ : Co) :: o.drop p).length) * 2))]) 0 [1, 2, 14, 17] (Nat.le_refl 0) rfl (fun _ h => h) ?_
            refine (Conv.unseq (id := 17) (rows := nrows (o.take p) s (.list [] .full) (o.drop p)) (k := (cp3 - (o.length + 1)) * 2) (by rw [nrows_len]; omega) (permT (H := [(17, .seq (nrows (o.take p) s (.list [] .full) (o.drop p)) ((cp3 - (o.length + 1)) * 2))]))).trans ((Conv.wk (.refl _) (.cons (.box 17 (wk_nrows (.free _ _))) (.refl _))).trans ((Conv.toSeq (rows := (o.take p ++ ⟨s, []⟩ :: o.drop p).map corow) (k := (cp3 - (o.length + 1)) * 2) (.refl _) (by rw [← hFr]) (coOk _).pure).trans ?_))
            rw [hFl]
            refine no_implicit_lambda% (Conv.toT ?_ ?_ (Nat.le_of_ble_eq_true rfl))
            · exact wkl
            · exact wkh
          · rw [hq]
            unfold putA
            rw [hN, if_neg (by simp), hpp]
            show _ = o.take p ++ ⟨s, [⟨t, canV v⟩]⟩ :: o.drop p
            have hol : (o.take p).length = p := by rw [List.length_take]; omega
            rw [List.set_append_right _ _ (by omega), hol, Nat.sub_self]
            rfl
      · first | (exact retN) | (exact retP)
    · rw [hN] at hf
      have hlt := npos_len hN
      obtain ⟨c, hc1⟩ := has_at hN
      have hcb := hfi.col c (List.mem_of_getElem? hc1)
      have hcl := col_len hcb
      have hlt4 := hfi.len
      repeat' (first | (refine no_implicit_lambda% (awd1 ?_)) | (((with_reducible refine no_implicit_lambda% (is_aops ?_)); refine no_implicit_lambda% (o_split rfl rfl rfl (fun hc => ?_) (fun hc => ?_)) <;> first | exact decx hc | rw [hc])) | (((with_reducible refine no_implicit_lambda% (is_cond ?_)); refine no_implicit_lambda% (c_cond rfl (fun hc => ?_) (fun hc => ?_)) <;> first | exact decx hc | skip)) | (((with_reducible refine no_implicit_lambda% (is_aop ?_)); refine no_implicit_lambda% (a_pick rfl rfl (fun hc => ?_) (fun hc => ?_)) <;> first | exact decx hc | rw [hc])) | (refine no_implicit_lambda% (ans ?_)) | (with_reducible exact retN) | (with_reducible exact retP) | fail | fail)
      (refine no_implicit_lambda% (cal [13] (hf) ?_ ?_))
      · refine no_implicit_lambda% (ret1 ?_); first | (refine no_implicit_lambda% (akc ?_)) | (refine no_implicit_lambda% (aec ?_))
        repeat' (first | (refine no_implicit_lambda% (sx1 ?_)) | (((with_reducible refine no_implicit_lambda% (is_aops ?_)); refine no_implicit_lambda% (o_split rfl rfl rfl (fun hc => ?_) (fun hc => ?_)) <;> first | exact decx hc | rw [hc])) | (((with_reducible refine no_implicit_lambda% (is_cond ?_)); refine no_implicit_lambda% (c_cond rfl (fun hc => ?_) (fun hc => ?_)) <;> first | exact decx hc | skip)) | (((with_reducible refine no_implicit_lambda% (is_aop ?_)); refine no_implicit_lambda% (a_pick rfl rfl (fun hc => ?_) (fun hc => ?_)) <;> first | exact decx hc | rw [hc])) | fail)
        refine k_seq ?_
        repeat' (first | (refine no_implicit_lambda% (sx1 ?_)) | (((with_reducible refine no_implicit_lambda% (is_aops ?_)); refine no_implicit_lambda% (o_split rfl rfl rfl (fun hc => ?_) (fun hc => ?_)) <;> first | exact decx hc | rw [hc])) | (((with_reducible refine no_implicit_lambda% (is_cond ?_)); refine no_implicit_lambda% (c_cond rfl (fun hc => ?_) (fun hc => ?_)) <;> first | exact decx hc | skip)) | (((with_reducible refine no_implicit_lambda% (is_aop ?_)); refine no_implicit_lambda% (a_pick rfl rfl (fun hc => ?_) (fun hc => ?_)) <;> first | exact decx hc | rw [hc])) | fail)
        refine k_seq ?_
        repeat' (first | (refine no_implicit_lambda% (sx1 ?_)) | (((with_reducible refine no_implicit_lambda% (is_aops ?_)); refine no_implicit_lambda% (o_split rfl rfl rfl (fun hc => ?_) (fun hc => ?_)) <;> first | exact decx hc | rw [hc])) | (((with_reducible refine no_implicit_lambda% (is_cond ?_)); refine no_implicit_lambda% (c_cond rfl (fun hc => ?_) (fun hc => ?_)) <;> first | exact decx hc | skip)) | (((with_reducible refine no_implicit_lambda% (is_aop ?_)); refine no_implicit_lambda% (a_pick rfl rfl (fun hc => ?_) (fun hc => ?_)) <;> first | exact decx hc | rw [hc])) | fail)
        refine ⟨qtSt t v o cp (npos o s), ?_, qput_rest t v hv _ Q.2 o cp (npos o s) c (fun out H' h => ⟨by rw [h.1, show Q.1 = 0 by rw [hq, if_neg (by rw [hN]; simp)]], h.2⟩) hlt4 hc1 ?_ hcl.2 c1 c2 ?_⟩
        · (refine no_implicit_lambda% (SeqTo.renT 0 [1, 2, 14, 13] (Nat.le_of_ble_eq_true rfl) (fun _ h => h) (fun _ h => h) ?_ ?_)); (focus ((try dsimp only); exact wkl)); (focus ((try dsimp only); exact wkh))
        · unfold colB at hcb
          simp only [Bool.and_eq_true] at hcb
          exact (vers_to hcb.2).2.1
        · rw [hq, if_neg (by rw [hN]; simp)]
          unfold putA
          rw [hN, if_pos rfl, hc1]
      · first | (exact retN) | (exact retP)
  · intro xx H' hh
    obtain ⟨_, _, _, h', _⟩ := hh
    cases h'
end Go.Proofs.YtjepgbpcpcahgaaGreat
namespace Go.Proofs.YtjepgbpcpcahgaaGreat
open Go.Am
set_option linter.unusedSimpArgs false
set_option linter.unusedVariables false
set_option maxRecDepth 100000
end Go.Proofs.YtjepgbpcpcahgaaGreat
namespace Go.Proofs.YtjepgbpcpcahgaaGreat
open Go.Am
set_option linter.unusedSimpArgs false
set_option linter.unusedVariables false
set_option maxRecDepth 100000
theorem pick_c (l : List ByteArray) (n : Int) (hl : 0 < l.length ∧ l.length < 1000) (h1 : -9223372036854775808 ≤ n) (h2 : n ≤ 9223372036854775807) : ACalls Tryz.prog 80 0 0 [.list (l.map fun s => [.v (.string s)]) .free, .v (.int .i64 n)] [] (fun out H' => ∃ t ∈ l, out = .ret (.v (.string t)) ∧ H' = []) := by
  have hw := wthn_c n 0 1048576 h1 h2 (by decide) (by decide) (by decide) (by decide)
  refine no_implicit_lambda% (acalls_of tok dok (f := 80) ⟨Tryz.func80, rfl, by kernel_rfl⟩ ?_); refine no_implicit_lambda% (c_start (fun _ h => h) ?_)
  have hb := wthn_bd n 0 1048576 (by decide)
  generalize wthn n 0 1048576 = w at *
  repeat' (first | (refine no_implicit_lambda% (awd1 ?_)) | (((with_reducible refine no_implicit_lambda% (is_aops ?_)); refine no_implicit_lambda% (o_split rfl rfl rfl (fun hc => ?_) (fun hc => ?_)) <;> first | exact decx hc | rw [hc])) | (((with_reducible refine no_implicit_lambda% (is_cond ?_)); refine no_implicit_lambda% (c_cond rfl (fun hc => ?_) (fun hc => ?_)) <;> first | exact decx hc | skip)) | (((with_reducible refine no_implicit_lambda% (is_aop ?_)); refine no_implicit_lambda% (a_pick rfl rfl (fun hc => ?_) (fun hc => ?_)) <;> first | exact decx hc | rw [hc])) | (refine no_implicit_lambda% (ans ?_)) | (with_reducible exact retN) | (with_reducible exact retP) | (refine no_implicit_lambda% (cal [] (hw) ?_ ?_)) | fail)
  (with_reducible refine no_implicit_lambda% (is_aop ?_)); first | (refine no_implicit_lambda% (a_qS rfl (fun _ h => h) ?_ ?_)) | (refine no_implicit_lambda% (a_qS rfl (qIx (fun _ h => h)) ?_ ?_)) | (refine no_implicit_lambda% (a_qS rfl (qAnd5 (fun _ h => h)) ?_ ?_)) | (refine no_implicit_lambda% (a_qS rfl (qStr (fun _ h => h)) ?_ ?_)) | (refine no_implicit_lambda% (a_qS rfl (qAnd4 (fun _ h => h)) ?_ ?_)) | (refine no_implicit_lambda% (a_qS rfl (qAnd2 (fun _ h => h)) ?_ ?_))
  · rw [List.length_map]; omega
  have hj : 0 ≤ w.tmod ((l.map fun s => [AV.v (.string s)]).length : Int) ∧ w.tmod ((l.map fun s => [AV.v (.string s)]).length : Int) < l.length := by
    rw [List.length_map]
    exact ⟨Int.tmod_nonneg _ hb.1, Int.tmod_lt_of_pos _ (by omega)⟩
  generalize w.tmod ((l.map fun s => [AV.v (.string s)]).length : Int) = j at *
  obtain ⟨t, ht⟩ : ∃ t, l[j.toNat]? = some t := ⟨_, List.getElem?_eq_getElem (by omega)⟩
  have hix : 0 ≤ j ∧ (l.map fun s => [AV.v (.string s)])[j.toNat]? = some [.v (.string t)] ∧ ([AV.v (.string t)] : List AV).length = 1 := ⟨hj.1, by rw [List.getElem?_map, ht]; rfl, rfl⟩
  repeat' (first | (refine no_implicit_lambda% (awd1 ?_)) | (((with_reducible refine no_implicit_lambda% (is_aops ?_)); refine no_implicit_lambda% (o_split rfl rfl rfl (fun hc => ?_) (fun hc => ?_)) <;> first | exact decx hc | rw [hc])) | (((with_reducible refine no_implicit_lambda% (is_cond ?_)); refine no_implicit_lambda% (c_cond rfl (fun hc => ?_) (fun hc => ?_)) <;> first | exact decx hc | skip)) | (((with_reducible refine no_implicit_lambda% (is_aop ?_)); refine no_implicit_lambda% (a_pick rfl rfl (fun hc => ?_) (fun hc => ?_)) <;> first | exact decx hc | rw [hc])) | (refine no_implicit_lambda% (ans ?_)) | (with_reducible exact retN) | (with_reducible exact retP) | fail | fail)
  exact e_ret (H' := []) (rest := _) rfl ⟨t, List.mem_of_getElem? ht, rfl, rfl⟩ (.refl _) (Nat.le_of_ble_eq_true rfl)
def bsS (l : List UInt8) : ByteArray := ⟨l.toArray⟩
def colL : List ByteArray := [bsS [120], bsS [121], bsS [119], bsS [118], bsS [108, 111, 110, 103, 46, 110, 97, 109, 101, 46, 49, 54, 46, 98, 121, 116]]
theorem keepcol_c (n : Int) (h1 : -9223372036854775808 ≤ n) (h2 : n ≤ 9223372036854775807) : ACalls Tryz.prog 30 0 5 [.v (.int .i64 n)] [] (fun out H' => ∃ t ∈ colL, out = .ret (.v (.string t)) ∧ H' = []) := by
  have hp := pick_c colL n (by decide) h1 h2
  refine no_implicit_lambda% (acalls_of tok dok (f := 30) ⟨Tryz.func30, rfl, by kernel_rfl⟩ ?_); refine no_implicit_lambda% (c_start (fun _ h => h) ?_)
  repeat' (first | (refine no_implicit_lambda% (awd1 ?_)) | (((with_reducible refine no_implicit_lambda% (is_aops ?_)); refine no_implicit_lambda% (o_split rfl rfl rfl (fun hc => ?_) (fun hc => ?_)) <;> first | exact decx hc | rw [hc])) | (((with_reducible refine no_implicit_lambda% (is_cond ?_)); refine no_implicit_lambda% (c_cond rfl (fun hc => ?_) (fun hc => ?_)) <;> first | exact decx hc | skip)) | (((with_reducible refine no_implicit_lambda% (is_aop ?_)); refine no_implicit_lambda% (a_pick rfl rfl (fun hc => ?_) (fun hc => ?_)) <;> first | exact decx hc | rw [hc])) | (refine no_implicit_lambda% (ans ?_)) | (with_reducible exact retN) | (with_reducible exact retP) | fail | fail)
  (refine no_implicit_lambda% (calw [] (hp) ?_ ?_))
  · intro xx H' hh
    obtain ⟨t, ht, h', rfl⟩ := hh
    cases h'
    first | (refine no_implicit_lambda% (akc ?_)) | (refine no_implicit_lambda% (aec ?_))
    repeat' (first | (refine no_implicit_lambda% (awd1 ?_)) | (((with_reducible refine no_implicit_lambda% (is_aops ?_)); refine no_implicit_lambda% (o_split rfl rfl rfl (fun hc => ?_) (fun hc => ?_)) <;> first | exact decx hc | rw [hc])) | (((with_reducible refine no_implicit_lambda% (is_cond ?_)); refine no_implicit_lambda% (c_cond rfl (fun hc => ?_) (fun hc => ?_)) <;> first | exact decx hc | skip)) | (((with_reducible refine no_implicit_lambda% (is_aop ?_)); refine no_implicit_lambda% (a_pick rfl rfl (fun hc => ?_) (fun hc => ?_)) <;> first | exact decx hc | rw [hc])) | (refine no_implicit_lambda% (ans ?_)) | (with_reducible exact retN) | (with_reducible exact retP) | fail | fail)
    exact e_ret (H' := []) (rest := _) rfl ⟨t, ht, rfl, rfl⟩ permT (Nat.le_of_ble_eq_true rfl)
  · intro xx H' hh
    obtain ⟨_, _, h', _⟩ := hh
    cases h'
/-- an ask -/
structure Rk where
  k : Int
  c : Int
  nm : ByteArray
  t : Int
  tx : Bool
  n : Int
  x : Nat
  b : List UInt8
def rkrow (a : Rk) : List AV := [.v (.int .i64 a.k), .v (.int .i64 a.c), .v (.string a.nm), .v (.int .i64 a.t), .v (.bool a.tx), .v (.int .i64 a.n), .v (.float .f64 a.x), .list (a.b.map brow) .free]
structure RkOk (a : Rk) : Prop where
  c : -9223372036854775808 ≤ a.c ∧ a.c ≤ 9223372036854775807
  t : -9223372036854775808 ≤ a.t ∧ a.t ≤ 9223372036854775807
  n : -9223372036854775808 ≤ a.n ∧ a.n ≤ 9223372036854775807
  x : a.x < 18446744073709551616
end Go.Proofs.YtjepgbpcpcahgaaGreat
namespace Go.Proofs.YtjepgbpcpcahgaaGreat
open Go.Am
set_option linter.unusedSimpArgs false
set_option linter.unusedVariables false
set_option maxRecDepth 100000
end Go.Proofs.YtjepgbpcpcahgaaGreat
namespace Go.Proofs.YtjepgbpcpcahgaaGreat
open Go.Am
set_option linter.unusedSimpArgs false
set_option linter.unusedVariables false
set_option maxRecDepth 100000
theorem ktext_c (s : ByteArray) (hs : s.size < 1073741824) : ACalls Tryz.prog 20 0 5 [.v (.string s)] [] (fun out H' => out = .ret (vav ⟨1, s.data.toList, 0⟩) ∧ H' = []) := by
  refine no_implicit_lambda% (acalls_of tok dok (f := 20) ⟨Tryz.func20, rfl, by kernel_rfl⟩ ?_); refine no_implicit_lambda% (c_start (fun _ h => h) ?_)
  repeat' (first | (refine no_implicit_lambda% (awd1 ?_)) | (((with_reducible refine no_implicit_lambda% (is_aops ?_)); refine no_implicit_lambda% (o_split rfl rfl rfl (fun hc => ?_) (fun hc => ?_)) <;> first | exact decx hc | rw [hc])) | (((with_reducible refine no_implicit_lambda% (is_cond ?_)); refine no_implicit_lambda% (c_cond rfl (fun hc => ?_) (fun hc => ?_)) <;> first | exact decx hc | skip)) | (((with_reducible refine no_implicit_lambda% (is_aop ?_)); refine no_implicit_lambda% (a_pick rfl rfl (fun hc => ?_) (fun hc => ?_)) <;> first | exact decx hc | rw [hc])) | (refine no_implicit_lambda% (ans ?_)) | (with_reducible exact retN) | (with_reducible exact retP) | fail | fail)
  (with_reducible refine no_implicit_lambda% (is_aop ?_)); first | (refine no_implicit_lambda% (a_qS rfl (fun _ h => h) ?_ ?_)) | (refine no_implicit_lambda% (a_qS rfl (qIx (fun _ h => h)) ?_ ?_)) | (refine no_implicit_lambda% (a_qS rfl (qAnd5 (fun _ h => h)) ?_ ?_)) | (refine no_implicit_lambda% (a_qS rfl (qStr (fun _ h => h)) ?_ ?_)) | (refine no_implicit_lambda% (a_qS rfl (qAnd4 (fun _ h => h)) ?_ ?_)) | (refine no_implicit_lambda% (a_qS rfl (qAnd2 (fun _ h => h)) ?_ ?_))
  · omega
  repeat' (first | (refine no_implicit_lambda% (awd1 ?_)) | (((with_reducible refine no_implicit_lambda% (is_aops ?_)); refine no_implicit_lambda% (o_split rfl rfl rfl (fun hc => ?_) (fun hc => ?_)) <;> first | exact decx hc | rw [hc])) | (((with_reducible refine no_implicit_lambda% (is_cond ?_)); refine no_implicit_lambda% (c_cond rfl (fun hc => ?_) (fun hc => ?_)) <;> first | exact decx hc | skip)) | (((with_reducible refine no_implicit_lambda% (is_aop ?_)); refine no_implicit_lambda% (a_pick rfl rfl (fun hc => ?_) (fun hc => ?_)) <;> first | exact decx hc | rw [hc])) | (refine no_implicit_lambda% (ans ?_)) | (with_reducible exact retN) | (with_reducible exact retP) | fail | fail)
  exact e_ret (H' := []) (rest := _) rfl ⟨rfl, rfl⟩ permT (Nat.le_of_ble_eq_true rfl)
theorem rkex {l : List Rk} {i : Nat} {t : Rk} (h : l[i]? = some t) : 0 ≤ (i : Int) ∧ (l.map rkrow)[(i : Int).toNat]? = some (rkrow t) ∧ (rkrow t).length = 8 := ⟨Int.natCast_nonneg _, by rw [Int.toNat_natCast, List.getElem?_map, h]; rfl, rfl⟩
theorem cmpS_self (s : ByteArray) : cmpS s s = 0 := by
  have h := eq_cb s.toList s.toList
  rw [beq_self_eq_true] at h
  unfold cmpS
  exact of_decide_eq_true h.symm
theorem sLt_self (s : ByteArray) : sLt s s = false := by
  rw [sLt_eq, cmpS_self]
  rfl
theorem hasN_one {s : ByteArray} {l : List Ve} : hasN [⟨s, l⟩] s = true ∧ npos [⟨s, l⟩] s = 0 := by
  have e : npos [⟨s, l⟩] s = 0 := by unfold npos; simp [sLt_self]
  refine ⟨?_, e⟩
  unfold hasN
  rw [e]
  simp [cmpS_self]
theorem put_new {s : ByteArray} {t : Int} {v : Va} (hn : nmB s = true) (ht : tmOk t = true) (hv : vRt v = true) : putR [] s t v = (0, [⟨s, [⟨t, canV v⟩]⟩]) := by
  unfold putR
  rw [hn, ht, hv, if_pos (by rfl)]
  rfl
theorem put_one {s : ByteArray} {l : List Ve} {t : Int} {v : Va} (hF : Fine [⟨s, l⟩]) (hn : nmB s = true) (ht : tmOk t = true) (hv : vRt v = true) : putR [⟨s, l⟩] s t v = (0, [⟨s, putV l ⟨t, canV v⟩⟩]) := by
  obtain ⟨a, b⟩ := hasN_one (s := s) (l := l)
  unfold putR
  rw [hn, ht, hv, if_pos (by rfl), hF.copy, if_neg (by rw [a]; simp)]
  unfold putA
  rw [a, b, if_pos rfl]
  rfl
set_option maxHeartbeats 3200000 in
theorem known_rc : ACalls Tryz.prog 11 0 90000 [] [] (fun out H' => out = .ret (.v (.bool true)) ∧ H' = []) := by
  have ta := ktext_c (bsS [120]) (by decide)
  have tb := ktext_c (bsS [121]) (by decide)
  have tc := ktext_c (bsS [122]) (by decide)
  have z0 : RowSz [] := fun c hc => by cases hc
  have p1 := put_c [] (bsS [97]) 5 ⟨1, [120], 0⟩ (by decide) z0 (by decide)
  have s1 := putR_sz (r := []) (s := bsS [97]) (t := 5) (v := ⟨1, [120], 0⟩) z0 (by decide)
  have f1 := putR_fine [] (bsS [97]) 5 ⟨1, [120], 0⟩
  rw [put_new (by decide) (by decide) (by decide)] at p1 s1 f1
  have p2 := put_c _ (bsS [97]) 3 ⟨1, [121], 0⟩ (by simp) s1 (by decide)
  have s2 := putR_sz (s := bsS [97]) (t := 3) (v := ⟨1, [121], 0⟩) s1 (by decide)
  have f2 := putR_fine [⟨bsS [97], [⟨5, canV ⟨1, [120], 0⟩⟩]⟩] (bsS [97]) 3 ⟨1, [121], 0⟩
  rw [put_one f1 (by decide) (by decide) (by decide)] at p2 s2 f2
  have hp : putV [⟨5, canV ⟨1, [120], 0⟩⟩] ⟨3, canV ⟨1, [121], 0⟩⟩ = [⟨5, ⟨1, [120], 0⟩⟩, ⟨3, ⟨1, [121], 0⟩⟩] := rfl
  have e1 : canV ⟨1, [120], 0⟩ = ⟨1, [120], 0⟩ := rfl
  simp only [hp] at p2 s2 f2
  rw [e1] at p1 p2 s1
  have n1 := newest_c _ (bsS [97]) (by simp) s2
  have p3 := put_c _ (bsS [97]) (-1) ⟨1, [122], 0⟩ (by simp) s2 (by decide)
  have r1 := (right_c _ (show ([⟨bsS [97], [⟨5, ⟨1, [120], 0⟩⟩, ⟨3, ⟨1, [121], 0⟩⟩]⟩] : List Co).length < 70368744177664 by simp)).top0
  rw [f2.row] at r1
  have m1 := name_c (bsS [97])
  have m2 := name_c (bsS [])
  have hn1 : atR [⟨bsS [97], [⟨5, ⟨1, [120], 0⟩⟩, ⟨3, ⟨1, [121], 0⟩⟩]⟩] (bsS [97]) 1099511627776 = some ⟨1, [120], 0⟩ := by
    obtain ⟨a, b⟩ := hasN_one (s := bsS [97]) (l := [⟨5, ⟨1, [120], 0⟩⟩, ⟨3, ⟨1, [121], 0⟩⟩])
    unfold atR
    rw [f2.copy, a, b, if_pos rfl]
    rfl
  rw [hn1] at n1
  have hp3 : putR [⟨bsS [97], [⟨5, ⟨1, [120], 0⟩⟩, ⟨3, ⟨1, [121], 0⟩⟩]⟩] (bsS [97]) (-1) ⟨1, [122], 0⟩ = (1, []) := by
    unfold putR
    rw [show (nmB (bsS [97]) && tmOk (-1) && vRt ⟨1, [122], 0⟩) = false by decide]
    rfl
  rw [hp3] at p3
  rw [show nmB (bsS [97]) = true by decide] at m1
  rw [show nmB (bsS []) = false by decide] at m2
  unfold PutRR at p1 p2 p3
  unfold optA at n1
  refine no_implicit_lambda% (acalls_of tok dok (f := 11) ⟨Tryz.func11, rfl, by kernel_rfl⟩ ?_); refine no_implicit_lambda% (c_start (fun _ h => h) ?_)
  repeat' (first | (refine no_implicit_lambda% (awd1 ?_)) | (((with_reducible refine no_implicit_lambda% (is_aops ?_)); refine no_implicit_lambda% (o_split rfl rfl rfl (fun hc => ?_) (fun hc => ?_)) <;> first | exact decx hc | rw [hc])) | (((with_reducible refine no_implicit_lambda% (is_cond ?_)); refine no_implicit_lambda% (c_cond rfl (fun hc => ?_) (fun hc => ?_)) <;> first | exact decx hc | skip)) | (((with_reducible refine no_implicit_lambda% (is_aop ?_)); refine no_implicit_lambda% (a_pick rfl rfl (fun hc => ?_) (fun hc => ?_)) <;> first | exact decx hc | rw [hc])) | (refine no_implicit_lambda% (ans ?_)) | (with_reducible exact retN) | (with_reducible exact retP) | (refine no_implicit_lambda% (cal [] (ta) ?_ ?_)) | fail)
  (refine no_implicit_lambda% (calw [] (p1) ?_ ?_))
  · refine no_implicit_lambda% (ret1 ?_); first | (refine no_implicit_lambda% (akc ?_)) | (refine no_implicit_lambda% (aec ?_))
    repeat' (first | (refine no_implicit_lambda% (awd1 ?_)) | (((with_reducible refine no_implicit_lambda% (is_aops ?_)); refine no_implicit_lambda% (o_split rfl rfl rfl (fun hc => ?_) (fun hc => ?_)) <;> first | exact decx hc | rw [hc])) | (((with_reducible refine no_implicit_lambda% (is_cond ?_)); refine no_implicit_lambda% (c_cond rfl (fun hc => ?_) (fun hc => ?_)) <;> first | exact decx hc | skip)) | (((with_reducible refine no_implicit_lambda% (is_aop ?_)); refine no_implicit_lambda% (a_pick rfl rfl (fun hc => ?_) (fun hc => ?_)) <;> first | exact decx hc | rw [hc])) | (refine no_implicit_lambda% (ans ?_)) | (with_reducible exact retN) | (with_reducible exact retP) | (refine no_implicit_lambda% (cal [] (ta) ?_ ?_)) | (refine no_implicit_lambda% (cal [] (tb) ?_ ?_)) | (refine no_implicit_lambda% (cal [] (tc) ?_ ?_)) | (refine no_implicit_lambda% (cal [] (p2) ?_ ?_)) | (refine no_implicit_lambda% (cal [] (p3) ?_ ?_)) | (refine no_implicit_lambda% (cal [] (n1) ?_ ?_)) | (refine no_implicit_lambda% (cal [] (r1) ?_ ?_)) | (refine no_implicit_lambda% (cal [] (m1) ?_ ?_)) | (refine no_implicit_lambda% (cal [] (m2) ?_ ?_)) | fail)
    · exact e_ret (H' := []) (rest := _) rfl ⟨rfl, rfl⟩ permT (Nat.le_of_ble_eq_true rfl)
    · exact absurd hc (by show ¬ ((⟨#[120]⟩ : ByteArray).toList == (⟨#[120]⟩ : ByteArray).toList) = false; simp)
  · first | (exact retN) | (exact retP)
end Go.Proofs.YtjepgbpcpcahgaaGreat
namespace Go.Am
open Go.RowKit Go.ChangeShapes Go.WideShapes
set_option linter.unusedSimpArgs false
set_option linter.unusedVariables false
def cellsX (w : World) : Nat → Nat → Option Value := fun b i => w.cell? ⟨b, i, none⟩
/-- a row of cells and what is known of it -/
def RowSim (X : Nat → Nat → Option Value) (row : List AV) (cs : List Value) : Prop :=
  row.length = cs.length ∧ ∀ (j : Nat) a y, row[j]? = some a → cs[j]? = some y → SimD X a y ∧ y.oneCell' = true
section
variable {H : Type} (enc : TypeId × Value → H) (P : Program) (w : World) (base : Nat) (sp : Nat → Bool) (held : Bool)
/-- every reading of this type's cells is a row of this kind -/
def Opn (t : TypeId) (R : List AV → Prop) : Prop := ∀ fuel cs x, DataW.trod enc P w base sp held fuel t cs = some x → ∃ row, RowSim (cellsX w) row cs ∧ R row
end
section
variable {H : Type} {enc : TypeId × Value → H} {P : Program} {w : World} {base : Nat} {sp : Nat → Bool} {held : Bool}
theorem RowSim.one {X : Nat → Nat → Option Value} {a : AV} {y : Value} (h : SimD X a y) (h1 : y.oneCell' = true) : RowSim X [a] [y] :=
  ⟨rfl, fun j b z hb hz => by
    cases j with
    | zero => simp at hb hz; subst hb; subst hz; exact ⟨h, h1⟩
    | succ j => simp at hb⟩
theorem RowSim.app {X : Nat → Nat → Option Value} {r s : List AV} {c d : List Value} (h : RowSim X r c) (k : RowSim X s d) : RowSim X (r ++ s) (c ++ d) :=
  ⟨by simp [h.1, k.1], fun j a y ha hy => by
    rw [List.getElem?_append] at ha hy
    rw [h.1] at ha
    split at ha
    · rw [if_pos (by assumption)] at hy; exact h.2 j a y ha hy
    · rw [if_neg (by assumption)] at hy; exact k.2 _ a y ha hy⟩
theorem opn_int {t : TypeId} {k : IntKind} (ht : P.underlying t = some (.int k)) : Opn enc P w base sp held t fun row => ∃ n, row = [.v (.int k n)] ∧ k.min ≤ n ∧ n ≤ k.max := fun fuel cs x h => by
  obtain ⟨n, rfl, _, hw⟩ := DataW.trod_int ht h
  simp only [Lit.wf, Bool.and_eq_true, decide_eq_true_eq] at hw
  exact ⟨_, .one (.v _) rfl, n, rfl, hw⟩
theorem opn_bool {t : TypeId} (ht : P.underlying t = some .bool) : Opn enc P w base sp held t fun row => ∃ b, row = [.v (.bool b)] := fun fuel cs x h => by
  obtain ⟨b, rfl, _⟩ := DataW.trod_bool ht h
  exact ⟨_, .one (.v _) rfl, b, rfl⟩
theorem opn_string {t : TypeId} (ht : P.underlying t = some .string) : Opn enc P w base sp held t fun row => ∃ s : ByteArray, row = [.v (.string s)] ∧ s.size ≤ maxLen := fun fuel cs x h => by
  obtain ⟨s, rfl, _, hs⟩ := DataW.trod_string ht h
  exact ⟨_, .one (.v _) rfl, s, rfl, hs⟩
theorem opn_float {t : TypeId} (ht : P.underlying t = some (.float .f64)) : Opn enc P w base sp held t fun row => ∃ b, row = [.v (.float .f64 b)] ∧ b < 18446744073709551616 := fun fuel cs x h => by
  cases fuel with
  | zero => simp [DataW.trod] at h
  | succ n =>
    unfold DataW.trod at h
    rw [ht] at h
    match cs, h with
    | [.float k' b], h =>
      simp only at h
      split at h
      · rename_i hw
        obtain ⟨rfl, hw⟩ := hw
        simp only [Lit.wf, decide_eq_true_eq] at hw
        exact ⟨_, .one (.v _) rfl, b, rfl, hw⟩
      · cases h
theorem cells_get {a : Addr} {n : Nat} {cs : List Value} (h : w.cells? base a n = some cs) : cs.length = n ∧ ∀ j, j < n → w.cell? (a.add j) = cs[j]? := by
  unfold World.cells? at h
  split at h
  · have h1 := mapM_some_length h
    refine ⟨by simpa using h1, fun j hj => ?_⟩
    have h2 := mapM_some_get h j j (by simp [hj])
    exact h2
  · cases h
theorem cell_spot {a : Addr} {v : Value} (h : w.cell? a = some v) : a.spot = none := by
  unfold World.cell? at h
  split at h
  · split at h
    · cases h
    · rename_i h1; simpa using h1
  · cases h
theorem add_at {a : Addr} (h : a.spot = none) (n : Nat) : a.add n = ⟨a.block, a.off + n, none⟩ := by
  obtain ⟨b, o, s⟩ := a
  simp only at h
  subst h
  unfold Addr.add
  split
  · rename_i h0; subst h0; rfl
  · rfl
theorem opn_slice {t e : TypeId} {s : Nat} {R : List AV → Prop} (ht : P.underlying t = some (.slice e)) (hs : P.cellsOf e = s) (h0 : 0 < s) (he : Opn enc P w base sp held e R) :
    Opn enc P w base sp held t fun row => ∃ rows, row = [.list rows .free] ∧ rows.length ≤ maxLen ∧ ∀ r ∈ rows, R r ∧ r.length = s := fun fuel cs x h => by
  rcases DataW.trod_slice ht h with ⟨rfl, _⟩ | ⟨a, len, cap, elems, rest, n, _, rfl, _, hb, hl, hm, hlen, hel, _, _⟩
  · exact ⟨_, .one (.nil .free none 0 (Nat.zero_le _) (fun h => by cases h) (.inl rfl)) rfl, [], rfl, Nat.zero_le _, fun r hr => (List.not_mem_nil hr).elim⟩
  subst hs
  have each : ∀ i, i < len → ∃ row cs', RowSim (cellsX w) row cs' ∧ R row ∧ cs'.length = P.cellsOf e ∧ ∀ j, j < P.cellsOf e → w.cell? ((a.add (i * P.cellsOf e)).add j) = cs'[j]? := fun i hi => by
    have h1 := hel i hi
    have hi' : i < elems.length := by omega
    rw [List.getElem?_eq_getElem hi', Option.bind_eq_some_iff] at h1
    obtain ⟨cs', hcs, hy⟩ := h1
    obtain ⟨row, k1, k2⟩ := he _ _ _ hy
    obtain ⟨k3, k4⟩ := cells_get hcs
    exact ⟨row, cs', k1, k2, k3, k4⟩
  rcases Nat.eq_zero_or_pos len with rfl | hpos
  · exact ⟨_, .one (.nil .free (some a) cap hm (fun h => by cases h) (.inl rfl)) rfl, [], rfl, Nat.zero_le _, fun r hr => (List.not_mem_nil hr).elim⟩
  have hspot : a.spot = none := by
    obtain ⟨row, cs', k1, k2, k3, k4⟩ := each 0 hpos
    have h2 := k4 0 h0
    have : cs'[0]? = some cs'[0] := List.getElem?_eq_getElem (by omega)
    rw [this] at h2
    have e : ((a.add (0 * P.cellsOf e)).add 0) = a := by simp [Addr.add]
    rw [e] at h2
    exact cell_spot h2
  -- the rows
  have hex : ∀ m, m ≤ len → ∃ rows : List (List AV), rows.length = m ∧ (∀ r ∈ rows, R r ∧ r.length = P.cellsOf e) ∧ ∀ i row, rows[i]? = some row → ∃ cs', RowSim (cellsX w) row cs' ∧ cs'.length = P.cellsOf e ∧ ∀ j, j < P.cellsOf e → w.cell? ((a.add (i * P.cellsOf e)).add j) = cs'[j]? := by
    intro m
    induction m with
    | zero => intro _; exact ⟨[], rfl, fun r hr => (List.not_mem_nil hr).elim, fun i row h => by simp at h⟩
    | succ m ih =>
      intro hm'
      obtain ⟨rows, r1, r2, r3⟩ := ih (by omega)
      obtain ⟨row, cs', k1, k2, k3, k4⟩ := each m (by omega)
      refine ⟨rows ++ [row], by simp [r1], fun r hr => ?_, fun i row' h => ?_⟩
      · rcases List.mem_append.1 hr with hr | hr
        · exact r2 r hr
        · obtain rfl := List.mem_singleton.1 hr
          exact ⟨k2, by rw [k1.1, k3]⟩
      · rw [List.getElem?_append] at h
        split at h
        · exact r3 i row' h
        · rename_i hge
          have hi : i = m := by
            have := (List.getElem?_eq_some_iff.1 h).1
            simp at this; omega
          subst hi
          rw [r1, Nat.sub_self] at h
          simp at h
          subst h
          exact ⟨cs', k1, k3, k4⟩
  obtain ⟨rows, r1, r2, r3⟩ := hex len (Nat.le_refl _)
  obtain ⟨b, off, sp'⟩ := a
  simp only at hspot
  subst hspot
  refine ⟨_, .one (?_ : SimD (cellsX w) (.list rows .free) _) rfl, rows, rfl, by rw [r1]; exact Nat.le_trans hl hm, r2⟩
  have key : ∀ i row j av, rows[i]? = some row → row[j]? = some av → ∃ y, cellsX w b (off + i * P.cellsOf e + j) = some y ∧ SimD (cellsX w) av y ∧ y.oneCell' = true := fun i row j av h1 h2 => by
    obtain ⟨cs', k1, k3, k4⟩ := r3 i row h1
    have hj : j < P.cellsOf e := by
      have := (List.getElem?_eq_some_iff.1 h2).1
      rw [k1.1, k3] at this; exact this
    have hj' : j < cs'.length := by omega
    have h4 := k4 j hj
    rw [List.getElem?_eq_getElem hj'] at h4
    obtain ⟨m1, m2⟩ := k1.2 j av cs'[j] h2 (List.getElem?_eq_getElem hj')
    refine ⟨cs'[j], ?_, m1, m2⟩
    rw [add_at (a := ⟨b, off, none⟩) rfl, add_at rfl] at h4
    exact h4
  have := SimD.list (X := cellsX w) rows .free b off cap (P.cellsOf e) (fun i j => (cellsX w b (off + i * P.cellsOf e + j)).getD undef) (by omega) hm (fun h => by cases h) (.inl rfl) (fun r hr => (r2 r hr).2)
    (fun i row j av h1 h2 => by obtain ⟨y, e1, _⟩ := key i row j av h1 h2; rw [e1]; rfl) (fun i row j av h1 h2 => by obtain ⟨y, e1, e2, _⟩ := key i row j av h1 h2; rw [e1]; exact e2) (fun i row j av h1 h2 => by obtain ⟨y, e1, _, e3⟩ := key i row j av h1 h2; rw [e1]; exact e3)
  rw [r1] at this
  exact this
theorem Opn.mono {t : TypeId} {R R' : List AV → Prop} (h : Opn enc P w base sp held t R) (hr : ∀ row, R row → R' row) : Opn enc P w base sp held t R' := fun fuel cs x hx => let ⟨row, h1, h2⟩ := h fuel cs x hx; ⟨row, h1, hr row h2⟩
/-- the fields of a struct, one behind the other -/
def AllR : List (List AV → Prop) → List AV → Prop
  | [], row => row = []
  | R :: Rs, row => ∃ r r', row = r ++ r' ∧ R r ∧ AllR Rs r'
def OpnAll (enc : TypeId × Value → H) (P : Program) (w : World) (base : Nat) (sp : Nat → Bool) (held : Bool) : Nat → List Field → List (List AV → Prop) → Nat → Prop
  | off, [], [], total => off = total
  | off, f :: fs, R :: Rs, total => f.offset = off ∧ Opn enc P w base sp held f.type R ∧ OpnAll enc P w base sp held (off + P.cellsOf f.type) fs Rs total
  | _, _, _, _ => False
theorem opn_fields : ∀ (fs : List Field) (Rs : List (List AV → Prop)) (off total n : Nat) (cs : List Value) (xs : List (DataW H × List MemPlace)), OpnAll enc P w base sp held off fs Rs total → cs.length = total →
    (∀ (i : Nat) (f : Field), fs[i]? = some f → ∃ x, DataW.trod enc P w base sp held n f.type ((cs.drop f.offset).take (P.cellsOf f.type)) = some x) → off ≤ total → ∃ row, RowSim (cellsX w) row (cs.drop off) ∧ AllR Rs row
  | [], [], off, total, n, cs, xs, h, hl, hx, ho => by
    have : off = total := h
    subst this
    refine ⟨[], ⟨by simp [hl], fun j a y h => by simp at h⟩, rfl⟩
  | f :: fs, R :: Rs, off, total, n, cs, xs, h, hl, hx, ho => by
    obtain ⟨rfl, h1, h2⟩ := h
    obtain ⟨x, hx0⟩ := hx 0 f rfl
    obtain ⟨r, k1, k2⟩ := h1 _ _ _ hx0
    have hle : f.offset + P.cellsOf f.type ≤ total := by
      have : ∀ (fs : List Field) (Rs : List (List AV → Prop)) (off total : Nat), OpnAll enc P w base sp held off fs Rs total → off ≤ total := by
        intro fs
        induction fs with
        | nil => intro Rs off total h; cases Rs with
          | nil => exact Nat.le_of_eq h
          | cons _ _ => exact h.elim
        | cons g gs ih => intro Rs off total h; cases Rs with
          | nil => exact h.elim
          | cons R Rs => exact Nat.le_trans (Nat.le_add_right _ _) (ih _ _ _ h.2.2)
      exact this _ _ _ _ h2
    obtain ⟨r', m1, m2⟩ := opn_fields fs Rs _ total n cs xs h2 hl (fun i g hg => hx (i + 1) g (by simpa using hg)) hle
    refine ⟨r ++ r', ?_, r, r', rfl, k2, m2⟩
    have e : cs.drop f.offset = (cs.drop f.offset).take (P.cellsOf f.type) ++ cs.drop (f.offset + P.cellsOf f.type) := by
      rw [← List.drop_drop, List.take_append_drop]
    rw [e]
    exact k1.app m1
  | [], _ :: _, _, _, _, _, _, h, _, _, _ => h.elim
  | _ :: _, [], _, _, _, _, _, h, _, _, _ => h.elim
theorem opn_struct {t : TypeId} {fs : Array Field} {Rs : List (List AV → Prop)} (ht : P.underlying t = some (.struct fs)) (h : OpnAll enc P w base sp held 0 fs.toList Rs (P.cellsOf t)) : Opn enc P w base sp held t (AllR Rs) := fun fuel cs x hx => by
  obtain ⟨xs, n, _, _, h1, h2, h3⟩ := DataW.trod_struct ht hx
  exact opn_fields fs.toList Rs 0 (P.cellsOf t) n cs xs h h1 (fun i f hf => by
    rw [Array.getElem?_toList] at hf
    have := h3 i f hf
    have hi : i < xs.length := by rw [h2]; exact (Array.getElem?_eq_some_iff.1 hf).1
    rw [List.getElem?_eq_getElem hi] at this
    exact ⟨_, this⟩) (Nat.zero_le _)
/-- a slice of rows, as a list -/
theorem listOf {α : Type} {f : α → List AV} {Q : α → Prop} : ∀ {rows : List (List AV)}, (∀ r ∈ rows, ∃ a, Q a ∧ r = f a) → ∃ l : List α, (∀ a ∈ l, Q a) ∧ rows = l.map f
  | [], _ => ⟨[], fun a ha => (List.not_mem_nil ha).elim, rfl⟩
  | r :: rows, h => by
    obtain ⟨a, ha, rfl⟩ := h r (by simp)
    obtain ⟨l, hl, rfl⟩ := listOf (rows := rows) fun r hr => h r (List.mem_cons_of_mem _ hr)
    exact ⟨a :: l, fun b hb => by rcases List.mem_cons.1 hb with rfl | hb; exact ha; exact hl b hb, rfl⟩
/-- octets -/
theorem opn_bytes {t e : TypeId} (ht : P.underlying t = some (.slice e)) (he : P.underlying e = some (.int .u8)) (hc : P.cellsOf e = 1) : Opn enc P w base sp held t fun row => ∃ l : List UInt8, row = [.list (l.map brow) .free] ∧ l.length ≤ maxLen :=
  (opn_slice ht hc (by decide) (opn_int he)).mono fun row ⟨rows, h1, h2, h3⟩ => by
    obtain ⟨l, _, rfl⟩ := listOf (f := brow) (Q := fun _ => True) fun r hr => by
      obtain ⟨⟨n, rfl, h4, h5⟩, _⟩ := h3 r hr
      have h4' : 0 ≤ n := h4
      have h5' : n ≤ 255 := h5
      refine ⟨UInt8.ofNat n.toNat, trivial, ?_⟩
      unfold brow
      rw [UInt8.toNat_ofNat']
      congr 3
      omega
    exact ⟨l, h1, by simpa using h2⟩
/-- a value of one cell, as an argument -/
theorem Opn.arg {t : TypeId} {v : Value} {d : DataW H} {ps : List MemPlace} {R : List AV → Prop} (h : Opn enc P w base sp held t R) (hd : DataW.Trod enc P w base sp held t v d ps) (hv : v.cells = #[v]) : ∃ a, R [a] ∧ SimD (cellsX w) a v := by
  obtain ⟨fuel, hf⟩ := hd
  obtain ⟨row, h1, h2⟩ := h _ _ _ hf
  rw [hv] at h1
  have hl : row.length = 1 := h1.1
  obtain ⟨a, rfl⟩ := List.length_eq_one_iff.1 hl
  exact ⟨a, h2, (h1.2 0 a v rfl rfl).1⟩
end
end Go.Am
namespace Go.Am
section
variable {H : Type} {enc : TypeId × Value → H} {P : Program} {w : World} {base : Nat} {sp : Nat → Bool} {held : Bool}
theorem RowSim.agg {G : Ghost} {row : List AV} {cs : Array Value} (h : RowSim G.X row cs.toList) : Sim G (.agg row) (.agg cs) :=
  .agg _ _ (by have := h.1; simpa using this) fun i a ha => by
    have hi : i < cs.size := by
      have := (List.getElem?_eq_some_iff.1 ha).1
      have h1 := h.1
      simp at h1; omega
    have : cs.getD i undef = cs[i] := by simp [hi]
    rw [this]
    exact .data _ _ (h.2 i a cs[i] ha (by simp [hi])).1
end
end Go.Am
namespace Go.Proofs.YtjepgbpcpcahgaaGreat
open Go.Am
set_option linter.unusedSimpArgs false
set_option linter.unusedVariables false
section
variable {H : Type} {enc : TypeId × Value → H} {w : World} {base : Nat} {sp : Nat → Bool} {held : Bool}
theorem opnBytes : Opn enc Tryz.prog w base sp held 23 fun row => ∃ l : List UInt8, row = [.list (l.map brow) .free] ∧ l.length ≤ maxLen := opn_bytes Tryz.underlying23 Tryz.underlying5 (by kernel_rfl)
def dvrow (tx : Bool) (n : Int) (x : Nat) (b : List UInt8) : List AV := [.v (.bool tx), .v (.int .i64 n), .v (.float .f64 x), .list (b.map brow) .free]
theorem opnV : Opn enc Tryz.prog w base sp held 47 fun row => ∃ tx n x b, ((-9223372036854775808 ≤ n ∧ n ≤ 9223372036854775807) ∧ x < 18446744073709551616) ∧ row = dvrow tx n x b :=
  (opn_struct Tryz.underlying47 (Rs := [fun row => ∃ b, row = [.v (.bool b)], fun row => ∃ n, row = [.v (.int .i64 n)] ∧ IntKind.i64.min ≤ n ∧ n ≤ IntKind.i64.max, fun row => ∃ b, row = [.v (.float .f64 b)] ∧ b < 18446744073709551616, fun row => ∃ l : List UInt8, row = [.list (l.map brow) .free] ∧ l.length ≤ maxLen])
    ⟨rfl, opn_bool Tryz.underlying4, by kernel_rfl, opn_int Tryz.underlying3, by kernel_rfl, opn_float Tryz.underlying45, by kernel_rfl, opnBytes, (show (_ : Nat) = _ by kernel_rfl)⟩).mono
    fun row hrow => by
      obtain ⟨_, _, e0, ⟨tx, rfl⟩, _, _, e1, ⟨n, rfl, h1, h2⟩, _, _, e2, ⟨x, rfl, hx⟩, _, _, e3, ⟨l, rfl, _⟩, e4⟩ := hrow
      refine ⟨tx, n, x, l, ⟨⟨h1, h2⟩, hx⟩, ?_⟩
      rw [e0, e1, e2, e3, e4]
      rfl
end
end Go.Proofs.YtjepgbpcpcahgaaGreat
namespace Go.Proofs.YtjepgbpcpcahgaaGreat
open Go.Am
set_option linter.unusedSimpArgs false
set_option linter.unusedVariables false
set_option maxRecDepth 100000
def okV (v : Va) : Prop := v.b.length < 1073741824 ∧ v.n < 18446744073709551616 ∧ vRt v = true
theorem VOk.ok {v : Va} (h : VOk v) : okV v := by
  unfold okV vRt
  rcases h with ⟨h1, h2, h3⟩ | ⟨h1, h2, h3⟩
  · rw [h1, h2]; exact ⟨by omega, by decide, by simp; omega⟩
  · rw [h1, h2]; exact ⟨by decide, h3, by simp⟩
/-- a value as it is drawn -/
structure Dv where
  tx : Bool
  n : Int
  x : Nat
  b : List UInt8
end Go.Proofs.YtjepgbpcpcahgaaGreat
namespace Go.Proofs.YtjepgbpcpcahgaaGreat
open Go.Am
set_option linter.unusedSimpArgs false
set_option linter.unusedVariables false
set_option maxRecDepth 100000
def Named (M : List Co) : Prop := ∀ c ∈ M, c.n ∈ colL
theorem putA_named {o : List Co} (h : Named o) {s : ByteArray} (hs : s ∈ colL) (x : Ve) : Named (putA o s x) := by
  unfold putA
  split
  · split
    · rename_i c hc
      intro d hd
      rcases List.mem_or_eq_of_mem_set hd with hd | rfl
      · exact h d hd
      · exact h c (List.mem_of_getElem? hc)
    · exact h
  · intro d hd
    unfold insAt at hd
    rcases List.mem_append.1 hd with hd | hd
    · exact h d (List.mem_of_mem_take hd)
    · rcases List.mem_cons.1 hd with rfl | hd
      · exact hs
      · exact h d (List.mem_of_mem_drop hd)
theorem putR_named {M : List Co} (hF : Fine M) (h : Named M) {s : ByteArray} (hs : s ∈ colL) (t : Int) (v : Va) : Named (putR M s t v).2 := by
  unfold putR
  rw [hF.copy]
  split
  · split
    · intro c hc; cases hc
    · exact putA_named h hs _
  · intro c hc; cases hc
def MadeR (out : AOut) (H' : Heap) : Prop := ∃ M, Fine M ∧ RowSz M ∧ Named M ∧ out = .ret (rowA M) ∧ H' = []
def mdSt (l : List Rk) (M : List Co) (i : Nat) : ASt := ⟨([.list (l.map rkrow) .free, .dead, .ptr 0 0, .ptr 1 0, .v (.int .i64 i)] ++ List.replicate 41 .dead), [(0, .box [.list [] .full]), (1, .box [.list (M.map corow) .free])], 2⟩
set_option maxHeartbeats 3200000 in
theorem made4_c (l : List Rk) (hl : ∀ a ∈ l, RkOk a) (h : l.length ≤ 9223372036854775807) : ACalls Tryz.prog 6 0 90000 [.list (l.map rkrow) .free] [] MadeR := by
  refine no_implicit_lambda% (acalls_of tok dok (f := 6) ⟨Tryz.func6, rfl, by kernel_rfl⟩ ?_); refine no_implicit_lambda% (c_start (fun _ h => h) ?_)
  repeat' (first | (refine no_implicit_lambda% (awd1 ?_)) | (((with_reducible refine no_implicit_lambda% (is_aops ?_)); refine no_implicit_lambda% (o_split rfl rfl rfl (fun hc => ?_) (fun hc => ?_)) <;> first | exact decx hc | rw [hc])) | (((with_reducible refine no_implicit_lambda% (is_cond ?_)); refine no_implicit_lambda% (c_cond rfl (fun hc => ?_) (fun hc => ?_)) <;> first | exact decx hc | skip)) | (((with_reducible refine no_implicit_lambda% (is_aop ?_)); refine no_implicit_lambda% (a_pick rfl rfl (fun hc => ?_) (fun hc => ?_)) <;> first | exact decx hc | rw [hc])) | (refine no_implicit_lambda% (ans ?_)) | (with_reducible exact retN) | (with_reducible exact retP) | fail | fail)
  refine c_loop2 (mdSt l) (fun M i => i ≤ l.length ∧ Fine M ∧ RowSz M ∧ Named M) (fun _ i => l.length - i) [] 0 ⟨Nat.zero_le _, copy_fine [], fun c hc => (by cases hc), fun c hc => (by cases hc)⟩ ?_ ?_
  · (refine no_implicit_lambda% (Conv.toT ?_ ?_ (Nat.le_of_ble_eq_true rfl))); (focus ((unfold mdSt); (try dsimp only); exact wkl)); (focus ((unfold mdSt); (try dsimp only); exact wkh))
  · rintro M i ⟨i1, hF, hz, hN⟩
    have h4 := hF.len
    refine c_turn (n' := 2) (fun _ h => h) (fun _ h => h) rfl ?_
    rcases hx : l[i]? with _ | a
    · have hi : i = l.length := by have := List.getElem?_eq_none_iff.1 hx; omega
      repeat' (first | (refine no_implicit_lambda% (awd1 ?_)) | (((with_reducible refine no_implicit_lambda% (is_aops ?_)); refine no_implicit_lambda% (o_split rfl rfl rfl (fun hc => ?_) (fun hc => ?_)) <;> first | exact decx hc | rw [hc])) | (((with_reducible refine no_implicit_lambda% (is_cond ?_)); refine no_implicit_lambda% (c_cond rfl (fun hc => ?_) (fun hc => ?_)) <;> first | exact decx hc | skip)) | (((with_reducible refine no_implicit_lambda% (is_aop ?_)); refine no_implicit_lambda% (a_pick rfl rfl (fun hc => ?_) (fun hc => ?_)) <;> first | exact decx hc | rw [hc])) | (refine no_implicit_lambda% (ans ?_)) | (with_reducible exact retN) | (with_reducible exact retP) | fail | fail)
      exact e_ret (H' := []) (rest := _) rfl ⟨M, hF, hz, hN, rfl, rfl⟩ permT (Nat.le_of_ble_eq_true rfl)
    · have hi : i < l.length := (List.getElem?_eq_some_iff.1 hx).1
      have ha := hl a (List.mem_of_getElem? hx)
      have hix := rkex hx
      have hw : IntKind.i64.wrap (a.t.tmod 9 + 9) = a.t.tmod 9 + 9 := by
        have h1 := Int.tmod_lt_of_pos a.t (show (0 : Int) < 9 by decide)
        have h2 := Int.lt_tmod_of_pos a.t (show (0 : Int) < 9 by decide)
        exact z64 (by omega) (by omega)
      repeat' (first | (refine no_implicit_lambda% (awd1 ?_)) | (((with_reducible refine no_implicit_lambda% (is_aops ?_)); refine no_implicit_lambda% (o_split rfl rfl rfl (fun hc => ?_) (fun hc => ?_)) <;> first | exact decx hc | rw [hc])) | (((with_reducible refine no_implicit_lambda% (is_cond ?_)); refine no_implicit_lambda% (c_cond rfl (fun hc => ?_) (fun hc => ?_)) <;> first | exact decx hc | skip)) | (((with_reducible refine no_implicit_lambda% (is_aop ?_)); refine no_implicit_lambda% (a_pick rfl rfl (fun hc => ?_) (fun hc => ?_)) <;> first | exact decx hc | rw [hc])) | (refine no_implicit_lambda% (ans ?_)) | (with_reducible exact retN) | (with_reducible exact retP) | fail | fail)
      · (refine no_implicit_lambda% (cal [] (keepcol_c a.c ha.c.1 ha.c.2) ?_ ?_))
        · intro xx H' hh
          obtain ⟨s, hs, h', rfl⟩ := hh
          cases h'
          first | (refine no_implicit_lambda% (akc ?_)) | (refine no_implicit_lambda% (aec ?_))
          repeat' (first | (refine no_implicit_lambda% (awd1 ?_)) | (((with_reducible refine no_implicit_lambda% (is_aops ?_)); refine no_implicit_lambda% (o_split rfl rfl rfl (fun hc => ?_) (fun hc => ?_)) <;> first | exact decx hc | rw [hc])) | (((with_reducible refine no_implicit_lambda% (is_cond ?_)); refine no_implicit_lambda% (c_cond rfl (fun hc => ?_) (fun hc => ?_)) <;> first | exact decx hc | skip)) | (((with_reducible refine no_implicit_lambda% (is_aop ?_)); refine no_implicit_lambda% (a_pick rfl rfl (fun hc => ?_) (fun hc => ?_)) <;> first | exact decx hc | rw [hc])) | (refine no_implicit_lambda% (ans ?_)) | (with_reducible exact retN) | (with_reducible exact retP) | fail | fail)
          (refine no_implicit_lambda% (cal [] (vmade_c a.tx a.n a.x a.b ha.n.1 ha.n.2 ha.x) ?_ ?_))
          · intro xx H' hh
            obtain ⟨v, hv, h', rfl⟩ := hh
            cases h'
            first | (refine no_implicit_lambda% (akc ?_)) | (refine no_implicit_lambda% (aec ?_))
            have hvo := hv.ok
            have hp := qput_c M s (IntKind.i64.wrap (a.t.tmod 9 + 9) |>.tmod 9) v (by omega) hz ⟨hvo.1, hvo.2.1⟩
            have pf := putR_fine M s (IntKind.i64.wrap (a.t.tmod 9 + 9) |>.tmod 9) v
            have pz := putR_sz (s := s) (t := IntKind.i64.wrap (a.t.tmod 9 + 9) |>.tmod 9) hz ⟨hvo.1, hvo.2.1⟩
            have pn := putR_named hF hN hs (IntKind.i64.wrap (a.t.tmod 9 + 9) |>.tmod 9) v
            unfold PutRR at hp
            generalize putR M s (IntKind.i64.wrap (a.t.tmod 9 + 9) |>.tmod 9) v = Q at *
            obtain ⟨e, X⟩ := Q
            repeat' (first | (refine no_implicit_lambda% (awd1 ?_)) | (((with_reducible refine no_implicit_lambda% (is_aops ?_)); refine no_implicit_lambda% (o_split rfl rfl rfl (fun hc => ?_) (fun hc => ?_)) <;> first | exact decx hc | rw [hc])) | (((with_reducible refine no_implicit_lambda% (is_cond ?_)); refine no_implicit_lambda% (c_cond rfl (fun hc => ?_) (fun hc => ?_)) <;> first | exact decx hc | skip)) | (((with_reducible refine no_implicit_lambda% (is_aop ?_)); refine no_implicit_lambda% (a_pick rfl rfl (fun hc => ?_) (fun hc => ?_)) <;> first | exact decx hc | rw [hc])) | (refine no_implicit_lambda% (ans ?_)) | (with_reducible exact retN) | (with_reducible exact retP) | (refine no_implicit_lambda% (cal [] (hp) ?_ ?_)) | fail)
            · (refine no_implicit_lambda% (k_loopLT (((X, i + 1) : List Co × Nat)) 0 [0, 1] (by show i + 1 ≤ l.length ∧ Fine X ∧ RowSz X ∧ Named X; exact ⟨hi, pf, pz, pn⟩) (by first | omega | (simp; done) | (simp; omega)) (Nat.le_of_ble_eq_true rfl) (fun _ h => h) (fun _ h => h) ?_ ?_)); (focus ((try dsimp only); exact wkl)); (focus ((try dsimp only); exact wkh))
            · (refine no_implicit_lambda% (k_loopLT (((M, i + 1) : List Co × Nat)) 0 [0, 1] (by show i + 1 ≤ l.length ∧ Fine M ∧ RowSz M ∧ Named M; exact ⟨hi, hF, hz, hN⟩) (by first | omega | (simp; done) | (simp; omega)) (Nat.le_of_ble_eq_true rfl) (fun _ h => h) (fun _ h => h) ?_ ?_)); (focus ((try dsimp only); exact wkl)); (focus ((try dsimp only); exact wkh))
          · intro xx H' hh
            obtain ⟨_, _, h', _⟩ := hh
            cases h'
        · intro xx H' hh
          obtain ⟨_, _, h', _⟩ := hh
          cases h'
      · exact e_ret (H' := []) (rest := _) rfl ⟨M, hF, hz, hN, rfl, rfl⟩ permT (Nat.le_of_ble_eq_true rfl)
end Go.Proofs.YtjepgbpcpcahgaaGreat
namespace Go.Proofs.YtjepgbpcpcahgaaGreat
open Go.Am
set_option linter.unusedSimpArgs false
set_option linter.unusedVariables false
set_option maxRecDepth 100000
/-- any value's octets -/
def encA (v : Va) : List UInt8 := if v.kind = 1 then 1 :: (be v.b.length 4 ++ v.b) else if v.kind = 2 then 2 :: be (canonB v.n) 8 else [0]
theorem encA_len {v : Va} (h : v.b.length ≤ 20) : (encA v).length ≤ 25 := by
  unfold encA
  split
  · simp [be_len]; omega
  · split
    · simp [be_len]
    · simp
theorem k_ne {k c : Int} (h : ¬ k = c) : (k == c) = false := by simpa using h
theorem putA_c (v : Va) (hb : v.b.length ≤ 20) (hn : v.n < 18446744073709551616) (l : List UInt8) (hl : l.length < 100000000) : ACalls Tryz.prog 85 2 10 [.ptr 0 0, vav v] (wr l) (fun out H' => out = .ret (.tuple []) ∧ H' = wr (l ++ encA v)) := by
  obtain ⟨kd, b, n⟩ := v
  simp only at hb hn
  by_cases h1 : kd = 1
  · subst h1
    have ee : l ++ encA ⟨1, b, n⟩ = l ++ [1] ++ (be b.length 4 ++ b) := by simp [encA]
    rw [ee]
    have hT := text_c (l ++ [1]) b (by omega) (by simp; omega)
    rw [if_pos (show b.length ≤ 1048576 by omega)] at hT
    refine no_implicit_lambda% (acalls_of tok dok (f := 85) ⟨Tryz.func85, rfl, by kernel_rfl⟩ ?_); refine no_implicit_lambda% (c_start (fun _ h => h) ?_)
    refine no_implicit_lambda% (awd ?_)
    refine no_implicit_lambda% (cal [0, 1] (byte_c l 1 (by omega)) ?_ ?_)
    · refine no_implicit_lambda% (ret1 ?_); first | (refine no_implicit_lambda% (akc ?_)) | (refine no_implicit_lambda% (aec ?_))
      refine no_implicit_lambda% (awd ?_)
      refine no_implicit_lambda% (cal [0, 1] (hT) ?_ ?_)
      · refine no_implicit_lambda% (ret1 ?_); first | (refine no_implicit_lambda% (akc ?_)) | (refine no_implicit_lambda% (aec ?_))
        refine no_implicit_lambda% (awd ?_)
        exact e_ret (H' := wr (l ++ [1] ++ (be b.length 4 ++ b))) (rest := _) rfl ⟨rfl, rfl⟩ (.of_eq rfl) (Nat.le_of_ble_eq_true rfl)
      · first | (exact retN) | (exact retP)
    · first | (exact retN) | (exact retP)
  · by_cases h2 : kd = 2
    · subst h2
      have ee : l ++ encA ⟨2, b, n⟩ = l ++ [2] ++ be (canonB n) 8 := by simp [encA]
      rw [ee]
      refine no_implicit_lambda% (acalls_of tok dok (f := 85) ⟨Tryz.func85, rfl, by kernel_rfl⟩ ?_); refine no_implicit_lambda% (c_start (fun _ h => h) ?_)
      refine no_implicit_lambda% (awd ?_)
      refine no_implicit_lambda% (cal [0, 1] (byte_c l 2 (by omega)) ?_ ?_)
      · refine no_implicit_lambda% (ret1 ?_); first | (refine no_implicit_lambda% (akc ?_)) | (refine no_implicit_lambda% (aec ?_))
        refine no_implicit_lambda% (awd ?_)
        refine no_implicit_lambda% (cal [0, 1] (float_c (l ++ [2]) n hn (by simp; omega)) ?_ ?_)
        · refine no_implicit_lambda% (ret1 ?_); first | (refine no_implicit_lambda% (akc ?_)) | (refine no_implicit_lambda% (aec ?_))
          refine no_implicit_lambda% (awd ?_)
          exact e_ret (H' := wr (l ++ [2] ++ be (canonB n) 8)) (rest := _) rfl ⟨rfl, rfl⟩ (.of_eq rfl) (Nat.le_of_ble_eq_true rfl)
        · first | (exact retN) | (exact retP)
      · first | (exact retN) | (exact retP)
    · have ee : l ++ encA ⟨kd, b, n⟩ = l ++ [0] := by simp [encA, h1, h2]
      rw [ee]
      have e1 := k_ne h1
      have e2 := k_ne h2
      refine no_implicit_lambda% (acalls_of tok dok (f := 85) ⟨Tryz.func85, rfl, by kernel_rfl⟩ ?_); refine no_implicit_lambda% (c_start (fun _ h => h) ?_)
      repeat' (first | (refine no_implicit_lambda% (awd1 ?_)) | (((with_reducible refine no_implicit_lambda% (is_aops ?_)); refine no_implicit_lambda% (o_split rfl rfl rfl (fun hc => ?_) (fun hc => ?_)) <;> rw [hc])) | (((with_reducible refine no_implicit_lambda% (is_cond ?_)); refine no_implicit_lambda% (c_cond rfl (fun hc => ?_) (fun hc => ?_)))) | (((with_reducible refine no_implicit_lambda% (is_aop ?_)); refine no_implicit_lambda% (a_pick rfl rfl (fun hc => ?_) (fun hc => ?_)) <;> rw [hc])) | fail)
      · rw [e1] at hc; cases hc
      · rw [e2] at hc; cases hc
      · refine no_implicit_lambda% (cal [0, 1] (byte_c l 0 (by omega)) ?_ ?_)
        · refine no_implicit_lambda% (ret1 ?_); first | (refine no_implicit_lambda% (akc ?_)) | (refine no_implicit_lambda% (aec ?_))
          refine no_implicit_lambda% (awd ?_)
          exact e_ret (H' := wr (l ++ [0])) (rest := _) rfl ⟨rfl, rfl⟩ (.of_eq rfl) (Nat.le_of_ble_eq_true rfl)
        · first | (exact retN) | (exact retP)
/-- the value that octets begin with -/
def GV (b : List UInt8) (v : Va) (r : List UInt8) : Prop :=
  1 ≤ b.length ∧ ((ubn (b.take 1) 0 = 1 ∧ tOk (b.drop 1) 16 ∧ v = ⟨1, ((b.drop 1).drop 4).take (ubn ((b.drop 1).take 4) 0), 0⟩ ∧ r = ((b.drop 1).drop 4).drop (ubn ((b.drop 1).take 4) 0)) ∨
    (ubn (b.take 1) 0 = 2 ∧ fOk (b.drop 1) ∧ v = ⟨2, [], ubn ((b.drop 1).take 8) 0⟩ ∧ r = (b.drop 1).drop 8))
theorem GV.fn {b : List UInt8} {v v' : Va} {r r' : List UInt8} (h : GV b v r) (h' : GV b v' r') : v = v' ∧ r = r' := by
  obtain ⟨_, ⟨h1, _, rfl, rfl⟩ | ⟨h1, _, rfl, rfl⟩⟩ := h <;> obtain ⟨_, ⟨h2, _, rfl, rfl⟩ | ⟨h2, _, rfl, rfl⟩⟩ := h'
  · exact ⟨rfl, rfl⟩
  · omega
  · omega
  · exact ⟨rfl, rfl⟩
theorem GV.n {b : List UInt8} {v : Va} {r : List UInt8} (h : GV b v r) : v.n < 18446744073709551616 := by
  obtain ⟨_, ⟨h1, _, rfl, rfl⟩ | ⟨h1, _, rfl, rfl⟩⟩ := h
  · show 0 < _; decide
  · exact ubn_take _ 8
theorem getA_c (b : List UInt8) (hb : b.length < 100000000) : ACalls Tryz.prog 90 1 20 [.ptr 0 0] (rd b) (fun out H' => (∃ v r, GV b v r ∧ out = .ret (vav v) ∧ H' = rd r) ∨ ((∀ v r, ¬ GV b v r) ∧ out = gone ∧ H' = [])) := by
  have hC := rByte_c b (by omega)
  have hT := rText_c (b.drop 1) 16 (by simp; omega)
  have hF := rFloat_c (b.drop 1) (by simp; omega)
  have g1 : tOk (b.drop 1) 16 → 1 ≤ b.length → ubn (b.take 1) 0 = 1 → GV b ⟨1, ((b.drop 1).drop 4).take (ubn ((b.drop 1).take 4) 0), 0⟩ (((b.drop 1).drop 4).drop (ubn ((b.drop 1).take 4) 0)) := fun h1 h2 h3 => ⟨h2, .inl ⟨h3, h1, rfl, rfl⟩⟩
  have g2 : fOk (b.drop 1) → 1 ≤ b.length → ubn (b.take 1) 0 = 2 → GV b ⟨2, [], ubn ((b.drop 1).take 8) 0⟩ ((b.drop 1).drop 8) := fun h1 h2 h3 => ⟨h2, .inr ⟨h3, h1, rfl, rfl⟩⟩
  have n1 : ¬ tOk (b.drop 1) 16 → ubn (b.take 1) 0 = 1 → ∀ v r, ¬ GV b v r := fun h1 h2 v r h => by
    obtain ⟨_, ⟨_, h4, _⟩ | ⟨h4, _⟩⟩ := h
    · exact h1 h4
    · omega
  have n2 : ¬ fOk (b.drop 1) → ubn (b.take 1) 0 = 2 → ∀ v r, ¬ GV b v r := fun h1 h2 v r h => by
    obtain ⟨_, ⟨h4, _⟩ | ⟨_, h4, _⟩⟩ := h
    · omega
    · exact h1 h4
  have n3 : ¬ ubn (b.take 1) 0 = 1 → ¬ ubn (b.take 1) 0 = 2 → ∀ v r, ¬ GV b v r := fun h1 h2 v r h => by
    obtain ⟨_, ⟨h4, _⟩ | ⟨h4, _⟩⟩ := h <;> omega
  have n0 : b.length < 1 → ∀ v r, ¬ GV b v r := fun h1 v r h => by
    have := h.1; omega
  have hk := ubn_take b 1
  generalize ubn (b.take 1) 0 = k at *
  generalize ((b.drop 1).drop 4).take (ubn ((b.drop 1).take 4) 0) = tx at *
  generalize ((b.drop 1).drop 4).drop (ubn ((b.drop 1).take 4) 0) = r1 at *
  generalize ubn ((b.drop 1).take 8) 0 = x at *
  generalize (b.drop 1).drop 8 = r2 at *
  have hkk : IntKind.i64.wrap (k : Int) = (k : Int) := by rw [IntKind.wrap_i64]; omega
  refine no_implicit_lambda% (acalls_of tok dok (f := 90) ⟨Tryz.func90, rfl, by kernel_rfl⟩ ?_); refine no_implicit_lambda% (c_start (fun _ h => h) ?_)
  refine no_implicit_lambda% (awd ?_)
  refine no_implicit_lambda% (cal [0] (hC) ?_ ?_)
  · intro x H' h; rcases h with ⟨hg, h1, h2⟩ | ⟨hg, h1, h2⟩ <;> first | (cases h1; done) | (cases h1; subst h2)
    first | (refine no_implicit_lambda% (akc ?_)) | (refine no_implicit_lambda% (aec ?_))
    refine no_implicit_lambda% (awd ?_)
    rw [hkk]
    repeat' (first | (refine no_implicit_lambda% (awd1 ?_)) | (((with_reducible refine no_implicit_lambda% (is_aops ?_)); refine no_implicit_lambda% (o_split rfl rfl rfl (fun hc => ?_) (fun hc => ?_)) <;> rw [hc])) | (((with_reducible refine no_implicit_lambda% (is_cond ?_)); refine no_implicit_lambda% (c_cond rfl (fun hc => ?_) (fun hc => ?_)))) | (((with_reducible refine no_implicit_lambda% (is_aop ?_)); refine no_implicit_lambda% (a_pick rfl rfl (fun hc => ?_) (fun hc => ?_)) <;> rw [hc])) | fail)
    · obtain rfl : k = 1 := by simp at hc; omega
      refine no_implicit_lambda% (cal [0] (hT) ?_ ?_)
      · intro x H' h; rcases h with ⟨hg, h1, h2⟩ | ⟨hg, h1, h2⟩ <;> first | (cases h1; done) | (cases h1; subst h2)
        first | (refine no_implicit_lambda% (akc ?_)) | (refine no_implicit_lambda% (aec ?_))
        refine no_implicit_lambda% (awd ?_)
        exact e_ret (H' := rd r1) (rest := _) rfl (.inl ⟨_, _, g1 hg (by assumption) rfl, rfl, rfl⟩) (.of_eq rfl) (Nat.le_of_ble_eq_true rfl)
      · intro x H' h; rcases h with ⟨hg, h1, h2⟩ | ⟨hg, h1, h2⟩ <;> first | (cases h1; done) | (cases h1; subst h2)
        refine no_implicit_lambda% (awd ?_)
        exact e_pan (H' := []) (rest := _) (.inr ⟨n1 hg rfl, rfl, rfl⟩) (.refl _) (Nat.le_of_ble_eq_true rfl)
    · obtain rfl : k = 2 := by simp at hc; omega
      refine no_implicit_lambda% (cal [0] (hF) ?_ ?_)
      · intro x H' h; rcases h with ⟨hg, h1, h2⟩ | ⟨hg, h1, h2⟩ <;> first | (cases h1; done) | (cases h1; subst h2)
        first | (refine no_implicit_lambda% (akc ?_)) | (refine no_implicit_lambda% (aec ?_))
        refine no_implicit_lambda% (awd ?_)
        exact e_ret_to (H' := rd r2) (rest := _) (.wk (.refl _) (.cons (.refl _) (.cons (.refl _) (.cons (.box _ (.cons (.refl _) (.cons (.free _ _) (.cons (.refl _) .nil)))) (.refl _))))) rfl (.inl ⟨_, _, g2 hg (by assumption) rfl, rfl, rfl⟩) (.of_eq rfl) (Nat.le_of_ble_eq_true rfl)
      · intro x H' h; rcases h with ⟨hg, h1, h2⟩ | ⟨hg, h1, h2⟩ <;> first | (cases h1; done) | (cases h1; subst h2)
        refine no_implicit_lambda% (awd ?_)
        exact e_pan (H' := []) (rest := _) (.inr ⟨n2 hg rfl, rfl, rfl⟩) (.refl _) (Nat.le_of_ble_eq_true rfl)
    · rename_i hc1
      refine no_implicit_lambda% (cal [0] (fail_c (b.drop 1)) ?_ ?_)
      · first | (exact retN) | (exact retP)
      · intro xx H' hh
        obtain ⟨h1, rfl⟩ := hh
        cases h1
        refine no_implicit_lambda% (awd ?_)
        exact e_pan (H' := []) (rest := _) (.inr ⟨n3 (by simp at hc1; omega) (by simp at hc; omega), rfl, rfl⟩) (.refl _) (Nat.le_of_ble_eq_true rfl)
  · intro x H' h; rcases h with ⟨hg, h1, h2⟩ | ⟨hg, h1, h2⟩ <;> first | (cases h1; done) | (cases h1; subst h2)
    refine no_implicit_lambda% (awd ?_)
    exact e_pan (H' := []) (rest := _) (.inr ⟨n0 hg, rfl, rfl⟩) (.refl _) (Nat.le_of_ble_eq_true rfl)
end Go.Proofs.YtjepgbpcpcahgaaGreat
namespace Go.Proofs.YtjepgbpcpcahgaaGreat
open Go.Am
set_option linter.unusedSimpArgs false
set_option linter.unusedVariables false
set_option maxRecDepth 100000
/-- octets of a version, of a column, of a row -/
def encE (x : Ve) : List UInt8 := be x.t.toNat 8 ++ encA x.v
def encC (c : Co) : List UInt8 := be c.n.data.toList.length 4 ++ c.n.data.toList ++ [UInt8.ofNat c.l.length] ++ c.l.flatMap encE
def encR (o : List Co) : List UInt8 := UInt8.ofNat o.length :: o.flatMap encC
/-- a version that may be written -/
def VeW (x : Ve) : Prop := (0 ≤ x.t ∧ x.t < 9223372036854775808) ∧ x.v.b.length ≤ 20 ∧ x.v.n < 18446744073709551616
def CoW (c : Co) : Prop := c.n.data.toList.length ≤ 16 ∧ c.l.length ≤ 2 ∧ ∀ x ∈ c.l, VeW x
def RoW (o : List Co) : Prop := o.length ≤ 4 ∧ ∀ c ∈ o, CoW c
theorem Fine.row_w {o : List Co} (hF : Fine o) (hz : RowSz o) : RoW o := by
  refine ⟨hF.len, fun c hc => ?_⟩
  have h := hF.col c hc
  have hl := col_len h
  unfold colB at h
  simp only [Bool.and_eq_true] at h
  obtain ⟨h1, _⟩ := vers_to h.2
  refine ⟨?_, hl.2, fun x hx => ?_⟩
  · have h2 := h.1.1
    unfold nmB at h2
    have h3 := of_decide_eq_true h2
    have h4 : c.n.data.toList.length = c.n.size := rfl
    omega
  · obtain ⟨h2, h3⟩ := h1 x hx
    have hcan := congrArg Ve.v (can_col (hF.can c hc) x hx)
    have h5 : canV x.v = x.v := hcan
    refine ⟨?_, ?_, (hz c hc x hx).2⟩
    · unfold tmOk at h2
      have := of_decide_eq_true h2
      omega
    · rw [← h5]
      unfold canV
      by_cases k1 : x.v.kind = 1
      · rw [if_pos k1]
        unfold vRt at h3
        rw [k1] at h3
        simp at h3
        show x.v.b.length ≤ 20
        omega
      · rw [if_neg k1]
        split <;> exact Nat.zero_le _
theorem copy_w {r : List Co} (hz : RowSz r) : RoW (copyR r) := (copy_fine r).row_w (copy_sz hz)
theorem encE_len {x : Ve} (h : VeW x) : (encE x).length ≤ 33 := by
  unfold encE
  have := encA_len h.2.1
  rw [List.length_append, be_len]
  omega
theorem flat_len {α : Type} (f : α → List UInt8) (k : Nat) : ∀ l : List α, (∀ x ∈ l, (f x).length ≤ k) → (l.flatMap f).length ≤ l.length * k
  | [], _ => Nat.zero_le _
  | x :: l, h => by
    have h1 := flat_len f k l fun y hy => h y (List.mem_cons_of_mem _ hy)
    have h2 := h x (by simp)
    rw [List.flatMap_cons, List.length_append, List.length_cons, Nat.add_mul]
    omega
theorem encC_len {c : Co} (h : CoW c) : (encC c).length ≤ 90 := by
  have h1 := flat_len encE 33 c.l fun x hx => encE_len (h.2.2 x hx)
  have h2 := Nat.mul_le_mul_right 33 h.2.1
  have h3 := h.1
  unfold encC
  simp only [List.length_append, be_len, List.length_singleton]
  omega
theorem encR_len {o : List Co} (h : RoW o) : (encR o).length ≤ 361 := by
  have h1 := flat_len encC 90 o fun c hc => encC_len (h.2 c hc)
  have h2 := Nat.mul_le_mul_right 90 h.1
  unfold encR
  rw [List.length_cons]
  omega
theorem flat_s {α : Type} {f : α → List UInt8} {l : List α} {i : Nat} {x : α} (h : l[i]? = some x) : (l.take (i + 1)).flatMap f = (l.take i).flatMap f ++ f x := by
  rw [List.take_add_one, h, List.flatMap_append]
  simp
def wrSt1 (o : List Co) (l : List UInt8) (i : Nat) : ASt := ⟨([.ptr 0 0] ++ List.replicate 17 .dead ++ [.list (o.map corow) .free, .v (.int .i64 o.length), .v (.int .i64 i)] ++ List.replicate 32 .dead), wr (l ++ [UInt8.ofNat o.length] ++ (o.take i).flatMap encC), 4⟩
def wrSt2 (o : List Co) (l : List UInt8) (i : Nat) (c : Co) (e : List UInt8) (k : Nat) : ASt := ⟨([.ptr 0 0] ++ List.replicate 17 .dead ++ [.list (o.map corow) .free, .v (.int .i64 o.length), .v (.int .i64 i)] ++ List.replicate 15 .dead ++ [.list (c.l.map verow) .free, .v (.int .i64 c.l.length), .v (.int .i64 k)] ++ List.replicate 14 .dead), wr (e ++ (c.l.take k).flatMap encE), 5⟩
theorem u8len (x : Nat) : IntKind.u8.wrap (x : Int) = ((UInt8.ofNat x).toNat : Int) := by
  rw [IntKind.wrap_u8]
  simp
set_option maxHeartbeats 6400000 in
theorem write_c (r : List Co) (l : List UInt8) (hr : r.length < 70368744177664) (hz : RowSz r) (hl : l.length < 10000000) : ACalls Tryz.prog 35 2 10000 [.ptr 0 0, rowA r] (wr l) (fun out H' => out = .ret (.tuple []) ∧ H' = wr (l ++ encR (copyR r))) := by
  have hcp := copy_f r hr hz
  have hw := copy_w hz
  generalize copyR r = o at *
  have ho4 := hw.1
  have hb1 := byte_c l (UInt8.ofNat o.length) (by omega)
  refine no_implicit_lambda% (acalls_of tok dok (f := 35) ⟨Tryz.func35, rfl, by kernel_rfl⟩ ?_); refine no_implicit_lambda% (c_start (fun _ h => h) ?_)
  repeat' (first | (refine no_implicit_lambda% (awd1 ?_)) | (((with_reducible refine no_implicit_lambda% (is_aops ?_)); refine no_implicit_lambda% (o_split rfl rfl rfl (fun hc => ?_) (fun hc => ?_)) <;> first | exact decx hc | rw [hc])) | (((with_reducible refine no_implicit_lambda% (is_cond ?_)); refine no_implicit_lambda% (c_cond rfl (fun hc => ?_) (fun hc => ?_)) <;> first | exact decx hc | skip)) | (((with_reducible refine no_implicit_lambda% (is_aop ?_)); refine no_implicit_lambda% (a_pick rfl rfl (fun hc => ?_) (fun hc => ?_)) <;> first | exact decx hc | rw [hc])) | (refine no_implicit_lambda% (ans ?_)) | (with_reducible exact retN) | (with_reducible exact retP) | (refine no_implicit_lambda% (cal [] (hcp) ?_ ?_)) | fail)
  rw [List.length_map, u8len]
  repeat' (first | (refine no_implicit_lambda% (awd1 ?_)) | (((with_reducible refine no_implicit_lambda% (is_aops ?_)); refine no_implicit_lambda% (o_split rfl rfl rfl (fun hc => ?_) (fun hc => ?_)) <;> first | exact decx hc | rw [hc])) | (((with_reducible refine no_implicit_lambda% (is_cond ?_)); refine no_implicit_lambda% (c_cond rfl (fun hc => ?_) (fun hc => ?_)) <;> first | exact decx hc | skip)) | (((with_reducible refine no_implicit_lambda% (is_aop ?_)); refine no_implicit_lambda% (a_pick rfl rfl (fun hc => ?_) (fun hc => ?_)) <;> first | exact decx hc | rw [hc])) | (refine no_implicit_lambda% (ans ?_)) | (with_reducible exact retN) | (with_reducible exact retP) | (refine no_implicit_lambda% (cal [0, 1] (hb1) ?_ ?_)) | fail)
  have hfl : ∀ i, ((o.take i).flatMap encC).length ≤ 360 := fun i => by
    have h1 := flat_len encC 90 (o.take i) fun c hc => encC_len (hw.2 c (List.mem_of_mem_take hc))
    have h2 : (o.take i).length ≤ 4 := by rw [List.length_take]; omega
    omega
  refine c_loop' (wrSt1 o l) (fun i => i ≤ o.length) (fun i => o.length - i) (a := 0) (Nat.zero_le _) ?_ ?_
  · refine (Conv.toT ?_ ?_ (Nat.le_of_ble_eq_true rfl))
    · unfold wrSt1
      dsimp only
      rw [List.length_map]
      exact wkl
    · unfold wrSt1
      simp only [List.take_zero, List.flatMap_nil, List.append_nil]
      exact wkh
  · rintro i i1
    refine c_turn (n' := 4) (fun _ h => h) (fun _ h => h) rfl ?_
    have hfi := hfl i
    rcases hx : o[i]? with _ | c
    · have hi : i = o.length := by have := List.getElem?_eq_none_iff.1 hx; omega
      repeat' (first | (refine no_implicit_lambda% (awd1 ?_)) | (((with_reducible refine no_implicit_lambda% (is_aops ?_)); refine no_implicit_lambda% (o_split rfl rfl rfl (fun hc => ?_) (fun hc => ?_)) <;> first | exact decx hc | rw [hc])) | (((with_reducible refine no_implicit_lambda% (is_cond ?_)); refine no_implicit_lambda% (c_cond rfl (fun hc => ?_) (fun hc => ?_)) <;> first | exact decx hc | skip)) | (((with_reducible refine no_implicit_lambda% (is_aop ?_)); refine no_implicit_lambda% (a_pick rfl rfl (fun hc => ?_) (fun hc => ?_)) <;> first | exact decx hc | rw [hc])) | (refine no_implicit_lambda% (ans ?_)) | (with_reducible exact retN) | (with_reducible exact retP) | fail | fail)
      subst hi
      rw [List.take_length]
      have he : l ++ [UInt8.ofNat o.length] ++ o.flatMap encC = l ++ encR o := by unfold encR; simp
      rw [he]
      exact e_ret (H' := wr (l ++ encR o)) (rest := _) rfl ⟨rfl, rfl⟩ permT (Nat.le_of_ble_eq_true rfl)
    · have hi : i < o.length := (List.getElem?_eq_some_iff.1 hx).1
      have hix := cox hx
      have hcw := hw.2 c (List.mem_of_getElem? hx)
      have hfs := flat_s (f := encC) hx
      obtain ⟨e0, he0⟩ : ∃ e0, e0 = l ++ [UInt8.ofNat o.length] ++ (o.take i).flatMap encC := ⟨_, rfl⟩
      have hel : e0.length ≤ l.length + 361 := by rw [he0]; simp only [List.length_append, List.length_singleton]; omega
      rw [← he0]
      have hn16 := hcw.1
      have ht := text_c e0 c.n.data.toList (by omega) (by omega)
      rw [if_pos (by omega)] at ht
      repeat' (first | (refine no_implicit_lambda% (awd1 ?_)) | (((with_reducible refine no_implicit_lambda% (is_aops ?_)); refine no_implicit_lambda% (o_split rfl rfl rfl (fun hc => ?_) (fun hc => ?_)) <;> first | exact decx hc | rw [hc])) | (((with_reducible refine no_implicit_lambda% (is_cond ?_)); refine no_implicit_lambda% (c_cond rfl (fun hc => ?_) (fun hc => ?_)) <;> first | exact decx hc | skip)) | (((with_reducible refine no_implicit_lambda% (is_aop ?_)); refine no_implicit_lambda% (a_pick rfl rfl (fun hc => ?_) (fun hc => ?_)) <;> first | exact decx hc | rw [hc])) | (refine no_implicit_lambda% (ans ?_)) | (with_reducible exact retN) | (with_reducible exact retP) | fail | fail)
      (with_reducible refine no_implicit_lambda% (is_aop ?_)); first | (refine no_implicit_lambda% (a_qS rfl (fun _ h => h) ?_ ?_)) | (refine no_implicit_lambda% (a_qS rfl (qIx (fun _ h => h)) ?_ ?_)) | (refine no_implicit_lambda% (a_qS rfl (qAnd5 (fun _ h => h)) ?_ ?_)) | (refine no_implicit_lambda% (a_qS rfl (qStr (fun _ h => h)) ?_ ?_)) | (refine no_implicit_lambda% (a_qS rfl (qAnd4 (fun _ h => h)) ?_ ?_)) | (refine no_implicit_lambda% (a_qS rfl (qAnd2 (fun _ h => h)) ?_ ?_))
      · show c.n.data.toList.length ≤ 4611686018427387904
        omega
      repeat' (first | (refine no_implicit_lambda% (awd1 ?_)) | (((with_reducible refine no_implicit_lambda% (is_aops ?_)); refine no_implicit_lambda% (o_split rfl rfl rfl (fun hc => ?_) (fun hc => ?_)) <;> first | exact decx hc | rw [hc])) | (((with_reducible refine no_implicit_lambda% (is_cond ?_)); refine no_implicit_lambda% (c_cond rfl (fun hc => ?_) (fun hc => ?_)) <;> first | exact decx hc | skip)) | (((with_reducible refine no_implicit_lambda% (is_aop ?_)); refine no_implicit_lambda% (a_pick rfl rfl (fun hc => ?_) (fun hc => ?_)) <;> first | exact decx hc | rw [hc])) | (refine no_implicit_lambda% (ans ?_)) | (with_reducible exact retN) | (with_reducible exact retP) | (refine no_implicit_lambda% (cal [0, 1] (ht) ?_ ?_)) | fail)
      rw [List.length_map, u8len]
      have hb2 := byte_c (e0 ++ (be c.n.data.toList.length 4 ++ c.n.data.toList)) (UInt8.ofNat c.l.length) (by simp only [List.length_append, be_len]; omega)
      repeat' (first | (refine no_implicit_lambda% (awd1 ?_)) | (((with_reducible refine no_implicit_lambda% (is_aops ?_)); refine no_implicit_lambda% (o_split rfl rfl rfl (fun hc => ?_) (fun hc => ?_)) <;> first | exact decx hc | rw [hc])) | (((with_reducible refine no_implicit_lambda% (is_cond ?_)); refine no_implicit_lambda% (c_cond rfl (fun hc => ?_) (fun hc => ?_)) <;> first | exact decx hc | skip)) | (((with_reducible refine no_implicit_lambda% (is_aop ?_)); refine no_implicit_lambda% (a_pick rfl rfl (fun hc => ?_) (fun hc => ?_)) <;> first | exact decx hc | rw [hc])) | (refine no_implicit_lambda% (ans ?_)) | (with_reducible exact retN) | (with_reducible exact retP) | (refine no_implicit_lambda% (cal [0, 1] (hb2) ?_ ?_)) | fail)
      obtain ⟨e, he⟩ : ∃ e, e = e0 ++ (be c.n.data.toList.length 4 ++ c.n.data.toList) ++ [UInt8.ofNat c.l.length] := ⟨_, rfl⟩
      have hee : e.length ≤ l.length + 382 := by rw [he]; simp only [List.length_append, be_len, List.length_singleton]; omega
      rw [← he]
      have hl2 := hcw.2.1
      refine c_loop' (wrSt2 o l i c e) (fun k => k ≤ c.l.length) (fun k => c.l.length - k) (a := 0) (Nat.zero_le _) ?_ ?_
      · refine (Conv.toT ?_ ?_ (Nat.le_of_ble_eq_true rfl))
        · unfold wrSt2
          dsimp only
          rw [List.length_map]
          exact wkl
        · unfold wrSt2
          simp only [List.take_zero, List.flatMap_nil, List.append_nil]
          exact wkh
      · rintro k k1
        refine c_turn (n' := 5) (fun _ h => h) (fun _ h => h) rfl ?_
        rcases hy : c.l[k]? with _ | x
        · have hk : k = c.l.length := by have := List.getElem?_eq_none_iff.1 hy; omega
          repeat' (first | (refine no_implicit_lambda% (awd1 ?_)) | (((with_reducible refine no_implicit_lambda% (is_aops ?_)); refine no_implicit_lambda% (o_split rfl rfl rfl (fun hc => ?_) (fun hc => ?_)) <;> first | exact decx hc | rw [hc])) | (((with_reducible refine no_implicit_lambda% (is_cond ?_)); refine no_implicit_lambda% (c_cond rfl (fun hc => ?_) (fun hc => ?_)) <;> first | exact decx hc | skip)) | (((with_reducible refine no_implicit_lambda% (is_aop ?_)); refine no_implicit_lambda% (a_pick rfl rfl (fun hc => ?_) (fun hc => ?_)) <;> first | exact decx hc | rw [hc])) | (refine no_implicit_lambda% (ans ?_)) | (with_reducible exact retN) | (with_reducible exact retP) | fail | fail)
          subst hk
          rw [List.take_length]
          have h9 : e ++ c.l.flatMap encE = l ++ [UInt8.ofNat o.length] ++ (o.take (i + 1)).flatMap encC := by
            rw [hfs, he, he0]
            unfold encC
            simp only [List.append_assoc]
          rw [h9]
          (refine no_implicit_lambda% (k_loopLT (i + 1) 2 [0, 1, 2, 3] (show i + 1 ≤ o.length from hi) (by first | omega | (simp; done) | (simp; omega)) (Nat.le_of_ble_eq_true rfl) (fun _ h => h) (fun _ h => h) ?_ ?_)); (focus ((try dsimp only); exact wkl)); (focus ((try dsimp only); exact wkh))
        · have hk : k < c.l.length := (List.getElem?_eq_some_iff.1 hy).1
          have hiy := vex hy
          have hvw := hcw.2.2 x (List.mem_of_getElem? hy)
          have hfe := flat_s (f := encE) hy
          have hpl : ((c.l.take k).flatMap encE).length ≤ 66 := by
            have h1 := flat_len encE 33 (c.l.take k) fun y hy => encE_len (hcw.2.2 y (List.mem_of_mem_take hy))
            have h2 : (c.l.take k).length ≤ 2 := by rw [List.length_take]; omega
            omega
          have hl8 := long_c (e ++ (c.l.take k).flatMap encE) x.t.toNat (by have := hvw.1; omega) (by rw [List.length_append]; omega)
          have hpa := putA_c x.v hvw.2.1 hvw.2.2 (e ++ (c.l.take k).flatMap encE ++ be x.t.toNat 8) (by simp only [List.length_append, be_len]; omega)
          repeat' (first | (refine no_implicit_lambda% (awd1 ?_)) | (((with_reducible refine no_implicit_lambda% (is_aops ?_)); refine no_implicit_lambda% (o_split rfl rfl rfl (fun hc => ?_) (fun hc => ?_)) <;> first | exact decx hc | rw [hc])) | (((with_reducible refine no_implicit_lambda% (is_cond ?_)); refine no_implicit_lambda% (c_cond rfl (fun hc => ?_) (fun hc => ?_)) <;> first | exact decx hc | skip)) | (((with_reducible refine no_implicit_lambda% (is_aop ?_)); refine no_implicit_lambda% (a_pick rfl rfl (fun hc => ?_) (fun hc => ?_)) <;> first | exact decx hc | rw [hc])) | (refine no_implicit_lambda% (ans ?_)) | (with_reducible exact retN) | (with_reducible exact retP) | fail | fail)
          rw [show IntKind.u64.wrap x.t = (x.t.toNat : Int) by rw [IntKind.wrap_u64]; have := hvw.1; omega]
          repeat' (first | (refine no_implicit_lambda% (awd1 ?_)) | (((with_reducible refine no_implicit_lambda% (is_aops ?_)); refine no_implicit_lambda% (o_split rfl rfl rfl (fun hc => ?_) (fun hc => ?_)) <;> first | exact decx hc | rw [hc])) | (((with_reducible refine no_implicit_lambda% (is_cond ?_)); refine no_implicit_lambda% (c_cond rfl (fun hc => ?_) (fun hc => ?_)) <;> first | exact decx hc | skip)) | (((with_reducible refine no_implicit_lambda% (is_aop ?_)); refine no_implicit_lambda% (a_pick rfl rfl (fun hc => ?_) (fun hc => ?_)) <;> first | exact decx hc | rw [hc])) | (refine no_implicit_lambda% (ans ?_)) | (with_reducible exact retN) | (with_reducible exact retP) | (refine no_implicit_lambda% (cal [0, 1] (hl8) ?_ ?_)) | (refine no_implicit_lambda% (cal [0, 1] (hpa) ?_ ?_)) | fail)
          have h9 : e ++ (c.l.take k).flatMap encE ++ be x.t.toNat 8 ++ encA x.v = e ++ (c.l.take (k + 1)).flatMap encE := by
            rw [hfe]
            unfold encE
            simp only [List.append_assoc]
          rw [h9]
          (refine no_implicit_lambda% (k_loopLT (k + 1) 2 [0, 1, 2, 3, 4] (show k + 1 ≤ c.l.length from hk) (by first | omega | (simp; done) | (simp; omega)) (Nat.le_of_ble_eq_true rfl) (fun _ h => h) (fun _ h => h) ?_ ?_)); (focus ((try dsimp only); exact wkl)); (focus ((try dsimp only); exact wkh))
end Go.Proofs.YtjepgbpcpcahgaaGreat
namespace Go.Proofs.YtjepgbpcpcahgaaGreat
open Go.Am
set_option linter.unusedSimpArgs false
set_option linter.unusedVariables false
set_option maxRecDepth 100000
def pB (l : List UInt8) : Option (Nat × List UInt8) := if 1 ≤ l.length then some (ubn (l.take 1) 0, l.drop 1) else none
instance (l : List UInt8) (m : Int) : Decidable (tOk l m) := by unfold tOk; infer_instance
def bnd {α β : Type} (o : Option (α × List UInt8)) (q : α → List UInt8 → Option β) : Option β := match o with
  | some (a, r) => q a r
  | none => none
theorem bnd_some {α β : Type} (a : α) (r : List UInt8) (q : α → List UInt8 → Option β) : bnd (some (a, r)) q = q a r := rfl
theorem bnd_none {α β : Type} (q : α → List UInt8 → Option β) : bnd none q = none := rfl
/-- a reader that says the same with more behind -/
def Mono {α : Type} (p : List UInt8 → Option (α × List UInt8)) : Prop := ∀ l x r y, p l = some (x, r) → p (l ++ y) = some (x, r ++ y)
theorem Mono.bnd {α β : Type} {p : List UInt8 → Option (α × List UInt8)} {q : α → List UInt8 → Option (β × List UInt8)} (hp : Mono p) (hq : ∀ a, Mono (q a)) : Mono fun l => @Go.Proofs.YtjepgbpcpcahgaaGreat.bnd α (β × List UInt8) (p l) q := fun l x r y h => by
  simp only at h ⊢
  cases e : p l with
  | none => rw [e] at h; cases h
  | some a =>
    obtain ⟨a, r1⟩ := a
    rw [e] at h
    rw [hp l a r1 y e]
    exact hq a r1 x r y h
theorem Mono.ret {α : Type} (a : α) : Mono fun l => some (a, l) := fun l x r y h => by
  simp only [Option.some.injEq, Prod.mk.injEq] at h ⊢
  exact ⟨h.1, by rw [h.2]⟩
theorem rB_c (l : List UInt8) (h : l.length < 70368744177664) : ACalls Tryz.prog 87 1 2 [.ptr 0 0] (rd l) (fun out H' => (∃ x r, pB l = some (x, r) ∧ (x < 256 ∧ r.length ≤ l.length) ∧ out = .ret (.v (.int .u8 (x : Int))) ∧ H' = rd r) ∨ (pB l = none ∧ out = gone ∧ H' = [])) :=
  (rByte_c l h).mono fun o H' hh => by
    unfold pB
    rcases hh with ⟨h1, h2, h3⟩ | ⟨h1, h2, h3⟩
    · refine .inl ⟨_, _, if_pos h1, ⟨?_, ?_⟩, h2, h3⟩
      · have := ubn_take l 1; omega
      · rw [List.length_drop]; omega
    · exact .inr ⟨if_neg (by omega), h2, h3⟩
end Go.Proofs.YtjepgbpcpcahgaaGreat
namespace Go.Proofs.YtjepgbpcpcahgaaGreat
open Go.Am
set_option linter.unusedSimpArgs false
set_option linter.unusedVariables false
set_option maxRecDepth 100000
def pL (l : List UInt8) : Option (Nat × List UInt8) := if 8 ≤ l.length then some (ubn (l.take 8) 0, l.drop 8) else none
def pX (l : List UInt8) : Option (List UInt8 × List UInt8) := if tOk l 16 then some ((l.drop 4).take (ubn (l.take 4) 0), (l.drop 4).drop (ubn (l.take 4) 0)) else none
open Classical in
noncomputable def pV (l : List UInt8) : Option (Va × List UInt8) := if h : ∃ p : Va × List UInt8, GV l p.1 p.2 then some h.choose else none
theorem pV_some {l : List UInt8} {v : Va} {r : List UInt8} (h : GV l v r) : pV l = some (v, r) := by
  unfold pV
  have hx : ∃ p : Va × List UInt8, GV l p.1 p.2 := ⟨(v, r), h⟩
  rw [dif_pos hx]
  obtain ⟨h1, h2⟩ := GV.fn hx.choose_spec h
  rw [← h1, ← h2]
theorem pV_none {l : List UInt8} (h : ∀ v r, ¬ GV l v r) : pV l = none := by
  unfold pV
  rw [dif_neg (fun ⟨p, hp⟩ => h _ _ hp)]
noncomputable def pE (l : List UInt8) : Option (Ve × List UInt8) := bnd (pL l) fun t r => bnd (pV r) fun v r2 => some (⟨IntKind.i64.wrap (t : Int), v⟩, r2)
noncomputable def pEs : Nat → List UInt8 → Option (List Ve × List UInt8)
  | 0, l => some ([], l)
  | n + 1, l => bnd (pE l) fun x r => bnd (pEs n r) fun xs r2 => some (x :: xs, r2)
noncomputable def pC (l : List UInt8) : Option (Co × List UInt8) := bnd (pX l) fun s r => bnd (pB r) fun k r2 => bnd (pEs k r2) fun xs r3 => some (⟨⟨s.toArray⟩, xs⟩, r3)
noncomputable def pCs : Nat → List UInt8 → Option (List Co × List UInt8)
  | 0, l => some ([], l)
  | n + 1, l => bnd (pC l) fun c r => bnd (pCs n r) fun o r2 => some (c :: o, r2)
noncomputable def pRaw (l : List UInt8) : Option (List Co × List UInt8) := bnd (pB l) fun n r => pCs n r
noncomputable def pR (l : List UInt8) : Option (List Co × List UInt8) := bnd (pRaw l) fun o r => if rowB o then some (o, r) else none
theorem bnd_assoc {α β γ : Type} (p : Option (α × List UInt8)) (f : α → List UInt8 → Option (β × List UInt8)) (g : β → List UInt8 → Option γ) : bnd (bnd p f) g = bnd p fun a r => bnd (f a r) g := by
  cases p <;> rfl
theorem rL_c (l : List UInt8) (h : l.length < 70368744177664) : ACalls Tryz.prog 89 1 2 [.ptr 0 0] (rd l) (fun out H' => (∃ x r, pL l = some (x, r) ∧ (x < 18446744073709551616 ∧ r.length ≤ l.length) ∧ out = .ret (.v (.int .u64 (x : Int))) ∧ H' = rd r) ∨ (pL l = none ∧ out = gone ∧ H' = [])) :=
  (rLong_c l h).mono fun o H' hh => by
    unfold pL
    rcases hh with ⟨h1, h2, h3⟩ | ⟨h1, h2, h3⟩
    · refine .inl ⟨_, _, if_pos h1, ⟨?_, ?_⟩, h2, h3⟩
      · have := ubn_take l 8; omega
      · rw [List.length_drop]; omega
    · exact .inr ⟨if_neg (by omega), h2, h3⟩
theorem rX_c (l : List UInt8) (h : l.length < 70368744177664) : ACalls Tryz.prog 88 1 3 [.ptr 0 0, .v (.int .i64 16)] (rd l) (fun out H' => (∃ x r, pX l = some (x, r) ∧ (x.length ≤ 16 ∧ r.length ≤ l.length) ∧ out = .ret (.list (x.map brow) .free) ∧ H' = rd r) ∨ (pX l = none ∧ out = gone ∧ H' = [])) :=
  (rText_c l 16 h).mono fun o H' hh => by
    unfold pX
    rcases hh with ⟨h1, h2, h3⟩ | ⟨h1, h2, h3⟩
    · refine .inl ⟨_, _, if_pos h1, ⟨?_, ?_⟩, h2, h3⟩
      · have := h1.2.2.1 (by decide)
        rw [List.length_take]; omega
      · simp only [List.length_drop]; omega
    · exact .inr ⟨if_neg h1, h2, h3⟩
theorem GV.len {b : List UInt8} {v : Va} {r : List UInt8} (h : GV b v r) : v.b.length ≤ 16 ∧ r.length ≤ b.length := by
  obtain ⟨_, ⟨h1, h2, rfl, rfl⟩ | ⟨h1, _, rfl, rfl⟩⟩ := h
  · have := h2.2.2.1 (by decide)
    refine ⟨?_, ?_⟩
    · show List.length (List.take _ _) ≤ 16
      rw [List.length_take]; omega
    · simp only [List.length_drop]; omega
  · refine ⟨Nat.zero_le _, ?_⟩
    simp only [List.length_drop]; omega
theorem rV_c (l : List UInt8) (h : l.length < 100000000) : ACalls Tryz.prog 90 1 20 [.ptr 0 0] (rd l) (fun out H' => (∃ v r, pV l = some (v, r) ∧ ((v.b.length ≤ 16 ∧ v.n < 18446744073709551616) ∧ r.length ≤ l.length) ∧ out = .ret (vav v) ∧ H' = rd r) ∨ (pV l = none ∧ out = gone ∧ H' = [])) :=
  (getA_c l h).mono fun o H' hh => by
    rcases hh with ⟨v, r, hg, h2, h3⟩ | ⟨h1, h2, h3⟩
    · exact .inl ⟨v, r, pV_some hg, ⟨⟨hg.len.1, hg.n⟩, hg.len.2⟩, h2, h3⟩
    · exact .inr ⟨pV_none h1, h2, h3⟩
/-- what may be, of a row that may be written -/
theorem right_o (o : List Co) (cp : Nat) (hl : o.length < 1000000) : ACalls Tryz.prog 26 1 1 [.agg [.arr 0 0 o.length cp]] [(0, .seq (o.map corow) ((cp - o.length) * 2))] (fun out H' => out = .ret (.v (.bool (rowB o))) ∧ H' = [(0, .seq (o.map corow) ((cp - o.length) * 2))]) :=
  (((right_c o (by omega)).top0).borrow (k := 1) (top := 1) (args := [.agg [.arr 0 0 o.length cp]]) (H := [(0, .seq (o.map corow) ((cp - o.length) * 2))]) rfl (fun out H' hh => by obtain ⟨rfl, rfl⟩ := hh; rfl) (fun i a' ha => by
    match i with
    | 0 =>
      simp at ha; subst ha
      refine ⟨_, rfl, .agg rfl fun j b hb => ?_⟩
      match j with
      | 0 =>
        simp at hb; subst hb
        exact ⟨_, rfl, .seq (k := (cp - o.length) * 2) (by simp) (coOk o) (by simp)⟩
      | j + 1 => simp at hb
    | i + 1 => simp at ha)).mono fun out H' hh => by
      obtain ⟨⟨_, h1, _⟩, h2⟩ := hh
      exact ⟨h1, h2⟩
def tkSt1 (cur : List UInt8) (acc : List Co) (cp n : Nat) : ASt := ⟨([.ptr 0 0, .dead, .ptr 1 0, .ptr 2 0, .v (.int .u8 n)] ++ List.replicate 44 .dead), rd cur ++ [(1, .box [.list [] .full]), (2, .box [.arr 4 0 acc.length cp]), (4, .seq (acc.map corow) ((cp - acc.length) * 2))], 5⟩
def tkSt2 (acc : List Co) (cp n : Nat) (s : ByteArray) (cur : List UInt8) (vs : List Ve) (k : Nat) : ASt := ⟨([.ptr 0 0, .dead, .ptr 1 0, .ptr 2 0, .v (.int .u8 n), .ptr 7 0, .v (.int .u8 k)] ++ List.replicate 42 .dead), rd cur ++ [(7, .box [.v (.string s), .list (vs.map verow) (.tok 9)]), (9, .tok 4 vs.length), (1, .box [.list [] .full]), (2, .box [.arr 4 0 acc.length cp]), (4, .seq (acc.map corow) ((cp - acc.length) * 2))], 10⟩
set_option maxHeartbeats 6400000 in
theorem take4_c (l : List UInt8) (hl : l.length < 10000000) : ACalls Tryz.prog 38 1 100000 [.ptr 0 0] (rd l) (fun out H' => (∃ o r, pR l = some (o, r) ∧ (RowSz o ∧ r.length ≤ l.length) ∧ out = .ret (rowA o) ∧ H' = rd r) ∨ (pR l = none ∧ out = gone ∧ H' = [])) := by
  refine no_implicit_lambda% (acalls_of tok dok (f := 38) ⟨Tryz.func38, rfl, by kernel_rfl⟩ ?_); refine no_implicit_lambda% (c_start (fun _ h => h) ?_)
  repeat' (first | (refine no_implicit_lambda% (awd1 ?_)) | (((with_reducible refine no_implicit_lambda% (is_aops ?_)); refine no_implicit_lambda% (o_split rfl rfl rfl (fun hc => ?_) (fun hc => ?_)) <;> first | exact decx hc | rw [hc])) | (((with_reducible refine no_implicit_lambda% (is_cond ?_)); refine no_implicit_lambda% (c_cond rfl (fun hc => ?_) (fun hc => ?_)) <;> first | exact decx hc | skip)) | (((with_reducible refine no_implicit_lambda% (is_aop ?_)); refine no_implicit_lambda% (a_pick rfl rfl (fun hc => ?_) (fun hc => ?_)) <;> first | exact decx hc | rw [hc])) | (refine no_implicit_lambda% (ans ?_)) | (with_reducible exact retN) | (with_reducible exact retP) | fail | fail)
  (refine no_implicit_lambda% (cal [0] (rB_c l (by omega)) ?_ ?_))
  rotate_left
  · intro xx H' hh; rcases hh with ⟨_, _, _, _, h', _⟩ | ⟨hN, h', rfl⟩ <;> first | (cases h'; done) | (cases h'; refine no_implicit_lambda% (awd ?_); exact e_pan (H' := []) (rest := _) (.inr ⟨by (unfold pR pRaw; rw [hN]; rfl), rfl, rfl⟩) permT (Nat.le_of_ble_eq_true rfl))
  · intro xx H' hh
    rcases hh with ⟨N, r0, hB, ⟨hN, hr0⟩, h', rfl⟩ | ⟨_, h', _⟩
    rotate_left
    · cases h'
    cases h'
    first | (refine no_implicit_lambda% (akc ?_)) | (refine no_implicit_lambda% (aec ?_))
    repeat' (first | (refine no_implicit_lambda% (awd1 ?_)) | (((with_reducible refine no_implicit_lambda% (is_aops ?_)); refine no_implicit_lambda% (o_split rfl rfl rfl (fun hc => ?_) (fun hc => ?_)) <;> first | exact decx hc | rw [hc])) | (((with_reducible refine no_implicit_lambda% (is_cond ?_)); refine no_implicit_lambda% (c_cond rfl (fun hc => ?_) (fun hc => ?_)) <;> first | exact decx hc | skip)) | (((with_reducible refine no_implicit_lambda% (is_aop ?_)); refine no_implicit_lambda% (a_pick rfl rfl (fun hc => ?_) (fun hc => ?_)) <;> first | exact decx hc | rw [hc])) | (refine no_implicit_lambda% (ans ?_)) | (with_reducible exact retN) | (with_reducible exact retP) | fail | fail)
    have hraw : pRaw l = pCs N r0 := by unfold pRaw; rw [hB]; rfl
    refine c_l4 (fun cur acc cp n => tkSt1 cur acc cp n) (fun cur acc cp n => cur.length ≤ l.length ∧ acc.length ≤ cp ∧ cp ≤ maxLen ∧ RowSz acc ∧ acc.length + n ≤ 255 ∧ pRaw l = bnd (pCs n cur) fun o r => some (acc ++ o, r)) (fun _ _ _ n => n) r0 [] 0 N ⟨hr0, Nat.le_refl _, by decide, (fun c hc => by cases hc), by simp; omega, by rw [hraw]; cases pCs N r0 <;> rfl⟩ ((Conv.nilBox (id := 2) (j := 0) (cells := [.list [] .full]) rfl rfl).trans ?_) ?_
    · (refine no_implicit_lambda% (Conv.toT ?_ ?_ (Nat.le_of_ble_eq_true rfl))); (focus ((unfold tkSt1); (try dsimp only); exact wkl)); (focus ((unfold tkSt1); (try dsimp only); exact wkh))
    · rintro cur acc cp n ⟨h1, h2, h3, hz, h5, hE⟩
      refine c_turn (n' := 5) (fun _ h => h) (fun _ h => h) rfl ?_
      rcases n with _ | n
      · have hro := right_o acc cp (by omega)
        have hfc := fail_c cur
        have hraw2 : pRaw l = some (acc, cur) := by rw [hE]; show some (acc ++ [], cur) = _; rw [List.append_nil]
        have hpR : pR l = if rowB acc then some (acc, cur) else none := by unfold pR; rw [hraw2]; rfl
        repeat' (first | (refine no_implicit_lambda% (awd1 ?_)) | (((with_reducible refine no_implicit_lambda% (is_aops ?_)); refine no_implicit_lambda% (o_split rfl rfl rfl (fun hc => ?_) (fun hc => ?_)) <;> first | exact decx hc | rw [hc])) | (((with_reducible refine no_implicit_lambda% (is_cond ?_)); refine no_implicit_lambda% (c_cond rfl (fun hc => ?_) (fun hc => ?_)) <;> first | exact decx hc | skip)) | (((with_reducible refine no_implicit_lambda% (is_aop ?_)); refine no_implicit_lambda% (a_pick rfl rfl (fun hc => ?_) (fun hc => ?_)) <;> first | exact decx hc | rw [hc])) | (refine no_implicit_lambda% (ans ?_)) | (with_reducible exact retN) | (with_reducible exact retP) | (refine no_implicit_lambda% (cal [4] (hro) ?_ ?_)) | fail)
        · have hb : rowB acc = false := by simpa using hc
          rw [hb] at hpR
          (refine no_implicit_lambda% (cal [0] (hfc) ?_ ?_))
          · first | (exact retN) | (exact retP)
          · intro xx H' hh
            obtain ⟨h', rfl⟩ := hh
            cases h'
            repeat' (first | (refine no_implicit_lambda% (awd1 ?_)) | (((with_reducible refine no_implicit_lambda% (is_aops ?_)); refine no_implicit_lambda% (o_split rfl rfl rfl (fun hc => ?_) (fun hc => ?_)) <;> first | exact decx hc | rw [hc])) | (((with_reducible refine no_implicit_lambda% (is_cond ?_)); refine no_implicit_lambda% (c_cond rfl (fun hc => ?_) (fun hc => ?_)) <;> first | exact decx hc | skip)) | (((with_reducible refine no_implicit_lambda% (is_aop ?_)); refine no_implicit_lambda% (a_pick rfl rfl (fun hc => ?_) (fun hc => ?_)) <;> first | exact decx hc | rw [hc])) | (refine no_implicit_lambda% (ans ?_)) | (with_reducible exact retN) | (with_reducible exact retP) | fail | fail)
            exact e_pan (H' := []) (rest := _) (.inr ⟨hpR, rfl, rfl⟩) permT (Nat.le_of_ble_eq_true rfl)
        · have hb : rowB acc = true := by simpa using hc
          rw [hb] at hpR
          refine e_ret_to (H' := rd cur) (rest := [(1, .box [.list (acc.map corow) .free])]) ((Conv.toT (τ := ⟨_, [(4, .seq (acc.map corow) ((cp - acc.length) * 2)), (1, .box [.arr 4 0 acc.length cp]), (0, .box [.list (cur.map brow) .free])], _⟩) (.refl _) ?_ (Nat.le_refl _)).trans (Conv.freezeBox (id := 4) (bid := 1) (j := 0) (.refl _) rfl (coOk acc) (List.length_map ..))) rfl (.inl ⟨acc, cur, hpR, ⟨hz, h1⟩, rfl, rfl⟩) permT (Nat.le_of_ble_eq_true rfl)
          exact wkh
      · repeat' (first | (refine no_implicit_lambda% (awd1 ?_)) | (((with_reducible refine no_implicit_lambda% (is_aops ?_)); refine no_implicit_lambda% (o_split rfl rfl rfl (fun hc => ?_) (fun hc => ?_)) <;> first | exact decx hc | rw [hc])) | (((with_reducible refine no_implicit_lambda% (is_cond ?_)); refine no_implicit_lambda% (c_cond rfl (fun hc => ?_) (fun hc => ?_)) <;> first | exact decx hc | skip)) | (((with_reducible refine no_implicit_lambda% (is_aop ?_)); refine no_implicit_lambda% (a_pick rfl rfl (fun hc => ?_) (fun hc => ?_)) <;> first | exact decx hc | rw [hc])) | (refine no_implicit_lambda% (ans ?_)) | (with_reducible exact retN) | (with_reducible exact retP) | fail | fail)
        (refine no_implicit_lambda% (cal [0] (rX_c cur (by omega)) ?_ ?_))
        rotate_left
        · intro xx H' hh; rcases hh with ⟨_, _, _, _, h', _⟩ | ⟨hN, h', rfl⟩ <;> first | (cases h'; done) | (cases h'; refine no_implicit_lambda% (awd ?_); exact e_pan (H' := []) (rest := _) (.inr ⟨by (unfold pR; rw [hE]; simp only [pCs, pC, hN, bnd_none]), rfl, rfl⟩) permT (Nat.le_of_ble_eq_true rfl))
        intro xx H' hh
        rcases hh with ⟨s, r1, hX, ⟨hs16, hr1⟩, h', rfl⟩ | ⟨_, h', _⟩
        rotate_left
        · cases h'
        cases h'
        first | (refine no_implicit_lambda% (akc ?_)) | (refine no_implicit_lambda% (aec ?_))
        repeat' (first | (refine no_implicit_lambda% (awd1 ?_)) | (((with_reducible refine no_implicit_lambda% (is_aops ?_)); refine no_implicit_lambda% (o_split rfl rfl rfl (fun hc => ?_) (fun hc => ?_)) <;> first | exact decx hc | rw [hc])) | (((with_reducible refine no_implicit_lambda% (is_cond ?_)); refine no_implicit_lambda% (c_cond rfl (fun hc => ?_) (fun hc => ?_)) <;> first | exact decx hc | skip)) | (((with_reducible refine no_implicit_lambda% (is_aop ?_)); refine no_implicit_lambda% (a_pick rfl rfl (fun hc => ?_) (fun hc => ?_)) <;> first | exact decx hc | rw [hc])) | (refine no_implicit_lambda% (ans ?_)) | (with_reducible exact retN) | (with_reducible exact retP) | fail | fail)
        (refine no_implicit_lambda% (cal [0] (rB_c r1 (by omega)) ?_ ?_))
        rotate_left
        · intro xx H' hh; rcases hh with ⟨_, _, _, _, h', _⟩ | ⟨hN, h', rfl⟩ <;> first | (cases h'; done) | (cases h'; refine no_implicit_lambda% (awd ?_); exact e_pan (H' := []) (rest := _) (.inr ⟨by (unfold pR; rw [hE]; simp only [pCs, pC, hX, bnd_some, hN, bnd_none]), rfl, rfl⟩) permT (Nat.le_of_ble_eq_true rfl))
        intro xx H' hh
        rcases hh with ⟨K, r2, hB2, ⟨hK, hr2⟩, h', rfl⟩ | ⟨_, h', _⟩
        rotate_left
        · cases h'
        cases h'
        first | (refine no_implicit_lambda% (akc ?_)) | (refine no_implicit_lambda% (aec ?_))
        repeat' (first | (refine no_implicit_lambda% (awd1 ?_)) | (((with_reducible refine no_implicit_lambda% (is_aops ?_)); refine no_implicit_lambda% (o_split rfl rfl rfl (fun hc => ?_) (fun hc => ?_)) <;> first | exact decx hc | rw [hc])) | (((with_reducible refine no_implicit_lambda% (is_cond ?_)); refine no_implicit_lambda% (c_cond rfl (fun hc => ?_) (fun hc => ?_)) <;> first | exact decx hc | skip)) | (((with_reducible refine no_implicit_lambda% (is_aop ?_)); refine no_implicit_lambda% (a_pick rfl rfl (fun hc => ?_) (fun hc => ?_)) <;> first | exact decx hc | rw [hc])) | (refine no_implicit_lambda% (ans ?_)) | (with_reducible exact retN) | (with_reducible exact retP) | fail | fail)
        have hE2 : pRaw l = bnd (pEs K r2) fun xs r => bnd (pCs n r) fun o r3 => some (acc ++ ⟨⟨s.toArray⟩, [] ++ xs⟩ :: o, r3) := by
          rw [hE]
          simp only [pCs, pC, hX, bnd_some, hB2, bnd_assoc, List.nil_append]
        refine c_l3 (fun cur2 vs k => tkSt2 acc cp (n + 1) ⟨s.toArray⟩ cur2 vs k) (fun cur2 vs k => cur2.length ≤ l.length ∧ vs.length + k ≤ 255 ∧ (∀ x ∈ vs, x.v.b.length < 1073741824 ∧ x.v.n < 18446744073709551616) ∧ pRaw l = bnd (pEs k cur2) fun xs r => bnd (pCs n r) fun o r3 => some (acc ++ ⟨⟨s.toArray⟩, vs ++ xs⟩ :: o, r3)) (fun _ _ k => k) r2 [] K ⟨by omega, by simp; omega, (fun c hc => by cases hc), hE2⟩ ((Conv.tokBox (id := 7) (j := 1) (sz := 4) (rows := []) rfl rfl (by simp)).trans ?_) ?_
        · (refine no_implicit_lambda% (Conv.toT ?_ ?_ (Nat.le_of_ble_eq_true rfl))); (focus ((unfold tkSt2); (try dsimp only); exact wkl)); (focus ((unfold tkSt2); (try dsimp only); exact wkh))
        · rintro cur2 vs k ⟨g1, g2, g3, hE3⟩
          refine c_turn (n' := 10) (fun _ h => h) (fun _ h => h) rfl ?_
          rcases k with _ | k
          · repeat' (first | (refine no_implicit_lambda% (awd1 ?_)) | (((with_reducible refine no_implicit_lambda% (is_aops ?_)); refine no_implicit_lambda% (o_split rfl rfl rfl (fun hc => ?_) (fun hc => ?_)) <;> first | exact decx hc | rw [hc])) | (((with_reducible refine no_implicit_lambda% (is_cond ?_)); refine no_implicit_lambda% (c_cond rfl (fun hc => ?_) (fun hc => ?_)) <;> first | exact decx hc | skip)) | (((with_reducible refine no_implicit_lambda% (is_aop ?_)); refine no_implicit_lambda% (a_pick rfl rfl (fun hc => ?_) (fun hc => ?_)) <;> first | exact decx hc | rw [hc])) | (refine no_implicit_lambda% (ans ?_)) | (with_reducible exact retN) | (with_reducible exact retP) | fail | fail)
            ((with_reducible refine no_implicit_lambda% (is_aop ?_)); refine no_implicit_lambda% (a_appS (sz := 2) (B := 40) (m2 := (acc ++ [(⟨⟨s.toArray⟩, vs⟩ : Co)]).length) (rows3 := (acc ++ [(⟨⟨s.toArray⟩, vs⟩ : Co)]).map corow) rfl rfl rfl rfl rfl rfl rfl rfl rfl rfl rfl (fun _ h => h) rfl rfl (coOk acc) (coOk [(⟨⟨s.toArray⟩, vs⟩ : Co)]) (by first | rfl | (exact List.length_map ..) | (simp; done) | (simp; omega)) rfl (by first | omega | (simp; omega)) (by first | rfl | (simp; done) | (simp; omega)) (by first | rfl | (exact map_snoc _ _) | (rw [List.map_append]; rfl) | (simp; done)) ?_))
            intro cp' c1 c2
            refine no_implicit_lambda% (akc ?_)
            repeat' (first | (refine no_implicit_lambda% (awd1 ?_)) | (((with_reducible refine no_implicit_lambda% (is_aops ?_)); refine no_implicit_lambda% (o_split rfl rfl rfl (fun hc => ?_) (fun hc => ?_)) <;> first | exact decx hc | rw [hc])) | (((with_reducible refine no_implicit_lambda% (is_cond ?_)); refine no_implicit_lambda% (c_cond rfl (fun hc => ?_) (fun hc => ?_)) <;> first | exact decx hc | skip)) | (((with_reducible refine no_implicit_lambda% (is_aop ?_)); refine no_implicit_lambda% (a_pick rfl rfl (fun hc => ?_) (fun hc => ?_)) <;> first | exact decx hc | rw [hc])) | (refine no_implicit_lambda% (ans ?_)) | (with_reducible exact retN) | (with_reducible exact retP) | fail | fail)
            rw [show IntKind.u8.wrap (((n + 1 : Nat) : Int) - 1) = (n : Int) by rw [IntKind.wrap_u8]; omega]
            (refine no_implicit_lambda% (k_loopLT (((cur2, acc ++ [(⟨⟨s.toArray⟩, vs⟩ : Co)], cp', n) : List UInt8 × List Co × Nat × Nat)) 1 [0, 1, 2, 3, 10] (by
              show cur2.length ≤ l.length ∧ (acc ++ [(⟨⟨s.toArray⟩, vs⟩ : Co)]).length ≤ cp' ∧ cp' ≤ maxLen ∧ RowSz (acc ++ [(⟨⟨s.toArray⟩, vs⟩ : Co)]) ∧ (acc ++ [(⟨⟨s.toArray⟩, vs⟩ : Co)]).length + n ≤ 255 ∧ pRaw l = bnd (pCs n cur2) fun o r => some ((acc ++ [(⟨⟨s.toArray⟩, vs⟩ : Co)]) ++ o, r)
              refine ⟨g1, c1, c2, fun c hc => ?_, by rw [List.length_append]; simp; omega, ?_⟩
              · rcases List.mem_append.1 hc with hc | hc
                · exact hz c hc
                · rw [List.mem_singleton.1 hc]; exact g3
              · rw [hE3]
                simp only [pEs, bnd_some, List.append_nil, List.append_assoc, List.singleton_append]) (by first | omega | (simp; done) | (simp; omega)) (Nat.le_of_ble_eq_true rfl) (fun _ h => h) (fun _ h => h) ?_ ?_)); (focus ((try dsimp only); exact wkl)); (focus ((try dsimp only); exact wkh))
          · repeat' (first | (refine no_implicit_lambda% (awd1 ?_)) | (((with_reducible refine no_implicit_lambda% (is_aops ?_)); refine no_implicit_lambda% (o_split rfl rfl rfl (fun hc => ?_) (fun hc => ?_)) <;> first | exact decx hc | rw [hc])) | (((with_reducible refine no_implicit_lambda% (is_cond ?_)); refine no_implicit_lambda% (c_cond rfl (fun hc => ?_) (fun hc => ?_)) <;> first | exact decx hc | skip)) | (((with_reducible refine no_implicit_lambda% (is_aop ?_)); refine no_implicit_lambda% (a_pick rfl rfl (fun hc => ?_) (fun hc => ?_)) <;> first | exact decx hc | rw [hc])) | (refine no_implicit_lambda% (ans ?_)) | (with_reducible exact retN) | (with_reducible exact retP) | fail | fail)
            (refine no_implicit_lambda% (cal [0] (rL_c cur2 (by omega)) ?_ ?_))
            rotate_left
            · intro xx H' hh; rcases hh with ⟨_, _, _, _, h', _⟩ | ⟨hN, h', rfl⟩ <;> first | (cases h'; done) | (cases h'; refine no_implicit_lambda% (awd ?_); exact e_pan (H' := []) (rest := _) (.inr ⟨by (unfold pR; rw [hE3]; simp only [pEs, pE, hN, bnd_none]), rfl, rfl⟩) permT (Nat.le_of_ble_eq_true rfl))
            intro xx H' hh
            rcases hh with ⟨t, r3, hL, ⟨ht, hr3⟩, h', rfl⟩ | ⟨_, h', _⟩
            rotate_left
            · cases h'
            cases h'
            first | (refine no_implicit_lambda% (akc ?_)) | (refine no_implicit_lambda% (aec ?_))
            repeat' (first | (refine no_implicit_lambda% (awd1 ?_)) | (((with_reducible refine no_implicit_lambda% (is_aops ?_)); refine no_implicit_lambda% (o_split rfl rfl rfl (fun hc => ?_) (fun hc => ?_)) <;> first | exact decx hc | rw [hc])) | (((with_reducible refine no_implicit_lambda% (is_cond ?_)); refine no_implicit_lambda% (c_cond rfl (fun hc => ?_) (fun hc => ?_)) <;> first | exact decx hc | skip)) | (((with_reducible refine no_implicit_lambda% (is_aop ?_)); refine no_implicit_lambda% (a_pick rfl rfl (fun hc => ?_) (fun hc => ?_)) <;> first | exact decx hc | rw [hc])) | (refine no_implicit_lambda% (ans ?_)) | (with_reducible exact retN) | (with_reducible exact retP) | fail | fail)
            (refine no_implicit_lambda% (cal [0] (rV_c r3 (by omega)) ?_ ?_))
            rotate_left
            · intro xx H' hh; rcases hh with ⟨_, _, _, _, h', _⟩ | ⟨hN, h', rfl⟩ <;> first | (cases h'; done) | (cases h'; refine no_implicit_lambda% (awd ?_); exact e_pan (H' := []) (rest := _) (.inr ⟨by (unfold pR; rw [hE3]; simp only [pEs, pE, hL, bnd_some, hN, bnd_none]), rfl, rfl⟩) permT (Nat.le_of_ble_eq_true rfl))
            intro xx H' hh
            rcases hh with ⟨v, r4, hV, ⟨hv, hr4⟩, h', rfl⟩ | ⟨_, h', _⟩
            rotate_left
            · cases h'
            cases h'
            first | (refine no_implicit_lambda% (akc ?_)) | (refine no_implicit_lambda% (aec ?_))
            repeat' (first | (refine no_implicit_lambda% (awd1 ?_)) | (((with_reducible refine no_implicit_lambda% (is_aops ?_)); refine no_implicit_lambda% (o_split rfl rfl rfl (fun hc => ?_) (fun hc => ?_)) <;> first | exact decx hc | rw [hc])) | (((with_reducible refine no_implicit_lambda% (is_cond ?_)); refine no_implicit_lambda% (c_cond rfl (fun hc => ?_) (fun hc => ?_)) <;> first | exact decx hc | skip)) | (((with_reducible refine no_implicit_lambda% (is_aop ?_)); refine no_implicit_lambda% (a_pick rfl rfl (fun hc => ?_) (fun hc => ?_)) <;> first | exact decx hc | rw [hc])) | (refine no_implicit_lambda% (ans ?_)) | (with_reducible exact retN) | (with_reducible exact retP) | fail | fail)
            rw [show IntKind.u8.wrap (((k + 1 : Nat) : Int) - 1) = (k : Int) by rw [IntKind.wrap_u8]; omega]
            (refine no_implicit_lambda% (k_loopLT (((r4, vs ++ [(⟨IntKind.i64.wrap (t : Int), v⟩ : Ve)], k) : List UInt8 × List Ve × Nat)) 1 (List.range 10) (by
              show r4.length ≤ l.length ∧ (vs ++ [(⟨IntKind.i64.wrap (t : Int), v⟩ : Ve)]).length + k ≤ 255 ∧ (∀ x ∈ vs ++ [(⟨IntKind.i64.wrap (t : Int), v⟩ : Ve)], x.v.b.length < 1073741824 ∧ x.v.n < 18446744073709551616) ∧ pRaw l = bnd (pEs k r4) fun xs r => bnd (pCs n r) fun o r3 => some (acc ++ ⟨⟨s.toArray⟩, (vs ++ [(⟨IntKind.i64.wrap (t : Int), v⟩ : Ve)]) ++ xs⟩ :: o, r3)
              refine ⟨by omega, by rw [List.length_append]; simp; omega, fun x hx => ?_, ?_⟩
              · rcases List.mem_append.1 hx with hx | hx
                · exact g3 x hx
                · rw [List.mem_singleton.1 hx]; exact ⟨by have := hv.1; show v.b.length < _; omega, hv.2⟩
              · rw [hE3]
                simp only [pEs, pE, hL, bnd_some, hV, bnd_assoc, List.append_assoc, List.singleton_append]) (by first | omega | (simp; done) | (simp; omega)) (Nat.le_of_ble_eq_true rfl) (fun _ h => h) (fun _ h => h) ?_ ?_)); (focus ((try dsimp only); exact wkl)); (focus ((try dsimp only); exact wkh))
end Go.Proofs.YtjepgbpcpcahgaaGreat
namespace Go.Proofs.YtjepgbpcpcahgaaGreat
open Go.Am
set_option linter.unusedSimpArgs false
set_option linter.unusedVariables false
set_option maxRecDepth 100000
end Go.Proofs.YtjepgbpcpcahgaaGreat
namespace Go.Proofs.YtjepgbpcpcahgaaGreat
open Go.Am
set_option linter.unusedSimpArgs false
set_option linter.unusedVariables false
set_option maxRecDepth 100000
abbrev dQ {α : Type} (p : List UInt8 → Option (α × List UInt8)) (ok : α → Prop) (val : α → AV) (l : List UInt8) (bad : Bool) (out : AOut) (H' : Heap) : Prop :=
  ∃ x l' bad', ok x ∧ l'.length ≤ l.length ∧ (bad' = false → bad = false ∧ p l = some (x, l')) ∧ (bad' = true → l' = [] ∧ (bad = false → p l = none)) ∧ out = .ret (val x) ∧ H' = rr l' bad'
theorem rd_fcts (n : Nat) (l : List UInt8) (bad : Bool) : (rLeft n l bad).length ≤ l.length ∧ (rBad n l bad = false → bad = false ∧ n ≤ l.length ∧ rSome n l bad = l.take n ∧ rLeft n l bad = l.drop n) ∧ (rBad n l bad = true → rLeft n l bad = [] ∧ (bad = false → ¬ n ≤ l.length)) := by
  refine ⟨rLeft_len n l bad, fun h => ?_, fun h => ?_⟩
  · unfold rBad at h
    have h' : bad = false ∧ n ≤ l.length := by simpa using h
    exact ⟨h'.1, h'.2, by unfold rSome; rw [if_pos h'], by unfold rLeft; rw [if_pos h']⟩
  · unfold rBad at h
    have h' : ¬ (bad = false ∧ n ≤ l.length) := fun hh => by rw [decide_eq_true hh] at h; cases h
    exact ⟨by unfold rLeft; rw [if_neg h'], fun hb hn => h' ⟨hb, hn⟩⟩
theorem ubn_l1 {l : List UInt8} (h : l.length = 1) : ubn l 0 < 256 := by
  have := ubn_take l 1
  rwa [List.take_of_length_le (by omega)] at this
theorem qB_c (l : List UInt8) (bad : Bool) (h : l.length < 70368744177664) : ACalls Tryz.prog 92 1 4 [.ptr 0 0] (rr l bad) (dQ pB (· < 256) (fun x => .v (.int .u8 (x : Nat))) l bad) :=
  (refByte_c l bad h).mono fun out H' ⟨h1, h2⟩ => by
    obtain ⟨f1, f2, f3⟩ := rd_fcts 1 l bad
    refine ⟨_, _, _, ubn_l1 (rSome_len 1 l bad (by decide)), f1, fun hb => ?_, fun hb => ?_, h1, h2⟩
    · obtain ⟨g1, g2, g3, g4⟩ := f2 hb
      exact ⟨g1, by unfold pB; rw [if_pos g2, g3, g4]⟩
    · obtain ⟨g1, g2⟩ := f3 hb
      exact ⟨g1, fun hb => by unfold pB; rw [if_neg (g2 hb)]⟩
theorem qL_c (l : List UInt8) (bad : Bool) (h : l.length < 70368744177664) : ACalls Tryz.prog 94 1 7 [.ptr 0 0] (rr l bad) (dQ pL (· < 18446744073709551616) (fun x => .v (.int .u64 (x : Nat))) l bad) :=
  (refRLong_c l bad h).mono fun out H' ⟨h1, h2⟩ => by
    have e1 := rLeft_len 4 l bad
    have e2 := rLeft_len 4 (rLeft 4 l bad) (rBad 4 l bad)
    cases bad with
    | false =>
      by_cases h8 : 8 ≤ l.length
      · obtain ⟨a1, a2, a3⟩ := long_ok h8
        refine ⟨_, _, _, rLong_lt l false, by omega, fun _ => ⟨rfl, ?_⟩, fun hb => ?_, h1, h2⟩
        · unfold pL; rw [if_pos h8, a1, a2]
        · rw [a3] at hb; cases hb
      · obtain ⟨a2, a3⟩ := long_no (b := l) (by omega)
        refine ⟨_, _, _, rLong_lt l false, by omega, fun hb => ?_, fun _ => ⟨a2, fun _ => ?_⟩, h1, h2⟩
        · rw [a3] at hb; cases hb
        · unfold pL; rw [if_neg h8]
    | true =>
      obtain ⟨b1, b2⟩ := @bad_no 4 l
      have b3 : rLeft 4 (rLeft 4 l true) (rBad 4 l true) = [] ∧ rBad 4 (rLeft 4 l true) (rBad 4 l true) = true := by rw [b2]; exact bad_no
      refine ⟨_, _, _, rLong_lt l true, by omega, fun hb => ?_, fun _ => ⟨b3.1, fun hb => by cases hb⟩, h1, h2⟩
      rw [b3.2] at hb; cases hb
theorem qX_c (l : List UInt8) (bad : Bool) (h : l.length < 70368744177664) : ACalls Tryz.prog 93 1 8 [.ptr 0 0, .v (.int .i64 16)] (rr l bad) (dQ pX (·.length ≤ 16) (fun x => .list (x.map brow) .free) l bad) := by
  by_cases hok : bad = false ∧ tOk l 16
  · obtain ⟨rfl, hT⟩ := hok
    refine (refRText_c l 16 h).mono fun out H' hh => ?_
    rcases hh with ⟨_, h2, h3⟩ | ⟨h1, _⟩
    · refine ⟨_, _, false, ?_, ?_, fun _ => ⟨rfl, by unfold pX; rw [if_pos hT]⟩, fun h => (by cases h), h2, h3⟩
      · have := hT.2.2.1 (by decide)
        show List.length (List.take _ _) ≤ 16
        rw [List.length_take]; omega
      · simp only [List.length_drop]; omega
    · exact absurd hT h1
  · have hno : bad = false → pX l = none := fun hb => by unfold pX; rw [if_neg (fun hT => hok ⟨hb, hT⟩)]
    have hC := refRNum_c l bad h
    have hlt := some4_lt l bad
    have hfin : dQ pX (·.length ≤ 16) (fun x => .list (x.map brow) .free) l bad (.ret (.list [] .free)) (rr [] true) := ⟨[], [], true, Nat.zero_le _, Nat.zero_le _, fun h => (by cases h), fun _ => ⟨rfl, hno⟩, rfl, rfl⟩
    obtain ⟨_, f2, f3⟩ := rd_fcts 4 l bad
    cases hbb : rBad 4 l bad with
    | true =>
      rw [hbb] at hC
      rw [(f3 hbb).1] at hC
      generalize ubn (rSome 4 l bad) 0 = n at *
      refine no_implicit_lambda% (acalls_of tok dok (f := 93) ⟨Tryz.func93, rfl, by kernel_rfl⟩ ?_); refine no_implicit_lambda% (c_start (fun _ h => h) ?_)
      refine no_implicit_lambda% (awd ?_)
      refine no_implicit_lambda% (cal [0] (hC) ?_ ?_)
      · refine no_implicit_lambda% (ret1 ?_); first | (refine no_implicit_lambda% (akc ?_)) | (refine no_implicit_lambda% (aec ?_))
        repeat' (first | (refine no_implicit_lambda% (awd1 ?_)) | (((with_reducible refine no_implicit_lambda% (is_aops ?_)); refine no_implicit_lambda% (o_split rfl rfl rfl (fun hc => ?_) (fun hc => ?_)) <;> first | exact decx hc | rw [hc])) | (((with_reducible refine no_implicit_lambda% (is_cond ?_)); refine no_implicit_lambda% (c_cond rfl (fun hc => ?_) (fun hc => ?_)) <;> first | exact decx hc | skip)) | (((with_reducible refine no_implicit_lambda% (is_aop ?_)); refine no_implicit_lambda% (a_pick rfl rfl (fun hc => ?_) (fun hc => ?_)) <;> first | exact decx hc | rw [hc])) | (refine no_implicit_lambda% (ans ?_)) | (with_reducible exact retN) | (with_reducible exact retP) | (refine no_implicit_lambda% (cal [0] (refFail_c [] true) ?_ ?_)) | fail)
        all_goals exact e_ret_to (H' := rr [] true) (rest := []) (.freeSlot 4 rfl) rfl hfin (.of_eq rfl) (Nat.le_of_ble_eq_true rfl)
      · first | (exact retN) | (exact retP)
    | false =>
      obtain ⟨rfl, h4, g1, g2⟩ := f2 hbb
      rw [g1] at hlt
      rw [g1, g2, hbb] at hC
      generalize hn : ubn (l.take 4) 0 = n at *
      have hf : ¬ tOk l 16 := fun hT => hok ⟨rfl, hT⟩
      have hf2 : ¬ ((n : Int) ≤ 16 ∧ n ≤ (l.drop 4).length) := fun ⟨a1, a2⟩ => hf ⟨h4, by omega, fun _ => by omega, by omega⟩
      refine no_implicit_lambda% (acalls_of tok dok (f := 93) ⟨Tryz.func93, rfl, by kernel_rfl⟩ ?_); refine no_implicit_lambda% (c_start (fun _ h => h) ?_)
      refine no_implicit_lambda% (awd ?_)
      refine no_implicit_lambda% (cal [0] (hC) ?_ ?_)
      · refine no_implicit_lambda% (ret1 ?_); first | (refine no_implicit_lambda% (akc ?_)) | (refine no_implicit_lambda% (aec ?_))
        refine no_implicit_lambda% (awd ?_)
        rw [show IntKind.i64.wrap (n : Int) = n from w64 (by omega) (by omega)]
        repeat' (first | (refine no_implicit_lambda% (awd1 ?_)) | (((with_reducible refine no_implicit_lambda% (is_aops ?_)); refine no_implicit_lambda% (o_split rfl rfl rfl (fun hc => ?_) (fun hc => ?_)) <;> first | exact decx hc | rw [hc])) | (((with_reducible refine no_implicit_lambda% (is_cond ?_)); refine no_implicit_lambda% (c_cond rfl (fun hc => ?_) (fun hc => ?_)) <;> first | exact decx hc | skip)) | (((with_reducible refine no_implicit_lambda% (is_aop ?_)); refine no_implicit_lambda% (a_pick rfl rfl (fun hc => ?_) (fun hc => ?_)) <;> first | exact decx hc | rw [hc])) | (refine no_implicit_lambda% (ans ?_)) | (with_reducible exact retN) | (with_reducible exact retP) | (refine no_implicit_lambda% (cal [0] (refFail_c (l.drop 4) false) ?_ ?_)) | fail)
        all_goals first | exact e_ret_to (H' := rr [] true) (rest := []) (.freeSlot 4 rfl) rfl hfin (.of_eq rfl) (Nat.le_of_ble_eq_true rfl) | skip
        all_goals (exfalso; simp at *; omega)
      · first | (exact retN) | (exact retP)
def pF (l : List UInt8) : Option (Nat × List UInt8) := bnd (pL l) fun x r => if canonB x = x then some (x, r) else none
theorem qF_c (l : List UInt8) (bad : Bool) (h : l.length < 70368744177664) : ACalls Tryz.prog 139 1 8 [.ptr 0 0] (rr l bad) (dQ pF (· < 18446744073709551616) (fun x => .v (.float .f64 x)) l bad) := by
  have hL := qL_c l bad h
  refine no_implicit_lambda% (acalls_of tok dok (f := 139) ⟨Tryz.func139, rfl, by kernel_rfl⟩ ?_); refine no_implicit_lambda% (c_start (fun _ h => h) ?_)
  refine no_implicit_lambda% (awd ?_)
  (refine no_implicit_lambda% (cal [0] (hL) ?_ ?_))
  · intro xx H' hh
    obtain ⟨x, l', bad', hx, hl', q1, q2, h', rfl⟩ := hh
    cases h'
    first | (refine no_implicit_lambda% (akc ?_)) | (refine no_implicit_lambda% (aec ?_))
    repeat' (first | (refine no_implicit_lambda% (awd1 ?_)) | (((with_reducible refine no_implicit_lambda% (is_aops ?_)); refine no_implicit_lambda% (o_split rfl rfl rfl (fun hc => ?_) (fun hc => ?_)) <;> first | exact decx hc | rw [hc])) | (((with_reducible refine no_implicit_lambda% (is_cond ?_)); refine no_implicit_lambda% (c_cond rfl (fun hc => ?_) (fun hc => ?_)) <;> first | exact decx hc | skip)) | (((with_reducible refine no_implicit_lambda% (is_aop ?_)); refine no_implicit_lambda% (a_pick rfl rfl (fun hc => ?_) (fun hc => ?_)) <;> first | exact decx hc | rw [hc])) | (refine no_implicit_lambda% (ans ?_)) | (with_reducible exact retN) | (with_reducible exact retP) | (refine no_implicit_lambda% (cal [] (refFrom_c x hx) ?_ ?_)) | (refine no_implicit_lambda% (cal [] (refBits_c (canonB x) (canonB_lt hx)) ?_ ?_)) | fail)
    repeat' (first | (refine no_implicit_lambda% (awd1 ?_)) | (((with_reducible refine no_implicit_lambda% (is_aops ?_)); refine no_implicit_lambda% (o_split rfl rfl rfl (fun hc => ?_) (fun hc => ?_)) <;> first | exact decx hc | rw [hc])) | (((with_reducible refine no_implicit_lambda% (is_cond ?_)); refine no_implicit_lambda% (c_cond rfl (fun hc => ?_) (fun hc => ?_)) <;> first | exact decx hc | skip)) | (((with_reducible refine no_implicit_lambda% (is_aop ?_)); refine no_implicit_lambda% (a_pick rfl rfl (fun hc => ?_) (fun hc => ?_)) <;> first | exact decx hc | rw [hc])) | (refine no_implicit_lambda% (ans ?_)) | (with_reducible exact retN) | (with_reducible exact retP) | (refine no_implicit_lambda% (cal [0] (refFail_c l' bad') ?_ ?_)) | fail)
    · have hne : canonB x ≠ x := fun he => by rw [canon2, he] at hc; simp at hc
      refine e_ret (H' := rr [] true) (rest := _) rfl ⟨0, [], true, by decide, Nat.zero_le _, (fun h => by cases h), fun _ => ⟨rfl, fun hb => ?_⟩, rfl, rfl⟩ permT (Nat.le_of_ble_eq_true rfl)
      unfold pF
      cases bad' with
      | false => rw [(q1 rfl).2, bnd_some, if_neg hne]
      | true => rw [(q2 rfl).2 hb]; rfl
    · have heq : canonB x = x := by
        rw [canon2] at hc
        simp at hc
        omega
      rw [heq]
      refine e_ret (H' := rr l' bad') (rest := _) rfl ⟨x, l', bad', hx, hl', fun hb => ⟨(q1 hb).1, ?_⟩, fun hb => ⟨(q2 hb).1, fun hb2 => ?_⟩, rfl, rfl⟩ permT (Nat.le_of_ble_eq_true rfl)
      · unfold pF; rw [(q1 hb).2, bnd_some, if_pos heq]
      · unfold pF; rw [(q2 hb).2 hb2]; rfl
  · intro xx H' hh
    obtain ⟨_, _, _, _, _, _, _, h', _⟩ := hh
    cases h'
theorem pF_ok {l r : List UInt8} {x : Nat} (h : pF l = some (x, r)) : fOk l ∧ x = ubn (l.take 8) 0 ∧ r = l.drop 8 := by
  unfold pF pL at h
  by_cases h8 : 8 ≤ l.length
  · rw [if_pos h8, bnd_some] at h
    split at h
    · rename_i hc
      cases h
      exact ⟨⟨h8, hc⟩, rfl, rfl⟩
    · cases h
  · rw [if_neg h8] at h; cases h
theorem pF_no {l : List UInt8} (h : pF l = none) : ¬ fOk l := fun hf => by
  unfold pF pL at h
  rw [if_pos hf.1, bnd_some, if_pos hf.2] at h
  cases h
theorem pX_ok {l r x : List UInt8} (h : pX l = some (x, r)) : tOk l 16 ∧ x = (l.drop 4).take (ubn (l.take 4) 0) ∧ r = (l.drop 4).drop (ubn (l.take 4) 0) := by
  unfold pX at h
  split at h
  · rename_i hc
    cases h
    exact ⟨hc, rfl, rfl⟩
  · cases h
theorem pX_no {l : List UInt8} (h : pX l = none) : ¬ tOk l 16 := fun hf => by
  unfold pX at h
  rw [if_pos hf] at h
  cases h
theorem pB_ok {l r : List UInt8} {x : Nat} (h : pB l = some (x, r)) : 1 ≤ l.length ∧ x = ubn (l.take 1) 0 ∧ r = l.drop 1 := by
  unfold pB at h
  split at h
  · rename_i hc
    cases h
    exact ⟨hc, rfl, rfl⟩
  · cases h
theorem pB_no {l : List UInt8} (h : pB l = none) : ¬ 1 ≤ l.length := fun hf => by
  unfold pB at h
  rw [if_pos hf] at h
  cases h
theorem gv0 {l : List UInt8} (h : pB l = none) : pV l = none := pV_none fun v r hg => pB_no h hg.1
theorem gv1 {l l1 l2 s : List UInt8} (h : pB l = some (1, l1)) (h2 : pX l1 = some (s, l2)) : pV l = some (⟨1, s, 0⟩, l2) := by
  obtain ⟨a1, a2, rfl⟩ := pB_ok h
  obtain ⟨b1, rfl, rfl⟩ := pX_ok h2
  exact pV_some ⟨a1, .inl ⟨a2.symm, b1, rfl, rfl⟩⟩
theorem gv1n {l l1 : List UInt8} (h : pB l = some (1, l1)) (h2 : pX l1 = none) : pV l = none := by
  obtain ⟨a1, a2, rfl⟩ := pB_ok h
  refine pV_none fun v r hg => ?_
  obtain ⟨_, ⟨_, g2, _⟩ | ⟨g1, _⟩⟩ := hg
  · exact pX_no h2 g2
  · omega
theorem gv2 {l l1 l2 : List UInt8} {n : Nat} (h : pB l = some (2, l1)) (h2 : pF l1 = some (n, l2)) : pV l = some (⟨2, [], n⟩, l2) := by
  obtain ⟨a1, a2, rfl⟩ := pB_ok h
  obtain ⟨b1, rfl, rfl⟩ := pF_ok h2
  exact pV_some ⟨a1, .inr ⟨a2.symm, b1, rfl, rfl⟩⟩
theorem gv2n {l l1 : List UInt8} (h : pB l = some (2, l1)) (h2 : pF l1 = none) : pV l = none := by
  obtain ⟨a1, a2, rfl⟩ := pB_ok h
  refine pV_none fun v r hg => ?_
  obtain ⟨_, ⟨g1, _⟩ | ⟨_, g2, _⟩⟩ := hg
  · omega
  · exact pF_no h2 g2
theorem gv3 {l l1 : List UInt8} {x : Nat} (h : pB l = some (x, l1)) (h1 : x ≠ 1) (h2 : x ≠ 2) : pV l = none := by
  obtain ⟨a1, a2, rfl⟩ := pB_ok h
  refine pV_none fun v r hg => ?_
  obtain ⟨_, ⟨g1, _⟩ | ⟨g1, _⟩⟩ := hg <;> omega
/-- a value, read -/
theorem qV_c (l : List UInt8) (bad : Bool) (h : l.length < 70368744177664) : ACalls Tryz.prog 96 1 40 [.ptr 0 0] (rr l bad) (dQ pV (fun v => v.b.length ≤ 16 ∧ v.n < 18446744073709551616) vav l bad) := by
  have hB := qB_c l bad h
  refine no_implicit_lambda% (acalls_of tok dok (f := 96) ⟨Tryz.func96, rfl, by kernel_rfl⟩ ?_); refine no_implicit_lambda% (c_start (fun _ h => h) ?_)
  refine no_implicit_lambda% (awd ?_)
  (refine no_implicit_lambda% (cal [0] (hB) ?_ ?_))
  · intro xx H' hh
    obtain ⟨x, l1, b1, hx, hl1, q1, q2, h', rfl⟩ := hh
    cases h'
    first | (refine no_implicit_lambda% (akc ?_)) | (refine no_implicit_lambda% (aec ?_))
    have hX := qX_c l1 b1 (by omega)
    have hF := qF_c l1 b1 (by omega)
    repeat' (first | (refine no_implicit_lambda% (awd1 ?_)) | (((with_reducible refine no_implicit_lambda% (is_aops ?_)); refine no_implicit_lambda% (o_split rfl rfl rfl (fun hc => ?_) (fun hc => ?_)) <;> first | exact decx hc | rw [hc])) | (((with_reducible refine no_implicit_lambda% (is_cond ?_)); refine no_implicit_lambda% (c_cond rfl (fun hc => ?_) (fun hc => ?_)) <;> first | exact decx hc | skip)) | (((with_reducible refine no_implicit_lambda% (is_aop ?_)); refine no_implicit_lambda% (a_pick rfl rfl (fun hc => ?_) (fun hc => ?_)) <;> first | exact decx hc | rw [hc])) | (refine no_implicit_lambda% (ans ?_)) | (with_reducible exact retN) | (with_reducible exact retP) | (refine no_implicit_lambda% (cal [0] (refFail_c l1 b1) ?_ ?_)) | fail)
    · have hx1 : x = 1 := by
        have h9 : ((x : Int) == 1) = true := hc
        simp at h9
        omega
      subst hx1
      (refine no_implicit_lambda% (cal [0] (hX) ?_ ?_))
      · intro xx H' hh
        obtain ⟨s, l2, b2, hs, hl2, p1, p2, h', rfl⟩ := hh
        cases h'
        first | (refine no_implicit_lambda% (akc ?_)) | (refine no_implicit_lambda% (aec ?_))
        repeat' (first | (refine no_implicit_lambda% (awd1 ?_)) | (((with_reducible refine no_implicit_lambda% (is_aops ?_)); refine no_implicit_lambda% (o_split rfl rfl rfl (fun hc => ?_) (fun hc => ?_)) <;> first | exact decx hc | rw [hc])) | (((with_reducible refine no_implicit_lambda% (is_cond ?_)); refine no_implicit_lambda% (c_cond rfl (fun hc => ?_) (fun hc => ?_)) <;> first | exact decx hc | skip)) | (((with_reducible refine no_implicit_lambda% (is_aop ?_)); refine no_implicit_lambda% (a_pick rfl rfl (fun hc => ?_) (fun hc => ?_)) <;> first | exact decx hc | rw [hc])) | (refine no_implicit_lambda% (ans ?_)) | (with_reducible exact retN) | (with_reducible exact retP) | fail | fail)
        refine e_ret (H' := rr l2 b2) (rest := _) rfl ⟨⟨1, s, 0⟩, l2, b2, ⟨hs, (by show (0 : Nat) < 18446744073709551616; decide)⟩, by omega, fun hb => ?_, fun hb => ⟨(p2 hb).1, fun hb2 => ?_⟩, rfl, rfl⟩ permT (Nat.le_of_ble_eq_true rfl)
        · obtain ⟨e1, e2⟩ := p1 hb
          obtain ⟨e3, e4⟩ := q1 e1
          exact ⟨e3, gv1 e4 e2⟩
        · cases b1 with
          | false => exact gv1n (q1 rfl).2 ((p2 hb).2 rfl)
          | true => exact gv0 ((q2 rfl).2 hb2)
      · intro xx H' hh
        obtain ⟨_, _, _, _, _, _, _, h', _⟩ := hh
        cases h'
    · have hx1 : x = 2 := by
        have h9 : ((x : Int) == 2) = true := hc
        simp at h9
        omega
      subst hx1
      (refine no_implicit_lambda% (cal [0] (hF) ?_ ?_))
      · intro xx H' hh
        obtain ⟨n, l2, b2, hs, hl2, p1, p2, h', rfl⟩ := hh
        cases h'
        first | (refine no_implicit_lambda% (akc ?_)) | (refine no_implicit_lambda% (aec ?_))
        repeat' (first | (refine no_implicit_lambda% (awd1 ?_)) | (((with_reducible refine no_implicit_lambda% (is_aops ?_)); refine no_implicit_lambda% (o_split rfl rfl rfl (fun hc => ?_) (fun hc => ?_)) <;> first | exact decx hc | rw [hc])) | (((with_reducible refine no_implicit_lambda% (is_cond ?_)); refine no_implicit_lambda% (c_cond rfl (fun hc => ?_) (fun hc => ?_)) <;> first | exact decx hc | skip)) | (((with_reducible refine no_implicit_lambda% (is_aop ?_)); refine no_implicit_lambda% (a_pick rfl rfl (fun hc => ?_) (fun hc => ?_)) <;> first | exact decx hc | rw [hc])) | (refine no_implicit_lambda% (ans ?_)) | (with_reducible exact retN) | (with_reducible exact retP) | fail | fail)
        refine e_ret_to (H' := rr l2 b2) (rest := [(1, .box [.v (.int .i64 2), .list [] .free, .v (.float .f64 n)])]) (Conv.toT (τ := ⟨_, [(0, .box [.list (l2.map brow) .free, .v (.bool b2)]), (1, .box [.v (.int .i64 2), .list [] .free, .v (.float .f64 n)])], _⟩) (.refl _) ?_ (Nat.le_refl _)) rfl ⟨⟨2, [], n⟩, l2, b2, ⟨Nat.zero_le _, hs⟩, by omega, fun hb => ?_, fun hb => ⟨(p2 hb).1, fun hb2 => ?_⟩, rfl, rfl⟩ permT (Nat.le_of_ble_eq_true rfl)
        · exact wkh
        · obtain ⟨e1, e2⟩ := p1 hb
          obtain ⟨e3, e4⟩ := q1 e1
          exact ⟨e3, gv2 e4 e2⟩
        · cases b1 with
          | false => exact gv2n (q1 rfl).2 ((p2 hb).2 rfl)
          | true => exact gv0 ((q2 rfl).2 hb2)
      · intro xx H' hh
        obtain ⟨_, _, _, _, _, _, _, h', _⟩ := hh
        cases h'
    · have hx2 : x ≠ 2 := by
        have h9 : ((x : Int) == 2) = false := hc
        simp at h9
        omega
      have hx1 : x ≠ 1 := by
        have h9 : ((x : Int) == 1) = false := by assumption
        simp at h9
        omega
      refine e_ret_to (H' := rr [] true) (rest := [(1, .box [.v (.int .i64 0), .list [] .free, .v (.float .f64 0)])]) (Conv.toT (τ := ⟨_, [(0, .box [.list [] .free, .v (.bool true)]), (1, .box [.v (.int .i64 0), .list [] .free, .v (.float .f64 0)])], _⟩) (.refl _) ?_ (Nat.le_refl _)) rfl ⟨⟨0, [], 0⟩, [], true, ⟨Nat.zero_le _, by decide⟩, Nat.zero_le _, fun hb => (by cases hb), fun _ => ⟨rfl, fun hb2 => ?_⟩, rfl, rfl⟩ permT (Nat.le_of_ble_eq_true rfl)
      · exact wkh
      cases b1 with
      | false => exact gv3 (q1 rfl).2 hx1 hx2
      | true => exact gv0 ((q2 rfl).2 hb2)
  · intro xx H' hh
    obtain ⟨_, _, _, _, _, _, _, h', _⟩ := hh
    cases h'
end Go.Proofs.YtjepgbpcpcahgaaGreat
