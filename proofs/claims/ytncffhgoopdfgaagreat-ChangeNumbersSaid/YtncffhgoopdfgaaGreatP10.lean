/- Part 10 of what the laws ChangeNumbers rest on: RwC, Vc, RwD, RwE, RwB, RwF, RwG, RwH. -/
import Derived.Test.YtncffhgoopdfgaaGreatP9
set_option linter.unusedSimpArgs false
set_option linter.unusedVariables false
namespace Go.Proofs.YtncffhgoopdfgaaGreat
open Go.Am
set_option maxRecDepth 100000
def canE (x : Ve) : Ve := ⟨x.t, canV x.v⟩
def canC (c : Co) : Co := ⟨c.n, c.l.map canE⟩
def copyR (r : List Co) : List Co := if rowB r then r.map canC else []
def RowSz (r : List Co) : Prop := ∀ c ∈ r, ∀ x ∈ c.l, x.v.b.length < 1073741824 ∧ x.v.n < 18446744073709551616
theorem cols_mem : ∀ {l : List Co} {p : Option ByteArray} {x : Co}, colsB p l = true → x ∈ l → colB x = true
 | c :: l, p, x, h, hm => by
  unfold colsB at h
  simp only [Bool.and_eq_true] at h
  rcases List.mem_cons.1 hm with rfl | hm
  ·exact h.1.1
  ·exact cols_mem h.2 hm
theorem row_mem {r : List Co} (h : rowB r = true) {x : Co} (hx : x ∈ r) : colB x = true := by
 unfold rowB at h
 simp only [Bool.and_eq_true] at h
 exact cols_mem h.1 hx
theorem col_len {c : Co} (h : colB c = true) : 1 ≤ c.l.length ∧ c.l.length ≤ 2 := by
 unfold colB at h
 simp only [Bool.and_eq_true, decide_eq_true_eq] at h
 exact h.1.2
theorem coOk (l : List Co) : RowsOk 2 (l.map corow) := .map (f := corow) (fun _ => ⟨rfl, rfl, rfl⟩) l
theorem veOk (l : List Ve) : RowsOk 4 (l.map verow) := .map (f := verow) (fun _ => ⟨rfl, rfl, rfl⟩) l
def rcSt (r o : List Co) (cp i : Nat) : ASt := ⟨([.dead, .dead, .ptr 1 0, .ptr 2 0] ++ List.replicate 10 .dead ++ [.list (r.map corow) .free, .v (.int .i64 r.length), .v (.int .i64 i)] ++ List.replicate 33 .dead), [(1, .box [.list [] .full]), (2, .box [.arr 3 0 i cp]), (3, .seq (o.map corow) ((cp - i) * 2))], 4⟩
def rdSt (r o : List Co) (cp i : Nat) (c : Co) (vs : List Ve) (k : Nat) : ASt := ⟨([.dead, .dead, .ptr 1 0, .ptr 2 0, .dead, .dead, .ptr 5 0] ++ List.replicate 7 .dead ++ [.list (r.map corow) .free, .v (.int .i64 r.length), .v (.int .i64 i)] ++ List.replicate 7 .dead ++ [.list (c.l.map verow) .free, .v (.int .i64 c.l.length), .v (.int .i64 k)] ++ List.replicate 23 .dead), [(5, .box [.v (.string c.n), .list (vs.map verow) (.tok 6)]), (6, .tok 4 vs.length), (1, .box [.list [] .full]), (2, .box [.arr 3 0 i cp]), (3, .seq (o.map corow) ((cp - i) * 2))], 7⟩
set_option maxHeartbeats 3200000 in
theorem copy_s (r : List Co) (hr : r.length < 70368744177664) (hs : RowSz r) : ACalls Tryz.prog 142 0 5000 [rowA r] [] (fun out H' => ∃ id cp, id < 5000 ∧ (copyR r).length ≤ cp ∧ cp ≤ maxLen ∧ out = .ret (.agg [.arr id 0 (copyR r).length cp]) ∧ H' = [(id, .seq ((copyR r).map corow) ((cp - (copyR r).length) * 2))]) := by
 have hrt := (right_c r hr).top0
 refine no_implicit_lambda% (acalls_of tok dok (f := 142) ⟨Tryz.func142, rfl, by kernel_rfl⟩ ?_); refine no_implicit_lambda% (c_start (fun _ h => h) ?_)
 repeat' (first | (refine no_implicit_lambda% (zH ?_)) | (refine no_implicit_lambda% (spl (fun hc => ?_) (fun hc => ?_)) <;> first | exact zG hc | skip) | (refine no_implicit_lambda% (ans ?_)) | (with_reducible first | exact zI | exact zJ) | (refine no_implicit_lambda% (cal [] (hrt) ?_ ?_)) | fail)
 ·have hf : rowB r = false := by simpa using hc
  have he : copyR r = [] := by unfold copyR; rw [hf]; rfl
  rw [he]
  exact e_ret_to (H' := [(3, .seq [] 0)]) (rest := _) (Conv.nilBox (id := 1) (j := 0) (cells := [.list [] .full]) rfl rfl) rfl ⟨3, 0, by omega, Nat.le_refl _, by decide, rfl, rfl⟩ permT (LE0 rfl)
 ·have ht : rowB r = true := by simpa using hc
  have he : copyR r = r.map canC := by unfold copyR; rw [ht]; rfl
  have h4 : r.length ≤ 4 := by
   unfold rowB at ht
   simp only [Bool.and_eq_true, decide_eq_true_eq] at ht
   exact ht.2
  rw [he]
  refine c_l3 (rcSt r) (fun o cp i => i ≤ r.length ∧ i ≤ cp ∧ cp ≤ maxLen ∧ o = (r.take i).map canC) (fun _ _ i => r.length - i) [] 0 0 ⟨Nat.zero_le _, Nat.le_refl _, by decide, rfl⟩ ((Conv.nilBox (id := 2) (j := 0) (cells := [.list [] .full]) rfl rfl).trans ?_) ?_
  ·(refine no_implicit_lambda% (Conv.toT ?_ ?_ (LE0 rfl))); (focus ((unfold rcSt); (try dsimp only); exact wkl)); (focus ((unfold rcSt); (try dsimp only); exact wkh))
  ·rintro o cp i ⟨h1, h2, h3, ho⟩
   have hol : o.length = i := by rw [ho, List.length_map, List.length_take]; omega
   refine c_turn (n' := 4) (fun _ h => h) (fun _ h => h) rfl ?_
   rcases hx : r[i]? with _ | x
   ·have hi : i = r.length := by have := List.getElem?_eq_none_iff.1 hx; omega
    subst hi
    rw [List.take_length] at ho
    subst ho
    repeat' (first | (refine no_implicit_lambda% (zH ?_)) | (refine no_implicit_lambda% (spl (fun hc => ?_) (fun hc => ?_)) <;> first | exact zG hc | skip) | (refine no_implicit_lambda% (ans ?_)) | (with_reducible first | exact zI | exact zJ))
    have e : (r.map canC).length = r.length := List.length_map ..
    exact e_ret (H' := [(3, .seq ((r.map canC).map corow) ((cp - r.length) * 2))]) (rest := _) rfl ⟨3, cp, by omega, by omega, h3, (by rw [e]; rfl), by rw [e]⟩ permT (LE0 rfl)
   ·have hi : i < r.length := (List.getElem?_eq_some_iff.1 hx).1
    have hix := cox hx
    have hsx := hs x (List.mem_of_getElem? hx)
    have hts : r.take (i + 1) = r.take i ++ [x] := by rw [List.take_add_one, hx]; rfl
    have hxl := col_len (row_mem ht (List.mem_of_getElem? hx))
    repeat' (first | (refine no_implicit_lambda% (zH ?_)) | (refine no_implicit_lambda% (spl (fun hc => ?_) (fun hc => ?_)) <;> first | exact zG hc | skip) | (refine no_implicit_lambda% (ans ?_)) | (with_reducible first | exact zI | exact zJ))
    refine c_loop2 (rdSt r o cp i x) (fun vs k => k ≤ x.l.length ∧ vs = (x.l.take k).map canE) (fun _ k => x.l.length - k) [] 0 ⟨Nat.zero_le _, rfl⟩ ((Conv.tokBox (id := 5) (j := 1) (sz := 4) (rows := []) rfl rfl (by simp)).trans ?_) ?_
    ·(refine no_implicit_lambda% (Conv.toT ?_ ?_ (LE0 rfl))); (focus ((unfold rdSt); (try dsimp only); exact wkl)); (focus ((unfold rdSt); (try dsimp only); exact wkh))
    ·rintro vs k ⟨k1, hv⟩
     have hvl : vs.length = k := by rw [hv, List.length_map, List.length_take]; omega
     refine c_turn (n' := 7) (fun _ h => h) (fun _ h => h) rfl ?_
     rcases hy : x.l[k]? with _ | y
     ·have hk : k = x.l.length := by have := List.getElem?_eq_none_iff.1 hy; omega
      subst hk
      rw [List.take_length] at hv
      repeat' (first | (refine no_implicit_lambda% (zH ?_)) | (refine no_implicit_lambda% (spl (fun hc => ?_) (fun hc => ?_)) <;> first | exact zG hc | skip) | (refine no_implicit_lambda% (ans ?_)) | (with_reducible first | exact zI | exact zJ))
      subst hv
      ((with_reducible refine no_implicit_lambda% (zC ?_)); refine no_implicit_lambda% (a_appS (sz := 2) (B := 40) (m2 := i + 1) (rows3 := (o ++ [canC x]).map corow) rfl rfl rfl rfl rfl rfl rfl rfl rfl rfl rfl (fun _ h => h) rfl rfl (coOk o) (coOk [canC x]) (by first | rfl | (exact List.length_map ..) | (simp; done) | (simp; omega)) rfl (by first | omega | (simp; omega)) (by first | rfl | (simp; done) | (simp; omega)) (by first | rfl | (exact map_snoc _ _) | (rw [List.map_append]; rfl) | (simp; done)) ?_))
      intro cp' c1 c2
      refine no_implicit_lambda% (akc ?_)
      repeat' (first | (refine no_implicit_lambda% (zH ?_)) | (refine no_implicit_lambda% (spl (fun hc => ?_) (fun hc => ?_)) <;> first | exact zG hc | skip) | (refine no_implicit_lambda% (ans ?_)) | (with_reducible first | exact zI | exact zJ))
      (refine no_implicit_lambda% (k_loopLT (((o ++ [canC x], cp', i + 1) : List Co × Nat × Nat)) 0 [0, 1, 2, 7] (by show i + 1 ≤ r.length ∧ i + 1 ≤ cp' ∧ cp' ≤ maxLen ∧ o ++ [canC x] = (r.take (i + 1)).map canC; exact ⟨hi, c1, c2, by rw [hts, List.map_append, ← ho]; rfl⟩) (by first | omega | (simp; done) | (simp; omega)) (LE0 rfl) (fun _ h => h) (fun _ h => h) ?_ ?_)); (focus ((try dsimp only); exact wkl)); (focus ((try dsimp only); exact wkh))
     ·have hk : k < x.l.length := (List.getElem?_eq_some_iff.1 hy).1
      have hiy := vex hy
      have hsy := (hsx y (List.mem_of_getElem? hy)).1
      have hcn := canonv_c y.v (by omega)
      have hty : x.l.take (k + 1) = x.l.take k ++ [y] := by rw [List.take_add_one, hy]; rfl
      repeat' (first | (refine no_implicit_lambda% (zH ?_)) | (refine no_implicit_lambda% (splv (fun hc => ?_) (fun hc => ?_)) <;> first | exact zG hc | skip) | (refine no_implicit_lambda% (ans ?_)) | (with_reducible first | exact zI | exact zJ) | (refine no_implicit_lambda% (cal [] (hcn) ?_ ?_)) | fail)
      (refine no_implicit_lambda% (k_loopLT (((vs ++ [canE y], k + 1) : List Ve × Nat)) 0 (List.range 7) (by show k + 1 ≤ x.l.length ∧ vs ++ [canE y] = (x.l.take (k + 1)).map canE; exact ⟨hk, by rw [hty, List.map_append, ← hv]; rfl⟩) (by first | omega | (simp; done) | (simp; omega)) (LE0 rfl) (fun _ h => h) (fun _ h => h) ?_ ?_)); (focus ((try dsimp only); exact wkl)); (focus ((try dsimp only); exact wkh))
theorem copy_f (r : List Co) (hr : r.length < 70368744177664) (hs : RowSz r) : ACalls Tryz.prog 142 0 0 [rowA r] [] (fun out H' => out = .ret (rowA (copyR r)) ∧ H' = []) :=
 ((copy_s r hr hs).conv (M := 5000) (R2 := fun out H' => out = .ret (rowA (copyR r)) ∧ H' = []) (Nat.zero_le _) (Nat.le_refl _) (fun x H' hh => by
  obtain ⟨id, cp, _, h1, h2, h3, rfl⟩ := hh
  cases h3
  exact ⟨rowA (copyR r), [], 5000, Nat.le_refl _, (Conv.freezeA (coOk _) (by simp)).toN 0, (fun rows h => by cases h), rfl, rfl⟩) (fun x H' hh => by
  obtain ⟨_, _, _, _, _, h', _⟩ := hh
  cases h')).ren (Nat.zero_le _) fun out H' hh => by
   obtain ⟨rfl, rfl⟩ := hh
   exact ⟨[], .ret (rowA (copyR r)), [], List.nodup_nil, (fun i h => by cases h), (fun i h => absurd h (Nat.not_lt_zero i)), Nat.le_refl _, (by simp [rowA, AOut.ren, AV.ren, AV.renL, Own.ren]), rfl, rfl, rfl⟩
end Go.Proofs.YtncffhgoopdfgaaGreat
namespace Go.Proofs.YtncffhgoopdfgaaGreat
open Go.Am
set_option maxRecDepth 100000
theorem cmpZ_refl (a : Int) : cmpZ a a = 0 := by unfold cmpZ; repeat' split <;> omega
theorem cb_refl : ∀ a : List UInt8, Lib.compareBytes a a = 0
 | [] => rfl
 | x :: a => by
  unfold Lib.compareBytes
  rw [if_neg (by simp), if_neg (by simp)]; exact cb_refl a
theorem cb_anti : ∀ a b : List UInt8, Lib.compareBytes a b = 0 - Lib.compareBytes b a
 | [], [] => rfl
 | [], _ :: _ => rfl
 | _ :: _, [] => rfl
 | x :: a, y :: b => by
  unfold Lib.compareBytes
  have h := cb_anti a b
  simp only [UInt8.lt_iff_toNat_lt]
  repeat' split <;> omega
theorem cb_bd : ∀ a b : List UInt8, -1 ≤ Lib.compareBytes a b ∧ Lib.compareBytes a b ≤ 1
 | [], [] => by decide
 | [], _ :: _ => ⟨Int.le_refl (-1), (by decide : (-1 : Int) ≤ 1)⟩
 | _ :: _, [] => ⟨(by decide : (-1 : Int) ≤ 1), Int.le_refl 1⟩
 | x :: a, y :: b => by
  unfold Lib.compareBytes
  have h := cb_bd a b
  repeat' split <;> omega
theorem cb_tr : ∀ a b c : List UInt8, Lib.compareBytes a b ≤ 0 → Lib.compareBytes b c ≤ 0 → Lib.compareBytes a c ≤ 0
 | [], [], c, _, h => h
 | [], _ :: _, [], _, _ => Int.le_refl _
 | [], _ :: _, _ :: _, _, _ => by show (-1 : Int) ≤ 0; decide
 | _ :: _, [], _, h, _ => by exfalso; revert h; show ¬ (1 : Int) ≤ 0; decide
 | _ :: _, _ :: _, [], _, h => by exfalso; revert h; show ¬ (1 : Int) ≤ 0; decide
 | x :: a, y :: b, z :: c, h1, h2 => by
  unfold Lib.compareBytes at *
  have h := cb_tr a b c
  simp only [UInt8.lt_iff_toNat_lt] at *
  repeat' split
  all_goals (repeat' split at h1)
  all_goals (repeat' split at h2)
  all_goals first | omega | (exact h h1 h2) | skip
theorem ord0_refl (x : Va) : ordV0 x x = 0 := by
 unfold ordV0
 rw [if_neg (by omega)]
 split
 ·exact cb_refl _
 ·split
  ·exact cmpZ_refl _
  ·rfl
theorem canonB_idem (n : Nat) : canonB (canonB n) = canonB n := by
 unfold canonB
 have e : nanB 9221120237041090561 = true := by kernel_rfl
 cases h : nanB n
 ·simp [h]
 ·simp [e]
theorem canV_idem (v : Va) : canV (canV v) = canV v := by
 unfold canV
 split
 ·rfl
 ·split
  ·show (⟨2, [], canonB (canonB v.n)⟩ : Va) = _
   rw [canonB_idem]
  ·rfl
end Go.Proofs.YtncffhgoopdfgaaGreat
namespace Go.Proofs.YtncffhgoopdfgaaGreat
open Go.Am
set_option maxRecDepth 100000
theorem sLt_tr {a b c : ByteArray} (h1 : sLt a b = true) (h2 : sLt b c = true) : sLt a c = true := by
 rw [sLt_eq, decide_eq_true_eq] at *
 have h3 := cb_tr a.toList b.toList c.toList (by unfold cmpS at h1; omega) (by unfold cmpS at h2; omega)
 unfold cmpS at *
 rcases cb_three a.toList c.toList with h | h | h
 ·exact h
 ·
  have e : a.toList = c.toList := by
   have := eq_cb a.toList c.toList
   rw [decide_eq_true h] at this
   simpa using this
  rw [e] at h1
  have := cb_anti c.toList b.toList
  omega
 ·omega
def npos (l : List Co) (s : ByteArray) : Nat := l.countP fun c => sLt c.n s
def Nsort (l : List Co) : Prop := l.Pairwise fun a b => sLt a.n b.n = true
theorem npos_le (l : List Co) (s : ByteArray) : npos l s ≤ l.length := List.countP_le_length
theorem npos_lt {l : List Co} {s : ByteArray} (hs : Nsort l) {i : Nat} {x : Co} (hi : l[i]? = some x) : i < npos l s ↔ sLt x.n s = true := by
 unfold npos Nsort at *
 induction l generalizing i with
 | nil => cases hi
 | cons y l ih =>
  rw [List.pairwise_cons] at hs
  rw [List.countP_cons]
  have hz : sLt y.n s = false → l.countP (fun c => sLt c.n s) = 0 := fun hc => List.countP_eq_zero.2 fun z hz h => by
   have := sLt_tr (hs.1 z hz) h
   rw [this] at hc; cases hc
  cases i with
  | zero =>
   cases hi
   cases hc : sLt x.n s with
   | true => simp
   | false => simp [hz hc]
  | succ i =>
   rw [List.getElem?_cons_succ] at hi
   have := ih hs.2 hi
   cases hc : sLt y.n s with
   | true => simp [this]
   | false =>
    have h0 := hz hc
    have h1 : sLt x.n s = false := by
     cases h2 : sLt x.n s with
     | false => rfl
     | true => rw [h0] at this; exact absurd (this.2 h2) (by omega)
    simp [h0, h1]
theorem cols_sort : ∀ {l : List Co} {p : Option ByteArray}, colsB p l = true → Nsort l ∧ ∀ q, p = some q → ∀ c ∈ l, sLt q c.n = true
 | [], p, _ => ⟨List.Pairwise.nil, fun q _ c hc => by cases hc⟩
 | c :: l, p, h => by
  unfold colsB at h
  simp only [Bool.and_eq_true] at h
  obtain ⟨h1, h2⟩ := cols_sort h.2
  refine ⟨List.pairwise_cons.2 ⟨fun b hb => h2 c.n rfl b hb, h1⟩, fun q hq b hb => ?_⟩
  subst hq
  have h3 : sLt q c.n = true := h.1.2
  rcases List.mem_cons.1 hb with rfl | hb
  ·exact h3
  ·exact sLt_tr h3 (h2 c.n rfl b hb)
theorem row_sort {r : List Co} (h : rowB r = true) : Nsort r := by
 unfold rowB at h
 simp only [Bool.and_eq_true] at h
 exact (cols_sort h.1).1
theorem copy_sort (r : List Co) : Nsort (copyR r) := by
 unfold copyR
 split
 ·rename_i h
  have := row_sort h
  unfold Nsort at *
  rw [List.pairwise_map]
  exact this
 ·exact List.Pairwise.nil
theorem copy_len (r : List Co) : (copyR r).length ≤ 4 := by
 unfold copyR
 split
 ·rename_i h
  unfold rowB at h
  simp only [Bool.and_eq_true, decide_eq_true_eq] at h
  rw [List.length_map]; exact h.2
 ·simp
theorem copy_col {r : List Co} {c : Co} (h : c ∈ copyR r) : 1 ≤ c.l.length ∧ c.l.length ≤ 2 := by
 unfold copyR at h
 split at h
 ·rename_i hb
  obtain ⟨d, hd, rfl⟩ := List.mem_map.1 h
  have := col_len (row_mem hb hd)
  unfold canC
  simpa using this
 ·cases h
theorem findf_s (c : Co) (s : ByteArray) : ACalls Tryz.prog 205 0 0 [.agg (corow c), .v (.string s)] [] (fun out H' => out = .ret (.v (.int .i64 (cmpS c.n s))) ∧ H' = []) := by
 refine ACalls.top0 (top := 5) ?_
 refine no_implicit_lambda% (acalls_of tok dok (f := 205) ⟨Tryz.func205, rfl, by kernel_rfl⟩ ?_); refine no_implicit_lambda% (c_start (fun _ h => h) ?_)
 repeat' (first | (refine no_implicit_lambda% (zH ?_)) | (refine no_implicit_lambda% (spl (fun hc => ?_) (fun hc => ?_)) <;> first | exact zG hc | skip) | (refine no_implicit_lambda% (ans ?_)) | (with_reducible first | exact zI | exact zJ) | (refine no_implicit_lambda% (cal [] (compare_s _ _) ?_ ?_)) | fail)
 exact e_ret (H' := []) (rest := _) rfl ⟨rfl, rfl⟩ permT (LE0 rfl)
def hasN (l : List Co) (s : ByteArray) : Bool := match l[npos l s]? with
 | some c => cmpS c.n s == 0
 | none => false
def fbSt (l : List Co) (s : ByteArray) (lo hi : Nat) : ASt := ⟨([.list (l.map corow) .free, .v (.string s), .fn 205 []] ++ List.replicate 5 .dead ++ [.v (.int .i64 l.length), .v (.int .i64 lo), .v (.int .i64 hi)] ++ List.replicate 38 .dead), [], 0⟩
theorem bsearch_s (l : List Co) (s : ByteArray) (hl : l.length < 1000000) (hs : Nsort l) : ACalls Tryz.prog 204 0 0 [.list (l.map corow) .free, .v (.string s), .fn 205 []] [] (fun out H' => out = .ret (.tuple [.v (.int .i64 (npos l s)), .v (.bool (hasN l s))]) ∧ H' = []) := by
 refine no_implicit_lambda% (acalls_of tok dok (f := 204) ⟨Tryz.func204, rfl, by kernel_rfl⟩ ?_); refine no_implicit_lambda% (c_start (fun _ h => h) ?_)
 repeat' (first | (refine no_implicit_lambda% (zH ?_)) | (refine no_implicit_lambda% (spl (fun hc => ?_) (fun hc => ?_)) <;> first | exact zG hc | skip) | (refine no_implicit_lambda% (ans ?_)) | (with_reducible first | exact zI | exact zJ))
 refine c_loop2 (fbSt l s) (fun lo hi => lo ≤ hi ∧ hi ≤ l.length ∧ lo ≤ npos l s ∧ npos l s ≤ hi) (fun lo hi => hi - lo) 0 l.length ⟨Nat.zero_le _, Nat.le_refl _, Nat.zero_le _, npos_le l s⟩ ?_ ?_
 ·(refine no_implicit_lambda% (Conv.toT ?_ ?_ (LE0 rfl))); (focus ((unfold fbSt); (try dsimp only); exact wkl)); (focus ((unfold fbSt); (try dsimp only); exact wkh))
 ·intro lo hi ⟨h1, h2, h3, h4⟩
  refine c_turn (n' := 0) (fun _ h => h) (fun _ h => h) rfl ?_
  rcases Nat.lt_or_ge lo hi with hlt | hge
  ·have hm : IntKind.i64.wrap ((IntKind.u64.wrap (IntKind.i64.wrap ((lo : Int) + hi))).fdiv (2 ^ min (Int.toNat 1) IntKind.u64.bits)) = (((lo + hi) / 2 : Nat) : Int) := by
    rw [show min (Int.toNat 1) IntKind.u64.bits = 1 from rfl, Int.pow_one, IntKind.wrap_i64, IntKind.wrap_u64]
    rw [Int.fdiv_eq_ediv_of_nonneg _ (by omega)]
    rw [IntKind.wrap_i64]
    omega
   obtain ⟨m, hmm⟩ : ∃ m, (lo + hi) / 2 = m := ⟨_, rfl⟩
   rw [hmm] at hm
   have hml : m < l.length := by omega
   obtain ⟨t, ht⟩ : ∃ t, l[m]? = some t := ⟨_, List.getElem?_eq_getElem hml⟩
   have hk := npos_lt (s := s) hs ht
   have hix := cox ht
   rw [← hm] at hix
   repeat' (first | (refine no_implicit_lambda% (zH ?_)) | (refine no_implicit_lambda% (spl (fun hc => ?_) (fun hc => ?_)) <;> first | exact zG hc | skip) | (refine no_implicit_lambda% (ans ?_)) | (with_reducible first | exact zI | exact zJ) | (refine no_implicit_lambda% (cal [] (findf_s t s) ?_ ?_)) | fail)
   ·have hq := of_decide_eq_true hc
    have hq2 : sLt t.n s = true := by rw [sLt_eq]; exact decide_eq_true (by have := cb_bd t.n.toList s.toList; unfold cmpS at *; omega)
    rw [hm]
    (refine no_implicit_lambda% (k_loopT (((m + 1, hi) : Nat × Nat)) (by show m + 1 ≤ hi ∧ hi ≤ l.length ∧ m + 1 ≤ npos l s ∧ npos l s ≤ hi; have := hk.2 hq2; omega) (by first | omega | (simp; done) | (simp; omega)) ?_ ?_)); (focus ((unfold fbSt); (try dsimp only); exact wkl)); (focus ((unfold fbSt); (try dsimp only); exact wkh))
   ·have hq := of_decide_eq_false hc
    have hq2 : ¬ sLt t.n s = true := by rw [sLt_eq, decide_eq_true_eq]; omega
    rw [hm]
    (refine no_implicit_lambda% (k_loopT (((lo, m) : Nat × Nat)) (by show lo ≤ m ∧ m ≤ l.length ∧ lo ≤ npos l s ∧ npos l s ≤ m; have := mt hk.1 hq2; omega) (by first | omega | (simp; done) | (simp; omega)) ?_ ?_)); (focus ((unfold fbSt); (try dsimp only); exact wkl)); (focus ((unfold fbSt); (try dsimp only); exact wkh))
  ·have hle : lo = hi := by omega
   subst hle
   have hn : lo = npos l s := by omega
   rcases ht : l[lo]? with _ | t
   ·have hge : ¬ lo < l.length := by have := List.getElem?_eq_none_iff.1 ht; omega
    have hh : hasN l s = false := by unfold hasN; rw [← hn, ht]
    rw [hh, ← hn]
    repeat' (first | (refine no_implicit_lambda% (zH ?_)) | (refine no_implicit_lambda% (spl (fun hc => ?_) (fun hc => ?_)) <;> first | exact zG hc | skip) | (refine no_implicit_lambda% (ans ?_)) | (with_reducible first | exact zI | exact zJ))
    exact e_ret (H' := []) (rest := _) rfl ⟨rfl, rfl⟩ (.refl _) (LE0 rfl)
   ·have hix := cox ht
    have hh : hasN l s = (cmpS t.n s == 0) := by unfold hasN; rw [← hn, ht]
    rw [hh, ← hn]
    repeat' (first | (refine no_implicit_lambda% (zH ?_)) | (refine no_implicit_lambda% (spl (fun hc => ?_) (fun hc => ?_)) <;> first | exact zG hc | skip) | (refine no_implicit_lambda% (ans ?_)) | (with_reducible first | exact zI | exact zJ) | (refine no_implicit_lambda% (cal [] (findf_s t s) ?_ ?_)) | fail)
    ·exact e_ret (H' := []) (rest := _) rfl ⟨rfl, rfl⟩ (.refl _) (LE0 rfl)
    ·exfalso
     have h5 := (List.getElem?_eq_some_iff.1 ht).1
     have := of_decide_eq_false hc
     omega
theorem find_f (l : List Co) (s : ByteArray) (hl : l.length < 1000000) (hs : Nsort l) : ACalls Tryz.prog 187 0 0 [rowA l, .v (.string s)] [] (fun out H' => out = .ret (.tuple [.v (.int .i64 (npos l s)), .v (.bool (hasN l s))]) ∧ H' = []) := by
 have hb := bsearch_s l s hl hs
 have h1 : ACalls Tryz.prog 187 0 5 [rowA l, .v (.string s)] [] (fun out H' => out = .ret (.tuple [.v (.int .i64 (npos l s)), .v (.bool (hasN l s))]) ∧ H' = []) := by
  refine no_implicit_lambda% (acalls_of tok dok (f := 187) ⟨Tryz.func187, rfl, by kernel_rfl⟩ ?_); refine no_implicit_lambda% (c_start (fun _ h => h) ?_)
  repeat' (first | (refine no_implicit_lambda% (zH ?_)) | (refine no_implicit_lambda% (spl (fun hc => ?_) (fun hc => ?_)) <;> first | exact zG hc | skip) | (refine no_implicit_lambda% (ans ?_)) | (with_reducible first | exact zI | exact zJ) | (refine no_implicit_lambda% (cal [] (hb) ?_ ?_)) | fail)
  exact e_ret (H' := []) (rest := _) rfl ⟨rfl, rfl⟩ permT (LE0 rfl)
 exact h1.ren (Nat.zero_le _) fun out H' hh => by
  obtain ⟨rfl, rfl⟩ := hh
  exact ⟨[], .ret (.tuple [.v (.int .i64 (npos l s)), .v (.bool (hasN l s))]), [], List.nodup_nil, (fun i h => by cases h), (fun i h => absurd h (Nat.not_lt_zero i)), Nat.le_refl _, (by simp [AOut.ren, AV.ren, AV.renL]), rfl, rfl, rfl⟩
def atL (l : List Ve) (t : Int) : Option Va := (l.find? fun x => decide (x.t ≤ t)).map (·.v)
def atR (r : List Co) (s : ByteArray) (t : Int) : Option Va := if hasN (copyR r) s then ((copyR r)[npos (copyR r) s]?).bind fun c => atL c.l t else none
def optA : Option Va → AV
 | some v => .tuple [vav v, .v (.bool true)]
 | none => .tuple [vav ⟨0, [], 0⟩, .v (.bool false)]
def atSt (l : List Ve) (t : Int) (i : Nat) : ASt := ⟨([.dead, .dead, .v (.int .i64 t), .dead, .dead, .dead, .ptr 1 0] ++ List.replicate 22 .dead ++ [.list (l.map verow) .free, .v (.int .i64 l.length), .v (.int .i64 i)] ++ List.replicate 11 .dead), [(1, .box [.v (.int .i64 0), .list [] .free, .v (.float .f64 0)])], 3⟩
set_option maxHeartbeats 3200000 in
theorem at_c (r : List Co) (s : ByteArray) (t : Int) (hr : r.length < 70368744177664) (hs : RowSz r) : ACalls Tryz.prog 157 0 5000 [rowA r, .v (.string s), .v (.int .i64 t)] [] (fun out H' => out = .ret (optA (atR r s t)) ∧ H' = []) := by
 have hcp := copy_f r hr hs
 have h4 := copy_len r
 have hf := find_f (copyR r) s (by omega) (copy_sort r)
 have hcol := fun c (h : c ∈ copyR r) => copy_col h
 unfold atR
 generalize copyR r = o at *
 refine no_implicit_lambda% (acalls_of tok dok (f := 157) ⟨Tryz.func157, rfl, by kernel_rfl⟩ ?_); refine no_implicit_lambda% (c_start (fun _ h => h) ?_)
 rcases hN : hasN o s with _ | _
 ·rw [hN] at hf
  repeat' (first | (refine no_implicit_lambda% (zH ?_)) | (refine no_implicit_lambda% (spl (fun hc => ?_) (fun hc => ?_)) <;> first | exact zG hc | skip) | (refine no_implicit_lambda% (ans ?_)) | (with_reducible first | exact zI | exact zJ) | (refine no_implicit_lambda% (cal [] (hcp) ?_ ?_)) | (refine no_implicit_lambda% (cal [] (hf) ?_ ?_)) | fail)
  refine e_ret_to (H' := []) (rest := [(1, .box (vrowV ⟨0, [], 0⟩))]) (Conv.toT (τ := ⟨_, [(1, .box (vrowV ⟨0, [], 0⟩))], _⟩) (.refl _) ?_ (Nat.le_refl _)) rfl ⟨rfl, rfl⟩ (.of_eq rfl) (LE0 rfl)
  unfold vrowV
  exact wkh
 ·rw [hN] at hf
  obtain ⟨c, hc⟩ : ∃ c, o[npos o s]? = some c := by
   unfold hasN at hN
   split at hN
   ·exact ⟨_, by assumption⟩
   ·cases hN
  have hix := cox hc
  have hcl := hcol c (List.mem_of_getElem? hc)
  have hat : (if true = true then o[npos o s]?.bind fun c => atL c.l t else none) = atL c.l t := by rw [if_pos rfl, hc]; rfl
  rw [hat]
  repeat' (first | (refine no_implicit_lambda% (zH ?_)) | (refine no_implicit_lambda% (spl (fun hc => ?_) (fun hc => ?_)) <;> first | exact zG hc | skip) | (refine no_implicit_lambda% (ans ?_)) | (with_reducible first | exact zI | exact zJ) | (refine no_implicit_lambda% (cal [] (hcp) ?_ ?_)) | (refine no_implicit_lambda% (cal [] (hf) ?_ ?_)) | fail)
  refine c_loop' (atSt c.l t) (fun i => i ≤ c.l.length ∧ (c.l.take i).find? (fun x => decide (x.t ≤ t)) = none) (fun i => c.l.length - i) (a := 0) ⟨Nat.zero_le _, rfl⟩ ?_ ?_
  ·(refine no_implicit_lambda% (Conv.toT ?_ ?_ (LE0 rfl))); (focus ((unfold atSt); (try dsimp only); exact wkl)); (focus ((unfold atSt); (try dsimp only); exact wkh))
  ·rintro i ⟨h1, hI⟩
   refine c_turn (n' := 3) (fun _ h => h) (fun _ h => h) rfl ?_
   rcases hx : c.l[i]? with _ | x
   ·have hi : i = c.l.length := by have := List.getElem?_eq_none_iff.1 hx; omega
    rw [hi, List.take_length] at hI
    have e : atL c.l t = none := by unfold atL; rw [hI]; rfl
    rw [e]
    repeat' (first | (refine no_implicit_lambda% (zH ?_)) | (refine no_implicit_lambda% (spl (fun hc => ?_) (fun hc => ?_)) <;> first | exact zG hc | skip) | (refine no_implicit_lambda% (ans ?_)) | (with_reducible first | exact zI | exact zJ))
    refine e_ret_to (H' := []) (rest := [(1, .box (vrowV ⟨0, [], 0⟩))]) (Conv.toT (τ := ⟨_, [(1, .box (vrowV ⟨0, [], 0⟩))], _⟩) (.refl _) ?_ (Nat.le_refl _)) rfl ⟨rfl, rfl⟩ (.of_eq rfl) (LE0 rfl)
    unfold vrowV
    exact wkh
   ·have hi : i < c.l.length := (List.getElem?_eq_some_iff.1 hx).1
    have hiy := vex hx
    have hts : c.l.take (i + 1) = c.l.take i ++ [x] := by rw [List.take_add_one, hx]; rfl
    repeat' (first | (refine no_implicit_lambda% (zH ?_)) | (refine no_implicit_lambda% (spl (fun hc => ?_) (fun hc => ?_)) <;> first | exact zG hc | skip) | (refine no_implicit_lambda% (ans ?_)) | (with_reducible first | exact zI | exact zJ))
    ·have e : atL c.l t = some x.v := by
      unfold atL
      have hsp : c.l = c.l.take i ++ x :: c.l.drop (i + 1) := by
       obtain ⟨hq, rfl⟩ := List.getElem?_eq_some_iff.1 hx
       rw [List.getElem_cons_drop, List.take_append_drop]
      rw [hsp, List.find?_append, hI]
      simp only [Option.none_or, List.find?_cons]
      rw [hc]; rfl
     rw [e]
     exact e_ret (H' := []) (rest := _) rfl ⟨rfl, rfl⟩ (.refl _) (LE0 rfl)
    ·(refine no_implicit_lambda% (k_loopLT (i + 1) 0 [0, 1, 2] (by show i + 1 ≤ c.l.length ∧ (c.l.take (i + 1)).find? (fun x => decide (x.t ≤ t)) = none; exact ⟨hi, by rw [hts, List.find?_append, hI]; simp [of_decide_eq_false hc]⟩) (by first | omega | (simp; done) | (simp; omega)) (LE0 rfl) (fun _ h => h) (fun _ h => h) ?_ ?_)); (focus ((try dsimp only); exact wkl)); (focus ((try dsimp only); exact wkh))
theorem newest_c (r : List Co) (s : ByteArray) (hr : r.length < 70368744177664) (hs : RowSz r) : ACalls Tryz.prog 89 0 6000 [rowA r, .v (.string s)] [] (fun out H' => out = .ret (optA (atR r s 1099511627776)) ∧ H' = []) := by
 have h := at_c r s 1099511627776 hr hs
 generalize atR r s 1099511627776 = q at *
 rcases q with _ | v
 ·have h1 : ACalls Tryz.prog 157 0 5000 [rowA r, .v (.string s), .v (.int .i64 1099511627776)] [] (fun out H' => out = .ret (.tuple [.agg (vrowV ⟨0, [], 0⟩), .v (.bool false)]) ∧ H' = []) := h
  refine no_implicit_lambda% (acalls_of tok dok (f := 89) ⟨Tryz.func89, rfl, by kernel_rfl⟩ ?_); refine no_implicit_lambda% (c_start (fun _ h => h) ?_)
  repeat' (first | (refine no_implicit_lambda% (zH ?_)) | (refine no_implicit_lambda% (spl (fun hc => ?_) (fun hc => ?_)) <;> first | exact zG hc | skip) | (refine no_implicit_lambda% (ans ?_)) | (with_reducible first | exact zI | exact zJ) | (refine no_implicit_lambda% (cal [] (h1) ?_ ?_)) | fail)
  exact e_ret (H' := []) (rest := _) rfl ⟨rfl, rfl⟩ (.refl _) (LE0 rfl)
 ·have h1 : ACalls Tryz.prog 157 0 5000 [rowA r, .v (.string s), .v (.int .i64 1099511627776)] [] (fun out H' => out = .ret (.tuple [.agg (vrowV v), .v (.bool true)]) ∧ H' = []) := h
  refine no_implicit_lambda% (acalls_of tok dok (f := 89) ⟨Tryz.func89, rfl, by kernel_rfl⟩ ?_); refine no_implicit_lambda% (c_start (fun _ h => h) ?_)
  repeat' (first | (refine no_implicit_lambda% (zH ?_)) | (refine no_implicit_lambda% (spl (fun hc => ?_) (fun hc => ?_)) <;> first | exact zG hc | skip) | (refine no_implicit_lambda% (ans ?_)) | (with_reducible first | exact zI | exact zJ) | (refine no_implicit_lambda% (cal [] (h1) ?_ ?_)) | fail)
  exact e_ret (H' := []) (rest := _) rfl ⟨rfl, rfl⟩ (.refl _) (LE0 rfl)
end Go.Proofs.YtncffhgoopdfgaaGreat
namespace Go.Proofs.YtncffhgoopdfgaaGreat
open Go.Am
set_option maxRecDepth 100000
theorem ordV_refl (v : Va) : ordV v v = 0 := ord0_refl _
def rfSt (r : List Co) (i : Nat) : ASt := ⟨([.dead, .dead, .ptr 0 0, .ptr 1 0, .dead, .v (.int .i64 i)] ++ List.replicate 101 .dead), [(0, .box [.list (r.map corow) .free]), (1, .box [.list (r.map corow) .free])], 2⟩
def rgSt (r : List Co) (i k : Nat) : ASt := ⟨([.dead, .dead, .ptr 0 0, .ptr 1 0, .dead, .v (.int .i64 i), .v (.int .i64 k)] ++ List.replicate 100 .dead), [(0, .box [.list (r.map corow) .free]), (1, .box [.list (r.map corow) .free])], 2⟩
theorem refsame_v (v : Va) (hn : v.n < 18446744073709551616) : ACalls Tryz.prog 87 0 0 [vav v, vav v] [] (fun out H' => out = .ret (.v (.bool true)) ∧ H' = []) := by
 have h := refSame_c v v hn hn
 rw [ordV_refl] at h
 exact h.top0
set_option maxHeartbeats 3200000 in
theorem refsame_r (r : List Co) (hr : r.length < 1000000) (hl : ∀ c ∈ r, c.l.length < 1000000) (hs : ∀ c ∈ r, ∀ x ∈ c.l, x.v.n < 18446744073709551616) : ACalls Tryz.prog 69 0 0 [rowA r, rowA r] [] (fun out H' => out = .ret (.v (.bool true)) ∧ H' = []) := by
 refine ACalls.top0 (top := 400) ?_
 refine no_implicit_lambda% (acalls_of tok dok (f := 69) ⟨Tryz.func69, rfl, by kernel_rfl⟩ ?_); refine no_implicit_lambda% (c_start (fun _ h => h) ?_)
 repeat' (first | (refine no_implicit_lambda% (zH ?_)) | (refine no_implicit_lambda% (spl (fun hc => ?_) (fun hc => ?_)) <;> first | exact zG hc | skip) | (refine no_implicit_lambda% (ans ?_)) | (with_reducible first | exact zI | exact zJ))
 refine c_loop' (rfSt r) (fun i => i ≤ r.length) (fun i => r.length - i) (a := 0) (Nat.zero_le _) ?_ ?_
 ·(refine no_implicit_lambda% (Conv.toT ?_ ?_ (LE0 rfl))); (focus ((unfold rfSt); (try dsimp only); exact wkl)); (focus ((unfold rfSt); (try dsimp only); exact wkh))
 ·rintro i i1
  refine c_turn (n' := 2) (fun _ h => h) (fun _ h => h) rfl ?_
  rcases hx : r[i]? with _ | x
  ·have hi : i = r.length := by have := List.getElem?_eq_none_iff.1 hx; omega
   repeat' (first | (refine no_implicit_lambda% (zH ?_)) | (refine no_implicit_lambda% (spl (fun hc => ?_) (fun hc => ?_)) <;> first | exact zG hc | skip) | (refine no_implicit_lambda% (ans ?_)) | (with_reducible first | exact zI | exact zJ))
   exact e_ret (H' := []) (rest := _) rfl ⟨rfl, rfl⟩ permT (LE0 rfl)
  ·have hi : i < r.length := (List.getElem?_eq_some_iff.1 hx).1
   have hix := cox hx
   have hlx := hl x (List.mem_of_getElem? hx)
   have hsx := hs x (List.mem_of_getElem? hx)
   repeat' (first | (refine no_implicit_lambda% (zH ?_)) | (refine no_implicit_lambda% (splv (fun hc => ?_) (fun hc => ?_)) <;> first | exact zG hc | skip) | (refine no_implicit_lambda% (ans ?_)) | (with_reducible first | exact zI | exact zJ))
   ·exfalso; simp at hc
   refine c_loop' (rgSt r i) (fun k => k ≤ x.l.length) (fun k => x.l.length - k) (a := 0) (Nat.zero_le _) ?_ ?_
   ·(refine no_implicit_lambda% (Conv.toT ?_ ?_ (LE0 rfl))); (focus ((unfold rgSt); (try dsimp only); exact wkl)); (focus ((unfold rgSt); (try dsimp only); exact wkh))
   ·rintro k k1
    refine c_turn (n' := 2) (fun _ h => h) (fun _ h => h) rfl ?_
    rcases hy : x.l[k]? with _ | y
    ·have hk : k = x.l.length := by have := List.getElem?_eq_none_iff.1 hy; omega
     repeat' (first | (refine no_implicit_lambda% (zH ?_)) | (refine no_implicit_lambda% (spl (fun hc => ?_) (fun hc => ?_)) <;> first | exact zG hc | skip) | (refine no_implicit_lambda% (ans ?_)) | (with_reducible first | exact zI | exact zJ))
     (refine no_implicit_lambda% (k_loopLT (i + 1) 0 [0, 1] (by show i + 1 ≤ r.length; exact hi) (by first | omega | (simp; done) | (simp; omega)) (LE0 rfl) (fun _ h => h) (fun _ h => h) ?_ ?_)); (focus ((try dsimp only); exact wkl)); (focus ((try dsimp only); exact wkh))
    ·have hk : k < x.l.length := (List.getElem?_eq_some_iff.1 hy).1
     have hiy := vex hy
     have he := refsame_v y.v (hsx y (List.mem_of_getElem? hy))
     repeat' (first | (refine no_implicit_lambda% (zH ?_)) | (refine no_implicit_lambda% (splv (fun hc => ?_) (fun hc => ?_)) <;> first | exact zG hc | skip) | (refine no_implicit_lambda% (ans ?_)) | (with_reducible first | exact zI | exact zJ) | (refine no_implicit_lambda% (cal [] (he) ?_ ?_)) | fail)
     (refine no_implicit_lambda% (k_loopLT (k + 1) 0 [0, 1] (by show k + 1 ≤ x.l.length; exact hk) (by first | omega | (simp; done) | (simp; omega)) (LE0 rfl) (fun _ h => h) (fun _ h => h) ?_ ?_)); (focus ((try dsimp only); exact wkl)); (focus ((try dsimp only); exact wkh))
end Go.Proofs.YtncffhgoopdfgaaGreat
namespace Go.Proofs.YtncffhgoopdfgaaGreat
open Go.Am
set_option maxRecDepth 100000
def rr1St (r : List Co) (i : Nat) : ASt := ⟨([.dead, .ptr 0 0, .dead, .v (.int .i64 i)] ++ List.replicate 103 .dead), [(0, .box [.list (r.map corow) .free])], 1⟩
def rr2St (r : List Co) (i : Nat) (x : Co) (k : Nat) : ASt := ⟨([.dead, .ptr 0 0, .dead, .v (.int .i64 i), .ptr 1 0, .v (.int .i64 k)] ++ List.replicate 101 .dead), [(1, .box (corow x)), (0, .box [.list (r.map corow) .free])], 2⟩
def rraSt (r : List Co) (i : Nat) (x : Co) (b : Bool) : ASt := ⟨([.dead, .ptr 0 0, .dead, .v (.int .i64 i), .ptr 1 0] ++ List.replicate 48 .dead ++ [.v (.bool b)] ++ List.replicate 53 .dead), [(1, .box (corow x)), (0, .box [.list (r.map corow) .free])], 2⟩
def rrbSt (r : List Co) (i : Nat) (x : Co) (k : Nat) (b : Bool) : ASt := ⟨([.dead, .ptr 0 0, .dead, .v (.int .i64 i), .ptr 1 0, .v (.int .i64 k)] ++ List.replicate 100 .dead ++ [.v (.bool b)]), [(1, .box (corow x)), (0, .box [.list (r.map corow) .free])], 12⟩
set_option maxHeartbeats 6400000 in
theorem rright_c (r : List Co) (hr : r.length < 70368744177664) : ACalls Tryz.prog 107 0 400 [rowA r] [] (fun out H' => out = .ret (.v (.bool (rowB r))) ∧ H' = []) := by
 refine no_implicit_lambda% (acalls_of tok dok (f := 107) ⟨Tryz.func107, rfl, by kernel_rfl⟩ ?_); refine no_implicit_lambda% (c_start (fun _ h => h) ?_)
 repeat' (first | (refine no_implicit_lambda% (zH ?_)) | (refine no_implicit_lambda% (spl (fun hc => ?_) (fun hc => ?_)) <;> first | exact zG hc | skip) | (refine no_implicit_lambda% (ans ?_)) | (with_reducible first | exact zI | exact zJ))
 ·refine no_implicit_lambda% (e_ret (H' := []) (rest := _) rfl ⟨congrArg (fun z => AOut.ret (.v (.bool z))) ?_, rfl⟩ (.refl _) (LE0 rfl))
  have : ¬ r.length ≤ 4 := by
   simp only [decide_eq_true_eq, List.length_map] at hc
   omega
  unfold rowB
  rw [decide_eq_false this]; simp
 have h4 : r.length ≤ 4 := by
  simp only [decide_eq_false_iff_not, List.length_map] at hc
  omega
 have hrow : rowB r = colsB none r := by unfold rowB; rw [decide_eq_true h4]; simp
 refine c_loop' (rr1St r) (fun i => i ≤ r.length ∧ colsB none r = colsB (prevN r i) (r.drop i)) (fun i => r.length - i) (a := 0) ⟨Nat.zero_le _, rfl⟩ ?_ ?_
 ·(refine no_implicit_lambda% (Conv.toT ?_ ?_ (LE0 rfl))); (focus ((unfold rr1St); (try dsimp only); exact wkl)); (focus ((unfold rr1St); (try dsimp only); exact wkh))
 ·rintro i ⟨h1, hI⟩
  refine c_turn (n' := 1) (fun _ h => h) (fun _ h => h) rfl ?_
  rcases hx : r[i]? with _ | x
  ·have hi : i = r.length := by have := List.getElem?_eq_none_iff.1 hx; omega
   repeat' (first | (refine no_implicit_lambda% (zH ?_)) | (refine no_implicit_lambda% (spl (fun hc => ?_) (fun hc => ?_)) <;> first | exact zG hc | skip) | (refine no_implicit_lambda% (ans ?_)) | (with_reducible first | exact zI | exact zJ))
   refine no_implicit_lambda% (e_ret (H' := []) (rest := _) rfl ⟨congrArg (fun z => AOut.ret (.v (.bool z))) ?_, rfl⟩ (.refl _) (LE0 rfl))
   rw [hrow, hI, hi, List.drop_length]; rfl
  ·have hi : i < r.length := (List.getElem?_eq_some_iff.1 hx).1
   have hix := cox hx
   have hps := prevN_succ hx
   rw [cols_at hx] at hI
   have hnm := rname_c x.n
   have hpx : decide ((i : Int) > 0) = true → 0 ≤ IntKind.i64.wrap ((i : Int) - 1) ∧ (r.map corow)[(IntKind.i64.wrap ((i : Int) - 1)).toNat]? = some (corow (r[i - 1]?.getD x)) ∧ (corow (r[i - 1]?.getD x)).length = 2 := fun h => by
    have h0 := of_decide_eq_true h
    rw [List.getElem?_eq_getElem (by omega : i - 1 < r.length)]
    exact coxp (by omega) (by omega) (List.getElem?_eq_getElem (by omega))
   have hy0 : 0 < i → prevN r i = some (r[i - 1]?.getD x).n := fun h => by
    unfold prevN
    rw [if_neg (by omega), List.getElem?_eq_getElem (by omega : i - 1 < r.length)]; rfl
   repeat' (first | ((with_reducible refine no_implicit_lambda% (zA ?_)); first | (refine no_implicit_lambda% (o_op rfl ?_)) | (refine no_implicit_lambda% (o_yes rfl rfl rfl ?_)) | (refine no_implicit_lambda% (o_no rfl rfl rfl (fun _ h => h) ?_)) | (refine no_implicit_lambda% (o_not rfl rfl rfl (fun _ h => h) ?_))) | ((with_reducible refine no_implicit_lambda% (is_opK ?_)); first | (refine no_implicit_lambda% (k_op' (fun _ h => h) ?_))) | ((with_reducible refine no_implicit_lambda% (zC ?_)); first | (refine no_implicit_lambda% (a_q1 rfl (fun _ h => h) ?_)) | (refine no_implicit_lambda% (a_box rfl (fun _ h => h) ?_)) | (refine no_implicit_lambda% (a_alloc rfl (fun _ h => h) ?_)) | (refine no_implicit_lambda% (a_storev rfl (fun _ h => h) ?_)) | (refine no_implicit_lambda% (a_store rfl (fun _ h => h) ?_)) | (refine no_implicit_lambda% (a_panic rfl rfl ?_))) | ((with_reducible refine no_implicit_lambda% (zC ?_)); first | (refine no_implicit_lambda% (a_append_tok rfl rfl rfl rfl rfl rfl rfl rfl rfl rfl rfl rfl rfl rfl (by first | rfl | (simp; done)) (fun _ h => h) (by (first | assumption | (intro row hr; simp only [List.mem_cons, List.not_mem_nil, or_false] at hr; rcases hr with rfl | rfl | rfl | rfl <;> rfl) | (intro row hr; simp at hr; done) | (intro row hr; simp only [List.mem_singleton] at hr; subst hr; rfl) | (intro row hr; obtain ⟨_, _, rfl⟩ := List.mem_map.1 hr; rfl))) (by (refine ⟨?_, ?_⟩ <;> (simp only [List.length_map, List.length_append, List.length_cons, List.length_nil]; omega))) ?_)) | (refine no_implicit_lambda% (a_append_full rfl rfl rfl rfl rfl rfl rfl rfl rfl rfl rfl rfl (by (first | assumption | (intro row hr; simp only [List.mem_cons, List.not_mem_nil, or_false] at hr; rcases hr with rfl | rfl | rfl | rfl <;> rfl) | (intro row hr; simp at hr; done) | (intro row hr; simp only [List.mem_singleton] at hr; subst hr; rfl) | (intro row hr; obtain ⟨_, _, rfl⟩ := List.mem_map.1 hr; rfl))) (by (first | assumption | (intro row hr; simp only [List.mem_cons, List.not_mem_nil, or_false] at hr; rcases hr with rfl | rfl | rfl | rfl <;> rfl) | (intro row hr; simp at hr; done) | (intro row hr; simp only [List.mem_singleton] at hr; subst hr; rfl) | (intro row hr; obtain ⟨_, _, rfl⟩ := List.mem_map.1 hr; rfl))) (by (refine ⟨?_, ?_⟩ <;> (simp only [List.length_map, List.length_append, List.length_cons, List.length_nil]; omega))) ?_))) | (first | (with_reducible refine no_implicit_lambda% (c_seq ?_)) | (with_reducible refine no_implicit_lambda% (c_region ?_)) | (with_reducible refine no_implicit_lambda% (c_ret ?_)) | (with_reducible refine no_implicit_lambda% (c_skip ?_)) | (with_reducible refine no_implicit_lambda% (c_block ?_)) | (with_reducible refine no_implicit_lambda% (c_exit ?_)) | (with_reducible refine no_implicit_lambda% (o_nil ?_)) | (with_reducible refine no_implicit_lambda% (k_seq ?_)) | (with_reducible refine no_implicit_lambda% (k_seq_ret ?_)) | (with_reducible refine no_implicit_lambda% (k_seq_exit ?_)) | (with_reducible refine no_implicit_lambda% (k_seq_pan ?_)) | (with_reducible refine no_implicit_lambda% (k_block ?_)) | (with_reducible refine no_implicit_lambda% (k_block_ret ?_)) | (with_reducible refine no_implicit_lambda% (k_block_pan ?_)) | ((with_reducible refine no_implicit_lambda% (is_blockx ?_)); first | (refine no_implicit_lambda% (k_block_here rfl ?_)) | (refine no_implicit_lambda% (k_block_on rfl ?_))) | (with_reducible refine no_implicit_lambda% (k_pan ?_)) | (with_reducible refine no_implicit_lambda% (k_opP ?_)) | (with_reducible refine no_implicit_lambda% (k_loop_ret ?_)) | (with_reducible refine no_implicit_lambda% (k_loop_exit ?_)) | (with_reducible refine no_implicit_lambda% (k_loop_pan ?_)) | (with_reducible refine no_implicit_lambda% (e_end ?_))) | (((with_reducible refine no_implicit_lambda% (zB ?_)); first | (refine no_implicit_lambda% (c_true rfl ?_)) | (refine no_implicit_lambda% (c_false rfl ?_)))) | ((with_reducible refine no_implicit_lambda% (zC ?_)); refine no_implicit_lambda% (a_qS rfl (qIx (fun _ h => h)) (by first | assumption | exact hpx (by assumption) | exact hpy (by assumption)) ?_)) | (refine no_implicit_lambda% (spl (fun hc => ?_) (fun hc => ?_)) <;> first | exact zG hc | skip) | (refine no_implicit_lambda% (ans ?_)) | (with_reducible first | exact zI | exact zJ))
   refine c_cutR (rraSt r i x) (fun b => b = !(nmB x.n && ltN (prevN r i) x.n && decide (1 ≤ x.l.length ∧ x.l.length ≤ 2))) ?_ ?_
   rotate_left
   ·intro Kx kN kP kR kE
    repeat' (first | (refine no_implicit_lambda% (zH ?_)) | (refine no_implicit_lambda% (splv (fun hc => ?_) (fun hc => ?_)) <;> first | exact zG hc | skip) | (refine no_implicit_lambda% (ans ?_)) | (with_reducible first | exact zI | exact zJ) | (refine no_implicit_lambda% (cal [] (hnm) ?_ ?_)) | fail)
    ·have hn : nmB x.n = false := by simpa using hc
     refine kN true _ _ _ (by simp [hn]) (.inl ?_)
     (refine no_implicit_lambda% (Conv.toT ?_ ?_ (LE0 rfl))); (focus ((unfold rraSt); (try dsimp only); exact wkl)); (focus ((unfold rraSt); (try dsimp only); exact wkh))
    ·skip
     have h0 : 0 < i := by
      simp only [decide_eq_true_eq] at *
      omega
     have hlt : ltN (prevN r i) x.n = false := by
      rw [hy0 h0]
      have : sLt (r[i - 1]?.getD x).n x.n = false := by simpa [sLt] using hc
      exact this
     refine kN true _ _ _ (by simp [hlt]) (.inl ?_)
     (refine no_implicit_lambda% (Conv.toT ?_ ?_ (LE0 rfl))); (focus ((unfold rraSt); (try dsimp only); exact wkl)); (focus ((unfold rraSt); (try dsimp only); exact wkh))
    ·skip
     have hl : ¬ (1 ≤ x.l.length ∧ x.l.length ≤ 2) := by
      simp only [decide_eq_true_eq, List.length_map] at hc
      omega
     refine kN true _ _ _ (by rw [decide_eq_false hl]; simp) (.inl ?_)
     (refine no_implicit_lambda% (Conv.toT ?_ ?_ (LE0 rfl))); (focus ((unfold rraSt); (try dsimp only); exact wkl)); (focus ((unfold rraSt); (try dsimp only); exact wkh))
    ·skip
     have h0 : 0 < i := by
      simp only [decide_eq_true_eq] at *
      omega
     have hM : ltN (prevN r i) x.n = true := by
      rw [hy0 h0]
      have hlt : sLt (r[i - 1]?.getD x).n x.n = true := by
       simp only [Bool.not_eq_false'] at *
       assumption
      exact hlt
     have hn : nmB x.n = true := by simp only [Bool.not_eq_false'] at *; assumption
     refine kN (decide (((x.l.map verow).length : Int) > 2)) _ _ _ ?_ (.inl ?_)
     ·rw [hn, hM, Bool.true_and, Bool.true_and]
      have hl : ¬ ((x.l.map verow).length : Int) < 1 := of_decide_eq_false hc
      rw [List.length_map] at hl ⊢
      refine Bool.eq_iff_iff.2 ?_
      simp only [decide_eq_true_eq, Bool.not_eq_true', decide_eq_false_iff_not]
      omega
     ·(refine no_implicit_lambda% (Conv.toT ?_ ?_ (LE0 rfl))); (focus ((unfold rraSt); (try dsimp only); exact wkl)); (focus ((unfold rraSt); (try dsimp only); exact wkh))
    ·skip
     have hl : ¬ (1 ≤ x.l.length ∧ x.l.length ≤ 2) := by
      simp only [decide_eq_true_eq, List.length_map] at hc
      omega
     refine kN true _ _ _ (by rw [decide_eq_false hl]; simp) (.inl ?_)
     (refine no_implicit_lambda% (Conv.toT ?_ ?_ (LE0 rfl))); (focus ((unfold rraSt); (try dsimp only); exact wkl)); (focus ((unfold rraSt); (try dsimp only); exact wkh))
    ·skip
     have h0 : i = 0 := by
      simp only [decide_eq_false_iff_not] at *
      omega
     have hM : ltN (prevN r i) x.n = true := by
      have hpy : prevN r i = none := by unfold prevN; rw [if_pos h0]
      rw [hpy]; rfl
     have hn : nmB x.n = true := by simp only [Bool.not_eq_false'] at *; assumption
     refine kN (decide (((x.l.map verow).length : Int) > 2)) _ _ _ ?_ (.inl ?_)
     ·rw [hn, hM, Bool.true_and, Bool.true_and]
      have hl : ¬ ((x.l.map verow).length : Int) < 1 := of_decide_eq_false hc
      rw [List.length_map] at hl ⊢
      refine Bool.eq_iff_iff.2 ?_
      simp only [decide_eq_true_eq, Bool.not_eq_true', decide_eq_false_iff_not]
      omega
     ·(refine no_implicit_lambda% (Conv.toT ?_ ?_ (LE0 rfl))); (focus ((unfold rraSt); (try dsimp only); exact wkl)); (focus ((unfold rraSt); (try dsimp only); exact wkh))
   ·intro b hb
    refine c_turn (n' := 2) (fun _ h => h) (fun _ h => h) rfl ?_
    rcases b with _ | _
    rotate_left
    ·repeat' (first | (refine no_implicit_lambda% (zH ?_)) | (refine no_implicit_lambda% (spl (fun hc => ?_) (fun hc => ?_)) <;> first | exact zG hc | skip) | (refine no_implicit_lambda% (ans ?_)) | (with_reducible first | exact zI | exact zJ))
     refine no_implicit_lambda% (e_ret (H' := []) (rest := _) rfl ⟨congrArg (fun z => AOut.ret (.v (.bool z))) ?_, rfl⟩ (.refl _) (LE0 rfl))
     rw [hrow, hI]
     unfold colB
     revert hb
     cases nmB x.n <;> cases ltN (prevN r i) x.n <;> cases decide (1 ≤ x.l.length ∧ x.l.length ≤ 2) <;> simp
    have hM : ltN (prevN r i) x.n = true := by
     revert hb
     cases nmB x.n <;> cases ltN (prevN r i) x.n <;> cases decide (1 ≤ x.l.length ∧ x.l.length ≤ 2) <;> simp
    have hn : nmB x.n = true := by
     revert hb
     cases nmB x.n <;> cases ltN (prevN r i) x.n <;> cases decide (1 ≤ x.l.length ∧ x.l.length ≤ 2) <;> simp
    have hl : 1 ≤ x.l.length ∧ x.l.length ≤ 2 := by
     refine of_decide_eq_true ?_
     revert hb
     cases nmB x.n <;> cases ltN (prevN r i) x.n <;> cases decide (1 ≤ x.l.length ∧ x.l.length ≤ 2) <;> simp
    have hcx : colB x = versB none x.l := by unfold colB; rw [hn, decide_eq_true hl]; simp
    have hrv := fun v => (refRight_c v : ACalls Tryz.prog 133 0 10 [vav v] [] (fun out H' => out = .ret (.v (.bool (vRt v))) ∧ H' = []))
    repeat' (first | ((with_reducible refine no_implicit_lambda% (zA ?_)); first | (refine no_implicit_lambda% (o_op rfl ?_)) | (refine no_implicit_lambda% (o_yes rfl rfl rfl ?_)) | (refine no_implicit_lambda% (o_no rfl rfl rfl (fun _ h => h) ?_)) | (refine no_implicit_lambda% (o_not rfl rfl rfl (fun _ h => h) ?_))) | ((with_reducible refine no_implicit_lambda% (is_opK ?_)); first | (refine no_implicit_lambda% (k_op' (fun _ h => h) ?_))) | ((with_reducible refine no_implicit_lambda% (zC ?_)); first | (refine no_implicit_lambda% (a_q1 rfl (fun _ h => h) ?_)) | (refine no_implicit_lambda% (a_box rfl (fun _ h => h) ?_)) | (refine no_implicit_lambda% (a_alloc rfl (fun _ h => h) ?_)) | (refine no_implicit_lambda% (a_storev rfl (fun _ h => h) ?_)) | (refine no_implicit_lambda% (a_store rfl (fun _ h => h) ?_)) | (refine no_implicit_lambda% (a_panic rfl rfl ?_))) | ((with_reducible refine no_implicit_lambda% (zC ?_)); first | (refine no_implicit_lambda% (a_append_tok rfl rfl rfl rfl rfl rfl rfl rfl rfl rfl rfl rfl rfl rfl (by first | rfl | (simp; done)) (fun _ h => h) (by (first | assumption | (intro row hr; simp only [List.mem_cons, List.not_mem_nil, or_false] at hr; rcases hr with rfl | rfl | rfl | rfl <;> rfl) | (intro row hr; simp at hr; done) | (intro row hr; simp only [List.mem_singleton] at hr; subst hr; rfl) | (intro row hr; obtain ⟨_, _, rfl⟩ := List.mem_map.1 hr; rfl))) (by (refine ⟨?_, ?_⟩ <;> (simp only [List.length_map, List.length_append, List.length_cons, List.length_nil]; omega))) ?_)) | (refine no_implicit_lambda% (a_append_full rfl rfl rfl rfl rfl rfl rfl rfl rfl rfl rfl rfl (by (first | assumption | (intro row hr; simp only [List.mem_cons, List.not_mem_nil, or_false] at hr; rcases hr with rfl | rfl | rfl | rfl <;> rfl) | (intro row hr; simp at hr; done) | (intro row hr; simp only [List.mem_singleton] at hr; subst hr; rfl) | (intro row hr; obtain ⟨_, _, rfl⟩ := List.mem_map.1 hr; rfl))) (by (first | assumption | (intro row hr; simp only [List.mem_cons, List.not_mem_nil, or_false] at hr; rcases hr with rfl | rfl | rfl | rfl <;> rfl) | (intro row hr; simp at hr; done) | (intro row hr; simp only [List.mem_singleton] at hr; subst hr; rfl) | (intro row hr; obtain ⟨_, _, rfl⟩ := List.mem_map.1 hr; rfl))) (by (refine ⟨?_, ?_⟩ <;> (simp only [List.length_map, List.length_append, List.length_cons, List.length_nil]; omega))) ?_))) | (first | (with_reducible refine no_implicit_lambda% (c_seq ?_)) | (with_reducible refine no_implicit_lambda% (c_region ?_)) | (with_reducible refine no_implicit_lambda% (c_ret ?_)) | (with_reducible refine no_implicit_lambda% (c_skip ?_)) | (with_reducible refine no_implicit_lambda% (c_block ?_)) | (with_reducible refine no_implicit_lambda% (c_exit ?_)) | (with_reducible refine no_implicit_lambda% (o_nil ?_)) | (with_reducible refine no_implicit_lambda% (k_seq ?_)) | (with_reducible refine no_implicit_lambda% (k_seq_ret ?_)) | (with_reducible refine no_implicit_lambda% (k_seq_exit ?_)) | (with_reducible refine no_implicit_lambda% (k_seq_pan ?_)) | (with_reducible refine no_implicit_lambda% (k_block ?_)) | (with_reducible refine no_implicit_lambda% (k_block_ret ?_)) | (with_reducible refine no_implicit_lambda% (k_block_pan ?_)) | ((with_reducible refine no_implicit_lambda% (is_blockx ?_)); first | (refine no_implicit_lambda% (k_block_here rfl ?_)) | (refine no_implicit_lambda% (k_block_on rfl ?_))) | (with_reducible refine no_implicit_lambda% (k_pan ?_)) | (with_reducible refine no_implicit_lambda% (k_opP ?_)) | (with_reducible refine no_implicit_lambda% (k_loop_ret ?_)) | (with_reducible refine no_implicit_lambda% (k_loop_exit ?_)) | (with_reducible refine no_implicit_lambda% (k_loop_pan ?_)) | (with_reducible refine no_implicit_lambda% (e_end ?_))) | (((with_reducible refine no_implicit_lambda% (zB ?_)); first | (refine no_implicit_lambda% (c_true rfl ?_)) | (refine no_implicit_lambda% (c_false rfl ?_)))) | ((with_reducible refine no_implicit_lambda% (zC ?_)); refine no_implicit_lambda% (a_qS rfl (qIx (fun _ h => h)) (by first | assumption | exact hpx (by assumption) | exact hpy (by assumption)) ?_)) | (refine no_implicit_lambda% (spl (fun hc => ?_) (fun hc => ?_)) <;> first | exact zG hc | skip) | (refine no_implicit_lambda% (ans ?_)) | (with_reducible first | exact zI | exact zJ))
    refine c_loop' (rr2St r i x) (fun k => k ≤ x.l.length ∧ versB none x.l = versB (prevT x.l k) (x.l.drop k)) (fun k => x.l.length - k) (a := 0) ⟨Nat.zero_le _, rfl⟩ ?_ ?_
    ·(refine no_implicit_lambda% (Conv.toT ?_ ?_ (LE0 rfl))); (focus ((unfold rr2St); (try dsimp only); exact wkl)); (focus ((unfold rr2St); (try dsimp only); exact wkh))
    ·rintro k ⟨k1, hJ⟩
     refine c_turn (n' := 2) (fun _ h => h) (fun _ h => h) rfl ?_
     rcases hy : x.l[k]? with _ | y
     ·have hk : k = x.l.length := by have := List.getElem?_eq_none_iff.1 hy; omega
      repeat' (first | (refine no_implicit_lambda% (zH ?_)) | (refine no_implicit_lambda% (spl (fun hc => ?_) (fun hc => ?_)) <;> first | exact zG hc | skip) | (refine no_implicit_lambda% (ans ?_)) | (with_reducible first | exact zI | exact zJ))
      have hct : colB x = true := by rw [hcx, hJ, hk, List.drop_length]; rfl
      (refine no_implicit_lambda% (k_loopLT (i + 1) 0 [0] (by show i + 1 ≤ r.length ∧ colsB none r = colsB (prevN r (i + 1)) (r.drop (i + 1)); exact ⟨hi, by rw [hps, hI, hM, hct]; simp⟩) (by first | omega | (simp; done) | (simp; omega)) (LE0 rfl) (fun _ h => h) (fun _ h => h) ?_ ?_)); (focus ((try dsimp only); exact wkl)); (focus ((try dsimp only); exact wkh))
     ·have hk : k < x.l.length := (List.getElem?_eq_some_iff.1 hy).1
      have hiy := vex hy
      have hpt := prevT_succ hy
      rw [vers_at hy] at hJ
      have hpy : decide ((k : Int) > 0) = true → 0 ≤ IntKind.i64.wrap ((k : Int) - 1) ∧ (x.l.map verow)[(IntKind.i64.wrap ((k : Int) - 1)).toNat]? = some (verow (x.l[k - 1]?.getD y)) ∧ (verow (x.l[k - 1]?.getD y)).length = 4 := fun h => by
       have h0 := of_decide_eq_true h
       rw [List.getElem?_eq_getElem (by omega : k - 1 < x.l.length)]
       exact vexp (by omega) (by omega) (List.getElem?_eq_getElem (by omega))
      have hvr := hrv y.v
      repeat' (first | ((with_reducible refine no_implicit_lambda% (zA ?_)); first | (refine no_implicit_lambda% (o_op rfl ?_)) | (refine no_implicit_lambda% (o_yes rfl rfl rfl ?_)) | (refine no_implicit_lambda% (o_no rfl rfl rfl (fun _ h => h) ?_)) | (refine no_implicit_lambda% (o_not rfl rfl rfl (fun _ h => h) ?_))) | ((with_reducible refine no_implicit_lambda% (is_opK ?_)); first | (refine no_implicit_lambda% (k_op' (fun _ h => h) ?_))) | ((with_reducible refine no_implicit_lambda% (zC ?_)); first | (refine no_implicit_lambda% (a_q1 rfl (fun _ h => h) ?_)) | (refine no_implicit_lambda% (a_box rfl (fun _ h => h) ?_)) | (refine no_implicit_lambda% (a_alloc rfl (fun _ h => h) ?_)) | (refine no_implicit_lambda% (a_storev rfl (fun _ h => h) ?_)) | (refine no_implicit_lambda% (a_store rfl (fun _ h => h) ?_)) | (refine no_implicit_lambda% (a_panic rfl rfl ?_))) | ((with_reducible refine no_implicit_lambda% (zC ?_)); first | (refine no_implicit_lambda% (a_append_tok rfl rfl rfl rfl rfl rfl rfl rfl rfl rfl rfl rfl rfl rfl (by first | rfl | (simp; done)) (fun _ h => h) (by (first | assumption | (intro row hr; simp only [List.mem_cons, List.not_mem_nil, or_false] at hr; rcases hr with rfl | rfl | rfl | rfl <;> rfl) | (intro row hr; simp at hr; done) | (intro row hr; simp only [List.mem_singleton] at hr; subst hr; rfl) | (intro row hr; obtain ⟨_, _, rfl⟩ := List.mem_map.1 hr; rfl))) (by (refine ⟨?_, ?_⟩ <;> (simp only [List.length_map, List.length_append, List.length_cons, List.length_nil]; omega))) ?_)) | (refine no_implicit_lambda% (a_append_full rfl rfl rfl rfl rfl rfl rfl rfl rfl rfl rfl rfl (by (first | assumption | (intro row hr; simp only [List.mem_cons, List.not_mem_nil, or_false] at hr; rcases hr with rfl | rfl | rfl | rfl <;> rfl) | (intro row hr; simp at hr; done) | (intro row hr; simp only [List.mem_singleton] at hr; subst hr; rfl) | (intro row hr; obtain ⟨_, _, rfl⟩ := List.mem_map.1 hr; rfl))) (by (first | assumption | (intro row hr; simp only [List.mem_cons, List.not_mem_nil, or_false] at hr; rcases hr with rfl | rfl | rfl | rfl <;> rfl) | (intro row hr; simp at hr; done) | (intro row hr; simp only [List.mem_singleton] at hr; subst hr; rfl) | (intro row hr; obtain ⟨_, _, rfl⟩ := List.mem_map.1 hr; rfl))) (by (refine ⟨?_, ?_⟩ <;> (simp only [List.length_map, List.length_append, List.length_cons, List.length_nil]; omega))) ?_))) | (first | (with_reducible refine no_implicit_lambda% (c_seq ?_)) | (with_reducible refine no_implicit_lambda% (c_region ?_)) | (with_reducible refine no_implicit_lambda% (c_ret ?_)) | (with_reducible refine no_implicit_lambda% (c_skip ?_)) | (with_reducible refine no_implicit_lambda% (c_block ?_)) | (with_reducible refine no_implicit_lambda% (c_exit ?_)) | (with_reducible refine no_implicit_lambda% (o_nil ?_)) | (with_reducible refine no_implicit_lambda% (k_seq ?_)) | (with_reducible refine no_implicit_lambda% (k_seq_ret ?_)) | (with_reducible refine no_implicit_lambda% (k_seq_exit ?_)) | (with_reducible refine no_implicit_lambda% (k_seq_pan ?_)) | (with_reducible refine no_implicit_lambda% (k_block ?_)) | (with_reducible refine no_implicit_lambda% (k_block_ret ?_)) | (with_reducible refine no_implicit_lambda% (k_block_pan ?_)) | ((with_reducible refine no_implicit_lambda% (is_blockx ?_)); first | (refine no_implicit_lambda% (k_block_here rfl ?_)) | (refine no_implicit_lambda% (k_block_on rfl ?_))) | (with_reducible refine no_implicit_lambda% (k_pan ?_)) | (with_reducible refine no_implicit_lambda% (k_opP ?_)) | (with_reducible refine no_implicit_lambda% (k_loop_ret ?_)) | (with_reducible refine no_implicit_lambda% (k_loop_exit ?_)) | (with_reducible refine no_implicit_lambda% (k_loop_pan ?_)) | (with_reducible refine no_implicit_lambda% (e_end ?_))) | (((with_reducible refine no_implicit_lambda% (zB ?_)); first | (refine no_implicit_lambda% (c_true rfl ?_)) | (refine no_implicit_lambda% (c_false rfl ?_)))) | ((with_reducible refine no_implicit_lambda% (zC ?_)); refine no_implicit_lambda% (a_qS rfl (qIx (fun _ h => h)) (by first | assumption | exact hpx (by assumption) | exact hpy (by assumption)) ?_)) | (refine no_implicit_lambda% (spl (fun hc => ?_) (fun hc => ?_)) <;> first | exact zG hc | skip) | (refine no_implicit_lambda% (ans ?_)) | (with_reducible first | exact zI | exact zJ))
      refine c_cutR (rrbSt r i x k) (fun b => b = !(tmOk y.t && vRt y.v && ltT (prevT x.l k) y.t)) ?_ ?_
      ·intro b hb
       refine c_turn (n' := 12) (fun _ h => h) (fun _ h => h) rfl ?_
       rcases b with _ | _
       ·repeat' (first | (refine no_implicit_lambda% (zH ?_)) | (refine no_implicit_lambda% (spl (fun hc => ?_) (fun hc => ?_)) <;> first | exact zG hc | skip) | (refine no_implicit_lambda% (ans ?_)) | (with_reducible first | exact zI | exact zJ))
        have h1 : tmOk y.t = true := by
         revert hb
         cases tmOk y.t <;> cases vRt y.v <;> cases ltT (prevT x.l k) y.t <;> simp
        have h2 : vRt y.v = true := by
         revert hb
         cases tmOk y.t <;> cases vRt y.v <;> cases ltT (prevT x.l k) y.t <;> simp
        have h3 : ltT (prevT x.l k) y.t = true := by
         revert hb
         cases tmOk y.t <;> cases vRt y.v <;> cases ltT (prevT x.l k) y.t <;> simp
        (refine no_implicit_lambda% (k_loopLT (k + 1) 0 [0, 1] (by show k + 1 ≤ x.l.length ∧ versB none x.l = versB (prevT x.l (k + 1)) (x.l.drop (k + 1)); exact ⟨hk, by rw [hpt, hJ, h1, h2, h3]; simp⟩) (by first | omega | (simp; done) | (simp; omega)) (LE0 rfl) (fun _ h => h) (fun _ h => h) ?_ ?_)); (focus ((try dsimp only); exact wkl)); (focus ((try dsimp only); exact wkh))
       ·repeat' (first | (refine no_implicit_lambda% (zH ?_)) | (refine no_implicit_lambda% (spl (fun hc => ?_) (fun hc => ?_)) <;> first | exact zG hc | skip) | (refine no_implicit_lambda% (ans ?_)) | (with_reducible first | exact zI | exact zJ))
        refine no_implicit_lambda% (e_ret (H' := []) (rest := _) rfl ⟨congrArg (fun z => AOut.ret (.v (.bool z))) ?_, rfl⟩ (.refl _) (LE0 rfl))
        rw [hrow, hI, hcx, hJ]
        revert hb
        cases tmOk y.t <;> cases vRt y.v <;> cases ltT (prevT x.l k) y.t <;> simp
      ·intro Kx kN kP kR kE
       have hz0 : 0 < k → ltT (prevT x.l k) y.t = decide (y.t < (x.l[k - 1]?.getD y).t) := fun h => by
        unfold prevT
        rw [if_neg (by omega), List.getElem?_eq_getElem (by omega : k - 1 < x.l.length)]; rfl
       repeat' (first | (refine no_implicit_lambda% (zH ?_)) | (refine no_implicit_lambda% (splv (fun hc => ?_) (fun hc => ?_)) <;> first | exact zG hc | skip) | (refine no_implicit_lambda% (ans ?_)) | (with_reducible first | exact zI | exact zJ) | (refine no_implicit_lambda% (cal [] (hvr) ?_ ?_)) | fail)
       ·have h1 : tmOk y.t = false := decide_eq_false (by have := of_decide_eq_true hc; omega)
        refine kN true _ _ _ (by simp [h1]) (.inl ?_)
        (refine no_implicit_lambda% (Conv.toT ?_ ?_ (LE0 rfl))); (focus ((unfold rrbSt); (try dsimp only); exact wkl)); (focus ((unfold rrbSt); (try dsimp only); exact wkh))
       ·have h1 : tmOk y.t = false := decide_eq_false (by have := of_decide_eq_true hc; omega)
        refine kN true _ _ _ (by simp [h1]) (.inl ?_)
        (refine no_implicit_lambda% (Conv.toT ?_ ?_ (LE0 rfl))); (focus ((unfold rrbSt); (try dsimp only); exact wkl)); (focus ((unfold rrbSt); (try dsimp only); exact wkh))
       ·have h0 : 0 < k := by
         simp only [decide_eq_true_eq] at *
         omega
        have h3 : ltT (prevT x.l k) y.t = false := by
         rw [hz0 h0]
         exact decide_eq_false (by have := of_decide_eq_true hc; omega)
        refine kN true _ _ _ (by simp [h3]) (.inl ?_)
        (refine no_implicit_lambda% (Conv.toT ?_ ?_ (LE0 rfl))); (focus ((unfold rrbSt); (try dsimp only); exact wkl)); (focus ((unfold rrbSt); (try dsimp only); exact wkh))
       ·have h0 : 0 < k := by
         simp only [decide_eq_true_eq] at *
         omega
        have h1 : tmOk y.t = true := decide_eq_true (by simp only [decide_eq_false_iff_not] at *; omega)
        have h3 : ltT (prevT x.l k) y.t = true := by
         rw [hz0 h0]
         exact decide_eq_true (by have := of_decide_eq_false hc; omega)
        refine kN (!(vRt y.v)) _ _ _ (by simp [h1, h3]) (.inl ?_)
        (refine no_implicit_lambda% (Conv.toT ?_ ?_ (LE0 rfl))); (focus ((unfold rrbSt); (try dsimp only); exact wkl)); (focus ((unfold rrbSt); (try dsimp only); exact wkh))
       ·have h0 : k = 0 := by
         have := of_decide_eq_false hc
         omega
        have h1 : tmOk y.t = true := decide_eq_true (by simp only [decide_eq_false_iff_not] at *; omega)
        have h3 : ltT (prevT x.l k) y.t = true := by
         unfold prevT
         rw [if_pos h0]; rfl
        refine kN (!(vRt y.v)) _ _ _ (by simp [h1, h3]) (.inl ?_)
        (refine no_implicit_lambda% (Conv.toT ?_ ?_ (LE0 rfl))); (focus ((unfold rrbSt); (try dsimp only); exact wkl)); (focus ((unfold rrbSt); (try dsimp only); exact wkh))
end Go.Proofs.YtncffhgoopdfgaaGreat
namespace Go.Proofs.YtncffhgoopdfgaaGreat
open Go.Am
set_option maxRecDepth 100000
def qcSt (r o : List Co) (cp i : Nat) : ASt := ⟨([.dead, .ptr 0 0, .ptr 1 0, .ptr 2 0, .v (.int .i64 i)] ++ List.replicate 66 .dead), [(0, .box [.list (r.map corow) .free]), (1, .box [.list [] .full]), (2, .box [.arr 3 0 i cp]), (3, .seq (o.map corow) ((cp - i) * 2))], 4⟩
def qdSt (r o : List Co) (cp i : Nat) (c : Co) (vs : List Ve) (k : Nat) : ASt := ⟨([.dead, .ptr 0 0, .ptr 1 0, .ptr 2 0, .v (.int .i64 i), .ptr 4 0, .v (.int .i64 k)] ++ List.replicate 64 .dead), [(4, .box [.v (.string c.n), .list (vs.map verow) (.tok 5)]), (5, .tok 4 vs.length), (0, .box [.list (r.map corow) .free]), (1, .box [.list [] .full]), (2, .box [.arr 3 0 i cp]), (3, .seq (o.map corow) ((cp - i) * 2))], 6⟩
set_option maxHeartbeats 3200000 in
theorem qcopy_s (r : List Co) (hr : r.length < 70368744177664) (hs : RowSz r) : ACalls Tryz.prog 60 0 5000 [rowA r] [] (fun out H' => ∃ id cp, id < 5000 ∧ (copyR r).length ≤ cp ∧ cp ≤ maxLen ∧ out = .ret (.agg [.arr id 0 (copyR r).length cp]) ∧ H' = [(id, .seq ((copyR r).map corow) ((cp - (copyR r).length) * 2))]) := by
 have hrt := (rright_c r hr).top0
 refine no_implicit_lambda% (acalls_of tok dok (f := 60) ⟨Tryz.func60, rfl, by kernel_rfl⟩ ?_); refine no_implicit_lambda% (c_start (fun _ h => h) ?_)
 repeat' (first | (refine no_implicit_lambda% (zH ?_)) | (refine no_implicit_lambda% (spl (fun hc => ?_) (fun hc => ?_)) <;> first | exact zG hc | skip) | (refine no_implicit_lambda% (ans ?_)) | (with_reducible first | exact zI | exact zJ) | (refine no_implicit_lambda% (cal [] (hrt) ?_ ?_)) | fail)
 ·have hf : rowB r = false := by simpa using hc
  have he : copyR r = [] := by unfold copyR; rw [hf]; rfl
  rw [he]
  exact e_ret_to (H' := [(3, .seq [] 0)]) (rest := _) (Conv.nilBox (id := 1) (j := 0) (cells := [.list [] .full]) rfl rfl) rfl ⟨3, 0, by omega, Nat.le_refl _, by decide, rfl, rfl⟩ permT (LE0 rfl)
 ·have ht : rowB r = true := by simpa using hc
  have he : copyR r = r.map canC := by unfold copyR; rw [ht]; rfl
  have h4 : r.length ≤ 4 := by
   unfold rowB at ht
   simp only [Bool.and_eq_true, decide_eq_true_eq] at ht
   exact ht.2
  rw [he]
  refine c_l3 (qcSt r) (fun o cp i => i ≤ r.length ∧ i ≤ cp ∧ cp ≤ maxLen ∧ o = (r.take i).map canC) (fun _ _ i => r.length - i) [] 0 0 ⟨Nat.zero_le _, Nat.le_refl _, by decide, rfl⟩ ((Conv.nilBox (id := 2) (j := 0) (cells := [.list [] .full]) rfl rfl).trans ?_) ?_
  ·(refine no_implicit_lambda% (Conv.toT ?_ ?_ (LE0 rfl))); (focus ((unfold qcSt); (try dsimp only); exact wkl)); (focus ((unfold qcSt); (try dsimp only); exact wkh))
  ·rintro o cp i ⟨h1, h2, h3, ho⟩
   have hol : o.length = i := by rw [ho, List.length_map, List.length_take]; omega
   refine c_turn (n' := 4) (fun _ h => h) (fun _ h => h) rfl ?_
   rcases hx : r[i]? with _ | x
   ·have hi : i = r.length := by have := List.getElem?_eq_none_iff.1 hx; omega
    subst hi
    rw [List.take_length] at ho
    subst ho
    repeat' (first | (refine no_implicit_lambda% (zH ?_)) | (refine no_implicit_lambda% (spl (fun hc => ?_) (fun hc => ?_)) <;> first | exact zG hc | skip) | (refine no_implicit_lambda% (ans ?_)) | (with_reducible first | exact zI | exact zJ))
    have e : (r.map canC).length = r.length := List.length_map ..
    exact e_ret (H' := [(3, .seq ((r.map canC).map corow) ((cp - r.length) * 2))]) (rest := _) rfl ⟨3, cp, by omega, by omega, h3, (by rw [e]; rfl), by rw [e]⟩ permT (LE0 rfl)
   ·have hi : i < r.length := (List.getElem?_eq_some_iff.1 hx).1
    have hix := cox hx
    have hsx := hs x (List.mem_of_getElem? hx)
    have hts : r.take (i + 1) = r.take i ++ [x] := by rw [List.take_add_one, hx]; rfl
    have hxl := col_len (row_mem ht (List.mem_of_getElem? hx))
    repeat' (first | (refine no_implicit_lambda% (zH ?_)) | (refine no_implicit_lambda% (spl (fun hc => ?_) (fun hc => ?_)) <;> first | exact zG hc | skip) | (refine no_implicit_lambda% (ans ?_)) | (with_reducible first | exact zI | exact zJ))
    refine c_loop2 (qdSt r o cp i x) (fun vs k => k ≤ x.l.length ∧ vs = (x.l.take k).map canE) (fun _ k => x.l.length - k) [] 0 ⟨Nat.zero_le _, rfl⟩ ((Conv.tokBox (id := 4) (j := 1) (sz := 4) (rows := []) rfl rfl (by simp)).trans ?_) ?_
    ·(refine no_implicit_lambda% (Conv.toT ?_ ?_ (LE0 rfl))); (focus ((unfold qdSt); (try dsimp only); exact wkl)); (focus ((unfold qdSt); (try dsimp only); exact wkh))
    ·rintro vs k ⟨k1, hv⟩
     have hvl : vs.length = k := by rw [hv, List.length_map, List.length_take]; omega
     refine c_turn (n' := 6) (fun _ h => h) (fun _ h => h) rfl ?_
     rcases hy : x.l[k]? with _ | y
     ·have hk : k = x.l.length := by have := List.getElem?_eq_none_iff.1 hy; omega
      rw [hk, List.take_length] at hv
      repeat' (first | (refine no_implicit_lambda% (zH ?_)) | (refine no_implicit_lambda% (spl (fun hc => ?_) (fun hc => ?_)) <;> first | exact zG hc | skip) | (refine no_implicit_lambda% (ans ?_)) | (with_reducible first | exact zI | exact zJ))
      subst hv
      ((with_reducible refine no_implicit_lambda% (zC ?_)); refine no_implicit_lambda% (a_appS (sz := 2) (B := 40) (m2 := i + 1) (rows3 := (o ++ [canC x]).map corow) rfl rfl rfl rfl rfl rfl rfl rfl rfl rfl rfl (fun _ h => h) rfl rfl (coOk o) (coOk [canC x]) (by first | rfl | (exact List.length_map ..) | (simp; done) | (simp; omega)) rfl (by first | omega | (simp; omega)) (by first | rfl | (simp; done) | (simp; omega)) (by first | rfl | (exact map_snoc _ _) | (rw [List.map_append]; rfl) | (simp; done)) ?_))
      intro cp' c1 c2
      refine no_implicit_lambda% (akc ?_)
      repeat' (first | (refine no_implicit_lambda% (zH ?_)) | (refine no_implicit_lambda% (spl (fun hc => ?_) (fun hc => ?_)) <;> first | exact zG hc | skip) | (refine no_implicit_lambda% (ans ?_)) | (with_reducible first | exact zI | exact zJ))
      (refine no_implicit_lambda% (k_loopLT (((o ++ [canC x], cp', i + 1) : List Co × Nat × Nat)) 0 [0, 1, 2, 6] (by show i + 1 ≤ r.length ∧ i + 1 ≤ cp' ∧ cp' ≤ maxLen ∧ o ++ [canC x] = (r.take (i + 1)).map canC; exact ⟨hi, c1, c2, by rw [hts, List.map_append, ← ho]; rfl⟩) (by first | omega | (simp; done) | (simp; omega)) (LE0 rfl) (fun _ h => h) (fun _ h => h) ?_ ?_)); (focus ((try dsimp only); exact wkl)); (focus ((try dsimp only); exact wkh))
     ·have hk : k < x.l.length := (List.getElem?_eq_some_iff.1 hy).1
      have hiy := vex hy
      have hsy := hsx y (List.mem_of_getElem? hy)
      have hcn := refCanon_c y.v (by omega) (by omega)
      have hty : x.l.take (k + 1) = x.l.take k ++ [y] := by rw [List.take_add_one, hy]; rfl
      repeat' (first | (refine no_implicit_lambda% (zH ?_)) | (refine no_implicit_lambda% (splv (fun hc => ?_) (fun hc => ?_)) <;> first | exact zG hc | skip) | (refine no_implicit_lambda% (ans ?_)) | (with_reducible first | exact zI | exact zJ) | (refine no_implicit_lambda% (cal [] (hcn) ?_ ?_)) | fail)
      (refine no_implicit_lambda% (k_loopLT (((vs ++ [canE y], k + 1) : List Ve × Nat)) 0 (List.range 6) (by show k + 1 ≤ x.l.length ∧ vs ++ [canE y] = (x.l.take (k + 1)).map canE; exact ⟨hk, by rw [hty, List.map_append, ← hv]; rfl⟩) (by first | omega | (simp; done) | (simp; omega)) (LE0 rfl) (fun _ h => h) (fun _ h => h) ?_ ?_)); (focus ((try dsimp only); exact wkl)); (focus ((try dsimp only); exact wkh))
theorem qcopy_f (r : List Co) (hr : r.length < 70368744177664) (hs : RowSz r) : ACalls Tryz.prog 60 0 0 [rowA r] [] (fun out H' => out = .ret (rowA (copyR r)) ∧ H' = []) :=
 ((qcopy_s r hr hs).conv (M := 5000) (R2 := fun out H' => out = .ret (rowA (copyR r)) ∧ H' = []) (Nat.zero_le _) (Nat.le_refl _) (fun x H' hh => by
  obtain ⟨id, cp, _, h1, h2, h3, rfl⟩ := hh
  cases h3
  exact ⟨rowA (copyR r), [], 5000, Nat.le_refl _, (Conv.freezeA (coOk _) (by simp)).toN 0, (fun rows h => by cases h), rfl, rfl⟩) (fun x H' hh => by
  obtain ⟨_, _, _, _, _, h', _⟩ := hh
  cases h')).ren (Nat.zero_le _) fun out H' hh => by
   obtain ⟨rfl, rfl⟩ := hh
   exact ⟨[], .ret (rowA (copyR r)), [], List.nodup_nil, (fun i h => by cases h), (fun i h => absurd h (Nat.not_lt_zero i)), Nat.le_refl _, (by simp [rowA, AOut.ren, AV.ren, AV.renL, Own.ren]), rfl, rfl, rfl⟩
end Go.Proofs.YtncffhgoopdfgaaGreat
namespace Go.Proofs.YtncffhgoopdfgaaGreat
open Go.Am
set_option maxRecDepth 100000
def qfSt (l : List Co) (s : ByteArray) (i : Nat) : ASt := ⟨([.dead, .v (.string s), .ptr 0 0, .dead, .dead, .dead, .v (.int .i64 i)] ++ List.replicate 33 .dead), [(0, .box [.list (l.map corow) .free])], 1⟩
theorem qfind_f (l : List Co) (s : ByteArray) (hl : l.length < 1000000) (hs : Nsort l) : ACalls Tryz.prog 135 0 0 [rowA l, .v (.string s)] [] (fun out H' => out = .ret (.tuple [.v (.int .i64 (npos l s)), .v (.bool (hasN l s))]) ∧ H' = []) := by
 have h1 : ACalls Tryz.prog 135 0 5 [rowA l, .v (.string s)] [] (fun out H' => out = .ret (.tuple [.v (.int .i64 (npos l s)), .v (.bool (hasN l s))]) ∧ H' = []) := by
  refine no_implicit_lambda% (acalls_of tok dok (f := 135) ⟨Tryz.func135, rfl, by kernel_rfl⟩ ?_); refine no_implicit_lambda% (c_start (fun _ h => h) ?_)
  repeat' (first | (refine no_implicit_lambda% (zH ?_)) | (refine no_implicit_lambda% (spl (fun hc => ?_) (fun hc => ?_)) <;> first | exact zG hc | skip) | (refine no_implicit_lambda% (ans ?_)) | (with_reducible first | exact zI | exact zJ))
  refine c_loop' (qfSt l s) (fun i => i ≤ npos l s) (fun i => l.length - i) (a := 0) (Nat.zero_le _) ?_ ?_
  ·(refine no_implicit_lambda% (Conv.toT ?_ ?_ (LE0 rfl))); (focus ((unfold qfSt); (try dsimp only); exact wkl)); (focus ((unfold qfSt); (try dsimp only); exact wkh))
  ·rintro i i1
   have hnl := npos_le l s
   refine c_turn (n' := 1) (fun _ h => h) (fun _ h => h) rfl ?_
   rcases hx : l[i]? with _ | x
   ·have hi : l.length ≤ i := List.getElem?_eq_none_iff.1 hx
    have hin : i = npos l s := by omega
    have hh : hasN l s = false := by unfold hasN; rw [← hin, hx]
    rw [hh, ← hin]
    repeat' (first | (refine no_implicit_lambda% (zH ?_)) | (refine no_implicit_lambda% (splv (fun hc => ?_) (fun hc => ?_)) <;> first | exact zG hc | skip) | (refine no_implicit_lambda% (ans ?_)) | (with_reducible first | exact zI | exact zJ))
    exact e_ret (H' := []) (rest := _) rfl ⟨rfl, rfl⟩ permT (LE0 rfl)
   ·have hi : i < l.length := (List.getElem?_eq_some_iff.1 hx).1
    have hix := cox hx
    have hk := npos_lt (s := s) hs hx
    repeat' (first | (refine no_implicit_lambda% (zH ?_)) | (refine no_implicit_lambda% (splv (fun hc => ?_) (fun hc => ?_)) <;> first | exact zG hc | skip) | (refine no_implicit_lambda% (ans ?_)) | (with_reducible first | exact zI | exact zJ))
    ·have := hk.2 hc
     (refine no_implicit_lambda% (k_loopLT (i + 1) 0 [0] (by show i + 1 ≤ npos l s; omega) (by first | omega | (simp; done) | (simp; omega)) (LE0 rfl) (fun _ h => h) (fun _ h => h) ?_ ?_)); (focus ((try dsimp only); exact wkl)); (focus ((try dsimp only); exact wkh))
    ·have hin : i = npos l s := by
      have h5 : ¬ i < npos l s := fun h => by
       have h6 : sLt x.n s = false := by assumption
       rw [hk.1 h] at h6; cases h6
      omega
     have hh : hasN l s = (x.n.toList == s.toList) := by
      unfold hasN
      rw [← hin, hx]
      rw [eq_cb]
      rfl
     rw [hh, ← hin]
     exact e_ret (H' := []) (rest := _) rfl ⟨rfl, rfl⟩ permT (LE0 rfl)
 exact h1.ren (Nat.zero_le _) fun out H' hh => by
  obtain ⟨rfl, rfl⟩ := hh
  exact ⟨[], .ret (.tuple [.v (.int .i64 (npos l s)), .v (.bool (hasN l s))]), [], List.nodup_nil, (fun i h => by cases h), (fun i h => absurd h (Nat.not_lt_zero i)), Nat.le_refl _, (by simp [AOut.ren, AV.ren, AV.renL]), rfl, rfl, rfl⟩
def qaSt (o : List Co) (p : Nat) (t : Int) (i : Nat) : ASt := ⟨([.dead, .dead, .v (.int .i64 t), .dead, .dead, .dead, .ptr 1 0, .dead, .ptr 2 0, .v (.int .i64 p), .dead, .v (.int .i64 i)] ++ List.replicate 45 .dead), [(1, .box [.v (.int .i64 0), .list [] .free, .v (.float .f64 0)]), (2, .box [.list (o.map corow) .free])], 3⟩
set_option maxHeartbeats 3200000 in
theorem qat_c (r : List Co) (s : ByteArray) (t : Int) (hr : r.length < 70368744177664) (hs : RowSz r) : ACalls Tryz.prog 136 0 5000 [rowA r, .v (.string s), .v (.int .i64 t)] [] (fun out H' => out = .ret (optA (atR r s t)) ∧ H' = []) := by
 have hcp := qcopy_f r hr hs
 have h4 := copy_len r
 have hf := qfind_f (copyR r) s (by omega) (copy_sort r)
 have hcol := fun c (h : c ∈ copyR r) => copy_col h
 unfold atR
 generalize copyR r = o at *
 refine no_implicit_lambda% (acalls_of tok dok (f := 136) ⟨Tryz.func136, rfl, by kernel_rfl⟩ ?_); refine no_implicit_lambda% (c_start (fun _ h => h) ?_)
 rcases hN : hasN o s with _ | _
 ·rw [hN] at hf
  repeat' (first | (refine no_implicit_lambda% (zH ?_)) | (refine no_implicit_lambda% (spl (fun hc => ?_) (fun hc => ?_)) <;> first | exact zG hc | skip) | (refine no_implicit_lambda% (ans ?_)) | (with_reducible first | exact zI | exact zJ) | (refine no_implicit_lambda% (cal [] (hcp) ?_ ?_)) | (refine no_implicit_lambda% (cal [] (hf) ?_ ?_)) | fail)
  refine e_ret_to (H' := []) (rest := [(1, .box (vrowV ⟨0, [], 0⟩))]) (Conv.toT (τ := ⟨_, [(1, .box (vrowV ⟨0, [], 0⟩))], _⟩) (.refl _) ?_ (Nat.le_refl _)) rfl ⟨rfl, rfl⟩ (.of_eq rfl) (LE0 rfl)
  unfold vrowV
  exact wkh
 ·rw [hN] at hf
  obtain ⟨c, hc⟩ : ∃ c, o[npos o s]? = some c := by
   unfold hasN at hN
   split at hN
   ·exact ⟨_, by assumption⟩
   ·cases hN
  have hix := cox hc
  have hcl := hcol c (List.mem_of_getElem? hc)
  have hat : (if true = true then o[npos o s]?.bind fun c => atL c.l t else none) = atL c.l t := by rw [if_pos rfl, hc]; rfl
  rw [hat]
  repeat' (first | (refine no_implicit_lambda% (zH ?_)) | (refine no_implicit_lambda% (spl (fun hc => ?_) (fun hc => ?_)) <;> first | exact zG hc | skip) | (refine no_implicit_lambda% (ans ?_)) | (with_reducible first | exact zI | exact zJ) | (refine no_implicit_lambda% (cal [] (hcp) ?_ ?_)) | (refine no_implicit_lambda% (cal [] (hf) ?_ ?_)) | fail)
  refine c_loop' (qaSt o (npos o s) t) (fun i => i ≤ c.l.length ∧ (c.l.take i).find? (fun x => decide (x.t ≤ t)) = none) (fun i => c.l.length - i) (a := 0) ⟨Nat.zero_le _, rfl⟩ ?_ ?_
  ·(refine no_implicit_lambda% (Conv.toT ?_ ?_ (LE0 rfl))); (focus ((unfold qaSt); (try dsimp only); exact wkl)); (focus ((unfold qaSt); (try dsimp only); exact wkh))
  ·rintro i ⟨h1, hI⟩
   refine c_turn (n' := 3) (fun _ h => h) (fun _ h => h) rfl ?_
   rcases hx : c.l[i]? with _ | x
   ·have hi : i = c.l.length := by have := List.getElem?_eq_none_iff.1 hx; omega
    rw [hi, List.take_length] at hI
    have e : atL c.l t = none := by unfold atL; rw [hI]; rfl
    rw [e]
    repeat' (first | (refine no_implicit_lambda% (zH ?_)) | (refine no_implicit_lambda% (spl (fun hc => ?_) (fun hc => ?_)) <;> first | exact zG hc | skip) | (refine no_implicit_lambda% (ans ?_)) | (with_reducible first | exact zI | exact zJ))
    refine e_ret_to (H' := []) (rest := [(1, .box (vrowV ⟨0, [], 0⟩))]) (Conv.toT (τ := ⟨_, [(1, .box (vrowV ⟨0, [], 0⟩))], _⟩) (.refl _) ?_ (Nat.le_refl _)) rfl ⟨rfl, rfl⟩ (.of_eq rfl) (LE0 rfl)
    unfold vrowV
    exact wkh
   ·have hi : i < c.l.length := (List.getElem?_eq_some_iff.1 hx).1
    have hiy := vex hx
    have hts : c.l.take (i + 1) = c.l.take i ++ [x] := by rw [List.take_add_one, hx]; rfl
    repeat' (first | (refine no_implicit_lambda% (zH ?_)) | (refine no_implicit_lambda% (spl (fun hc => ?_) (fun hc => ?_)) <;> first | exact zG hc | skip) | (refine no_implicit_lambda% (ans ?_)) | (with_reducible first | exact zI | exact zJ))
    ·have e : atL c.l t = some x.v := by
      unfold atL
      have hsp : c.l = c.l.take i ++ x :: c.l.drop (i + 1) := by
       obtain ⟨hq, rfl⟩ := List.getElem?_eq_some_iff.1 hx
       rw [List.getElem_cons_drop, List.take_append_drop]
      rw [hsp, List.find?_append, hI]
      simp only [Option.none_or, List.find?_cons]
      rw [hc]; rfl
     rw [e]
     exact e_ret (H' := []) (rest := _) rfl ⟨rfl, rfl⟩ (.refl _) (LE0 rfl)
    ·(refine no_implicit_lambda% (k_loopLT (i + 1) 0 [0, 1, 2] (by show i + 1 ≤ c.l.length ∧ (c.l.take (i + 1)).find? (fun x => decide (x.t ≤ t)) = none; exact ⟨hi, by rw [hts, List.find?_append, hI]; simp [of_decide_eq_false hc]⟩) (by first | omega | (simp; done) | (simp; omega)) (LE0 rfl) (fun _ h => h) (fun _ h => h) ?_ ?_)); (focus ((try dsimp only); exact wkl)); (focus ((try dsimp only); exact wkh))
theorem qnewest_c (r : List Co) (s : ByteArray) (hr : r.length < 70368744177664) (hs : RowSz r) : ACalls Tryz.prog 64 0 6000 [rowA r, .v (.string s)] [] (fun out H' => out = .ret (optA (atR r s 1099511627776)) ∧ H' = []) := by
 have h := qat_c r s 1099511627776 hr hs
 generalize atR r s 1099511627776 = q at *
 rcases q with _ | v
 ·have h1 : ACalls Tryz.prog 136 0 5000 [rowA r, .v (.string s), .v (.int .i64 1099511627776)] [] (fun out H' => out = .ret (.tuple [.agg (vrowV ⟨0, [], 0⟩), .v (.bool false)]) ∧ H' = []) := h
  refine no_implicit_lambda% (acalls_of tok dok (f := 64) ⟨Tryz.func64, rfl, by kernel_rfl⟩ ?_); refine no_implicit_lambda% (c_start (fun _ h => h) ?_)
  repeat' (first | (refine no_implicit_lambda% (zH ?_)) | (refine no_implicit_lambda% (spl (fun hc => ?_) (fun hc => ?_)) <;> first | exact zG hc | skip) | (refine no_implicit_lambda% (ans ?_)) | (with_reducible first | exact zI | exact zJ) | (refine no_implicit_lambda% (cal [] (h1) ?_ ?_)) | fail)
  exact e_ret (H' := []) (rest := _) rfl ⟨rfl, rfl⟩ (.refl _) (LE0 rfl)
 ·have h1 : ACalls Tryz.prog 136 0 5000 [rowA r, .v (.string s), .v (.int .i64 1099511627776)] [] (fun out H' => out = .ret (.tuple [.agg (vrowV v), .v (.bool true)]) ∧ H' = []) := h
  refine no_implicit_lambda% (acalls_of tok dok (f := 64) ⟨Tryz.func64, rfl, by kernel_rfl⟩ ?_); refine no_implicit_lambda% (c_start (fun _ h => h) ?_)
  repeat' (first | (refine no_implicit_lambda% (zH ?_)) | (refine no_implicit_lambda% (spl (fun hc => ?_) (fun hc => ?_)) <;> first | exact zG hc | skip) | (refine no_implicit_lambda% (ans ?_)) | (with_reducible first | exact zI | exact zJ) | (refine no_implicit_lambda% (cal [] (h1) ?_ ?_)) | fail)
  exact e_ret (H' := []) (rest := _) rfl ⟨rfl, rfl⟩ (.refl _) (LE0 rfl)
end Go.Proofs.YtncffhgoopdfgaaGreat
namespace Go.Proofs.YtncffhgoopdfgaaGreat
open Go.Am
set_option maxRecDepth 100000
def dcR (r : List Co) (s : ByteArray) : List Co := if hasN (copyR r) s then (copyR r).eraseIdx (npos (copyR r) s) else copyR r
set_option maxHeartbeats 3200000 in
theorem qdropcol_c (r : List Co) (s : ByteArray) (hr : r.length < 70368744177664) (hs : RowSz r) : ACalls Tryz.prog 63 0 5000 [rowA r, .v (.string s)] [] (fun out H' => out = .ret (rowA (dcR r s)) ∧ H' = []) := by
 have hcp := qcopy_f r hr hs
 have h4 := copy_len r
 have hf := qfind_f (copyR r) s (by omega) (copy_sort r)
 unfold dcR
 generalize copyR r = o at *
 have hnl := npos_le o s
 refine no_implicit_lambda% (acalls_of tok dok (f := 63) ⟨Tryz.func63, rfl, by kernel_rfl⟩ ?_); refine no_implicit_lambda% (c_start (fun _ h => h) ?_)
 rcases hN : hasN o s with _ | _
 ·rw [hN] at hf
  repeat' (first | (refine no_implicit_lambda% (zH ?_)) | (refine no_implicit_lambda% (spl (fun hc => ?_) (fun hc => ?_)) <;> first | exact zG hc | skip) | (refine no_implicit_lambda% (ans ?_)) | (with_reducible first | exact zI | exact zJ) | (refine no_implicit_lambda% (cal [] (hcp) ?_ ?_)) | (refine no_implicit_lambda% (cal [] (hf) ?_ ?_)) | fail)
  exact e_ret (H' := []) (rest := _) rfl ⟨rfl, rfl⟩ (.refl _) (LE0 rfl)
 ·rw [hN] at hf
  have hlt : npos o s < o.length := by
   unfold hasN at hN
   split at hN
   ·exact (List.getElem?_eq_some_iff.1 (by assumption)).1
   ·cases hN
  repeat' (first | (refine no_implicit_lambda% (zH ?_)) | (refine no_implicit_lambda% (splv (fun hc => ?_) (fun hc => ?_)) <;> first | exact zG hc | skip) | (refine no_implicit_lambda% (ans ?_)) | (with_reducible first | exact zI | exact zJ) | (refine no_implicit_lambda% (cal [] (hcp) ?_ ?_)) | (refine no_implicit_lambda% (cal [] (hf) ?_ ?_)) | fail)
  ((with_reducible refine no_implicit_lambda% (is_ev ?_)); refine no_implicit_lambda% (v_qS rfl rfl rfl rfl (qAnd5 (fun _ h => h)) (fun _ h => h) ?_ ?_)); focus ((repeat' (refine And.intro ?_ ?_)) <;> (first | exact trivial | exact (coOk o).len | exact Int.natCast_nonneg _ | omega | (simp; done) | (simp; omega) | ((show (0 : Int) ≤ _); omega)))
  repeat' (first | (refine no_implicit_lambda% (zH ?_)) | (refine no_implicit_lambda% (splv (fun hc => ?_) (fun hc => ?_)) <;> first | exact zG hc | skip) | (refine no_implicit_lambda% (ans ?_)) | (with_reducible first | exact zI | exact zJ))
  rw [show IntKind.i64.wrap ((npos o s : Int) + 1) = ((npos o s + 1 : Nat) : Int) by rw [z64 (by omega) (by omega)]; omega]
  ((with_reducible refine no_implicit_lambda% (is_ev ?_)); refine no_implicit_lambda% (v_qS rfl rfl rfl rfl (qAnd5 (fun _ h => h)) (fun _ h => h) ?_ ?_)); focus ((repeat' (refine And.intro ?_ ?_)) <;> (first | exact trivial | exact (coOk o).len | exact Int.natCast_nonneg _ | omega | (simp; done) | (simp; omega) | ((show (0 : Int) ≤ _); omega)))
  repeat' (first | (refine no_implicit_lambda% (zH ?_)) | (refine no_implicit_lambda% (splv (fun hc => ?_) (fun hc => ?_)) <;> first | exact zG hc | skip) | (refine no_implicit_lambda% (ans ?_)) | (with_reducible first | exact zI | exact zJ))
  have e1 : List.drop 0 (List.take (npos o s : Int).toNat (o.map corow)) = (o.take (npos o s)).map corow := by rw [Int.toNat_natCast, List.drop_zero, List.map_take]
  have e2 : List.drop ((npos o s + 1 : Nat) : Int).toNat (List.take (o.map corow).length (o.map corow)) = (o.drop (npos o s + 1)).map corow := by rw [Int.toNat_natCast, List.take_length, List.map_drop]
  rw [e1, e2]
  have r1 : ∀ row ∈ (o.take (npos o s)).map corow, row.length = 2 := (coOk _).len
  have r2 : ∀ row ∈ (o.drop (npos o s + 1)).map corow, row.length = 2 := (coOk _).len
  have b1 : ((o.take (npos o s)).map corow).length ≤ 4 := by rw [List.length_map, List.length_take]; omega
  have b2 : ((o.drop (npos o s + 1)).map corow).length ≤ 4 := by rw [List.length_map, List.length_drop]; omega
  have b3 : (o.take (npos o s)).length ≤ 4 := by rw [List.length_take]; omega
  have b4 : (o.drop (npos o s + 1)).length ≤ 4 := by rw [List.length_drop]; omega
  have b5 : ([] ++ (o.take (npos o s)).map corow).length ≤ 4 := by rw [List.nil_append]; exact b1
  repeat' (first | (refine no_implicit_lambda% (zH ?_)) | (refine no_implicit_lambda% (splv (fun hc => ?_) (fun hc => ?_)) <;> first | exact zG hc | skip) | (refine no_implicit_lambda% (ans ?_)) | (with_reducible first | exact zI | exact zJ))
  have e3 : [] ++ (o.take (npos o s)).map corow ++ (o.drop (npos o s + 1)).map corow = (o.eraseIdx (npos o s)).map corow := by rw [List.nil_append, ← List.map_append, List.eraseIdx_eq_take_drop_succ]
  rw [e3]
  refine e_ret_to (H' := []) (rest := [(1, .box [.list ((o.eraseIdx (npos o s)).map corow) .free])]) (Conv.toT (τ := ⟨_, [(1, .box [.list ((o.eraseIdx (npos o s)).map corow) .free])], _⟩) (.refl _) ?_ (Nat.le_refl _)) rfl ⟨rfl, rfl⟩ (.of_eq rfl) (LE0 rfl)
  exact wkh
end Go.Proofs.YtncffhgoopdfgaaGreat
