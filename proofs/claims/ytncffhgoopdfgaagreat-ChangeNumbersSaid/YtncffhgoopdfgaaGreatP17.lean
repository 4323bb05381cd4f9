/- Part 17 of what the laws ChangeNumbers rest on: CtI. -/
import Derived.Test.YtncffhgoopdfgaaGreatP16
set_option linter.unusedSimpArgs false
set_option linter.unusedVariables false
namespace Go.Proofs.YtncffhgoopdfgaaGreat
open Go.Am
set_option maxRecDepth 100000
abbrev nmX5 : ByteArray := bsS [120]
abbrev nmY5 : ByteArray := bsS [121]
def five5 : Va := ⟨2, [], 4617315517961601024⟩
def cnl : List Ch := [⟨1, nmX5, 4, five5⟩, ⟨1, nmY5, 4, ⟨1, [116], 0⟩⟩]
theorem cn_ap : ∃ R, applyR [] cnl = (0, R) ∧ Fine R ∧ RowSz R := by
 have hf := applyR_fin [] cnl
 have hs : RowSz (applyR [] cnl).2 := applyR_siz sz_nil fun x hx => by
  unfold cnl at hx
  simp only [List.mem_cons, List.not_mem_nil, or_false] at hx
  rcases hx with rfl | rfl <;> exact ⟨by decide, by decide⟩
 have h1 : Fine [⟨nmX5, [⟨4, canV five5⟩]⟩] := by
  have h := applyR_fin [] [⟨1, nmX5, 4, five5⟩]
  rw [show applyR [] [⟨1, nmX5, 4, five5⟩] = (0, [⟨nmX5, [⟨4, canV five5⟩]⟩]) by
   unfold applyR
   rw [if_neg (by decide), if_neg (by decide)]
   show foldC [] _ = _
   unfold foldC
   rw [show stepC [] ⟨1, nmX5, 4, five5⟩ = putR [] nmX5 4 five5 from rfl, put_new (by decide) (by decide) (by decide)]
   rfl] at h
  exact h
 have he : (applyR [] cnl).1 = 0 := by
  unfold applyR cnl
  rw [if_neg (by decide), if_neg (by decide)]
  show (foldC [] _).1 = _
  unfold foldC
  rw [show stepC [] ⟨1, nmX5, 4, five5⟩ = putR [] nmX5 4 five5 from rfl, put_new (by decide) (by decide) (by decide)]
  dsimp only
  rw [if_neg (by decide)]
  unfold foldC
  rw [show stepC [⟨nmX5, [⟨4, canV five5⟩]⟩] ⟨1, nmY5, 4, ⟨1, [116], 0⟩⟩ = putR [⟨nmX5, [⟨4, canV five5⟩]⟩] nmY5 4 ⟨1, [116], 0⟩ from rfl]
  have hp : (putR [⟨nmX5, [⟨4, canV five5⟩]⟩] nmY5 4 ⟨1, [116], 0⟩).1 = 0 := by
   unfold putR
   rw [if_pos (by decide), h1.copy, if_neg (fun h => by cases h.2)]
  rw [if_neg (by rw [hp]; simp)]
  rfl
 exact ⟨(applyR [] cnl).2, by rw [← he], hf, hs⟩
theorem num5_e (n : Nat) : ACalls Tryz.prog 18 0 0 [.v (.float .f64 n)] [] (fun out H' => out = .ret (vav ⟨2, [], n⟩) ∧ H' = []) :=
 ACalls.ren (num5_c n) (Nat.zero_le _) fun out H' hh => by
  obtain ⟨rfl, rfl⟩ := hh
  exact ⟨[], .ret (vav ⟨2, [], n⟩), [], List.nodup_nil, (fun q h => by cases h), (fun q h => by omega), Nat.le_refl _, rfl, rfl, rfl, rfl⟩
def strs (l : List ByteArray) : List (List AV) := l.map fun s => [.v (.string s)]
def ints (l : List Int) : List (List AV) := l.map fun t => [.v (.int .i64 t)]
def S5 : List ByteArray := [bsS [120], bsS [121], bsS [110, 101, 119], ⟨#[]⟩, bsS [115, 101, 118, 101, 110, 116, 101, 101, 110, 46, 98, 121, 116, 101, 115, 46, 108]]
def T5 : List Int := [-1, 0, 4, 1099511627776, 1099511627777]
theorem strx {l : List ByteArray} {i : Nat} {t : ByteArray} (h : l[i]? = some t) : 0 ≤ (i : Int) ∧ (strs l)[(i : Int).toNat]? = some [.v (.string t)] ∧ ([AV.v (.string t)] : List AV).length = 1 := ⟨Int.natCast_nonneg _, by unfold strs; rw [Int.toNat_natCast, List.getElem?_map, h]; rfl, rfl⟩
theorem intx {l : List Int} {i : Nat} {t : Int} (h : l[i]? = some t) : 0 ≤ (i : Int) ∧ (ints l)[(i : Int).toNat]? = some [.v (.int .i64 t)] ∧ ([AV.v (.int .i64 t)] : List AV).length = 1 := ⟨Int.natCast_nonneg _, by unfold ints; rw [Int.toNat_natCast, List.getElem?_map, h]; rfl, rfl⟩
def cnS1 (R : List Co) (k : Int) : ASt := ⟨([.dead, .ptr 0 0, .dead, .v (.int .i64 k)] ++ List.replicate 162 .dead), [(0, .box [.list (R.map corow) .free])], 1⟩
def cnS2 (R : List Co) (k : Int) (i : Nat) : ASt := ⟨([.dead, .ptr 0 0, .dead, .v (.int .i64 k)] ++ List.replicate 30 .dead ++ [.list (strs S5) .free, .v (.int .i64 5), .v (.int .i64 i)] ++ List.replicate 129 .dead), [(0, .box [.list (R.map corow) .free])], 1⟩
def cnS3 (R : List Co) (k : Int) (i : Nat) (c : ByteArray) (j : Nat) : ASt := ⟨([.dead, .ptr 0 0, .dead, .v (.int .i64 k), .dead, .v (.string c)] ++ List.replicate 28 .dead ++ [.list (strs S5) .free, .v (.int .i64 5), .v (.int .i64 i), .dead, .dead, .dead, .list (ints T5) .free, .v (.int .i64 5), .v (.int .i64 j)] ++ List.replicate 123 .dead), [(0, .box [.list (R.map corow) .free])], 1⟩
def cnS4 (R : List Co) (k : Int) (i : Nat) (c : ByteArray) (j : Nat) (t : Int) (n : Nat) : ASt := ⟨([.dead, .ptr 0 0, .dead, .v (.int .i64 k), .dead, .v (.string c), .dead, .v (.int .i64 t), .v (.int .i64 n)] ++ List.replicate 25 .dead ++ [.list (strs S5) .free, .v (.int .i64 5), .v (.int .i64 i), .dead, .dead, .dead, .list (ints T5) .free, .v (.int .i64 5), .v (.int .i64 j)] ++ List.replicate 123 .dead), [(0, .box [.list (R.map corow) .free])], 1⟩
theorem wkrep {a b : List AV} (n : Nat) (h : WkL a b) : WkL (List.replicate n a).flatten (List.replicate n b).flatten := by
 induction n with
 | zero => exact .nil
 | succ n ih =>
  rw [List.replicate_succ, List.replicate_succ, List.flatten_cons, List.flatten_cons]
  exact .app h ih
def mz : Ch := ⟨0, ⟨#[]⟩, 0, ⟨0, [], 0⟩⟩
theorem chOkR (l : List Ch) : RowsOk 6 (l.map chrow) := .map (f := chrow) (fun _ => ⟨rfl, rfl, rfl⟩) l
def cnS5 (R : List Co) (xs : List Ch) (i : Nat) : ASt := ⟨([.dead, .ptr 0 0] ++ List.replicate 8 .dead ++ [.arr 1 0 9 9, .v (.int .i64 i)] ++ List.replicate 154 .dead), [(0, .box [.list (R.map corow) .free]), (1, .seq (xs.map chrow) 0)], 2⟩
def cnS6 (R : List Co) (xs : List Ch) : ASt := ⟨([.dead, .ptr 0 0] ++ List.replicate 8 .dead ++ [.list (xs.map chrow) .free] ++ List.replicate 155 .dead), [(0, .box [.list (R.map corow) .free])], 2⟩
def cnS7 (R : List Co) (xs : List Ch) (b : List UInt8) (n : Nat) : ASt := ⟨([.dead, .ptr 0 0] ++ List.replicate 8 .dead ++ [.list (xs.map chrow) .free, .dead, .list (b.map brow) .free, .v (.int .i64 n)] ++ List.replicate 152 .dead), [(0, .box [.list (R.map corow) .free])], 2⟩
def six5 : Va := ⟨2, [], 4618441417868443648⟩
def one1 : Va := ⟨2, [], 4607182418800017408⟩
def cnd0 : Cd := ⟨true, true, nmX5, one1⟩
def nmN5 : ByteArray := bsS [110, 101, 119]
def cds5 : List Cd := [⟨false, false, ⟨#[]⟩, ⟨0, [], 0⟩⟩, ⟨true, false, nmX5, ⟨0, [], 0⟩⟩, ⟨true, false, nmN5, ⟨0, [], 0⟩⟩, ⟨true, true, nmX5, five5⟩, ⟨true, true, nmX5, six5⟩, ⟨true, true, nmN5, five5⟩]
theorem cds5_ok : ∀ d ∈ cds5, CdSz d := fun d hd => by
 unfold cds5 at hd
 simp only [List.mem_cons, List.not_mem_nil, or_false] at hd
 rcases hd with rfl | rfl | rfl | rfl | rfl | rfl <;> exact ⟨by decide, by decide⟩
theorem cdx {l : List Cd} {i : Nat} {t : Cd} (h : l[i]? = some t) : 0 ≤ (i : Int) ∧ (l.map cdrow)[(i : Int).toNat]? = some (cdrow t) ∧ (cdrow t).length = 6 := ⟨Int.natCast_nonneg _, by rw [Int.toNat_natCast, List.getElem?_map, h]; rfl, rfl⟩
def cnS8 (R : List Co) (xs : List Ch) (i : Nat) : ASt := ⟨([.dead, .ptr 0 0] ++ List.replicate 8 .dead ++ [.list (xs.map chrow) .free] ++ List.replicate 119 .dead ++ [.list (cds5.map cdrow) .free, .v (.int .i64 6), .v (.int .i64 i)] ++ List.replicate 33 .dead), [(0, .box [.list (R.map corow) .free])], 2⟩
theorem bl_top {P : Program} {f : FuncId} {top : Nat} {args : List AV} {l : List UInt8} (h : ACalls P f 0 top args [] (fun out H' => out = .ret (.list (l.map brow) .free) ∧ H' = [])) : ACalls P f 0 0 args [] (fun out H' => out = .ret (.list (l.map brow) .free) ∧ H' = []) :=
 ACalls.ren h (Nat.zero_le _) fun out H' hh => by
  obtain ⟨rfl, rfl⟩ := hh
  exact ⟨[], .ret (.list (l.map brow) .free), [], List.nodup_nil, (fun q h => by cases h), (fun q h => by omega), Nat.le_refl _, rfl, rfl, rfl, rfl⟩
set_option maxHeartbeats 6400000 in
theorem cnum_rc : ACalls Tryz.prog 4 0 90000000 [] [] (fun out H' => out = .ret (.v (.bool true)) ∧ H' = []) := by
 have hk := known5_c.top0
 have n5 := num5_e 4617315517961601024
 have n1 := num5_e 4607182418800017408
 have n6 := num5_e 4618441417868443648
 obtain ⟨R, hR, hF, hz⟩ := cn_ap
 have a1 := PutRR_top (refApply_w [] cnl (by decide) sz_nil (fun x hx => by
  unfold cnl at hx
  simp only [List.mem_cons, List.not_mem_nil, or_false] at hx
  rcases hx with rfl | rfl <;> decide) (by decide))
 rw [hR] at a1
 unfold PutRR at a1
 dsimp only at a1
 have hr4 := hF.len
 refine no_implicit_lambda% (acalls_of tok dok (f := 4) ⟨Tryz.func4, rfl, by kernel_rfl⟩ ?_); refine no_implicit_lambda% (c_start (fun _ h => h) ?_)
 repeat' (first | (refine no_implicit_lambda% (zH ?_)) | (refine no_implicit_lambda% (splv (fun hc => ?_) (fun hc => ?_)) <;> first | exact zG hc | skip) | (refine no_implicit_lambda% (ans ?_)) | (with_reducible first | exact zI | exact zJ) | (refine no_implicit_lambda% (wsp ?_)) | (refine no_implicit_lambda% (cal [] (n5) ?_ ?_)) | fail)
 refine no_implicit_lambda% (calw [] a1 ?_ ?_ (hargs := .cons (LeA.agg' (.cons (LeA.free _ _) .nil)) (.cons (LeA.rows (by (repeat' (first | (with_reducible exact LDR.nil) | (with_reducible exact LDL.nil) | (refine no_implicit_lambda% (LDR.cons ?_ ?_)) | (refine no_implicit_lambda% (LDL.cons ?_ ?_)) | (exact LeD.refl _) | (exact LeD.free _ _) | (exact LDR.nil) | (exact LDL.nil)))) _) .nil)))
 rotate_left
 ·first | (exact zI) | (exact zJ)
 refine no_implicit_lambda% (ret1 ?_); first | (refine no_implicit_lambda% (akc ?_)) | (refine no_implicit_lambda% (aec ?_))
 repeat' (first | (refine no_implicit_lambda% (zH ?_)) | (refine no_implicit_lambda% (splv (fun hc => ?_) (fun hc => ?_)) <;> first | exact zG hc | skip) | (refine no_implicit_lambda% (ans ?_)) | (with_reducible first | exact zI | exact zJ) | (refine no_implicit_lambda% (wsp ?_)) | fail )
 refine c_loop' (cnS1 R) (fun k : Int => -1 ≤ k ∧ k ≤ 8) (fun k => (8 - k).toNat) (a := -1) ⟨by decide, by decide⟩ ?_ ?_
 ·(refine no_implicit_lambda% (Conv.toT ?_ ?_ (LE0 rfl))); (focus ((unfold cnS1); (try dsimp only); exact wkl)); (focus ((unfold cnS1); (try dsimp only); exact wkh))
 ·rintro k ⟨k1, k2⟩
  refine c_turn (n' := 1) (fun _ h => h) (fun _ h => h) rfl ?_
  repeat' (first | (refine no_implicit_lambda% (zH ?_)) | (refine no_implicit_lambda% (spl (fun hc => ?_) (fun hc => ?_)) <;> first | exact zG hc | skip) | (refine no_implicit_lambda% (ans ?_)) | (with_reducible first | exact zI | exact zJ))
  ·have hk8 : k < 8 := of_decide_eq_true hc
   refine c_loop' (cnS2 R k) (fun i => i ≤ 5) (fun i => 5 - i) (a := 0) (Nat.zero_le _) ?_ ?_
   ·(refine no_implicit_lambda% (Conv.toT ?_ ?_ (LE0 rfl))); (focus ((unfold cnS2); (try dsimp only); exact wkl)); (focus ((unfold cnS2); (try dsimp only); exact wkh))
   ·rintro i i5
    refine c_turn (n' := 1) (fun _ h => h) (fun _ h => h) rfl ?_
    rcases hs : S5[i]? with _ | c
    ·have hi : i = 5 := by have h9 := List.getElem?_eq_none_iff.1 hs; have : S5.length = 5 := rfl; omega
     repeat' (first | (refine no_implicit_lambda% (zH ?_)) | (refine no_implicit_lambda% (spl (fun hc => ?_) (fun hc => ?_)) <;> first | exact zG hc | skip) | (refine no_implicit_lambda% (ans ?_)) | (with_reducible first | exact zI | exact zJ))
     (refine no_implicit_lambda% (k_loopLT (k + 1) 0 [0] (by show -1 ≤ k + 1 ∧ k + 1 ≤ 8; omega) (by first | omega | (simp; done) | (simp; omega)) (LE0 rfl) (fun _ h => h) (fun _ h => h) ?_ ?_)); (focus ((try dsimp only); exact wkl)); (focus ((try dsimp only); exact wkh))
    ·have hi : i < 5 := (List.getElem?_eq_some_iff.1 hs).1
     have hix := strx hs
     repeat' (first | (refine no_implicit_lambda% (zH ?_)) | (refine no_implicit_lambda% (spl (fun hc => ?_) (fun hc => ?_)) <;> first | exact zG hc | skip) | (refine no_implicit_lambda% (ans ?_)) | (with_reducible first | exact zI | exact zJ))
     refine c_loop' (cnS3 R k i c) (fun j => j ≤ 5) (fun j => 5 - j) (a := 0) (Nat.zero_le _) ?_ ?_
     ·(refine no_implicit_lambda% (Conv.toT ?_ ?_ (LE0 rfl))); (focus ((unfold cnS3); (try dsimp only); exact wkl)); (focus ((unfold cnS3); (try dsimp only); exact wkh))
     ·rintro j j5
      refine c_turn (n' := 1) (fun _ h => h) (fun _ h => h) rfl ?_
      rcases ht : T5[j]? with _ | t
      ·have hj : j = 5 := by have h9 := List.getElem?_eq_none_iff.1 ht; have : T5.length = 5 := rfl; omega
       repeat' (first | (refine no_implicit_lambda% (zH ?_)) | (refine no_implicit_lambda% (spl (fun hc => ?_) (fun hc => ?_)) <;> first | exact zG hc | skip) | (refine no_implicit_lambda% (ans ?_)) | (with_reducible first | exact zI | exact zJ))
       (refine no_implicit_lambda% (k_loopLT (i + 1) 0 [0] (show i + 1 ≤ 5 from hi) (by first | omega | (simp; done) | (simp; omega)) (LE0 rfl) (fun _ h => h) (fun _ h => h) ?_ ?_)); (focus ((try dsimp only); exact wkl)); (focus ((try dsimp only); exact wkh))
      ·have hj : j < 5 := (List.getElem?_eq_some_iff.1 ht).1
       have hix := intx ht
       repeat' (first | (refine no_implicit_lambda% (zH ?_)) | (refine no_implicit_lambda% (spl (fun hc => ?_) (fun hc => ?_)) <;> first | exact zG hc | skip) | (refine no_implicit_lambda% (ans ?_)) | (with_reducible first | exact zI | exact zJ))
       refine c_loop' (cnS4 R k i c j t) (fun n => n ≤ 9) (fun n => 9 - n) (a := 0) (Nat.zero_le _) ?_ ?_
       ·(refine no_implicit_lambda% (Conv.toT ?_ ?_ (LE0 rfl))); (focus ((unfold cnS4); (try dsimp only); exact wkl)); (focus ((unfold cnS4); (try dsimp only); exact wkh))
       ·rintro n n9
        refine c_turn (n' := 1) (fun _ h => h) (fun _ h => h) rfl ?_
        repeat' (first | (refine no_implicit_lambda% (zH ?_)) | (refine no_implicit_lambda% (spl (fun hc => ?_) (fun hc => ?_)) <;> first | exact zG hc | skip) | (refine no_implicit_lambda% (ans ?_)) | (with_reducible first | exact zI | exact zJ))
        ·have hn9 : n < 9 := by have := of_decide_eq_true hc; omega
         (refine no_implicit_lambda% (calw [] (dvmade_d ⟨(n : Int) == 8, n, 4612811918334230528, []⟩ ⟨⟨by show (-9223372036854775808 : Int) ≤ n; omega, by show (n : Int) ≤ 9223372036854775807; omega⟩, by show (4612811918334230528 : Nat) < 18446744073709551616; decide⟩) ?_ ?_ (hargs := .cons (LeA.agg' (.cons (.refl _) (.cons (.refl _) (.cons (.refl _) (.cons (LeA.free _ _) .nil))))) .nil)))
         rotate_left
         ·intro xx H' hx
          obtain ⟨_, _, h', _⟩ := hx
          cases h'
         intro xx H' hx
         obtain ⟨v, hv, h', rfl⟩ := hx
         cases h'
         first | (refine no_implicit_lambda% (akc ?_)) | (refine no_implicit_lambda% (aec ?_))
         have ha := (applies5_c R [⟨k, c, t, v⟩] hF hz (fun x hx => by rw [List.mem_singleton.1 hx]; exact hv.2.1) (by show 1 < 1000000; decide)).top0
         have hw := (writes5_c ⟨k, c, t, v⟩ ⟨decide ((n : Int) > 0), decide ((n : Int) > 4), c, v⟩ hv.2.1 hv.2.1).top0
         repeat' (first | (refine no_implicit_lambda% (zH ?_)) | (refine no_implicit_lambda% (spl (fun hc => ?_) (fun hc => ?_)) <;> first | exact zG hc | skip) | (refine no_implicit_lambda% (ans ?_)) | (with_reducible first | exact zI | exact zJ))
         (refine no_implicit_lambda% (calw [] (ha) ?_ ?_))
         rotate_left
         ·first | (exact zI) | (exact zJ)
         refine no_implicit_lambda% (ret1 ?_); first | (refine no_implicit_lambda% (akc ?_)) | (refine no_implicit_lambda% (aec ?_))
         repeat' (first | (refine no_implicit_lambda% (zH ?_)) | (refine no_implicit_lambda% (spl (fun hc => ?_) (fun hc => ?_)) <;> first | exact zG hc | skip) | (refine no_implicit_lambda% (ans ?_)) | (with_reducible first | exact zI | exact zJ) | (refine no_implicit_lambda% (cal [] (hw) ?_ ?_)) | fail)
         (refine no_implicit_lambda% (k_loopLT (n + 1) 0 [0] (show n + 1 ≤ 9 from hn9) (by first | omega | (simp; done) | (simp; omega)) (LE0 rfl) (fun _ h => h) (fun _ h => h) ?_ ?_)); (focus ((try dsimp only); exact wkl)); (focus ((try dsimp only); exact wkh))
        ·have hn9 : n = 9 := by have := of_decide_eq_false hc; omega
         (refine no_implicit_lambda% (k_loopLT (j + 1) 0 [0] (show j + 1 ≤ 5 from hj) (by first | omega | (simp; done) | (simp; omega)) (LE0 rfl) (fun _ h => h) (fun _ h => h) ?_ ?_)); (focus ((try dsimp only); exact wkl)); (focus ((try dsimp only); exact wkh))
  ·(with_reducible refine no_implicit_lambda% (zC ?_))
   refine no_implicit_lambda% (a_makeO rfl rfl rfl rfl rfl rfl rfl rfl ?_)
   repeat' (first | (refine no_implicit_lambda% (zH ?_)) | (refine no_implicit_lambda% (spl (fun hc => ?_) (fun hc => ?_)) <;> first | exact zG hc | skip) | (refine no_implicit_lambda% (ans ?_)) | (with_reducible first | exact zI | exact zJ))
   refine c_loop2 (cnS5 R) (fun xs i => (xs.length = 9 ∧ i ≤ 9) ∧ (∀ x ∈ xs, x.v.n < 18446744073709551616) ∧ ∀ j, j < i → ∃ x, xs[j]? = some x ∧ rightC x = 0) (fun _ i => 9 - i) (List.replicate 9 mz) 0 ⟨⟨rfl, Nat.zero_le _⟩, fun x hx => by rw [List.eq_of_mem_replicate hx]; decide, fun j hj => by omega⟩ ?_ ?_
   ·refine (Conv.wk (.refl _) (.cons (.box 1 (?_ : WkL _ (seqC ((List.replicate 9 mz).map chrow) 0))) (.refl _))).trans ((Conv.toSeq (rows := (List.replicate 9 mz).map chrow) (k := 0) (.refl _) rfl (chOkR _).pure).trans ?_)
    ·unfold seqC
     rw [List.replicate_zero, List.append_nil, List.map_replicate]
     exact wkrep 9 (.cons (.refl _) (.cons (.refl _) (.cons (.refl _) (.cons (.refl _) (.cons (.free _ _) (.cons (.refl _) .nil))))))
    ·(refine no_implicit_lambda% (Conv.toT ?_ ?_ (LE0 rfl))); (focus ((unfold cnS5); (try dsimp only); exact wkl)); (focus ((unfold cnS5); (try dsimp only); exact wkh))
   ·rintro xs i ⟨⟨l9, i9⟩, hn, hr⟩
    refine c_turn (n' := 2) (fun _ h => h) (fun _ h => h) rfl ?_
    repeat' (first | (refine no_implicit_lambda% (sx1 ?_)) | (refine no_implicit_lambda% (spl (fun hc => ?_) (fun hc => ?_)) <;> first | exact zG hc | skip) | fail)
    refine k_seq ?_
    repeat' (first | (refine no_implicit_lambda% (sx1 ?_)) | (refine no_implicit_lambda% (spl (fun hc => ?_) (fun hc => ?_)) <;> first | exact zG hc | skip) | fail)
    ·have hi : i < 9 := by have := of_decide_eq_true hc; omega
     repeat' (first | (refine no_implicit_lambda% (zH ?_)) | (refine no_implicit_lambda% (splv (fun hc => ?_) (fun hc => ?_)) <;> first | exact zG hc | skip) | (refine no_implicit_lambda% (ans ?_)) | (with_reducible first | exact zI | exact zJ))
     rw [show IntKind.i64.wrap ((i : Int) + 1) = ((i + 1 : Nat) : Int) by rw [z64 (by omega) (by omega)]; rfl]
     ((with_reducible refine no_implicit_lambda% (is_ev ?_)); first | (refine no_implicit_lambda% (v_qS rfl rfl rfl rfl (qAnd4 (fun _ h => h)) (fun _ h => h) ?_ ?_)) | (refine no_implicit_lambda% (v_qS rfl rfl rfl rfl (qAnd5 (fun _ h => h)) (fun _ h => h) ?_ ?_)))
     ·repeat' (refine And.intro ?_ ?_)
      all_goals first | exact trivial | exact Int.natCast_nonneg _ | omega | (rw [Int.toNat_natCast]; show i + 1 ≤ 9; omega)
     repeat' (first | (refine no_implicit_lambda% (zH ?_)) | (refine no_implicit_lambda% (splv (fun hc => ?_) (fun hc => ?_)) <;> first | exact zG hc | skip) | (refine no_implicit_lambda% (ans ?_)) | (with_reducible first | exact zI | exact zJ) | (refine no_implicit_lambda% (cal [] (n1) ?_ ?_)) | fail)
     ((with_reducible refine no_implicit_lambda% (is_ev ?_)); first | (refine no_implicit_lambda% (v_qS rfl rfl rfl rfl (fun _ h => h) (fun _ h => h) ?_ ?_)) | (refine no_implicit_lambda% (v_qS rfl rfl rfl rfl (qAnd2 (fun _ h => h)) (fun _ h => h) ?_ ?_))); focus (first | omega | (simp; done) | (simp; omega))
     repeat' (first | (refine no_implicit_lambda% (zH ?_)) | (refine no_implicit_lambda% (splv (fun hc => ?_) (fun hc => ?_)) <;> first | exact zG hc | skip) | (refine no_implicit_lambda% (ans ?_)) | (with_reducible first | exact zI | exact zJ))
     have hsz : ((⟨#[97, 98, 99, 100, 101, 102, 103, 104, 105]⟩ : ByteArray).extract (i : Int).toNat (((i + 1 : Nat) : Int).toNat)).size = 1 := by
      rw [ByteArray.size_extract, Int.toNat_natCast, Int.toNat_natCast]
      show min (i + 1) 9 - i = 1
      omega
     generalize (⟨#[97, 98, 99, 100, 101, 102, 103, 104, 105]⟩ : ByteArray).extract (i : Int).toNat (((i + 1 : Nat) : Int).toNat) = nm at *
     have hnb : nmB nm = true := by unfold nmB; rw [hsz]; rfl
     have hrow : (xs.map chrow)[i]? = some (chrow (xs[i]'(by omega))) := by rw [List.getElem?_map, List.getElem?_eq_getElem (by omega)]; rfl
     ((with_reducible refine no_implicit_lambda% (zC ?_)); refine no_implicit_lambda% (a_storeSeq (sz := 6) (rows := xs.map chrow) (i := i) (j := 0) (row' := chrow ⟨1, nm, 0, ⟨2, [], 4607182418800017408⟩⟩) rfl rfl rfl (fun _ h => h) rfl rfl (chOkR xs) (hrow) (by first | decide | (simp; done)) (by first | rfl | (simp; done)) (by first | rfl | (simp; done) | (simp; omega)) ?_))
     rw [← List.map_set (f := chrow)]
     refine no_implicit_lambda% (aec ?_)
     repeat' (first | (refine no_implicit_lambda% (zH ?_)) | (refine no_implicit_lambda% (splv (fun hc => ?_) (fun hc => ?_)) <;> first | exact zG hc | skip) | (refine no_implicit_lambda% (ans ?_)) | (with_reducible first | exact zI | exact zJ))
     (refine no_implicit_lambda% (k_loopLT (((xs.set i ⟨1, nm, 0, ⟨2, [], 4607182418800017408⟩⟩, i + 1) : List Ch × Nat)) 0 [0, 1] (by
      refine ⟨⟨by rw [List.length_set]; exact l9, hi⟩, fun x hx => ?_, fun j hj => ?_⟩
      ·rcases List.mem_or_eq_of_mem_set hx with hx | rfl
       ·exact hn x hx
       ·show (4607182418800017408 : Nat) < 18446744073709551616; decide
      ·by_cases hji : j = i
       ·subst hji
        exact ⟨_, List.getElem?_set_self (by show j < xs.length; omega), rightC_put hnb (by decide) rfl⟩
       ·obtain ⟨x, h1, h2⟩ := hr j (by have : j < i + 1 := hj; omega)
        exact ⟨x, by show (xs.set i _)[j]? = _; rw [List.getElem?_set_ne (fun h => hji h.symm)]; exact h1, h2⟩) (by first | omega | (simp; done) | (simp; omega)) (LE0 rfl) (fun _ h => h) (fun _ h => h) ?_ ?_)); (focus ((try dsimp only); exact wkl)); (focus ((try dsimp only); exact wkh))
    ·have hi : i = 9 := by have := of_decide_eq_false hc; omega
     subst hi
     obtain ⟨x0, hx0, hrc0⟩ := hr 0 (by decide)
     have hxn0 := hn x0 (List.mem_of_getElem? hx0)
     refine k_seq_to (cnS6 R xs) ((Conv.freezeS (j := 10) (sz := 6) (L0 := [(0, .box [.list (R.map corow) .free])]) rfl (.swap _ _ _) (chOkR xs) (by rw [List.length_map]; exact l9)).trans ?_) ?_
     ·(refine no_implicit_lambda% (Conv.toT ?_ ?_ (LE0 rfl))); (focus ((unfold cnS6); (try dsimp only); exact wkl)); (focus ((unfold cnS6); (try dsimp only); exact wkh))
     ·refine c_turn (n' := 2) (fun _ h => h) (fun _ h => h) rfl ?_
      have w1 := bl_top (rwcond_c cnd0 [] rfl (by decide) (by decide))
      have w2 := bl_top (rwrite5_c x0 ([] ++ encD cnd0) hrc0 hxn0 (by have := encD_len (d := cnd0) rfl; rw [List.nil_append]; omega))
      have hbl : ([] ++ encD cnd0 ++ encCh x0).length < 10000000 := by have := encD_len (d := cnd0) rfl; have := (encCh_len hrc0).2; rw [List.nil_append, List.length_append]; omega
      have hix : 0 ≤ (0 : Int) ∧ (xs.map chrow)[(0 : Int).toNat]? = some (chrow x0) ∧ (chrow x0).length = 6 := ⟨Int.le_refl 0, by show (xs.map chrow)[0]? = _; rw [List.getElem?_map, hx0]; rfl, rfl⟩
      have hz9 : (xs.map chrow).length = 9 := by rw [List.length_map]; exact l9
      repeat' (first | (refine no_implicit_lambda% (zH ?_)) | (refine no_implicit_lambda% (splv (fun hc => ?_) (fun hc => ?_)) <;> first | exact zG hc | skip) | (refine no_implicit_lambda% (ans ?_)) | (with_reducible first | exact zI | exact zJ) | (refine no_implicit_lambda% (calw [] (n1) ?_ ?_)) | (refine no_implicit_lambda% (calw [] (w1) ?_ ?_)) | (refine no_implicit_lambda% (calw [] (w2) ?_ ?_)) | fail)
      generalize [] ++ encD cnd0 ++ encCh x0 = b at *
      refine c_loop' (cnS7 R xs b) (fun n => n ≤ b.length + 1) (fun n => b.length + 1 - n) (a := 0) (Nat.zero_le _) ?_ ?_
      ·(refine no_implicit_lambda% (Conv.toT ?_ ?_ (LE0 rfl))); (focus ((unfold cnS7); (try dsimp only); exact wkl)); (focus ((unfold cnS7); (try dsimp only); exact wkh))
      ·rintro n nb
       refine c_turn (n' := 2) (fun _ h => h) (fun _ h => h) rfl ?_
       have hlb : ((b.map brow).length : Int) = b.length := by rw [List.length_map]
       repeat' (first | (refine no_implicit_lambda% (sx1 ?_)) | (refine no_implicit_lambda% (spl (fun hc => ?_) (fun hc => ?_)) <;> first | exact zG hc | skip) | fail)
       refine k_seq ?_
       repeat' (first | (refine no_implicit_lambda% (sx1 ?_)) | (refine no_implicit_lambda% (spl (fun hc => ?_) (fun hc => ?_)) <;> first | exact zG hc | skip) | fail)
       ·have hnb : n ≤ b.length := by have := of_decide_eq_true hc; omega
        have r1 := reads5_c (b.take n) (by rw [List.length_take]; omega)
        have r2 := reads5_c (b.drop n) (by rw [List.length_drop]; omega)
        repeat' (first | (refine no_implicit_lambda% (zH ?_)) | (refine no_implicit_lambda% (spl (fun hc => ?_) (fun hc => ?_)) <;> first | exact zG hc | skip) | (refine no_implicit_lambda% (ans ?_)) | (with_reducible first | exact zI | exact zJ))
        (refine no_implicit_lambda% (aqs ?_ ?_)); focus ((repeat' (refine no_implicit_lambda% (And.intro ?_ ?_))) <;> (first | exact trivial | exact brows b | exact Int.natCast_nonneg _ | omega | (simp; done) | (simp; omega) | ((show (0 : Int) ≤ _); omega)))
        refine k_as (.list ((b.take n).map brow) .free) (by simp [List.map_take, orFull, isFull, isNone]) ?_
        repeat' (first | (refine no_implicit_lambda% (zH ?_)) | (refine no_implicit_lambda% (spl (fun hc => ?_) (fun hc => ?_)) <;> first | exact zG hc | skip) | (refine no_implicit_lambda% (ans ?_)) | (with_reducible first | exact zI | exact zJ) | (refine no_implicit_lambda% (cal [] (r1.top0) ?_ ?_)) | fail)
        (refine no_implicit_lambda% (aqs ?_ ?_)); focus ((repeat' (refine no_implicit_lambda% (And.intro ?_ ?_))) <;> (first | exact trivial | exact brows b | exact Int.natCast_nonneg _ | omega | (simp; done) | (simp; omega) | ((show (0 : Int) ≤ _); omega)))
        refine k_as (.list ((b.drop n).map brow) .free) (by simp [List.map_drop, orFull, isFull, isNone]; rw [List.take_of_length_le (by simp)]) ?_
        repeat' (first | (refine no_implicit_lambda% (zH ?_)) | (refine no_implicit_lambda% (spl (fun hc => ?_) (fun hc => ?_)) <;> first | exact zG hc | skip) | (refine no_implicit_lambda% (ans ?_)) | (with_reducible first | exact zI | exact zJ) | (refine no_implicit_lambda% (cal [] (r2.top0) ?_ ?_)) | fail)
        (refine no_implicit_lambda% (k_loopLT (n + 1) 0 [0, 1] (show n + 1 ≤ b.length + 1 by omega) (by first | omega | (simp; done) | (simp; omega)) (LE0 rfl) (fun _ h => h) (fun _ h => h) ?_ ?_)); (focus ((try dsimp only); exact wkl)); (focus ((try dsimp only); exact wkh))
       ·refine k_seq ?_
        repeat' (first | (refine no_implicit_lambda% (zH ?_)) | (refine no_implicit_lambda% (splv (fun hc => ?_) (fun hc => ?_)) <;> first | exact zG hc | skip) | (refine no_implicit_lambda% (ans ?_)) | (with_reducible first | exact zI | exact zJ) | (refine no_implicit_lambda% (cal [] (n5) ?_ ?_)) | (refine no_implicit_lambda% (cal [] (n6) ?_ ?_)) | fail)
        refine c_loop' (cnS8 R xs) (fun i => i ≤ 6) (fun i => 6 - i) (a := 0) (Nat.zero_le _) ?_ ?_
        ·(refine no_implicit_lambda% (Conv.toT ?_ ?_ (LE0 rfl))); (focus ((unfold cnS8); (try dsimp only); exact wkl)); (focus ((unfold cnS8); (try dsimp only); exact wkh))
        ·rintro i i6
         refine c_turn (n' := 2) (fun _ h => h) (fun _ h => h) rfl ?_
         rcases hd : cds5[i]? with _ | d
         ·have hi : i = 6 := by have h9 := List.getElem?_eq_none_iff.1 hd; have : cds5.length = 6 := rfl; omega
          have p1 := (applies5_c [] xs fine_nil sz_nil hn (by omega)).top0
          have p2 := (applies5_c [] (xs.take 8) fine_nil sz_nil (fun x hx => hn x (List.mem_of_mem_take hx)) (by rw [List.length_take]; omega)).top0
          have p3 := (applies5_c [] (xs.take 4) fine_nil sz_nil (fun x hx => hn x (List.mem_of_mem_take hx)) (by rw [List.length_take]; omega)).top0
          have p4 := (applies5_c [] [] fine_nil sz_nil (fun x hx => by cases hx) (by decide)).top0
          repeat' (first | (refine no_implicit_lambda% (zH ?_)) | (refine no_implicit_lambda% (spl (fun hc => ?_) (fun hc => ?_)) <;> first | exact zG hc | skip) | (refine no_implicit_lambda% (ans ?_)) | (with_reducible first | exact zI | exact zJ))
          (refine no_implicit_lambda% (calw [] (p1) ?_ ?_))
          rotate_left
          ·first | (exact zI) | (exact zJ)
          refine no_implicit_lambda% (ret1 ?_); first | (refine no_implicit_lambda% (akc ?_)) | (refine no_implicit_lambda% (aec ?_))
          repeat' (first | (refine no_implicit_lambda% (zH ?_)) | (refine no_implicit_lambda% (spl (fun hc => ?_) (fun hc => ?_)) <;> first | exact zG hc | skip) | (refine no_implicit_lambda% (ans ?_)) | (with_reducible first | exact zI | exact zJ))
          (refine no_implicit_lambda% (aqs ?_ ?_)); focus ((repeat' (refine no_implicit_lambda% (And.intro ?_ ?_))) <;> (first | exact trivial | exact (chOkR xs).len | exact Int.natCast_nonneg _ | omega | (simp; done) | (simp; omega) | ((show (0 : Int) ≤ _); omega)))
          refine k_as (.list ((xs.take 8).map chrow) .free) (by simp [List.map_take, orFull, isFull, isNone]) ?_
          repeat' (first | (refine no_implicit_lambda% (zH ?_)) | (refine no_implicit_lambda% (spl (fun hc => ?_) (fun hc => ?_)) <;> first | exact zG hc | skip) | (refine no_implicit_lambda% (ans ?_)) | (with_reducible first | exact zI | exact zJ))
          (refine no_implicit_lambda% (calw [] (p2) ?_ ?_))
          rotate_left
          ·first | (exact zI) | (exact zJ)
          refine no_implicit_lambda% (ret1 ?_); first | (refine no_implicit_lambda% (akc ?_)) | (refine no_implicit_lambda% (aec ?_))
          repeat' (first | (refine no_implicit_lambda% (zH ?_)) | (refine no_implicit_lambda% (spl (fun hc => ?_) (fun hc => ?_)) <;> first | exact zG hc | skip) | (refine no_implicit_lambda% (ans ?_)) | (with_reducible first | exact zI | exact zJ))
          (refine no_implicit_lambda% (aqs ?_ ?_)); focus ((repeat' (refine no_implicit_lambda% (And.intro ?_ ?_))) <;> (first | exact trivial | exact (chOkR xs).len | exact Int.natCast_nonneg _ | omega | (simp; done) | (simp; omega) | ((show (0 : Int) ≤ _); omega)))
          refine k_as (.list ((xs.take 4).map chrow) .free) (by simp [List.map_take, orFull, isFull, isNone]) ?_
          repeat' (first | (refine no_implicit_lambda% (zH ?_)) | (refine no_implicit_lambda% (spl (fun hc => ?_) (fun hc => ?_)) <;> first | exact zG hc | skip) | (refine no_implicit_lambda% (ans ?_)) | (with_reducible first | exact zI | exact zJ))
          (refine no_implicit_lambda% (calw [] (p3) ?_ ?_))
          rotate_left
          ·first | (exact zI) | (exact zJ)
          refine no_implicit_lambda% (ret1 ?_); first | (refine no_implicit_lambda% (akc ?_)) | (refine no_implicit_lambda% (aec ?_))
          repeat' (first | (refine no_implicit_lambda% (zH ?_)) | (refine no_implicit_lambda% (spl (fun hc => ?_) (fun hc => ?_)) <;> first | exact zG hc | skip) | (refine no_implicit_lambda% (ans ?_)) | (with_reducible first | exact zI | exact zJ))
          (refine no_implicit_lambda% (calw [] (p4) ?_ ?_))
          rotate_left
          ·first | (exact zI) | (exact zJ)
          refine no_implicit_lambda% (ret1 ?_); first | (refine no_implicit_lambda% (akc ?_)) | (refine no_implicit_lambda% (aec ?_))
          repeat' (first | (refine no_implicit_lambda% (zH ?_)) | (refine no_implicit_lambda% (spl (fun hc => ?_) (fun hc => ?_)) <;> first | exact zG hc | skip) | (refine no_implicit_lambda% (ans ?_)) | (with_reducible first | exact zI | exact zJ) | (refine no_implicit_lambda% (cal [] (hk) ?_ ?_)) | fail)
          exact e_ret (H' := []) (rest := _) rfl ⟨rfl, rfl⟩ permT (LE0 rfl)
         ·have hi : i < 6 := (List.getElem?_eq_some_iff.1 hd).1
          have hix := cdx hd
          have hdo := cds5_ok d (List.mem_of_getElem? hd)
          have hat := fun v (hv : atR R d.c 1099511627776 = some v) => atR_sz hz hv
          have q1 := (holds_c R d (by omega) hz (by have := hdo.1; omega) (fun v hv => by have := (hat v hv).1; omega)).top0
          have q2 := (qholds_c R d (by omega) hz hdo.2 (fun v hv => (hat v hv).2)).top0
          generalize holdR R d = B at *
          cases B
          all_goals
           repeat' (first | (refine no_implicit_lambda% (zH ?_)) | (refine no_implicit_lambda% (splv (fun hc => ?_) (fun hc => ?_)) <;> first | exact zG hc | skip) | (refine no_implicit_lambda% (ans ?_)) | (with_reducible first | exact zI | exact zJ) | (refine no_implicit_lambda% (cal [] (q1) ?_ ?_)) | (refine no_implicit_lambda% (cal [] (q2) ?_ ?_)) | fail)
           (refine no_implicit_lambda% (k_loopLT (i + 1) 0 [0, 1] (show i + 1 ≤ 6 from hi) (by first | omega | (simp; done) | (simp; omega)) (LE0 rfl) (fun _ h => h) (fun _ h => h) ?_ ?_)); (focus ((try dsimp only); exact wkl)); (focus ((try dsimp only); exact wkh))
end Go.Proofs.YtncffhgoopdfgaaGreat
