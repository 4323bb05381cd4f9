/- Part 15 of what the laws ChangeNumbers rest on: CtB, CtC. -/
import Derived.Test.YtncffhgoopdfgaaGreatP14
set_option linter.unusedSimpArgs false
set_option linter.unusedVariables false
namespace Go.Proofs.YtncffhgoopdfgaaGreat
open Go.Am
set_option maxRecDepth 100000
def rcB (d : Cd) : Bool := !d.has || nmB d.c && (!d.want || vRt d.v)
def encD (d : Cd) : List UInt8 := if d.has then (if d.want then [2] ++ encT d.c ++ encA d.v else [1] ++ encT d.c) else [0]
theorem rcond_c (d : Cd) : ACalls Tryz.prog 74 0 50 [.agg (cdrow d)] [] (fun out H' => out = .ret (.v (.bool (rcB d))) ∧ H' = []) := by
 have h1 := rname_c d.c
 have h2 : ACalls Tryz.prog 133 0 10 [vav d.v] [] (fun out H' => out = .ret (.v (.bool (vRt d.v))) ∧ H' = []) := refRight_c d.v
 obtain ⟨has, want, c, v⟩ := d
 unfold rcB
 dsimp only at *
 generalize nmB c = n at *
 generalize vRt v = r at *
 cases has <;> cases want <;> cases n <;> cases r
 all_goals
  refine no_implicit_lambda% (acalls_of tok dok (f := 74) ⟨Tryz.func74, rfl, by kernel_rfl⟩ ?_); refine no_implicit_lambda% (c_start (fun _ h => h) ?_)
  repeat' (first | (refine no_implicit_lambda% (zH ?_)) | (refine no_implicit_lambda% (spl (fun hc => ?_) (fun hc => ?_)) <;> first | exact zG hc | skip) | (refine no_implicit_lambda% (ans ?_)) | (with_reducible first | exact zI | exact zJ) | (refine no_implicit_lambda% (cal [] (h1) ?_ ?_)) | (refine no_implicit_lambda% (cal [] (h2) ?_ ?_)) | fail)
  exact e_ret (H' := []) (rest := _) rfl ⟨rfl, rfl⟩ permT (LE0 rfl)
theorem encD_len {d : Cd} (h : rcB d = true) : (encD d).length ≤ 46 := by
 obtain ⟨has, want, c, v⟩ := d
 unfold rcB at h
 unfold encD
 dsimp only at *
 cases has
 ·simp
 ·cases want
  ·simp at h
   have := nmB_len h
   simp only [if_true, Bool.false_eq_true, if_false, List.length_append, encT_len, List.length_singleton]; omega
  ·simp at h
   have := nmB_len h.1
   have := encA_lw (vRt_len h.2)
   simp only [if_true, List.length_append, encT_len, List.length_singleton]; omega
set_option maxHeartbeats 6400000 in
theorem wcond_c (d : Cd) (l : List UInt8) (hd : rcB d = true) (hn : d.v.n < 18446744073709551616) (hl : l.length < 10000000) : ACalls Tryz.prog 75 2 200 [.ptr 0 0, .agg (cdrow d)] (wr l) (fun out H' => out = .ret (.tuple []) ∧ H' = wr (l ++ encD d)) := by
 obtain ⟨has, want, c, v⟩ := d
 unfold rcB at hd
 dsimp only at *
 cases has
 ·have hb := byte_c l 0 (by omega)
  refine no_implicit_lambda% (acalls_of tok dok (f := 75) ⟨Tryz.func75, rfl, by kernel_rfl⟩ ?_); refine no_implicit_lambda% (c_start (fun _ h => h) ?_)
  repeat' (first | (refine no_implicit_lambda% (zH ?_)) | (refine no_implicit_lambda% (spl (fun hc => ?_) (fun hc => ?_)) <;> first | exact zG hc | skip) | (refine no_implicit_lambda% (ans ?_)) | (with_reducible first | exact zI | exact zJ) | (refine no_implicit_lambda% (cal [0, 1] (hb) ?_ ?_)) | fail)
  exact e_ret (H' := wr (l ++ [0])) (rest := _) rfl ⟨rfl, rfl⟩ permT (LE0 rfl)
 ·cases want
  ·simp at hd
   have hc16 := nmB_len hd
   have hb := byte_c l 1 (by omega)
   have ht := text_c (l ++ [1]) c.data.toList (by omega) (by simp; omega)
   rw [if_pos (by omega)] at ht
   have he : l ++ encD ⟨true, false, c, v⟩ = l ++ [1] ++ encT c := by show l ++ ([1] ++ encT c) = _; simp only [List.append_assoc]
   rw [he]
   refine no_implicit_lambda% (acalls_of tok dok (f := 75) ⟨Tryz.func75, rfl, by kernel_rfl⟩ ?_); refine no_implicit_lambda% (c_start (fun _ h => h) ?_)
   repeat' (first | (refine no_implicit_lambda% (zH ?_)) | (refine no_implicit_lambda% (spl (fun hc => ?_) (fun hc => ?_)) <;> first | exact zG hc | skip) | (refine no_implicit_lambda% (ans ?_)) | (with_reducible first | exact zI | exact zJ) | (refine no_implicit_lambda% (cal [0, 1] (hb) ?_ ?_)) | fail)
   refine no_implicit_lambda% (aqs ?_ ?_)
   ·show c.data.toList.length ≤ 4611686018427387904
    omega
   repeat' (first | (refine no_implicit_lambda% (zH ?_)) | (refine no_implicit_lambda% (spl (fun hc => ?_) (fun hc => ?_)) <;> first | exact zG hc | skip) | (refine no_implicit_lambda% (ans ?_)) | (with_reducible first | exact zI | exact zJ) | (refine no_implicit_lambda% (cal [0, 1] (ht) ?_ ?_)) | fail)
   exact e_ret (H' := wr (l ++ [1] ++ encT c)) (rest := _) rfl ⟨rfl, rfl⟩ permT (LE0 rfl)
  ·simp at hd
   have hc16 := nmB_len hd.1
   have hv20 := vRt_len hd.2
   have hb := byte_c l 2 (by omega)
   have ht := text_c (l ++ [2]) c.data.toList (by omega) (by simp; omega)
   rw [if_pos (by omega)] at ht
   have hpa := putA_w v hv20 hn (l ++ [2] ++ encT c) (by simp only [List.length_append, encT_len, List.length_singleton]; omega)
   have he : l ++ encD ⟨true, true, c, v⟩ = l ++ [2] ++ encT c ++ encA v := by show l ++ ([2] ++ encT c ++ encA v) = _; simp only [List.append_assoc]
   rw [he]
   refine no_implicit_lambda% (acalls_of tok dok (f := 75) ⟨Tryz.func75, rfl, by kernel_rfl⟩ ?_); refine no_implicit_lambda% (c_start (fun _ h => h) ?_)
   repeat' (first | (refine no_implicit_lambda% (zH ?_)) | (refine no_implicit_lambda% (spl (fun hc => ?_) (fun hc => ?_)) <;> first | exact zG hc | skip) | (refine no_implicit_lambda% (ans ?_)) | (with_reducible first | exact zI | exact zJ) | (refine no_implicit_lambda% (cal [0, 1] (hb) ?_ ?_)) | fail)
   refine no_implicit_lambda% (aqs ?_ ?_)
   ·show c.data.toList.length ≤ 4611686018427387904
    omega
   repeat' (first | (refine no_implicit_lambda% (zH ?_)) | (refine no_implicit_lambda% (spl (fun hc => ?_) (fun hc => ?_)) <;> first | exact zG hc | skip) | (refine no_implicit_lambda% (ans ?_)) | (with_reducible first | exact zI | exact zJ) | (refine no_implicit_lambda% (cal [0, 1] (ht) ?_ ?_)) | (refine no_implicit_lambda% (cal [0, 1] (hpa) ?_ ?_)) | fail)
   exact e_ret (H' := wr (l ++ [2] ++ encT c ++ encA v)) (rest := _) rfl ⟨rfl, rfl⟩ permT (LE0 rfl)
set_option maxHeartbeats 6400000 in
theorem rwcond_c (d : Cd) (p : List UInt8) (hd : rcB d = true) (hn : d.v.n < 18446744073709551616) (hp : p.length < 10000000) : ACalls Tryz.prog 23 0 300 [.list (p.map brow) .free, .agg (cdrow d)] [] (fun out H' => out = .ret (.list ((p ++ encD d).map brow) .free) ∧ H' = []) := by
 obtain ⟨has, want, c, v⟩ := d
 unfold rcB at hd
 dsimp only at *
 have r1 : ∀ row ∈ p.map brow, row.length = 1 := fun row h => by obtain ⟨_, _, rfl⟩ := List.mem_map.1 h; rfl
 have b1 : (p.map brow).length < 10000000 := by rw [List.length_map]; exact hp
 have b2 : ([] ++ p.map brow).length < 10000000 := b1
 have app0 : ∀ n : UInt8, [] ++ p.map brow ++ [[AV.v (.int .u8 n.toNat)]] = (p ++ [n]).map brow := fun n => by simp [brow]
 cases has
 ·refine no_implicit_lambda% (acalls_of tok dok (f := 23) ⟨Tryz.func23, rfl, by kernel_rfl⟩ ?_); refine no_implicit_lambda% (c_start (fun _ h => h) ?_)
  repeat' (first | (refine no_implicit_lambda% (zH ?_)) | (refine no_implicit_lambda% (splv (fun hc => ?_) (fun hc => ?_)) <;> first | exact zG hc | skip) | (refine no_implicit_lambda% (ans ?_)) | (with_reducible first | exact zI | exact zJ))
  rw [show [] ++ p.map brow ++ [[AV.v (.int .u8 0)]] = (p ++ [0]).map brow by simp [brow]]
  exact e_ret_to (H' := []) (rest := _) (.freeSlot 4 rfl) rfl ⟨rfl, rfl⟩ (.of_eq rfl) (LE0 rfl)
 ·cases want
  ·simp at hd
   have hc16 := nmB_len hd
   have ht := refText_c (p ++ [1]) c.data.toList (by simp; omega) (by omega)
   have he : p ++ encD ⟨true, false, c, v⟩ = p ++ [1] ++ encT c := by show p ++ ([1] ++ encT c) = _; simp only [List.append_assoc]
   rw [he]
   refine no_implicit_lambda% (acalls_of tok dok (f := 23) ⟨Tryz.func23, rfl, by kernel_rfl⟩ ?_); refine no_implicit_lambda% (c_start (fun _ h => h) ?_)
   repeat' (first | (refine no_implicit_lambda% (zH ?_)) | (refine no_implicit_lambda% (splv (fun hc => ?_) (fun hc => ?_)) <;> first | exact zG hc | skip) | (refine no_implicit_lambda% (ans ?_)) | (with_reducible first | exact zI | exact zJ))
   ((with_reducible refine no_implicit_lambda% (is_ev ?_)); refine no_implicit_lambda% (v_qS rfl rfl rfl rfl (fun _ h => h) (fun _ h => h) ?_ ?_))
   ·show c.data.toList.length ≤ 4611686018427387904
    omega
   repeat' (first | (refine no_implicit_lambda% (zH ?_)) | (refine no_implicit_lambda% (splv (fun hc => ?_) (fun hc => ?_)) <;> first | exact zG hc | skip) | (refine no_implicit_lambda% (ans ?_)) | (with_reducible first | exact zI | exact zJ))
   rw [show [] ++ p.map brow ++ [[AV.v (.int .u8 1)]] = (p ++ [1]).map brow by simp [brow]]
   (refine no_implicit_lambda% (calw [] (ht) ?_ ?_))
   rotate_left
   ·first | (exact zI) | (exact zJ)
   refine no_implicit_lambda% (ret1 ?_); first | (refine no_implicit_lambda% (akc ?_)) | (refine no_implicit_lambda% (aec ?_))
   repeat' (first | (refine no_implicit_lambda% (zH ?_)) | (refine no_implicit_lambda% (splv (fun hc => ?_) (fun hc => ?_)) <;> first | exact zG hc | skip) | (refine no_implicit_lambda% (ans ?_)) | (with_reducible first | exact zI | exact zJ))
   exact e_ret_to (H' := []) (rest := _) (.freeSlot 4 rfl) rfl ⟨rfl, rfl⟩ (.of_eq rfl) (LE0 rfl)
  ·simp at hd
   have hc16 := nmB_len hd.1
   have hv20 := vRt_len hd.2
   have ht := refText_c (p ++ [2]) c.data.toList (by simp; omega) (by omega)
   have hpa := refPutP_w (p ++ [2] ++ encT c) v (by simp only [List.length_append, encT_len, List.length_singleton]; omega) hv20 hn
   have he : p ++ encD ⟨true, true, c, v⟩ = p ++ [2] ++ encT c ++ encA v := by show p ++ ([2] ++ encT c ++ encA v) = _; simp only [List.append_assoc]
   rw [he]
   refine no_implicit_lambda% (acalls_of tok dok (f := 23) ⟨Tryz.func23, rfl, by kernel_rfl⟩ ?_); refine no_implicit_lambda% (c_start (fun _ h => h) ?_)
   repeat' (first | (refine no_implicit_lambda% (zH ?_)) | (refine no_implicit_lambda% (splv (fun hc => ?_) (fun hc => ?_)) <;> first | exact zG hc | skip) | (refine no_implicit_lambda% (ans ?_)) | (with_reducible first | exact zI | exact zJ))
   ((with_reducible refine no_implicit_lambda% (is_ev ?_)); refine no_implicit_lambda% (v_qS rfl rfl rfl rfl (fun _ h => h) (fun _ h => h) ?_ ?_))
   ·show c.data.toList.length ≤ 4611686018427387904
    omega
   repeat' (first | (refine no_implicit_lambda% (zH ?_)) | (refine no_implicit_lambda% (splv (fun hc => ?_) (fun hc => ?_)) <;> first | exact zG hc | skip) | (refine no_implicit_lambda% (ans ?_)) | (with_reducible first | exact zI | exact zJ))
   rw [show [] ++ p.map brow ++ [[AV.v (.int .u8 2)]] = (p ++ [2]).map brow by simp [brow]]
   (refine no_implicit_lambda% (calw [] (ht) ?_ ?_))
   rotate_left
   ·first | (exact zI) | (exact zJ)
   refine no_implicit_lambda% (ret1 ?_); first | (refine no_implicit_lambda% (akc ?_)) | (refine no_implicit_lambda% (aec ?_))
   repeat' (first | (refine no_implicit_lambda% (zH ?_)) | (refine no_implicit_lambda% (splv (fun hc => ?_) (fun hc => ?_)) <;> first | exact zG hc | skip) | (refine no_implicit_lambda% (ans ?_)) | (with_reducible first | exact zI | exact zJ))
   (refine no_implicit_lambda% (calw [] (hpa) ?_ ?_))
   rotate_left
   ·first | (exact zI) | (exact zJ)
   refine no_implicit_lambda% (ret1 ?_); first | (refine no_implicit_lambda% (akc ?_)) | (refine no_implicit_lambda% (aec ?_))
   repeat' (first | (refine no_implicit_lambda% (zH ?_)) | (refine no_implicit_lambda% (splv (fun hc => ?_) (fun hc => ?_)) <;> first | exact zG hc | skip) | (refine no_implicit_lambda% (ans ?_)) | (with_reducible first | exact zI | exact zJ))
   exact e_ret (H' := []) (rest := _) rfl ⟨rfl, rfl⟩ permT (LE0 rfl)
theorem qholds_c (o : List Co) (d : Cd) (ho : o.length < 70368744177664) (hz : RowSz o) (hn : d.v.n < 18446744073709551616) (hat2 : ∀ v, atR o d.c 1099511627776 = some v → v.n < 18446744073709551616) : ACalls Tryz.prog 26 0 9000 [rowA o, .agg (cdrow d)] [] (fun out H' => out = .ret (.v (.bool (holdR o d))) ∧ H' = []) := by
 obtain ⟨has, want, c, v⟩ := d
 have p4 := qnewest_c o c ho hz
 unfold holdR
 dsimp only at hat2 hn ⊢
 rcases hat : atR o c 1099511627776 with _ | ov
 ·rw [hat] at p4
  unfold optA at p4
  cases has <;> cases want
  all_goals
   refine no_implicit_lambda% (acalls_of tok dok (f := 26) ⟨Tryz.func26, rfl, by kernel_rfl⟩ ?_); refine no_implicit_lambda% (c_start (fun _ h => h) ?_)
   repeat' (first | (refine no_implicit_lambda% (zH ?_)) | (refine no_implicit_lambda% (spl (fun hc => ?_) (fun hc => ?_)) <;> first | exact zG hc | skip) | (refine no_implicit_lambda% (ans ?_)) | (with_reducible first | exact zI | exact zJ) | (refine no_implicit_lambda% (cal [] (p4) ?_ ?_)) | fail)
   exact e_ret (H' := []) (rest := _) rfl ⟨rfl, rfl⟩ permT (LE0 rfl)
 ·rw [hat] at p4
  unfold optA at p4
  have ps := refSame_c ov v (hat2 ov hat) hn
  cases has <;> cases want
  all_goals
   refine no_implicit_lambda% (acalls_of tok dok (f := 26) ⟨Tryz.func26, rfl, by kernel_rfl⟩ ?_); refine no_implicit_lambda% (c_start (fun _ h => h) ?_)
   repeat' (first | (refine no_implicit_lambda% (zH ?_)) | (refine no_implicit_lambda% (spl (fun hc => ?_) (fun hc => ?_)) <;> first | exact zG hc | skip) | (refine no_implicit_lambda% (ans ?_)) | (with_reducible first | exact zI | exact zJ) | (refine no_implicit_lambda% (cal [] (p4) ?_ ?_)) | (refine no_implicit_lambda% (cal [] (ps) ?_ ?_)) | fail)
   all_goals exact e_ret (H' := []) (rest := _) rfl ⟨rfl, rfl⟩ permT (LE0 rfl)
end Go.Proofs.YtncffhgoopdfgaaGreat
namespace Go.Proofs.YtncffhgoopdfgaaGreat
open Go.Am
set_option maxRecDepth 100000
def chR (x : Ch) (r : List UInt8) : Option (Ch × List UInt8) := if rightC x = 0 then some (x, r) else none
noncomputable def chK (k : Nat) (r : List UInt8) : Option (Ch × List UInt8) :=
 if k = 4 then chR ⟨4, ⟨#[]⟩, 0, ⟨0, [], 0⟩⟩ r else
 if k = 3 then bnd (pX r) fun s r1 => chR ⟨3, ⟨s.toArray⟩, 0, ⟨0, [], 0⟩⟩ r1 else
 if k = 2 then bnd (pX r) fun s r1 => bnd (pL r1) fun t r2 => chR ⟨2, ⟨s.toArray⟩, IntKind.i64.wrap (t : Int), ⟨0, [], 0⟩⟩ r2 else
 if k = 1 ∨ k = 5 then bnd (pX r) fun s r1 => bnd (pL r1) fun t r2 => bnd (pV r2) fun v r3 => chR ⟨k, ⟨s.toArray⟩, IntKind.i64.wrap (t : Int), v⟩ r3 else none
noncomputable def pCh (l : List UInt8) : Option (Ch × List UInt8) := bnd (pB l) chK
def ChB (x : Ch) : Prop := x.v.b.length ≤ 16 ∧ x.v.n < 18446744073709551616
set_option maxHeartbeats 6400000 in
theorem take5_c (l : List UInt8) (hl : l.length < 10000000) : ACalls Tryz.prog 80 1 1000 [.ptr 0 0] (rd l) (fun out H' => (∃ x r, pCh l = some (x, r) ∧ (ChB x ∧ rightC x = 0 ∧ r.length ≤ l.length) ∧ out = .ret (.agg (chrow x)) ∧ H' = rd r) ∨ (pCh l = none ∧ out = gone ∧ H' = [])) := by
 refine no_implicit_lambda% (acalls_of tok dok (f := 80) ⟨Tryz.func80, rfl, by kernel_rfl⟩ ?_); refine no_implicit_lambda% (c_start (fun _ h => h) ?_)
 repeat' (first | (refine no_implicit_lambda% (zH ?_)) | (refine no_implicit_lambda% (spl (fun hc => ?_) (fun hc => ?_)) <;> first | exact zG hc | skip) | (refine no_implicit_lambda% (ans ?_)) | (with_reducible first | exact zI | exact zJ))
 (refine no_implicit_lambda% (cal [0] (rB_c l (by omega)) ?_ ?_))
 rotate_left
 ·intro xx H' hh; rcases hh with ⟨_, _, _, _, h', _⟩ | ⟨hN, h', rfl⟩ <;> first | (cases h'; done) | (cases h'; repeat' (first | (refine no_implicit_lambda% (zH ?_)) | (refine no_implicit_lambda% (spl (fun hc => ?_) (fun hc => ?_)) <;> first | exact zG hc | skip) | (refine no_implicit_lambda% (ans ?_)) | (with_reducible first | exact zI | exact zJ)); exact e_pan (H' := []) (rest := _) (.inr ⟨by (unfold pCh; rw [hN]; rfl), rfl, rfl⟩) permT (LE0 rfl))
 intro xx H' hh
 rcases hh with ⟨N, r0, hB, ⟨hN, hr0⟩, h', rfl⟩ | ⟨_, h', _⟩
 rotate_left
 ·cases h'
 cases h'
 first | (refine no_implicit_lambda% (akc ?_)) | (refine no_implicit_lambda% (aec ?_))
 repeat' (first | (refine no_implicit_lambda% (zH ?_)) | (refine no_implicit_lambda% (spl (fun hc => ?_) (fun hc => ?_)) <;> first | exact zG hc | skip) | (refine no_implicit_lambda% (ans ?_)) | (with_reducible first | exact zI | exact zJ))
 rw [show IntKind.i64.wrap (N : Int) = (N : Int) from z64 (by omega) (by omega)]
 have h0 := asks_c (N : Int)
 have hP : pCh l = chK N r0 := by unfold pCh; rw [hB]; rfl
 have hN5 : N = 1 ∨ N = 5 ∨ N = 2 ∨ N = 3 ∨ N = 4 ∨ ¬ (1 ≤ N ∧ N ≤ 5) := by omega
 rcases hN5 with rfl | rfl | rfl | rfl | rfl | hno
 ·replace hP : pCh l = bnd (pX r0) fun s r1 => bnd (pL r1) fun t r2 => bnd (pV r2) fun v r3 => chR ⟨1, ⟨s.toArray⟩, IntKind.i64.wrap (t : Int), v⟩ r3 := hP
  repeat' (first | (refine no_implicit_lambda% (zH ?_)) | (refine no_implicit_lambda% (spl (fun hc => ?_) (fun hc => ?_)) <;> first | exact zG hc | skip) | (refine no_implicit_lambda% (ans ?_)) | (with_reducible first | exact zI | exact zJ) | (refine no_implicit_lambda% (cal [] (h0) ?_ ?_)) | fail)
  (refine no_implicit_lambda% (cal [0] (rX_c r0 (by omega)) ?_ ?_))
  rotate_left
  ·intro xx H' hh; rcases hh with ⟨_, _, _, _, h', _⟩ | ⟨hN, h', rfl⟩ <;> first | (cases h'; done) | (cases h'; repeat' (first | (refine no_implicit_lambda% (zH ?_)) | (refine no_implicit_lambda% (spl (fun hc => ?_) (fun hc => ?_)) <;> first | exact zG hc | skip) | (refine no_implicit_lambda% (ans ?_)) | (with_reducible first | exact zI | exact zJ)); exact e_pan (H' := []) (rest := _) (.inr ⟨by (rw [hP, hN]; rfl), rfl, rfl⟩) permT (LE0 rfl))
  intro xx H' hh
  rcases hh with ⟨s, r1, hX, ⟨hs16, hr1⟩, h', rfl⟩ | ⟨_, h', _⟩
  rotate_left
  ·cases h'
  cases h'
  first | (refine no_implicit_lambda% (akc ?_)) | (refine no_implicit_lambda% (aec ?_))
  rw [hX, bnd_some] at hP
  repeat' (first | (refine no_implicit_lambda% (zH ?_)) | (refine no_implicit_lambda% (spl (fun hc => ?_) (fun hc => ?_)) <;> first | exact zG hc | skip) | (refine no_implicit_lambda% (ans ?_)) | (with_reducible first | exact zI | exact zJ))
  (refine no_implicit_lambda% (cal [0] (rL_c r1 (by omega)) ?_ ?_))
  rotate_left
  ·intro xx H' hh; rcases hh with ⟨_, _, _, _, h', _⟩ | ⟨hN, h', rfl⟩ <;> first | (cases h'; done) | (cases h'; repeat' (first | (refine no_implicit_lambda% (zH ?_)) | (refine no_implicit_lambda% (spl (fun hc => ?_) (fun hc => ?_)) <;> first | exact zG hc | skip) | (refine no_implicit_lambda% (ans ?_)) | (with_reducible first | exact zI | exact zJ)); exact e_pan (H' := []) (rest := _) (.inr ⟨by (rw [hP, hN]; rfl), rfl, rfl⟩) permT (LE0 rfl))
  intro xx H' hh
  rcases hh with ⟨t, r2, hL, ⟨ht, hr2⟩, h', rfl⟩ | ⟨_, h', _⟩
  rotate_left
  ·cases h'
  cases h'
  first | (refine no_implicit_lambda% (akc ?_)) | (refine no_implicit_lambda% (aec ?_))
  rw [hL, bnd_some] at hP
  repeat' (first | (refine no_implicit_lambda% (zH ?_)) | (refine no_implicit_lambda% (spl (fun hc => ?_) (fun hc => ?_)) <;> first | exact zG hc | skip) | (refine no_implicit_lambda% (ans ?_)) | (with_reducible first | exact zI | exact zJ))
  (refine no_implicit_lambda% (cal [0] (rV_c r2 (by omega)) ?_ ?_))
  rotate_left
  ·intro xx H' hh; rcases hh with ⟨_, _, _, _, h', _⟩ | ⟨hN, h', rfl⟩ <;> first | (cases h'; done) | (cases h'; repeat' (first | (refine no_implicit_lambda% (zH ?_)) | (refine no_implicit_lambda% (spl (fun hc => ?_) (fun hc => ?_)) <;> first | exact zG hc | skip) | (refine no_implicit_lambda% (ans ?_)) | (with_reducible first | exact zI | exact zJ)); exact e_pan (H' := []) (rest := _) (.inr ⟨by (rw [hP, hN]; rfl), rfl, rfl⟩) permT (LE0 rfl))
  intro xx H' hh
  rcases hh with ⟨v, r3, hV, ⟨hv, hr3⟩, h', rfl⟩ | ⟨_, h', _⟩
  rotate_left
  ·cases h'
  cases h'
  first | (refine no_implicit_lambda% (akc ?_)) | (refine no_implicit_lambda% (aec ?_))
  rw [hV, bnd_some] at hP
  repeat' (first | (refine no_implicit_lambda% (zH ?_)) | (refine no_implicit_lambda% (spl (fun hc => ?_) (fun hc => ?_)) <;> first | exact zG hc | skip) | (refine no_implicit_lambda% (ans ?_)) | (with_reducible first | exact zI | exact zJ))
  have hro := right5_c (⟨1, ⟨s.toArray⟩, IntKind.i64.wrap (t : Int), v⟩ : Ch)
  have hfc := fail_c r3
  unfold chR at hP
  repeat' (first | (refine no_implicit_lambda% (zH ?_)) | (refine no_implicit_lambda% (spl (fun hc => ?_) (fun hc => ?_)) <;> first | exact zG hc | skip) | (refine no_implicit_lambda% (ans ?_)) | (with_reducible first | exact zI | exact zJ) | (refine no_implicit_lambda% (cal [] (hro) ?_ ?_)) | fail)
  ·have hb : rightC (⟨1, ⟨s.toArray⟩, IntKind.i64.wrap (t : Int), v⟩ : Ch) ≠ 0 := by simpa using hc
   rw [if_neg hb] at hP
   (refine no_implicit_lambda% (cal [0] (hfc) ?_ ?_))
   ·first | (exact zI) | (exact zJ)
   ·intro xx H' hh
    obtain ⟨h', rfl⟩ := hh
    cases h'
    repeat' (first | (refine no_implicit_lambda% (zH ?_)) | (refine no_implicit_lambda% (spl (fun hc => ?_) (fun hc => ?_)) <;> first | exact zG hc | skip) | (refine no_implicit_lambda% (ans ?_)) | (with_reducible first | exact zI | exact zJ))
    exact e_pan (H' := []) (rest := _) (.inr ⟨hP, rfl, rfl⟩) permT (LE0 rfl)
  ·have hb : rightC (⟨1, ⟨s.toArray⟩, IntKind.i64.wrap (t : Int), v⟩ : Ch) = 0 := by simpa using hc
   rw [if_pos hb] at hP
   refine e_ret_to (H' := rd r3) (rest := [(1, .box (chrow (⟨1, ⟨s.toArray⟩, IntKind.i64.wrap (t : Int), v⟩ : Ch)))]) (Conv.toT (τ := ⟨_, [(1, .box (chrow (⟨1, ⟨s.toArray⟩, IntKind.i64.wrap (t : Int), v⟩ : Ch))), (0, .box [.list (r3.map brow) .free])], _⟩) (.refl _) ?_ (Nat.le_refl _)) rfl (.inl ⟨(⟨1, ⟨s.toArray⟩, IntKind.i64.wrap (t : Int), v⟩ : Ch), r3, hP, ⟨hv, hb, (by omega)⟩, rfl, rfl⟩) permT (LE0 rfl)
   exact wkh
 ·replace hP : pCh l = bnd (pX r0) fun s r1 => bnd (pL r1) fun t r2 => bnd (pV r2) fun v r3 => chR ⟨5, ⟨s.toArray⟩, IntKind.i64.wrap (t : Int), v⟩ r3 := hP
  repeat' (first | (refine no_implicit_lambda% (zH ?_)) | (refine no_implicit_lambda% (spl (fun hc => ?_) (fun hc => ?_)) <;> first | exact zG hc | skip) | (refine no_implicit_lambda% (ans ?_)) | (with_reducible first | exact zI | exact zJ) | (refine no_implicit_lambda% (cal [] (h0) ?_ ?_)) | fail)
  (refine no_implicit_lambda% (cal [0] (rX_c r0 (by omega)) ?_ ?_))
  rotate_left
  ·intro xx H' hh; rcases hh with ⟨_, _, _, _, h', _⟩ | ⟨hN, h', rfl⟩ <;> first | (cases h'; done) | (cases h'; repeat' (first | (refine no_implicit_lambda% (zH ?_)) | (refine no_implicit_lambda% (spl (fun hc => ?_) (fun hc => ?_)) <;> first | exact zG hc | skip) | (refine no_implicit_lambda% (ans ?_)) | (with_reducible first | exact zI | exact zJ)); exact e_pan (H' := []) (rest := _) (.inr ⟨by (rw [hP, hN]; rfl), rfl, rfl⟩) permT (LE0 rfl))
  intro xx H' hh
  rcases hh with ⟨s, r1, hX, ⟨hs16, hr1⟩, h', rfl⟩ | ⟨_, h', _⟩
  rotate_left
  ·cases h'
  cases h'
  first | (refine no_implicit_lambda% (akc ?_)) | (refine no_implicit_lambda% (aec ?_))
  rw [hX, bnd_some] at hP
  repeat' (first | (refine no_implicit_lambda% (zH ?_)) | (refine no_implicit_lambda% (spl (fun hc => ?_) (fun hc => ?_)) <;> first | exact zG hc | skip) | (refine no_implicit_lambda% (ans ?_)) | (with_reducible first | exact zI | exact zJ))
  (refine no_implicit_lambda% (cal [0] (rL_c r1 (by omega)) ?_ ?_))
  rotate_left
  ·intro xx H' hh; rcases hh with ⟨_, _, _, _, h', _⟩ | ⟨hN, h', rfl⟩ <;> first | (cases h'; done) | (cases h'; repeat' (first | (refine no_implicit_lambda% (zH ?_)) | (refine no_implicit_lambda% (spl (fun hc => ?_) (fun hc => ?_)) <;> first | exact zG hc | skip) | (refine no_implicit_lambda% (ans ?_)) | (with_reducible first | exact zI | exact zJ)); exact e_pan (H' := []) (rest := _) (.inr ⟨by (rw [hP, hN]; rfl), rfl, rfl⟩) permT (LE0 rfl))
  intro xx H' hh
  rcases hh with ⟨t, r2, hL, ⟨ht, hr2⟩, h', rfl⟩ | ⟨_, h', _⟩
  rotate_left
  ·cases h'
  cases h'
  first | (refine no_implicit_lambda% (akc ?_)) | (refine no_implicit_lambda% (aec ?_))
  rw [hL, bnd_some] at hP
  repeat' (first | (refine no_implicit_lambda% (zH ?_)) | (refine no_implicit_lambda% (spl (fun hc => ?_) (fun hc => ?_)) <;> first | exact zG hc | skip) | (refine no_implicit_lambda% (ans ?_)) | (with_reducible first | exact zI | exact zJ))
  (refine no_implicit_lambda% (cal [0] (rV_c r2 (by omega)) ?_ ?_))
  rotate_left
  ·intro xx H' hh; rcases hh with ⟨_, _, _, _, h', _⟩ | ⟨hN, h', rfl⟩ <;> first | (cases h'; done) | (cases h'; repeat' (first | (refine no_implicit_lambda% (zH ?_)) | (refine no_implicit_lambda% (spl (fun hc => ?_) (fun hc => ?_)) <;> first | exact zG hc | skip) | (refine no_implicit_lambda% (ans ?_)) | (with_reducible first | exact zI | exact zJ)); exact e_pan (H' := []) (rest := _) (.inr ⟨by (rw [hP, hN]; rfl), rfl, rfl⟩) permT (LE0 rfl))
  intro xx H' hh
  rcases hh with ⟨v, r3, hV, ⟨hv, hr3⟩, h', rfl⟩ | ⟨_, h', _⟩
  rotate_left
  ·cases h'
  cases h'
  first | (refine no_implicit_lambda% (akc ?_)) | (refine no_implicit_lambda% (aec ?_))
  rw [hV, bnd_some] at hP
  repeat' (first | (refine no_implicit_lambda% (zH ?_)) | (refine no_implicit_lambda% (spl (fun hc => ?_) (fun hc => ?_)) <;> first | exact zG hc | skip) | (refine no_implicit_lambda% (ans ?_)) | (with_reducible first | exact zI | exact zJ))
  have hro := right5_c (⟨5, ⟨s.toArray⟩, IntKind.i64.wrap (t : Int), v⟩ : Ch)
  have hfc := fail_c r3
  unfold chR at hP
  repeat' (first | (refine no_implicit_lambda% (zH ?_)) | (refine no_implicit_lambda% (spl (fun hc => ?_) (fun hc => ?_)) <;> first | exact zG hc | skip) | (refine no_implicit_lambda% (ans ?_)) | (with_reducible first | exact zI | exact zJ) | (refine no_implicit_lambda% (cal [] (hro) ?_ ?_)) | fail)
  ·have hb : rightC (⟨5, ⟨s.toArray⟩, IntKind.i64.wrap (t : Int), v⟩ : Ch) ≠ 0 := by simpa using hc
   rw [if_neg hb] at hP
   (refine no_implicit_lambda% (cal [0] (hfc) ?_ ?_))
   ·first | (exact zI) | (exact zJ)
   ·intro xx H' hh
    obtain ⟨h', rfl⟩ := hh
    cases h'
    repeat' (first | (refine no_implicit_lambda% (zH ?_)) | (refine no_implicit_lambda% (spl (fun hc => ?_) (fun hc => ?_)) <;> first | exact zG hc | skip) | (refine no_implicit_lambda% (ans ?_)) | (with_reducible first | exact zI | exact zJ))
    exact e_pan (H' := []) (rest := _) (.inr ⟨hP, rfl, rfl⟩) permT (LE0 rfl)
  ·have hb : rightC (⟨5, ⟨s.toArray⟩, IntKind.i64.wrap (t : Int), v⟩ : Ch) = 0 := by simpa using hc
   rw [if_pos hb] at hP
   refine e_ret_to (H' := rd r3) (rest := [(1, .box (chrow (⟨5, ⟨s.toArray⟩, IntKind.i64.wrap (t : Int), v⟩ : Ch)))]) (Conv.toT (τ := ⟨_, [(1, .box (chrow (⟨5, ⟨s.toArray⟩, IntKind.i64.wrap (t : Int), v⟩ : Ch))), (0, .box [.list (r3.map brow) .free])], _⟩) (.refl _) ?_ (Nat.le_refl _)) rfl (.inl ⟨(⟨5, ⟨s.toArray⟩, IntKind.i64.wrap (t : Int), v⟩ : Ch), r3, hP, ⟨hv, hb, (by omega)⟩, rfl, rfl⟩) permT (LE0 rfl)
   exact wkh
 ·replace hP : pCh l = bnd (pX r0) fun s r1 => bnd (pL r1) fun t r2 => chR ⟨2, ⟨s.toArray⟩, IntKind.i64.wrap (t : Int), ⟨0, [], 0⟩⟩ r2 := hP
  repeat' (first | (refine no_implicit_lambda% (zH ?_)) | (refine no_implicit_lambda% (spl (fun hc => ?_) (fun hc => ?_)) <;> first | exact zG hc | skip) | (refine no_implicit_lambda% (ans ?_)) | (with_reducible first | exact zI | exact zJ) | (refine no_implicit_lambda% (cal [] (h0) ?_ ?_)) | fail)
  (refine no_implicit_lambda% (cal [0] (rX_c r0 (by omega)) ?_ ?_))
  rotate_left
  ·intro xx H' hh; rcases hh with ⟨_, _, _, _, h', _⟩ | ⟨hN, h', rfl⟩ <;> first | (cases h'; done) | (cases h'; repeat' (first | (refine no_implicit_lambda% (zH ?_)) | (refine no_implicit_lambda% (spl (fun hc => ?_) (fun hc => ?_)) <;> first | exact zG hc | skip) | (refine no_implicit_lambda% (ans ?_)) | (with_reducible first | exact zI | exact zJ)); exact e_pan (H' := []) (rest := _) (.inr ⟨by (rw [hP, hN]; rfl), rfl, rfl⟩) permT (LE0 rfl))
  intro xx H' hh
  rcases hh with ⟨s, r1, hX, ⟨hs16, hr1⟩, h', rfl⟩ | ⟨_, h', _⟩
  rotate_left
  ·cases h'
  cases h'
  first | (refine no_implicit_lambda% (akc ?_)) | (refine no_implicit_lambda% (aec ?_))
  rw [hX, bnd_some] at hP
  repeat' (first | (refine no_implicit_lambda% (zH ?_)) | (refine no_implicit_lambda% (spl (fun hc => ?_) (fun hc => ?_)) <;> first | exact zG hc | skip) | (refine no_implicit_lambda% (ans ?_)) | (with_reducible first | exact zI | exact zJ))
  (refine no_implicit_lambda% (cal [0] (rL_c r1 (by omega)) ?_ ?_))
  rotate_left
  ·intro xx H' hh; rcases hh with ⟨_, _, _, _, h', _⟩ | ⟨hN, h', rfl⟩ <;> first | (cases h'; done) | (cases h'; repeat' (first | (refine no_implicit_lambda% (zH ?_)) | (refine no_implicit_lambda% (spl (fun hc => ?_) (fun hc => ?_)) <;> first | exact zG hc | skip) | (refine no_implicit_lambda% (ans ?_)) | (with_reducible first | exact zI | exact zJ)); exact e_pan (H' := []) (rest := _) (.inr ⟨by (rw [hP, hN]; rfl), rfl, rfl⟩) permT (LE0 rfl))
  intro xx H' hh
  rcases hh with ⟨t, r2, hL, ⟨ht, hr2⟩, h', rfl⟩ | ⟨_, h', _⟩
  rotate_left
  ·cases h'
  cases h'
  first | (refine no_implicit_lambda% (akc ?_)) | (refine no_implicit_lambda% (aec ?_))
  rw [hL, bnd_some] at hP
  repeat' (first | (refine no_implicit_lambda% (zH ?_)) | (refine no_implicit_lambda% (spl (fun hc => ?_) (fun hc => ?_)) <;> first | exact zG hc | skip) | (refine no_implicit_lambda% (ans ?_)) | (with_reducible first | exact zI | exact zJ))
  have hro := right5_c (⟨2, ⟨s.toArray⟩, IntKind.i64.wrap (t : Int), ⟨0, [], 0⟩⟩ : Ch)
  have hfc := fail_c r2
  unfold chR at hP
  repeat' (first | (refine no_implicit_lambda% (zH ?_)) | (refine no_implicit_lambda% (spl (fun hc => ?_) (fun hc => ?_)) <;> first | exact zG hc | skip) | (refine no_implicit_lambda% (ans ?_)) | (with_reducible first | exact zI | exact zJ))
  (refine no_implicit_lambda% (calw [] (hro) ?_ ?_))
  rotate_left
  ·first | (exact zI) | (exact zJ)
  refine no_implicit_lambda% (ret1 ?_); first | (refine no_implicit_lambda% (akc ?_)) | (refine no_implicit_lambda% (aec ?_))
  repeat' (first | (refine no_implicit_lambda% (zH ?_)) | (refine no_implicit_lambda% (spl (fun hc => ?_) (fun hc => ?_)) <;> first | exact zG hc | skip) | (refine no_implicit_lambda% (ans ?_)) | (with_reducible first | exact zI | exact zJ))
  ·have hb : rightC (⟨2, ⟨s.toArray⟩, IntKind.i64.wrap (t : Int), ⟨0, [], 0⟩⟩ : Ch) ≠ 0 := by simpa using hc
   rw [if_neg hb] at hP
   (refine no_implicit_lambda% (cal [0] (hfc) ?_ ?_))
   ·first | (exact zI) | (exact zJ)
   ·intro xx H' hh
    obtain ⟨h', rfl⟩ := hh
    cases h'
    repeat' (first | (refine no_implicit_lambda% (zH ?_)) | (refine no_implicit_lambda% (spl (fun hc => ?_) (fun hc => ?_)) <;> first | exact zG hc | skip) | (refine no_implicit_lambda% (ans ?_)) | (with_reducible first | exact zI | exact zJ))
    exact e_pan (H' := []) (rest := _) (.inr ⟨hP, rfl, rfl⟩) permT (LE0 rfl)
  ·have hb : rightC (⟨2, ⟨s.toArray⟩, IntKind.i64.wrap (t : Int), ⟨0, [], 0⟩⟩ : Ch) = 0 := by simpa using hc
   rw [if_pos hb] at hP
   refine e_ret_to (H' := rd r2) (rest := [(1, .box (chrow (⟨2, ⟨s.toArray⟩, IntKind.i64.wrap (t : Int), ⟨0, [], 0⟩⟩ : Ch)))]) (Conv.toT (τ := ⟨_, [(1, .box (chrow (⟨2, ⟨s.toArray⟩, IntKind.i64.wrap (t : Int), ⟨0, [], 0⟩⟩ : Ch))), (0, .box [.list (r2.map brow) .free])], _⟩) (.refl _) ?_ (Nat.le_refl _)) rfl (.inl ⟨(⟨2, ⟨s.toArray⟩, IntKind.i64.wrap (t : Int), ⟨0, [], 0⟩⟩ : Ch), r2, hP, ⟨⟨Nat.zero_le _, (by show (0 : Nat) < 18446744073709551616; decide)⟩, hb, (by omega)⟩, rfl, rfl⟩) permT (LE0 rfl)
   exact wkh
 ·replace hP : pCh l = bnd (pX r0) fun s r1 => chR ⟨3, ⟨s.toArray⟩, 0, ⟨0, [], 0⟩⟩ r1 := hP
  repeat' (first | (refine no_implicit_lambda% (zH ?_)) | (refine no_implicit_lambda% (spl (fun hc => ?_) (fun hc => ?_)) <;> first | exact zG hc | skip) | (refine no_implicit_lambda% (ans ?_)) | (with_reducible first | exact zI | exact zJ) | (refine no_implicit_lambda% (cal [] (h0) ?_ ?_)) | fail)
  (refine no_implicit_lambda% (cal [0] (rX_c r0 (by omega)) ?_ ?_))
  rotate_left
  ·intro xx H' hh; rcases hh with ⟨_, _, _, _, h', _⟩ | ⟨hN, h', rfl⟩ <;> first | (cases h'; done) | (cases h'; repeat' (first | (refine no_implicit_lambda% (zH ?_)) | (refine no_implicit_lambda% (spl (fun hc => ?_) (fun hc => ?_)) <;> first | exact zG hc | skip) | (refine no_implicit_lambda% (ans ?_)) | (with_reducible first | exact zI | exact zJ)); exact e_pan (H' := []) (rest := _) (.inr ⟨by (rw [hP, hN]; rfl), rfl, rfl⟩) permT (LE0 rfl))
  intro xx H' hh
  rcases hh with ⟨s, r1, hX, ⟨hs16, hr1⟩, h', rfl⟩ | ⟨_, h', _⟩
  rotate_left
  ·cases h'
  cases h'
  first | (refine no_implicit_lambda% (akc ?_)) | (refine no_implicit_lambda% (aec ?_))
  rw [hX, bnd_some] at hP
  repeat' (first | (refine no_implicit_lambda% (zH ?_)) | (refine no_implicit_lambda% (spl (fun hc => ?_) (fun hc => ?_)) <;> first | exact zG hc | skip) | (refine no_implicit_lambda% (ans ?_)) | (with_reducible first | exact zI | exact zJ))
  have hro := right5_c (⟨3, ⟨s.toArray⟩, 0, ⟨0, [], 0⟩⟩ : Ch)
  have hfc := fail_c r1
  unfold chR at hP
  repeat' (first | (refine no_implicit_lambda% (zH ?_)) | (refine no_implicit_lambda% (spl (fun hc => ?_) (fun hc => ?_)) <;> first | exact zG hc | skip) | (refine no_implicit_lambda% (ans ?_)) | (with_reducible first | exact zI | exact zJ))
  (refine no_implicit_lambda% (calw [] (hro) ?_ ?_))
  rotate_left
  ·first | (exact zI) | (exact zJ)
  refine no_implicit_lambda% (ret1 ?_); first | (refine no_implicit_lambda% (akc ?_)) | (refine no_implicit_lambda% (aec ?_))
  repeat' (first | (refine no_implicit_lambda% (zH ?_)) | (refine no_implicit_lambda% (spl (fun hc => ?_) (fun hc => ?_)) <;> first | exact zG hc | skip) | (refine no_implicit_lambda% (ans ?_)) | (with_reducible first | exact zI | exact zJ))
  ·have hb : rightC (⟨3, ⟨s.toArray⟩, 0, ⟨0, [], 0⟩⟩ : Ch) ≠ 0 := by simpa using hc
   rw [if_neg hb] at hP
   (refine no_implicit_lambda% (cal [0] (hfc) ?_ ?_))
   ·first | (exact zI) | (exact zJ)
   ·intro xx H' hh
    obtain ⟨h', rfl⟩ := hh
    cases h'
    repeat' (first | (refine no_implicit_lambda% (zH ?_)) | (refine no_implicit_lambda% (spl (fun hc => ?_) (fun hc => ?_)) <;> first | exact zG hc | skip) | (refine no_implicit_lambda% (ans ?_)) | (with_reducible first | exact zI | exact zJ))
    exact e_pan (H' := []) (rest := _) (.inr ⟨hP, rfl, rfl⟩) permT (LE0 rfl)
  ·have hb : rightC (⟨3, ⟨s.toArray⟩, 0, ⟨0, [], 0⟩⟩ : Ch) = 0 := by simpa using hc
   rw [if_pos hb] at hP
   refine e_ret_to (H' := rd r1) (rest := [(1, .box (chrow (⟨3, ⟨s.toArray⟩, 0, ⟨0, [], 0⟩⟩ : Ch)))]) (Conv.toT (τ := ⟨_, [(1, .box (chrow (⟨3, ⟨s.toArray⟩, 0, ⟨0, [], 0⟩⟩ : Ch))), (0, .box [.list (r1.map brow) .free])], _⟩) (.refl _) ?_ (Nat.le_refl _)) rfl (.inl ⟨(⟨3, ⟨s.toArray⟩, 0, ⟨0, [], 0⟩⟩ : Ch), r1, hP, ⟨⟨Nat.zero_le _, (by show (0 : Nat) < 18446744073709551616; decide)⟩, hb, (by omega)⟩, rfl, rfl⟩) permT (LE0 rfl)
   exact wkh
 ·replace hP : pCh l = chR ⟨4, ⟨#[]⟩, 0, ⟨0, [], 0⟩⟩ r0 := hP
  repeat' (first | (refine no_implicit_lambda% (zH ?_)) | (refine no_implicit_lambda% (spl (fun hc => ?_) (fun hc => ?_)) <;> first | exact zG hc | skip) | (refine no_implicit_lambda% (ans ?_)) | (with_reducible first | exact zI | exact zJ) | (refine no_implicit_lambda% (cal [] (h0) ?_ ?_)) | fail)
  have hro := right5_c (⟨4, ⟨#[]⟩, 0, ⟨0, [], 0⟩⟩ : Ch)
  have hb : rightC (⟨4, ⟨#[]⟩, 0, ⟨0, [], 0⟩⟩ : Ch) = 0 := rfl
  unfold chR at hP
  rw [if_pos hb] at hP
  rw [hb] at hro
  repeat' (first | (refine no_implicit_lambda% (zH ?_)) | (refine no_implicit_lambda% (spl (fun hc => ?_) (fun hc => ?_)) <;> first | exact zG hc | skip) | (refine no_implicit_lambda% (ans ?_)) | (with_reducible first | exact zI | exact zJ))
  (refine no_implicit_lambda% (calw [] (hro) ?_ ?_))
  rotate_left
  ·first | (exact zI) | (exact zJ)
  refine no_implicit_lambda% (ret1 ?_); first | (refine no_implicit_lambda% (akc ?_)) | (refine no_implicit_lambda% (aec ?_))
  repeat' (first | (refine no_implicit_lambda% (zH ?_)) | (refine no_implicit_lambda% (spl (fun hc => ?_) (fun hc => ?_)) <;> first | exact zG hc | skip) | (refine no_implicit_lambda% (ans ?_)) | (with_reducible first | exact zI | exact zJ))
  refine e_ret_to (H' := rd r0) (rest := [(1, .box (chrow (⟨4, ⟨#[]⟩, 0, ⟨0, [], 0⟩⟩ : Ch)))]) (Conv.toT (τ := ⟨_, [(1, .box (chrow (⟨4, ⟨#[]⟩, 0, ⟨0, [], 0⟩⟩ : Ch))), (0, .box [.list (r0.map brow) .free])], _⟩) (.refl _) ?_ (Nat.le_refl _)) rfl (.inl ⟨(⟨4, ⟨#[]⟩, 0, ⟨0, [], 0⟩⟩ : Ch), r0, hP, ⟨⟨Nat.zero_le _, (by show (0 : Nat) < 18446744073709551616; decide)⟩, hb, hr0⟩, rfl, rfl⟩) permT (LE0 rfl)
  exact wkh
 ·replace hP : pCh l = none := by rw [hP]; unfold chK; rw [if_neg (by omega), if_neg (by omega), if_neg (by omega), if_neg (by omega)]
  have ha : askC (N : Int) = (false, false, false, false) := by unfold askC; rw [if_neg (by omega), if_neg (by omega), if_neg (by omega), if_neg (by omega)]
  rw [ha] at h0
  have hro := right5_c (⟨(N : Int), ⟨#[]⟩, 0, ⟨0, [], 0⟩⟩ : Ch)
  have hne : rightC (⟨(N : Int), ⟨#[]⟩, 0, ⟨0, [], 0⟩⟩ : Ch) = 24 := by unfold rightC; rw [if_pos (by show (N : Int) < 1 ∨ 5 < (N : Int); omega)]
  rw [hne] at hro
  repeat' (first | (refine no_implicit_lambda% (zH ?_)) | (refine no_implicit_lambda% (spl (fun hc => ?_) (fun hc => ?_)) <;> first | exact zG hc | skip) | (refine no_implicit_lambda% (ans ?_)) | (with_reducible first | exact zI | exact zJ) | (refine no_implicit_lambda% (cal [] (h0) ?_ ?_)) | fail)
  (refine no_implicit_lambda% (calw [] (hro) ?_ ?_))
  rotate_left
  ·first | (exact zI) | (exact zJ)
  refine no_implicit_lambda% (ret1 ?_); first | (refine no_implicit_lambda% (akc ?_)) | (refine no_implicit_lambda% (aec ?_))
  repeat' (first | (refine no_implicit_lambda% (zH ?_)) | (refine no_implicit_lambda% (spl (fun hc => ?_) (fun hc => ?_)) <;> first | exact zG hc | skip) | (refine no_implicit_lambda% (ans ?_)) | (with_reducible first | exact zI | exact zJ))
  (refine no_implicit_lambda% (cal [0] (fail_c r0) ?_ ?_))
  ·first | (exact zI) | (exact zJ)
  ·intro xx H' hh
   obtain ⟨h', rfl⟩ := hh
   cases h'
   repeat' (first | (refine no_implicit_lambda% (zH ?_)) | (refine no_implicit_lambda% (spl (fun hc => ?_) (fun hc => ?_)) <;> first | exact zG hc | skip) | (refine no_implicit_lambda% (ans ?_)) | (with_reducible first | exact zI | exact zJ))
   exact e_pan (H' := []) (rest := _) (.inr ⟨hP, rfl, rfl⟩) permT (LE0 rfl)
def cdR (d : Cd) (r : List UInt8) : Option (Cd × List UInt8) := if nmB d.c then some (d, r) else none
noncomputable def cdK (k : Nat) (r : List UInt8) : Option (Cd × List UInt8) :=
 if k = 0 then some (⟨false, false, ⟨#[]⟩, ⟨0, [], 0⟩⟩, r) else
 if k = 1 then bnd (pX r) fun s r1 => cdR ⟨true, false, ⟨s.toArray⟩, ⟨0, [], 0⟩⟩ r1 else
 if k = 2 then bnd (pX r) fun s r1 => bnd (pV r1) fun v r2 => cdR ⟨true, true, ⟨s.toArray⟩, v⟩ r2 else none
noncomputable def pCd (l : List UInt8) : Option (Cd × List UInt8) := bnd (pB l) cdK
def CdB (d : Cd) : Prop := d.v.b.length ≤ 16 ∧ d.v.n < 18446744073709551616
theorem pV_right {l r : List UInt8} {v : Va} (h : pV l = some (v, r)) : vRt v = true := by
 unfold pV at h
 split at h
 ·rename_i hx
  have e : hx.choose = (v, r) := Option.some.inj h
  have hg := hx.choose_spec
  rw [e] at hg
  obtain ⟨_, ⟨_, h2, h3, _⟩ | ⟨_, _, h3, _⟩⟩ := hg
  ·have h4 := h2.2.2.1 (by decide)
   change v = _ at h3
   unfold vRt
   rw [h3]
   simp only [List.length_take, beq_self_eq_true, Bool.true_and, Bool.or_eq_true, decide_eq_true_eq]
   left; omega
  ·change v = _ at h3
   unfold vRt
   rw [h3]; rfl
 ·cases h
set_option maxHeartbeats 6400000 in
theorem takecd_c (l : List UInt8) (hl : l.length < 10000000) : ACalls Tryz.prog 82 1 1000 [.ptr 0 0] (rd l) (fun out H' => (∃ x r, pCd l = some (x, r) ∧ (CdB x ∧ r.length ≤ l.length) ∧ out = .ret (.agg (cdrow x)) ∧ H' = rd r) ∨ (pCd l = none ∧ out = gone ∧ H' = [])) := by
 refine no_implicit_lambda% (acalls_of tok dok (f := 82) ⟨Tryz.func82, rfl, by kernel_rfl⟩ ?_); refine no_implicit_lambda% (c_start (fun _ h => h) ?_)
 repeat' (first | (refine no_implicit_lambda% (zH ?_)) | (refine no_implicit_lambda% (spl (fun hc => ?_) (fun hc => ?_)) <;> first | exact zG hc | skip) | (refine no_implicit_lambda% (ans ?_)) | (with_reducible first | exact zI | exact zJ))
 (refine no_implicit_lambda% (cal [0] (rB_c l (by omega)) ?_ ?_))
 rotate_left
 ·intro xx H' hh; rcases hh with ⟨_, _, _, _, h', _⟩ | ⟨hN, h', rfl⟩ <;> first | (cases h'; done) | (cases h'; repeat' (first | (refine no_implicit_lambda% (zH ?_)) | (refine no_implicit_lambda% (spl (fun hc => ?_) (fun hc => ?_)) <;> first | exact zG hc | skip) | (refine no_implicit_lambda% (ans ?_)) | (with_reducible first | exact zI | exact zJ)); exact e_pan (H' := []) (rest := _) (.inr ⟨by (unfold pCd; rw [hN]; rfl), rfl, rfl⟩) permT (LE0 rfl))
 intro xx H' hh
 rcases hh with ⟨N, r0, hB, ⟨hN, hr0⟩, h', rfl⟩ | ⟨_, h', _⟩
 rotate_left
 ·cases h'
 cases h'
 first | (refine no_implicit_lambda% (akc ?_)) | (refine no_implicit_lambda% (aec ?_))
 have hP : pCd l = cdK N r0 := by unfold pCd; rw [hB]; rfl
 have hN5 : N = 0 ∨ N = 1 ∨ N = 2 ∨ 2 < N := by omega
 rcases hN5 with rfl | rfl | rfl | hno
 ·replace hP : pCd l = some ((⟨false, false, ⟨#[]⟩, ⟨0, [], 0⟩⟩ : Cd), r0) := hP
  repeat' (first | (refine no_implicit_lambda% (zH ?_)) | (refine no_implicit_lambda% (spl (fun hc => ?_) (fun hc => ?_)) <;> first | exact zG hc | skip) | (refine no_implicit_lambda% (ans ?_)) | (with_reducible first | exact zI | exact zJ))
  refine e_ret_to (H' := rd r0) (rest := [(1, .box (cdrow (⟨false, false, ⟨#[]⟩, ⟨0, [], 0⟩⟩ : Cd)))]) (Conv.toT (τ := ⟨_, [(1, .box (cdrow (⟨false, false, ⟨#[]⟩, ⟨0, [], 0⟩⟩ : Cd))), (0, .box [.list (r0.map brow) .free])], _⟩) (.refl _) ?_ (Nat.le_refl _)) rfl (.inl ⟨(⟨false, false, ⟨#[]⟩, ⟨0, [], 0⟩⟩ : Cd), r0, hP, ⟨⟨Nat.zero_le _, (by show (0 : Nat) < 18446744073709551616; decide)⟩, hr0⟩, rfl, rfl⟩) permT (LE0 rfl)
  exact wkh
 ·replace hP : pCd l = bnd (pX r0) fun s r1 => cdR ⟨true, false, ⟨s.toArray⟩, ⟨0, [], 0⟩⟩ r1 := hP
  repeat' (first | (refine no_implicit_lambda% (zH ?_)) | (refine no_implicit_lambda% (spl (fun hc => ?_) (fun hc => ?_)) <;> first | exact zG hc | skip) | (refine no_implicit_lambda% (ans ?_)) | (with_reducible first | exact zI | exact zJ))
  (refine no_implicit_lambda% (cal [0] (rX_c r0 (by omega)) ?_ ?_))
  rotate_left
  ·intro xx H' hh; rcases hh with ⟨_, _, _, _, h', _⟩ | ⟨hN, h', rfl⟩ <;> first | (cases h'; done) | (cases h'; repeat' (first | (refine no_implicit_lambda% (zH ?_)) | (refine no_implicit_lambda% (spl (fun hc => ?_) (fun hc => ?_)) <;> first | exact zG hc | skip) | (refine no_implicit_lambda% (ans ?_)) | (with_reducible first | exact zI | exact zJ)); exact e_pan (H' := []) (rest := _) (.inr ⟨by (rw [hP, hN]; rfl), rfl, rfl⟩) permT (LE0 rfl))
  intro xx H' hh
  rcases hh with ⟨s, r1, hX, ⟨hs16, hr1⟩, h', rfl⟩ | ⟨_, h', _⟩
  rotate_left
  ·cases h'
  cases h'
  first | (refine no_implicit_lambda% (akc ?_)) | (refine no_implicit_lambda% (aec ?_))
  rw [hX, bnd_some] at hP
  repeat' (first | (refine no_implicit_lambda% (zH ?_)) | (refine no_implicit_lambda% (spl (fun hc => ?_) (fun hc => ?_)) <;> first | exact zG hc | skip) | (refine no_implicit_lambda% (ans ?_)) | (with_reducible first | exact zI | exact zJ))
  have hro := name_c (⟨s.toArray⟩ : ByteArray)
  have hfc := fail_c r1
  unfold cdR at hP
  dsimp only at hP
  repeat' (first | (refine no_implicit_lambda% (zH ?_)) | (refine no_implicit_lambda% (spl (fun hc => ?_) (fun hc => ?_)) <;> first | exact zG hc | skip) | (refine no_implicit_lambda% (ans ?_)) | (with_reducible first | exact zI | exact zJ) | (refine no_implicit_lambda% (cal [] (hro) ?_ ?_)) | fail)
  ·have hb : nmB (⟨s.toArray⟩ : ByteArray) = false := by simpa using hc
   rw [hb, if_neg (by simp)] at hP
   (refine no_implicit_lambda% (cal [0] (hfc) ?_ ?_))
   ·first | (exact zI) | (exact zJ)
   ·intro xx H' hh
    obtain ⟨h', rfl⟩ := hh
    cases h'
    repeat' (first | (refine no_implicit_lambda% (zH ?_)) | (refine no_implicit_lambda% (spl (fun hc => ?_) (fun hc => ?_)) <;> first | exact zG hc | skip) | (refine no_implicit_lambda% (ans ?_)) | (with_reducible first | exact zI | exact zJ))
    exact e_pan (H' := []) (rest := _) (.inr ⟨hP, rfl, rfl⟩) permT (LE0 rfl)
  ·have hb : nmB (⟨s.toArray⟩ : ByteArray) = true := by simpa using hc
   rw [hb, if_pos rfl] at hP
   refine e_ret_to (H' := rd r1) (rest := [(1, .box (cdrow (⟨true, false, ⟨s.toArray⟩, ⟨0, [], 0⟩⟩ : Cd)))]) (Conv.toT (τ := ⟨_, [(1, .box (cdrow (⟨true, false, ⟨s.toArray⟩, ⟨0, [], 0⟩⟩ : Cd))), (0, .box [.list (r1.map brow) .free])], _⟩) (.refl _) ?_ (Nat.le_refl _)) rfl (.inl ⟨(⟨true, false, ⟨s.toArray⟩, ⟨0, [], 0⟩⟩ : Cd), r1, hP, ⟨⟨Nat.zero_le _, (by show (0 : Nat) < 18446744073709551616; decide)⟩, by omega⟩, rfl, rfl⟩) permT (LE0 rfl)
   exact wkh
 ·replace hP : pCd l = bnd (pX r0) fun s r1 => bnd (pV r1) fun v r2 => cdR ⟨true, true, ⟨s.toArray⟩, v⟩ r2 := hP
  repeat' (first | (refine no_implicit_lambda% (zH ?_)) | (refine no_implicit_lambda% (spl (fun hc => ?_) (fun hc => ?_)) <;> first | exact zG hc | skip) | (refine no_implicit_lambda% (ans ?_)) | (with_reducible first | exact zI | exact zJ))
  (refine no_implicit_lambda% (cal [0] (rX_c r0 (by omega)) ?_ ?_))
  rotate_left
  ·intro xx H' hh; rcases hh with ⟨_, _, _, _, h', _⟩ | ⟨hN, h', rfl⟩ <;> first | (cases h'; done) | (cases h'; repeat' (first | (refine no_implicit_lambda% (zH ?_)) | (refine no_implicit_lambda% (spl (fun hc => ?_) (fun hc => ?_)) <;> first | exact zG hc | skip) | (refine no_implicit_lambda% (ans ?_)) | (with_reducible first | exact zI | exact zJ)); exact e_pan (H' := []) (rest := _) (.inr ⟨by (rw [hP, hN]; rfl), rfl, rfl⟩) permT (LE0 rfl))
  intro xx H' hh
  rcases hh with ⟨s, r1, hX, ⟨hs16, hr1⟩, h', rfl⟩ | ⟨_, h', _⟩
  rotate_left
  ·cases h'
  cases h'
  first | (refine no_implicit_lambda% (akc ?_)) | (refine no_implicit_lambda% (aec ?_))
  rw [hX, bnd_some] at hP
  repeat' (first | (refine no_implicit_lambda% (zH ?_)) | (refine no_implicit_lambda% (spl (fun hc => ?_) (fun hc => ?_)) <;> first | exact zG hc | skip) | (refine no_implicit_lambda% (ans ?_)) | (with_reducible first | exact zI | exact zJ))
  (refine no_implicit_lambda% (cal [0] (rV_c r1 (by omega)) ?_ ?_))
  rotate_left
  ·intro xx H' hh; rcases hh with ⟨_, _, _, _, h', _⟩ | ⟨hN, h', rfl⟩ <;> first | (cases h'; done) | (cases h'; repeat' (first | (refine no_implicit_lambda% (zH ?_)) | (refine no_implicit_lambda% (spl (fun hc => ?_) (fun hc => ?_)) <;> first | exact zG hc | skip) | (refine no_implicit_lambda% (ans ?_)) | (with_reducible first | exact zI | exact zJ)); exact e_pan (H' := []) (rest := _) (.inr ⟨by (rw [hP, hN]; rfl), rfl, rfl⟩) permT (LE0 rfl))
  intro xx H' hh
  rcases hh with ⟨v, r3, hV, ⟨hv, hr3⟩, h', rfl⟩ | ⟨_, h', _⟩
  rotate_left
  ·cases h'
  cases h'
  first | (refine no_implicit_lambda% (akc ?_)) | (refine no_implicit_lambda% (aec ?_))
  rw [hV, bnd_some] at hP
  repeat' (first | (refine no_implicit_lambda% (zH ?_)) | (refine no_implicit_lambda% (spl (fun hc => ?_) (fun hc => ?_)) <;> first | exact zG hc | skip) | (refine no_implicit_lambda% (ans ?_)) | (with_reducible first | exact zI | exact zJ))
  have hro := name_c (⟨s.toArray⟩ : ByteArray)
  have hfc := fail_c r3
  unfold cdR at hP
  dsimp only at hP
  repeat' (first | (refine no_implicit_lambda% (zH ?_)) | (refine no_implicit_lambda% (spl (fun hc => ?_) (fun hc => ?_)) <;> first | exact zG hc | skip) | (refine no_implicit_lambda% (ans ?_)) | (with_reducible first | exact zI | exact zJ) | (refine no_implicit_lambda% (cal [] (hro) ?_ ?_)) | fail)
  ·have hb : nmB (⟨s.toArray⟩ : ByteArray) = false := by simpa using hc
   rw [hb, if_neg (by simp)] at hP
   (refine no_implicit_lambda% (cal [0] (hfc) ?_ ?_))
   ·first | (exact zI) | (exact zJ)
   ·intro xx H' hh
    obtain ⟨h', rfl⟩ := hh
    cases h'
    repeat' (first | (refine no_implicit_lambda% (zH ?_)) | (refine no_implicit_lambda% (spl (fun hc => ?_) (fun hc => ?_)) <;> first | exact zG hc | skip) | (refine no_implicit_lambda% (ans ?_)) | (with_reducible first | exact zI | exact zJ))
    exact e_pan (H' := []) (rest := _) (.inr ⟨hP, rfl, rfl⟩) permT (LE0 rfl)
  ·have hb : nmB (⟨s.toArray⟩ : ByteArray) = true := by simpa using hc
   rw [hb, if_pos rfl] at hP
   refine e_ret_to (H' := rd r3) (rest := [(1, .box (cdrow (⟨true, true, ⟨s.toArray⟩, v⟩ : Cd)))]) (Conv.toT (τ := ⟨_, [(1, .box (cdrow (⟨true, true, ⟨s.toArray⟩, v⟩ : Cd))), (0, .box [.list (r3.map brow) .free])], _⟩) (.refl _) ?_ (Nat.le_refl _)) rfl (.inl ⟨(⟨true, true, ⟨s.toArray⟩, v⟩ : Cd), r3, hP, ⟨hv, by omega⟩, rfl, rfl⟩) permT (LE0 rfl)
   exact wkh
 ·replace hP : pCd l = none := by rw [hP]; unfold cdK; rw [if_neg (by omega), if_neg (by omega), if_neg (by omega)]
  repeat' (first | (refine no_implicit_lambda% (zH ?_)) | (refine no_implicit_lambda% (spl (fun hc => ?_) (fun hc => ?_)) <;> first | exact zG hc | skip) | (refine no_implicit_lambda% (ans ?_)) | (with_reducible first | exact zI | exact zJ))
  all_goals try (exfalso; simp at hc; omega)
  (refine no_implicit_lambda% (cal [0] (fail_c r0) ?_ ?_))
  ·first | (exact zI) | (exact zJ)
  ·intro xx H' hh
   obtain ⟨h', rfl⟩ := hh
   cases h'
   repeat' (first | (refine no_implicit_lambda% (zH ?_)) | (refine no_implicit_lambda% (spl (fun hc => ?_) (fun hc => ?_)) <;> first | exact zG hc | skip) | (refine no_implicit_lambda% (ans ?_)) | (with_reducible first | exact zI | exact zJ))
   exact e_pan (H' := []) (rest := _) (.inr ⟨hP, rfl, rfl⟩) permT (LE0 rfl)
end Go.Proofs.YtncffhgoopdfgaaGreat
