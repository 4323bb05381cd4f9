/- Part 11 of what the laws ChangeNumbers rest on: RwI, RwJ, RwK, RwL, RwN, RwO, RwP, RwQ. -/
import Derived.Test.YtncffhgoopdfgaaGreatP10
set_option linter.unusedSimpArgs false
set_option linter.unusedVariables false
namespace Go.Proofs.YtncffhgoopdfgaaGreat
open Go.Am
set_option maxRecDepth 100000
theorem put_clearC {sz k i : Nat} {rows : List (List AV)} (h : ∀ row ∈ rows, row.length = sz) (hi : i ≤ rows.length) : putCells (seqC rows k) (i * sz) (List.replicate ((rows.length - i) * sz) .dead) = seqC (rows.take i) (k + (rows.length - i) * sz) := by
 have hl : (rows.take i).flatten.length = i * sz := by rw [flatten_length (fun row hr => h row (List.mem_of_mem_take hr)), List.length_take, Nat.min_eq_left hi]
 have hd : (rows.drop i).flatten.length = (rows.length - i) * sz := by rw [flatten_length (fun row hr => h row (List.mem_of_mem_drop hr)), List.length_drop]
 rw [seq_split h i, ← hl, put_mid _ _ _ _ (by rw [List.length_replicate, hd])]
 unfold seqC
 rw [List.replicate_append_replicate, Nat.add_comm]
theorem a_clearToC {P : Program} {TT : Types} {o : Oper} {s : List AV} {L : Heap} {n : Nat} {K KP : AV → Heap → Nat → Prop} {c : Call} {x : Operand} {t e : TypeId} {te : TI} {z : Value} {id off nn cp k k2 i sz : Nat} {rows : List (List AV)} {L0 : Heap} (ho : o.op = .call c) (hk : opKind o = .mem) (hc : c.callee = .builtin .clear) (ha : c.args.toList = [x]) (hty : c.argTypes.toList = [t])
  (hkt : kindT TT t = .slice e) (hte : TT e = some te) (hz : te.zero = some z) (hzk : zok te z = true) (hx : ev s x = .arr id off nn cp) (hta : ∀ k' : Res → Heap → Prop, k' (.seq rows k) L0 → takeO L id k') (hsz : te.size = sz) (hR : RowsOk sz rows) (hi : i ≤ rows.length) (hoff : off = i * sz) (hnn : nn = rows.length - i) (hne : rows.length + k ≠ 0) (hk2 : k + (rows.length - i) * sz = k2)
  (h : K (.tuple []) ((id, .seq (rows.take i) k2) :: L0) n) : aop P TT o s L n K KP := by
 subst hoff; subst hsz; subst hnn; subst hk2
 refine a_clearS ho hk hc ha hty hkt hte hz hzk hx hta hne ?_ (put_clearC hR.len hi) (hR.take i).pure h
 rw [seqC_len hR.len, ← Nat.add_mul]
 have : i + (rows.length - i) = rows.length := by omega
 rw [this]; omega
theorem asrc_boxd {L : Heap} {sz : Nat} {y : AV} {id off i m cp k : Nat} {rows : List (List AV)} {K : Nat → List AV → Prop} (hy : y = .arr id off m cp) (hf : findL L id = some (.box (seqC rows k))) (hR : RowsOk sz rows) (hi : i ≤ rows.length) (hoff : off = i * sz) (hm : m = rows.length - i) (h : K m (rows.drop i).flatten) : asrc L sz (fun m => m) y K := by
 subst hy
 have hmul : i * sz + (rows.length - i) * sz = rows.length * sz := by rw [← Nat.add_mul]; congr 1; omega
 have hfl := flatten_length (hR.drop i).len
 rw [List.length_drop] at hfl
 have e : ((seqC rows k).drop off).take (m * sz) = (rows.drop i).flatten := by
  rw [hoff, hm, seq_from hR.len i k hi, List.take_append_of_le_length (by omega), List.take_of_length_le (by omega)]
 unfold asrc
 simp only [hf]
 rw [e]
 refine ⟨Nat.le_refl _, ?_, (hR.drop i).one, h⟩
 rw [hoff, hm, seqC_len hR.len]; omega
theorem put_shift {sz k i : Nat} {rows : List (List AV)} {last : List AV} (h : ∀ row ∈ rows, row.length = sz) (hi : i < rows.length) (hl : rows[rows.length - 1]? = some last) : putCells (seqC rows k) (i * sz) (rows.drop (i + 1)).flatten = seqC (rows.eraseIdx i ++ [last]) k := by
 have hd : rows.drop i = (rows.drop i).take (rows.length - 1 - i) ++ [last] := by
  conv => lhs; rw [← List.take_append_drop (rows.length - 1 - i) (rows.drop i)]
  congr 1
  rw [List.drop_drop, show i + (rows.length - 1 - i) = rows.length - 1 by omega]
  obtain ⟨h1, h2⟩ := List.getElem?_eq_some_iff.1 hl
  rw [List.drop_eq_getElem_cons h1, h2, show rows.length - 1 + 1 = rows.length by omega, List.drop_length]
 have hlt : (rows.take i).flatten.length = i * sz := by rw [flatten_length (fun row hr => h row (List.mem_of_mem_take hr)), List.length_take, Nat.min_eq_left (by omega)]
 have hl1 : (rows.drop (i + 1)).flatten.length = (rows.length - (i + 1)) * sz := by rw [flatten_length (fun row hr => h row (List.mem_of_mem_drop hr)), List.length_drop]
 have hl2 : ((rows.drop i).take (rows.length - 1 - i)).flatten.length = (rows.length - (i + 1)) * sz := by
  rw [flatten_length (fun row hr => h row (List.mem_of_mem_drop (List.mem_of_mem_take hr))), List.length_take, List.length_drop, Nat.min_eq_left (by omega)]
  congr 1; omega
 rw [seq_split h i, hd, List.flatten_append, List.append_assoc, ← hlt, put_mid _ _ _ _ (by rw [hl1, hl2])]
 unfold seqC
 rw [List.eraseIdx_eq_take_drop_succ]
 simp
theorem qAnd6 {X : (AV → Prop) → Prop} {p1 p2 p3 p4 p5 p6 : Prop} {av : AV} (h : ∀ K : AV → Prop, (p1 ∧ p2 ∧ p3 ∧ p4 ∧ p5 ∧ p6 ∧ K av) → X K) : ∀ K : AV → Prop, (p1 ∧ p2 ∧ p3 ∧ p4 ∧ p5 ∧ p6) ∧ K av → X K := fun K ⟨⟨a, b, c, d, e, f⟩, g⟩ => h K ⟨a, b, c, d, e, f, g⟩
set_option maxHeartbeats 3200000 in
theorem delete_s (l : List Co) (cp i : Nat) (hi : i < l.length) (hl : l.length ≤ 1000) (hcp : l.length ≤ cp) (hcm : cp ≤ maxLen) : ACalls Tryz.prog 199 1 1 [.arr 0 0 l.length cp, .v (.int .i64 i), .v (.int .i64 (i + 1 : Nat))] [(0, .seq (l.map corow) ((cp - l.length) * 2))] (fun out H' => out = .ret (.arr 0 0 (l.length - 1) cp) ∧ H' = [(0, .seq ((l.eraseIdx i).map corow) ((cp - (l.length - 1)) * 2))]) := by
 obtain ⟨last, hlast⟩ : ∃ last, (l.map corow)[(l.map corow).length - 1]? = some last := ⟨_, List.getElem?_eq_getElem (by rw [List.length_map]; omega)⟩
 refine no_implicit_lambda% (acalls_of tok dok (f := 199) ⟨Tryz.func199, rfl, by kernel_rfl⟩ ?_); refine no_implicit_lambda% (c_start (fun _ h => h) ?_)
 refine c_seq ?_
 first | (with_reducible refine no_implicit_lambda% (c_seq ?_)) | (with_reducible refine no_implicit_lambda% (c_region ?_)) | (with_reducible refine no_implicit_lambda% (c_ret ?_)) | (with_reducible refine no_implicit_lambda% (c_skip ?_)) | (with_reducible refine no_implicit_lambda% (c_block ?_)) | (with_reducible refine no_implicit_lambda% (c_exit ?_)) | (with_reducible refine no_implicit_lambda% (o_nil ?_)) | (with_reducible refine no_implicit_lambda% (k_seq ?_)) | (with_reducible refine no_implicit_lambda% (k_seq_ret ?_)) | (with_reducible refine no_implicit_lambda% (k_seq_exit ?_)) | (with_reducible refine no_implicit_lambda% (k_seq_pan ?_)) | (with_reducible refine no_implicit_lambda% (k_block ?_)) | (with_reducible refine no_implicit_lambda% (k_block_ret ?_)) | (with_reducible refine no_implicit_lambda% (k_block_pan ?_)) | ((with_reducible refine no_implicit_lambda% (is_blockx ?_)); first | (refine no_implicit_lambda% (k_block_here rfl ?_)) | (refine no_implicit_lambda% (k_block_on rfl ?_))) | (with_reducible refine no_implicit_lambda% (k_pan ?_)) | (with_reducible refine no_implicit_lambda% (k_opP ?_)) | (with_reducible refine no_implicit_lambda% (k_loop_ret ?_)) | (with_reducible refine no_implicit_lambda% (k_loop_exit ?_)) | (with_reducible refine no_implicit_lambda% (k_loop_pan ?_)) | (with_reducible refine no_implicit_lambda% (e_end ?_))
 repeat' (first | ((with_reducible refine no_implicit_lambda% (zA ?_)); first | (refine no_implicit_lambda% (o_op rfl ?_)) | (refine no_implicit_lambda% (o_yes rfl rfl rfl ?_)) | (refine no_implicit_lambda% (o_no rfl rfl rfl (fun _ h => h) ?_)) | (refine no_implicit_lambda% (o_not rfl rfl rfl (fun _ h => h) ?_))) | ((with_reducible refine no_implicit_lambda% (is_opK ?_)); first | (refine no_implicit_lambda% (k_op' (fun _ h => h) ?_))) | ((with_reducible refine no_implicit_lambda% (zC ?_)); first | (refine no_implicit_lambda% (a_q1 rfl (fun _ h => h) ?_)) | (refine no_implicit_lambda% (a_box rfl (fun _ h => h) ?_)) | (refine no_implicit_lambda% (a_alloc rfl (fun _ h => h) ?_)) | (refine no_implicit_lambda% (a_storev rfl (fun _ h => h) ?_)) | (refine no_implicit_lambda% (a_store rfl (fun _ h => h) ?_)) | (refine no_implicit_lambda% (a_panic rfl rfl ?_))) | ((with_reducible refine no_implicit_lambda% (zC ?_)); refine no_implicit_lambda% (a_qS rfl (qIx (fun _ h => h)) (by first | assumption | exact hpx (by assumption) | exact hpy (by assumption)) ?_)) | (with_reducible refine no_implicit_lambda% (o_nil ?_)) | fail)
 refine k_seq_to ⟨_, _, _⟩ (Conv.unseq (L0 := []) (id := 0) (rows := l.map corow) (k := (cp - l.length) * 2) (by rw [List.length_map]; omega) (.refl _)) ?_
 repeat' (first | (refine no_implicit_lambda% (zH ?_)) | (refine no_implicit_lambda% (spl (fun hc => ?_) (fun hc => ?_)) <;> first | exact zG hc | skip) | (refine no_implicit_lambda% (ans ?_)) | (with_reducible first | exact zI | exact zJ))
 (with_reducible refine zC ?_)
 refine a_qS rfl (qAnd6 (fun _ h => h)) ⟨Int.natCast_nonneg _, Int.natCast_nonneg _, Int.natCast_nonneg _, by simp, by simp; omega, by simp; omega⟩ ?_
 repeat' (first | (refine no_implicit_lambda% (zH ?_)) | (refine no_implicit_lambda% (spl (fun hc => ?_) (fun hc => ?_)) <;> first | exact zG hc | skip) | (refine no_implicit_lambda% (ans ?_)) | (with_reducible first | exact zI | exact zJ))
 ((with_reducible refine no_implicit_lambda% (is_ev ?_)); first | (refine no_implicit_lambda% (v_qS rfl rfl rfl rfl (qAnd4 (fun _ h => h)) (fun _ h => h) ?_ ?_)) | (refine no_implicit_lambda% (v_qS rfl rfl rfl rfl (qAnd5 (fun _ h => h)) (fun _ h => h) ?_ ?_))); focus ((repeat' (refine no_implicit_lambda% (And.intro ?_ ?_))) <;> (first | exact trivial | exact Int.natCast_nonneg _ | omega | (simp; done) | (simp; omega) | ((show (0 : Int) ≤ _); omega)))
 repeat' (first | (refine no_implicit_lambda% (zH ?_)) | (refine no_implicit_lambda% (splv (fun hc => ?_) (fun hc => ?_)) <;> first | exact zG hc | skip) | (refine no_implicit_lambda% (ans ?_)) | (with_reducible first | exact zI | exact zJ))
 ((with_reducible refine no_implicit_lambda% (is_ev ?_)); first | (refine no_implicit_lambda% (v_qS rfl rfl rfl rfl (qAnd4 (fun _ h => h)) (fun _ h => h) ?_ ?_)) | (refine no_implicit_lambda% (v_qS rfl rfl rfl rfl (qAnd5 (fun _ h => h)) (fun _ h => h) ?_ ?_))); focus ((repeat' (refine no_implicit_lambda% (And.intro ?_ ?_))) <;> (first | exact trivial | exact Int.natCast_nonneg _ | omega | (simp; done) | (simp; omega) | ((show (0 : Int) ≤ _); omega)))
 repeat' (first | (refine no_implicit_lambda% (zH ?_)) | (refine no_implicit_lambda% (splv (fun hc => ?_) (fun hc => ?_)) <;> first | exact zG hc | skip) | (refine no_implicit_lambda% (ans ?_)) | (with_reducible first | exact zI | exact zJ))
 (with_reducible refine zC ?_)
 refine a_app_arr (id := 0) (off := 0) (nn := i) (cp := cp) (m := l.length - (i + 1)) (cs := ((l.map corow).drop (i + 1)).flatten) rfl rfl rfl rfl rfl rfl rfl rfl rfl ?_ (fun K h => asrc_boxd rfl rfl (coOk l) ?_ ?_ ?_ h) ?_ ?_ ?_
 ·show AV.arr 0 (0 + 0 * 2) ((i : Int).toNat - 0) (cp - 0) = AV.arr 0 0 i cp
  simp
 ·rw [List.length_map]; omega
 ·show 0 + ((i + 1 : Nat) : Int).toNat * 2 = (i + 1) * 2
  rw [Int.toNat_natCast]; omega
 ·rw [Int.toNat_natCast, List.length_map]
 ·exact ⟨by show (i + (l.length - (i + 1))) * 40 ≤ _; omega, by omega⟩
 ·intro _
  refine ⟨seqC (l.map corow) ((cp - l.length) * 2), rfl, ?_, ?_⟩
  ·show 0 + (i + (l.length - (i + 1))) * 2 ≤ _
   rw [seqC_len (coOk l).len, List.length_map]; omega
  ·have hps := put_shift (k := (cp - l.length) * 2) (coOk l).len (i := i) (by rw [List.length_map]; exact hi) hlast
   generalize hq : putCells (seqC (l.map corow) ((cp - l.length) * 2)) _ ((l.map corow).drop (i + 1)).flatten = q
   have hq2 : q = seqC ((l.map corow).eraseIdx i ++ [last]) ((cp - l.length) * 2) := by
    rw [← hq]
    show putCells _ (0 + i * 2) _ = _
    rw [Nat.zero_add]; exact hps
   rw [hq2]
   refine no_implicit_lambda% (aec (L2 := [(0, .box (seqC ((l.map corow).eraseIdx i ++ [last]) ((cp - l.length) * 2)))]) ?_ (hL := fun q hq => by rw [forceH_eq]; exact hq))
   repeat' (first | (refine no_implicit_lambda% (zH ?_)) | (refine no_implicit_lambda% (splv (fun hc => ?_) (fun hc => ?_)) <;> first | exact zG hc | skip) | (refine no_implicit_lambda% (ans ?_)) | (with_reducible first | exact zI | exact zJ))
   (with_reducible refine is_effK ?_)
   refine no_implicit_lambda% (k_eff (L2 := [(0, .box (seqC ((l.map corow).eraseIdx i ++ [last]) ((cp - l.length) * 2)))]) (fun _ h => h) (fun q hq => by rw [forceH_eq]; exact hq) (fun _ h => h) (by intro k h; repeat (first | exact h | refine ⟨rfl, ?_⟩ | refine ⟨trivial, ?_⟩)) ?_)
   repeat' (first | (refine no_implicit_lambda% (zH ?_)) | (refine no_implicit_lambda% (splv (fun hc => ?_) (fun hc => ?_)) <;> first | exact zG hc | skip) | (refine no_implicit_lambda% (ans ?_)) | (with_reducible first | exact zI | exact zJ))
   (with_reducible refine is_drB ?_)
   refine no_implicit_lambda% (b_end (L1 := [(0, .box (seqC ((l.map corow).eraseIdx i ++ [last]) ((cp - l.length) * 2)))]) rfl rfl (fun _ h => h) (fun q hq => by show forceH _ q; rw [forceH_eq]; exact hq) ?_)
   have hR2 : RowsOk 2 ((l.map corow).eraseIdx i ++ [last]) := by
    have h1 : RowsOk 2 ((l.map corow).eraseIdx i) := by
     rw [List.eraseIdx_eq_take_drop_succ]
     exact ((coOk l).take i).app ((coOk l).drop (i + 1))
    exact h1.app (.one1 ((coOk l).row (List.mem_of_getElem? hlast)))
   have hRl : ((l.map corow).eraseIdx i ++ [last]).length = l.length := by
    rw [List.length_append, List.length_eraseIdx_of_lt (by rw [List.length_map]; exact hi), List.length_map, List.length_singleton]; omega
   refine k_seq_to ⟨_, _, _⟩ (Conv.toSeq (L0 := []) (id := 0) (rows := (l.map corow).eraseIdx i ++ [last]) (k := (cp - l.length) * 2) (.refl _) rfl hR2.pure) ?_
   repeat' (first | (refine no_implicit_lambda% (zH ?_)) | (refine no_implicit_lambda% (spl (fun hc => ?_) (fun hc => ?_)) <;> first | exact zG hc | skip) | (refine no_implicit_lambda% (ans ?_)) | (with_reducible first | exact zI | exact zJ))
   (refine no_implicit_lambda% (aqs ?_ ?_)); focus ((repeat' (refine no_implicit_lambda% (And.intro ?_ ?_))) <;> (first | exact trivial | exact Int.natCast_nonneg _ | omega | (simp; done) | (simp; omega) | ((show (0 : Int) ≤ _); omega)))
   repeat' (first | (refine no_implicit_lambda% (zH ?_)) | (refine no_implicit_lambda% (spl (fun hc => ?_) (fun hc => ?_)) <;> first | exact zG hc | skip) | (refine no_implicit_lambda% (ans ?_)) | (with_reducible first | exact zI | exact zJ))
   (with_reducible refine zC ?_)
   refine a_clearToC (id := 0) (i := l.length - 1) (sz := 2) (rows := (l.map corow).eraseIdx i ++ [last]) (k2 := (cp - (l.length - 1)) * 2) rfl rfl rfl rfl rfl rfl rfl rfl rfl rfl (fun _ h => h) rfl hR2 ?_ ?_ ?_ ?_ ?_ ?_
   ·omega
   ·show 0 + ((i + (l.length - (i + 1)) : Nat) : Int).toNat * 2 = (l.length - 1) * 2
    rw [Int.toNat_natCast]; omega
   ·rw [Int.toNat_natCast, Int.toNat_natCast, hRl]; omega
   ·omega
   ·rw [hRl]; omega
   ·have e0 : i + (l.length - (i + 1)) = l.length - 1 := by omega
    have e1 : ((l.map corow).eraseIdx i ++ [last]).take (l.length - 1) = (l.eraseIdx i).map corow := by
     have e2 : ((l.map corow).eraseIdx i).length = l.length - 1 := by rw [List.length_eraseIdx_of_lt (by rw [List.length_map]; exact hi), List.length_map]
     rw [List.take_append_of_le_length (by omega), List.take_of_length_le (by omega), List.eraseIdx_eq_take_drop_succ, List.eraseIdx_eq_take_drop_succ, List.map_append, List.map_take, List.map_drop]
    rw [e1, e0]
    repeat' (first | (refine no_implicit_lambda% (zH ?_)) | (refine no_implicit_lambda% (spl (fun hc => ?_) (fun hc => ?_)) <;> first | exact zG hc | skip) | (refine no_implicit_lambda% (ans ?_)) | (with_reducible first | exact zI | exact zJ))
    exact e_ret (H' := [(0, .seq ((l.eraseIdx i).map corow) ((cp - (l.length - 1)) * 2))]) (rest := []) rfl ⟨rfl, rfl⟩ permT (LE0 rfl)
 ·intro h
  exfalso
  omega
end Go.Proofs.YtncffhgoopdfgaaGreat
namespace Go.Proofs.YtncffhgoopdfgaaGreat
open Go.Am
set_option maxRecDepth 100000
def CN (o : List Co) (out : AOut) (H' : Heap) : Prop := ∃ cp, o.length ≤ cp ∧ cp ≤ maxLen ∧ out = .ret (.agg [.arr 0 0 o.length cp]) ∧ H' = [(0, .seq (o.map corow) ((cp - o.length) * 2))]
theorem copy_n (r : List Co) (hr : r.length < 70368744177664) (hs : RowSz r) : ACalls Tryz.prog 142 0 1 [rowA r] [] (CN (copyR r)) :=
 (copy_s r hr hs).ren (Nat.zero_le _) fun out H' hh => by
  obtain ⟨id, cp, h0, h1, h2, rfl, rfl⟩ := hh
  refine ⟨[id], .ret (.agg [.arr 0 0 (copyR r).length cp]), [(0, .seq ((copyR r).map corow) ((cp - (copyR r).length) * 2))], by simp, (fun i h => by simp at h; omega), (fun i h => absurd h (Nat.not_lt_zero i)), Nat.le_refl _, ?_, ?_, cp, h1, h2, rfl, rfl⟩
  ·simp [AOut.ren, AV.ren, AV.renL, rn]
  ·simp [renH, Res.ren, rn]
theorem find_o (o : List Co) (s : ByteArray) (cp : Nat) (hl : o.length < 1000000) (hs : Nsort o) : ACalls Tryz.prog 187 1 1 [.agg [.arr 0 0 o.length cp], .v (.string s)] [(0, .seq (o.map corow) ((cp - o.length) * 2))] (fun out H' => out = .ret (.tuple [.v (.int .i64 (npos o s)), .v (.bool (hasN o s))]) ∧ H' = [(0, .seq (o.map corow) ((cp - o.length) * 2))]) :=
 ((find_f o s hl hs).borrow (k := 1) (top := 1) (args := [.agg [.arr 0 0 o.length cp], .v (.string s)]) (H := [(0, .seq (o.map corow) ((cp - o.length) * 2))]) rfl (fun out H' hh => by obtain ⟨rfl, rfl⟩ := hh; rfl) (fun i a' ha => by
  match i with
  | 0 =>
   simp at ha; subst ha
   refine ⟨_, rfl, .agg rfl fun j b hb => ?_⟩
   match j with
   | 0 =>
    simp at hb; subst hb
    exact ⟨_, rfl, .seq (k := (cp - o.length) * 2) (by simp) (coOk o) (by simp)⟩
   | j + 1 => simp at hb
  | 1 =>
   simp at ha; subst ha
   exact ⟨_, rfl, .data rfl⟩
  | i + 2 => simp at ha)).mono fun out H' hh => by
   obtain ⟨⟨_, h1, _⟩, h2⟩ := hh
   exact ⟨h1, h2⟩
theorem npos_len {o : List Co} {s : ByteArray} (h : hasN o s = true) : npos o s < o.length := by
 unfold hasN at h
 split at h
 ·exact (List.getElem?_eq_some_iff.1 (by assumption)).1
 ·cases h
end Go.Proofs.YtncffhgoopdfgaaGreat
namespace Go.Proofs.YtncffhgoopdfgaaGreat
open Go.Am
set_option maxRecDepth 100000
def dkSt (o : List Co) : ASt := ⟨([.dead, .dead, .dead, .dead, .ptr 1 0, .ptr 3 0] ++ List.replicate 20 .dead), [(3, .box [.list (o.map corow) .free]), (1, .box [.list [] .full])], 6⟩
set_option maxHeartbeats 3200000 in
theorem dropcol_c (r : List Co) (s : ByteArray) (hr : r.length < 70368744177664) (hs : RowSz r) (hs2 : RowSz (dcR r s)) : ACalls Tryz.prog 180 0 5000 [rowA r, .v (.string s)] [] (fun out H' => out = .ret (rowA (copyR (dcR r s))) ∧ H' = []) := by
 have hcp := copy_n r hr hs
 have h4 := copy_len r
 have hso := copy_sort r
 have hlen : (dcR r s).length < 70368744177664 := by
  unfold dcR
  split
  ·have := List.length_eraseIdx_le (copyR r) (npos (copyR r) s); omega
  ·omega
 have hcc := copy_f (dcR r s) hlen hs2
 unfold dcR at *
 generalize copyR r = o at *
 refine no_implicit_lambda% (acalls_of tok dok (f := 180) ⟨Tryz.func180, rfl, by kernel_rfl⟩ ?_); refine no_implicit_lambda% (c_start (fun _ h => h) ?_)
 repeat' (first | (refine no_implicit_lambda% (zH ?_)) | (refine no_implicit_lambda% (spl (fun hc => ?_) (fun hc => ?_)) <;> first | exact zG hc | skip) | (refine no_implicit_lambda% (ans ?_)) | (with_reducible first | exact zI | exact zJ) | (refine no_implicit_lambda% (cal [] (hcp) ?_ ?_)) | fail)
 ·intro xx H' hh
  obtain ⟨cp, c1, c2, h', rfl⟩ := hh
  cases h'
  first | (refine no_implicit_lambda% (akc ?_)) | (refine no_implicit_lambda% (aec ?_))
  have hf := find_o o s cp (by omega) hso
  repeat' (first | (refine no_implicit_lambda% (zH ?_)) | (refine no_implicit_lambda% (spl (fun hc => ?_) (fun hc => ?_)) <;> first | exact zG hc | skip) | (refine no_implicit_lambda% (ans ?_)) | (with_reducible first | exact zI | exact zJ))
  (refine no_implicit_lambda% (cal [2] (hf) ?_ ?_))
  ·refine no_implicit_lambda% (ret1 ?_); first | (refine no_implicit_lambda% (akc ?_)) | (refine no_implicit_lambda% (aec ?_))
   repeat' (first | ((with_reducible refine no_implicit_lambda% (zA ?_)); first | (refine no_implicit_lambda% (o_op rfl ?_)) | (refine no_implicit_lambda% (o_yes rfl rfl rfl ?_)) | (refine no_implicit_lambda% (o_no rfl rfl rfl (fun _ h => h) ?_)) | (refine no_implicit_lambda% (o_not rfl rfl rfl (fun _ h => h) ?_))) | ((with_reducible refine no_implicit_lambda% (is_opK ?_)); first | (refine no_implicit_lambda% (k_op' (fun _ h => h) ?_))) | ((with_reducible refine no_implicit_lambda% (zC ?_)); first | (refine no_implicit_lambda% (a_q1 rfl (fun _ h => h) ?_)) | (refine no_implicit_lambda% (a_box rfl (fun _ h => h) ?_)) | (refine no_implicit_lambda% (a_alloc rfl (fun _ h => h) ?_)) | (refine no_implicit_lambda% (a_storev rfl (fun _ h => h) ?_)) | (refine no_implicit_lambda% (a_store rfl (fun _ h => h) ?_)) | (refine no_implicit_lambda% (a_panic rfl rfl ?_))) | ((with_reducible refine no_implicit_lambda% (zC ?_)); refine no_implicit_lambda% (a_qS rfl (qIx (fun _ h => h)) (by first | assumption | exact hpx (by assumption) | exact hpy (by assumption)) ?_)) | (with_reducible refine no_implicit_lambda% (o_nil ?_)) | fail)
   refine k_seq ?_
   refine c_cutR dkSt (fun q => q = if hasN o s then o.eraseIdx (npos o s) else o) ?_ ?_
   ·intro q hq
    subst hq
    refine c_turn (n' := 6) (fun _ h => h) (fun _ h => h) rfl ?_
    repeat' (first | (refine no_implicit_lambda% (zH ?_)) | (refine no_implicit_lambda% (spl (fun hc => ?_) (fun hc => ?_)) <;> first | exact zG hc | skip) | (refine no_implicit_lambda% (ans ?_)) | (with_reducible first | exact zI | exact zJ) | (refine no_implicit_lambda% (cal [] (hcc) ?_ ?_)) | fail)
    exact e_ret (H' := []) (rest := _) rfl ⟨rfl, rfl⟩ (.refl _) (LE0 rfl)
   ·intro Kx kN kP kR kE
    rcases hN : hasN o s with _ | _
    ·repeat' (first | (refine no_implicit_lambda% (zH ?_)) | (refine no_implicit_lambda% (spl (fun hc => ?_) (fun hc => ?_)) <;> first | exact zG hc | skip) | (refine no_implicit_lambda% (ans ?_)) | (with_reducible first | exact zI | exact zJ))
     refine kN o _ _ _ (by rw [hN]; rfl) (.inl ((Conv.freezeBox (j := 0) (id := 2) (bid := 3) (sz := 2) (rows := o.map corow) (k := (cp - o.length) * 2) (m := o.length) (cp := cp) (cells := [.arr 2 0 o.length cp]) (permT (H := [(2, .seq (o.map corow) ((cp - o.length) * 2)), (3, .box [.arr 2 0 o.length cp])])) rfl (coOk o) (by simp)).trans ?_))
     (refine no_implicit_lambda% (Conv.toT ?_ ?_ (LE0 rfl))); (focus ((unfold dkSt); (try dsimp only); exact wkl)); (focus ((unfold dkSt); (try dsimp only); exact wkh))
    ·have hlt := npos_len hN
     have hd := delete_s o cp (npos o s) hlt (by omega) c1 c2
     have hel : (o.eraseIdx (npos o s)).length = o.length - 1 := List.length_eraseIdx_of_lt hlt
     repeat' (first | (refine no_implicit_lambda% (zH ?_)) | (refine no_implicit_lambda% (spl (fun hc => ?_) (fun hc => ?_)) <;> first | exact zG hc | skip) | (refine no_implicit_lambda% (ans ?_)) | (with_reducible first | exact zI | exact zJ))
     rw [show IntKind.i64.wrap ((npos o s : Int) + 1) = ((npos o s + 1 : Nat) : Int) by rw [z64 (by omega) (by omega)]; omega]
     (refine no_implicit_lambda% (cal [2] (hd) ?_ ?_))
     ·refine no_implicit_lambda% (ret1 ?_); first | (refine no_implicit_lambda% (akc ?_)) | (refine no_implicit_lambda% (aec ?_))
      repeat' (first | (refine no_implicit_lambda% (zH ?_)) | (refine no_implicit_lambda% (spl (fun hc => ?_) (fun hc => ?_)) <;> first | exact zG hc | skip) | (refine no_implicit_lambda% (ans ?_)) | (with_reducible first | exact zI | exact zJ))
      refine kN (o.eraseIdx (npos o s)) _ _ _ (by rw [hN]; rfl) (.inl ((Conv.freezeBox (j := 0) (id := 2) (bid := 3) (sz := 2) (rows := (o.eraseIdx (npos o s)).map corow) (k := (cp - (o.length - 1)) * 2) (m := o.length - 1) (cp := cp) (cells := [.arr 2 0 (o.length - 1) cp]) (permT (H := [(2, .seq ((o.eraseIdx (npos o s)).map corow) ((cp - (o.length - 1)) * 2)), (3, .box [.arr 2 0 (o.length - 1) cp])])) rfl (coOk _) (by rw [List.length_map, hel])).trans ?_))
      (refine no_implicit_lambda% (Conv.toT ?_ ?_ (LE0 rfl))); (focus ((unfold dkSt); (try dsimp only); exact wkl)); (focus ((unfold dkSt); (try dsimp only); exact wkh))
     ·first | (exact zI) | (exact zJ)
  ·first | (exact zI) | (exact zJ)
 ·intro xx H' hh
  obtain ⟨_, _, _, h', _⟩ := hh
  cases h'
end Go.Proofs.YtncffhgoopdfgaaGreat
namespace Go.Proofs.YtncffhgoopdfgaaGreat
open Go.Am
theorem vRt_can (v : Va) (h : vRt v = true) : vRt (canV v) = true := by
 unfold vRt at *
 simp only [Bool.or_eq_true, Bool.and_eq_true, beq_iff_eq, decide_eq_true_eq] at h
 unfold canV
 rcases h with ⟨h1, h2⟩ | h1
 ·rw [if_pos h1]; simp [h2]
 ·rw [if_neg (by omega), if_pos h1]; simp
theorem vers_can : ∀ (l : List Ve) (p : Option Int), versB p l = true → versB p (l.map canE) = true
 | [], p, _ => rfl
 | x :: l, p, h => by
  unfold versB at h
  simp only [Bool.and_eq_true] at h
  show versB p (canE x :: l.map canE) = true
  unfold versB
  simp only [Bool.and_eq_true]
  exact ⟨⟨⟨h.1.1.1, vRt_can _ h.1.1.2⟩, h.1.2⟩, vers_can l _ h.2⟩
theorem col_can {c : Co} (h : colB c = true) : colB (canC c) = true := by
 unfold colB at *
 simp only [Bool.and_eq_true, decide_eq_true_eq] at *
 refine ⟨⟨h.1.1, ?_⟩, vers_can _ _ h.2⟩
 unfold canC
 simpa using h.1.2
theorem canE_idem (x : Ve) : canE (canE x) = canE x := by unfold canE; simp [canV_idem]
theorem canC_idem (c : Co) : canC (canC c) = canC c := by
 unfold canC
 simp [canE_idem, Function.comp_def]
structure Fine (o : List Co) : Prop where
 len : o.length ≤ 4
 col : ∀ c ∈ o, colB c = true
 can : ∀ c ∈ o, canC c = c
 srt : Nsort o
theorem cols_of : ∀ (l : List Co) (p : Option ByteArray), (∀ c ∈ l, colB c = true) → Nsort l → (∀ q, p = some q → ∀ c ∈ l, sLt q c.n = true) → colsB p l = true
 | [], p, _, _, _ => rfl
 | c :: l, p, h1, h2, h3 => by
  unfold Nsort at h2
  rw [List.pairwise_cons] at h2
  unfold colsB
  simp only [Bool.and_eq_true]
  refine ⟨⟨h1 c (by simp), ?_⟩, cols_of l _ (fun d hd => h1 d (by simp [hd])) h2.2 fun q hq d hd => ?_⟩
  ·cases p with
   | none => rfl
   | some q => exact h3 q rfl c (by simp)
  ·cases hq; exact h2.1 d hd
theorem Fine.row {o : List Co} (h : Fine o) : rowB o = true := by
 unfold rowB
 rw [cols_of o none h.col h.srt (fun q hq => by cases hq), decide_eq_true h.len]; rfl
theorem Fine.copy {o : List Co} (h : Fine o) : copyR o = o := by
 unfold copyR
 rw [h.row, if_pos rfl]
 conv => rhs; rw [← List.map_id o]
 exact List.map_congr_left fun c hc => h.can c hc
theorem copy_fine (r : List Co) : Fine (copyR r) := by
 refine ⟨copy_len r, fun c hc => ?_, fun c hc => ?_, copy_sort r⟩ <;>
 ·unfold copyR at hc
  split at hc
  ·rename_i hb
   obtain ⟨d, hd, rfl⟩ := List.mem_map.1 hc
   first | exact col_can (row_mem hb hd) | exact canC_idem d
  ·cases hc
theorem Fine.sub {o q : List Co} (h : Fine o) (hs : q.Sublist o) : Fine q :=
 ⟨Nat.le_trans hs.length_le h.len, fun c hc => h.col c (hs.subset hc), fun c hc => h.can c (hs.subset hc), h.srt.sublist hs⟩
theorem dc_fine (r : List Co) (s : ByteArray) : Fine (dcR r s) := by
 unfold dcR
 split
 ·exact (copy_fine r).sub (List.eraseIdx_sublist _ _)
 ·exact copy_fine r
abbrev VSw (v : Va) : Prop := (v.kind = 1 → v.b.length < 1073741824) ∧ v.n < 18446744073709551616
theorem canV_sw {v : Va} (h : VSw v) : (canV v).b.length < 1073741824 ∧ (canV v).n < 18446744073709551616 := by
 obtain ⟨h1, h2⟩ := h
 unfold canV
 split
 ·exact ⟨h1 (by assumption), by show (0 : Nat) < _; omega⟩
 ·split
  ·exact ⟨by simp, canonB_lt h2⟩
  ·exact ⟨by simp, by show (0 : Nat) < _; omega⟩
theorem canV_sz {v : Va} (h1 : v.b.length < 1073741824) (h2 : v.n < 18446744073709551616) : (canV v).b.length < 1073741824 ∧ (canV v).n < 18446744073709551616 := canV_sw ⟨fun _ => h1, h2⟩
theorem copy_sz {r : List Co} (h : RowSz r) : RowSz (copyR r) := by
 unfold copyR
 split
 ·intro c hc x hx
  obtain ⟨d, hd, rfl⟩ := List.mem_map.1 hc
  obtain ⟨y, hy, rfl⟩ := List.mem_map.1 hx
  exact canV_sz (h d hd y hy).1 (h d hd y hy).2
 ·intro c hc; cases hc
theorem sub_sz {o q : List Co} (h : RowSz o) (hs : q.Sublist o) : RowSz q := fun c hc => h c (hs.subset hc)
theorem dc_sz {r : List Co} {s : ByteArray} (h : RowSz r) : RowSz (dcR r s) := by
 unfold dcR
 split
 ·exact sub_sz (copy_sz h) (List.eraseIdx_sublist _ _)
 ·exact copy_sz h
end Go.Proofs.YtncffhgoopdfgaaGreat
namespace Go.Proofs.YtncffhgoopdfgaaGreat
open Go.Am
def Vsort (l : List Ve) : Prop := l.Pairwise fun a b => b.t < a.t
theorem vers_to : ∀ {l : List Ve} {p : Option Int}, versB p l = true → (∀ x ∈ l, tmOk x.t = true ∧ vRt x.v = true) ∧ Vsort l ∧ ∀ q, p = some q → ∀ x ∈ l, x.t < q
 | [], p, _ => ⟨fun x h => (by cases h), List.Pairwise.nil, fun q _ x h => (by cases h)⟩
 | y :: l, p, h => by
  unfold versB at h
  simp only [Bool.and_eq_true] at h
  obtain ⟨h1, h2, h3⟩ := vers_to h.2
  refine ⟨fun x hx => ?_, List.pairwise_cons.2 ⟨fun b hb => h3 y.t rfl b hb, h2⟩, fun q hq x hx => ?_⟩
  ·rcases List.mem_cons.1 hx with rfl | hx
   ·exact ⟨h.1.1.1, h.1.1.2⟩
   ·exact h1 x hx
  ·subst hq
   have h4 : y.t < q := of_decide_eq_true h.1.2
   rcases List.mem_cons.1 hx with rfl | hx
   ·exact h4
   ·have := h3 y.t rfl x hx; omega
theorem vers_of : ∀ (l : List Ve) (p : Option Int), (∀ x ∈ l, tmOk x.t = true ∧ vRt x.v = true) → Vsort l → (∀ q, p = some q → ∀ x ∈ l, x.t < q) → versB p l = true
 | [], p, _, _, _ => rfl
 | y :: l, p, h1, h2, h3 => by
  unfold Vsort at h2
  rw [List.pairwise_cons] at h2
  unfold versB
  simp only [Bool.and_eq_true]
  refine ⟨⟨h1 y (by simp), ?_⟩, vers_of l _ (fun d hd => h1 d (by simp [hd])) h2.2 fun q hq d hd => ?_⟩
  ·cases p with
   | none => rfl
   | some q => exact decide_eq_true (h3 q rfl y (by simp))
  ·cases hq; exact h2.1 d hd
def insV (l : List Ve) (x : Ve) : List Ve := l.filter (fun y => decide (x.t < y.t)) ++ x :: l.filter (fun y => decide (y.t < x.t))
def putV (l : List Ve) (x : Ve) : List Ve := (insV l x).take 2
theorem insV_sort {l : List Ve} (h : Vsort l) (x : Ve) : Vsort (insV l x) := by
 unfold Vsort insV at *
 rw [List.pairwise_append, List.pairwise_cons]
 refine ⟨h.filter _, ⟨fun y hy => ?_, h.filter _⟩, fun a ha b hb => ?_⟩
 ·exact of_decide_eq_true (List.mem_filter.1 hy).2
 ·have h1 : x.t < a.t := of_decide_eq_true (List.mem_filter.1 ha).2
  rcases List.mem_cons.1 hb with rfl | hb
  ·exact h1
  ·have h2 : b.t < x.t := of_decide_eq_true (List.mem_filter.1 hb).2
   omega
theorem putV_vers {l : List Ve} (h : versB none l = true) {x : Ve} (h1 : tmOk x.t = true) (h2 : vRt x.v = true) : versB none (putV l x) = true := by
 obtain ⟨a, b, _⟩ := vers_to h
 refine vers_of _ _ (fun y hy => ?_) ((insV_sort b x).sublist (List.take_sublist _ _)) fun q hq => by cases hq
 have hy2 := List.mem_of_mem_take hy
 unfold insV at hy2
 rcases List.mem_append.1 hy2 with hy3 | hy3
 ·exact a y (List.mem_filter.1 hy3).1
 ·rcases List.mem_cons.1 hy3 with rfl | hy3
  ·exact ⟨h1, h2⟩
  ·exact a y (List.mem_filter.1 hy3).1
theorem putV_len (l : List Ve) (x : Ve) : 1 ≤ (putV l x).length ∧ (putV l x).length ≤ 2 := by
 unfold putV insV
 simp only [List.length_take, List.length_append, List.length_cons]
 omega
theorem putV_can {l : List Ve} (h : ∀ y ∈ l, canE y = y) {x : Ve} (hx : canE x = x) : ∀ y ∈ putV l x, canE y = y := by
 intro y hy
 have hy2 := List.mem_of_mem_take hy
 unfold insV at hy2
 rcases List.mem_append.1 hy2 with hy3 | hy3
 ·exact h y (List.mem_filter.1 hy3).1
 ·rcases List.mem_cons.1 hy3 with rfl | hy3
  ·exact hx
  ·exact h y (List.mem_filter.1 hy3).1
theorem can_col {c : Co} (h : canC c = c) : ∀ y ∈ c.l, canE y = y := by
 intro y hy
 have e : c.l.map canE = c.l := congrArg Co.l h
 obtain ⟨i, hi⟩ := List.getElem?_of_mem hy
 have h1 : (c.l.map canE)[i]? = some (canE y) := by rw [List.getElem?_map, hi]; rfl
 rw [e, hi] at h1
 exact (Option.some.inj h1).symm
theorem col_canC {c : Co} (h : ∀ y ∈ c.l, canE y = y) : canC c = c := by
 unfold canC
 have : c.l.map canE = c.l := by
  conv => rhs; rw [← List.map_id c.l]
  exact List.map_congr_left h
 rw [this]
def putC (c : Co) (x : Ve) : Co := ⟨c.n, putV c.l x⟩
theorem putC_col {c : Co} (h : colB c = true) {x : Ve} (h1 : tmOk x.t = true) (h2 : vRt x.v = true) : colB (putC c x) = true := by
 unfold colB at *
 simp only [Bool.and_eq_true, decide_eq_true_eq] at *
 exact ⟨⟨h.1.1, putV_len _ _⟩, putV_vers h.2 h1 h2⟩
theorem set_fine {o : List Co} (h : Fine o) {i : Nat} {c : Co} (hi : o[i]? = some c) {x : Ve} (h1 : tmOk x.t = true) (h2 : vRt x.v = true) (h3 : canE x = x) : Fine (o.set i (putC c x)) := by
 have hm := List.mem_of_getElem? hi
 refine ⟨by rw [List.length_set]; exact h.len, fun d hd => ?_, fun d hd => ?_, ?_⟩
 ·rcases List.mem_or_eq_of_mem_set hd with hd | rfl
  ·exact h.col d hd
  ·exact putC_col (h.col c hm) h1 h2
 ·rcases List.mem_or_eq_of_mem_set hd with hd | rfl
  ·exact h.can d hd
  ·exact col_canC (putV_can (can_col (h.can c hm)) h3)
 ·have e : (o.set i (putC c x)).map (·.n) = o.map (·.n) := by
   rw [List.map_set]
   obtain ⟨hlt, hg⟩ := List.getElem?_eq_some_iff.1 hi
   have h6 : (o.map (·.n))[i]? = some c.n := by rw [List.getElem?_map, hi]; rfl
   obtain ⟨h7, h8⟩ := List.getElem?_eq_some_iff.1 h6
   conv => rhs; rw [← List.set_getElem_self h7]
   rw [h8]; rfl
  have hs := h.srt
  unfold Nsort at *
  have k1 : (o.map (·.n)).Pairwise (fun a b => sLt a b = true) := by rw [List.pairwise_map]; exact hs
  rw [← e, List.pairwise_map] at k1
  exact k1
theorem ins_fine {o : List Co} (h : Fine o) {s : ByteArray} (hn : nmB s = true) (hs : hasN o s = false) (hl : o.length < 4) {x : Ve} (h1 : tmOk x.t = true) (h2 : vRt x.v = true) (h3 : canE x = x) : Fine (o.take (npos o s) ++ ⟨s, [x]⟩ :: o.drop (npos o s)) := by
 have hle := npos_le o s
 refine ⟨by simp; omega, fun d hd => ?_, fun d hd => ?_, ?_⟩
 ·rcases List.mem_append.1 hd with hd | hd
  ·exact h.col d (List.mem_of_mem_take hd)
  ·rcases List.mem_cons.1 hd with rfl | hd
   ·unfold colB versB versB ltT
    simp [hn, h1, h2]
   ·exact h.col d (List.mem_of_mem_drop hd)
 ·rcases List.mem_append.1 hd with hd | hd
  ·exact h.can d (List.mem_of_mem_take hd)
  ·rcases List.mem_cons.1 hd with rfl | hd
   ·exact col_canC fun y hy => by
     obtain rfl := List.mem_singleton.1 hy
     exact h3
   ·exact h.can d (List.mem_of_mem_drop hd)
 ·have hso := h.srt
  have hlow : ∀ i c, o[i]? = some c → (i < npos o s ↔ sLt c.n s = true) := fun i c hi => npos_lt hso hi
  have hup : ∀ i c, o[i]? = some c → npos o s ≤ i → sLt s c.n = true := fun i c hi hp => by
   have h5 : ¬ sLt c.n s = true := fun h => by have := (hlow i c hi).2 h; omega
   have h6 : cmpS c.n s ≠ 0 := fun e => by
    rcases Nat.lt_or_ge (npos o s) i with hlt | hge
    ·
     obtain ⟨d, hd⟩ : ∃ d, o[npos o s]? = some d := ⟨_, List.getElem?_eq_getElem (by have := (List.getElem?_eq_some_iff.1 hi).1; omega)⟩
     have h7 : sLt d.n c.n = true := by
      have hp2 := List.pairwise_iff_getElem.1 hso (npos o s) i (List.getElem?_eq_some_iff.1 hd).1 (List.getElem?_eq_some_iff.1 hi).1 hlt
      rw [(List.getElem?_eq_some_iff.1 hd).2, (List.getElem?_eq_some_iff.1 hi).2] at hp2
      exact hp2
     have h8 : c.n.toList = s.toList := by
      have := eq_cb c.n.toList s.toList
      unfold cmpS at e
      rw [e] at this
      simpa using this
     have h9 : sLt d.n s = true := by unfold sLt at *; rw [← h8]; exact h7
     have := (hlow _ d hd).2 h9
     omega
    ·have : i = npos o s := by omega
     subst this
     unfold hasN at hs
     rw [hi] at hs
     simp [e] at hs
   rw [sLt_eq, decide_eq_true_eq] at h5
   rw [sLt_eq, decide_eq_true_eq]
   have ha := cb_anti c.n.toList s.toList
   have hb := cb_bd c.n.toList s.toList
   unfold cmpS at *
   omega
  unfold Nsort at *
  rw [List.pairwise_append, List.pairwise_cons]
  have hs2 := hso
  rw [← List.take_append_drop (npos o s) o, List.pairwise_append] at hs2
  refine ⟨hs2.1, ⟨fun b hb => ?_, hs2.2.1⟩, fun a ha b hb => ?_⟩
  ·obtain ⟨i, hi⟩ := List.getElem?_of_mem hb
   rw [List.getElem?_drop] at hi
   exact hup _ b hi (by omega)
  ·rcases List.mem_cons.1 hb with rfl | hb
   ·obtain ⟨i, hi⟩ := List.getElem?_of_mem ha
    rw [List.getElem?_take] at hi
    split at hi
    ·exact (hlow i a hi).1 (by assumption)
    ·cases hi
   ·exact hs2.2.2 a ha b hb
theorem set_fine' {o : List Co} (h : Fine o) {i : Nat} {c d : Co} (hi : o[i]? = some c) (hn : d.n = c.n) (h1 : colB d = true) (h2 : canC d = d) : Fine (o.set i d) := by
 refine ⟨by rw [List.length_set]; exact h.len, fun e he => ?_, fun e he => ?_, ?_⟩
 ·rcases List.mem_or_eq_of_mem_set he with he | rfl
  ·exact h.col e he
  ·exact h1
 ·rcases List.mem_or_eq_of_mem_set he with he | rfl
  ·exact h.can e he
  ·exact h2
 ·have e : (o.set i d).map (·.n) = o.map (·.n) := by
   rw [List.map_set]
   have h6 : (o.map (·.n))[i]? = some c.n := by rw [List.getElem?_map, hi]; rfl
   obtain ⟨h7, h8⟩ := List.getElem?_eq_some_iff.1 h6
   conv => rhs; rw [← List.set_getElem_self h7]
   rw [h8, hn]
  have hs := h.srt
  unfold Nsort at *
  have k1 : (o.map (·.n)).Pairwise (fun a b => sLt a b = true) := by rw [List.pairwise_map]; exact hs
  rw [← e, List.pairwise_map] at k1
  exact k1
def dropV (l : List Ve) (t : Int) : List Ve := l.filter fun y => decide (y.t ≠ t)
theorem dropV_col {c : Co} (h : colB c = true) (t : Int) (hne : dropV c.l t ≠ []) : colB ⟨c.n, dropV c.l t⟩ = true := by
 unfold colB at *
 simp only [Bool.and_eq_true, decide_eq_true_eq] at *
 obtain ⟨a, b, _⟩ := vers_to h.2
 have hl : (dropV c.l t).length ≤ c.l.length := List.length_filter_le _ _
 have hp := List.length_pos_iff.2 hne
 refine ⟨⟨h.1.1, by omega, by omega⟩, vers_of _ _ (fun y hy => a y (List.mem_filter.1 hy).1) (b.filter _) fun q hq => by cases hq⟩
theorem drop_fine {o : List Co} (h : Fine o) {i : Nat} {c : Co} (hi : o[i]? = some c) (t : Int) : Fine (if dropV c.l t = [] then o.eraseIdx i else o.set i ⟨c.n, dropV c.l t⟩) := by
 have hm := List.mem_of_getElem? hi
 split
 ·exact h.sub (List.eraseIdx_sublist _ _)
 ·rename_i hne
  exact set_fine' h hi rfl (dropV_col (h.col c hm) t hne) (col_canC fun y hy => can_col (h.can c hm) y (List.mem_filter.1 hy).1)
end Go.Proofs.YtncffhgoopdfgaaGreat
namespace Go.Proofs.YtncffhgoopdfgaaGreat
open Go.Am
set_option maxRecDepth 100000
theorem overlaps_col (row : List AV) (rows : List (List AV)) (off m c k : Nat) (hrow : row ≠ []) (hne : rows.length + k ≠ 0) : ACalls Tryz.prog 211 1 1 [.list [row] .free, .arr 0 off m c] [(0, .seq rows k)] (fun out H' => out = .ret (.v (.bool false)) ∧ H' = [(0, .seq rows k)]) :=
 ext_ov (tS := 50) (tR := 4) (fn := Tryz.f211) (by kernel_rfl) (by kernel_rfl) rfl (by kernel_rfl) (by kernel_rfl) (e := 149) (by kernel_rfl) 2 (fun w => by kernel_rfl) hrow hne
set_option maxHeartbeats 3200000 in
theorem insert_col (rows : List (List AV)) (row : List AV) (i cp : Nat) (hR : RowsOk 2 rows) (hR1 : RowsOk 2 [row]) (hi : i ≤ rows.length) (hl : rows.length < 1000000000) (hcp0 : rows.length ≤ cp) (hcp : cp ≤ maxLen) : ACalls Tryz.prog 194 1 2 [.arr 0 0 rows.length cp, .v (.int .i64 i), .list [row] .free] [(0, .seq rows ((cp - rows.length) * 2))] (fun out H' => ∃ cp', rows.length + 1 ≤ cp' ∧ cp' ≤ maxLen ∧ out = .ret (.arr 1 0 (rows.length + 1) cp') ∧ H' = [(1, .seq (insAt rows i row) ((cp' - (rows.length + 1)) * 2))]) := by
 have hrow : row.length = 2 := hR1.len row (by simp)
 refine no_implicit_lambda% (acalls_of tok dok (f := 194) ⟨Tryz.func194, rfl, by kernel_rfl⟩ ?_); refine no_implicit_lambda% (c_start (fun _ h => h) ?_)
 repeat' (first | (refine no_implicit_lambda% (zH ?_)) | (refine no_implicit_lambda% (spl (fun hc => ?_) (fun hc => ?_)) <;> first | exact zG hc | skip) | (refine no_implicit_lambda% (ans ?_)) | (with_reducible first | exact zI | exact zJ))
 (refine no_implicit_lambda% (aqs ?_ ?_)); focus ((repeat' (refine no_implicit_lambda% (And.intro ?_ ?_))) <;> (first | exact trivial | exact Int.natCast_nonneg _ | omega | (simp; done) | (simp; omega) | ((show (0 : Int) ≤ _); omega)))
 repeat' (first | (refine no_implicit_lambda% (zH ?_)) | (refine no_implicit_lambda% (spl (fun hc => ?_) (fun hc => ?_)) <;> first | exact zG hc | skip) | (refine no_implicit_lambda% (ans ?_)) | (with_reducible first | exact zI | exact zJ))
 ·have hin : i = rows.length := by
   have h0 : (i : Int) = rows.length := by simpa using hc
   omega
  subst hin
  ((with_reducible refine no_implicit_lambda% (zC ?_)); refine no_implicit_lambda% (a_appS (sz := 2) (B := 40) (m2 := rows.length + 1) (rows3 := rows ++ [row]) rfl rfl rfl rfl rfl rfl rfl rfl rfl rfl rfl (fun _ h => h) rfl rfl (hR) (hR1) (by first | rfl | (exact List.length_map ..) | (simp; done) | (simp; omega)) rfl (by first | omega | (simp; omega)) (by first | rfl | (simp; done) | (simp; omega)) (by first | rfl | (exact map_snoc _ _) | (rw [List.map_append]; rfl) | (simp; done)) ?_))
  intro cp' h1 h2
  refine no_implicit_lambda% (akc ?_)
  refine no_implicit_lambda% (awd ?_)
  exact e_ret (H' := _) (rest := []) rfl ⟨cp', h1, h2, rfl, by rw [insAt_end]⟩ (.of_eq rfl) (LE0 rfl)
 ·have hcc := of_decide_eq_true hc
  have hne : i < rows.length := by
   rename_i hc0
   have h0 : ¬ (i : Int) = rows.length := by simpa using hc0
   omega
  have hw : IntKind.i64.wrap ((rows.length : Int) + (([row].length : Nat) : Int)) = ((rows.length + 1 : Nat) : Int) := by rw [IntKind.wrap_i64, List.length_singleton]; omega
  rw [hw] at hcc ⊢
  (refine no_implicit_lambda% (aqs ?_ ?_)); focus ((repeat' (refine no_implicit_lambda% (And.intro ?_ ?_))) <;> (first | exact trivial | exact Int.natCast_nonneg _ | omega | (simp; done) | (simp; omega) | ((show (0 : Int) ≤ _); omega)))
  repeat' (first | (refine no_implicit_lambda% (zH ?_)) | (refine no_implicit_lambda% (spl (fun hc => ?_) (fun hc => ?_)) <;> first | exact zG hc | skip) | (refine no_implicit_lambda% (ans ?_)) | (with_reducible first | exact zI | exact zJ))
  have hw2 : IntKind.i64.wrap (IntKind.i64.wrap ((rows.length : Int) + (([row].length : Nat) : Int)) - (i : Int)) = ((rows.length + 1 - i : Nat) : Int) := by rw [hw, IntKind.wrap_i64]; omega
  rw [hw2]
  (with_reducible refine zC ?_)
  refine a_app_zeros (id := 0) (off := 0) (nn := i) (cp := cp) (m := rows.length + 1 - i) (rows0 := rows.take i) rfl rfl rfl rfl rfl rfl rfl rfl rfl rfl rfl rfl (by omega) (by omega) ⟨by show (i + (rows.length + 1 - i)) * 40 ≤ _; omega, by omega⟩ (aolds_take rfl hR hi rfl) rfl (hR.take i).pure ?_
  intro cp' h1 h2
  rw [show i + (rows.length + 1 - i) = rows.length + 1 by omega] at h1 ⊢
  repeat' (first | (refine no_implicit_lambda% (zH ?_)) | (refine no_implicit_lambda% (spl (fun hc => ?_) (fun hc => ?_)) <;> first | exact zG hc | skip) | (refine no_implicit_lambda% (ans ?_)) | (with_reducible first | exact zI | exact zJ))
  (refine no_implicit_lambda% (aqs ?_ ?_)); focus ((repeat' (refine no_implicit_lambda% (And.intro ?_ ?_))) <;> (first | exact trivial | exact Int.natCast_nonneg _ | omega | (simp; done) | (simp; omega) | ((show (0 : Int) ≤ _); omega)))
  repeat' (first | (refine no_implicit_lambda% (zH ?_)) | (refine no_implicit_lambda% (spl (fun hc => ?_) (fun hc => ?_)) <;> first | exact zG hc | skip) | (refine no_implicit_lambda% (ans ?_)) | (with_reducible first | exact zI | exact zJ))
  (with_reducible refine zC ?_)
  refine a_copyEnd (id := 1) (m := 1) (sz := 2) (rows := rows.take i) (rows2 := [row]) (rows' := rows.take i ++ [row]) (k2 := (cp' - (i + 1)) * 2) rfl rfl rfl rfl rfl rfl rfl rfl (fun K h => asrc_rows rfl hR1.len ?_ h) (fun _ h => h) rfl (hR.take i) hR1 ?_ ?_ ?_ ?_ rfl ?_ ?_
  ·simp; omega
  ·exact Nat.min_eq_left (by omega)
  ·simp; omega
  ·simp; omega
  ·simp; omega
  ·simp; omega
  intro v1
  refine no_implicit_lambda% (akc ?_)
  repeat' (first | (refine no_implicit_lambda% (zH ?_)) | (refine no_implicit_lambda% (spl (fun hc => ?_) (fun hc => ?_)) <;> first | exact zG hc | skip) | (refine no_implicit_lambda% (ans ?_)) | (with_reducible first | exact zI | exact zJ))
  have hw3 : IntKind.i64.wrap ((i : Int) + (([row].length : Nat) : Int)) = ((i + 1 : Nat) : Int) := by rw [IntKind.wrap_i64, List.length_singleton]; omega
  rw [hw3]
  ((with_reducible refine no_implicit_lambda% (is_ev ?_)); first | (refine no_implicit_lambda% (v_qS rfl rfl rfl rfl (qAnd4 (fun _ h => h)) (fun _ h => h) ?_ ?_)) | (refine no_implicit_lambda% (v_qS rfl rfl rfl rfl (qAnd5 (fun _ h => h)) (fun _ h => h) ?_ ?_))); focus ((repeat' (refine no_implicit_lambda% (And.intro ?_ ?_))) <;> (first | exact trivial | exact Int.natCast_nonneg _ | omega | (simp; done) | (simp; omega) | ((show (0 : Int) ≤ _); omega)))
  repeat' (first | (refine no_implicit_lambda% (zH ?_)) | (refine no_implicit_lambda% (spl (fun hc => ?_) (fun hc => ?_)) <;> first | exact zG hc | skip) | (refine no_implicit_lambda% (ans ?_)) | (with_reducible first | exact zI | exact zJ))
  ((with_reducible refine no_implicit_lambda% (is_ev ?_)); first | (refine no_implicit_lambda% (v_qS rfl rfl rfl rfl (qAnd4 (fun _ h => h)) (fun _ h => h) ?_ ?_)) | (refine no_implicit_lambda% (v_qS rfl rfl rfl rfl (qAnd5 (fun _ h => h)) (fun _ h => h) ?_ ?_))); focus ((repeat' (refine no_implicit_lambda% (And.intro ?_ ?_))) <;> (first | exact trivial | exact Int.natCast_nonneg _ | omega | (simp; done) | (simp; omega) | ((show (0 : Int) ≤ _); omega)))
  repeat' (first | (refine no_implicit_lambda% (zH ?_)) | (refine no_implicit_lambda% (spl (fun hc => ?_) (fun hc => ?_)) <;> first | exact zG hc | skip) | (refine no_implicit_lambda% (ans ?_)) | (with_reducible first | exact zI | exact zJ))
  (with_reducible refine zC ?_)
  refine a_copyEnd (id := 1) (m := rows.length - i) (sz := 2) (rows := rows.take i ++ [row]) (rows2 := rows.drop i) (rows' := insAt rows i row) (k2 := (cp' - (rows.length + 1)) * 2) rfl rfl rfl rfl rfl rfl rfl rfl (fun K h => asrc_drop rfl rfl hR hi ?_ ?_ ?_ h) (fun _ h => h) rfl ((hR.take i).app hR1) (hR.drop i) ?_ ?_ ?_ ?_ ?_ ?_ ?_
  ·simp
  ·simp
  ·simp
  ·rw [List.length_drop]; exact Nat.min_eq_left (by omega)
  ·simp; omega
  ·simp; omega
  ·simp
  ·simp [insAt]
  ·simp; omega
  intro v2
  repeat' (first | (refine no_implicit_lambda% (zH ?_)) | (refine no_implicit_lambda% (spl (fun hc => ?_) (fun hc => ?_)) <;> first | exact zG hc | skip) | (refine no_implicit_lambda% (ans ?_)) | (with_reducible first | exact zI | exact zJ))
  exact e_ret (H' := _) (rest := [(0, .seq rows ((cp - rows.length) * 2))]) rfl ⟨cp', h1, h2, rfl, rfl⟩ (.of_eq rfl) (LE0 rfl)
 ·have hcc := of_decide_eq_false hc
  have hne : i < rows.length := by
   rename_i hc0
   have h0 : ¬ (i : Int) = rows.length := by simpa using hc0
   omega
  have hw : IntKind.i64.wrap ((rows.length : Int) + (([row].length : Nat) : Int)) = ((rows.length + 1 : Nat) : Int) := by rw [IntKind.wrap_i64, List.length_singleton]; omega
  rw [hw] at hcc ⊢
  (refine no_implicit_lambda% (aqs ?_ ?_)); focus ((repeat' (refine no_implicit_lambda% (And.intro ?_ ?_))) <;> (first | exact trivial | exact Int.natCast_nonneg _ | omega | (simp; done) | (simp; omega) | ((show (0 : Int) ≤ _); omega)))
  repeat' (first | (refine no_implicit_lambda% (zH ?_)) | (refine no_implicit_lambda% (spl (fun hc => ?_) (fun hc => ?_)) <;> first | exact zG hc | skip) | (refine no_implicit_lambda% (ans ?_)) | (with_reducible first | exact zI | exact zJ))
  have hw2 : IntKind.i64.wrap ((i : Int) + (([row].length : Nat) : Int)) = ((i + 1 : Nat) : Int) := by rw [IntKind.wrap_i64, List.length_singleton]; omega
  rw [hw2]
  (refine no_implicit_lambda% (aqs ?_ ?_)); focus ((repeat' (refine no_implicit_lambda% (And.intro ?_ ?_))) <;> (first | exact trivial | exact Int.natCast_nonneg _ | omega | (simp; done) | (simp; omega) | ((show (0 : Int) ≤ _); omega)))
  repeat' (first | (refine no_implicit_lambda% (zH ?_)) | (refine no_implicit_lambda% (spl (fun hc => ?_) (fun hc => ?_)) <;> first | exact zG hc | skip) | (refine no_implicit_lambda% (ans ?_)) | (with_reducible first | exact zI | exact zJ) | (refine no_implicit_lambda% (cal [0] (overlaps_col row rows _ _ _ _ (by intro h; rw [h] at hrow; cases hrow) (by omega)) ?_ ?_)) | fail)
  rw [show rn [0] 1 0 = 0 from rfl]
  ((with_reducible refine no_implicit_lambda% (is_ev ?_)); first | (refine no_implicit_lambda% (v_qS rfl rfl rfl rfl (qAnd4 (fun _ h => h)) (fun _ h => h) ?_ ?_)) | (refine no_implicit_lambda% (v_qS rfl rfl rfl rfl (qAnd5 (fun _ h => h)) (fun _ h => h) ?_ ?_))); focus ((repeat' (refine no_implicit_lambda% (And.intro ?_ ?_))) <;> (first | exact trivial | exact Int.natCast_nonneg _ | omega | (simp; done) | (simp; omega) | ((show (0 : Int) ≤ _); omega)))
  repeat' (first | (refine no_implicit_lambda% (zH ?_)) | (refine no_implicit_lambda% (spl (fun hc => ?_) (fun hc => ?_)) <;> first | exact zG hc | skip) | (refine no_implicit_lambda% (ans ?_)) | (with_reducible first | exact zI | exact zJ))
  ((with_reducible refine no_implicit_lambda% (is_ev ?_)); first | (refine no_implicit_lambda% (v_qS rfl rfl rfl rfl (qAnd4 (fun _ h => h)) (fun _ h => h) ?_ ?_)) | (refine no_implicit_lambda% (v_qS rfl rfl rfl rfl (qAnd5 (fun _ h => h)) (fun _ h => h) ?_ ?_))); focus ((repeat' (refine no_implicit_lambda% (And.intro ?_ ?_))) <;> (first | exact trivial | exact Int.natCast_nonneg _ | omega | (simp; done) | (simp; omega) | ((show (0 : Int) ≤ _); omega)))
  repeat' (first | (refine no_implicit_lambda% (zH ?_)) | (refine no_implicit_lambda% (spl (fun hc => ?_) (fun hc => ?_)) <;> first | exact zG hc | skip) | (refine no_implicit_lambda% (ans ?_)) | (with_reducible first | exact zI | exact zJ))
  obtain ⟨r, hr⟩ : ∃ r, rows[i]? = some r := ⟨_, List.getElem?_eq_getElem hne⟩
  (with_reducible refine zC ?_)
  refine a_copyUp (id := 0) (i := i) (sz := 2) (rows := rows) (r := r) (k2 := (cp - (rows.length + 1)) * 2) rfl rfl rfl rfl rfl rfl rfl rfl rfl (fun _ h => h) rfl rfl hR hr ?_ ?_ ?_ ?_ ?_ ?_ ?_
  ·rw [hw2]; (first | omega | (simp; done) | (simp; omega))
  ·(first | omega | (simp; done) | (simp; omega))
  ·(first | omega | (simp; done) | (simp; omega))
  ·(first | omega | (simp; done) | (simp; omega))
  ·(first | omega | (simp; done) | (simp; omega))
  ·(first | omega | (simp; done) | (simp; omega))
  intro v1
  repeat' (first | (refine no_implicit_lambda% (zH ?_)) | (refine no_implicit_lambda% (spl (fun hc => ?_) (fun hc => ?_)) <;> first | exact zG hc | skip) | (refine no_implicit_lambda% (ans ?_)) | (with_reducible first | exact zI | exact zJ))
  (refine no_implicit_lambda% (aqs ?_ ?_)); focus ((repeat' (refine no_implicit_lambda% (And.intro ?_ ?_))) <;> (first | exact trivial | exact Int.natCast_nonneg _ | omega | (simp; done) | (simp; omega) | ((show (0 : Int) ≤ _); omega)))
  repeat' (first | (refine no_implicit_lambda% (zH ?_)) | (refine no_implicit_lambda% (spl (fun hc => ?_) (fun hc => ?_)) <;> first | exact zG hc | skip) | (refine no_implicit_lambda% (ans ?_)) | (with_reducible first | exact zI | exact zJ))
  have hR2 : RowsOk 2 (rows.take i ++ r :: rows.drop i) := (hR.take i).app (RowsOk.app (r1 := [r]) (.one1 (hR.row (List.mem_of_getElem? hr))) (hR.drop i))
  (with_reducible refine zC ?_)
  refine a_copyOne (id := 0) (i := i) (sz := 2) (rows := rows.take i ++ r :: rows.drop i) (row := row) (rows' := insAt rows i row) rfl rfl rfl rfl rfl rfl rfl rfl rfl (fun _ h => h) rfl hR2 hrow ?_ ?_ ?_ ?_ (ins_set hne) ?_
  ·exact fun a ha => hR1.pure a (by simpa using ha)
  ·(first | omega | (simp; done) | (simp; omega))
  ·(first | omega | (simp; done) | (simp; omega))
  ·(first | omega | (simp; done) | (simp; omega))
  intro v2
  repeat' (first | (refine no_implicit_lambda% (zH ?_)) | (refine no_implicit_lambda% (spl (fun hc => ?_) (fun hc => ?_)) <;> first | exact zG hc | skip) | (refine no_implicit_lambda% (ans ?_)) | (with_reducible first | exact zI | exact zJ))
  refine e_ret_to (H' := [(1, .seq (insAt rows i row) ((cp - (rows.length + 1)) * 2))]) (rest := []) (Conv.anewS (j := 6) rfl (.refl _) ?_) rfl ⟨cp, by omega, hcp, rfl, rfl⟩ (.of_eq rfl) (LE0 rfl)
  rw [insAt_len _ hi]; omega
end Go.Proofs.YtncffhgoopdfgaaGreat
namespace Go.Proofs.YtncffhgoopdfgaaGreat
open Go.Am
set_option maxRecDepth 100000
theorem overlaps_ver (row : List AV) (rows : List (List AV)) (off m c k : Nat) (hrow : row ≠ []) (hne : rows.length + k ≠ 0) : ACalls Tryz.prog 214 1 1 [.list [row] .free, .arr 0 off m c] [(0, .seq rows k)] (fun out H' => out = .ret (.v (.bool false)) ∧ H' = [(0, .seq rows k)]) :=
 ext_ov (tS := 147) (tR := 4) (fn := Tryz.f214) (by kernel_rfl) (by kernel_rfl) rfl (by kernel_rfl) (by kernel_rfl) (e := 146) (by kernel_rfl) 4 (fun w => by kernel_rfl) hrow hne
set_option maxHeartbeats 3200000 in
theorem insert_ver (rows : List (List AV)) (row : List AV) (i cp : Nat) (hR : RowsOk 4 rows) (hR1 : RowsOk 4 [row]) (hi : i ≤ rows.length) (hl : rows.length < 1000000000) (hcp0 : rows.length ≤ cp) (hcp : cp ≤ maxLen) : ACalls Tryz.prog 197 1 2 [.arr 0 0 rows.length cp, .v (.int .i64 i), .list [row] .free] [(0, .seq rows ((cp - rows.length) * 4))] (fun out H' => ∃ cp', rows.length + 1 ≤ cp' ∧ cp' ≤ maxLen ∧ out = .ret (.arr 1 0 (rows.length + 1) cp') ∧ H' = [(1, .seq (insAt rows i row) ((cp' - (rows.length + 1)) * 4))]) := by
 have hrow : row.length = 4 := hR1.len row (by simp)
 refine no_implicit_lambda% (acalls_of tok dok (f := 197) ⟨Tryz.func197, rfl, by kernel_rfl⟩ ?_); refine no_implicit_lambda% (c_start (fun _ h => h) ?_)
 repeat' (first | (refine no_implicit_lambda% (zH ?_)) | (refine no_implicit_lambda% (spl (fun hc => ?_) (fun hc => ?_)) <;> first | exact zG hc | skip) | (refine no_implicit_lambda% (ans ?_)) | (with_reducible first | exact zI | exact zJ))
 (refine no_implicit_lambda% (aqs ?_ ?_)); focus ((repeat' (refine no_implicit_lambda% (And.intro ?_ ?_))) <;> (first | exact trivial | exact Int.natCast_nonneg _ | omega | (simp; done) | (simp; omega) | ((show (0 : Int) ≤ _); omega)))
 repeat' (first | (refine no_implicit_lambda% (zH ?_)) | (refine no_implicit_lambda% (spl (fun hc => ?_) (fun hc => ?_)) <;> first | exact zG hc | skip) | (refine no_implicit_lambda% (ans ?_)) | (with_reducible first | exact zI | exact zJ))
 ·have hin : i = rows.length := by
   have h0 : (i : Int) = rows.length := by simpa using hc
   omega
  subst hin
  ((with_reducible refine no_implicit_lambda% (zC ?_)); refine no_implicit_lambda% (a_appS (sz := 4) (B := 48) (m2 := rows.length + 1) (rows3 := rows ++ [row]) rfl rfl rfl rfl rfl rfl rfl rfl rfl rfl rfl (fun _ h => h) rfl rfl (hR) (hR1) (by first | rfl | (exact List.length_map ..) | (simp; done) | (simp; omega)) rfl (by first | omega | (simp; omega)) (by first | rfl | (simp; done) | (simp; omega)) (by first | rfl | (exact map_snoc _ _) | (rw [List.map_append]; rfl) | (simp; done)) ?_))
  intro cp' h1 h2
  refine no_implicit_lambda% (akc ?_)
  refine no_implicit_lambda% (awd ?_)
  exact e_ret (H' := _) (rest := []) rfl ⟨cp', h1, h2, rfl, by rw [insAt_end]⟩ (.of_eq rfl) (LE0 rfl)
 ·have hcc := of_decide_eq_true hc
  have hne : i < rows.length := by
   rename_i hc0
   have h0 : ¬ (i : Int) = rows.length := by simpa using hc0
   omega
  have hw : IntKind.i64.wrap ((rows.length : Int) + (([row].length : Nat) : Int)) = ((rows.length + 1 : Nat) : Int) := by rw [IntKind.wrap_i64, List.length_singleton]; omega
  rw [hw] at hcc ⊢
  (refine no_implicit_lambda% (aqs ?_ ?_)); focus ((repeat' (refine no_implicit_lambda% (And.intro ?_ ?_))) <;> (first | exact trivial | exact Int.natCast_nonneg _ | omega | (simp; done) | (simp; omega) | ((show (0 : Int) ≤ _); omega)))
  repeat' (first | (refine no_implicit_lambda% (zH ?_)) | (refine no_implicit_lambda% (spl (fun hc => ?_) (fun hc => ?_)) <;> first | exact zG hc | skip) | (refine no_implicit_lambda% (ans ?_)) | (with_reducible first | exact zI | exact zJ))
  have hw2 : IntKind.i64.wrap (IntKind.i64.wrap ((rows.length : Int) + (([row].length : Nat) : Int)) - (i : Int)) = ((rows.length + 1 - i : Nat) : Int) := by rw [hw, IntKind.wrap_i64]; omega
  rw [hw2]
  (with_reducible refine zC ?_)
  refine a_app_zeros (id := 0) (off := 0) (nn := i) (cp := cp) (m := rows.length + 1 - i) (rows0 := rows.take i) rfl rfl rfl rfl rfl rfl rfl rfl rfl rfl rfl rfl (by omega) (by omega) ⟨by show (i + (rows.length + 1 - i)) * 48 ≤ _; omega, by omega⟩ (aolds_take rfl hR hi rfl) rfl (hR.take i).pure ?_
  intro cp' h1 h2
  rw [show i + (rows.length + 1 - i) = rows.length + 1 by omega] at h1 ⊢
  repeat' (first | (refine no_implicit_lambda% (zH ?_)) | (refine no_implicit_lambda% (spl (fun hc => ?_) (fun hc => ?_)) <;> first | exact zG hc | skip) | (refine no_implicit_lambda% (ans ?_)) | (with_reducible first | exact zI | exact zJ))
  (refine no_implicit_lambda% (aqs ?_ ?_)); focus ((repeat' (refine no_implicit_lambda% (And.intro ?_ ?_))) <;> (first | exact trivial | exact Int.natCast_nonneg _ | omega | (simp; done) | (simp; omega) | ((show (0 : Int) ≤ _); omega)))
  repeat' (first | (refine no_implicit_lambda% (zH ?_)) | (refine no_implicit_lambda% (spl (fun hc => ?_) (fun hc => ?_)) <;> first | exact zG hc | skip) | (refine no_implicit_lambda% (ans ?_)) | (with_reducible first | exact zI | exact zJ))
  (with_reducible refine zC ?_)
  refine a_copyEnd (id := 1) (m := 1) (sz := 4) (rows := rows.take i) (rows2 := [row]) (rows' := rows.take i ++ [row]) (k2 := (cp' - (i + 1)) * 4) rfl rfl rfl rfl rfl rfl rfl rfl (fun K h => asrc_rows rfl hR1.len ?_ h) (fun _ h => h) rfl (hR.take i) hR1 ?_ ?_ ?_ ?_ rfl ?_ ?_
  ·simp; omega
  ·exact Nat.min_eq_left (by omega)
  ·simp; omega
  ·simp; omega
  ·simp; omega
  ·simp; omega
  intro v1
  refine no_implicit_lambda% (akc ?_)
  repeat' (first | (refine no_implicit_lambda% (zH ?_)) | (refine no_implicit_lambda% (spl (fun hc => ?_) (fun hc => ?_)) <;> first | exact zG hc | skip) | (refine no_implicit_lambda% (ans ?_)) | (with_reducible first | exact zI | exact zJ))
  have hw3 : IntKind.i64.wrap ((i : Int) + (([row].length : Nat) : Int)) = ((i + 1 : Nat) : Int) := by rw [IntKind.wrap_i64, List.length_singleton]; omega
  rw [hw3]
  ((with_reducible refine no_implicit_lambda% (is_ev ?_)); first | (refine no_implicit_lambda% (v_qS rfl rfl rfl rfl (qAnd4 (fun _ h => h)) (fun _ h => h) ?_ ?_)) | (refine no_implicit_lambda% (v_qS rfl rfl rfl rfl (qAnd5 (fun _ h => h)) (fun _ h => h) ?_ ?_))); focus ((repeat' (refine no_implicit_lambda% (And.intro ?_ ?_))) <;> (first | exact trivial | exact Int.natCast_nonneg _ | omega | (simp; done) | (simp; omega) | ((show (0 : Int) ≤ _); omega)))
  repeat' (first | (refine no_implicit_lambda% (zH ?_)) | (refine no_implicit_lambda% (spl (fun hc => ?_) (fun hc => ?_)) <;> first | exact zG hc | skip) | (refine no_implicit_lambda% (ans ?_)) | (with_reducible first | exact zI | exact zJ))
  ((with_reducible refine no_implicit_lambda% (is_ev ?_)); first | (refine no_implicit_lambda% (v_qS rfl rfl rfl rfl (qAnd4 (fun _ h => h)) (fun _ h => h) ?_ ?_)) | (refine no_implicit_lambda% (v_qS rfl rfl rfl rfl (qAnd5 (fun _ h => h)) (fun _ h => h) ?_ ?_))); focus ((repeat' (refine no_implicit_lambda% (And.intro ?_ ?_))) <;> (first | exact trivial | exact Int.natCast_nonneg _ | omega | (simp; done) | (simp; omega) | ((show (0 : Int) ≤ _); omega)))
  repeat' (first | (refine no_implicit_lambda% (zH ?_)) | (refine no_implicit_lambda% (spl (fun hc => ?_) (fun hc => ?_)) <;> first | exact zG hc | skip) | (refine no_implicit_lambda% (ans ?_)) | (with_reducible first | exact zI | exact zJ))
  (with_reducible refine zC ?_)
  refine a_copyEnd (id := 1) (m := rows.length - i) (sz := 4) (rows := rows.take i ++ [row]) (rows2 := rows.drop i) (rows' := insAt rows i row) (k2 := (cp' - (rows.length + 1)) * 4) rfl rfl rfl rfl rfl rfl rfl rfl (fun K h => asrc_drop rfl rfl hR hi ?_ ?_ ?_ h) (fun _ h => h) rfl ((hR.take i).app hR1) (hR.drop i) ?_ ?_ ?_ ?_ ?_ ?_ ?_
  ·simp
  ·simp
  ·simp
  ·rw [List.length_drop]; exact Nat.min_eq_left (by omega)
  ·simp; omega
  ·simp; omega
  ·simp
  ·simp [insAt]
  ·simp; omega
  intro v2
  repeat' (first | (refine no_implicit_lambda% (zH ?_)) | (refine no_implicit_lambda% (spl (fun hc => ?_) (fun hc => ?_)) <;> first | exact zG hc | skip) | (refine no_implicit_lambda% (ans ?_)) | (with_reducible first | exact zI | exact zJ))
  exact e_ret (H' := _) (rest := [(0, .seq rows ((cp - rows.length) * 4))]) rfl ⟨cp', h1, h2, rfl, rfl⟩ (.of_eq rfl) (LE0 rfl)
 ·have hcc := of_decide_eq_false hc
  have hne : i < rows.length := by
   rename_i hc0
   have h0 : ¬ (i : Int) = rows.length := by simpa using hc0
   omega
  have hw : IntKind.i64.wrap ((rows.length : Int) + (([row].length : Nat) : Int)) = ((rows.length + 1 : Nat) : Int) := by rw [IntKind.wrap_i64, List.length_singleton]; omega
  rw [hw] at hcc ⊢
  (refine no_implicit_lambda% (aqs ?_ ?_)); focus ((repeat' (refine no_implicit_lambda% (And.intro ?_ ?_))) <;> (first | exact trivial | exact Int.natCast_nonneg _ | omega | (simp; done) | (simp; omega) | ((show (0 : Int) ≤ _); omega)))
  repeat' (first | (refine no_implicit_lambda% (zH ?_)) | (refine no_implicit_lambda% (spl (fun hc => ?_) (fun hc => ?_)) <;> first | exact zG hc | skip) | (refine no_implicit_lambda% (ans ?_)) | (with_reducible first | exact zI | exact zJ))
  have hw2 : IntKind.i64.wrap ((i : Int) + (([row].length : Nat) : Int)) = ((i + 1 : Nat) : Int) := by rw [IntKind.wrap_i64, List.length_singleton]; omega
  rw [hw2]
  (refine no_implicit_lambda% (aqs ?_ ?_)); focus ((repeat' (refine no_implicit_lambda% (And.intro ?_ ?_))) <;> (first | exact trivial | exact Int.natCast_nonneg _ | omega | (simp; done) | (simp; omega) | ((show (0 : Int) ≤ _); omega)))
  repeat' (first | (refine no_implicit_lambda% (zH ?_)) | (refine no_implicit_lambda% (spl (fun hc => ?_) (fun hc => ?_)) <;> first | exact zG hc | skip) | (refine no_implicit_lambda% (ans ?_)) | (with_reducible first | exact zI | exact zJ) | (refine no_implicit_lambda% (cal [0] (overlaps_ver row rows _ _ _ _ (by intro h; rw [h] at hrow; cases hrow) (by omega)) ?_ ?_)) | fail)
  rw [show rn [0] 1 0 = 0 from rfl]
  ((with_reducible refine no_implicit_lambda% (is_ev ?_)); first | (refine no_implicit_lambda% (v_qS rfl rfl rfl rfl (qAnd4 (fun _ h => h)) (fun _ h => h) ?_ ?_)) | (refine no_implicit_lambda% (v_qS rfl rfl rfl rfl (qAnd5 (fun _ h => h)) (fun _ h => h) ?_ ?_))); focus ((repeat' (refine no_implicit_lambda% (And.intro ?_ ?_))) <;> (first | exact trivial | exact Int.natCast_nonneg _ | omega | (simp; done) | (simp; omega) | ((show (0 : Int) ≤ _); omega)))
  repeat' (first | (refine no_implicit_lambda% (zH ?_)) | (refine no_implicit_lambda% (spl (fun hc => ?_) (fun hc => ?_)) <;> first | exact zG hc | skip) | (refine no_implicit_lambda% (ans ?_)) | (with_reducible first | exact zI | exact zJ))
  ((with_reducible refine no_implicit_lambda% (is_ev ?_)); first | (refine no_implicit_lambda% (v_qS rfl rfl rfl rfl (qAnd4 (fun _ h => h)) (fun _ h => h) ?_ ?_)) | (refine no_implicit_lambda% (v_qS rfl rfl rfl rfl (qAnd5 (fun _ h => h)) (fun _ h => h) ?_ ?_))); focus ((repeat' (refine no_implicit_lambda% (And.intro ?_ ?_))) <;> (first | exact trivial | exact Int.natCast_nonneg _ | omega | (simp; done) | (simp; omega) | ((show (0 : Int) ≤ _); omega)))
  repeat' (first | (refine no_implicit_lambda% (zH ?_)) | (refine no_implicit_lambda% (spl (fun hc => ?_) (fun hc => ?_)) <;> first | exact zG hc | skip) | (refine no_implicit_lambda% (ans ?_)) | (with_reducible first | exact zI | exact zJ))
  obtain ⟨r, hr⟩ : ∃ r, rows[i]? = some r := ⟨_, List.getElem?_eq_getElem hne⟩
  (with_reducible refine zC ?_)
  refine a_copyUp (id := 0) (i := i) (sz := 4) (rows := rows) (r := r) (k2 := (cp - (rows.length + 1)) * 4) rfl rfl rfl rfl rfl rfl rfl rfl rfl (fun _ h => h) rfl rfl hR hr ?_ ?_ ?_ ?_ ?_ ?_ ?_
  ·rw [hw2]; (first | omega | (simp; done) | (simp; omega))
  ·(first | omega | (simp; done) | (simp; omega))
  ·(first | omega | (simp; done) | (simp; omega))
  ·(first | omega | (simp; done) | (simp; omega))
  ·(first | omega | (simp; done) | (simp; omega))
  ·(first | omega | (simp; done) | (simp; omega))
  intro v1
  repeat' (first | (refine no_implicit_lambda% (zH ?_)) | (refine no_implicit_lambda% (spl (fun hc => ?_) (fun hc => ?_)) <;> first | exact zG hc | skip) | (refine no_implicit_lambda% (ans ?_)) | (with_reducible first | exact zI | exact zJ))
  (refine no_implicit_lambda% (aqs ?_ ?_)); focus ((repeat' (refine no_implicit_lambda% (And.intro ?_ ?_))) <;> (first | exact trivial | exact Int.natCast_nonneg _ | omega | (simp; done) | (simp; omega) | ((show (0 : Int) ≤ _); omega)))
  repeat' (first | (refine no_implicit_lambda% (zH ?_)) | (refine no_implicit_lambda% (spl (fun hc => ?_) (fun hc => ?_)) <;> first | exact zG hc | skip) | (refine no_implicit_lambda% (ans ?_)) | (with_reducible first | exact zI | exact zJ))
  have hR2 : RowsOk 4 (rows.take i ++ r :: rows.drop i) := (hR.take i).app (RowsOk.app (r1 := [r]) (.one1 (hR.row (List.mem_of_getElem? hr))) (hR.drop i))
  (with_reducible refine zC ?_)
  refine a_copyOne (id := 0) (i := i) (sz := 4) (rows := rows.take i ++ r :: rows.drop i) (row := row) (rows' := insAt rows i row) rfl rfl rfl rfl rfl rfl rfl rfl rfl (fun _ h => h) rfl hR2 hrow ?_ ?_ ?_ ?_ (ins_set hne) ?_
  ·exact fun a ha => hR1.pure a (by simpa using ha)
  ·(first | omega | (simp; done) | (simp; omega))
  ·(first | omega | (simp; done) | (simp; omega))
  ·(first | omega | (simp; done) | (simp; omega))
  intro v2
  repeat' (first | (refine no_implicit_lambda% (zH ?_)) | (refine no_implicit_lambda% (spl (fun hc => ?_) (fun hc => ?_)) <;> first | exact zG hc | skip) | (refine no_implicit_lambda% (ans ?_)) | (with_reducible first | exact zI | exact zJ))
  refine e_ret_to (H' := [(1, .seq (insAt rows i row) ((cp - (rows.length + 1)) * 4))]) (rest := []) (Conv.anewS (j := 6) rfl (.refl _) ?_) rfl ⟨cp, by omega, hcp, rfl, rfl⟩ (.of_eq rfl) (LE0 rfl)
  rw [insAt_len _ hi]; omega
end Go.Proofs.YtncffhgoopdfgaaGreat
namespace Go.Proofs.YtncffhgoopdfgaaGreat
open Go.Am
set_option maxRecDepth 100000
def sl1 (n : Nat) (s : Int) : Heap := [(n, .box [.v (.int .i64 s)])]
def TimeIs (f : Nat) : Prop := ∀ (t : Ve) (s : Int), ACalls Tryz.prog f 1 5 [.agg (verow t), .ptr 0 0] (sl1 0 s) (fun out H' => out = .ret (.v (.bool (decide (t.t = s)))) ∧ H' = sl1 0 s)
theorem put1_c : TimeIs 196 := fun t s => by
 refine no_implicit_lambda% (acalls_of tok dok (f := 196) ⟨Tryz.func196, rfl, by kernel_rfl⟩ ?_); refine no_implicit_lambda% (c_start (fun _ h => h) ?_)
 repeat' (first | (refine no_implicit_lambda% (zH ?_)) | (refine no_implicit_lambda% (spl (fun hc => ?_) (fun hc => ?_)) <;> first | exact zG hc | skip) | (refine no_implicit_lambda% (ans ?_)) | (with_reducible first | exact zI | exact zJ))
 exact e_ret (H' := sl1 0 s) (rest := _) rfl ⟨rfl, rfl⟩ permT (LE0 rfl)
theorem drop1_c : TimeIs 198 := fun t s => by
 refine no_implicit_lambda% (acalls_of tok dok (f := 198) ⟨Tryz.func198, rfl, by kernel_rfl⟩ ?_); refine no_implicit_lambda% (c_start (fun _ h => h) ?_)
 repeat' (first | (refine no_implicit_lambda% (zH ?_)) | (refine no_implicit_lambda% (spl (fun hc => ?_) (fun hc => ?_)) <;> first | exact zG hc | skip) | (refine no_implicit_lambda% (ans ?_)) | (with_reducible first | exact zI | exact zJ))
 exact e_ret (H' := sl1 0 s) (rest := _) rfl ⟨rfl, rfl⟩ permT (LE0 rfl)
def ifSt (f : Nat) (l : List Ve) (cp k : Nat) (s : Int) (i : Nat) : ASt := ⟨([.arr 0 0 l.length cp, .fn f [.ptr 1 0]] ++ List.replicate 5 .dead ++ [.v (.int .i64 l.length), .v (.int .i64 i)] ++ List.replicate 10 .dead), [(0, .seq (l.map verow) k)] ++ sl1 1 s, 2⟩
abbrev ifR (l : List Ve) (k : Nat) (s : Int) (out : AOut) (H' : Heap) : Prop := ∃ r : Int, ((∃ (i : Nat) (t : Ve), l[i]? = some t ∧ t.t = s ∧ (∀ u ∈ l.take i, ¬ u.t = s) ∧ r = i) ∨ ((∀ u ∈ l, ¬ u.t = s) ∧ r = -1)) ∧ out = .ret (.v (.int .i64 r)) ∧ H' = [(0, .seq (l.map verow) k)] ++ sl1 1 s
theorem indexf_c {f : Nat} (hF : TimeIs f) (l : List Ve) (cp k : Nat) (s : Int) (hl : l.length < 1000000) : ACalls Tryz.prog 213 2 50 [.arr 0 0 l.length cp, .fn f [.ptr 1 0]] ([(0, .seq (l.map verow) k)] ++ sl1 1 s) (ifR l k s) := by
 refine no_implicit_lambda% (acalls_of tok dok (f := 213) ⟨Tryz.func213, rfl, by kernel_rfl⟩ ?_); refine no_implicit_lambda% (c_start (fun _ h => h) ?_)
 repeat' (first | (refine no_implicit_lambda% (zH ?_)) | (refine no_implicit_lambda% (spl (fun hc => ?_) (fun hc => ?_)) <;> first | exact zG hc | skip) | (refine no_implicit_lambda% (ans ?_)) | (with_reducible first | exact zI | exact zJ))
 refine c_loop' (ifSt f l cp k s) (fun i => i ≤ l.length ∧ ∀ u ∈ l.take i, ¬ u.t = s) (fun i => l.length - i) (a := 0) ⟨Nat.zero_le _, by simp⟩ ?_ ?_
 ·(refine no_implicit_lambda% (Conv.toT ?_ ?_ (LE0 rfl))); (focus ((unfold ifSt); (try dsimp only); exact wkl)); (focus ((unfold ifSt); (try dsimp only); exact wkh))
 ·rintro i ⟨i1, i2⟩
  refine c_turn (n' := 2) (fun _ h => h) (fun _ h => h) rfl ?_
  rcases ht : l[i]? with _ | t
  ·have hi : i = l.length := by have := List.getElem?_eq_none_iff.1 ht; omega
   repeat' (first | (refine no_implicit_lambda% (zH ?_)) | (refine no_implicit_lambda% (spl (fun hc => ?_) (fun hc => ?_)) <;> first | exact zG hc | skip) | (refine no_implicit_lambda% (ans ?_)) | (with_reducible first | exact zI | exact zJ))
   rw [hi, List.take_length] at i2
   exact e_ret (H' := [(0, .seq (l.map verow) k)] ++ sl1 1 s) (rest := []) rfl ⟨-1, .inr ⟨i2, rfl⟩, rfl, rfl⟩ permT (LE0 rfl)
  ·have hi : i < l.length := (List.getElem?_eq_some_iff.1 ht).1
   have hts : l.take (i + 1) = l.take i ++ [t] := by rw [List.take_add_one, ht]; rfl
   repeat' (first | (refine no_implicit_lambda% (zH ?_)) | (refine no_implicit_lambda% (spl (fun hc => ?_) (fun hc => ?_)) <;> first | exact zG hc | skip) | (refine no_implicit_lambda% (ans ?_)) | (with_reducible first | exact zI | exact zJ))
   (refine no_implicit_lambda% (aqs ?_ ?_)); focus (first | omega | (simp; done) | (simp; omega))
   repeat' (first | (refine no_implicit_lambda% (zH ?_)) | (refine no_implicit_lambda% (spl (fun hc => ?_) (fun hc => ?_)) <;> first | exact zG hc | skip) | (refine no_implicit_lambda% (ans ?_)) | (with_reducible first | exact zI | exact zJ))
   ((with_reducible refine no_implicit_lambda% (zC ?_)); refine no_implicit_lambda% (a_loadSeqA (sz := 4) (rows := l.map verow) (i := i) (j := 0) rfl rfl rfl rfl rfl (veOk l) ((by rw [List.getElem?_map, ht]; rfl)) (by first | decide | (simp; done)) rfl (by first | rfl | (simp; done) | (simp; omega)) ?_))
   repeat' (first | (refine no_implicit_lambda% (zH ?_)) | (refine no_implicit_lambda% (spl (fun hc => ?_) (fun hc => ?_)) <;> first | exact zG hc | skip) | (refine no_implicit_lambda% (ans ?_)) | (with_reducible first | exact zI | exact zJ) | (refine no_implicit_lambda% (cal [1] (hF t s) ?_ ?_)) | fail)
   ·exact e_ret (H' := [(0, .seq (l.map verow) k)] ++ sl1 1 s) (rest := []) rfl ⟨i, .inl ⟨i, t, ht, of_decide_eq_true hc, i2, rfl⟩, rfl, rfl⟩ permT (LE0 rfl)
   ·(refine no_implicit_lambda% (k_loopLT (i + 1) 2 [0, 1] (by show i + 1 ≤ l.length ∧ ∀ u ∈ l.take (i + 1), ¬ u.t = s; exact ⟨hi, by rw [hts]; intro u hu; rcases List.mem_append.1 hu with hu | hu; exact i2 u hu; rw [List.mem_singleton.1 hu]; exact of_decide_eq_false hc⟩) (by first | omega | (simp; done) | (simp; omega)) (LE0 rfl) (fun _ h => h) (fun _ h => h) ?_ ?_)); (focus ((try dsimp only); exact wkl)); (focus ((try dsimp only); exact wkh))
theorem dropV_snoc (l : List Ve) (t : Ve) (s : Int) : dropV (l ++ [t]) s = dropV l s ++ (if t.t = s then [] else [t]) := by
 unfold dropV
 rw [List.filter_append]
 congr 1
 by_cases h : t.t = s <;> simp [h]
theorem dropV_len (l : List Ve) (s : Int) : (dropV l s).length ≤ l.length := List.length_filter_le _ _
def dfSt (f : Nat) (l cur : List Ve) (cp k : Nat) (s : Int) (i j : Nat) : ASt := ⟨([.arr 0 0 l.length cp, .fn f [.ptr 1 0], .dead, .dead, .dead, .v (.int .i64 i), .v (.int .i64 j)] ++ List.replicate 35 .dead), [(0, .seq (cur.map verow) k)] ++ sl1 1 s, 50⟩
theorem deletef_c {f : Nat} (hF : TimeIs f) (l : List Ve) (cp : Nat) (s : Int) (hl : l.length < 1000000) (hcp : l.length ≤ cp) : ACalls Tryz.prog 195 2 200 [.arr 0 0 l.length cp, .fn f [.ptr 1 0]] ([(0, .seq (l.map verow) ((cp - l.length) * 4))] ++ sl1 1 s) (fun out H' => out = .ret (.arr 0 0 (dropV l s).length cp) ∧ H' = [(0, .seq ((dropV l s).map verow) ((cp - (dropV l s).length) * 4))] ++ sl1 1 s) := by
 refine no_implicit_lambda% (acalls_of tok dok (f := 195) ⟨Tryz.func195, rfl, by kernel_rfl⟩ ?_); refine no_implicit_lambda% (c_start (fun _ h => h) ?_)
 refine no_implicit_lambda% (awd ?_)
 (refine no_implicit_lambda% (cal [0, 1] (indexf_c hF l cp ((cp - l.length) * 4) s hl) ?_ ?_))
 ·intro xx H' hh
  obtain ⟨r, hr, h', rfl⟩ := hh
  cases h'
  first | (refine no_implicit_lambda% (akc ?_)) | (refine no_implicit_lambda% (aec ?_))
  repeat' (first | (refine no_implicit_lambda% (zH ?_)) | (refine no_implicit_lambda% (spl (fun hc => ?_) (fun hc => ?_)) <;> first | exact zG hc | skip) | (refine no_implicit_lambda% (ans ?_)) | (with_reducible first | exact zI | exact zJ))
  ·have hr1 : r = -1 := by simpa using hc
   have hk : dropV l s = l := by
    rcases hr with ⟨i, t, _, _, _, e⟩ | ⟨h, _⟩
    ·omega
    ·unfold dropV
     rw [List.filter_eq_self]
     intro t ht
     simpa using h t ht
   rw [hk]
   exact e_ret (H' := [(0, .seq (l.map verow) ((cp - l.length) * 4))] ++ sl1 1 s) (rest := []) rfl ⟨rfl, rfl⟩ permT (LE0 rfl)
  ·have hr1 : r ≠ -1 := by simpa using hc
   obtain ⟨i, t, ht, htc, hi2, rfl⟩ : ∃ (i : Nat) (t : Ve), l[i]? = some t ∧ t.t = s ∧ (∀ u ∈ l.take i, ¬ u.t = s) ∧ r = i := by
    rcases hr with h | ⟨_, e⟩
    ·exact h
    ·exact absurd e hr1
   have hil : i < l.length := (List.getElem?_eq_some_iff.1 ht).1
   rw [show IntKind.i64.wrap ((i : Int) + 1) = ((i + 1 : Nat) : Int) by rw [IntKind.wrap_i64]; omega]
   have hk0 : dropV (l.take (i + 1)) s = l.take i := by
    rw [List.take_add_one, ht]
    show dropV (l.take i ++ [t]) s = _
    rw [dropV_snoc, if_pos htc, List.append_nil]
    unfold dropV
    rw [List.filter_eq_self]
    intro u hu
    simpa using hi2 u hu
   refine c_l3 (fun cur a j => dfSt f l cur cp ((cp - l.length) * 4) s a j) (fun cur a j => j ≤ l.length ∧ a ≤ j ∧ cur.length = l.length ∧ cur.take a = dropV (l.take j) s ∧ cur.drop j = l.drop j ∧ a = (dropV (l.take j) s).length) (fun _ _ j => l.length - j) l i (i + 1) ⟨hil, by omega, rfl, hk0.symm, rfl, by rw [hk0, List.length_take]; omega⟩ ?_ ?_
   ·(refine no_implicit_lambda% (Conv.toT ?_ ?_ (LE0 rfl))); (focus ((unfold dfSt); (try dsimp only); exact wkl)); (focus ((unfold dfSt); (try dsimp only); exact wkh))
   ·rintro cur a j ⟨j1, j2, j3, j4, j5, j6⟩
    refine c_turn (n' := 50) (fun _ h => h) (fun _ h => h) rfl ?_
    rcases hu : l[j]? with _ | u
    ·have hj : j = l.length := by have := List.getElem?_eq_none_iff.1 hu; omega
     repeat' (first | (refine no_implicit_lambda% (zH ?_)) | (refine no_implicit_lambda% (spl (fun hc => ?_) (fun hc => ?_)) <;> first | exact zG hc | skip) | (refine no_implicit_lambda% (ans ?_)) | (with_reducible first | exact zI | exact zJ))
     (refine no_implicit_lambda% (aqs ?_ ?_)); focus ((repeat' (refine no_implicit_lambda% (And.intro ?_ ?_))) <;> (first | exact trivial | exact Int.natCast_nonneg _ | omega | (simp; done) | (simp; omega) | ((show (0 : Int) ≤ _); omega)))
     repeat' (first | (refine no_implicit_lambda% (zH ?_)) | (refine no_implicit_lambda% (spl (fun hc => ?_) (fun hc => ?_)) <;> first | exact zG hc | skip) | (refine no_implicit_lambda% (ans ?_)) | (with_reducible first | exact zI | exact zJ))
     have hcl : (cur.map verow).length = l.length := by rw [List.length_map]; exact j3
     rw [hj, List.take_length] at j4 j6
     (with_reducible refine zC ?_)
     refine a_clearToC (id := 0) (i := a) (sz := 4) (rows := cur.map verow) (k2 := (cp - a) * 4) rfl rfl rfl rfl rfl rfl rfl rfl rfl rfl (fun _ h => h) rfl (veOk cur) ?_ ?_ ?_ ?_ ?_ ?_
     ·omega
     ·simp
     ·rw [hcl]; simp
     ·omega
     ·rw [hcl]; omega
     repeat' (first | (refine no_implicit_lambda% (zH ?_)) | (refine no_implicit_lambda% (spl (fun hc => ?_) (fun hc => ?_)) <;> first | exact zG hc | skip) | (refine no_implicit_lambda% (ans ?_)) | (with_reducible first | exact zI | exact zJ))
     (refine no_implicit_lambda% (aqs ?_ ?_)); focus ((repeat' (refine no_implicit_lambda% (And.intro ?_ ?_))) <;> (first | exact trivial | exact Int.natCast_nonneg _ | omega | (simp; done) | (simp; omega) | ((show (0 : Int) ≤ _); omega)))
     repeat' (first | (refine no_implicit_lambda% (zH ?_)) | (refine no_implicit_lambda% (spl (fun hc => ?_) (fun hc => ?_)) <;> first | exact zG hc | skip) | (refine no_implicit_lambda% (ans ?_)) | (with_reducible first | exact zI | exact zJ))
     have hfin : (cur.map verow).take a = (dropV l s).map verow := by rw [← List.map_take, j4]
     rw [hfin, j6]
     exact e_ret (H' := [(0, .seq ((dropV l s).map verow) ((cp - (dropV l s).length) * 4))] ++ sl1 1 s) (rest := []) rfl ⟨rfl, rfl⟩ permT (LE0 rfl)
    ·have hj : j < l.length := (List.getElem?_eq_some_iff.1 hu).1
     have hcu : cur[j]? = some u := by
      have := congrArg (fun z => z[0]?) j5
      simp only [List.getElem?_drop, Nat.add_zero] at this
      rw [this, hu]
     have hts : l.take (j + 1) = l.take j ++ [u] := by rw [List.take_add_one, hu]; rfl
     have hkj := dropV_snoc (l.take j) u s
     rw [← hts] at hkj
     have hdr : cur.drop (j + 1) = l.drop (j + 1) := by
      have := congrArg (List.drop 1) j5
      simpa [List.drop_drop] using this
     repeat' (first | (refine no_implicit_lambda% (zH ?_)) | (refine no_implicit_lambda% (spl (fun hc => ?_) (fun hc => ?_)) <;> first | exact zG hc | skip) | (refine no_implicit_lambda% (ans ?_)) | (with_reducible first | exact zI | exact zJ))
     (refine no_implicit_lambda% (aqs ?_ ?_)); focus (first | omega | (simp; done) | (simp; omega))
     repeat' (first | (refine no_implicit_lambda% (zH ?_)) | (refine no_implicit_lambda% (spl (fun hc => ?_) (fun hc => ?_)) <;> first | exact zG hc | skip) | (refine no_implicit_lambda% (ans ?_)) | (with_reducible first | exact zI | exact zJ))
     ((with_reducible refine no_implicit_lambda% (zC ?_)); refine no_implicit_lambda% (a_loadSeqA (sz := 4) (rows := cur.map verow) (i := j) (j := 0) rfl rfl rfl rfl rfl (veOk cur) ((by rw [List.getElem?_map, hcu]; rfl)) (by first | decide | (simp; done)) rfl (by first | rfl | (simp; done) | (simp; omega)) ?_))
     repeat' (first | (refine no_implicit_lambda% (zH ?_)) | (refine no_implicit_lambda% (spl (fun hc => ?_) (fun hc => ?_)) <;> first | exact zG hc | skip) | (refine no_implicit_lambda% (ans ?_)) | (with_reducible first | exact zI | exact zJ) | (refine no_implicit_lambda% (cal [1] (hF u s) ?_ ?_)) | fail)
     ·have hcc : ¬ u.t = s := by simpa using hc
      rw [if_neg hcc] at hkj
      (refine no_implicit_lambda% (aqs ?_ ?_)); focus (first | omega | (simp; done) | (simp; omega))
      repeat' (first | (refine no_implicit_lambda% (zH ?_)) | (refine no_implicit_lambda% (spl (fun hc => ?_) (fun hc => ?_)) <;> first | exact zG hc | skip) | (refine no_implicit_lambda% (ans ?_)) | (with_reducible first | exact zI | exact zJ))
      obtain ⟨w, hw⟩ : ∃ w, cur[a]? = some w := ⟨_, List.getElem?_eq_getElem (by omega)⟩
      ((with_reducible refine no_implicit_lambda% (zC ?_)); refine no_implicit_lambda% (a_storeSeq (sz := 4) (rows := cur.map verow) (i := a) (j := 0) (row' := verow u) rfl rfl rfl (fun _ h => h) rfl rfl (veOk cur) ((by rw [List.getElem?_map, hw]; rfl)) (by first | decide | (simp; done)) (by first | rfl | (simp; done)) (by first | rfl | (simp; done) | (simp; omega)) ?_))
      repeat' (first | (refine no_implicit_lambda% (zH ?_)) | (refine no_implicit_lambda% (spl (fun hc => ?_) (fun hc => ?_)) <;> first | exact zG hc | skip) | (refine no_implicit_lambda% (ans ?_)) | (with_reducible first | exact zI | exact zJ))
      rw [← List.map_set]
      have hset1 : (cur.set a u).take (a + 1) = dropV (l.take (j + 1)) s := by
       rw [hkj, ← j4, List.take_add_one, List.getElem?_set_self (by omega), List.take_set_of_le (Nat.le_refl _)]; rfl
      have hset2 : (cur.set a u).drop (j + 1) = l.drop (j + 1) := by rw [List.drop_set_of_lt (by omega)]; exact hdr
      (refine no_implicit_lambda% (k_loopLT (((cur.set a u, a + 1, j + 1) : List Ve × Nat × Nat)) 2 (List.range 50) (by show j + 1 ≤ l.length ∧ a + 1 ≤ j + 1 ∧ (cur.set a u).length = l.length ∧ (cur.set a u).take (a + 1) = dropV (l.take (j + 1)) s ∧ (cur.set a u).drop (j + 1) = l.drop (j + 1) ∧ a + 1 = (dropV (l.take (j + 1)) s).length; exact ⟨hj, by omega, by rw [List.length_set]; exact j3, hset1, hset2, by rw [hkj, List.length_append, ← j6]; rfl⟩) (by first | omega | (simp; done) | (simp; omega)) (LE0 rfl) (fun _ h => h) (fun _ h => h) ?_ ?_)); (focus ((try dsimp only); exact wkl)); (focus ((try dsimp only); exact wkh))
     ·have hcc : u.t = s := by simpa using hc
      rw [if_pos hcc, List.append_nil] at hkj
      (refine no_implicit_lambda% (k_loopLT (((cur, a, j + 1) : List Ve × Nat × Nat)) 2 (List.range 50) (by show j + 1 ≤ l.length ∧ a ≤ j + 1 ∧ cur.length = l.length ∧ cur.take a = dropV (l.take (j + 1)) s ∧ cur.drop (j + 1) = l.drop (j + 1) ∧ a = (dropV (l.take (j + 1)) s).length; exact ⟨hj, by omega, j3, by rw [hkj]; exact j4, hdr, by rw [hkj]; exact j6⟩) (by first | omega | (simp; done) | (simp; omega)) (LE0 rfl) (fun _ h => h) (fun _ h => h) ?_ ?_)); (focus ((try dsimp only); exact wkl)); (focus ((try dsimp only); exact wkh))
 ·intro xx H' hh
  obtain ⟨_, _, h', _⟩ := hh
  cases h'
end Go.Proofs.YtncffhgoopdfgaaGreat
