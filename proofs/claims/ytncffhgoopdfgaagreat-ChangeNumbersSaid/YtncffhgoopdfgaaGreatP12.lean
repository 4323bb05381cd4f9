/- Part 12 of what the laws ChangeNumbers rest on: AmSp, RwS, RwT, RwU. -/
import Derived.Test.YtncffhgoopdfgaaGreatP11
set_option linter.unusedSimpArgs false
set_option linter.unusedVariables false
namespace Go.Am
open Go.RowKit
def forceHs {α : Type} : Heap → (Heap → α) → α
 | [], k => k []
 | (i, r) :: H, k => forceHs H fun H' => k ((i, r) :: H')
theorem forceHs_eq {α : Type} (H : Heap) (k : Heap → α) : forceHs H k = k H := by
 induction H generalizing k with
 | nil => rfl
 | cons p H ih => obtain ⟨i, r⟩ := p; simp [forceHs, ih]
theorem hs_to {L' L'' : Heap} (hL : ∀ k : Heap → Prop, k L'' → forceHs L' k) : ∀ k : Heap → Prop, k L'' → forceH L' k := fun k h => by
 have := hL k h
 rw [forceHs_eq] at this
 rw [forceH_eq]; exact this
section
variable {P : Program} {TT : Types} {D : Dr} {all rest : List Oper} {o : Oper} {s s' : List AV} {L L' L'' : Heap} {n n' : Nat} {K : Kn} {KP : AV → Kn} {av : AV} {Kk : Kc}
theorem akcs {d : Option Nat} {x : AV} (h : aops P TT all rest s' L'' n' K KP) (hx : ∀ k : AV → Prop, k av → fv x k := by exact fun _ h => h) (hs : ∀ k : List AV → Prop, k s' → putD s d av k := by exact fun _ h => h) (hL : ∀ k : Heap → Prop, k L'' → forceHs L' k := by exact fun _ h => h) : opK P TT all rest s d K KP x L' n' :=
 k_opc hx hs (hs_to hL) h
theorem aecs {pr : List Nat} {E S FL S' : Nat} {js : List Nat} {fuel e : Nat} {L1 L2 : Heap} {d : Option Nat} {x : AV} (h : evGoM P TT all pr S' L2 js E s' n (drBM P TT all pr K KP fuel S' FL L2)) (hx : ∀ k : AV → Prop, k av → fv x k := by exact fun _ h => h) (hs : ∀ k : List AV → Prop, k s' → putD s d av k := by exact fun _ h => h) (hL : ∀ k : Heap → Prop, k L2 → forceHs L1 k := by exact fun _ h => h)
  (hr : ∀ k : List Nat → Prop, k js → forceN (List.range all.length) k := by exact fun _ h => h) (hc : ∀ k : Prop, k → rechkM TT all (pr.getD e 0) E s' L2 js k := by (intro k h; repeat (first | exact h | refine ⟨rfl, ?_⟩ | refine ⟨trivial, ?_⟩))) (hS' : ∀ k : Nat → Prop, k S' → forceNat (addM S e) k := by exact fun _ h => h) : effK P TT all pr K KP fuel E S FL e s d x L1 n :=
 k_effc hx hs (hs_to hL) hr hc h hS'
theorem b_ends {pr : List Nat} {E S FL : Nat} {fuel : Nat} {A : List Nat} {L1 : Heap} (h : K s L1 n) (he : effsOfM all S (fun _ => true) = [] := by rfl) (hsat : satBM all pr E S = true := by rfl) (hA : ∀ k : List Nat → Prop, k A → forceN (allocsOfM all FL (fun _ => true)) k := by exact fun _ h => h) (hf : ∀ k : Heap → Prop, k L1 → flush TT all s A L fun L => forceHs L k := by exact fun _ h => h) : drBM P TT all pr K KP fuel S FL L E s n :=
 b_end he hsat hA (fun k hk => by
  have := hf k hk
  simp only [forceHs_eq] at this
  simpa only [forceH_eq] using this) h
theorem c_turns {c : Code} (h : acode P TT D c s' L' n' Kk) (hs : ∀ k : List AV → Prop, k s' → forceA s k := by exact fun _ h => h) (hL : ∀ k : Heap → Prop, k L' → forceHs L k := by exact fun _ h => h) (hn : n = n' := by rfl) : acode P TT D c s L n Kk :=
 c_turn hs (hs_to hL) hn h
theorem a_storeT {K KP : AV → Heap → Nat → Prop} {t : TypeId} {x y : Operand} {ti : TI} {id off : Nat} {cells l cells' : List AV} (h : K .dead (setL L id (.box cells')) n) (hk : (l.all AV.one && (Nat.beq l.length ti.size && Nat.ble (off + l.length) cells.length)) = true) (hp : putCells cells off l = cells') (ho : o.op = .store t x y := by rfl) (ht : TT t = some ti := by rfl) (hx : ev s x = .ptr id off := by rfl) (hf : findL L id = some (.box cells) := by rfl) (hl : acells (ev s y) = some l := by rfl) : aop P TT o s L n K KP :=
 a_storeAt ho ht hx hf hl hk hp h
theorem a_stores {K KP : AV → Heap → Nat → Prop} {t : TypeId} {x y : Operand} {ti : TI} {id off : Nat} {cells l cells' : List AV} (h : K .dead L' n) (ho : o.op = .store t x y := by rfl) (ht : TT t = some ti := by rfl) (hx : ev s x = .ptr id off := by rfl) (hf : findL L id = some (.box cells) := by rfl) (hl : acells (ev s y) = some l := by rfl) (hk : (l.all AV.one && (Nat.beq l.length ti.size && Nat.ble (off + l.length) cells.length)) = true := by rfl)
  (hp : ∀ k : List AV → Prop, k cells' → forceV (putCells cells off l) k := by exact fun _ h => h) (hL : ∀ k : Heap → Prop, k L' → forceHs (setL L id (.box cells')) k := by exact fun _ h => h) : aop P TT o s L n K KP := by
 have e1 : putCells cells off l = cells' := by
  have := hp (fun q => q = cells') rfl
  rwa [forceV_eq] at this
 have e2 : setL L id (.box cells') = L' := by
  have := hL (fun q => q = L') rfl
  rwa [forceHs_eq] at this
 subst e1; subst e2
 exact a_storeAt ho ht hx hf hl hk rfl h
end
theorem renL_pure {l : List AV} (h : ∀ a ∈ l, a.pure = true) (f : Nat → Nat) : AV.renL f l = l := by
 rw [renL_eq]
 conv => rhs; rw [← List.map_id l]
 exact List.map_congr_left fun a ha => AV.pure_ren (h a ha) f
theorem renL_app (f : Nat → Nat) (l m : List AV) : AV.renL f (l ++ m) = AV.renL f l ++ AV.renL f m := by simp only [renL_eq, List.map_append]
theorem renL_rows {sz : Nat} {rows : List (List AV)} (h : RowsOk sz rows) (f : Nat → Nat) : AV.renL f rows.flatten = rows.flatten := renL_pure h.pure f
theorem renL_dead (f : Nat → Nat) (k : Nat) : AV.renL f (List.replicate k .dead) = List.replicate k .dead := by rw [renL_eq, List.map_replicate, AV.ren]
theorem k_loopE {Kk : Kc} {s : List AV} {L : Heap} {n : Nat} {low : Nat → Prop} {α : Type} {S : α → ASt} {C : α → Prop} {μ : α → Nat} {a : α} {s2 : List AV} {L2 H1 rest0 : Heap} (b : α) (N : Nat) (ids : List Nat) (hb : C b) (hm : μ b < μ a) (hlow : low N) (hs : ∀ k : List AV → Prop, k s2 → forceA (AV.renL (rn ids n) (S b).slots) k) (hL : renH (rn ids n) (S b).L = L2) (hw : WkL s s2) (hH : WkH H1 L2)
  (ht : ∀ k : Heap → Heap → Prop, k H1 rest0 → takeH (keysH L2) L k := by exact fun _ h => h) (hM : ids.length = (S b).next := by rfl) (hnd : ids.Nodup := by decide) (hlt : ∀ i ∈ ids, i < n := by decide) (hN : ∀ i, i < N → ids[i]? = some i := by decide) : loopK low S C μ a Kk .normal s L n :=
 k_loopLT b N ids hb hm hlow hs (fun k h => by rw [forceH_eq, hL]; exact h) hw hH ht hM hnd hlt hN
theorem seq_put {sz k i : Nat} {rows r2 : List (List AV)} (h : ∀ row ∈ rows, row.length = sz) (h2 : ∀ row ∈ r2, row.length = sz) (hi : i = rows.length) (hk : r2.length * sz ≤ k) : putCells (seqC rows k) (i * sz) r2.flatten = seqC (rows ++ r2) (k - r2.length * sz) := by
 subst hi
 have e : k = r2.length * sz + (k - r2.length * sz) := by omega
 conv => lhs; rw [e]
 have hl := flatten_length h
 have hl2 := flatten_length h2
 unfold seqC
 rw [← List.replicate_append_replicate, ← hl, put_mid _ _ _ _ (by rw [List.length_replicate, hl2])]
 simp
theorem seq_take {sz k : Nat} {rows : List (List AV)} (h : ∀ row ∈ rows, row.length = sz) : (seqC rows k).take (rows.length * sz) = rows.flatten := by
 unfold seqC
 rw [← flatten_length h, List.take_left']
 rfl
theorem a_appN {P : Program} {TT : Types} {o : Oper} {s : List AV} {L : Heap} {n : Nat} {K KP : AV → Heap → Nat → Prop} {c : Call} {x y : Operand} {t tx e e2 : TypeId} {te : TI} {z : Value} {id nn cp m sz : Nat} {rows r2 : List (List AV)} (r : Res) (ho : o.op = .call c) (hk : opKind o = .append) (ha : c.args.toList = [x, y]) (hty : c.argTypes.toList = [t, tx])
  (hkt : kindT TT t = .slice e) (hkx : kindT TT tx = .slice e2) (hte : TT e = some te) (hz : te.zero = some z) (hzk : zok te z = true) (hx : ev s x = .arr id 0 nn cp) (hf : findL L id = some r) (hsz : te.size = sz)
  (hr : r = .box (seqC rows ((cp - nn) * sz)) ∨ (r = .seq rows ((cp - nn) * sz) ∧ cp < nn + m))
  (hrow : ∀ row ∈ rows, row.length = sz) (hone : rows.flatten.all AV.one = true) (hr2 : ∀ row ∈ r2, row.length = sz) (hn : rows.length = nn) (hm : r2.length = m) (hcp : nn ≤ cp)
  (hroom : (nn + m) * te.bytes ≤ 140737488355328 ∧ nn + m ≤ 4611686018427387904)
  (hy : ∀ K : Nat → List AV → Prop, K m r2.flatten → asrc L te.size (fun m => m) (ev s y) K)
  (hin : nn + m ≤ cp → K (.arr id 0 (nn + m) cp) (setL L id (.box (seqC (rows ++ r2) ((cp - (nn + m)) * sz)))) n)
  (hnew : cp < nn + m → ∀ cp', nn + m ≤ cp' → cp' ≤ maxLen → K (.arr n 0 (nn + m) cp') ((n, .box (seqC (rows ++ r2) ((cp' - (nn + m)) * sz))) :: L) (n + 1)) : aop P TT o s L n K KP := by
 subst hsz
 have hlen := flatten_length hrow
 have hl2 := flatten_length hr2
 have htk : ((seqC rows ((cp - nn) * te.size)).drop 0).take (nn * te.size) = rows.flatten := by rw [List.drop_zero, ← hn]; exact seq_take hrow
 have hlt : nn * te.size ≤ (seqC rows ((cp - nn) * te.size)).length := by rw [seqC_len hrow, hn, ← Nat.add_mul, Nat.add_mul]; omega
 refine a_app_arr (m := m) (cs := r2.flatten) ho hk ha hty hkt hkx hte hz hzk hx hy hroom (fun h => ?_) (fun h => ⟨rows.flatten, ?_, fun cp' h1 h2 => ?_⟩)
 ·rcases hr with rfl | ⟨_, hr⟩
  ·refine ⟨_, hf, ?_, ?_⟩
   ·rw [seqC_len hrow, hn, Nat.zero_add]
    have : (nn + m) * te.size ≤ cp * te.size := Nat.mul_le_mul_right _ h
    have e : nn * te.size + (cp - nn) * te.size = cp * te.size := by rw [← Nat.add_mul]; congr 1; omega
    omega
   ·have h3 : m * te.size ≤ (cp - nn) * te.size := Nat.mul_le_mul_right _ (by omega)
    rw [Nat.zero_add, seq_put hrow hr2 hn.symm (by rw [hm]; exact h3)]
    have e : (cp - nn) * te.size - r2.length * te.size = (cp - (nn + m)) * te.size := by rw [hm, ← Nat.sub_mul]; congr 1; omega
    rw [e]
    exact hin h
  ·omega
 ·rcases hr with rfl | ⟨rfl, _⟩
  ·exact ⟨rfl, rfl, .inr (.inr ⟨_, hf, by rw [Nat.zero_add]; exact hlt, by rw [htk]; exact hone, htk.symm⟩)⟩
  ·exact ⟨rfl, rfl, .inr (.inl ⟨_, _, hf, by rw [Nat.zero_add]; exact hlt, by rw [htk]; exact hone, htk.symm⟩)⟩
 ·have e : rows.flatten ++ r2.flatten = (rows ++ r2).flatten := by simp
  rw [e]
  exact hnew h cp' h1 h2
def seqTail : Nat → Code → Code
 | 0, c => c
 | n + 1, .seq _ c => seqTail n c
 | _, c => c
theorem SeqTo.renE {low : Nat → Prop} {τ : ASt} {s s2 : List AV} {L L2 : Heap} {n n2 : Nat} (N : Nat) (ids : List Nat) (hlow : low N) (hL : renH (rn ids n2) τ.L = L2) (hs : ∀ k : List AV → Prop, k s2 → forceA (AV.renL (rn ids n2) τ.slots) k) (hc : Conv ⟨s, L, n⟩ ⟨s2, L2, n2⟩)
  (hM : ids.length = τ.next := by rfl) (hnd : ids.Nodup := by decide) (hlt : ∀ i ∈ ids, i < n2 := by decide) (hN : ∀ i, i < N → ids[i]? = some i := by decide) : SeqTo low ⟨s, L, n⟩ τ := by
 have e1 : s2 = AV.renL (rn ids n2) τ.slots := by
  have := hs (fun x => s2 = x) rfl
  rwa [forceA_eq] at this
 subst e1; subst hL
 exact .inr ⟨N, hlow, (ConvN.ren ids hnd hlt hN hM).after hc⟩
theorem WkL.app {a b c d : List AV} (h : WkL a b) (h2 : WkL c d) : WkL (a ++ c) (b ++ d) := by
 induction a generalizing b with
 | nil => cases h; exact h2
 | cons x a ih => cases h with | cons h hs => exact .cons h (ih hs)
theorem WkL.dead : ∀ (l : List AV), WkL l (List.replicate l.length .dead)
 | [] => .nil
 | a :: l => .cons (.dead a) (WkL.dead l)
theorem Conv.seqTake {s : List AV} {L L0 : Heap} {n id k sz : Nat} {rows : List (List AV)} (m : Nat) (hp : L.Perm ((id, .seq rows k) :: L0)) (hR : RowsOk sz rows) (hm : m ≤ rows.length) (hne : rows.length + k ≠ 0) : Conv ⟨s, L, n⟩ ⟨s, (id, .seq (rows.take m) (k + (rows.length - m) * sz)) :: L0, n⟩ := by
 refine (Conv.unseq hne hp).trans ((Conv.wk (.refl _) (.cons (.box id ?_) (.refl _))).trans (Conv.toSeq (cells := seqC (rows.take m) (k + (rows.length - m) * sz)) (.refl _) rfl (hR.take m).pure))
 have hd : (rows.drop m).flatten.length = (rows.length - m) * sz := by rw [flatten_length (hR.drop m).len, List.length_drop]
 rw [seq_split hR.len m]
 unfold seqC
 refine .app (.refl _) ?_
 rw [Nat.add_comm, ← List.replicate_append_replicate, ← hd]
 exact .app (.dead _) (.refl _)
theorem q_loadSeq {P : Program} {TT : Types} {o : Oper} {s : List AV} {L : Heap} {av : AV} {t : TypeId} {x : Operand} {ti : TI} {id off sz i j k : Nat} {rows : List (List AV)} {row : List AV} (ho : o.op = .load t x) (ht : TT t = some ti) (hx : ev s x = .ptr id off) (hf : findL L id = some (.seq rows k)) (hk : isAggK ti.kind = false)
  (hl : RowsOk sz rows) (hi : rows[i]? = some row) (hj : row[j]? = some av) (hoff : off = i * sz + j) : ∀ K : AV → Prop, K av → aq P TT L (ev s) (raw s) o fun x => fv x K := fun K h => by
 subst hoff
 unfold aq; simp only [ho]; rw [ht, hx]
 simp only [opt1, aload, hf, hk, flat_at hl.len hi hj, Bool.false_eq_true, if_false, fv_eq]
 exact h
theorem asrc_seqg {L : Heap} {sz : Nat} {y : AV} {id off i m cp k : Nat} {rows r2 : List (List AV)} {K : Nat → List AV → Prop} (hy : y = .arr id off m cp) (hf : findL L id = some (.seq rows k)) (hR : RowsOk sz rows) (hi : i + m ≤ rows.length) (hoff : off = i * sz) (h2 : (rows.drop i).take m = r2) (h : K m r2.flatten) : asrc L sz (fun m => m) y K := by
 subst hy; subst h2
 have hd : RowsOk sz (rows.drop i) := hR.drop i
 have e : ((seqC rows k).drop off).take (m * sz) = ((rows.drop i).take m).flatten := by
  have hl := flatten_length (hd.take m).len
  rw [List.length_take, List.length_drop, Nat.min_eq_left (by omega)] at hl
  rw [hoff, seq_from hR.len i k (by omega), List.take_append_of_le_length (by rw [flatten_length hd.len, List.length_drop]; exact Nat.mul_le_mul_right _ (by omega))]
  conv => lhs; rw [← List.take_append_drop m (rows.drop i), List.flatten_append]
  rw [← hl, List.take_left]
 have hle : off + m * sz ≤ (seqC rows k).length := by
  rw [seqC_len hR.len, hoff, ← Nat.add_mul]
  have := Nat.mul_le_mul_right sz hi
  omega
 unfold asrc
 simp only [hf]
 rw [e]
 exact ⟨Nat.le_refl _, hle, (hd.take m).one, h⟩
theorem a_appSg {P : Program} {TT : Types} {o : Oper} {s : List AV} {L : Heap} {n : Nat} {K KP : AV → Heap → Nat → Prop} {c : Call} {x y : Operand} {t tx e e2 : TypeId} {te : TI} {z : Value} {id nn cp k sz B : Nat} {rows rows2 rows3 : List (List AV)} {L0 : Heap} {m2 : Nat} (ho : o.op = .call c) (hk : opKind o = .append) (ha : c.args.toList = [x, y]) (hty : c.argTypes.toList = [t, tx])
  (hkt : kindT TT t = .slice e) (hkx : kindT TT tx = .slice e2) (hte : TT e = some te) (hz : te.zero = some z) (hzk : zok te z = true) (hx : ev s x = .arr id 0 nn cp) (ht : ∀ k' : Res → Heap → Prop, k' (.seq rows k) L0 → takeO L id k') (hsz : te.size = sz) (hB : te.bytes = B)
  (hy : ∀ K : Nat → List AV → Prop, K rows2.length rows2.flatten → asrc L sz (fun m => m) (ev s y) K)
  (hR : RowsOk sz rows) (hR2 : RowsOk sz rows2) (hn : rows.length = nn) (hkk : k = (cp - nn) * sz) (hroom : (nn + rows2.length) * B ≤ 140737488355328 ∧ nn + rows2.length ≤ 4611686018427387904 ∧ 0 < nn + rows2.length)
  (hm2 : nn + rows2.length = m2) (h3 : rows ++ rows2 = rows3) (h : ∀ cp', m2 ≤ cp' → cp' ≤ maxLen → K (.arr n 0 m2 cp') ((n, .seq rows3 ((cp' - m2) * sz)) :: L0) (n + 1)) : aop P TT o s L n K KP := by
 subst hsz; subst hB; subst hm2; subst h3
 unfold aop; rw [hk]; simp only [ho]
 refine .inr (.inr ?_)
 unfold aappendS
 rw [ha, hty]
 simp only [hkt, hkx, hte, hz, hzk, opt1, if_pos]
 exact hy _ ⟨rows2, rfl, rfl, hR2.len, hR2.pure, .inl ⟨id, nn, cp, rows, k, L0, hx, takeO_at ht, hR.len, hn, hkk, hR.one, hroom.1, hroom.2.1, hroom.2.2, h⟩⟩
theorem a_appS0g {P : Program} {TT : Types} {o : Oper} {s : List AV} {L : Heap} {n : Nat} {K KP : AV → Heap → Nat → Prop} {c : Call} {x y : Operand} {t tx e e2 : TypeId} {te : TI} {z : Value} {sz B m2 : Nat} {rows2 : List (List AV)} (ho : o.op = .call c) (hk : opKind o = .append) (ha : c.args.toList = [x, y]) (hty : c.argTypes.toList = [t, tx])
  (hkt : kindT TT t = .slice e) (hkx : kindT TT tx = .slice e2) (hte : TT e = some te) (hz : te.zero = some z) (hzk : zok te z = true) (hx : ev s x = .list [] .full ∨ ∃ id off, ev s x = .arr id off 0 0) (hsz : te.size = sz) (hB : te.bytes = B)
  (hy : ∀ K : Nat → List AV → Prop, K rows2.length rows2.flatten → asrc L sz (fun m => m) (ev s y) K)
  (hR2 : RowsOk sz rows2) (hroom : rows2.length * B ≤ 140737488355328 ∧ rows2.length ≤ 4611686018427387904)
  (hm2 : rows2.length = m2) (h : ∀ cp', m2 ≤ cp' → cp' ≤ maxLen → K (.arr n 0 m2 cp') ((n, .seq rows2 ((cp' - m2) * sz)) :: L) (n + 1)) : aop P TT o s L n K KP := by
 subst hsz; subst hB; subst hm2
 unfold aop; rw [hk]; simp only [ho]
 refine .inr (.inr ?_)
 unfold aappendS
 rw [ha, hty]
 simp only [hkt, hkx, hte, hz, hzk, opt1, if_pos]
 exact hy _ ⟨rows2, rfl, rfl, hR2.len, hR2.pure, .inr ⟨hx, hroom.1, hroom.2, h⟩⟩
theorem wsp {p q : Prop} (h : q) (f : Tag q → p := by (intro hTag; (first | (((with_reducible refine no_implicit_lambda% (ret1 ?_)); first | (refine no_implicit_lambda% (akcs ?_)) | (refine no_implicit_lambda% (aecs ?_)))) | (((with_reducible refine no_implicit_lambda% (is_effK ?_)); refine no_implicit_lambda% (aecs ?_))) | (((with_reducible refine no_implicit_lambda% (is_drB ?_)); refine no_implicit_lambda% (b_ends ?_))) | (((with_reducible refine no_implicit_lambda% (zC ?_)); refine no_implicit_lambda% (a_stores ?_))) | ((with_reducible refine no_implicit_lambda% (zC ?_)); first | (refine no_implicit_lambda% (a_append_tok rfl rfl rfl rfl rfl rfl rfl rfl rfl rfl rfl rfl rfl rfl (by first | rfl | (simp; done)) (fun q hq => by rw [forceH_eq]; exact hq) (by (first | assumption | (intro row hr; simp only [List.mem_cons, List.not_mem_nil, or_false] at hr; rcases hr with rfl | rfl | rfl | rfl <;> rfl) | (intro row hr; simp at hr; done) | (intro row hr; simp only [List.mem_singleton] at hr; subst hr; rfl) | (intro row hr; obtain ⟨_, _, rfl⟩ := List.mem_map.1 hr; rfl))) (by (refine ⟨?_, ?_⟩ <;> (simp only [List.length_map, List.length_append, List.length_cons, List.length_nil]; omega))) ?_)))); exact Tag.out hTag)) : p := f ⟨h⟩
end Go.Am
namespace Go.Proofs.YtncffhgoopdfgaaGreat
open Go.Am
set_option maxRecDepth 100000
def nrows (o1 : List Co) (nm : ByteArray) (v : AV) (o2 : List Co) : List (List AV) := o1.map corow ++ [.v (.string nm), v] :: o2.map corow
theorem nrows_len (o1 : List Co) (nm : ByteArray) (v : AV) (o2 : List Co) : (nrows o1 nm v o2).length = o1.length + 1 + o2.length := by unfold nrows; simp; omega
theorem nrows_row {o1 : List Co} {nm : ByteArray} {v : AV} {o2 : List Co} : ∀ row ∈ nrows o1 nm v o2, row.length = 2 := by
 intro row hr
 unfold nrows at hr
 rcases List.mem_append.1 hr with h | h
 ·exact (coOk o1).len row h
 ·rcases List.mem_cons.1 h with rfl | h
  ·rfl
  ·exact (coOk o2).len row h
theorem nrows_snoc (o1 : List Co) (nm : ByteArray) (v : AV) (o2 : List Co) (x : Co) : nrows o1 nm v o2 ++ [corow x] = nrows o1 nm v (o2 ++ [x]) := by unfold nrows; simp
theorem nrows_one {o1 : List Co} {nm : ByteArray} {v : AV} {o2 : List Co} (hv : v.one = true) : (nrows o1 nm v o2).flatten.all AV.one = true := by
 unfold nrows
 rw [List.flatten_append, List.all_append, (coOk o1).one, List.flatten_cons, List.all_append, (coOk o2).one]
 simp only [List.flatten_nil, List.all_cons, List.all_nil, hv]
 rfl
theorem ren_nrows (f : Nat → Nat) (o1 : List Co) (nm : ByteArray) (v : AV) (o2 : List Co) (k : Nat) : AV.renL f (seqC (nrows o1 nm v o2) k) = seqC (nrows o1 nm (v.ren f) o2) k := by
 unfold seqC nrows
 rw [List.flatten_append, List.flatten_append, List.flatten_cons, List.flatten_cons]
 simp only [renL_app, renL_rows (coOk o1), renL_rows (coOk o2), renL_dead]
 rfl
abbrev RgI := (List Co × Nat × Nat) ⊕ (List Co × Nat × Nat × Nat)
def cgSt (r : List Co) (g : Nat) (x : Co) : RgI → ASt
 | .inl (o, cp, i) => rcSt r o cp i
 | .inr (o2, cpv, cp, i) => ⟨([.dead, .dead, .ptr 1 0, .ptr 2 0] ++ List.replicate 10 .dead ++ [.list (r.map corow) .free, .v (.int .i64 r.length), .v (.int .i64 i)] ++ List.replicate 33 .dead), [(1, .box [.list [] .full]), (2, .box [.arr 3 0 i cp]), (3, .box (seqC (nrows ((r.take g).map canC) x.n (.arr 4 0 x.l.length cpv) o2) ((cp - i) * 2))), (4, .seq ((x.l.map canE).map verow) ((cpv - x.l.length) * 4))], 5⟩
def cgInv (r : List Co) (g : Nat) (x : Co) : RgI → Prop
 | .inl (o, cp, i) => i ≤ g ∧ i ≤ cp ∧ cp ≤ maxLen ∧ o = (r.take i).map canC
 | .inr (o2, cpv, cp, i) => g < i ∧ i ≤ r.length ∧ i ≤ cp ∧ cp ≤ maxLen ∧ x.l.length ≤ cpv ∧ cpv ≤ maxLen ∧ o2 = ((r.drop (g + 1)).take (i - (g + 1))).map canC
def rhSt (r o : List Co) (cp i : Nat) (c : Co) (vs : List Ve) (cpv k : Nat) : ASt := ⟨([.dead, .dead, .ptr 1 0, .ptr 2 0, .dead, .dead, .ptr 5 0] ++ List.replicate 7 .dead ++ [.list (r.map corow) .free, .v (.int .i64 r.length), .v (.int .i64 i)] ++ List.replicate 7 .dead ++ [.list (c.l.map verow) .free, .v (.int .i64 c.l.length), .v (.int .i64 k)] ++ List.replicate 23 .dead), [(5, .box [.v (.string c.n), .arr 6 0 k cpv]), (6, .seq (vs.map verow) ((cpv - k) * 4)), (1, .box [.list [] .full]), (2, .box [.arr 3 0 i cp]), (3, .seq (o.map corow) ((cp - i) * 2))], 7⟩
def riSt (r o1 o2 : List Co) (x : Co) (cpv cp i : Nat) (c : Co) (vs : List Ve) (k : Nat) : ASt := ⟨([.dead, .dead, .ptr 1 0, .ptr 2 0, .dead, .dead, .ptr 6 0] ++ List.replicate 7 .dead ++ [.list (r.map corow) .free, .v (.int .i64 r.length), .v (.int .i64 i)] ++ List.replicate 7 .dead ++ [.list (c.l.map verow) .free, .v (.int .i64 c.l.length), .v (.int .i64 k)] ++ List.replicate 23 .dead), [(6, .box [.v (.string c.n), .list (vs.map verow) (.tok 7)]), (7, .tok 4 vs.length), (1, .box [.list [] .full]), (2, .box [.arr 3 0 i cp]), (3, .box (seqC (nrows o1 x.n (.arr 4 0 x.l.length cpv) o2) ((cp - i) * 2))), (4, .seq ((x.l.map canE).map verow) ((cpv - x.l.length) * 4))], 8⟩
def CG (o : List Co) (g : Nat) (out : AOut) (H' : Heap) : Prop := ∃ id idv cp cpv x, o[g]? = some x ∧ id ≠ idv ∧ id < 5000 ∧ idv < 5000 ∧ o.length ≤ cp ∧ cp ≤ maxLen ∧ x.l.length ≤ cpv ∧ cpv ≤ maxLen ∧ out = .ret (.agg [.arr id 0 o.length cp]) ∧ H' = [(id, .box (seqC (nrows (o.take g) x.n (.arr idv 0 x.l.length cpv) (o.drop (g + 1))) ((cp - o.length) * 2))), (idv, .seq (x.l.map verow) ((cpv - x.l.length) * 4))]
set_option maxHeartbeats 3200000 in
theorem copy_g0 (r : List Co) (g : Nat) (hg : g < (copyR r).length) (hr : r.length < 70368744177664) (hs : RowSz r) : ACalls Tryz.prog 142 0 5000 [rowA r] [] (CG (copyR r) g) := by
 have hrt := (right_c r hr).top0
 refine no_implicit_lambda% (acalls_of tok dok (f := 142) ⟨Tryz.func142, rfl, by kernel_rfl⟩ ?_); refine no_implicit_lambda% (c_start (fun _ h => h) ?_)
 repeat' (first | (refine no_implicit_lambda% (zH ?_)) | (refine no_implicit_lambda% (spl (fun hc => ?_) (fun hc => ?_)) <;> first | exact zG hc | skip) | (refine no_implicit_lambda% (ans ?_)) | (with_reducible first | exact zI | exact zJ) | (refine no_implicit_lambda% (cal [] (hrt) ?_ ?_)) | fail)
 ·have hf : rowB r = false := by simpa using hc
  have he : copyR r = [] := by unfold copyR; rw [hf]; rfl
  rw [he] at hg; simp at hg
 ·have ht : rowB r = true := by simpa using hc
  have he : copyR r = r.map canC := by unfold copyR; rw [ht]; rfl
  have h4 : r.length ≤ 4 := by
   unfold rowB at ht
   simp only [Bool.and_eq_true, decide_eq_true_eq] at ht
   exact ht.2
  rw [he] at hg ⊢
  rw [List.length_map] at hg
  obtain ⟨x, hxg⟩ : ∃ x, r[g]? = some x := ⟨_, List.getElem?_eq_getElem hg⟩
  refine c_loop' (cgSt r g x) (cgInv r g x) (fun q : RgI => Sum.elim (fun a => r.length - a.2.2) (fun a => r.length - a.2.2.2) q) (a := .inl ([], 0, 0)) ⟨Nat.zero_le _, Nat.le_refl _, by decide, rfl⟩ ((Conv.nilBox (id := 2) (j := 0) (cells := [.list [] .full]) rfl rfl).trans ?_) ?_
  ·(refine no_implicit_lambda% (Conv.toT ?_ ?_ (LE0 rfl))); (focus ((unfold cgSt); (try dsimp only); exact wkl)); (focus ((unfold cgSt); (try dsimp only); exact wkh))
  ·rintro (⟨o, cp, i⟩ | ⟨o2, cpv, cp, i⟩) hI
   ·obtain ⟨h1, h2, h3, ho⟩ := hI
    have hol : o.length = i := by rw [ho, List.length_map, List.length_take]; omega
    refine c_turn (n' := 4) (fun _ h => h) (fun _ h => h) rfl ?_
    obtain ⟨y, hx⟩ : ∃ y, r[i]? = some y := ⟨_, List.getElem?_eq_getElem (by omega)⟩
    have hi : i < r.length := (List.getElem?_eq_some_iff.1 hx).1
    have hix := cox hx
    have hsx := hs y (List.mem_of_getElem? hx)
    have hts : r.take (i + 1) = r.take i ++ [y] := by rw [List.take_add_one, hx]; rfl
    have hxl := col_len (row_mem ht (List.mem_of_getElem? hx))
    rcases Nat.lt_or_ge i g with hlt | hge
    ·repeat' (first | (refine no_implicit_lambda% (zH ?_)) | (refine no_implicit_lambda% (spl (fun hc => ?_) (fun hc => ?_)) <;> first | exact zG hc | skip) | (refine no_implicit_lambda% (ans ?_)) | (with_reducible first | exact zI | exact zJ))
     refine c_loop2 (rdSt r o cp i y) (fun vs k => k ≤ y.l.length ∧ vs = (y.l.take k).map canE) (fun _ k => y.l.length - k) [] 0 ⟨Nat.zero_le _, rfl⟩ ((Conv.tokBox (id := 5) (j := 1) (sz := 4) (rows := []) rfl rfl (by simp)).trans ?_) ?_
     ·(refine no_implicit_lambda% (Conv.toT ?_ ?_ (LE0 rfl))); (focus ((unfold rdSt); (try dsimp only); exact wkl)); (focus ((unfold rdSt); (try dsimp only); exact wkh))
     ·rintro vs k ⟨k1, hv⟩
      have hvl : vs.length = k := by rw [hv, List.length_map, List.length_take]; omega
      refine c_turn (n' := 7) (fun _ h => h) (fun _ h => h) rfl ?_
      rcases hy : y.l[k]? with _ | z
      ·have hk : k = y.l.length := by have := List.getElem?_eq_none_iff.1 hy; omega
       subst hk
       rw [List.take_length] at hv
       repeat' (first | (refine no_implicit_lambda% (zH ?_)) | (refine no_implicit_lambda% (spl (fun hc => ?_) (fun hc => ?_)) <;> first | exact zG hc | skip) | (refine no_implicit_lambda% (ans ?_)) | (with_reducible first | exact zI | exact zJ))
       subst hv
       ((with_reducible refine no_implicit_lambda% (zC ?_)); refine no_implicit_lambda% (a_appS (sz := 2) (B := 40) (m2 := i + 1) (rows3 := (o ++ [canC y]).map corow) rfl rfl rfl rfl rfl rfl rfl rfl rfl rfl rfl (fun _ h => h) rfl rfl (coOk o) (coOk [canC y]) (by first | rfl | (exact List.length_map ..) | (simp; done) | (simp; omega)) rfl (by first | omega | (simp; omega)) (by first | rfl | (simp; done) | (simp; omega)) (by first | rfl | (exact map_snoc _ _) | (rw [List.map_append]; rfl) | (simp; done)) ?_))
       intro cp' c1 c2
       refine no_implicit_lambda% (akc ?_)
       repeat' (first | (refine no_implicit_lambda% (zH ?_)) | (refine no_implicit_lambda% (spl (fun hc => ?_) (fun hc => ?_)) <;> first | exact zG hc | skip) | (refine no_implicit_lambda% (ans ?_)) | (with_reducible first | exact zI | exact zJ))
       (refine no_implicit_lambda% (k_loopLT ((.inl (o ++ [canC y], cp', i + 1) : RgI)) 0 [0, 1, 2, 7] (by show i + 1 ≤ g ∧ i + 1 ≤ cp' ∧ cp' ≤ maxLen ∧ o ++ [canC y] = (r.take (i + 1)).map canC; exact ⟨hlt, c1, c2, by rw [hts, List.map_append, ← ho]; rfl⟩) (by first | omega | (simp; done) | (simp; omega)) (LE0 rfl) (fun _ h => h) (fun _ h => h) ?_ ?_)); (focus ((try dsimp only); exact wkl)); (focus ((try dsimp only); exact wkh))
      ·have hk : k < y.l.length := (List.getElem?_eq_some_iff.1 hy).1
       have hiy := vex hy
       have hsy := (hsx z (List.mem_of_getElem? hy)).1
       have hcn := canonv_c z.v (by omega)
       have hty : y.l.take (k + 1) = y.l.take k ++ [z] := by rw [List.take_add_one, hy]; rfl
       repeat' (first | (refine no_implicit_lambda% (zH ?_)) | (refine no_implicit_lambda% (splv (fun hc => ?_) (fun hc => ?_)) <;> first | exact zG hc | skip) | (refine no_implicit_lambda% (ans ?_)) | (with_reducible first | exact zI | exact zJ) | (refine no_implicit_lambda% (cal [] (hcn) ?_ ?_)) | fail)
       (refine no_implicit_lambda% (k_loopLT (((vs ++ [canE z], k + 1) : List Ve × Nat)) 0 (List.range 7) (by show k + 1 ≤ y.l.length ∧ vs ++ [canE z] = (y.l.take (k + 1)).map canE; exact ⟨hk, by rw [hty, List.map_append, ← hv]; rfl⟩) (by first | omega | (simp; done) | (simp; omega)) (LE0 rfl) (fun _ h => h) (fun _ h => h) ?_ ?_)); (focus ((try dsimp only); exact wkl)); (focus ((try dsimp only); exact wkh))
    ·have hig : i = g := by omega
     subst hig
     obtain rfl : x = y := Option.some.inj (hxg.symm.trans hx)
     repeat' (first | (refine no_implicit_lambda% (zH ?_)) | (refine no_implicit_lambda% (spl (fun hc => ?_) (fun hc => ?_)) <;> first | exact zG hc | skip) | (refine no_implicit_lambda% (ans ?_)) | (with_reducible first | exact zI | exact zJ))
     refine c_l3 (rhSt r o cp i x) (fun vs cpv k => k ≤ x.l.length ∧ k ≤ cpv ∧ cpv ≤ maxLen ∧ vs = (x.l.take k).map canE) (fun _ _ k => x.l.length - k) [] 0 0 ⟨Nat.zero_le _, Nat.le_refl _, by decide, rfl⟩ ((Conv.nilBox (id := 5) (j := 1) (cells := [.v (.string x.n), .list [] .full]) rfl rfl).trans ?_) ?_
     ·(refine no_implicit_lambda% (Conv.toT ?_ ?_ (LE0 rfl))); (focus ((unfold rhSt); (try dsimp only); exact wkl)); (focus ((unfold rhSt); (try dsimp only); exact wkh))
     ·rintro vs cpv k ⟨k1, k2, k3, hv⟩
      have hvl : vs.length = k := by rw [hv, List.length_map, List.length_take]; omega
      refine c_turn (n' := 7) (fun _ h => h) (fun _ h => h) rfl ?_
      rcases hy : x.l[k]? with _ | z
      ·have hk : k = x.l.length := by have := List.getElem?_eq_none_iff.1 hy; omega
       subst hk
       rw [List.take_length] at hv
       subst hv
       repeat' (first | (refine no_implicit_lambda% (sx1 ?_)) | (refine no_implicit_lambda% (spl (fun hc => ?_) (fun hc => ?_)) <;> first | exact zG hc | skip) | fail)
       refine k_seq ?_
       repeat' (first | (refine no_implicit_lambda% (sx1 ?_)) | (refine no_implicit_lambda% (spl (fun hc => ?_) (fun hc => ?_)) <;> first | exact zG hc | skip) | fail)
       have hnr : nrows o x.n (.arr 6 0 x.l.length cpv) [] = o.map corow ++ [[.v (.string x.n), .arr 6 0 x.l.length cpv]] := rfl
       rcases Nat.lt_or_ge cp (i + 1) with hroom | hroom
       ·refine k_seq ?_
        repeat' (first | (refine no_implicit_lambda% (zH ?_)) | (refine no_implicit_lambda% (spl (fun hc => ?_) (fun hc => ?_)) <;> first | exact zG hc | skip) | (refine no_implicit_lambda% (ans ?_)) | (with_reducible first | exact zI | exact zJ))
        (with_reducible refine zC ?_)
        refine no_implicit_lambda% (a_buildO (cells := [.v (.string x.n), .arr 6 0 x.l.length cpv]) rfl rfl rfl rfl rfl rfl rfl rfl ?_)
        repeat' (first | (refine no_implicit_lambda% (zH ?_)) | (refine no_implicit_lambda% (spl (fun hc => ?_) (fun hc => ?_)) <;> first | exact zG hc | skip) | (refine no_implicit_lambda% (ans ?_)) | (with_reducible first | exact zI | exact zJ))
        (with_reducible refine zC ?_)
        refine no_implicit_lambda% (a_appN (m := 1) (rows := o.map corow) (r2 := [[.v (.string x.n), .arr 6 0 x.l.length cpv]]) _ rfl rfl rfl rfl rfl rfl rfl rfl rfl rfl rfl rfl (.inr ⟨rfl, hroom⟩) (coOk o).len (coOk o).one (by simp) (by simp [hol]) rfl h2 ⟨by show (i + 1) * 40 ≤ _; omega, by omega⟩ (fun K h => asrc_arr rfl rfl (Nat.le_refl _) (LE0 rfl) rfl rfl h) (fun h => absurd h (by omega)) ?_)
        intro _ cp' c1 c2
        rw [← hnr]
        refine no_implicit_lambda% (akcs ?_)
        repeat' (first | (refine no_implicit_lambda% (zH ?_)) | (refine no_implicit_lambda% (spl (fun hc => ?_) (fun hc => ?_)) <;> first | exact zG hc | skip) | (refine no_implicit_lambda% (ans ?_)) | (with_reducible first | exact zI | exact zJ))
        ((with_reducible refine no_implicit_lambda% (zC ?_)); refine no_implicit_lambda% (a_storeT (cells' := [.arr 8 0 (i + 1) cp']) ?_ rfl rfl))
        refine no_implicit_lambda% (akcs ?_)
        repeat' (first | (refine no_implicit_lambda% (zH ?_)) | (refine no_implicit_lambda% (spl (fun hc => ?_) (fun hc => ?_)) <;> first | exact zG hc | skip) | (refine no_implicit_lambda% (ans ?_)) | (with_reducible first | exact zI | exact zJ))
        (refine no_implicit_lambda% (k_loopE (L2 := [(1, .box [.list [] .full]), (2, .box [.arr 8 0 (i + 1) cp']), (8, .box (seqC (nrows o x.n (.arr 6 0 x.l.length cpv) []) ((cp' - (i + 1)) * 2))), (6, .seq ((x.l.map canE).map verow) ((cpv - x.l.length) * 4))]) ((.inr ([], cpv, cp', i + 1) : RgI)) 0 [0, 1, 2, 8, 6] (by show i < i + 1 ∧ i + 1 ≤ r.length ∧ i + 1 ≤ cp' ∧ cp' ≤ maxLen ∧ x.l.length ≤ cpv ∧ cpv ≤ maxLen ∧ [] = ((r.drop (i + 1)).take (i + 1 - (i + 1))).map canC; exact ⟨by omega, hi, c1, c2, k2, k3, by simp⟩) (by first | omega | (simp; done) | (simp; omega)) (LE0 rfl) (fun _ h => h) (by (unfold cgSt; simp only [renH, Res.ren, ren_nrows, ← ho]; rfl)) ?_ ?_)); (focus ((try dsimp only); exact wkl)); (focus ((try dsimp only); exact wkh))
       ·refine k_seq_to ⟨_, _, _⟩ (Conv.unseq (id := 3) (rows := o.map corow) (k := (cp - i) * 2) (by rw [List.length_map]; omega) (permT (H := [(3, .seq (o.map corow) ((cp - i) * 2))]))) ?_
        refine c_turns (n' := 7) ?_
        repeat' (first | (refine no_implicit_lambda% (zH ?_)) | (refine no_implicit_lambda% (spl (fun hc => ?_) (fun hc => ?_)) <;> first | exact zG hc | skip) | (refine no_implicit_lambda% (ans ?_)) | (with_reducible first | exact zI | exact zJ))
        (with_reducible refine zC ?_)
        refine no_implicit_lambda% (a_buildO (cells := [.v (.string x.n), .arr 6 0 x.l.length cpv]) rfl rfl rfl rfl rfl rfl rfl rfl ?_)
        repeat' (first | (refine no_implicit_lambda% (zH ?_)) | (refine no_implicit_lambda% (spl (fun hc => ?_) (fun hc => ?_)) <;> first | exact zG hc | skip) | (refine no_implicit_lambda% (ans ?_)) | (with_reducible first | exact zI | exact zJ))
        (with_reducible refine zC ?_)
        refine no_implicit_lambda% (a_appN (m := 1) (rows := o.map corow) (r2 := [[.v (.string x.n), .arr 6 0 x.l.length cpv]]) _ rfl rfl rfl rfl rfl rfl rfl rfl rfl rfl rfl rfl (.inl rfl) (coOk o).len (coOk o).one (by simp) (by simp [hol]) rfl h2 ⟨by show (i + 1) * 40 ≤ _; omega, by omega⟩ (fun K h => asrc_arr rfl rfl (Nat.le_refl _) (LE0 rfl) rfl rfl h) ?_ (fun h => absurd h (by omega)))
        intro _
        rw [← hnr]
        refine no_implicit_lambda% (akcs ?_)
        repeat' (first | (refine no_implicit_lambda% (zH ?_)) | (refine no_implicit_lambda% (spl (fun hc => ?_) (fun hc => ?_)) <;> first | exact zG hc | skip) | (refine no_implicit_lambda% (ans ?_)) | (with_reducible first | exact zI | exact zJ))
        ((with_reducible refine no_implicit_lambda% (zC ?_)); refine no_implicit_lambda% (a_storeT (cells' := [.arr 3 0 (i + 1) cp]) ?_ rfl rfl))
        refine no_implicit_lambda% (akcs ?_)
        repeat' (first | (refine no_implicit_lambda% (zH ?_)) | (refine no_implicit_lambda% (spl (fun hc => ?_) (fun hc => ?_)) <;> first | exact zG hc | skip) | (refine no_implicit_lambda% (ans ?_)) | (with_reducible first | exact zI | exact zJ))
        (refine no_implicit_lambda% (k_loopE (L2 := [(1, .box [.list [] .full]), (2, .box [.arr 3 0 (i + 1) cp]), (3, .box (seqC (nrows o x.n (.arr 6 0 x.l.length cpv) []) ((cp - (i + 1)) * 2))), (6, .seq ((x.l.map canE).map verow) ((cpv - x.l.length) * 4))]) ((.inr ([], cpv, cp, i + 1) : RgI)) 0 [0, 1, 2, 3, 6] (by show i < i + 1 ∧ i + 1 ≤ r.length ∧ i + 1 ≤ cp ∧ cp ≤ maxLen ∧ x.l.length ≤ cpv ∧ cpv ≤ maxLen ∧ [] = ((r.drop (i + 1)).take (i + 1 - (i + 1))).map canC; exact ⟨by omega, hi, hroom, h3, k2, k3, by simp⟩) (by first | omega | (simp; done) | (simp; omega)) (LE0 rfl) (fun _ h => h) (by (unfold cgSt; simp only [renH, Res.ren, ren_nrows, ← ho]; rfl)) ?_ ?_)); (focus ((try dsimp only); exact wkl)); (focus ((try dsimp only); exact wkh))
      ·have hk : k < x.l.length := (List.getElem?_eq_some_iff.1 hy).1
       have hiy := vex hy
       have hsy := (hsx z (List.mem_of_getElem? hy)).1
       have hcn := canonv_c z.v (by omega)
       have hty : x.l.take (k + 1) = x.l.take k ++ [z] := by rw [List.take_add_one, hy]; rfl
       repeat' (first | (refine no_implicit_lambda% (zH ?_)) | (refine no_implicit_lambda% (splv (fun hc => ?_) (fun hc => ?_)) <;> first | exact zG hc | skip) | (refine no_implicit_lambda% (ans ?_)) | (with_reducible first | exact zI | exact zJ) | (refine no_implicit_lambda% (cal [] (hcn) ?_ ?_)) | fail)
       ((with_reducible refine no_implicit_lambda% (zC ?_)); refine no_implicit_lambda% (a_appS (sz := 4) (B := 48) (m2 := k + 1) (rows3 := (vs ++ [canE z]).map verow) rfl rfl rfl rfl rfl rfl rfl rfl rfl rfl rfl (fun _ h => h) rfl rfl (veOk vs) (veOk [canE z]) (by first | rfl | (exact List.length_map ..) | (simp; done) | (simp; omega)) rfl (by first | omega | (simp; omega)) (by first | rfl | (simp; done) | (simp; omega)) (by first | rfl | (exact map_snoc _ _) | (rw [List.map_append]; rfl) | (simp; done)) ?_))
       intro cp' c1 c2
       refine no_implicit_lambda% (aec ?_)
       repeat' (first | (refine no_implicit_lambda% (zH ?_)) | (refine no_implicit_lambda% (splv (fun hc => ?_) (fun hc => ?_)) <;> first | exact zG hc | skip) | (refine no_implicit_lambda% (ans ?_)) | (with_reducible first | exact zI | exact zJ))
       (refine no_implicit_lambda% (k_loopLT (((vs ++ [canE z], cp', k + 1) : List Ve × Nat × Nat)) 0 [0, 1, 2, 3, 4, 5, 18] (by show k + 1 ≤ x.l.length ∧ k + 1 ≤ cp' ∧ cp' ≤ maxLen ∧ vs ++ [canE z] = (x.l.take (k + 1)).map canE; exact ⟨hk, c1, c2, by rw [hty, List.map_append, ← hv]; rfl⟩) (by first | omega | (simp; done) | (simp; omega)) (LE0 rfl) (fun _ h => h) (fun _ h => h) ?_ ?_)); (focus ((try dsimp only); exact wkl)); (focus ((try dsimp only); exact wkh))
   ·obtain ⟨h0, h1, h2, h3, h5, h6, ho⟩ := hI
    have hg1 : ((r.take g).map canC).length = g := by rw [List.length_map, List.length_take]; omega
    have hol : o2.length = i - (g + 1) := by rw [ho, List.length_map, List.length_take, List.length_drop]; omega
    refine c_turns (n' := 5) ?_
    rcases hx : r[i]? with _ | y
    ·have hi : i = r.length := by have := List.getElem?_eq_none_iff.1 hx; omega
     subst hi
     have ho' : o2 = (r.map canC).drop (g + 1) := by
      rw [ho, ← List.length_drop, List.take_length, List.map_drop]
     have e : (r.map canC).length = r.length := List.length_map ..
     repeat' (first | (refine no_implicit_lambda% (zH ?_)) | (refine no_implicit_lambda% (splv (fun hc => ?_) (fun hc => ?_)) <;> first | exact zG hc | skip) | (refine no_implicit_lambda% (ans ?_)) | (with_reducible first | exact zI | exact zJ) | (refine no_implicit_lambda% (wsp ?_)) | fail )
     exact e_ret (H' := [(3, .box (seqC (nrows ((r.take g).map canC) x.n (.arr 4 0 x.l.length cpv) o2) ((cp - r.length) * 2))), (4, .seq ((x.l.map canE).map verow) ((cpv - x.l.length) * 4))]) (rest := _) rfl ⟨3, 4, cp, cpv, canC x, by rw [List.getElem?_map, hxg]; rfl, by decide, by decide, by decide, by omega, h3, by show (x.l.map canE).length ≤ cpv; rw [List.length_map]; exact h5, h6, (by rw [e]; rfl), (by rw [e, ← List.map_take, ho']; show _ = [(3, Res.box (seqC (nrows _ x.n (.arr 4 0 (x.l.map canE).length cpv) _) _)), (4, Res.seq ((x.l.map canE).map verow) ((cpv - (x.l.map canE).length) * 4))]; rw [List.length_map])⟩ permT (LE0 rfl)
    ·have hi : i < r.length := (List.getElem?_eq_some_iff.1 hx).1
     have hix := cox hx
     have hsx := hs y (List.mem_of_getElem? hx)
     have hts : (r.drop (g + 1)).take (i + 1 - (g + 1)) = (r.drop (g + 1)).take (i - (g + 1)) ++ [y] := by
      rw [show i + 1 - (g + 1) = (i - (g + 1)) + 1 by omega, List.take_add_one, List.getElem?_drop, show g + 1 + (i - (g + 1)) = i by omega, hx]; rfl
     have hxl := col_len (row_mem ht (List.mem_of_getElem? hx))
     repeat' (first | (refine no_implicit_lambda% (zH ?_)) | (refine no_implicit_lambda% (splv (fun hc => ?_) (fun hc => ?_)) <;> first | exact zG hc | skip) | (refine no_implicit_lambda% (ans ?_)) | (with_reducible first | exact zI | exact zJ) | (refine no_implicit_lambda% (wsp ?_)) | fail )
     refine c_loop2 (riSt r ((r.take g).map canC) o2 x cpv cp i y) (fun vs k => k ≤ y.l.length ∧ vs = (y.l.take k).map canE) (fun _ k => y.l.length - k) [] 0 ⟨Nat.zero_le _, rfl⟩ ((Conv.tokBox (id := 6) (j := 1) (sz := 4) (rows := []) (cells := [.v (.string y.n), .list [] .full]) rfl rfl (by simp)).trans ?_) ?_
     ·(refine no_implicit_lambda% (Conv.toT ?_ ?_ (LE0 rfl))); (focus ((unfold riSt); (try dsimp only); exact wkl)); (focus ((unfold riSt); (try dsimp only); exact wkh))
     ·rintro vs k ⟨k1, hv⟩
      have hvl : vs.length = k := by rw [hv, List.length_map, List.length_take]; omega
      refine c_turns (n' := 8) ?_
      rcases hy : y.l[k]? with _ | z
      ·have hk : k = y.l.length := by have := List.getElem?_eq_none_iff.1 hy; omega
       subst hk
       rw [List.take_length] at hv
       subst hv
       repeat' (first | (refine no_implicit_lambda% (zH ?_)) | (refine no_implicit_lambda% (splv (fun hc => ?_) (fun hc => ?_)) <;> first | exact zG hc | skip) | (refine no_implicit_lambda% (ans ?_)) | (with_reducible first | exact zI | exact zJ) | (refine no_implicit_lambda% (wsp ?_)) | fail )
       (with_reducible refine zC ?_)
       refine no_implicit_lambda% (a_appN (m := 1) (rows := nrows ((r.take g).map canC) x.n (.arr 4 0 x.l.length cpv) o2) (r2 := [corow (canC y)]) _ rfl rfl rfl rfl rfl rfl rfl rfl rfl rfl rfl rfl (.inl rfl) nrows_row (nrows_one rfl) (by simp [corow]) (by rw [nrows_len]; omega) rfl h2 ⟨by show (i + 1) * 40 ≤ _; omega, by omega⟩ (fun K h => asrc_list rfl (by simp [corow]) h) ?_ ?_)
       ·intro c1
        rw [nrows_snoc]
        refine no_implicit_lambda% (akcs ?_)
        repeat' (first | (refine no_implicit_lambda% (zH ?_)) | (refine no_implicit_lambda% (splv (fun hc => ?_) (fun hc => ?_)) <;> first | exact zG hc | skip) | (refine no_implicit_lambda% (ans ?_)) | (with_reducible first | exact zI | exact zJ) | (refine no_implicit_lambda% (wsp ?_)) | fail )
        (refine no_implicit_lambda% (k_loopE (L2 := [(1, .box [.list [] .full]), (2, .box [.arr 3 0 (i + 1) cp]), (3, .box (seqC (nrows ((r.take g).map canC) x.n (.arr 4 0 x.l.length cpv) (o2 ++ [canC y])) ((cp - (i + 1)) * 2))), (4, .seq ((x.l.map canE).map verow) ((cpv - x.l.length) * 4))]) ((.inr (o2 ++ [canC y], cpv, cp, i + 1) : RgI)) 0 [0, 1, 2, 3, 4] (by show g < i + 1 ∧ i + 1 ≤ r.length ∧ i + 1 ≤ cp ∧ cp ≤ maxLen ∧ x.l.length ≤ cpv ∧ cpv ≤ maxLen ∧ o2 ++ [canC y] = ((r.drop (g + 1)).take (i + 1 - (g + 1))).map canC; exact ⟨by omega, hi, c1, h3, h5, h6, by rw [hts, List.map_append, ← ho]; rfl⟩) (by first | omega | (simp; done) | (simp; omega)) (LE0 rfl) (fun _ h => h) (by (unfold cgSt; simp only [renH, Res.ren, ren_nrows]; rfl)) ?_ ?_)); (focus ((try dsimp only); exact wkl)); (focus ((try dsimp only); exact wkh))
       ·intro _ cp' c1 c2
        rw [nrows_snoc]
        refine no_implicit_lambda% (akcs ?_)
        repeat' (first | (refine no_implicit_lambda% (zH ?_)) | (refine no_implicit_lambda% (splv (fun hc => ?_) (fun hc => ?_)) <;> first | exact zG hc | skip) | (refine no_implicit_lambda% (ans ?_)) | (with_reducible first | exact zI | exact zJ) | (refine no_implicit_lambda% (wsp ?_)) | fail )
        (refine no_implicit_lambda% (k_loopE (L2 := [(1, .box [.list [] .full]), (2, .box [.arr 8 0 (i + 1) cp']), (8, .box (seqC (nrows ((r.take g).map canC) x.n (.arr 4 0 x.l.length cpv) (o2 ++ [canC y])) ((cp' - (i + 1)) * 2))), (4, .seq ((x.l.map canE).map verow) ((cpv - x.l.length) * 4))]) ((.inr (o2 ++ [canC y], cpv, cp', i + 1) : RgI)) 0 [0, 1, 2, 8, 4] (by show g < i + 1 ∧ i + 1 ≤ r.length ∧ i + 1 ≤ cp' ∧ cp' ≤ maxLen ∧ x.l.length ≤ cpv ∧ cpv ≤ maxLen ∧ o2 ++ [canC y] = ((r.drop (g + 1)).take (i + 1 - (g + 1))).map canC; exact ⟨by omega, hi, c1, c2, h5, h6, by rw [hts, List.map_append, ← ho]; rfl⟩) (by first | omega | (simp; done) | (simp; omega)) (LE0 rfl) (fun _ h => h) (by (unfold cgSt; simp only [renH, Res.ren, ren_nrows]; rfl)) ?_ ?_)); (focus ((try dsimp only); exact wkl)); (focus ((try dsimp only); exact wkh))
      ·have hk : k < y.l.length := (List.getElem?_eq_some_iff.1 hy).1
       have hiy := vex hy
       have hsy := (hsx z (List.mem_of_getElem? hy)).1
       have hcn := canonv_c z.v (by omega)
       have hty : y.l.take (k + 1) = y.l.take k ++ [z] := by rw [List.take_add_one, hy]; rfl
       repeat' (first | (refine no_implicit_lambda% (zH ?_)) | (refine no_implicit_lambda% (splv (fun hc => ?_) (fun hc => ?_)) <;> first | exact zG hc | skip) | (refine no_implicit_lambda% (ans ?_)) | (with_reducible first | exact zI | exact zJ) | (refine no_implicit_lambda% (wsp ?_)) | (refine no_implicit_lambda% (cal [] (hcn) ?_ ?_)) | fail)
       (refine no_implicit_lambda% (k_loopE (L2 := [(6, .box [.v (.string y.n), .list ((vs ++ [canE z]).map verow) (.tok 7)]), (7, .tok 4 (vs ++ [canE z]).length), (1, .box [.list [] .full]), (2, .box [.arr 3 0 i cp]), (3, .box (seqC (nrows ((r.take g).map canC) x.n (.arr 4 0 x.l.length cpv) o2) ((cp - i) * 2))), (4, .seq ((x.l.map canE).map verow) ((cpv - x.l.length) * 4))]) (((vs ++ [canE z], k + 1) : List Ve × Nat)) 0 (List.range 8) (by show k + 1 ≤ y.l.length ∧ vs ++ [canE z] = (y.l.take (k + 1)).map canE; exact ⟨hk, by rw [hty, List.map_append, ← hv]; rfl⟩) (by first | omega | (simp; done) | (simp; omega)) (LE0 rfl) (fun _ h => h) (by (unfold riSt; simp only [renH, Res.ren, ren_nrows]; rfl)) ?_ ?_)); (focus ((try dsimp only); exact wkl)); (focus ((try dsimp only); exact wkh))
def CGn (o : List Co) (g : Nat) (out : AOut) (H' : Heap) : Prop := ∃ cp cpv x, o[g]? = some x ∧ o.length ≤ cp ∧ cp ≤ maxLen ∧ x.l.length ≤ cpv ∧ cpv ≤ maxLen ∧ out = .ret (.agg [.arr 0 0 o.length cp]) ∧ H' = [(0, .box (seqC (nrows (o.take g) x.n (.arr 1 0 x.l.length cpv) (o.drop (g + 1))) ((cp - o.length) * 2))), (1, .seq (x.l.map verow) ((cpv - x.l.length) * 4))]
theorem copy_g (r : List Co) (g : Nat) (hg : g < (copyR r).length) (hr : r.length < 70368744177664) (hs : RowSz r) : ACalls Tryz.prog 142 0 2 [rowA r] [] (CGn (copyR r) g) :=
 (copy_g0 r g hg hr hs).ren (Nat.zero_le _) fun out H' hh => by
  obtain ⟨id, idv, cp, cpv, x, hx, hne, h0, h1, h2, h3, h4, h5, rfl, rfl⟩ := hh
  have hne2 : idv ≠ id := fun e => hne e.symm
  refine ⟨[id, idv], .ret (.agg [.arr 0 0 (copyR r).length cp]), [(0, .box (seqC (nrows ((copyR r).take g) x.n (.arr 1 0 x.l.length cpv) ((copyR r).drop (g + 1))) ((cp - (copyR r).length) * 2))), (1, .seq (x.l.map verow) ((cpv - x.l.length) * 4))], by simp [hne], (fun i h => by simp at h; omega), (fun i h => absurd h (Nat.not_lt_zero i)), Nat.le_refl _, ?_, ?_, cp, cpv, x, hx, h2, h3, h4, h5, rfl, rfl⟩
  ·simp [AOut.ren, AV.ren, AV.renL, rn]
  ·simp [renH, Res.ren, rn, ren_nrows, AV.ren]
theorem find_g (o : List Co) (s : ByteArray) (g cp cpv : Nat) (x : Co) (hx : o[g]? = some x) (hl : o.length < 1000000) (hs : Nsort o) : ACalls Tryz.prog 187 2 2 [.agg [.arr 0 0 o.length cp], .v (.string s)] [(0, .box (seqC (nrows (o.take g) x.n (.arr 1 0 x.l.length cpv) (o.drop (g + 1))) ((cp - o.length) * 2))), (1, .seq (x.l.map verow) ((cpv - x.l.length) * 4))] (fun out H' => out = .ret (.tuple [.v (.int .i64 (npos o s)), .v (.bool (hasN o s))]) ∧ H' = [(0, .box (seqC (nrows (o.take g) x.n (.arr 1 0 x.l.length cpv) (o.drop (g + 1))) ((cp - o.length) * 2))), (1, .seq (x.l.map verow) ((cpv - x.l.length) * 4))]) :=
 ((find_f o s hl hs).borrow (k := 2) (top := 2) (args := [.agg [.arr 0 0 o.length cp], .v (.string s)]) (H := [(0, .box (seqC (nrows (o.take g) x.n (.arr 1 0 x.l.length cpv) (o.drop (g + 1))) ((cp - o.length) * 2))), (1, .seq (x.l.map verow) ((cpv - x.l.length) * 4))]) rfl (fun out H' hh => by obtain ⟨rfl, rfl⟩ := hh; rfl) (fun i a' ha => by
  match i with
  | 0 =>
   simp at ha; subst ha
   refine ⟨_, rfl, .agg rfl fun j b hb => ?_⟩
   match j with
   | 0 =>
    simp at hb; subst hb
    refine ⟨_, rfl, .boxes (sz := 2) (cells := seqC (nrows (o.take g) x.n (.arr 1 0 x.l.length cpv) (o.drop (g + 1))) ((cp - o.length) * 2)) (by simp) (coOk o).len (by simp) fun i a' hi => ?_⟩
    rw [Nat.zero_add]
    have hsp : o = o.take g ++ x :: o.drop (g + 1) := by
     obtain ⟨h1, rfl⟩ := List.getElem?_eq_some_iff.1 hx
     rw [List.getElem_cons_drop, List.take_append_drop]
    have hgl : (o.take g).length = g := by rw [List.length_take]; have := (List.getElem?_eq_some_iff.1 hx).1; omega
    have hfl : ((o.take g).map corow).flatten.length = g * 2 := by rw [flatten_length (coOk _).len, List.length_map, hgl]
    have e1 : (o.map corow).flatten = ((o.take g).map corow).flatten ++ (corow x ++ ((o.drop (g + 1)).map corow).flatten) := by
     conv => lhs; rw [hsp]
     simp
    have e2 : seqC (nrows (o.take g) x.n (.arr 1 0 x.l.length cpv) (o.drop (g + 1))) ((cp - o.length) * 2) = ((o.take g).map corow).flatten ++ ([.v (.string x.n), .arr 1 0 x.l.length cpv] ++ (((o.drop (g + 1)).map corow).flatten ++ List.replicate ((cp - o.length) * 2) .dead)) := by
     unfold seqC nrows; simp
    have hp : ∀ a ∈ (o.map corow).flatten, a.pure = true := (coOk o).pure
    have ho1 : ∀ a ∈ (o.map corow).flatten, a.one = true := fun a ha => List.all_eq_true.1 (coOk o).one a ha
    have hm := List.mem_of_getElem? hi
    rw [e1] at hi
    rw [e2]
    rcases Nat.lt_or_ge i (g * 2) with h | h
    ·rw [List.getElem?_append_left (by omega)] at hi ⊢
     exact ⟨a', hi, .data (hp _ hm), hp _ hm, ho1 _ hm⟩
    ·rw [List.getElem?_append_right (by omega), hfl] at hi ⊢
     match hj : i - g * 2, hi with
     | 0, hi =>
      simp [corow] at hi; subst hi
      exact ⟨_, rfl, .data rfl, rfl, rfl⟩
     | 1, hi =>
      simp [corow] at hi; subst hi
      exact ⟨_, rfl, .seq (k := (cpv - x.l.length) * 4) (by simp) (veOk x.l) (by simp), rfl, rfl⟩
     | j + 2, hi =>
      have hi2 : ((o.drop (g + 1)).map corow).flatten[j]? = some a' := by
       simpa [corow] using hi
      refine ⟨a', ?_, .data (hp _ hm), hp _ hm, ho1 _ hm⟩
      show (([_, _] : List AV) ++ _)[j + 2]? = some a'
      rw [List.getElem?_append_right (by simp)]
      simp only [List.length_cons, List.length_nil, Nat.zero_add, Nat.reduceAdd, Nat.add_sub_cancel]
      rw [List.getElem?_append_left (List.getElem?_eq_some_iff.1 hi2).1]
      exact hi2
   | j + 1 => simp at hb
  | 1 =>
   simp at ha; subst ha
   exact ⟨_, rfl, .data rfl⟩
  | i + 2 => simp at ha)).mono fun out H' hh => by
   obtain ⟨⟨_, h1, _⟩, h2⟩ := hh
   exact ⟨h1, h2⟩
end Go.Proofs.YtncffhgoopdfgaaGreat
namespace Go.Proofs.YtncffhgoopdfgaaGreat
open Go.Am
set_option maxRecDepth 100000
def putA (o : List Co) (s : ByteArray) (x : Ve) : List Co := if hasN o s then (match o[npos o s]? with | some c => o.set (npos o s) (putC c x) | none => o) else insAt o (npos o s) ⟨s, [x]⟩
theorem filter_take {d : List Ve} {t : Int} {j : Nat} (hd : Vsort d) (hne : ∀ y ∈ d, y.t ≠ t) (h1 : ∀ y ∈ d.take j, t < y.t) (h2 : ∀ y, d[j]? = some y → ¬ t < y.t) : d.filter (fun y => decide (t < y.t)) = d.take j ∧ d.filter (fun y => decide (y.t < t)) = d.drop j := by
 have hB : ∀ y ∈ d.drop j, y.t < t := fun y hy => by
  obtain ⟨i, hi⟩ := List.getElem?_of_mem hy
  rw [List.getElem?_drop] at hi
  have hm := hne y (List.mem_of_getElem? hi)
  obtain ⟨z, hz⟩ : ∃ z, d[j]? = some z := ⟨_, List.getElem?_eq_getElem (by have := (List.getElem?_eq_some_iff.1 hi).1; omega)⟩
  have hz1 := h2 z hz
  rcases Nat.eq_zero_or_pos i with rfl | h0
  ·rw [Nat.add_zero, hz] at hi
   cases hi; omega
  ·have := List.pairwise_iff_getElem.1 hd j (j + i) (List.getElem?_eq_some_iff.1 hz).1 (List.getElem?_eq_some_iff.1 hi).1 (by omega)
   rw [(List.getElem?_eq_some_iff.1 hz).2, (List.getElem?_eq_some_iff.1 hi).2] at this
   omega
 have hs : d = d.take j ++ d.drop j := (List.take_append_drop j d).symm
 constructor
 ·conv => lhs; rw [hs]
  rw [List.filter_append, List.filter_eq_self.2 fun y hy => decide_eq_true (h1 y hy), List.filter_eq_nil_iff.2 fun y hy => by have := hB y hy; simp; omega, List.append_nil]
 ·conv => lhs; rw [hs]
  rw [List.filter_append, List.filter_eq_nil_iff.2 fun y hy => by have := h1 y hy; simp; omega, List.filter_eq_self.2 fun y hy => decide_eq_true (hB y hy), List.nil_append]
theorem ins_eq {vs : List Ve} {x : Ve} {j : Nat} (hs : Vsort vs) (h1 : ∀ y ∈ (dropV vs x.t).take j, x.t < y.t) (h2 : ∀ y, (dropV vs x.t)[j]? = some y → ¬ x.t < y.t) : insAt (dropV vs x.t) j x = insV vs x := by
 obtain ⟨a, b⟩ := filter_take (d := dropV vs x.t) (hs.filter _) (fun y hy => of_decide_eq_true (List.mem_filter.1 hy).2) h1 h2
 unfold insAt insV
 rw [← a, ← b]
 unfold dropV
 rw [List.filter_filter, List.filter_filter]
 congr 1
 ·exact List.filter_congr fun y _ => by rcases Int.lt_trichotomy x.t y.t with h | h | h <;> simp <;> omega
 ·congr 1
  exact List.filter_congr fun y _ => by rcases Int.lt_trichotomy x.t y.t with h | h | h <;> simp <;> omega
theorem put_nrows {o1 : List Co} {nm : ByteArray} {v w : AV} {o2 : List Co} {k : Nat} : putCells (seqC (nrows o1 nm v o2) k) (o1.length * 2 + 1) [w] = seqC (nrows o1 nm w o2) k := by
 have hl : ((o1.map corow).flatten ++ [AV.v (.string nm)]).length = o1.length * 2 + 1 := by rw [List.length_append, flatten_length (coOk o1).len, List.length_map]; rfl
 have e : ∀ z, seqC (nrows o1 nm z o2) k = ((o1.map corow).flatten ++ [.v (.string nm)]) ++ ([z] ++ ((o2.map corow).flatten ++ List.replicate k .dead)) := fun z => by unfold seqC nrows; simp
 rw [e v, e w, ← hl]
 exact put_mid _ [v] _ [w] rfl
theorem set_nrows {o1 : List Co} {nm : ByteArray} {v w : AV} {o2 : List Co} {k : Nat} : setA (seqC (nrows o1 nm v o2) k) (o1.length * 2 + 1) w = seqC (nrows o1 nm w o2) k := by
 rw [← put_nrows (v := v) (w := w), setA_eq]
 have hlt : o1.length * 2 + 1 < (seqC (nrows o1 nm v o2) k).length := by rw [seqC_len nrows_row, nrows_len]; omega
 unfold putCells
 rw [List.set_eq_take_append_cons_drop, if_pos hlt]; rfl
theorem get_nrows {o1 : List Co} {nm : ByteArray} {v : AV} {o2 : List Co} {k : Nat} : (seqC (nrows o1 nm v o2) k)[o1.length * 2 + 1]? = some v := by
 have hl : ((o1.map corow).flatten ++ [AV.v (.string nm)]).length = o1.length * 2 + 1 := by rw [List.length_append, flatten_length (coOk o1).len, List.length_map]; rfl
 have e : seqC (nrows o1 nm v o2) k = ((o1.map corow).flatten ++ [.v (.string nm)]) ++ ([v] ++ ((o2.map corow).flatten ++ List.replicate k .dead)) := by unfold seqC nrows; simp
 rw [e, ← hl, List.getElem?_append_right (Nat.le_refl _), Nat.sub_self]; rfl
theorem nrows_free (o1 : List Co) (nm : ByteArray) (vs : List Ve) (o2 : List Co) : nrows o1 nm (.list (vs.map verow) .free) o2 = (o1 ++ ⟨nm, vs⟩ :: o2).map corow := by unfold nrows; simp [corow]
theorem insAt_map {α β : Type} (f : α → β) (l : List α) (i : Nat) (x : α) : insAt (l.map f) i (f x) = (insAt l i x).map f := by simp [insAt, List.map_take, List.map_drop]
abbrev PtI := List Co × ByteArray × List Ve × List Co × Nat × Nat
def ptSt (t : Int) (v : Va) : PtI → ASt
 | (o1, nm, vs, o2, cp, cpv) => ⟨(List.replicate 6 .dead ++ [.ptr 1 0, .ptr 2 0, .ptr 3 0, .dead, .ptr 4 0, .v (.int .i64 o1.length)] ++ List.replicate 86 .dead), [(1, .box [.v (.int .i64 t)]), (2, .box (vrowV v)), (3, .box [.list [] .full]), (4, .box [.arr 5 0 (o1.length + 1 + o2.length) cp]), (5, .box (seqC (nrows o1 nm (.arr 6 0 vs.length cpv) o2) ((cp - (o1.length + 1 + o2.length)) * 2))), (6, .seq (vs.map verow) ((cpv - vs.length) * 4))], 7⟩
def ptC (F : List Co) (x : Ve) : PtI → Prop
 | (o1, nm, vs, o2, cp, cpv) => o1.length + 1 + o2.length ≤ 4 ∧ vs.length ≤ 2 ∧ vs.length ≤ cpv ∧ cpv ≤ maxLen ∧ o1.length + 1 + o2.length ≤ cp ∧ cp ≤ maxLen ∧ Vsort vs ∧ o1 ++ ⟨nm, putV vs x⟩ :: o2 = F
def plSt (t : Int) (v : Va) (o1 : List Co) (nm : ByteArray) (o2 : List Co) (cp : Nat) (w : AV) (d : List Ve) (cpv : Nat) (j : Nat) : ASt := ⟨(List.replicate 6 .dead ++ [.ptr 1 0, .ptr 2 0, .ptr 3 0, .dead, .ptr 4 0, .v (.int .i64 o1.length), .dead, .arr 6 0 d.length cpv, .v (.int .i64 j)] ++ List.replicate 83 .dead), [(1, .box [.v (.int .i64 t)]), (2, .box (vrowV v)), (3, .box [.list [] .full]), (4, .box [.arr 5 0 (o1.length + 1 + o2.length) cp]), (5, .box (seqC (nrows o1 nm w o2) ((cp - (o1.length + 1 + o2.length)) * 2))), (6, .seq (d.map verow) ((cpv - d.length) * 4))], 300⟩
def putQ (F : List Co) (out : AOut) (H' : Heap) : Prop := out = .ret (.tuple [rowA F, .v (.int .i64 0)]) ∧ H' = []
def pzSt (F : List Co) : ASt := ⟨(List.replicate 8 .dead ++ [.ptr 3 0, .dead, .ptr 4 0] ++ List.replicate 87 .dead), [(3, .box [.list [] .full]), (4, .box [.list (F.map corow) .free])], 400⟩
set_option maxHeartbeats 3200000 in
theorem put_rest (t : Int) (v : Va) (F : List Co) (hF : Fine F) (hFs : RowSz F) (hv : v.kind = 1 → v.b.length < 1073741824) (R : AOut → Heap → Prop) (hR : ∀ out H', putQ F out H' → R out H') (a : PtI) (hC : ptC F ⟨t, canV v⟩ a) : acode Tryz.prog TT { run := DD, low := fun N => 0 ≤ N } (seqTail 5 (Tryz.f178.body.getD .skip)) (ptSt t v a).slots (ptSt t v a).L (ptSt t v a).next (aend Tryz.prog TT (Tryz.f178.results.toList) 9000 R) := by
 obtain ⟨o1, nm, vs, o2, cp, cpv⟩ := a
 obtain ⟨h1, h2, h3, h4, h5, h6, hvs, hFe⟩ := hC
 refine c_turns (n' := 7) ?_
 refine c_seq ?_
 repeat' (first | (refine no_implicit_lambda% (zH ?_)) | (refine no_implicit_lambda% (splv (fun hc => ?_) (fun hc => ?_)) <;> first | exact zG hc | skip) | (refine no_implicit_lambda% (ans ?_)) | (with_reducible first | exact zI | exact zJ) | (refine no_implicit_lambda% (wsp ?_)) | fail )
 (refine no_implicit_lambda% (aqs ?_ ?_)); focus (first | omega | (simp; done) | (simp; omega))
 repeat' (first | (refine no_implicit_lambda% (zH ?_)) | (refine no_implicit_lambda% (splv (fun hc => ?_) (fun hc => ?_)) <;> first | exact zG hc | skip) | (refine no_implicit_lambda% (ans ?_)) | (with_reducible first | exact zI | exact zJ) | (refine no_implicit_lambda% (wsp ?_)) | fail )
 (with_reducible refine zC ?_)
 refine no_implicit_lambda% (a_loadAt (av := .arr 6 0 vs.length cpv) rfl rfl rfl rfl rfl ?_ ?_)
 ·have e : 0 + (o1.length : Int).toNat * 2 + 1 = o1.length * 2 + 1 := by rw [Int.toNat_natCast]; omega
  exact e ▸ get_nrows
 repeat' (first | (refine no_implicit_lambda% (zH ?_)) | (refine no_implicit_lambda% (splv (fun hc => ?_) (fun hc => ?_)) <;> first | exact zG hc | skip) | (refine no_implicit_lambda% (ans ?_)) | (with_reducible first | exact zI | exact zJ) | (refine no_implicit_lambda% (wsp ?_)) | fail )
 have hdf := deletef_c put1_c vs cpv t (by omega) h3
 (refine no_implicit_lambda% (cal [6, 1] (hdf) ?_ ?_))
 ·((with_reducible refine no_implicit_lambda% (ret1 ?_)); first | (refine no_implicit_lambda% (akcs ?_)) | (refine no_implicit_lambda% (aecs ?_)))
  have hie : ∀ j, (∀ y ∈ (dropV vs t).take j, t < y.t) → (∀ y, (dropV vs t)[j]? = some y → ¬ t < y.t) → insAt (dropV vs t) j ⟨t, canV v⟩ = insV vs ⟨t, canV v⟩ := fun j a b => ins_eq (x := ⟨t, canV v⟩) hvs a b
  generalize hd : dropV vs t = d at *
  have hdl : d.length ≤ 2 := by rw [← hd]; have := dropV_len vs t; omega
  have hdc : d.length ≤ cpv := by rw [← hd]; have := dropV_len vs t; omega
  repeat' (first | (refine no_implicit_lambda% (sx1 ?_)) | (refine no_implicit_lambda% (spl (fun hc => ?_) (fun hc => ?_)) <;> first | exact zG hc | skip) | fail)
  refine k_seq ?_
  repeat' (first | (refine no_implicit_lambda% (sx1 ?_)) | (refine no_implicit_lambda% (spl (fun hc => ?_) (fun hc => ?_)) <;> first | exact zG hc | skip) | fail)
  refine k_seq ?_
  have hcn := canonv_w v (fun h => by have := hv h; omega)
  refine c_seq ?_
  refine c_cutR (plSt t v o1 nm o2 cp (.arr 6 0 vs.length cpv) d cpv) (fun j => j ≤ d.length ∧ insAt d j ⟨t, canV v⟩ = insV vs ⟨t, canV v⟩) ?_ ?_
  ·rintro j ⟨j1, j2⟩
   refine c_turns (n' := 300) ?_
   have hin := insert_ver (d.map verow) (verow ⟨t, canV v⟩) j cpv (veOk d) (veOk [⟨t, canV v⟩]) (by rw [List.length_map]; exact j1) (by rw [List.length_map]; omega) (by rw [List.length_map]; exact hdc) h4
   rw [List.length_map, insAt_map, j2] at hin
   have hil : (insV vs ⟨t, canV v⟩).length = d.length + 1 := by rw [← j2]; exact insAt_len _ j1
   generalize hq : insV vs ⟨t, canV v⟩ = q at *
   repeat' (first | (refine no_implicit_lambda% (zH ?_)) | (refine no_implicit_lambda% (splv (fun hc => ?_) (fun hc => ?_)) <;> first | exact zG hc | skip) | (refine no_implicit_lambda% (ans ?_)) | (with_reducible first | exact zI | exact zJ) | (refine no_implicit_lambda% (wsp ?_)) | (refine no_implicit_lambda% (cal [] (hcn) ?_ ?_)) | fail)
   (refine no_implicit_lambda% (calw [6] (hin) ?_ ?_))
   ·intro xx H' hh
    obtain ⟨cp', c1, c2, h', rfl⟩ := hh
    cases h'
    refine no_implicit_lambda% (aecs ?_)
    repeat' (first | (refine no_implicit_lambda% (zH ?_)) | (refine no_implicit_lambda% (splv (fun hc => ?_) (fun hc => ?_)) <;> first | exact zG hc | skip) | (refine no_implicit_lambda% (ans ?_)) | (with_reducible first | exact zI | exact zJ) | (refine no_implicit_lambda% (wsp ?_)) | fail )
    ((with_reducible refine no_implicit_lambda% (is_ev ?_)); first | (refine no_implicit_lambda% (v_qS rfl rfl rfl rfl (qAnd4 (fun _ h => h)) (fun _ h => h) ?_ ?_)) | (refine no_implicit_lambda% (v_qS rfl rfl rfl rfl (qAnd5 (fun _ h => h)) (fun _ h => h) ?_ ?_))); focus ((repeat' (refine no_implicit_lambda% (And.intro ?_ ?_))) <;> (first | exact trivial | exact Int.natCast_nonneg _ | omega | (simp; done) | (simp; omega) | ((show (0 : Int) ≤ _); omega)))
    repeat' (first | (refine no_implicit_lambda% (zH ?_)) | (refine no_implicit_lambda% (splv (fun hc => ?_) (fun hc => ?_)) <;> first | exact zG hc | skip) | (refine no_implicit_lambda% (ans ?_)) | (with_reducible first | exact zI | exact zJ) | (refine no_implicit_lambda% (wsp ?_)) | fail )
    ((with_reducible refine no_implicit_lambda% (is_ev ?_)); first | (refine no_implicit_lambda% (v_qS rfl rfl rfl rfl (fun _ h => h) (fun _ h => h) ?_ ?_)) | (refine no_implicit_lambda% (v_qS rfl rfl rfl rfl (qAnd2 (fun _ h => h)) (fun _ h => h) ?_ ?_))); focus (first | omega | (simp; done) | (simp; omega))
    repeat' (first | (refine no_implicit_lambda% (zH ?_)) | (refine no_implicit_lambda% (splv (fun hc => ?_) (fun hc => ?_)) <;> first | exact zG hc | skip) | (refine no_implicit_lambda% (ans ?_)) | (with_reducible first | exact zI | exact zJ) | (refine no_implicit_lambda% (wsp ?_)) | fail )
    have hm : ((if (2 : Int) < ((d.length + 1 : Nat) : Int) then (2 : Int) else ((d.length + 1 : Nat) : Int)).toNat - 0) = min (d.length + 1) 2 := by split <;> omega
    have hml : min (d.length + 1) 2 ≤ q.length := by omega
    generalize hmm : min (d.length + 1) 2 = m at *
    (with_reducible refine zC ?_)
    refine no_implicit_lambda% (a_storeT (id := 5) (off := o1.length * 2 + 1) (l := [.arr 310 0 m cp']) (cells' := seqC (nrows o1 nm (.arr 310 0 m cp') o2) ((cp - (o1.length + 1 + o2.length)) * 2)) ?_ ?_ put_nrows rfl rfl ?_ rfl ?_)
    ·refine no_implicit_lambda% (aecs ?_)
     repeat' (first | (first | (with_reducible refine no_implicit_lambda% (v_nil ?_)) | ((with_reducible refine no_implicit_lambda% (is_ev ?_)); first | (refine no_implicit_lambda% (v_skips rfl rfl (fun _ h => h) ?_)) | (refine no_implicit_lambda% (v_q rfl rfl rfl rfl (fun _ h => h) (fun _ h => h) ?_)) | (refine no_implicit_lambda% (v_alloc rfl rfl rfl (fun _ h => h) rfl ?_)) | (refine no_implicit_lambda% (v_no rfl rfl rfl rfl rfl rfl (fun _ h => h) ?_)) | (refine no_implicit_lambda% (v_yes rfl rfl rfl rfl rfl rfl (fun _ h => h) (fun _ h => h) ?_)) | (refine no_implicit_lambda% (v_not rfl rfl rfl rfl rfl rfl (fun _ h => h) ?_)))) | (((with_reducible refine no_implicit_lambda% (is_drB ?_)); refine no_implicit_lambda% (b_ends ?_))))
     have e1 : (q.map verow).take m = (putV vs ⟨t, canV v⟩).map verow := by
      unfold putV
      rw [hq, ← List.map_take]
      congr 1
      rcases Nat.lt_or_ge d.length 1 with h | h
      ·rw [List.take_of_length_le (by omega), List.take_of_length_le (by omega)]
      ·rw [show m = 2 by omega]
     refine k_seq_to (pzSt F) ((Conv.seqTake (id := 310) (rows := q.map verow) (k := (cp' - (d.length + 1)) * 4) m (permT (H := [(310, .seq (q.map verow) ((cp' - (d.length + 1)) * 4))])) (veOk q) (by rw [List.length_map]; exact hml) (by rw [List.length_map]; omega)).trans ((Conv.freezeBox (id := 310) (bid := 5) (cells := seqC (nrows o1 nm (.arr 310 0 m cp') o2) ((cp - (o1.length + 1 + o2.length)) * 2)) (j := o1.length * 2 + 1) (m := m) (cp := cp') (permT (H := [(310, .seq ((q.map verow).take m) _), (5, .box (seqC (nrows o1 nm (.arr 310 0 m cp') o2) ((cp - (o1.length + 1 + o2.length)) * 2)))])) get_nrows ((veOk q).take m) (by rw [List.length_take, List.length_map]; omega)).trans ?_)) ?_
     ·rw [set_nrows, e1, nrows_free, hFe]
      have hFl : F.length = o1.length + 1 + o2.length := by rw [← hFe]; simp; omega
      refine (Conv.toSeq (id := 5) (rows := F.map corow) (cells := seqC (F.map corow) ((cp - (o1.length + 1 + o2.length)) * 2)) (.refl _) rfl (coOk F).pure).trans ((Conv.freezeBox (id := 5) (bid := 4) (cells := [.arr 5 0 (o1.length + 1 + o2.length) cp]) (j := 0) (m := o1.length + 1 + o2.length) (cp := cp) (permT (H := [(5, .seq (F.map corow) _), (4, .box [.arr 5 0 (o1.length + 1 + o2.length) cp])])) rfl (coOk F) (by rw [List.length_map]; exact hFl)).trans ?_)
      (refine no_implicit_lambda% (Conv.toT ?_ ?_ (LE0 rfl))); (focus ((unfold pzSt); (try dsimp only); exact wkl)); (focus ((unfold pzSt); (try dsimp only); exact wkh))
     ·have hcc := copy_f F (by have := hF.len; omega) hFs
      rw [hF.copy] at hcc
      refine c_turns (n' := 400) ?_
      repeat' (first | (refine no_implicit_lambda% (zH ?_)) | (refine no_implicit_lambda% (spl (fun hc => ?_) (fun hc => ?_)) <;> first | exact zG hc | skip) | (refine no_implicit_lambda% (ans ?_)) | (with_reducible first | exact zI | exact zJ) | (refine no_implicit_lambda% (cal [] (hcc) ?_ ?_)) | fail)
      exact e_ret (H' := []) (rest := _) rfl (hR _ _ ⟨rfl, rfl⟩) permT (LE0 rfl)
    ·show (true && (true && Nat.ble (o1.length * 2 + 1 + 1) (seqC (nrows o1 nm (.arr 6 0 vs.length cpv) o2) ((cp - (o1.length + 1 + o2.length)) * 2)).length)) = true
     rw [Bool.true_and, Bool.true_and, Nat.ble_eq, seqC_len nrows_row, nrows_len]
     omega
    ·show AV.ptr 5 (0 + (o1.length : Int).toNat * 2 + 1) = .ptr 5 (o1.length * 2 + 1)
     rw [Int.toNat_natCast, Nat.zero_add]
    ·show some [AV.arr 310 (0 + 0 * 4) _ (cp' - 0)] = some [AV.arr 310 0 m cp']
     rw [hm]; rfl
   ·intro xx H' hh
    obtain ⟨_, _, _, h', _⟩ := hh
    cases h'
  ·intro Kx kN kP kR kE
   repeat' (first | (refine no_implicit_lambda% (zH ?_)) | (refine no_implicit_lambda% (splv (fun hc => ?_) (fun hc => ?_)) <;> first | exact zG hc | skip) | (refine no_implicit_lambda% (ans ?_)) | (with_reducible first | exact zI | exact zJ) | (refine no_implicit_lambda% (wsp ?_)) | fail )
   refine c_loop' (plSt t v o1 nm o2 cp (.arr 6 0 vs.length cpv) d cpv) (fun j => j ≤ d.length ∧ ∀ y ∈ d.take j, t < y.t) (fun j => d.length - j) (a := 0) ⟨Nat.zero_le _, by simp⟩ ?_ ?_
   ·(refine no_implicit_lambda% (Conv.toT ?_ ?_ (LE0 rfl))); (focus ((unfold plSt); (try dsimp only); exact wkl)); (focus ((unfold plSt); (try dsimp only); exact wkh))
   ·rintro j ⟨j1, j2⟩
    refine c_turns (n' := 300) ?_
    rcases hy : d[j]? with _ | y
    ·have hj : j = d.length := by have := List.getElem?_eq_none_iff.1 hy; omega
     repeat' (first | (refine no_implicit_lambda% (zH ?_)) | (refine no_implicit_lambda% (splv (fun hc => ?_) (fun hc => ?_)) <;> first | exact zG hc | skip) | (refine no_implicit_lambda% (ans ?_)) | (with_reducible first | exact zI | exact zJ) | (refine no_implicit_lambda% (wsp ?_)) | fail )
     refine kN j _ _ _ ⟨j1, hie j j2 (fun y h => by rw [hy] at h; cases h)⟩ (.inl ?_)
     (refine no_implicit_lambda% (Conv.toT ?_ ?_ (LE0 rfl))); (focus ((unfold plSt); (try dsimp only); exact wkl)); (focus ((unfold plSt); (try dsimp only); exact wkh))
    ·have hj : j < d.length := (List.getElem?_eq_some_iff.1 hy).1
     refine no_implicit_lambda% (awd ?_)
     ((with_reducible refine no_implicit_lambda% (is_ev ?_)); refine no_implicit_lambda% (v_split rfl rfl rfl rfl (fun hc => ?_) (fun hc => ?_)) <;> first | exact zG hc | rw [hc])
     refine no_implicit_lambda% (awd ?_)
     ((with_reducible refine no_implicit_lambda% (is_ev ?_)); first | (refine no_implicit_lambda% (v_yesS rfl rfl rfl rfl rfl rfl (fun _ h => h) (fun _ h => h) ?_ ?_)) | (refine no_implicit_lambda% (v_yesS rfl rfl rfl rfl rfl rfl (qAnd2 (fun _ h => h)) (fun _ h => h) ?_ ?_))); focus (first | omega | (simp; done) | (simp; omega))
     refine no_implicit_lambda% (awd ?_)
     ((with_reducible refine no_implicit_lambda% (is_ev ?_)); first | (refine no_implicit_lambda% (v_q rfl rfl rfl rfl (q_loadSeq (sz := 4) (rows := d.map verow) (i := j) (j := 0) rfl rfl rfl rfl rfl (veOk d) ((by rw [List.getElem?_map, hy]; rfl)) rfl (by first | rfl | (simp; done) | (simp; omega))) (fun _ h => h) ?_)) | (refine no_implicit_lambda% (v_yes rfl rfl rfl rfl rfl rfl (q_loadSeq (sz := 4) (rows := d.map verow) (i := j) (j := 0) rfl rfl rfl rfl rfl (veOk d) ((by rw [List.getElem?_map, hy]; rfl)) rfl (by first | rfl | (simp; done) | (simp; omega))) (fun _ h => h) ?_)))
     refine no_implicit_lambda% (awd ?_)
     ((with_reducible refine no_implicit_lambda% (is_drB ?_)); refine no_implicit_lambda% (b_ends ?_))
     repeat' (first | (refine no_implicit_lambda% (zH ?_)) | (refine no_implicit_lambda% (spl (fun hc => ?_) (fun hc => ?_)) <;> first | exact zG hc | skip) | (refine no_implicit_lambda% (ans ?_)) | (with_reducible first | exact zI | exact zJ))
     ·(refine no_implicit_lambda% (k_loopE (L2 := (plSt t v o1 nm o2 cp (.arr 6 0 vs.length cpv) d cpv (j + 1)).L) (j + 1) 0 (List.range 300) (by show j + 1 ≤ d.length ∧ ∀ z ∈ d.take (j + 1), t < z.t; exact ⟨hj, by rw [List.take_add_one, hy]; intro z hz; rcases List.mem_append.1 hz with hz | hz; exact j2 z hz; rw [List.mem_singleton.1 hz]; exact of_decide_eq_true hc⟩) (by first | omega | (simp; done) | (simp; omega)) (LE0 rfl) (fun _ h => h) (by (unfold plSt; simp only [renH, Res.ren, ren_nrows]; rfl)) ?_ ?_)); (focus ((try dsimp only); exact wkl)); (focus ((try dsimp only); exact wkh))
     ·refine kN j _ _ _ ⟨j1, hie j j2 (fun z h => by rw [hy] at h; cases h; exact of_decide_eq_false hc)⟩ (.inl ?_)
      (refine no_implicit_lambda% (Conv.toT ?_ ?_ (LE0 rfl))); (focus ((unfold plSt); (try dsimp only); exact wkl)); (focus ((unfold plSt); (try dsimp only); exact wkh))
 ·first | (exact zI) | (exact zJ)
end Go.Proofs.YtncffhgoopdfgaaGreat
namespace Go.Proofs.YtncffhgoopdfgaaGreat
open Go.Am
set_option maxRecDepth 100000
def putR (r : List Co) (s : ByteArray) (t : Int) (v : Va) : Int × List Co := if nmB s && tmOk t && vRt v then (if hasN (copyR r) s = false ∧ (copyR r).length = 4 then (13, []) else (0, putA (copyR r) s ⟨t, canV v⟩)) else (1, [])
theorem canE_can (t : Int) (v : Va) : canE ⟨t, canV v⟩ = ⟨t, canV v⟩ := by unfold canE; simp [canV_idem]
theorem has_at {o : List Co} {s : ByteArray} (h : hasN o s = true) : ∃ c, o[npos o s]? = some c := by
 unfold hasN at h
 split at h
 ·exact ⟨_, by assumption⟩
 ·cases h
theorem put_fine {o : List Co} (h : Fine o) {s : ByteArray} (hn : nmB s = true) {t : Int} {v : Va} (ht : tmOk t = true) (hv : vRt v = true) (hl : ¬ (hasN o s = false ∧ o.length = 4)) : Fine (putA o s ⟨t, canV v⟩) := by
 unfold putA
 rcases hN : hasN o s with _ | _
 ·have h4 := h.len
  rw [if_neg (by simp)]
  exact ins_fine h hn hN (by rw [hN] at hl; simp at hl; omega) ht (vRt_can v hv) (canE_can t v)
 ·obtain ⟨c, hc⟩ := has_at hN
  rw [if_pos rfl, hc]
  exact set_fine h hc ht (vRt_can v hv) (canE_can t v)
theorem put_sw {o : List Co} (h : RowSz o) {s : ByteArray} {t : Int} {v : Va} (hv : VSw v) : RowSz (putA o s ⟨t, canV v⟩) := by
 have hcv := canV_sw hv
 unfold putA
 split
 ·split
  ·rename_i c hc
   intro d hd y hy
   rcases List.mem_or_eq_of_mem_set hd with hd | rfl
   ·exact h d hd y hy
   ·have hy2 := List.mem_of_mem_take hy
    unfold insV at hy2
    rcases List.mem_append.1 hy2 with hy3 | hy3
    ·exact h c (List.mem_of_getElem? hc) y (List.mem_filter.1 hy3).1
    ·rcases List.mem_cons.1 hy3 with rfl | hy3
     ·exact hcv
     ·exact h c (List.mem_of_getElem? hc) y (List.mem_filter.1 hy3).1
  ·exact h
 ·intro d hd y hy
  unfold insAt at hd
  rcases List.mem_append.1 hd with hd | hd
  ·exact h d (List.mem_of_mem_take hd) y hy
  ·rcases List.mem_cons.1 hd with rfl | hd
   ·rw [List.mem_singleton.1 hy]; exact hcv
   ·exact h d (List.mem_of_mem_drop hd) y hy
theorem putR_sw {r : List Co} (h : RowSz r) {s : ByteArray} {t : Int} {v : Va} (hv : VSw v) : RowSz (putR r s t v).2 := by
 unfold putR
 split
 ·split
  ·intro c hc; cases hc
  ·exact put_sw (copy_sz h) hv
 ·intro c hc; cases hc
theorem putR_sz {r : List Co} (h : RowSz r) {s : ByteArray} {t : Int} {v : Va} (hv : v.b.length < 1073741824 ∧ v.n < 18446744073709551616) : RowSz (putR r s t v).2 := putR_sw h ⟨fun _ => hv.1, hv.2⟩
theorem putR_fine (r : List Co) (s : ByteArray) (t : Int) (v : Va) : Fine (putR r s t v).2 := by
 have h0 : Fine [] := ⟨by simp, fun c hc => (by cases hc), fun c hc => (by cases hc), List.Pairwise.nil⟩
 unfold putR
 split
 ·rename_i h
  simp only [Bool.and_eq_true] at h
  split
  ·exact h0
  ·exact put_fine (copy_fine r) h.1.1 h.1.2 h.2 (by assumption)
 ·exact h0
def PutRR (q : Int × List Co) (out : AOut) (H' : Heap) : Prop := out = .ret (.tuple [rowA q.2, .v (.int .i64 q.1)]) ∧ H' = []
set_option maxHeartbeats 3200000 in
theorem put_w (r : List Co) (s : ByteArray) (t : Int) (v : Va) (hr : r.length < 70368744177664) (hs : RowSz r) (hv : VSw v) : ACalls Tryz.prog 178 0 9000 [rowA r, .v (.string s), .v (.int .i64 t), vav v] [] (PutRR (putR r s t v)) := by
 have hnm := name_c s
 have hvr : ACalls Tryz.prog 145 0 10 [vav v] [] (fun out H' => out = .ret (.v (.bool (vRt v))) ∧ H' = []) := vright_c v
 have hso := copy_sort r
 have h4 := copy_len r
 have hz := copy_sz hs
 have hfi := copy_fine r
 have hpf := putR_fine r s t v
 have hpz := putR_sw (s := s) (t := t) hs hv
 have hbad : (nmB s && tmOk t && vRt v) = false → putR r s t v = (1, []) := fun h => by unfold putR; rw [h]; rfl
 have hgood : (nmB s && tmOk t && vRt v) = true → putR r s t v = (if hasN (copyR r) s = false ∧ (copyR r).length = 4 then (13, []) else (0, putA (copyR r) s ⟨t, canV v⟩)) := fun h => by unfold putR; rw [if_pos h]
 have hcn := copy_n r hr hs
 have hcg := fun g hg => copy_g r g hg hr hs
 generalize putR r s t v = Q at *
 generalize copyR r = o at *
 refine no_implicit_lambda% (acalls_of tok dok (f := 178) ⟨Tryz.func178, rfl, by kernel_rfl⟩ ?_); refine no_implicit_lambda% (c_start (fun _ h => h) ?_)
 repeat' (first | (refine no_implicit_lambda% (zH ?_)) | (refine no_implicit_lambda% (spl (fun hc => ?_) (fun hc => ?_)) <;> first | exact zG hc | skip) | (refine no_implicit_lambda% (ans ?_)) | (with_reducible first | exact zI | exact zJ) | (refine no_implicit_lambda% (cal [] (hnm) ?_ ?_)) | (refine no_implicit_lambda% (cal [] (hvr) ?_ ?_)) | fail)
 iterate 4
  ·have hb : Q = (1, []) := hbad (by unfold tmOk; simp only [Bool.not_eq_true', Bool.not_eq_false', decide_eq_true_eq, decide_eq_false_iff_not] at *; rw [Bool.eq_false_iff]; intro h; simp only [Bool.and_eq_true, decide_eq_true_eq] at h; first | omega | (simp_all; done))
   subst hb
   refine e_ret_to (H' := []) (rest := _) (Conv.toT (τ := ⟨_, [(3, .box [.list [] .free])], _⟩) (.refl _) ?_ (Nat.le_refl _)) rfl ⟨rfl, rfl⟩ (.of_eq rfl) (LE0 rfl)
   exact wkh
 have hq := hgood (by unfold tmOk; simp only [Bool.not_eq_true', Bool.not_eq_false', decide_eq_true_eq, decide_eq_false_iff_not] at *; simp only [Bool.and_eq_true, decide_eq_true_eq]; refine ⟨⟨by assumption, by omega⟩, by assumption⟩)
 rcases hN : hasN o s with _ | _
 ·(refine no_implicit_lambda% (cal [] (hcn) ?_ ?_))
  ·intro xx H' hh
   obtain ⟨cp, c1, c2, h', rfl⟩ := hh
   cases h'
   first | (refine no_implicit_lambda% (akc ?_)) | (refine no_implicit_lambda% (aec ?_))
   have hf := find_o o s cp (by omega) hso
   rw [hN] at hf
   repeat' (first | (refine no_implicit_lambda% (zH ?_)) | (refine no_implicit_lambda% (spl (fun hc => ?_) (fun hc => ?_)) <;> first | exact zG hc | skip) | (refine no_implicit_lambda% (ans ?_)) | (with_reducible first | exact zI | exact zJ))
   (refine no_implicit_lambda% (cal [14] (hf) ?_ ?_))
   ·refine no_implicit_lambda% (ret1 ?_); first | (refine no_implicit_lambda% (akc ?_)) | (refine no_implicit_lambda% (aec ?_))
    repeat' (first | (refine no_implicit_lambda% (zH ?_)) | (refine no_implicit_lambda% (spl (fun hc => ?_) (fun hc => ?_)) <;> first | exact zG hc | skip) | (refine no_implicit_lambda% (ans ?_)) | (with_reducible first | exact zI | exact zJ))
    ·have hl4 : o.length = 4 := by have := of_decide_eq_true hc; simp only [beq_iff_eq] at *; omega
     rw [if_pos ⟨hN, hl4⟩] at hq
     subst hq
     refine e_ret_to (H' := []) (rest := _) (Conv.toT (τ := ⟨_, [(3, .box [.list [] .free])], _⟩) (.refl _) ?_ (Nat.le_refl _)) rfl ⟨rfl, rfl⟩ (.of_eq rfl) (LE0 rfl)
     exact wkh
    ·rename_i hc0
     have hl4 : ¬ o.length = 4 := by simp only [beq_eq_false_iff_ne] at *; omega
     have hpl := npos_le o s
     rw [if_neg (fun h => hl4 h.2)] at hq
     have hin := insert_col (o.map corow) [.v (.string s), .list [] .full] (npos o s) cp (coOk o) (.one1 ⟨rfl, rfl, rfl⟩) (by rw [List.length_map]; exact hpl) (by rw [List.length_map]; omega) (by rw [List.length_map]; exact c1) c2
     rw [List.length_map] at hin
     (refine no_implicit_lambda% (calw [14] (hin) ?_ ?_))
     ·intro xx H' hh
      obtain ⟨cp', d1, d2, h', rfl⟩ := hh
      cases h'
      first | (refine no_implicit_lambda% (akc ?_)) | (refine no_implicit_lambda% (aec ?_))
      repeat' (first | (refine no_implicit_lambda% (sx1 ?_)) | (refine no_implicit_lambda% (spl (fun hc => ?_) (fun hc => ?_)) <;> first | exact zG hc | skip) | fail)
      have hins : insAt (o.map corow) (npos o s) [.v (.string s), .list [] .full] = nrows (o.take (npos o s)) s (.list [] .full) (o.drop (npos o s)) := by unfold insAt nrows; rw [List.map_take, List.map_drop]
      have hol : (o.take (npos o s)).length = npos o s := by rw [List.length_take]; omega
      have hol2 : (o.take (npos o s)).length + 1 + (o.drop (npos o s)).length = o.length + 1 := by rw [List.length_take, List.length_drop]; omega
      refine ⟨ptSt t v (o.take (npos o s), s, [], o.drop (npos o s), cp', 0), ?_, put_rest t v Q.2 hpf hpz hv.1 _ (fun out H' h => ?_) (o.take (npos o s), s, [], o.drop (npos o s), cp', 0) ⟨by omega, by simp, by simp, by decide, by omega, d2, List.Pairwise.nil, ?_⟩⟩
      ·refine SeqTo.renE (n2 := 18) (L2 := [(1, .box [.v (.int .i64 t)]), (2, .box (vrowV v)), (3, .box [.list [] .full]), (15, .box [.arr 16 0 ((o.take (npos o s)).length + 1 + (o.drop (npos o s)).length) cp']), (16, .box (seqC (nrows (o.take (npos o s)) s (.arr 17 0 0 0) (o.drop (npos o s))) ((cp' - ((o.take (npos o s)).length + 1 + (o.drop (npos o s)).length)) * 2))), (17, .seq [] 0)]) 0 [0, 1, 2, 3, 15, 16, 17] (Nat.le_refl 0) (by unfold ptSt; simp only [renH, Res.ren, ren_nrows]; rfl) (fun _ h => h) ?_
       refine (Conv.unseq (id := 16) (rows := insAt (o.map corow) (npos o s) [.v (.string s), .list [] .full]) (k := (cp' - (o.length + 1)) * 2) (by rw [insAt_len _ (by rw [List.length_map]; exact hpl)]; omega) (permT (H := [(16, .seq (insAt (o.map corow) (npos o s) [.v (.string s), .list [] .full]) ((cp' - (o.length + 1)) * 2))]))).trans ?_
       rw [hins]
       refine (Conv.nilBox (n := 17) (id := 16) (j := (o.take (npos o s)).length * 2 + 1) (cells := seqC (nrows (o.take (npos o s)) s (.list [] .full) (o.drop (npos o s))) ((cp' - (o.length + 1)) * 2)) rfl get_nrows).trans ?_
       rw [set_nrows, hol2]
       refine no_implicit_lambda% (Conv.toT ?_ ?_ (LE0 rfl))
       ·rw [hol]; exact wkl
       ·exact wkh
      ·exact ⟨by rw [h.1, show Q.1 = 0 by rw [hq]], h.2⟩
      ·rw [hq]
       unfold putA
       rw [hN, if_neg (by simp)]
       rfl
     ·intro xx H' hh
      obtain ⟨_, _, _, h', _⟩ := hh
      cases h'
   ·first | (exact zI) | (exact zJ)
  ·intro xx H' hh
   obtain ⟨_, _, _, h', _⟩ := hh
   cases h'
 ·have hlt := npos_len hN
  (refine no_implicit_lambda% (cal [] (hcg (npos o s) hlt) ?_ ?_))
  ·intro xx H' hh
   obtain ⟨cp, cpv, c, hc1, c1, c2, c3, c4, h', rfl⟩ := hh
   cases h'
   have hlc := hfi.len
   have hoc : (o.take (npos o s)).length = npos o s := by rw [List.length_take]; omega
   have hol2 : (o.take (npos o s)).length + 1 + (o.drop (npos o s + 1)).length = o.length := by rw [List.length_take, List.length_drop]; omega
   have hcb := hfi.col c (List.mem_of_getElem? hc1)
   have hcl := col_len hcb
   refine no_implicit_lambda% (akcs (L'' := [(14, .box (seqC (nrows (o.take (npos o s)) c.n (.arr 15 0 c.l.length cpv) (o.drop (npos o s + 1))) ((cp - o.length) * 2))), (15, .seq (c.l.map verow) ((cpv - c.l.length) * 4)), (3, .box [.list [] .full]), (2, .box (vrowV v)), (1, .box [.v (.int .i64 t)]), (0, .box [.list (r.map corow) .free])]) ?_ (hL := fun q hq => by rw [forceHs_eq]; show q (renH _ _ ++ _); simp only [renH, Res.ren, ren_nrows]; exact hq))
   have hf := find_g o s (npos o s) cp cpv c hc1 (by omega) hso
   rw [hN] at hf
   repeat' (first | (refine no_implicit_lambda% (zH ?_)) | (refine no_implicit_lambda% (splv (fun hc => ?_) (fun hc => ?_)) <;> first | exact zG hc | skip) | (refine no_implicit_lambda% (ans ?_)) | (with_reducible first | exact zI | exact zJ) | (refine no_implicit_lambda% (wsp ?_)) | fail )
   refine no_implicit_lambda% (cal (H1 := [(14, .box (seqC (nrows (o.take (npos o s)) c.n (.arr 15 0 c.l.length cpv) (o.drop (npos o s + 1))) ((cp - o.length) * 2))), (15, .seq (c.l.map verow) ((cpv - c.l.length) * 4))]) [14, 15] hf ?_ ?_ (heq := by simp only [renH, Res.ren, ren_nrows]; rfl))
   ·refine no_implicit_lambda% (ret1 ?_)
    refine no_implicit_lambda% (akcs (L'' := [(14, .box (seqC (nrows (o.take (npos o s)) c.n (.arr 15 0 c.l.length cpv) (o.drop (npos o s + 1))) ((cp - o.length) * 2))), (15, .seq (c.l.map verow) ((cpv - c.l.length) * 4)), (16, .box [.arr 14 0 o.length cp]), (3, .box [.list [] .full]), (2, .box (vrowV v)), (1, .box [.v (.int .i64 t)]), (0, .box [.list (r.map corow) .free])]) ?_ (hL := fun q hq => by rw [forceHs_eq]; show q (renH _ _ ++ _); simp only [renH, Res.ren, ren_nrows]; exact hq))
    repeat' (first | (refine no_implicit_lambda% (sx1 ?_)) | (refine no_implicit_lambda% (spl (fun hc => ?_) (fun hc => ?_)) <;> first | exact zG hc | skip) | fail)
    refine k_seq ?_
    repeat' (first | (refine no_implicit_lambda% (sx1 ?_)) | (refine no_implicit_lambda% (spl (fun hc => ?_) (fun hc => ?_)) <;> first | exact zG hc | skip) | fail)
    refine k_seq ?_
    repeat' (first | (refine no_implicit_lambda% (sx1 ?_)) | (refine no_implicit_lambda% (spl (fun hc => ?_) (fun hc => ?_)) <;> first | exact zG hc | skip) | fail)
    refine ⟨ptSt t v (o.take (npos o s), c.n, c.l, o.drop (npos o s + 1), cp, cpv), ?_, put_rest t v Q.2 hpf hpz hv.1 _ (fun out H' h => ⟨by rw [h.1, show Q.1 = 0 by rw [hq, if_neg (by rw [hN]; simp)]], h.2⟩) (o.take (npos o s), c.n, c.l, o.drop (npos o s + 1), cp, cpv) ⟨by omega, hcl.2, c3, c4, by omega, c2, ?_, ?_⟩⟩
    ·refine SeqTo.renE (n2 := 17) (L2 := [(1, .box [.v (.int .i64 t)]), (2, .box (vrowV v)), (3, .box [.list [] .full]), (16, .box [.arr 14 0 ((o.take (npos o s)).length + 1 + (o.drop (npos o s + 1)).length) cp]), (14, .box (seqC (nrows (o.take (npos o s)) c.n (.arr 15 0 c.l.length cpv) (o.drop (npos o s + 1))) ((cp - ((o.take (npos o s)).length + 1 + (o.drop (npos o s + 1)).length)) * 2))), (15, .seq (c.l.map verow) ((cpv - c.l.length) * 4))]) 0 [0, 1, 2, 3, 16, 14, 15] (Nat.le_refl 0) (by unfold ptSt; simp only [renH, Res.ren, ren_nrows]; rfl) (fun _ h => h) ?_
     rw [hol2]
     refine no_implicit_lambda% (Conv.toT ?_ ?_ (LE0 rfl))
     ·rw [hoc]; exact wkl
     ·exact wkh
    ·unfold colB at hcb
     simp only [Bool.and_eq_true] at hcb
     exact (vers_to hcb.2).2.1
    ·rw [hq, if_neg (by rw [hN]; simp)]
     unfold putA
     rw [hN, if_pos rfl, hc1]
     show _ = o.set (npos o s) (putC c ⟨t, canV v⟩)
     rw [List.set_eq_take_append_cons_drop, if_pos hlt]
     rfl
   ·exact zI
  ·intro xx H' hh
   obtain ⟨_, _, _, _, _, _, _, _, h', _⟩ := hh
   cases h'
theorem put_c (r : List Co) (s : ByteArray) (t : Int) (v : Va) (hr : r.length < 70368744177664) (hs : RowSz r) (hv : v.b.length < 1073741824 ∧ v.n < 18446744073709551616) : ACalls Tryz.prog 178 0 9000 [rowA r, .v (.string s), .v (.int .i64 t), vav v] [] (PutRR (putR r s t v)) := put_w r s t v hr hs ⟨fun _ => hv.1, hv.2⟩
end Go.Proofs.YtncffhgoopdfgaaGreat
