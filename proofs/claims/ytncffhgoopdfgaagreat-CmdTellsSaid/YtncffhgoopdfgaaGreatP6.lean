/- Part 6 of what the laws CmdTells rest on: AmW, AmSm, AmY, AmZ. -/
import Derived.Test.YtncffhgoopdfgaaGreatP5
import Derived.KernelRfl
import Derived.Laws.Externs
set_option linter.unusedSimpArgs false
set_option linter.unusedVariables false
namespace Go.Am
open Go.RowKit
def drB (P : Program) (TT : Types) (all : List Oper) (pr : List (List Nat)) (K : Kn) (KP : AV → Kn) (fuel : Nat) (S FL : List Nat) (L : Heap) : List Nat → List AV → Nat → Prop := fun E s n => match satB all pr E S with
  | false => False
  | true => match effsOf all S (fun _ => true) with
   | [] => flush TT all s (allocsOf all FL fun _ => true) L fun L' => forceH L' fun L'' => K s L'' n
   | _ :: _ => match fuel with
    | 0 => False
    | fuel + 1 => allK (effsOf all S (availB pr E S)) fun e => match all[e]? with
     | none => False
     | some o => flush TT all s (allocsOf all FL fun j => memB j (pr.getD e [])) L fun L1 =>
      guarded all s o (aop P TT o s L1 n (fun av L2 n2 => putD s o.dst av fun s2 => forceH L2 fun L3 => rechk TT all (pr.getD e []) E s2 L3 (List.range all.length)
        (dr P TT all pr K KP fuel E (e :: S) (allocsOf all FL (fun j => memB j (pr.getD e [])) ++ FL) s2 L3 n2)) (fun x L2 n2 => KP x (killA all s) L2 n2))
       (putD s o.dst (.v (.tuple #[])) fun s2 => dr P TT all pr K KP fuel E (e :: S) (allocsOf all FL (fun j => memB j (pr.getD e [])) ++ FL) s2 L1 n)
theorem dr_eq {P : Program} {TT : Types} {all : List Oper} {pr : List (List Nat)} {K : Kn} {KP : AV → Kn} (fuel : Nat) (E S FL : List Nat) (s : List AV) (L : Heap) (n : Nat) :
  dr P TT all pr K KP fuel E S FL s L n = evGo P TT all pr S L (List.range all.length) E s n (drB P TT all pr K KP fuel S FL L) := by
 cases fuel <;> (unfold dr; rfl)
section
variable {P : Program} {TT : Types} {B : Base} {listed : Array Bool} {E S FL : List Nat} {s : List AV} {L : Heap} {n : Nat} {G : Ghost} {a : Act} {w : World} {ops : Array Oper}
theorem mem_ready' {j : Nat} (hsz : listed.size = ops.toList.length) : j ∈ Region.ready .any ops listed ↔ ∃ o, ops.toList[j]? = some o ∧ ¬ Lst listed j ∧ ∀ i ∈ edgesOf o, Lst listed i := by
 rw [mem_ready]
 have hg : ∀ {o : Oper}, ops.toList[j]? = some o → (listed.getD j true = listed.getD j false) := fun ho => by
  have : j < listed.size := by rw [hsz]; exact (List.getElem?_eq_some_iff.1 ho).1
  simp [this]
 constructor
 ·rintro ⟨h1, o, h2, h3⟩
  have ho : ops.toList[j]? = some o := by rw [Array.getElem?_toList]; exact h2
  refine ⟨o, ho, fun hl => ?_, fun i hi => ?_⟩
  ·unfold Lst at hl; rw [hg ho, hl] at h1; cases h1
  ·unfold edgesOf at hi
   obtain ⟨e, he, hx⟩ := List.mem_filterMap.1 hi
   split at hx
   ·rename_i hb
    cases hx
    exact h3 e (by simpa using he) hb
   ·cases hx
 ·rintro ⟨o, ho, h1, h2⟩
  refine ⟨?_, o, by rw [← Array.getElem?_toList]; exact ho, fun e he hb => h2 e.on (List.mem_filterMap.2 ⟨e, by simpa using he, by rw [if_pos hb]⟩)⟩
  rw [hg ho]
  cases hx : listed.getD j false
  ·rfl
  ·exact absurd hx h1
theorem all_done (hk : OkD ops.toList) (hsz : listed.size = ops.toList.length) (h : Region.ready .any ops listed = []) : ∀ j (o : Oper), ops.toList[j]? = some o → Lst listed j := by
 intro j
 induction j using Nat.strongRecOn with
 | _ j ih =>
  intro o ho
  refine Classical.byContradiction fun hl => ?_
  have : j ∈ Region.ready .any ops listed := (mem_ready' hsz).2 ⟨o, ho, hl, fun i hi => by
   have hlt := hk.back j o ho i hi
   have hil : i < ops.toList.length := Nat.lt_trans hlt (List.getElem?_eq_some_iff.1 ho).1
   exact ih i hlt _ (List.getElem?_eq_getElem hil)⟩
  rw [h] at this; cases this
theorem rechk_spec {TT : Types} {all : List Oper} {pe E : List Nat} {k : Prop} : ∀ (js : List Nat), rechk TT all pe E s L js k → k ∧ ∀ j ∈ js, ∀ o t x, all[j]? = some o → o.op = .load t x → j ∈ E → j ∉ pe → guarded all s o (opt1 o.dst fun d => opt1 (TT t) fun ti => aload L ti (ev s x) = some (getA s d)) True
 | [], h => ⟨h, fun j hj => by cases hj⟩
 | j :: js, h => by
  unfold rechk at h
  split at h
  ·rename_i o hj
   split at h
   ·rename_i t x ho hb
    obtain ⟨h1, h2⟩ := h
    obtain ⟨k1, k2⟩ := rechk_spec js h2
    refine ⟨k1, fun i hi => ?_⟩
    rcases List.mem_cons.1 hi with rfl | hi
    ·intro o' t' x' ho' hop _ _
     rw [hj] at ho'; cases ho'
     rw [ho] at hop; cases hop
     exact h1
    ·exact k2 i hi
   ·rename_i hno
    obtain ⟨k1, k2⟩ := rechk_spec js h
    refine ⟨k1, fun i hi => ?_⟩
    rcases List.mem_cons.1 hi with rfl | hi
    ·intro o' t' x' ho' hop hE hpe
     rw [hj] at ho'; cases ho'
     refine absurd ?_ (hno t' x' hop)
     rw [Bool.and_eq_true, memB_iff, Bool.not_eq_true']
     refine ⟨hE, ?_⟩
     cases hm : memB i pe
     ·rfl
     ·exact absurd (memB_iff.1 hm) hpe
    ·exact k2 i hi
  ·rename_i hj
   obtain ⟨k1, k2⟩ := rechk_spec js h
   refine ⟨k1, fun i hi => ?_⟩
   rcases List.mem_cons.1 hi with rfl | hi
   ·intro o' t' x' ho'; rw [hj] at ho'; cases ho'
   ·exact k2 i hi
theorem left_fewer {i : Nat} {o : Oper} {g : Nat} (hi : ops.toList[i]? = some o) (hsz : listed.size = ops.toList.length) (hl : ¬ Lst listed i) (hg : ((List.range ops.toList.length).filter fun j => !(listed.getD j false)).length ≤ g + 1) :
  ((List.range ops.toList.length).filter fun j => !((listed.setIfInBounds i true).getD j false)).length ≤ g := by
 have hs : i < listed.size := by rw [hsz]; exact (List.getElem?_eq_some_iff.1 hi).1
 have h1 := one_perm (p := fun j => !((listed.setIfInBounds i true).getD j false)) (List.nodup_range (n := ops.toList.length)) (range_mem hi) (by simp only [lst_set_b hs]; simp)
 have h2 : (List.range ops.toList.length).filter (fun x => !((listed.setIfInBounds i true).getD x false) || x == i) = (List.range ops.toList.length).filter fun j => !(listed.getD j false) := List.filter_congr fun x _ => by
  simp only [lst_set_b hs]
  have hl' : listed.getD i false = false := by
   cases h : listed.getD i false
   ·rfl
   ·exact absurd h hl
  by_cases hx : x = i
  ·subst hx; simp only [hl']; simp
  ·have : (x == i) = false := by simpa using hx
   simp only [this]; cases listed.getD x false <;> rfl
 rw [h2] at h1
 have := h1.length_eq
 simp only [List.length_cons] at this
 omega
theorem allocObj_inv {o : Oper} {r : Nat × Res} (h : allocObj TT s o = some r) : ∃ t d ti z, o.op = .alloc t ∧ o.dst = some d ∧ TT t = some ti ∧ getA s d = .ptr r.1 0 ∧ ti.zero = some z ∧ r.2 = .box (zcells z) := by
 unfold allocObj at h
 split at h
 ·rename_i t d ho hd
  split at h
  ·rename_i ti id hti hg
   split at h
   ·rename_i z hz
    cases h
    exact ⟨t, d, ti, z, ho, hd, hti, hg, hz, rfl⟩
   ·cases h
  ·cases h
 ·cases h
theorem isE_noAl {o : Oper} (h : isE o = true) : isAl o = false := by
 cases ha : isAl o
 ·rfl
 ·rw [alloc_noE ha] at h; cases h
theorem DI.effect {all : List Oper} (hT : TOk P TT) (hk : OkD all) (h : DI P TT B all listed E S FL s L n G a w) {i : Nat} {o : Oper} (hi : all[i]? = some o) (he : isE o = true) (hnl : ¬ Lst listed i) (hedge : ∀ j ∈ edgesOf o, Lst listed j) {x : AV} {v : Value} {L2 : Heap} {n2 : Nat} {G' : Ghost} {w' : World}
  (hn : n ≤ n2) (hr : Rel B (Undone all listed) G' ⟨s, L2 ++ pendL TT all s FL (fun j => listed.getD j false), n2⟩ a w') (hx : Slot G' x v) (hlive : ∀ id, G'.live id → G.live id ∨ n ≤ id)
  (hload : ∀ j ∈ E, ∀ oj t y, all[j]? = some oj → oj.op = .load t y → ¬ Lst listed j → j ∉ (pres all).getD i [] → guarded all (putS s o.dst x) oj (opt1 oj.dst fun d => opt1 (TT t) fun ti => aload L2 ti (ev (putS s o.dst x) y) = some (getA (putS s o.dst x) d)) True ∨ L2 = L) :
  DI P TT B all (listed.setIfInBounds i true) E (i :: S) FL (putS s o.dst x) L2 n2 G' (a.put o.dst v) w' := by
 have hsz : i < listed.size := by rw [h.size]; exact (List.getElem?_eq_some_iff.1 hi).1
 have hset : ∀ j, Lst (listed.setIfInBounds i true) j ↔ (Lst listed j ∨ j = i) := fun j => lst_set hsz
 have hiS : i ∉ S := fun hm => hnl ((h.eff i o hi he).2 hm)
 have hiE : i ∉ E := fun hm => by
  obtain ⟨o', h1, h2, _⟩ := h.Eav i hm
  rw [hi] at h1; cases h1; rw [he] at h2; cases h2
 have hlen : (putS s o.dst x).length = s.length := by cases o.dst <;> simp [putS, setA_eq]
 have hput : ∀ t, o.dst ≠ some t → getA (putS s o.dst x) t = getA s t := fun t ht => by
  cases hd : o.dst with
  | none => rfl
  | some d => simp only [putS]; rw [getA_setA, if_neg (by rintro ⟨rfl, _⟩; exact ht hd)]
 have hold : ∀ j ∈ E, ∀ oj, all[j]? = some oj → (¬ Lst listed j → ∀ t ∈ looks all oj, getA (putS s o.dst x) t = getA s t) ∧ ∀ e, oj.dst = some e → getA (putS s o.dst x) e = getA s e := fun j hj oj hoj => by
  have hij : i ≠ j := fun e => hiE (e ▸ hj)
  refine ⟨fun hlj t ht => hput t fun e => ?_, fun e hde => hput e fun ee => hk.dst i j o oj e hij hi hoj ee hde⟩
  refine not_looked hk hi hoj e hij (fun hm => ?_) (fun _ hm => hlj (h.preL hi hedge j hm)) ht
  rcases h.pre hj i hm with h1 | h1
  ·exact hiE h1
  ·exact hiS h1
 have hpend : pendL TT all (putS s o.dst x) FL (fun j => (listed.setIfInBounds i true).getD j false) = pendL TT all s FL (fun j => listed.getD j false) := by
  rw [pend_same hi (isE_noAl he) hsz]
  exact pendL_congr fun j oj hoj hal hl => allocObj_congr fun e hde => (hold j (h.Ein j oj hoj (alloc_noE hal) hl) oj hoj).2 e hde
 refine ⟨by simp [h.size], h.done hk hi hedge, fun j oj hj hje => ?_, fun j hj => ?_, fun j hj => ?_, fun j oj hj hje hl => ?_, ?_, fun j hj oj hoj hal hl => ?_, fun j hj oj hoj hal => ?_, fun j hj j' hj' hne oj oj' rj rj' h1 h2 h3 h4 h5 h6 => ?_⟩
 ·rw [hset, h.eff j oj hj hje, List.mem_cons]
  exact or_comm
 ·rcases List.mem_cons.1 hj with rfl | hj
  ·exact ⟨o, hi, he⟩
  ·exact h.Sin j hj
 ·obtain ⟨oj, h1, h2, h3⟩ := h.Eav j hj
  exact ⟨oj, h1, h2, availB_mono h3 (fun _ h => h) fun _ h => List.mem_cons_of_mem _ h⟩
 ·rcases (hset j).1 hl with hl | rfl
  ·exact h.Ein j oj hj hje hl
  ·rw [hi] at hj; cases hj; rw [he] at hje; cases hje
 ·rw [hpend]
  refine (hr.put o.dst hx).weakU fun t ⟨⟨j, oj, hj, hl, hd, hqq⟩, hne⟩ => ⟨j, oj, hj, fun hl' => ?_, hd, hqq⟩
  rcases (hset j).1 hl' with hl' | rfl
  ·exact hl hl'
  ·rw [hi] at hj; cases hj; exact hne hd
 ·have hl0 : ¬ Lst listed j := fun h0 => hl ((hset j).2 (.inl h0))
  obtain ⟨h1, h2⟩ := hold j hj oj hoj
  replace h1 := h1 hl0
  have hq := h.quiet j hj oj hoj hal hl0
  have hno : ∀ {d : Nat}, oj.dst = some d → d < (putS s o.dst x).length → (∀ e, oj.dst = some e → e < s.length → getA s e = .v (.tuple #[])) → getA (putS s o.dst x) d = .v (.tuple #[]) := fun hd hlt hh => by rw [h2 _ hd]; exact hh _ hd (by rw [← hlen]; exact hlt)
  cases hld : isLd oj with
  | false =>
   refine guarded_congr h1 (guarded_mono hq (fun ⟨av, k1, k2⟩ => ⟨av, (k1.indep hld).congr h1, fun e hde hlt => ?_⟩) fun k e hde hlt => hno hde hlt k)
   rw [h2 e hde]; exact k2 e hde (by rw [← hlen]; exact hlt)
  | true =>
   obtain ⟨t, y, hop⟩ : ∃ t y, oj.op = .load t y := by
    unfold isLd at hld; split at hld
    ·exact ⟨_, _, by assumption⟩
    ·cases hld
   rcases hload j hj oj t y hoj hop hl0 (fun hm => hl0 (h.preL hi hedge j hm)) with hld2 | rfl
   ·refine guarded_mono (guarded_and (guarded_congr h1 hq) hld2) (fun ⟨_, k⟩ => ?_) fun ⟨k, _⟩ e hde hlt => hno hde hlt k
    obtain ⟨d, hd, k⟩ := opt1_some k
    obtain ⟨ti, hti, k⟩ := opt1_some k
    obtain ⟨hti'⟩ := hT.get hti
    refine ⟨_, by unfold Known; rw [hld]; exact q_load hop hti' k, fun e hde _ => ?_⟩
    rw [hd] at hde; cases hde; rfl
   ·refine guarded_congr h1 (guarded_mono hq (fun ⟨av, k1, k2⟩ => ⟨av, k1.congr h1, fun e hde hlt => ?_⟩) fun k e hde hlt => hno hde hlt k)
    rw [h2 e hde]; exact k2 e hde (by rw [← hlen]; exact hlt)
 ·obtain ⟨r, k1, k2, k3, k4⟩ := h.alloc j hj oj hoj hal
  refine ⟨r, by rw [allocObj_congr (hold j hj oj hoj).2]; exact k1, Nat.lt_of_lt_of_le k2 hn, k3, fun hl hlv => ?_⟩
  rcases hlive _ hlv with h0 | h0
  ·exact k4 (fun h' => hl ((hset j).2 (.inl h'))) h0
  ·omega
 ·rw [allocObj_congr (hold j hj oj h1).2] at h5
  rw [allocObj_congr (hold j' hj' oj' h2).2] at h6
  exact h.inj j hj j' hj' hne oj oj' rj rj' h1 h2 h3 h4 h5 h6
theorem dr_sound (hT : TOk P TT) (hk : OkD ops.toList) {Kk : Kc} : ∀ (g : Nat) (listed : Array Bool) (E S FL : List Nat) (s : List AV) (L : Heap) (n : Nat) (G : Ghost) (a : Act) (w : World) (fuel : Nat),
  ((List.range ops.toList.length).filter fun j => !(listed.getD j false)).length ≤ g → DI P TT B ops.toList listed E S FL s L n G a w → (∀ j ∈ FL, Lst listed j) → drB P TT ops.toList (pres ops.toList) (Kk .normal) (fun x => Kk (.panic x)) fuel S FL L E s n →
  wpAny P .any ops (Post B Kk) g listed a w := by
 have fin : ∀ (listed : Array Bool) (E S FL : List Nat) (s : List AV) (L : Heap) (n : Nat) (G : Ghost) (a : Act) (w : World) (fuel : Nat), DI P TT B ops.toList listed E S FL s L n G a w → drB P TT ops.toList (pres ops.toList) (Kk .normal) (fun x => Kk (.panic x)) fuel S FL L E s n →
   Region.ready .any ops listed = [] → Post B Kk .normal a w := by
  intro listed E S FL s L n G a w fuel h hb hr
  have hall := all_done hk h.size hr
  unfold drB at hb
  split at hb
  ·exact hb.elim
  ·split at hb
   ·obtain ⟨L', h1, h2⟩ := flush_spec _ _ hb
    rw [forceH_eq] at h2
    refine ⟨.normal, s, L', n, G, h2, trivial, ?_⟩
    have e1 : pendL TT ops.toList s FL (fun j => listed.getD j false) = (allocsOf ops.toList FL fun _ => true).filterMap (objAt TT ops.toList s) := by
     unfold pendL allocsOf
     congr 1
     refine List.filter_congr fun x hx => ?_
     cases ho : ops.toList[x]? with
     | none => rfl
     | some o =>
      have : listed.getD x false = true := hall x o ho
      simp only [this]
    have hp : L'.Perm (L ++ pendL TT ops.toList s FL (fun j => listed.getD j false)) := by rw [e1]; exact h1.trans List.perm_append_comm
    have hr := h.rel
    exact ⟨hr.size, fun t _ => hr.slots t fun ⟨j, o, hj, hl, _⟩ => hl (hall j o hj), hr.defers, hr.holds.perm hp.symm, hr.step.perm (.refl _) hp.symm, hr.next, hr.base, hr.low, hr.old⟩
   ·rename_i e es hes
    have : e ∈ effsOf ops.toList S (fun _ => true) := by rw [hes]; exact List.mem_cons_self
    unfold effsOf at this
    have h2 := (List.mem_filter.1 this).2
    split at h2
    ·rename_i o ho
     simp only [Bool.and_eq_true, Bool.not_eq_true', Bool.and_true] at h2
     have := (h.eff e o ho h2.1).1 (hall e o ho)
     rw [memB_iff.2 this] at h2; cases h2.2
    ·cases h2
 intro g
 induction g with
 | zero =>
  intro listed E S FL s L n G a w fuel hg h hFL hb
  have hr : Region.ready .any ops listed = [] := by
   cases hrd : Region.ready .any ops listed with
   | nil => rfl
   | cons i is =>
    obtain ⟨o, ho, hl, _⟩ := (mem_ready' h.size).1 (by rw [hrd]; exact List.mem_cons_self : i ∈ Region.ready .any ops listed)
    have : i ∈ (List.range ops.toList.length).filter fun j => !(listed.getD j false) := List.mem_filter.2 ⟨range_mem ho, by
     cases hx : listed.getD i false
     ·rfl
     ·exact absurd hx hl⟩
    rw [List.length_eq_zero_iff.1 (Nat.le_zero.1 hg)] at this
    cases this
  exact ⟨hr, fin _ _ _ _ _ _ _ _ _ _ _ h hb hr⟩
 | succ g ih =>
  intro listed E S FL s L n G a w fuel hg h hFL hb
  refine ⟨fin _ _ _ _ _ _ _ _ _ _ _ h hb, fun i hi => ?_⟩
  obtain ⟨o, ho, hnl, hedge⟩ := (mem_ready' h.size).1 hi
  have hopi : ops[i]? = some o := by rw [← Array.getElem?_toList]; exact ho
  have hsz : i < listed.size := by rw [h.size]; exact (List.getElem?_eq_some_iff.1 ho).1
  have hpre := h.preL ho hedge
  have hfew := left_fewer ho h.size hnl hg
  have hclosed' := h.done hk ho hedge
  have hset : ∀ j, Lst (listed.setIfInBounds i true) j ↔ (Lst listed j ∨ j = i) := fun j => lst_set hsz
  have hlook : ∀ t ∈ looks ops.toList o, ∀ (j : Nat) (oj : Oper), j ≠ i → ops.toList[j]? = some oj → ¬ Lst listed j → isE oj = false → oj.dst ≠ some t := fun t ht j oj hne hj hl hqq hd => (hk.looks j i oj o t hne hj ho hd ht).elim (fun h1 => hl (hpre j h1)) fun h1 => by rw [hqq] at h1; cases h1.1
  have hsat : satB ops.toList (pres ops.toList) E S = true := by
   unfold drB at hb
   split at hb
   ·exact hb.elim
   ·assumption
  have havail : availB (pres ops.toList) E S i = true := by
   unfold availB
   refine List.all_eq_true.2 fun j hj => ?_
   rw [Bool.or_eq_true, memB_iff, memB_iff]
   have hl := hpre j hj
   have hjlt : j < ops.toList.length := by
    rw [← h.size]
    unfold Lst at hl
    rw [Array.getD_eq_getD_getElem?] at hl
    cases hx : listed[j]? with
    | none => rw [hx] at hl; cases hl
    | some b => exact (Array.getElem?_eq_some_iff.1 hx).1
   have hoj := List.getElem?_eq_getElem hjlt
   cases he : isE ops.toList[j] with
   | true => exact .inr ((h.eff j _ hoj he).1 hl)
   | false => exact .inl (h.Ein j _ hoj he hl)
  have hiE : isE o = false → i ∈ E := fun he => by
   unfold satB at hsat
   have h1 := List.all_eq_true.1 hsat i (range_mem ho)
   rw [ho] at h1
   simp only [he, havail, Bool.not_true, Bool.or_false, Bool.false_or] at h1
   exact memB_iff.1 h1
  have hU : ∀ t ∈ looks ops.toList o, ¬ Undone ops.toList listed t := fun t ht ⟨j, oj, hj, hl, hd, hqq⟩ => by
   by_cases hji : j = i
   ·subst hji; rw [ho] at hj; cases hj; exact hk.own2 j o t ho hd ht
   ·exact hlook t ht j oj hji hj hl hqq hd
  have hUo : ∀ t, .tmp t ∈ o.op.operands → ¬ Undone ops.toList listed t := fun t ht => hU t (ops_looks ht)
  have hUg : ∀ j b d, o.guard = some (j, b) → (ops[j]?).bind (·.dst) = some d → ¬ Undone ops.toList listed d := fun j b d hg hd => hU d (by
   unfold looks; rw [hg]
   simp only [Array.getElem?_toList, hd, Option.toList_some]
   exact List.mem_append_right _ (List.mem_singleton.2 rfl))
  unfold wpOp
  rw [hopi]
  simp only
  cases he : isE o with
  | false =>
   have hmE := hiE he
   obtain ⟨d, hd, hown⟩ := hk.own i o ho he
   have hFLi : i ∉ FL := fun hm => hnl (hFL i hm)
   have hFL' : ∀ j ∈ FL, Lst (listed.setIfInBounds i true) j := fun j hj => (hset j).2 (.inl (hFL j hj))
   have hweak : ∀ t, (Undone ops.toList listed t ∧ d ≠ t) → Undone ops.toList (listed.setIfInBounds i true) t := fun t ⟨⟨j, oj, hj, hl, hdj, hqq⟩, hne⟩ => ⟨j, oj, hj, fun hl' => by
    rcases (hset j).1 hl' with hl' | rfl
    ·exact hl hl'
    ·rw [ho] at hj; cases hj; rw [hd] at hdj; cases hdj; exact hne rfl, hdj, hqq⟩
   have hmk : ∀ (G' : Ghost) (a' : Act) (w' : World), Rel B (Undone ops.toList (listed.setIfInBounds i true)) G' ⟨s, L ++ pendL TT ops.toList s FL (fun j => (listed.setIfInBounds i true).getD j false), n⟩ a' w' → (∀ j ∈ E, ∀ oj, ops.toList[j]? = some oj → isAl oj = true → ¬ Lst (listed.setIfInBounds i true) j → ∀ r, allocObj TT s oj = some r → ¬ G'.live r.1) →
     DI P TT B ops.toList (listed.setIfInBounds i true) E S FL s L n G' a' w' := fun G' a' w' hrel hal =>
    ⟨by simp [h.size], hclosed', fun j oj hj hje => by
      rw [hset, h.eff j oj hj hje]
      exact ⟨fun hh => hh.resolve_right (fun e => by subst e; rw [ho] at hj; cases hj; rw [he] at hje; cases hje), .inl⟩,
     h.Sin, h.Eav, fun j oj hj hje hl => by
      rcases (hset j).1 hl with hl | rfl
      ·exact h.Ein j oj hj hje hl
      ·exact hmE, hrel, fun j hj oj hoj hna hl => h.quiet j hj oj hoj hna fun h0 => hl ((hset j).2 (.inl h0)),
     fun j hj oj hoj hna => by
      obtain ⟨r, k1, k2, k3, _⟩ := h.alloc j hj oj hoj hna
      exact ⟨r, k1, k2, k3, fun hl => hal j hj oj hoj hna hl r k1⟩, h.inj⟩
   cases hal : isAl o with
   | false =>
    have hpd := pend_same (TT := TT) (s := s) (FL := FL) ho hal hsz
    rcases guarded_sound h.rel hUg (h.quiet i hmE o ho hal hnl) with ⟨hw, av, kn, hav⟩ | ⟨hw, hun⟩
    ·rw [if_pos hw]
     left
     have hh := h.rel.here (P := P) hUo
     obtain ⟨v, G', w', r1, r2, r3⟩ := kn.ok G w a.eval ⟨hh.ev, hh.raw, hh.holds.left, hh.base⟩
     unfold Oper.wp
     rw [r1, Oper.upon_value]
     have hr' : Rel B (Undone ops.toList listed) G' ⟨s, L ++ pendL TT ops.toList s FL (fun j => listed.getD j false), n⟩ a w' :=
      h.rel.stepped (r3.holds h.rel.holds) (r3.step _) (Nat.le_refl _) fun id hid => by rw [r3.live] at hid; exact ⟨h.rel.next id hid, .inl hid⟩
     rw [hd]
     refine ih _ E S FL s L n G' _ w' fuel hfew (hmk G' _ w' ?_ fun j hj oj hoj hna hl r hr hlv => ?_) hFL' hb
     ·rw [hpd]
      exact (hr'.fill fun hlt => by rw [hav d hd hlt]; exact r2).weakU hweak
     ·rw [r3.live] at hlv
      obtain ⟨r', k1, _, _, k4⟩ := h.alloc j hj oj hoj hna
      rw [k1] at hr; cases hr
      exact k4 (fun h0 => hl ((hset j).2 (.inl h0))) hlv
    ·rw [if_neg (by simp [hw]), hd]
     refine ih _ E S FL s L n G _ w fuel hfew (hmk G _ w ?_ fun j hj oj hoj hna hl r hr hlv => ?_) hFL' hb
     ·rw [hpd]
      exact (h.rel.fill fun hlt => by rw [hun d hd hlt]; exact .of (.data _ _ (.v undef))).weakU hweak
     ·obtain ⟨r', k1, _, _, k4⟩ := h.alloc j hj oj hoj hna
      rw [k1] at hr; cases hr
      exact k4 (fun h0 => hl ((hset j).2 (.inl h0))) hlv
   | true =>
    obtain ⟨hg, _⟩ := hk.alloc i o ho hal
    obtain ⟨r, hr, hrn, hrk, hrl⟩ := h.alloc i hmE o ho hal
    obtain ⟨t, d', ti, z, hop, hd', hti, hgd, hz, hr2⟩ := allocObj_inv hr
    rw [hd] at hd'; cases hd'
    obtain ⟨hti'⟩ := hT.get hti
    rw [if_pos (by simp [Region.wanted, hg])]
    left
    have hh := h.rel.here (P := P) hUo
    obtain ⟨v, G', w', r1, r2, r3, r4, r5⟩ := e_alloc (id := r.1) hop hti' hz G w a.eval hh (fun id hid => by subst hid; exact hrl hnl)
    have hre : (r.1, Res.box (zcells z)) = r := by rw [← hr2]
    rw [hre] at r3 r4
    have hpm := pend_more (TT := TT) (s := s) (FL := FL) ho hal hsz hnl hFLi hr
    have hperm : (r :: (L ++ pendL TT ops.toList s FL (fun j => listed.getD j false))).Perm (L ++ pendL TT ops.toList s FL (fun j => (listed.setIfInBounds i true).getD j false)) :=
     (List.perm_middle (a := r) (l₁ := L)).symm.trans ((hpm.symm).append_left L)
    have hr' : Rel B (Undone ops.toList listed) G' ⟨s, L ++ pendL TT ops.toList s FL (fun j => (listed.setIfInBounds i true).getD j false), n⟩ a w' :=
     ⟨h.rel.size, fun t ht => (h.rel.slots t ht).mono r4.lits fun _ _ => r4.sim, h.rel.defers, r3.perm hperm, h.rel.step.trans (r4.perm (.refl _) hperm), fun id hid => by
      rcases r5 id hid with h0 | h0
      ·exact h.rel.next id h0
      ·subst h0; exact hrn, by rw [r4.base]; exact Nat.le_trans h.rel.base r4.size, h.rel.low, fun id hid => by
      rcases r5 id hid with h0 | h0
      ·exact h.rel.old id h0
      ·subst h0; exact .inr hrk⟩
    have key : wpAny P .any ops (Post B Kk) g (listed.setIfInBounds i true) (a.put o.dst v) w' := by
     rw [hd]
     refine ih _ E S FL s L n G' _ w' fuel hfew (hmk G' _ w' ((hr'.fill fun _ => by
      show Slot G' (getA s d) v
      rw [hgd]; exact .of r2).weakU hweak) fun j hj oj hoj hna hl rj hrj hlv => ?_) hFL' hb
     obtain ⟨r', k1, _, _, k4⟩ := h.alloc j hj oj hoj hna
     rw [k1] at hrj; cases hrj
     rcases r5 _ hlv with h0 | h0
     ·exact k4 (fun h0 => hl ((hset j).2 (.inl h0))) h0
     ·exact h.inj j hj i hmE (fun e => hl ((hset j).2 (.inr e))) oj o _ r hoj ho hna hal k1 hr h0
    unfold Oper.wp
    rcases r1 with r1 | ⟨r1, rfl⟩
    ·rw [r1, Oper.upon_value]; exact key
    ·rw [r1, Oper.upon_skip]; exact key
  | true =>
   have hiS : i ∉ S := fun hm => hnl ((h.eff i o ho he).2 hm)
   have hSb : memB i S = false := by
    cases hm : memB i S
    ·rfl
    ·exact absurd (memB_iff.1 hm) hiS
   have hmem : i ∈ effsOf ops.toList S (fun _ => true) := List.mem_filter.2 ⟨range_mem ho, by rw [ho]; simp only [he, hSb]; rfl⟩
   have hmem2 : i ∈ effsOf ops.toList S (availB (pres ops.toList) E S) := List.mem_filter.2 ⟨range_mem ho, by rw [ho]; simp only [he, hSb, havail]; rfl⟩
   unfold drB at hb
   rw [hsat] at hb
   simp only at hb
   split at hb
   ·rename_i h0; rw [h0] at hmem; cases hmem
   ·cases fuel with
    | zero => exact hb.elim
    | succ fuel =>
     simp only at hb
     have hb1 := allK_mem hb i hmem2
     simp only [ho] at hb1
     obtain ⟨L1, hL1, hb2⟩ := flush_spec _ _ hb1
     have hpart := pend_part (TT := TT) (all := ops.toList) (s := s) (FL := FL) (lf := fun j => listed.getD j false) (f := fun j => memB j ((pres ops.toList).getD i [])) fun j hj => hpre j (memB_iff.1 hj)
     generalize hA : allocsOf ops.toList FL (fun j => memB j ((pres ops.toList).getD i [])) = A at hL1 hb2 hpart
     have hFL1 : ∀ j ∈ A ++ FL, Lst listed j := fun j hj => by
      rcases List.mem_append.1 hj with hj | hj
      ·rw [← hA] at hj
       have h1 := (List.mem_filter.1 hj).2
       split at h1
       ·simp only [Bool.and_eq_true] at h1
        exact hpre j (memB_iff.1 h1.2.2)
       ·cases h1
      ·exact hFL j hj
     have hFL1' : ∀ j ∈ A ++ FL, Lst (listed.setIfInBounds i true) j := fun j hj => (hset j).2 (.inl (hFL1 j hj))
     have hperm : (L ++ pendL TT ops.toList s FL (fun j => listed.getD j false)).Perm (L1 ++ pendL TT ops.toList s (A ++ FL) (fun j => listed.getD j false)) := by
      refine (hpart.append_left L).trans ?_
      rw [← List.append_assoc]
      exact (List.perm_append_comm.trans hL1.symm).append_right _
     have hr := h.rel
     have hrel1 : Rel B (Undone ops.toList listed) G ⟨s, L1 ++ pendL TT ops.toList s (A ++ FL) (fun j => listed.getD j false), n⟩ a w :=
      ⟨hr.size, hr.slots, hr.defers, hr.holds.perm hperm, hr.step.perm (.refl _) hperm, hr.next, hr.base, hr.low, hr.old⟩
     have hsub : L1.Perm (L ++ A.filterMap (objAt TT ops.toList s)) := hL1.trans List.perm_append_comm
     have h1 : DI P TT B ops.toList listed E S (A ++ FL) s L1 n G a w := ⟨h.size, h.closed, h.eff, h.Sin, h.Eav, h.Ein, hrel1,
      fun j hj oj hoj hna hl => guarded_mono (h.quiet j hj oj hoj hna hl) (fun ⟨av, q1, q2⟩ => ⟨av, q1.sub hsub, q2⟩) (fun q => q), h.alloc, h.inj⟩
     rcases guarded_sound hrel1 hUg hb2 with ⟨hw, hop⟩ | ⟨hw, hskip⟩
     ·rw [if_pos hw]
      left
      have hB : Rel ⟨G, w, L1, n, B.D⟩ (Undone ops.toList listed) G ⟨s, L1, n⟩ a w := ⟨hr.size, hr.slots, hr.defers, hrel1.holds.left, Step.refl _ _ _, hr.next, hr.base, Nat.le_refl _, fun id hid => .inl hid⟩
      have conv : ∀ (G' : Ghost) (w' : World) (L2 : Heap) (n2 : Nat), n ≤ n2 → Rel ⟨G, w, L1, n, B.D⟩ (Undone ops.toList listed) G' ⟨s, L2, n2⟩ a w' → Rel B (Undone ops.toList listed) G' ⟨s, L2 ++ pendL TT ops.toList s (A ++ FL) (fun j => listed.getD j false), n2⟩ a w' := fun G' w' L2 n2 k3 k4 => by
       obtain ⟨m1, m2⟩ := hrel1.holds.beside k4.holds k4.step
       exact ⟨k4.size, k4.slots, k4.defers, m1, hrel1.step.trans m2, k4.next, k4.base, Nat.le_trans hr.low k3, fun id hid => (k4.old id hid).elim (hr.old id) fun h => .inr (Nat.le_trans hr.low h)⟩
      refine aop_sound hT hB hUo hop ⟨fun av L2 n2 v G' w' k1 k2 k3 k4 => ?_, fun x L2 n2 v G' w' k1 k2 k3 k4 => ?_⟩
      ·simp only [putD_eq, forceH_eq] at k1
       obtain ⟨kd, kr⟩ := rechk_spec _ k1
       rw [dr_eq] at kd
       have hD := DI.effect hT hk h1 ho he hnl hedge k3 (conv G' w' L2 n2 k3 k4) k2 (fun id hid => k4.old id hid) fun j hj oj t y hoj hop hl hpe => .inl (kr j (range_mem hoj) oj t y hoj hop hj hpe)
       exact evGo_sound hT hk _ _ _ _ kd hD fun E' s' n' hb' hi' => ih _ E' (i :: S) (A ++ FL) s' L2 n' G' _ w' fuel hfew hi' hFL1' hb'
      ·have hc := conv G' w' L2 n2 k3 k4
       refine ⟨.panic x, killA ops.toList s, L2, n2, G', k1, ⟨v, rfl, k2⟩, ?_⟩
       refine ⟨by rw [hc.size]; exact (killA_len _ _).symm, fun t _ => ?_, hc.defers, hc.holds.left, hc.step.sub (.refl _), hc.next, hc.base, hc.low, hc.old⟩
       show Slot G' (getA (killA ops.toList s) t) _
       rcases killA_get ops.toList s t with q | ⟨q1, q2⟩
       ·have : getA (killA ops.toList s) t = .dead := q
        rw [this]; exact .of (.data _ _ (.dead _))
       ·have : getA (killA ops.toList s) t = getA s t := q1
        rw [this]
        exact hc.slots t fun ⟨j, oj, hj, _, hd⟩ => q2 oj (List.mem_of_getElem? hj) hd.1
     ·rw [if_neg (by simp [hw])]
      rw [putD_eq, dr_eq] at hskip
      have hD := DI.effect hT hk h1 ho he hnl hedge (x := .v (.tuple #[])) (v := undef) (Nat.le_refl n) hrel1 (.of (.data _ _ (.v undef))) (fun id hid => .inl hid) fun j hj oj t y hoj hop hl hpe => .inr rfl
      exact evGo_sound hT hk _ _ _ _ hskip hD fun E' s' n' hb' hi' => ih _ E' (i :: S) (A ++ FL) s' L1 n' G _ w fuel hfew hi' hFL1' hb'
theorem draw_ok (hT : TOk P TT) (hm : P.follows .mixedOrders = true) : DOk P (draw P TT) := by
 intro B id ops s L n K G a w h hr
 unfold draw at h
 split at h
 ·rename_i hok
  have hk := okD_spec hok
  rw [dr_eq] at h
  refine wp_region_any hm ?_
  have hlst : ∀ j, ¬ Lst (Array.replicate ops.size false) j := fun j hl => by
   unfold Lst at hl
   rw [Array.getD_eq_getD_getElem?, Array.getElem?_replicate] at hl
   split at hl <;> cases hl
  have hp : pendL TT ops.toList s [] (fun j => (Array.replicate ops.size false).getD j false) = [] := by
   unfold pendL allocsOf
   rw [List.filter_eq_nil_iff.2]
   ·rfl
   ·intro j _
    have : (Array.replicate ops.size false).getD j false = false := by
     cases hx : (Array.replicate ops.size false).getD j false
     ·rfl
     ·exact absurd hx (hlst j)
    simp only [this]
    split <;> simp
  have hi : DI P TT B ops.toList (Array.replicate ops.size false) [] [] [] s L n G a { w with drawn := w.drawn + 1 } := by
   refine ⟨by simp, fun j o _ hl => absurd hl (hlst j), fun j o _ _ => ⟨fun hl => absurd hl (hlst j), (fun h => by cases h)⟩, (fun j h => by cases h), (fun j h => by cases h), fun j o _ _ hl => absurd hl (hlst j), ?_, (fun j h => by cases h), (fun j h => by cases h), (fun j h => by cases h)⟩
   rw [hp, List.append_nil]
   exact ⟨hr.size, fun t _ => hr.slots t fun h => h, hr.defers, ⟨hr.holds.X, hr.holds.res, hr.holds.ids, hr.holds.live, hr.holds.blocks, hr.holds.lits⟩,
    ⟨hr.step.os, hr.step.tape, hr.step.output, hr.step.size, hr.step.base, hr.step.X, hr.step.frame, hr.step.newX, hr.step.newB, hr.step.live, hr.step.newI, hr.step.lits, hr.step.newL⟩, hr.next, hr.base, hr.low, hr.old⟩
  refine evGo_sound hT hk _ _ _ _ h hi fun E' s' n' hb hi' => ?_
  refine dr_sound hT hk ops.size _ E' [] [] s' L n' G a _ _ ?_ hi' (fun j h => by cases h) hb
  refine Nat.le_trans (List.length_filter_le _ _) ?_
  simp
 ·exact h.elim
end
end Go.Am
namespace Go.Am
open Go.RowKit
def inM (m i : Nat) : Bool := Nat.beq (Nat.mod (Nat.shiftRight m i) 2) 1
def addM (m i : Nat) : Nat := Nat.lor m (Nat.shiftLeft 1 i)
def avM (pm E S : Nat) : Bool := Nat.beq (Nat.land pm (Nat.lor E S)) pm
theorem inM_eq (m i : Nat) : inM m i = m.testBit i := by
 unfold inM
 rw [Nat.testBit_eq_decide_div_mod_eq]
 rw [show Nat.shiftRight m i = m / 2 ^ i from Nat.shiftRight_eq_div_pow m i]
 by_cases h : m / 2 ^ i % 2 = 1
 ·rw [decide_eq_true h]
  rw [Nat.beq_eq]; exact h
 ·rw [decide_eq_false h]
  exact Bool.eq_false_iff.2 fun h2 => h (Nat.eq_of_beq_eq_true h2)
theorem addM_in (m j i : Nat) : inM (addM m j) i = (inM m i || Nat.beq i j) := by
 rw [inM_eq, inM_eq]
 unfold addM
 rw [show Nat.lor m (Nat.shiftLeft 1 j) = m ||| 1 <<< j from rfl, Nat.testBit_or, Nat.one_shiftLeft, Nat.testBit_two_pow]
 congr 1
 by_cases h : j = i
 ·subst h; simp
 ·rw [decide_eq_false h]
  exact (Bool.eq_false_iff.2 fun h2 => h (Nat.eq_of_beq_eq_true h2).symm).symm
def Rep (l : List Nat) (m : Nat) : Prop := ∀ i, memB i l = inM m i
theorem Rep.nil : Rep [] 0 := fun i => by rw [inM_eq]; simp [memB]
theorem Rep.cons {l : List Nat} {m j : Nat} (h : Rep l m) : Rep (j :: l) (addM m j) := fun i => by
 rw [addM_in, ← h i, Bool.or_comm]; rfl
def addL : List Nat → Nat → Nat
 | [], m => m
 | j :: l, m => addM (addL l m) j
theorem Rep.append {l : List Nat} {m : Nat} (h : Rep l m) : ∀ a : List Nat, Rep (a ++ l) (addL a m)
 | [] => h
 | j :: a => (Rep.append h a).cons
theorem land_all (p q : Nat) : Nat.beq (Nat.land p q) p = true ↔ ∀ i, p.testBit i = true → q.testBit i = true := by
 constructor
 ·intro h i hi
  have h1 : p &&& q = p := Nat.eq_of_beq_eq_true h
  have h2 : (p &&& q).testBit i = true := by rw [h1]; exact hi
  rw [Nat.testBit_and, Bool.and_eq_true] at h2
  exact h2.2
 ·intro h
  have h1 : p &&& q = p := Nat.eq_of_testBit_eq fun i => by
   rw [Nat.testBit_and]
   cases hp : p.testBit i with
   | false => rfl
   | true => rw [h i hp]; rfl
  rw [Nat.beq_eq]; exact h1
def RepP (pr : List (List Nat)) (pm : List Nat) : Prop := ∀ j, Rep (pr.getD j []) (pm.getD j 0)
theorem avail_eq {pr : List (List Nat)} {pm E S : List Nat} {em sm : Nat} (hp : RepP pr pm) (hE : Rep E em) (hS : Rep S sm) (j : Nat) : availB pr E S j = avM (pm.getD j 0) em sm := by
 unfold availB avM
 refine Bool.eq_iff_iff.2 ?_
 rw [land_all, List.all_eq_true]
 have h0 : ∀ i, i ∈ pr.getD j [] ↔ (pm.getD j 0).testBit i = true := fun i => by rw [← memB_iff, hp j i, inM_eq]
 have h1 : ∀ i, (memB i E || memB i S) = (Nat.lor em sm).testBit i := fun i => by
  rw [hE i, hS i, inM_eq, inM_eq]
  exact (Nat.testBit_or em sm i).symm
 constructor
 ·intro h i hi
  rw [← h1]; exact h i ((h0 i).2 hi)
 ·intro h i hi
  rw [h1]; exact h i ((h0 i).1 hi)
def orL : List Nat → List Nat → Nat → Nat
 | [], _, m => m
 | i :: l, acc, m => orL l acc (Nat.lor (addM m i) (acc.getD i 0))
def presM : List Nat → List Oper → List Nat
 | acc, [] => acc
 | acc, o :: r => presM (acc ++ [orL (edgesOf o) acc 0]) r
theorem addN_memB (l : List Nat) : ∀ (a : List Nat) (i : Nat), memB i (addN l a) = (memB i l || memB i a) := by
 induction l with
 | nil => intro a i; rfl
 | cons j l ih =>
  intro a i
  unfold addN
  split
  ·rename_i h
   rw [ih]
   show _ = ((Nat.beq i j || memB i l) || memB i a)
   by_cases e : i = j
   ·subst e; rw [h]; simp
   ·have : Nat.beq i j = false := Bool.eq_false_iff.2 fun h2 => e (Nat.eq_of_beq_eq_true h2)
    rw [this]; simp
  ·rw [ih]
   show (memB i l || (Nat.beq i j || memB i a)) = ((Nat.beq i j || memB i l) || memB i a)
   cases Nat.beq i j <;> cases memB i l <;> simp
theorem memB_append (i : Nat) : ∀ (a b : List Nat), memB i (a ++ b) = (memB i a || memB i b)
 | [], b => rfl
 | x :: a, b => by show (Nat.beq i x || memB i (a ++ b)) = _; rw [memB_append i a b, ← Bool.or_assoc]; rfl
theorem orL_in {acc : List (List Nat)} {am : List Nat} (h : RepP acc am) (i : Nat) : ∀ (l : List Nat) (m : Nat), inM (orL l am m) i = (inM m i || (memB i l || memB i (l.flatMap fun j => acc.getD j [])))
 | [], m => by simp [orL, memB]
 | j :: l, m => by
  unfold orL
  rw [orL_in h i l, List.flatMap_cons, memB_append]
  have e : inM (Nat.lor (addM m j) (am.getD j 0)) i = ((inM m i || Nat.beq i j) || memB i (acc.getD j [])) := by
   rw [inM_eq, show Nat.lor (addM m j) (am.getD j 0) = addM m j ||| am.getD j 0 from rfl, Nat.testBit_or, ← inM_eq, ← inM_eq, addM_in, h j i]
  rw [e]
  show _ = (inM m i || ((Nat.beq i j || memB i l) || _))
  cases inM m i <;> cases Nat.beq i j <;> cases memB i l <;> cases memB i (acc.getD j []) <;> simp
theorem presM_rep : ∀ (r : List Oper) (acc : List (List Nat)) (am : List Nat), acc.length = am.length → RepP acc am → RepP (presGo acc r) (presM am r)
 | [], acc, am, _, h => h
 | o :: r, acc, am, hl, h => by
  unfold presGo presM
  refine presM_rep r _ _ (by simp [hl]) fun j => ?_
  rw [List.getD_eq_getElem?_getD, List.getD_eq_getElem?_getD]
  rcases Nat.lt_trichotomy j acc.length with hj | hj | hj
  ·rw [List.getElem?_append_left hj, List.getElem?_append_left (by omega), ← List.getD_eq_getElem?_getD, ← List.getD_eq_getElem?_getD]
   exact h j
  ·subst hj
   rw [List.getElem?_append_right (Nat.le_refl _), List.getElem?_append_right (by omega)]
   simp only [Nat.sub_self, hl, List.getElem?_cons_zero, Option.getD_some]
   intro i
   rw [addN_memB, memB_append, orL_in h]
   have z : inM 0 i = false := by rw [inM_eq]; simp
   rw [z]
   simp [memB]
  ·rw [List.getElem?_append_right (by omega), List.getElem?_append_right (by omega)]
   have e1 : ([addN (edgesOf o ++ (edgesOf o).flatMap fun i => acc.getD i []) []] : List (List Nat))[j - acc.length]? = none := List.getElem?_eq_none (by simp; omega)
   have e2 : ([orL (edgesOf o) am 0] : List Nat)[j - am.length]? = none := List.getElem?_eq_none (by simp; omega)
   rw [e1, e2]
   exact Rep.nil
theorem pres_rep (all : List Oper) : RepP (pres all) (presM [] all) := presM_rep all [] [] rfl fun j => by simp [Rep, memB, inM_eq]
/-! the walk by masks -/
def evGoM (P : Program) (TT : Types) (all : List Oper) (pr : List Nat) (S : Nat) (L : Heap) : List Nat → Nat → List AV → Nat → (Nat → List AV → Nat → Prop) → Prop
 | [], E, s, n, k => k E s n
 | j :: js, E, s, n, k => match all[j]? with
  | none => evGoM P TT all pr S L js E s n k
  | some o => match isE o || (inM E j || !(avM (pr.getD j 0) E S)) with
   | true => evGoM P TT all pr S L js E s n k
   | false => match isAl o with
    | true => putD s o.dst (.ptr n 0) fun s' => match isNoneB (allocObj TT s' o) with | true => False | false => evGoM P TT all pr S L js (addM E j) s' (n + 1) k
    | false => guarded all s o (aqx P TT L s o fun av => fv av fun av => putD s o.dst av fun s' => evGoM P TT all pr S L js (addM E j) s' n k)
      (putD s o.dst (.v (.tuple #[])) fun s' => evGoM P TT all pr S L js (addM E j) s' n k)
def satBM (all : List Oper) (pr : List Nat) (E S : Nat) : Bool :=
 (List.range all.length).all fun j => match all[j]? with
  | some o => isE o || (inM E j || !(avM (pr.getD j 0) E S))
  | none => true
def allocsOfM (all : List Oper) (FL : Nat) (f : Nat → Bool) : List Nat :=
 (List.range all.length).filter fun j => match all[j]? with | some o => isAl o && (!(inM FL j) && f j) | none => false
def effsOfM (all : List Oper) (S : Nat) (f : Nat → Bool) : List Nat :=
 (List.range all.length).filter fun j => match all[j]? with | some o => isE o && (!(inM S j) && f j) | none => false
def rechkM (TT : Types) (all : List Oper) (pe E : Nat) (s : List AV) (L : Heap) : List Nat → Prop → Prop
 | [], k => k
 | j :: js, k => match all[j]? with
  | some o => match o.op, inM E j && !(inM pe j) with
   | .load t x, true => guarded all s o (opt1 o.dst fun d => opt1 (TT t) fun ti => aload L ti (ev s x) = some (getA s d)) True ∧ rechkM TT all pe E s L js k
   | _, _ => rechkM TT all pe E s L js k
  | none => rechkM TT all pe E s L js k
def drM (P : Program) (TT : Types) (all : List Oper) (pr : List Nat) (K : Kn) (KP : AV → Kn) : Nat → Nat → Nat → Nat → List AV → Heap → Nat → Prop
 | fuel, E, S, FL, s, L, n => evGoM P TT all pr S L (List.range all.length) E s n fun E s n => match satBM all pr E S with
  | false => False
  | true => match effsOfM all S (fun _ => true) with
   | [] => flush TT all s (allocsOfM all FL fun _ => true) L fun L' => forceH L' fun L'' => K s L'' n
   | _ :: _ => match fuel with
    | 0 => False
    | fuel + 1 => allK (effsOfM all S (fun j => avM (pr.getD j 0) E S)) fun e => match all[e]? with
     | none => False
     | some o => flush TT all s (allocsOfM all FL fun j => inM (pr.getD e 0) j) L fun L1 =>
      guarded all s o (aop P TT o s L1 n (fun av L2 n2 => putD s o.dst av fun s2 => forceH L2 fun L3 => rechkM TT all (pr.getD e 0) E s2 L3 (List.range all.length)
        (drM P TT all pr K KP fuel E (addM S e) (addL (allocsOfM all FL (fun j => inM (pr.getD e 0) j)) FL) s2 L3 n2)) (fun x L2 n2 => KP x (killA all s) L2 n2))
       (putD s o.dst (.v (.tuple #[])) fun s2 => drM P TT all pr K KP fuel E (addM S e) (addL (allocsOfM all FL (fun j => inM (pr.getD e 0) j)) FL) s2 L1 n)
section
variable {P : Program} {TT : Types} {all : List Oper} {pr : List (List Nat)} {pm : List Nat}
theorem evGoM_eq (hp : RepP pr pm) {S : List Nat} {sm : Nat} (hS : Rep S sm) {L : Heap} {k : List Nat → List AV → Nat → Prop} {km : Nat → List AV → Nat → Prop} (hk : ∀ E em s n, Rep E em → k E s n = km em s n) :
  ∀ (js E : List Nat) (em : Nat) (s : List AV) (n : Nat), Rep E em → evGo P TT all pr S L js E s n k = evGoM P TT all pm sm L js em s n km
 | [], E, em, s, n, hE => hk E em s n hE
 | j :: js, E, em, s, n, hE => by
  have h1 := fun s n => evGoM_eq hp hS (L := L) hk js (j :: E) (addM em j) s n hE.cons
  have h0 := evGoM_eq hp hS (L := L) hk js E em s n hE
  unfold evGo evGoM
  rw [hE j, avail_eq hp hE hS j]
  simp only [h1, h0]
  try rfl
theorem satBM_eq (hp : RepP pr pm) {E S : List Nat} {em sm : Nat} (hE : Rep E em) (hS : Rep S sm) : satB all pr E S = satBM all pm em sm := by
 unfold satB satBM
 congr 1
 funext j
 rw [hE j, avail_eq hp hE hS j]
 try rfl
theorem allocsM_eq {FL : List Nat} {fm : Nat} (h : Rep FL fm) (f : Nat → Bool) : allocsOf all FL f = allocsOfM all fm f := by
 unfold allocsOf allocsOfM
 congr 1
 funext j
 rw [h j]
 try rfl
theorem effsM_eq {S : List Nat} {sm : Nat} (h : Rep S sm) (f : Nat → Bool) : effsOf all S f = effsOfM all sm f := by
 unfold effsOf effsOfM
 congr 1
 funext j
 rw [h j]
 try rfl
theorem rechkM_eq {pe E : List Nat} {pem em : Nat} (h1 : Rep pe pem) (h2 : Rep E em) {s : List AV} {L : Heap} {k : Prop} : ∀ js : List Nat, rechk TT all pe E s L js k = rechkM TT all pem em s L js k
 | [] => rfl
 | j :: js => by
  have ih := rechkM_eq h1 h2 (s := s) (L := L) (k := k) js
  unfold rechk rechkM
  rw [h1 j, h2 j]
  simp only [ih]
  try rfl
theorem drM_eq (hp : RepP pr pm) {K : Kn} {KP : AV → Kn} : ∀ (fuel : Nat) {E S FL : List Nat} {em sm fm : Nat} (s : List AV) (L : Heap) (n : Nat), Rep E em → Rep S sm → Rep FL fm → dr P TT all pr K KP fuel E S FL s L n = drM P TT all pm K KP fuel em sm fm s L n := by
 intro fuel
 induction fuel with
 | zero =>
  intro E S FL em sm fm s L n hE hS hF
  unfold dr drM
  refine evGoM_eq hp hS (fun E em s n hE => ?_) _ _ _ _ _ hE
  rw [satBM_eq hp hE hS, effsM_eq hS, allocsM_eq hF]
  try rfl
 | succ fuel ih =>
  intro E S FL em sm fm s L n hE hS hF
  unfold dr drM
  refine evGoM_eq hp hS (fun E em s n hE => ?_) _ _ _ _ _ hE
  have e1 : availB pr E S = fun j => avM (pm.getD j 0) em sm := funext fun j => avail_eq hp hE hS j
  have e2 : ∀ e, (fun j => memB j (pr.getD e [])) = fun j => inM (pm.getD e 0) j := fun e => funext fun j => hp e j
  have e3 : ∀ e s2 L3 n2, dr P TT all pr K KP fuel E (e :: S) (allocsOfM all fm (fun j => inM (pm.getD e 0) j) ++ FL) s2 L3 n2 = drM P TT all pm K KP fuel em (addM sm e) (addL (allocsOfM all fm (fun j => inM (pm.getD e 0) j)) fm) s2 L3 n2 := fun e s2 L3 n2 => ih s2 L3 n2 hE hS.cons (hF.append _)
  have e4 : ∀ e s2 L3 k, rechk TT all (pr.getD e []) E s2 L3 (List.range all.length) k = rechkM TT all (pm.getD e 0) em s2 L3 (List.range all.length) k := fun e s2 L3 k => rechkM_eq (hp e) hE _
  rw [satBM_eq hp hE hS, effsM_eq hS, effsM_eq hS, e1, allocsM_eq hF]
  simp only [allocsM_eq hF, e2, e3, e4]
  try rfl
theorem drawM {id : Nat} {s : List AV} {L : Heap} {n : Nat} {Kk : Kc} (hok : okD all = true) (h : drM P TT all (presM [] all) (Kk .normal) (fun x => Kk (.panic x)) all.length 0 0 0 s L n) : draw P TT id all s L n Kk := by
 unfold draw
 rw [hok]
 show dr P TT all (pres all) (Kk .normal) (fun x => Kk (.panic x)) all.length [] [] [] s L n
 rw [drM_eq (pres_rep all) all.length s L n Rep.nil Rep.nil Rep.nil]
 exact h
end
end Go.Am
namespace Go.Am
open Go.RowKit
def forceN : List Nat → (List Nat → Prop) → Prop
 | [], k => k []
 | a :: l, k => forceN l fun l' => k (a :: l')
theorem forceN_eq : ∀ (l : List Nat) (k : List Nat → Prop), forceN l k = k l
 | [], k => rfl
 | a :: l, k => forceN_eq l _
theorem forceN_to {l l' : List Nat} (h : ∀ k : List Nat → Prop, k l' → forceN l k) : l = l' := by
 have := h (fun x => x = l') rfl
 rwa [forceN_eq] at this
def forceNat (n : Nat) (k : Nat → Prop) : Prop := match n with
 | 0 => k 0
 | m + 1 => k (m + 1)
theorem forceNat_eq (n : Nat) (k : Nat → Prop) : forceNat n k = k n := by cases n <;> rfl
theorem forceNat_to {n n' : Nat} (h : ∀ k : Nat → Prop, k n' → forceNat n k) : n = n' := by
 have := h (fun x => x = n') rfl
 rwa [forceNat_eq] at this
def presK (acc : List Nat) : List Oper → (List Nat → Prop) → Prop
 | [], k => k acc
 | o :: r, k => forceNat (orL (edgesOf o) acc 0) fun m => forceN (acc ++ [m]) fun acc' => presK acc' r k
theorem presK_eq : ∀ (r : List Oper) (acc : List Nat) (k : List Nat → Prop), presK acc r k = k (presM acc r)
 | [], acc, k => rfl
 | o :: r, acc, k => by unfold presK presM; rw [forceNat_eq, forceN_eq, presK_eq r]
theorem presK_to {all : List Oper} {pr : List Nat} (h : ∀ k : List Nat → Prop, k pr → presK [] all k) : presM [] all = pr := by
 have := h (fun x => x = pr) rfl
 rwa [presK_eq] at this
def drBM (P : Program) (TT : Types) (all : List Oper) (pr : List Nat) (K : Kn) (KP : AV → Kn) (fuel : Nat) (S FL : Nat) (L : Heap) : Nat → List AV → Nat → Prop := fun E s n => match satBM all pr E S with
  | false => False
  | true => match effsOfM all S (fun _ => true) with
   | [] => flush TT all s (allocsOfM all FL fun _ => true) L fun L' => forceH L' fun L'' => K s L'' n
   | _ :: _ => match fuel with
    | 0 => False
    | fuel + 1 => allK (effsOfM all S (fun j => avM (pr.getD j 0) E S)) fun e => match all[e]? with
     | none => False
     | some o => flush TT all s (allocsOfM all FL fun j => inM (pr.getD e 0) j) L fun L1 =>
      guarded all s o (aop P TT o s L1 n (fun av L2 n2 => putD s o.dst av fun s2 => forceH L2 fun L3 => rechkM TT all (pr.getD e 0) E s2 L3 (List.range all.length)
        (drM P TT all pr K KP fuel E (addM S e) (addL (allocsOfM all FL (fun j => inM (pr.getD e 0) j)) FL) s2 L3 n2)) (fun x L2 n2 => KP x (killA all s) L2 n2))
       (putD s o.dst (.v (.tuple #[])) fun s2 => drM P TT all pr K KP fuel E (addM S e) (addL (allocsOfM all FL (fun j => inM (pr.getD e 0) j)) FL) s2 L1 n)
theorem drM_eqB {P : Program} {TT : Types} {all : List Oper} {pr : List Nat} {K : Kn} {KP : AV → Kn} (fuel : Nat) (E S FL : Nat) (s : List AV) (L : Heap) (n : Nat) :
  drM P TT all pr K KP fuel E S FL s L n = evGoM P TT all pr S L (List.range all.length) E s n (drBM P TT all pr K KP fuel S FL L) := by
 cases fuel <;> (unfold drM; rfl)
section
variable {P : Program} {TT : Types} {all : List Oper} {pr : List Nat} {E S FL E' S' FL' : Nat} {A js : List Nat} {s s' : List AV} {L L1 L2 : Heap} {n n' fuel e j : Nat} {K : Kn} {KP : AV → Kn} {o : Oper} {av : AV} {k : Nat → List AV → Nat → Prop} {Kk : Kc}
theorem d_start {id : Nat} (hok : okD all = true) (hp : ∀ k : List Nat → Prop, k pr → presK [] all k) (hr : ∀ k : List Nat → Prop, k js → forceN (List.range all.length) k) (h : evGoM P TT all pr 0 L js 0 s n (drBM P TT all pr (Kk .normal) (panK Kk) all.length 0 0 L)) : draw P TT id all s L n Kk := by
 refine drawM hok ?_
 rw [drM_eqB, presK_to hp, forceN_to hr]
 exact h
theorem v_nil (h : k E s n) : evGoM P TT all pr S L [] E s n k := h
theorem v_skip (hj : all[j]? = some o) (hc : (isE o || (inM E j || !(avM (pr.getD j 0) E S))) = true) (h : evGoM P TT all pr S L js E s n k) : evGoM P TT all pr S L (j :: js) E s n k := by
 unfold evGoM; rw [hj]; simp only; rw [hc]; exact h
theorem v_alloc {r : Nat × Res} (hj : all[j]? = some o) (hal : isAl o = true) (hc : (isE o || (inM E j || !(avM (pr.getD j 0) E S))) = false) (hs : ∀ k : List AV → Prop, k s' → putD s o.dst (.ptr n 0) k) (hr : allocObj TT s' o = some r) (h : evGoM P TT all pr S L js E' s' (n + 1) k) (hE : ∀ k : Nat → Prop, k E' → forceNat (addM E j) k := by exact fun _ h => h) : evGoM P TT all pr S L (j :: js) E s n k := by
 obtain rfl := forceNat_to hE
 unfold evGoM; rw [hj]; simp only; rw [hc, hal]
 refine hs _ ?_
 simp only [hr]
 exact h
theorem v_q (hj : all[j]? = some o) (hg : o.guard = none) (hal : isAl o = false) (hc : (isE o || (inM E j || !(avM (pr.getD j 0) E S))) = false) (hC : ∀ K : AV → Prop, K av → aq P TT L (ev s) (raw s) o fun x => fv x K) (hs : ∀ k : List AV → Prop, k s' → putD s o.dst av k)
  (h : evGoM P TT all pr S L js E' s' n k) (hE : ∀ k : Nat → Prop, k E' → forceNat (addM E j) k := by exact fun _ h => h) : evGoM P TT all pr S L (j :: js) E s n k := by
 obtain rfl := forceNat_to hE
 unfold evGoM; rw [hj]; simp only; rw [hc, hal]; simp only
 unfold guarded; rw [hg]
 exact .inl (hC _ (hs _ h))
theorem v_qS {p : Prop} (hj : all[j]? = some o) (hg : o.guard = none) (hal : isAl o = false) (hc : (isE o || (inM E j || !(avM (pr.getD j 0) E S))) = false) (hC : ∀ K : AV → Prop, p ∧ K av → aq P TT L (ev s) (raw s) o fun x => fv x K) (hs : ∀ k : List AV → Prop, k s' → putD s o.dst av k) (hp : p)
  (h : evGoM P TT all pr S L js E' s' n k) (hE : ∀ k : Nat → Prop, k E' → forceNat (addM E j) k := by exact fun _ h => h) : evGoM P TT all pr S L (j :: js) E s n k :=
 v_q hj hg hal hc (fun K hk => hC K ⟨hp, hk⟩) hs h hE
theorem v_yes {g d : Nat} {want : Bool} (hj : all[j]? = some o) (hg : o.guard = some (g, want)) (hal : isAl o = false) (hd : (all[g]?).bind (·.dst) = some d) (hb : getA s d = .v (.bool want)) (hc : (isE o || (inM E j || !(avM (pr.getD j 0) E S))) = false)
  (hC : ∀ K : AV → Prop, K av → aq P TT L (ev s) (raw s) o fun x => fv x K) (hs : ∀ k : List AV → Prop, k s' → putD s o.dst av k) (h : evGoM P TT all pr S L js E' s' n k) (hE : ∀ k : Nat → Prop, k E' → forceNat (addM E j) k := by exact fun _ h => h) : evGoM P TT all pr S L (j :: js) E s n k := by
 obtain rfl := forceNat_to hE
 unfold evGoM; rw [hj]; simp only; rw [hc, hal]; simp only
 unfold guarded; rw [hg]; simp only [hd, hb]
 cases want <;> (refine .inl (hC _ ?_); exact hs _ h)
theorem v_yesS {p : Prop} {g d : Nat} {want : Bool} (hj : all[j]? = some o) (hg : o.guard = some (g, want)) (hal : isAl o = false) (hd : (all[g]?).bind (·.dst) = some d) (hb : getA s d = .v (.bool want)) (hc : (isE o || (inM E j || !(avM (pr.getD j 0) E S))) = false)
  (hC : ∀ K : AV → Prop, p ∧ K av → aq P TT L (ev s) (raw s) o fun x => fv x K) (hs : ∀ k : List AV → Prop, k s' → putD s o.dst av k) (hp : p) (h : evGoM P TT all pr S L js E' s' n k) (hE : ∀ k : Nat → Prop, k E' → forceNat (addM E j) k := by exact fun _ h => h) : evGoM P TT all pr S L (j :: js) E s n k :=
 v_yes hj hg hal hd hb hc (fun K hk => hC K ⟨hp, hk⟩) hs h hE
theorem is_ev (h : evGoM P TT all pr S L (j :: js) E s n k) : evGoM P TT all pr S L (j :: js) E s n k := h
theorem is_drB (h : drBM P TT all pr K KP fuel S FL L E s n) : drBM P TT all pr K KP fuel S FL L E s n := h
def effK (P : Program) (TT : Types) (all : List Oper) (pr : List Nat) (K : Kn) (KP : AV → Kn) (fuel : Nat) (E S FL : Nat) (e : Nat) (s : List AV) (d : Option Nat) : AV → Heap → Nat → Prop := fun av L2 n2 => putD s d av fun s2 => forceH L2 fun L3 => rechkM TT all (pr.getD e 0) E s2 L3 (List.range all.length) (drM P TT all pr K KP fuel E (addM S e) FL s2 L3 n2)
def effP (all : List Oper) (s : List AV) (KP : AV → Kn) : AV → Heap → Nat → Prop := fun x L2 n2 => KP x (killA all s) L2 n2
theorem b_end (he : effsOfM all S (fun _ => true) = []) (hsat : satBM all pr E S = true) (hA : ∀ k : List Nat → Prop, k A → forceN (allocsOfM all FL (fun _ => true)) k) (hf : ∀ k : Heap → Prop, k L1 → flush TT all s A L fun L => forceH L k) (h : K s L1 n) : drBM P TT all pr K KP fuel S FL L E s n := by
 unfold drBM; rw [hsat]; simp only; rw [he]; simp only; rw [forceN_to hA]
 exact hf (fun L' => K s L' n) h
theorem b_eff {e0 : Nat} {es : List Nat} (he0 : effsOfM all S (fun _ => true) = e0 :: es) (he : effsOfM all S (fun j => avM (pr.getD j 0) E S) = [e]) (ho : all[e]? = some o) (hg : o.guard = none) (hA : ∀ k : List Nat → Prop, k A → forceN (allocsOfM all FL (fun j => inM (pr.getD e 0) j)) k) (hf : ∀ k : Heap → Prop, k L1 → flush TT all s A L k) (hsat : satBM all pr E S = true)
  (h : aop P TT o s L1 n (effK P TT all pr K KP fuel E S FL' e s o.dst) (effP all s KP)) (hF' : ∀ k : Nat → Prop, k FL' → forceNat (addL A FL) k := by exact fun _ h => h) : drBM P TT all pr K KP (fuel + 1) S FL L E s n := by
 obtain rfl := forceNat_to hF'
 unfold drBM; rw [hsat]; simp only; rw [he0]; simp only; rw [he]
 simp only [allK, ho, forceN_to hA]
 refine hf _ ?_
 unfold guarded; rw [hg]
 exact h
theorem b_yes {e0 g d : Nat} {want : Bool} {es : List Nat} (he0 : effsOfM all S (fun _ => true) = e0 :: es) (he : effsOfM all S (fun j => avM (pr.getD j 0) E S) = [e]) (ho : all[e]? = some o) (hg : o.guard = some (g, want)) (hA : ∀ k : List Nat → Prop, k A → forceN (allocsOfM all FL (fun j => inM (pr.getD e 0) j)) k) (hf : ∀ k : Heap → Prop, k L1 → flush TT all s A L k) (hd : (all[g]?).bind (·.dst) = some d) (hb : getA s d = .v (.bool want)) (hsat : satBM all pr E S = true)
  (h : aop P TT o s L1 n (effK P TT all pr K KP fuel E S FL' e s o.dst) (effP all s KP)) (hF' : ∀ k : Nat → Prop, k FL' → forceNat (addL A FL) k := by exact fun _ h => h) : drBM P TT all pr K KP (fuel + 1) S FL L E s n := by
 obtain rfl := forceNat_to hF'
 unfold drBM; rw [hsat]; simp only; rw [he0]; simp only; rw [he]
 simp only [allK, ho, forceN_to hA]
 refine hf _ ?_
 unfold guarded; rw [hg]; simp only [hd, hb]
 cases want <;> exact h
theorem k_eff {d : Option Nat} (hs : ∀ k : List AV → Prop, k s' → putD s d av k) (hL : ∀ k : Heap → Prop, k L2 → forceH L1 k) (hr : ∀ k : List Nat → Prop, k js → forceN (List.range all.length) k) (hc : ∀ k : Prop, k → rechkM TT all (pr.getD e 0) E s' L2 js k) (h : evGoM P TT all pr S' L2 js E s' n (drBM P TT all pr K KP fuel S' FL L2)) (hS' : ∀ k : Nat → Prop, k S' → forceNat (addM S e) k := by exact fun _ h => h) :
  effK P TT all pr K KP fuel E S FL e s d av L1 n := by
 obtain rfl := forceNat_to hS'
 refine hs _ (hL _ ?_)
 rw [forceN_to hr]
 refine hc _ ?_
 rw [drM_eqB, forceN_to hr]; exact h
theorem k_effc {d : Option Nat} {x : AV} (hx : ∀ k : AV → Prop, k av → fv x k) (hs : ∀ k : List AV → Prop, k s' → putD s d av k) (hL : ∀ k : Heap → Prop, k L2 → forceH L1 k) (hr : ∀ k : List Nat → Prop, k js → forceN (List.range all.length) k) (hc : ∀ k : Prop, k → rechkM TT all (pr.getD e 0) E s' L2 js k) (h : evGoM P TT all pr S' L2 js E s' n (drBM P TT all pr K KP fuel S' FL L2)) (hS' : ∀ k : Nat → Prop, k S' → forceNat (addM S e) k := by exact fun _ h => h) :
  effK P TT all pr K KP fuel E S FL e s d x L1 n := by
 have e : x = av := by
  have := hx (fun y => y = av) rfl
  rwa [fv_eq] at this
 subst e
 exact k_eff hs hL hr hc h hS'
theorem is_effK {d : Option Nat} (h : effK P TT all pr K KP fuel E S FL e s d av L1 n) : effK P TT all pr K KP fuel E S FL e s d av L1 n := h
end
end Go.Am
namespace Go.Am
open Go.RowKit
structure Wk (a b : AV) : Prop where
 slot : ∀ G x, Slot G a x → Slot G b x
 sim : ∀ G x, Sim G a x → Sim G b x
theorem Wk.refl (a : AV) : Wk a a := ⟨fun _ _ h => h, fun _ _ h => h⟩
theorem Wk.trans {a b c : AV} (h : Wk a b) (k : Wk b c) : Wk a c := ⟨fun G x s => k.slot G x (h.slot G x s), fun G x s => k.sim G x (h.sim G x s)⟩
theorem Wk.dead (a : AV) : Wk a .dead := ⟨fun _ _ _ => .of (.data _ _ (.dead _)), fun _ _ _ => .data _ _ (.dead _)⟩
theorem sim_free {G : Ghost} {rows : List (List AV)} {o : Own} {x : Value} (h : Sim G (.list rows o) x) : Sim G (.list rows .free) x := by
 cases h with
 | data _ _ h => exact .data _ _ h.free
 | tok _ k _ _ h => exact .data _ _ h
theorem Wk.free (rows : List (List AV)) (o : Own) : Wk (.list rows o) (.list rows .free) :=
 ⟨fun G x h => by
  refine .of ?_
  have := h.down
  unfold AV.down at this
  split at this
  ·rename_i h0; cases h0; exact sim_free this
  ·exact sim_free this, fun G x h => sim_free h⟩
inductive WkL : List AV → List AV → Prop
 | nil : WkL [] []
 | cons {a b : AV} {s t : List AV} (h : Wk a b) (hs : WkL s t) : WkL (a :: s) (b :: t)
theorem WkL.refl : ∀ s, WkL s s
 | [] => .nil
 | a :: s => .cons (.refl a) (WkL.refl s)
theorem WkL.len {s t : List AV} (h : WkL s t) : s.length = t.length := by
 induction h with
 | nil => rfl
 | cons _ _ ih => simp [ih]
theorem WkL.get {s t : List AV} (h : WkL s t) : ∀ (i : Nat) (b : AV), t[i]? = some b → ∃ a, s[i]? = some a ∧ Wk a b := by
 induction h with
 | nil => intro i b hb; simp at hb
 | @cons a b s t h1 _ ih =>
  intro i c hc
  cases i with
  | zero => simp at hc; subst hc; exact ⟨a, rfl, h1⟩
  | succ i => exact ih i c hc
theorem WkL.getA {s t : List AV} (h : WkL s t) : ∀ i, Wk (getA s i) (getA t i) := by
 induction h with
 | nil => intro i; exact .refl _
 | cons h1 _ ih =>
  intro i
  cases i with
  | zero => exact h1
  | succ i => exact ih i
inductive WkR : Nat × Res → Nat × Res → Prop
 | box (id : Nat) {l l' : List AV} (h : WkL l l') : WkR (id, .box l) (id, .box l')
 | refl (r : Nat × Res) : WkR r r
theorem LeA.agg' {l l' : List AV} (h : LeL l l') : LeA (.agg l) (.agg l') := fun G x hx => by
 obtain ⟨vs, rfl, h1, h2⟩ := Sim.agg_inv hx
 refine .agg _ _ (by rw [← h.len]; exact h1) fun i a ha => ?_
 obtain ⟨b, hb, hle⟩ := h.get i a ha
 exact hle _ _ (h2 i b hb)
theorem WkR.eq {r r' : Nat × Res} (h : r = r') : WkR r r' := by subst h; exact .refl _
inductive WkH : Heap → Heap → Prop
 | nil : WkH [] []
 | cons {r r' : Nat × Res} {H H' : Heap} (h : WkR r r') (hs : WkH H H') : WkH (r :: H) (r' :: H')
theorem WkH.refl : ∀ H, WkH H H
 | [] => .nil
 | r :: H => .cons (.refl r) (WkH.refl H)
theorem WkR.holds {G : Ghost} {w : World} {r r' : Nat × Res} (h : WkR r r') (hr : ResHolds G w r) : ResHolds G w r' ∧ r'.1 = r.1 ∧ G.placed r' = G.placed r := by
 cases h with
 | refl => exact ⟨hr, rfl, rfl⟩
 | @box id l l' h =>
  refine ⟨?_, rfl, rfl⟩
  obtain ⟨h0, arr, E, fr, h1, h2, h3, h4⟩ := hr
  refine ⟨h0, arr, E, fr, h1, by rw [← h.len]; exact h2, h3, fun i b hb => ?_⟩
  obtain ⟨a, ha, hw⟩ := h.get i b hb
  exact hw.sim _ _ (h4 i a ha)
theorem WkH.all {G : Ghost} {w : World} {H H' : Heap} (h : WkH H H') (hr : ∀ r ∈ H, ResHolds G w r) : (∀ r ∈ H', ResHolds G w r) ∧ H'.map (·.1) = H.map (·.1) ∧ blocksOf G H' = blocksOf G H := by
 induction h with
 | nil => exact ⟨fun r hr => (List.not_mem_nil hr).elim, rfl, rfl⟩
 | @cons r r' H H' h1 _ ih =>
  obtain ⟨a1, a2, a3⟩ := h1.holds (hr r (by simp))
  obtain ⟨b1, b2, b3⟩ := ih fun r hm => hr r (List.mem_cons_of_mem _ hm)
  refine ⟨fun r hm => ?_, by simp [a2, b2], ?_⟩
  ·rcases List.mem_cons.1 hm with rfl | hm
   ·exact a1
   ·exact b1 r hm
  ·unfold blocksOf at b3 ⊢
   simp only [List.filterMap_cons, a3, b3]
theorem Conv.wk {s t : List AV} {L L' : Heap} {n : Nat} (hs : WkL s t) (hL : WkH L L') : Conv ⟨s, L, n⟩ ⟨t, L', n⟩ := fun B G a w hr => by
 obtain ⟨a1, a2, a3⟩ := hL.all hr.holds.res
 have hlive : ∀ r ∈ L', G.live r.1 := fun r hm => by
  have : r.1 ∈ L.map (·.1) := by rw [← a2]; exact List.mem_map_of_mem hm
  obtain ⟨r0, h0, e⟩ := List.mem_map.1 this
  rw [← e]; exact hr.holds.live r0 h0
 refine ⟨G, by rw [hr.size]; exact hs.len, fun i hi => (hs.getA i).slot _ _ (hr.slots i hi), hr.defers, ⟨hr.holds.X, a1, by rw [a2]; exact hr.holds.ids, hlive, by rw [a3]; exact hr.holds.blocks, fun b hb => ?_⟩, ?_, hr.next, hr.base, hr.low, hr.old⟩
 ·rw [a3]; exact hr.holds.lits b hb
 ·have st := hr.step
  exact ⟨st.os, st.tape, st.output, st.size, st.base, st.X, st.frame, st.newX, by rw [a3]; exact st.newB, st.live, by rw [a2]; exact st.newI, st.lits, st.newL⟩
theorem Conv.tokBox {s : List AV} {L : Heap} {n id j sz : Nat} {cells : List AV} {rows : List (List AV)} (hf : findL L id = some (.box cells)) (hj : cells[j]? = some (.list rows .full)) (hz : ∀ row ∈ rows, row.length = sz) :
  Conv ⟨s, L, n⟩ ⟨s, (n, .tok sz rows.length) :: setL L id (.box (setA cells j (.list rows (.tok n)))), n + 1⟩ := fun B G a w hr => by
 have hn : ¬ G.live n := fun h => Nat.lt_irrefl _ (hr.next n h)
 have hres := hr.holds.res _ (findL_mem hf)
 obtain ⟨h0, arr, E, fr, h1, h2, h3, h4⟩ := hres
 have hx := h4 j _ hj
 have h5 : Holds G w ([] ++ L) := hr.holds
 obtain ⟨G1, k1, k2, k3, k4, k5⟩ := new_tok (s := sz) h5.left hn (hx.list_inv.2 rfl)
 obtain ⟨m1, m2⟩ := h5.beside k1 k2
 have hkn : G1.live n := k1.live (n, .tok sz rows.length) (by simp)
 have htk := (k1.res (n, .tok sz rows.length) (by simp))
 have hsim : Sim G1 (.list rows (.tok n)) (arr.getD j undef) := .tok rows n _ hkn k3 (by rw [htk.2.1]; exact Nat.le_refl _) (fun row hrow => by rw [htk.1]; exact hz row hrow) fun _ => k4
 obtain ⟨L1, p1, p2⟩ := findL_perm hf
 have hid : G1.loc id = G.loc id := (k2.live id (hr.holds.live _ (findL_mem hf))).2.1
 have hnew : ResHolds G1 w (id, .box (setA cells j (.list rows (.tok n)))) := by
  have hold : ResHolds G1 w (id, .box cells) := m1.res _ (by simp [findL_mem hf])
  obtain ⟨g0, arr', E', fr', g1, g2, g3, g4⟩ := hold
  rw [hid, h1] at g1
  simp only [Option.some.injEq, Obj.cells.injEq] at g1
  obtain ⟨rfl, rfl, rfl⟩ := g1
  refine ⟨g0, arr, E, fr, by rw [hid]; exact h1, by rw [setA_eq]; simpa using g2, g3, fun i b hb => ?_⟩
  rw [setA_eq, List.getElem?_set] at hb
  split at hb
  ·rename_i e
   subst e
   split at hb
   ·cases hb; exact hsim
   ·cases hb
  ·exact g4 i b hb
 have hb0 : blocksOf G1 ([(n, Res.tok sz rows.length)] ++ (id, .box (setA cells j (.list rows (.tok n)))) :: L1) = blocksOf G1 ([(n, Res.tok sz rows.length)] ++ (id, .box cells) :: L1) := by
  unfold blocksOf; simp [List.filterMap_cons, Ghost.placed]
 have q : ([(n, Res.tok sz rows.length)] ++ L).Perm ([(n, Res.tok sz rows.length)] ++ (id, .box cells) :: L1) := .append_left _ p1
 have m1' := m1.perm q
 have m2' := m2.perm (.refl _) q
 have fin : Holds G1 w ([(n, Res.tok sz rows.length)] ++ (id, .box (setA cells j (.list rows (.tok n)))) :: L1) := by
  refine ⟨m1'.X, fun r hm => ?_, by simpa using m1'.ids, fun r hm => ?_, by rw [hb0]; exact m1'.blocks, by rw [hb0]; exact m1'.lits⟩
  ·simp only [List.cons_append, List.nil_append, List.mem_cons] at hm
   rcases hm with rfl | rfl | hm
   ·exact m1'.res _ (by simp)
   ·exact hnew
   ·exact m1'.res _ (by simp [hm])
  ·simp only [List.cons_append, List.nil_append, List.mem_cons] at hm
   rcases hm with rfl | rfl | hm
   ·exact m1'.live _ (by simp)
   ·exact m1'.live (id, .box cells) (by simp)
   ·exact m1'.live _ (by simp [hm])
 have q2 : ((n, Res.tok sz rows.length) :: setL L id (.box (setA cells j (.list rows (.tok n))))).Perm ([(n, Res.tok sz rows.length)] ++ (id, .box (setA cells j (.list rows (.tok n)))) :: L1) := .cons _ (p2 _)
 have st : Step B.G B.w B.H G1 w ([(n, Res.tok sz rows.length)] ++ (id, .box cells) :: L1) := hr.step.trans m2'
 have st' : Step B.G B.w B.H G1 w ([(n, Res.tok sz rows.length)] ++ (id, .box (setA cells j (.list rows (.tok n)))) :: L1) :=
  ⟨st.os, st.tape, st.output, st.size, st.base, st.X, st.frame, st.newX, by rw [hb0]; exact st.newB, st.live, by simpa using st.newI, st.lits, st.newL⟩
 refine ⟨G1, hr.size, fun i hi => (hr.slots i hi).mono k2.lits fun a x => k2.sim, hr.defers, fin.perm q2.symm, st'.perm (.refl _) q2.symm, fun i hi => ?_, by rw [k2.base]; exact hr.base, Nat.le_succ_of_le hr.low, fun i hi => ?_⟩
 ·rcases k5 i hi with h | h
  ·exact Nat.lt_succ_of_lt (hr.next i h)
  ·subst h; exact Nat.lt_succ_self _
 ·rcases k5 i hi with h | h
  ·exact hr.old i h
  ·subst h; exact .inr hr.low
theorem Conv.tokSlot {s : List AV} {L : Heap} {n j sz : Nat} {rows : List (List AV)} (hj : getA s j = .list rows .full) (hz : ∀ row ∈ rows, row.length = sz) :
  Conv ⟨s, L, n⟩ ⟨setA s j (.list rows (.tok n)), (n, .tok sz rows.length) :: L, n + 1⟩ := fun B G a w hr => by
 have hn : ¬ G.live n := fun h => Nat.lt_irrefl _ (hr.next n h)
 have hx := hr.slots j (fun h => h)
 simp only [hj] at hx
 have hx' : Sim G (.list rows .full) (a.tmps.getD j undef) := hx.down
 have h5 : Holds G w ([] ++ L) := hr.holds
 obtain ⟨G1, k1, k2, k3, k4, k5⟩ := new_tok (s := sz) h5.left hn (hx'.list_inv.2 rfl)
 obtain ⟨m1, m2⟩ := h5.beside k1 k2
 have hkn : G1.live n := k1.live (n, .tok sz rows.length) (by simp)
 have htk := (k1.res (n, .tok sz rows.length) (by simp))
 have hsim : Sim G1 (.list rows (.tok n)) (a.tmps.getD j undef) := .tok rows n _ hkn k3 (by rw [htk.2.1]; exact Nat.le_refl _) (fun row hrow => by rw [htk.1]; exact hz row hrow) fun _ => k4
 refine ⟨G1, by rw [hr.size, setA_eq]; simp, fun i hi => ?_, hr.defers, m1, hr.step.trans m2, fun i hi => ?_, by rw [k2.base]; exact hr.base, Nat.le_succ_of_le hr.low, fun i hi => ?_⟩
 ·show Slot G1 (getA (setA s j _) i) _
  rw [getA_eq, setA_eq, List.getD, List.getElem?_set]
  by_cases e : j = i
  ·subst e
   rw [if_pos rfl]
   split
   ·exact .of hsim
   ·exact .of (.data _ _ (.dead _))
  ·rw [if_neg e]
   have := (hr.slots i hi).mono k2.lits fun a x => k2.sim
   rw [getA_eq] at this
   exact this
 ·rcases k5 i hi with h | h
  ·exact Nat.lt_succ_of_lt (hr.next i h)
  ·subst h; exact Nat.lt_succ_self _
 ·rcases k5 i hi with h | h
  ·exact hr.old i h
  ·subst h; exact .inr hr.low
theorem Wk.int {k : IntKind} {a b : Int} (h : a = b) : Wk (.v (.int k a)) (.v (.int k b)) := by subst h; exact .refl _
theorem Wk.eq {a b : AV} (h : a = b) : Wk a b := by subst h; exact .refl _
theorem Conv.slots {s t : List AV} {L : Heap} {n : Nat} (hs : WkL s t) : Conv ⟨s, L, n⟩ ⟨t, L, n⟩ := .wk hs (.refl L)
theorem Conv.to {s : List AV} {L : Heap} {n : Nat} {τ : ASt} (rest : Heap) (hs : WkL s τ.slots) (hL : L.Perm (τ.L ++ rest)) (hn : n ≤ τ.next) : Conv ⟨s, L, n⟩ τ :=
 (Conv.slots hs).trans (.drop hL hn)
theorem WkL.setA {s : List AV} {j : Nat} {b : AV} (h : Wk (Am.getA s j) b) : WkL s (Am.setA s j b) := by
 induction s generalizing j with
 | nil => exact .nil
 | cons a s ih =>
  cases j with
  | zero => exact .cons h (.refl s)
  | succ j => exact .cons (.refl a) (ih (j := j) h)
theorem Conv.freeSlot {s : List AV} {L : Heap} {n : Nat} {rows : List (List AV)} {own : Own} (j : Nat) (hj : getA s j = .list rows own) : Conv ⟨s, L, n⟩ ⟨Am.setA s j (.list rows .free), L, n⟩ :=
 .slots (.setA (by rw [hj]; exact .free rows own))
theorem Conv.freeze {s : List AV} {L L0 : Heap} {n j id off m cp sz : Nat} {cells : List AV} {rows : List (List AV)} (hj : getA s j = .arr id off m cp) (hp : L.Perm ((id, .box cells) :: L0)) (hr : ∀ row ∈ rows, row.length = sz) (hm : rows.length = m)
  (hd : ∀ i a', rows.flatten[i]? = some a' → ∃ a, cells[off + i]? = some a ∧ a.seal = some a' ∧ a.one = true) : Conv ⟨s, L, n⟩ ⟨setA s j (.list rows .free), L0, n⟩ := fun B G a w hrel => by
 have h5 : Holds G w ((id, .box cells) :: L0) := hrel.holds.perm hp
 have hst : Step B.G B.w B.H G w ((id, .box cells) :: L0) := hrel.step.perm (.refl _) hp
 obtain ⟨h0, arr, E, fr, hh, hsz, hf, hcs⟩ := h5.res (id, .box cells) (by simp)
 have hx := hrel.slots j (fun h => h)
 simp only [hj] at hx
 obtain ⟨base, hv, hlive, hnc, hcm, hbs⟩ := hx.down.arr_inv
 have hbl : blocksOf G ((id, .box cells) :: L0) = G.loc id :: blocksOf G L0 := rfl
 have hnd := h5.blocks
 rw [hbl] at hnd
 obtain ⟨hnd1, hnd2⟩ := List.nodup_cons.1 hnd
 have hids := h5.ids
 simp only [List.map_cons] at hids
 obtain ⟨hi1, hi2⟩ := List.nodup_cons.1 hids
 generalize hG : G.sealed (G.loc id) arr cells.length = G'
 have e1 : ∀ b i, G'.X b i = if b = G.loc id then (if i < cells.length then arr[i]? else none) else G.X b i := fun b i => by rw [← hG]; rfl
 have e2 : G'.loc = G.loc := by rw [← hG]; rfl
 have e3 : G'.tk = G.tk := by rw [← hG]; rfl
 have e4 : G'.live = G.live := by rw [← hG]; rfl
 have e5 : G'.lits = G.lits := by rw [← hG]; rfl
 have e6 : G'.base = G.base := by rw [← hG]; rfl
 have hX : ∀ b i v, G.X b i = some v → G'.X b i = some v := fun b i v h => by
  rw [e1, if_neg]
  ·exact h
  ·rintro rfl
   rw [h0 i] at h; cases h
 have hsim : ∀ a x, Sim G a x → Sim G' a x := fun a x h => h.mono hX fun i hi => ⟨by rw [e4]; exact hi, by rw [e2], .inl (by rw [e3])⟩
 have hbl' : blocksOf G' L0 = blocksOf G L0 := filterMap_same fun r _ => placed_same (by rw [e2]) (by rw [e3])
 have hcell : ∀ (i : Nat) (a' : AV), rows.flatten[i]? = some a' → G'.X (G.loc id) (off + i) = some (arr.getD (off + i) undef) ∧ SimD G'.X a' (arr.getD (off + i) undef) ∧ (arr.getD (off + i) undef).oneCell' = true := fun i a' h => by
  obtain ⟨a, k1, k2, k3⟩ := hd i a' h
  have h2 := (List.getElem?_eq_some_iff.1 k1).1
  have h3 := hcs _ a k1
  refine ⟨?_, ((h3.seal k2).mono hX), h3.one k3⟩
  rw [e1, if_pos rfl, if_pos h2]
  have : off + i < arr.size := by omega
  simp [this]
 have hlist : SimD G'.X (.list rows .free) (.slice base m cp) := by
  subst hm
  by_cases h00 : rows = []
  ·subst h00
   exact .nil .free base cp hcm (by simp) (.inl rfl)
  ·have hpos : 0 < rows.length := List.length_pos_iff.2 h00
   obtain rfl := hbs (by omega)
   refine .list rows .free (G.loc id) off cp sz (fun i j => arr.getD (off + (i * sz + j)) undef) hnc hcm (by simp) (.inl rfl) hr (fun i row q a h1 h2 => ?_) (fun i row q a h1 h2 => ?_) (fun i row q a h1 h2 => ?_)
   all_goals
    obtain ⟨c1, c2, c3⟩ := hcell _ _ (flat_get hr h1 h2)
   ·rw [Nat.add_assoc]; exact c1
   ·exact c2
   ·exact c3
 refine ⟨G', by rw [hrel.size, setA_eq]; simp, fun i hi => ?_, hrel.defers, ⟨fun b i v hxv => ?_, fun r hr' => ?_, hi2, fun r hr' => ?_, by rw [hbl']; exact hnd2, fun b hb => ?_⟩, ⟨hst.os, hst.tape, hst.output, hst.size, by rw [e6]; exact hst.base, fun b i v h => hX _ _ _ (hst.X b i v h), hst.frame, fun b i v hxv => ?_, fun b hb => ?_, fun i hi => ?_, fun i hi => ?_, by rw [e5]; exact hst.lits, by rw [e5]; exact hst.newL⟩, by rw [e4]; exact hrel.next, by rw [e6]; exact hrel.base, hrel.low, by rw [e4]; exact hrel.old⟩
 ·show Slot G' (getA (setA s j _) i) _
  rw [getA_eq, setA_eq, List.getD, List.getElem?_set]
  by_cases e : j = i
  ·subst e
   rw [if_pos rfl]
   split
   ·refine .of (.data _ _ ?_)
    rw [hv]; exact hlist
   ·exact .of (.data _ _ (.dead _))
  ·rw [if_neg e]
   have := (hrel.slots i hi).mono (by rw [e5]; exact fun _ h => h) hsim
   rw [getA_eq] at this
   exact this
 ·rw [e1] at hxv
  split at hxv
  ·rename_i hb
   subst hb
   split at hxv
   ·simp only [World.cell?, hh]
    simpa using hxv
   ·cases hxv
  ·exact h5.X _ _ _ hxv
 ·refine (h5.res r (List.mem_cons_of_mem _ hr')).keep (by rw [e2]) (by rw [e3]) hsim fun b hb => ⟨rfl, fun i v hxv => ?_⟩
  rw [e1, if_neg] at hxv
  ·exact hxv
  ·rintro rfl
   exact hnd1 (List.mem_filterMap.2 ⟨r, hr', hb⟩)
 ·rw [e4]; exact h5.live r (List.mem_cons_of_mem _ hr')
 ·rw [e5] at hb
  obtain ⟨q1, q2, q3⟩ := h5.lits b hb
  refine ⟨by rw [e6]; exact q1, q2, ?_⟩
  rw [hbl']
  rw [hbl] at q3
  exact fun hm' => q3 (List.mem_cons_of_mem _ hm')
 ·rw [e1] at hxv
  split at hxv
  ·rename_i hb
   subst hb
   rcases hst.newB (G.loc id) (by rw [hbl]; simp) with h | h
   ·exact .inr (.inr h)
   ·exact .inr (.inl h)
  ·exact hst.newX _ _ _ hxv
 ·rw [hbl'] at hb
  exact hst.newB b (by rw [hbl]; exact List.mem_cons_of_mem _ hb)
 ·rw [e4, e2, e3]; 
  obtain ⟨k1, k2, k3⟩ := hst.live i hi
  exact ⟨k1, k2, k3⟩
 ·exact hst.newI i (by simp only [List.map_cons]; exact List.mem_cons_of_mem _ hi)
theorem Conv.unseq {s : List AV} {L L0 : Heap} {n id k : Nat} {rows : List (List AV)} (hne : rows.length + k ≠ 0) (hp : L.Perm ((id, .seq rows k) :: L0)) : Conv ⟨s, L, n⟩ ⟨s, (id, .box (seqC rows k)) :: L0, n⟩ := fun B G a w hr =>
 ⟨G, hr.size, hr.slots, hr.defers, ((hr.holds.perm hp).unseq hne).1, (hr.step.perm (.refl _) hp).unseq hne, hr.next, hr.base, hr.low, hr.old⟩
theorem Conv.toSeq {s : List AV} {L L0 : Heap} {n id k : Nat} {rows : List (List AV)} {cells : List AV} (hp : L.Perm ((id, .box cells) :: L0)) (hc : cells = seqC rows k) (hpure : ∀ a ∈ rows.flatten, a.pure = true) : Conv ⟨s, L, n⟩ ⟨s, (id, .seq rows k) :: L0, n⟩ := fun B G a w hr => by
 subst hc
 exact ⟨G, hr.size, hr.slots, hr.defers, (hr.holds.perm hp).toSeq hpure, (hr.step.perm (.refl _) hp).toSeq, hr.next, hr.base, hr.low, hr.old⟩
theorem AV.seal_pure {a : AV} (h : a.pure = true) : a.seal = some a := by
 cases a with
 | list rows o => cases o <;> first | rfl | (simp [AV.pure] at h)
 | v x => rfl
 | dead => rfl
 | cref l => rfl
 | _ => simp [AV.pure] at h
theorem Conv.freezeS {s : List AV} {L L0 : Heap} {n j id m cp k sz : Nat} {rows : List (List AV)} (hj : getA s j = .arr id 0 m cp) (hp : L.Perm ((id, .seq rows k) :: L0)) (hR : RowsOk sz rows) (hm : rows.length = m) : Conv ⟨s, L, n⟩ ⟨setA s j (.list rows .free), L0, n⟩ := by
 by_cases hne : rows.length + k = 0
 ·have e1 : rows = [] := List.eq_nil_of_length_eq_zero (by omega)
  subst e1
  simp only [List.length_nil] at hm
  subst hm
  refine (Conv.to (τ := ⟨s, L0, n⟩) [(id, .seq [] k)] (.refl s) (hp.trans (List.perm_append_comm (l₁ := [(id, Res.seq [] k)]))) (Nat.le_refl _)).trans (.slots (.setA ?_))
  rw [hj]
  refine ⟨fun G x h => ?_, fun G x h => ?_⟩
  ·obtain ⟨base, rfl, _, _, hc, _⟩ := Sim.arr_inv h
   exact .of (.data _ _ (.nil _ _ _ hc (by simp) (.inl rfl)))
  ·obtain ⟨base, rfl, _, _, hc, _⟩ := Sim.arr_inv h
   exact .data _ _ (.nil _ _ _ hc (by simp) (.inl rfl))
 ·exact (Conv.unseq hne hp).trans (Conv.freeze hj (.refl _) hR.len hm fun i a ha => ⟨a, by
   rw [Nat.zero_add]; unfold seqC
   rw [List.getElem?_append_left (List.getElem?_eq_some_iff.1 ha).1]; exact ha, AV.seal_pure (hR.pure a (List.mem_of_getElem? ha)), List.all_eq_true.1 hR.one a (List.mem_of_getElem? ha)⟩)
theorem ACalls.ren {P : Program} {f : FuncId} {k top M : Nat} {args : List AV} {H : Heap} {R R2 : AOut → Heap → Prop} (h : ACalls P f k top args H R) (hkt : k ≤ top)
  (hr : ∀ out H', R out H' → ∃ (ids : List Nat) (out2 : AOut) (H2 : Heap), ids.Nodup ∧ (∀ i ∈ ids, i < top) ∧ (∀ i, i < k → ids[i]? = some i) ∧ ids.length ≤ M ∧ out = out2.ren (rn ids top) ∧ H' = renH (rn ids top) H2 ∧ R2 out2 H2) : ACalls P f k M args H R2 := by
 intro G w vals h1 h2 h3 h4 h5 h6
 have key : ∀ (G' : Ghost) (w' : World) (out : AOut) (H' : Heap) (e : Ending), R out H' → OSim G' out e → Holds G' w' H' → Step G w H G' w' H' → (∀ id, G'.live id → G.live id ∨ (k ≤ id ∧ id < top)) →
   ∃ G2 out2 H2, R2 out2 H2 ∧ OSim G2 out2 e ∧ Holds G2 w' H2 ∧ Step G w H G2 w' H2 ∧ ∀ id, G2.live id → G.live id ∨ (k ≤ id ∧ id < M) := by
  intro G' w' out H' e hR hO hH hS hL
  obtain ⟨ids, out2, H2, i1, i2, i3, i4, rfl, rfl, hR2⟩ := hr out H' hR
  have go : ∀ (x2 : AV) (v : Value), Sim G' (x2.ren (rn ids top)) v → ∃ G2, Sim G2 x2 v ∧ Holds G2 w' H2 ∧ Step G w H G2 w' H2 ∧ ∀ id, G2.live id → G.live id ∨ (k ≤ id ∧ id < M) := by
   intro x2 v hv
   have hrel : Rel ⟨G, w, H, k, []⟩ No G' ⟨AV.renL (rn ids top) [x2], renH (rn ids top) H2, top⟩ { tmps := #[v], defers := [] } w' := by
    refine ⟨rfl, fun t _ => ?_, rfl, hH, hS, fun id hid => ?_, ?_, hkt, fun id hid => (hL id hid).imp_right And.left⟩
    ·cases t with
     | zero => exact .of hv
     | succ t => exact .of (.data _ _ (.dead _))
    ·rcases hL id hid with h | h
     ·exact Nat.lt_of_lt_of_le (h1 id h) hkt
     ·exact h.2
    ·rw [hS.base, h3]; exact hS.size
   obtain ⟨G2, hr2⟩ := ConvN.ren (t := [x2]) (H := H2) ids i1 i2 i3 rfl _ _ _ _ h1 (Nat.le_refl _) hrel
   refine ⟨G2, ?_, hr2.holds, hr2.step, fun id hid => (hr2.old id hid).imp_right fun hk => ⟨hk, Nat.lt_of_lt_of_le (hr2.next id hid) i4⟩⟩
   have h7 := hr2.slots 0 (fun h => h)
   have h8 : Slot G2 x2 v := h7
   unfold Slot at h8
   split at h8
   ·rename_i rows
    exfalso
    rw [AV.ren] at hv
    cases hv with
    | data _ _ h =>
     cases h with
     | nil _ _ _ _ _ hs => rcases hs with h | h <;> cases h
     | list _ _ _ _ _ _ _ _ _ _ hs _ _ _ _ => rcases hs with h | h <;> cases h
   ·exact h8
  cases out2 with
  | ret x2 =>
   cases e with
   | returned v =>
    obtain ⟨G2, k1, k2, k3, k4⟩ := go x2 v hO
    exact ⟨G2, .ret x2, H2, hR2, k1, k2, k3, k4⟩
   | panicked ch => exact hO.elim
   | outgrown => exact hO.elim
  | panic x2 =>
   cases e with
   | returned v => exact hO.elim
   | panicked ch =>
    obtain ⟨v, rfl, hv⟩ := hO
    obtain ⟨G2, k1, k2, k3, k4⟩ := go x2 v hv
    exact ⟨G2, .panic x2, H2, hR2, ⟨v, rfl, k1⟩, k2, k3, k4⟩
   | outgrown => exact hO.elim
 rcases h G w vals h1 h2 h3 h4 h5 h6 with ⟨k1, k2⟩ | ⟨v, w', k1, G', out, H', k2, k3, k4, k5, k6⟩
 ·exact .inl ⟨k1, k2.mono fun e w' ⟨G', out, H', q1, q2, q3, q4, q5⟩ => key G' w' out H' e q1 q2 q3 q4 q5⟩
 ·exact .inr ⟨v, w', k1, key G' w' out H' _ k2 k3 k4 k5 k6⟩
theorem ACalls.conv {P : Program} {f : FuncId} {k top M : Nat} {args : List AV} {H : Heap} {R R2 : AOut → Heap → Prop} (h : ACalls P f k top args H R) (hkt : k ≤ top) (hM : top ≤ M)
  (hr : ∀ x H', R (.ret x) H' → ∃ x2 H2 M', M' ≤ M ∧ ConvN k ⟨[x], H', top⟩ ⟨[x2], H2, M'⟩ ∧ (∀ rows, x2 ≠ .list rows .lit) ∧ R2 (.ret x2) H2) (hp : ∀ x H', R (.panic x) H' → R2 (.panic x) H') : ACalls P f k M args H R2 := by
 intro G w vals h1 h2 h3 h4 h5 h6
 have key : ∀ (G' : Ghost) (w' : World) (out : AOut) (H' : Heap) (e : Ending), R out H' → OSim G' out e → Holds G' w' H' → Step G w H G' w' H' → (∀ id, G'.live id → G.live id ∨ (k ≤ id ∧ id < top)) →
   ∃ G2 out2 H2, R2 out2 H2 ∧ OSim G2 out2 e ∧ Holds G2 w' H2 ∧ Step G w H G2 w' H2 ∧ ∀ id, G2.live id → G.live id ∨ (k ≤ id ∧ id < M) := by
  intro G' w' out H' e hR hO hH hS hL
  cases out with
  | panic x => exact ⟨G', .panic x, H', hp x H' hR, hO, hH, hS, fun id hid => (hL id hid).imp_right fun h => ⟨h.1, Nat.lt_of_lt_of_le h.2 hM⟩⟩
  | ret x =>
   obtain ⟨x2, H2, M', i4, hc, hl, hR2⟩ := hr x H' hR
   cases e with
   | panicked ch => exact hO.elim
   | outgrown => exact hO.elim
   | returned v =>
    have hrel : Rel ⟨G, w, H, k, []⟩ No G' ⟨[x], H', top⟩ { tmps := #[v], defers := [] } w' := by
     refine ⟨rfl, fun t _ => ?_, rfl, hH, hS, fun id hid => ?_, ?_, hkt, fun id hid => (hL id hid).imp_right And.left⟩
     ·cases t with
      | zero => exact .of hO
      | succ t => exact .of (.data _ _ (.dead _))
     ·rcases hL id hid with h | h
      ·exact Nat.lt_of_lt_of_le (h1 id h) hkt
      ·exact h.2
     ·rw [hS.base, h3]; exact hS.size
    obtain ⟨G2, hr2⟩ := hc _ _ _ _ h1 (Nat.le_refl _) hrel
    refine ⟨G2, .ret x2, H2, hR2, ?_, hr2.holds, hr2.step, fun id hid => (hr2.old id hid).imp_right fun hk => ⟨hk, Nat.lt_of_lt_of_le (hr2.next id hid) i4⟩⟩
    have h8 : Slot G2 x2 v := hr2.slots 0 (fun h => h)
    unfold Slot at h8
    split at h8
    ·rename_i rows; exact absurd rfl (hl rows)
    ·exact h8
 rcases h G w vals h1 h2 h3 h4 h5 h6 with ⟨k1, k2⟩ | ⟨v, w', k1, G', out, H', k2, k3, k4, k5, k6⟩
 ·exact .inl ⟨k1, k2.mono fun e w' ⟨G', out, H', q1, q2, q3, q4, q5⟩ => key G' w' out H' e q1 q2 q3 q4 q5⟩
 ·exact .inr ⟨v, w', k1, key G' w' out H' _ k2 k3 k4 k5 k6⟩
theorem ext_c {P : Program} {f : FuncId} {fn : Func} {e : Array Value → Sem Value} (hf : P.funcs[f]? = some fn) (hname : (fn.name == "runtime.NumGoroutine") = false) (hb : fn.body.isNone = true) (hn : Extern.findNext fn = none) (he : Extern.find fn = some e) {x y : Value}
  (hr : ∀ w, (e #[x]).run P w = .ok y w) : ACalls P f 0 0 [.v x] [] fun out H' => out = .ret (.v y) ∧ H' = [] := by
 intro G w vals h1 h2 h3 h4 h5 h6
 have hv : vals = #[x] := by
  have h7 : vals.size = 1 := by simpa using h5.symm
  have h8 := (h6 0 _ rfl).v_inv
  apply Array.ext
  ·rw [h7]; rfl
  ·intro i hi _
   have : i = 0 := by omega
   subst this
   simpa [Array.getD, hi] using h8
 subst hv
 refine .inr ⟨y, w, ?_, G, .ret (.v y), [], ⟨rfl, rfl⟩, .data _ _ (.v y), h4, Step.refl _ _ _, fun id h => .inl h⟩
 rw [Go.run_callFunc_extern hf hname hb hn he, hr]
 rfl
def Ghost.start (w : World) : Ghost := { X := fun b i => w.cell? ⟨b, i, none⟩, loc := fun _ => 0, tk := fun _ => ⟨0, 0, undef, none⟩, live := fun _ => False, lits := fun _ => False, base := w.heap.size }
theorem ACalls.walk {P : Program} {f : FuncId} {fn : Func} {c : Code} (hf : FnIs P f fn c) {top : Nat} {args : List AV} {v : Value} {w : World} {vals : Array Value} (h : ACalls P f 0 top args [] fun out H' => out = .ret (.v v) ∧ H' = []) (hl : args.length = vals.size)
  (hs : ∀ (i : Nat) (a : AV), args[i]? = some a → Sim (Ghost.start w) a (vals.getD i undef)) : Calls P f vals w fun e w' => e = .returned v ∧ Below w.heap.size w w' := by
 have hh : Holds (Ghost.start w) w [] := ⟨fun _ _ _ h => h, fun r hr => (List.not_mem_nil hr).elim, by simp, fun r hr => (List.not_mem_nil hr).elim, by simp [blocksOf], fun b hb => hb.elim⟩
 rcases h (Ghost.start w) w vals (fun _ h => h.elim) (fun _ h => h) rfl hh hl hs with ⟨_, k⟩ | ⟨u, w', k, _⟩
 ·refine k.mono fun e w' ⟨G', out, H', ⟨k1, k2⟩, k3, k4, k5, k6⟩ => ?_
  subst k1; subst k2
  refine ⟨?_, k5.below (fun _ h => h) rfl⟩
  cases e with
  | returned u => rw [Sim.v_inv k3]
  | panicked ch => exact k3.elim
  | outgrown => exact k3.elim
 ·exfalso
  have hp : program.run P w = .ok P w := rfl
  unfold callFunc at k
  rw [Sem.run_bind, hp] at k
  simp only [Result.andThen, hf.get, hf.name, hf.body] at k
  cases k
end Go.Am
