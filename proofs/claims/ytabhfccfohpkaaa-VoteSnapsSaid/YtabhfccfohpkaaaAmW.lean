/- Regions that draw their order: the formula is right (the theorem). -/
import Derived.Test.YtabhfccfohpkaaaAmV
namespace Go.Am
open Go.RowKit
set_option linter.unusedSimpArgs false
set_option linter.unusedVariables false

def drB (P : Program) (TT : Types) (all : List Oper) (pr : List (List Nat)) (K : Kn) (KP : AV → Kn) (fuel : Nat) (S FL : List Nat) (L : Heap) : List Nat → List AV → Nat → Prop := fun E s n => match satB all pr E S with
    | false => False
    | true => match effsOf all S (fun _ => true) with
      | [] => flush TT all s (allocsOf all FL fun _ => true) L fun L' => forceH L' fun L'' => K s L'' n
      | _ :: _ => match fuel with
        | 0 => False
        | fuel + 1 => allK (effsOf all S (availB pr E S)) fun e => match all[e]? with
          | none => False
          | some o => flush TT all s (allocsOf all FL fun j => memB j (pr.getD e [])) L fun L1 =>
            guarded all s o (aop P TT o s L1 n (fun av L2 n2 => putD s o.dst av fun s2 => forceH L2 fun L3 => rechk TT all (pr.getD e []) E s2 L3 (List.range all.length)
                (dr P TT all pr K KP fuel E (e :: S) (allocsOf all FL (fun j => memB j (pr.getD e [])) ++ FL) s2 L3 n2)) (fun x L2 n2 => KP x (killA all s) L2 n2))
              (putD s o.dst (.v (.tuple #[])) fun s2 => dr P TT all pr K KP fuel E (e :: S) (allocsOf all FL (fun j => memB j (pr.getD e [])) ++ FL) s2 L1 n)
theorem dr_eq {P : Program} {TT : Types} {all : List Oper} {pr : List (List Nat)} {K : Kn} {KP : AV → Kn} (fuel : Nat) (E S FL : List Nat) (s : List AV) (L : Heap) (n : Nat) :
    dr P TT all pr K KP fuel E S FL s L n = evGo P TT all pr S L (List.range all.length) E s n (drB P TT all pr K KP fuel S FL L) := by
  cases fuel <;> (unfold dr; rfl)

section
variable {P : Program} {TT : Types} {B : Base} {listed : Array Bool} {E S FL : List Nat} {s : List AV} {L : Heap} {n : Nat} {G : Ghost} {a : Act} {w : World} {ops : Array Oper}

theorem mem_ready' {j : Nat} (hsz : listed.size = ops.toList.length) : j ∈ Region.ready .any ops listed ↔ ∃ o, ops.toList[j]? = some o ∧ ¬ Lst listed j ∧ ∀ i ∈ edgesOf o, Lst listed i := by
  rw [mem_ready]
  have hg : ∀ {o : Oper}, ops.toList[j]? = some o → (listed.getD j true = listed.getD j false) := fun ho => by
    have : j < listed.size := by rw [hsz]; exact (List.getElem?_eq_some_iff.1 ho).1
    simp [this]
  constructor
  · rintro ⟨h1, o, h2, h3⟩
    have ho : ops.toList[j]? = some o := by rw [Array.getElem?_toList]; exact h2
    refine ⟨o, ho, fun hl => ?_, fun i hi => ?_⟩
    · unfold Lst at hl; rw [hg ho, hl] at h1; cases h1
    · unfold edgesOf at hi
      obtain ⟨e, he, hx⟩ := List.mem_filterMap.1 hi
      split at hx
      · rename_i hb
        cases hx
        exact h3 e (by simpa using he) hb
      · cases hx
  · rintro ⟨o, ho, h1, h2⟩
    refine ⟨?_, o, by rw [← Array.getElem?_toList]; exact ho, fun e he hb => h2 e.on (List.mem_filterMap.2 ⟨e, by simpa using he, by rw [if_pos hb]⟩)⟩
    rw [hg ho]
    cases hx : listed.getD j false
    · rfl
    · exact absurd hx h1
/-- nothing may come up any more: all is done -/
theorem all_done (hk : OkD ops.toList) (hsz : listed.size = ops.toList.length) (h : Region.ready .any ops listed = []) : ∀ j (o : Oper), ops.toList[j]? = some o → Lst listed j := by
  intro j
  induction j using Nat.strongRecOn with
  | _ j ih =>
    intro o ho
    refine Classical.byContradiction fun hl => ?_
    have : j ∈ Region.ready .any ops listed := (mem_ready' hsz).2 ⟨o, ho, hl, fun i hi => by
      have hlt := hk.back j o ho i hi
      have hil : i < ops.toList.length := Nat.lt_trans hlt (List.getElem?_eq_some_iff.1 ho).1
      exact ih i hlt _ (List.getElem?_eq_getElem hil)⟩
    rw [h] at this; cases this

theorem rechk_spec {TT : Types} {all : List Oper} {pe E : List Nat} {k : Prop} : ∀ (js : List Nat), rechk TT all pe E s L js k → k ∧ ∀ j ∈ js, ∀ o t x, all[j]? = some o → o.op = .load t x → j ∈ E → j ∉ pe → guarded all s o (opt1 o.dst fun d => opt1 (TT t) fun ti => aload L ti (ev s x) = some (getA s d)) True
  | [], h => ⟨h, fun j hj => by cases hj⟩
  | j :: js, h => by
    unfold rechk at h
    split at h
    · rename_i o hj
      split at h
      · rename_i t x ho hb
        obtain ⟨h1, h2⟩ := h
        obtain ⟨k1, k2⟩ := rechk_spec js h2
        refine ⟨k1, fun i hi => ?_⟩
        rcases List.mem_cons.1 hi with rfl | hi
        · intro o' t' x' ho' hop _ _
          rw [hj] at ho'; cases ho'
          rw [ho] at hop; cases hop
          exact h1
        · exact k2 i hi
      · rename_i hno
        obtain ⟨k1, k2⟩ := rechk_spec js h
        refine ⟨k1, fun i hi => ?_⟩
        rcases List.mem_cons.1 hi with rfl | hi
        · intro o' t' x' ho' hop hE hpe
          rw [hj] at ho'; cases ho'
          refine absurd ?_ (hno t' x' hop)
          rw [Bool.and_eq_true, memB_iff, Bool.not_eq_true']
          refine ⟨hE, ?_⟩
          cases hm : memB i pe
          · rfl
          · exact absurd (memB_iff.1 hm) hpe
        · exact k2 i hi
    · rename_i hj
      obtain ⟨k1, k2⟩ := rechk_spec js h
      refine ⟨k1, fun i hi => ?_⟩
      rcases List.mem_cons.1 hi with rfl | hi
      · intro o' t' x' ho'; rw [hj] at ho'; cases ho'
      · exact k2 i hi

theorem left_fewer {i : Nat} {o : Oper} {g : Nat} (hi : ops.toList[i]? = some o) (hsz : listed.size = ops.toList.length) (hl : ¬ Lst listed i) (hg : ((List.range ops.toList.length).filter fun j => !(listed.getD j false)).length ≤ g + 1) :
    ((List.range ops.toList.length).filter fun j => !((listed.setIfInBounds i true).getD j false)).length ≤ g := by
  have hs : i < listed.size := by rw [hsz]; exact (List.getElem?_eq_some_iff.1 hi).1
  have h1 := one_perm (p := fun j => !((listed.setIfInBounds i true).getD j false)) (List.nodup_range (n := ops.toList.length)) (range_mem hi) (by simp only [lst_set_b hs]; simp)
  have h2 : (List.range ops.toList.length).filter (fun x => !((listed.setIfInBounds i true).getD x false) || x == i) = (List.range ops.toList.length).filter fun j => !(listed.getD j false) := List.filter_congr fun x _ => by
    simp only [lst_set_b hs]
    have hl' : listed.getD i false = false := by
      cases h : listed.getD i false
      · rfl
      · exact absurd h hl
    by_cases hx : x = i
    · subst hx; simp only [hl']; simp
    · have : (x == i) = false := by simpa using hx
      simp only [this]; cases listed.getD x false <;> rfl
  rw [h2] at h1
  have := h1.length_eq
  simp only [List.length_cons] at this
  omega

theorem allocObj_inv {o : Oper} {r : Nat × Res} (h : allocObj TT s o = some r) : ∃ t d ti z, o.op = .alloc t ∧ o.dst = some d ∧ TT t = some ti ∧ getA s d = .ptr r.1 0 ∧ ti.zero = some z ∧ r.2 = .box (zcells z) := by
  unfold allocObj at h
  split at h
  · rename_i t d ho hd
    split at h
    · rename_i ti id hti hg
      split at h
      · rename_i z hz
        cases h
        exact ⟨t, d, ti, z, ho, hd, hti, hg, hz, rfl⟩
      · cases h
    · cases h
  · cases h
theorem isE_noAl {o : Oper} (h : isE o = true) : isAl o = false := by
  cases ha : isAl o
  · rfl
  · rw [alloc_noE ha] at h; cases h

/-- the invariant behind an effect -/
theorem DI.effect {all : List Oper} (hT : TOk P TT) (hk : OkD all) (h : DI P TT B all listed E S FL s L n G a w) {i : Nat} {o : Oper} (hi : all[i]? = some o) (he : isE o = true) (hnl : ¬ Lst listed i) (hedge : ∀ j ∈ edgesOf o, Lst listed j) {x : AV} {v : Value} {L2 : Heap} {n2 : Nat} {G' : Ghost} {w' : World}
    (hn : n ≤ n2) (hr : Rel B (Undone all listed) G' ⟨s, L2 ++ pendL TT all s FL (fun j => listed.getD j false), n2⟩ a w') (hx : Slot G' x v) (hlive : ∀ id, G'.live id → G.live id ∨ n ≤ id)
    (hload : ∀ j ∈ E, ∀ oj t y, all[j]? = some oj → oj.op = .load t y → ¬ Lst listed j → j ∉ (pres all).getD i [] → guarded all (putS s o.dst x) oj (opt1 oj.dst fun d => opt1 (TT t) fun ti => aload L2 ti (ev (putS s o.dst x) y) = some (getA (putS s o.dst x) d)) True ∨ L2 = L) :
    DI P TT B all (listed.setIfInBounds i true) E (i :: S) FL (putS s o.dst x) L2 n2 G' (a.put o.dst v) w' := by
  have hsz : i < listed.size := by rw [h.size]; exact (List.getElem?_eq_some_iff.1 hi).1
  have hset : ∀ j, Lst (listed.setIfInBounds i true) j ↔ (Lst listed j ∨ j = i) := fun j => lst_set hsz
  have hiS : i ∉ S := fun hm => hnl ((h.eff i o hi he).2 hm)
  have hiE : i ∉ E := fun hm => by
    obtain ⟨o', h1, h2, _⟩ := h.Eav i hm
    rw [hi] at h1; cases h1; rw [he] at h2; cases h2
  have hlen : (putS s o.dst x).length = s.length := by cases o.dst <;> simp [putS, setA_eq]
  have hput : ∀ t, o.dst ≠ some t → getA (putS s o.dst x) t = getA s t := fun t ht => by
    cases hd : o.dst with
    | none => rfl
    | some d => simp only [putS]; rw [getA_setA, if_neg (by rintro ⟨rfl, _⟩; exact ht hd)]
  have hold : ∀ j ∈ E, ∀ oj, all[j]? = some oj → (¬ Lst listed j → ∀ t ∈ looks all oj, getA (putS s o.dst x) t = getA s t) ∧ ∀ e, oj.dst = some e → getA (putS s o.dst x) e = getA s e := fun j hj oj hoj => by
    have hij : i ≠ j := fun e => hiE (e ▸ hj)
    refine ⟨fun hlj t ht => hput t fun e => ?_, fun e hde => hput e fun ee => hk.dst i j o oj e hij hi hoj ee hde⟩
    refine not_looked hk hi hoj e hij (fun hm => ?_) (fun _ hm => hlj (h.preL hi hedge j hm)) ht
    rcases h.pre hj i hm with h1 | h1
    · exact hiE h1
    · exact hiS h1
  have hpend : pendL TT all (putS s o.dst x) FL (fun j => (listed.setIfInBounds i true).getD j false) = pendL TT all s FL (fun j => listed.getD j false) := by
    rw [pend_same hi (isE_noAl he) hsz]
    exact pendL_congr fun j oj hoj hal hl => allocObj_congr fun e hde => (hold j (h.Ein j oj hoj (alloc_noE hal) hl) oj hoj).2 e hde
  refine ⟨by simp [h.size], h.done hk hi hedge, fun j oj hj hje => ?_, fun j hj => ?_, fun j hj => ?_, fun j oj hj hje hl => ?_, ?_, fun j hj oj hoj hal hl => ?_, fun j hj oj hoj hal => ?_, fun j hj j' hj' hne oj oj' rj rj' h1 h2 h3 h4 h5 h6 => ?_⟩
  · rw [hset, h.eff j oj hj hje, List.mem_cons]
    exact or_comm
  · rcases List.mem_cons.1 hj with rfl | hj
    · exact ⟨o, hi, he⟩
    · exact h.Sin j hj
  · obtain ⟨oj, h1, h2, h3⟩ := h.Eav j hj
    exact ⟨oj, h1, h2, availB_mono h3 (fun _ h => h) fun _ h => List.mem_cons_of_mem _ h⟩
  · rcases (hset j).1 hl with hl | rfl
    · exact h.Ein j oj hj hje hl
    · rw [hi] at hj; cases hj; rw [he] at hje; cases hje
  · rw [hpend]
    refine (hr.put o.dst hx).weakU fun t ⟨⟨j, oj, hj, hl, hd, hqq⟩, hne⟩ => ⟨j, oj, hj, fun hl' => ?_, hd, hqq⟩
    rcases (hset j).1 hl' with hl' | rfl
    · exact hl hl'
    · rw [hi] at hj; cases hj; exact hne hd
  · have hl0 : ¬ Lst listed j := fun h0 => hl ((hset j).2 (.inl h0))
    obtain ⟨h1, h2⟩ := hold j hj oj hoj
    replace h1 := h1 hl0
    have hq := h.quiet j hj oj hoj hal hl0
    have hno : ∀ {d : Nat}, oj.dst = some d → d < (putS s o.dst x).length → (∀ e, oj.dst = some e → e < s.length → getA s e = .v (.tuple #[])) → getA (putS s o.dst x) d = .v (.tuple #[]) := fun hd hlt hh => by rw [h2 _ hd]; exact hh _ hd (by rw [← hlen]; exact hlt)
    cases hld : isLd oj with
    | false =>
      refine guarded_congr h1 (guarded_mono hq (fun ⟨av, k1, k2⟩ => ⟨av, (k1.indep hld).congr h1, fun e hde hlt => ?_⟩) fun k e hde hlt => hno hde hlt k)
      rw [h2 e hde]; exact k2 e hde (by rw [← hlen]; exact hlt)
    | true =>
      obtain ⟨t, y, hop⟩ : ∃ t y, oj.op = .load t y := by
        unfold isLd at hld; split at hld
        · exact ⟨_, _, by assumption⟩
        · cases hld
      rcases hload j hj oj t y hoj hop hl0 (fun hm => hl0 (h.preL hi hedge j hm)) with hld2 | rfl
      · refine guarded_mono (guarded_and (guarded_congr h1 hq) hld2) (fun ⟨_, k⟩ => ?_) fun ⟨k, _⟩ e hde hlt => hno hde hlt k
        obtain ⟨d, hd, k⟩ := opt1_some k
        obtain ⟨ti, hti, k⟩ := opt1_some k
        obtain ⟨hti'⟩ := hT.get hti
        refine ⟨_, by unfold Known; rw [hld]; exact q_load hop hti' k, fun e hde _ => ?_⟩
        rw [hd] at hde; cases hde; rfl
      · refine guarded_congr h1 (guarded_mono hq (fun ⟨av, k1, k2⟩ => ⟨av, k1.congr h1, fun e hde hlt => ?_⟩) fun k e hde hlt => hno hde hlt k)
        rw [h2 e hde]; exact k2 e hde (by rw [← hlen]; exact hlt)
  · obtain ⟨r, k1, k2, k3, k4⟩ := h.alloc j hj oj hoj hal
    refine ⟨r, by rw [allocObj_congr (hold j hj oj hoj).2]; exact k1, Nat.lt_of_lt_of_le k2 hn, k3, fun hl hlv => ?_⟩
    rcases hlive _ hlv with h0 | h0
    · exact k4 (fun h' => hl ((hset j).2 (.inl h'))) h0
    · omega
  · rw [allocObj_congr (hold j hj oj h1).2] at h5
    rw [allocObj_congr (hold j' hj' oj' h2).2] at h6
    exact h.inj j hj j' hj' hne oj oj' rj rj' h1 h2 h3 h4 h5 h6

theorem dr_sound (hT : TOk P TT) (hk : OkD ops.toList) {Kk : Kc} : ∀ (g : Nat) (listed : Array Bool) (E S FL : List Nat) (s : List AV) (L : Heap) (n : Nat) (G : Ghost) (a : Act) (w : World) (fuel : Nat),
    ((List.range ops.toList.length).filter fun j => !(listed.getD j false)).length ≤ g → DI P TT B ops.toList listed E S FL s L n G a w → (∀ j ∈ FL, Lst listed j) → drB P TT ops.toList (pres ops.toList) (Kk .normal) (fun x => Kk (.panic x)) fuel S FL L E s n →
    wpAny P .any ops (Post B Kk) g listed a w := by
  have fin : ∀ (listed : Array Bool) (E S FL : List Nat) (s : List AV) (L : Heap) (n : Nat) (G : Ghost) (a : Act) (w : World) (fuel : Nat), DI P TT B ops.toList listed E S FL s L n G a w → drB P TT ops.toList (pres ops.toList) (Kk .normal) (fun x => Kk (.panic x)) fuel S FL L E s n →
      Region.ready .any ops listed = [] → Post B Kk .normal a w := by
    intro listed E S FL s L n G a w fuel h hb hr
    have hall := all_done hk h.size hr
    unfold drB at hb
    split at hb
    · exact hb.elim
    · split at hb
      · obtain ⟨L', h1, h2⟩ := flush_spec _ _ hb
        rw [forceH_eq] at h2
        refine ⟨.normal, s, L', n, G, h2, trivial, ?_⟩
        have e1 : pendL TT ops.toList s FL (fun j => listed.getD j false) = (allocsOf ops.toList FL fun _ => true).filterMap (objAt TT ops.toList s) := by
          unfold pendL allocsOf
          congr 1
          refine List.filter_congr fun x hx => ?_
          cases ho : ops.toList[x]? with
          | none => rfl
          | some o =>
            have : listed.getD x false = true := hall x o ho
            simp only [this]
        have hp : L'.Perm (L ++ pendL TT ops.toList s FL (fun j => listed.getD j false)) := by rw [e1]; exact h1.trans List.perm_append_comm
        have hr := h.rel
        exact ⟨hr.size, fun t _ => hr.slots t fun ⟨j, o, hj, hl, _⟩ => hl (hall j o hj), hr.defers, hr.holds.perm hp.symm, hr.step.perm (.refl _) hp.symm, hr.next, hr.base, hr.low, hr.old⟩
      · rename_i e es hes
        have : e ∈ effsOf ops.toList S (fun _ => true) := by rw [hes]; exact List.mem_cons_self
        unfold effsOf at this
        have h2 := (List.mem_filter.1 this).2
        split at h2
        · rename_i o ho
          simp only [Bool.and_eq_true, Bool.not_eq_true', Bool.and_true] at h2
          have := (h.eff e o ho h2.1).1 (hall e o ho)
          rw [memB_iff.2 this] at h2; cases h2.2
        · cases h2
  intro g
  induction g with
  | zero =>
    intro listed E S FL s L n G a w fuel hg h hFL hb
    have hr : Region.ready .any ops listed = [] := by
      cases hrd : Region.ready .any ops listed with
      | nil => rfl
      | cons i is =>
        obtain ⟨o, ho, hl, _⟩ := (mem_ready' h.size).1 (by rw [hrd]; exact List.mem_cons_self : i ∈ Region.ready .any ops listed)
        have : i ∈ (List.range ops.toList.length).filter fun j => !(listed.getD j false) := List.mem_filter.2 ⟨range_mem ho, by
          cases hx : listed.getD i false
          · rfl
          · exact absurd hx hl⟩
        rw [List.length_eq_zero_iff.1 (Nat.le_zero.1 hg)] at this
        cases this
    exact ⟨hr, fin _ _ _ _ _ _ _ _ _ _ _ h hb hr⟩
  | succ g ih =>
    intro listed E S FL s L n G a w fuel hg h hFL hb
    refine ⟨fin _ _ _ _ _ _ _ _ _ _ _ h hb, fun i hi => ?_⟩
    obtain ⟨o, ho, hnl, hedge⟩ := (mem_ready' h.size).1 hi
    have hopi : ops[i]? = some o := by rw [← Array.getElem?_toList]; exact ho
    have hsz : i < listed.size := by rw [h.size]; exact (List.getElem?_eq_some_iff.1 ho).1
    have hpre := h.preL ho hedge
    have hfew := left_fewer ho h.size hnl hg
    have hclosed' := h.done hk ho hedge
    have hset : ∀ j, Lst (listed.setIfInBounds i true) j ↔ (Lst listed j ∨ j = i) := fun j => lst_set hsz
    -- what is looked at is there
    have hlook : ∀ t ∈ looks ops.toList o, ∀ (j : Nat) (oj : Oper), j ≠ i → ops.toList[j]? = some oj → ¬ Lst listed j → isE oj = false → oj.dst ≠ some t := fun t ht j oj hne hj hl hqq hd => (hk.looks j i oj o t hne hj ho hd ht).elim (fun h1 => hl (hpre j h1)) fun h1 => by rw [hqq] at h1; cases h1.1
    have hsat : satB ops.toList (pres ops.toList) E S = true := by
      unfold drB at hb
      split at hb
      · exact hb.elim
      · assumption
    have havail : availB (pres ops.toList) E S i = true := by
      unfold availB
      refine List.all_eq_true.2 fun j hj => ?_
      rw [Bool.or_eq_true, memB_iff, memB_iff]
      have hl := hpre j hj
      have hjlt : j < ops.toList.length := by
        rw [← h.size]
        unfold Lst at hl
        rw [Array.getD_eq_getD_getElem?] at hl
        cases hx : listed[j]? with
        | none => rw [hx] at hl; cases hl
        | some b => exact (Array.getElem?_eq_some_iff.1 hx).1
      have hoj := List.getElem?_eq_getElem hjlt
      cases he : isE ops.toList[j] with
      | true => exact .inr ((h.eff j _ hoj he).1 hl)
      | false => exact .inl (h.Ein j _ hoj he hl)
    have hiE : isE o = false → i ∈ E := fun he => by
      unfold satB at hsat
      have h1 := List.all_eq_true.1 hsat i (range_mem ho)
      rw [ho] at h1
      simp only [he, havail, Bool.not_true, Bool.or_false, Bool.false_or] at h1
      exact memB_iff.1 h1
    have hU : ∀ t ∈ looks ops.toList o, ¬ Undone ops.toList listed t := fun t ht ⟨j, oj, hj, hl, hd, hqq⟩ => by
      by_cases hji : j = i
      · subst hji; rw [ho] at hj; cases hj; exact hk.own2 j o t ho hd ht
      · exact hlook t ht j oj hji hj hl hqq hd
    have hUo : ∀ t, .tmp t ∈ o.op.operands → ¬ Undone ops.toList listed t := fun t ht => hU t (ops_looks ht)
    have hUg : ∀ j b d, o.guard = some (j, b) → (ops[j]?).bind (·.dst) = some d → ¬ Undone ops.toList listed d := fun j b d hg hd => hU d (by
      unfold looks; rw [hg]
      simp only [Array.getElem?_toList, hd, Option.toList_some]
      exact List.mem_append_right _ (List.mem_singleton.2 rfl))
    unfold wpOp
    rw [hopi]
    simp only
    cases he : isE o with
    | false =>
      have hmE := hiE he
      obtain ⟨d, hd, hown⟩ := hk.own i o ho he
      have hFLi : i ∉ FL := fun hm => hnl (hFL i hm)
      have hFL' : ∀ j ∈ FL, Lst (listed.setIfInBounds i true) j := fun j hj => (hset j).2 (.inl (hFL j hj))
      have hweak : ∀ t, (Undone ops.toList listed t ∧ d ≠ t) → Undone ops.toList (listed.setIfInBounds i true) t := fun t ⟨⟨j, oj, hj, hl, hdj, hqq⟩, hne⟩ => ⟨j, oj, hj, fun hl' => by
        rcases (hset j).1 hl' with hl' | rfl
        · exact hl hl'
        · rw [ho] at hj; cases hj; rw [hd] at hdj; cases hdj; exact hne rfl, hdj, hqq⟩
      have hmk : ∀ (G' : Ghost) (a' : Act) (w' : World), Rel B (Undone ops.toList (listed.setIfInBounds i true)) G' ⟨s, L ++ pendL TT ops.toList s FL (fun j => (listed.setIfInBounds i true).getD j false), n⟩ a' w' → (∀ j ∈ E, ∀ oj, ops.toList[j]? = some oj → isAl oj = true → ¬ Lst (listed.setIfInBounds i true) j → ∀ r, allocObj TT s oj = some r → ¬ G'.live r.1) →
          DI P TT B ops.toList (listed.setIfInBounds i true) E S FL s L n G' a' w' := fun G' a' w' hrel hal =>
        ⟨by simp [h.size], hclosed', fun j oj hj hje => by
            rw [hset, h.eff j oj hj hje]
            exact ⟨fun hh => hh.resolve_right (fun e => by subst e; rw [ho] at hj; cases hj; rw [he] at hje; cases hje), .inl⟩,
          h.Sin, h.Eav, fun j oj hj hje hl => by
            rcases (hset j).1 hl with hl | rfl
            · exact h.Ein j oj hj hje hl
            · exact hmE, hrel, fun j hj oj hoj hna hl => h.quiet j hj oj hoj hna fun h0 => hl ((hset j).2 (.inl h0)),
          fun j hj oj hoj hna => by
            obtain ⟨r, k1, k2, k3, _⟩ := h.alloc j hj oj hoj hna
            exact ⟨r, k1, k2, k3, fun hl => hal j hj oj hoj hna hl r k1⟩, h.inj⟩
      cases hal : isAl o with
      | false =>
        have hpd := pend_same (TT := TT) (s := s) (FL := FL) ho hal hsz
        rcases guarded_sound h.rel hUg (h.quiet i hmE o ho hal hnl) with ⟨hw, av, kn, hav⟩ | ⟨hw, hun⟩
        · rw [if_pos hw]
          left
          have hh := h.rel.here (P := P) hUo
          obtain ⟨v, G', w', r1, r2, r3⟩ := kn.ok G w a.eval ⟨hh.ev, hh.raw, hh.holds.left, hh.base⟩
          unfold Oper.wp
          rw [r1, Oper.upon_value]
          have hr' : Rel B (Undone ops.toList listed) G' ⟨s, L ++ pendL TT ops.toList s FL (fun j => listed.getD j false), n⟩ a w' :=
            h.rel.stepped (r3.holds h.rel.holds) (r3.step _) (Nat.le_refl _) fun id hid => by rw [r3.live] at hid; exact ⟨h.rel.next id hid, .inl hid⟩
          rw [hd]
          refine ih _ E S FL s L n G' _ w' fuel hfew (hmk G' _ w' ?_ fun j hj oj hoj hna hl r hr hlv => ?_) hFL' hb
          · rw [hpd]
            exact (hr'.fill fun hlt => by rw [hav d hd hlt]; exact r2).weakU hweak
          · rw [r3.live] at hlv
            obtain ⟨r', k1, _, _, k4⟩ := h.alloc j hj oj hoj hna
            rw [k1] at hr; cases hr
            exact k4 (fun h0 => hl ((hset j).2 (.inl h0))) hlv
        · rw [if_neg (by simp [hw]), hd]
          refine ih _ E S FL s L n G _ w fuel hfew (hmk G _ w ?_ fun j hj oj hoj hna hl r hr hlv => ?_) hFL' hb
          · rw [hpd]
            exact (h.rel.fill fun hlt => by rw [hun d hd hlt]; exact .of (.data _ _ (.v undef))).weakU hweak
          · obtain ⟨r', k1, _, _, k4⟩ := h.alloc j hj oj hoj hna
            rw [k1] at hr; cases hr
            exact k4 (fun h0 => hl ((hset j).2 (.inl h0))) hlv
      | true =>
        obtain ⟨hg, _⟩ := hk.alloc i o ho hal
        obtain ⟨r, hr, hrn, hrk, hrl⟩ := h.alloc i hmE o ho hal
        obtain ⟨t, d', ti, z, hop, hd', hti, hgd, hz, hr2⟩ := allocObj_inv hr
        rw [hd] at hd'; cases hd'
        obtain ⟨hti'⟩ := hT.get hti
        rw [if_pos (by simp [Region.wanted, hg])]
        left
        have hh := h.rel.here (P := P) hUo
        obtain ⟨v, G', w', r1, r2, r3, r4, r5⟩ := e_alloc (id := r.1) hop hti' hz G w a.eval hh (fun id hid => by subst hid; exact hrl hnl)
        have hre : (r.1, Res.box (zcells z)) = r := by rw [← hr2]
        rw [hre] at r3 r4
        have hpm := pend_more (TT := TT) (s := s) (FL := FL) ho hal hsz hnl hFLi hr
        have hperm : (r :: (L ++ pendL TT ops.toList s FL (fun j => listed.getD j false))).Perm (L ++ pendL TT ops.toList s FL (fun j => (listed.setIfInBounds i true).getD j false)) :=
          (List.perm_middle (a := r) (l₁ := L)).symm.trans ((hpm.symm).append_left L)
        have hr' : Rel B (Undone ops.toList listed) G' ⟨s, L ++ pendL TT ops.toList s FL (fun j => (listed.setIfInBounds i true).getD j false), n⟩ a w' :=
          ⟨h.rel.size, fun t ht => (h.rel.slots t ht).mono r4.lits fun _ _ => r4.sim, h.rel.defers, r3.perm hperm, h.rel.step.trans (r4.perm (.refl _) hperm), fun id hid => by
            rcases r5 id hid with h0 | h0
            · exact h.rel.next id h0
            · subst h0; exact hrn, by rw [r4.base]; exact Nat.le_trans h.rel.base r4.size, h.rel.low, fun id hid => by
            rcases r5 id hid with h0 | h0
            · exact h.rel.old id h0
            · subst h0; exact .inr hrk⟩
        have key : wpAny P .any ops (Post B Kk) g (listed.setIfInBounds i true) (a.put o.dst v) w' := by
          rw [hd]
          refine ih _ E S FL s L n G' _ w' fuel hfew (hmk G' _ w' ((hr'.fill fun _ => by
            show Slot G' (getA s d) v
            rw [hgd]; exact .of r2).weakU hweak) fun j hj oj hoj hna hl rj hrj hlv => ?_) hFL' hb
          obtain ⟨r', k1, _, _, k4⟩ := h.alloc j hj oj hoj hna
          rw [k1] at hrj; cases hrj
          rcases r5 _ hlv with h0 | h0
          · exact k4 (fun h0 => hl ((hset j).2 (.inl h0))) h0
          · exact h.inj j hj i hmE (fun e => hl ((hset j).2 (.inr e))) oj o _ r hoj ho hna hal k1 hr h0
        unfold Oper.wp
        rcases r1 with r1 | ⟨r1, rfl⟩
        · rw [r1, Oper.upon_value]; exact key
        · rw [r1, Oper.upon_skip]; exact key
    | true =>
      have hiS : i ∉ S := fun hm => hnl ((h.eff i o ho he).2 hm)
      have hSb : memB i S = false := by
        cases hm : memB i S
        · rfl
        · exact absurd (memB_iff.1 hm) hiS
      have hmem : i ∈ effsOf ops.toList S (fun _ => true) := List.mem_filter.2 ⟨range_mem ho, by rw [ho]; simp only [he, hSb]; rfl⟩
      have hmem2 : i ∈ effsOf ops.toList S (availB (pres ops.toList) E S) := List.mem_filter.2 ⟨range_mem ho, by rw [ho]; simp only [he, hSb, havail]; rfl⟩
      unfold drB at hb
      rw [hsat] at hb
      simp only at hb
      split at hb
      · rename_i h0; rw [h0] at hmem; cases hmem
      · cases fuel with
        | zero => exact hb.elim
        | succ fuel =>
          simp only at hb
          have hb1 := allK_mem hb i hmem2
          simp only [ho] at hb1
          obtain ⟨L1, hL1, hb2⟩ := flush_spec _ _ hb1
          have hpart := pend_part (TT := TT) (all := ops.toList) (s := s) (FL := FL) (lf := fun j => listed.getD j false) (f := fun j => memB j ((pres ops.toList).getD i [])) fun j hj => hpre j (memB_iff.1 hj)
          generalize hA : allocsOf ops.toList FL (fun j => memB j ((pres ops.toList).getD i [])) = A at hL1 hb2 hpart
          have hFL1 : ∀ j ∈ A ++ FL, Lst listed j := fun j hj => by
            rcases List.mem_append.1 hj with hj | hj
            · rw [← hA] at hj
              have h1 := (List.mem_filter.1 hj).2
              split at h1
              · simp only [Bool.and_eq_true] at h1
                exact hpre j (memB_iff.1 h1.2.2)
              · cases h1
            · exact hFL j hj
          have hFL1' : ∀ j ∈ A ++ FL, Lst (listed.setIfInBounds i true) j := fun j hj => (hset j).2 (.inl (hFL1 j hj))
          have hperm : (L ++ pendL TT ops.toList s FL (fun j => listed.getD j false)).Perm (L1 ++ pendL TT ops.toList s (A ++ FL) (fun j => listed.getD j false)) := by
            refine (hpart.append_left L).trans ?_
            rw [← List.append_assoc]
            exact (List.perm_append_comm.trans hL1.symm).append_right _
          have hr := h.rel
          have hrel1 : Rel B (Undone ops.toList listed) G ⟨s, L1 ++ pendL TT ops.toList s (A ++ FL) (fun j => listed.getD j false), n⟩ a w :=
            ⟨hr.size, hr.slots, hr.defers, hr.holds.perm hperm, hr.step.perm (.refl _) hperm, hr.next, hr.base, hr.low, hr.old⟩
          have hsub : L1.Perm (L ++ A.filterMap (objAt TT ops.toList s)) := hL1.trans List.perm_append_comm
          have h1 : DI P TT B ops.toList listed E S (A ++ FL) s L1 n G a w := ⟨h.size, h.closed, h.eff, h.Sin, h.Eav, h.Ein, hrel1,
            fun j hj oj hoj hna hl => guarded_mono (h.quiet j hj oj hoj hna hl) (fun ⟨av, q1, q2⟩ => ⟨av, q1.sub hsub, q2⟩) (fun q => q), h.alloc, h.inj⟩
          rcases guarded_sound hrel1 hUg hb2 with ⟨hw, hop⟩ | ⟨hw, hskip⟩
          · rw [if_pos hw]
            left
            have hB : Rel ⟨G, w, L1, n, B.D⟩ (Undone ops.toList listed) G ⟨s, L1, n⟩ a w := ⟨hr.size, hr.slots, hr.defers, hrel1.holds.left, Step.refl _ _ _, hr.next, hr.base, Nat.le_refl _, fun id hid => .inl hid⟩
            have conv : ∀ (G' : Ghost) (w' : World) (L2 : Heap) (n2 : Nat), n ≤ n2 → Rel ⟨G, w, L1, n, B.D⟩ (Undone ops.toList listed) G' ⟨s, L2, n2⟩ a w' → Rel B (Undone ops.toList listed) G' ⟨s, L2 ++ pendL TT ops.toList s (A ++ FL) (fun j => listed.getD j false), n2⟩ a w' := fun G' w' L2 n2 k3 k4 => by
              obtain ⟨m1, m2⟩ := hrel1.holds.beside k4.holds k4.step
              exact ⟨k4.size, k4.slots, k4.defers, m1, hrel1.step.trans m2, k4.next, k4.base, Nat.le_trans hr.low k3, fun id hid => (k4.old id hid).elim (hr.old id) fun h => .inr (Nat.le_trans hr.low h)⟩
            refine aop_sound hT hB hUo hop ⟨fun av L2 n2 v G' w' k1 k2 k3 k4 => ?_, fun x L2 n2 v G' w' k1 k2 k3 k4 => ?_⟩
            · simp only [putD_eq, forceH_eq] at k1
              obtain ⟨kd, kr⟩ := rechk_spec _ k1
              rw [dr_eq] at kd
              have hD := DI.effect hT hk h1 ho he hnl hedge k3 (conv G' w' L2 n2 k3 k4) k2 (fun id hid => k4.old id hid) fun j hj oj t y hoj hop hl hpe => .inl (kr j (range_mem hoj) oj t y hoj hop hj hpe)
              exact evGo_sound hT hk _ _ _ _ kd hD fun E' s' n' hb' hi' => ih _ E' (i :: S) (A ++ FL) s' L2 n' G' _ w' fuel hfew hi' hFL1' hb'
            · have hc := conv G' w' L2 n2 k3 k4
              refine ⟨.panic x, killA ops.toList s, L2, n2, G', k1, ⟨v, rfl, k2⟩, ?_⟩
              refine ⟨by rw [hc.size]; exact (killA_len _ _).symm, fun t _ => ?_, hc.defers, hc.holds.left, hc.step.sub (.refl _), hc.next, hc.base, hc.low, hc.old⟩
              show Slot G' (getA (killA ops.toList s) t) _
              rcases killA_get ops.toList s t with q | ⟨q1, q2⟩
              · have : getA (killA ops.toList s) t = .dead := q
                rw [this]; exact .of (.data _ _ (.dead _))
              · have : getA (killA ops.toList s) t = getA s t := q1
                rw [this]
                exact hc.slots t fun ⟨j, oj, hj, _, hd⟩ => q2 oj (List.mem_of_getElem? hj) hd.1
          · rw [if_neg (by simp [hw])]
            rw [putD_eq, dr_eq] at hskip
            have hD := DI.effect hT hk h1 ho he hnl hedge (x := .v (.tuple #[])) (v := undef) (Nat.le_refl n) hrel1 (.of (.data _ _ (.v undef))) (fun id hid => .inl hid) fun j hj oj t y hoj hop hl hpe => .inr rfl
            exact evGo_sound hT hk _ _ _ _ hskip hD fun E' s' n' hb' hi' => ih _ E' (i :: S) (A ++ FL) s' L1 n' G _ w fuel hfew hi' hFL1' hb'

/-- a region that draws its order is walked by all the orders that its effects may take -/
theorem draw_ok (hT : TOk P TT) (hm : P.follows .mixedOrders = true) : DOk P (draw P TT) := by
  intro B id ops s L n K G a w h hr
  unfold draw at h
  split at h
  · rename_i hok
    have hk := okD_spec hok
    rw [dr_eq] at h
    refine wp_region_any hm ?_
    have hlst : ∀ j, ¬ Lst (Array.replicate ops.size false) j := fun j hl => by
      unfold Lst at hl
      rw [Array.getD_eq_getD_getElem?, Array.getElem?_replicate] at hl
      split at hl <;> cases hl
    have hp : pendL TT ops.toList s [] (fun j => (Array.replicate ops.size false).getD j false) = [] := by
      unfold pendL allocsOf
      rw [List.filter_eq_nil_iff.2]
      · rfl
      · intro j _
        have : (Array.replicate ops.size false).getD j false = false := by
          cases hx : (Array.replicate ops.size false).getD j false
          · rfl
          · exact absurd hx (hlst j)
        simp only [this]
        split <;> simp
    have hi : DI P TT B ops.toList (Array.replicate ops.size false) [] [] [] s L n G a { w with drawn := w.drawn + 1 } := by
      refine ⟨by simp, fun j o _ hl => absurd hl (hlst j), fun j o _ _ => ⟨fun hl => absurd hl (hlst j), (fun h => by cases h)⟩, (fun j h => by cases h), (fun j h => by cases h), fun j o _ _ hl => absurd hl (hlst j), ?_, (fun j h => by cases h), (fun j h => by cases h), (fun j h => by cases h)⟩
      rw [hp, List.append_nil]
      exact ⟨hr.size, fun t _ => hr.slots t fun h => h, hr.defers, ⟨hr.holds.X, hr.holds.res, hr.holds.ids, hr.holds.live, hr.holds.blocks, hr.holds.lits⟩,
        ⟨hr.step.os, hr.step.tape, hr.step.output, hr.step.size, hr.step.base, hr.step.X, hr.step.frame, hr.step.newX, hr.step.newB, hr.step.live, hr.step.newI, hr.step.lits, hr.step.newL⟩, hr.next, hr.base, hr.low, hr.old⟩
    refine evGo_sound hT hk _ _ _ _ h hi fun E' s' n' hb hi' => ?_
    refine dr_sound hT hk ops.size _ E' [] [] s' L n' G a _ _ ?_ hi' (fun j h => by cases h) hb
    refine Nat.le_trans (List.length_filter_le _ _) ?_
    simp
  · exact h.elim
end
end Go.Am
