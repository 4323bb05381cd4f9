/- Regions that draw their order: the formula is right. -/
import Derived.Test.YtabhfccfohpkaaaAmS
namespace Go.Am
open Go.RowKit
set_option linter.unusedSimpArgs false
set_option linter.unusedVariables false

def isLd (o : Oper) : Bool := match o.op with | .load _ _ => true | _ => false
theorem aq_indep {P : Program} {TT : Types} {L L' : Heap} {ev raw : Operand → AV} {o : Oper} {K : AV → Prop} (h : isLd o = false) (hq : aq P TT L ev raw o K) : aq P TT L' ev raw o K := by
  unfold aq at hq ⊢
  unfold isLd at h
  split at h
  · cases h
  · cases ho : o.op <;> rw [ho] at hq <;> first | exact hq | skip
    rename_i hno _ _
    exact absurd ho (hno _ _)
theorem QOk.any {P : Program} {L : Heap} {ev raw : Operand → AV} {o : Oper} {av : AV} (h : QOk P [] ev raw o av) : QOk P L ev raw o av := fun G w ρ hh =>
  h G w ρ ⟨hh.ev, hh.raw, Holds.left (H := []) (R := L) hh.holds, hh.base⟩
theorem QOk.congr {P : Program} {L : Heap} {ev raw ev' raw' : Operand → AV} {o : Oper} {av : AV} (h : QOk P L ev raw o av) (he : ∀ x ∈ o.op.operands, ev' x = ev x) (hr : ∀ x ∈ o.op.operands, raw' x = raw x) : QOk P L ev' raw' o av := fun G w ρ hh =>
  h G w ρ ⟨fun x hx => by rw [← he x hx]; exact hh.ev x hx, fun x hx => by rw [← hr x hx]; exact hh.raw x hx, hh.holds, hh.base⟩
/-- known at this heap, or at any -/
def Known (P : Program) (L : Heap) (s : List AV) (o : Oper) (av : AV) : Prop := match isLd o with | true => QOk P L (ev s) (raw s) o av | false => QOk P [] (ev s) (raw s) o av
theorem Known.ok {P : Program} {L : Heap} {s : List AV} {o : Oper} {av : AV} (h : Known P L s o av) : QOk P L (ev s) (raw s) o av := by
  unfold Known at h; split at h
  · exact h
  · exact h.any
theorem known_of {P : Program} {TT : Types} (hT : TOk P TT) {L : Heap} {s : List AV} {o : Oper} {K : AV → Prop} (h : aq P TT L (ev s) (raw s) o K) : ∃ av, K av ∧ Known P L s o av := by
  unfold Known
  cases hl : isLd o
  · exact aq_ok hT (aq_indep (L' := []) hl h)
  · exact aq_ok hT h

theorem guarded_cases {all : List Oper} {s : List AV} {o : Oper} {Y N : Prop} (h : guarded all s o Y N) : (Y ∧ ∀ Y' N' : Prop, Y' → guarded all s o Y' N') ∨ (N ∧ ∀ Y' N' : Prop, N' → guarded all s o Y' N') := by
  unfold guarded at h ⊢
  cases hg : o.guard with
  | none => simp only [hg] at h ⊢; exact .inl ⟨h, fun _ _ h => h⟩
  | some p =>
    obtain ⟨j, want⟩ := p
    simp only [hg] at h ⊢
    cases hd : (all[j]?).bind (·.dst) with
    | none => simp only [hd] at h
    | some d =>
      simp only [hd] at h ⊢
      generalize getA s d = x at h ⊢
      cases x with
      | v y =>
        cases y with
        | bool b =>
          cases want <;> cases b <;> simp only [abr] at h ⊢
          · exact .inl ⟨h, fun _ _ h => h⟩
          · exact .inr ⟨h, fun _ _ h => h⟩
          · exact .inr ⟨h, fun _ _ h => h⟩
          · exact .inl ⟨h, fun _ _ h => h⟩
        | tuple vs => exact .inr ⟨h, fun _ _ h => h⟩
        | _ => exact h.elim
      | _ => exact h.elim
theorem guarded_congr {all : List Oper} {s s' : List AV} {o : Oper} {Y N : Prop} (hs : ∀ t ∈ looks all o, getA s' t = getA s t) (h : guarded all s o Y N) : guarded all s' o Y N := by
  unfold guarded at h ⊢
  split at h
  · rename_i h0; exact h
  · rename_i j want h0
    split at h
    · rename_i d hd
      have : getA s' d = getA s d := hs d (by unfold looks; rw [h0]; simp [hd])
      rw [this]; exact h
    · exact h
theorem guarded_mono {all : List Oper} {s : List AV} {o : Oper} {Y N Y' N' : Prop} (h : guarded all s o Y N) (hy : Y → Y') (hn : N → N') : guarded all s o Y' N' := by
  rcases guarded_cases h with ⟨h1, h2⟩ | ⟨h1, h2⟩
  · exact h2 _ _ (hy h1)
  · exact h2 _ _ (hn h1)
theorem guarded_and {all : List Oper} {s : List AV} {o : Oper} {Y N Y' N' : Prop} (h : guarded all s o Y N) (k : guarded all s o Y' N') : guarded all s o (Y ∧ Y') (N ∧ N') := by
  unfold guarded at h k ⊢
  cases hg : o.guard with
  | none => simp only [hg] at h k ⊢; exact ⟨h, k⟩
  | some p =>
    obtain ⟨j, want⟩ := p
    simp only [hg] at h k ⊢
    cases hd : (all[j]?).bind (·.dst) with
    | none => simp only [hd] at h
    | some d =>
      simp only [hd] at h k ⊢
      generalize getA s d = x at h k ⊢
      cases x with
      | v y =>
        cases y with
        | bool b => cases want <;> cases b <;> simp only [abr] at h k ⊢ <;> exact ⟨h, k⟩
        | tuple vs => exact ⟨h, k⟩
        | _ => exact h.elim
      | _ => exact h.elim
theorem Known.indep {P : Program} {L L' : Heap} {s : List AV} {o : Oper} {av : AV} (hl : isLd o = false) (h : Known P L s o av) : Known P L' s o av := by
  unfold Known at h ⊢; rw [hl] at h ⊢; exact h
theorem Known.sub {P : Program} {L L1 X : Heap} {s : List AV} {o : Oper} {av : AV} (hp : L1.Perm (L ++ X)) (h : Known P L s o av) : Known P L1 s o av := by
  unfold Known at h ⊢
  split at h
  · exact fun G w ρ hh => h G w ρ ⟨hh.ev, hh.raw, (hh.holds.perm hp).left, hh.base⟩
  · exact h
theorem ops_looks {all : List Oper} {o : Oper} {t : Nat} (h : .tmp t ∈ o.op.operands) : t ∈ looks all o := by
  unfold looks
  refine List.mem_append_left _ (List.mem_filterMap.2 ⟨.tmp t, by simpa using h, rfl⟩)
theorem ev_congr {s s' : List AV} {x : Operand} (h : ∀ t, x = .tmp t → getA s' t = getA s t) : ev s' x = ev s x ∧ raw s' x = raw s x := by
  cases x with
  | tmp t => simp only [ev, raw]; rw [h t rfl]; exact ⟨rfl, rfl⟩
  | const v => exact ⟨rfl, rfl⟩
  | func f => exact ⟨rfl, rfl⟩
  | global g => exact ⟨rfl, rfl⟩
theorem Known.congr {P : Program} {L : Heap} {s s' : List AV} {all : List Oper} {o : Oper} {av : AV} (h : Known P L s o av) (hs : ∀ t ∈ looks all o, getA s' t = getA s t) : Known P L s' o av := by
  have he : ∀ x ∈ o.op.operands, ev s' x = ev s x ∧ raw s' x = raw s x := fun x hx => ev_congr fun t ht => hs t (ops_looks (ht ▸ hx))
  unfold Known at h ⊢
  split at h
  · exact h.congr (fun x hx => (he x hx).1) fun x hx => (he x hx).2
  · exact h.congr (fun x hx => (he x hx).1) fun x hx => (he x hx).2
theorem allocObj_congr {TT : Types} {s s' : List AV} {o : Oper} (h : ∀ d, o.dst = some d → getA s' d = getA s d) : allocObj TT s' o = allocObj TT s o := by
  unfold allocObj
  cases hd : o.dst with
  | none => cases o.op <;> rfl
  | some d =>
    have e := h d hd
    cases o.op <;> simp only [e]
theorem isNoneB_false {α : Type} {x : Option α} (h : isNoneB x = false) : ∃ r, x = some r := by cases x <;> simp [isNoneB] at h; exact ⟨_, rfl⟩

def Lst (listed : Array Bool) (j : Nat) : Prop := listed.getD j false = true
def Undone (all : List Oper) (listed : Array Bool) : Nat → Prop := fun t => ∃ (j : Nat) (o : Oper), all[j]? = some o ∧ ¬ Lst listed j ∧ o.dst = some t ∧ isE o = false
def objAt (TT : Types) (all : List Oper) (s : List AV) (j : Nat) : Option (Nat × Res) := match all[j]? with | some o => allocObj TT s o | none => none
/-- objects that were made ahead of their turn -/
def pendL (TT : Types) (all : List Oper) (s : List AV) (FL : List Nat) (f : Nat → Bool) : Heap := (allocsOf all FL f).filterMap (objAt TT all s)

structure DI (P : Program) (TT : Types) (B : Base) (all : List Oper) (listed : Array Bool) (E S FL : List Nat) (s : List AV) (L : Heap) (n : Nat) (G : Ghost) (a : Act) (w : World) : Prop where
  size : listed.size = all.length
  closed : ∀ (j : Nat) (o : Oper), all[j]? = some o → Lst listed j → ∀ i ∈ edgesOf o, Lst listed i
  eff : ∀ (j : Nat) (o : Oper), all[j]? = some o → isE o = true → (Lst listed j ↔ j ∈ S)
  Sin : ∀ j ∈ S, ∃ o, all[j]? = some o ∧ isE o = true
  Eav : ∀ j ∈ E, ∃ o, all[j]? = some o ∧ isE o = false ∧ availB (pres all) E S j = true
  Ein : ∀ (j : Nat) (o : Oper), all[j]? = some o → isE o = false → Lst listed j → j ∈ E
  rel : Rel B (Undone all listed) G ⟨s, L ++ pendL TT all s FL (fun j => listed.getD j false), n⟩ a w
  quiet : ∀ j ∈ E, ∀ o, all[j]? = some o → isAl o = false → ¬ Lst listed j → guarded all s o (∃ av, Known P L s o av ∧ ∀ d, o.dst = some d → d < s.length → getA s d = av) (∀ d, o.dst = some d → d < s.length → getA s d = .v (.tuple #[]))
  alloc : ∀ j ∈ E, ∀ o, all[j]? = some o → isAl o = true → ∃ r, allocObj TT s o = some r ∧ r.1 < n ∧ B.k ≤ r.1 ∧ (¬ Lst listed j → ¬ G.live r.1)
  inj : ∀ i ∈ E, ∀ j ∈ E, i ≠ j → ∀ oi oj ri rj, all[i]? = some oi → all[j]? = some oj → isAl oi = true → isAl oj = true → allocObj TT s oi = some ri → allocObj TT s oj = some rj → ri.1 ≠ rj.1

section
variable {P : Program} {TT : Types} {B : Base} {all : List Oper} {listed : Array Bool} {E S FL : List Nat} {s : List AV} {L : Heap} {n : Nat} {G : Ghost} {a : Act} {w : World}

theorem alloc_noE {o : Oper} (h : isAl o = true) : isE o = false := by
  unfold isAl at h; unfold isE opKind
  split at h
  · rename_i t ho; rw [ho]
  · cases h
/-- a slot of one that is not looked at -/
theorem not_looked (hk : OkD all) {i j : Nat} {oi oj : Oper} {d : Nat} (hi : all[i]? = some oi) (hj : all[j]? = some oj) (hd : oi.dst = some d) (hne : i ≠ j) (hp : i ∉ (pres all).getD j []) (hq : isE oi = true → j ∉ (pres all).getD i []) : d ∉ looks all oj :=
  fun hm => (hk.looks i j oi oj d hne hi hj hd hm).elim hp fun h => hq h.1 h.2
theorem DI.pre (h : DI P TT B all listed E S FL s L n G a w) {j : Nat} (hj : j ∈ E) : ∀ i ∈ (pres all).getD j [], i ∈ E ∨ i ∈ S := fun i hi => by
  obtain ⟨o, _, _, h3⟩ := h.Eav j hj
  unfold availB at h3
  have := List.all_eq_true.1 h3 i hi
  rw [Bool.or_eq_true, memB_iff, memB_iff] at this
  exact this
theorem availB_mono {pr : List (List Nat)} {E E' S S' : List Nat} {j : Nat} (h : availB pr E S j = true) (he : ∀ i ∈ E, i ∈ E') (hs : ∀ i ∈ S, i ∈ S') : availB pr E' S' j = true := by
  unfold availB at h ⊢
  refine List.all_eq_true.2 fun i hi => ?_
  have := List.all_eq_true.1 h i hi
  rw [Bool.or_eq_true, memB_iff, memB_iff] at this ⊢
  exact this.imp (he i) (hs i)

theorem pendL_congr {s s' : List AV} {f : Nat → Bool} (h : ∀ (j : Nat) (o : Oper), all[j]? = some o → isAl o = true → f j = true → allocObj TT s' o = allocObj TT s o) : pendL TT all s' FL f = pendL TT all s FL f := by
  unfold pendL allocsOf
  refine filterMap_same fun j hj => ?_
  have h1 := (List.mem_filter.1 hj).2
  unfold objAt
  cases ho : all[j]? with
  | none => rfl
  | some o =>
    rw [ho] at h1
    simp only [Bool.and_eq_true] at h1
    exact h j o ho h1.1 h1.2.2

/-- one more that is answered ahead of its turn -/
theorem DI.more (hk : OkD all) (h : DI P TT B all listed E S FL s L n G a w) {j d : Nat} {o : Oper} (hj : all[j]? = some o) (he : isE o = false) (hjE : j ∉ E) (hav : availB (pres all) E S j = true) (hd : o.dst = some d) {x : AV} {n' : Nat} (hn : n ≤ n')
    (hq : isAl o = false → guarded all (setA s d x) o (∃ av, Known P L (setA s d x) o av ∧ ∀ e, o.dst = some e → e < (setA s d x).length → getA (setA s d x) e = av) (∀ e, o.dst = some e → e < (setA s d x).length → getA (setA s d x) e = .v (.tuple #[])))
    (ha : isAl o = true → ∃ r, allocObj TT (setA s d x) o = some r ∧ r.1 = n ∧ r.1 < n') : DI P TT B all listed (j :: E) S FL (setA s d x) L n' G a w := by
  have hnl : ¬ Lst listed j := fun hl => hjE (h.Ein j o hj he hl)
  have hne : ∀ t, t ≠ d → getA (setA s d x) t = getA s t := fun t ht => by rw [getA_setA, if_neg (by rintro ⟨rfl, _⟩; exact ht rfl)]
  have hlen : (setA s d x).length = s.length := by rw [setA_eq]; simp
  have hold : ∀ i ∈ E, ∀ oi, all[i]? = some oi → (∀ t ∈ looks all oi, getA (setA s d x) t = getA s t) ∧ ∀ e, oi.dst = some e → getA (setA s d x) e = getA s e := fun i hi oi hoi => by
    have hij : j ≠ i := fun e => hjE (e ▸ hi)
    refine ⟨fun t ht => hne t fun e => ?_, fun e hde => hne e fun ee => ?_⟩
    · subst e
      refine not_looked hk hj hoi hd hij (fun hm => ?_) (fun h1 => by rw [he] at h1; cases h1) ht
      rcases h.pre hi j hm with h1 | h1
      · exact hjE h1
      · obtain ⟨o', h2, h3⟩ := h.Sin j h1
        rw [hj] at h2; cases h2; rw [he] at h3; cases h3
    · subst ee
      exact hk.dst j i o oi e hij hj hoi hd hde
  have hpend : pendL TT all (setA s d x) FL (fun j => listed.getD j false) = pendL TT all s FL (fun j => listed.getD j false) := pendL_congr fun i oi hoi hal hl => by
    have hiE := h.Ein i oi hoi (alloc_noE hal) hl
    exact allocObj_congr fun e hde => (hold i hiE oi hoi).2 e hde
  refine ⟨h.size, h.closed, h.eff, h.Sin, fun i hi => ?_, fun i oi hoi hie hl => List.mem_cons_of_mem _ (h.Ein i oi hoi hie hl), ?_, fun i hi oi hoi hal hl => ?_, fun i hi oi hoi hal => ?_, ?_⟩
  · rcases List.mem_cons.1 hi with rfl | hi
    · exact ⟨o, hj, he, availB_mono hav (fun _ h => List.mem_cons_of_mem _ h) fun _ h => h⟩
    · obtain ⟨oi, h1, h2, h3⟩ := h.Eav i hi
      exact ⟨oi, h1, h2, availB_mono h3 (fun _ h => List.mem_cons_of_mem _ h) fun _ h => h⟩
  · rw [hpend]
    refine ⟨by rw [h.rel.size]; exact hlen.symm, fun t ht => ?_, h.rel.defers, h.rel.holds, h.rel.step, fun id hid => Nat.lt_of_lt_of_le (h.rel.next id hid) hn, h.rel.base, Nat.le_trans h.rel.low hn, h.rel.old⟩
    show Slot G (getA (setA s d x) t) _
    rw [hne t fun e => ht ⟨j, o, hj, hnl, e ▸ hd, he⟩]
    exact h.rel.slots t ht
  · rcases List.mem_cons.1 hi with rfl | hi
    · rw [hj] at hoi; cases hoi; exact hq hal
    · obtain ⟨h1, h2⟩ := hold i hi oi hoi
      refine guarded_congr h1 (guarded_mono (h.quiet i hi oi hoi hal hl) (fun ⟨av, k1, k2⟩ => ⟨av, k1.congr h1, fun e hde hlt => ?_⟩) fun k e hde hlt => ?_)
      · rw [h2 e hde]; exact k2 e hde (by rw [← hlen]; exact hlt)
      · rw [h2 e hde]; exact k e hde (by rw [← hlen]; exact hlt)
  · rcases List.mem_cons.1 hi with rfl | hi
    · rw [hj] at hoi; cases hoi
      obtain ⟨r, k1, k2, k3⟩ := ha hal
      exact ⟨r, k1, k3, by rw [k2]; exact h.rel.low, fun _ hl => by have := h.rel.next _ hl; simp only at this; omega⟩
    · obtain ⟨r, k1, k2, k3⟩ := h.alloc i hi oi hoi hal
      exact ⟨r, by rw [allocObj_congr (hold i hi oi hoi).2]; exact k1, Nat.lt_of_lt_of_le k2 hn, k3⟩
  · intro i hm i' hm' hii oi oj ri rj hoi hoj hai haj hri hrj
    rcases List.mem_cons.1 hm with rfl | hi <;> rcases List.mem_cons.1 hm' with rfl | hi'
    · exact absurd rfl hii
    · rw [hj] at hoi; cases hoi
      obtain ⟨r, k1, k2, k3⟩ := ha hai
      rw [k1] at hri; cases hri
      rw [allocObj_congr (hold i' hi' oj hoj).2] at hrj
      obtain ⟨r', m1, m2, _⟩ := h.alloc i' hi' oj hoj haj
      rw [m1] at hrj; cases hrj
      omega
    · rw [hj] at hoj; cases hoj
      obtain ⟨r, k1, k2, k3⟩ := ha haj
      rw [k1] at hrj; cases hrj
      rw [allocObj_congr (hold i hi oi hoi).2] at hri
      obtain ⟨r', m1, m2, _⟩ := h.alloc i hi oi hoi hai
      rw [m1] at hri; cases hri
      omega
    · rw [allocObj_congr (hold i hi oi hoi).2] at hri
      rw [allocObj_congr (hold i' hi' oj hoj).2] at hrj
      exact h.inj i hi i' hi' hii oi oj ri rj hoi hoj hai haj hri hrj

theorem evGo_sound (hT : TOk P TT) (hk : OkD all) {k : List Nat → List AV → Nat → Prop} {X : Prop} : ∀ (js E : List Nat) (s : List AV) (n : Nat), evGo P TT all (pres all) S L js E s n k → DI P TT B all listed E S FL s L n G a w →
    (∀ E' s' n', k E' s' n' → DI P TT B all listed E' S FL s' L n' G a w → X) → X
  | [], E, s, n, h, hi, hX => hX E s n h hi
  | j :: js, E, s, n, h, hi, hX => by
    unfold evGo at h
    split at h
    · exact evGo_sound hT hk js E s n h hi hX
    · rename_i o hj
      split at h
      · exact evGo_sound hT hk js E s n h hi hX
      · rename_i hc
        simp only [Bool.or_eq_false_iff, Bool.not_eq_false'] at hc
        obtain ⟨c1, c2, c3⟩ := hc
        have hjE : j ∉ E := fun hm => by rw [memB_iff.2 hm] at c2; cases c2
        obtain ⟨d, hd, hown⟩ := hk.own j o hj c1
        have hne : ∀ x, ∀ t ∈ looks all o, getA (setA s d x) t = getA s t := fun x t ht => by rw [getA_setA, if_neg (by rintro ⟨rfl, _⟩; exact hown ht)]
        split at h
        · rename_i hal
          rw [putD_eq, hd] at h
          simp only [putS] at h
          split at h
          · exact h.elim
          · rename_i hob
            obtain ⟨r, hr⟩ := isNoneB_false hob
            have hr1 : r.1 = n := by
              unfold allocObj at hr
              rw [hd] at hr
              split at hr
              · rename_i t d' ho hdd
                cases hdd
                split at hr
                · rename_i ti id hti hg
                  rw [getA_setA] at hg
                  split at hr
                  · cases hr
                    split at hg
                    · cases hg; rfl
                    · rename_i hlt
                      have : getA s d = .dead := by rw [getA_eq, List.getD, List.getElem?_eq_none (by simpa using hlt)]; rfl
                      rw [this] at hg; cases hg
                  · cases hr
                · cases hr
              · cases hr
            exact evGo_sound hT hk js _ _ _ h (hi.more hk hj c1 hjE c3 hd (Nat.le_succ n) (fun hna => by rw [hal] at hna; cases hna) fun _ => ⟨r, hr, hr1, by omega⟩) hX
        · rename_i hal
          rcases guarded_cases h with ⟨h1, h2⟩ | ⟨h1, h2⟩
          · obtain ⟨av, k1, k2⟩ := known_of hT h1
            rw [fv_eq, putD_eq, hd] at k1
            refine evGo_sound hT hk js _ _ _ k1 (hi.more hk hj c1 hjE c3 hd (Nat.le_refl n) (fun _ => guarded_congr (hne av) (h2 _ _ ⟨av, k2.congr (hne av), fun e hde hlt => ?_⟩)) fun hna => by rw [hal] at hna; cases hna) hX
            rw [hd] at hde; cases hde
            have hlt' : d < s.length := by rw [setA_eq] at hlt; simpa using hlt
            rw [getA_setA, if_pos ⟨rfl, hlt'⟩]
          · rw [putD_eq, hd] at h1
            refine evGo_sound hT hk js _ _ _ h1 (hi.more hk hj c1 hjE c3 hd (Nat.le_refl n) (fun _ => guarded_congr (hne _) (h2 _ _ fun e hde hlt => ?_)) fun hna => by rw [hal] at hna; cases hna) hX
            rw [hd] at hde; cases hde
            have hlt' : d < s.length := by rw [setA_eq] at hlt; simpa using hlt
            rw [getA_setA, if_pos ⟨rfl, hlt'⟩]
end
end Go.Am
