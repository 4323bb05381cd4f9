/- The walk through regions that draw their order, step by step. -/
import Derived.Test.YtabhfccfohpkaaaAmW
namespace Go.Am
open Go.RowKit
set_option linter.unusedSimpArgs false
set_option linter.unusedVariables false

def forceN : List Nat → (List Nat → Prop) → Prop
  | [], k => k []
  | a :: l, k => forceN l fun l' => k (a :: l')
theorem forceN_eq : ∀ (l : List Nat) (k : List Nat → Prop), forceN l k = k l
  | [], k => rfl
  | a :: l, k => forceN_eq l _
def forceNN : List (List Nat) → (List (List Nat) → Prop) → Prop
  | [], k => k []
  | a :: l, k => forceN a fun a' => forceNN l fun l' => k (a' :: l')
theorem forceNN_eq : ∀ (l : List (List Nat)) (k : List (List Nat) → Prop), forceNN l k = k l
  | [], k => rfl
  | a :: l, k => by unfold forceNN; rw [forceN_eq, forceNN_eq l]
theorem forceN_to {l l' : List Nat} (h : ∀ k : List Nat → Prop, k l' → forceN l k) : l = l' := by
  have := h (fun x => x = l') rfl
  rwa [forceN_eq] at this
theorem forceNN_to {l l' : List (List Nat)} (h : ∀ k : List (List Nat) → Prop, k l' → forceNN l k) : l = l' := by
  have := h (fun x => x = l') rfl
  rwa [forceNN_eq] at this

section
variable {P : Program} {TT : Types} {all : List Oper} {pr : List (List Nat)} {E S FL A js : List Nat} {s s' : List AV} {L L1 L2 : Heap} {n n' fuel e j : Nat} {K : Kn} {KP : AV → Kn} {o : Oper} {av : AV} {k : List Nat → List AV → Nat → Prop} {Kk : Kc}

theorem d_start {id : Nat} (hok : okD all = true) (hp : ∀ k : List (List Nat) → Prop, k pr → forceNN (pres all) k) (hr : ∀ k : List Nat → Prop, k js → forceN (List.range all.length) k) (h : evGo P TT all pr [] L js [] s n (drB P TT all pr (Kk .normal) (panK Kk) all.length [] [] L)) : draw P TT id all s L n Kk := by
  unfold draw
  rw [hok]
  show dr P TT all (pres all) (Kk .normal) (fun x => Kk (.panic x)) all.length [] [] [] s L n
  rw [dr_eq, forceNN_to hp, forceN_to hr]
  exact h
theorem v_nil (h : k E s n) : evGo P TT all pr S L [] E s n k := h
theorem v_skip (hj : all[j]? = some o) (hc : (isE o || (memB j E || !(availB pr E S j))) = true) (h : evGo P TT all pr S L js E s n k) : evGo P TT all pr S L (j :: js) E s n k := by
  unfold evGo; rw [hj]; simp only; rw [hc]; exact h
theorem v_alloc {r : Nat × Res} (hj : all[j]? = some o) (hc : (isE o || (memB j E || !(availB pr E S j))) = false) (hal : isAl o = true) (hs : ∀ k : List AV → Prop, k s' → putD s o.dst (.ptr n 0) k) (hr : allocObj TT s' o = some r) (h : evGo P TT all pr S L js (j :: E) s' (n + 1) k) : evGo P TT all pr S L (j :: js) E s n k := by
  unfold evGo; rw [hj]; simp only; rw [hc, hal]
  refine hs _ ?_
  simp only [hr]
  exact h
theorem v_q (hj : all[j]? = some o) (hc : (isE o || (memB j E || !(availB pr E S j))) = false) (hal : isAl o = false) (hg : o.guard = none) (hC : ∀ K : AV → Prop, K av → aq P TT L (ev s) (raw s) o fun x => fv x K) (hs : ∀ k : List AV → Prop, k s' → putD s o.dst av k)
    (h : evGo P TT all pr S L js (j :: E) s' n k) : evGo P TT all pr S L (j :: js) E s n k := by
  unfold evGo; rw [hj]; simp only; rw [hc, hal]; simp only
  unfold guarded; rw [hg]
  exact hC _ (hs _ h)
theorem v_qC {C : (AV → Prop) → Prop} (hj : all[j]? = some o) (hc : (isE o || (memB j E || !(availB pr E S j))) = false) (hal : isAl o = false) (hg : o.guard = none) (hC : ∀ K : AV → Prop, C K → aq P TT L (ev s) (raw s) o fun x => fv x K)
    (h : C fun av => putD s o.dst av fun s' => evGo P TT all pr S L js (j :: E) s' n k) : evGo P TT all pr S L (j :: js) E s n k := by
  unfold evGo; rw [hj]; simp only; rw [hc, hal]; simp only
  unfold guarded; rw [hg]
  exact hC _ h
theorem v_qS {p : Prop} (hj : all[j]? = some o) (hc : (isE o || (memB j E || !(availB pr E S j))) = false) (hal : isAl o = false) (hg : o.guard = none) (hC : ∀ K : AV → Prop, p ∧ K av → aq P TT L (ev s) (raw s) o fun x => fv x K) (hs : ∀ k : List AV → Prop, k s' → putD s o.dst av k) (hp : p)
    (h : evGo P TT all pr S L js (j :: E) s' n k) : evGo P TT all pr S L (j :: js) E s n k :=
  v_q hj hc hal hg (fun K hk => hC K ⟨hp, hk⟩) hs h
theorem v_yes {g d : Nat} {want : Bool} (hj : all[j]? = some o) (hc : (isE o || (memB j E || !(availB pr E S j))) = false) (hal : isAl o = false) (hg : o.guard = some (g, want)) (hd : (all[g]?).bind (·.dst) = some d) (hb : getA s d = .v (.bool want))
    (hC : ∀ K : AV → Prop, K av → aq P TT L (ev s) (raw s) o fun x => fv x K) (hs : ∀ k : List AV → Prop, k s' → putD s o.dst av k) (h : evGo P TT all pr S L js (j :: E) s' n k) : evGo P TT all pr S L (j :: js) E s n k := by
  unfold evGo; rw [hj]; simp only; rw [hc, hal]; simp only
  unfold guarded; rw [hg]; simp only [hd, hb]
  cases want <;> (refine hC _ ?_; exact hs _ h)
theorem v_yesS {p : Prop} {g d : Nat} {want : Bool} (hj : all[j]? = some o) (hc : (isE o || (memB j E || !(availB pr E S j))) = false) (hal : isAl o = false) (hg : o.guard = some (g, want)) (hd : (all[g]?).bind (·.dst) = some d) (hb : getA s d = .v (.bool want))
    (hC : ∀ K : AV → Prop, p ∧ K av → aq P TT L (ev s) (raw s) o fun x => fv x K) (hs : ∀ k : List AV → Prop, k s' → putD s o.dst av k) (hp : p) (h : evGo P TT all pr S L js (j :: E) s' n k) : evGo P TT all pr S L (j :: js) E s n k :=
  v_yes hj hc hal hg hd hb (fun K hk => hC K ⟨hp, hk⟩) hs h
theorem v_yesC {C : (AV → Prop) → Prop} {g d : Nat} {want : Bool} (hj : all[j]? = some o) (hc : (isE o || (memB j E || !(availB pr E S j))) = false) (hal : isAl o = false) (hg : o.guard = some (g, want)) (hd : (all[g]?).bind (·.dst) = some d) (hb : getA s d = .v (.bool want))
    (hC : ∀ K : AV → Prop, C K → aq P TT L (ev s) (raw s) o fun x => fv x K) (h : C fun av => putD s o.dst av fun s' => evGo P TT all pr S L js (j :: E) s' n k) : evGo P TT all pr S L (j :: js) E s n k := by
  unfold evGo; rw [hj]; simp only; rw [hc, hal]; simp only
  unfold guarded; rw [hg]; simp only [hd, hb]
  cases want <;> exact hC _ h
theorem v_no {g d : Nat} {want : Bool} (hj : all[j]? = some o) (hc : (isE o || (memB j E || !(availB pr E S j))) = false) (hal : isAl o = false) (hg : o.guard = some (g, want)) (hd : (all[g]?).bind (·.dst) = some d) (hb : getA s d = .v (.bool (!want)))
    (hs : ∀ k : List AV → Prop, k s' → putD s o.dst (.v (.tuple #[])) k) (h : evGo P TT all pr S L js (j :: E) s' n k) : evGo P TT all pr S L (j :: js) E s n k := by
  unfold evGo; rw [hj]; simp only; rw [hc, hal]; simp only
  unfold guarded; rw [hg]; simp only [hd, hb]
  cases want <;> (show putD s o.dst (.v (.tuple #[])) (fun s' => evGo P TT all pr S L js (j :: E) s' n k); exact hs _ h)
theorem v_not {g d : Nat} {want : Bool} {vs : Array Value} (hj : all[j]? = some o) (hc : (isE o || (memB j E || !(availB pr E S j))) = false) (hal : isAl o = false) (hg : o.guard = some (g, want)) (hd : (all[g]?).bind (·.dst) = some d) (hb : getA s d = .v (.tuple vs))
    (hs : ∀ k : List AV → Prop, k s' → putD s o.dst (.v (.tuple #[])) k) (h : evGo P TT all pr S L js (j :: E) s' n k) : evGo P TT all pr S L (j :: js) E s n k := by
  unfold evGo; rw [hj]; simp only; rw [hc, hal]; simp only
  unfold guarded; rw [hg]; simp only [hd, hb]
  show putD s o.dst (.v (.tuple #[])) (fun s' => evGo P TT all pr S L js (j :: E) s' n k)
  exact hs _ h
theorem v_split {g d : Nat} {want b : Bool} (hj : all[j]? = some o) (hg : o.guard = some (g, want)) (hd : (all[g]?).bind (·.dst) = some d) (hb : getA s d = .v (.bool b)) (h1 : b = true → evGo P TT all pr S L (j :: js) E s n k) (h2 : b = false → evGo P TT all pr S L (j :: js) E s n k) : evGo P TT all pr S L (j :: js) E s n k := by
  cases b
  · exact h2 rfl
  · exact h1 rfl
theorem is_ev (h : evGo P TT all pr S L (j :: js) E s n k) : evGo P TT all pr S L (j :: js) E s n k := h
theorem is_drB (h : drB P TT all pr K KP fuel S FL L E s n) : drB P TT all pr K KP fuel S FL L E s n := h
theorem v_put {d : Option Nat} {X : List AV → Prop} (hs : ∀ k : List AV → Prop, k s' → putD s d av k) (h : X s') : putD s d av X := hs _ h

def effK (P : Program) (TT : Types) (all : List Oper) (pr : List (List Nat)) (K : Kn) (KP : AV → Kn) (fuel : Nat) (E S FL : List Nat) (e : Nat) (s : List AV) (d : Option Nat) : AV → Heap → Nat → Prop := fun av L2 n2 => putD s d av fun s2 => forceH L2 fun L3 => rechk TT all (pr.getD e []) E s2 L3 (List.range all.length) (dr P TT all pr K KP fuel E (e :: S) FL s2 L3 n2)
def effP (all : List Oper) (s : List AV) (KP : AV → Kn) : AV → Heap → Nat → Prop := fun x L2 n2 => KP x (killA all s) L2 n2
theorem b_end (hsat : satB all pr E S = true) (he : effsOf all S (fun _ => true) = []) (hA : ∀ k : List Nat → Prop, k A → forceN (allocsOf all FL (fun _ => true)) k) (hf : ∀ k : Heap → Prop, k L1 → flush TT all s A L fun L => forceH L k) (h : K s L1 n) : drB P TT all pr K KP fuel S FL L E s n := by
  unfold drB; rw [hsat]; simp only; rw [he]; simp only; rw [forceN_to hA]
  exact hf (fun L' => K s L' n) h
theorem b_eff {e0 : Nat} {es : List Nat} (hsat : satB all pr E S = true) (he0 : effsOf all S (fun _ => true) = e0 :: es) (he : effsOf all S (availB pr E S) = [e]) (ho : all[e]? = some o) (hA : ∀ k : List Nat → Prop, k A → forceN (allocsOf all FL (fun j => memB j (pr.getD e []))) k) (hf : ∀ k : Heap → Prop, k L1 → flush TT all s A L k) (hg : o.guard = none)
    (h : aop P TT o s L1 n (effK P TT all pr K KP fuel E S (A ++ FL) e s o.dst) (effP all s KP)) : drB P TT all pr K KP (fuel + 1) S FL L E s n := by
  unfold drB; rw [hsat]; simp only; rw [he0]; simp only; rw [he]
  simp only [allK, ho, forceN_to hA]
  refine hf _ ?_
  unfold guarded; rw [hg]
  exact h
theorem b_yes {e0 g d : Nat} {want : Bool} {es : List Nat} (hsat : satB all pr E S = true) (he0 : effsOf all S (fun _ => true) = e0 :: es) (he : effsOf all S (availB pr E S) = [e]) (ho : all[e]? = some o) (hA : ∀ k : List Nat → Prop, k A → forceN (allocsOf all FL (fun j => memB j (pr.getD e []))) k) (hf : ∀ k : Heap → Prop, k L1 → flush TT all s A L k) (hg : o.guard = some (g, want)) (hd : (all[g]?).bind (·.dst) = some d) (hb : getA s d = .v (.bool want))
    (h : aop P TT o s L1 n (effK P TT all pr K KP fuel E S (A ++ FL) e s o.dst) (effP all s KP)) : drB P TT all pr K KP (fuel + 1) S FL L E s n := by
  unfold drB; rw [hsat]; simp only; rw [he0]; simp only; rw [he]
  simp only [allK, ho, forceN_to hA]
  refine hf _ ?_
  unfold guarded; rw [hg]; simp only [hd, hb]
  cases want <;> exact h
theorem b_no {e0 g d : Nat} {want : Bool} {es : List Nat} (hsat : satB all pr E S = true) (he0 : effsOf all S (fun _ => true) = e0 :: es) (he : effsOf all S (availB pr E S) = [e]) (ho : all[e]? = some o) (hA : ∀ k : List Nat → Prop, k A → forceN (allocsOf all FL (fun j => memB j (pr.getD e []))) k) (hf : ∀ k : Heap → Prop, k L1 → flush TT all s A L k) (hg : o.guard = some (g, want)) (hd : (all[g]?).bind (·.dst) = some d) (hb : getA s d = .v (.bool (!want)))
    (hs : ∀ k : List AV → Prop, k s' → putD s o.dst (.v (.tuple #[])) k) (hr : ∀ k : List Nat → Prop, k js → forceN (List.range all.length) k) (h : evGo P TT all pr (e :: S) L1 js E s' n (drB P TT all pr K KP fuel (e :: S) (A ++ FL) L1)) : drB P TT all pr K KP (fuel + 1) S FL L E s n := by
  unfold drB; rw [hsat]; simp only; rw [he0]; simp only; rw [he]
  simp only [allK, ho, forceN_to hA]
  refine hf _ ?_
  unfold guarded; rw [hg]; simp only [hd, hb]
  have h' := h
  rw [← forceN_to hr, ← dr_eq] at h'
  cases want <;> (show putD s o.dst (.v (.tuple #[])) (fun s2 => dr P TT all pr K KP fuel E (e :: S) (A ++ FL) s2 L1 n); exact hs _ h')
theorem b_not {e0 g d : Nat} {want : Bool} {vs : Array Value} {es : List Nat} (hsat : satB all pr E S = true) (he0 : effsOf all S (fun _ => true) = e0 :: es) (he : effsOf all S (availB pr E S) = [e]) (ho : all[e]? = some o) (hA : ∀ k : List Nat → Prop, k A → forceN (allocsOf all FL (fun j => memB j (pr.getD e []))) k) (hf : ∀ k : Heap → Prop, k L1 → flush TT all s A L k) (hg : o.guard = some (g, want)) (hd : (all[g]?).bind (·.dst) = some d) (hb : getA s d = .v (.tuple vs))
    (hs : ∀ k : List AV → Prop, k s' → putD s o.dst (.v (.tuple #[])) k) (hr : ∀ k : List Nat → Prop, k js → forceN (List.range all.length) k) (h : evGo P TT all pr (e :: S) L1 js E s' n (drB P TT all pr K KP fuel (e :: S) (A ++ FL) L1)) : drB P TT all pr K KP (fuel + 1) S FL L E s n := by
  unfold drB; rw [hsat]; simp only; rw [he0]; simp only; rw [he]
  simp only [allK, ho, forceN_to hA]
  refine hf _ ?_
  unfold guarded; rw [hg]; simp only [hd, hb]
  have h' := h
  rw [← forceN_to hr, ← dr_eq] at h'
  show putD s o.dst (.v (.tuple #[])) (fun s2 => dr P TT all pr K KP fuel E (e :: S) (A ++ FL) s2 L1 n)
  exact hs _ h'
theorem b_split {e0 g d : Nat} {want b : Bool} {es : List Nat} (he : effsOf all S (availB pr E S) = [e]) (ho : all[e]? = some o) (hg : o.guard = some (g, want)) (hd : (all[g]?).bind (·.dst) = some d) (hb : getA s d = .v (.bool b)) (h1 : b = true → drB P TT all pr K KP fuel S FL L E s n) (h2 : b = false → drB P TT all pr K KP fuel S FL L E s n) : drB P TT all pr K KP fuel S FL L E s n := by
  cases b
  · exact h2 rfl
  · exact h1 rfl
/-- two effects may come up: both ways -/
theorem b_two {e0 e1 e2 : Nat} {es : List Nat} {o1 o2 : Oper} {A1 A2 : List Nat} {L1 L2 : Heap} (hsat : satB all pr E S = true) (he0 : effsOf all S (fun _ => true) = e0 :: es) (he : effsOf all S (availB pr E S) = [e1, e2]) (ho1 : all[e1]? = some o1) (ho2 : all[e2]? = some o2) (hA1 : ∀ k : List Nat → Prop, k A1 → forceN (allocsOf all FL (fun j => memB j (pr.getD e1 []))) k) (hA2 : ∀ k : List Nat → Prop, k A2 → forceN (allocsOf all FL (fun j => memB j (pr.getD e2 []))) k)
    (hf1 : ∀ k : Heap → Prop, k L1 → flush TT all s A1 L k) (hf2 : ∀ k : Heap → Prop, k L2 → flush TT all s A2 L k) (hg1 : o1.guard = none) (hg2 : o2.guard = none)
    (h1 : aop P TT o1 s L1 n (effK P TT all pr K KP fuel E S (A1 ++ FL) e1 s o1.dst) (effP all s KP)) (h2 : aop P TT o2 s L2 n (effK P TT all pr K KP fuel E S (A2 ++ FL) e2 s o2.dst) (effP all s KP)) : drB P TT all pr K KP (fuel + 1) S FL L E s n := by
  unfold drB; rw [hsat]; simp only; rw [he0]; simp only; rw [he]
  simp only [allK, ho1, ho2, forceN_to hA1, forceN_to hA2]
  refine ⟨hf1 _ ?_, hf2 _ ?_⟩
  · unfold guarded; rw [hg1]; exact h1
  · unfold guarded; rw [hg2]; exact h2
theorem k_eff {d : Option Nat} (hs : ∀ k : List AV → Prop, k s' → putD s d av k) (hL : ∀ k : Heap → Prop, k L2 → forceH L1 k) (hr : ∀ k : List Nat → Prop, k js → forceN (List.range all.length) k) (hc : ∀ k : Prop, k → rechk TT all (pr.getD e []) E s' L2 js k) (h : evGo P TT all pr (e :: S) L2 js E s' n (drB P TT all pr K KP fuel (e :: S) FL L2)) :
    effK P TT all pr K KP fuel E S FL e s d av L1 n := by
  refine hs _ (hL _ ?_)
  rw [forceN_to hr]
  refine hc _ ?_
  rw [dr_eq, forceN_to hr]; exact h
theorem k_effc {d : Option Nat} {x : AV} (hx : ∀ k : AV → Prop, k av → fv x k) (hs : ∀ k : List AV → Prop, k s' → putD s d av k) (hL : ∀ k : Heap → Prop, k L2 → forceH L1 k) (hr : ∀ k : List Nat → Prop, k js → forceN (List.range all.length) k) (hc : ∀ k : Prop, k → rechk TT all (pr.getD e []) E s' L2 js k) (h : evGo P TT all pr (e :: S) L2 js E s' n (drB P TT all pr K KP fuel (e :: S) FL L2)) :
    effK P TT all pr K KP fuel E S FL e s d x L1 n := by
  have e : x = av := by
    have := hx (fun y => y = av) rfl
    rwa [fv_eq] at this
  subst e
  exact k_eff hs hL hr hc h
theorem is_effK {d : Option Nat} (h : effK P TT all pr K KP fuel E S FL e s d av L1 n) : effK P TT all pr K KP fuel E S FL e s d av L1 n := h
theorem k_effP {x : AV} (hs : ∀ k : List AV → Prop, k s' → forceA (killA all s) k) (h : KP x s' L n) : effP all s KP x L n := by
  have := hs (fun s => KP x s L n) h
  rwa [forceA_eq] at this
end
end Go.Am
