/- The walk through regions that draw their order, step by step. -/
import Derived.Test.YtabhfccfohpkaaaAmSm
import Derived.KernelRfl
namespace Go.Am
open Go.RowKit
set_option linter.unusedSimpArgs false
set_option linter.unusedVariables false

def forceN : List Nat → (List Nat → Prop) → Prop
  | [], k => k []
  | a :: l, k => forceN l fun l' => k (a :: l')
theorem forceN_eq : ∀ (l : List Nat) (k : List Nat → Prop), forceN l k = k l
  | [], k => rfl
  | a :: l, k => forceN_eq l _
def forceNN : List (List Nat) → (List (List Nat) → Prop) → Prop
  | [], k => k []
  | a :: l, k => forceN a fun a' => forceNN l fun l' => k (a' :: l')
theorem forceNN_eq : ∀ (l : List (List Nat)) (k : List (List Nat) → Prop), forceNN l k = k l
  | [], k => rfl
  | a :: l, k => by unfold forceNN; rw [forceN_eq, forceNN_eq l]
theorem forceN_to {l l' : List Nat} (h : ∀ k : List Nat → Prop, k l' → forceN l k) : l = l' := by
  have := h (fun x => x = l') rfl
  rwa [forceN_eq] at this
theorem forceNN_to {l l' : List (List Nat)} (h : ∀ k : List (List Nat) → Prop, k l' → forceNN l k) : l = l' := by
  have := h (fun x => x = l') rfl
  rwa [forceNN_eq] at this
def forceNat (n : Nat) (k : Nat → Prop) : Prop := match n with
  | 0 => k 0
  | m + 1 => k (m + 1)
theorem forceNat_eq (n : Nat) (k : Nat → Prop) : forceNat n k = k n := by cases n <;> rfl
theorem forceNat_to {n n' : Nat} (h : ∀ k : Nat → Prop, k n' → forceNat n k) : n = n' := by
  have := h (fun x => x = n') rfl
  rwa [forceNat_eq] at this
def presK (acc : List Nat) : List Oper → (List Nat → Prop) → Prop
  | [], k => k acc
  | o :: r, k => forceNat (orL (edgesOf o) acc 0) fun m => forceN (acc ++ [m]) fun acc' => presK acc' r k
theorem presK_eq : ∀ (r : List Oper) (acc : List Nat) (k : List Nat → Prop), presK acc r k = k (presM acc r)
  | [], acc, k => rfl
  | o :: r, acc, k => by unfold presK presM; rw [forceNat_eq, forceN_eq, presK_eq r]
theorem presK_to {all : List Oper} {pr : List Nat} (h : ∀ k : List Nat → Prop, k pr → presK [] all k) : presM [] all = pr := by
  have := h (fun x => x = pr) rfl
  rwa [presK_eq] at this
def drBM (P : Program) (TT : Types) (all : List Oper) (pr : List Nat) (K : Kn) (KP : AV → Kn) (fuel : Nat) (S FL : Nat) (L : Heap) : Nat → List AV → Nat → Prop := fun E s n => match satBM all pr E S with
    | false => False
    | true => match effsOfM all S (fun _ => true) with
      | [] => flush TT all s (allocsOfM all FL fun _ => true) L fun L' => forceH L' fun L'' => K s L'' n
      | _ :: _ => match fuel with
        | 0 => False
        | fuel + 1 => allK (effsOfM all S (fun j => avM (pr.getD j 0) E S)) fun e => match all[e]? with
          | none => False
          | some o => flush TT all s (allocsOfM all FL fun j => inM (pr.getD e 0) j) L fun L1 =>
            guarded all s o (aop P TT o s L1 n (fun av L2 n2 => putD s o.dst av fun s2 => forceH L2 fun L3 => rechkM TT all (pr.getD e 0) E s2 L3 (List.range all.length)
                (drM P TT all pr K KP fuel E (addM S e) (addL (allocsOfM all FL (fun j => inM (pr.getD e 0) j)) FL) s2 L3 n2)) (fun x L2 n2 => KP x (killA all s) L2 n2))
              (putD s o.dst (.v (.tuple #[])) fun s2 => drM P TT all pr K KP fuel E (addM S e) (addL (allocsOfM all FL (fun j => inM (pr.getD e 0) j)) FL) s2 L1 n)
theorem drM_eqB {P : Program} {TT : Types} {all : List Oper} {pr : List Nat} {K : Kn} {KP : AV → Kn} (fuel : Nat) (E S FL : Nat) (s : List AV) (L : Heap) (n : Nat) :
    drM P TT all pr K KP fuel E S FL s L n = evGoM P TT all pr S L (List.range all.length) E s n (drBM P TT all pr K KP fuel S FL L) := by
  cases fuel <;> (unfold drM; rfl)

section
variable {P : Program} {TT : Types} {all : List Oper} {pr : List Nat} {E S FL E' S' FL' : Nat} {A js : List Nat} {s s' : List AV} {L L1 L2 : Heap} {n n' fuel e j : Nat} {K : Kn} {KP : AV → Kn} {o : Oper} {av : AV} {k : Nat → List AV → Nat → Prop} {Kk : Kc}

theorem d_start {id : Nat} (hok : okD all = true) (hp : ∀ k : List Nat → Prop, k pr → presK [] all k) (hr : ∀ k : List Nat → Prop, k js → forceN (List.range all.length) k) (h : evGoM P TT all pr 0 L js 0 s n (drBM P TT all pr (Kk .normal) (panK Kk) all.length 0 0 L)) : draw P TT id all s L n Kk := by
  refine drawM hok ?_
  rw [drM_eqB, presK_to hp, forceN_to hr]
  exact h
theorem v_nil (h : k E s n) : evGoM P TT all pr S L [] E s n k := h
theorem v_skip (hj : all[j]? = some o) (hc : (isE o || (inM E j || !(avM (pr.getD j 0) E S))) = true) (h : evGoM P TT all pr S L js E s n k) : evGoM P TT all pr S L (j :: js) E s n k := by
  unfold evGoM; rw [hj]; simp only; rw [hc]; exact h
theorem v_alloc {r : Nat × Res} (hj : all[j]? = some o) (hal : isAl o = true) (hc : (isE o || (inM E j || !(avM (pr.getD j 0) E S))) = false) (hs : ∀ k : List AV → Prop, k s' → putD s o.dst (.ptr n 0) k) (hr : allocObj TT s' o = some r) (h : evGoM P TT all pr S L js E' s' (n + 1) k) (hE : ∀ k : Nat → Prop, k E' → forceNat (addM E j) k := by exact fun _ h => h) : evGoM P TT all pr S L (j :: js) E s n k := by
  obtain rfl := forceNat_to hE
  unfold evGoM; rw [hj]; simp only; rw [hc, hal]
  refine hs _ ?_
  simp only [hr]
  exact h
theorem v_q (hj : all[j]? = some o) (hg : o.guard = none) (hal : isAl o = false) (hc : (isE o || (inM E j || !(avM (pr.getD j 0) E S))) = false) (hC : ∀ K : AV → Prop, K av → aq P TT L (ev s) (raw s) o fun x => fv x K) (hs : ∀ k : List AV → Prop, k s' → putD s o.dst av k)
    (h : evGoM P TT all pr S L js E' s' n k) (hE : ∀ k : Nat → Prop, k E' → forceNat (addM E j) k := by exact fun _ h => h) : evGoM P TT all pr S L (j :: js) E s n k := by
  obtain rfl := forceNat_to hE
  unfold evGoM; rw [hj]; simp only; rw [hc, hal]; simp only
  unfold guarded; rw [hg]
  exact hC _ (hs _ h)
theorem v_qC {C : (AV → Prop) → Prop} (hj : all[j]? = some o) (hg : o.guard = none) (hal : isAl o = false) (hc : (isE o || (inM E j || !(avM (pr.getD j 0) E S))) = false) (hC : ∀ K : AV → Prop, C K → aq P TT L (ev s) (raw s) o fun x => fv x K)
    (h : C fun av => putD s o.dst av fun s' => evGoM P TT all pr S L js E' s' n k) (hE : ∀ k : Nat → Prop, k E' → forceNat (addM E j) k := by exact fun _ h => h) : evGoM P TT all pr S L (j :: js) E s n k := by
  obtain rfl := forceNat_to hE
  unfold evGoM; rw [hj]; simp only; rw [hc, hal]; simp only
  unfold guarded; rw [hg]
  exact hC _ h
theorem v_qS {p : Prop} (hj : all[j]? = some o) (hg : o.guard = none) (hal : isAl o = false) (hc : (isE o || (inM E j || !(avM (pr.getD j 0) E S))) = false) (hC : ∀ K : AV → Prop, p ∧ K av → aq P TT L (ev s) (raw s) o fun x => fv x K) (hs : ∀ k : List AV → Prop, k s' → putD s o.dst av k) (hp : p)
    (h : evGoM P TT all pr S L js E' s' n k) (hE : ∀ k : Nat → Prop, k E' → forceNat (addM E j) k := by exact fun _ h => h) : evGoM P TT all pr S L (j :: js) E s n k :=
  v_q hj hg hal hc (fun K hk => hC K ⟨hp, hk⟩) hs h hE
theorem v_yes {g d : Nat} {want : Bool} (hj : all[j]? = some o) (hg : o.guard = some (g, want)) (hal : isAl o = false) (hd : (all[g]?).bind (·.dst) = some d) (hb : getA s d = .v (.bool want)) (hc : (isE o || (inM E j || !(avM (pr.getD j 0) E S))) = false)
    (hC : ∀ K : AV → Prop, K av → aq P TT L (ev s) (raw s) o fun x => fv x K) (hs : ∀ k : List AV → Prop, k s' → putD s o.dst av k) (h : evGoM P TT all pr S L js E' s' n k) (hE : ∀ k : Nat → Prop, k E' → forceNat (addM E j) k := by exact fun _ h => h) : evGoM P TT all pr S L (j :: js) E s n k := by
  obtain rfl := forceNat_to hE
  unfold evGoM; rw [hj]; simp only; rw [hc, hal]; simp only
  unfold guarded; rw [hg]; simp only [hd, hb]
  cases want <;> (refine hC _ ?_; exact hs _ h)
theorem v_yesS {p : Prop} {g d : Nat} {want : Bool} (hj : all[j]? = some o) (hg : o.guard = some (g, want)) (hal : isAl o = false) (hd : (all[g]?).bind (·.dst) = some d) (hb : getA s d = .v (.bool want)) (hc : (isE o || (inM E j || !(avM (pr.getD j 0) E S))) = false)
    (hC : ∀ K : AV → Prop, p ∧ K av → aq P TT L (ev s) (raw s) o fun x => fv x K) (hs : ∀ k : List AV → Prop, k s' → putD s o.dst av k) (hp : p) (h : evGoM P TT all pr S L js E' s' n k) (hE : ∀ k : Nat → Prop, k E' → forceNat (addM E j) k := by exact fun _ h => h) : evGoM P TT all pr S L (j :: js) E s n k :=
  v_yes hj hg hal hd hb hc (fun K hk => hC K ⟨hp, hk⟩) hs h hE
theorem v_yesC {C : (AV → Prop) → Prop} {g d : Nat} {want : Bool} (hj : all[j]? = some o) (hg : o.guard = some (g, want)) (hal : isAl o = false) (hd : (all[g]?).bind (·.dst) = some d) (hb : getA s d = .v (.bool want)) (hc : (isE o || (inM E j || !(avM (pr.getD j 0) E S))) = false)
    (hC : ∀ K : AV → Prop, C K → aq P TT L (ev s) (raw s) o fun x => fv x K) (h : C fun av => putD s o.dst av fun s' => evGoM P TT all pr S L js E' s' n k) (hE : ∀ k : Nat → Prop, k E' → forceNat (addM E j) k := by exact fun _ h => h) : evGoM P TT all pr S L (j :: js) E s n k := by
  obtain rfl := forceNat_to hE
  unfold evGoM; rw [hj]; simp only; rw [hc, hal]; simp only
  unfold guarded; rw [hg]; simp only [hd, hb]
  cases want <;> exact hC _ h
theorem v_no {g d : Nat} {want : Bool} (hj : all[j]? = some o) (hg : o.guard = some (g, want)) (hal : isAl o = false) (hd : (all[g]?).bind (·.dst) = some d) (hb : getA s d = .v (.bool (!want))) (hc : (isE o || (inM E j || !(avM (pr.getD j 0) E S))) = false)
    (hs : ∀ k : List AV → Prop, k s' → putD s o.dst (.v (.tuple #[])) k) (h : evGoM P TT all pr S L js E' s' n k) (hE : ∀ k : Nat → Prop, k E' → forceNat (addM E j) k := by exact fun _ h => h) : evGoM P TT all pr S L (j :: js) E s n k := by
  obtain rfl := forceNat_to hE
  unfold evGoM; rw [hj]; simp only; rw [hc, hal]; simp only
  unfold guarded; rw [hg]; simp only [hd, hb]
  cases want <;> (show putD s o.dst (.v (.tuple #[])) (fun s' => evGoM P TT all pr S L js (addM E j) s' n k); exact hs _ h)
theorem v_not {g d : Nat} {want : Bool} {vs : Array Value} (hj : all[j]? = some o) (hg : o.guard = some (g, want)) (hal : isAl o = false) (hd : (all[g]?).bind (·.dst) = some d) (hb : getA s d = .v (.tuple vs)) (hc : (isE o || (inM E j || !(avM (pr.getD j 0) E S))) = false)
    (hs : ∀ k : List AV → Prop, k s' → putD s o.dst (.v (.tuple #[])) k) (h : evGoM P TT all pr S L js E' s' n k) (hE : ∀ k : Nat → Prop, k E' → forceNat (addM E j) k := by exact fun _ h => h) : evGoM P TT all pr S L (j :: js) E s n k := by
  obtain rfl := forceNat_to hE
  unfold evGoM; rw [hj]; simp only; rw [hc, hal]; simp only
  unfold guarded; rw [hg]; simp only [hd, hb]
  show putD s o.dst (.v (.tuple #[])) (fun s' => evGoM P TT all pr S L js (addM E j) s' n k)
  exact hs _ h
theorem v_split {g d : Nat} {want b : Bool} (hj : all[j]? = some o) (hg : o.guard = some (g, want)) (hd : (all[g]?).bind (·.dst) = some d) (hb : getA s d = .v (.bool b)) (h1 : b = true → evGoM P TT all pr S L (j :: js) E s n k) (h2 : b = false → evGoM P TT all pr S L (j :: js) E s n k) : evGoM P TT all pr S L (j :: js) E s n k := by
  cases b
  · exact h2 rfl
  · exact h1 rfl
theorem is_ev (h : evGoM P TT all pr S L (j :: js) E s n k) : evGoM P TT all pr S L (j :: js) E s n k := h
theorem is_drB (h : drBM P TT all pr K KP fuel S FL L E s n) : drBM P TT all pr K KP fuel S FL L E s n := h
theorem v_put {d : Option Nat} {X : List AV → Prop} (hs : ∀ k : List AV → Prop, k s' → putD s d av k) (h : X s') : putD s d av X := hs _ h

def effK (P : Program) (TT : Types) (all : List Oper) (pr : List Nat) (K : Kn) (KP : AV → Kn) (fuel : Nat) (E S FL : Nat) (e : Nat) (s : List AV) (d : Option Nat) : AV → Heap → Nat → Prop := fun av L2 n2 => putD s d av fun s2 => forceH L2 fun L3 => rechkM TT all (pr.getD e 0) E s2 L3 (List.range all.length) (drM P TT all pr K KP fuel E (addM S e) FL s2 L3 n2)
def effP (all : List Oper) (s : List AV) (KP : AV → Kn) : AV → Heap → Nat → Prop := fun x L2 n2 => KP x (killA all s) L2 n2
theorem b_end (he : effsOfM all S (fun _ => true) = []) (hsat : satBM all pr E S = true) (hA : ∀ k : List Nat → Prop, k A → forceN (allocsOfM all FL (fun _ => true)) k) (hf : ∀ k : Heap → Prop, k L1 → flush TT all s A L fun L => forceH L k) (h : K s L1 n) : drBM P TT all pr K KP fuel S FL L E s n := by
  unfold drBM; rw [hsat]; simp only; rw [he]; simp only; rw [forceN_to hA]
  exact hf (fun L' => K s L' n) h
theorem b_eff {e0 : Nat} {es : List Nat} (he0 : effsOfM all S (fun _ => true) = e0 :: es) (he : effsOfM all S (fun j => avM (pr.getD j 0) E S) = [e]) (ho : all[e]? = some o) (hg : o.guard = none) (hA : ∀ k : List Nat → Prop, k A → forceN (allocsOfM all FL (fun j => inM (pr.getD e 0) j)) k) (hf : ∀ k : Heap → Prop, k L1 → flush TT all s A L k) (hsat : satBM all pr E S = true)
    (h : aop P TT o s L1 n (effK P TT all pr K KP fuel E S FL' e s o.dst) (effP all s KP)) (hF' : ∀ k : Nat → Prop, k FL' → forceNat (addL A FL) k := by exact fun _ h => h) : drBM P TT all pr K KP (fuel + 1) S FL L E s n := by
  obtain rfl := forceNat_to hF'
  unfold drBM; rw [hsat]; simp only; rw [he0]; simp only; rw [he]
  simp only [allK, ho, forceN_to hA]
  refine hf _ ?_
  unfold guarded; rw [hg]
  exact h
theorem b_yes {e0 g d : Nat} {want : Bool} {es : List Nat} (he0 : effsOfM all S (fun _ => true) = e0 :: es) (he : effsOfM all S (fun j => avM (pr.getD j 0) E S) = [e]) (ho : all[e]? = some o) (hg : o.guard = some (g, want)) (hA : ∀ k : List Nat → Prop, k A → forceN (allocsOfM all FL (fun j => inM (pr.getD e 0) j)) k) (hf : ∀ k : Heap → Prop, k L1 → flush TT all s A L k) (hd : (all[g]?).bind (·.dst) = some d) (hb : getA s d = .v (.bool want)) (hsat : satBM all pr E S = true)
    (h : aop P TT o s L1 n (effK P TT all pr K KP fuel E S FL' e s o.dst) (effP all s KP)) (hF' : ∀ k : Nat → Prop, k FL' → forceNat (addL A FL) k := by exact fun _ h => h) : drBM P TT all pr K KP (fuel + 1) S FL L E s n := by
  obtain rfl := forceNat_to hF'
  unfold drBM; rw [hsat]; simp only; rw [he0]; simp only; rw [he]
  simp only [allK, ho, forceN_to hA]
  refine hf _ ?_
  unfold guarded; rw [hg]; simp only [hd, hb]
  cases want <;> exact h
theorem b_no {e0 g d : Nat} {want : Bool} {es : List Nat} (he0 : effsOfM all S (fun _ => true) = e0 :: es) (he : effsOfM all S (fun j => avM (pr.getD j 0) E S) = [e]) (ho : all[e]? = some o) (hg : o.guard = some (g, want)) (hA : ∀ k : List Nat → Prop, k A → forceN (allocsOfM all FL (fun j => inM (pr.getD e 0) j)) k) (hf : ∀ k : Heap → Prop, k L1 → flush TT all s A L k) (hd : (all[g]?).bind (·.dst) = some d) (hb : getA s d = .v (.bool (!want))) (hsat : satBM all pr E S = true)
    (hs : ∀ k : List AV → Prop, k s' → putD s o.dst (.v (.tuple #[])) k) (hr : ∀ k : List Nat → Prop, k js → forceN (List.range all.length) k) (h : evGoM P TT all pr S' L1 js E s' n (drBM P TT all pr K KP fuel S' FL' L1)) (hS' : ∀ k : Nat → Prop, k S' → forceNat (addM S e) k := by exact fun _ h => h) (hF' : ∀ k : Nat → Prop, k FL' → forceNat (addL A FL) k := by exact fun _ h => h) : drBM P TT all pr K KP (fuel + 1) S FL L E s n := by
  obtain rfl := forceNat_to hS'
  obtain rfl := forceNat_to hF'
  unfold drBM; rw [hsat]; simp only; rw [he0]; simp only; rw [he]
  simp only [allK, ho, forceN_to hA]
  refine hf _ ?_
  unfold guarded; rw [hg]; simp only [hd, hb]
  have h' := h
  rw [← forceN_to hr, ← drM_eqB] at h'
  cases want <;> (show putD s o.dst (.v (.tuple #[])) (fun s2 => drM P TT all pr K KP fuel E (addM S e) (addL A FL) s2 L1 n); exact hs _ h')
theorem b_not {e0 g d : Nat} {want : Bool} {vs : Array Value} {es : List Nat} (he0 : effsOfM all S (fun _ => true) = e0 :: es) (he : effsOfM all S (fun j => avM (pr.getD j 0) E S) = [e]) (ho : all[e]? = some o) (hg : o.guard = some (g, want)) (hA : ∀ k : List Nat → Prop, k A → forceN (allocsOfM all FL (fun j => inM (pr.getD e 0) j)) k) (hf : ∀ k : Heap → Prop, k L1 → flush TT all s A L k) (hd : (all[g]?).bind (·.dst) = some d) (hb : getA s d = .v (.tuple vs)) (hsat : satBM all pr E S = true)
    (hs : ∀ k : List AV → Prop, k s' → putD s o.dst (.v (.tuple #[])) k) (hr : ∀ k : List Nat → Prop, k js → forceN (List.range all.length) k) (h : evGoM P TT all pr S' L1 js E s' n (drBM P TT all pr K KP fuel S' FL' L1)) (hS' : ∀ k : Nat → Prop, k S' → forceNat (addM S e) k := by exact fun _ h => h) (hF' : ∀ k : Nat → Prop, k FL' → forceNat (addL A FL) k := by exact fun _ h => h) : drBM P TT all pr K KP (fuel + 1) S FL L E s n := by
  obtain rfl := forceNat_to hS'
  obtain rfl := forceNat_to hF'
  unfold drBM; rw [hsat]; simp only; rw [he0]; simp only; rw [he]
  simp only [allK, ho, forceN_to hA]
  refine hf _ ?_
  unfold guarded; rw [hg]; simp only [hd, hb]
  have h' := h
  rw [← forceN_to hr, ← drM_eqB] at h'
  show putD s o.dst (.v (.tuple #[])) (fun s2 => drM P TT all pr K KP fuel E (addM S e) (addL A FL) s2 L1 n)
  exact hs _ h'
theorem b_split {e0 g d : Nat} {want b : Bool} {es : List Nat} (he : effsOfM all S (fun j => avM (pr.getD j 0) E S) = [e]) (ho : all[e]? = some o) (hg : o.guard = some (g, want)) (hd : (all[g]?).bind (·.dst) = some d) (hb : getA s d = .v (.bool b)) (h1 : b = true → drBM P TT all pr K KP fuel S FL L E s n) (h2 : b = false → drBM P TT all pr K KP fuel S FL L E s n) : drBM P TT all pr K KP fuel S FL L E s n := by
  cases b
  · exact h2 rfl
  · exact h1 rfl
/-- two effects may come up: both ways -/
theorem b_two {e0 e1 e2 : Nat} {es : List Nat} {o1 o2 : Oper} {A1 A2 : List Nat} {F1 F2 : Nat} {L1 L2 : Heap} (hsat : satBM all pr E S = true) (he0 : effsOfM all S (fun _ => true) = e0 :: es) (he : effsOfM all S (fun j => avM (pr.getD j 0) E S) = [e1, e2]) (ho1 : all[e1]? = some o1) (ho2 : all[e2]? = some o2) (hA1 : ∀ k : List Nat → Prop, k A1 → forceN (allocsOfM all FL (fun j => inM (pr.getD e1 0) j)) k) (hA2 : ∀ k : List Nat → Prop, k A2 → forceN (allocsOfM all FL (fun j => inM (pr.getD e2 0) j)) k)
    (hf1 : ∀ k : Heap → Prop, k L1 → flush TT all s A1 L k) (hf2 : ∀ k : Heap → Prop, k L2 → flush TT all s A2 L k) (hg1 : o1.guard = none) (hg2 : o2.guard = none)
    (h1 : aop P TT o1 s L1 n (effK P TT all pr K KP fuel E S F1 e1 s o1.dst) (effP all s KP)) (h2 : aop P TT o2 s L2 n (effK P TT all pr K KP fuel E S F2 e2 s o2.dst) (effP all s KP)) (hF1 : ∀ k : Nat → Prop, k F1 → forceNat (addL A1 FL) k := by exact fun _ h => h) (hF2 : ∀ k : Nat → Prop, k F2 → forceNat (addL A2 FL) k := by exact fun _ h => h) : drBM P TT all pr K KP (fuel + 1) S FL L E s n := by
  obtain rfl := forceNat_to hF1
  obtain rfl := forceNat_to hF2
  unfold drBM; rw [hsat]; simp only; rw [he0]; simp only; rw [he]
  simp only [allK, ho1, ho2, forceN_to hA1, forceN_to hA2]
  refine ⟨hf1 _ ?_, hf2 _ ?_⟩
  · unfold guarded; rw [hg1]; exact h1
  · unfold guarded; rw [hg2]; exact h2
theorem k_eff {d : Option Nat} (hs : ∀ k : List AV → Prop, k s' → putD s d av k) (hL : ∀ k : Heap → Prop, k L2 → forceH L1 k) (hr : ∀ k : List Nat → Prop, k js → forceN (List.range all.length) k) (hc : ∀ k : Prop, k → rechkM TT all (pr.getD e 0) E s' L2 js k) (h : evGoM P TT all pr S' L2 js E s' n (drBM P TT all pr K KP fuel S' FL L2)) (hS' : ∀ k : Nat → Prop, k S' → forceNat (addM S e) k := by exact fun _ h => h) :
    effK P TT all pr K KP fuel E S FL e s d av L1 n := by
  obtain rfl := forceNat_to hS'
  refine hs _ (hL _ ?_)
  rw [forceN_to hr]
  refine hc _ ?_
  rw [drM_eqB, forceN_to hr]; exact h
theorem k_effc {d : Option Nat} {x : AV} (hx : ∀ k : AV → Prop, k av → fv x k) (hs : ∀ k : List AV → Prop, k s' → putD s d av k) (hL : ∀ k : Heap → Prop, k L2 → forceH L1 k) (hr : ∀ k : List Nat → Prop, k js → forceN (List.range all.length) k) (hc : ∀ k : Prop, k → rechkM TT all (pr.getD e 0) E s' L2 js k) (h : evGoM P TT all pr S' L2 js E s' n (drBM P TT all pr K KP fuel S' FL L2)) (hS' : ∀ k : Nat → Prop, k S' → forceNat (addM S e) k := by exact fun _ h => h) :
    effK P TT all pr K KP fuel E S FL e s d x L1 n := by
  have e : x = av := by
    have := hx (fun y => y = av) rfl
    rwa [fv_eq] at this
  subst e
  exact k_eff hs hL hr hc h hS'
theorem is_effK {d : Option Nat} (h : effK P TT all pr K KP fuel E S FL e s d av L1 n) : effK P TT all pr K KP fuel E S FL e s d av L1 n := h
theorem k_effP {x : AV} (hs : ∀ k : List AV → Prop, k s' → forceA (killA all s) k) (h : KP x s' L n) : effP all s KP x L n := by
  have := hs (fun s => KP x s L n) h
  rwa [forceA_eq] at this
end
end Go.Am
