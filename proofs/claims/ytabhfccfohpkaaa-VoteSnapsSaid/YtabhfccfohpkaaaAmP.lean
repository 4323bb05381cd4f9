/- Regions in the order of the text, and code. -/
import Derived.Test.YtabhfccfohpkaaaAmO
namespace Go.Am
open Go.RowKit
set_option linter.unusedSimpArgs false
set_option linter.unusedVariables false

/-- lists written out -/
def setK {α : Type} : List AV → Nat → AV → (List AV → α) → α
  | [], _, _, k => k []
  | _ :: l, 0, x, k => k (x :: l)
  | a :: l, n + 1, x, k => setK l n x fun l' => k (a :: l')
theorem setK_eq {α : Type} (l : List AV) (n : Nat) (x : AV) (k : List AV → α) : setK l n x k = k (setA l n x) := by
  induction l generalizing n k with
  | nil => rfl
  | cons a l ih => cases n <;> simp [setK, setA, ih]
def forceA {α : Type} : List AV → (List AV → α) → α
  | [], k => k []
  | a :: l, k => forceA l fun l' => k (a :: l')
theorem forceA_eq {α : Type} (l : List AV) (k : List AV → α) : forceA l k = k l := by
  induction l generalizing k with
  | nil => rfl
  | cons a l ih => simp [forceA, ih]
def forceR {α : Type} : Res → (Res → α) → α
  | .box l, k => forceA l fun l' => k (.box l')
  | .seq rows m, k => k (.seq rows m)
  | .tok s n, k => k (.tok s n)
theorem forceR_eq {α : Type} (r : Res) (k : Res → α) : forceR r k = k r := by cases r <;> simp [forceR, forceA_eq]
def forceH {α : Type} : Heap → (Heap → α) → α
  | [], k => k []
  | (i, r) :: H, k => forceR r fun r' => forceH H fun H' => k ((i, r') :: H')
theorem forceH_eq {α : Type} (H : Heap) (k : Heap → α) : forceH H k = k H := by
  induction H generalizing k with
  | nil => rfl
  | cons p H ih => obtain ⟨i, r⟩ := p; simp [forceH, forceR_eq, ih]
def putD {α : Type} (s : List AV) (d : Option Nat) (x : AV) (k : List AV → α) : α :=
  match d with
  | none => k s
  | some d => setK s d x k
def putS (s : List AV) (d : Option Nat) (x : AV) : List AV := match d with | none => s | some d => setA s d x
theorem putD_eq {α : Type} (s : List AV) (d : Option Nat) (x : AV) (k : List AV → α) : putD s d x k = k (putS s d x) := by cases d <;> simp [putD, putS, setK_eq]

abbrev Kn := List AV → Heap → Nat → Prop
/-- is it wanted? -/
def guarded (all : List Oper) (s : List AV) (o : Oper) (yes no : Prop) : Prop :=
  match o.guard with
  | none => yes
  | some (j, want) => match (all[j]?).bind (·.dst) with
    | some d => match getA s d with
      | .v (.bool b) => match want with | true => abr b yes no | false => abr b no yes
      | .v (.tuple _) => no
      | _ => False
    | none => False
def aops (P : Program) (TT : Types) (all : List Oper) : List Oper → List AV → Heap → Nat → Kn → (AV → Kn) → Prop
  | [], s, L, n, K, _ => K s L n
  | o :: rest, s, L, n, K, KP =>
    guarded all s o (aop P TT o s L n (fun av L' n' => putD s o.dst av fun s' => forceH L' fun L'' => aops P TT all rest s' L'' n' K KP) (fun x L' n' => KP x s L' n'))
      (putD s o.dst (.v (.tuple #[])) fun s' => aops P TT all rest s' L n K KP)

section
variable {P : Program} {TT : Types} {B : Base} {Q : Exit → Act → World → Prop}

theorem getA_setA (s : List AV) (d t : Nat) (x : AV) : getA (setA s d x) t = if d = t ∧ t < s.length then x else getA s t := by
  rw [getA_eq, setA_eq, getA_eq]
  by_cases h : d = t
  · subst h
    by_cases hl : d < s.length
    · simp [hl]
    · simp [hl, List.getElem?_eq_none (Nat.not_lt.1 hl), List.set_eq_of_length_le (Nat.not_lt.1 hl)]
  · simp [h, List.getElem?_set]
theorem Rel.put {U : Nat → Prop} {G : Ghost} {σ : ASt} {a : Act} {w : World} (h : Rel B U G σ a w) (d : Option Nat) {x : AV} {v : Value} (hx : Slot G x v) : Rel B (fun t => U t ∧ d ≠ some t) G ⟨putS σ.slots d x, σ.L, σ.next⟩ (a.put d v) w := by
  cases d with
  | none => exact ⟨h.size, fun t ht => h.slots t fun hu => ht ⟨hu, by simp⟩, h.defers, h.holds, h.step, h.next, h.base, h.low, h.old⟩
  | some d =>
    refine ⟨by simp [Act.put, putS, setA_eq, h.size], fun t ht => ?_, h.defers, h.holds, h.step, h.next, h.base, h.low, h.old⟩
    simp only [Act.put, putS]
    rw [getA_setA]
    by_cases hd : d = t
    · subst hd
      by_cases hl : d < σ.slots.length
      · rw [if_pos ⟨rfl, hl⟩]
        have hl' : d < a.tmps.size := by rw [h.size]; exact hl
        simp only [Array.getD_eq_getD_getElem?, Array.getElem?_setIfInBounds, if_pos hl', if_true, Option.getD_some]
        exact hx
      · rw [if_neg (by simp [hl])]
        have : getA σ.slots d = .dead := by rw [getA_eq, List.getD, List.getElem?_eq_none (Nat.not_lt.1 hl)]; rfl
        rw [this]
        exact .of (.data _ _ (.dead _))
    · rw [if_neg (by simp [hd])]
      have : (a.tmps.setIfInBounds d v).getD t undef = a.tmps.getD t undef := by
        simp only [Array.getD_eq_getD_getElem?, Array.getElem?_setIfInBounds, if_neg hd]
      rw [this]
      exact h.slots t fun hu => ht ⟨hu, by simpa using hd⟩
theorem Rel.weakU {U U' : Nat → Prop} {G : Ghost} {σ : ASt} {a : Act} {w : World} (h : Rel B U G σ a w) (hu : ∀ t, U t → U' t) : Rel B U' G σ a w :=
  ⟨h.size, fun t ht => h.slots t fun hu' => ht (hu t hu'), h.defers, h.holds, h.step, h.next, h.base, h.low, h.old⟩

def No : Nat → Prop := fun _ => False

/-- the bool in a slot is the bool in the model's -/
theorem Rel.bool {U : Nat → Prop} {G : Ghost} {σ : ASt} {a : Act} {w : World} (h : Rel B U G σ a w) {d : Nat} {b : Bool} (hd : ¬ U d) (hb : getA σ.slots d = .v (.bool b)) : a.tmps[d]? = some (.bool b) := by
  have h1 := h.slots d hd
  rw [hb] at h1
  have h2 : a.tmps.getD d undef = .bool b := Sim.v_inv h1.down
  rw [Array.getD_eq_getD_getElem?] at h2
  cases hg : a.tmps[d]? with
  | some v => rw [hg] at h2; simpa using h2
  | none => rw [hg] at h2; cases h2

theorem guarded_sound {U : Nat → Prop} {G : Ghost} {σ : ASt} {a : Act} {w : World} (h : Rel B U G σ a w) {ops : Array Oper} {o : Oper} {yes no : Prop} (hU : ∀ j b d, o.guard = some (j, b) → (ops[j]?).bind (·.dst) = some d → ¬ U d) (hg : guarded ops.toList σ.slots o yes no) :
    (Region.wanted o (yielded ops a.tmps) = true ∧ yes) ∨ (Region.wanted o (yielded ops a.tmps) = false ∧ no) := by
  unfold guarded at hg
  split at hg
  · rename_i h0
    exact .inl ⟨by simp [Region.wanted, h0], hg⟩
  · rename_i j want h0
    split at hg
    · rename_i d hd
      rw [Array.getElem?_toList] at hd
      split at hg
      · rename_i b hb
        have h1 := h.bool (hU j want d h0 hd) hb
        have hy : yielded ops a.tmps j = some b := by simp [yielded, hd, h1]
        cases want <;> cases b <;> simp only [abr] at hg
        · exact .inl ⟨by simp [Region.wanted, h0, hy], hg⟩
        · exact .inr ⟨by simp [Region.wanted, h0, hy], hg⟩
        · exact .inr ⟨by simp [Region.wanted, h0, hy], hg⟩
        · exact .inl ⟨by simp [Region.wanted, h0, hy], hg⟩
      · rename_i vs hb
        have h1 := h.slots d (hU j want d h0 hd)
        rw [hb] at h1
        have h2 : a.tmps.getD d undef = .tuple vs := Sim.v_inv h1.down
        have hy : yielded ops a.tmps j = none := by
          unfold yielded
          rw [hd]
          simp only [Option.bind_some]
          cases hg' : a.tmps[d]? with
          | none => rfl
          | some v =>
            rw [Array.getD_eq_getD_getElem?, hg'] at h2
            simp only [Option.getD_some] at h2
            subst h2; rfl
        exact .inr ⟨by simp [Region.wanted, h0, hy], hg⟩
      · exact hg.elim
    · exact hg.elim

theorem aops_sound (hT : TOk P TT) {ops : Array Oper} {K : Kn} {KP : AV → Kn} (hK : ∀ s L n G a w, K s L n → Rel B No G ⟨s, L, n⟩ a w → Q .normal a w)
    (hKP : ∀ x s L n v G a w, KP x s L n → Sim G x v → Rel B No G ⟨s, L, n⟩ a w → Q (.panic [{ v := v, recovered := false }]) a w) :
    ∀ (rest : List Oper) (s : List AV) (L : Heap) (n : Nat) (G : Ghost) (a : Act) (w : World), aops P TT ops.toList rest s L n K KP → Rel B No G ⟨s, L, n⟩ a w → wpList P ops Q rest a w
  | [], s, L, n, G, a, w, h, hr => hK s L n G a w h hr
  | o :: rest, s, L, n, G, a, w, h, hr => by
    unfold aops at h
    unfold wpList
    rcases guarded_sound (B := B) hr (fun _ _ _ _ _ h => h) h with ⟨h1, h2⟩ | ⟨h1, h2⟩
    · rw [if_pos h1]
      refine .inl (aop_sound hT (σ := ⟨s, L, n⟩) hr (fun _ _ h => h) h2 ⟨fun av L' n' v G' w' k1 k2 k3 k4 => ?_, fun x L' n' v G' w' k1 k2 k3 k4 => hKP x s L' n' v G' a w' k1 k2 k4⟩)
      simp only [putD_eq, forceH_eq] at k1
      exact aops_sound hT hK hKP rest _ _ _ G' _ w' k1 ((k4.put o.dst k2).weakU fun t ht => ht.1)
    · rw [if_neg (by simp [h1])]
      simp only [putD_eq] at h2
      exact aops_sound hT hK hKP rest _ _ _ G _ w h2 ((hr.put o.dst (.of (.data _ _ (.v undef)))).weakU fun t ht => ht.1)

/-- a state that says no more -/
def Conv (σ τ : ASt) : Prop := ∀ B G a w, Rel B No G σ a w → ∃ G', Rel B No G' τ a w
theorem Conv.refl (σ : ASt) : Conv σ σ := fun _ G _ _ h => ⟨G, h⟩
theorem Conv.trans {σ τ υ : ASt} (h : Conv σ τ) (k : Conv τ υ) : Conv σ υ := fun B G a w hr => let ⟨G', h'⟩ := h B G a w hr; k B G' a w h'

/-- a state that says no more, of one whose own objects lie at N or above -/
def ConvN (N : Nat) (σ τ : ASt) : Prop := ∀ B G a w, (∀ id, B.G.live id → id < N) → B.k ≤ N → Rel B No G σ a w → ∃ G', Rel B No G' τ a w
theorem Conv.toN {σ τ : ASt} (h : Conv σ τ) (N : Nat) : ConvN N σ τ := fun B G a w _ _ hr => h B G a w hr
theorem ConvN.after {N : Nat} {σ τ υ : ASt} (k : ConvN N τ υ) (h : Conv σ τ) : ConvN N σ υ := fun B G a w h1 h2 hr => let ⟨G', h'⟩ := h B G a w hr; k B G' a w h1 h2 h'
theorem ConvN.then {N : Nat} {σ τ υ : ASt} (h : ConvN N σ τ) (k : Conv τ υ) : ConvN N σ υ := fun B G a w h1 h2 hr => let ⟨G', h'⟩ := h B G a w h1 h2 hr; k B G' a w h'
theorem getA_renL (f : Nat → Nat) : ∀ (t : List AV) (i : Nat), getA (AV.renL f t) i = (getA t i).ren f := fun t i => by
  rw [getA_eq, getA_eq, renL_eq, List.getD, List.getD, List.getElem?_map]
  cases t[i]? with
  | none => rfl
  | some a => rfl
/-- objects that came since N, called otherwise -/
theorem ConvN.ren {t : List AV} {H : Heap} {n N M : Nat} (ids : List Nat) (hnd : ids.Nodup) (hlt : ∀ i ∈ ids, i < n) (hN : ∀ i, i < N → ids[i]? = some i) (hM : ids.length = M) : ConvN N ⟨AV.renL (rn ids n) t, renH (rn ids n) H, n⟩ ⟨t, H, M⟩ := fun B G a w hB hk hr => by
  have hf : ∀ a b, rn ids n a = rn ids n b → a = b := fun a b => rn_inj hnd hlt
  have hlo : ∀ i, i < N → rn ids n i = i := fun i hi => by unfold rn; rw [hN i hi]
  have hle : N ≤ M := by
    rcases Nat.lt_or_ge M N with h | h
    · have := hN M h
      rw [← hM] at this; simp at this
    · exact h
  have hkk : ∀ i, G.live (rn ids n i) → i < M := fun i hi => by
    have := hr.next _ hi
    unfold rn at this
    split at this
    · rename_i h; rw [← hM]; exact (List.getElem?_eq_some_iff.1 h).1
    · simp only at this; omega
  have hh := Holds.look hf hkk hr.holds
  generalize hG : ({ G.look (rn ids n) M w.heap.size with lits := G.lits, base := G.base } : Ghost) = G'
  have e1 : G'.X = G.X := by rw [← hG]; rfl
  have e2 : G'.loc = fun i => G.loc (rn ids n i) := by rw [← hG]; rfl
  have e3 : G'.tk = fun i => G.tk (rn ids n i) := by rw [← hG]; rfl
  have e4 : G'.live = fun i => G.live (rn ids n i) ∧ i < M := by rw [← hG]; rfl
  have e5 : G'.lits = G.lits := by rw [← hG]
  have e6 : G'.base = G.base := by rw [← hG]
  have hsim : ∀ a x, Sim (G.look (rn ids n) M w.heap.size) a x → Sim G' a x := fun a x h => h.mono (by rw [e1]; exact fun _ _ _ h => h) fun i hi => ⟨by rw [e4]; exact hi, by rw [e2]; rfl, .inl (by rw [e3]; rfl)⟩
  have hres : ∀ r, ResHolds (G.look (rn ids n) M w.heap.size) w r → ResHolds G' w r := fun r h => h.keep (by rw [e2]; rfl) (by rw [e3]; rfl) hsim fun b _ => ⟨rfl, by rw [e1]; exact fun _ _ h => h⟩
  have hbl : blocksOf G' H = blocksOf G (renH (rn ids n) H) := by
    rw [blocks_ren (G' := G') fun r _ => ⟨by rw [e2], by rw [e3]⟩]
  refine ⟨G', ?_, fun i hi => ?_, hr.defers, ⟨by rw [e1]; exact hh.X, fun r h => hres r (hh.res r h), hh.ids, fun r h => ?_, ?_, fun b hb => ?_⟩, ?_, fun i hi => ?_, by rw [e6]; exact hr.base, Nat.le_trans hk hle, fun i hi => ?_⟩
  · rw [hr.size, renL_eq]; simp
  · have h1 := hr.slots i hi
    rw [getA_renL] at h1
    show Slot G' (getA t i) _
    generalize getA t i = av at h1 ⊢
    unfold Slot at h1 ⊢
    split
    · rw [AV.ren] at h1
      simp only [Own.ren] at h1
      obtain ⟨h1, b, off, h2, h3⟩ := h1
      exact ⟨hsim _ _ (Sim.look (a := .list _ .full) h1 hkk), b, off, h2, by rw [e5]; exact h3⟩
    · rename_i hne
      have : Sim G (av.ren (rn ids n)) (a.tmps.getD i undef) := by
        split at h1
        · rename_i rows he
          exfalso
          cases av with
          | list rows' o =>
            rw [AV.ren] at he
            cases o <;> simp only [Own.ren] at he <;> first | exact hne _ rfl | (cases he; done)
          | _ => rw [AV.ren] at he; cases he
        · exact h1
      exact hsim _ _ (this.look hkk)
  · have := hh.live r h
    rw [e4]; exact this
  · rw [hbl]; exact hr.holds.blocks
  · rw [e5] at hb
    obtain ⟨q1, q2, q3⟩ := hr.holds.lits b hb
    exact ⟨by rw [e6]; exact q1, q2, by rw [hbl]; exact q3⟩
  · have st := hr.step
    refine ⟨st.os, st.tape, st.output, st.size, by rw [e6]; exact st.base, by rw [e1]; exact st.X, st.frame, by rw [e1]; exact st.newX, fun b hb => st.newB b (by rw [← hbl]; exact hb), fun i hi => ?_, fun i hi => ?_, by rw [e5]; exact st.lits, by rw [e5]; exact st.newL⟩
    · have hiN := hB i hi
      obtain ⟨k1, k2, k3⟩ := st.live i hi
      rw [e4, e2, e3]
      simp only [hlo i hiN]
      exact ⟨⟨k1, Nat.lt_of_lt_of_le hiN hle⟩, k2, k3⟩
    · rcases Nat.lt_or_ge i N with h | h
      · have h2 : i ∈ (renH (rn ids n) H).map (·.1) := by
          rw [ids_ren]
          exact List.mem_map.2 ⟨i, hi, hlo i h⟩
        exact st.newI i h2
      · exact .inr fun hl => Nat.lt_irrefl _ (Nat.lt_of_lt_of_le (hB i hl) h)
  · rw [e4] at hi; exact hi.2
  · rw [e4] at hi
    rcases Nat.lt_or_ge i N with h | h
    · have := hr.old _ hi.1
      rw [hlo i h] at this; exact this
    · exact .inr (Nat.le_trans hk h)

abbrev Kc := AExit → Kn
/-- a way to walk the regions that draw their order, and below which names the walk's caller may have his own -/
structure Dr where
  run : Nat → List Oper → List AV → Heap → Nat → Kc → Prop
  low : Nat → Prop
/-- from a round's end to a head of the loop -/
def LoopTo (low : Nat → Prop) (N : Nat) (σ τ : ASt) : Prop := ConvN N σ τ ∨ ∃ M, low M ∧ ConvN M σ τ
/-- from a statement to the next one -/
def SeqTo (low : Nat → Prop) (σ τ : ASt) : Prop := Conv σ τ ∨ ∃ M, low M ∧ ConvN M σ τ
/-- the walk of code; D walks the regions that draw their order -/
def acode (P : Program) (TT : Types) (D : Dr) : Code → List AV → Heap → Nat → Kc → Prop
  | .skip, s, L, n, K => K .normal s L n
  | .region id ops draw, s, L, n, K => match draw with
    | false => aops P TT ops.toList ops.toList s L n (K .normal) (fun x => K (.panic x))
    | true => D.run id ops.toList s L n K
  | .seq x y, s, L, n, K => acode P TT D x s L n fun e s' L' n' => match e with
    | .normal => ∃ τ : ASt, SeqTo D.low ⟨s', L', n'⟩ τ ∧ acode P TT D y τ.slots τ.L τ.next K
    | e => K e s' L' n'
  | .cond c x y, s, L, n, K => match ev s c with
    | .v (.bool b) => abr b (acode P TT D x s L n K) (acode P TT D y s L n K)
    | _ => False
  | .block id x, s, L, n, K => acode P TT D x s L n fun e s' L' n' => match e with
    | .exit i => match Nat.beq i id with
      | true => K .normal s' L' n'
      | false => K (.exit i) s' L' n'
    | e => K e s' L' n'
  | .loop x, s, L, n, K => ∃ (α : Type) (S : α → ASt) (C : α → Prop) (μ : α → Nat), (∃ a, C a ∧ Conv ⟨s, L, n⟩ (S a)) ∧ ∀ a, C a → acode P TT D x (S a).slots (S a).L (S a).next fun e s' L' n' => match e with
    | .normal => ∃ b, C b ∧ μ b < μ a ∧ LoopTo D.low (S a).next ⟨s', L', n'⟩ (S b)
    | e => K e s' L' n'
  | .exit id, s, L, n, K => K (.exit id) s L n
  | .ret, s, L, n, K => K .ret s L n
  | _, _, _, _, _ => False

def Post (B : Base) (K : Kc) : Exit → Act → World → Prop := fun e a w => ∃ e' s L n G, K e' s L n ∧ ESim G e' e ∧ Rel B No G ⟨s, L, n⟩ a w
/-- a way to walk the regions that draw their order -/
def DOk (P : Program) (D : Nat → List Oper → List AV → Heap → Nat → Kc → Prop) : Prop :=
  ∀ B id (ops : Array Oper) s L n K G a w, D id ops.toList s L n K → Rel B No G ⟨s, L, n⟩ a w → (Code.region id ops true).wp P (Post B K) a w

theorem least {p : Nat → Prop} (h : ∃ n, p n) : ∃ n, p n ∧ ∀ m, p m → n ≤ m := by
  obtain ⟨n, hn⟩ := h
  induction n using Nat.strongRecOn with
  | _ n ih =>
    by_cases hx : ∃ m, m < n ∧ p m
    · obtain ⟨m, h1, h2⟩ := hx; exact ih m h1 h2
    · refine ⟨n, hn, fun m hm => ?_⟩
      rcases Nat.lt_or_ge m n with h1 | h1
      · exact absurd ⟨m, h1, hm⟩ hx
      · exact h1
open Classical in
theorem loop_by {P : Program} {Q : Exit → Act → World → Prop} {c : Code} {a : Act} {w : World} (I : Nat → Act → World → Prop) (h0 : ∃ n, I n a w) (hround : ∀ n a w, I n a w → c.wp P (Exit.then (fun a' w' => ∃ m, m < n ∧ I m a' w') Q) a w) : (Code.loop c).wp P Q a w := by
  refine wp_loop (fun a w => ∃ n, I n a w) (fun a w => if h : ∃ n, I n a w then (least h).choose else 0) h0 fun a w hI => ?_
  have h1 := (least hI).choose_spec
  refine wp_mono (hround _ a w h1.1) fun e a' w' he => ?_
  cases e with
  | normal =>
    obtain ⟨m, hm, hm'⟩ := he
    refine ⟨⟨m, hm'⟩, ?_⟩
    rw [dif_pos ⟨m, hm'⟩, dif_pos hI]
    exact Nat.lt_of_le_of_lt ((least ⟨m, hm'⟩).choose_spec.2 m hm') hm
  | exit id => exact he
  | goto l => exact he
  | ret => exact he
  | panic ch => exact he
  | outgrown => exact he

theorem acode_sound (hT : TOk P TT) {D : Dr} (hD : DOk P D.run) (hlow : ∀ N, D.low N → (∀ id, B.G.live id → id < N) ∧ B.k ≤ N) : ∀ (c : Code) (s : List AV) (L : Heap) (n : Nat) (K : Kc) (G : Ghost) (a : Act) (w : World), acode P TT D c s L n K → Rel B No G ⟨s, L, n⟩ a w → c.wp P (Post B K) a w := by
  intro c
  induction c with
  | skip => exact fun s L n K G a w h hr => wp_skip ⟨_, s, L, n, G, h, trivial, hr⟩
  | region id ops draw =>
    intro s L n K G a w h hr
    cases draw with
    | false => exact wp_region_list (aops_sound hT (fun s L n G a w h hr => ⟨.normal, s, L, n, G, h, trivial, hr⟩) (fun x s L n v G a w h hs hr => ⟨.panic x, s, L, n, G, h, ⟨v, rfl, hs⟩, hr⟩) _ s L n G a w h hr)
    | true => exact hD B id ops s L n K G a w h hr
  | seq x y ihx ihy =>
    intro s L n K G a w h hr
    refine wp_seq (wp_mono (ihx _ _ _ _ G a w h hr) fun e a' w' ⟨e', s', L', n', G', k1, k2, k3⟩ => ?_)
    cases e' with
    | normal =>
      obtain ⟨τ, c1, c2⟩ := k1
      obtain ⟨G2, c3⟩ : ∃ G2, Rel B No G2 τ a' w' := by
        rcases c1 with c1 | ⟨M, hM, c1⟩
        · exact c1 B G' a' w' k3
        · exact c1 B G' a' w' (hlow M hM).1 (hlow M hM).2 k3
      cases e <;> first | exact k2.elim | exact ihy _ _ _ _ G2 a' w' c2 c3
    | ret => cases e <;> first | exact k2.elim | exact ⟨_, s', L', n', G', k1, k2, k3⟩
    | exit i => cases e <;> first | exact k2.elim | exact ⟨_, s', L', n', G', k1, k2, k3⟩
    | panic x => cases e <;> first | exact k2.elim | exact ⟨_, s', L', n', G', k1, k2, k3⟩
  | cond c x y ihx ihy =>
    intro s L n K G a w h hr
    unfold acode at h
    split at h
    · rename_i b hb
      have h1 := (hr.op (x := c) (fun _ _ h => h)).1
      rw [hb] at h1
      have h2 := h1.v_inv
      cases b with
      | true => exact wp_cond_true h2 (ihx _ _ _ _ G a w h hr)
      | false => exact wp_cond_false h2 (ihy _ _ _ _ G a w h hr)
    · exact h.elim
  | block id x ih =>
    intro s L n K G a w h hr
    refine wp_block (wp_mono (ih _ _ _ _ G a w h hr) fun e a' w' ⟨e', s', L', n', G', k1, k2, k3⟩ => ?_)
    cases e' with
    | normal => cases e <;> first | exact k2.elim | exact ⟨_, s', L', n', G', k1, trivial, k3⟩
    | ret => cases e <;> first | exact k2.elim | exact ⟨_, s', L', n', G', k1, k2, k3⟩
    | panic x => cases e <;> first | exact k2.elim | exact ⟨_, s', L', n', G', k1, k2, k3⟩
    | exit i =>
      cases e with
      | exit j =>
        have hij : i = j := k2
        subst hij
        simp only at k1
        show (if i = id then Post B K Exit.normal a' w' else Post B K (Exit.exit i) a' w')
        cases hb : Nat.beq i id with
        | true =>
          rw [hb] at k1
          rw [if_pos (Nat.eq_of_beq_eq_true hb)]
          exact ⟨_, s', L', n', G', k1, trivial, k3⟩
        | false =>
          rw [hb] at k1
          rw [if_neg (fun e => by subst e; simp at hb)]
          exact ⟨.exit i, s', L', n', G', k1, rfl, k3⟩
      | normal => exact k2.elim
      | goto l => exact k2.elim
      | ret => exact k2.elim
      | panic ch => exact k2.elim
      | outgrown => exact k2.elim
  | loop x ih =>
    intro s L n K G a w h hr
    unfold acode at h
    obtain ⟨α, S, C, μ, ⟨a0, hc0, hv0⟩, hround⟩ := h
    obtain ⟨G0, hr0⟩ := hv0 B G a w hr
    refine loop_by (fun m a w => ∃ al G, C al ∧ μ al = m ∧ Rel B No G (S al) a w) ⟨_, a0, G0, hc0, rfl, hr0⟩ fun m a w ⟨al, G, hc, hm, hr⟩ => ?_
    refine wp_mono (ih _ _ _ _ G a w (hround al hc) hr) fun e a' w' ⟨e', s', L', n', G', k1, k2, k3⟩ => ?_
    cases e' with
    | normal =>
      cases e with
      | normal =>
        obtain ⟨b, h1, h2, h3⟩ := k1
        obtain ⟨G'', h4⟩ : ∃ G'', Rel B No G'' (S b) a' w' := by
          rcases h3 with h3 | ⟨M, hM, h3⟩
          · exact h3 B G' a' w' (fun id hl => hr.next id (hr.step.live id hl).1) hr.low k3
          · exact h3 B G' a' w' (hlow M hM).1 (hlow M hM).2 k3
        exact ⟨μ b, by rw [← hm]; exact h2, b, G'', h1, rfl, h4⟩
      | exit i => exact k2.elim
      | goto l => exact k2.elim
      | ret => exact k2.elim
      | panic ch => exact k2.elim
      | outgrown => exact k2.elim
    | ret => cases e <;> first | exact k2.elim | exact ⟨_, s', L', n', G', k1, k2, k3⟩
    | exit i => cases e <;> first | exact k2.elim | exact ⟨_, s', L', n', G', k1, k2, k3⟩
    | panic x => cases e <;> first | exact k2.elim | exact ⟨_, s', L', n', G', k1, k2, k3⟩
  | exit id => exact fun s L n K G a w h hr => wp_exit ⟨_, s, L, n, G, h, rfl, hr⟩
  | ret => exact fun s L n K G a w h hr => wp_ret ⟨_, s, L, n, G, h, trivial, hr⟩
  | rangeFunc => exact fun s L n K G a w h hr => h.elim
  | scope => exact fun s L n K G a w h hr => h.elim
  | label => exact fun s L n K G a w h hr => h.elim
  | goto => exact fun s L n K G a w h hr => h.elim
  | refuse => exact fun s L n K G a w h hr => h.elim
/-- .. with nothing known of the caller -/
theorem acode_sound0 (hT : TOk P TT) {d : Nat → List Oper → List AV → Heap → Nat → Kc → Prop} (hD : DOk P d) (c : Code) (s : List AV) (L : Heap) (n : Nat) (K : Kc) (G : Ghost) (a : Act) (w : World) (h : acode P TT ⟨d, fun _ => False⟩ c s L n K) (hr : Rel B No G ⟨s, L, n⟩ a w) : c.wp P (Post B K) a w :=
  acode_sound hT (D := ⟨d, fun _ => False⟩) hD (fun _ h => h.elim) c s L n K G a w h hr
end
end Go.Am
