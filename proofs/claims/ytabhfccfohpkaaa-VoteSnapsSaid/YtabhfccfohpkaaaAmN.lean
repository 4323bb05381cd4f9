/- Calls, and one operation in a state. -/
import Derived.Test.YtabhfccfohpkaaaAmM
namespace Go.Am
open Go.RowKit
set_option linter.unusedSimpArgs false
set_option linter.unusedVariables false

/-! names of objects, renamed -/
def Own.ren (f : Nat → Nat) : Own → Own
  | .tok k => .tok (f k)
  | o => o
mutual
def AV.ren (f : Nat → Nat) : AV → AV
  | .v x => .v x
  | .list rows o => .list rows (o.ren f)
  | .agg l => .agg (AV.renL f l)
  | .tuple l => .tuple (AV.renL f l)
  | .ptr id off => .ptr (f id) off
  | .arr id off n c => .arr (f id) off n c
  | .cref l => .cref l
  | .fn g l => .fn g (AV.renL f l)
  | .bnd g l => .bnd g (AV.renL f l)
  | .iface t x => .iface t (AV.ren f x)
  | .dead => .dead
def AV.renL (f : Nat → Nat) : List AV → List AV
  | [] => []
  | a :: l => AV.ren f a :: AV.renL f l
end
theorem renL_eq (f : Nat → Nat) : ∀ l, AV.renL f l = l.map (AV.ren f)
  | [] => by rw [AV.renL]; rfl
  | a :: l => by rw [AV.renL, renL_eq f l]; rfl
def Res.ren (f : Nat → Nat) : Res → Res
  | .box l => .box (AV.renL f l)
  | .tok s n => .tok s n
  | .seq rows k => .seq rows k
theorem AV.pure_ren {a : AV} (h : a.pure = true) (f : Nat → Nat) : a.ren f = a := by
  cases a with
  | list rows o => cases o <;> first | rfl | (rw [AV.ren]; rfl) | (simp [AV.pure] at h)
  | v x => rw [AV.ren]
  | dead => rw [AV.ren]
  | cref l => rw [AV.ren]
  | _ => simp [AV.pure] at h
theorem seqC_pure {rows : List (List AV)} {k : Nat} (h : ∀ a ∈ rows.flatten, a.pure = true) {i : Nat} {a : AV} (ha : (seqC rows k)[i]? = some a) (f : Nat → Nat) : a.ren f = a := by
  unfold seqC at ha
  rcases List.mem_append.1 (List.mem_of_getElem? ha) with h1 | h1
  · exact AV.pure_ren (h a h1) f
  · rw [List.eq_of_mem_replicate h1, AV.ren]
def renH (f : Nat → Nat) : Heap → Heap
  | [] => []
  | (i, r) :: H => (f i, r.ren f) :: renH f H
theorem renH_eq (f : Nat → Nat) (H : Heap) : renH f H = H.map fun p => (f p.1, p.2.ren f) := by
  induction H with
  | nil => rfl
  | cons p H ih => obtain ⟨i, r⟩ := p; simp [renH, ih]

/-- the ghost as one who calls its objects otherwise sees it -/
def Ghost.look (G : Ghost) (f : Nat → Nat) (k base : Nat) : Ghost :=
  { X := G.X, loc := fun i => G.loc (f i), tk := fun i => G.tk (f i), live := fun i => G.live (f i) ∧ i < k, lits := fun _ => False, base := base }
theorem Sim.look {G : Ghost} {f : Nat → Nat} {k base : Nat} {a : AV} {x : Value} (h : Sim G (a.ren f) x) (hk : ∀ i, G.live (f i) → i < k) : Sim (G.look f k base) a x := by
  generalize hb : a.ren f = b at h
  induction h generalizing a with
  | data b x h =>
    subst hb
    cases a with
    | v y => exact .data _ _ (by rw [AV.ren] at h; exact h)
    | list rows o =>
      rw [AV.ren] at h
      cases o with
      | tok j =>
        exfalso
        cases h with
        | nil _ _ _ _ _ hs => rcases hs with h | h <;> cases h
        | list _ _ _ _ _ _ _ _ _ _ hs _ _ _ _ => rcases hs with h | h <;> cases h
      | free => exact .data _ _ h
      | full => exact .data _ _ h
      | lit => exact .data _ _ h
    | agg l => rw [AV.ren] at h; cases h
    | tuple l => rw [AV.ren] at h; cases h
    | ptr i j => rw [AV.ren] at h; cases h
    | arr i j k l => rw [AV.ren] at h; cases h
    | cref l => exact .data _ _ (by rw [AV.ren] at h; exact h)
    | fn g l => rw [AV.ren] at h; cases h
    | bnd g l => rw [AV.ren] at h; cases h
    | iface t y => rw [AV.ren] at h; cases h
    | dead => exact .data _ _ (.dead _)
  | tok rows j x hj h hl hz he =>
    cases a <;> rw [AV.ren] at hb <;> try (cases hb; done)
    rename_i rows' o
    cases o <;> simp only [Own.ren] at hb <;> cases hb
    exact .tok _ _ _ ⟨hj, hk _ hj⟩ h hl hz he
  | ptr i j hi =>
    cases a <;> rw [AV.ren] at hb <;> cases hb
    exact .ptr _ _ ⟨hi, hk _ hi⟩
  | arr i off n c base hi hn hc hbs =>
    cases a <;> rw [AV.ren] at hb <;> cases hb
    exact .arr _ _ _ c base ⟨hi, hk _ hi⟩ hn hc hbs
  | fn g cap vs hl h ih =>
    cases a <;> rw [AV.ren] at hb <;> cases hb
    rename_i l
    rw [renL_eq] at hl ih
    refine .fn _ _ _ (by simpa using hl) fun i a ha => ih i (a.ren f) (by simp [ha]) rfl
  | bnd g cap vs hl h ih =>
    cases a <;> rw [AV.ren] at hb <;> cases hb
    rename_i l
    rw [renL_eq] at hl ih
    refine .bnd _ _ _ (by simpa using hl) fun i a ha => ih i (a.ren f) (by simp [ha]) rfl
  | agg cap vs hl h ih =>
    cases a <;> rw [AV.ren] at hb <;> cases hb
    rename_i l
    rw [renL_eq] at hl ih
    refine .agg _ _ (by simpa using hl) fun i a ha => ih i (a.ren f) (by simp [ha]) rfl
  | tuple cap vs hl h ih =>
    cases a <;> rw [AV.ren] at hb <;> cases hb
    rename_i l
    rw [renL_eq] at hl ih
    refine .tuple _ _ (by simpa using hl) fun i a ha => ih i (a.ren f) (by simp [ha]) rfl
  | iface t b x h ih =>
    cases a <;> rw [AV.ren] at hb <;> cases hb
    exact .iface _ _ _ (ih rfl)
/-- and back: what he says of his objects holds of ours -/
theorem Sim.back {G0 G : Ghost} {f : Nat → Nat} {a : AV} {x : Value} (h : Sim G0 a x) (hX : G.X = G0.X) (hl : ∀ i, G0.live i → G.live (f i) ∧ G.loc (f i) = G0.loc i ∧ G.tk (f i) = G0.tk i) : Sim G (a.ren f) x := by
  induction h with
  | data a x h =>
    rw [← hX] at h
    cases h with
    | v x => exact .data _ _ (by rw [AV.ren]; exact .v x)
    | dead x => exact .data _ _ (by rw [AV.ren]; exact .dead x)
    | nil o a c hc ho hs => rw [AV.ren]; rcases hs with rfl | rfl <;> exact .data _ _ (.nil _ a c hc ho (by simp [Own.ren]))
    | list rows o b off c s y h1 h2 h3 h4 h5 h6 h7 h8 => rw [AV.ren]; rcases h4 with rfl | rfl <;> exact .data _ _ (.list rows _ b off c s y h1 h2 h3 (by simp [Own.ren]) h5 h6 h7 h8)
    | cref l b off y h1 h2 h3 => rw [AV.ren]; exact .data _ _ (.cref l b off y h1 h2 h3)
  | tok rows k x hk h hle hz he =>
    obtain ⟨k1, k2, k3⟩ := hl k hk
    rw [AV.ren]
    exact .tok rows (f k) x k1 (by rw [hX]; exact h) (by rw [k3]; exact hle) (by rw [k3]; exact hz) (by rw [k3]; exact he)
  | ptr id off hk =>
    obtain ⟨k1, k2, k3⟩ := hl id hk
    rw [AV.ren, ← k2]; exact .ptr _ _ k1
  | arr id off n c base hk hn hc hb =>
    obtain ⟨k1, k2, k3⟩ := hl id hk
    rw [AV.ren]; exact .arr _ _ _ c base k1 hn hc (by rw [k2]; exact hb)
  | fn g cap vs hl' h ih =>
    rw [AV.ren, renL_eq]
    exact .fn _ _ _ (by simpa using hl') fun i a ha => by
      rw [List.getElem?_map, Option.map_eq_some_iff] at ha
      obtain ⟨b, hb, rfl⟩ := ha
      exact ih i b hb
  | bnd g cap vs hl' h ih =>
    rw [AV.ren, renL_eq]
    exact .bnd _ _ _ (by simpa using hl') fun i a ha => by
      rw [List.getElem?_map, Option.map_eq_some_iff] at ha
      obtain ⟨b, hb, rfl⟩ := ha
      exact ih i b hb
  | agg cap vs hl' h ih =>
    rw [AV.ren, renL_eq]
    exact .agg _ _ (by simpa using hl') fun i a ha => by
      rw [List.getElem?_map, Option.map_eq_some_iff] at ha
      obtain ⟨b, hb, rfl⟩ := ha
      exact ih i b hb
  | tuple cap vs hl' h ih =>
    rw [AV.ren, renL_eq]
    exact .tuple _ _ (by simpa using hl') fun i a ha => by
      rw [List.getElem?_map, Option.map_eq_some_iff] at ha
      obtain ⟨b, hb, rfl⟩ := ha
      exact ih i b hb
  | iface t a x h ih => rw [AV.ren]; exact .iface _ _ _ ih

inductive AOut where
  | ret (a : AV)
  | panic (a : AV)
def AOut.ren (f : Nat → Nat) : AOut → AOut
  | .ret a => .ret (a.ren f)
  | .panic a => .panic (a.ren f)
def OSim (G : Ghost) : AOut → Ending → Prop
  | .ret a, .returned v => Sim G a v
  | .panic a, .panicked chain => ∃ v, chain = [{ v, recovered := false }] ∧ Sim G a v
  | _, _ => False

/-- a call's run, of a function with a body or without -/
def Upon (P : Program) (f : FuncId) (args : Array Value) (w : World) (R : Ending → World → Prop) : Prop :=
  ((callFunc f args).run P w = .ok (.enter f args) w ∧ Calls P f args w R) ∨ ∃ v w', (callFunc f args).run P w = .ok (.value v) w' ∧ R (.returned v) w'

/-- A CONTRACT: called with these values, and these objects, function f ends so -/
def ACalls (P : Program) (f : FuncId) (k top : Nat) (args : List AV) (H : Heap) (R : AOut → Heap → Prop) : Prop :=
  ∀ (G : Ghost) (w : World) (vals : Array Value), (∀ id, G.live id → id < k) → (∀ b, ¬ G.lits b) → G.base = w.heap.size → Holds G w H → args.length = vals.size → (∀ i a, args[i]? = some a → Sim G a (vals.getD i undef)) →
    Upon P f vals w fun e w' => ∃ G' out H', R out H' ∧ OSim G' out e ∧ Holds G' w' H' ∧ Step G w H G' w' H' ∧ ∀ id, G'.live id → G.live id ∨ (k ≤ id ∧ id < top)

theorem ACalls.mono {P : Program} {f : FuncId} {k top : Nat} {args : List AV} {H : Heap} {R R' : AOut → Heap → Prop} (h : ACalls P f k top args H R) (hr : ∀ o H', R o H' → R' o H') : ACalls P f k top args H R' := by
  intro G w vals h1 h2 h3 h4 h5 h6
  rcases h G w vals h1 h2 h3 h4 h5 h6 with ⟨k1, k2⟩ | ⟨v, w', k1, G', out, H', k2, k3⟩
  · exact .inl ⟨k1, k2.mono fun e w' ⟨G', out, H', k3, k4⟩ => ⟨G', out, H', hr _ _ k3, k4⟩⟩
  · exact .inr ⟨v, w', k1, G', out, H', hr _ _ k2, k3⟩

/-- how a caller calls a callee's objects: those that he hands in, and new ones -/
def rn (ids : List Nat) (next : Nat) (j : Nat) : Nat := match ids[j]? with | some i => i | none => next + (j - ids.length)
theorem nodup_get {l : List Nat} (h : l.Nodup) : ∀ {i j x : Nat}, l[i]? = some x → l[j]? = some x → i = j := by
  induction l with
  | nil => intro i j x h1; simp at h1
  | cons a l ih =>
    intro i j x h1 h2
    obtain ⟨n1, n2⟩ := List.nodup_cons.1 h
    cases i with
    | zero =>
      cases j with
      | zero => rfl
      | succ j => simp at h1 h2; subst h1; exact absurd (List.mem_of_getElem? h2) n1
    | succ i =>
      cases j with
      | zero => simp at h1 h2; subst h2; exact absurd (List.mem_of_getElem? h1) n1
      | succ j => simp at h1 h2; rw [ih n2 h1 h2]
theorem rn_inj {ids : List Nat} {next : Nat} (hn : ids.Nodup) (hl : ∀ i ∈ ids, i < next) {a b : Nat} (h : rn ids next a = rn ids next b) : a = b := by
  unfold rn at h
  cases ha : ids[a]? with
  | some i =>
    cases hb : ids[b]? with
    | some j =>
      rw [ha, hb] at h
      simp only at h
      subst h
      exact nodup_get hn ha hb
    | none =>
      rw [ha, hb] at h
      simp only at h
      have := hl i (List.mem_of_getElem? ha)
      omega
  | none =>
    cases hb : ids[b]? with
    | some j =>
      rw [ha, hb] at h
      simp only at h
      have := hl j (List.mem_of_getElem? hb)
      omega
    | none =>
      rw [ha, hb] at h
      simp only at h
      have h1 := List.getElem?_eq_none_iff.1 ha
      have h2 := List.getElem?_eq_none_iff.1 hb
      omega
open Classical in
/-- the caller's ghost behind the call -/
noncomputable def Ghost.after (G G0 : Ghost) (f : Nat → Nat) : Ghost :=
  { X := G0.X, loc := fun i => if h : ∃ j, f j = i ∧ G0.live j then G0.loc h.choose else G.loc i, tk := fun i => if h : ∃ j, f j = i ∧ G0.live j then G0.tk h.choose else G.tk i,
    live := fun i => G.live i ∨ ∃ j, f j = i ∧ G0.live j, lits := G.lits, base := G.base }
theorem Ghost.after_at {G G0 : Ghost} {f : Nat → Nat} (hf : ∀ a b, f a = f b → a = b) {j : Nat} (hj : G0.live j) : (G.after G0 f).live (f j) ∧ (G.after G0 f).loc (f j) = G0.loc j ∧ (G.after G0 f).tk (f j) = G0.tk j := by
  have hex : ∃ i, f i = f j ∧ G0.live i := ⟨j, rfl, hj⟩
  have hc : hex.choose = j := hf _ _ hex.choose_spec.1
  refine ⟨.inr hex, ?_, ?_⟩
  · unfold Ghost.after
    simp only
    rw [dif_pos hex, hc]
  · unfold Ghost.after
    simp only
    rw [dif_pos hex, hc]
theorem Ghost.after_out {G G0 : Ghost} {f : Nat → Nat} {i : Nat} (h : ¬ ∃ j, f j = i ∧ G0.live j) : (G.after G0 f).loc i = G.loc i ∧ (G.after G0 f).tk i = G.tk i :=
  ⟨dif_neg h, dif_neg h⟩

theorem placed_ren {G G' : Ghost} {f : Nat → Nat} {r : Nat × Res} (hl : G.loc (f r.1) = G'.loc r.1) (ht : G.tk (f r.1) = G'.tk r.1) : G.placed (f r.1, r.2.ren f) = G'.placed r := by
  obtain ⟨i, r⟩ := r
  cases r <;> simp_all [Ghost.placed, Res.ren]
theorem blocks_ren {G G' : Ghost} {f : Nat → Nat} : ∀ {H : Heap}, (∀ r ∈ H, G.loc (f r.1) = G'.loc r.1 ∧ G.tk (f r.1) = G'.tk r.1) → blocksOf G (renH f H) = blocksOf G' H
  | [], _ => rfl
  | (i, r) :: H, h => by
    have h1 := h (i, r) (by simp)
    have h2 := placed_ren (r := (i, r)) h1.1 h1.2
    have h3 := blocks_ren (H := H) fun x hx => h x (List.mem_cons_of_mem _ hx)
    unfold blocksOf at h3 ⊢
    simp only [renH, List.filterMap_cons, h2, h3]
theorem ids_ren (f : Nat → Nat) (H : Heap) : (renH f H).map (·.1) = (H.map (·.1)).map f := by rw [renH_eq]; simp
theorem nodup_map_inj {f : Nat → Nat} (hf : ∀ a b, f a = f b → a = b) : ∀ {l : List Nat}, (l.map f).Nodup ↔ l.Nodup
  | [] => by simp
  | a :: l => by
    simp only [List.map_cons, List.nodup_cons, nodup_map_inj hf (l := l), List.mem_map]
    constructor
    · rintro ⟨h1, h2⟩; exact ⟨fun hm => h1 ⟨a, hm, rfl⟩, h2⟩
    · rintro ⟨h1, h2⟩; exact ⟨fun ⟨b, hb, he⟩ => h1 (hf _ _ he ▸ hb), h2⟩

theorem Holds.look {G : Ghost} {w : World} {f : Nat → Nat} {k : Nat} {H : Heap} (hf : ∀ a b, f a = f b → a = b) (hk : ∀ i, G.live (f i) → i < k) (h : Holds G w (renH f H)) : Holds (G.look f k w.heap.size) w H where
  X := h.X
  res := fun r hr => by
    obtain ⟨i, r⟩ := r
    have hm : (f i, r.ren f) ∈ renH f H := by rw [renH_eq]; exact List.mem_map.2 ⟨(i, r), hr, rfl⟩
    have h1 := h.res _ hm
    cases r with
    | box cells =>
      obtain ⟨k0, arr, E, fr, k1, k2, k3, k4⟩ := h1
      rw [renL_eq] at k2 k4
      exact ⟨k0, arr, E, fr, k1, by simpa using k2, k3, fun i a ha => (k4 i (a.ren f) (by simp [ha])).look hk⟩
    | seq rows k =>
      intro hne
      obtain ⟨⟨k0, arr, E, fr, k1, k2, k3, k4⟩, hp⟩ := h1 hne
      exact ⟨⟨k0, arr, E, fr, k1, k2, k3, fun i a ha => Sim.look (by rw [seqC_pure hp ha f]; exact k4 i a ha) hk⟩, hp⟩
    | tok s n => exact h1
  ids := (nodup_map_inj hf).1 (by rw [← ids_ren]; exact h.ids)
  live := fun r hr => by
    have hm : (f r.1, r.2.ren f) ∈ renH f H := by rw [renH_eq]; exact List.mem_map.2 ⟨r, hr, rfl⟩
    have := h.live _ hm
    exact ⟨this, hk _ this⟩
  blocks := by
    have := h.blocks
    rwa [blocks_ren (G' := G.look f k w.heap.size) (fun r _ => ⟨rfl, rfl⟩)] at this
  lits := fun _ h => h.elim

theorem Holds.back {G G0 G0' : Ghost} {w w' : World} {f : Nat → Nat} {k : Nat} {H H' : Heap} (hf : ∀ a b, f a = f b → a = b) (hk : ∀ i, G.live (f i) → i < k) (h : Holds G w (renH f H)) (hG0 : G0 = G.look f k w.heap.size)
    (h' : Holds G0' w' H') (st : Step G0 w H G0' w' H') :
    Holds (G.after G0' f) w' (renH f H') ∧ Step G w (renH f H) (G.after G0' f) w' (renH f H') := by
  subst hG0
  have hat : ∀ r ∈ H', (G.after G0' f).loc (f r.1) = G0'.loc r.1 ∧ (G.after G0' f).tk (f r.1) = G0'.tk r.1 := fun r hr => (Ghost.after_at hf (h'.live r hr)).2
  have hb' : blocksOf (G.after G0' f) (renH f H') = blocksOf G0' H' := blocks_ren hat
  have hb : blocksOf G (renH f H) = blocksOf (G.look f k w.heap.size) H := blocks_ren fun r _ => ⟨rfl, rfl⟩
  have hsim : ∀ a x, Sim G0' a x → Sim (G.after G0' f) (a.ren f) x := fun a x hs => hs.back rfl fun i hi => Ghost.after_at hf hi
  have hfr : ∀ b, b < w.heap.size → b ∉ blocksOf G (renH f H) → w'.heap[b]? = w.heap[b]? := fun b h1 h2 => (st.frame b h1 (by rw [← hb]; exact h2)).2 (fun h => h)
  refine ⟨⟨h'.X, fun r hr => ?_, by rw [ids_ren]; exact (nodup_map_inj hf).2 h'.ids, fun r hr => ?_, by rw [hb']; exact h'.blocks, fun b hbl => ?_⟩,
    ⟨st.os, st.tape, st.output, st.size, rfl, st.X, fun b h1 h2 => ⟨.inl (hfr b h1 h2), fun _ => hfr b h1 h2⟩, fun b i v hx => by rw [hb]; exact st.newX b i v hx, fun b hbb => by rw [hb'] at hbb; rw [hb]; exact st.newB b hbb, fun i hi => ?_, fun i hi => ?_, fun _ h => h, fun _ h => .inl h⟩⟩
  · rw [renH_eq] at hr
    obtain ⟨⟨i, r⟩, hr0, rfl⟩ := List.mem_map.1 hr
    have h1 := h'.res _ hr0
    obtain ⟨e1, e2⟩ := hat _ hr0
    cases r with
    | box cells =>
      obtain ⟨k0, arr, E, fr, k1, k2, k3, k4⟩ := h1
      simp only at e1 e2
      refine ⟨fun j => by rw [e1]; exact k0 j, arr, E, fr, by rw [e1]; exact k1, by rw [renL_eq]; simpa using k2, fun j => by rw [e1]; exact k3 j, fun j a ha => ?_⟩
      rw [renL_eq, List.getElem?_map, Option.map_eq_some_iff] at ha
      obtain ⟨b, hb, rfl⟩ := ha
      exact hsim _ _ (k4 j b hb)
    | seq rows k =>
      intro hne
      obtain ⟨⟨k0, arr, E, fr, k1, k2, k3, k4⟩, hp⟩ := h1 hne
      simp only at e1 e2
      refine ⟨⟨fun j => by rw [e1]; exact k0 j, arr, E, fr, by rw [e1]; exact k1, k2, fun j => by rw [e1]; exact k3 j, fun j a ha => ?_⟩, hp⟩
      have := hsim _ _ (k4 j a ha)
      rwa [seqC_pure hp ha f] at this
    | tok s n =>
      simp only at e1 e2
      unfold ResHolds at h1 ⊢
      simp only [Res.ren, e2]
      exact h1
  · rw [renH_eq] at hr
    obtain ⟨r0, hr0, rfl⟩ := List.mem_map.1 hr
    exact (Ghost.after_at hf (h'.live r0 hr0)).1
  · obtain ⟨q1, q2, q3⟩ := h.lits b hbl
    refine ⟨q1, Nat.lt_of_lt_of_le q2 st.size, ?_⟩
    rw [hb']
    intro hm
    rcases st.newB b hm with hm | hm
    · rw [← hb] at hm; exact q3 hm
    · omega
  · by_cases hex : ∃ j, f j = i ∧ G0'.live j
    · obtain ⟨j, rfl, hj⟩ := hex
      obtain ⟨a1, a2, a3⟩ := Ghost.after_at (G := G) hf hj
      have hj0 : (G.look f k w.heap.size).live j := ⟨hi, hk _ hi⟩
      obtain ⟨b1, b2, b3⟩ := st.live j hj0
      refine ⟨a1, a2.trans b2, ?_⟩
      rw [a3]
      rcases b3 with b3 | ⟨b3, b4⟩
      · exact .inl b3
      · refine .inr ⟨?_, b4⟩
        rw [ids_ren]; exact List.mem_map_of_mem b3
    · obtain ⟨a1, a2⟩ := Ghost.after_out (G := G) hex
      exact ⟨.inl hi, a1, .inl a2⟩
  · rw [ids_ren] at hi ⊢
    obtain ⟨j, hj, rfl⟩ := List.mem_map.1 hi
    rcases st.newI j hj with h1 | h1
    · exact .inl (List.mem_map_of_mem h1)
    · refine .inr fun hl => h1 ⟨hl, hk _ hl⟩
end Go.Am
