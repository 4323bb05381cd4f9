/- States that say less, or name the room behind a row. -/
import Derived.Test.YtabhfccfohpkaaaAmY
import Derived.Laws.Externs
namespace Go.Am
open Go.RowKit
set_option linter.unusedSimpArgs false
set_option linter.unusedVariables false

/-- a value that says no more -/
structure Wk (a b : AV) : Prop where
  slot : ∀ G x, Slot G a x → Slot G b x
  sim : ∀ G x, Sim G a x → Sim G b x
theorem Wk.refl (a : AV) : Wk a a := ⟨fun _ _ h => h, fun _ _ h => h⟩
theorem Wk.trans {a b c : AV} (h : Wk a b) (k : Wk b c) : Wk a c := ⟨fun G x s => k.slot G x (h.slot G x s), fun G x s => k.sim G x (h.sim G x s)⟩
theorem Wk.dead (a : AV) : Wk a .dead := ⟨fun _ _ _ => .of (.data _ _ (.dead _)), fun _ _ _ => .data _ _ (.dead _)⟩
theorem sim_free {G : Ghost} {rows : List (List AV)} {o : Own} {x : Value} (h : Sim G (.list rows o) x) : Sim G (.list rows .free) x := by
  cases h with
  | data _ _ h => exact .data _ _ h.free
  | tok _ k _ _ h => exact .data _ _ h
theorem Wk.free (rows : List (List AV)) (o : Own) : Wk (.list rows o) (.list rows .free) :=
  ⟨fun G x h => by
    refine .of ?_
    have := h.down
    unfold AV.down at this
    split at this
    · rename_i h0; cases h0; exact sim_free this
    · exact sim_free this, fun G x h => sim_free h⟩
theorem Wk.lit (rows : List (List AV)) : Wk (.list rows .lit) (.list rows .full) :=
  ⟨fun G x h => .of h.down, fun G x h => by
    cases h with
    | data _ _ h =>
      cases h with
      | nil _ _ _ _ _ hs => rcases hs with h | h <;> cases h
      | list _ _ _ _ _ _ _ _ _ _ hs _ _ _ _ => rcases hs with h | h <;> cases h⟩

inductive WkL : List AV → List AV → Prop
  | nil : WkL [] []
  | cons {a b : AV} {s t : List AV} (h : Wk a b) (hs : WkL s t) : WkL (a :: s) (b :: t)
theorem WkL.refl : ∀ s, WkL s s
  | [] => .nil
  | a :: s => .cons (.refl a) (WkL.refl s)
theorem WkL.len {s t : List AV} (h : WkL s t) : s.length = t.length := by
  induction h with
  | nil => rfl
  | cons _ _ ih => simp [ih]
theorem WkL.get {s t : List AV} (h : WkL s t) : ∀ (i : Nat) (b : AV), t[i]? = some b → ∃ a, s[i]? = some a ∧ Wk a b := by
  induction h with
  | nil => intro i b hb; simp at hb
  | @cons a b s t h1 _ ih =>
    intro i c hc
    cases i with
    | zero => simp at hc; subst hc; exact ⟨a, rfl, h1⟩
    | succ i => exact ih i c hc
theorem WkL.getA {s t : List AV} (h : WkL s t) : ∀ i, Wk (getA s i) (getA t i) := by
  induction h with
  | nil => intro i; exact .refl _
  | cons h1 _ ih =>
    intro i
    cases i with
    | zero => exact h1
    | succ i => exact ih i

inductive WkR : Nat × Res → Nat × Res → Prop
  | box (id : Nat) {l l' : List AV} (h : WkL l l') : WkR (id, .box l) (id, .box l')
  | refl (r : Nat × Res) : WkR r r
theorem LeA.agg' {l l' : List AV} (h : LeL l l') : LeA (.agg l) (.agg l') := fun G x hx => by
  obtain ⟨vs, rfl, h1, h2⟩ := Sim.agg_inv hx
  refine .agg _ _ (by rw [← h.len]; exact h1) fun i a ha => ?_
  obtain ⟨b, hb, hle⟩ := h.get i a ha
  exact hle _ _ (h2 i b hb)
theorem WkR.eq {r r' : Nat × Res} (h : r = r') : WkR r r' := by subst h; exact .refl _
inductive WkH : Heap → Heap → Prop
  | nil : WkH [] []
  | cons {r r' : Nat × Res} {H H' : Heap} (h : WkR r r') (hs : WkH H H') : WkH (r :: H) (r' :: H')
theorem WkH.refl : ∀ H, WkH H H
  | [] => .nil
  | r :: H => .cons (.refl r) (WkH.refl H)
theorem WkR.holds {G : Ghost} {w : World} {r r' : Nat × Res} (h : WkR r r') (hr : ResHolds G w r) : ResHolds G w r' ∧ r'.1 = r.1 ∧ G.placed r' = G.placed r := by
  cases h with
  | refl => exact ⟨hr, rfl, rfl⟩
  | @box id l l' h =>
    refine ⟨?_, rfl, rfl⟩
    obtain ⟨h0, arr, E, fr, h1, h2, h3, h4⟩ := hr
    refine ⟨h0, arr, E, fr, h1, by rw [← h.len]; exact h2, h3, fun i b hb => ?_⟩
    obtain ⟨a, ha, hw⟩ := h.get i b hb
    exact hw.sim _ _ (h4 i a ha)
theorem WkH.all {G : Ghost} {w : World} {H H' : Heap} (h : WkH H H') (hr : ∀ r ∈ H, ResHolds G w r) : (∀ r ∈ H', ResHolds G w r) ∧ H'.map (·.1) = H.map (·.1) ∧ blocksOf G H' = blocksOf G H := by
  induction h with
  | nil => exact ⟨fun r hr => (List.not_mem_nil hr).elim, rfl, rfl⟩
  | @cons r r' H H' h1 _ ih =>
    obtain ⟨a1, a2, a3⟩ := h1.holds (hr r (by simp))
    obtain ⟨b1, b2, b3⟩ := ih fun r hm => hr r (List.mem_cons_of_mem _ hm)
    refine ⟨fun r hm => ?_, by simp [a2, b2], ?_⟩
    · rcases List.mem_cons.1 hm with rfl | hm
      · exact a1
      · exact b1 r hm
    · unfold blocksOf at b3 ⊢
      simp only [List.filterMap_cons, a3, b3]
theorem Conv.wk {s t : List AV} {L L' : Heap} {n : Nat} (hs : WkL s t) (hL : WkH L L') : Conv ⟨s, L, n⟩ ⟨t, L', n⟩ := fun B G a w hr => by
  obtain ⟨a1, a2, a3⟩ := hL.all hr.holds.res
  have hlive : ∀ r ∈ L', G.live r.1 := fun r hm => by
    have : r.1 ∈ L.map (·.1) := by rw [← a2]; exact List.mem_map_of_mem hm
    obtain ⟨r0, h0, e⟩ := List.mem_map.1 this
    rw [← e]; exact hr.holds.live r0 h0
  refine ⟨G, by rw [hr.size]; exact hs.len, fun i hi => (hs.getA i).slot _ _ (hr.slots i hi), hr.defers, ⟨hr.holds.X, a1, by rw [a2]; exact hr.holds.ids, hlive, by rw [a3]; exact hr.holds.blocks, fun b hb => ?_⟩, ?_, hr.next, hr.base, hr.low, hr.old⟩
  · rw [a3]; exact hr.holds.lits b hb
  · have st := hr.step
    exact ⟨st.os, st.tape, st.output, st.size, st.base, st.X, st.frame, st.newX, by rw [a3]; exact st.newB, st.live, by rw [a2]; exact st.newI, st.lits, st.newL⟩

/-- the room behind a row that has none is named -/
theorem Conv.tokBox {s : List AV} {L : Heap} {n id j sz : Nat} {cells : List AV} {rows : List (List AV)} (hf : findL L id = some (.box cells)) (hj : cells[j]? = some (.list rows .full)) (hz : ∀ row ∈ rows, row.length = sz) :
    Conv ⟨s, L, n⟩ ⟨s, (n, .tok sz rows.length) :: setL L id (.box (setA cells j (.list rows (.tok n)))), n + 1⟩ := fun B G a w hr => by
  have hn : ¬ G.live n := fun h => Nat.lt_irrefl _ (hr.next n h)
  have hres := hr.holds.res _ (findL_mem hf)
  obtain ⟨h0, arr, E, fr, h1, h2, h3, h4⟩ := hres
  have hx := h4 j _ hj
  have h5 : Holds G w ([] ++ L) := hr.holds
  obtain ⟨G1, k1, k2, k3, k4, k5⟩ := new_tok (s := sz) h5.left hn (hx.list_inv.2 rfl)
  obtain ⟨m1, m2⟩ := h5.beside k1 k2
  have hkn : G1.live n := k1.live (n, .tok sz rows.length) (by simp)
  have htk := (k1.res (n, .tok sz rows.length) (by simp))
  have hsim : Sim G1 (.list rows (.tok n)) (arr.getD j undef) := .tok rows n _ hkn k3 (by rw [htk.2.1]; exact Nat.le_refl _) (fun row hrow => by rw [htk.1]; exact hz row hrow) fun _ => k4
  -- the box says more
  obtain ⟨L1, p1, p2⟩ := findL_perm hf
  have hid : G1.loc id = G.loc id := (k2.live id (hr.holds.live _ (findL_mem hf))).2.1
  have hnew : ResHolds G1 w (id, .box (setA cells j (.list rows (.tok n)))) := by
    have hold : ResHolds G1 w (id, .box cells) := m1.res _ (by simp [findL_mem hf])
    obtain ⟨g0, arr', E', fr', g1, g2, g3, g4⟩ := hold
    rw [hid, h1] at g1
    simp only [Option.some.injEq, Obj.cells.injEq] at g1
    obtain ⟨rfl, rfl, rfl⟩ := g1
    refine ⟨g0, arr, E, fr, by rw [hid]; exact h1, by rw [setA_eq]; simpa using g2, g3, fun i b hb => ?_⟩
    rw [setA_eq, List.getElem?_set] at hb
    split at hb
    · rename_i e
      subst e
      split at hb
      · cases hb; exact hsim
      · cases hb
    · exact g4 i b hb
  have hb0 : blocksOf G1 ([(n, Res.tok sz rows.length)] ++ (id, .box (setA cells j (.list rows (.tok n)))) :: L1) = blocksOf G1 ([(n, Res.tok sz rows.length)] ++ (id, .box cells) :: L1) := by
    unfold blocksOf; simp [List.filterMap_cons, Ghost.placed]
  have q : ([(n, Res.tok sz rows.length)] ++ L).Perm ([(n, Res.tok sz rows.length)] ++ (id, .box cells) :: L1) := .append_left _ p1
  have m1' := m1.perm q
  have m2' := m2.perm (.refl _) q
  have fin : Holds G1 w ([(n, Res.tok sz rows.length)] ++ (id, .box (setA cells j (.list rows (.tok n)))) :: L1) := by
    refine ⟨m1'.X, fun r hm => ?_, by simpa using m1'.ids, fun r hm => ?_, by rw [hb0]; exact m1'.blocks, by rw [hb0]; exact m1'.lits⟩
    · simp only [List.cons_append, List.nil_append, List.mem_cons] at hm
      rcases hm with rfl | rfl | hm
      · exact m1'.res _ (by simp)
      · exact hnew
      · exact m1'.res _ (by simp [hm])
    · simp only [List.cons_append, List.nil_append, List.mem_cons] at hm
      rcases hm with rfl | rfl | hm
      · exact m1'.live _ (by simp)
      · exact m1'.live (id, .box cells) (by simp)
      · exact m1'.live _ (by simp [hm])
  have q2 : ((n, Res.tok sz rows.length) :: setL L id (.box (setA cells j (.list rows (.tok n))))).Perm ([(n, Res.tok sz rows.length)] ++ (id, .box (setA cells j (.list rows (.tok n)))) :: L1) := .cons _ (p2 _)
  have st : Step B.G B.w B.H G1 w ([(n, Res.tok sz rows.length)] ++ (id, .box cells) :: L1) := hr.step.trans m2'
  have st' : Step B.G B.w B.H G1 w ([(n, Res.tok sz rows.length)] ++ (id, .box (setA cells j (.list rows (.tok n)))) :: L1) :=
    ⟨st.os, st.tape, st.output, st.size, st.base, st.X, st.frame, st.newX, by rw [hb0]; exact st.newB, st.live, by simpa using st.newI, st.lits, st.newL⟩
  refine ⟨G1, hr.size, fun i hi => (hr.slots i hi).mono k2.lits fun a x => k2.sim, hr.defers, fin.perm q2.symm, st'.perm (.refl _) q2.symm, fun i hi => ?_, by rw [k2.base]; exact hr.base, Nat.le_succ_of_le hr.low, fun i hi => ?_⟩
  · rcases k5 i hi with h | h
    · exact Nat.lt_succ_of_lt (hr.next i h)
    · subst h; exact Nat.lt_succ_self _
  · rcases k5 i hi with h | h
    · exact hr.old i h
    · subst h; exact .inr hr.low
theorem Conv.tokSlot {s : List AV} {L : Heap} {n j sz : Nat} {rows : List (List AV)} (hj : getA s j = .list rows .full) (hz : ∀ row ∈ rows, row.length = sz) :
    Conv ⟨s, L, n⟩ ⟨setA s j (.list rows (.tok n)), (n, .tok sz rows.length) :: L, n + 1⟩ := fun B G a w hr => by
  have hn : ¬ G.live n := fun h => Nat.lt_irrefl _ (hr.next n h)
  have hx := hr.slots j (fun h => h)
  simp only [hj] at hx
  have hx' : Sim G (.list rows .full) (a.tmps.getD j undef) := hx.down
  have h5 : Holds G w ([] ++ L) := hr.holds
  obtain ⟨G1, k1, k2, k3, k4, k5⟩ := new_tok (s := sz) h5.left hn (hx'.list_inv.2 rfl)
  obtain ⟨m1, m2⟩ := h5.beside k1 k2
  have hkn : G1.live n := k1.live (n, .tok sz rows.length) (by simp)
  have htk := (k1.res (n, .tok sz rows.length) (by simp))
  have hsim : Sim G1 (.list rows (.tok n)) (a.tmps.getD j undef) := .tok rows n _ hkn k3 (by rw [htk.2.1]; exact Nat.le_refl _) (fun row hrow => by rw [htk.1]; exact hz row hrow) fun _ => k4
  refine ⟨G1, by rw [hr.size, setA_eq]; simp, fun i hi => ?_, hr.defers, m1, hr.step.trans m2, fun i hi => ?_, by rw [k2.base]; exact hr.base, Nat.le_succ_of_le hr.low, fun i hi => ?_⟩
  · show Slot G1 (getA (setA s j _) i) _
    rw [getA_eq, setA_eq, List.getD, List.getElem?_set]
    by_cases e : j = i
    · subst e
      rw [if_pos rfl]
      split
      · exact .of hsim
      · exact .of (.data _ _ (.dead _))
    · rw [if_neg e]
      have := (hr.slots i hi).mono k2.lits fun a x => k2.sim
      rw [getA_eq] at this
      exact this
  · rcases k5 i hi with h | h
    · exact Nat.lt_succ_of_lt (hr.next i h)
    · subst h; exact Nat.lt_succ_self _
  · rcases k5 i hi with h | h
    · exact hr.old i h
    · subst h; exact .inr hr.low
theorem re_tok {G : Ghost} {w : World} {k id sz m : Nat} (h : Holds G w [(k, .tok sz m)]) (hid : ¬ G.live id) :
    ∃ G', Holds G' w [(id, .tok sz m)] ∧ Step G w [(k, .tok sz m)] G' w [(id, .tok sz m)] ∧ G'.X = G.X ∧ G'.tk id = G.tk k ∧ ∀ i, G'.live i → G.live i ∨ i = id := by
  refine ⟨{ G with tk := fun i => if i = id then G.tk k else G.tk i, live := fun i => G.live i ∨ i = id }, ?_⟩
  generalize hG : ({ G with tk := fun i => if i = id then G.tk k else G.tk i, live := fun i => G.live i ∨ i = id } : Ghost) = G'
  have htk : G'.tk id = G.tk k := by rw [← hG]; simp
  have hlive : G'.live = fun i => G.live i ∨ i = id := by rw [← hG]
  have hXe : G'.X = G.X := by rw [← hG]
  have hloc : G'.loc = G.loc := by rw [← hG]
  have hlits : G'.lits = G.lits := by rw [← hG]
  have hbase : G'.base = G.base := by rw [← hG]
  have hbl : blocksOf G' [(id, .tok sz m)] = blocksOf G [(k, .tok sz m)] := by simp only [blocksOf, List.filterMap_cons, Ghost.placed, htk, List.filterMap_nil]
  have hr := h.res (k, .tok sz m) (by simp)
  refine ⟨⟨by rw [hXe]; exact h.X, fun r hr' => ?_, by simp, fun r hr => ?_, by rw [hbl]; exact h.blocks, fun b hb => ?_⟩, ⟨rfl, rfl, rfl, Nat.le_refl _, hbase, by rw [hXe]; exact fun _ _ _ h => h, fun _ _ _ => ⟨.inl rfl, fun _ => rfl⟩, by rw [hXe]; exact fun _ _ _ h => .inl h,
    (fun b hb => by rw [hbl] at hb; exact .inl hb), fun i hi => ?_, fun i hi => ?_, by rw [hlits]; exact fun _ h => h, by rw [hlits]; exact fun _ h => .inl h⟩, hXe, htk, by rw [hlive]; exact fun _ h => h⟩
  · obtain rfl := List.mem_singleton.1 hr'
    unfold ResHolds at hr ⊢
    simp only [htk, hXe]
    exact hr
  · obtain rfl := List.mem_singleton.1 hr
    rw [hlive]; exact .inr rfl
  · rw [hlits] at hb
    obtain ⟨q1, q2, q3⟩ := h.lits b hb
    exact ⟨by rw [hbase]; exact q1, q2, by rw [hbl]; exact q3⟩
  · have hne : i ≠ id := fun e => hid (e ▸ hi)
    refine ⟨by rw [hlive]; exact .inl hi, by rw [hloc], .inl ?_⟩
    rw [← hG]; simp [hne]
  · have : i = id := by simpa using hi
    subst this; exact .inr hid
/-- the room behind a row, called otherwise -/
theorem Conv.retok {s : List AV} {L L0 : Heap} {n j k sz m : Nat} {rows : List (List AV)} (hj : getA s j = .list rows (.tok k)) (hp : L.Perm ((k, .tok sz m) :: L0)) :
    Conv ⟨s, L, n⟩ ⟨setA s j (.list rows (.tok n)), (n, .tok sz m) :: L0, n + 1⟩ := fun B G a w hr => by
  have hn : ¬ G.live n := fun h => Nat.lt_irrefl _ (hr.next n h)
  have hx := hr.slots j (fun h => h)
  simp only [hj] at hx
  have hx' : Sim G (.list rows (.tok k)) (a.tmps.getD j undef) := hx.down
  have h5 : Holds G w ([(k, .tok sz m)] ++ L0) := hr.holds.perm hp
  obtain ⟨G1, k1, k2, k3, k4, k5⟩ := re_tok h5.left hn
  obtain ⟨m1, m2⟩ := h5.beside k1 k2
  have hkn : G1.live n := k1.live (n, .tok sz m) (by simp)
  have hsim : Sim G1 (.list rows (.tok n)) (a.tmps.getD j undef) := by
    generalize a.tmps.getD j undef = vx at hx'
    cases hx' with
    | data _ _ h =>
      cases h with
      | nil _ _ _ _ _ hs => rcases hs with h | h <;> cases h
      | list _ _ _ _ _ _ _ _ _ _ hs _ _ _ _ => rcases hs with h | h <;> cases h
    | tok _ _ _ hk h hl hz he => exact .tok rows n _ hkn (by rw [k3]; exact h) (by rw [k4]; exact hl) (by rw [k4]; exact hz) (by rw [k4]; exact he)
  refine ⟨G1, by rw [hr.size, setA_eq]; simp, fun i hi => ?_, hr.defers, m1, (hr.step.perm (.refl _) hp).trans m2, fun i hi => ?_, by rw [k2.base]; exact hr.base, Nat.le_succ_of_le hr.low, fun i hi => ?_⟩
  · show Slot G1 (getA (setA s j _) i) _
    rw [getA_eq, setA_eq, List.getD, List.getElem?_set]
    by_cases e : j = i
    · subst e
      rw [if_pos rfl]
      split
      · exact .of hsim
      · exact .of (.data _ _ (.dead _))
    · rw [if_neg e]
      have := (hr.slots i hi).mono k2.lits fun a x => k2.sim
      rw [getA_eq] at this
      exact this
  · rcases k5 i hi with h | h
    · exact Nat.lt_succ_of_lt (hr.next i h)
    · subst h; exact Nat.lt_succ_self _
  · rcases k5 i hi with h | h
    · exact hr.old i h
    · subst h; exact .inr hr.low
theorem Wk.int {k : IntKind} {a b : Int} (h : a = b) : Wk (.v (.int k a)) (.v (.int k b)) := by subst h; exact .refl _
theorem Wk.eq {a b : AV} (h : a = b) : Wk a b := by subst h; exact .refl _
theorem Conv.slots {s t : List AV} {L : Heap} {n : Nat} (hs : WkL s t) : Conv ⟨s, L, n⟩ ⟨t, L, n⟩ := .wk hs (.refl L)
theorem Conv.to {s : List AV} {L : Heap} {n : Nat} {τ : ASt} (rest : Heap) (hs : WkL s τ.slots) (hL : L.Perm (τ.L ++ rest)) (hn : n ≤ τ.next) : Conv ⟨s, L, n⟩ τ :=
  (Conv.slots hs).trans (.drop hL hn)
theorem WkL.setA {s : List AV} {j : Nat} {b : AV} (h : Wk (Am.getA s j) b) : WkL s (Am.setA s j b) := by
  induction s generalizing j with
  | nil => exact .nil
  | cons a s ih =>
    cases j with
    | zero => exact .cons h (.refl s)
    | succ j => exact .cons (.refl a) (ih (j := j) h)
theorem Conv.freeSlot {s : List AV} {L : Heap} {n : Nat} {rows : List (List AV)} {own : Own} (j : Nat) (hj : getA s j = .list rows own) : Conv ⟨s, L, n⟩ ⟨Am.setA s j (.list rows .free), L, n⟩ :=
  .slots (.setA (by rw [hj]; exact .free rows own))
/-- an object that is written no more, as a row that stays -/
theorem Conv.freeze {s : List AV} {L L0 : Heap} {n j id off m cp sz : Nat} {cells : List AV} {rows : List (List AV)} (hj : getA s j = .arr id off m cp) (hp : L.Perm ((id, .box cells) :: L0)) (hr : ∀ row ∈ rows, row.length = sz) (hm : rows.length = m)
    (hd : ∀ i a', rows.flatten[i]? = some a' → ∃ a, cells[off + i]? = some a ∧ a.seal = some a' ∧ a.one = true) : Conv ⟨s, L, n⟩ ⟨setA s j (.list rows .free), L0, n⟩ := fun B G a w hrel => by
  have h5 : Holds G w ((id, .box cells) :: L0) := hrel.holds.perm hp
  have hst : Step B.G B.w B.H G w ((id, .box cells) :: L0) := hrel.step.perm (.refl _) hp
  obtain ⟨h0, arr, E, fr, hh, hsz, hf, hcs⟩ := h5.res (id, .box cells) (by simp)
  have hx := hrel.slots j (fun h => h)
  simp only [hj] at hx
  obtain ⟨base, hv, hlive, hnc, hcm, hbs⟩ := hx.down.arr_inv
  have hbl : blocksOf G ((id, .box cells) :: L0) = G.loc id :: blocksOf G L0 := rfl
  have hnd := h5.blocks
  rw [hbl] at hnd
  obtain ⟨hnd1, hnd2⟩ := List.nodup_cons.1 hnd
  have hids := h5.ids
  simp only [List.map_cons] at hids
  obtain ⟨hi1, hi2⟩ := List.nodup_cons.1 hids
  generalize hG : G.sealed (G.loc id) arr cells.length = G'
  have e1 : ∀ b i, G'.X b i = if b = G.loc id then (if i < cells.length then arr[i]? else none) else G.X b i := fun b i => by rw [← hG]; rfl
  have e2 : G'.loc = G.loc := by rw [← hG]; rfl
  have e3 : G'.tk = G.tk := by rw [← hG]; rfl
  have e4 : G'.live = G.live := by rw [← hG]; rfl
  have e5 : G'.lits = G.lits := by rw [← hG]; rfl
  have e6 : G'.base = G.base := by rw [← hG]; rfl
  have hX : ∀ b i v, G.X b i = some v → G'.X b i = some v := fun b i v h => by
    rw [e1, if_neg]
    · exact h
    · rintro rfl
      rw [h0 i] at h; cases h
  have hsim : ∀ a x, Sim G a x → Sim G' a x := fun a x h => h.mono hX fun i hi => ⟨by rw [e4]; exact hi, by rw [e2], .inl (by rw [e3])⟩
  have hbl' : blocksOf G' L0 = blocksOf G L0 := filterMap_same fun r _ => placed_same (by rw [e2]) (by rw [e3])
  have hcell : ∀ (i : Nat) (a' : AV), rows.flatten[i]? = some a' → G'.X (G.loc id) (off + i) = some (arr.getD (off + i) undef) ∧ SimD G'.X a' (arr.getD (off + i) undef) ∧ (arr.getD (off + i) undef).oneCell' = true := fun i a' h => by
    obtain ⟨a, k1, k2, k3⟩ := hd i a' h
    have h2 := (List.getElem?_eq_some_iff.1 k1).1
    have h3 := hcs _ a k1
    refine ⟨?_, ((h3.seal k2).mono hX), h3.one k3⟩
    rw [e1, if_pos rfl, if_pos h2]
    have : off + i < arr.size := by omega
    simp [this]
  have hlist : SimD G'.X (.list rows .free) (.slice base m cp) := by
    subst hm
    by_cases h00 : rows = []
    · subst h00
      exact .nil .free base cp hcm (by simp) (.inl rfl)
    · have hpos : 0 < rows.length := List.length_pos_iff.2 h00
      obtain rfl := hbs (by omega)
      refine .list rows .free (G.loc id) off cp sz (fun i j => arr.getD (off + (i * sz + j)) undef) hnc hcm (by simp) (.inl rfl) hr (fun i row q a h1 h2 => ?_) (fun i row q a h1 h2 => ?_) (fun i row q a h1 h2 => ?_)
      all_goals
        obtain ⟨c1, c2, c3⟩ := hcell _ _ (flat_get hr h1 h2)
      · rw [Nat.add_assoc]; exact c1
      · exact c2
      · exact c3
  refine ⟨G', by rw [hrel.size, setA_eq]; simp, fun i hi => ?_, hrel.defers, ⟨fun b i v hxv => ?_, fun r hr' => ?_, hi2, fun r hr' => ?_, by rw [hbl']; exact hnd2, fun b hb => ?_⟩, ⟨hst.os, hst.tape, hst.output, hst.size, by rw [e6]; exact hst.base, fun b i v h => hX _ _ _ (hst.X b i v h), hst.frame, fun b i v hxv => ?_, fun b hb => ?_, fun i hi => ?_, fun i hi => ?_, by rw [e5]; exact hst.lits, by rw [e5]; exact hst.newL⟩, by rw [e4]; exact hrel.next, by rw [e6]; exact hrel.base, hrel.low, by rw [e4]; exact hrel.old⟩
  · show Slot G' (getA (setA s j _) i) _
    rw [getA_eq, setA_eq, List.getD, List.getElem?_set]
    by_cases e : j = i
    · subst e
      rw [if_pos rfl]
      split
      · refine .of (.data _ _ ?_)
        rw [hv]; exact hlist
      · exact .of (.data _ _ (.dead _))
    · rw [if_neg e]
      have := (hrel.slots i hi).mono (by rw [e5]; exact fun _ h => h) hsim
      rw [getA_eq] at this
      exact this
  · rw [e1] at hxv
    split at hxv
    · rename_i hb
      subst hb
      split at hxv
      · simp only [World.cell?, hh]
        simpa using hxv
      · cases hxv
    · exact h5.X _ _ _ hxv
  · refine (h5.res r (List.mem_cons_of_mem _ hr')).keep (by rw [e2]) (by rw [e3]) hsim fun b hb => ⟨rfl, fun i v hxv => ?_⟩
    rw [e1, if_neg] at hxv
    · exact hxv
    · rintro rfl
      exact hnd1 (List.mem_filterMap.2 ⟨r, hr', hb⟩)
  · rw [e4]; exact h5.live r (List.mem_cons_of_mem _ hr')
  · rw [e5] at hb
    obtain ⟨q1, q2, q3⟩ := h5.lits b hb
    refine ⟨by rw [e6]; exact q1, q2, ?_⟩
    rw [hbl']
    rw [hbl] at q3
    exact fun hm' => q3 (List.mem_cons_of_mem _ hm')
  · rw [e1] at hxv
    split at hxv
    · rename_i hb
      subst hb
      rcases hst.newB (G.loc id) (by rw [hbl]; simp) with h | h
      · exact .inr (.inr h)
      · exact .inr (.inl h)
    · exact hst.newX _ _ _ hxv
  · rw [hbl'] at hb
    exact hst.newB b (by rw [hbl]; exact List.mem_cons_of_mem _ hb)
  · rw [e4, e2, e3]; 
    obtain ⟨k1, k2, k3⟩ := hst.live i hi
    exact ⟨k1, k2, k3⟩
  · exact hst.newI i (by simp only [List.map_cons]; exact List.mem_cons_of_mem _ hi)
/-- a list that may be written, said in cells -/
theorem Conv.unseq {s : List AV} {L L0 : Heap} {n id k : Nat} {rows : List (List AV)} (hne : rows.length + k ≠ 0) (hp : L.Perm ((id, .seq rows k) :: L0)) : Conv ⟨s, L, n⟩ ⟨s, (id, .box (seqC rows k)) :: L0, n⟩ := fun B G a w hr =>
  ⟨G, hr.size, hr.slots, hr.defers, ((hr.holds.perm hp).unseq hne).1, (hr.step.perm (.refl _) hp).unseq hne, hr.next, hr.base, hr.low, hr.old⟩
theorem Conv.toSeq {s : List AV} {L L0 : Heap} {n id k : Nat} {rows : List (List AV)} {cells : List AV} (hp : L.Perm ((id, .box cells) :: L0)) (hc : cells = seqC rows k) (hpure : ∀ a ∈ rows.flatten, a.pure = true) : Conv ⟨s, L, n⟩ ⟨s, (id, .seq rows k) :: L0, n⟩ := fun B G a w hr => by
  subst hc
  exact ⟨G, hr.size, hr.slots, hr.defers, (hr.holds.perm hp).toSeq hpure, (hr.step.perm (.refl _) hp).toSeq, hr.next, hr.base, hr.low, hr.old⟩
/-- an object that is nothing yet -/
theorem new_void {G : Ghost} {w : World} {n : Nat} (hl : Holds G w []) (hn : ¬ G.live n) : Holds (G.boxed n 0) w [(n, .seq [] 0)] ∧ Step G w [] (G.boxed n 0) w [(n, .seq [] 0)] := by
  have hlive : ∀ i, G.live i → (G.boxed n 0).live i ∧ (G.boxed n 0).loc i = G.loc i ∧ (G.boxed n 0).tk i = G.tk i := fun i hi => ⟨.inl hi, by
    have : i ≠ n := fun e => hn (e ▸ hi)
    simp [Ghost.boxed, this], rfl⟩
  have hb : blocksOf (G.boxed n 0) [(n, .seq [] 0)] = [] := rfl
  refine ⟨⟨hl.X, fun r hr => ?_, by simp, fun r hr => ?_, by rw [hb]; simp, fun b hb' => ?_⟩, ⟨rfl, rfl, rfl, Nat.le_refl _, rfl, fun _ _ _ h => h, fun _ _ _ => ⟨.inl rfl, fun _ => rfl⟩, fun _ _ _ h => .inl h, fun b hb' => (by rw [hb] at hb'; cases hb'), fun i hi => let ⟨a, b, c⟩ := hlive i hi; ⟨a, b, .inl c⟩, fun i hi => ?_, fun _ h => h, fun _ h => .inl h⟩⟩
  · obtain rfl := List.mem_singleton.1 hr
    exact fun h => absurd rfl h
  · obtain rfl := List.mem_singleton.1 hr
    exact .inr rfl
  · obtain ⟨q1, q2, q3⟩ := hl.lits b hb'
    exact ⟨q1, q2, by rw [hb]; simp⟩
  · have : i = n := by simpa using hi
    subst this; exact .inr hn
/-- nothing yet, in an object's cell -/
theorem Conv.nilBox {s : List AV} {L : Heap} {n id j : Nat} {cells : List AV} (hf : findL L id = some (.box cells)) (hj : cells[j]? = some (.list [] .full)) :
    Conv ⟨s, L, n⟩ ⟨s, (n, .seq [] 0) :: setL L id (.box (setA cells j (.arr n 0 0 0))), n + 1⟩ := fun B G a w hr => by
  have hn : ¬ G.live n := fun h => Nat.lt_irrefl _ (hr.next n h)
  have hres := hr.holds.res _ (findL_mem hf)
  obtain ⟨h0, arr, E, fr, h1, h2, h3, h4⟩ := hres
  have hx := h4 j _ hj
  have h5 : Holds G w ([] ++ L) := hr.holds
  obtain ⟨k1, k2⟩ := new_void h5.left hn
  have k5 : ∀ i, (G.boxed n 0).live i → G.live i ∨ i = n := fun i hi => hi
  generalize hG1 : G.boxed n 0 = G1 at *
  obtain ⟨m1, m2⟩ := h5.beside k1 k2
  have hkn : G1.live n := k1.live (n, .seq [] 0) (by simp)
  have hsim : Sim G1 (.arr n 0 0 0) (arr.getD j undef) := by
    obtain ⟨base, c, hv, _, _, hf0⟩ := (hx.list_inv.2 rfl).slice
    have hc0 := hf0 rfl
    simp only [List.length_nil] at hc0 hv
    subst hc0
    rw [hv]
    exact .arr n 0 0 0 base hkn (Nat.le_refl _) (Nat.zero_le _) fun h => absurd rfl h
  -- the box says more
  obtain ⟨L1, p1, p2⟩ := findL_perm hf
  have hid : G1.loc id = G.loc id := (k2.live id (hr.holds.live _ (findL_mem hf))).2.1
  have hnew : ResHolds G1 w (id, .box (setA cells j (.arr n 0 0 0))) := by
    have hold : ResHolds G1 w (id, .box cells) := m1.res _ (by simp [findL_mem hf])
    obtain ⟨g0, arr', E', fr', g1, g2, g3, g4⟩ := hold
    rw [hid, h1] at g1
    simp only [Option.some.injEq, Obj.cells.injEq] at g1
    obtain ⟨rfl, rfl, rfl⟩ := g1
    refine ⟨g0, arr, E, fr, by rw [hid]; exact h1, by rw [setA_eq]; simpa using g2, g3, fun i b hb => ?_⟩
    rw [setA_eq, List.getElem?_set] at hb
    split at hb
    · rename_i e
      subst e
      split at hb
      · cases hb; exact hsim
      · cases hb
    · exact g4 i b hb
  have hb0 : blocksOf G1 ([(n, Res.seq [] 0)] ++ (id, .box (setA cells j (.arr n 0 0 0))) :: L1) = blocksOf G1 ([(n, Res.seq [] 0)] ++ (id, .box cells) :: L1) := by
    unfold blocksOf; simp [List.filterMap_cons, Ghost.placed]
  have q : ([(n, Res.seq [] 0)] ++ L).Perm ([(n, Res.seq [] 0)] ++ (id, .box cells) :: L1) := .append_left _ p1
  have m1' := m1.perm q
  have m2' := m2.perm (.refl _) q
  have fin : Holds G1 w ([(n, Res.seq [] 0)] ++ (id, .box (setA cells j (.arr n 0 0 0))) :: L1) := by
    refine ⟨m1'.X, fun r hm => ?_, by simpa using m1'.ids, fun r hm => ?_, by rw [hb0]; exact m1'.blocks, by rw [hb0]; exact m1'.lits⟩
    · simp only [List.cons_append, List.nil_append, List.mem_cons] at hm
      rcases hm with rfl | rfl | hm
      · exact m1'.res _ (by simp)
      · exact hnew
      · exact m1'.res _ (by simp [hm])
    · simp only [List.cons_append, List.nil_append, List.mem_cons] at hm
      rcases hm with rfl | rfl | hm
      · exact m1'.live _ (by simp)
      · exact m1'.live (id, .box cells) (by simp)
      · exact m1'.live _ (by simp [hm])
  have q2 : ((n, Res.seq [] 0) :: setL L id (.box (setA cells j (.arr n 0 0 0)))).Perm ([(n, Res.seq [] 0)] ++ (id, .box (setA cells j (.arr n 0 0 0))) :: L1) := .cons _ (p2 _)
  have st : Step B.G B.w B.H G1 w ([(n, Res.seq [] 0)] ++ (id, .box cells) :: L1) := hr.step.trans m2'
  have st' : Step B.G B.w B.H G1 w ([(n, Res.seq [] 0)] ++ (id, .box (setA cells j (.arr n 0 0 0))) :: L1) :=
    ⟨st.os, st.tape, st.output, st.size, st.base, st.X, st.frame, st.newX, by rw [hb0]; exact st.newB, st.live, by simpa using st.newI, st.lits, st.newL⟩
  refine ⟨G1, hr.size, fun i hi => (hr.slots i hi).mono k2.lits fun a x => k2.sim, hr.defers, fin.perm q2.symm, st'.perm (.refl _) q2.symm, fun i hi => ?_, by rw [k2.base]; exact hr.base, Nat.le_succ_of_le hr.low, fun i hi => ?_⟩
  · rcases k5 i hi with h | h
    · exact Nat.lt_succ_of_lt (hr.next i h)
    · subst h; exact Nat.lt_succ_self _
  · rcases k5 i hi with h | h
    · exact hr.old i h
    · subst h; exact .inr hr.low
/-- nothing yet, as a list that may be written -/
theorem Conv.nilSeq {s : List AV} {L : Heap} {n j : Nat} (hj : getA s j = .list [] .full) : Conv ⟨s, L, n⟩ ⟨setA s j (.arr n 0 0 0), (n, .seq [] 0) :: L, n + 1⟩ := fun B G a w hr => by
  have hn : ¬ G.live n := fun h => Nat.lt_irrefl _ (hr.next n h)
  have hd : Holds G w ([] ++ L) := hr.holds
  have key := new_void hd.left hn
  obtain ⟨m1, m2⟩ := hd.beside key.1 key.2
  have hsim : ∀ a x, Sim G a x → Sim (G.boxed n 0) a x := fun a x h => key.2.sim h
  refine ⟨G.boxed n 0, by rw [hr.size, setA_eq]; simp, fun i hi => ?_, hr.defers, m1, hr.step.trans m2, fun i hi => ?_, hr.base, Nat.le_trans hr.low (Nat.le_succ _), fun i hi => ?_⟩
  · rw [getA_eq, setA_eq, List.getD, List.getElem?_set]
    have h0 := hr.slots i hi
    by_cases e : j = i
    · subst e
      rw [if_pos rfl]
      split
      · refine .of ?_
        have h1 : Slot G (.list [] .full) (a.tmps.getD j undef) := by rw [← hj]; exact h0
        have h2 : Sim G (.list [] .full) (a.tmps.getD j undef) := h1.down
        obtain ⟨base, c, hv, _, hc, hf⟩ := (h2.list_inv.2 rfl).slice
        have hc0 := hf rfl
        simp only [List.length_nil] at hc0 hv
        subst hc0
        show Sim (G.boxed n 0) (.arr n 0 0 0) (a.tmps.getD j undef)
        rw [hv]
        exact .arr n 0 0 0 base (.inr rfl) (Nat.le_refl _) (Nat.zero_le _) fun h => absurd rfl h
      · exact .of (.data _ _ (.dead _))
    · rw [if_neg e]
      have := Slot.mono (G := G) (G' := G.boxed n 0) (fun _ h => h) hsim h0
      rw [getA_eq] at this
      exact this
  · rcases hi with hi | rfl
    · exact Nat.lt_succ_of_lt (hr.next i hi)
    · exact Nat.lt_succ_self _
  · rcases hi with hi | rfl
    · exact hr.old i hi
    · exact .inr hr.low
theorem AV.seal_pure {a : AV} (h : a.pure = true) : a.seal = some a := by
  cases a with
  | list rows o => cases o <;> first | rfl | (simp [AV.pure] at h)
  | v x => rfl
  | dead => rfl
  | cref l => rfl
  | _ => simp [AV.pure] at h
/-- a list that is written no more -/
theorem Conv.freezeS {s : List AV} {L L0 : Heap} {n j id m cp k sz : Nat} {rows : List (List AV)} (hj : getA s j = .arr id 0 m cp) (hp : L.Perm ((id, .seq rows k) :: L0)) (hR : RowsOk sz rows) (hm : rows.length = m) : Conv ⟨s, L, n⟩ ⟨setA s j (.list rows .free), L0, n⟩ := by
  by_cases hne : rows.length + k = 0
  · have e1 : rows = [] := List.eq_nil_of_length_eq_zero (by omega)
    subst e1
    simp only [List.length_nil] at hm
    subst hm
    refine (Conv.to (τ := ⟨s, L0, n⟩) [(id, .seq [] k)] (.refl s) (hp.trans (List.perm_append_comm (l₁ := [(id, Res.seq [] k)]))) (Nat.le_refl _)).trans (.slots (.setA ?_))
    rw [hj]
    refine ⟨fun G x h => ?_, fun G x h => ?_⟩
    · obtain ⟨base, rfl, _, _, hc, _⟩ := Sim.arr_inv h
      exact .of (.data _ _ (.nil _ _ _ hc (by simp) (.inl rfl)))
    · obtain ⟨base, rfl, _, _, hc, _⟩ := Sim.arr_inv h
      exact .data _ _ (.nil _ _ _ hc (by simp) (.inl rfl))
  · exact (Conv.unseq hne hp).trans (Conv.freeze hj (.refl _) hR.len hm fun i a ha => ⟨a, by
      rw [Nat.zero_add]; unfold seqC
      rw [List.getElem?_append_left (List.getElem?_eq_some_iff.1 ha).1]; exact ha, AV.seal_pure (hR.pure a (List.mem_of_getElem? ha)), List.all_eq_true.1 hR.one a (List.mem_of_getElem? ha)⟩)
theorem Conv.to_nil {s : List AV} {L : Heap} {n : Nat} {τ : ASt} (hs : WkL s τ.slots) (h0 : τ.L = []) (hn : n ≤ τ.next) : Conv ⟨s, L, n⟩ τ := .to L hs (by rw [h0]; exact .refl _) hn
/-- a value that names no object -/
def AV.flatB : AV → Bool
  | .v _ => true
  | .dead => true
  | .cref _ => true
  | .list _ (.tok _) => false
  | .list _ _ => true
  | .fn _ l => l.isEmpty
  | _ => false
theorem AV.flat_ren (f : Nat → Nat) {a : AV} (h : a.flatB = true) : a.ren f = a := by
  cases a with
  | v x => rw [AV.ren]
  | dead => rw [AV.ren]
  | cref l => rw [AV.ren]
  | list rows o =>
    rw [AV.ren]
    cases o with
    | tok k => cases h
    | _ => rfl
  | fn g l =>
    cases l with
    | nil => rw [AV.ren, AV.renL]
    | cons a l => cases h
  | _ => cases h
theorem flat_renL (f : Nat → Nat) : ∀ {l : List AV}, l.all AV.flatB = true → AV.renL f l = l
  | [], _ => by rw [AV.renL]
  | a :: l, h => by
    rw [List.all_cons, Bool.and_eq_true] at h
    rw [AV.renL, AV.flat_ren f h.1, flat_renL f h.2]
/-- the end of a round that leaves no objects -/
theorem k_loopI {low : Nat → Prop} {Kk : Kc} {s : List AV} {L : Heap} {n' : Nat} {α : Type} {S : α → ASt} {C : α → Prop} {μ : α → Nat} {a : α} (b : α) (hb : C b) (hm : μ b < μ a) (hw : WkL s (S b).slots) (hL : (S b).L = [] := by rfl) (hf : (S b).slots.all AV.flatB = true := by rfl) (h1 : (S a).next ≤ (S b).next := by exact Nat.le_of_ble_eq_true rfl) (h2 : (S b).next ≤ n' := by exact Nat.le_of_ble_eq_true rfl) : loopK low S C μ a Kk .normal s L n' :=
  k_loopR b (List.range (S b).next) hb hm (by
    rw [flat_renL _ hf, hL]
    exact .to L hw (.refl _) (Nat.le_refl _)) List.length_range List.nodup_range (fun i hi => Nat.lt_of_lt_of_le (List.mem_range.1 hi) h2) fun i hi => List.getElem?_range (Nat.lt_of_lt_of_le hi h1)
/-- a value all of whose objects have names below N -/
def AV.loB (N : Nat) : AV → Bool
  | .v _ => true
  | .dead => true
  | .cref _ => true
  | .list _ (.tok k) => Nat.blt k N
  | .list _ _ => true
  | .ptr i _ => Nat.blt i N
  | .arr i _ _ _ => Nat.blt i N
  | .fn _ l => l.isEmpty
  | _ => false
theorem AV.lo_ren {N : Nat} {f : Nat → Nat} (hf : ∀ i, i < N → f i = i) {a : AV} (h : a.loB N = true) : a.ren f = a := by
  cases a with
  | v x => rw [AV.ren]
  | dead => rw [AV.ren]
  | cref l => rw [AV.ren]
  | list rows o =>
    rw [AV.ren]
    cases o with
    | tok k => simp only [Own.ren]; rw [hf k (Nat.le_of_ble_eq_true h)]
    | _ => rfl
  | ptr i j => rw [AV.ren, hf i (Nat.le_of_ble_eq_true h)]
  | arr i j => rw [AV.ren, hf i (Nat.le_of_ble_eq_true h)]
  | fn g l =>
    cases l with
    | nil => rw [AV.ren, AV.renL]
    | cons a l => cases h
  | _ => cases h
theorem lo_renL {N : Nat} {f : Nat → Nat} (hf : ∀ i, i < N → f i = i) : ∀ {l : List AV}, l.all (AV.loB N) = true → AV.renL f l = l
  | [], _ => by rw [AV.renL]
  | a :: l, h => by
    rw [List.all_cons, Bool.and_eq_true] at h
    rw [AV.renL, AV.lo_ren hf h.1, lo_renL hf h.2]
def loH (N : Nat) : Heap → Bool
  | [] => true
  | (i, .box l) :: H => Nat.blt i N && (l.all (AV.loB N) && loH N H)
  | (i, .tok _ _) :: H => Nat.blt i N && loH N H
  | (i, .seq _ _) :: H => Nat.blt i N && loH N H
theorem loH_ren {N : Nat} {f : Nat → Nat} (hf : ∀ i, i < N → f i = i) : ∀ {H : Heap}, loH N H = true → renH f H = H
  | [], _ => rfl
  | (i, .box l) :: H, h => by
    unfold loH at h
    simp only [Bool.and_eq_true] at h
    rw [renH, hf i (Nat.le_of_ble_eq_true h.1), Res.ren, lo_renL hf h.2.1, loH_ren hf h.2.2]
  | (i, .tok a b) :: H, h => by
    unfold loH at h
    simp only [Bool.and_eq_true] at h
    rw [renH, hf i (Nat.le_of_ble_eq_true h.1), Res.ren, loH_ren hf h.2]
  | (i, .seq a b) :: H, h => by
    unfold loH at h
    simp only [Bool.and_eq_true] at h
    rw [renH, hf i (Nat.le_of_ble_eq_true h.1), Res.ren, loH_ren hf h.2]
/-- the end of a round that leaves the objects that it found -/
theorem k_loopJ {low : Nat → Prop} {Kk : Kc} {s : List AV} {L : Heap} {n' : Nat} {α : Type} {S : α → ASt} {C : α → Prop} {μ : α → Nat} {a : α} (b : α) (rest : Heap) (hb : C b) (hm : μ b < μ a) (hw : WkL s (S b).slots) (hp : L.Perm ((S b).L ++ rest)) (hf : (S b).slots.all (AV.loB (S b).next) = true := by rfl) (hh : loH (S b).next (S b).L = true := by rfl) (h1 : (S a).next ≤ (S b).next := by exact Nat.le_of_ble_eq_true rfl) (h2 : (S b).next ≤ n' := by exact Nat.le_of_ble_eq_true rfl) : loopK low S C μ a Kk .normal s L n' := by
  have hr : ∀ i, i < (S b).next → rn (List.range (S b).next) n' i = i := fun i hi => by unfold rn; rw [List.getElem?_range hi]
  exact k_loopR b (List.range (S b).next) hb hm (by
    rw [lo_renL hr hf, loH_ren hr hh]
    exact .to rest hw hp (Nat.le_refl _)) List.length_range List.nodup_range (fun i hi => Nat.lt_of_lt_of_le (List.mem_range.1 hi) h2) fun i hi => List.getElem?_range (Nat.lt_of_lt_of_le hi h1)
/-- what a contract hands back, called otherwise -/
theorem ACalls.ren {P : Program} {f : FuncId} {k top M : Nat} {args : List AV} {H : Heap} {R R2 : AOut → Heap → Prop} (h : ACalls P f k top args H R) (hkt : k ≤ top)
    (hr : ∀ out H', R out H' → ∃ (ids : List Nat) (out2 : AOut) (H2 : Heap), ids.Nodup ∧ (∀ i ∈ ids, i < top) ∧ (∀ i, i < k → ids[i]? = some i) ∧ ids.length ≤ M ∧ out = out2.ren (rn ids top) ∧ H' = renH (rn ids top) H2 ∧ R2 out2 H2) : ACalls P f k M args H R2 := by
  intro G w vals h1 h2 h3 h4 h5 h6
  have key : ∀ (G' : Ghost) (w' : World) (out : AOut) (H' : Heap) (e : Ending), R out H' → OSim G' out e → Holds G' w' H' → Step G w H G' w' H' → (∀ id, G'.live id → G.live id ∨ (k ≤ id ∧ id < top)) →
      ∃ G2 out2 H2, R2 out2 H2 ∧ OSim G2 out2 e ∧ Holds G2 w' H2 ∧ Step G w H G2 w' H2 ∧ ∀ id, G2.live id → G.live id ∨ (k ≤ id ∧ id < M) := by
    intro G' w' out H' e hR hO hH hS hL
    obtain ⟨ids, out2, H2, i1, i2, i3, i4, rfl, rfl, hR2⟩ := hr out H' hR
    have go : ∀ (x2 : AV) (v : Value), Sim G' (x2.ren (rn ids top)) v → ∃ G2, Sim G2 x2 v ∧ Holds G2 w' H2 ∧ Step G w H G2 w' H2 ∧ ∀ id, G2.live id → G.live id ∨ (k ≤ id ∧ id < M) := by
      intro x2 v hv
      have hrel : Rel ⟨G, w, H, k, []⟩ No G' ⟨AV.renL (rn ids top) [x2], renH (rn ids top) H2, top⟩ { tmps := #[v], defers := [] } w' := by
        refine ⟨rfl, fun t _ => ?_, rfl, hH, hS, fun id hid => ?_, ?_, hkt, fun id hid => (hL id hid).imp_right And.left⟩
        · cases t with
          | zero => exact .of hv
          | succ t => exact .of (.data _ _ (.dead _))
        · rcases hL id hid with h | h
          · exact Nat.lt_of_lt_of_le (h1 id h) hkt
          · exact h.2
        · rw [hS.base, h3]; exact hS.size
      obtain ⟨G2, hr2⟩ := ConvN.ren (t := [x2]) (H := H2) ids i1 i2 i3 rfl _ _ _ _ h1 (Nat.le_refl _) hrel
      refine ⟨G2, ?_, hr2.holds, hr2.step, fun id hid => (hr2.old id hid).imp_right fun hk => ⟨hk, Nat.lt_of_lt_of_le (hr2.next id hid) i4⟩⟩
      have h7 := hr2.slots 0 (fun h => h)
      have h8 : Slot G2 x2 v := h7
      unfold Slot at h8
      split at h8
      · rename_i rows
        exfalso
        rw [AV.ren] at hv
        cases hv with
        | data _ _ h =>
          cases h with
          | nil _ _ _ _ _ hs => rcases hs with h | h <;> cases h
          | list _ _ _ _ _ _ _ _ _ _ hs _ _ _ _ => rcases hs with h | h <;> cases h
      · exact h8
    cases out2 with
    | ret x2 =>
      cases e with
      | returned v =>
        obtain ⟨G2, k1, k2, k3, k4⟩ := go x2 v hO
        exact ⟨G2, .ret x2, H2, hR2, k1, k2, k3, k4⟩
      | panicked ch => exact hO.elim
      | outgrown => exact hO.elim
    | panic x2 =>
      cases e with
      | returned v => exact hO.elim
      | panicked ch =>
        obtain ⟨v, rfl, hv⟩ := hO
        obtain ⟨G2, k1, k2, k3, k4⟩ := go x2 v hv
        exact ⟨G2, .panic x2, H2, hR2, ⟨v, rfl, k1⟩, k2, k3, k4⟩
      | outgrown => exact hO.elim
  rcases h G w vals h1 h2 h3 h4 h5 h6 with ⟨k1, k2⟩ | ⟨v, w', k1, G', out, H', k2, k3, k4, k5, k6⟩
  · exact .inl ⟨k1, k2.mono fun e w' ⟨G', out, H', q1, q2, q3, q4, q5⟩ => key G' w' out H' e q1 q2 q3 q4 q5⟩
  · exact .inr ⟨v, w', k1, key G' w' out H' _ k2 k3 k4 k5 k6⟩
/-- what a contract hands back, said otherwise -/
theorem ACalls.conv {P : Program} {f : FuncId} {k top M : Nat} {args : List AV} {H : Heap} {R R2 : AOut → Heap → Prop} (h : ACalls P f k top args H R) (hkt : k ≤ top) (hM : top ≤ M)
    (hr : ∀ x H', R (.ret x) H' → ∃ x2 H2 M', M' ≤ M ∧ ConvN k ⟨[x], H', top⟩ ⟨[x2], H2, M'⟩ ∧ (∀ rows, x2 ≠ .list rows .lit) ∧ R2 (.ret x2) H2) (hp : ∀ x H', R (.panic x) H' → R2 (.panic x) H') : ACalls P f k M args H R2 := by
  intro G w vals h1 h2 h3 h4 h5 h6
  have key : ∀ (G' : Ghost) (w' : World) (out : AOut) (H' : Heap) (e : Ending), R out H' → OSim G' out e → Holds G' w' H' → Step G w H G' w' H' → (∀ id, G'.live id → G.live id ∨ (k ≤ id ∧ id < top)) →
      ∃ G2 out2 H2, R2 out2 H2 ∧ OSim G2 out2 e ∧ Holds G2 w' H2 ∧ Step G w H G2 w' H2 ∧ ∀ id, G2.live id → G.live id ∨ (k ≤ id ∧ id < M) := by
    intro G' w' out H' e hR hO hH hS hL
    cases out with
    | panic x => exact ⟨G', .panic x, H', hp x H' hR, hO, hH, hS, fun id hid => (hL id hid).imp_right fun h => ⟨h.1, Nat.lt_of_lt_of_le h.2 hM⟩⟩
    | ret x =>
      obtain ⟨x2, H2, M', i4, hc, hl, hR2⟩ := hr x H' hR
      cases e with
      | panicked ch => exact hO.elim
      | outgrown => exact hO.elim
      | returned v =>
        have hrel : Rel ⟨G, w, H, k, []⟩ No G' ⟨[x], H', top⟩ { tmps := #[v], defers := [] } w' := by
          refine ⟨rfl, fun t _ => ?_, rfl, hH, hS, fun id hid => ?_, ?_, hkt, fun id hid => (hL id hid).imp_right And.left⟩
          · cases t with
            | zero => exact .of hO
            | succ t => exact .of (.data _ _ (.dead _))
          · rcases hL id hid with h | h
            · exact Nat.lt_of_lt_of_le (h1 id h) hkt
            · exact h.2
          · rw [hS.base, h3]; exact hS.size
        obtain ⟨G2, hr2⟩ := hc _ _ _ _ h1 (Nat.le_refl _) hrel
        refine ⟨G2, .ret x2, H2, hR2, ?_, hr2.holds, hr2.step, fun id hid => (hr2.old id hid).imp_right fun hk => ⟨hk, Nat.lt_of_lt_of_le (hr2.next id hid) i4⟩⟩
        have h8 : Slot G2 x2 v := hr2.slots 0 (fun h => h)
        unfold Slot at h8
        split at h8
        · rename_i rows; exact absurd rfl (hl rows)
        · exact h8
  rcases h G w vals h1 h2 h3 h4 h5 h6 with ⟨k1, k2⟩ | ⟨v, w', k1, G', out, H', k2, k3, k4, k5, k6⟩
  · exact .inl ⟨k1, k2.mono fun e w' ⟨G', out, H', q1, q2, q3, q4, q5⟩ => key G' w' out H' e q1 q2 q3 q4 q5⟩
  · exact .inr ⟨v, w', k1, key G' w' out H' _ k2 k3 k4 k5 k6⟩
/-- one that the model runs itself -/
theorem ext_c {P : Program} {f : FuncId} {fn : Func} {e : Array Value → Sem Value} (hf : P.funcs[f]? = some fn) (hname : (fn.name == "runtime.NumGoroutine") = false) (hb : fn.body.isNone = true) (hn : Extern.findNext fn = none) (he : Extern.find fn = some e) {x y : Value}
    (hr : ∀ w, (e #[x]).run P w = .ok y w) : ACalls P f 0 0 [.v x] [] fun out H' => out = .ret (.v y) ∧ H' = [] := by
  intro G w vals h1 h2 h3 h4 h5 h6
  have hv : vals = #[x] := by
    have h7 : vals.size = 1 := by simpa using h5.symm
    have h8 := (h6 0 _ rfl).v_inv
    apply Array.ext
    · rw [h7]; rfl
    · intro i hi _
      have : i = 0 := by omega
      subst this
      simpa [Array.getD, hi] using h8
  subst hv
  refine .inr ⟨y, w, ?_, G, .ret (.v y), [], ⟨rfl, rfl⟩, .data _ _ (.v y), h4, Step.refl _ _ _, fun id h => .inl h⟩
  rw [Go.run_callFunc_extern hf hname hb hn he, hr]
  rfl
/-- the ghost of a world in which nothing is named: its cells stay -/
def Ghost.start (w : World) : Ghost := { X := fun b i => w.cell? ⟨b, i, none⟩, loc := fun _ => 0, tk := fun _ => ⟨0, 0, undef, none⟩, live := fun _ => False, lits := fun _ => False, base := w.heap.size }
/-- out of the machine: a contract without objects, as a walk -/
theorem ACalls.walk {P : Program} {f : FuncId} {fn : Func} {c : Code} (hf : FnIs P f fn c) {top : Nat} {args : List AV} {v : Value} {w : World} {vals : Array Value} (h : ACalls P f 0 top args [] fun out H' => out = .ret (.v v) ∧ H' = []) (hl : args.length = vals.size)
    (hs : ∀ (i : Nat) (a : AV), args[i]? = some a → Sim (Ghost.start w) a (vals.getD i undef)) : Calls P f vals w fun e w' => e = .returned v ∧ Below w.heap.size w w' := by
  have hh : Holds (Ghost.start w) w [] := ⟨fun _ _ _ h => h, fun r hr => (List.not_mem_nil hr).elim, by simp, fun r hr => (List.not_mem_nil hr).elim, by simp [blocksOf], fun b hb => hb.elim⟩
  rcases h (Ghost.start w) w vals (fun _ h => h.elim) (fun _ h => h) rfl hh hl hs with ⟨_, k⟩ | ⟨u, w', k, _⟩
  · refine k.mono fun e w' ⟨G', out, H', ⟨k1, k2⟩, k3, k4, k5, k6⟩ => ?_
    subst k1; subst k2
    refine ⟨?_, k5.below (fun _ h => h) rfl⟩
    cases e with
    | returned u => rw [Sim.v_inv k3]
    | panicked ch => exact k3.elim
    | outgrown => exact k3.elim
  · exfalso
    have hp : program.run P w = .ok P w := rfl
    unfold callFunc at k
    rw [Sem.run_bind, hp] at k
    simp only [Result.andThen, hf.get, hf.name, hf.body] at k
    cases k
end Go.Am
