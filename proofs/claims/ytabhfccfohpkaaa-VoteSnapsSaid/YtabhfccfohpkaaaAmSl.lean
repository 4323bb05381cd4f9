/- A list that may be written, called anew; what the model itself answers of two lists that lie apart. -/
import Derived.Test.YtabhfccfohpkaaaAmTc
namespace Go.Am
open Go.RowKit
set_option linter.unusedSimpArgs false
set_option linter.unusedVariables false
/-- a list that may be written, called anew -/
theorem Conv.anewS {s : List AV} {L L0 : Heap} {n j id off m cp k : Nat} {rows : List (List AV)} (hj : getA s j = .arr id off m cp) (hp : L.Perm ((id, .seq rows k) :: L0)) (hne : rows.length + k ≠ 0) :
    Conv ⟨s, L, n⟩ ⟨setA s j (.arr n off m cp), (n, .seq rows k) :: L0, n + 1⟩ := fun B G a w hr => by
  have hn : ¬ G.live n := fun h => Nat.lt_irrefl _ (hr.next n h)
  have hx := hr.slots j (fun h => h)
  simp only [hj] at hx
  have hx' : Sim G (.arr id off m cp) (a.tmps.getD j undef) := hx.down
  have h5 : Holds G w ((id, .seq rows k) :: L0) := hr.holds.perm hp
  obtain ⟨u1, u2⟩ := h5.unseq hne
  obtain ⟨m1, m2, m3⟩ := move_box u1 hn
  have hst : Step G w L (G.boxed n (G.loc id)) w ((n, .seq rows k) :: L0) := ((((Step.refl G w L).perm (.refl _) hp).unseq hne).trans m2).toSeq
  have hsim : Sim (G.boxed n (G.loc id)) (.arr n off m cp) (a.tmps.getD j undef) := by
    obtain ⟨base, hv, hlive, hnc, hcm, hbs⟩ := hx'.arr_inv
    rw [hv]
    exact .arr n off m cp base (.inr rfl) hnc hcm fun h0 => by rw [hbs h0]; simp [Ghost.boxed]
  refine ⟨G.boxed n (G.loc id), by rw [hr.size, setA_eq]; simp, fun i hi => ?_, hr.defers, m1.toSeq u2, hr.step.trans hst, fun i hi => ?_, hr.base, Nat.le_succ_of_le hr.low, fun i hi => ?_⟩
  · show Slot _ (getA (setA s j _) i) _
    rw [getA_eq, setA_eq, List.getD, List.getElem?_set]
    by_cases e : j = i
    · subst e
      rw [if_pos rfl]
      split
      · exact .of hsim
      · exact .of (.data _ _ (.dead _))
    · rw [if_neg e]
      have := Slot.mono (G := G) (G' := G.boxed n (G.loc id)) (fun _ h => h) (fun a x h => m3 a x h) (hr.slots i hi)
      rw [getA_eq] at this
      exact this
  · rcases hi with hi | rfl
    · exact Nat.lt_succ_of_lt (hr.next i hi)
    · exact Nat.lt_succ_self _
  · rcases hi with hi | rfl
    · exact hr.old i hi
    · exact .inr hr.low
/-- a box of which more is said -/
theorem box_more {G : Ghost} {w : World} {bid j : Nat} {cells : List AV} {a : AV} {L0 : Heap} (h : Holds G w ((bid, .box cells) :: L0)) (hs : ∀ arr E fr, w.heap[G.loc bid]? = some (.cells arr E fr) → Sim G a (arr.getD j undef)) :
    Holds G w ((bid, .box (setA cells j a)) :: L0) ∧ ∀ G0 w0 H0, Step G0 w0 H0 G w ((bid, .box cells) :: L0) → Step G0 w0 H0 G w ((bid, .box (setA cells j a)) :: L0) := by
  have hb0 : blocksOf G ((bid, .box (setA cells j a)) :: L0) = blocksOf G ((bid, .box cells) :: L0) := by unfold blocksOf; simp [List.filterMap_cons, Ghost.placed]
  have hnew : ResHolds G w (bid, .box (setA cells j a)) := by
    obtain ⟨g0, arr, E, fr, g1, g2, g3, g4⟩ := h.res (bid, .box cells) (by simp)
    refine ⟨g0, arr, E, fr, g1, by rw [setA_eq]; simpa using g2, g3, fun i b hb => ?_⟩
    rw [setA_eq, List.getElem?_set] at hb
    split at hb
    · rename_i e
      subst e
      split at hb
      · cases hb; exact hs _ _ _ g1
      · cases hb
    · exact g4 i b hb
  refine ⟨⟨h.X, fun r hm => ?_, by simpa using h.ids, fun r hm => ?_, by rw [hb0]; exact h.blocks, by rw [hb0]; exact h.lits⟩, fun G0 w0 H0 st => ⟨st.os, st.tape, st.output, st.size, st.base, st.X, st.frame, st.newX, by rw [hb0]; exact st.newB, st.live, by simpa using st.newI, st.lits, st.newL⟩⟩
  · simp only [List.mem_cons] at hm
    rcases hm with rfl | hm
    · exact hnew
    · exact h.res _ (by simp [hm])
  · simp only [List.mem_cons] at hm
    rcases hm with rfl | hm
    · exact h.live (bid, .box cells) (by simp)
    · exact h.live _ (by simp [hm])
/-- a list that may be written, named in an object's cell, called anew -/
theorem Conv.anewBox {s : List AV} {L L0 : Heap} {n j id bid off m c k : Nat} {rows : List (List AV)} {cells : List AV} (hp : L.Perm ((id, .seq rows k) :: (bid, .box cells) :: L0)) (hj : cells[j]? = some (.arr id off m c)) (hc : rows.length + k = 0 → c = 0) :
    Conv ⟨s, L, n⟩ ⟨s, (n, .seq rows k) :: (bid, .box (setA cells j (.arr n off m c))) :: L0, n + 1⟩ := fun B G a w hr => by
  have hn : ¬ G.live n := fun h => Nat.lt_irrefl _ (hr.next n h)
  have hH : Holds G w ((id, .seq rows k) :: (bid, .box cells) :: L0) := hr.holds.perm hp
  have hst : Step B.G B.w B.H G w ((id, .seq rows k) :: (bid, .box cells) :: L0) := hr.step.perm (.refl _) hp
  obtain ⟨g0, arr, E, fr, g1, g2, g3, g4⟩ := hH.res (bid, .box cells) (by simp)
  have hx := g4 j _ hj
  obtain ⟨base, hv, hlive, hnc, hcm, hbs⟩ := hx.arr_inv
  have hbl : G.live bid := hH.live (bid, .box cells) (by simp)
  have hbn : bid ≠ n := fun e => hn (e ▸ hbl)
  obtain ⟨b, m1, m2, m3, m4⟩ : ∃ b, Holds (G.boxed n b) w ((n, .seq rows k) :: (bid, .box cells) :: L0) ∧ Step B.G B.w B.H (G.boxed n b) w ((n, .seq rows k) :: (bid, .box cells) :: L0) ∧ (∀ a x, Sim G a x → Sim (G.boxed n b) a x) ∧ (c ≠ 0 → b = G.loc id) := by
    by_cases hne : rows.length + k = 0
    · have e1 : rows = [] := List.eq_nil_of_length_eq_zero (by omega)
      have e2 : k = 0 := by omega
      subst e1; subst e2
      have hH2 : Holds G w ([] ++ ((bid, .box cells) :: L0)) := (hH.perm (List.perm_append_comm (l₁ := [(id, Res.seq [] 0)]))).left
      obtain ⟨k1, k2⟩ := new_void hH2.left hn
      obtain ⟨q1, q2⟩ := hH2.beside k1 k2
      exact ⟨0, q1, hst.forget.trans q2, fun a x h => k2.sim h, fun h => absurd (hc rfl) h⟩
    · obtain ⟨u1, u2⟩ := hH.unseq hne
      obtain ⟨q1, q2, q3⟩ := move_box u1 hn
      exact ⟨G.loc id, q1.toSeq u2, ((hst.unseq hne).trans q2).toSeq, q3, fun _ => rfl⟩
  have hloc : (G.boxed n b).loc bid = G.loc bid := by simp [Ghost.boxed, hbn]
  have hsim : Sim (G.boxed n b) (.arr n off m c) (arr.getD j undef) := by
    rw [hv]
    exact .arr n off m c base (.inr rfl) hnc hcm fun h0 => by rw [hbs h0, ← m4 h0]; simp [Ghost.boxed]
  obtain ⟨r1, r2⟩ := box_more (j := j) (m1.perm (.swap _ _ _)) (a := .arr n off m c) fun arr' E' fr' h => by
    rw [hloc, g1] at h
    simp only [Option.some.injEq, Obj.cells.injEq] at h
    obtain ⟨rfl, rfl, rfl⟩ := h
    exact hsim
  have r3 := r2 _ _ _ (m2.perm (.refl _) (.swap _ _ _))
  refine ⟨G.boxed n b, hr.size, fun i hi => Slot.mono (G := G) (G' := G.boxed n b) (fun _ h => h) m3 (hr.slots i hi), hr.defers, r1.perm (.swap _ _ _), r3.perm (.refl _) (.swap _ _ _), fun i hi => ?_, hr.base, Nat.le_succ_of_le hr.low, fun i hi => ?_⟩
  · rcases hi with hi | rfl
    · exact Nat.lt_succ_of_lt (hr.next i hi)
    · exact Nat.lt_succ_self _
  · rcases hi with hi | rfl
    · exact hr.old i hi
    · exact .inr hr.low
theorem run_overlaps_box {P : Program} (w : World) (tS tR e : TypeId) (ht : P.underlying tS = some (.slice e)) (size : Nat) (hz : ∀ w, (Go.sizeOf e).run P w = .ok size w)
    (a : Addr) (base : Option Addr) (la ca lb cb : Nat) {va : Value} (hva : w.cell? a = some va) (hb : lb ≠ 0 → ∃ b, base = some b ∧ a.block ≠ b.block ∧ b.spot = none ∧ (∃ q, w.shape? b.block = some q) ∧ ∀ i, w.frozen? ⟨b.block, i, none⟩ = false) :
    (Extern.SlicesOverlaps.overlaps #[tS, tS] #[tR] #[.slice (some a) la ca, .slice base lb cb]).run P w = .ok (.bool false) w := by
  obtain ⟨tA, kA, hsa, hlt, hsp⟩ : ∃ tA kA, w.shape? a.block = some (tA, kA) ∧ a.off < kA ∧ a.spot = none := by
    unfold World.cell? at hva; unfold World.shape?
    split at hva
    · rename_i c e fr hh
      split at hva
      · cases hva
      · rename_i h
        exact ⟨_, _, rfl, (Array.getElem?_eq_some_iff.1 hva).1, by simpa using h⟩
    · cases hva
  cases kA with
  | zero => omega
  | succ kA =>
  by_cases h0 : la = 0 ∨ lb = 0 ∨ size = 0
  · have key : ∀ (m1 m2 : String) (q : Sem Nat), Sem.run P (α := Value) (do
      let some t := (#[tS, tS] : Array TypeId)[0]? | stuck m1
      let .slice elem ← underlying t | stuck m2
      let size ← sizeOf elem
      match (some a : Option Addr), base with
      | some a, some b =>
        if la = 0 ∨ lb = 0 ∨ size = 0 then pure (Value.bool false)
        else if a.block != b.block && (← frozen a) && (← frozen b) then unsupported .addressObserved
        else do
          if a.block != b.block then do
            noView a; noView b
            if ← mayBeOne a b then return Value.bool ((← q) == 1)
          pure (Value.bool (a.block == b.block && a.off < b.off + lb * size && b.off < a.off + la * size))
      | _, _ => pure (Value.bool false)) w = .ok (.bool false) w := by
      intro m1 m2 q
      cases base with
      | none => simp [run_underlying ht, hz]
      | some b => simp [run_underlying ht, hz, h0]
    exact key "" _ _
  · obtain ⟨b, rfl, hne, hbs', ⟨⟨tB, kB⟩, hshb⟩, hfz⟩ := hb fun h => h0 (.inr (.inl h))
    have hnb : (a.block != b.block) = true := by simpa using hne
    have hnb' : (a.block == b.block) = false := by simpa using hne
    have hfb : w.frozen? b = false := by
      have := hfz b.off
      unfold World.frozen? at this ⊢
      exact this
    have key : ∀ (m1 m2 : String) (q : Sem Nat), Sem.run P (α := Value) (do
      let some t := (#[tS, tS] : Array TypeId)[0]? | stuck m1
      let .slice elem ← underlying t | stuck m2
      let size ← sizeOf elem
      match (some a : Option Addr), (some b : Option Addr) with
      | some a, some b =>
        if la = 0 ∨ lb = 0 ∨ size = 0 then pure (Value.bool false)
        else if a.block != b.block && (← frozen a) && (← frozen b) then unsupported .addressObserved
        else do
          if a.block != b.block then do
            noView a; noView b
            if ← mayBeOne a b then return Value.bool ((← q) == 1)
          pure (Value.bool (a.block == b.block && a.off < b.off + lb * size && b.off < a.off + la * size))
      | _, _ => pure (Value.bool false)) w = .ok (.bool false) w := by
      intro m1 m2 q
      cases hfa : w.frozen? a <;>
      simp [run_underlying ht, hz, h0, hnb, hnb', frozen, noView, viewAt, mayBeOne, stringish, shape, Sem.run, hsa, hshb, hfb, hfa, hfz, hsp, hbs']
    exact key "" _ _
/-- two lists, of which one may be written: they lie apart -/
theorem ext_ov {P : Program} {f : FuncId} {fn : Func} {tS tR e : TypeId} (hf : P.funcs[f]? = some fn) (hname : (fn.name == "runtime.NumGoroutine") = false) (hb : fn.body.isNone = true) (hn : Extern.findNext fn = none) (he : Extern.find fn = some (Extern.SlicesOverlaps.overlaps #[tS, tS] #[tR]))
    (ht : P.underlying tS = some (.slice e)) (size : Nat) (hz : ∀ w, (Go.sizeOf e).run P w = .ok size w) {row : List AV} {rs : List (List AV)} {off m c k : Nat} {rows : List (List AV)} (hrow : row ≠ []) (hne : rows.length + k ≠ 0) :
    ACalls P f 1 1 [.list (row :: rs) .free, .arr 0 off m c] [(0, .seq rows k)] fun out H' => out = .ret (.v (.bool false)) ∧ H' = [(0, .seq rows k)] := by
  intro G w vals h1 h2 h3 h4 h5 h6
  obtain ⟨va, vb, rfl⟩ : ∃ va vb, vals = #[va, vb] := by
    have h7 : vals.size = 2 := by simpa using h5.symm
    refine ⟨vals.getD 0 undef, vals.getD 1 undef, ?_⟩
    apply Array.ext
    · rw [h7]; rfl
    · intro i hi hi2
      have : i = 0 ∨ i = 1 := by have : i < 2 := by simpa using hi2
                                 omega
      rcases this with rfl | rfl <;> simp [Array.getD, hi]
  have ha : Sim G (.list (row :: rs) .free) va := h6 0 _ rfl
  have hb' : Sim G (.arr 0 off m c) vb := h6 1 _ rfl
  obtain ⟨b, o, c', s, y, rfl, hr, hX, hS, h1c⟩ := ha.list_inv.1.pos (by simp)
  obtain ⟨base, rfl, hlive, hnc, hcm, hbs⟩ := hb'.arr_inv
  cases row with
  | nil => exact absurd rfl hrow
  | cons a0 row =>
  have hx0 := hX 0 (a0 :: row) 0 a0 rfl rfl
  have hcell := h4.X _ _ _ hx0
  simp only [Nat.zero_mul, Nat.add_zero] at hcell hx0
  obtain ⟨⟨g0, arr, E, fr, g1, g2, g3, g4⟩, _⟩ := h4.res (0, .seq rows k) (by simp) hne
  refine .inr ⟨.bool false, w, ?_, G, .ret (.v (.bool false)), [(0, .seq rows k)], ⟨rfl, rfl⟩, .data _ _ (.v _), h4, Step.refl _ _ _, fun id h => .inl h⟩
  rw [Go.run_callFunc_extern hf hname hb hn he, run_overlaps_box w tS tR e ht size hz ⟨b, o, none⟩ base _ c' m c hcell fun hm => ?_]
  · rfl
  · refine ⟨_, hbs (by omega), fun e => ?_, rfl, ⟨(E, arr.size), by unfold World.shape?; rw [g1]⟩, g3⟩
    have e' : b = G.loc 0 := e
    rw [e', g0] at hx0; cases hx0
theorem asrc_seq {L : Heap} {sz : Nat} {y : AV} {lim : Nat → Nat} {id off m cp k : Nat} {rows : List (List AV)} {cs : List AV} {K : Nat → List AV → Prop} (hy : y = .arr id off m cp) (hf : findL L id = some (.seq rows k)) (h0 : lim m ≤ m) (h1 : off + lim m * sz ≤ (seqC rows k).length)
    (hcs : ((seqC rows k).drop off).take (lim m * sz) = cs) (h2 : cs.all AV.one = true) (h : K m cs) : asrc L sz lim y K := by
  subst hy; subst hcs
  unfold asrc
  simp only [hf]
  exact ⟨h0, h1, h2, h⟩
theorem seqC_len {sz k : Nat} {rows : List (List AV)} (h : ∀ row ∈ rows, row.length = sz) : (seqC rows k).length = rows.length * sz + k := by
  unfold seqC; rw [List.length_append, List.length_replicate, flatten_length h]
theorem put_mid (A B C cs : List AV) (h : cs.length = B.length) : putCells (A ++ (B ++ C)) A.length cs = A ++ (cs ++ C) := by
  unfold putCells
  rw [List.take_left, h, ← List.append_assoc A, List.drop_append, List.drop_eq_nil_of_le (by simp)]
  simp
theorem RowsOk.take {sz : Nat} {rows : List (List AV)} (h : RowsOk sz rows) (i : Nat) : RowsOk sz (rows.take i) := by
  have hm : ∀ a ∈ (rows.take i).flatten, a ∈ rows.flatten := fun a ha => by
    obtain ⟨r, h1, h2⟩ := List.mem_flatten.1 ha
    exact List.mem_flatten.2 ⟨r, List.mem_of_mem_take h1, h2⟩
  exact ⟨fun row hr => h.len row (List.mem_of_mem_take hr), List.all_eq_true.2 fun a ha => List.all_eq_true.1 h.one a (hm a ha), fun a ha => h.pure a (hm a ha)⟩
theorem RowsOk.drop {sz : Nat} {rows : List (List AV)} (h : RowsOk sz rows) (i : Nat) : RowsOk sz (rows.drop i) := by
  have hm : ∀ a ∈ (rows.drop i).flatten, a ∈ rows.flatten := fun a ha => by
    obtain ⟨r, h1, h2⟩ := List.mem_flatten.1 ha
    exact List.mem_flatten.2 ⟨r, List.mem_of_mem_drop h1, h2⟩
  exact ⟨fun row hr => h.len row (List.mem_of_mem_drop hr), List.all_eq_true.2 fun a ha => List.all_eq_true.1 h.one a (hm a ha), fun a ha => h.pure a (hm a ha)⟩
/-- rows behind a place, as cells -/
theorem seq_from {sz : Nat} {rows : List (List AV)} (h : ∀ row ∈ rows, row.length = sz) (i k : Nat) (hi : i ≤ rows.length) : (seqC rows k).drop (i * sz) = (rows.drop i).flatten ++ List.replicate k .dead := by
  unfold seqC
  have hl : (rows.take i).flatten.length = i * sz := by rw [flatten_length (fun row hr => h row (List.mem_of_mem_take hr)), List.length_take, Nat.min_eq_left hi]
  conv => lhs; rw [← List.take_append_drop i rows, List.flatten_append, List.append_assoc, ← hl, List.drop_left]
theorem seq_split {sz : Nat} {rows : List (List AV)} (h : ∀ row ∈ rows, row.length = sz) (i k : Nat) : seqC rows k = (rows.take i).flatten ++ ((rows.drop i).flatten ++ List.replicate k .dead) := by
  unfold seqC
  conv => lhs; rw [← List.take_append_drop i rows, List.flatten_append, List.append_assoc]
/-- room for one in the middle -/
theorem put_up {sz k i : Nat} {rows : List (List AV)} {r : List AV} (h : ∀ row ∈ rows, row.length = sz) (hi : rows[i]? = some r) (hk : sz ≤ k) : putCells (seqC rows k) ((i + 1) * sz) (rows.drop i).flatten = seqC (rows.take i ++ r :: rows.drop i) (k - sz) := by
  obtain ⟨hlt, hr⟩ := List.getElem?_eq_some_iff.1 hi
  have hd : rows.drop i = r :: rows.drop (i + 1) := by rw [List.drop_eq_getElem_cons hlt, hr]
  have hrl : r.length = sz := h r (List.mem_of_getElem? hi)
  have hA : ((rows.take i).flatten ++ r).length = (i + 1) * sz := by
    rw [List.length_append, flatten_length (fun row hr => h row (List.mem_of_mem_take hr)), List.length_take, Nat.min_eq_left (by omega), hrl, Nat.succ_mul]
  have hB : ∀ m, (rows.drop m).flatten.length = (rows.length - m) * sz := fun m => by
    rw [flatten_length (fun row hr => h row (List.mem_of_mem_drop hr)), List.length_drop]
  obtain ⟨j, hj⟩ : ∃ j, rows.length - i = j + 1 := ⟨rows.length - i - 1, by omega⟩
  have e1 : seqC rows k = ((rows.take i).flatten ++ r) ++ (((rows.drop (i + 1)).flatten ++ List.replicate sz .dead) ++ List.replicate (k - sz) .dead) := by
    rw [seq_split h i, hd, List.flatten_cons]
    simp only [List.append_assoc]
    congr 3
    rw [List.replicate_append_replicate]
    congr 1; omega
  rw [e1, ← hA, put_mid]
  · unfold seqC
    rw [List.flatten_append, List.flatten_cons]
    simp only [List.append_assoc]
  · rw [hB, List.length_append, hB, List.length_replicate, hj, show rows.length - (i + 1) = j by omega, Nat.succ_mul]
theorem put_one {sz k i : Nat} {rows : List (List AV)} {row : List AV} (h : ∀ row ∈ rows, row.length = sz) (hi : i < rows.length) (hr : row.length = sz) : putCells (seqC rows k) (i * sz) row = seqC (rows.set i row) k := by
  have hg : rows[i]? = some rows[i] := List.getElem?_eq_getElem hi
  have := flat_put (j := 0) (l := row) h hg (by omega) k
  rw [Nat.add_zero] at this
  rw [this]
  congr 2
  have hrl : rows[i].length = sz := h _ (List.getElem_mem hi)
  unfold putCells
  rw [List.take_zero, List.nil_append, List.drop_eq_nil_of_le (by omega), List.append_nil]
theorem put_end {sz k : Nat} {rows rows2 : List (List AV)} (h : ∀ row ∈ rows, row.length = sz) (h2 : ∀ row ∈ rows2, row.length = sz) (hk : rows2.length * sz ≤ k) : putCells (seqC rows k) (rows.length * sz) rows2.flatten = seqC (rows ++ rows2) (k - rows2.length * sz) := by
  unfold seqC
  rw [← flatten_length h, putCells_end (by rw [flatten_length h2]; exact hk), flatten_length h2, List.flatten_append]
section
variable {P : Program} {TT : Types} {o : Oper} {s : List AV} {L : Heap} {n : Nat}
/-- copy(s[i+1:], s[i:]) -/
theorem a_copyUp {K KP : AV → Heap → Nat → Prop} {c : Call} {x y : Operand} {t tx e : TypeId} {te : TI} {id off off2 nn mm cp cp2 k k2 i sz : Nat} {r : List AV} {rows : List (List AV)} {L0 : Heap} (ho : o.op = .call c) (hk : opKind o = .mem) (hc : c.callee = .builtin .copy) (ha : c.args.toList = [x, y]) (hty : c.argTypes.toList = [t, tx])
    (hkt : kindT TT t = .slice e) (hte : TT e = some te) (hx : ev s x = .arr id off nn cp) (hy : ev s y = .arr id off2 mm cp2) (hta : ∀ k' : Res → Heap → Prop, k' (.seq rows k) L0 → takeO L id k') (hf : findL L id = some (.seq rows k)) (hsz : te.size = sz) (hR : RowsOk sz rows) (hr : rows[i]? = some r)
    (hoff : off = (i + 1) * sz) (hoff2 : off2 = i * sz) (hnn : nn = rows.length - i) (hmm : mm = rows.length + 1 - i) (hkk : sz ≤ k) (hk2 : k - sz = k2) (h : ∀ q : Int, K (.v (.int .i64 q)) ((id, .seq (rows.take i ++ r :: rows.drop i) k2) :: L0) n) : aop P TT o s L n K KP := by
  subst hk2
  subst hoff; subst hoff2; subst hsz; subst hnn
  have hlt := (List.getElem?_eq_some_iff.1 hr).1
  have hmin : Nat.min mm (rows.length - i) = rows.length - i := Nat.min_eq_right (by omega)
  have hmul : i * te.size + (rows.length - i) * te.size = rows.length * te.size := by rw [← Nat.add_mul]; congr 1; omega
  refine a_copyS ho hk hc ha hty hkt hte hx hta (m := mm) (cs := (rows.drop i).flatten) (fun K h => asrc_seq hy hf (Nat.min_le_left _ _) ?_ ?_ ?_ h) (by omega) ?_ (put_up hR.len hr hkk) ?_ (h _)
  · rw [hmin, seqC_len hR.len]; omega
  · rw [hmin, seq_from hR.len i k (by omega), List.take_append_of_le_length]
    · rw [List.take_of_length_le]
      rw [flatten_length (hR.drop i).len, List.length_drop]; exact Nat.le_refl _
    · rw [flatten_length (hR.drop i).len, List.length_drop]; exact Nat.le_refl _
  · exact (hR.drop i).one
  · rw [hmin, seqC_len hR.len, Nat.succ_mul]; omega
  · intro a ha
    have h1 := (hR.take i).pure
    have h2 := (hR.drop i).pure
    rw [List.flatten_append, List.flatten_cons, List.mem_append, List.mem_append] at ha
    rcases ha with ha | ha | ha
    · exact h1 a ha
    · exact hR.pure a (List.mem_flatten.2 ⟨r, List.mem_of_getElem? hr, ha⟩)
    · exact h2 a ha
/-- copy(s[i:], v): one row -/
theorem a_copyOne {K KP : AV → Heap → Nat → Prop} {c : Call} {x y : Operand} {t tx e : TypeId} {te : TI} {id off nn cp k i sz : Nat} {row : List AV} {own : Own} {rows rows' : List (List AV)} {L0 : Heap} (ho : o.op = .call c) (hk : opKind o = .mem) (hc : c.callee = .builtin .copy) (ha : c.args.toList = [x, y]) (hty : c.argTypes.toList = [t, tx])
    (hkt : kindT TT t = .slice e) (hte : TT e = some te) (hx : ev s x = .arr id off nn cp) (hy : ev s y = .list [row] own) (hta : ∀ k' : Res → Heap → Prop, k' (.seq rows k) L0 → takeO L id k') (hsz : te.size = sz) (hR : RowsOk sz rows) (hrow : row.length = sz) (hpr : ∀ a ∈ row, a.pure = true) (hi : i < rows.length)
    (hoff : off = i * sz) (hnn : 1 ≤ nn) (hrows : rows.set i row = rows') (h : ∀ q : Int, K (.v (.int .i64 q)) ((id, .seq rows' k) :: L0) n) : aop P TT o s L n K KP := by
  subst hoff; subst hsz; subst hrows
  have hmin : Nat.min 1 nn = 1 := Nat.min_eq_left hnn
  refine a_copyS ho hk hc ha hty hkt hte hx hta (m := 1) (cs := row) (fun K h => ?_) (by omega) ?_ (put_one hR.len hi hrow) ?_ (h _)
  · rw [hy]
    refine ⟨fun q hq => ?_, Nat.min_le_left _ _, ?_⟩
    · rw [List.mem_singleton.1 hq]; exact hrow
    · show K 1 (List.take (Nat.min 1 nn * te.size) [row].flatten)
      rw [hmin, Nat.one_mul, List.flatten_cons, List.flatten_nil, List.append_nil, List.take_of_length_le (Nat.le_of_eq hrow)]
      exact h
  · rw [hmin, seqC_len hR.len, Nat.one_mul, ← Nat.succ_mul]
    exact Nat.le_trans (Nat.mul_le_mul_right te.size hi) (Nat.le_add_right _ _)
  · intro a ha
    obtain ⟨q, hq, hm⟩ := List.mem_flatten.1 ha
    rcases List.mem_or_eq_of_mem_set hq with h1 | rfl
    · exact hR.pure a (List.mem_flatten.2 ⟨q, h1, hm⟩)
    · exact hpr a hm
/-- a copy to the end of what is known -/
theorem a_copyEnd {K KP : AV → Heap → Nat → Prop} {c : Call} {x y : Operand} {t tx e : TypeId} {te : TI} {id off nn cp k k2 m sz : Nat} {rows rows2 rows' : List (List AV)} {L0 : Heap} (ho : o.op = .call c) (hk : opKind o = .mem) (hc : c.callee = .builtin .copy) (ha : c.args.toList = [x, y]) (hty : c.argTypes.toList = [t, tx])
    (hkt : kindT TT t = .slice e) (hte : TT e = some te) (hx : ev s x = .arr id off nn cp) (hy : ∀ K : Nat → List AV → Prop, K m rows2.flatten → asrc L te.size (fun m => Nat.min m nn) (ev s y) K) (hta : ∀ k' : Res → Heap → Prop, k' (.seq rows k) L0 → takeO L id k') (hsz : te.size = sz) (hR : RowsOk sz rows) (hR2 : RowsOk sz rows2)
    (hm : Nat.min m nn = rows2.length) (hoff : off = rows.length * sz) (hkk : rows2.length * sz ≤ k) (hne : rows.length + k ≠ 0) (hrows : rows ++ rows2 = rows') (hk2 : k - rows2.length * sz = k2) (h : ∀ q : Int, K (.v (.int .i64 q)) ((id, .seq rows' k2) :: L0) n) : aop P TT o s L n K KP := by
  subst hoff; subst hsz; subst hrows; subst hk2
  refine a_copyS ho hk hc ha hty hkt hte hx hta (m := m) (cs := rows2.flatten) hy hne ?_ (put_end hR.len hR2.len hkk) (pure_app hR.pure hR2.pure) (h _)
  rw [hm, seqC_len hR.len]; omega
theorem asrc_rows {L : Heap} {sz : Nat} {y : AV} {rows : List (List AV)} {own : Own} {nn : Nat} {K : Nat → List AV → Prop} (hy : y = .list rows own) (hr : ∀ row ∈ rows, row.length = sz) (hn : rows.length ≤ nn) (h : K rows.length rows.flatten) : asrc L sz (fun m => Nat.min m nn) y K := by
  subst hy
  refine ⟨hr, Nat.min_le_left _ _, ?_⟩
  show K _ (List.take (Nat.min rows.length nn * sz) _)
  rw [show Nat.min rows.length nn = rows.length from Nat.min_eq_left hn, ← flatten_length hr, List.take_length]; exact h
theorem asrc_drop {L : Heap} {sz : Nat} {y : AV} {id off i m cp k nn : Nat} {rows : List (List AV)} {K : Nat → List AV → Prop} (hy : y = .arr id off m cp) (hf : findL L id = some (.seq rows k)) (hR : RowsOk sz rows) (hi : i ≤ rows.length) (hoff : off = i * sz) (hm : m = rows.length - i) (hn : m ≤ nn) (h : K m (rows.drop i).flatten) : asrc L sz (fun m => Nat.min m nn) y K := by
  have hmin : Nat.min m nn = m := Nat.min_eq_left hn
  have hmul : i * sz + (rows.length - i) * sz = rows.length * sz := by rw [← Nat.add_mul]; congr 1; omega
  subst hoff
  refine asrc_seq hy hf (Nat.min_le_left _ _) ?_ ?_ (hR.drop i).one h
  · show i * sz + Nat.min m nn * sz ≤ _
    rw [hmin, seqC_len hR.len, hm]; omega
  · show List.take (Nat.min m nn * sz) _ = _
    have hfl := flatten_length (hR.drop i).len
    rw [List.length_drop] at hfl
    rw [hmin, hm, seq_from hR.len i k hi, List.take_append_of_le_length (by omega), List.take_of_length_le (by omega)]
end
section
variable {P : Program} {TT : Types} {s : List AV} {L : Heap} {n : Nat}
theorem c_l3 {D : Dr} {Kk : Kc} {x : Code} {α β γ : Type} (S : α → β → γ → ASt) (C : α → β → γ → Prop) (μ : α → β → γ → Nat) (a : α) (b : β) (c : γ) (ha : C a b c) (hc : Conv ⟨s, L, n⟩ (S a b c))
    (hround : ∀ a b c, C a b c → acode P TT D x (S a b c).slots (S a b c).L (S a b c).next (loopK D.low (fun p : α × β × γ => S p.1 p.2.1 p.2.2) (fun p => C p.1 p.2.1 p.2.2) (fun p => μ p.1 p.2.1 p.2.2) (a, b, c) Kk)) : acode P TT D (.loop x) s L n Kk :=
  c_loop' (fun p : α × β × γ => S p.1 p.2.1 p.2.2) (fun p => C p.1 p.2.1 p.2.2) (fun p => μ p.1 p.2.1 p.2.2) (a := (a, b, c)) ha hc fun p h => hround p.1 p.2.1 p.2.2 h
theorem c_l4 {D : Dr} {Kk : Kc} {x : Code} {α β γ δ : Type} (S : α → β → γ → δ → ASt) (C : α → β → γ → δ → Prop) (μ : α → β → γ → δ → Nat) (a : α) (b : β) (c : γ) (d : δ) (ha : C a b c d) (hc : Conv ⟨s, L, n⟩ (S a b c d))
    (hround : ∀ a b c d, C a b c d → acode P TT D x (S a b c d).slots (S a b c d).L (S a b c d).next (loopK D.low (fun p : α × β × γ × δ => S p.1 p.2.1 p.2.2.1 p.2.2.2) (fun p => C p.1 p.2.1 p.2.2.1 p.2.2.2) (fun p => μ p.1 p.2.1 p.2.2.1 p.2.2.2) (a, b, c, d) Kk)) : acode P TT D (.loop x) s L n Kk :=
  c_loop' (fun p : α × β × γ × δ => S p.1 p.2.1 p.2.2.1 p.2.2.2) (fun p => C p.1 p.2.1 p.2.2.1 p.2.2.2) (fun p => μ p.1 p.2.1 p.2.2.1 p.2.2.2) (a := (a, b, c, d)) ha hc fun p h => hround p.1 p.2.1 p.2.2.1 p.2.2.2 h
theorem c_l5 {D : Dr} {Kk : Kc} {x : Code} {α β γ δ ε : Type} (S : α → β → γ → δ → ε → ASt) (C : α → β → γ → δ → ε → Prop) (μ : α → β → γ → δ → ε → Nat) (a : α) (b : β) (c : γ) (d : δ) (e : ε) (ha : C a b c d e) (hc : Conv ⟨s, L, n⟩ (S a b c d e))
    (hround : ∀ a b c d e, C a b c d e → acode P TT D x (S a b c d e).slots (S a b c d e).L (S a b c d e).next (loopK D.low (fun p : α × β × γ × δ × ε => S p.1 p.2.1 p.2.2.1 p.2.2.2.1 p.2.2.2.2) (fun p => C p.1 p.2.1 p.2.2.1 p.2.2.2.1 p.2.2.2.2) (fun p => μ p.1 p.2.1 p.2.2.1 p.2.2.2.1 p.2.2.2.2) (a, b, c, d, e) Kk)) : acode P TT D (.loop x) s L n Kk :=
  c_loop' (fun p : α × β × γ × δ × ε => S p.1 p.2.1 p.2.2.1 p.2.2.2.1 p.2.2.2.2) (fun p => C p.1 p.2.1 p.2.2.1 p.2.2.2.1 p.2.2.2.2) (fun p => μ p.1 p.2.1 p.2.2.1 p.2.2.2.1 p.2.2.2.2) (a := (a, b, c, d, e)) ha hc fun p h => hround p.1 p.2.1 p.2.2.1 p.2.2.2.1 p.2.2.2.2 h
theorem c_l7 {D : Dr} {Kk : Kc} {x : Code} {α β γ δ ε ζ η : Type} (S : α → β → γ → δ → ε → ζ → η → ASt) (C : α → β → γ → δ → ε → ζ → η → Prop) (μ : α → β → γ → δ → ε → ζ → η → Nat) (a : α) (b : β) (c : γ) (d : δ) (e : ε) (f : ζ) (g : η) (ha : C a b c d e f g) (hc : Conv ⟨s, L, n⟩ (S a b c d e f g))
    (hround : ∀ a b c d e f g, C a b c d e f g → acode P TT D x (S a b c d e f g).slots (S a b c d e f g).L (S a b c d e f g).next (loopK D.low (fun p : α × β × γ × δ × ε × ζ × η => S p.1 p.2.1 p.2.2.1 p.2.2.2.1 p.2.2.2.2.1 p.2.2.2.2.2.1 p.2.2.2.2.2.2) (fun p => C p.1 p.2.1 p.2.2.1 p.2.2.2.1 p.2.2.2.2.1 p.2.2.2.2.2.1 p.2.2.2.2.2.2) (fun p => μ p.1 p.2.1 p.2.2.1 p.2.2.2.1 p.2.2.2.2.1 p.2.2.2.2.2.1 p.2.2.2.2.2.2) (a, b, c, d, e, f, g) Kk)) : acode P TT D (.loop x) s L n Kk :=
  c_loop' (fun p : α × β × γ × δ × ε × ζ × η => S p.1 p.2.1 p.2.2.1 p.2.2.2.1 p.2.2.2.2.1 p.2.2.2.2.2.1 p.2.2.2.2.2.2) (fun p => C p.1 p.2.1 p.2.2.1 p.2.2.2.1 p.2.2.2.2.1 p.2.2.2.2.2.1 p.2.2.2.2.2.2) (fun p => μ p.1 p.2.1 p.2.2.1 p.2.2.2.1 p.2.2.2.2.1 p.2.2.2.2.2.1 p.2.2.2.2.2.2) (a := (a, b, c, d, e, f, g)) ha hc fun p h => hround p.1 p.2.1 p.2.2.1 p.2.2.2.1 p.2.2.2.2.1 p.2.2.2.2.2.1 p.2.2.2.2.2.2 h
end
theorem q_loadAt {P : Program} {TT : Types} {o : Oper} {s : List AV} {L : Heap} {t : TypeId} {x : Operand} {ti : TI} {id off : Nat} {cells : List AV} {av : AV} (ho : o.op = .load t x) (ht : TT t = some ti) (hx : ev s x = .ptr id off) (hf : findL L id = some (.box cells)) (hk : isAggK ti.kind = false) (hc : cells[off]? = some av) : ∀ K : AV → Prop, K av → aq P TT L (ev s) (raw s) o fun x => fv x K := fun K h => by
  unfold aq; simp only [ho]; rw [ht, hx]
  simp only [opt1, aload, hf, hk, hc, Bool.false_eq_true, if_false, fv_eq]
  exact h
theorem aolds_take {L : Heap} {sz id off i cp k : Nat} {rows : List (List AV)} (hf : findL L id = some (.seq rows k)) (hR : RowsOk sz rows) (hi : i ≤ rows.length) (hoff : off = 0) : aolds L sz (.arr id off i cp) (rows.take i).flatten i cp := by
  subst hoff
  have hfl := flatten_length (hR.take i).len
  rw [List.length_take, Nat.min_eq_left hi] at hfl
  have hcut : ((seqC rows k).drop 0).take (i * sz) = (rows.take i).flatten := by
    rw [List.drop_zero, seq_split hR.len i, ← hfl, List.take_left]
  refine ⟨rfl, rfl, .inr (.inl ⟨rows, k, hf, ?_, ?_, hcut.symm⟩)⟩
  · rw [seqC_len hR.len]
    have := Nat.mul_le_mul_right sz hi
    omega
  · rw [hcut]; exact (hR.take i).one
/-- one more in the middle -/
def insAt {α : Type} (l : List α) (i : Nat) (x : α) : List α := l.take i ++ x :: l.drop i
theorem insAt_len {α : Type} {l : List α} {i : Nat} (x : α) (h : i ≤ l.length) : (insAt l i x).length = l.length + 1 := by simp [insAt]; omega
theorem insAt_end {α : Type} (l : List α) (x : α) : insAt l l.length x = l ++ [x] := by simp [insAt]
theorem insAt_map {α β : Type} (f : α → β) (l : List α) (i : Nat) (x : α) : insAt (l.map f) i (f x) = (insAt l i x).map f := by simp [insAt, List.map_take, List.map_drop]
theorem RowsOk.ins {sz : Nat} {rows : List (List AV)} {row : List AV} (h : RowsOk sz rows) (i : Nat) (h2 : RowsOk sz [row]) : RowsOk sz (insAt rows i row) := (h.take i).app (h2.app (h.drop i))
theorem ins_set {rows : List (List AV)} {i : Nat} {r row : List AV} (hi : i < rows.length) : (rows.take i ++ r :: rows.drop i).set i row = insAt rows i row := by
  unfold insAt
  rw [List.set_append_right _ _ (by simp; omega), List.length_take, Nat.min_eq_left (by omega), Nat.sub_self, List.set_cons_zero]
end Go.Am
