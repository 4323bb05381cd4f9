/- The abstract machine's operations that write or make objects. -/
import Derived.Test.YtabhfccfohpkaaaAmK
import Derived.Deep.AppendSrc
import Derived.Deep.Upon
import Derived.Room.Entries
namespace Go.Am
open Go.RowKit
set_option linter.unusedSimpArgs false
set_option linter.unusedVariables false

theorem setCells_heap (b : Nat) : ∀ (vs : List Value) (o : Nat) (w : World) (arr : Array Value) (E : TypeId) (fr : Nat × Nat), w.heap[b]? = some (.cells arr E fr) → o + vs.length ≤ arr.size →
    ∃ arr', (w.setCells b o vs).heap[b]? = some (.cells arr' E fr) ∧ arr'.size = arr.size ∧ ∀ i, arr'.getD i undef = if o ≤ i ∧ i < o + vs.length then vs.getD (i - o) undef else arr.getD i undef
  | [], o, w, arr, E, fr, h, _ => ⟨arr, h, rfl, fun i => by simp; omega⟩
  | v :: vs, o, w, arr, E, fr, h, hle => by
    simp only [List.length_cons] at hle
    have h1 : (w.setCell ⟨b, o, none⟩ v).heap[b]? = some (.cells (arr.setIfInBounds o v) E fr) := by
      simp [World.setCell, Array.getElem?_modify, h]
    obtain ⟨arr', k1, k2, k3⟩ := setCells_heap b vs (o + 1) (w.setCell ⟨b, o, none⟩ v) _ E fr h1 (by simp; omega)
    refine ⟨arr', k1, by rw [k2]; simp, fun i => ?_⟩
    rw [k3 i]
    by_cases c1 : o + 1 ≤ i ∧ i < o + 1 + vs.length
    · rw [if_pos c1, if_pos (by simp; omega), show i - o = (i - (o + 1)) + 1 by omega]; simp
    · rw [if_neg c1]
      by_cases c2 : i = o
      · subst c2
        rw [if_pos (by simp)]
        have : i < arr.size := by omega
        simp [this]
      · rw [if_neg (by simp; omega)]
        simp [Array.getElem?_setIfInBounds, Ne.symm c2]
theorem setCells_other (b : Nat) : ∀ (vs : List Value) (o : Nat) (w : World), (w.setCells b o vs).os = w.os ∧ (w.setCells b o vs).tape = w.tape ∧ (w.setCells b o vs).output = w.output ∧ (w.setCells b o vs).heap.size = w.heap.size ∧ ∀ b', b' ≠ b → (w.setCells b o vs).heap[b']? = w.heap[b']?
  | [], _, _ => ⟨rfl, rfl, rfl, rfl, fun _ _ => rfl⟩
  | v :: vs, o, w => by
    obtain ⟨h1, h2, h3, h4, h5⟩ := setCells_other b vs (o + 1) (w.setCell ⟨b, o, none⟩ v)
    refine ⟨h1, h2, h3, by rw [World.setCells, h4]; simp [World.setCell], fun b' hb' => ?_⟩
    rw [World.setCells, h5 b' hb']
    simp [World.setCell, Array.getElem?_modify, Ne.symm hb']

def setL : Heap → Nat → Res → Heap
  | [], _, _ => []
  | (i, r) :: H, id, r' => if i = id then (i, r') :: H else (i, r) :: setL H id r'
theorem findL_perm {L : Heap} {id : Nat} {r : Res} (h : findL L id = some r) : ∃ L0, L.Perm ((id, r) :: L0) ∧ ∀ r', (setL L id r').Perm ((id, r') :: L0) := by
  induction L with
  | nil => cases h
  | cons x L ih =>
    obtain ⟨i, r0⟩ := x
    unfold findL at h
    split at h
    · rename_i e; subst e; cases h
      exact ⟨L, .refl _, fun r' => by simp [setL]⟩
    · rename_i e
      obtain ⟨L0, h1, h2⟩ := ih h
      refine ⟨(i, r0) :: L0, (h1.cons _).trans (.swap _ _ _), fun r' => ?_⟩
      unfold setL
      rw [if_neg e]
      exact ((h2 r').cons _).trans (.swap _ _ _)
/-- an object alone turns into another: so it is within the heap -/
theorem within {G G' : Ghost} {w w' : World} {L : Heap} {id : Nat} {r r' : Res} (hh : Holds G w L) (hf : findL L id = some r) (h : Holds G w [(id, r)] → Holds G' w' [(id, r')] ∧ Step G w [(id, r)] G' w' [(id, r')]) :
    Holds G' w' (setL L id r') ∧ Step G w L G' w' (setL L id r') := by
  obtain ⟨L0, h1, h2⟩ := findL_perm hf
  have h3 : Holds G w ([(id, r)] ++ L0) := hh.perm h1
  obtain ⟨k1, k2⟩ := h h3.left
  obtain ⟨m1, m2⟩ := h3.beside k1 k2
  exact ⟨m1.perm (h2 r').symm, m2.perm h1.symm (h2 r').symm⟩
/-- a new object beside the heap -/
theorem with_new {G G' : Ghost} {w w' : World} {L : Heap} {r : Nat × Res} (hh : Holds G w L) (h : Holds G w [] → Holds G' w' [r] ∧ Step G w [] G' w' [r]) : Holds G' w' (r :: L) ∧ Step G w L G' w' (r :: L) := by
  have h3 : Holds G w ([] ++ L) := hh
  obtain ⟨k1, k2⟩ := h h3.left
  exact h3.beside k1 k2

theorem store_list {G : Ghost} {w : World} {id off : Nat} {cells l : List AV} {vs : List Value} (h : Holds G w [(id, .box cells)]) (hl : l.length = vs.length ∧ ∀ i c, l[i]? = some c → Sim G c (vs.getD i undef)) (hle : off + l.length ≤ cells.length) :
    Holds G (w.setCells (G.loc id) off vs) [(id, .box (putCells cells off l))] ∧ Step G w [(id, .box cells)] G (w.setCells (G.loc id) off vs) [(id, .box (putCells cells off l))] := by
  obtain ⟨h0, arr, E, fr, hh, hsz, hf, hc⟩ := h.res _ (List.mem_singleton.2 rfl)
  obtain ⟨arr', k1, k2, k3⟩ := setCells_heap (G.loc id) vs off w arr E fr hh (by have := hl.1; omega)
  obtain ⟨o1, o2, o3, o4, o5⟩ := setCells_other (G.loc id) vs off w
  have hb : ∀ H, blocksOf G [(id, .box H)] = [G.loc id] := fun H => rfl
  have hX : ∀ b i v, G.X b i = some v → b ≠ G.loc id := fun b i v hx e => by subst e; rw [h0 i] at hx; cases hx
  refine ⟨⟨fun b i v hx => ?_, fun r hr => ?_, by simp, fun r hr => ?_, by simp [hb], fun b hb' => ?_⟩, ⟨o1, o2, o3, by rw [o4]; exact Nat.le_refl _, rfl, fun _ _ _ h => h, fun b hlt hn => ?_, fun _ _ _ h => .inl h, fun b hb' => .inl (by simpa [hb] using hb'), fun i hi => ⟨hi, rfl, .inl rfl⟩, fun i hi => .inl (by simpa using hi), fun _ h => h, fun _ h => .inl h⟩⟩
  · have := h.X b i v hx
    rw [← this]
    simp [World.cell?, o5 b (hX b i v hx)]
  · obtain rfl := List.mem_singleton.1 hr
    refine ⟨h0, arr', E, fr, k1, by rw [k2, put_len hle]; exact hsz, fun i => ?_, fun i a ha => ?_⟩
    · have := hf i
      simp only [World.frozen?, hh] at this
      simp only [World.frozen?, k1]; exact this
    · rw [k3 i]
      rcases put_get hle ha with ⟨p1, p2, p3⟩ | ⟨p1, p2⟩
      · rw [if_pos (by have := hl.1; omega)]
        have := hl.2 _ _ p3
        simpa using this
      · rw [if_neg (by have := hl.1; omega)]
        exact hc i a p2
  · obtain rfl := List.mem_singleton.1 hr
    exact h.live (id, .box cells) (by simp)
  · obtain ⟨q1, q2, q3⟩ := h.lits b hb'
    exact ⟨q1, by rw [o4]; exact q2, q3⟩
  · have hne : b ≠ G.loc id := fun e => hn (by rw [hb]; simp [e])
    exact ⟨.inl (o5 b hne), fun _ => o5 b hne⟩

theorem store_box {G : Ghost} {w : World} {id off : Nat} {cells l : List AV} {x : Value} (h : Holds G w [(id, .box cells)]) (hl : l.length = x.cells.size ∧ ∀ i c, l[i]? = some c → Sim G c (x.cells.getD i undef)) (hle : off + l.length ≤ cells.length) :
    Holds G (w.setCells (G.loc id) off x.cells.toList) [(id, .box (putCells cells off l))] ∧ Step G w [(id, .box cells)] G (w.setCells (G.loc id) off x.cells.toList) [(id, .box (putCells cells off l))] :=
  store_list h ⟨by rw [hl.1]; simp, fun i c hc => by have := hl.2 i c hc; simpa using this⟩ hle

/-- a new object -/
def Ghost.boxed (G : Ghost) (id b : Nat) : Ghost := { G with loc := fun i => if i = id then b else G.loc i, live := fun i => G.live i ∨ i = id }
theorem new_box {G : Ghost} {w : World} {id : Nat} {l : List AV} {arr : Array Value} (E : TypeId) (h : Holds G w []) (hid : ¬ G.live id) (hl : l.length ≤ arr.size ∧ ∀ i a, l[i]? = some a → Sim G a (arr.getD i undef)) :
    Holds (G.boxed id w.heap.size) (w.alloc (.cells arr E)) [(id, .box l)] ∧ Step G w [] (G.boxed id w.heap.size) (w.alloc (.cells arr E)) [(id, .box l)] := by
  have hloc : (G.boxed id w.heap.size).loc id = w.heap.size := by simp [Ghost.boxed]
  have hb : blocksOf (G.boxed id w.heap.size) [(id, .box l)] = [w.heap.size] := by simp [blocksOf, Ghost.placed, hloc]
  have hX : ∀ b i v, G.X b i = some v → b < w.heap.size := fun b i v hx => by
    have := h.X b i v hx
    rcases Nat.lt_or_ge b w.heap.size with hlt | hge
    · exact hlt
    · simp [World.cell?, Array.getElem?_eq_none hge] at this
  have hnew : (w.alloc (.cells arr E)).heap[w.heap.size]? = some (.cells arr E) := by
    show (w.heap.push _)[w.heap.size]? = _
    simp
  have hold : ∀ b, b < w.heap.size → (w.alloc (.cells arr E)).heap[b]? = w.heap[b]? := fun b hb => Below.heap_alloc _ _ _ hb
  have hlive : ∀ i, G.live i → (G.boxed id w.heap.size).live i ∧ (G.boxed id w.heap.size).loc i = G.loc i ∧ (G.boxed id w.heap.size).tk i = G.tk i := fun i hi => by
    have : i ≠ id := fun e => hid (e ▸ hi)
    exact ⟨.inl hi, by simp [Ghost.boxed, this], rfl⟩
  have hst : Step G w [] (G.boxed id w.heap.size) (w.alloc (.cells arr E)) [(id, .box l)] :=
    ⟨rfl, rfl, rfl, by simp, rfl, fun _ _ _ h => h, fun b hlt _ => ⟨.inl (hold b hlt), fun _ => hold b hlt⟩, fun _ _ _ h => .inl h, fun b hb' => by rw [hb] at hb'; simp at hb'; exact .inr (by omega),
      fun i hi => let ⟨a, b, c⟩ := hlive i hi; ⟨a, b, .inl c⟩, fun i hi => .inr (by simp at hi; subst hi; exact hid), fun _ h => h, fun _ h => .inl h⟩
  refine ⟨⟨fun b i v hx => ?_, fun r hr => ?_, by simp, fun r hr => ?_, by rw [hb]; simp, fun b hb' => ?_⟩, hst⟩
  · have := h.X b i v hx
    rw [← this]
    simp [World.cell?, hold b (hX b i v hx)]
  · obtain rfl := List.mem_singleton.1 hr
    refine ⟨fun i => ?_, arr, E, (0, 0), by rw [hloc]; exact hnew, hl.1, fun i => by rw [hloc]; simp only [World.frozen?, hnew]; simp, fun i a ha => hst.sim (hl.2 i a ha)⟩
    · rw [hloc]
      cases hx : G.X w.heap.size i with
      | none => exact hx
      | some v => have := hX _ _ _ hx; omega
  · obtain rfl := List.mem_singleton.1 hr
    exact .inr rfl
  · obtain ⟨q1, q2, q3⟩ := h.lits b hb'
    refine ⟨q1, by simp; omega, ?_⟩
    rw [hb]; simp; omega

/-- an operation that writes answers so, and leaves so -/
def EOk (P : Program) (L : Heap) (ev raw : Operand → AV) (o : Oper) (av : AV) (L' : Heap) (new : Nat → Prop) : Prop :=
  ∀ G w ρ, Here P L ev raw o G w ρ → (∀ id, new id → ¬ G.live id) → ∃ v G' w', ((execOp ρ o).run P w = .ok (.value v) w' ∨ ((execOp ρ o).run P w = .ok .skip w' ∧ v = undef)) ∧ Sim G' av v ∧ Holds G' w' L' ∧ Step G w L G' w' L' ∧ ∀ id, G'.live id → G.live id ∨ new id

section
variable {P : Program} {L : Heap} {ev raw : Operand → AV} {o : Oper}

theorem e_store {t : TypeId} {x y : Operand} {ti : TI} {id off : Nat} {cells l : List AV} (ho : o.op = .store t x y) (ht : TIs P t ti) (hx : ev x = .ptr id off) (hf : findL L id = some (.box cells)) (hl : acells (ev y) = some l) (hone : l.all AV.one = true)
    (hs : l.length = ti.size) (hle : off + l.length ≤ cells.length) : EOk P L ev raw o .dead (setL L id (.box (putCells cells off l))) fun _ => False := fun G w ρ hh _ => by
  have h1 := hh.ev x (by rw [ho]; simp [Op.operands])
  have h2 := hh.ev y (by rw [ho]; simp [Op.operands])
  rw [hx] at h1
  obtain ⟨h3, _⟩ := h1.ptr_inv
  have h4 := acells_sim h2 hl
  obtain ⟨k1, k2⟩ := within hh.holds hf fun h => store_box h h4 hle
  refine ⟨undef, G, _, .inr ⟨?_, rfl⟩, .data _ _ (.dead _), k1, k2, fun _ h => .inl h⟩
  obtain ⟨_, arr, E, fr, hb, hsz, hfz, hc⟩ := hh.holds.res _ (findL_mem hf)
  have hcells : (ρ y).cells.size = ti.size := by rw [← h4.1]; exact hs
  have hst := run_storeCells_cells (P := P) (G.loc id) off (ρ y).cells.toList 0 w (fun j hj => by
      have : off + 0 + j < arr.size := by have := h4.1; simp at hj; omega
      simp [World.cell?, hb]; omega) (fun j hj => hfz _) (fun v hv => by
      obtain ⟨i, hi⟩ := List.getElem?_of_mem hv
      have hi' : i < l.length := by
        have := (List.getElem?_eq_some_iff.1 hi).1
        rw [h4.1]; simpa using this
      have h5 := h4.2 i l[i] (List.getElem?_eq_getElem hi')
      have h6 : (ρ y).cells.getD i undef = v := by
        rw [Array.getElem?_toList] at hi
        simp [hi]
      rw [h6] at h5
      exact h5.one (List.all_eq_true.1 hone _ (List.getElem_mem hi')))
  have hsv : (Instr.storeAt t (ρ x) (ρ y)).run P w = .ok () (w.setCells (G.loc id) off (ρ y).cells.toList) := by
    rw [h3]
    unfold Instr.storeAt
    have h5 : (Instr.sureAddr (.pointer (some ⟨G.loc id, off, none⟩))).run P w = .ok ⟨G.loc id, off, none⟩ w := rfl
    have hszr : (sizeOf t).run P w = .ok ti.size w := by simp [sizeOf, typeInfo, ht.info, ht.size]
    rw [Sem.run_bind, h5]
    simp only [Result.andThen]
    unfold storeVar
    rw [Sem.run_bind, hszr]
    simp only [Result.andThen]
    rw [if_neg (by simp [hcells])]
    simpa using hst
  simp only [execOp, ho]
  rw [Sem.run_bind, hsv]
  rfl
theorem e_box {t : TypeId} {x : Operand} {id : Nat} {l : List AV} (ho : o.op = .box t x) (hl : acells (ev x) = some l) : EOk P L ev raw o (.ptr id 0) ((id, .box l) :: L) fun i => i = id := fun G w ρ hh hn => by
  have h2 := hh.ev x (by rw [ho]; simp [Op.operands])
  have h4 := acells_sim h2 hl
  obtain ⟨k1, k2⟩ := with_new hh.holds fun h => new_box (id := id) t h (hn id rfl) ⟨Nat.le_of_eq h4.1, h4.2⟩
  refine ⟨.pointer (some ⟨w.heap.size, 0, none⟩), _, _, .inl ?_, ?_, k1, k2, fun i hi => hi⟩
  · simp only [execOp, ho]; rfl
  · have : (G.boxed id w.heap.size).loc id = w.heap.size := by simp [Ghost.boxed]
    have h5 := Sim.ptr (G := G.boxed id w.heap.size) id 0 (.inr rfl)
    rw [this] at h5; exact h5
theorem e_alloc {t : TypeId} {ti : TI} {z : Value} {id : Nat} (ho : o.op = .alloc t) (ht : TIs P t ti) (hz : ti.zero = some z) : EOk P L ev raw o (.ptr id 0) ((id, .box (zcells z)) :: L) fun i => i = id := fun G w ρ hh hn => by
  obtain ⟨k1, k2⟩ := with_new hh.holds fun h => new_box (id := id) t h (hn id rfl) ⟨Nat.le_of_eq (zcells_rel G z).1, (zcells_rel G z).2⟩
  refine ⟨.pointer (some ⟨w.heap.size, 0, none⟩), _, _, .inl ?_, ?_, k1, k2, fun i hi => hi⟩
  · have hzv : (zeroValue t).run P w = .ok z w := by simp [zeroValue, typeInfo, ht.info, ht.zero, hz]
    simp only [execOp, ho, Instr.alloc]
    rw [Sem.run_bind, Sem.run_bind, hzv]
    rfl
  · have : (G.boxed id w.heap.size).loc id = w.heap.size := by simp [Ghost.boxed]
    have h5 := Sim.ptr (G := G.boxed id w.heap.size) id 0 (.inr rfl)
    rw [this] at h5; exact h5
theorem e_value {av : AV} (h : QOk P L ev raw o av) (hd : ∀ G v, Slot G av v → Sim G av.down v) : EOk P L ev raw o av.down L fun _ => False := fun G w ρ hh _ => by
  obtain ⟨v, G', w', h1, h2, h3⟩ := h G w ρ hh
  exact ⟨v, G', w', .inl h1, hd _ _ h2, h3.holds hh.holds, h3.step L, fun id hid => by rw [h3.live] at hid; exact .inl hid⟩
/-- a list written out, as an object -/
theorem e_buildObj {t e : TypeId} {len id : Nat} {parts : Array (Nat × Operand)} {ti te : TI} {z : Value} {p : List (Nat × List AV)} {cells : List AV} (ho : o.op = .buildSlice t len parts) (ht : TIs P t ti) (hk : ti.kind = .slice e) (hte : TIs P e te) (hz : te.zero = some z)
    (hzs : z.cells.size = te.size) (hz1 : ∀ y ∈ z.cells.toList, y.oneCell' = true) (hs0 : 0 < te.size) (hl0 : 0 < len) (hsm : len * te.size ≤ 16777216) (hp : partCells ev parts.toList = some p) (hl : aFill (fun i => some (i * te.size, te.size)) (List.replicate len (zcells z)).flatten p = some cells) :
    EOk P L ev raw o (.arr id 0 len len) ((id, .box cells) :: L) fun i => i = id := fun G w ρ hh hn => by
  have hs := part_ops (parts := parts) hh (by rw [ho]; simp [Op.operands])
  have h1 := partCells_rel (ρ' := ρ) rfl hp hs
  have hzr0 := zeros_rel G.X z len hz1 (by omega)
  have hzr : RcQ (Sim G) (List.replicate len (zcells z)).flatten ((Array.range (len * z.cells.size)).map (fun i => z.cells[i % z.cells.size]!)) := ⟨hzr0.1, fun i a ha => .data _ _ (hzr0.2 i a ha).1⟩
  rw [hzs] at hzr
  obtain ⟨arr, h2, h3⟩ := fill_rel h1 hzr hl
  obtain ⟨k1, k2⟩ := with_new hh.holds fun h => new_box (id := id) (arr := arr) e h (hn id rfl) ⟨Nat.le_of_eq h3.1, h3.2⟩
  refine ⟨.slice (some ⟨w.heap.size, 0, none⟩) len len, _, _, .inl ?_, ?_, k1, k2, fun i hi => hi⟩
  · have hpm : (parts.map fun x => (x.1, ρ x.2)).toList = parts.toList.map fun q => (q.1, ρ q.2) := by simp
    have hb : (Instr.buildSlice t len (parts.map fun (i, x) => (i, ρ x))).run P w = .ok (.slice (some ⟨w.heap.size, 0, none⟩) len len) (w.alloc (.cells arr e)) := by
      unfold Instr.buildSlice
      have hsz : (sizeOf e).run P w = .ok te.size w := by simp [sizeOf, typeInfo, hte.info, hte.size]
      have hzv : (zeroValue e).run P w = .ok z w := by simp [zeroValue, typeInfo, hte.info, hte.zero, hz]
      rw [Sem.run_bind, run_underlying (ht.slice hk)]
      simp only [Result.andThen]
      rw [Sem.run_bind, hsz]
      simp only [Result.andThen]
      rw [if_neg (by omega)]
      have h0 : ¬ len * te.size = 0 := fun h => by
        rcases Nat.mul_eq_zero.1 h with h | h <;> omega
      rw [if_neg h0]
      rw [Sem.run_bind, hzv]
      simp only [Result.andThen]
      rw [Sem.run_bind, Sem.run_pure]
      simp only [Result.andThen]
      rw [hzs, hpm, h2]
      rfl
    simp only [execOp, ho]
    rw [Sem.run_bind, hb]
    rfl
  · have hloc : (G.boxed id w.heap.size).loc id = w.heap.size := by simp [Ghost.boxed]
    have hle : len ≤ maxLen := by unfold maxLen; have : len ≤ len * te.size := Nat.le_mul_of_pos_right _ hs0; omega
    exact .arr id 0 len len _ (.inr rfl) (Nat.le_refl _) hle fun _ => by rw [hloc]
end
end Go.Am
