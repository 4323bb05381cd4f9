/- Functions: a contract out of a walk; and states that say less. -/
import Derived.Test.YtabhfccfohpkaaaAmP
namespace Go.Am
open Go.RowKit
set_option linter.unusedSimpArgs false
set_option linter.unusedVariables false

def aresults (TT : Types) (s : List AV) (L : Heap) : List ResultVar → Option (List AV)
  | [] => some []
  | .tmp t :: r => match aresults TT s L r with
    | some l => some ((getA s t).down :: l)
    | none => none
  | .cell a ty :: r => match TT ty with
    | some ti => match aload L ti ((getA s a).down), aresults TT s L r with
      | some x, some l => some (x :: l)
      | _, _ => none
    | none => none
def aout : List AV → AV
  | [a] => a
  | l => .tuple l

section
variable {P : Program} {TT : Types} {B : Base}

theorem results_mapM (hT : TOk P TT) {G : Ghost} {s : List AV} {L : Heap} {n : Nat} {a : Act} {w : World} (hr : Rel B No G ⟨s, L, n⟩ a w) : ∀ (r : List ResultVar) (l : List AV), aresults TT s L r = some l →
    ∃ vs : List Value, (∀ g : ResultVar → Sem Value, (∀ t, g (.tmp t) = pure (a.tmps.getD t undef)) → (∀ x t, g (.cell x t) = do loadVar t (← asAddr (a.tmps.getD x undef))) → (r.mapM g).run P w = .ok vs w) ∧ vs.length = l.length ∧ ∀ i b, l[i]? = some b → Sim G b (vs.getD i undef)
  | [], l, h => by
    cases h
    exact ⟨[], (fun _ _ _ => rfl), rfl, fun i b h => by simp at h⟩
  | .tmp t :: r, l, h => by
    unfold aresults at h
    split at h
    · rename_i l' hl'
      cases h
      obtain ⟨vs, h1, h2, h3⟩ := results_mapM hT hr r l' hl'
      refine ⟨a.tmps.getD t undef :: vs, fun g g1 g2 => ?_, by simp [h2], fun i b hb => ?_⟩
      · rw [List.mapM_cons, Sem.run_bind, g1, Sem.run_pure]
        simp only [Result.andThen]
        rw [Sem.run_bind, h1 g g1 g2]
        rfl
      · cases i with
        | zero => simp at hb; subst hb; exact (hr.slots t (fun h => h)).down
        | succ i => exact h3 i b (by simpa using hb)
    · cases h
  | .cell x t :: r, l, h => by
    unfold aresults at h
    split at h
    · rename_i ti ht
      obtain ⟨hti⟩ := hT.get ht
      split at h
      · rename_i c l' hc hl'
        cases h
        obtain ⟨vs, h1, h2, h3⟩ := results_mapM hT hr r l' hl'
        obtain ⟨v, ad, e1, e2, e3⟩ := load_run (P := P) (hr.slots x (fun h => h)).down hr.holds hti hc
        rw [e1] at e2
        have e2 : (loadVar t ad).run P w = .ok v w := e2
        refine ⟨v :: vs, fun g g1 g2 => ?_, by simp [h2], fun i b hb => ?_⟩
        · have e4 : (do loadVar t (← asAddr (a.tmps.getD x undef)) : Sem Value).run P w = .ok v w := by
            rw [Sem.run_bind, e1]
            have : (asAddr (.pointer (some ad))).run P w = .ok ad w := rfl
            rw [this]
            exact e2
          rw [List.mapM_cons, Sem.run_bind, g2, e4]
          simp only [Result.andThen]
          rw [Sem.run_bind, h1 g g1 g2]
          rfl
        · cases i with
          | zero => simp at hb; subst hb; exact e3
          | succ i => exact h3 i b (by simpa using hb)
      · cases h
    · cases h

theorem results_run (hT : TOk P TT) {G : Ghost} {s : List AV} {L : Heap} {n : Nat} {a : Act} {w : World} (hr : Rel B No G ⟨s, L, n⟩ a w) {fn : Func} {l : List AV} (h : aresults TT s L fn.results.toList = some l) :
    ∃ v, (results fn a.tmps).run P w = .ok v w ∧ Sim G (aout l) v := by
  obtain ⟨vs, h1, h2, h3⟩ := results_mapM hT hr _ l h
  refine ⟨if h : vs.toArray.size = 1 then vs.toArray[0] else .tuple vs.toArray, ?_, ?_⟩
  · unfold results
    rw [Sem.run_bind, Array.mapM_eq_mapM_toList, Sem.run_map, h1 _ (fun _ => rfl) (fun _ _ => rfl)]
    rfl
  unfold aout
  split
  · rename_i b
    have hl : vs.length = 1 := h2
    have h4 := h3 0 b rfl
    rw [dif_pos (by simp [hl])]
    have : vs.toArray[0]'(by simp [hl]) = vs.getD 0 undef := by simp [hl]
    rw [this]; exact h4
  · rename_i hne
    have hl : ¬ vs.toArray.size = 1 := fun e => by
      have e' : l.length = 1 := by rw [← h2]; simpa using e
      obtain ⟨b, hb⟩ := List.length_eq_one_iff.1 e'
      exact hne b hb
    rw [dif_neg hl]
    exact .tuple _ _ (by simp [h2]) fun i b hb => by have := h3 i b hb; simpa using this

theorem Step.sub {G G' : Ghost} {w w' : World} {H L H' rest : Heap} (h : Step G w H G' w' L) (hp : L.Perm (H' ++ rest)) : Step G w H G' w' H' where
  os := h.os
  tape := h.tape
  output := h.output
  size := h.size
  base := h.base
  X := h.X
  frame := h.frame
  newX := h.newX
  newB := fun b hb => h.newB b ((hp.filterMap _).mem_iff.2 (by rw [List.filterMap_append]; exact List.mem_append_left _ hb))
  live := h.live
  newI := fun id hid => h.newI id ((hp.map _).mem_iff.2 (by rw [List.map_append]; exact List.mem_append_left _ hid))
  lits := h.lits
  newL := h.newL

/-- what a walk must end in -/
def aend (P : Program) (TT : Types) (res : List ResultVar) (top : Nat) (R : AOut → Heap → Prop) : Kc := fun e s L n =>
  match e with
  | .panic x => ∃ H' rest, R (.panic x) H' ∧ L.Perm (H' ++ rest) ∧ n ≤ top
  | .exit _ => False
  | _ => ∃ τ : ASt, Conv ⟨s, L, n⟩ τ ∧ opt1 (aresults TT τ.slots τ.L res) fun l => ∃ H' rest, R (.ret (aout l)) H' ∧ τ.L.Perm (H' ++ rest) ∧ τ.next ≤ top

structure FnIs (P : Program) (f : FuncId) (fn : Func) (c : Code) : Prop where
  get : P.funcs[f]? = some fn
  body : fn.body = some c
  name : (fn.name == "runtime.NumGoroutine") = false

theorem acalls_of (hT : TOk P TT) {d : Nat → List Oper → List AV → Heap → Nat → Kc → Prop} (hD : DOk P d) {f : FuncId} {fn : Func} {c : Code} (hf : FnIs P f fn c) {k top : Nat} {args : List AV} {H : Heap} {R : AOut → Heap → Prop}
    (h : acode P TT ⟨d, fun N => k ≤ N⟩ c (args ++ List.replicate (fn.ntmps - args.length) .dead) H k (aend P TT fn.results.toList top R)) : ACalls P f k top args H R := by
  intro G w vals hk hlits hbase hh hlen hsim
  left
  refine ⟨?_, ?_⟩
  · unfold callFunc
    have hp : program.run P w = .ok P w := rfl
    rw [Sem.run_bind, hp]
    simp only [Result.andThen, hf.get, hf.name, hf.body]
    rfl
  · refine calls_of_wp hf.get hf.body ?_
    have hr : Rel ⟨G, w, H, k, []⟩ No G ⟨args ++ List.replicate (fn.ntmps - args.length) .dead, H, k⟩ { tmps := vals ++ Array.replicate (fn.ntmps - vals.size) undef, defers := [] } w := by
      refine ⟨by simp [hlen], fun t _ => ?_, rfl, hh, Step.refl _ _ _, hk, by rw [hbase]; exact Nat.le_refl _, Nat.le_refl _, fun id hid => .inl hid⟩
      rw [getA_eq]
      by_cases ht : t < args.length
      · have e1 : (args ++ List.replicate (fn.ntmps - args.length) AV.dead).getD t .dead = args[t] := by simp [List.getElem?_append, ht]
        have e2 : (vals ++ Array.replicate (fn.ntmps - vals.size) undef).getD t undef = vals.getD t undef := by
          have : t < vals.size := by omega
          rw [Array.getD_eq_getD_getElem?, Array.getElem?_append_left this, Array.getD_eq_getD_getElem?]
        rw [e1, e2]
        exact .of (hsim t _ (List.getElem?_eq_getElem ht))
      · have e1 : (args ++ List.replicate (fn.ntmps - args.length) AV.dead).getD t .dead = .dead := by
          rw [List.getD, List.getElem?_append_right (by omega), List.getElem?_replicate]
          split <;> rfl
        rw [e1]
        exact .of (.data _ _ (.dead _))
    refine wp_mono (acode_sound hT (D := ⟨d, fun N => k ≤ N⟩) hD (fun N hN => ⟨fun id hid => Nat.lt_of_lt_of_le (hk id hid) hN, hN⟩) c _ _ _ _ G _ w h hr) fun e a' w' ⟨e', s, L, n, G', k1, k2, k3⟩ => ?_
    have fin : ∀ (G' : Ghost) (s : List AV) (L H' rest : Heap) (n : Nat) (a' : Act) (w' : World), Rel ⟨G, w, H, k, []⟩ No G' ⟨s, L, n⟩ a' w' → L.Perm (H' ++ rest) → n ≤ top → Holds G' w' H' ∧ Step G w H G' w' H' ∧ ∀ id, G'.live id → G.live id ∨ (k ≤ id ∧ id < top) := fun G' s L H' rest n a' w' hr hp hn =>
      ⟨(hr.holds.perm hp).left, hr.step.sub hp, fun id hid => (hr.old id hid).imp_right fun h1 => ⟨h1, Nat.lt_of_lt_of_le (hr.next id hid) hn⟩⟩
    have ret : (∃ τ : ASt, Conv ⟨s, L, n⟩ τ ∧ opt1 (aresults TT τ.slots τ.L fn.results.toList) fun l => ∃ H' rest, R (.ret (aout l)) H' ∧ τ.L.Perm (H' ++ rest) ∧ τ.next ≤ top) →
        a'.defers = [] ∧ ∃ v, (results fn a'.tmps).run P w' = .ok v w' ∧ ∃ G' out H', R out H' ∧ OSim G' out (.returned v) ∧ Holds G' w' H' ∧ Step G w H G' w' H' ∧ ∀ id, G'.live id → G.live id ∨ (k ≤ id ∧ id < top) := fun ⟨τ, hc, h1⟩ => by
      obtain ⟨G2, hr2⟩ := hc _ _ _ _ k3
      obtain ⟨l, hl, H', rest, h2, h3, h4⟩ := opt1_some h1
      obtain ⟨v, h5, h6⟩ := results_run (P := P) hT (s := τ.slots) (L := τ.L) (n := τ.next) hr2 hl
      exact ⟨hr2.defers, v, h5, G2, .ret (aout l), H', h2, h6, fin G2 τ.slots τ.L H' rest τ.next a' w' hr2 h3 h4⟩
    cases e' with
    | normal =>
      cases e <;> first | exact k2.elim | skip
      exact ret k1
    | ret =>
      cases e <;> first | exact k2.elim | skip
      exact ret k1
    | exit i => exact k1.elim
    | panic x =>
      cases e <;> first | exact k2.elim | skip
      obtain ⟨v, rfl, hv⟩ := k2
      obtain ⟨H', rest, h1, h2, h3⟩ := k1
      exact ⟨k3.defers, G', .panic x, H', h1, ⟨v, rfl, hv⟩, fin G' s L H' rest n a' w' k3 h2 h3⟩
end
end Go.Am
