/- A walk by parts: for functions that put calls off. -/
import Derived.Test.YtabhfccfohpkaaaAmZ
import Derived.Recover
namespace Go.Am
open Go.RowKit
set_option linter.unusedSimpArgs false
set_option linter.unusedVariables false
section
variable {P : Program} {TT : Types} {B : Base}
/-- the beginning -/
theorem rel_start {G : Ghost} {w : World} {vals : Array Value} {H : Heap} {k m : Nat} {args : List AV} (hk : ∀ id, G.live id → id < k) (hbase : G.base = w.heap.size) (hh : Holds G w H) (hlen : args.length = vals.size) (hsim : ∀ i a, args[i]? = some a → Sim G a (vals.getD i undef)) :
    Rel ⟨G, w, H, k, []⟩ No G ⟨args ++ List.replicate (m - args.length) .dead, H, k⟩ { tmps := vals ++ Array.replicate (m - vals.size) undef, defers := [] } w := by
  refine ⟨by simp [hlen], fun t _ => ?_, rfl, hh, Step.refl _ _ _, hk, by rw [hbase]; exact Nat.le_refl _, Nat.le_refl _, fun id hid => .inl hid⟩
  rw [getA_eq]
  by_cases ht : t < args.length
  · have e1 : (args ++ List.replicate (m - args.length) AV.dead).getD t .dead = args[t] := by simp [List.getElem?_append, ht]
    have e2 : (vals ++ Array.replicate (m - vals.size) undef).getD t undef = vals.getD t undef := by
      have : t < vals.size := by omega
      rw [Array.getD_eq_getD_getElem?, Array.getElem?_append_left this, Array.getD_eq_getD_getElem?]
    rw [e1, e2]
    exact .of (hsim t _ (List.getElem?_eq_getElem ht))
  · have e1 : (args ++ List.replicate (m - args.length) AV.dead).getD t .dead = .dead := by
      rw [List.getD, List.getElem?_append_right (by omega), List.getElem?_replicate]
      split <;> rfl
    rw [e1]
    exact .of (.data _ _ (.dead _))
/-- from here on -/
theorem Rel.anew {G : Ghost} {σ : ASt} {a : Act} {w : World} (h : Rel B No G σ a w) : Rel ⟨G, w, σ.L, σ.next, B.D⟩ No G σ a w :=
  ⟨h.size, h.slots, h.defers, h.holds, Step.refl _ _ _, h.next, h.base, Nat.le_refl _, fun id hid => .inl hid⟩
theorem Rel.join {G2 G3 : Ghost} {σ τ : ASt} {a a3 : Act} {w w3 : World} {D : List Deferred} (h : Rel B No G2 σ a w) (h2 : Rel ⟨G2, w, σ.L, σ.next, D⟩ No G3 τ a3 w3) : Rel ⟨B.G, B.w, B.H, B.k, D⟩ No G3 τ a3 w3 :=
  ⟨h2.size, h2.slots, h2.defers, h2.holds, h.step.trans h2.step, h2.next, h2.base, Nat.le_trans h.low h2.low, fun id hid => (h2.old id hid).elim (h.old id) fun k => .inr (Nat.le_trans h.low k)⟩
theorem Rel.perm {G : Ghost} {s : List AV} {L L' : Heap} {n : Nat} {a : Act} {w : World} (hr : Rel B No G ⟨s, L, n⟩ a w) (hp : L.Perm L') : Rel B No G ⟨s, L', n⟩ a w :=
  ⟨hr.size, hr.slots, hr.defers, hr.holds.perm hp, hr.step.perm (.refl _) hp, hr.next, hr.base, hr.low, hr.old⟩
/-- values that do not speak of other names -/
def keepH (m : Nat) (H : Heap) : Prop := ∀ f : Nat → Nat, (∀ i, i < m → f i = i) → renH f H = H
def keepL (m : Nat) (l : List AV) : Prop := ∀ f : Nat → Nat, (∀ i, i < m → f i = i) → AV.renL f l = l
def idsTo (m j : Nat) : List Nat := List.range m ++ [j]
theorem idsTo_lt {m j n i : Nat} (h : i < m) : rn (idsTo m j) n i = i := by
  unfold rn idsTo
  rw [List.getElem?_append_left (by simpa using h)]
  simp [h]
theorem idsTo_at {m j n : Nat} : rn (idsTo m j) n m = j := by
  unfold rn idsTo
  rw [List.getElem?_append_right (by simp)]
  simp
theorem idsTo_nodup {m j : Nat} (h : m ≤ j) : (idsTo m j).Nodup := by
  unfold idsTo
  rw [List.nodup_append]
  refine ⟨List.nodup_range, by simp, fun a ha b hb => ?_⟩
  simp at ha hb
  omega
/-- a part that ends in one state, and what is shown from there on -/
def thenK (B : Base) (next : Act → World → Prop) : Kc := fun e s L n => e = .normal ∧ ∀ G' a' w', Rel B No G' ⟨s, L, n⟩ a' w' → next a' w'
theorem wp_then (hT : TOk P TT) {d : Nat → List Oper → List AV → Heap → Nat → Kc → Prop} (hD : DOk P d) {c : Code} {s : List AV} {L : Heap} {n : Nat} {G : Ghost} {a : Act} {w : World} {next : Act → World → Prop} {Q : Exit → Act → World → Prop}
    (hr : Rel B No G ⟨s, L, n⟩ a w) (h : acode P TT ⟨d, fun _ => False⟩ c s L n (thenK B next)) : c.wp P (Exit.then next Q) a w :=
  wp_mono (acode_sound0 hT hD c s L n _ G a w h hr) fun e a' w' ⟨e', s', L', n', G', k1, k2, k3⟩ => by
    obtain ⟨rfl, k1⟩ := k1
    cases e <;> first | exact k2.elim | exact k1 G' a' w' k3
/-- a call is put off -/
theorem defer_run {o : Oper} {c : Call} {x : Operand} {f : FuncId} {vs : Array Value} {ρ : Operand → Value} {w : World} (ho : o.op = .defer c) (hc : c.callee = .value x) (ha : c.args = #[]) (hx : ρ x = .func (.func f) #[] vs) :
    (execOp ρ o).run P w = .ok (.defer ⟨.fn (.func f) vs, #[]⟩) w := by
  simp only [execOp, ho, resolve, hc, hx, ha, Deferred.ofValue]
  simp [Sem.run_bind, Sem.run_pure, Result.andThen]
/-- one operation of a region -/
theorem wpL_at (hT : TOk P TT) {ops : Array Oper} {rest : List Oper} {o : Oper} {s : List AV} {L : Heap} {n : Nat} {G : Ghost} {a : Act} {w : World} {Q : Exit → Act → World → Prop} (hr : Rel B No G ⟨s, L, n⟩ a w) (hg : o.guard = none)
    (h : aop P TT o s L n (fun x L' n' => putD s o.dst x fun s' => ∀ G' a' w', Rel B No G' ⟨s', L', n'⟩ a' w' → wpList P ops Q rest a' w') (fun _ _ _ => False)) : wpList P ops Q (o :: rest) a w := by
  unfold wpList
  rw [if_pos (by simp [Region.wanted, hg])]
  refine .inl (aop_sound hT hr (fun _ _ h => h) h ⟨fun x L' n' v G' w' k1 k2 k3 k4 => ?_, fun _ _ _ _ _ _ k => k.elim⟩)
  simp only [putD_eq] at k1
  exact k1 G' _ w' ((k4.put o.dst k2).weakU fun t ht => ht.1)
theorem wpL_defer {ops : Array Oper} {rest : List Oper} {o : Oper} {c : Call} {x : Operand} {f : FuncId} {cap : List AV} {s : List AV} {L : Heap} {n : Nat} {G : Ghost} {a : Act} {w : World} {Q : Exit → Act → World → Prop} (hr : Rel B No G ⟨s, L, n⟩ a w) (hg : o.guard = none) (hd : o.dst = none)
    (ho : o.op = .defer c) (hc : c.callee = .value x) (ha : c.args = #[]) (hx : ev s x = .fn f cap)
    (hn : ∀ vs a', cap.length = vs.size → (∀ i b, cap[i]? = some b → Sim G b (vs.getD i undef)) → Rel ⟨B.G, B.w, B.H, B.k, ⟨.fn (.func f) vs, #[]⟩ :: B.D⟩ No G ⟨s, L, n⟩ a' w → wpList P ops Q rest a' w) : wpList P ops Q (o :: rest) a w := by
  unfold wpList
  rw [if_pos (by simp [Region.wanted, hg])]
  have h1 := (hr.op (x := x) (fun _ _ h => h)).1
  rw [hx] at h1
  obtain ⟨vs, h2, h3, h4⟩ := h1.fn_inv
  refine .inl ?_
  unfold Oper.wp
  rw [defer_run ho hc ha h2, Oper.upon_defer, hd]
  exact hn vs _ h3 h4 ⟨hr.size, hr.slots, by rw [← hr.defers]; rfl, hr.holds, hr.step, hr.next, hr.base, hr.low, hr.old⟩
end
end Go.Am
