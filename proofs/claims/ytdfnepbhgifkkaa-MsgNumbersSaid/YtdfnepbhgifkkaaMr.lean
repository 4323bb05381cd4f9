/- Messages held against one another: what both sides have. -/
import Derived.Test.YtdfnepbhgifkkaaMb
import Derived.Laws.Strings
namespace Go.Am
set_option linter.unusedVariables false
def forceO : List Oper → (List Oper → Prop) → Prop
  | [], k => k []
  | o :: os, k => forceO os fun l => k (o :: l)
theorem forceO_eq : ∀ (l : List Oper) (k : List Oper → Prop), forceO l k = k l
  | [], k => rfl
  | o :: os, k => forceO_eq os _
/-- a long region's operations, one by one -/
theorem aops_F {P : Program} {TT : Types} {s : List AV} {L : Heap} {n : Nat} {K : Kn} {KP : AV → Kn} {l l' : List Oper} (hf : ∀ k : List Oper → Prop, k l' → forceO l k) (h : aops P TT l' l' s L n K KP) : aops P TT l l s L n K KP := by
  have := hf (fun l => aops P TT l l s L n K KP) h
  rwa [forceO_eq] at this
end Go.Am
namespace Go.Proofs.Ytdfnepbhgifkkaa
open Go.Am
set_option linter.unusedSimpArgs false
set_option linter.unusedVariables false
set_option maxRecDepth 100000

/-- what tells whether two are the same -/
abbrev sayR (p : Prop) (out : AOut) (H' : Heap) : Prop := ∃ r : Bool, (r = true ↔ p) ∧ out = .ret (.v (.bool r)) ∧ H' = []
theorem between_c (n lo hi : Int) : ACalls Try.prog 92 0 0 [.v (.int .i64 n), .v (.int .i64 lo), .v (.int .i64 hi)] [] (fun out H' => out = .ret (.v (.bool (inB n lo hi))) ∧ H' = []) := by
  refine acalls_of tok dok (f := 92) ⟨Try.func92, rfl, by kernel_rfl⟩ ?_; refine c_start (fun _ h => h) ?_
  repeat' (first | (refine awd1 ?_) | (((with_reducible refine is_aops ?_); refine o_split rfl rfl rfl (fun hc => ?_) (fun hc => ?_) <;> rw [hc])) | (((with_reducible refine is_cond ?_); refine c_cond rfl (fun hc => ?_) (fun hc => ?_))) | (((with_reducible refine is_aop ?_); refine a_pick rfl rfl (fun hc => ?_) (fun hc => ?_) <;> rw [hc])) | fail)
  all_goals
    refine e_ret (H' := []) (rest := _) rfl ⟨congrArg (fun z => AOut.ret (.v (.bool z))) ?_, rfl⟩ (.refl _) (Nat.le_of_ble_eq_true rfl)
    unfold inB
    simp only [decide_eq_true_eq, decide_eq_false_iff_not, ge_iff_le] at *
    first | (simp; omega) | (simp; done) | omega
theorem vsame_c (x y : Vt) : ACalls Try.prog 60 0 10 [.agg (vtrow x), .agg (vtrow y)] [] (sayR (x = y)) := by
  obtain ⟨s, b, v⟩ := x
  obtain ⟨s', b', v'⟩ := y
  refine acalls_of tok dok (f := 60) ⟨Try.func60, rfl, by kernel_rfl⟩ ?_; refine c_start (fun _ h => h) ?_
  repeat' (first | (refine awd1 ?_) | (((with_reducible refine is_aops ?_); refine o_split rfl rfl rfl (fun hc => ?_) (fun hc => ?_) <;> rw [hc])) | (((with_reducible refine is_cond ?_); refine c_cond rfl (fun hc => ?_) (fun hc => ?_))) | (((with_reducible refine is_aop ?_); refine a_pick rfl rfl (fun hc => ?_) (fun hc => ?_) <;> rw [hc])) | fail)
  all_goals
    refine e_ret (H' := []) (rest := _) rfl ⟨_, ?_, rfl, rfl⟩ (.refl _) (Nat.le_of_ble_eq_true rfl)
    simp_all
theorem take_next {α : Type} {l m : List α} {i : Nat} {u v : α} (h : l.take i = m.take i) (hu : l[i]? = some u) (hv : m[i]? = some v) (e : u = v) : l.take (i + 1) = m.take (i + 1) := by
  rw [List.take_add_one, List.take_add_one, h, hu, hv, e]
theorem vtx {l : List Vt} {i : Nat} {u : Vt} (h : l[i]? = some u) : 0 ≤ (i : Int) ∧ (l.map vtrow)[(i : Int).toNat]? = some (vtrow u) ∧ (vtrow u).length = 3 := ⟨Int.natCast_nonneg _, (by rw [Int.toNat_natCast, List.getElem?_map, h]; rfl), rfl⟩
end Go.Proofs.Ytdfnepbhgifkkaa
