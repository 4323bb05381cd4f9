/- Messages (chapter 16): what is read, in plain words. -/
import Derived.Test.YtdfnepbhgifkkaaMb
import Derived.Test.YtdfnepbhgifkkaaOcC
namespace Go.Proofs.Ytdfnepbhgifkkaa
open Go.Am
set_option linter.unusedSimpArgs false
set_option linter.unusedVariables false
set_option maxRecDepth 100000
def pB (l : List UInt8) : Option (Nat × List UInt8) := if 1 ≤ l.length then some (ubn (l.take 1) 0, l.drop 1) else none
def pN (l : List UInt8) : Option (Nat × List UInt8) := if 4 ≤ l.length then some (ubn (l.take 4) 0, l.drop 4) else none
instance (l : List UInt8) (m : Int) : Decidable (tOk l m) := by unfold tOk; infer_instance
def pT (l : List UInt8) : Option (List UInt8 × List UInt8) := if tOk l 1048576 then some ((l.drop 4).take (ubn (l.take 4) 0), (l.drop 4).drop (ubn (l.take 4) 0)) else none
def bnd {α β : Type} (o : Option (α × List UInt8)) (q : α → List UInt8 → Option β) : Option β := match o with
  | some (a, r) => q a r
  | none => none
theorem bnd_some {α β : Type} (a : α) (r : List UInt8) (q : α → List UInt8 → Option β) : bnd (some (a, r)) q = q a r := rfl
theorem bnd_none {α β : Type} (q : α → List UInt8 → Option β) : bnd none q = none := rfl
def pV1 (l : List UInt8) : Option (Vn × List UInt8) := bnd (pN l) fun s l => bnd (pN l) fun b l => bnd (pT l) fun v l => some (⟨s, b, v⟩, l)
def pV : Nat → List UInt8 → Option (List Vn × List UInt8)
  | 0, l => some ([], l)
  | n + 1, l => bnd (pV1 l) fun x l => bnd (pV n l) fun r l => some (x :: r, l)
def pM (l : List UInt8) : Option (Mn × List UInt8) :=
  bnd (pB l) fun k l => bnd (pB l) fun g l => bnd (pN l) fun f l => bnd (pN l) fun t l => bnd (pN l) fun bl l => bnd (pN l) fun s l => bnd (pB l) fun c l => bnd (pN l) fun q l => bnd (pT l) fun b l => bnd (pB l) fun n l => bnd (pV n l) fun vs l =>
    some (⟨k, g, f, t, bl, s, c, q, b, vs⟩, l)
/-- a reader that says the same with more behind -/
def Mono {α : Type} (p : List UInt8 → Option (α × List UInt8)) : Prop := ∀ l x r y, p l = some (x, r) → p (l ++ y) = some (x, r ++ y)
theorem Mono.bnd {α β : Type} {p : List UInt8 → Option (α × List UInt8)} {q : α → List UInt8 → Option (β × List UInt8)} (hp : Mono p) (hq : ∀ a, Mono (q a)) : Mono fun l => @Go.Proofs.Ytdfnepbhgifkkaa.bnd α (β × List UInt8) (p l) q := fun l x r y h => by
  simp only at h ⊢
  cases e : p l with
  | none => rw [e] at h; cases h
  | some a =>
    obtain ⟨a, r1⟩ := a
    rw [e] at h
    rw [hp l a r1 y e]
    exact hq a r1 x r y h
theorem Mono.ret {α : Type} (a : α) : Mono fun l => some (a, l) := fun l x r y h => by
  simp only [Option.some.injEq, Prod.mk.injEq] at h ⊢
  exact ⟨h.1, by rw [h.2]⟩
theorem pB_mono : Mono pB := fun l x r y h => by
  unfold pB at *
  split at h
  · rename_i hl
    simp only [Option.some.injEq, Prod.mk.injEq] at h
    rw [if_pos (by rw [List.length_append]; omega), List.take_append_of_le_length hl, List.drop_append_of_le_length hl, h.1, h.2]
  · cases h
theorem pN_mono : Mono pN := fun l x r y h => by
  unfold pN at *
  split at h
  · rename_i hl
    simp only [Option.some.injEq, Prod.mk.injEq] at h
    rw [if_pos (by rw [List.length_append]; omega), List.take_append_of_le_length hl, List.drop_append_of_le_length hl, h.1, h.2]
  · cases h
theorem pT_mono : Mono pT := fun l x r y h => by
  unfold pT at *
  split at h
  · rename_i hl
    obtain ⟨h1, h2, h3, h4⟩ := hl
    simp only [Option.some.injEq, Prod.mk.injEq] at h
    have e1 : (l ++ y).take 4 = l.take 4 := List.take_append_of_le_length h1
    have e2 : (l ++ y).drop 4 = l.drop 4 ++ y := List.drop_append_of_le_length h1
    have ht : tOk (l ++ y) 1048576 := ⟨by rw [List.length_append]; omega, by rw [e1]; exact h2, by rw [e1]; exact h3, by rw [e1, e2, List.length_append]; omega⟩
    rw [if_pos ht, e1, e2, List.take_append_of_le_length h4, List.drop_append_of_le_length h4, h.1, h.2]
  · cases h
theorem pV1_mono : Mono pV1 := pN_mono.bnd fun s => pN_mono.bnd fun b => pT_mono.bnd fun v => Mono.ret _
theorem pV_mono : ∀ n, Mono (pV n)
  | 0 => Mono.ret _
  | n + 1 => pV1_mono.bnd fun x => (pV_mono n).bnd fun r => Mono.ret _
theorem pM_mono : Mono pM := pB_mono.bnd fun k => pB_mono.bnd fun g => pN_mono.bnd fun f => pN_mono.bnd fun t => pN_mono.bnd fun bl => pN_mono.bnd fun s => pB_mono.bnd fun c => pN_mono.bnd fun q => pT_mono.bnd fun b => pB_mono.bnd fun n => (pV_mono n).bnd fun vs => Mono.ret _
/-! what was written is read -/
theorem pB_enc {x : Nat} (h : x < 256) (r : List UInt8) : pB ([UInt8.ofNat x] ++ r) = some (x, r) := by
  unfold pB
  rw [if_pos (by simp)]
  have : ubn (([UInt8.ofNat x] ++ r).take 1) 0 = x := by
    simp [ubn]
    omega
  rw [this]; rfl
theorem pN_enc {x : Nat} (h : x < 4294967296) (r : List UInt8) : pN (be x 4 ++ r) = some (x, r) := by
  unfold pN
  rw [if_pos (by simp [be_len]), back_be _ 4 _ (by omega), drop_be]
theorem pT_enc {b : List UInt8} (h : b.length ≤ 1048576) (r : List UInt8) : pT (be b.length 4 ++ b ++ r) = some (b, r) := by
  unfold pT
  rw [List.append_assoc]
  have hf : tOk (be b.length 4 ++ (b ++ r)) 1048576 := by
    refine ⟨by simp [be_len], ?_, fun h => ?_, ?_⟩
    · rw [back_be _ 4 _ (by omega)]; omega
    · rw [back_be _ 4 _ (by omega)]; omega
    · rw [back_be _ 4 _ (by omega), drop_be]; simp
  rw [if_pos hf, back_be _ 4 _ (by omega), drop_be, List.take_append_of_le_length (Nat.le_refl _), List.take_length, List.drop_append_of_le_length (Nat.le_refl _), List.drop_length, List.nil_append]
theorem pV1_enc {x : Vn} (h : x.Ok) (r : List UInt8) : pV1 (encVn x ++ r) = some (x, r) := by
  obtain ⟨h1, h2, h3⟩ := h
  unfold pV1 encVn
  rw [List.append_assoc, pN_enc (by omega)]
  simp only [bnd_some]
  rw [List.append_assoc, pN_enc (by omega)]
  simp only [bnd_some]
  rw [pT_enc h3]
  rfl
theorem pV_enc : ∀ {l : List Vn}, (∀ x ∈ l, x.Ok) → ∀ r, pV l.length (encVs l ++ r) = some (l, r)
  | [], _, r => rfl
  | x :: l, h, r => by
    rw [encVs, List.length_cons, pV]
    rw [List.append_assoc, pV1_enc (h x List.mem_cons_self)]
    simp only [bnd_some]
    rw [pV_enc fun y hy => h y (List.mem_cons_of_mem _ hy)]
    rfl
theorem pM_enc {m : Mn} (h : m.Ok) (r : List UInt8) : pM (encM m ++ r) = some (m, r) := by
  have hv := pV_enc h.votes r
  obtain ⟨kd, g, f, t, bl, s, c, q, b, l⟩ := m
  obtain ⟨o1, o2, o3, o4, o5, o6, o7, o8, o9, o10, o11⟩ := h
  simp only at *
  unfold pM encM encH
  have e : ∀ (a b : UInt8) (l : List UInt8), [a, b] ++ l = [a] ++ ([b] ++ l) := fun _ _ _ => rfl
  simp only [List.append_assoc, e]
  rw [pB_enc (by omega)]
  simp only [bnd_some]
  rw [pB_enc (by omega)]
  simp only [bnd_some]
  rw [pN_enc (by omega)]
  simp only [bnd_some]
  rw [pN_enc (by omega)]
  simp only [bnd_some]
  rw [pN_enc (by omega)]
  simp only [bnd_some]
  rw [pN_enc (by omega)]
  simp only [bnd_some]
  rw [pB_enc (by omega)]
  simp only [bnd_some]
  rw [pN_enc (by omega)]
  simp only [bnd_some]
  rw [← List.append_assoc (be b.length 4), pT_enc o9]
  simp only [bnd_some]
  rw [pB_enc (by omega)]
  simp only [bnd_some]
  rw [hv]
  rfl
/-- a beginning of a message is none -/
theorem pM_cut {m : Mn} (h : m.Ok) (n : Nat) (hn : n < (encM m).length) : ∀ m', pM ((encM m).take n) ≠ some (m', []) := fun m' hm => by
  have h1 := pM_mono _ _ _ ((encM m).drop n) hm
  rw [List.take_append_drop, List.nil_append] at h1
  have h2 := pM_enc h []
  rw [List.append_nil, h1] at h2
  simp only [Option.some.injEq, Prod.mk.injEq] at h2
  have h3 := congrArg List.length h2.2
  rw [List.length_drop, List.length_nil] at h3
  omega
/-- one with more behind it is none -/
theorem pM_more {m : Mn} (h : m.Ok) (c : UInt8) : ∀ m', pM (encM m ++ [c]) ≠ some (m', []) := fun m' hm => by
  rw [pM_enc h] at hm
  simp only [Option.some.injEq, Prod.mk.injEq] at hm
  cases hm.2
end Go.Proofs.Ytdfnepbhgifkkaa
