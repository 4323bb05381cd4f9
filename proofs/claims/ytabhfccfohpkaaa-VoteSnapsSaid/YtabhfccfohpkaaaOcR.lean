/- The reader as a parser. -/
import Derived.Test.YtabhfccfohpkaaaOcC
namespace Go.Proofs.Ytabhfccfohpkaaa
open Go.Am
set_option linter.unusedSimpArgs false
set_option linter.unusedVariables false
set_option maxRecDepth 100000
def pB (l : List UInt8) : Option (Nat × List UInt8) := if 1 ≤ l.length then some (ubn (l.take 1) 0, l.drop 1) else none
def pN (l : List UInt8) : Option (Nat × List UInt8) := if 4 ≤ l.length then some (ubn (l.take 4) 0, l.drop 4) else none
instance (l : List UInt8) (m : Int) : Decidable (tOk l m) := by unfold tOk; infer_instance
def pT (l : List UInt8) : Option (List UInt8 × List UInt8) := if tOk l 1048576 then some ((l.drop 4).take (ubn (l.take 4) 0), (l.drop 4).drop (ubn (l.take 4) 0)) else none
def bnd {α β : Type} (o : Option (α × List UInt8)) (q : α → List UInt8 → Option β) : Option β := match o with
  | some (a, r) => q a r
  | none => none
theorem bnd_some {α β : Type} (a : α) (r : List UInt8) (q : α → List UInt8 → Option β) : bnd (some (a, r)) q = q a r := rfl
theorem bnd_none {α β : Type} (q : α → List UInt8 → Option β) : bnd none q = none := rfl
/-- a reader that says the same with more behind -/
def Mono {α : Type} (p : List UInt8 → Option (α × List UInt8)) : Prop := ∀ l x r y, p l = some (x, r) → p (l ++ y) = some (x, r ++ y)
theorem Mono.bnd {α β : Type} {p : List UInt8 → Option (α × List UInt8)} {q : α → List UInt8 → Option (β × List UInt8)} (hp : Mono p) (hq : ∀ a, Mono (q a)) : Mono fun l => @Go.Proofs.Ytabhfccfohpkaaa.bnd α (β × List UInt8) (p l) q := fun l x r y h => by
  simp only at h ⊢
  cases e : p l with
  | none => rw [e] at h; cases h
  | some a =>
    obtain ⟨a, r1⟩ := a
    rw [e] at h
    rw [hp l a r1 y e]
    exact hq a r1 x r y h
theorem Mono.ret {α : Type} (a : α) : Mono fun l => some (a, l) := fun l x r y h => by
  simp only [Option.some.injEq, Prod.mk.injEq] at h ⊢
  exact ⟨h.1, by rw [h.2]⟩
theorem pB_mono : Mono pB := fun l x r y h => by
  unfold pB at *
  split at h
  · rename_i hl
    simp only [Option.some.injEq, Prod.mk.injEq] at h
    rw [if_pos (by rw [List.length_append]; omega), List.take_append_of_le_length hl, List.drop_append_of_le_length hl, h.1, h.2]
  · cases h
theorem pN_mono : Mono pN := fun l x r y h => by
  unfold pN at *
  split at h
  · rename_i hl
    simp only [Option.some.injEq, Prod.mk.injEq] at h
    rw [if_pos (by rw [List.length_append]; omega), List.take_append_of_le_length hl, List.drop_append_of_le_length hl, h.1, h.2]
  · cases h
theorem pT_mono : Mono pT := fun l x r y h => by
  unfold pT at *
  split at h
  · rename_i hl
    obtain ⟨h1, h2, h3, h4⟩ := hl
    simp only [Option.some.injEq, Prod.mk.injEq] at h
    have e1 : (l ++ y).take 4 = l.take 4 := List.take_append_of_le_length h1
    have e2 : (l ++ y).drop 4 = l.drop 4 ++ y := List.drop_append_of_le_length h1
    have ht : tOk (l ++ y) 1048576 := ⟨by rw [List.length_append]; omega, by rw [e1]; exact h2, by rw [e1]; exact h3, by rw [e1, e2, List.length_append]; omega⟩
    rw [if_pos ht, e1, e2, List.take_append_of_le_length h4, List.drop_append_of_le_length h4, h.1, h.2]
  · cases h
theorem pB_enc {x : Nat} (h : x < 256) (r : List UInt8) : pB ([UInt8.ofNat x] ++ r) = some (x, r) := by
  unfold pB
  rw [if_pos (by simp)]
  have : ubn (([UInt8.ofNat x] ++ r).take 1) 0 = x := by
    simp [ubn]
    omega
  rw [this]; rfl
theorem pN_enc {x : Nat} (h : x < 4294967296) (r : List UInt8) : pN (be x 4 ++ r) = some (x, r) := by
  unfold pN
  rw [if_pos (by simp [be_len]), back_be _ 4 _ (by omega), drop_be]
theorem pT_enc {b : List UInt8} (h : b.length ≤ 1048576) (r : List UInt8) : pT (be b.length 4 ++ b ++ r) = some (b, r) := by
  unfold pT
  rw [List.append_assoc]
  have hf : tOk (be b.length 4 ++ (b ++ r)) 1048576 := by
    refine ⟨by simp [be_len], ?_, fun h => ?_, ?_⟩
    · rw [back_be _ 4 _ (by omega)]; omega
    · rw [back_be _ 4 _ (by omega)]; omega
    · rw [back_be _ 4 _ (by omega), drop_be]; simp
  rw [if_pos hf, back_be _ 4 _ (by omega), drop_be, List.take_append_of_le_length (Nat.le_refl _), List.take_length, List.drop_append_of_le_length (Nat.le_refl _), List.drop_length, List.nil_append]
theorem rB_c (l : List UInt8) (h : l.length < 70368744177664) : ACalls Try.prog 103 1 2 [.ptr 0 0] (rd l) (fun out H' => (∃ x r, pB l = some (x, r) ∧ (x < 256 ∧ r.length ≤ l.length) ∧ out = .ret (.v (.int .u8 (x : Int))) ∧ H' = rd r) ∨ (pB l = none ∧ out = gone ∧ H' = [])) :=
  (rByte_c l h).mono fun o H' hh => by
    unfold pB
    rcases hh with ⟨h1, h2, h3⟩ | ⟨h1, h2, h3⟩
    · refine .inl ⟨_, _, if_pos h1, ⟨?_, ?_⟩, h2, h3⟩
      · have := ubn_take l 1; omega
      · rw [List.length_drop]; omega
    · exact .inr ⟨if_neg (by omega), h2, h3⟩
theorem rN_c (l : List UInt8) (h : l.length < 70368744177664) : ACalls Try.prog 104 1 2 [.ptr 0 0] (rd l) (fun out H' => (∃ x r, pN l = some (x, r) ∧ (x < 4294967296 ∧ r.length ≤ l.length) ∧ out = .ret (.v (.int .u32 (x : Int))) ∧ H' = rd r) ∨ (pN l = none ∧ out = gone ∧ H' = [])) :=
  (rNum_c l h).mono fun o H' hh => by
    unfold pN
    rcases hh with ⟨h1, h2, h3⟩ | ⟨h1, h2, h3⟩
    · refine .inl ⟨_, _, if_pos h1, ⟨?_, ?_⟩, h2, h3⟩
      · have := ubn_take l 4; omega
      · rw [List.length_drop]; omega
    · exact .inr ⟨if_neg (by omega), h2, h3⟩
theorem rT_c (l : List UInt8) (h : l.length < 70368744177664) : ACalls Try.prog 106 1 3 [.ptr 0 0, .v (.int .i64 1048576)] (rd l) (fun out H' => (∃ x r, pT l = some (x, r) ∧ (x.length ≤ 1048576 ∧ r.length ≤ l.length) ∧ out = .ret (.list (x.map brow) .free) ∧ H' = rd r) ∨ (pT l = none ∧ out = gone ∧ H' = [])) :=
  (rText_c l 1048576 h).mono fun o H' hh => by
    unfold pT
    rcases hh with ⟨h1, h2, h3⟩ | ⟨h1, h2, h3⟩
    · refine .inl ⟨_, _, if_pos h1, ⟨?_, ?_⟩, h2, h3⟩
      · obtain ⟨_, h4, _⟩ := h1
        rw [List.length_take]; omega
      · rw [List.length_drop, List.length_drop]; omega
    · exact .inr ⟨if_neg h1, h2, h3⟩
end Go.Proofs.Ytabhfccfohpkaaa
