/- Part 14 of what the laws ChangeNumbers rest on: ChC, Vi, RyA, OcR, RyC, Vj, RyD, RyB, RyE, RyF, CtA, ChD, ChG. -/
import Derived.Test.YtncffhgoopdfgaaGreatP13
set_option linter.unusedSimpArgs false
set_option linter.unusedVariables false
namespace Go.Proofs.YtncffhgoopdfgaaGreat
open Go.Am
set_option maxRecDepth 100000
def askC (k : Int) : Bool × Bool × Bool × Bool := if k = 1 ∨ k = 5 then (true, true, true, true) else if k = 2 then (true, true, false, true) else if k = 3 then (true, false, false, true) else if k = 4 then (false, false, false, true) else (false, false, false, false)
theorem asks_c (k : Int) : ACalls Tryz.prog 144 0 0 [.v (.int .i64 k)] [] (fun out H' => out = .ret (.tuple [.v (.bool (askC k).1), .v (.bool (askC k).2.1), .v (.bool (askC k).2.2.1), .v (.bool (askC k).2.2.2)]) ∧ H' = []) := by
 have hk : k = 1 ∨ k = 2 ∨ k = 3 ∨ k = 4 ∨ k = 5 ∨ (k < 1 ∨ 5 < k) := by omega
 rcases hk with hk | hk | hk | hk | hk | hk
 all_goals
  have ha : askC k = askC k := rfl
  conv at ha => rhs; unfold askC
  first
   | rw [if_pos (by omega)] at ha
   | rw [if_neg (by omega), if_pos (by omega)] at ha
   | rw [if_neg (by omega), if_neg (by omega), if_pos (by omega)] at ha
   | rw [if_neg (by omega), if_neg (by omega), if_neg (by omega), if_pos (by omega)] at ha
   | rw [if_neg (by omega), if_neg (by omega), if_neg (by omega), if_neg (by omega)] at ha
  rw [ha]
  refine no_implicit_lambda% (acalls_of tok dok (f := 144) ⟨Tryz.func144, rfl, by kernel_rfl⟩ ?_); refine no_implicit_lambda% (c_start (fun _ h => h) ?_)
  repeat' (first | (refine no_implicit_lambda% (zH ?_)) | (refine no_implicit_lambda% (spl (fun hc => ?_) (fun hc => ?_)) <;> first | exact zG hc | skip) | (refine no_implicit_lambda% (ans ?_)) | (with_reducible first | exact zI | exact zJ))
  all_goals exact e_ret (H' := []) (rest := _) rfl ⟨rfl, rfl⟩ permT (LE0 rfl)
set_option maxHeartbeats 6400000 in
theorem right5_c (x : Ch) : ACalls Tryz.prog 70 0 50 [.agg (chrow x)] [] (fun out H' => out = .ret (.v (.int .i64 (rightC x))) ∧ H' = []) := by
 have h1 := name_c x.c
 have h2 : ACalls Tryz.prog 145 0 10 [vav x.v] [] (fun out H' => out = .ret (.v (.bool (vRt x.v))) ∧ H' = []) := vright_c x.v
 have h0 := asks_c x.k
 have hk : x.k = 1 ∨ x.k = 2 ∨ x.k = 3 ∨ x.k = 4 ∨ x.k = 5 ∨ (x.k < 1 ∨ 5 < x.k) := by omega
 rcases hk with hk | hk | hk | hk | hk | hk
 all_goals
  have ha : askC x.k = askC x.k := rfl
  conv at ha => rhs; unfold askC
  first
   | rw [if_pos (by omega)] at ha
   | rw [if_neg (by omega), if_pos (by omega)] at ha
   | rw [if_neg (by omega), if_neg (by omega), if_pos (by omega)] at ha
   | rw [if_neg (by omega), if_neg (by omega), if_neg (by omega), if_pos (by omega)] at ha
   | rw [if_neg (by omega), if_neg (by omega), if_neg (by omega), if_neg (by omega)] at ha
  rw [ha] at h0
  dsimp only at h0
  refine no_implicit_lambda% (acalls_of tok dok (f := 70) ⟨Tryz.func70, rfl, by kernel_rfl⟩ ?_); refine no_implicit_lambda% (c_start (fun _ h => h) ?_)
  repeat' (first | (refine no_implicit_lambda% (zH ?_)) | (refine no_implicit_lambda% (spl (fun hc => ?_) (fun hc => ?_)) <;> first | exact zG hc | skip) | (refine no_implicit_lambda% (ans ?_)) | (with_reducible first | exact zI | exact zJ) | (refine no_implicit_lambda% (cal [] (h0) ?_ ?_)) | (refine no_implicit_lambda% (cal [] (h1) ?_ ?_)) | (refine no_implicit_lambda% (cal [] (h2) ?_ ?_)) | fail)
  all_goals
   refine e_ret (H' := []) (rest := _) rfl ⟨congrArg (fun z => AOut.ret (.v (.int .i64 z))) ?_, rfl⟩ permT (LE0 rfl)
   clear h0 h1 h2 ha
   unfold rightC tmOk
   simp only [decide_eq_true_eq, decide_eq_false_iff_not, beq_iff_eq, beq_eq_false_iff_ne, bne_iff_ne, bne_eq_false_iff_eq, Bool.not_eq_true', Bool.not_eq_false', ne_eq] at *
   repeat' split
   all_goals first | rfl | (exfalso; omega) | (exfalso; simp_all; done) | (exfalso; simp_all; omega)
end Go.Proofs.YtncffhgoopdfgaaGreat
namespace Go.Proofs.YtncffhgoopdfgaaGreat
open Go.Am
set_option maxRecDepth 100000
def encA (v : Va) : List UInt8 := if v.kind = 1 then 1 :: (be v.b.length 4 ++ v.b) else if v.kind = 2 then 2 :: be (canonB v.n) 8 else [0]
theorem k_ne {k c : Int} (h : ¬ k = c) : (k == c) = false := by simpa using h
theorem putA_w (v : Va) (hb : v.kind = 1 → v.b.length ≤ 20) (hn : v.n < 18446744073709551616) (l : List UInt8) (hl : l.length < 100000000) : ACalls Tryz.prog 147 2 10 [.ptr 0 0, vav v] (wr l) (fun out H' => out = .ret (.tuple []) ∧ H' = wr (l ++ encA v)) := by
 obtain ⟨kd, b, n⟩ := v
 simp only at hb hn
 by_cases h1 : kd = 1
 ·subst h1
  replace hb := hb rfl
  have ee : l ++ encA ⟨1, b, n⟩ = l ++ [1] ++ (be b.length 4 ++ b) := by simp [encA]
  rw [ee]
  have hT := text_c (l ++ [1]) b (by omega) (by simp; omega)
  rw [if_pos (show b.length ≤ 1048576 by omega)] at hT
  refine no_implicit_lambda% (acalls_of tok dok (f := 147) ⟨Tryz.func147, rfl, by kernel_rfl⟩ ?_); refine no_implicit_lambda% (c_start (fun _ h => h) ?_)
  refine no_implicit_lambda% (awd ?_)
  refine no_implicit_lambda% (cal [0, 1] (byte_c l 1 (by omega)) ?_ ?_)
  ·refine no_implicit_lambda% (ret1 ?_); first | (refine no_implicit_lambda% (akc ?_)) | (refine no_implicit_lambda% (aec ?_))
   refine no_implicit_lambda% (awd ?_)
   refine no_implicit_lambda% (cal [0, 1] (hT) ?_ ?_)
   ·refine no_implicit_lambda% (ret1 ?_); first | (refine no_implicit_lambda% (akc ?_)) | (refine no_implicit_lambda% (aec ?_))
    refine no_implicit_lambda% (awd ?_)
    exact e_ret (H' := wr (l ++ [1] ++ (be b.length 4 ++ b))) (rest := _) rfl ⟨rfl, rfl⟩ (.of_eq rfl) (LE0 rfl)
   ·first | (exact zI) | (exact zJ)
  ·first | (exact zI) | (exact zJ)
 ·by_cases h2 : kd = 2
  ·subst h2
   have ee : l ++ encA ⟨2, b, n⟩ = l ++ [2] ++ be (canonB n) 8 := by simp [encA]
   rw [ee]
   refine no_implicit_lambda% (acalls_of tok dok (f := 147) ⟨Tryz.func147, rfl, by kernel_rfl⟩ ?_); refine no_implicit_lambda% (c_start (fun _ h => h) ?_)
   refine no_implicit_lambda% (awd ?_)
   refine no_implicit_lambda% (cal [0, 1] (byte_c l 2 (by omega)) ?_ ?_)
   ·refine no_implicit_lambda% (ret1 ?_); first | (refine no_implicit_lambda% (akc ?_)) | (refine no_implicit_lambda% (aec ?_))
    refine no_implicit_lambda% (awd ?_)
    refine no_implicit_lambda% (cal [0, 1] (float_c (l ++ [2]) n hn (by simp; omega)) ?_ ?_)
    ·refine no_implicit_lambda% (ret1 ?_); first | (refine no_implicit_lambda% (akc ?_)) | (refine no_implicit_lambda% (aec ?_))
     refine no_implicit_lambda% (awd ?_)
     exact e_ret (H' := wr (l ++ [2] ++ be (canonB n) 8)) (rest := _) rfl ⟨rfl, rfl⟩ (.of_eq rfl) (LE0 rfl)
    ·first | (exact zI) | (exact zJ)
   ·first | (exact zI) | (exact zJ)
  ·have ee : l ++ encA ⟨kd, b, n⟩ = l ++ [0] := by simp [encA, h1, h2]
   rw [ee]
   have e1 := k_ne h1
   have e2 := k_ne h2
   refine no_implicit_lambda% (acalls_of tok dok (f := 147) ⟨Tryz.func147, rfl, by kernel_rfl⟩ ?_); refine no_implicit_lambda% (c_start (fun _ h => h) ?_)
   repeat' (first | (refine no_implicit_lambda% (zH ?_)) | (((with_reducible refine no_implicit_lambda% (zA ?_)); refine no_implicit_lambda% (zD rfl rfl rfl (fun hc => ?_) (fun hc => ?_)) <;> rw [hc])) | (((with_reducible refine no_implicit_lambda% (zB ?_)); refine no_implicit_lambda% (zE rfl (fun hc => ?_) (fun hc => ?_)))) | (((with_reducible refine no_implicit_lambda% (zC ?_)); refine no_implicit_lambda% (zF rfl rfl (fun hc => ?_) (fun hc => ?_)) <;> rw [hc])) | fail)
   ·rw [e1] at hc; cases hc
   ·rw [e2] at hc; cases hc
   ·refine no_implicit_lambda% (cal [0, 1] (byte_c l 0 (by omega)) ?_ ?_)
    ·refine no_implicit_lambda% (ret1 ?_); first | (refine no_implicit_lambda% (akc ?_)) | (refine no_implicit_lambda% (aec ?_))
     refine no_implicit_lambda% (awd ?_)
     exact e_ret (H' := wr (l ++ [0])) (rest := _) rfl ⟨rfl, rfl⟩ (.of_eq rfl) (LE0 rfl)
    ·first | (exact zI) | (exact zJ)
def GV (b : List UInt8) (v : Va) (r : List UInt8) : Prop :=
 1 ≤ b.length ∧ ((ubn (b.take 1) 0 = 1 ∧ tOk (b.drop 1) 16 ∧ v = ⟨1, ((b.drop 1).drop 4).take (ubn ((b.drop 1).take 4) 0), 0⟩ ∧ r = ((b.drop 1).drop 4).drop (ubn ((b.drop 1).take 4) 0)) ∨
  (ubn (b.take 1) 0 = 2 ∧ fOk (b.drop 1) ∧ v = ⟨2, [], ubn ((b.drop 1).take 8) 0⟩ ∧ r = (b.drop 1).drop 8))
theorem GV.fn {b : List UInt8} {v v' : Va} {r r' : List UInt8} (h : GV b v r) (h' : GV b v' r') : v = v' ∧ r = r' := by
 obtain ⟨_, ⟨h1, _, rfl, rfl⟩ | ⟨h1, _, rfl, rfl⟩⟩ := h <;> obtain ⟨_, ⟨h2, _, rfl, rfl⟩ | ⟨h2, _, rfl, rfl⟩⟩ := h'
 ·exact ⟨rfl, rfl⟩
 ·omega
 ·omega
 ·exact ⟨rfl, rfl⟩
theorem GV.n {b : List UInt8} {v : Va} {r : List UInt8} (h : GV b v r) : v.n < 18446744073709551616 := by
 obtain ⟨_, ⟨h1, _, rfl, rfl⟩ | ⟨h1, _, rfl, rfl⟩⟩ := h
 ·show 0 < _; decide
 ·exact ubn_take _ 8
theorem getA_c (b : List UInt8) (hb : b.length < 100000000) : ACalls Tryz.prog 152 1 20 [.ptr 0 0] (rd b) (fun out H' => (∃ v r, GV b v r ∧ out = .ret (vav v) ∧ H' = rd r) ∨ ((∀ v r, ¬ GV b v r) ∧ out = gone ∧ H' = [])) := by
 have hC := rByte_c b (by omega)
 have hT := rText_c (b.drop 1) 16 (by simp; omega)
 have hF := rFloat_c (b.drop 1) (by simp; omega)
 have g1 : tOk (b.drop 1) 16 → 1 ≤ b.length → ubn (b.take 1) 0 = 1 → GV b ⟨1, ((b.drop 1).drop 4).take (ubn ((b.drop 1).take 4) 0), 0⟩ (((b.drop 1).drop 4).drop (ubn ((b.drop 1).take 4) 0)) := fun h1 h2 h3 => ⟨h2, .inl ⟨h3, h1, rfl, rfl⟩⟩
 have g2 : fOk (b.drop 1) → 1 ≤ b.length → ubn (b.take 1) 0 = 2 → GV b ⟨2, [], ubn ((b.drop 1).take 8) 0⟩ ((b.drop 1).drop 8) := fun h1 h2 h3 => ⟨h2, .inr ⟨h3, h1, rfl, rfl⟩⟩
 have n1 : ¬ tOk (b.drop 1) 16 → ubn (b.take 1) 0 = 1 → ∀ v r, ¬ GV b v r := fun h1 h2 v r h => by
  obtain ⟨_, ⟨_, h4, _⟩ | ⟨h4, _⟩⟩ := h
  ·exact h1 h4
  ·omega
 have n2 : ¬ fOk (b.drop 1) → ubn (b.take 1) 0 = 2 → ∀ v r, ¬ GV b v r := fun h1 h2 v r h => by
  obtain ⟨_, ⟨h4, _⟩ | ⟨_, h4, _⟩⟩ := h
  ·omega
  ·exact h1 h4
 have n3 : ¬ ubn (b.take 1) 0 = 1 → ¬ ubn (b.take 1) 0 = 2 → ∀ v r, ¬ GV b v r := fun h1 h2 v r h => by
  obtain ⟨_, ⟨h4, _⟩ | ⟨h4, _⟩⟩ := h <;> omega
 have n0 : b.length < 1 → ∀ v r, ¬ GV b v r := fun h1 v r h => by
  have := h.1; omega
 have hk := ubn_take b 1
 generalize ubn (b.take 1) 0 = k at *
 generalize ((b.drop 1).drop 4).take (ubn ((b.drop 1).take 4) 0) = tx at *
 generalize ((b.drop 1).drop 4).drop (ubn ((b.drop 1).take 4) 0) = r1 at *
 generalize ubn ((b.drop 1).take 8) 0 = x at *
 generalize (b.drop 1).drop 8 = r2 at *
 have hkk : IntKind.i64.wrap (k : Int) = (k : Int) := by rw [IntKind.wrap_i64]; omega
 refine no_implicit_lambda% (acalls_of tok dok (f := 152) ⟨Tryz.func152, rfl, by kernel_rfl⟩ ?_); refine no_implicit_lambda% (c_start (fun _ h => h) ?_)
 refine no_implicit_lambda% (awd ?_)
 refine no_implicit_lambda% (cal [0] (hC) ?_ ?_)
 ·intro x H' h; rcases h with ⟨hg, h1, h2⟩ | ⟨hg, h1, h2⟩ <;> first | (cases h1; done) | (cases h1; subst h2)
  first | (refine no_implicit_lambda% (akc ?_)) | (refine no_implicit_lambda% (aec ?_))
  refine no_implicit_lambda% (awd ?_)
  rw [hkk]
  repeat' (first | (refine no_implicit_lambda% (zH ?_)) | (((with_reducible refine no_implicit_lambda% (zA ?_)); refine no_implicit_lambda% (zD rfl rfl rfl (fun hc => ?_) (fun hc => ?_)) <;> rw [hc])) | (((with_reducible refine no_implicit_lambda% (zB ?_)); refine no_implicit_lambda% (zE rfl (fun hc => ?_) (fun hc => ?_)))) | (((with_reducible refine no_implicit_lambda% (zC ?_)); refine no_implicit_lambda% (zF rfl rfl (fun hc => ?_) (fun hc => ?_)) <;> rw [hc])) | fail)
  ·obtain rfl : k = 1 := by simp at hc; omega
   refine no_implicit_lambda% (cal [0] (hT) ?_ ?_)
   ·intro x H' h; rcases h with ⟨hg, h1, h2⟩ | ⟨hg, h1, h2⟩ <;> first | (cases h1; done) | (cases h1; subst h2)
    first | (refine no_implicit_lambda% (akc ?_)) | (refine no_implicit_lambda% (aec ?_))
    refine no_implicit_lambda% (awd ?_)
    exact e_ret (H' := rd r1) (rest := _) rfl (.inl ⟨_, _, g1 hg (by assumption) rfl, rfl, rfl⟩) (.of_eq rfl) (LE0 rfl)
   ·intro x H' h; rcases h with ⟨hg, h1, h2⟩ | ⟨hg, h1, h2⟩ <;> first | (cases h1; done) | (cases h1; subst h2)
    refine no_implicit_lambda% (awd ?_)
    exact e_pan (H' := []) (rest := _) (.inr ⟨n1 hg rfl, rfl, rfl⟩) (.refl _) (LE0 rfl)
  ·obtain rfl : k = 2 := by simp at hc; omega
   refine no_implicit_lambda% (cal [0] (hF) ?_ ?_)
   ·intro x H' h; rcases h with ⟨hg, h1, h2⟩ | ⟨hg, h1, h2⟩ <;> first | (cases h1; done) | (cases h1; subst h2)
    first | (refine no_implicit_lambda% (akc ?_)) | (refine no_implicit_lambda% (aec ?_))
    refine no_implicit_lambda% (awd ?_)
    exact e_ret_to (H' := rd r2) (rest := _) (.wk (.refl _) (.cons (.refl _) (.cons (.refl _) (.cons (.box _ (.cons (.refl _) (.cons (.free _ _) (.cons (.refl _) .nil)))) (.refl _))))) rfl (.inl ⟨_, _, g2 hg (by assumption) rfl, rfl, rfl⟩) (.of_eq rfl) (LE0 rfl)
   ·intro x H' h; rcases h with ⟨hg, h1, h2⟩ | ⟨hg, h1, h2⟩ <;> first | (cases h1; done) | (cases h1; subst h2)
    refine no_implicit_lambda% (awd ?_)
    exact e_pan (H' := []) (rest := _) (.inr ⟨n2 hg rfl, rfl, rfl⟩) (.refl _) (LE0 rfl)
  ·rename_i hc1
   refine no_implicit_lambda% (cal [0] (fail_c (b.drop 1)) ?_ ?_)
   ·first | (exact zI) | (exact zJ)
   ·intro xx H' hh
    obtain ⟨h1, rfl⟩ := hh
    cases h1
    refine no_implicit_lambda% (awd ?_)
    exact e_pan (H' := []) (rest := _) (.inr ⟨n3 (by simp at hc1; omega) (by simp at hc; omega), rfl, rfl⟩) (.refl _) (LE0 rfl)
 ·intro x H' h; rcases h with ⟨hg, h1, h2⟩ | ⟨hg, h1, h2⟩ <;> first | (cases h1; done) | (cases h1; subst h2)
  refine no_implicit_lambda% (awd ?_)
  exact e_pan (H' := []) (rest := _) (.inr ⟨n0 hg, rfl, rfl⟩) (.refl _) (LE0 rfl)
end Go.Proofs.YtncffhgoopdfgaaGreat
namespace Go.Proofs.YtncffhgoopdfgaaGreat
open Go.Am
set_option maxRecDepth 100000
theorem u8len (x : Nat) : IntKind.u8.wrap (x : Int) = ((UInt8.ofNat x).toNat : Int) := by
 rw [IntKind.wrap_u8]
 simp
end Go.Proofs.YtncffhgoopdfgaaGreat
namespace Go.Proofs.YtncffhgoopdfgaaGreat
open Go.Am
set_option maxRecDepth 100000
def pB (l : List UInt8) : Option (Nat × List UInt8) := if 1 ≤ l.length then some (ubn (l.take 1) 0, l.drop 1) else none
instance (l : List UInt8) (m : Int) : Decidable (tOk l m) := by unfold tOk; infer_instance
def bnd {α β : Type} (o : Option (α × List UInt8)) (q : α → List UInt8 → Option β) : Option β := match o with
 | some (a, r) => q a r
 | none => none
theorem bnd_some {α β : Type} (a : α) (r : List UInt8) (q : α → List UInt8 → Option β) : bnd (some (a, r)) q = q a r := rfl
def Mono {α : Type} (p : List UInt8 → Option (α × List UInt8)) : Prop := ∀ l x r y, p l = some (x, r) → p (l ++ y) = some (x, r ++ y)
theorem Mono.bnd {α β : Type} {p : List UInt8 → Option (α × List UInt8)} {q : α → List UInt8 → Option (β × List UInt8)} (hp : Mono p) (hq : ∀ a, Mono (q a)) : Mono fun l => @Go.Proofs.YtncffhgoopdfgaaGreat.bnd α (β × List UInt8) (p l) q := fun l x r y h => by
 simp only at h ⊢
 cases e : p l with
 | none => rw [e] at h; cases h
 | some a =>
  obtain ⟨a, r1⟩ := a
  rw [e] at h
  rw [hp l a r1 y e]
  exact hq a r1 x r y h
theorem rB_c (l : List UInt8) (h : l.length < 70368744177664) : ACalls Tryz.prog 130 1 2 [.ptr 0 0] (rd l) (fun out H' => (∃ x r, pB l = some (x, r) ∧ (x < 256 ∧ r.length ≤ l.length) ∧ out = .ret (.v (.int .u8 (x : Int))) ∧ H' = rd r) ∨ (pB l = none ∧ out = gone ∧ H' = [])) :=
 (rByte_c l h).mono fun o H' hh => by
  unfold pB
  rcases hh with ⟨h1, h2, h3⟩ | ⟨h1, h2, h3⟩
  ·refine .inl ⟨_, _, if_pos h1, ⟨?_, ?_⟩, h2, h3⟩
   ·have := ubn_take l 1; omega
   ·rw [List.length_drop]; omega
  ·exact .inr ⟨if_neg (by omega), h2, h3⟩
end Go.Proofs.YtncffhgoopdfgaaGreat
namespace Go.Proofs.YtncffhgoopdfgaaGreat
open Go.Am
set_option maxRecDepth 100000
def pL (l : List UInt8) : Option (Nat × List UInt8) := if 8 ≤ l.length then some (ubn (l.take 8) 0, l.drop 8) else none
def pX (l : List UInt8) : Option (List UInt8 × List UInt8) := if tOk l 16 then some ((l.drop 4).take (ubn (l.take 4) 0), (l.drop 4).drop (ubn (l.take 4) 0)) else none
open Classical in
noncomputable def pV (l : List UInt8) : Option (Va × List UInt8) := if h : ∃ p : Va × List UInt8, GV l p.1 p.2 then some h.choose else none
theorem pV_some {l : List UInt8} {v : Va} {r : List UInt8} (h : GV l v r) : pV l = some (v, r) := by
 unfold pV
 have hx : ∃ p : Va × List UInt8, GV l p.1 p.2 := ⟨(v, r), h⟩
 rw [dif_pos hx]
 obtain ⟨h1, h2⟩ := GV.fn hx.choose_spec h
 rw [← h1, ← h2]
theorem pV_none {l : List UInt8} (h : ∀ v r, ¬ GV l v r) : pV l = none := by
 unfold pV
 rw [dif_neg (fun ⟨p, hp⟩ => h _ _ hp)]
theorem rL_c (l : List UInt8) (h : l.length < 70368744177664) : ACalls Tryz.prog 151 1 2 [.ptr 0 0] (rd l) (fun out H' => (∃ x r, pL l = some (x, r) ∧ (x < 18446744073709551616 ∧ r.length ≤ l.length) ∧ out = .ret (.v (.int .u64 (x : Int))) ∧ H' = rd r) ∨ (pL l = none ∧ out = gone ∧ H' = [])) :=
 (rLong_c l h).mono fun o H' hh => by
  unfold pL
  rcases hh with ⟨h1, h2, h3⟩ | ⟨h1, h2, h3⟩
  ·refine .inl ⟨_, _, if_pos h1, ⟨?_, ?_⟩, h2, h3⟩
   ·have := ubn_take l 8; omega
   ·rw [List.length_drop]; omega
  ·exact .inr ⟨if_neg (by omega), h2, h3⟩
theorem rX_c (l : List UInt8) (h : l.length < 70368744177664) : ACalls Tryz.prog 132 1 3 [.ptr 0 0, .v (.int .i64 16)] (rd l) (fun out H' => (∃ x r, pX l = some (x, r) ∧ (x.length ≤ 16 ∧ r.length ≤ l.length) ∧ out = .ret (.list (x.map brow) .free) ∧ H' = rd r) ∨ (pX l = none ∧ out = gone ∧ H' = [])) :=
 (rText_c l 16 h).mono fun o H' hh => by
  unfold pX
  rcases hh with ⟨h1, h2, h3⟩ | ⟨h1, h2, h3⟩
  ·refine .inl ⟨_, _, if_pos h1, ⟨?_, ?_⟩, h2, h3⟩
   ·have := h1.2.2.1 (by decide)
    rw [List.length_take]; omega
   ·simp only [List.length_drop]; omega
  ·exact .inr ⟨if_neg h1, h2, h3⟩
theorem GV.len {b : List UInt8} {v : Va} {r : List UInt8} (h : GV b v r) : v.b.length ≤ 16 ∧ r.length ≤ b.length := by
 obtain ⟨_, ⟨h1, h2, rfl, rfl⟩ | ⟨h1, _, rfl, rfl⟩⟩ := h
 ·have := h2.2.2.1 (by decide)
  refine ⟨?_, ?_⟩
  ·show List.length (List.take _ _) ≤ 16
   rw [List.length_take]; omega
  ·simp only [List.length_drop]; omega
 ·refine ⟨Nat.zero_le _, ?_⟩
  simp only [List.length_drop]; omega
theorem rV_c (l : List UInt8) (h : l.length < 100000000) : ACalls Tryz.prog 152 1 20 [.ptr 0 0] (rd l) (fun out H' => (∃ v r, pV l = some (v, r) ∧ ((v.b.length ≤ 16 ∧ v.n < 18446744073709551616) ∧ r.length ≤ l.length) ∧ out = .ret (vav v) ∧ H' = rd r) ∨ (pV l = none ∧ out = gone ∧ H' = [])) :=
 (getA_c l h).mono fun o H' hh => by
  rcases hh with ⟨v, r, hg, h2, h3⟩ | ⟨h1, h2, h3⟩
  ·exact .inl ⟨v, r, pV_some hg, ⟨⟨hg.len.1, hg.n⟩, hg.len.2⟩, h2, h3⟩
  ·exact .inr ⟨pV_none h1, h2, h3⟩
end Go.Proofs.YtncffhgoopdfgaaGreat
namespace Go.Proofs.YtncffhgoopdfgaaGreat
open Go.Am
set_option maxRecDepth 100000
end Go.Proofs.YtncffhgoopdfgaaGreat
namespace Go.Proofs.YtncffhgoopdfgaaGreat
open Go.Am
set_option maxRecDepth 100000
abbrev dQ {α : Type} (p : List UInt8 → Option (α × List UInt8)) (ok : α → Prop) (val : α → AV) (l : List UInt8) (bad : Bool) (out : AOut) (H' : Heap) : Prop :=
 ∃ x l' bad', ok x ∧ l'.length ≤ l.length ∧ (bad' = false → bad = false ∧ p l = some (x, l')) ∧ (bad' = true → l' = [] ∧ (bad = false → p l = none)) ∧ out = .ret (val x) ∧ H' = rr l' bad'
theorem rd_fcts (n : Nat) (l : List UInt8) (bad : Bool) : (rLeft n l bad).length ≤ l.length ∧ (rBad n l bad = false → bad = false ∧ n ≤ l.length ∧ rSome n l bad = l.take n ∧ rLeft n l bad = l.drop n) ∧ (rBad n l bad = true → rLeft n l bad = [] ∧ (bad = false → ¬ n ≤ l.length)) := by
 refine ⟨rLeft_len n l bad, fun h => ?_, fun h => ?_⟩
 ·unfold rBad at h
  have h' : bad = false ∧ n ≤ l.length := by simpa using h
  exact ⟨h'.1, h'.2, by unfold rSome; rw [if_pos h'], by unfold rLeft; rw [if_pos h']⟩
 ·unfold rBad at h
  have h' : ¬ (bad = false ∧ n ≤ l.length) := fun hh => by rw [decide_eq_true hh] at h; cases h
  exact ⟨by unfold rLeft; rw [if_neg h'], fun hb hn => h' ⟨hb, hn⟩⟩
theorem ubn_l1 {l : List UInt8} (h : l.length = 1) : ubn l 0 < 256 := by
 have := ubn_take l 1
 rwa [List.take_of_length_le (by omega)] at this
theorem qB_c (l : List UInt8) (bad : Bool) (h : l.length < 70368744177664) : ACalls Tryz.prog 122 1 4 [.ptr 0 0] (rr l bad) (dQ pB (· < 256) (fun x => .v (.int .u8 (x : Nat))) l bad) :=
 (refByte_c l bad h).mono fun out H' ⟨h1, h2⟩ => by
  obtain ⟨f1, f2, f3⟩ := rd_fcts 1 l bad
  refine ⟨_, _, _, ubn_l1 (rSome_len 1 l bad (by decide)), f1, fun hb => ?_, fun hb => ?_, h1, h2⟩
  ·obtain ⟨g1, g2, g3, g4⟩ := f2 hb
   exact ⟨g1, by unfold pB; rw [if_pos g2, g3, g4]⟩
  ·obtain ⟨g1, g2⟩ := f3 hb
   exact ⟨g1, fun hb => by unfold pB; rw [if_neg (g2 hb)]⟩
theorem qL_c (l : List UInt8) (bad : Bool) (h : l.length < 70368744177664) : ACalls Tryz.prog 154 1 7 [.ptr 0 0] (rr l bad) (dQ pL (· < 18446744073709551616) (fun x => .v (.int .u64 (x : Nat))) l bad) :=
 (refRLong_c l bad h).mono fun out H' ⟨h1, h2⟩ => by
  have e1 := rLeft_len 4 l bad
  have e2 := rLeft_len 4 (rLeft 4 l bad) (rBad 4 l bad)
  cases bad with
  | false =>
   by_cases h8 : 8 ≤ l.length
   ·obtain ⟨a1, a2, a3⟩ := long_ok h8
    refine ⟨_, _, _, rLong_lt l false, by omega, fun _ => ⟨rfl, ?_⟩, fun hb => ?_, h1, h2⟩
    ·unfold pL; rw [if_pos h8, a1, a2]
    ·rw [a3] at hb; cases hb
   ·obtain ⟨a2, a3⟩ := long_no (b := l) (by omega)
    refine ⟨_, _, _, rLong_lt l false, by omega, fun hb => ?_, fun _ => ⟨a2, fun _ => ?_⟩, h1, h2⟩
    ·rw [a3] at hb; cases hb
    ·unfold pL; rw [if_neg h8]
  | true =>
   obtain ⟨b1, b2⟩ := @bad_no 4 l
   have b3 : rLeft 4 (rLeft 4 l true) (rBad 4 l true) = [] ∧ rBad 4 (rLeft 4 l true) (rBad 4 l true) = true := by rw [b2]; exact bad_no
   refine ⟨_, _, _, rLong_lt l true, by omega, fun hb => ?_, fun _ => ⟨b3.1, fun hb => by cases hb⟩, h1, h2⟩
   rw [b3.2] at hb; cases hb
theorem qX_c (l : List UInt8) (bad : Bool) (h : l.length < 70368744177664) : ACalls Tryz.prog 126 1 8 [.ptr 0 0, .v (.int .i64 16)] (rr l bad) (dQ pX (·.length ≤ 16) (fun x => .list (x.map brow) .free) l bad) := by
 by_cases hok : bad = false ∧ tOk l 16
 ·obtain ⟨rfl, hT⟩ := hok
  refine (refRText_c l 16 h).mono fun out H' hh => ?_
  rcases hh with ⟨_, h2, h3⟩ | ⟨h1, _⟩
  ·refine ⟨_, _, false, ?_, ?_, fun _ => ⟨rfl, by unfold pX; rw [if_pos hT]⟩, fun h => (by cases h), h2, h3⟩
   ·have := hT.2.2.1 (by decide)
    show List.length (List.take _ _) ≤ 16
    rw [List.length_take]; omega
   ·simp only [List.length_drop]; omega
  ·exact absurd hT h1
 ·have hno : bad = false → pX l = none := fun hb => by unfold pX; rw [if_neg (fun hT => hok ⟨hb, hT⟩)]
  have hC := refRNum_c l bad h
  have hlt := some4_lt l bad
  have hfin : dQ pX (·.length ≤ 16) (fun x => .list (x.map brow) .free) l bad (.ret (.list [] .free)) (rr [] true) := ⟨[], [], true, Nat.zero_le _, Nat.zero_le _, fun h => (by cases h), fun _ => ⟨rfl, hno⟩, rfl, rfl⟩
  obtain ⟨_, f2, f3⟩ := rd_fcts 4 l bad
  cases hbb : rBad 4 l bad with
  | true =>
   rw [hbb] at hC
   rw [(f3 hbb).1] at hC
   generalize ubn (rSome 4 l bad) 0 = n at *
   refine no_implicit_lambda% (acalls_of tok dok (f := 126) ⟨Tryz.func126, rfl, by kernel_rfl⟩ ?_); refine no_implicit_lambda% (c_start (fun _ h => h) ?_)
   refine no_implicit_lambda% (awd ?_)
   refine no_implicit_lambda% (cal [0] (hC) ?_ ?_)
   ·refine no_implicit_lambda% (ret1 ?_); first | (refine no_implicit_lambda% (akc ?_)) | (refine no_implicit_lambda% (aec ?_))
    repeat' (first | (refine no_implicit_lambda% (zH ?_)) | (refine no_implicit_lambda% (spl (fun hc => ?_) (fun hc => ?_)) <;> first | exact zG hc | skip) | (refine no_implicit_lambda% (ans ?_)) | (with_reducible first | exact zI | exact zJ) | (refine no_implicit_lambda% (cal [0] (refFail_c [] true) ?_ ?_)) | fail)
    all_goals exact e_ret_to (H' := rr [] true) (rest := []) (.freeSlot 4 rfl) rfl hfin (.of_eq rfl) (LE0 rfl)
   ·first | (exact zI) | (exact zJ)
  | false =>
   obtain ⟨rfl, h4, g1, g2⟩ := f2 hbb
   rw [g1] at hlt
   rw [g1, g2, hbb] at hC
   generalize hn : ubn (l.take 4) 0 = n at *
   have hf : ¬ tOk l 16 := fun hT => hok ⟨rfl, hT⟩
   have hf2 : ¬ ((n : Int) ≤ 16 ∧ n ≤ (l.drop 4).length) := fun ⟨a1, a2⟩ => hf ⟨h4, by omega, fun _ => by omega, by omega⟩
   refine no_implicit_lambda% (acalls_of tok dok (f := 126) ⟨Tryz.func126, rfl, by kernel_rfl⟩ ?_); refine no_implicit_lambda% (c_start (fun _ h => h) ?_)
   refine no_implicit_lambda% (awd ?_)
   refine no_implicit_lambda% (cal [0] (hC) ?_ ?_)
   ·refine no_implicit_lambda% (ret1 ?_); first | (refine no_implicit_lambda% (akc ?_)) | (refine no_implicit_lambda% (aec ?_))
    refine no_implicit_lambda% (awd ?_)
    rw [show IntKind.i64.wrap (n : Int) = n from w64 (by omega) (by omega)]
    repeat' (first | (refine no_implicit_lambda% (zH ?_)) | (refine no_implicit_lambda% (spl (fun hc => ?_) (fun hc => ?_)) <;> first | exact zG hc | skip) | (refine no_implicit_lambda% (ans ?_)) | (with_reducible first | exact zI | exact zJ) | (refine no_implicit_lambda% (cal [0] (refFail_c (l.drop 4) false) ?_ ?_)) | fail)
    all_goals first | exact e_ret_to (H' := rr [] true) (rest := []) (.freeSlot 4 rfl) rfl hfin (.of_eq rfl) (LE0 rfl) | skip
    all_goals (exfalso; simp at *; omega)
   ·first | (exact zI) | (exact zJ)
def pF (l : List UInt8) : Option (Nat × List UInt8) := bnd (pL l) fun x r => if canonB x = x then some (x, r) else none
theorem qF_c (l : List UInt8) (bad : Bool) (h : l.length < 70368744177664) : ACalls Tryz.prog 184 1 8 [.ptr 0 0] (rr l bad) (dQ pF (· < 18446744073709551616) (fun x => .v (.float .f64 x)) l bad) := by
 have hL := qL_c l bad h
 refine no_implicit_lambda% (acalls_of tok dok (f := 184) ⟨Tryz.func184, rfl, by kernel_rfl⟩ ?_); refine no_implicit_lambda% (c_start (fun _ h => h) ?_)
 refine no_implicit_lambda% (awd ?_)
 (refine no_implicit_lambda% (cal [0] (hL) ?_ ?_))
 ·intro xx H' hh
  obtain ⟨x, l', bad', hx, hl', q1, q2, h', rfl⟩ := hh
  cases h'
  first | (refine no_implicit_lambda% (akc ?_)) | (refine no_implicit_lambda% (aec ?_))
  repeat' (first | (refine no_implicit_lambda% (zH ?_)) | (refine no_implicit_lambda% (spl (fun hc => ?_) (fun hc => ?_)) <;> first | exact zG hc | skip) | (refine no_implicit_lambda% (ans ?_)) | (with_reducible first | exact zI | exact zJ) | (refine no_implicit_lambda% (cal [] (refFrom_c x hx) ?_ ?_)) | (refine no_implicit_lambda% (cal [] (refBits_c (canonB x) (canonB_lt hx)) ?_ ?_)) | fail)
  repeat' (first | (refine no_implicit_lambda% (zH ?_)) | (refine no_implicit_lambda% (spl (fun hc => ?_) (fun hc => ?_)) <;> first | exact zG hc | skip) | (refine no_implicit_lambda% (ans ?_)) | (with_reducible first | exact zI | exact zJ) | (refine no_implicit_lambda% (cal [0] (refFail_c l' bad') ?_ ?_)) | fail)
  ·have hne : canonB x ≠ x := fun he => by rw [canon2, he] at hc; simp at hc
   refine e_ret (H' := rr [] true) (rest := _) rfl ⟨0, [], true, by decide, Nat.zero_le _, (fun h => by cases h), fun _ => ⟨rfl, fun hb => ?_⟩, rfl, rfl⟩ permT (LE0 rfl)
   unfold pF
   cases bad' with
   | false => rw [(q1 rfl).2, bnd_some, if_neg hne]
   | true => rw [(q2 rfl).2 hb]; rfl
  ·have heq : canonB x = x := by
    rw [canon2] at hc
    simp at hc
    omega
   rw [heq]
   refine e_ret (H' := rr l' bad') (rest := _) rfl ⟨x, l', bad', hx, hl', fun hb => ⟨(q1 hb).1, ?_⟩, fun hb => ⟨(q2 hb).1, fun hb2 => ?_⟩, rfl, rfl⟩ permT (LE0 rfl)
   ·unfold pF; rw [(q1 hb).2, bnd_some, if_pos heq]
   ·unfold pF; rw [(q2 hb).2 hb2]; rfl
 ·intro xx H' hh
  obtain ⟨_, _, _, _, _, _, _, h', _⟩ := hh
  cases h'
theorem pF_ok {l r : List UInt8} {x : Nat} (h : pF l = some (x, r)) : fOk l ∧ x = ubn (l.take 8) 0 ∧ r = l.drop 8 := by
 unfold pF pL at h
 by_cases h8 : 8 ≤ l.length
 ·rw [if_pos h8, bnd_some] at h
  split at h
  ·rename_i hc
   cases h
   exact ⟨⟨h8, hc⟩, rfl, rfl⟩
  ·cases h
 ·rw [if_neg h8] at h; cases h
theorem pF_no {l : List UInt8} (h : pF l = none) : ¬ fOk l := fun hf => by
 unfold pF pL at h
 rw [if_pos hf.1, bnd_some, if_pos hf.2] at h
 cases h
theorem pX_ok {l r x : List UInt8} (h : pX l = some (x, r)) : tOk l 16 ∧ x = (l.drop 4).take (ubn (l.take 4) 0) ∧ r = (l.drop 4).drop (ubn (l.take 4) 0) := by
 unfold pX at h
 split at h
 ·rename_i hc
  cases h
  exact ⟨hc, rfl, rfl⟩
 ·cases h
theorem pX_no {l : List UInt8} (h : pX l = none) : ¬ tOk l 16 := fun hf => by
 unfold pX at h
 rw [if_pos hf] at h
 cases h
theorem pB_ok {l r : List UInt8} {x : Nat} (h : pB l = some (x, r)) : 1 ≤ l.length ∧ x = ubn (l.take 1) 0 ∧ r = l.drop 1 := by
 unfold pB at h
 split at h
 ·rename_i hc
  cases h
  exact ⟨hc, rfl, rfl⟩
 ·cases h
theorem pB_no {l : List UInt8} (h : pB l = none) : ¬ 1 ≤ l.length := fun hf => by
 unfold pB at h
 rw [if_pos hf] at h
 cases h
theorem gv0 {l : List UInt8} (h : pB l = none) : pV l = none := pV_none fun v r hg => pB_no h hg.1
theorem gv1 {l l1 l2 s : List UInt8} (h : pB l = some (1, l1)) (h2 : pX l1 = some (s, l2)) : pV l = some (⟨1, s, 0⟩, l2) := by
 obtain ⟨a1, a2, rfl⟩ := pB_ok h
 obtain ⟨b1, rfl, rfl⟩ := pX_ok h2
 exact pV_some ⟨a1, .inl ⟨a2.symm, b1, rfl, rfl⟩⟩
theorem gv1n {l l1 : List UInt8} (h : pB l = some (1, l1)) (h2 : pX l1 = none) : pV l = none := by
 obtain ⟨a1, a2, rfl⟩ := pB_ok h
 refine pV_none fun v r hg => ?_
 obtain ⟨_, ⟨_, g2, _⟩ | ⟨g1, _⟩⟩ := hg
 ·exact pX_no h2 g2
 ·omega
theorem gv2 {l l1 l2 : List UInt8} {n : Nat} (h : pB l = some (2, l1)) (h2 : pF l1 = some (n, l2)) : pV l = some (⟨2, [], n⟩, l2) := by
 obtain ⟨a1, a2, rfl⟩ := pB_ok h
 obtain ⟨b1, rfl, rfl⟩ := pF_ok h2
 exact pV_some ⟨a1, .inr ⟨a2.symm, b1, rfl, rfl⟩⟩
theorem gv2n {l l1 : List UInt8} (h : pB l = some (2, l1)) (h2 : pF l1 = none) : pV l = none := by
 obtain ⟨a1, a2, rfl⟩ := pB_ok h
 refine pV_none fun v r hg => ?_
 obtain ⟨_, ⟨g1, _⟩ | ⟨_, g2, _⟩⟩ := hg
 ·omega
 ·exact pF_no h2 g2
theorem gv3 {l l1 : List UInt8} {x : Nat} (h : pB l = some (x, l1)) (h1 : x ≠ 1) (h2 : x ≠ 2) : pV l = none := by
 obtain ⟨a1, a2, rfl⟩ := pB_ok h
 refine pV_none fun v r hg => ?_
 obtain ⟨_, ⟨g1, _⟩ | ⟨g1, _⟩⟩ := hg <;> omega
theorem qV_c (l : List UInt8) (bad : Bool) (h : l.length < 70368744177664) : ACalls Tryz.prog 155 1 40 [.ptr 0 0] (rr l bad) (dQ pV (fun v => v.b.length ≤ 16 ∧ v.n < 18446744073709551616) vav l bad) := by
 have hB := qB_c l bad h
 refine no_implicit_lambda% (acalls_of tok dok (f := 155) ⟨Tryz.func155, rfl, by kernel_rfl⟩ ?_); refine no_implicit_lambda% (c_start (fun _ h => h) ?_)
 refine no_implicit_lambda% (awd ?_)
 (refine no_implicit_lambda% (cal [0] (hB) ?_ ?_))
 ·intro xx H' hh
  obtain ⟨x, l1, b1, hx, hl1, q1, q2, h', rfl⟩ := hh
  cases h'
  first | (refine no_implicit_lambda% (akc ?_)) | (refine no_implicit_lambda% (aec ?_))
  have hX := qX_c l1 b1 (by omega)
  have hF := qF_c l1 b1 (by omega)
  repeat' (first | (refine no_implicit_lambda% (zH ?_)) | (refine no_implicit_lambda% (spl (fun hc => ?_) (fun hc => ?_)) <;> first | exact zG hc | skip) | (refine no_implicit_lambda% (ans ?_)) | (with_reducible first | exact zI | exact zJ) | (refine no_implicit_lambda% (cal [0] (refFail_c l1 b1) ?_ ?_)) | fail)
  ·have hx1 : x = 1 := by
    have h9 : ((x : Int) == 1) = true := hc
    simp at h9
    omega
   subst hx1
   (refine no_implicit_lambda% (cal [0] (hX) ?_ ?_))
   ·intro xx H' hh
    obtain ⟨s, l2, b2, hs, hl2, p1, p2, h', rfl⟩ := hh
    cases h'
    first | (refine no_implicit_lambda% (akc ?_)) | (refine no_implicit_lambda% (aec ?_))
    repeat' (first | (refine no_implicit_lambda% (zH ?_)) | (refine no_implicit_lambda% (spl (fun hc => ?_) (fun hc => ?_)) <;> first | exact zG hc | skip) | (refine no_implicit_lambda% (ans ?_)) | (with_reducible first | exact zI | exact zJ))
    refine e_ret (H' := rr l2 b2) (rest := _) rfl ⟨⟨1, s, 0⟩, l2, b2, ⟨hs, (by show (0 : Nat) < 18446744073709551616; decide)⟩, by omega, fun hb => ?_, fun hb => ⟨(p2 hb).1, fun hb2 => ?_⟩, rfl, rfl⟩ permT (LE0 rfl)
    ·obtain ⟨e1, e2⟩ := p1 hb
     obtain ⟨e3, e4⟩ := q1 e1
     exact ⟨e3, gv1 e4 e2⟩
    ·cases b1 with
     | false => exact gv1n (q1 rfl).2 ((p2 hb).2 rfl)
     | true => exact gv0 ((q2 rfl).2 hb2)
   ·intro xx H' hh
    obtain ⟨_, _, _, _, _, _, _, h', _⟩ := hh
    cases h'
  ·have hx1 : x = 2 := by
    have h9 : ((x : Int) == 2) = true := hc
    simp at h9
    omega
   subst hx1
   (refine no_implicit_lambda% (cal [0] (hF) ?_ ?_))
   ·intro xx H' hh
    obtain ⟨n, l2, b2, hs, hl2, p1, p2, h', rfl⟩ := hh
    cases h'
    first | (refine no_implicit_lambda% (akc ?_)) | (refine no_implicit_lambda% (aec ?_))
    repeat' (first | (refine no_implicit_lambda% (zH ?_)) | (refine no_implicit_lambda% (spl (fun hc => ?_) (fun hc => ?_)) <;> first | exact zG hc | skip) | (refine no_implicit_lambda% (ans ?_)) | (with_reducible first | exact zI | exact zJ))
    refine e_ret_to (H' := rr l2 b2) (rest := [(1, .box [.v (.int .i64 2), .list [] .free, .v (.float .f64 n)])]) (Conv.toT (τ := ⟨_, [(0, .box [.list (l2.map brow) .free, .v (.bool b2)]), (1, .box [.v (.int .i64 2), .list [] .free, .v (.float .f64 n)])], _⟩) (.refl _) ?_ (Nat.le_refl _)) rfl ⟨⟨2, [], n⟩, l2, b2, ⟨Nat.zero_le _, hs⟩, by omega, fun hb => ?_, fun hb => ⟨(p2 hb).1, fun hb2 => ?_⟩, rfl, rfl⟩ permT (LE0 rfl)
    ·exact wkh
    ·obtain ⟨e1, e2⟩ := p1 hb
     obtain ⟨e3, e4⟩ := q1 e1
     exact ⟨e3, gv2 e4 e2⟩
    ·cases b1 with
     | false => exact gv2n (q1 rfl).2 ((p2 hb).2 rfl)
     | true => exact gv0 ((q2 rfl).2 hb2)
   ·intro xx H' hh
    obtain ⟨_, _, _, _, _, _, _, h', _⟩ := hh
    cases h'
  ·have hx2 : x ≠ 2 := by
    have h9 : ((x : Int) == 2) = false := hc
    simp at h9
    omega
   have hx1 : x ≠ 1 := by
    have h9 : ((x : Int) == 1) = false := by assumption
    simp at h9
    omega
   refine e_ret_to (H' := rr [] true) (rest := [(1, .box [.v (.int .i64 0), .list [] .free, .v (.float .f64 0)])]) (Conv.toT (τ := ⟨_, [(0, .box [.list [] .free, .v (.bool true)]), (1, .box [.v (.int .i64 0), .list [] .free, .v (.float .f64 0)])], _⟩) (.refl _) ?_ (Nat.le_refl _)) rfl ⟨⟨0, [], 0⟩, [], true, ⟨Nat.zero_le _, by decide⟩, Nat.zero_le _, fun hb => (by cases hb), fun _ => ⟨rfl, fun hb2 => ?_⟩, rfl, rfl⟩ permT (LE0 rfl)
   ·exact wkh
   cases b1 with
   | false => exact gv3 (q1 rfl).2 hx1 hx2
   | true => exact gv0 ((q2 rfl).2 hb2)
 ·intro xx H' hh
  obtain ⟨_, _, _, _, _, _, _, h', _⟩ := hh
  cases h'
end Go.Proofs.YtncffhgoopdfgaaGreat
namespace Go.Proofs.YtncffhgoopdfgaaGreat
open Go.Am
set_option maxRecDepth 100000
theorem refPutP_w (p : List UInt8) (v : Va) (hp : p.length < 100000000) (hb : v.kind = 1 → v.b.length ≤ 20) (hn : v.n < 18446744073709551616) : ACalls Tryz.prog 77 0 20 [.list (p.map brow) .free, vav v] [] (fun out H' => out = .ret (.list ((p ++ encA v).map brow) .free) ∧ H' = []) := by
 obtain ⟨kd, b, n⟩ := v
 simp only at hb hn
 have r1 : ∀ row ∈ p.map brow, row.length = 1 := fun row h => by obtain ⟨_, _, rfl⟩ := List.mem_map.1 h; rfl
 have b1 : (p.map brow).length < 100000000 := by rw [List.length_map]; exact hp
 have b2 : ([] ++ p.map brow).length < 100000000 := b1
 by_cases h1 : kd = 1
 ·subst h1
  replace hb := hb rfl
  have ee : p ++ encA ⟨1, b, n⟩ = p ++ [1] ++ (be b.length 4 ++ b) := by simp [encA]
  rw [ee]
  refine no_implicit_lambda% (acalls_of tok dok (f := 77) ⟨Tryz.func77, rfl, by kernel_rfl⟩ ?_); refine no_implicit_lambda% (c_start (fun _ h => h) ?_)
  repeat' (first | (refine no_implicit_lambda% (zH ?_)) | (refine no_implicit_lambda% (spl (fun hc => ?_) (fun hc => ?_)) <;> first | exact zG hc | skip) | (refine no_implicit_lambda% (ans ?_)) | (with_reducible first | exact zI | exact zJ))
  rw [show [] ++ p.map brow ++ [[AV.v (.int .u8 1)]] = (p ++ [1]).map brow by simp [brow]]
  refine no_implicit_lambda% (calw [] (refText_c (p ++ [1]) b (by simp; omega) (by omega)) ?_ ?_)
  ·refine no_implicit_lambda% (ret1 ?_); first | (refine no_implicit_lambda% (akc ?_)) | (refine no_implicit_lambda% (aec ?_))
   refine no_implicit_lambda% (awd ?_)
   exact e_ret_to (H' := []) (rest := _) (.freeSlot 4 rfl) rfl ⟨rfl, rfl⟩ (.of_eq rfl) (LE0 rfl)
  ·first | (exact zI) | (exact zJ)
 ·by_cases h2 : kd = 2
  ·subst h2
   have ee : p ++ encA ⟨2, b, n⟩ = p ++ [2] ++ be (canonB n) 8 := by simp [encA]
   rw [ee]
   refine no_implicit_lambda% (acalls_of tok dok (f := 77) ⟨Tryz.func77, rfl, by kernel_rfl⟩ ?_); refine no_implicit_lambda% (c_start (fun _ h => h) ?_)
   repeat' (first | (refine no_implicit_lambda% (zH ?_)) | (refine no_implicit_lambda% (spl (fun hc => ?_) (fun hc => ?_)) <;> first | exact zG hc | skip) | (refine no_implicit_lambda% (ans ?_)) | (with_reducible first | exact zI | exact zJ))
   rw [show [] ++ p.map brow ++ [[AV.v (.int .u8 2)]] = (p ++ [2]).map brow by simp [brow]]
   refine no_implicit_lambda% (calw [] (refFloat_c (p ++ [2]) n hn (by simp; omega)) ?_ ?_)
   ·refine no_implicit_lambda% (ret1 ?_); first | (refine no_implicit_lambda% (akc ?_)) | (refine no_implicit_lambda% (aec ?_))
    refine no_implicit_lambda% (awd ?_)
    exact e_ret_to (H' := []) (rest := _) (.freeSlot 4 rfl) rfl ⟨rfl, rfl⟩ (.of_eq rfl) (LE0 rfl)
   ·first | (exact zI) | (exact zJ)
  ·have ee : encA ⟨kd, b, n⟩ = [0] := by simp [encA, h1, h2]
   rw [ee]
   have e1 := k_ne h1
   have e2 := k_ne h2
   refine no_implicit_lambda% (acalls_of tok dok (f := 77) ⟨Tryz.func77, rfl, by kernel_rfl⟩ ?_); refine no_implicit_lambda% (c_start (fun _ h => h) ?_)
   repeat' (first | (refine no_implicit_lambda% (zH ?_)) | (refine no_implicit_lambda% (spl (fun hc => ?_) (fun hc => ?_)) <;> first | exact zG hc | skip) | (refine no_implicit_lambda% (ans ?_)) | (with_reducible first | exact zI | exact zJ))
   all_goals try (exfalso; simp_all; done)
   rw [show [] ++ p.map brow ++ [[AV.v (.int .u8 0)]] = (p ++ [0]).map brow by simp [brow]]
   exact e_ret_to (H' := []) (rest := _) (.freeSlot 4 rfl) rfl ⟨rfl, rfl⟩ (.of_eq rfl) (LE0 rfl)
end Go.Proofs.YtncffhgoopdfgaaGreat
namespace Go.Proofs.YtncffhgoopdfgaaGreat
open Go.Am
set_option maxRecDepth 100000
theorem tm_bad {t : Nat} (h1 : 1099511627776 < t) (h2 : t < 18446744073709551616) : tmOk (IntKind.i64.wrap (t : Int)) = false := by
 unfold tmOk
 refine decide_eq_false fun h => ?_
 rw [IntKind.wrap_i64] at h
 omega
theorem bnd_inv {α β : Type} {p : Option (α × List UInt8)} {q : α → List UInt8 → Option β} (h : ∀ a r, p = some (a, r) → q a r = none) : bnd p q = none := by
 cases p with
 | none => rfl
 | some a => exact h a.1 a.2 rfl
end Go.Proofs.YtncffhgoopdfgaaGreat
namespace Go.Proofs.YtncffhgoopdfgaaGreat
open Go.Am
set_option maxRecDepth 100000
theorem same_raw {o : List Co} (h : rowB o = true) (hz : RowSz o) : ACalls Tryz.prog 69 0 0 [rowA o, rowA o] [] (fun out H' => out = .ret (.v (.bool true)) ∧ H' = []) := by
 have h2 := h
 unfold rowB at h2
 simp only [Bool.and_eq_true, decide_eq_true_eq] at h2
 exact refsame_r o (by omega) (fun c hc => by have := col_len (row_mem h hc); omega) (fun c hc y hy => (hz c hc y hy).2)
end Go.Proofs.YtncffhgoopdfgaaGreat
namespace Go.Proofs.YtncffhgoopdfgaaGreat
open Go.Am
set_option maxRecDepth 100000
def encT (c : ByteArray) : List UInt8 := be c.data.toList.length 4 ++ c.data.toList
def encCh (x : Ch) : List UInt8 := if x.k = 4 then [4] else if x.k = 3 then [3] ++ encT x.c else if x.k = 2 then [2] ++ encT x.c ++ be x.t.toNat 8 else [UInt8.ofNat x.k.toNat] ++ encT x.c ++ be x.t.toNat 8 ++ encA x.v
theorem rightC_inv {x : Ch} (h : rightC x = 0) : (1 ≤ x.k ∧ x.k ≤ 5) ∧ (x.k ≠ 4 → nmB x.c = true) ∧ ((x.k = 1 ∨ x.k = 2 ∨ x.k = 5) → tmOk x.t = true) ∧ ((x.k = 1 ∨ x.k = 5) → vRt x.v = true) ∧ (x.k = 5 → x.v.kind = 2) := by
 unfold rightC at h
 by_cases h1 : x.k < 1 ∨ 5 < x.k
 ·rw [if_pos h1] at h; cases h
 rw [if_neg h1] at h
 refine ⟨by omega, ?_⟩
 by_cases h4 : x.k = 4
 ·exact ⟨fun h => absurd h4 h, fun h => by omega, fun h => by omega, fun h => by omega⟩
 rw [if_neg h4] at h
 rcases hn : nmB x.c with _ | _
 ·rw [if_pos hn] at h; cases h
 rw [hn, if_neg (by simp)] at h
 refine ⟨fun _ => rfl, ?_⟩
 by_cases h3 : x.k = 3
 ·exact ⟨fun h => by omega, fun h => by omega, fun h => by omega⟩
 rw [if_neg h3] at h
 rcases ht : tmOk x.t with _ | _
 ·rw [if_pos ht] at h; cases h
 rw [ht, if_neg (by simp)] at h
 refine ⟨fun _ => rfl, ?_⟩
 by_cases h2 : x.k = 2
 ·exact ⟨fun h => by omega, fun h => by omega⟩
 rw [if_neg h2] at h
 rcases hv : vRt x.v with _ | _
 ·rw [if_pos hv] at h; cases h
 rw [hv, if_neg (by simp)] at h
 refine ⟨fun _ => rfl, fun h5 => ?_⟩
 by_cases hk : x.v.kind = 2
 ·exact hk
 ·rw [if_pos ⟨h5, hk⟩] at h; cases h
theorem nmB_len {c : ByteArray} (h : nmB c = true) : 1 ≤ c.data.toList.length ∧ c.data.toList.length ≤ 16 := by
 unfold nmB at h
 have h3 := of_decide_eq_true h
 have h4 : c.data.toList.length = c.size := rfl
 omega
theorem vRt_len {v : Va} (h : vRt v = true) (h1 : v.kind = 1) : v.b.length ≤ 20 := by
 unfold vRt at h
 rw [h1] at h
 simp at h
 omega
theorem encT_len (c : ByteArray) : (encT c).length = 4 + c.data.toList.length := by unfold encT; rw [List.length_append, be_len]
theorem encA_lw {v : Va} (h : v.kind = 1 → v.b.length ≤ 20) : (encA v).length ≤ 25 := by
 unfold encA
 split
 ·have := h (by assumption); simp [be_len]; omega
 ·split
  ·simp [be_len]
  ·simp
theorem encCh_len {x : Ch} (h : rightC x = 0) : 1 ≤ (encCh x).length ∧ (encCh x).length ≤ 54 := by
 obtain ⟨h1, h2, h3, h4, h5⟩ := rightC_inv h
 unfold encCh
 repeat' split
 ·exact ⟨Nat.le_refl _, by simp⟩
 ·have := nmB_len (h2 (by omega))
  simp only [List.length_append, encT_len, List.length_singleton]; omega
 ·have := nmB_len (h2 (by omega))
  simp only [List.length_append, encT_len, List.length_singleton, be_len]; omega
 ·have := nmB_len (h2 (by omega))
  have := encA_lw (vRt_len (h4 (by omega)))
  simp only [List.length_append, encT_len, List.length_singleton, be_len]; omega
set_option maxHeartbeats 6400000 in
theorem write5_c (x : Ch) (l : List UInt8) (hx : rightC x = 0) (hn : x.v.n < 18446744073709551616) (hl : l.length < 10000000) : ACalls Tryz.prog 72 2 200 [.ptr 0 0, .agg (chrow x)] (wr l) (fun out H' => out = .ret (.tuple []) ∧ H' = wr (l ++ encCh x)) := by
 obtain ⟨h1, h2, h3, h4, h5⟩ := rightC_inv hx
 have h0 := asks_c x.k
 obtain ⟨k, c, t, v⟩ := x
 dsimp only at *
 have hk : k = 1 ∨ k = 5 ∨ k = 2 ∨ k = 3 ∨ k = 4 := by omega
 rcases hk with rfl | rfl | rfl | rfl | rfl
 ·(have hc16 := nmB_len (h2 (by decide)); have hb := byte_c l 1 (by omega); have ht := text_c (l ++ [1]) c.data.toList (by omega) (by simp; omega); rw [if_pos (by omega)] at ht)
  (have ht0 := h3 (by decide); unfold tmOk at ht0; have htt := of_decide_eq_true ht0)
  (have hl8 := long_c (l ++ [1] ++ encT c) t.toNat (by omega) (by simp only [List.length_append, encT_len, List.length_singleton]; omega))
  (have hv20 := vRt_len (h4 (by decide)); have hpa := putA_w v hv20 hn (l ++ [1] ++ encT c ++ be t.toNat 8) (by simp only [List.length_append, encT_len, List.length_singleton, be_len]; omega))
  have he : l ++ encCh ⟨1, c, t, v⟩ = l ++ [1] ++ encT c ++ be t.toNat 8 ++ encA v := by show l ++ ([1] ++ encT c ++ be t.toNat 8 ++ encA v) = _; simp only [List.append_assoc]
  rw [he]
  refine no_implicit_lambda% (acalls_of tok dok (f := 72) ⟨Tryz.func72, rfl, by kernel_rfl⟩ ?_); refine no_implicit_lambda% (c_start (fun _ h => h) ?_)
  repeat' (first | (refine no_implicit_lambda% (zH ?_)) | (refine no_implicit_lambda% (spl (fun hc => ?_) (fun hc => ?_)) <;> first | exact zG hc | skip) | (refine no_implicit_lambda% (ans ?_)) | (with_reducible first | exact zI | exact zJ) | (refine no_implicit_lambda% (cal [] (h0) ?_ ?_)) | (refine no_implicit_lambda% (cal [0, 1] (hb) ?_ ?_)) | fail)
  refine no_implicit_lambda% (aqs ?_ ?_)
  ·show c.data.toList.length ≤ 4611686018427387904
   omega
  repeat' (first | (refine no_implicit_lambda% (zH ?_)) | (refine no_implicit_lambda% (spl (fun hc => ?_) (fun hc => ?_)) <;> first | exact zG hc | skip) | (refine no_implicit_lambda% (ans ?_)) | (with_reducible first | exact zI | exact zJ) | (refine no_implicit_lambda% (cal [0, 1] (ht) ?_ ?_)) | fail)
  (rw [show IntKind.u64.wrap t = (t.toNat : Int) by rw [IntKind.wrap_u64]; omega])
  repeat' (first | (refine no_implicit_lambda% (zH ?_)) | (refine no_implicit_lambda% (spl (fun hc => ?_) (fun hc => ?_)) <;> first | exact zG hc | skip) | (refine no_implicit_lambda% (ans ?_)) | (with_reducible first | exact zI | exact zJ) | (refine no_implicit_lambda% (cal [0, 1] (hl8) ?_ ?_)) | (refine no_implicit_lambda% (cal [0, 1] (hpa) ?_ ?_)) | fail)
  exact e_ret (H' := wr (l ++ [1] ++ encT c ++ be t.toNat 8 ++ encA v)) (rest := _) rfl ⟨rfl, rfl⟩ permT (LE0 rfl)
 ·(have hc16 := nmB_len (h2 (by decide)); have hb := byte_c l 5 (by omega); have ht := text_c (l ++ [5]) c.data.toList (by omega) (by simp; omega); rw [if_pos (by omega)] at ht)
  (have ht0 := h3 (by decide); unfold tmOk at ht0; have htt := of_decide_eq_true ht0)
  (have hl8 := long_c (l ++ [5] ++ encT c) t.toNat (by omega) (by simp only [List.length_append, encT_len, List.length_singleton]; omega))
  (have hv20 := vRt_len (h4 (by decide)); have hpa := putA_w v hv20 hn (l ++ [5] ++ encT c ++ be t.toNat 8) (by simp only [List.length_append, encT_len, List.length_singleton, be_len]; omega))
  have he : l ++ encCh ⟨5, c, t, v⟩ = l ++ [5] ++ encT c ++ be t.toNat 8 ++ encA v := by show l ++ ([5] ++ encT c ++ be t.toNat 8 ++ encA v) = _; simp only [List.append_assoc]
  rw [he]
  refine no_implicit_lambda% (acalls_of tok dok (f := 72) ⟨Tryz.func72, rfl, by kernel_rfl⟩ ?_); refine no_implicit_lambda% (c_start (fun _ h => h) ?_)
  repeat' (first | (refine no_implicit_lambda% (zH ?_)) | (refine no_implicit_lambda% (spl (fun hc => ?_) (fun hc => ?_)) <;> first | exact zG hc | skip) | (refine no_implicit_lambda% (ans ?_)) | (with_reducible first | exact zI | exact zJ) | (refine no_implicit_lambda% (cal [] (h0) ?_ ?_)) | (refine no_implicit_lambda% (cal [0, 1] (hb) ?_ ?_)) | fail)
  refine no_implicit_lambda% (aqs ?_ ?_)
  ·show c.data.toList.length ≤ 4611686018427387904
   omega
  repeat' (first | (refine no_implicit_lambda% (zH ?_)) | (refine no_implicit_lambda% (spl (fun hc => ?_) (fun hc => ?_)) <;> first | exact zG hc | skip) | (refine no_implicit_lambda% (ans ?_)) | (with_reducible first | exact zI | exact zJ) | (refine no_implicit_lambda% (cal [0, 1] (ht) ?_ ?_)) | fail)
  (rw [show IntKind.u64.wrap t = (t.toNat : Int) by rw [IntKind.wrap_u64]; omega])
  repeat' (first | (refine no_implicit_lambda% (zH ?_)) | (refine no_implicit_lambda% (spl (fun hc => ?_) (fun hc => ?_)) <;> first | exact zG hc | skip) | (refine no_implicit_lambda% (ans ?_)) | (with_reducible first | exact zI | exact zJ) | (refine no_implicit_lambda% (cal [0, 1] (hl8) ?_ ?_)) | (refine no_implicit_lambda% (cal [0, 1] (hpa) ?_ ?_)) | fail)
  exact e_ret (H' := wr (l ++ [5] ++ encT c ++ be t.toNat 8 ++ encA v)) (rest := _) rfl ⟨rfl, rfl⟩ permT (LE0 rfl)
 ·(have hc16 := nmB_len (h2 (by decide)); have hb := byte_c l 2 (by omega); have ht := text_c (l ++ [2]) c.data.toList (by omega) (by simp; omega); rw [if_pos (by omega)] at ht)
  (have ht0 := h3 (by decide); unfold tmOk at ht0; have htt := of_decide_eq_true ht0)
  (have hl8 := long_c (l ++ [2] ++ encT c) t.toNat (by omega) (by simp only [List.length_append, encT_len, List.length_singleton]; omega))
  have he : l ++ encCh ⟨2, c, t, v⟩ = l ++ [2] ++ encT c ++ be t.toNat 8 := by show l ++ ([2] ++ encT c ++ be t.toNat 8) = _; simp only [List.append_assoc]
  rw [he]
  refine no_implicit_lambda% (acalls_of tok dok (f := 72) ⟨Tryz.func72, rfl, by kernel_rfl⟩ ?_); refine no_implicit_lambda% (c_start (fun _ h => h) ?_)
  repeat' (first | (refine no_implicit_lambda% (zH ?_)) | (refine no_implicit_lambda% (spl (fun hc => ?_) (fun hc => ?_)) <;> first | exact zG hc | skip) | (refine no_implicit_lambda% (ans ?_)) | (with_reducible first | exact zI | exact zJ) | (refine no_implicit_lambda% (cal [] (h0) ?_ ?_)) | (refine no_implicit_lambda% (cal [0, 1] (hb) ?_ ?_)) | fail)
  refine no_implicit_lambda% (aqs ?_ ?_)
  ·show c.data.toList.length ≤ 4611686018427387904
   omega
  repeat' (first | (refine no_implicit_lambda% (zH ?_)) | (refine no_implicit_lambda% (spl (fun hc => ?_) (fun hc => ?_)) <;> first | exact zG hc | skip) | (refine no_implicit_lambda% (ans ?_)) | (with_reducible first | exact zI | exact zJ) | (refine no_implicit_lambda% (cal [0, 1] (ht) ?_ ?_)) | fail)
  (rw [show IntKind.u64.wrap t = (t.toNat : Int) by rw [IntKind.wrap_u64]; omega])
  repeat' (first | (refine no_implicit_lambda% (zH ?_)) | (refine no_implicit_lambda% (spl (fun hc => ?_) (fun hc => ?_)) <;> first | exact zG hc | skip) | (refine no_implicit_lambda% (ans ?_)) | (with_reducible first | exact zI | exact zJ) | (refine no_implicit_lambda% (cal [0, 1] (hl8) ?_ ?_)) | fail)
  exact e_ret (H' := wr (l ++ [2] ++ encT c ++ be t.toNat 8)) (rest := _) rfl ⟨rfl, rfl⟩ permT (LE0 rfl)
 ·(have hc16 := nmB_len (h2 (by decide)); have hb := byte_c l 3 (by omega); have ht := text_c (l ++ [3]) c.data.toList (by omega) (by simp; omega); rw [if_pos (by omega)] at ht)
  have he : l ++ encCh ⟨3, c, t, v⟩ = l ++ [3] ++ encT c := by show l ++ ([3] ++ encT c) = _; simp only [List.append_assoc]
  rw [he]
  refine no_implicit_lambda% (acalls_of tok dok (f := 72) ⟨Tryz.func72, rfl, by kernel_rfl⟩ ?_); refine no_implicit_lambda% (c_start (fun _ h => h) ?_)
  repeat' (first | (refine no_implicit_lambda% (zH ?_)) | (refine no_implicit_lambda% (spl (fun hc => ?_) (fun hc => ?_)) <;> first | exact zG hc | skip) | (refine no_implicit_lambda% (ans ?_)) | (with_reducible first | exact zI | exact zJ) | (refine no_implicit_lambda% (cal [] (h0) ?_ ?_)) | (refine no_implicit_lambda% (cal [0, 1] (hb) ?_ ?_)) | fail)
  refine no_implicit_lambda% (aqs ?_ ?_)
  ·show c.data.toList.length ≤ 4611686018427387904
   omega
  repeat' (first | (refine no_implicit_lambda% (zH ?_)) | (refine no_implicit_lambda% (spl (fun hc => ?_) (fun hc => ?_)) <;> first | exact zG hc | skip) | (refine no_implicit_lambda% (ans ?_)) | (with_reducible first | exact zI | exact zJ) | (refine no_implicit_lambda% (cal [0, 1] (ht) ?_ ?_)) | fail)
  exact e_ret (H' := wr (l ++ [3] ++ encT c)) (rest := _) rfl ⟨rfl, rfl⟩ permT (LE0 rfl)
 ·have hb := byte_c l 4 (by omega)
  refine no_implicit_lambda% (acalls_of tok dok (f := 72) ⟨Tryz.func72, rfl, by kernel_rfl⟩ ?_); refine no_implicit_lambda% (c_start (fun _ h => h) ?_)
  repeat' (first | (refine no_implicit_lambda% (zH ?_)) | (refine no_implicit_lambda% (spl (fun hc => ?_) (fun hc => ?_)) <;> first | exact zG hc | skip) | (refine no_implicit_lambda% (ans ?_)) | (with_reducible first | exact zI | exact zJ) | (refine no_implicit_lambda% (cal [] (h0) ?_ ?_)) | (refine no_implicit_lambda% (cal [0, 1] (hb) ?_ ?_)) | fail)
  exact e_ret (H' := wr (l ++ [4])) (rest := _) rfl ⟨rfl, rfl⟩ permT (LE0 rfl)
theorem app3 (p : List UInt8) (n : Nat) (h : n < 256) : [] ++ p.map brow ++ [[AV.v (.int .u8 (IntKind.u8.wrap (n : Int)))]] = (p ++ [UInt8.ofNat n]).map brow := by
 rw [show IntKind.u8.wrap (n : Int) = ((UInt8.ofNat n).toNat : Int) from u8len n]
 simp [brow]
set_option maxHeartbeats 6400000 in
theorem rwrite5_c (x : Ch) (p : List UInt8) (hx : rightC x = 0) (hn : x.v.n < 18446744073709551616) (hp : p.length < 10000000) : ACalls Tryz.prog 22 0 300 [.list (p.map brow) .free, .agg (chrow x)] [] (fun out H' => out = .ret (.list ((p ++ encCh x).map brow) .free) ∧ H' = []) := by
 obtain ⟨h1, h2, h3, h4, h5⟩ := rightC_inv hx
 obtain ⟨k, c, t, v⟩ := x
 dsimp only at *
 have r1 : ∀ row ∈ p.map brow, row.length = 1 := fun row h => by obtain ⟨_, _, rfl⟩ := List.mem_map.1 h; rfl
 have b1 : (p.map brow).length < 10000000 := by rw [List.length_map]; exact hp
 have b2 : ([] ++ p.map brow).length < 10000000 := b1
 have hk : k = 1 ∨ k = 5 ∨ k = 2 ∨ k = 3 ∨ k = 4 := by omega
 rcases hk with rfl | rfl | rfl | rfl | rfl
 ·(have hc16 := nmB_len (h2 (by decide)); have ht := refText_c (p ++ [1]) c.data.toList (by simp; omega) (by omega))
  (have ht0 := h3 (by decide); unfold tmOk at ht0; have htt := of_decide_eq_true ht0)
  (have hl8 := refLong_c (p ++ [1] ++ encT c) t.toNat (by omega) (by simp only [List.length_append, encT_len, List.length_singleton]; omega))
  (have hv20 := vRt_len (h4 (by decide)); have hpa := refPutP_w (p ++ [1] ++ encT c ++ be t.toNat 8) v (by simp only [List.length_append, encT_len, List.length_singleton, be_len]; omega) hv20 hn)
  have he : p ++ encCh ⟨1, c, t, v⟩ = p ++ [1] ++ encT c ++ be t.toNat 8 ++ encA v := by show p ++ ([1] ++ encT c ++ be t.toNat 8 ++ encA v) = _; simp only [List.append_assoc]
  rw [he]
  refine no_implicit_lambda% (acalls_of tok dok (f := 22) ⟨Tryz.func22, rfl, by kernel_rfl⟩ ?_); refine no_implicit_lambda% (c_start (fun _ h => h) ?_)
  repeat' (first | (refine no_implicit_lambda% (zH ?_)) | (refine no_implicit_lambda% (splv (fun hc => ?_) (fun hc => ?_)) <;> first | exact zG hc | skip) | (refine no_implicit_lambda% (ans ?_)) | (with_reducible first | exact zI | exact zJ))
  rw [show [] ++ List.map brow p ++ [[AV.v (.int .u8 (IntKind.u8.wrap (⟨1, c, t, v⟩ : Ch).k))]] = (p ++ [1]).map brow from app3 p 1 (by decide)]
  refine no_implicit_lambda% (aqs ?_ ?_)
  ·show c.data.toList.length ≤ 4611686018427387904
   omega
  repeat' (first | (refine no_implicit_lambda% (zH ?_)) | (refine no_implicit_lambda% (splv (fun hc => ?_) (fun hc => ?_)) <;> first | exact zG hc | skip) | (refine no_implicit_lambda% (ans ?_)) | (with_reducible first | exact zI | exact zJ))
  (refine no_implicit_lambda% (calw [] (ht) ?_ ?_))
  rotate_left
  ·first | (exact zI) | (exact zJ)
  refine no_implicit_lambda% (ret1 ?_); first | (refine no_implicit_lambda% (akc ?_)) | (refine no_implicit_lambda% (aec ?_))
  repeat' (first | (refine no_implicit_lambda% (zH ?_)) | (refine no_implicit_lambda% (splv (fun hc => ?_) (fun hc => ?_)) <;> first | exact zG hc | skip) | (refine no_implicit_lambda% (ans ?_)) | (with_reducible first | exact zI | exact zJ))
  (rw [show IntKind.u64.wrap t = (t.toNat : Int) by rw [IntKind.wrap_u64]; omega])
  (refine no_implicit_lambda% (calw [] (hl8) ?_ ?_))
  rotate_left
  ·first | (exact zI) | (exact zJ)
  refine no_implicit_lambda% (ret1 ?_); first | (refine no_implicit_lambda% (akc ?_)) | (refine no_implicit_lambda% (aec ?_))
  repeat' (first | (refine no_implicit_lambda% (zH ?_)) | (refine no_implicit_lambda% (splv (fun hc => ?_) (fun hc => ?_)) <;> first | exact zG hc | skip) | (refine no_implicit_lambda% (ans ?_)) | (with_reducible first | exact zI | exact zJ))
  (refine no_implicit_lambda% (calw [] (hpa) ?_ ?_))
  rotate_left
  ·first | (exact zI) | (exact zJ)
  refine no_implicit_lambda% (ret1 ?_); first | (refine no_implicit_lambda% (akc ?_)) | (refine no_implicit_lambda% (aec ?_))
  repeat' (first | (refine no_implicit_lambda% (zH ?_)) | (refine no_implicit_lambda% (splv (fun hc => ?_) (fun hc => ?_)) <;> first | exact zG hc | skip) | (refine no_implicit_lambda% (ans ?_)) | (with_reducible first | exact zI | exact zJ))
  exact e_ret (H' := []) (rest := _) rfl ⟨rfl, rfl⟩ permT (LE0 rfl)
 ·(have hc16 := nmB_len (h2 (by decide)); have ht := refText_c (p ++ [5]) c.data.toList (by simp; omega) (by omega))
  (have ht0 := h3 (by decide); unfold tmOk at ht0; have htt := of_decide_eq_true ht0)
  (have hl8 := refLong_c (p ++ [5] ++ encT c) t.toNat (by omega) (by simp only [List.length_append, encT_len, List.length_singleton]; omega))
  (have hv20 := vRt_len (h4 (by decide)); have hpa := refPutP_w (p ++ [5] ++ encT c ++ be t.toNat 8) v (by simp only [List.length_append, encT_len, List.length_singleton, be_len]; omega) hv20 hn)
  have he : p ++ encCh ⟨5, c, t, v⟩ = p ++ [5] ++ encT c ++ be t.toNat 8 ++ encA v := by show p ++ ([5] ++ encT c ++ be t.toNat 8 ++ encA v) = _; simp only [List.append_assoc]
  rw [he]
  refine no_implicit_lambda% (acalls_of tok dok (f := 22) ⟨Tryz.func22, rfl, by kernel_rfl⟩ ?_); refine no_implicit_lambda% (c_start (fun _ h => h) ?_)
  repeat' (first | (refine no_implicit_lambda% (zH ?_)) | (refine no_implicit_lambda% (splv (fun hc => ?_) (fun hc => ?_)) <;> first | exact zG hc | skip) | (refine no_implicit_lambda% (ans ?_)) | (with_reducible first | exact zI | exact zJ))
  rw [show [] ++ List.map brow p ++ [[AV.v (.int .u8 (IntKind.u8.wrap (⟨5, c, t, v⟩ : Ch).k))]] = (p ++ [5]).map brow from app3 p 5 (by decide)]
  refine no_implicit_lambda% (aqs ?_ ?_)
  ·show c.data.toList.length ≤ 4611686018427387904
   omega
  repeat' (first | (refine no_implicit_lambda% (zH ?_)) | (refine no_implicit_lambda% (splv (fun hc => ?_) (fun hc => ?_)) <;> first | exact zG hc | skip) | (refine no_implicit_lambda% (ans ?_)) | (with_reducible first | exact zI | exact zJ))
  (refine no_implicit_lambda% (calw [] (ht) ?_ ?_))
  rotate_left
  ·first | (exact zI) | (exact zJ)
  refine no_implicit_lambda% (ret1 ?_); first | (refine no_implicit_lambda% (akc ?_)) | (refine no_implicit_lambda% (aec ?_))
  repeat' (first | (refine no_implicit_lambda% (zH ?_)) | (refine no_implicit_lambda% (splv (fun hc => ?_) (fun hc => ?_)) <;> first | exact zG hc | skip) | (refine no_implicit_lambda% (ans ?_)) | (with_reducible first | exact zI | exact zJ))
  (rw [show IntKind.u64.wrap t = (t.toNat : Int) by rw [IntKind.wrap_u64]; omega])
  (refine no_implicit_lambda% (calw [] (hl8) ?_ ?_))
  rotate_left
  ·first | (exact zI) | (exact zJ)
  refine no_implicit_lambda% (ret1 ?_); first | (refine no_implicit_lambda% (akc ?_)) | (refine no_implicit_lambda% (aec ?_))
  repeat' (first | (refine no_implicit_lambda% (zH ?_)) | (refine no_implicit_lambda% (splv (fun hc => ?_) (fun hc => ?_)) <;> first | exact zG hc | skip) | (refine no_implicit_lambda% (ans ?_)) | (with_reducible first | exact zI | exact zJ))
  (refine no_implicit_lambda% (calw [] (hpa) ?_ ?_))
  rotate_left
  ·first | (exact zI) | (exact zJ)
  refine no_implicit_lambda% (ret1 ?_); first | (refine no_implicit_lambda% (akc ?_)) | (refine no_implicit_lambda% (aec ?_))
  repeat' (first | (refine no_implicit_lambda% (zH ?_)) | (refine no_implicit_lambda% (splv (fun hc => ?_) (fun hc => ?_)) <;> first | exact zG hc | skip) | (refine no_implicit_lambda% (ans ?_)) | (with_reducible first | exact zI | exact zJ))
  exact e_ret (H' := []) (rest := _) rfl ⟨rfl, rfl⟩ permT (LE0 rfl)
 ·(have hc16 := nmB_len (h2 (by decide)); have ht := refText_c (p ++ [2]) c.data.toList (by simp; omega) (by omega))
  (have ht0 := h3 (by decide); unfold tmOk at ht0; have htt := of_decide_eq_true ht0)
  (have hl8 := refLong_c (p ++ [2] ++ encT c) t.toNat (by omega) (by simp only [List.length_append, encT_len, List.length_singleton]; omega))
  have he : p ++ encCh ⟨2, c, t, v⟩ = p ++ [2] ++ encT c ++ be t.toNat 8 := by show p ++ ([2] ++ encT c ++ be t.toNat 8) = _; simp only [List.append_assoc]
  rw [he]
  refine no_implicit_lambda% (acalls_of tok dok (f := 22) ⟨Tryz.func22, rfl, by kernel_rfl⟩ ?_); refine no_implicit_lambda% (c_start (fun _ h => h) ?_)
  repeat' (first | (refine no_implicit_lambda% (zH ?_)) | (refine no_implicit_lambda% (splv (fun hc => ?_) (fun hc => ?_)) <;> first | exact zG hc | skip) | (refine no_implicit_lambda% (ans ?_)) | (with_reducible first | exact zI | exact zJ))
  rw [show [] ++ List.map brow p ++ [[AV.v (.int .u8 (IntKind.u8.wrap (⟨2, c, t, v⟩ : Ch).k))]] = (p ++ [2]).map brow from app3 p 2 (by decide)]
  refine no_implicit_lambda% (aqs ?_ ?_)
  ·show c.data.toList.length ≤ 4611686018427387904
   omega
  repeat' (first | (refine no_implicit_lambda% (zH ?_)) | (refine no_implicit_lambda% (splv (fun hc => ?_) (fun hc => ?_)) <;> first | exact zG hc | skip) | (refine no_implicit_lambda% (ans ?_)) | (with_reducible first | exact zI | exact zJ))
  (refine no_implicit_lambda% (calw [] (ht) ?_ ?_))
  rotate_left
  ·first | (exact zI) | (exact zJ)
  refine no_implicit_lambda% (ret1 ?_); first | (refine no_implicit_lambda% (akc ?_)) | (refine no_implicit_lambda% (aec ?_))
  repeat' (first | (refine no_implicit_lambda% (zH ?_)) | (refine no_implicit_lambda% (splv (fun hc => ?_) (fun hc => ?_)) <;> first | exact zG hc | skip) | (refine no_implicit_lambda% (ans ?_)) | (with_reducible first | exact zI | exact zJ))
  (rw [show IntKind.u64.wrap t = (t.toNat : Int) by rw [IntKind.wrap_u64]; omega])
  (refine no_implicit_lambda% (calw [] (hl8) ?_ ?_))
  rotate_left
  ·first | (exact zI) | (exact zJ)
  refine no_implicit_lambda% (ret1 ?_); first | (refine no_implicit_lambda% (akc ?_)) | (refine no_implicit_lambda% (aec ?_))
  repeat' (first | (refine no_implicit_lambda% (zH ?_)) | (refine no_implicit_lambda% (splv (fun hc => ?_) (fun hc => ?_)) <;> first | exact zG hc | skip) | (refine no_implicit_lambda% (ans ?_)) | (with_reducible first | exact zI | exact zJ))
  exact e_ret_to (H' := []) (rest := _) (.freeSlot 4 rfl) rfl ⟨rfl, rfl⟩ (.of_eq rfl) (LE0 rfl)
 ·(have hc16 := nmB_len (h2 (by decide)); have ht := refText_c (p ++ [3]) c.data.toList (by simp; omega) (by omega))
  have he : p ++ encCh ⟨3, c, t, v⟩ = p ++ [3] ++ encT c := by show p ++ ([3] ++ encT c) = _; simp only [List.append_assoc]
  rw [he]
  refine no_implicit_lambda% (acalls_of tok dok (f := 22) ⟨Tryz.func22, rfl, by kernel_rfl⟩ ?_); refine no_implicit_lambda% (c_start (fun _ h => h) ?_)
  repeat' (first | (refine no_implicit_lambda% (zH ?_)) | (refine no_implicit_lambda% (splv (fun hc => ?_) (fun hc => ?_)) <;> first | exact zG hc | skip) | (refine no_implicit_lambda% (ans ?_)) | (with_reducible first | exact zI | exact zJ))
  rw [show [] ++ List.map brow p ++ [[AV.v (.int .u8 (IntKind.u8.wrap (⟨3, c, t, v⟩ : Ch).k))]] = (p ++ [3]).map brow from app3 p 3 (by decide)]
  refine no_implicit_lambda% (aqs ?_ ?_)
  ·show c.data.toList.length ≤ 4611686018427387904
   omega
  repeat' (first | (refine no_implicit_lambda% (zH ?_)) | (refine no_implicit_lambda% (splv (fun hc => ?_) (fun hc => ?_)) <;> first | exact zG hc | skip) | (refine no_implicit_lambda% (ans ?_)) | (with_reducible first | exact zI | exact zJ))
  (refine no_implicit_lambda% (calw [] (ht) ?_ ?_))
  rotate_left
  ·first | (exact zI) | (exact zJ)
  refine no_implicit_lambda% (ret1 ?_); first | (refine no_implicit_lambda% (akc ?_)) | (refine no_implicit_lambda% (aec ?_))
  repeat' (first | (refine no_implicit_lambda% (zH ?_)) | (refine no_implicit_lambda% (splv (fun hc => ?_) (fun hc => ?_)) <;> first | exact zG hc | skip) | (refine no_implicit_lambda% (ans ?_)) | (with_reducible first | exact zI | exact zJ))
  exact e_ret_to (H' := []) (rest := _) (.freeSlot 4 rfl) rfl ⟨rfl, rfl⟩ (.of_eq rfl) (LE0 rfl)
 ·refine no_implicit_lambda% (acalls_of tok dok (f := 22) ⟨Tryz.func22, rfl, by kernel_rfl⟩ ?_); refine no_implicit_lambda% (c_start (fun _ h => h) ?_)
  repeat' (first | (refine no_implicit_lambda% (zH ?_)) | (refine no_implicit_lambda% (splv (fun hc => ?_) (fun hc => ?_)) <;> first | exact zG hc | skip) | (refine no_implicit_lambda% (ans ?_)) | (with_reducible first | exact zI | exact zJ))
  rw [show [] ++ List.map brow p ++ [[AV.v (.int .u8 (IntKind.u8.wrap (⟨4, c, t, v⟩ : Ch).k))]] = (p ++ [4]).map brow from app3 p 4 (by decide)]
  exact e_ret_to (H' := []) (rest := _) (.freeSlot 4 rfl) rfl ⟨rfl, rfl⟩ (.of_eq rfl) (LE0 rfl)
end Go.Proofs.YtncffhgoopdfgaaGreat
namespace Go.Proofs.YtncffhgoopdfgaaGreat
open Go.Am
set_option maxRecDepth 100000
set_option maxHeartbeats 6400000 in
theorem one_c (o : List Co) (x : Ch) (hF : Fine o) (hz : RowSz o) (hx : x.k = 1 → VSw x.v) (hk : 1 ≤ x.k ∧ x.k ≤ 5) : ACalls Tryz.prog 143 0 40000 [rowA o, .agg (chrow x)] [] (PutRR (stepC o x)) := by
 have ho4 := hF.len
 have hor : o.length < 70368744177664 := by omega
 have p1 := fun h => put_w o x.c x.t x.v hor hz (hx h)
 have p2 := drop_c o x.c x.t hor hz
 have p3 := dropcol_c o x.c hor hz (dc_sz hz)
 rw [(dc_fine o x.c).copy] at p3
 have hkk : x.k = 1 ∨ x.k = 2 ∨ x.k = 3 ∨ x.k = 4 ∨ x.k = 5 := by omega
 rcases hkk with hk | hk | hk | hk | hk
 ·have hs : stepC o x = putR o x.c x.t x.v := by unfold stepC; rw [if_pos hk]
  rw [hs]
  replace p1 := p1 hk
  unfold PutRR at *
  generalize putR o x.c x.t x.v = Q at *
  obtain ⟨e, X⟩ := Q
  refine no_implicit_lambda% (acalls_of tok dok (f := 143) ⟨Tryz.func143, rfl, by kernel_rfl⟩ ?_); refine no_implicit_lambda% (c_start (fun _ h => h) ?_)
  repeat' (first | (refine no_implicit_lambda% (zH ?_)) | (refine no_implicit_lambda% (spl (fun hc => ?_) (fun hc => ?_)) <;> first | exact zG hc | skip) | (refine no_implicit_lambda% (ans ?_)) | (with_reducible first | exact zI | exact zJ) | (refine no_implicit_lambda% (cal [] (p1) ?_ ?_)) | fail)
  exact e_ret (H' := []) (rest := _) rfl ⟨rfl, rfl⟩ permT (LE0 rfl)
 ·have hs : stepC o x = (0, dropR o x.c x.t) := by unfold stepC; rw [if_neg (by omega), if_pos hk]
  rw [hs]
  unfold PutRR
  refine no_implicit_lambda% (acalls_of tok dok (f := 143) ⟨Tryz.func143, rfl, by kernel_rfl⟩ ?_); refine no_implicit_lambda% (c_start (fun _ h => h) ?_)
  repeat' (first | (refine no_implicit_lambda% (zH ?_)) | (refine no_implicit_lambda% (spl (fun hc => ?_) (fun hc => ?_)) <;> first | exact zG hc | skip) | (refine no_implicit_lambda% (ans ?_)) | (with_reducible first | exact zI | exact zJ) | (refine no_implicit_lambda% (cal [] (p2) ?_ ?_)) | fail)
  exact e_ret (H' := []) (rest := _) rfl ⟨rfl, rfl⟩ permT (LE0 rfl)
 ·have hs : stepC o x = (0, dcR o x.c) := by unfold stepC; rw [if_neg (by omega), if_neg (by omega), if_pos hk]
  rw [hs]
  unfold PutRR
  refine no_implicit_lambda% (acalls_of tok dok (f := 143) ⟨Tryz.func143, rfl, by kernel_rfl⟩ ?_); refine no_implicit_lambda% (c_start (fun _ h => h) ?_)
  repeat' (first | (refine no_implicit_lambda% (zH ?_)) | (refine no_implicit_lambda% (spl (fun hc => ?_) (fun hc => ?_)) <;> first | exact zG hc | skip) | (refine no_implicit_lambda% (ans ?_)) | (with_reducible first | exact zI | exact zJ) | (refine no_implicit_lambda% (cal [] (p3) ?_ ?_)) | fail)
  exact e_ret (H' := []) (rest := _) rfl ⟨rfl, rfl⟩ permT (LE0 rfl)
 ·have hs : stepC o x = (0, []) := by unfold stepC; rw [if_neg (by omega), if_neg (by omega), if_neg (by omega), if_pos hk]
  rw [hs]
  unfold PutRR
  refine no_implicit_lambda% (acalls_of tok dok (f := 143) ⟨Tryz.func143, rfl, by kernel_rfl⟩ ?_); refine no_implicit_lambda% (c_start (fun _ h => h) ?_)
  repeat' (first | (refine no_implicit_lambda% (zH ?_)) | (refine no_implicit_lambda% (spl (fun hc => ?_) (fun hc => ?_)) <;> first | exact zG hc | skip) | (refine no_implicit_lambda% (ans ?_)) | (with_reducible first | exact zI | exact zJ))
  refine e_ret_to (H' := []) (rest := _) (Conv.toT (τ := ⟨_, [(2, .box [.list [] .free])], _⟩) (.refl _) ?_ (Nat.le_refl _)) rfl ⟨rfl, rfl⟩ (.of_eq rfl) (LE0 rfl)
  exact wkh
 ·have hs : stepC o x = if (plusV (oldV o x.c) x.v).2 ≠ 0 then ((plusV (oldV o x.c) x.v).2, []) else putR o x.c x.t (plusV (oldV o x.c) x.v).1 := by unfold stepC; rw [if_neg (by omega), if_neg (by omega), if_neg (by omega), if_neg (by omega)]
  have p4 := newest_c o x.c hor hz
  have p5 := plus_c (oldV o x.c) x.v
  have p6 := put_c o x.c x.t (plusV (oldV o x.c) x.v).1 hor hz (plusV_sz _ _)
  have p7 := csign_c
  rw [hs]
  unfold PutRR at *
  have hold : oldV o x.c = (atR o x.c 1099511627776).getD ⟨2, [], 9223372036854775808⟩ := rfl
  generalize plusV (oldV o x.c) x.v = W at *
  generalize putR o x.c x.t W.1 = Q at *
  obtain ⟨w, f⟩ := W
  obtain ⟨e, X⟩ := Q
  rcases hat : atR o x.c 1099511627776 with _ | ov
  ·rw [hat] at hold p4
   rw [hold] at p5
   unfold optA at p4
   refine no_implicit_lambda% (acalls_of tok dok (f := 143) ⟨Tryz.func143, rfl, by kernel_rfl⟩ ?_); refine no_implicit_lambda% (c_start (fun _ h => h) ?_)
   repeat' (first | (refine no_implicit_lambda% (zH ?_)) | (refine no_implicit_lambda% (spl (fun hc => ?_) (fun hc => ?_)) <;> first | exact zG hc | skip) | (refine no_implicit_lambda% (ans ?_)) | (with_reducible first | exact zI | exact zJ) | (refine no_implicit_lambda% (cal [] (p4) ?_ ?_)) | (refine no_implicit_lambda% (cal [] (p7) ?_ ?_)) | fail)
   (refine no_implicit_lambda% (calw [] (p5) ?_ ?_))
   rotate_left
   ·first | (exact zI) | (exact zJ)
   refine no_implicit_lambda% (ret1 ?_); first | (refine no_implicit_lambda% (akc ?_)) | (refine no_implicit_lambda% (aec ?_))
   repeat' (first | (refine no_implicit_lambda% (zH ?_)) | (refine no_implicit_lambda% (spl (fun hc => ?_) (fun hc => ?_)) <;> first | exact zG hc | skip) | (refine no_implicit_lambda% (ans ?_)) | (with_reducible first | exact zI | exact zJ) | (refine no_implicit_lambda% (cal [] (p6) ?_ ?_)) | fail)
   ·have he : f ≠ 0 := by simpa using hc
    rw [if_pos he]
    refine e_ret_to (H' := []) (rest := _) (Conv.toT (τ := ⟨_, [(2, .box [.list [] .free])], _⟩) (.refl _) ?_ (Nat.le_refl _)) rfl ⟨rfl, rfl⟩ (.of_eq rfl) (LE0 rfl)
    exact wkh
   ·have hf0 : f = 0 := by simpa using hc
    rw [if_neg (by simp [hf0])]
    exact e_ret (H' := []) (rest := _) rfl ⟨rfl, rfl⟩ permT (LE0 rfl)
  ·rw [hat] at hold p4
   rw [hold] at p5
   unfold optA at p4
   refine no_implicit_lambda% (acalls_of tok dok (f := 143) ⟨Tryz.func143, rfl, by kernel_rfl⟩ ?_); refine no_implicit_lambda% (c_start (fun _ h => h) ?_)
   repeat' (first | (refine no_implicit_lambda% (zH ?_)) | (refine no_implicit_lambda% (spl (fun hc => ?_) (fun hc => ?_)) <;> first | exact zG hc | skip) | (refine no_implicit_lambda% (ans ?_)) | (with_reducible first | exact zI | exact zJ) | (refine no_implicit_lambda% (cal [] (p4) ?_ ?_)) | (refine no_implicit_lambda% (cal [] (p5) ?_ ?_)) | (refine no_implicit_lambda% (cal [] (p6) ?_ ?_)) | fail)
   ·have he : f ≠ 0 := by simpa using hc
    rw [if_pos he]
    refine e_ret_to (H' := []) (rest := _) (Conv.toT (τ := ⟨_, [(2, .box [.list [] .free])], _⟩) (.refl _) ?_ (Nat.le_refl _)) rfl ⟨rfl, rfl⟩ (.of_eq rfl) (LE0 rfl)
    exact wkh
   ·have hf0 : f = 0 := by simpa using hc
    rw [if_neg (by simp [hf0])]
    exact e_ret (H' := []) (rest := _) rfl ⟨rfl, rfl⟩ permT (LE0 rfl)
def ppSt (l : List Ch) (R : List Co) (i : Nat) : ASt := ⟨([.dead, .list (l.map chrow) .free, .ptr 0 0, .dead, .ptr 1 0] ++ List.replicate 12 .dead ++ [.list (l.map chrow) .free, .v (.int .i64 l.length), .v (.int .i64 i)] ++ List.replicate 30 .dead), [(0, .box [.list (R.map corow) .free]), (1, .box [.list [] .full])], 2⟩
def pqSt (l : List Ch) (o : List Co) (i : Nat) : ASt := ⟨([.dead, .dead, .dead, .dead, .ptr 1 0, .dead, .dead, .dead, .dead, .ptr 2 0] ++ List.replicate 22 .dead ++ [.list (l.map chrow) .free, .v (.int .i64 l.length), .v (.int .i64 i)] ++ List.replicate 15 .dead), [(1, .box [.list [] .full]), (2, .box [.list (o.map corow) .free])], 3⟩
set_option maxHeartbeats 6400000 in
theorem apply_w (r : List Co) (l : List Ch) (hr : r.length < 70368744177664) (hz : RowSz r) (hl : ∀ x ∈ l, x.v.n < 18446744073709551616) (hll : l.length < 1000000) : ACalls Tryz.prog 68 0 500000 [rowA r, .list (l.map chrow) .free] [] (PutRR (applyR r l)) := by
 have hcp := copy_f r hr hz
 have hlm : ((l.map chrow).length : Int) = l.length := by rw [List.length_map]
 refine no_implicit_lambda% (acalls_of tok dok (f := 68) ⟨Tryz.func68, rfl, by kernel_rfl⟩ ?_); refine no_implicit_lambda% (c_start (fun _ h => h) ?_)
 repeat' (first | (refine no_implicit_lambda% (zH ?_)) | (refine no_implicit_lambda% (spl (fun hc => ?_) (fun hc => ?_)) <;> first | exact zG hc | skip) | (refine no_implicit_lambda% (ans ?_)) | (with_reducible first | exact zI | exact zJ))
 ·have : applyR r l = (3, []) := by unfold applyR; rw [if_pos (by have := of_decide_eq_true hc; omega)]
  rw [this]
  refine e_ret_to (H' := []) (rest := _) (Conv.toT (τ := ⟨_, [(1, .box [.list [] .free])], _⟩) (.refl _) ?_ (Nat.le_refl _)) rfl ⟨rfl, rfl⟩ (.of_eq rfl) (LE0 rfl); exact wkh
 ·have hl8 : ¬ 8 < l.length := by have := of_decide_eq_false hc; omega
  refine c_loop' (ppSt l r) (fun i => i ≤ l.length ∧ firstE l = firstE (l.drop i)) (fun i => l.length - i) (a := 0) ⟨Nat.zero_le _, rfl⟩ ?_ ?_
  ·rw [List.length_map]
   (refine no_implicit_lambda% (Conv.toT ?_ ?_ (LE0 rfl))); (focus ((unfold ppSt); (try dsimp only); exact wkl)); (focus ((unfold ppSt); (try dsimp only); exact wkh))
  ·rintro i ⟨i1, i2⟩
   refine c_turn (n' := 2) (fun _ h => h) (fun _ h => h) rfl ?_
   rcases hx : l[i]? with _ | x
   ·have hi : i = l.length := by have := List.getElem?_eq_none_iff.1 hx; omega
    have hf0 : firstE l = 0 := by rw [i2, hi, List.drop_length]; rfl
    have hap : applyR r l = foldC (copyR r) l := by unfold applyR; rw [if_neg hl8, if_neg (by simp [hf0])]
    rw [hap]
    have hco := copy_fine r
    have hcz := copy_sz hz
    generalize copyR r = o0 at *
    repeat' (first | (refine no_implicit_lambda% (zH ?_)) | (refine no_implicit_lambda% (spl (fun hc => ?_) (fun hc => ?_)) <;> first | exact zG hc | skip) | (refine no_implicit_lambda% (ans ?_)) | (with_reducible first | exact zI | exact zJ) | (refine no_implicit_lambda% (cal [] (hcp) ?_ ?_)) | fail)
    refine c_loop2 (pqSt l) (fun o i => i ≤ l.length ∧ Fine o ∧ RowSz o ∧ foldC o0 l = foldC o (l.drop i)) (fun _ i => l.length - i) o0 0 ⟨Nat.zero_le _, hco, hcz, rfl⟩ ?_ ?_
    ·rw [List.length_map]
     (refine no_implicit_lambda% (Conv.toT ?_ ?_ (LE0 rfl))); (focus ((unfold pqSt); (try dsimp only); exact wkl)); (focus ((unfold pqSt); (try dsimp only); exact wkh))
    ·rintro o j ⟨j1, hF, hzo, j2⟩
     refine c_turn (n' := 3) (fun _ h => h) (fun _ h => h) rfl ?_
     rcases hy : l[j]? with _ | x
     ·have hj : j = l.length := by have := List.getElem?_eq_none_iff.1 hy; omega
      rw [j2, hj, List.drop_length]
      repeat' (first | (refine no_implicit_lambda% (zH ?_)) | (refine no_implicit_lambda% (spl (fun hc => ?_) (fun hc => ?_)) <;> first | exact zG hc | skip) | (refine no_implicit_lambda% (ans ?_)) | (with_reducible first | exact zI | exact zJ))
      exact e_ret (H' := []) (rest := _) rfl ⟨rfl, rfl⟩ permT (LE0 rfl)
     ·have hj : j < l.length := (List.getElem?_eq_some_iff.1 hy).1
      have hix := chx hy
      have hxz := rightC_sw (firstE_ok hf0 x (List.mem_of_getElem? hy)) (hl x (List.mem_of_getElem? hy))
      have hkd := rightC_kind (firstE_ok hf0 x (List.mem_of_getElem? hy))
      have hfa := foldC_at (o := o) hy
      have hsf := stepC_fine hF x
      have hsz := stepC_sw hzo hxz
      have hone := one_c o x hF hzo hxz hkd
      rw [hfa] at j2
      unfold PutRR at hone
      generalize stepC o x = Q at *
      obtain ⟨e, X⟩ := Q
      repeat' (first | (refine no_implicit_lambda% (zH ?_)) | (refine no_implicit_lambda% (spl (fun hc => ?_) (fun hc => ?_)) <;> first | exact zG hc | skip) | (refine no_implicit_lambda% (ans ?_)) | (with_reducible first | exact zI | exact zJ) | (refine no_implicit_lambda% (cal [] (hone) ?_ ?_)) | fail)
      ·have he : e ≠ 0 := by simpa using hc
       rw [j2, if_pos he]
       refine e_ret_to (H' := []) (rest := _) (Conv.toT (τ := ⟨_, [(1, .box [.list [] .free])], _⟩) (.refl _) ?_ (Nat.le_refl _)) rfl ⟨rfl, rfl⟩ (.of_eq rfl) (LE0 rfl); exact wkh
      ·have he : e = 0 := by simpa using hc
       rw [if_neg (by simp [he])] at j2
       (refine no_implicit_lambda% (k_loopLT (((X, j + 1) : List Co × Nat)) 0 [0, 1, 2] (by show j + 1 ≤ l.length ∧ Fine X ∧ RowSz X ∧ foldC o0 l = foldC X (l.drop (j + 1)); exact ⟨hj, hsf, hsz, j2⟩) (by first | omega | (simp; done) | (simp; omega)) (LE0 rfl) (fun _ h => h) (fun _ h => h) ?_ ?_)); (focus ((try dsimp only); exact wkl)); (focus ((try dsimp only); exact wkh))
   ·have hi : i < l.length := (List.getElem?_eq_some_iff.1 hx).1
    have hix := chx hx
    have hrx := right5_c x
    rw [firstE_at hx] at i2
    repeat' (first | (refine no_implicit_lambda% (zH ?_)) | (refine no_implicit_lambda% (spl (fun hc => ?_) (fun hc => ?_)) <;> first | exact zG hc | skip) | (refine no_implicit_lambda% (ans ?_)) | (with_reducible first | exact zI | exact zJ) | (refine no_implicit_lambda% (cal [] (hrx) ?_ ?_)) | fail)
    ·have he : rightC x ≠ 0 := by simpa using hc
     have hap : applyR r l = (rightC x, []) := by
      unfold applyR
      rw [if_neg hl8, i2, if_pos he, if_pos he]
     rw [hap]
     refine e_ret_to (H' := []) (rest := _) (Conv.toT (τ := ⟨_, [(1, .box [.list [] .free])], _⟩) (.refl _) ?_ (Nat.le_refl _)) rfl ⟨rfl, rfl⟩ (.of_eq rfl) (LE0 rfl); exact wkh
    ·have he : rightC x = 0 := by simpa using hc
     rw [if_neg (by simp [he])] at i2
     (refine no_implicit_lambda% (k_loopLT (i + 1) 0 [0, 1] (by show i + 1 ≤ l.length ∧ firstE l = firstE (l.drop (i + 1)); exact ⟨hi, i2⟩) (by first | omega | (simp; done) | (simp; omega)) (LE0 rfl) (fun _ h => h) (fun _ h => h) ?_ ?_)); (focus ((try dsimp only); exact wkl)); (focus ((try dsimp only); exact wkh))
theorem apply_c (r : List Co) (l : List Ch) (hr : r.length < 70368744177664) (hz : RowSz r) (hl : ∀ x ∈ l, ChSz x) (hll : l.length < 1000000) : ACalls Tryz.prog 68 0 500000 [rowA r, .list (l.map chrow) .free] [] (PutRR (applyR r l)) := apply_w r l hr hz (fun x hx => (hl x hx).2) hll
end Go.Proofs.YtncffhgoopdfgaaGreat
namespace Go.Proofs.YtncffhgoopdfgaaGreat
open Go.Am
set_option maxRecDepth 100000
structure Cd where
 has : Bool
 want : Bool
 c : ByteArray
 v : Va
def cdrow (d : Cd) : List AV := [.v (.bool d.has), .v (.bool d.want), .v (.string d.c)] ++ vrowV d.v
def holdR (o : List Co) (d : Cd) : Bool := if d.has then (match atR o d.c 1099511627776 with | some v => d.want && ordV v d.v == 0 | none => !d.want) else true
theorem holds_c (o : List Co) (d : Cd) (ho : o.length < 70368744177664) (hz : RowSz o) (hb : d.v.b.length < 70368744177664) (hat2 : ∀ v, atR o d.c 1099511627776 = some v → v.b.length < 70368744177664) : ACalls Tryz.prog 25 0 9000 [rowA o, .agg (cdrow d)] [] (fun out H' => out = .ret (.v (.bool (holdR o d))) ∧ H' = []) := by
 obtain ⟨has, want, c, v⟩ := d
 have p4 := newest_c o c ho hz
 unfold holdR
 dsimp only at hat2 hb ⊢
 rcases hat : atR o c 1099511627776 with _ | ov
 ·rw [hat] at p4
  unfold optA at p4
  cases has <;> cases want
  all_goals
   refine no_implicit_lambda% (acalls_of tok dok (f := 25) ⟨Tryz.func25, rfl, by kernel_rfl⟩ ?_); refine no_implicit_lambda% (c_start (fun _ h => h) ?_)
   repeat' (first | (refine no_implicit_lambda% (zH ?_)) | (refine no_implicit_lambda% (spl (fun hc => ?_) (fun hc => ?_)) <;> first | exact zG hc | skip) | (refine no_implicit_lambda% (ans ?_)) | (with_reducible first | exact zI | exact zJ) | (refine no_implicit_lambda% (cal [] (p4) ?_ ?_)) | fail)
   exact e_ret (H' := []) (rest := _) rfl ⟨rfl, rfl⟩ permT (LE0 rfl)
 ·rw [hat] at p4
  unfold optA at p4
  have ps := same3_c ov v (hat2 ov hat) hb
  cases has <;> cases want
  all_goals
   refine no_implicit_lambda% (acalls_of tok dok (f := 25) ⟨Tryz.func25, rfl, by kernel_rfl⟩ ?_); refine no_implicit_lambda% (c_start (fun _ h => h) ?_)
   repeat' (first | (refine no_implicit_lambda% (zH ?_)) | (refine no_implicit_lambda% (spl (fun hc => ?_) (fun hc => ?_)) <;> first | exact zG hc | skip) | (refine no_implicit_lambda% (ans ?_)) | (with_reducible first | exact zI | exact zJ) | (refine no_implicit_lambda% (cal [] (p4) ?_ ?_)) | (refine no_implicit_lambda% (cal [] (ps) ?_ ?_)) | fail)
   all_goals exact e_ret (H' := []) (rest := _) rfl ⟨rfl, rfl⟩ permT (LE0 rfl)
end Go.Proofs.YtncffhgoopdfgaaGreat
