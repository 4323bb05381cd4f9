/- ValueTells: values written and read, by contracts. -/
import Derived.Test.YtdfnepbhgifkkaaVg
import Derived.Test.YtdfnepbhgifkkaaOcC
namespace Go.Proofs.Ytdfnepbhgifkkaa
open Go.Am
set_option linter.unusedSimpArgs false
set_option linter.unusedVariables false
set_option maxRecDepth 100000
/-- any value's octets -/
def encA (v : Va) : List UInt8 := if v.kind = 1 then 1 :: (be v.b.length 4 ++ v.b) else if v.kind = 2 then 2 :: be (canonB v.n) 8 else [0]
theorem encA_len {v : Va} (h : v.b.length ≤ 20) : (encA v).length ≤ 25 := by
  unfold encA
  split
  · simp [be_len]; omega
  · split
    · simp [be_len]
    · simp
theorem k_ne {k c : Int} (h : ¬ k = c) : (k == c) = false := by simpa using h
theorem putA_c (v : Va) (hb : v.b.length ≤ 20) (hn : v.n < 18446744073709551616) (l : List UInt8) (hl : l.length < 1000) : ACalls Try.prog 34 2 10 [.ptr 0 0, vav v] (wr l) (fun out H' => out = .ret (.tuple []) ∧ H' = wr (l ++ encA v)) := by
  obtain ⟨kd, b, n⟩ := v
  simp only at hb hn
  by_cases h1 : kd = 1
  · subst h1
    have ee : l ++ encA ⟨1, b, n⟩ = l ++ [1] ++ (be b.length 4 ++ b) := by simp [encA]
    rw [ee]
    have hT := text_c (l ++ [1]) b (by omega) (by simp; omega)
    rw [if_pos (show b.length ≤ 1048576 by omega)] at hT
    refine acalls_of tok dok (f := 34) ⟨Try.func34, rfl, by kernel_rfl⟩ ?_; refine c_start (fun _ h => h) ?_
    refine awd ?_
    refine cal [0, 1] (byte_c l 1 (by omega)) ?_ ?_
    · refine ret1 ?_; first | (refine akc ?_) | (refine aec ?_)
      refine awd ?_
      refine cal [0, 1] (hT) ?_ ?_
      · refine ret1 ?_; first | (refine akc ?_) | (refine aec ?_)
        refine awd ?_
        exact e_ret (H' := wr (l ++ [1] ++ (be b.length 4 ++ b))) (rest := _) rfl ⟨rfl, rfl⟩ (.of_eq rfl) (Nat.le_of_ble_eq_true rfl)
      · first | (exact retN) | (exact retP)
    · first | (exact retN) | (exact retP)
  · by_cases h2 : kd = 2
    · subst h2
      have ee : l ++ encA ⟨2, b, n⟩ = l ++ [2] ++ be (canonB n) 8 := by simp [encA]
      rw [ee]
      refine acalls_of tok dok (f := 34) ⟨Try.func34, rfl, by kernel_rfl⟩ ?_; refine c_start (fun _ h => h) ?_
      refine awd ?_
      refine cal [0, 1] (byte_c l 2 (by omega)) ?_ ?_
      · refine ret1 ?_; first | (refine akc ?_) | (refine aec ?_)
        refine awd ?_
        refine cal [0, 1] (float_c (l ++ [2]) n hn (by simp; omega)) ?_ ?_
        · refine ret1 ?_; first | (refine akc ?_) | (refine aec ?_)
          refine awd ?_
          exact e_ret (H' := wr (l ++ [2] ++ be (canonB n) 8)) (rest := _) rfl ⟨rfl, rfl⟩ (.of_eq rfl) (Nat.le_of_ble_eq_true rfl)
        · first | (exact retN) | (exact retP)
      · first | (exact retN) | (exact retP)
    · have ee : l ++ encA ⟨kd, b, n⟩ = l ++ [0] := by simp [encA, h1, h2]
      rw [ee]
      have e1 := k_ne h1
      have e2 := k_ne h2
      refine acalls_of tok dok (f := 34) ⟨Try.func34, rfl, by kernel_rfl⟩ ?_; refine c_start (fun _ h => h) ?_
      repeat' (first | (refine awd1 ?_) | (((with_reducible refine is_aops ?_); refine o_split rfl rfl rfl (fun hc => ?_) (fun hc => ?_) <;> rw [hc])) | (((with_reducible refine is_cond ?_); refine c_cond rfl (fun hc => ?_) (fun hc => ?_))) | (((with_reducible refine is_aop ?_); refine a_pick rfl rfl (fun hc => ?_) (fun hc => ?_) <;> rw [hc])) | fail)
      · rw [e1] at hc; cases hc
      · rw [e2] at hc; cases hc
      · refine cal [0, 1] (byte_c l 0 (by omega)) ?_ ?_
        · refine ret1 ?_; first | (refine akc ?_) | (refine aec ?_)
          refine awd ?_
          exact e_ret (H' := wr (l ++ [0])) (rest := _) rfl ⟨rfl, rfl⟩ (.of_eq rfl) (Nat.le_of_ble_eq_true rfl)
        · first | (exact retN) | (exact retP)
theorem refPutA_c (v : Va) (hb : v.b.length ≤ 20) (hn : v.n < 18446744073709551616) : ACalls Try.prog 30 0 20 [.list (([] : List UInt8).map brow) .free, vav v] [] (fun out H' => out = .ret (.list ((encA v).map brow) .free) ∧ H' = []) := by
  obtain ⟨kd, b, n⟩ := v
  simp only at hb hn
  by_cases h1 : kd = 1
  · subst h1
    have ee : encA ⟨1, b, n⟩ = [1] ++ (be b.length 4 ++ b) := by simp [encA]
    rw [ee]
    refine acalls_of tok dok (f := 30) ⟨Try.func30, rfl, by kernel_rfl⟩ ?_; refine c_start (fun _ h => h) ?_
    refine awd ?_
    refine calw [] (refText_c [1] b (by decide) (by omega)) ?_ ?_
    · refine ret1 ?_; first | (refine akc ?_) | (refine aec ?_)
      refine awd ?_
      exact e_ret_to (H' := []) (rest := _) (.freeSlot 4 rfl) rfl ⟨rfl, rfl⟩ (.of_eq rfl) (Nat.le_of_ble_eq_true rfl)
    · first | (exact retN) | (exact retP)
  · by_cases h2 : kd = 2
    · subst h2
      have ee : encA ⟨2, b, n⟩ = [2] ++ be (canonB n) 8 := by simp [encA]
      rw [ee]
      refine acalls_of tok dok (f := 30) ⟨Try.func30, rfl, by kernel_rfl⟩ ?_; refine c_start (fun _ h => h) ?_
      refine awd ?_
      refine calw [] (refFloat_c [2] n hn (by decide)) ?_ ?_
      · refine ret1 ?_; first | (refine akc ?_) | (refine aec ?_)
        refine awd ?_
        exact e_ret_to (H' := []) (rest := _) (.freeSlot 4 rfl) rfl ⟨rfl, rfl⟩ (.of_eq rfl) (Nat.le_of_ble_eq_true rfl)
      · first | (exact retN) | (exact retP)
    · have ee : encA ⟨kd, b, n⟩ = [0] := by simp [encA, h1, h2]
      rw [ee]
      have e1 := k_ne h1
      have e2 := k_ne h2
      refine acalls_of tok dok (f := 30) ⟨Try.func30, rfl, by kernel_rfl⟩ ?_; refine c_start (fun _ h => h) ?_
      repeat' (first | (refine awd1 ?_) | (((with_reducible refine is_aops ?_); refine o_split rfl rfl rfl (fun hc => ?_) (fun hc => ?_) <;> rw [hc])) | (((with_reducible refine is_cond ?_); refine c_cond rfl (fun hc => ?_) (fun hc => ?_))) | (((with_reducible refine is_aop ?_); refine a_pick rfl rfl (fun hc => ?_) (fun hc => ?_) <;> rw [hc])) | fail)
      · rw [e1] at hc; cases hc
      · rw [e2] at hc; cases hc
      · exact e_ret_to (H' := []) (rest := _) (.freeSlot 4 rfl) rfl ⟨rfl, rfl⟩ (.of_eq rfl) (Nat.le_of_ble_eq_true rfl)
theorem writes3_c (v : Va) (hb : v.b.length ≤ 20) (hn : v.n < 18446744073709551616) : ACalls Try.prog 32 0 100 [vav v] [] (fun out H' => out = .ret (.v (.bool true)) ∧ H' = []) := by
  have hP := putA_c v hb hn [] (by decide)
  have hR := refPutA_c v hb hn
  have hl := encA_len hb
  have hD := done_c ([] ++ encA v) (by simp; omega)
  rw [List.nil_append] at hP hD
  generalize encA v = e at *
  refine acalls_of tok dok (f := 32) ⟨Try.func32, rfl, by kernel_rfl⟩ ?_; refine c_start (fun _ h => h) ?_
  refine awd ?_
  refine cal [] (new_c) ?_ ?_
  · refine ret1 ?_; first | (refine akc ?_) | (refine aec ?_)
    refine awd ?_
    refine cal [1, 2] (hP) ?_ ?_
    · refine ret1 ?_; first | (refine akc ?_) | (refine aec ?_)
      refine awd ?_
      refine cal [1, 2] (hD) ?_ ?_
      · refine ret1 ?_; first | (refine akc ?_) | (refine aec ?_)
        refine awd ?_
        refine calw [] (hR) ?_ ?_
        · refine ret1 ?_; first | (refine akc ?_) | (refine aec ?_)
          refine awd ?_
          exact e_ret (H' := []) (rest := _) rfl ⟨congrArg (fun b => AOut.ret (.v (.bool b))) (beq_self_eq_true _), rfl⟩ (.refl _) (Nat.le_of_ble_eq_true rfl)
        · first | (exact retN) | (exact retP)
      · first | (exact retN) | (exact retP)
    · first | (exact retN) | (exact retP)
  · first | (exact retN) | (exact retP)
/-- the value that octets begin with -/
def GV (b : List UInt8) (v : Va) (r : List UInt8) : Prop :=
  1 ≤ b.length ∧ ((ubn (b.take 1) 0 = 1 ∧ tOk (b.drop 1) 16 ∧ v = ⟨1, ((b.drop 1).drop 4).take (ubn ((b.drop 1).take 4) 0), 0⟩ ∧ r = ((b.drop 1).drop 4).drop (ubn ((b.drop 1).take 4) 0)) ∨
    (ubn (b.take 1) 0 = 2 ∧ fOk (b.drop 1) ∧ v = ⟨2, [], ubn ((b.drop 1).take 8) 0⟩ ∧ r = (b.drop 1).drop 8))
theorem GV.fn {b : List UInt8} {v v' : Va} {r r' : List UInt8} (h : GV b v r) (h' : GV b v' r') : v = v' ∧ r = r' := by
  obtain ⟨_, ⟨h1, _, rfl, rfl⟩ | ⟨h1, _, rfl, rfl⟩⟩ := h <;> obtain ⟨_, ⟨h2, _, rfl, rfl⟩ | ⟨h2, _, rfl, rfl⟩⟩ := h'
  · exact ⟨rfl, rfl⟩
  · omega
  · omega
  · exact ⟨rfl, rfl⟩
theorem GV.n {b : List UInt8} {v : Va} {r : List UInt8} (h : GV b v r) : v.n < 18446744073709551616 := by
  obtain ⟨_, ⟨h1, _, rfl, rfl⟩ | ⟨h1, _, rfl, rfl⟩⟩ := h
  · show 0 < _; decide
  · exact ubn_take _ 8
theorem getA_c (b : List UInt8) (hb : b.length < 1000) : ACalls Try.prog 38 1 20 [.ptr 0 0] (rd b) (fun out H' => (∃ v r, GV b v r ∧ out = .ret (vav v) ∧ H' = rd r) ∨ ((∀ v r, ¬ GV b v r) ∧ out = gone ∧ H' = [])) := by
  have hC := rByte_c b (by omega)
  have hT := rText_c (b.drop 1) 16 (by simp; omega)
  have hF := rFloat_c (b.drop 1) (by simp; omega)
  have g1 : tOk (b.drop 1) 16 → 1 ≤ b.length → ubn (b.take 1) 0 = 1 → GV b ⟨1, ((b.drop 1).drop 4).take (ubn ((b.drop 1).take 4) 0), 0⟩ (((b.drop 1).drop 4).drop (ubn ((b.drop 1).take 4) 0)) := fun h1 h2 h3 => ⟨h2, .inl ⟨h3, h1, rfl, rfl⟩⟩
  have g2 : fOk (b.drop 1) → 1 ≤ b.length → ubn (b.take 1) 0 = 2 → GV b ⟨2, [], ubn ((b.drop 1).take 8) 0⟩ ((b.drop 1).drop 8) := fun h1 h2 h3 => ⟨h2, .inr ⟨h3, h1, rfl, rfl⟩⟩
  have n1 : ¬ tOk (b.drop 1) 16 → ubn (b.take 1) 0 = 1 → ∀ v r, ¬ GV b v r := fun h1 h2 v r h => by
    obtain ⟨_, ⟨_, h4, _⟩ | ⟨h4, _⟩⟩ := h
    · exact h1 h4
    · omega
  have n2 : ¬ fOk (b.drop 1) → ubn (b.take 1) 0 = 2 → ∀ v r, ¬ GV b v r := fun h1 h2 v r h => by
    obtain ⟨_, ⟨h4, _⟩ | ⟨_, h4, _⟩⟩ := h
    · omega
    · exact h1 h4
  have n3 : ¬ ubn (b.take 1) 0 = 1 → ¬ ubn (b.take 1) 0 = 2 → ∀ v r, ¬ GV b v r := fun h1 h2 v r h => by
    obtain ⟨_, ⟨h4, _⟩ | ⟨h4, _⟩⟩ := h <;> omega
  have n0 : b.length < 1 → ∀ v r, ¬ GV b v r := fun h1 v r h => by
    have := h.1; omega
  have hk := ubn_take b 1
  generalize ubn (b.take 1) 0 = k at *
  generalize ((b.drop 1).drop 4).take (ubn ((b.drop 1).take 4) 0) = tx at *
  generalize ((b.drop 1).drop 4).drop (ubn ((b.drop 1).take 4) 0) = r1 at *
  generalize ubn ((b.drop 1).take 8) 0 = x at *
  generalize (b.drop 1).drop 8 = r2 at *
  have hkk : IntKind.i64.wrap (k : Int) = (k : Int) := by rw [IntKind.wrap_i64]; omega
  refine acalls_of tok dok (f := 38) ⟨Try.func38, rfl, by kernel_rfl⟩ ?_; refine c_start (fun _ h => h) ?_
  refine awd ?_
  refine cal [0] (hC) ?_ ?_
  · intro x H' h; rcases h with ⟨hg, h1, h2⟩ | ⟨hg, h1, h2⟩ <;> first | (cases h1; done) | (cases h1; subst h2)
    first | (refine akc ?_) | (refine aec ?_)
    refine awd ?_
    rw [hkk]
    repeat' (first | (refine awd1 ?_) | (((with_reducible refine is_aops ?_); refine o_split rfl rfl rfl (fun hc => ?_) (fun hc => ?_) <;> rw [hc])) | (((with_reducible refine is_cond ?_); refine c_cond rfl (fun hc => ?_) (fun hc => ?_))) | (((with_reducible refine is_aop ?_); refine a_pick rfl rfl (fun hc => ?_) (fun hc => ?_) <;> rw [hc])) | fail)
    · obtain rfl : k = 1 := by simp at hc; omega
      refine cal [0] (hT) ?_ ?_
      · intro x H' h; rcases h with ⟨hg, h1, h2⟩ | ⟨hg, h1, h2⟩ <;> first | (cases h1; done) | (cases h1; subst h2)
        first | (refine akc ?_) | (refine aec ?_)
        refine awd ?_
        exact e_ret (H' := rd r1) (rest := _) rfl (.inl ⟨_, _, g1 hg (by assumption) rfl, rfl, rfl⟩) (.of_eq rfl) (Nat.le_of_ble_eq_true rfl)
      · intro x H' h; rcases h with ⟨hg, h1, h2⟩ | ⟨hg, h1, h2⟩ <;> first | (cases h1; done) | (cases h1; subst h2)
        refine awd ?_
        exact e_pan (H' := []) (rest := _) (.inr ⟨n1 hg rfl, rfl, rfl⟩) (.refl _) (Nat.le_of_ble_eq_true rfl)
    · obtain rfl : k = 2 := by simp at hc; omega
      refine cal [0] (hF) ?_ ?_
      · intro x H' h; rcases h with ⟨hg, h1, h2⟩ | ⟨hg, h1, h2⟩ <;> first | (cases h1; done) | (cases h1; subst h2)
        first | (refine akc ?_) | (refine aec ?_)
        refine awd ?_
        exact e_ret_to (H' := rd r2) (rest := _) (.wk (.refl _) (.cons (.refl _) (.cons (.refl _) (.cons (.box _ (.cons (.refl _) (.cons (.free _ _) (.cons (.refl _) .nil)))) (.refl _))))) rfl (.inl ⟨_, _, g2 hg (by assumption) rfl, rfl, rfl⟩) (.of_eq rfl) (Nat.le_of_ble_eq_true rfl)
      · intro x H' h; rcases h with ⟨hg, h1, h2⟩ | ⟨hg, h1, h2⟩ <;> first | (cases h1; done) | (cases h1; subst h2)
        refine awd ?_
        exact e_pan (H' := []) (rest := _) (.inr ⟨n2 hg rfl, rfl, rfl⟩) (.refl _) (Nat.le_of_ble_eq_true rfl)
    · rename_i hc1
      refine cal [0] (fail_c (b.drop 1)) ?_ ?_
      · first | (exact retN) | (exact retP)
      · intro xx H' hh
        obtain ⟨h1, rfl⟩ := hh
        cases h1
        refine awd ?_
        exact e_pan (H' := []) (rest := _) (.inr ⟨n3 (by simp at hc1; omega) (by simp at hc; omega), rfl, rfl⟩) (.refl _) (Nat.le_of_ble_eq_true rfl)
  · intro x H' h; rcases h with ⟨hg, h1, h2⟩ | ⟨hg, h1, h2⟩ <;> first | (cases h1; done) | (cases h1; subst h2)
    refine awd ?_
    exact e_pan (H' := []) (rest := _) (.inr ⟨n0 hg, rfl, rfl⟩) (.refl _) (Nat.le_of_ble_eq_true rfl)
end Go.Proofs.Ytdfnepbhgifkkaa
