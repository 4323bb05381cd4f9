/- Rows of spans, by their cuts. -/
import Derived.Test.YtjklcpfkmnjjkaaSpC
namespace Go.Proofs.Ytjklcpfkmnjjkaa
set_option linter.unusedSimpArgs false
set_option linter.unusedVariables false
def noB : ByteArray := ⟨#[]⟩
def lt (a b : ByteArray) : Prop := Op.bytesLess a.toList b.toList = true
def cutsOf (cs : List ByteArray) : List Sp := List.zip (noB :: cs) (cs ++ [noB])
def cLo (cs : List ByteArray) (i : Nat) : ByteArray := (noB :: cs).getD i noB
def cHi (cs : List ByteArray) (i : Nat) : ByteArray := (cs ++ [noB]).getD i noB
theorem cuts_len (cs : List ByteArray) : (cutsOf cs).length = cs.length + 1 := by simp [cutsOf]
theorem cuts_at (cs : List ByteArray) {i : Nat} (h : i ≤ cs.length) : (cutsOf cs)[i]? = some (cLo cs i, cHi cs i) := by
  unfold cutsOf cLo cHi
  rw [List.getElem?_zip_eq_some]
  have h1 : i < (noB :: cs).length := by simp; omega
  have h2 : i < (cs ++ [noB]).length := by simp; omega
  simp only [List.getD_eq_getElem?_getD, List.getElem?_eq_getElem h1, List.getElem?_eq_getElem h2, Option.getD_some]
  exact ⟨trivial, trivial⟩
theorem spD_cuts (cs : List ByteArray) {i : Nat} (h : i ≤ cs.length) : spD (cutsOf cs) i = (cLo cs i, cHi cs i) := by
  unfold spD
  rw [List.getD_eq_getElem?_getD, cuts_at cs h]; rfl
theorem cHi_next (cs : List ByteArray) {i : Nat} (h : i < cs.length) : cHi cs i = cLo cs (i + 1) := by
  unfold cHi cLo
  simp only [List.getD_eq_getElem?_getD, List.getElem?_append_left h, List.getElem?_cons_succ]
theorem cHi_last (cs : List ByteArray) : cHi cs cs.length = noB := by
  unfold cHi
  simp [List.getD_eq_getElem?_getD]
theorem cLo_first (cs : List ByteArray) : cLo cs 0 = noB := rfl
theorem lt_ne {a b : ByteArray} (h : lt a b) : b.toList.isEmpty = false := by
  unfold lt at h
  cases hb : b.toList with
  | nil => rw [hb] at h; cases a.toList <;> simp [Op.bytesLess] at h
  | cons _ _ => rfl
/-- cuts that rise -/
def Rise (cs : List ByteArray) : Prop := ∀ i, i < cs.length → lt (cLo cs i) (cLo cs (i + 1)) ∧ (cLo cs (i + 1)).size ≤ 16
theorem cLo_size {cs : List ByteArray} (h : Rise cs) : ∀ i, i ≤ cs.length → (cLo cs i).size ≤ 16
  | 0, _ => by rw [cLo_first]; decide
  | i + 1, hi => (h i hi).2
theorem right_cut {cs : List ByteArray} (h : Rise cs) {i : Nat} (hi : i ≤ cs.length) : sRight (cLo cs i) (cHi cs i) = true := by
  unfold sRight
  have h1 := cLo_size h i hi
  rcases Nat.lt_or_ge i cs.length with k | k
  · rw [cHi_next cs k]
    have h2 := h i k
    have h3 : Op.bytesLess (cLo cs i).toList (cLo cs (i + 1)).toList = true := h2.1
    simp only [Bool.and_eq_true, decide_eq_true_eq, h3, Bool.or_true, and_true]
    omega
  · obtain rfl : i = cs.length := by omega
    rw [cHi_last]
    have e : noB.toList.isEmpty = true := by kernel_rfl
    have e2 : noB.size = 0 := rfl
    simp only [Bool.and_eq_true, decide_eq_true_eq, e, Bool.true_or, and_true]
    omega
theorem cover_cuts {cs : List ByteArray} (h : Rise cs) : sCover (cutsOf cs) = true := by
  have e : noB.toList.isEmpty = true := by kernel_rfl
  unfold sCover
  rw [cuts_len, Nat.add_sub_cancel, spD_cuts cs (Nat.zero_le _), spD_cuts cs (Nat.le_refl _), cHi_last, cLo_first]
  have hne : (cutsOf cs).isEmpty = false := by
    cases hc : cutsOf cs with
    | nil => have := cuts_len cs; rw [hc] at this; simp at this
    | cons _ _ => rfl
  simp only [hne, e, Bool.not_false, Bool.true_and, List.all_eq_true, List.mem_range]
  intro i hi
  have hi' : i ≤ cs.length := by omega
  unfold cvOk
  rw [spD_cuts cs hi', right_cut h hi']
  cases i with
  | zero => rfl
  | succ i =>
    have hlt : i < cs.length := by omega
    have h1 := (h i hlt).1
    rw [Nat.add_sub_cancel, spD_cuts cs (by omega : i ≤ cs.length), cHi_next cs hlt, lt_ne h1]
    simp
theorem lt_iff (a b : ByteArray) : lt a b ↔ a.data.toList < b.data.toList := (ltB a b).symm
theorem lt_irr (a : ByteArray) : ¬ lt a a := fun h => List.lt_irrefl _ ((lt_iff a a).1 h)
theorem lt_tr {a b c : ByteArray} (h : lt a b) (k : lt b c) : lt a c := (lt_iff a c).2 (List.lt_trans ((lt_iff a b).1 h) ((lt_iff b c).1 k))
theorem cLo_up {cs : List ByteArray} (h : Rise cs) {i : Nat} : ∀ k, i + k + 1 ≤ cs.length → lt (cLo cs i) (cLo cs (i + k + 1))
  | 0, hk => (h i hk).1
  | k + 1, hk => lt_tr (cLo_up h k (by omega)) (h (i + k + 1) (by omega)).1
theorem meet_cut {cs : List ByteArray} (h : Rise cs) {i j : Nat} (hj : j < i) (hi : i ≤ cs.length) : sMeet (cLo cs i) (cHi cs i) (cLo cs j) (cHi cs j) = false := by
  rw [sMeet_eq]
  unfold rMeet
  have hn := cHi_next cs (i := j) (by omega)
  have he := lt_ne (h j (by omega)).1
  have hno : Op.bytesLess (cLo cs i).toList (cLo cs (j + 1)).toList = false := by
    cases hb : Op.bytesLess (cLo cs i).toList (cLo cs (j + 1)).toList
    · rfl
    · exfalso
      have hb' : lt (cLo cs i) (cLo cs (j + 1)) := hb
      rcases Nat.lt_or_ge (j + 1) i with k | k
      · have h2 := cLo_up h (i := j + 1) (i - (j + 1) - 1) (by omega)
        have e : j + 1 + (i - (j + 1) - 1) + 1 = i := by omega
        rw [e] at h2
        exact lt_irr _ (lt_tr hb' h2)
      · have e : i = j + 1 := by omega
        rw [e] at hb'
        exact lt_irr _ hb'
  rw [hn, he, hno]
  simp
theorem apart_cuts {cs : List ByteArray} (h : Rise cs) : sApart (cutsOf cs) = true := by
  unfold sApart
  rw [cuts_len, List.all_eq_true]
  intro i hi
  rw [List.mem_range] at hi
  have hi' : i ≤ cs.length := by omega
  unfold apOk
  rw [spD_cuts cs hi', right_cut h hi', Bool.true_and, List.all_eq_true]
  intro j hj
  rw [List.mem_range] at hj
  rw [spD_cuts cs (by omega : j ≤ cs.length), meet_cut h hj hi']
  rfl
theorem not_lt_nil (n : ByteArray) : ¬ lt n noB := fun h => by
  have e : noB.toList.isEmpty = true := by kernel_rfl
  rw [lt_ne h] at e; cases e
/-- each name lies in just one -/
theorem has_one {cs : List ByteArray} (h : Rise cs) (n : ByteArray) : ∃ m, m ≤ cs.length ∧ ∀ i, i ≤ cs.length → sHas (cLo cs i) (cHi cs i) n = decide (i = m) := by
  have hdown : ∀ i k, i + k + 1 ≤ cs.length → ¬ lt n (cLo cs (i + k + 1)) → ¬ lt n (cLo cs i) := fun i k hk h1 h2 => h1 (lt_tr h2 (cLo_up h k hk))
  have hsh : ∀ i, i ≤ cs.length → (sHas (cLo cs i) (cHi cs i) n = true ↔ ¬ lt n (cLo cs i) ∧ (i = cs.length ∨ lt n (cLo cs (i + 1)))) := fun i hi => by
    unfold sHas lt
    rcases Nat.lt_or_ge i cs.length with k | k
    · rw [cHi_next cs k, lt_ne (h i k).1]
      have : i ≠ cs.length := by omega
      simp [this]
    · obtain rfl : i = cs.length := by omega
      have e : noB.toList.isEmpty = true := by kernel_rfl
      rw [cHi_last, e]
      simp
  have hex : ∀ k, k ≤ cs.length → (¬ lt n (cLo cs k)) ∨ ∃ m, m < k ∧ ¬ lt n (cLo cs m) ∧ lt n (cLo cs (m + 1)) := by
    intro k
    induction k with
    | zero => intro _; exact .inl (not_lt_nil n)
    | succ k ih =>
      intro hk
      rcases ih (by omega) with h1 | ⟨m, h1, h2, h3⟩
      · by_cases h4 : lt n (cLo cs (k + 1))
        · exact .inr ⟨k, Nat.lt_succ_self k, h1, h4⟩
        · exact .inl h4
      · exact .inr ⟨m, by omega, h2, h3⟩
  have hm : ∃ m, m ≤ cs.length ∧ ¬ lt n (cLo cs m) ∧ (m = cs.length ∨ lt n (cLo cs (m + 1))) := by
    rcases hex cs.length (Nat.le_refl _) with h1 | ⟨m, h1, h2, h3⟩
    · exact ⟨_, Nat.le_refl _, h1, .inl rfl⟩
    · exact ⟨m, by omega, h2, .inr h3⟩
  obtain ⟨m, m1, m2, m3⟩ := hm
  refine ⟨m, m1, fun i hi => ?_⟩
  rw [Bool.eq_iff_iff, hsh i hi, decide_eq_true_eq]
  constructor
  · rintro ⟨h1, h2⟩
    rcases Nat.lt_trichotomy i m with h3 | h3 | h3
    · exfalso
      rcases h2 with h2 | h2
      · omega
      · rcases Nat.lt_or_ge (i + 1) m with h4 | h4
        · have := hdown (i + 1) (m - (i + 1) - 1) (by omega) (show ¬ lt n (cLo cs (i + 1 + (m - (i + 1) - 1) + 1)) from (show i + 1 + (m - (i + 1) - 1) + 1 = m by omega).symm ▸ m2)
          exact this h2
        · obtain rfl : m = i + 1 := by omega
          exact m2 h2
    · exact h3
    · exfalso
      rcases m3 with m3 | m3
      · omega
      · rcases Nat.lt_or_ge (m + 1) i with h4 | h4
        · have := hdown (m + 1) (i - (m + 1) - 1) (by omega) (show ¬ lt n (cLo cs (m + 1 + (i - (m + 1) - 1) + 1)) from (show m + 1 + (i - (m + 1) - 1) + 1 = i by omega).symm ▸ h1)
          exact this m3
        · obtain rfl : i = m + 1 := by omega
          exact h1 m3
  · rintro rfl
    exact ⟨m2, m3⟩
def zc (lo : ByteArray) (cs : List ByteArray) : List Sp := List.zip (lo :: cs) (cs ++ [noB])
/-- a cut is put in -/
theorem zc_ins (at' : ByteArray) : ∀ (k : Nat) (cs : List ByteArray) (lo : ByteArray), k ≤ cs.length → zc lo (cs.take k ++ at' :: cs.drop k) = (zc lo cs).take k ++ [((lo :: cs).getD k noB, at'), (at', (cs ++ [noB]).getD k noB)] ++ (zc lo cs).drop (k + 1)
  | 0, [], lo, _ => by simp [zc]
  | 0, c :: cs, lo, _ => by simp [zc]
  | k + 1, [], lo, h => by simp at h
  | k + 1, c :: cs, lo, h => by
    have ih := zc_ins at' k cs c (by simpa using h)
    have e : zc lo (c :: cs) = (lo, c) :: zc c cs := by simp [zc]
    have e2 : zc lo ((c :: cs).take (k + 1) ++ at' :: (c :: cs).drop (k + 1)) = (lo, c) :: zc c (cs.take k ++ at' :: cs.drop k) := by simp [zc]
    rw [e2, ih, e]
    simp
/-- a cut is taken out -/
theorem zc_del : ∀ (k : Nat) (cs : List ByteArray) (lo : ByteArray), k < cs.length → zc lo (cs.take k ++ cs.drop (k + 1)) = (zc lo cs).take k ++ [((lo :: cs).getD k noB, (cs ++ [noB]).getD (k + 1) noB)] ++ (zc lo cs).drop (k + 2)
  | k, [], lo, h => by simp at h
  | 0, [c], lo, _ => by simp [zc]
  | 0, c :: d :: cs, lo, _ => by simp [zc]
  | k + 1, c :: cs, lo, h => by
    have ih := zc_del k cs c (by simpa using h)
    have e : zc lo (c :: cs) = (lo, c) :: zc c cs := by simp [zc]
    have e2 : zc lo ((c :: cs).take (k + 1) ++ (c :: cs).drop (k + 1 + 1)) = (lo, c) :: zc c (cs.take k ++ cs.drop (k + 1)) := by simp [zc]
    rw [e2, ih, e]
    simp
def RiseR : ByteArray → List ByteArray → Prop
  | _, [] => True
  | lo, c :: cs => lt lo c ∧ c.size ≤ 16 ∧ RiseR c cs
theorem riseR_ins {at' : ByteArray} (ha : at'.size ≤ 16) : ∀ (k : Nat) (cs : List ByteArray) (lo : ByteArray), RiseR lo cs → k ≤ cs.length → lt ((lo :: cs).getD k noB) at' → (k < cs.length → lt at' (cs.getD k noB)) → RiseR lo (cs.take k ++ at' :: cs.drop k)
  | 0, [], lo, _, _, h1, _ => ⟨h1, ha, trivial⟩
  | 0, c :: cs, lo, h, _, h1, h2 => ⟨h1, ha, h2 (by simp), h.2.1, h.2.2⟩
  | k + 1, [], lo, _, hk, _, _ => by simp at hk
  | k + 1, c :: cs, lo, h, hk, h1, h2 => ⟨h.1, h.2.1, riseR_ins ha k cs c h.2.2 (by simpa using hk) (by simpa using h1) (fun hk' => by simpa using h2 (by simpa using hk'))⟩
theorem riseR_del : ∀ (k : Nat) (cs : List ByteArray) (lo : ByteArray), RiseR lo cs → RiseR lo (cs.take k ++ cs.drop (k + 1))
  | k, [], lo, _ => by simp [RiseR]
  | 0, [c], lo, _ => by simp [RiseR]
  | 0, c :: d :: cs, lo, h => ⟨lt_tr h.1 h.2.2.1, h.2.2.2.1, h.2.2.2.2⟩
  | k + 1, c :: cs, lo, h => ⟨h.1, h.2.1, riseR_del k cs c h.2.2⟩
theorem rise_of : ∀ (cs : List ByteArray) (lo : ByteArray), RiseR lo cs → ∀ i, i < cs.length → lt ((lo :: cs).getD i noB) ((lo :: cs).getD (i + 1) noB) ∧ ((lo :: cs).getD (i + 1) noB).size ≤ 16
  | [], lo, _, i, hi => by simp at hi
  | c :: cs, lo, h, 0, _ => ⟨h.1, h.2.1⟩
  | c :: cs, lo, h, i + 1, hi => rise_of cs c h.2.2 i (by simpa using hi)
theorem RiseR.rise {cs : List ByteArray} (h : RiseR noB cs) : Rise cs := rise_of cs noB h
theorem split_yes {lo hi s : ByteArray} (h : sSplitB lo hi s = true) : lt lo s ∧ s.size ≤ 16 ∧ (hi.toList.isEmpty = true ∨ lt s hi) := by
  unfold sSplitB sRight at h
  simp only [Bool.and_eq_true, Bool.or_eq_true, decide_eq_true_eq] at h
  exact ⟨h.2.1, by omega, h.2.2.1⟩
theorem join_yes {cs : List ByteArray} (h : Rise cs) {i : Nat} (hi : i < cs.length) : sJoinB (cLo cs i) (cHi cs i) (cLo cs (i + 1)) (cHi cs (i + 1)) = true := by
  unfold sJoinB
  rw [right_cut h (Nat.le_of_lt hi), right_cut h hi, cHi_next cs hi, lt_ne (h i hi).1]
  simp
end Go.Proofs.Ytjklcpfkmnjjkaa
