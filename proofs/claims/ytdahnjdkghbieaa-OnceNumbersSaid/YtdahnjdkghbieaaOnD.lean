/- once: New, Len, Keep. -/
import Derived.Test.YtdahnjdkghbieaaOnC
namespace Go.Proofs.Ytdahnjdkghbieaa
open Go.Am
set_option linter.unusedSimpArgs false
set_option linter.unusedVariables false
set_option maxRecDepth 100000
theorem new_cc : ACalls Try.prog 14 0 2 [] [] (fun out H' => out = .ret (.ptr 0 0) ∧ H' = ca [] 0) := by
  refine acalls_of tok dok (f := 14) ⟨Try.func14, rfl, by kernel_rfl⟩ ?_; refine c_start (fun _ h => h) ?_
  repeat' (first | (refine awd1 ?_) | (((with_reducible refine is_aops ?_); refine o_split rfl rfl rfl (fun hc => ?_) (fun hc => ?_) <;> first | (exfalso; (simp only [decide_eq_true_eq, decide_eq_false_iff_not, beq_iff_eq, beq_eq_false_iff_ne, bne_iff_ne, bne_eq_false_iff_eq, List.length_map, Int.not_lt, Int.not_le] at hc); omega) | rw [hc])) | (((with_reducible refine is_cond ?_); refine c_cond rfl (fun hc => ?_) (fun hc => ?_) <;> first | (exfalso; (simp only [decide_eq_true_eq, decide_eq_false_iff_not, beq_iff_eq, beq_eq_false_iff_ne, bne_iff_ne, bne_eq_false_iff_eq, List.length_map, Int.not_lt, Int.not_le] at hc); omega) | skip)) | (((with_reducible refine is_aop ?_); refine a_pick rfl rfl (fun hc => ?_) (fun hc => ?_) <;> first | (exfalso; (simp only [decide_eq_true_eq, decide_eq_false_iff_not, beq_iff_eq, beq_eq_false_iff_ne, bne_iff_ne, bne_eq_false_iff_eq, List.length_map, Int.not_lt, Int.not_le] at hc); omega) | rw [hc])) | ((with_reducible refine ret1 ?_); first | (refine akc ?_) | (refine aec ?_)) | (with_reducible exact retN) | (with_reducible exact retP) | fail | fail)
  refine e_ret_to (H' := ca [] 0) (rest := []) (Conv.nilBox (id := 0) (j := 0) rfl rfl) rfl ⟨rfl, rfl⟩ permT (Nat.le_of_ble_eq_true rfl)
theorem len_cc (l : List Td) (cp : Nat) : ACalls Try.prog 20 2 2 [.ptr 0 0] (ca l cp) (fun out H' => out = .ret (.v (.int .i64 l.length)) ∧ H' = ca l cp) := by
  refine acalls_of tok dok (f := 20) ⟨Try.func20, rfl, by kernel_rfl⟩ ?_; refine c_start (fun _ h => h) ?_
  repeat' (first | (refine awd1 ?_) | (((with_reducible refine is_aops ?_); refine o_split rfl rfl rfl (fun hc => ?_) (fun hc => ?_) <;> first | (exfalso; (simp only [decide_eq_true_eq, decide_eq_false_iff_not, beq_iff_eq, beq_eq_false_iff_ne, bne_iff_ne, bne_eq_false_iff_eq, List.length_map, Int.not_lt, Int.not_le] at hc); omega) | rw [hc])) | (((with_reducible refine is_cond ?_); refine c_cond rfl (fun hc => ?_) (fun hc => ?_) <;> first | (exfalso; (simp only [decide_eq_true_eq, decide_eq_false_iff_not, beq_iff_eq, beq_eq_false_iff_ne, bne_iff_ne, bne_eq_false_iff_eq, List.length_map, Int.not_lt, Int.not_le] at hc); omega) | skip)) | (((with_reducible refine is_aop ?_); refine a_pick rfl rfl (fun hc => ?_) (fun hc => ?_) <;> first | (exfalso; (simp only [decide_eq_true_eq, decide_eq_false_iff_not, beq_iff_eq, beq_eq_false_iff_ne, bne_iff_ne, bne_eq_false_iff_eq, List.length_map, Int.not_lt, Int.not_le] at hc); omega) | rw [hc])) | ((with_reducible refine ret1 ?_); first | (refine akc ?_) | (refine aec ?_)) | (with_reducible exact retN) | (with_reducible exact retP) | fail | fail)
  exact e_ret (H' := ca l cp) (rest := []) rfl ⟨rfl, rfl⟩ permT (Nat.le_of_ble_eq_true rfl)
/-- may a number and its answer be kept? -/
def keeps (l : List Td) (c s : Int) (b : List UInt8) : Bool := decide ((look l c s).2 = 1) && decide (0 ≤ c ∧ c ≤ 255 ∧ 1 ≤ s ∧ s ≤ 1073741824 ∧ b.length ≤ 1048576)
/-- .. and then -/
def keep (l : List Td) (c s : Int) (b : List UInt8) : List Td :=
  if keeps l c s b then (if (tkeys l)[kpos (tkeys l) c]? = some c then l.set (kpos (tkeys l) c) ⟨c, s, b⟩ else insAt l (kpos (tkeys l) c) ⟨c, s, b⟩) else l
/-- a cache's objects; the list's is called n -/
def caN (n : Nat) (l : List Td) (cp : Nat) : Heap := [(0, .box [.arr n 0 l.length cp]), (n, .seq (l.map trow) ((cp - l.length) * 3))]
theorem keep_c0 (l : List Td) (c s : Int) (b : List UInt8) (cp : Nat) (hl : l.length < 1000000) (hcp0 : l.length ≤ cp) (hcp : cp ≤ maxLen) (hlb : ∀ t ∈ l, t.b.length < 70368744177664) (hb : b.length < 70368744177664) (hs : (tkeys l).Pairwise (· < ·)) :
    ACalls Try.prog 16 2 60 [.ptr 0 0, .v (.int .i64 c), .v (.int .i64 s), .list (b.map brow) .free] (ca l cp) (fun out H' => ∃ cp' n, 2 ≤ n ∧ n < 60 ∧ (keep l c s b).length ≤ cp' ∧ cp' ≤ maxLen ∧ out = .ret (.v (.bool (keeps l c s b))) ∧ H' = caN n (keep l c s b) cp') := by
  have hlk := look_c l c s cp (by omega) hlb hs
  have hri := right_c c s b
  have hcl := clone_c (b.map brow) (fun row hr => by obtain ⟨x, _, rfl⟩ := List.mem_map.1 hr; rfl) (by rw [List.length_map]; exact hb)
  have hf := find_c l c cp (by omega) hs
  have hvoid : (l.map trow).length + (cp - l.length) * 3 = 0 → cp = 0 := by
    rw [List.length_map]; omega
  refine acalls_of tok dok (f := 16) ⟨Try.func16, rfl, by kernel_rfl⟩ ?_; refine c_start (fun _ h => h) ?_
  repeat' (first | (refine awd1 ?_) | (((with_reducible refine is_aops ?_); refine o_split rfl rfl rfl (fun hc => ?_) (fun hc => ?_) <;> first | (exfalso; (simp only [decide_eq_true_eq, decide_eq_false_iff_not, beq_iff_eq, beq_eq_false_iff_ne, bne_iff_ne, bne_eq_false_iff_eq, List.length_map, Int.not_lt, Int.not_le] at hc); omega) | rw [hc])) | (((with_reducible refine is_cond ?_); refine c_cond rfl (fun hc => ?_) (fun hc => ?_) <;> first | (exfalso; (simp only [decide_eq_true_eq, decide_eq_false_iff_not, beq_iff_eq, beq_eq_false_iff_ne, bne_iff_ne, bne_eq_false_iff_eq, List.length_map, Int.not_lt, Int.not_le] at hc); omega) | skip)) | (((with_reducible refine is_aop ?_); refine a_pick rfl rfl (fun hc => ?_) (fun hc => ?_) <;> first | (exfalso; (simp only [decide_eq_true_eq, decide_eq_false_iff_not, beq_iff_eq, beq_eq_false_iff_ne, bne_iff_ne, bne_eq_false_iff_eq, List.length_map, Int.not_lt, Int.not_le] at hc); omega) | rw [hc])) | ((with_reducible refine ret1 ?_); first | (refine akc ?_) | (refine aec ?_)) | (with_reducible exact retN) | (with_reducible exact retP) | (refine cal [0, 1] (hlk) ?_ ?_) | (refine cal [] (hri) ?_ ?_) | (refine cal [] (hcl) ?_ ?_) | (refine cal [0, 1] (hf) ?_ ?_) | fail)
  · have hn : keeps l c s b = false := by
      unfold keeps
      rw [decide_eq_false (by simpa using hc)]; rfl
    have hk : keep l c s b = l := by unfold keep; rw [hn]; rfl
    rw [hk, hn]
    exact e_ret_to (H' := caN 30 l cp) (rest := []) (Conv.anewBox (id := 1) (bid := 0) (j := 0) (.swap _ _ _) rfl hvoid) rfl ⟨cp, 30, by omega, by omega, hcp0, hcp, rfl, rfl⟩ permT (Nat.le_of_ble_eq_true rfl)
  · have hn : keeps l c s b = false := by
      unfold keeps
      rw [Bool.and_eq_false_iff]; right
      have h0 : decide (0 ≤ c ∧ c ≤ 255 ∧ 1 ≤ s ∧ s ≤ 1073741824 ∧ b.length ≤ 1048576) = false := by rwa [Bool.not_eq_true'] at hc
      exact h0
    have hk : keep l c s b = l := by unfold keep; rw [hn]; rfl
    rw [hk, hn]
    exact e_ret_to (H' := caN 30 l cp) (rest := []) (Conv.anewBox (id := 1) (bid := 0) (j := 0) (.swap _ _ _) rfl hvoid) rfl ⟨cp, 30, by omega, by omega, hcp0, hcp, rfl, rfl⟩ permT (Nat.le_of_ble_eq_true rfl)
  · have hc' := of_decide_eq_true hc
    have hp : kpos (tkeys l) c < l.length := by
      have h1 := (List.getElem?_eq_some_iff.1 hc').1
      unfold tkeys at h1 ⊢
      rwa [List.length_map] at h1
    have hn : keeps l c s b = true := by
      rename_i hc1 hc2
      unfold keeps
      rw [Bool.and_eq_true]
      exact ⟨by simpa using hc1, by simpa using hc2⟩
    have hk : keep l c s b = l.set (kpos (tkeys l) c) ⟨c, s, b⟩ := by unfold keep; rw [hn, if_pos rfl, if_pos hc']
    rw [hk, hn]
    generalize kpos (tkeys l) c = p at *
    ((with_reducible refine is_ev ?_); first | (refine v_qS rfl rfl rfl rfl (fun _ h => h) (fun _ h => h) ?_ ?_) | (refine v_qS rfl rfl rfl rfl (qAnd2 (fun _ h => h)) (fun _ h => h) ?_ ?_)); focus (first | omega | (simp; done) | (simp; omega))
    repeat' (first | (refine awd1 ?_) | (((with_reducible refine is_aops ?_); refine o_split rfl rfl rfl (fun hc => ?_) (fun hc => ?_) <;> first | (exfalso; (simp only [decide_eq_true_eq, decide_eq_false_iff_not, beq_iff_eq, beq_eq_false_iff_ne, bne_iff_ne, bne_eq_false_iff_eq, List.length_map, Int.not_lt, Int.not_le] at hc); omega) | rw [hc])) | (((with_reducible refine is_cond ?_); refine c_cond rfl (fun hc => ?_) (fun hc => ?_) <;> first | (exfalso; (simp only [decide_eq_true_eq, decide_eq_false_iff_not, beq_iff_eq, beq_eq_false_iff_ne, bne_iff_ne, bne_eq_false_iff_eq, List.length_map, Int.not_lt, Int.not_le] at hc); omega) | skip)) | (((with_reducible refine is_aop ?_); refine a_pick rfl rfl (fun hc => ?_) (fun hc => ?_) <;> first | (exfalso; (simp only [decide_eq_true_eq, decide_eq_false_iff_not, beq_iff_eq, beq_eq_false_iff_ne, bne_iff_ne, bne_eq_false_iff_eq, List.length_map, Int.not_lt, Int.not_le] at hc); omega) | rw [hc])) | ((with_reducible refine ret1 ?_); first | (refine akc ?_) | (refine aec ?_)) | (with_reducible exact retN) | (with_reducible exact retP) | fail | fail)
    obtain ⟨t, ht⟩ : ∃ t, l[p]? = some t := ⟨_, List.getElem?_eq_getElem hp⟩
    ((with_reducible refine is_aop ?_); refine a_storeSeq (sz := 3) (rows := l.map trow) (i := p) (j := 0) (row' := trow ⟨c, s, b⟩) rfl rfl rfl (fun _ h => h) rfl rfl (tdOk l) ((by rw [List.getElem?_map, ht]; rfl)) (by first | decide | (simp; done)) (by first | rfl | (simp; done)) (by first | rfl | (simp; done) | (simp; omega)) ?_)
    repeat' (first | (refine awd1 ?_) | (((with_reducible refine is_aops ?_); refine o_split rfl rfl rfl (fun hc => ?_) (fun hc => ?_) <;> first | (exfalso; (simp only [decide_eq_true_eq, decide_eq_false_iff_not, beq_iff_eq, beq_eq_false_iff_ne, bne_iff_ne, bne_eq_false_iff_eq, List.length_map, Int.not_lt, Int.not_le] at hc); omega) | rw [hc])) | (((with_reducible refine is_cond ?_); refine c_cond rfl (fun hc => ?_) (fun hc => ?_) <;> first | (exfalso; (simp only [decide_eq_true_eq, decide_eq_false_iff_not, beq_iff_eq, beq_eq_false_iff_ne, bne_iff_ne, bne_eq_false_iff_eq, List.length_map, Int.not_lt, Int.not_le] at hc); omega) | skip)) | (((with_reducible refine is_aop ?_); refine a_pick rfl rfl (fun hc => ?_) (fun hc => ?_) <;> first | (exfalso; (simp only [decide_eq_true_eq, decide_eq_false_iff_not, beq_iff_eq, beq_eq_false_iff_ne, bne_iff_ne, bne_eq_false_iff_eq, List.length_map, Int.not_lt, Int.not_le] at hc); omega) | rw [hc])) | ((with_reducible refine ret1 ?_); first | (refine akc ?_) | (refine aec ?_)) | (with_reducible exact retN) | (with_reducible exact retP) | fail | fail)
    exact e_ret_to (H' := [(0, .box [.arr 33 0 l.length cp]), (33, .seq ((l.map trow).set p (trow ⟨c, s, b⟩)) ((cp - l.length) * 3))]) (rest := _) (Conv.anewBox (id := 1) (bid := 0) (j := 0) (.refl _) rfl (by rw [List.length_set]; exact hvoid)) rfl ⟨cp, 33, by omega, by omega, by rw [List.length_set]; exact hcp0, hcp, rfl, by unfold caN; rw [List.map_set, List.length_set]⟩ (.swap _ _ _) (Nat.le_of_ble_eq_true rfl)
  · have hc' := of_decide_eq_false hc
    have hp : kpos (tkeys l) c ≤ (l.map trow).length := by
      have := kpos_le (tkeys l) c
      unfold tkeys at this ⊢
      simpa using this
    have hn : keeps l c s b = true := by
      rename_i hc1 hc2
      unfold keeps
      rw [Bool.and_eq_true]
      exact ⟨by simpa using hc1, by simpa using hc2⟩
    have hk : keep l c s b = insAt l (kpos (tkeys l) c) ⟨c, s, b⟩ := by unfold keep; rw [hn, if_pos rfl, if_neg hc']
    rw [hk, hn]
    generalize kpos (tkeys l) c = p at *
    have hin := insert_c (l.map trow) (trow ⟨c, s, b⟩) p cp (tdOk l) (tdOk [⟨c, s, b⟩]) hp (by rw [List.length_map]; omega) (by rw [List.length_map]; exact hcp0) hcp
    rw [List.length_map] at hin
    (refine calw [1] (hin) ?_ ?_)
    · intro xx H' hh
      obtain ⟨cp', c1, c2, h', rfl⟩ := hh
      cases h'
      first | (refine akc ?_) | (refine aec ?_)
      repeat' (first | (refine awd1 ?_) | (((with_reducible refine is_aops ?_); refine o_split rfl rfl rfl (fun hc => ?_) (fun hc => ?_) <;> first | (exfalso; (simp only [decide_eq_true_eq, decide_eq_false_iff_not, beq_iff_eq, beq_eq_false_iff_ne, bne_iff_ne, bne_eq_false_iff_eq, List.length_map, Int.not_lt, Int.not_le] at hc); omega) | rw [hc])) | (((with_reducible refine is_cond ?_); refine c_cond rfl (fun hc => ?_) (fun hc => ?_) <;> first | (exfalso; (simp only [decide_eq_true_eq, decide_eq_false_iff_not, beq_iff_eq, beq_eq_false_iff_ne, bne_iff_ne, bne_eq_false_iff_eq, List.length_map, Int.not_lt, Int.not_le] at hc); omega) | skip)) | (((with_reducible refine is_aop ?_); refine a_pick rfl rfl (fun hc => ?_) (fun hc => ?_) <;> first | (exfalso; (simp only [decide_eq_true_eq, decide_eq_false_iff_not, beq_iff_eq, beq_eq_false_iff_ne, bne_iff_ne, bne_eq_false_iff_eq, List.length_map, Int.not_lt, Int.not_le] at hc); omega) | rw [hc])) | ((with_reducible refine ret1 ?_); first | (refine akc ?_) | (refine aec ?_)) | (with_reducible exact retN) | (with_reducible exact retP) | fail | fail)
      exact e_ret (H' := [(0, .box [.arr 33 0 (l.length + 1) cp']), (33, .seq (insAt (l.map trow) p (trow ⟨c, s, b⟩)) ((cp' - (l.length + 1)) * 3))]) (rest := _) rfl ⟨cp', 33, by omega, by omega, by rw [insAt_len _ (by simpa using hp)]; exact c1, c2, rfl, by unfold caN; rw [insAt_map, insAt_len _ (by simpa using hp)]⟩ (.swap _ _ _) (Nat.le_of_ble_eq_true rfl)
    · intro xx H' hh
      obtain ⟨_, _, _, h', _⟩ := hh
      cases h'
theorem caN_ren (n : Nat) (hn : 2 ≤ n) (l : List Td) (cp : Nat) : caN n l cp = renH (rn [0, 1, n] 60) (caN 2 l cp) := by
  have h : ∀ rows : List (List AV), Res.ren (rn [0, 1, n] 60) (.seq rows ((cp - l.length) * 3)) = .seq rows ((cp - l.length) * 3) := fun rows => by simp [Res.ren]
  simp [caN, renH, Res.ren, rn, AV.ren, AV.renL]
theorem keep_c (l : List Td) (c s : Int) (b : List UInt8) (cp : Nat) (hl : l.length < 1000000) (hcp0 : l.length ≤ cp) (hcp : cp ≤ maxLen) (hlb : ∀ t ∈ l, t.b.length < 70368744177664) (hb : b.length < 70368744177664) (hs : (tkeys l).Pairwise (· < ·)) :
    ACalls Try.prog 16 2 3 [.ptr 0 0, .v (.int .i64 c), .v (.int .i64 s), .list (b.map brow) .free] (ca l cp) (fun out H' => ∃ cp', (keep l c s b).length ≤ cp' ∧ cp' ≤ maxLen ∧ out = .ret (.v (.bool (keeps l c s b))) ∧ H' = caN 2 (keep l c s b) cp') :=
  (keep_c0 l c s b cp hl hcp0 hcp hlb hb hs).ren (by omega) fun out H' hh => by
    obtain ⟨cp', n, n1, n2, c1, c2, rfl, rfl⟩ := hh
    refine ⟨[0, 1, n], .ret (.v (.bool (keeps l c s b))), caN 2 (keep l c s b) cp', ?_, ?_, fun i h => ?_, Nat.le_refl _, ?_, caN_ren n n1 _ _, cp', c1, c2, rfl, rfl⟩
    · simp; omega
    · simp; omega
    · have : i = 0 ∨ i = 1 := by omega
      rcases this with rfl | rfl <;> rfl
    · simp [AOut.ren, AV.ren]
end Go.Proofs.Ytdahnjdkghbieaa
