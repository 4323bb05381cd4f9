/- once: read. -/
import Derived.Test.YtdahnjdkghbieaaOnN
import Derived.Test.YtdahnjdkghbieaaOcR
namespace Go.Proofs.Ytdahnjdkghbieaa
open Go.Am
set_option linter.unusedSimpArgs false
set_option linter.unusedVariables false
set_option maxRecDepth 100000
/-- one client's -/
def pT1 (last : Int) (l : List UInt8) : Option (Td × List UInt8) :=
  bnd (pB l) fun c l => bnd (pN l) fun s l => bnd (pT l) fun b l => if last < (c : Int) ∧ 1 ≤ s ∧ s ≤ 1073741824 then some (⟨c, s, b⟩, l) else none
def pL : Nat → Int → List UInt8 → Option (List Td × List UInt8)
  | 0, _, l => some ([], l)
  | n + 1, last, l => bnd (pT1 last l) fun t l => bnd (pL n t.c l) fun r l => some (t :: r, l)
def pC (l : List UInt8) : Option (List Td × List UInt8) := bnd (pN l) fun n l => pL n (-1) l
theorem pT1_mono (last : Int) : Mono (pT1 last) := pB_mono.bnd fun c => pN_mono.bnd fun s => pT_mono.bnd fun b => fun l x r y h => by
  split at h
  · rename_i hc
    cases h
    exact if_pos hc
  · cases h
theorem pL_mono : ∀ (n : Nat) (last : Int), Mono (pL n last)
  | 0, _ => Mono.ret _
  | n + 1, last => (pT1_mono last).bnd fun t => (pL_mono n t.c).bnd fun r => Mono.ret _
theorem pC_mono : Mono pC := pN_mono.bnd fun n => pL_mono n (-1)
theorem pT1_enc {t : Td} {last : Int} (h : tdB t) (hl : last < t.c) (r : List UInt8) : pT1 last (encT t ++ r) = some (t, r) := by
  obtain ⟨h1, h2, h3, h4, h5⟩ := h
  unfold pT1 encT
  rw [List.append_assoc, List.append_assoc, pB_enc (by omega), bnd_some, pN_enc (by omega), bnd_some, pT_enc h5, bnd_some, if_pos (by omega)]
  obtain ⟨c, s, b⟩ := t
  simp only [Option.some.injEq, Prod.mk.injEq, and_true, Td.mk.injEq]
  simp only at h1 h3
  omega
theorem pL_enc : ∀ (l : List Td) (last : Int) (h : Lst l) (hl : ∀ t ∈ l, last < t.c) (r : List UInt8), pL l.length last (encL l ++ r) = some (l, r)
  | [], _, _, _, r => rfl
  | t :: l, last, h, hl, r => by
    have hs := h.sorted
    unfold tkeys at hs
    rw [List.map_cons, List.pairwise_cons] at hs
    have hl' : Lst l := ⟨hs.2, fun u hu => h.ok u (by simp [hu])⟩
    show bnd (pT1 last (encT t ++ encL l ++ r)) _ = _
    rw [List.append_assoc, pT1_enc (h.ok t (by simp)) (hl t (by simp)), bnd_some, pL_enc l t.c hl' (fun u hu => hs.1 u.c (List.mem_map.2 ⟨u, hu, rfl⟩)), bnd_some]
theorem pC_enc {l : List Td} (h : Lst l) (r : List UInt8) : pC (encC l ++ r) = some (l, r) := by
  have hlen := h.len
  unfold pC encC
  rw [List.append_assoc, pN_enc (by omega), bnd_some, pL_enc l (-1) h (fun t ht => by have := (h.ok t ht).1; omega)]
/-- a list's last client -/
def lastC (l : List Td) : Int := match l.getLast? with
  | some t => t.c
  | none => -1
theorem lastC_snoc (l : List Td) (t : Td) : lastC (l ++ [t]) = t.c := by unfold lastC; rw [List.getLast?_concat]
theorem lst_snoc {p : List Td} {t : Td} (h : Lst p) (ht : tdB t) (hl : lastC p < t.c) : Lst (p ++ [t]) := by
  refine ⟨?_, fun u hu => ?_⟩
  · unfold tkeys
    rw [List.map_append, List.pairwise_append]
    refine ⟨h.sorted, by simp, fun a ha b hb => ?_⟩
    have hb' : b = t.c := by simpa using hb
    subst hb'
    obtain ⟨u, hu, rfl⟩ := List.mem_map.1 ha
    rcases List.eq_nil_or_concat p with rfl | ⟨q, v, rfl⟩
    · cases hu
    · rw [List.concat_eq_append] at *
      rw [lastC_snoc] at hl
      rcases List.mem_append.1 hu with hu | hu
      · have hs := h.sorted
        unfold tkeys at hs
        rw [List.map_append, List.pairwise_append] at hs
        have := hs.2.2 u.c (List.mem_map.2 ⟨u, hu, rfl⟩) v.c (by simp)
        omega
      · have : u = v := by simpa using hu
        subst this; exact hl
  · rcases List.mem_append.1 hu with hu | hu
    · exact h.ok u hu
    · have : u = t := by simpa using hu
      subst this; exact ht
abbrev tkcR (l : List UInt8) (out : AOut) (H' : Heap) : Prop := (∃ L r cp, pC l = some (L, r) ∧ Lst L ∧ L.length ≤ cp ∧ cp ≤ maxLen ∧ out = .ret (.ptr 1 0) ∧ H' = rd r ++ caP 1 2 L cp) ∨ (pC l = none ∧ out = gone ∧ H' = [])
def tcSt (L : List Td) (cp : Nat) (cur : List UInt8) (j : Nat) (last : Int) : ASt := ⟨([.ptr 0 0, .dead, .dead, .ptr 1 0, .v (.int .u32 j), .v (.int .i64 last)] ++ List.replicate 33 .dead), [(0, .box [.list (cur.map brow) .free])] ++ caP 1 2 L cp, 4⟩
theorem keeps_last {L : List Td} (h : Lst L) {t : Td} (hl : lastC L < t.c) (hc : t.c ≤ 255) (hb : t.b.length ≤ 1048576) : keeps L t.c t.s t.b = decide (1 ≤ t.s ∧ t.s ≤ 1073741824) := by
  have hno : ∀ u ∈ L, u.c < t.c := fun u hu => by
    rcases List.eq_nil_or_concat L with rfl | ⟨q, v, rfl⟩
    · cases hu
    · rw [List.concat_eq_append] at *
      rw [lastC_snoc] at hl
      rcases List.mem_append.1 hu with hu | hu
      · have hs := h.sorted
        unfold tkeys at hs
        rw [List.map_append, List.pairwise_append] at hs
        have := hs.2.2 u.c (List.mem_map.2 ⟨u, hu, rfl⟩) v.c (by simp)
        omega
      · have : u = v := by simpa using hu
        subst this; exact hl
  have h0 : -1 ≤ lastC L := by
    rcases List.eq_nil_or_concat L with rfl | ⟨q, v, rfl⟩
    · decide
    · rw [List.concat_eq_append] at *
      rw [lastC_snoc]
      have := (h.ok v (by simp)).1
      omega
  unfold keeps
  rw [look_out (fun u hu e => by have := hno u hu; omega)]
  unfold ans0
  by_cases h1 : t.s < 1
  · rw [if_pos h1, decide_eq_false (by decide), Bool.false_and, decide_eq_false (by omega)]
  · rw [if_neg h1, decide_eq_true rfl, Bool.true_and]
    exact decide_eq_decide.2 ⟨fun h => ⟨h.2.2.1, h.2.2.2.1⟩, fun h => ⟨by omega, hc, h.1, h.2, hb⟩⟩
set_option maxHeartbeats 1600000 in
theorem take_cc0 (l : List UInt8) (h : l.length < 1000000000000) : ACalls Try.prog 29 1 100 [.ptr 0 0] (rd l) (tkcR l) := by
  have hM : pC l = _ := rfl
  conv at hM => rhs; unfold pC
  refine acalls_of tok dok (f := 29) ⟨Try.func29, rfl, by kernel_rfl⟩ ?_; refine c_start (fun _ h => h) ?_
  repeat' (first | (refine awd1 ?_) | (((with_reducible refine is_aops ?_); refine o_split rfl rfl rfl (fun hc => ?_) (fun hc => ?_) <;> first | (exfalso; (simp only [decide_eq_true_eq, decide_eq_false_iff_not, beq_iff_eq, beq_eq_false_iff_ne, bne_iff_ne, bne_eq_false_iff_eq, List.length_map, Int.not_lt, Int.not_le] at hc); omega) | rw [hc])) | (((with_reducible refine is_cond ?_); refine c_cond rfl (fun hc => ?_) (fun hc => ?_) <;> first | (exfalso; (simp only [decide_eq_true_eq, decide_eq_false_iff_not, beq_iff_eq, beq_eq_false_iff_ne, bne_iff_ne, bne_eq_false_iff_eq, List.length_map, Int.not_lt, Int.not_le] at hc); omega) | skip)) | (((with_reducible refine is_aop ?_); refine a_pick rfl rfl (fun hc => ?_) (fun hc => ?_) <;> first | (exfalso; (simp only [decide_eq_true_eq, decide_eq_false_iff_not, beq_iff_eq, beq_eq_false_iff_ne, bne_iff_ne, bne_eq_false_iff_eq, List.length_map, Int.not_lt, Int.not_le] at hc); omega) | rw [hc])) | ((with_reducible refine ret1 ?_); first | (refine akc ?_) | (refine aec ?_)) | (with_reducible exact retN) | (with_reducible exact retP) | (refine cal [] (new_cc) ?_ ?_) | fail)
  refine cal [0] (rN_c l (by omega)) ?_ ?_
  · intro xx H' hh; rcases hh with ⟨n, l1, e1, ⟨q1e1, q2e1⟩, h', rfl⟩ | ⟨_, h', _⟩ <;> first | (cases h'; done) | (cases h'; (rw [e1] at hM; simp only [bnd_some] at hM); (first | (refine akc ?_) | (refine aec ?_)); refine awd ?_; try rw [i64n (by omega)])
    refine c_l5 tcSt (fun L cp cur j last => pC l = bnd (pL j (lastC L) cur) (fun r l' => some (L ++ r, l')) ∧ cur.length ≤ l.length ∧ j < 4294967296 ∧ Lst L ∧ L.length ≤ cp ∧ cp ≤ maxLen ∧ last = lastC L) (fun _ _ _ j _ => j) [] 0 l1 n (-1) ⟨by rw [hM, show lastC [] = -1 from rfl]; cases pL n (-1) l1 <;> rfl, q2e1, q1e1, Lst.nil, by simp, by decide, rfl⟩ ?_ ?_
    · (refine Conv.toT ?_ ?_ (Nat.le_of_ble_eq_true rfl)); (focus ((unfold tcSt); (try dsimp only); (repeat' (first | (with_reducible exact .nil) | (refine .cons ?_ ?_) | (exact Wk.dead _) | (with_reducible exact Wk.refl _) | (exact WkL.nil))) <;> (first | (exact Wk.eq rfl) | (exact Wk.dead _) | (exact Wk.free _ _) | (exact Wk.lit _) | (refine WkR.eq ?_; simp; done) | (refine Wk.rows ?_ _; ((repeat' (first | (with_reducible exact LDR.nil) | (with_reducible exact LDL.nil) | (refine LDR.cons ?_ ?_) | (refine LDL.cons ?_ ?_) | (exact LeD.refl _) | (exact LeD.free _ _) | (exact LDR.nil) | (exact LDL.nil)))); done) | (exact Wk.rows (ldr_rep _) _) | (refine Wk.eq ?_; rw [List.map_append]; rfl) | ((refine Wk.int (Eq.trans (z64 ?_ ?_) ?_)) <;> omega) | (refine Wk.int ?_; simp; done) | (refine Wk.int ?_; simp; omega) | (refine Wk.eq ?_; simp; done)))); (focus ((unfold tcSt); (try dsimp only); (repeat' (first | (with_reducible exact WkH.nil) | (refine WkH.cons ?_ ?_) | (exact WkR.refl _) | (refine WkR.box _ ?_) | (refine WkR.eq ?_; simp; done) | (exact WkH.nil))) <;> ((repeat' (first | (with_reducible exact .nil) | (refine .cons ?_ ?_) | (exact Wk.dead _) | (with_reducible exact Wk.refl _) | (exact WkL.nil))) <;> (first | (exact Wk.eq rfl) | (exact Wk.dead _) | (exact Wk.free _ _) | (exact Wk.lit _) | (refine WkR.eq ?_; simp; done) | (refine Wk.rows ?_ _; ((repeat' (first | (with_reducible exact LDR.nil) | (with_reducible exact LDL.nil) | (refine LDR.cons ?_ ?_) | (refine LDL.cons ?_ ?_) | (exact LeD.refl _) | (exact LeD.free _ _) | (exact LDR.nil) | (exact LDL.nil)))); done) | (exact Wk.rows (ldr_rep _) _) | (refine Wk.eq ?_; rw [List.map_append]; rfl) | ((refine Wk.int (Eq.trans (z64 ?_ ?_) ?_)) <;> omega) | (refine Wk.int ?_; simp; done) | (refine Wk.int ?_; simp; omega) | (refine Wk.eq ?_; simp; done)))))
    · rintro L cp cur j last ⟨k1, k2, k3, k4, k5, k6, k7⟩
      have hlen := k4.len
      clear hM
      refine c_turn (n' := 4) (fun _ h => h) (fun _ h => h) rfl ?_
      rcases j with _ | j
      · repeat' (first | (refine awd1 ?_) | (((with_reducible refine is_aops ?_); refine o_split rfl rfl rfl (fun hc => ?_) (fun hc => ?_) <;> first | (exfalso; (simp only [decide_eq_true_eq, decide_eq_false_iff_not, beq_iff_eq, beq_eq_false_iff_ne, bne_iff_ne, bne_eq_false_iff_eq, List.length_map, Int.not_lt, Int.not_le] at hc); omega) | rw [hc])) | (((with_reducible refine is_cond ?_); refine c_cond rfl (fun hc => ?_) (fun hc => ?_) <;> first | (exfalso; (simp only [decide_eq_true_eq, decide_eq_false_iff_not, beq_iff_eq, beq_eq_false_iff_ne, bne_iff_ne, bne_eq_false_iff_eq, List.length_map, Int.not_lt, Int.not_le] at hc); omega) | skip)) | (((with_reducible refine is_aop ?_); refine a_pick rfl rfl (fun hc => ?_) (fun hc => ?_) <;> first | (exfalso; (simp only [decide_eq_true_eq, decide_eq_false_iff_not, beq_iff_eq, beq_eq_false_iff_ne, bne_iff_ne, bne_eq_false_iff_eq, List.length_map, Int.not_lt, Int.not_le] at hc); omega) | rw [hc])) | ((with_reducible refine ret1 ?_); first | (refine akc ?_) | (refine aec ?_)) | (with_reducible exact retN) | (with_reducible exact retP) | fail | fail)
        exact e_ret (H' := rd cur ++ caP 1 2 L cp) (rest := []) rfl (.inl ⟨L, cur, cp, by rw [k1]; show some (L ++ [], cur) = _; rw [List.append_nil], k4, k5, k6, rfl, rfl⟩) permT (Nat.le_of_ble_eq_true rfl)
      · have hM : pC l = _ := k1
        rw [pL, pT1, ← k7] at hM
        repeat' (first | (refine awd1 ?_) | (((with_reducible refine is_aops ?_); refine o_split rfl rfl rfl (fun hc => ?_) (fun hc => ?_) <;> first | (exfalso; (simp only [decide_eq_true_eq, decide_eq_false_iff_not, beq_iff_eq, beq_eq_false_iff_ne, bne_iff_ne, bne_eq_false_iff_eq, List.length_map, Int.not_lt, Int.not_le] at hc); omega) | rw [hc])) | (((with_reducible refine is_cond ?_); refine c_cond rfl (fun hc => ?_) (fun hc => ?_) <;> first | (exfalso; (simp only [decide_eq_true_eq, decide_eq_false_iff_not, beq_iff_eq, beq_eq_false_iff_ne, bne_iff_ne, bne_eq_false_iff_eq, List.length_map, Int.not_lt, Int.not_le] at hc); omega) | skip)) | (((with_reducible refine is_aop ?_); refine a_pick rfl rfl (fun hc => ?_) (fun hc => ?_) <;> first | (exfalso; (simp only [decide_eq_true_eq, decide_eq_false_iff_not, beq_iff_eq, beq_eq_false_iff_ne, bne_iff_ne, bne_eq_false_iff_eq, List.length_map, Int.not_lt, Int.not_le] at hc); omega) | rw [hc])) | ((with_reducible refine ret1 ?_); first | (refine akc ?_) | (refine aec ?_)) | (with_reducible exact retN) | (with_reducible exact retP) | fail | fail)
        refine cal [0] (rB_c cur (by omega)) ?_ ?_
        · intro xx H' hh; rcases hh with ⟨c, r1, d1, ⟨q1d1, q2d1⟩, h', rfl⟩ | ⟨_, h', _⟩ <;> first | (cases h'; done) | (cases h'; (rw [d1] at hM; simp only [bnd_some] at hM); (first | (refine akc ?_) | (refine aec ?_)); refine awd ?_; try rw [i64n (by omega)])
          refine cal [0] (rN_c r1 (by omega)) ?_ ?_
          · intro xx H' hh; rcases hh with ⟨s, r2, d2, ⟨q1d2, q2d2⟩, h', rfl⟩ | ⟨_, h', _⟩ <;> first | (cases h'; done) | (cases h'; (rw [d2] at hM; simp only [bnd_some] at hM); (first | (refine akc ?_) | (refine aec ?_)); refine awd ?_; try rw [i64n (by omega)])
            refine cal [0] (rT_c r2 (by omega)) ?_ ?_
            · intro xx H' hh; rcases hh with ⟨b, r3, d3, ⟨q1d3, q2d3⟩, h', rfl⟩ | ⟨_, h', _⟩ <;> first | (cases h'; done) | (cases h'; (rw [d3] at hM; simp only [bnd_some] at hM); (first | (refine akc ?_) | (refine aec ?_)); refine awd ?_; try rw [i64n (by omega)])
              have hk := keep_c L c s b cp (by omega) k5 k6 (fun t ht => by have := (k4.ok t ht).2.2.2.2; omega) (by omega) k4.sorted
              by_cases hcl : (c : Int) ≤ last
              · rw [if_neg (by omega), bnd_none] at hM
                repeat' (first | (refine awd1 ?_) | (((with_reducible refine is_aops ?_); refine o_split rfl rfl rfl (fun hc => ?_) (fun hc => ?_) <;> first | (exfalso; (simp only [decide_eq_true_eq, decide_eq_false_iff_not, beq_iff_eq, beq_eq_false_iff_ne, bne_iff_ne, bne_eq_false_iff_eq, List.length_map, Int.not_lt, Int.not_le] at hc); omega) | rw [hc])) | (((with_reducible refine is_cond ?_); refine c_cond rfl (fun hc => ?_) (fun hc => ?_) <;> first | (exfalso; (simp only [decide_eq_true_eq, decide_eq_false_iff_not, beq_iff_eq, beq_eq_false_iff_ne, bne_iff_ne, bne_eq_false_iff_eq, List.length_map, Int.not_lt, Int.not_le] at hc); omega) | skip)) | (((with_reducible refine is_aop ?_); refine a_pick rfl rfl (fun hc => ?_) (fun hc => ?_) <;> first | (exfalso; (simp only [decide_eq_true_eq, decide_eq_false_iff_not, beq_iff_eq, beq_eq_false_iff_ne, bne_iff_ne, bne_eq_false_iff_eq, List.length_map, Int.not_lt, Int.not_le] at hc); omega) | rw [hc])) | ((with_reducible refine ret1 ?_); first | (refine akc ?_) | (refine aec ?_)) | (with_reducible exact retN) | (with_reducible exact retP) | fail | fail)
                (refine cal [0] (fail_c r3) ?_ ?_)
                · exact retP
                · intro xx H' hh
                  obtain ⟨h', rfl⟩ := hh
                  cases h'
                  refine awd ?_
                  exact e_pan (H' := []) (rest := _) (.inr ⟨hM, rfl, rfl⟩) (.refl _) (Nat.le_of_ble_eq_true rfl)
              · have hks := keeps_last k4 (t := ⟨c, s, b⟩) (by rw [← k7]; show last < (c : Int); omega) (by show (c : Int) ≤ 255; omega) (by show b.length ≤ _; omega)
                simp only at hks
                rw [hks] at hk
                by_cases hs : 1 ≤ s ∧ s ≤ 1073741824
                · have ht : tdB ⟨c, s, b⟩ := ⟨by show (0 : Int) ≤ c; omega, by show (c : Int) ≤ 255; omega, by show (1 : Int) ≤ s; omega, by show (s : Int) ≤ _; omega, by show b.length ≤ _; omega⟩
                  have hL' := lst_snoc k4 ht (by rw [← k7]; show last < (c : Int); omega)
                  have hsn := keep_snoc hL'
                  simp only at hsn
                  rw [hsn, decide_eq_true (by omega)] at hk
                  rw [if_pos (by omega), bnd_some] at hM
                  repeat' (first | (refine awd1 ?_) | (((with_reducible refine is_aops ?_); refine o_split rfl rfl rfl (fun hc => ?_) (fun hc => ?_) <;> first | (exfalso; (simp only [decide_eq_true_eq, decide_eq_false_iff_not, beq_iff_eq, beq_eq_false_iff_ne, bne_iff_ne, bne_eq_false_iff_eq, List.length_map, Int.not_lt, Int.not_le] at hc); omega) | rw [hc])) | (((with_reducible refine is_cond ?_); refine c_cond rfl (fun hc => ?_) (fun hc => ?_) <;> first | (exfalso; (simp only [decide_eq_true_eq, decide_eq_false_iff_not, beq_iff_eq, beq_eq_false_iff_ne, bne_iff_ne, bne_eq_false_iff_eq, List.length_map, Int.not_lt, Int.not_le] at hc); omega) | skip)) | (((with_reducible refine is_aop ?_); refine a_pick rfl rfl (fun hc => ?_) (fun hc => ?_) <;> first | (exfalso; (simp only [decide_eq_true_eq, decide_eq_false_iff_not, beq_iff_eq, beq_eq_false_iff_ne, bne_iff_ne, bne_eq_false_iff_eq, List.length_map, Int.not_lt, Int.not_le] at hc); omega) | rw [hc])) | ((with_reducible refine ret1 ?_); first | (refine akc ?_) | (refine aec ?_)) | (with_reducible exact retN) | (with_reducible exact retP) | fail | fail)
                  (refine cal [1, 2] (hk) ?_ ?_)
                  · intro xx H' hh
                    obtain ⟨cp', c1, c2, h', rfl⟩ := hh
                    cases h'
                    first | (refine akc ?_) | (refine aec ?_)
                    repeat' (first | (refine awd1 ?_) | (((with_reducible refine is_aops ?_); refine o_split rfl rfl rfl (fun hc => ?_) (fun hc => ?_) <;> first | (exfalso; (simp only [decide_eq_true_eq, decide_eq_false_iff_not, beq_iff_eq, beq_eq_false_iff_ne, bne_iff_ne, bne_eq_false_iff_eq, List.length_map, Int.not_lt, Int.not_le] at hc); omega) | rw [hc])) | (((with_reducible refine is_cond ?_); refine c_cond rfl (fun hc => ?_) (fun hc => ?_) <;> first | (exfalso; (simp only [decide_eq_true_eq, decide_eq_false_iff_not, beq_iff_eq, beq_eq_false_iff_ne, bne_iff_ne, bne_eq_false_iff_eq, List.length_map, Int.not_lt, Int.not_le] at hc); omega) | skip)) | (((with_reducible refine is_aop ?_); refine a_pick rfl rfl (fun hc => ?_) (fun hc => ?_) <;> first | (exfalso; (simp only [decide_eq_true_eq, decide_eq_false_iff_not, beq_iff_eq, beq_eq_false_iff_ne, bne_iff_ne, bne_eq_false_iff_eq, List.length_map, Int.not_lt, Int.not_le] at hc); omega) | rw [hc])) | ((with_reducible refine ret1 ?_); first | (refine akc ?_) | (refine aec ?_)) | (with_reducible exact retN) | (with_reducible exact retP) | fail | fail)
                    rw [show IntKind.u32.wrap (((j + 1 : Nat) : Int) - 1) = (j : Int) by rw [IntKind.wrap_u32]; omega]
                    (refine k_loopLT (((L ++ [⟨c, s, b⟩], cp', r3, j, (c : Int)) : List Td × Nat × List UInt8 × Nat × Int)) 1 [0, 1, 8, 3] (by show pC l = bnd (pL j (lastC (L ++ [_])) r3) (fun r l' => some (L ++ [_] ++ r, l')) ∧ r3.length ≤ l.length ∧ j < 4294967296 ∧ Lst (L ++ [_]) ∧ (L ++ [_]).length ≤ cp' ∧ cp' ≤ maxLen ∧ (c : Int) = lastC (L ++ [_]); exact ⟨by rw [hM, lastC_snoc]; simp only; cases pL j (c : Int) r3 <;> simp [bnd], by omega, by omega, hL', c1, c2, (lastC_snoc L ⟨c, s, b⟩).symm⟩) (by first | omega | (simp; done) | (simp; omega)) (Nat.le_of_ble_eq_true rfl) (fun _ h => h) (fun _ h => h) ?_ ?_); (focus ((try dsimp only); (repeat' (first | (with_reducible exact .nil) | (refine .cons ?_ ?_) | (exact Wk.dead _) | (with_reducible exact Wk.refl _) | (exact WkL.nil))) <;> (first | (exact Wk.eq rfl) | (exact Wk.dead _) | (exact Wk.free _ _) | (exact Wk.lit _) | (refine WkR.eq ?_; simp; done) | (refine Wk.rows ?_ _; ((repeat' (first | (with_reducible exact LDR.nil) | (with_reducible exact LDL.nil) | (refine LDR.cons ?_ ?_) | (refine LDL.cons ?_ ?_) | (exact LeD.refl _) | (exact LeD.free _ _) | (exact LDR.nil) | (exact LDL.nil)))); done) | (exact Wk.rows (ldr_rep _) _) | (refine Wk.eq ?_; rw [List.map_append]; rfl) | ((refine Wk.int (Eq.trans (z64 ?_ ?_) ?_)) <;> omega) | (refine Wk.int ?_; simp; done) | (refine Wk.int ?_; simp; omega) | (refine Wk.eq ?_; simp; done)))); (focus ((try dsimp only); (repeat' (first | (with_reducible exact WkH.nil) | (refine WkH.cons ?_ ?_) | (exact WkR.refl _) | (refine WkR.box _ ?_) | (refine WkR.eq ?_; simp; done) | (exact WkH.nil))) <;> ((repeat' (first | (with_reducible exact .nil) | (refine .cons ?_ ?_) | (exact Wk.dead _) | (with_reducible exact Wk.refl _) | (exact WkL.nil))) <;> (first | (exact Wk.eq rfl) | (exact Wk.dead _) | (exact Wk.free _ _) | (exact Wk.lit _) | (refine WkR.eq ?_; simp; done) | (refine Wk.rows ?_ _; ((repeat' (first | (with_reducible exact LDR.nil) | (with_reducible exact LDL.nil) | (refine LDR.cons ?_ ?_) | (refine LDL.cons ?_ ?_) | (exact LeD.refl _) | (exact LeD.free _ _) | (exact LDR.nil) | (exact LDL.nil)))); done) | (exact Wk.rows (ldr_rep _) _) | (refine Wk.eq ?_; rw [List.map_append]; rfl) | ((refine Wk.int (Eq.trans (z64 ?_ ?_) ?_)) <;> omega) | (refine Wk.int ?_; simp; done) | (refine Wk.int ?_; simp; omega) | (refine Wk.eq ?_; simp; done)))))
                  · intro xx H' hh
                    obtain ⟨_, _, _, h', _⟩ := hh
                    cases h'
                · rw [if_neg (by omega), bnd_none] at hM
                  rw [decide_eq_false (by omega)] at hk
                  repeat' (first | (refine awd1 ?_) | (((with_reducible refine is_aops ?_); refine o_split rfl rfl rfl (fun hc => ?_) (fun hc => ?_) <;> first | (exfalso; (simp only [decide_eq_true_eq, decide_eq_false_iff_not, beq_iff_eq, beq_eq_false_iff_ne, bne_iff_ne, bne_eq_false_iff_eq, List.length_map, Int.not_lt, Int.not_le] at hc); omega) | rw [hc])) | (((with_reducible refine is_cond ?_); refine c_cond rfl (fun hc => ?_) (fun hc => ?_) <;> first | (exfalso; (simp only [decide_eq_true_eq, decide_eq_false_iff_not, beq_iff_eq, beq_eq_false_iff_ne, bne_iff_ne, bne_eq_false_iff_eq, List.length_map, Int.not_lt, Int.not_le] at hc); omega) | skip)) | (((with_reducible refine is_aop ?_); refine a_pick rfl rfl (fun hc => ?_) (fun hc => ?_) <;> first | (exfalso; (simp only [decide_eq_true_eq, decide_eq_false_iff_not, beq_iff_eq, beq_eq_false_iff_ne, bne_iff_ne, bne_eq_false_iff_eq, List.length_map, Int.not_lt, Int.not_le] at hc); omega) | rw [hc])) | ((with_reducible refine ret1 ?_); first | (refine akc ?_) | (refine aec ?_)) | (with_reducible exact retN) | (with_reducible exact retP) | fail | fail)
                  (refine cal [1, 2] (hk) ?_ ?_)
                  · intro xx H' hh
                    obtain ⟨cp', c1, c2, h', rfl⟩ := hh
                    cases h'
                    first | (refine akc ?_) | (refine aec ?_)
                    repeat' (first | (refine awd1 ?_) | (((with_reducible refine is_aops ?_); refine o_split rfl rfl rfl (fun hc => ?_) (fun hc => ?_) <;> first | (exfalso; (simp only [decide_eq_true_eq, decide_eq_false_iff_not, beq_iff_eq, beq_eq_false_iff_ne, bne_iff_ne, bne_eq_false_iff_eq, List.length_map, Int.not_lt, Int.not_le] at hc); omega) | rw [hc])) | (((with_reducible refine is_cond ?_); refine c_cond rfl (fun hc => ?_) (fun hc => ?_) <;> first | (exfalso; (simp only [decide_eq_true_eq, decide_eq_false_iff_not, beq_iff_eq, beq_eq_false_iff_ne, bne_iff_ne, bne_eq_false_iff_eq, List.length_map, Int.not_lt, Int.not_le] at hc); omega) | skip)) | (((with_reducible refine is_aop ?_); refine a_pick rfl rfl (fun hc => ?_) (fun hc => ?_) <;> first | (exfalso; (simp only [decide_eq_true_eq, decide_eq_false_iff_not, beq_iff_eq, beq_eq_false_iff_ne, bne_iff_ne, bne_eq_false_iff_eq, List.length_map, Int.not_lt, Int.not_le] at hc); omega) | rw [hc])) | ((with_reducible refine ret1 ?_); first | (refine akc ?_) | (refine aec ?_)) | (with_reducible exact retN) | (with_reducible exact retP) | fail | fail)
                    (refine cal [0] (fail_c r3) ?_ ?_)
                    · exact retP
                    · intro xx H' hh
                      obtain ⟨h', rfl⟩ := hh
                      cases h'
                      refine awd ?_
                      exact e_pan (H' := []) (rest := _) (.inr ⟨hM, rfl, rfl⟩) (.refl _) (Nat.le_of_ble_eq_true rfl)
                  · intro xx H' hh
                    obtain ⟨_, _, _, h', _⟩ := hh
                    cases h'
            · intro xx H' hh; rcases hh with ⟨_, _, _, _, h', _⟩ | ⟨d3, h', rfl⟩ <;> first | (cases h'; done) | (cases h'; (rw [d3] at hM; simp only [bnd_none] at hM); refine awd ?_; exact e_pan (H' := []) (rest := _) (.inr ⟨hM, rfl, rfl⟩) (.refl _) (Nat.le_of_ble_eq_true rfl))
          · intro xx H' hh; rcases hh with ⟨_, _, _, _, h', _⟩ | ⟨d2, h', rfl⟩ <;> first | (cases h'; done) | (cases h'; (rw [d2] at hM; simp only [bnd_none] at hM); refine awd ?_; exact e_pan (H' := []) (rest := _) (.inr ⟨hM, rfl, rfl⟩) (.refl _) (Nat.le_of_ble_eq_true rfl))
        · intro xx H' hh; rcases hh with ⟨_, _, _, _, h', _⟩ | ⟨d1, h', rfl⟩ <;> first | (cases h'; done) | (cases h'; (rw [d1] at hM; simp only [bnd_none] at hM); refine awd ?_; exact e_pan (H' := []) (rest := _) (.inr ⟨hM, rfl, rfl⟩) (.refl _) (Nat.le_of_ble_eq_true rfl))
  · intro xx H' hh; rcases hh with ⟨_, _, _, _, h', _⟩ | ⟨e1, h', rfl⟩ <;> first | (cases h'; done) | (cases h'; (rw [e1] at hM; simp only [bnd_none] at hM); refine awd ?_; exact e_pan (H' := []) (rest := _) (.inr ⟨hM, rfl, rfl⟩) (.refl _) (Nat.le_of_ble_eq_true rfl))
theorem rd_ren (l : List UInt8) (f : Nat → Nat) (h : f 0 = 0) : renH f (rd l) = rd l := by simp [rd, renH, Res.ren, AV.ren, AV.renL, h, Own.ren]
theorem take_cc (l : List UInt8) (h : l.length < 1000000000000) : ACalls Try.prog 29 1 3 [.ptr 0 0] (rd l) (tkcR l) :=
  (take_cc0 l h).ren (by omega) fun out H' hh => by
    rcases hh with ⟨L, r, cp, e, hL, c1, c2, rfl, rfl⟩ | ⟨e, rfl, rfl⟩
    · refine ⟨[0, 1, 2], .ret (.ptr 1 0), rd r ++ caP 1 2 L cp, by decide, by decide, by decide, by decide, ?_, ?_, .inl ⟨L, r, cp, e, hL, c1, c2, rfl, rfl⟩⟩
      · simp [AOut.ren, AV.ren, rn]
      · rw [renH_app, caP_ren 1 2 1 2 _ rfl rfl, rd_ren _ _ rfl]
    · refine ⟨[0], gone, [], by decide, by decide, by decide, by decide, ?_, rfl, .inr ⟨e, rfl, rfl⟩⟩
      simp [AOut.ren, AV.ren, rn]
/-- a callback that throws away what it took -/
theorem cb2_c (l : List UInt8) (h : l.length < 1000000000000) : ACalls Try.prog 30 1 10 [.ptr 0 0] ((0, .box [.list (l.map brow) .free]) :: []) (cbR 0 (fun l' H' => (∃ L, pC l = some (L, l')) ∧ H' = []) (fun H' => pC l = none ∧ H' = [])) := by
  have ht := take_cc l h
  refine acalls_of tok dok (f := 30) ⟨Try.func30, rfl, by kernel_rfl⟩ ?_; refine c_start (fun _ h => h) ?_
  refine awd ?_
  (refine cal [0] (ht) ?_ ?_)
  · intro xx H' hh
    rcases hh with ⟨L, r, cp, e, hL, c1, c2, h', rfl⟩ | ⟨_, h', _⟩
    · cases h'
      first | (refine akc ?_) | (refine aec ?_)
      repeat' (first | (refine awd1 ?_) | (((with_reducible refine is_aops ?_); refine o_split rfl rfl rfl (fun hc => ?_) (fun hc => ?_) <;> first | (exfalso; (simp only [decide_eq_true_eq, decide_eq_false_iff_not, beq_iff_eq, beq_eq_false_iff_ne, bne_iff_ne, bne_eq_false_iff_eq, List.length_map, Int.not_lt, Int.not_le] at hc); omega) | rw [hc])) | (((with_reducible refine is_cond ?_); refine c_cond rfl (fun hc => ?_) (fun hc => ?_) <;> first | (exfalso; (simp only [decide_eq_true_eq, decide_eq_false_iff_not, beq_iff_eq, beq_eq_false_iff_ne, bne_iff_ne, bne_eq_false_iff_eq, List.length_map, Int.not_lt, Int.not_le] at hc); omega) | skip)) | (((with_reducible refine is_aop ?_); refine a_pick rfl rfl (fun hc => ?_) (fun hc => ?_) <;> first | (exfalso; (simp only [decide_eq_true_eq, decide_eq_false_iff_not, beq_iff_eq, beq_eq_false_iff_ne, bne_iff_ne, bne_eq_false_iff_eq, List.length_map, Int.not_lt, Int.not_le] at hc); omega) | rw [hc])) | ((with_reducible refine ret1 ?_); first | (refine akc ?_) | (refine aec ?_)) | (with_reducible exact retN) | (with_reducible exact retP) | fail | fail)
      exact e_ret (H' := rd r) (rest := _) rfl (.inl ⟨_, r, [], ⟨⟨L, e⟩, rfl⟩, rfl, rfl⟩) permT (Nat.le_of_ble_eq_true rfl)
    · cases h'
  · intro xx H' hh
    rcases hh with ⟨L, r, cp, e, hL, c1, c2, h', rfl⟩ | ⟨e, h', rfl⟩
    · cases h'
    · cases h'
      refine awd ?_
      exact e_pan (H' := []) (rest := _) (.inr ⟨[], ⟨e, rfl⟩, rfl, rfl⟩) (.refl _) (Nat.le_of_ble_eq_true rfl)
/-- whether it is read: all of it -/
theorem read2_c (l : List UInt8) (h : l.length < 1000000000000) : ACalls Try.prog 27 0 12 [.list (l.map brow) .free, .fn 30 []] [] (fun out H' => ∃ b : Bool, (b = true → ∃ L, pC l = some (L, [])) ∧ out = .ret (.v (.bool b)) ∧ H' = []) :=
  (read_c (m := 0) (cap := []) (H1 := []) (by decide) (cb2_c l h) (fun _ _ => rfl) (fun _ _ => rfl) (fun _ _ h => by rw [h.2]; exact fun _ _ => rfl) (fun _ h => by rw [h.2]; exact fun _ _ => rfl)).mono fun out H' hh => by
    rcases hh with ⟨l', ⟨⟨L, e⟩, rfl⟩, h1⟩ | ⟨⟨e, rfl⟩, h1⟩
    · refine ⟨_, fun hb => ⟨L, ?_⟩, h1, rfl⟩
      have : l' = [] := by
        have h2 := of_decide_eq_true hb
        rw [List.length_map] at h2
        exact List.eq_nil_of_length_eq_zero (by omega)
      rw [e, this]
    · exact ⟨false, fun h => (by cases h), h1, rfl⟩
/-- a callback that throws away what it took -/
theorem cb3_c (l : List UInt8) (h : l.length < 1000000000000) : ACalls Try.prog 31 1 10 [.ptr 0 0] ((0, .box [.list (l.map brow) .free]) :: []) (cbR 0 (fun l' H' => (∃ L, pC l = some (L, l')) ∧ H' = []) (fun H' => pC l = none ∧ H' = [])) := by
  have ht := take_cc l h
  refine acalls_of tok dok (f := 31) ⟨Try.func31, rfl, by kernel_rfl⟩ ?_; refine c_start (fun _ h => h) ?_
  refine awd ?_
  (refine cal [0] (ht) ?_ ?_)
  · intro xx H' hh
    rcases hh with ⟨L, r, cp, e, hL, c1, c2, h', rfl⟩ | ⟨_, h', _⟩
    · cases h'
      first | (refine akc ?_) | (refine aec ?_)
      repeat' (first | (refine awd1 ?_) | (((with_reducible refine is_aops ?_); refine o_split rfl rfl rfl (fun hc => ?_) (fun hc => ?_) <;> first | (exfalso; (simp only [decide_eq_true_eq, decide_eq_false_iff_not, beq_iff_eq, beq_eq_false_iff_ne, bne_iff_ne, bne_eq_false_iff_eq, List.length_map, Int.not_lt, Int.not_le] at hc); omega) | rw [hc])) | (((with_reducible refine is_cond ?_); refine c_cond rfl (fun hc => ?_) (fun hc => ?_) <;> first | (exfalso; (simp only [decide_eq_true_eq, decide_eq_false_iff_not, beq_iff_eq, beq_eq_false_iff_ne, bne_iff_ne, bne_eq_false_iff_eq, List.length_map, Int.not_lt, Int.not_le] at hc); omega) | skip)) | (((with_reducible refine is_aop ?_); refine a_pick rfl rfl (fun hc => ?_) (fun hc => ?_) <;> first | (exfalso; (simp only [decide_eq_true_eq, decide_eq_false_iff_not, beq_iff_eq, beq_eq_false_iff_ne, bne_iff_ne, bne_eq_false_iff_eq, List.length_map, Int.not_lt, Int.not_le] at hc); omega) | rw [hc])) | ((with_reducible refine ret1 ?_); first | (refine akc ?_) | (refine aec ?_)) | (with_reducible exact retN) | (with_reducible exact retP) | fail | fail)
      exact e_ret (H' := rd r) (rest := _) rfl (.inl ⟨_, r, [], ⟨⟨L, e⟩, rfl⟩, rfl, rfl⟩) permT (Nat.le_of_ble_eq_true rfl)
    · cases h'
  · intro xx H' hh
    rcases hh with ⟨L, r, cp, e, hL, c1, c2, h', rfl⟩ | ⟨e, h', rfl⟩
    · cases h'
    · cases h'
      refine awd ?_
      exact e_pan (H' := []) (rest := _) (.inr ⟨[], ⟨e, rfl⟩, rfl, rfl⟩) (.refl _) (Nat.le_of_ble_eq_true rfl)
/-- whether it is read: all of it -/
theorem read3_c (l : List UInt8) (h : l.length < 1000000000000) : ACalls Try.prog 27 0 12 [.list (l.map brow) .free, .fn 31 []] [] (fun out H' => ∃ b : Bool, (b = true → ∃ L, pC l = some (L, [])) ∧ out = .ret (.v (.bool b)) ∧ H' = []) :=
  (read_c (m := 0) (cap := []) (H1 := []) (by decide) (cb3_c l h) (fun _ _ => rfl) (fun _ _ => rfl) (fun _ _ h => by rw [h.2]; exact fun _ _ => rfl) (fun _ h => by rw [h.2]; exact fun _ _ => rfl)).mono fun out H' hh => by
    rcases hh with ⟨l', ⟨⟨L, e⟩, rfl⟩, h1⟩ | ⟨⟨e, rfl⟩, h1⟩
    · refine ⟨_, fun hb => ⟨L, ?_⟩, h1, rfl⟩
      have : l' = [] := by
        have h2 := of_decide_eq_true hb
        rw [List.length_map] at h2
        exact List.eq_nil_of_length_eq_zero (by omega)
      rw [e, this]
    · exact ⟨false, fun h => (by cases h), h1, rfl⟩
/-- a callback that throws away what it took -/
theorem cb4_c (l : List UInt8) (h : l.length < 1000000000000) : ACalls Try.prog 33 1 10 [.ptr 0 0] ((0, .box [.list (l.map brow) .free]) :: []) (cbR 0 (fun l' H' => (∃ L, pC l = some (L, l')) ∧ H' = []) (fun H' => pC l = none ∧ H' = [])) := by
  have ht := take_cc l h
  refine acalls_of tok dok (f := 33) ⟨Try.func33, rfl, by kernel_rfl⟩ ?_; refine c_start (fun _ h => h) ?_
  refine awd ?_
  (refine cal [0] (ht) ?_ ?_)
  · intro xx H' hh
    rcases hh with ⟨L, r, cp, e, hL, c1, c2, h', rfl⟩ | ⟨_, h', _⟩
    · cases h'
      first | (refine akc ?_) | (refine aec ?_)
      repeat' (first | (refine awd1 ?_) | (((with_reducible refine is_aops ?_); refine o_split rfl rfl rfl (fun hc => ?_) (fun hc => ?_) <;> first | (exfalso; (simp only [decide_eq_true_eq, decide_eq_false_iff_not, beq_iff_eq, beq_eq_false_iff_ne, bne_iff_ne, bne_eq_false_iff_eq, List.length_map, Int.not_lt, Int.not_le] at hc); omega) | rw [hc])) | (((with_reducible refine is_cond ?_); refine c_cond rfl (fun hc => ?_) (fun hc => ?_) <;> first | (exfalso; (simp only [decide_eq_true_eq, decide_eq_false_iff_not, beq_iff_eq, beq_eq_false_iff_ne, bne_iff_ne, bne_eq_false_iff_eq, List.length_map, Int.not_lt, Int.not_le] at hc); omega) | skip)) | (((with_reducible refine is_aop ?_); refine a_pick rfl rfl (fun hc => ?_) (fun hc => ?_) <;> first | (exfalso; (simp only [decide_eq_true_eq, decide_eq_false_iff_not, beq_iff_eq, beq_eq_false_iff_ne, bne_iff_ne, bne_eq_false_iff_eq, List.length_map, Int.not_lt, Int.not_le] at hc); omega) | rw [hc])) | ((with_reducible refine ret1 ?_); first | (refine akc ?_) | (refine aec ?_)) | (with_reducible exact retN) | (with_reducible exact retP) | fail | fail)
      exact e_ret (H' := rd r) (rest := _) rfl (.inl ⟨_, r, [], ⟨⟨L, e⟩, rfl⟩, rfl, rfl⟩) permT (Nat.le_of_ble_eq_true rfl)
    · cases h'
  · intro xx H' hh
    rcases hh with ⟨L, r, cp, e, hL, c1, c2, h', rfl⟩ | ⟨e, h', rfl⟩
    · cases h'
    · cases h'
      refine awd ?_
      exact e_pan (H' := []) (rest := _) (.inr ⟨[], ⟨e, rfl⟩, rfl, rfl⟩) (.refl _) (Nat.le_of_ble_eq_true rfl)
/-- whether it is read: all of it -/
theorem read4_c (l : List UInt8) (h : l.length < 1000000000000) : ACalls Try.prog 27 0 12 [.list (l.map brow) .free, .fn 33 []] [] (fun out H' => ∃ b : Bool, (b = true → ∃ L, pC l = some (L, [])) ∧ out = .ret (.v (.bool b)) ∧ H' = []) :=
  (read_c (m := 0) (cap := []) (H1 := []) (by decide) (cb4_c l h) (fun _ _ => rfl) (fun _ _ => rfl) (fun _ _ h => by rw [h.2]; exact fun _ _ => rfl) (fun _ h => by rw [h.2]; exact fun _ _ => rfl)).mono fun out H' hh => by
    rcases hh with ⟨l', ⟨⟨L, e⟩, rfl⟩, h1⟩ | ⟨⟨e, rfl⟩, h1⟩
    · refine ⟨_, fun hb => ⟨L, ?_⟩, h1, rfl⟩
      have : l' = [] := by
        have h2 := of_decide_eq_true hb
        rw [List.length_map] at h2
        exact List.eq_nil_of_length_eq_zero (by omega)
      rw [e, this]
    · exact ⟨false, fun h => (by cases h), h1, rfl⟩
theorem cellR (f : Nat → Nat) (a b : Nat) (h : f 0 = 0) (h2 : f a = b) : renH f [(0, .box [.ptr a 0])] = [(0, .box [.ptr b 0])] := by simp [renH, Res.ren, AV.ren, AV.renL, h, h2]
/-- a callback that keeps what it took -/
theorem bycb_c (l : List UInt8) (h : l.length < 1000000000000) : ACalls Try.prog 28 2 10 [.ptr 1 0, .ptr 0 0] ((1, .box [.list (l.map brow) .free]) :: [(0, .box [.v (.pointer none)])]) (cbR 1 (fun l' H' => ∃ L cp, pC l = some (L, l') ∧ Lst L ∧ L.length ≤ cp ∧ cp ≤ maxLen ∧ H' = [(0, .box [.ptr 2 0])] ++ caP 2 3 L cp) (fun H' => pC l = none ∧ H' = [(0, .box [.v (.pointer none)])])) := by
  have ht := take_cc l h
  refine acalls_of tok dok (f := 28) ⟨Try.func28, rfl, by kernel_rfl⟩ ?_; refine c_start (fun _ h => h) ?_
  refine awd ?_
  (refine cal [1] (ht) ?_ ?_)
  · intro xx H' hh
    rcases hh with ⟨L, r, cp, e, hL, c1, c2, h', rfl⟩ | ⟨_, h', _⟩
    · cases h'
      first | (refine akc ?_) | (refine aec ?_)
      repeat' (first | (refine awd1 ?_) | (((with_reducible refine is_aops ?_); refine o_split rfl rfl rfl (fun hc => ?_) (fun hc => ?_) <;> first | (exfalso; (simp only [decide_eq_true_eq, decide_eq_false_iff_not, beq_iff_eq, beq_eq_false_iff_ne, bne_iff_ne, bne_eq_false_iff_eq, List.length_map, Int.not_lt, Int.not_le] at hc); omega) | rw [hc])) | (((with_reducible refine is_cond ?_); refine c_cond rfl (fun hc => ?_) (fun hc => ?_) <;> first | (exfalso; (simp only [decide_eq_true_eq, decide_eq_false_iff_not, beq_iff_eq, beq_eq_false_iff_ne, bne_iff_ne, bne_eq_false_iff_eq, List.length_map, Int.not_lt, Int.not_le] at hc); omega) | skip)) | (((with_reducible refine is_aop ?_); refine a_pick rfl rfl (fun hc => ?_) (fun hc => ?_) <;> first | (exfalso; (simp only [decide_eq_true_eq, decide_eq_false_iff_not, beq_iff_eq, beq_eq_false_iff_ne, bne_iff_ne, bne_eq_false_iff_eq, List.length_map, Int.not_lt, Int.not_le] at hc); omega) | rw [hc])) | ((with_reducible refine ret1 ?_); first | (refine akc ?_) | (refine aec ?_)) | (with_reducible exact retN) | (with_reducible exact retP) | fail | fail)
      exact e_ret (H' := (1, .box [.list (r.map brow) .free]) :: ([(0, .box [.ptr 2 0])] ++ caP 2 3 L cp)) (rest := []) rfl (.inl ⟨_, r, _, ⟨L, cp, e, hL, c1, c2, rfl⟩, rfl, rfl⟩) permT (Nat.le_of_ble_eq_true rfl)
    · cases h'
  · intro xx H' hh
    rcases hh with ⟨L, r, cp, e, hL, c1, c2, h', rfl⟩ | ⟨e, h', rfl⟩
    · cases h'
    · cases h'
      refine awd ?_
      exact e_pan (H' := [(0, .box [.v (.pointer none)])]) (rest := []) (.inr ⟨_, ⟨e, rfl⟩, rfl, rfl⟩) (.refl _) (Nat.le_of_ble_eq_true rfl)
theorem byread_c (l : List UInt8) (h : l.length < 1000000000000) (L : List Td) (hl : pC l = some (L, [])) : ACalls Try.prog 27 1 3 [.list (l.map brow) .free, .fn 28 [.ptr 0 0]] [(0, .box [.v (.pointer none)])] (fun out H' => ∃ cp, Lst L ∧ L.length ≤ cp ∧ cp ≤ maxLen ∧ out = .ret (.v (.bool true)) ∧ H' = [(0, .box [.ptr 1 0])] ++ caP 1 2 L cp) :=
  (read_g (m := 1) (cap := [.ptr 0 0]) (H1 := [(0, .box [.v (.pointer none)])]) (by decide) (bycb_c l h) (fun f hf => by simp [AV.renL, AV.ren, hf]) (fun f hf => by simp [renH, Res.ren, AV.renL, AV.ren, hf])).ren (by decide) fun out H' hh => by
    rcases hh with ⟨l', ⟨H1', ⟨L', cp, e, hL, c1, c2, rfl⟩, rfl⟩, h1⟩ | ⟨⟨H1', ⟨e, _⟩, _⟩, _⟩
    · rw [hl] at e
      cases e
      refine ⟨[0, 4, 5], .ret (.v (.bool true)), [(0, .box [.ptr 1 0])] ++ caP 1 2 L cp, by decide, by decide, by decide, by decide, ?_, ?_, cp, hL, c1, c2, rfl, rfl⟩
      · rw [h1]; rfl
      · rw [renH_app, renH_app, cellR _ 2 4 rfl rfl, cellR _ 1 4 rfl rfl, caP_ren 2 3 4 5 _ rfl rfl, caP_ren 1 2 4 5 _ rfl rfl]
    · rw [hl] at e; cases e
/-- a callback that keeps what it took -/
theorem nucb_c (l : List UInt8) (h : l.length < 1000000000000) : ACalls Try.prog 35 2 10 [.ptr 1 0, .ptr 0 0] ((1, .box [.list (l.map brow) .free]) :: [(0, .box [.v (.pointer none)])]) (cbR 1 (fun l' H' => ∃ L cp, pC l = some (L, l') ∧ Lst L ∧ L.length ≤ cp ∧ cp ≤ maxLen ∧ H' = [(0, .box [.ptr 2 0])] ++ caP 2 3 L cp) (fun H' => pC l = none ∧ H' = [(0, .box [.v (.pointer none)])])) := by
  have ht := take_cc l h
  refine acalls_of tok dok (f := 35) ⟨Try.func35, rfl, by kernel_rfl⟩ ?_; refine c_start (fun _ h => h) ?_
  refine awd ?_
  (refine cal [1] (ht) ?_ ?_)
  · intro xx H' hh
    rcases hh with ⟨L, r, cp, e, hL, c1, c2, h', rfl⟩ | ⟨_, h', _⟩
    · cases h'
      first | (refine akc ?_) | (refine aec ?_)
      repeat' (first | (refine awd1 ?_) | (((with_reducible refine is_aops ?_); refine o_split rfl rfl rfl (fun hc => ?_) (fun hc => ?_) <;> first | (exfalso; (simp only [decide_eq_true_eq, decide_eq_false_iff_not, beq_iff_eq, beq_eq_false_iff_ne, bne_iff_ne, bne_eq_false_iff_eq, List.length_map, Int.not_lt, Int.not_le] at hc); omega) | rw [hc])) | (((with_reducible refine is_cond ?_); refine c_cond rfl (fun hc => ?_) (fun hc => ?_) <;> first | (exfalso; (simp only [decide_eq_true_eq, decide_eq_false_iff_not, beq_iff_eq, beq_eq_false_iff_ne, bne_iff_ne, bne_eq_false_iff_eq, List.length_map, Int.not_lt, Int.not_le] at hc); omega) | skip)) | (((with_reducible refine is_aop ?_); refine a_pick rfl rfl (fun hc => ?_) (fun hc => ?_) <;> first | (exfalso; (simp only [decide_eq_true_eq, decide_eq_false_iff_not, beq_iff_eq, beq_eq_false_iff_ne, bne_iff_ne, bne_eq_false_iff_eq, List.length_map, Int.not_lt, Int.not_le] at hc); omega) | rw [hc])) | ((with_reducible refine ret1 ?_); first | (refine akc ?_) | (refine aec ?_)) | (with_reducible exact retN) | (with_reducible exact retP) | fail | fail)
      exact e_ret (H' := (1, .box [.list (r.map brow) .free]) :: ([(0, .box [.ptr 2 0])] ++ caP 2 3 L cp)) (rest := []) rfl (.inl ⟨_, r, _, ⟨L, cp, e, hL, c1, c2, rfl⟩, rfl, rfl⟩) permT (Nat.le_of_ble_eq_true rfl)
    · cases h'
  · intro xx H' hh
    rcases hh with ⟨L, r, cp, e, hL, c1, c2, h', rfl⟩ | ⟨e, h', rfl⟩
    · cases h'
    · cases h'
      refine awd ?_
      exact e_pan (H' := [(0, .box [.v (.pointer none)])]) (rest := []) (.inr ⟨_, ⟨e, rfl⟩, rfl, rfl⟩) (.refl _) (Nat.le_of_ble_eq_true rfl)
theorem nuread_c (l : List UInt8) (h : l.length < 1000000000000) (L : List Td) (hl : pC l = some (L, [])) : ACalls Try.prog 27 1 3 [.list (l.map brow) .free, .fn 35 [.ptr 0 0]] [(0, .box [.v (.pointer none)])] (fun out H' => ∃ cp, Lst L ∧ L.length ≤ cp ∧ cp ≤ maxLen ∧ out = .ret (.v (.bool true)) ∧ H' = [(0, .box [.ptr 1 0])] ++ caP 1 2 L cp) :=
  (read_g (m := 1) (cap := [.ptr 0 0]) (H1 := [(0, .box [.v (.pointer none)])]) (by decide) (nucb_c l h) (fun f hf => by simp [AV.renL, AV.ren, hf]) (fun f hf => by simp [renH, Res.ren, AV.renL, AV.ren, hf])).ren (by decide) fun out H' hh => by
    rcases hh with ⟨l', ⟨H1', ⟨L', cp, e, hL, c1, c2, rfl⟩, rfl⟩, h1⟩ | ⟨⟨H1', ⟨e, _⟩, _⟩, _⟩
    · rw [hl] at e
      cases e
      refine ⟨[0, 4, 5], .ret (.v (.bool true)), [(0, .box [.ptr 1 0])] ++ caP 1 2 L cp, by decide, by decide, by decide, by decide, ?_, ?_, cp, hL, c1, c2, rfl, rfl⟩
      · rw [h1]; rfl
      · rw [renH_app, renH_app, cellR _ 2 4 rfl rfl, cellR _ 1 4 rfl rfl, caP_ren 2 3 4 5 _ rfl rfl, caP_ren 1 2 4 5 _ rfl rfl]
    · rw [hl] at e; cases e
end Go.Proofs.Ytdahnjdkghbieaa
