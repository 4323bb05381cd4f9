/- SpanBytes, by contracts. -/
import Derived.Test.YtjklcpfkmnjjkaaSpT
import Derived.Test.YtjklcpfkmnjjkaaOcG

namespace Go.Proofs.Ytjklcpfkmnjjkaa
open Go.Am
set_option linter.unusedSimpArgs false
set_option linter.unusedVariables false
theorem right_c7 (p : Sp) : ACalls Try.prog 14 0 0 [spv p] [] (fun out H' => out = .ret (.v (.bool (sRight p.1 p.2))) ∧ H' = []) :=
  .of_calls ⟨Try.func14, rfl, by kernel_rfl⟩ (fun G => .data _ _ (.v _)) fun G w vals hh hl hs => by
    rw [args1_eq hl, spv_inv (hs 0 _ rfl)]
    exact right_any p.1 p.2 w
/-- a text's octets -/
def txt (s : ByteArray) : List UInt8 := be s.data.toList.length 4 ++ s.data.toList
def encS (p : Sp) : List UInt8 := txt p.1 ++ txt p.2
theorem write_c (l : List UInt8) (p : Sp) (h1 : p.1.data.toList.length ≤ 1000) (h2 : p.2.data.toList.length ≤ 1000) (h : l.length < 100000000) : ACalls Try.prog 44 2 3 [.ptr 0 0, spv p] (wr l) (fun out H' => out = .ret (.tuple []) ∧ H' = wr (l ++ encS p)) := by
  have hlt : (l ++ txt p.1).length < 1000000000 := by
    unfold txt
    rw [List.length_append, List.length_append, be_len]
    omega
  have hT1 := text_c l p.1.data.toList (by omega) (by omega)
  have hT2 := text_c (l ++ txt p.1) p.2.data.toList (by omega) hlt
  rw [if_pos (by omega), decide_eq_true (by omega)] at hT1 hT2
  have s1 : p.1.size = p.1.data.toList.length := rfl
  have s2 : p.2.size = p.2.data.toList.length := rfl
  refine acalls_of tok dok (f := 44) ⟨Try.func44, rfl, by kernel_rfl⟩ ?_; refine c_start (fun _ h => h) ?_
  refine awd ?_
  (with_reducible refine is_aop ?_); first | (refine a_qS rfl (fun _ h => h) ?_ ?_) | (refine a_qS rfl (qIx (fun _ h => h)) ?_ ?_) | (refine a_qS rfl (qAnd5 (fun _ h => h)) ?_ ?_) | (refine a_qS rfl (qStr (fun _ h => h)) ?_ ?_) | (refine a_qS rfl (qAnd4 (fun _ h => h)) ?_ ?_)
  · omega
  refine awd ?_
  refine cal [0, 1] (hT1) ?_ ?_
  · refine ret1 ?_; first | (refine akc ?_) | (refine aec ?_)
    refine awd ?_
    (with_reducible refine is_aop ?_); first | (refine a_qS rfl (fun _ h => h) ?_ ?_) | (refine a_qS rfl (qIx (fun _ h => h)) ?_ ?_) | (refine a_qS rfl (qAnd5 (fun _ h => h)) ?_ ?_) | (refine a_qS rfl (qStr (fun _ h => h)) ?_ ?_) | (refine a_qS rfl (qAnd4 (fun _ h => h)) ?_ ?_)
    · omega
    refine awd ?_
    refine cal [0, 1] (hT2) ?_ ?_
    · refine ret1 ?_; first | (refine akc ?_) | (refine aec ?_)
      refine awd ?_
      refine e_ret (H' := wr (l ++ encS p)) (rest := [(2, .box [.v (.string p.1), .v (.string p.2)])]) rfl ⟨rfl, rfl⟩ (.of_eq ?_) (Nat.le_of_ble_eq_true rfl)
      rw [show l ++ encS p = l ++ txt p.1 ++ (be p.2.data.toList.length 4 ++ p.2.data.toList) by simp [encS, txt]]
      rfl
    · first | (exact retN) | (exact retP)
  · first | (exact retN) | (exact retP)
def asS (l : List UInt8) : ByteArray := ⟨l.toArray⟩
theorem asS_back (s : ByteArray) : asS s.data.toList = s := by
  cases s; simp [asS]
theorem text_at (s : ByteArray) (r : List UInt8) (hs : s.data.toList.length ≤ 1000) (hr : r.length ≤ 10000) : ACalls Try.prog 42 1 3 [.ptr 0 0, .v (.int .i64 16)] (rd (txt s ++ r))
    (fun out H' => (s.data.toList.length ≤ 16 ∧ out = .ret (.list (s.data.toList.map brow) .free) ∧ H' = rd r) ∨ (¬ s.data.toList.length ≤ 16 ∧ out = gone ∧ H' = [])) := by
  have e : txt s ++ r = be s.data.toList.length 4 ++ (s.data.toList ++ r) := by simp [txt]
  have hC := rText_c (txt s ++ r) 16 (by unfold txt; rw [List.length_append, List.length_append, be_len]; omega)
  rw [e] at hC ⊢
  generalize s.data.toList = q at *
  have hq : q.length < 256 ^ 4 := by omega
  have ht : tOk (be q.length 4 ++ (q ++ r)) 16 ↔ q.length ≤ 16 := by
    unfold tOk
    rw [back_be _ 4 _ hq, drop_be]
    constructor
    · rintro ⟨_, _, k, _⟩
      have := k (by decide)
      omega
    · intro k
      exact ⟨by simp [be_len], by omega, fun _ => by omega, by simp⟩
  rw [back_be _ 4 _ hq, drop_be, List.take_append_of_le_length (Nat.le_refl _), List.take_length, List.drop_append_of_le_length (Nat.le_refl _), List.drop_length, List.nil_append] at hC
  refine hC.mono fun out H' h => ?_
  rcases h with ⟨h1, h2, h3⟩ | ⟨h1, h2, h3⟩
  · exact .inl ⟨ht.1 h1, h2, h3⟩
  · exact .inr ⟨fun k => h1 (ht.2 k), h2, h3⟩
theorem sRight_long {p : Sp} (h : sRight p.1 p.2 = true) : p.1.data.toList.length ≤ 16 ∧ p.2.data.toList.length ≤ 16 := by
  unfold sRight at h
  simp only [Bool.and_eq_true, decide_eq_true_eq] at h
  have s1 : p.1.size = p.1.data.toList.length := rfl
  have s2 : p.2.size = p.2.data.toList.length := rfl
  omega
theorem not_right {p : Sp} (h : ¬ (p.1.data.toList.length ≤ 16 ∧ p.2.data.toList.length ≤ 16)) : sRight p.1 p.2 = false := by
  cases hs : sRight p.1 p.2
  · rfl
  · exact absurd (sRight_long hs) h
/-- what is read, where it is read -/
theorem take_s (p : Sp) (h1 : p.1.data.toList.length ≤ 1000) (h2 : p.2.data.toList.length ≤ 1000) : ACalls Try.prog 46 1 20 [.ptr 0 0] (rd (encS p)) (fun out H' => (sRight p.1 p.2 = true ∧ out = .ret (spv p) ∧ H' = rd []) ∨ (sRight p.1 p.2 = false ∧ out = gone ∧ H' = [])) := by
  have hA := text_at p.1 (txt p.2) h1 (by unfold txt; rw [List.length_append, be_len]; omega)
  have hB := text_at p.2 [] h2 (by simp)
  rw [List.append_nil] at hB
  have b1 := asS_back p.1
  have b2 := asS_back p.2
  unfold asS at b1 b2
  unfold encS
  refine acalls_of tok dok (f := 46) ⟨Try.func46, rfl, by kernel_rfl⟩ ?_; refine c_start (fun _ h => h) ?_
  refine awd ?_
  refine cal [0] (hA) ?_ ?_
  · intro x H' h; rcases h with ⟨hg, h1, h2⟩ | ⟨hg, h1, h2⟩ <;> first | (cases h1; done) | (cases h1; subst h2)
    · refine akc ?_
      refine awd ?_
      rw [b1]
      refine cal [0] (hB) ?_ ?_
      · intro x H' h; rcases h with ⟨hg, h1, h2⟩ | ⟨hg, h1, h2⟩ <;> first | (cases h1; done) | (cases h1; subst h2)
        · refine akc ?_
          refine awd ?_
          rw [b2]
          refine cal [] (right_c7 p) ?_ ?_
          · refine ret1 ?_; first | (refine akc ?_) | (refine aec ?_)
            cases hs : sRight p.1 p.2
            · refine awd ?_
              refine cal [0] (fail_c []) ?_ ?_
              · first | (exact retN) | (exact retP)
              · intro x H' h
                obtain ⟨q1, q2⟩ := h
                cases q1; subst q2
                refine awd ?_
                exact e_pan (H' := []) (rest := _) (.inr ⟨rfl, rfl, rfl⟩) (.of_eq rfl) (Nat.le_of_ble_eq_true rfl)
            · refine awd ?_
              exact e_ret (H' := rd []) (rest := _) rfl (.inl ⟨rfl, rfl, rfl⟩) (.of_eq rfl) (Nat.le_of_ble_eq_true rfl)
          · first | (exact retN) | (exact retP)
      · intro x H' h; rcases h with ⟨hg, h1, h2⟩ | ⟨hg, h1, h2⟩ <;> first | (cases h1; done) | (cases h1; subst h2)
        refine awd ?_
        exact e_pan (H' := []) (rest := _) (.inr ⟨not_right fun k => by omega, rfl, rfl⟩) (.of_eq rfl) (Nat.le_of_ble_eq_true rfl)
  · intro x H' h; rcases h with ⟨hg, h1, h2⟩ | ⟨hg, h1, h2⟩ <;> first | (cases h1; done) | (cases h1; subst h2)
    refine awd ?_
    exact e_pan (H' := []) (rest := _) (.inr ⟨not_right fun k => by omega, rfl, rfl⟩) (.of_eq rfl) (Nat.le_of_ble_eq_true rfl)
def tcell (p : Sp) : Heap := [(0, .box [.v (.string p.1), .v (.string p.2)])]
def noSp : Sp := (⟨#[]⟩, ⟨#[]⟩)
theorem bytes1_c (p : Sp) (h1 : p.1.data.toList.length ≤ 1000) (h2 : p.2.data.toList.length ≤ 1000) : ACalls Try.prog 45 2 40 [.ptr 1 0, .ptr 0 0] ((1, .box [.list ((encS p).map brow) .free]) :: tcell noSp)
    (cbR 1 (fun l' H' => sRight p.1 p.2 = true ∧ l' = [] ∧ H' = tcell p) fun H' => sRight p.1 p.2 = false ∧ H' = tcell noSp) := by
  refine acalls_of tok dok (f := 45) ⟨Try.func45, rfl, by kernel_rfl⟩ ?_; refine c_start (fun _ h => h) ?_
  refine awd ?_
  refine cal [1] (take_s p h1 h2) ?_ ?_
  · intro x H' h; rcases h with ⟨hg, h1, h2⟩ | ⟨hg, h1, h2⟩ <;> first | (cases h1; done) | (cases h1; subst h2)
    refine akc ?_
    refine awd ?_
    exact e_ret (H' := (1, .box [.list (([] : List UInt8).map brow) .free]) :: tcell p) (rest := []) rfl (.inl ⟨_, [], tcell p, ⟨hg, rfl, rfl⟩, rfl, rfl⟩) (.of_eq rfl) (Nat.le_of_ble_eq_true rfl)
  · intro x H' h; rcases h with ⟨hg, h1, h2⟩ | ⟨hg, h1, h2⟩ <;> first | (cases h1; done) | (cases h1; subst h2)
    refine awd ?_
    exact e_pan (H' := tcell noSp) (rest := []) (.inr ⟨_, ⟨hg, rfl⟩, rfl, rfl⟩) (.of_eq rfl) (Nat.le_of_ble_eq_true rfl)
theorem tcell_keep (p : Sp) : keepH 1 (tcell p) := fun f hf => by simp [renH, Res.ren, AV.renL, AV.ren, hf, tcell]
theorem read_span (p : Sp) (h1 : p.1.data.toList.length ≤ 1000) (h2 : p.2.data.toList.length ≤ 1000) : ACalls Try.prog 32 1 42 [.list ((encS p).map brow) .free, .fn 45 [.ptr 0 0]] (tcell noSp)
    fun out H' => (sRight p.1 p.2 = true ∧ out = .ret (.v (.bool true)) ∧ H' = tcell p) ∨ (sRight p.1 p.2 = false ∧ out = .ret (.v (.bool false)) ∧ H' = tcell noSp) :=
  (read_c (m := 1) (by decide) (bytes1_c p h1 h2) (fun f hf => by simp [AV.renL, AV.ren, hf]) (tcell_keep _) (fun l' H' h => by rw [h.2.2]; exact tcell_keep _) (fun H' h => by rw [h.2]; exact tcell_keep _)).mono fun out H' h => by
    rcases h with ⟨l', ⟨k1, k2, k3⟩, k4⟩ | ⟨⟨k1, k2⟩, k3⟩
    · subst k2
      exact .inl ⟨k1, k4, k3⟩
    · exact .inr ⟨k1, k3, k2⟩
theorem ne_same (p : Sp) (x y : Operand) (w : World) : (do eqGuard .neq 23 x y (.agg #[.string p.1, .string p.2]) (.agg #[.string p.1, .string p.2]); binOp .neq 23 (.agg #[.string p.1, .string p.2]) (.agg #[.string p.1, .string p.2]) : Sem Value).run Try.prog w = .ok (.bool false) w := by
  simp [eqGuard, go_sem, Sem.run_bind, Result.andThen]
theorem headS_len (s : ByteArray) : (headS s 20).data.toList.length ≤ 1000 := by
  show (headS s 20).size ≤ 1000
  unfold headS
  split
  · rw [ByteArray.size_extract]; omega
  · rename_i h; omega
theorem mLo_len (a : Int) : (mLo a).data.toList.length ≤ 1000 := by
  have h : ∀ x ∈ rowL, x.data.toList.length ≤ 1000 := by decide
  unfold mLo
  split
  · decide
  · exact h _ (rowS_mem a)
def byB (a b : Int) (r : Sp) : List Sp := [(mLo a, mLo b), r, noSp]
def bySt (a b : Int) (r : Sp) (i : Nat) : ASt :=
  ⟨[.dead, .dead, .dead, .dead, .dead, .dead, .dead, .dead, .dead, .dead, .dead, .dead, .dead, .dead, .dead, .dead, .dead, .dead, .dead, .dead, .dead, .dead, .dead, .dead, .list ((byB a b r).map srow) .free, .v (.int .i64 3), .v (.int .i64 i)] ++ List.replicate 27 .dead, [], 10 + 100 * i⟩
set_option maxRecDepth 100000 in
set_option maxHeartbeats 3200000 in
theorem bytes_c (a b : Int) (raw : Sp) (ha : IntOk a) (hb : IntOk b) : ACalls Try.prog 10 0 400 [.v (.int .i64 a), .v (.int .i64 b), spv raw] [] (fun out H' => out = .ret (.v (.bool true)) ∧ H' = []) := by
  refine acalls_of tok dok (f := 10) ⟨Try.func10, rfl, by kernel_rfl⟩ ?_; refine c_start (fun _ h => h) ?_
  refine awd ?_
  refine cal [] (head_c raw.1 20) ?_ ?_
  · refine ret1 ?_; first | (refine akc ?_) | (refine aec ?_)
    refine awd ?_
    refine cal [] (head_c raw.2 20) ?_ ?_
    · refine ret1 ?_; first | (refine akc ?_) | (refine aec ?_)
      refine awd ?_
      refine cal [] (made_c a b ha.1 ha.2 hb.1 hb.2) ?_ ?_
      · refine ret1 ?_; first | (refine akc ?_) | (refine aec ?_)
        refine awd ?_
        refine c_loop2 (fun i (_ : Unit) => bySt a b (headS raw.1 20, headS raw.2 20) i) (fun i _ => i ≤ 3) (fun i _ => 3 - i) 0 () (by decide) (.to [_] ?_ (.of_eq rfl) (Nat.le_of_ble_eq_true rfl)) ?_
        · unfold bySt
          (repeat' (first | (with_reducible exact .nil) | (refine .cons ?_ ?_) | (exact Wk.dead _) | (with_reducible exact Wk.refl _) | (exact WkL.nil))) <;> first | exact Wk.eq rfl | exact Wk.free _ _
        · generalize hr : (headS raw.1 20, headS raw.2 20) = r
          have hl : ∀ i, i < 3 → ∃ q, (byB a b r)[i]? = some q ∧ q.1.data.toList.length ≤ 1000 ∧ q.2.data.toList.length ≤ 1000 := fun i hi => by
            obtain rfl | rfl | rfl : i = 0 ∨ i = 1 ∨ i = 2 := by omega
            · exact ⟨_, rfl, mLo_len a, mLo_len b⟩
            · subst hr; exact ⟨_, rfl, headS_len _, headS_len _⟩
            · exact ⟨_, rfl, by decide, by decide⟩
          rintro i _ hi
          obtain rfl | rfl | rfl | rfl : i = 0 ∨ i = 1 ∨ i = 2 ∨ i = 3 := by omega
          · refine c_turn (n' := 10 + 100 * 0) (fun _ h => h) (fun _ h => h) rfl ?_
            obtain ⟨q, hq, q1, q2⟩ := hl 0 (by decide)
            have hix : 0 ≤ ((0 : Nat) : Int) ∧ ((byB a b r).map srow)[Int.toNat ((0 : Nat) : Int)]? = some (srow q) ∧ (srow q).length = 2 := ⟨Int.natCast_nonneg _, (by rw [Int.toNat_natCast, List.getElem?_map, hq]; rfl), rfl⟩
            have hW := write_c [] q q1 q2 (by decide)
            rw [List.nil_append] at hW
            have hel : (encS q).length < 1073741824 := by
              unfold encS txt
              rw [List.length_append, List.length_append, List.length_append, be_len, be_len]
              omega
            refine awd ?_
            refine cal [] (new_c) ?_ ?_
            · refine ret1 ?_; first | (refine akc ?_) | (refine aec ?_)
              refine awd ?_
              refine cal [11, 12] (hW) ?_ ?_
              · refine ret1 ?_; first | (refine akc ?_) | (refine aec ?_)
                refine awd ?_
                refine cal [11, 12] (done_c (encS q) hel) ?_ ?_
                · refine ret1 ?_; first | (refine akc ?_) | (refine aec ?_)
                  refine awd ?_
                  refine calw [14] (read_span q q1 q2) ?_ ?_
                  · intro x H' h
                    rcases h with ⟨hs, e1, e2⟩ | ⟨hs, e1, e2⟩
                    · cases e1; subst e2
                      refine akc ?_
                      refine awd ?_
                      refine cal [] (right_c7 q) ?_ ?_
                      · refine ret1 ?_; first | (refine akc ?_) | (refine aec ?_)
                        rw [hs]
                        refine awd ?_
                        (with_reducible refine is_aop ?_)
                        refine a_q1 rfl (qFall false (fun _ h => h) (ne_same q _ _)) ?_
                        refine awd ?_
                        refine k_loop (1, ()) (show 1 ≤ 3 from by decide) (show 3 - 1 < 3 - 0 from by decide) (.to ?_ ?_ ?_ (Nat.le_of_ble_eq_true rfl))
                        rotate_left
                        · unfold bySt
                          (repeat' (first | (with_reducible exact .nil) | (refine .cons ?_ ?_) | (exact Wk.dead _) | (with_reducible exact Wk.refl _) | (exact WkL.nil))) <;> first | (exact Wk.eq rfl) | (exact Wk.int (w64 (by omega) (by omega))) | (exact Wk.int (by simp)) | (exact Wk.int (by simp; omega)) | (exact Wk.eq (by simp))
                        · exact .refl _
                      · first | (exact retN) | (exact retP)
                    · cases e1; subst e2
                      refine akc ?_
                      refine awd ?_
                      refine cal [] (right_c7 q) ?_ ?_
                      · refine ret1 ?_; first | (refine akc ?_) | (refine aec ?_)
                        rw [hs]
                        refine awd ?_
                        refine k_loop (1, ()) (show 1 ≤ 3 from by decide) (show 3 - 1 < 3 - 0 from by decide) (.to ?_ ?_ ?_ (Nat.le_of_ble_eq_true rfl))
                        rotate_left
                        · unfold bySt
                          (repeat' (first | (with_reducible exact .nil) | (refine .cons ?_ ?_) | (exact Wk.dead _) | (with_reducible exact Wk.refl _) | (exact WkL.nil))) <;> first | (exact Wk.eq rfl) | (exact Wk.int (w64 (by omega) (by omega))) | (exact Wk.int (by simp)) | (exact Wk.int (by simp; omega)) | (exact Wk.eq (by simp))
                        · exact .refl _
                      · first | (exact retN) | (exact retP)
                  · intro x H' h
                    rcases h with ⟨_, e1, _⟩ | ⟨_, e1, _⟩ <;> cases e1
                · first | (exact retN) | (exact retP)
              · first | (exact retN) | (exact retP)
            · first | (exact retN) | (exact retP)
          · refine c_turn (n' := 10 + 100 * 1) (fun _ h => h) (fun _ h => h) rfl ?_
            obtain ⟨q, hq, q1, q2⟩ := hl 1 (by decide)
            have hix : 0 ≤ ((1 : Nat) : Int) ∧ ((byB a b r).map srow)[Int.toNat ((1 : Nat) : Int)]? = some (srow q) ∧ (srow q).length = 2 := ⟨Int.natCast_nonneg _, (by rw [Int.toNat_natCast, List.getElem?_map, hq]; rfl), rfl⟩
            have hW := write_c [] q q1 q2 (by decide)
            rw [List.nil_append] at hW
            have hel : (encS q).length < 1073741824 := by
              unfold encS txt
              rw [List.length_append, List.length_append, List.length_append, be_len, be_len]
              omega
            refine awd ?_
            refine cal [] (new_c) ?_ ?_
            · refine ret1 ?_; first | (refine akc ?_) | (refine aec ?_)
              refine awd ?_
              refine cal [111, 112] (hW) ?_ ?_
              · refine ret1 ?_; first | (refine akc ?_) | (refine aec ?_)
                refine awd ?_
                refine cal [111, 112] (done_c (encS q) hel) ?_ ?_
                · refine ret1 ?_; first | (refine akc ?_) | (refine aec ?_)
                  refine awd ?_
                  refine calw [114] (read_span q q1 q2) ?_ ?_
                  · intro x H' h
                    rcases h with ⟨hs, e1, e2⟩ | ⟨hs, e1, e2⟩
                    · cases e1; subst e2
                      refine akc ?_
                      refine awd ?_
                      refine cal [] (right_c7 q) ?_ ?_
                      · refine ret1 ?_; first | (refine akc ?_) | (refine aec ?_)
                        rw [hs]
                        refine awd ?_
                        (with_reducible refine is_aop ?_)
                        refine a_q1 rfl (qFall false (fun _ h => h) (ne_same q _ _)) ?_
                        refine awd ?_
                        refine k_loop (2, ()) (show 2 ≤ 3 from by decide) (show 3 - 2 < 3 - 1 from by decide) (.to ?_ ?_ ?_ (Nat.le_of_ble_eq_true rfl))
                        rotate_left
                        · unfold bySt
                          (repeat' (first | (with_reducible exact .nil) | (refine .cons ?_ ?_) | (exact Wk.dead _) | (with_reducible exact Wk.refl _) | (exact WkL.nil))) <;> first | (exact Wk.eq rfl) | (exact Wk.int (w64 (by omega) (by omega))) | (exact Wk.int (by simp)) | (exact Wk.int (by simp; omega)) | (exact Wk.eq (by simp))
                        · exact .refl _
                      · first | (exact retN) | (exact retP)
                    · cases e1; subst e2
                      refine akc ?_
                      refine awd ?_
                      refine cal [] (right_c7 q) ?_ ?_
                      · refine ret1 ?_; first | (refine akc ?_) | (refine aec ?_)
                        rw [hs]
                        refine awd ?_
                        refine k_loop (2, ()) (show 2 ≤ 3 from by decide) (show 3 - 2 < 3 - 1 from by decide) (.to ?_ ?_ ?_ (Nat.le_of_ble_eq_true rfl))
                        rotate_left
                        · unfold bySt
                          (repeat' (first | (with_reducible exact .nil) | (refine .cons ?_ ?_) | (exact Wk.dead _) | (with_reducible exact Wk.refl _) | (exact WkL.nil))) <;> first | (exact Wk.eq rfl) | (exact Wk.int (w64 (by omega) (by omega))) | (exact Wk.int (by simp)) | (exact Wk.int (by simp; omega)) | (exact Wk.eq (by simp))
                        · exact .refl _
                      · first | (exact retN) | (exact retP)
                  · intro x H' h
                    rcases h with ⟨_, e1, _⟩ | ⟨_, e1, _⟩ <;> cases e1
                · first | (exact retN) | (exact retP)
              · first | (exact retN) | (exact retP)
            · first | (exact retN) | (exact retP)
          · refine c_turn (n' := 10 + 100 * 2) (fun _ h => h) (fun _ h => h) rfl ?_
            obtain ⟨q, hq, q1, q2⟩ := hl 2 (by decide)
            have hix : 0 ≤ ((2 : Nat) : Int) ∧ ((byB a b r).map srow)[Int.toNat ((2 : Nat) : Int)]? = some (srow q) ∧ (srow q).length = 2 := ⟨Int.natCast_nonneg _, (by rw [Int.toNat_natCast, List.getElem?_map, hq]; rfl), rfl⟩
            have hW := write_c [] q q1 q2 (by decide)
            rw [List.nil_append] at hW
            have hel : (encS q).length < 1073741824 := by
              unfold encS txt
              rw [List.length_append, List.length_append, List.length_append, be_len, be_len]
              omega
            refine awd ?_
            refine cal [] (new_c) ?_ ?_
            · refine ret1 ?_; first | (refine akc ?_) | (refine aec ?_)
              refine awd ?_
              refine cal [211, 212] (hW) ?_ ?_
              · refine ret1 ?_; first | (refine akc ?_) | (refine aec ?_)
                refine awd ?_
                refine cal [211, 212] (done_c (encS q) hel) ?_ ?_
                · refine ret1 ?_; first | (refine akc ?_) | (refine aec ?_)
                  refine awd ?_
                  refine calw [214] (read_span q q1 q2) ?_ ?_
                  · intro x H' h
                    rcases h with ⟨hs, e1, e2⟩ | ⟨hs, e1, e2⟩
                    · cases e1; subst e2
                      refine akc ?_
                      refine awd ?_
                      refine cal [] (right_c7 q) ?_ ?_
                      · refine ret1 ?_; first | (refine akc ?_) | (refine aec ?_)
                        rw [hs]
                        refine awd ?_
                        (with_reducible refine is_aop ?_)
                        refine a_q1 rfl (qFall false (fun _ h => h) (ne_same q _ _)) ?_
                        refine awd ?_
                        refine k_loop (3, ()) (show 3 ≤ 3 from by decide) (show 3 - 3 < 3 - 2 from by decide) (.to ?_ ?_ ?_ (Nat.le_of_ble_eq_true rfl))
                        rotate_left
                        · unfold bySt
                          (repeat' (first | (with_reducible exact .nil) | (refine .cons ?_ ?_) | (exact Wk.dead _) | (with_reducible exact Wk.refl _) | (exact WkL.nil))) <;> first | (exact Wk.eq rfl) | (exact Wk.int (w64 (by omega) (by omega))) | (exact Wk.int (by simp)) | (exact Wk.int (by simp; omega)) | (exact Wk.eq (by simp))
                        · exact .refl _
                      · first | (exact retN) | (exact retP)
                    · cases e1; subst e2
                      refine akc ?_
                      refine awd ?_
                      refine cal [] (right_c7 q) ?_ ?_
                      · refine ret1 ?_; first | (refine akc ?_) | (refine aec ?_)
                        rw [hs]
                        refine awd ?_
                        refine k_loop (3, ()) (show 3 ≤ 3 from by decide) (show 3 - 3 < 3 - 2 from by decide) (.to ?_ ?_ ?_ (Nat.le_of_ble_eq_true rfl))
                        rotate_left
                        · unfold bySt
                          (repeat' (first | (with_reducible exact .nil) | (refine .cons ?_ ?_) | (exact Wk.dead _) | (with_reducible exact Wk.refl _) | (exact WkL.nil))) <;> first | (exact Wk.eq rfl) | (exact Wk.int (w64 (by omega) (by omega))) | (exact Wk.int (by simp)) | (exact Wk.int (by simp; omega)) | (exact Wk.eq (by simp))
                        · exact .refl _
                      · first | (exact retN) | (exact retP)
                  · intro x H' h
                    rcases h with ⟨_, e1, _⟩ | ⟨_, e1, _⟩ <;> cases e1
                · first | (exact retN) | (exact retP)
              · first | (exact retN) | (exact retP)
            · first | (exact retN) | (exact retP)
          · refine c_turn (n' := 10 + 100 * 3) (fun _ h => h) (fun _ h => h) rfl ?_
            refine awd ?_
            refine cal [] (known7_c) ?_ ?_
            · refine ret1 ?_; first | (refine akc ?_) | (refine aec ?_)
              refine awd ?_
              exact e_ret (H' := []) (rest := []) rfl ⟨rfl, rfl⟩ (.of_eq rfl) (Nat.le_of_ble_eq_true rfl)
            · first | (exact retN) | (exact retP)
      · first | (exact retN) | (exact retP)
    · first | (exact retN) | (exact retP)
  · first | (exact retN) | (exact retP)
end Go.Proofs.Ytjklcpfkmnjjkaa
