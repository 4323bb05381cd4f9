/- What was written is read back. -/
import Derived.Test.YtjklcpfkmnjjkaaOcF

namespace Go.Proofs.Ytjklcpfkmnjjkaa
open Go.Am
set_option linter.unusedSimpArgs false
set_option linter.unusedVariables false

theorem ubn_app : ∀ (l m : List UInt8) (a : Nat), ubn (l ++ m) a = ubn m (ubn l a)
  | [], m, a => rfl
  | c :: l, m, a => by simp [ubn, ubn_app l m]
theorem ubn_be (x : Nat) : ∀ n a, ubn (be x n) a = a * 256 ^ n + x % 256 ^ n
  | 0, a => by simp [ubn, be, Nat.mod_one]
  | n + 1, a => by
    rw [be, ubn, ubn_be x n, UInt8.toNat_ofNat', Nat.shiftRight_eq_div_pow]
    have e : 2 ^ (8 * n) = 256 ^ n := by rw [Nat.pow_mul]
    have e8 : (2 : Nat) ^ 8 = 256 := by decide
    rw [e, e8, Nat.pow_succ, Nat.mul_comm (256 ^ n) 256, Nat.add_mul, Nat.mul_assoc, Nat.add_assoc]
    congr 1
    rw [Nat.mul_comm 256 (256 ^ n), Nat.mod_mul, Nat.mul_comm (x / 256 ^ n % 256)]
    omega
theorem take_be (x n : Nat) (r : List UInt8) : (be x n ++ r).take n = be x n := by
  rw [List.take_append_of_le_length (by rw [be_len]; exact Nat.le_refl _), List.take_of_length_le (by rw [be_len]; exact Nat.le_refl _)]
theorem drop_be (x n : Nat) (r : List UInt8) : (be x n ++ r).drop n = r := by
  rw [List.drop_append_of_le_length (by rw [be_len]; exact Nat.le_refl _), List.drop_of_length_le (by rw [be_len]; exact Nat.le_refl _)]; rfl
theorem back_be (x n : Nat) (r : List UInt8) (h : x < 256 ^ n) : ubn ((be x n ++ r).take n) 0 = x := by
  rw [take_be, ubn_be, Nat.mod_eq_of_lt h, Nat.zero_mul, Nat.zero_add]
def bkH (l : List Ask) (b : Bool) : Heap := [(0, .box [.list (l.map arow) .free]), (1, .box [.v (.bool b)])]
def bkSt (l : List Ask) (N i : Nat) : ASt :=
  ⟨[.ptr 2 0, .ptr 0 0, .ptr 1 0, .dead, .v (.int .i64 i)] ++ List.replicate 91 .dead, (2, .box [.list ((enc ((l.take 15).drop i)).map brow) .free]) :: bkH l true, N + 3⟩
set_option maxRecDepth 100000 in
set_option maxHeartbeats 1600000 in
theorem back1_c (l : List Ask) (hl : ∀ a ∈ l, AskOk a) (h : l.length ≤ 9223372036854775807) : ACalls Try.prog 36 3 40 [.ptr 2 0, .ptr 0 0, .ptr 1 0] ((2, .box [.list ((enc (l.take 15)).map brow) .free]) :: bkH l true) (cbR 2 (fun l' H' => l' = [] ∧ H' = bkH l true) fun _ => False) := by
  refine acalls_of tok dok (f := 36) ⟨Try.func36, rfl, by kernel_rfl⟩ ?_; refine c_start (fun _ h => h) ?_
  refine awd ?_
  refine c_loop2 (bkSt l) (fun N i => i ≤ 15 ∧ i ≤ l.length ∧ N ≤ 2 * i) (fun _ i => 15 - i) 0 0 ⟨by omega, by omega, by omega⟩ (.to [] ?_ (.of_eq ?_) (Nat.le_of_ble_eq_true rfl)) ?_
  · unfold bkSt
    (repeat' (first | (with_reducible exact .nil) | (refine .cons ?_ ?_) | (exact Wk.dead _) | (with_reducible exact Wk.refl _) | (exact WkL.nil))) <;> first | (exact Wk.eq rfl) | (exact Wk.int (w64 (by omega) (by omega))) | (exact Wk.int (by simp)) | (exact Wk.int (by simp; omega)) | (exact Wk.eq (by simp))
  · rfl
  · rintro N i ⟨h1, h2, h3⟩
    refine c_turn (n' := N + 3) (fun _ h => h) (fun _ h => h) rfl ?_
    repeat' (first | (refine awd1 ?_) | (((with_reducible refine is_aops ?_); refine o_split rfl rfl rfl (fun hc => ?_) (fun hc => ?_) <;> rw [hc])) | (((with_reducible refine is_cond ?_); refine c_cond rfl (fun hc => ?_) (fun hc => ?_))) | (((with_reducible refine is_aop ?_); refine a_pick rfl rfl (fun hc => ?_) (fun hc => ?_) <;> rw [hc])) | fail)
    · have hi : i < l.length := by simp at *; omega
      have hi15 : i < 15 := by simp at *; omega
      have hok := hl l[i] (List.getElem_mem hi)
      have hix : 0 ≤ (i : Int) ∧ (l.map arow)[(i : Int).toNat]? = some (arow l[i]) ∧ (arow l[i]).length = 5 := ⟨Int.natCast_nonneg i, (by rw [Int.toNat_natCast, List.getElem?_map, List.getElem?_eq_getElem hi]; rfl), rfl⟩
      have henc : enc ((l.take 15).drop i) = enc1 l[i] ++ enc ((l.take 15).drop (i + 1)) := by
        rw [List.drop_eq_getElem_cons (by rw [List.length_take]; omega), List.getElem_take]; rfl
      have hlen := enc_len ((l.take 15).drop (i + 1))
      have hlen2 : ((l.take 15).drop (i + 1)).length ≤ 15 := by rw [List.length_drop, List.length_take]; omega
      rw [henc]
      generalize l[i] = a at *
      generalize hout : enc ((l.take 15).drop (i + 1)) = out at *
      obtain ⟨kd, mo, nn, xx, bb⟩ := a
      obtain ⟨ok1, ok2⟩ := hok
      simp only at ok1 ok2
      have o2 : out.length < 1073741824 := by omega
      repeat' (first | (refine awd1 ?_) | (((with_reducible refine is_aops ?_); refine o_split rfl rfl rfl (fun hc => ?_) (fun hc => ?_) <;> rw [hc])) | (((with_reducible refine is_cond ?_); refine c_cond rfl (fun hc => ?_) (fun hc => ?_))) | (((with_reducible refine is_aop ?_); refine a_pick rfl rfl (fun hc => ?_) (fun hc => ?_) <;> rw [hc])) | fail)
      · have h1' : enc1 ⟨kd, mo, nn, xx, bb⟩ = [UInt8.ofNat nn] := by simp at *; simp [enc1, *]
        rw [h1']
        have hC := rByte_c ([UInt8.ofNat nn] ++ out) (by simp; omega)
        rw [show ubn (([UInt8.ofNat nn] ++ out).take 1) 0 = (UInt8.ofNat nn).toNat by simp [ubn], show ([UInt8.ofNat nn] ++ out).drop 1 = out by simp] at hC
        refine cal [2] (hC) ?_ ?_
        · intro x H' h; rcases h with ⟨hg, h1, h2⟩ | ⟨hg, h1, h2⟩ <;> first | (cases h1; done) | (cases h1; subst h2)
          · first | (refine akc ?_) | (refine aec ?_)
            refine awd ?_
            rw [lo8, beq_self_eq_true]
            refine awd ?_
            refine k_loop (N + 1, i + 1) ⟨hi15, hi, (by show N + 1 ≤ 2 * (i + 1); omega)⟩ (by show 15 - (i + 1) < 15 - i; omega) (.to [] ?_ (.of_eq ?_) (Nat.le_refl (N + 4)))
            · unfold bkSt
              (repeat' (first | (with_reducible exact .nil) | (refine .cons ?_ ?_) | (exact Wk.dead _) | (with_reducible exact Wk.refl _) | (exact WkL.nil))) <;> first | (exact Wk.eq rfl) | (exact Wk.int (w64 (by omega) (by omega))) | (exact Wk.int (by simp)) | (exact Wk.int (by simp; omega)) | (exact Wk.eq (by simp))
            · unfold bkSt
              simp only
              rw [hout]
              rfl
        · intro x H' h; rcases h with ⟨hg, h1, h2⟩ | ⟨hg, h1, h2⟩ <;> first | (cases h1; done) | (cases h1; subst h2)
          exact absurd hg (by simp [be_len] <;> omega)
      · have h1' : enc1 ⟨kd, mo, nn, xx, bb⟩ = be (nn % 4294967296) 4 := by simp at *; simp [enc1, *]
        rw [h1']
        have hC := rNum_c (be (nn % 4294967296) 4 ++ out) (by simp [be_len]; omega)
        rw [back_be _ 4 _ (by omega), drop_be] at hC
        refine cal [2] (hC) ?_ ?_
        · intro x H' h; rcases h with ⟨hg, h1, h2⟩ | ⟨hg, h1, h2⟩ <;> first | (cases h1; done) | (cases h1; subst h2)
          · first | (refine akc ?_) | (refine aec ?_)
            refine awd ?_
            rw [lo32, beq_self_eq_true]
            refine awd ?_
            refine k_loop (N + 1, i + 1) ⟨hi15, hi, (by show N + 1 ≤ 2 * (i + 1); omega)⟩ (by show 15 - (i + 1) < 15 - i; omega) (.to [] ?_ (.of_eq ?_) (Nat.le_refl (N + 4)))
            · unfold bkSt
              (repeat' (first | (with_reducible exact .nil) | (refine .cons ?_ ?_) | (exact Wk.dead _) | (with_reducible exact Wk.refl _) | (exact WkL.nil))) <;> first | (exact Wk.eq rfl) | (exact Wk.int (w64 (by omega) (by omega))) | (exact Wk.int (by simp)) | (exact Wk.int (by simp; omega)) | (exact Wk.eq (by simp))
            · unfold bkSt
              simp only
              rw [hout]
              rfl
        · intro x H' h; rcases h with ⟨hg, h1, h2⟩ | ⟨hg, h1, h2⟩ <;> first | (cases h1; done) | (cases h1; subst h2)
          exact absurd hg (by simp [be_len] <;> omega)
      · have h1' : enc1 ⟨kd, mo, nn, xx, bb⟩ = be nn 8 := by simp at *; simp [enc1, *]
        rw [h1']
        have hC := rLong_c (be nn 8 ++ out) (by simp [be_len]; omega)
        rw [back_be _ 8 _ (by omega), drop_be] at hC
        refine cal [2] (hC) ?_ ?_
        · intro x H' h; rcases h with ⟨hg, h1, h2⟩ | ⟨hg, h1, h2⟩ <;> first | (cases h1; done) | (cases h1; subst h2)
          · first | (refine akc ?_) | (refine aec ?_)
            refine awd ?_
            rw [beq_self_eq_true]
            refine awd ?_
            refine k_loop (N + 1, i + 1) ⟨hi15, hi, (by show N + 1 ≤ 2 * (i + 1); omega)⟩ (by show 15 - (i + 1) < 15 - i; omega) (.to [] ?_ (.of_eq ?_) (Nat.le_refl (N + 4)))
            · unfold bkSt
              (repeat' (first | (with_reducible exact .nil) | (refine .cons ?_ ?_) | (exact Wk.dead _) | (with_reducible exact Wk.refl _) | (exact WkL.nil))) <;> first | (exact Wk.eq rfl) | (exact Wk.int (w64 (by omega) (by omega))) | (exact Wk.int (by simp)) | (exact Wk.int (by simp; omega)) | (exact Wk.eq (by simp))
            · unfold bkSt
              simp only
              rw [hout]
              rfl
        · intro x H' h; rcases h with ⟨hg, h1, h2⟩ | ⟨hg, h1, h2⟩ <;> first | (cases h1; done) | (cases h1; subst h2)
          exact absurd hg (by simp [be_len] <;> omega)
      · have h1' : enc1 ⟨kd, mo, nn, xx, bb⟩ = be (canonB xx) 8 := by simp at *; simp [enc1, *]
        rw [h1']
        have hb : canonB xx < 256 ^ 8 := by unfold canonB; split <;> omega
        have hC := rFloat_c (be (canonB xx) 8 ++ out) (by simp [be_len]; omega)
        have hS := same_c (canonB xx) xx hb ok2
        have hf : fOk (be (canonB xx) 8 ++ out) := ⟨by simp [be_len], by rw [back_be _ 8 _ hb, canon2]⟩
        rw [back_be _ 8 _ hb, drop_be] at hC
        rw [canon2, decide_eq_true rfl] at hS
        generalize canonB xx = cx at *
        refine cal [2] (hC) ?_ ?_
        · intro x H' h; rcases h with ⟨hg, h1, h2⟩ | ⟨hg, h1, h2⟩ <;> first | (cases h1; done) | (cases h1; subst h2)
          · first | (refine akc ?_) | (refine aec ?_)
            refine awd ?_
            refine cal [] (hS) ?_ ?_
            · refine ret1 ?_; first | (refine akc ?_) | (refine aec ?_)
              refine awd ?_
              refine k_loop (N + 1, i + 1) ⟨hi15, hi, (by show N + 1 ≤ 2 * (i + 1); omega)⟩ (by show 15 - (i + 1) < 15 - i; omega) (.to [] ?_ (.of_eq ?_) (Nat.le_refl (N + 4)))
              · unfold bkSt
                (repeat' (first | (with_reducible exact .nil) | (refine .cons ?_ ?_) | (exact Wk.dead _) | (with_reducible exact Wk.refl _) | (exact WkL.nil))) <;> first | (exact Wk.eq rfl) | (exact Wk.int (w64 (by omega) (by omega))) | (exact Wk.int (by simp)) | (exact Wk.int (by simp; omega)) | (exact Wk.eq (by simp))
              · unfold bkSt
                simp only
                rw [hout]
                rfl
            · first | (exact retN) | (exact retP)
        · intro x H' h; rcases h with ⟨hg, h1, h2⟩ | ⟨hg, h1, h2⟩ <;> first | (cases h1; done) | (cases h1; subst h2)
          exact (hg hf).elim
      · have h1' : enc1 ⟨kd, mo, nn, xx, bb⟩ = be (bb.take 30).length 4 ++ bb.take 30 := by simp at *; simp [enc1, *]
        have hb30 : (bb.take 30).length ≤ 30 := by rw [List.length_take]; exact Nat.min_le_left _ _
        rw [h1', List.append_assoc]
        have hC := rText_c (be (bb.take 30).length 4 ++ (bb.take 30 ++ out)) (-1) (by simp [be_len]; omega)
        have hf : tOk (be (bb.take 30).length 4 ++ (bb.take 30 ++ out)) (-1) := by
          refine ⟨by simp [be_len], ?_, fun h => by omega, ?_⟩
          · rw [back_be _ 4 _ (by omega)]; omega
          · rw [back_be _ 4 _ (by omega), drop_be]; simp
        rw [back_be _ 4 _ (by omega), drop_be, List.take_append_of_le_length (Nat.le_refl _), List.take_length, List.drop_append_of_le_length (Nat.le_refl _), List.drop_length, List.nil_append] at hC
        have hK := cut_c bb 30 (by omega)
        generalize bb.take 30 = xb at *
        refine cal [2] (hC) ?_ ?_
        · intro x H' h; rcases h with ⟨hg, h1, h2⟩ | ⟨hg, h1, h2⟩ <;> first | (cases h1; done) | (cases h1; subst h2)
          · first | (refine akc ?_) | (refine aec ?_)
            refine awd ?_
            refine cal [] (hK) ?_ ?_
            · refine ret1 ?_; first | (refine akc ?_) | (refine aec ?_)
              refine awd ?_
              rw [beq_self_eq_true]
              refine k_loop (N + 2, i + 1) ⟨hi15, hi, (by show N + 2 ≤ 2 * (i + 1); omega)⟩ (by show 15 - (i + 1) < 15 - i; omega) (.to [] ?_ (.of_eq ?_) (Nat.le_refl (N + 5)))
              · unfold bkSt
                (repeat' (first | (with_reducible exact .nil) | (refine .cons ?_ ?_) | (exact Wk.dead _) | (with_reducible exact Wk.refl _) | (exact WkL.nil))) <;> first | (exact Wk.eq rfl) | (exact Wk.int (w64 (by omega) (by omega))) | (exact Wk.int (by simp)) | (exact Wk.int (by simp; omega)) | (exact Wk.eq (by simp))
              · unfold bkSt
                simp only
                rw [hout]
                rfl
            · first | (exact retN) | (exact retP)
        · intro x H' h; rcases h with ⟨hg, h1, h2⟩ | ⟨hg, h1, h2⟩ <;> first | (cases h1; done) | (cases h1; subst h2)
          exact (hg hf).elim
      · have h1' : enc1 ⟨kd, mo, nn, xx, bb⟩ = [] := by simp at *; simp [enc1, *]
        rw [h1', List.nil_append]
        refine k_loop (N, i + 1) ⟨hi15, hi, (by show N ≤ 2 * (i + 1); omega)⟩ (by show 15 - (i + 1) < 15 - i; omega) (.to [] ?_ (.of_eq ?_) (Nat.le_refl (N + 3)))
        · unfold bkSt
          (repeat' (first | (with_reducible exact .nil) | (refine .cons ?_ ?_) | (exact Wk.dead _) | (with_reducible exact Wk.refl _) | (exact WkL.nil))) <;> first | (exact Wk.eq rfl) | (exact Wk.int (w64 (by omega) (by omega))) | (exact Wk.int (by simp)) | (exact Wk.int (by simp; omega)) | (exact Wk.eq (by simp))
        · unfold bkSt
          simp only
          rw [hout]
          rfl
    · have he : (l.take 15).drop i = [] := List.drop_of_length_le (by rw [List.length_take]; simp at *; omega)
      rw [he]
      refine cal [2] (left_c []) ?_ ?_
      · refine ret1 ?_; first | (refine akc ?_) | (refine aec ?_)
        refine awd ?_
        refine e_ret (H' := (2, .box [.list (([] : List UInt8).map brow) .free]) :: bkH l true) (rest := []) rfl (.inl ⟨_, [], bkH l true, ⟨rfl, rfl⟩, rfl, rfl⟩) (.of_eq rfl) ?_
        show N + 3 + _ ≤ 40
        omega
      · first | (exact retN) | (exact retP)
    · have he : (l.take 15).drop i = [] := List.drop_of_length_le (by rw [List.length_take]; simp at *; omega)
      rw [he]
      refine cal [2] (left_c []) ?_ ?_
      · refine ret1 ?_; first | (refine akc ?_) | (refine aec ?_)
        refine awd ?_
        refine e_ret (H' := (2, .box [.list (([] : List UInt8).map brow) .free]) :: bkH l true) (rest := []) rfl (.inl ⟨_, [], bkH l true, ⟨rfl, rfl⟩, rfl, rfl⟩) (.of_eq rfl) ?_
        show N + 3 + _ ≤ 40
        omega
      · first | (exact retN) | (exact retP)
theorem back_c (l : List Ask) (hl : ∀ a ∈ l, AskOk a) (h : l.length ≤ 9223372036854775807) : ACalls Try.prog 9 0 300 [.list (l.map arow) .free] [] (fun out H' => out = .ret (.v (.bool true)) ∧ H' = []) := by
  refine acalls_of tok dok (f := 9) ⟨Try.func9, rfl, by kernel_rfl⟩ ?_; refine c_start (fun _ h => h) ?_
  refine awd ?_
  refine cal [] (written_c l hl h) ?_ ?_
  · refine ret1 ?_; first | (refine akc ?_) | (refine aec ?_)
    refine awd ?_
    refine calw [0, 91] (read_c (m := 2) (cap := [.ptr 0 0, .ptr 1 0]) (H1 := bkH l true) (by decide) (back1_c l hl h) (fun f hf => by simp [AV.renL, AV.ren, hf]) (fun f hf => by simp [renH, Res.ren, AV.renL, AV.ren, hf, bkH, Own.ren]) (fun l' H h f hf => by rw [h.2]; simp [renH, Res.ren, AV.renL, AV.ren, hf, bkH, Own.ren]) (fun _ h => h.elim)) ?_ ?_
    · intro x H' h
      rcases h with ⟨l', ⟨rfl, rfl⟩, h1⟩ | ⟨h1, _⟩
      · cases h1
        refine akc ?_
        refine awd ?_
        refine cal [] (known_c) ?_ ?_
        · refine ret1 ?_; first | (refine akc ?_) | (refine aec ?_)
          refine awd ?_
          exact e_ret (H' := []) rfl ⟨rfl, rfl⟩ (.refl _) (Nat.le_of_ble_eq_true rfl)
        · first | (exact retN) | (exact retP)
      · exact h1.elim
    · intro x H' h
      rcases h with ⟨l', _, h1⟩ | ⟨_, h1⟩ <;> cases h1
  · first | (exact retN) | (exact retP)
end Go.Proofs.Ytjklcpfkmnjjkaa
