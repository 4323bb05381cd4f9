/- What is written, by the program and by the document. -/
import Derived.Test.YtjklcpfkmnjjkaaOcD

namespace Go.Proofs.Ytjklcpfkmnjjkaa
open Go.Am
set_option linter.unusedSimpArgs false
set_option linter.unusedVariables false

structure Ask where
  kind : Int
  most : Int
  n : Nat
  x : Nat
  b : List UInt8
def arow (a : Ask) : List AV := [.v (.int .i64 a.kind), .v (.int .i64 a.most), .v (.int .u64 a.n), .v (.float .f64 a.x), .list (a.b.map brow) .free]
theorem arows (l : List Ask) : ∀ row ∈ l.map arow, row.length = 5 := fun row h => by obtain ⟨_, _, rfl⟩ := List.mem_map.1 h; rfl
def enc1 (a : Ask) : List UInt8 :=
  if a.kind = 1 then [UInt8.ofNat a.n] else if a.kind = 2 then be (a.n % 4294967296) 4 else if a.kind = 3 then be a.n 8 else if a.kind = 4 then be (canonB a.x) 8 else if a.kind = 5 then be (a.b.take 30).length 4 ++ a.b.take 30 else []
def enc : List Ask → List UInt8
  | [] => []
  | a :: l => enc1 a ++ enc l
theorem enc_app : ∀ l m, enc (l ++ m) = enc l ++ enc m
  | [], m => rfl
  | a :: l, m => by simp [enc, enc_app l m]
theorem enc_succ (l : List Ask) (i : Nat) (hi : i < l.length) : enc (l.take (i + 1)) = enc (l.take i) ++ enc1 l[i] := by
  rw [List.take_succ_eq_append_getElem hi, enc_app]; simp [enc]
theorem enc1_len (a : Ask) : (enc1 a).length ≤ 34 := by
  unfold enc1
  split
  · simp
  split
  · simp [be_len]
  split
  · simp [be_len]
  split
  · simp [be_len]
  split
  · simp [be_len, Nat.min_le_left]; omega
  · simp
theorem enc_len : ∀ l, (enc l).length ≤ 34 * l.length
  | [] => by simp [enc]
  | a :: l => by
    have h1 := enc1_len a
    have h2 := enc_len l
    simp only [enc, List.length_append, List.length_cons]
    omega
/-- an Ask as it may be handed in -/
def AskOk (a : Ask) : Prop := a.n < 18446744073709551616 ∧ a.x < 18446744073709551616
theorem lo8 (x : Nat) : IntKind.u8.wrap (x : Int) = ((UInt8.ofNat x).toNat : Int) := by
  rw [IntKind.wrap_u8, UInt8.toNat_ofNat']; simp
theorem c_loop4 {P : Program} {TT : Types} {D : Nat → List Oper → List AV → Heap → Nat → Kc → Prop} {s : List AV} {L : Heap} {n : Nat} {Kk : Kc} {x : Code} {α β γ δ : Type} (S : α → β → γ → δ → ASt) (C : α → β → γ → δ → Prop) (μ : α → β → γ → δ → Nat) (a : α) (b : β) (c : γ) (d : δ) (ha : C a b c d) (hc : Conv ⟨s, L, n⟩ (S a b c d))
    (hround : ∀ a b c d, C a b c d → acode P TT D x (S a b c d).slots (S a b c d).L (S a b c d).next (loopK (fun p : α × β × γ × δ => S p.1 p.2.1 p.2.2.1 p.2.2.2) (fun p => C p.1 p.2.1 p.2.2.1 p.2.2.2) (fun p => μ p.1 p.2.1 p.2.2.1 p.2.2.2) (a, b, c, d) Kk)) : acode P TT D (.loop x) s L n Kk :=
  c_loop' (fun p : α × β × γ × δ => S p.1 p.2.1 p.2.2.1 p.2.2.2) (fun p => C p.1 p.2.1 p.2.2.1 p.2.2.2) (fun p => μ p.1 p.2.1 p.2.2.1 p.2.2.2) (a := (a, b, c, d)) ha hc fun p h => hround p.1 p.2.1 p.2.2.1 p.2.2.2 h
theorem setL_here {i : Nat} {r r' : Res} {H : Heap} : setL ((i, r) :: H) i r' = (i, r') :: H := if_pos rfl
theorem setL_skip {i j : Nat} {r r' : Res} {H : Heap} (h : j ≠ i) : setL ((j, r) :: H) i r' = (j, r) :: setL H i r' := if_neg h
theorem setL_2 {i j k : Nat} {r r' a b : Res} {H : Heap} (h : j ≠ i) (h' : k ≠ i) : setL ((j, a) :: (k, b) :: (i, r) :: H) i r' = (j, a) :: (k, b) :: (i, r') :: H := by rw [setL_skip h, setL_skip h', setL_here]
theorem perm4 (a b c d : Nat × Res) : [a, b, c, d].Perm ([b, c, a] ++ [d]) := (List.perm_append_comm (l₁ := [a]) (l₂ := [b, c])).append_right [d]
def wSt (l : List Ask) (out : List UInt8) (k N i : Nat) : ASt :=
  ⟨[.list (l.map arow) .free, .dead, .dead, .dead, .dead, .ptr 0 0, .list (out.map brow) (.tok k), .v (.bool true), .v (.int .i64 i)] ++ List.replicate 111 .dead, wr out ++ [(k, .tok 1 (out.map brow).length)], N + 10⟩
set_option maxRecDepth 100000 in
set_option maxHeartbeats 1600000 in
theorem written_c (l : List Ask) (hl : ∀ a ∈ l, AskOk a) (h : l.length ≤ 9223372036854775807) : ACalls Try.prog 26 0 90 [.list (l.map arow) .free] [] (fun out H' => out = .ret (.tuple [.list ((enc (l.take 15)).map brow) .free, .list ((enc (l.take 15)).map brow) (.tok 89), .v (.bool true)]) ∧ H' = tokH 89 (enc (l.take 15)).length) := by
  refine acalls_of tok dok (f := 26) ⟨Try.func26, rfl, by kernel_rfl⟩ ?_; refine c_start (fun _ h => h) ?_
  refine awd ?_
  refine cal [] (new_c) ?_ ?_
  · refine ret1 ?_; first | (refine akc ?_) | (refine aec ?_)
    refine awd ?_
    refine c_loop4 (wSt l) (fun out k N i => i ≤ 15 ∧ i ≤ l.length ∧ out = enc (l.take i) ∧ 2 ≤ k ∧ k < N + 10 ∧ N ≤ 4 * i) (fun _ _ _ i => 15 - i) [] 2 0 0 ⟨by omega, by omega, rfl, by omega, by omega, by omega⟩ ?_ ?_
    · refine (Conv.tokSlot (j := 6) (sz := 1) (rows := []) rfl (by simp)).trans (.to [] ?_ ((List.perm_append_comm (l₁ := [_]) (l₂ := [_, _])).trans (.of_eq ?_)) (Nat.le_of_ble_eq_true rfl))
      · unfold wSt
        (repeat' (first | (with_reducible exact .nil) | (refine .cons ?_ ?_) | (exact Wk.dead _) | (with_reducible exact Wk.refl _) | (exact WkL.nil))) <;> first | (exact Wk.eq rfl) | (exact Wk.int (w64 (by omega) (by omega))) | (exact Wk.int (by simp)) | (exact Wk.int (by simp; omega)) | (exact Wk.eq (by simp))
      · rfl
    · rintro out k N i ⟨h1, h2, rfl, h3, h4, h5⟩
      refine c_turn (n' := N + 10) (fun _ h => h) (fun _ h => h) rfl ?_
      repeat' (first | (refine awd1 ?_) | (((with_reducible refine is_aops ?_); refine o_split rfl rfl rfl (fun hc => ?_) (fun hc => ?_) <;> rw [hc])) | (((with_reducible refine is_cond ?_); refine c_cond rfl (fun hc => ?_) (fun hc => ?_))) | (((with_reducible refine is_aop ?_); refine a_pick rfl rfl (fun hc => ?_) (fun hc => ?_) <;> rw [hc])) | fail)
      · have hi : i < l.length := by simp at *; omega
        have hi15 : i < 15 := by simp at *; omega
        have hlen := enc_len (l.take i)
        rw [List.length_take_of_le h2] at hlen
        have henc := enc_succ l i hi
        have hok := hl l[i] (List.getElem_mem hi)
        have hix : 0 ≤ (i : Int) ∧ (l.map arow)[(i : Int).toNat]? = some (arow l[i]) ∧ (arow l[i]).length = 5 := ⟨Int.natCast_nonneg i, (by rw [Int.toNat_natCast, List.getElem?_map, List.getElem?_eq_getElem hi]; rfl), rfl⟩
        generalize l[i] = a at *
        obtain ⟨kd, mo, nn, xx, bb⟩ := a
        obtain ⟨ok1, ok2⟩ := hok
        simp only at ok1 ok2
        generalize enc (l.take i) = out at *
        have o1 : out.length < 1073741000 := by omega
        have o2 : out.length < 1073741824 := by omega
        have o3 : out.length < 1000000000 := by omega
        have h0 : (0 : Nat) ≠ k := by omega
        have h10 : (1 : Nat) ≠ k := by omega
        refine awd ?_
        refine cal [] (cut_c bb 30 (by omega)) ?_ ?_
        · refine ret1 ?_; first | (refine akc ?_) | (refine aec ?_)
          repeat' (first | (refine awd1 ?_) | (((with_reducible refine is_aops ?_); refine o_split rfl rfl rfl (fun hc => ?_) (fun hc => ?_) <;> rw [hc])) | (((with_reducible refine is_cond ?_); refine c_cond rfl (fun hc => ?_) (fun hc => ?_))) | (((with_reducible refine is_aop ?_); refine a_pick rfl rfl (fun hc => ?_) (fun hc => ?_) <;> rw [hc])) | fail)
          · have h1' : enc1 ⟨kd, mo, nn, xx, bb⟩ = [UInt8.ofNat nn] := by simp at *; simp [enc1, *]
            rw [lo8]
            refine cal [0, 1] (byte_c out (UInt8.ofNat nn) o2) ?_ ?_
            · refine ret1 ?_; first | (refine akc ?_) | (refine aec ?_)
              refine awd ?_
              rw [lo8]
              (with_reducible refine is_aop ?_)
              refine a_append_tok rfl rfl rfl rfl rfl rfl rfl rfl rfl rfl rfl ((findL_skip h0).trans ((findL_skip h10).trans findL_here)) rfl rfl rfl (fun q hq => by rw [forceH_eq]; exact (setL_2 h0 h10).symm ▸ hq) (by (first | assumption | (intro row hr; simp only [List.mem_cons, List.not_mem_nil, or_false] at hr; rcases hr with rfl | rfl | rfl | rfl <;> rfl) | (intro row hr; simp at hr; done) | (intro row hr; simp only [List.mem_singleton] at hr; subst hr; rfl) | (intro row hr; obtain ⟨_, _, rfl⟩ := List.mem_map.1 hr; rfl))) (by (refine ⟨?_, ?_⟩ <;> (simp only [List.length_map, List.length_append, List.length_cons, List.length_nil]; omega))) ?_
              refine awd ?_
              refine k_loop (out ++ [UInt8.ofNat nn], k, N, i + 1) ⟨hi15, hi, (by rw [henc, h1']), h3, h4, (by show N ≤ 4 * (i + 1); omega)⟩ (by show 15 - (i + 1) < 15 - i; omega) (.to [] ?_ (.of_eq ?_) (Nat.le_refl (N + 10)))
              · unfold wSt
                (repeat' (first | (with_reducible exact .nil) | (refine .cons ?_ ?_) | (exact Wk.dead _) | (with_reducible exact Wk.refl _) | (exact WkL.nil))) <;> first | exact Wk.eq rfl | exact Wk.int (w64 (by omega) (by omega)) | exact Wk.eq (by rw [List.map_append]; rfl)
              · simp [wSt, wr]
                rfl
            · first | (exact retN) | (exact retP)
          · have h1' : enc1 ⟨kd, mo, nn, xx, bb⟩ = be (nn % 4294967296) 4 := by simp at *; simp [enc1, *]
            rw [lo32]
            refine cal [0, 1] (num_c out (nn % 4294967296) (Nat.mod_lt _ (by decide)) o2) ?_ ?_
            · refine ret1 ?_; first | (refine akc ?_) | (refine aec ?_)
              refine awd ?_
              rw [lo32]
              refine calw [] (refNum_c out (nn % 4294967296) (Nat.mod_lt _ (by decide)) o2) ?_ ?_
              · refine ret1 ?_; first | (refine akc ?_) | (refine aec ?_)
                refine awd ?_
                refine k_loop (out ++ be (nn % 4294967296) 4, N + 10 + 0, N + 1, i + 1) ⟨hi15, hi, (by rw [henc, h1']), (by show 2 ≤ N + 10 + 0; omega), (by show N + 10 + 0 < N + 1 + 10; omega), (by show N + 1 ≤ 4 * (i + 1); omega)⟩ (by show 15 - (i + 1) < 15 - i; omega) (.to [(k, .tok 1 (out.map brow).length)] ?_ ?_ (Nat.le_refl (N + 10 + 1))) 
                · unfold wSt
                  (repeat' (first | (with_reducible exact .nil) | (refine .cons ?_ ?_) | (exact Wk.dead _) | (with_reducible exact Wk.refl _) | (exact WkL.nil))) <;> first | (exact Wk.eq rfl) | (exact Wk.int (w64 (by omega) (by omega))) | (exact Wk.int (by simp)) | (exact Wk.int (by simp; omega)) | (exact Wk.eq (by simp))
                · refine (perm4 _ _ _ _).trans (.of_eq ?_)
                  simp [wSt, wr, tokH, rn]
                  rfl
              · first | (exact retN) | (exact retP)
            · first | (exact retN) | (exact retP)
          · have h1' : enc1 ⟨kd, mo, nn, xx, bb⟩ = be nn 8 := by simp at *; simp [enc1, *]
            refine cal [0, 1] (long_c out nn ok1 o2) ?_ ?_
            · refine ret1 ?_; first | (refine akc ?_) | (refine aec ?_)
              refine awd ?_
              refine calw [] (refLong_c out nn ok1 o1) ?_ ?_
              · refine ret1 ?_; first | (refine akc ?_) | (refine aec ?_)
                refine awd ?_
                refine k_loop (out ++ be nn 8, N + 10 + 1, N + 2, i + 1) ⟨hi15, hi, (by rw [henc, h1']), (by show 2 ≤ N + 10 + 1; omega), (by show N + 10 + 1 < N + 2 + 10; omega), (by show N + 2 ≤ 4 * (i + 1); omega)⟩ (by show 15 - (i + 1) < 15 - i; omega) (.to [(k, .tok 1 (out.map brow).length)] ?_ ?_ (Nat.le_refl (N + 10 + 2))) 
                · unfold wSt
                  (repeat' (first | (with_reducible exact .nil) | (refine .cons ?_ ?_) | (exact Wk.dead _) | (with_reducible exact Wk.refl _) | (exact WkL.nil))) <;> first | (exact Wk.eq rfl) | (exact Wk.int (w64 (by omega) (by omega))) | (exact Wk.int (by simp)) | (exact Wk.int (by simp; omega)) | (exact Wk.eq (by simp))
                · refine (perm4 _ _ _ _).trans (.of_eq ?_)
                  simp [wSt, wr, tokH, rn]
                  rfl
              · first | (exact retN) | (exact retP)
            · first | (exact retN) | (exact retP)
          · have h1' : enc1 ⟨kd, mo, nn, xx, bb⟩ = be (canonB xx) 8 := by simp at *; simp [enc1, *]
            have hf1 := float_c out xx ok2 o2
            have hf2 := refFloat_c out xx ok2 o1
            generalize canonB xx = cx at *
            refine cal [0, 1] (hf1) ?_ ?_
            · refine ret1 ?_; first | (refine akc ?_) | (refine aec ?_)
              refine awd ?_
              refine calw [] (hf2) ?_ ?_
              · refine ret1 ?_; first | (refine akc ?_) | (refine aec ?_)
                refine awd ?_
                refine k_loop (out ++ be cx 8, N + 10 + 1, N + 2, i + 1) ⟨hi15, hi, (by rw [henc, h1']), (by show 2 ≤ N + 10 + 1; omega), (by show N + 10 + 1 < N + 2 + 10; omega), (by show N + 2 ≤ 4 * (i + 1); omega)⟩ (by show 15 - (i + 1) < 15 - i; omega) (.to [(k, .tok 1 (out.map brow).length)] ?_ ?_ (Nat.le_refl (N + 10 + 2))) 
                · unfold wSt
                  (repeat' (first | (with_reducible exact .nil) | (refine .cons ?_ ?_) | (exact Wk.dead _) | (with_reducible exact Wk.refl _) | (exact WkL.nil))) <;> first | (exact Wk.eq rfl) | (exact Wk.int (w64 (by omega) (by omega))) | (exact Wk.int (by simp)) | (exact Wk.int (by simp; omega)) | (exact Wk.eq (by simp))
                · refine (perm4 _ _ _ _).trans (.of_eq ?_)
                  simp [wSt, wr, tokH, rn]
                  rfl
              · first | (exact retN) | (exact retP)
            · first | (exact retN) | (exact retP)
          · have h1' : enc1 ⟨kd, mo, nn, xx, bb⟩ = (be (bb.take 30).length 4 ++ bb.take 30) := by simp at *; simp [enc1, *]
            have hb30 : (bb.take 30).length ≤ 30 := by rw [List.length_take]; exact Nat.min_le_left _ _
            have hbt : (bb.take 30).length ≤ 1048576 := by omega
            refine cal [0, 1] (text_c out (bb.take 30) (Nat.lt_of_le_of_lt hbt (by decide)) o3) ?_ ?_
            · rw [if_pos hbt, decide_eq_true hbt]
              refine ret1 ?_; first | (refine akc ?_) | (refine aec ?_)
              refine awd ?_
              refine calw [] (refText_c out (bb.take 30) o1 (Nat.lt_succ_of_le hbt)) ?_ ?_
              · refine ret1 ?_; first | (refine akc ?_) | (refine aec ?_)
                refine awd ?_
                refine k_loop (out ++ (be (bb.take 30).length 4 ++ bb.take 30), N + 10 + 0, N + 1, i + 1) ⟨hi15, hi, (by rw [henc, h1']), (by show 2 ≤ N + 10 + 0; omega), (by show N + 10 + 0 < N + 1 + 10; omega), (by show N + 1 ≤ 4 * (i + 1); omega)⟩ (by show 15 - (i + 1) < 15 - i; omega) (.to [(k, .tok 1 (out.map brow).length)] ?_ ?_ (Nat.le_refl (N + 10 + 1))) 
                · unfold wSt
                  (repeat' (first | (with_reducible exact .nil) | (refine .cons ?_ ?_) | (exact Wk.dead _) | (with_reducible exact Wk.refl _) | (exact WkL.nil))) <;> first | (exact Wk.eq rfl) | (exact Wk.int (w64 (by omega) (by omega))) | (exact Wk.int (by simp)) | (exact Wk.int (by simp; omega)) | (exact Wk.eq (by simp))
                · refine (perm4 _ _ _ _).trans (.of_eq ?_)
                  simp [wSt, wr, tokH, rn]
                  rfl
              · first | (exact retN) | (exact retP)
            · first | (exact retN) | (exact retP)
          · have h1' : enc1 ⟨kd, mo, nn, xx, bb⟩ = [] := by simp at *; simp [enc1, *]
            refine k_loop (out, k, N, i + 1) ⟨hi15, hi, (by rw [henc, h1', List.append_nil]), h3, h4, (by show N ≤ 4 * (i + 1); omega)⟩ (by show 15 - (i + 1) < 15 - i; omega) (.to [] ?_ (.of_eq ?_) (Nat.le_refl (N + 10))) 
            · unfold wSt
              (repeat' (first | (with_reducible exact .nil) | (refine .cons ?_ ?_) | (exact Wk.dead _) | (with_reducible exact Wk.refl _) | (exact WkL.nil))) <;> first | (exact Wk.eq rfl) | (exact Wk.int (w64 (by omega) (by omega))) | (exact Wk.int (by simp)) | (exact Wk.int (by simp; omega)) | (exact Wk.eq (by simp))
            · rfl
        · first | (exact retN) | (exact retP)
      · have he : l.take i = l.take 15 := by simp at *; congr 1; omega
        rw [he] at *
        have hlen := enc_len (l.take 15)
        have h15 : (l.take 15).length ≤ 15 := by rw [List.length_take]; exact Nat.min_le_left _ _
        generalize enc (l.take 15) = out at *
        refine cal [0, 1] (done_c out (by omega)) ?_ ?_
        · refine ret1 ?_; first | (refine akc ?_) | (refine aec ?_)
          refine awd ?_
          refine e_ret_to (H' := tokH 89 out.length) (rest := []) ((Conv.drop (H := [(k, .tok 1 (out.map brow).length)]) (rest := []) (n' := 89) ?_ ?_).trans (Conv.retok (j := 3) (L0 := []) rfl (.refl _))) rfl ⟨rfl, rfl⟩ (.of_eq ?_) (Nat.le_of_ble_eq_true rfl)
          · exact .of_eq rfl
          · show N + 10 + _ ≤ 89
            omega
          · simp [tokH]
        · first | (exact retN) | (exact retP)
      · have he : l.take i = l.take 15 := by simp at *; omega
        rw [he] at *
        have hlen := enc_len (l.take 15)
        have h15 : (l.take 15).length ≤ 15 := by rw [List.length_take]; exact Nat.min_le_left _ _
        generalize enc (l.take 15) = out at *
        refine cal [0, 1] (done_c out (by omega)) ?_ ?_
        · refine ret1 ?_; first | (refine akc ?_) | (refine aec ?_)
          refine awd ?_
          refine e_ret_to (H' := tokH 89 out.length) (rest := []) ((Conv.drop (H := [(k, .tok 1 (out.map brow).length)]) (rest := []) (n' := 89) ?_ ?_).trans (Conv.retok (j := 3) (L0 := []) rfl (.refl _))) rfl ⟨rfl, rfl⟩ (.of_eq ?_) (Nat.le_of_ble_eq_true rfl)
          · exact .of_eq rfl
          · show N + 10 + _ ≤ 89
            omega
          · simp [tokH]
        · first | (exact retN) | (exact retP)
  · first | (exact retN) | (exact retP)
end Go.Proofs.Ytjklcpfkmnjjkaa
