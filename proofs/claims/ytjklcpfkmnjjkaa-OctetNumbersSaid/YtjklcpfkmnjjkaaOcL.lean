/- Chapter 2's closed sentence. -/
import Derived.Test.YtjklcpfkmnjjkaaOcK

namespace Go.Am
/-- data that says no more -/
def LeD (a b : AV) : Prop := ∀ X x, SimD X a x → SimD X b x
theorem LeD.refl (a : AV) : LeD a a := fun _ _ h => h
theorem LeD.free (rows : List (List AV)) (o : Own) : LeD (.list rows o) (.list rows .free) := fun _ _ h => h.free
inductive LDL : List AV → List AV → Prop
  | nil : LDL [] []
  | cons {a b : AV} {s t : List AV} (h : LeD a b) (hs : LDL s t) : LDL (a :: s) (b :: t)
inductive LDR : List (List AV) → List (List AV) → Prop
  | nil : LDR [] []
  | cons {a b : List AV} {s t : List (List AV)} (h : LDL a b) (hs : LDR s t) : LDR (a :: s) (b :: t)
theorem LDL.len {s t : List AV} (h : LDL s t) : s.length = t.length := by
  induction h with
  | nil => rfl
  | cons _ _ ih => simp [ih]
theorem LDL.get {s t : List AV} (h : LDL s t) : ∀ (i : Nat) (b : AV), t[i]? = some b → ∃ a, s[i]? = some a ∧ LeD a b := by
  induction h with
  | nil => intro i b hb; simp at hb
  | @cons a b s t h1 _ ih =>
    intro i c hc
    cases i with
    | zero => simp at hc; subst hc; exact ⟨a, rfl, h1⟩
    | succ i => exact ih i c hc
theorem LDR.len {s t : List (List AV)} (h : LDR s t) : s.length = t.length := by
  induction h with
  | nil => rfl
  | cons _ _ ih => simp [ih]
theorem LDR.get {s t : List (List AV)} (h : LDR s t) : ∀ (i : Nat) (b : List AV), t[i]? = some b → ∃ a, s[i]? = some a ∧ LDL a b := by
  induction h with
  | nil => intro i b hb; simp at hb
  | @cons a b s t h1 _ ih =>
    intro i c hc
    cases i with
    | zero => simp at hc; subst hc; exact ⟨a, rfl, h1⟩
    | succ i => exact ih i c hc
theorem LeD.rows {rows rows' : List (List AV)} (h : LDR rows rows') (o : Own) : LeD (.list rows o) (.list rows' .free) := fun X x hx => by
  cases hx with
  | nil _ a c hc ho hs =>
    cases h
    exact .nil .free a c hc (fun h => by cases h) (.inl rfl)
  | list _ _ b off c s y hn hc ho hs hr hX hS h1 =>
    have e := h.len
    have hr' : ∀ row ∈ rows', row.length = s := fun row hrow => by
      obtain ⟨i, hi, rfl⟩ := List.getElem_of_mem hrow
      obtain ⟨a, ha, hd⟩ := h.get i _ (List.getElem?_eq_getElem hi)
      rw [← hd.len]
      exact hr a (List.mem_of_getElem? ha)
    rw [e]
    refine .list rows' .free b off c s y (by omega) hc (fun h => by cases h) (.inl rfl) hr' (fun i row j a k1 k2 => ?_) (fun i row j a k1 k2 => ?_) (fun i row j a k1 k2 => ?_)
    · obtain ⟨r0, q1, q2⟩ := h.get i row k1
      obtain ⟨a0, q3, q4⟩ := q2.get j a k2
      exact hX i r0 j a0 q1 q3
    · obtain ⟨r0, q1, q2⟩ := h.get i row k1
      obtain ⟨a0, q3, q4⟩ := q2.get j a k2
      exact q4 _ _ (hS i r0 j a0 q1 q3)
    · obtain ⟨r0, q1, q2⟩ := h.get i row k1
      obtain ⟨a0, q3, q4⟩ := q2.get j a k2
      exact h1 i r0 j a0 q1 q3
theorem LeA.rows {rows rows' : List (List AV)} (h : LDR rows rows') (o : Own) : LeA (.list rows o) (.list rows' .free) := fun G x hx => by
  cases hx with
  | data _ _ hd => exact .data _ _ (LeD.rows h _ _ _ hd)
  | tok _ k _ _ hd => exact .data _ _ (LeD.rows h _ _ _ hd)
theorem Wk.rows {rows rows' : List (List AV)} (h : LDR rows rows') (o : Own) : Wk (.list rows o) (.list rows' .free) :=
  ⟨fun G x hx => by
    refine .of ?_
    have := hx.down
    unfold AV.down at this
    split at this
    · rename_i h0; cases h0; exact LeA.rows h _ _ _ this
    · exact LeA.rows h _ _ _ this, fun G x hx => LeA.rows h o _ _ hx⟩
end Go.Am
namespace Go.Proofs.Ytjklcpfkmnjjkaa
open Go.Am
set_option linter.unusedSimpArgs false
set_option linter.unusedVariables false
theorem done_k (l : List UInt8) (h : l.length < 1073741824) : ACalls Try.prog 30 2 3 [.ptr 0 0] (wr l) (fun out H' => out = .ret (.list (l.map brow) .free) ∧ H' = wr l) := by
  refine acalls_of tok dok (f := 30) ⟨Try.func30, rfl, by kernel_rfl⟩ ?_; refine c_start (fun _ h => h) ?_
  refine awd ?_
  refine calw [] (clone_c (l.map brow) (brows l) (by simp; omega)) ?_ ?_
  · refine ret1 ?_; first | (refine akc ?_) | (refine aec ?_)
    refine awd ?_
    refine e_ret (H' := wr l) (rest := []) rfl ⟨rfl, rfl⟩ (.of_eq rfl) (Nat.le_of_ble_eq_true rfl)
  · first | (exact retN) | (exact retP)
theorem readNil_c (b : List UInt8) : ACalls Try.prog 32 0 1 [.list (b.map brow) .free, .v .nilFunc] [] (fun out H' => out = .ret (.v (.bool (decide ((((b.map brow).length : Nat) : Int) = 0)))) ∧ H' = []) := by
  refine acalls_of tok dok (f := 32) ⟨Try.func32, rfl, by kernel_rfl⟩ ?_; refine c_start (fun _ h => h) ?_
  refine awd ?_
  (with_reducible refine is_aop ?_)
  refine a_q1 rfl (qFall true (fun _ h => h) (fun w => by rfl)) ?_
  refine awd ?_
  exact e_ret (H' := []) (rest := _) rfl ⟨rfl, rfl⟩ (.of_eq rfl) (Nat.le_of_ble_eq_true rfl)
def six : List Ask := [⟨1, 0, 7, 0, []⟩, ⟨2, 0, 2147483648, 0, []⟩, ⟨3, 0, 18446744073709551615, 0, []⟩, ⟨4, 0, 0, 13826050856027422720, []⟩, ⟨5, 3, 0, 0, [97, 98, 99]⟩, ⟨5, -1, 0, 0, []⟩]
theorem six_ok : ∀ a ∈ six, AskOk a := by
  intro a ha
  simp only [six, List.mem_cons, List.not_mem_nil, or_false] at ha
  rcases ha with rfl | rfl | rfl | rfl | rfl | rfl <;> exact ⟨by decide, by decide⟩
/-- rows as they are written out in the text -/
theorem six_rows : LDR [[.v (.int .i64 1), .v (.int .i64 0), .v (.int .u64 7), .v (.float .f64 0), .list [] .full], [.v (.int .i64 2), .v (.int .i64 0), .v (.int .u64 2147483648), .v (.float .f64 0), .list [] .full],
    [.v (.int .i64 3), .v (.int .i64 0), .v (.int .u64 18446744073709551615), .v (.float .f64 0), .list [] .full], [.v (.int .i64 4), .v (.int .i64 0), .v (.int .u64 0), .v (.float .f64 13826050856027422720), .list [] .full],
    [.v (.int .i64 5), .v (.int .i64 3), .v (.int .u64 0), .v (.float .f64 0), .list [[.v (.int .u8 97)], [.v (.int .u8 98)], [.v (.int .u8 99)]] .full], [.v (.int .i64 5), .v (.int .i64 (-1)), .v (.int .u64 0), .v (.float .f64 0), .list [] .full]] (six.map arow) := by
  have e : ∀ {a b c d : AV} {r : List (List AV)}, LDL [a, b, c, d, .list r .full] [a, b, c, d, .list r .free] := .cons (.refl _) (.cons (.refl _) (.cons (.refl _) (.cons (.refl _) (.cons (.free _ _) .nil))))
  exact .cons e (.cons e (.cons e (.cons e (.cons e (.cons e .nil)))))
theorem one_row (a : Ask) (r : List (List AV)) (h : a.b.map brow = r) : LDR [[.v (.int .i64 a.kind), .v (.int .i64 a.most), .v (.int .u64 a.n), .v (.float .f64 a.x), .list r .full]] ([a].map arow) := by
  subst h
  exact .cons (.cons (.refl _) (.cons (.refl _) (.cons (.refl _) (.cons (.refl _) (.cons (.free _ _) .nil))))) .nil
def nuSt (out : List UInt8) (N n : Nat) : ASt :=
  ⟨[.v (.bool false), .list (six.map arow) .free, .dead, .list (out.map brow) .free, .dead, .v (.int .i64 n)] ++ List.replicate 102 .dead, [], N + 10⟩
set_option maxRecDepth 100000 in
set_option maxHeartbeats 3200000 in
theorem numbers_c : ACalls Try.prog 7 0 3000000 [] [] (fun out H' => out = .ret (.v (.bool true)) ∧ H' = []) := by
  have olen := enc_len six
  have hW := written_c six six_ok (by decide)
  rw [show six.take 15 = six from rfl] at hW
  have o2 : (enc six).length ≤ 204 := olen
  generalize enc six = out at *
  refine acalls_of tok dok (f := 7) ⟨Try.func7, rfl, by kernel_rfl⟩ ?_; refine c_start (fun _ h => h) ?_
  refine awd ?_
  refine a_call rfl rfl rfl rfl (fun _ h => h) (by_c [] hW rfl (.cons (LeA.rows six_rows _) .nil) (fun _ h => h) rfl rfl ?_ ?_)
  · refine ret1 ?_; first | (refine akc ?_) | (refine aec ?_)
    refine awd ?_
    rw [beq_self_eq_true]
    refine awd ?_
    refine c_loop2 (nuSt out) (fun N n => n ≤ out.length + 1 ∧ N ≤ 2000 * n + 200) (fun _ n => out.length + 1 - n) 200 0 ⟨by omega, by omega⟩ (.to [_] ?_ (.of_eq rfl) (Nat.le_of_ble_eq_true rfl)) ?_
    · unfold nuSt
      refine .cons (.refl _) (.cons (.rows six_rows _) (.cons (.dead _) (.cons (.free _ _) (.cons (.dead _) ?_))))
      (repeat' (first | (with_reducible exact .nil) | (refine .cons ?_ ?_) | (exact Wk.dead _) | (with_reducible exact Wk.refl _) | (exact WkL.nil))) <;> first | (exact Wk.eq rfl) | (exact Wk.int (w64 (by omega) (by omega))) | (exact Wk.int (by simp)) | (exact Wk.int (by simp; omega)) | (exact Wk.eq (by simp))
    · rintro N n ⟨h1, h2⟩
      refine c_turn (n' := N + 10) (fun _ h => h) (fun _ h => h) rfl ?_
      refine awd ?_
      ((with_reducible refine is_cond ?_); refine c_cond rfl (fun hc => ?_) (fun hc => ?_))
      · have hn : n ≤ out.length := by simpa using hc
        have hnl : (out.take n).length ≤ 204 := by rw [List.length_take]; omega
        refine awd ?_
        (with_reducible refine is_aop ?_); first | (refine a_qS rfl (fun _ h => h) ?_ ?_) | (refine a_qS rfl (qIx (fun _ h => h)) ?_ ?_) | (refine a_qS rfl (qAnd5 (fun _ h => h)) ?_ ?_) | (refine a_qS rfl (qStr (fun _ h => h)) ?_ ?_) | (refine a_qS rfl (qAnd4 (fun _ h => h)) ?_ ?_)
        · refine ⟨trivial, Int.natCast_nonneg n, Nat.zero_le _, ?_, brows out⟩
          simpa using hn
        refine k_as (.list ((out.take n).map brow) .free) (by simp [List.map_take, orFull, isFull, isNone]) ?_
        refine awd ?_
        refine cal [] (reads_c six (out.take n) (by decide) (by omega)) ?_ ?_
        · refine ret1 ?_; first | (refine akc ?_) | (refine aec ?_)
          refine awd ?_
          (with_reducible refine is_aop ?_)
          refine a_append_tok rfl rfl rfl rfl rfl rfl rfl rfl rfl rfl rfl findL_here rfl rfl (by simp) (fun q hq => by rw [forceH_eq, setL_here]; exact hq) (by (first | (intro row hr; simp only [List.mem_cons, List.not_mem_nil, or_false] at hr; rcases hr with rfl | rfl | rfl | rfl <;> rfl) | (intro row hr; simp at hr; done) | (intro row hr; simp only [List.mem_singleton] at hr; subst hr; rfl) | (intro row hr; obtain ⟨_, _, rfl⟩ := List.mem_map.1 hr; rfl))) (by (refine ⟨?_, ?_⟩ <;> (simp only [List.length_map, List.length_append, List.length_cons, List.length_nil]; omega))) ?_
          refine awd ?_
          refine calw [] (reads_c six (out ++ [0]) (by decide) (by simp; omega)) ?_ ?_ (hargs := .cons (by rw [List.nil_append, List.map_append]; exact LeA.free _ _) (.cons (.refl _) .nil))
          · refine ret1 ?_; first | (refine akc ?_) | (refine aec ?_)
            refine awd ?_
            rw [w64 (n := (n : Int) + 1) (by omega) (by omega)]
            refine k_loop (N + 1001, n + 1) ⟨by show n + 1 ≤ out.length + 1; omega, by show N + 1001 ≤ 2000 * (n + 1) + 200; omega⟩ (by show out.length + 1 - (n + 1) < out.length + 1 - n; omega) (.to [_] ?_ (.of_eq rfl) ?_)
            · unfold nuSt
              (repeat' (first | (with_reducible exact .nil) | (refine .cons ?_ ?_) | (exact Wk.dead _) | (with_reducible exact Wk.refl _) | (exact WkL.nil))) <;> first | (exact Wk.eq rfl) | (exact Wk.int (w64 (by omega) (by omega))) | (exact Wk.int (by simp)) | (exact Wk.int (by simp; omega)) | (exact Wk.eq (by simp))
            · show N + 10 + _ + _ + _ ≤ N + 1001 + 10
              omega
          · first | (exact retN) | (exact retP)
        · first | (exact retN) | (exact retP)
      · (with_reducible refine c_exit ?_)
        (with_reducible refine k_seq_exit ?_)
        (with_reducible refine k_loop_exit ?_)
        refine k_block_here rfl ?_
        refine k_seq_to ⟨_, [], 2000000⟩ (.drop (rest := []) (.refl _) (by show N + 10 ≤ 2000000; omega)) ?_
        refine c_turn (n' := 2000000) (fun _ h => h) (fun _ h => h) rfl ?_
        obtain ⟨z1, hz1⟩ : ∃ z : List UInt8, z = List.replicate 1048577 0 := ⟨_, rfl⟩
        obtain ⟨z2, hz2⟩ : ∃ z : List UInt8, z = List.replicate 1048576 0 := ⟨_, rfl⟩
        have l1 : z1.length = 1048577 := by rw [hz1, List.length_replicate]
        have l2 : z2.length = 1048576 := by rw [hz2, List.length_replicate]
        refine awd ?_
        refine cal [] (new_c) ?_ ?_
        · refine ret1 ?_; first | (refine akc ?_) | (refine aec ?_)
          refine awd ?_
          (with_reducible refine is_aop ?_); first | (refine a_qS rfl (fun _ h => h) ?_ ?_) | (refine a_qS rfl (qIx (fun _ h => h)) ?_ ?_) | (refine a_qS rfl (qAnd5 (fun _ h => h)) ?_ ?_) | (refine a_qS rfl (qStr (fun _ h => h)) ?_ ?_) | (refine a_qS rfl (qAnd4 (fun _ h => h)) ?_ ?_)
          · exact ⟨rfl, by decide, by decide, by decide⟩
          refine k_as (.list (z1.map brow) .full) (by rw [hz1, List.map_replicate]; rfl) ?_
          clear hz1
          refine awd ?_
          have hT1 := text_c [] z1 (by omega) (by decide)
          rw [if_neg (by omega), decide_eq_false (by omega)] at hT1
          refine calw [2000000, 2000001] (hT1) ?_ ?_
          · refine ret1 ?_; first | (refine akc ?_) | (refine aec ?_)
            refine awd ?_
            refine cal [2000000, 2000001] (done_k [] (by decide)) ?_ ?_
            · refine ret1 ?_; first | (refine akc ?_) | (refine aec ?_)
              refine awd ?_
              (with_reducible refine is_aop ?_); first | (refine a_qS rfl (fun _ h => h) ?_ ?_) | (refine a_qS rfl (qIx (fun _ h => h)) ?_ ?_) | (refine a_qS rfl (qAnd5 (fun _ h => h)) ?_ ?_) | (refine a_qS rfl (qStr (fun _ h => h)) ?_ ?_) | (refine a_qS rfl (qAnd4 (fun _ h => h)) ?_ ?_)
              · exact ⟨rfl, by decide, by decide, by decide⟩
              refine k_as (.list (z2.map brow) .full) (by rw [hz2, List.map_replicate]; rfl) ?_
              clear hz2
              refine awd ?_
              have hT2 := text_c [] z2 (by omega) (by decide)
              rw [if_pos (by omega), decide_eq_true (by omega)] at hT2
              refine calw [2000000, 2000001] (hT2) ?_ ?_
              · refine ret1 ?_; first | (refine akc ?_) | (refine aec ?_)
                refine awd ?_
                (with_reducible refine is_aop ?_); first | (refine a_qS rfl (fun _ h => h) ?_ ?_) | (refine a_qS rfl (qIx (fun _ h => h)) ?_ ?_) | (refine a_qS rfl (qAnd5 (fun _ h => h)) ?_ ?_) | (refine a_qS rfl (qStr (fun _ h => h)) ?_ ?_) | (refine a_qS rfl (qAnd4 (fun _ h => h)) ?_ ?_)
                · exact ⟨rfl, by decide, by decide, by decide⟩
                refine k_as (.list ((List.replicate 9 (0 : UInt8)).map brow) .full) (by rw [List.map_replicate]; rfl) ?_
                refine awd ?_
                have hX := refText_c [] (List.replicate 9 0) (by decide) (by decide)
                have hN1 := readNil_c []
                rw [decide_eq_true (by rfl)] at hN1
                have hN2 := readNil_c [1]
                rw [decide_eq_false (by decide)] at hN2
                have hq : ([] ++ (be (List.replicate 9 (0 : UInt8)).length 4 ++ List.replicate 9 0) : List UInt8).length = 13 := by simp [be_len]
                generalize ([] ++ (be (List.replicate 9 (0 : UInt8)).length 4 ++ List.replicate 9 0) : List UInt8) = q at *
                refine calw [] (hX) ?_ ?_
                · refine ret1 ?_; first | (refine akc ?_) | (refine aec ?_)
                  refine awd ?_
                  refine calw [] (reads_c [⟨5, 8, 0, 0, []⟩] q (by decide) (by omega)) ?_ ?_ (hargs := .cons (LeA.free _ _) (.cons (LeA.rows (one_row ⟨5, 8, 0, 0, []⟩ [] rfl) _) .nil))
                  · refine ret1 ?_; first | (refine akc ?_) | (refine aec ?_)
                    refine awd ?_
                    refine calw [] (reads_c [⟨5, 9, 0, 0, []⟩] q (by decide) (by omega)) ?_ ?_ (hargs := .cons (LeA.free _ _) (.cons (LeA.rows (one_row ⟨5, 9, 0, 0, []⟩ [] rfl) _) .nil))
                    · refine ret1 ?_; first | (refine akc ?_) | (refine aec ?_)
                      refine awd ?_
                      refine calw [] (reads_c [⟨4, 0, 0, 0, []⟩] [127, 240, 0, 0, 0, 0, 0, 1] (by decide) (by decide)) ?_ ?_ (hargs := .cons (LeA.free _ _) (.cons (LeA.rows (one_row ⟨4, 0, 0, 0, []⟩ [] rfl) _) .nil))
                      · refine ret1 ?_; first | (refine akc ?_) | (refine aec ?_)
                        refine awd ?_
                        refine calw [] (reads_c [⟨6, 0, 0, 0, []⟩] [] (by decide) (by decide)) ?_ ?_ (hargs := .cons (LeA.free _ _) (.cons (LeA.rows (one_row ⟨6, 0, 0, 0, []⟩ [] rfl) _) .nil))
                        · refine ret1 ?_; first | (refine akc ?_) | (refine aec ?_)
                          refine awd ?_
                          refine calw [] (hN1) ?_ ?_
                          · refine ret1 ?_; first | (refine akc ?_) | (refine aec ?_)
                            refine awd ?_
                            refine calw [] (hN2) ?_ ?_
                            · refine ret1 ?_; first | (refine akc ?_) | (refine aec ?_)
                              refine awd ?_
                              refine cal [] (known_c) ?_ ?_
                              · refine ret1 ?_; first | (refine akc ?_) | (refine aec ?_)
                                refine awd ?_
                                exact e_ret (H' := []) (rest := _) rfl ⟨rfl, rfl⟩ (.of_eq rfl) (Nat.le_of_ble_eq_true rfl)
                              · first | (exact retN) | (exact retP)
                            · first | (exact retN) | (exact retP)
                          · first | (exact retN) | (exact retP)
                        · first | (exact retN) | (exact retP)
                      · first | (exact retN) | (exact retP)
                    · first | (exact retN) | (exact retP)
                  · first | (exact retN) | (exact retP)
                · first | (exact retN) | (exact retP)
              · first | (exact retN) | (exact retP)
            · first | (exact retN) | (exact retP)
          · first | (exact retN) | (exact retP)
        · first | (exact retN) | (exact retP)
  · first | (exact retN) | (exact retP)
end Go.Proofs.Ytjklcpfkmnjjkaa
