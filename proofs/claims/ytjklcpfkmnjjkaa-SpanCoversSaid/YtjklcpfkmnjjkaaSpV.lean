/- SpanCovers, by contracts. -/
import Derived.Test.YtjklcpfkmnjjkaaSpL
import Derived.Test.YtjklcpfkmnjjkaaOcE

namespace Go.Proofs.Ytjklcpfkmnjjkaa
open Go.Am
set_option linter.unusedSimpArgs false
set_option linter.unusedVariables false
/-- at the head of a round: all is cut by cs -/
def cvSt (l : List Int) (names : List ByteArray) (cs : List ByteArray) (i : Nat) : ASt :=
  ⟨[.list (l.map irow) .free, .list (names.map nrow) .free, .dead, .dead, .dead, .list ((zc noB cs).map srow) .free, .v (.int .i64 i)] ++ List.replicate 149 .dead, [], 20⟩
/-- while the place is looked for -/
def fkSt (l : List Int) (names : List ByteArray) (cs : List ByteArray) (i : Nat) (at' : ByteArray) (k : Nat) : ASt :=
  ⟨[.list (l.map irow) .free, .list (names.map nrow) .free, .dead, .dead, .dead, .list ((zc noB cs).map srow) .free, .v (.int .i64 i), .v (.string at'), .v (.int .i64 k)] ++ List.replicate 147 .dead, [], 20⟩
/-- the list was changed -/
def chSt (l : List Int) (names : List ByteArray) (cs : List ByteArray) (i : Nat) (at' : ByteArray) : ASt :=
  ⟨[.list (l.map irow) .free, .list (names.map nrow) .free, .dead, .dead, .dead, .list ((zc noB cs).map srow) .free, .v (.int .i64 i), .v (.string at')] ++ List.replicate 148 .dead, [], 40⟩
theorem zc_len (cs : List ByteArray) : (zc noB cs).length = cs.length + 1 := cuts_len cs
theorem zc_at (cs : List ByteArray) {k : Nat} (h : k ≤ cs.length) : 0 ≤ (k : Int) ∧ ((zc noB cs).map srow)[(k : Int).toNat]? = some (srow (cLo cs k, cHi cs k)) ∧ (srow (cLo cs k, cHi cs k)).length = 2 :=
  ⟨Int.natCast_nonneg _, by rw [Int.toNat_natCast, List.getElem?_map, show zc noB cs = cutsOf cs from rfl, cuts_at cs h]; rfl, rfl⟩
theorem splitA_eq (p : Sp) (s : ByteArray) : ∃ a b : Sp, splitA p s = .tuple [spv a, spv b, .v (.bool (sSplitB p.1 p.2 s))] ∧ (sSplitB p.1 p.2 s = true → a = (p.1, s) ∧ b = (s, p.2)) := by
  unfold splitA
  cases sSplitB p.1 p.2 s
  · exact ⟨_, _, rfl, fun h => by cases h⟩
  · exact ⟨_, _, rfl, fun _ => ⟨rfl, rfl⟩⟩
theorem cov_c {cs : List ByteArray} (h : Rise cs) (hl : cs.length ≤ 21) : ACalls Try.prog 23 0 0 [.list ((zc noB cs).map srow) .free] [] (fun out H' => out = .ret (.v (.bool true)) ∧ H' = []) := by
  have h1 := cover_cuts h
  have h2 := cuts_len cs
  show ACalls _ _ _ _ [.list ((cutsOf cs).map srow) .free] _ _
  generalize cutsOf cs = l at *
  cases l with
  | nil => simp at h2
  | cons p sp =>
    have h3 := cover_c7 p sp (by rw [h2]; omega)
    rw [h1] at h3
    exact h3
theorem apa_c {cs : List ByteArray} (h : Rise cs) (hl : cs.length ≤ 21) : ACalls Try.prog 24 0 0 [.list ((zc noB cs).map srow) .free] [] (fun out H' => out = .ret (.v (.bool true)) ∧ H' = []) := by
  have h1 := apart_cuts h
  have h2 := cuts_len cs
  show ACalls _ _ _ _ [.list ((cutsOf cs).map srow) .free] _ _
  generalize cutsOf cs = l at *
  cases l with
  | nil => simp at h2
  | cons p sp =>
    have h3 := apart_c7 p sp (by rw [h2]; omega)
    rw [h1] at h3
    exact h3
/-- while the names are gone through -/
def nmSt (l : List Int) (names : List ByteArray) (cs : List ByteArray) (i : Nat) (at' : ByteArray) (ns : List ByteArray) (j : Nat) : ASt :=
  ⟨[.list (l.map irow) .free, .list (names.map nrow) .free, .dead, .dead, .dead, .list ((zc noB cs).map srow) .free, .v (.int .i64 i), .v (.string at')] ++ List.replicate 124 .dead ++ [.list (ns.map nrow) .free, .v (.int .i64 ns.length), .v (.int .i64 j)] ++ List.replicate 21 .dead, [], 60⟩
/-- while it is counted who has one -/
def ctSt (l : List Int) (names : List ByteArray) (cs : List ByteArray) (i : Nat) (at' : ByteArray) (ns : List ByteArray) (j : Nat) (n : ByteArray) (m q : Nat) : ASt :=
  ⟨[.list (l.map irow) .free, .list (names.map nrow) .free, .dead, .dead, .dead, .list ((zc noB cs).map srow) .free, .v (.int .i64 i), .v (.string at'), .dead, .dead, .dead, .dead, .dead, .dead, .dead, .v (.string n), .v (.int .i64 ((if m < q then 1 else 0 : Nat) : Int)), .v (.int .i64 q)] ++ List.replicate 114 .dead ++ [.list (ns.map nrow) .free, .v (.int .i64 ns.length), .v (.int .i64 j)] ++ List.replicate 21 .dead, [], 60⟩
end Go.Proofs.Ytjklcpfkmnjjkaa
namespace Go.Am
/-- a value that names no object -/
def AV.flatB : AV → Bool
  | .v _ => true
  | .dead => true
  | .cref _ => true
  | .list _ (.tok _) => false
  | .list _ _ => true
  | _ => false
theorem AV.flat_ren (f : Nat → Nat) {a : AV} (h : a.flatB = true) : a.ren f = a := by
  cases a with
  | v x => rw [AV.ren]
  | dead => rw [AV.ren]
  | cref l => rw [AV.ren]
  | list rows o =>
    rw [AV.ren]
    cases o with
    | tok k => cases h
    | _ => rfl
  | _ => cases h
theorem flat_renL (f : Nat → Nat) : ∀ {l : List AV}, l.all AV.flatB = true → AV.renL f l = l
  | [], _ => by rw [AV.renL]
  | a :: l, h => by
    rw [List.all_cons, Bool.and_eq_true] at h
    rw [AV.renL, AV.flat_ren f h.1, flat_renL f h.2]
/-- the end of a round that leaves no objects -/
theorem k_loopI {Kk : Kc} {s : List AV} {L : Heap} {n' : Nat} {α : Type} {S : α → ASt} {C : α → Prop} {μ : α → Nat} {a : α} (b : α) (hb : C b) (hm : μ b < μ a) (hw : WkL s (S b).slots) (hL : (S b).L = [] := by rfl) (hf : (S b).slots.all AV.flatB = true := by rfl) (h1 : (S a).next ≤ (S b).next := by exact Nat.le_of_ble_eq_true rfl) (h2 : (S b).next ≤ n' := by exact Nat.le_of_ble_eq_true rfl) : loopK S C μ a Kk .normal s L n' :=
  k_loopR b (List.range (S b).next) hb hm (by
    rw [flat_renL _ hf, hL]
    exact .to L hw (.refl _) (Nat.le_refl _)) List.length_range List.nodup_range (fun i hi => Nat.lt_of_lt_of_le (List.mem_range.1 hi) h2) fun i hi => List.getElem?_range (Nat.lt_of_lt_of_le hi h1)
end Go.Am
namespace Go.Proofs.Ytjklcpfkmnjjkaa
open Go.Am
theorem to_nil {s : List AV} {L : Heap} {n : Nat} {τ : ASt} (hs : WkL s τ.slots) (h0 : τ.L = []) (hn : n ≤ τ.next) : Conv ⟨s, L, n⟩ τ := .to L hs (by rw [h0]; exact .refl _) hn
theorem ins_rows (cs : List ByteArray) (at' : ByteArray) {k : Nat} (hk : k ≤ cs.length) : (zc noB (cs.take k ++ at' :: cs.drop k)).map srow = ((zc noB cs).map srow).take k ++ [srow (cLo cs k, at'), srow (at', cHi cs k)] ++ ((zc noB cs).map srow).drop (k + 1) := by
  rw [zc_ins at' k cs noB hk, List.map_append, List.map_append, List.map_take, List.map_drop]; rfl
theorem del_rows (cs : List ByteArray) {k : Nat} (hk : k < cs.length) : (zc noB (cs.take k ++ cs.drop (k + 1))).map srow = ((zc noB cs).map srow).take k ++ [srow (cLo cs k, cHi cs (k + 1))] ++ ((zc noB cs).map srow).drop (k + 2) := by
  rw [zc_del k cs noB hk, List.map_append, List.map_append, List.map_take, List.map_drop]; rfl
theorem ins_ok {cs : List ByteArray} {at' : ByteArray} {k : Nat} (h : RiseR noB cs) (hk : k ≤ cs.length) (hs : sSplitB (cLo cs k) (cHi cs k) at' = true) : RiseR noB (cs.take k ++ at' :: cs.drop k) := by
  obtain ⟨h1, h2, h3⟩ := split_yes hs
  refine riseR_ins h2 k cs noB h hk h1 fun hk' => ?_
  have e : cHi cs k = cs.getD k noB := by unfold cHi; rw [List.getD_eq_getElem?_getD, List.getElem?_append_left hk', ← List.getD_eq_getElem?_getD]
  rw [← e]
  rcases h3 with h3 | h3
  · rw [cHi_next cs hk', lt_ne (h.rise k hk').1] at h3; cases h3
  · exact h3
theorem joinA_yes {cs : List ByteArray} (h : Rise cs) {k : Nat} (hk : k < cs.length) : joinA (cLo cs k, cHi cs k) (cLo cs (k + 1), cHi cs (k + 1)) = .tuple [spv (cLo cs k, cHi cs (k + 1)), .v (.bool true)] := by
  unfold joinA
  simp only [join_yes h hk]
set_option maxRecDepth 100000 in
set_option maxHeartbeats 3200000 in
theorem covers_c (l : List Int) (names : List ByteArray) (hl : ∀ n ∈ l, IntOk n) (_ : l.length ≤ 9223372036854775807) : ACalls Try.prog 6 0 100 [.list (l.map irow) .free, .list (names.map nrow) .free] [] (fun out H' => out = .ret (.v (.bool true)) ∧ H' = []) := by
  refine acalls_of tok dok (f := 6) ⟨Try.func6, rfl, by kernel_rfl⟩ ?_; refine c_start (fun _ h => h) ?_
  refine awd ?_
  refine c_loop2 (fun cs i => cvSt l names cs i) (fun cs i => RiseR noB cs ∧ cs.length ≤ i ∧ i ≤ 20) (fun _ i => 20 - i) [] 0 ⟨trivial, Nat.le_refl _, by omega⟩ (.to [] ?_ (.of_eq rfl) (Nat.le_of_ble_eq_true rfl)) ?_
  · unfold cvSt
    (repeat' (first | (with_reducible exact .nil) | (refine .cons ?_ ?_) | (exact Wk.dead _) | (with_reducible exact Wk.refl _) | (exact WkL.nil))) <;> first | exact Wk.eq rfl | exact Wk.free _ _
  · rintro cs i ⟨h1, h2, h4⟩
    have hcs : cs.length ≤ 20 := by omega
    refine c_turn (n' := 20) (fun _ h => h) (fun _ h => h) rfl ?_
    repeat' (first | (refine awd1 ?_) | (((with_reducible refine is_aops ?_); refine o_split rfl rfl rfl (fun hc => ?_) (fun hc => ?_) <;> rw [hc])) | (((with_reducible refine is_cond ?_); refine c_cond rfl (fun hc => ?_) (fun hc => ?_))) | (((with_reducible refine is_aop ?_); refine a_pick rfl rfl (fun hc => ?_) (fun hc => ?_) <;> rw [hc])) | fail)
    · have hi : i < l.length := by simp at *; omega
      have hi20 : i < 20 := by simp at *; omega
      have hx0 : 0 ≤ (i : Int) ∧ (l.map irow)[(i : Int).toNat]? = some (irow l[i]) ∧ (irow l[i]).length = 1 := ⟨Int.natCast_nonneg _, (by rw [Int.toNat_natCast, List.getElem?_map, List.getElem?_eq_getElem hi]; rfl), rfl⟩
      have q0 := hl _ (List.getElem_mem hi)
      generalize l[i] = n0 at *
      refine awd ?_
      refine cal [] (row_c n0 q0.1 q0.2) ?_ ?_
      · refine ret1 ?_; first | (refine akc ?_) | (refine aec ?_)
        generalize rowS n0 = at'
        repeat' (first | ((with_reducible refine is_aops ?_); first | (refine o_op rfl ?_) | (refine o_yes rfl rfl rfl ?_) | (refine o_no rfl rfl rfl (fun _ h => h) ?_) | (refine o_not rfl rfl rfl (fun _ h => h) ?_)) | ((with_reducible refine is_opK ?_); first | (refine k_op' (fun _ h => h) ?_)) | ((with_reducible refine is_aop ?_); first | (refine a_q1 rfl (fun _ h => h) ?_) | (refine a_box rfl (fun _ h => h) ?_) | (refine a_alloc rfl (fun _ h => h) ?_) | (refine a_storev rfl (fun _ h => h) ?_) | (refine a_store rfl (fun _ h => h) ?_) | (refine a_panic rfl rfl ?_)) | ((with_reducible refine is_aop ?_); refine a_qS rfl (qIx (fun _ h => h)) (by assumption) ?_) | (with_reducible refine o_nil ?_) | fail)
        refine k_seq ?_
        refine c_seq ?_
        repeat' (first | ((with_reducible refine is_aops ?_); first | (refine o_op rfl ?_) | (refine o_yes rfl rfl rfl ?_) | (refine o_no rfl rfl rfl (fun _ h => h) ?_) | (refine o_not rfl rfl rfl (fun _ h => h) ?_)) | ((with_reducible refine is_opK ?_); first | (refine k_op' (fun _ h => h) ?_)) | ((with_reducible refine is_aop ?_); first | (refine a_q1 rfl (fun _ h => h) ?_) | (refine a_box rfl (fun _ h => h) ?_) | (refine a_alloc rfl (fun _ h => h) ?_) | (refine a_storev rfl (fun _ h => h) ?_) | (refine a_store rfl (fun _ h => h) ?_) | (refine a_panic rfl rfl ?_)) | ((with_reducible refine is_aop ?_); refine a_qS rfl (qIx (fun _ h => h)) (by assumption) ?_) | (with_reducible refine o_nil ?_) | fail)
        refine k_seq ?_
        refine c_seq ?_
        refine c_cutx (fun (k : Nat) (_ : Unit) => fkSt l names cs i at' k) (fun k _ => k ≤ cs.length) ?_ ?_
        · rintro k _ hk
          have hz := zc_at cs hk
          refine c_turn (n' := 20) (fun _ h => h) (fun _ h => h) rfl ?_
          repeat' (first | ((with_reducible refine is_aops ?_); first | (refine o_op rfl ?_) | (refine o_yes rfl rfl rfl ?_) | (refine o_no rfl rfl rfl (fun _ h => h) ?_) | (refine o_not rfl rfl rfl (fun _ h => h) ?_)) | ((with_reducible refine is_opK ?_); first | (refine k_op' (fun _ h => h) ?_)) | ((with_reducible refine is_aop ?_); first | (refine a_q1 rfl (fun _ h => h) ?_) | (refine a_box rfl (fun _ h => h) ?_) | (refine a_alloc rfl (fun _ h => h) ?_) | (refine a_storev rfl (fun _ h => h) ?_) | (refine a_store rfl (fun _ h => h) ?_) | (refine a_panic rfl rfl ?_)) | ((with_reducible refine is_aop ?_); refine a_qS rfl (qIx (fun _ h => h)) (by assumption) ?_) | (with_reducible refine o_nil ?_) | fail)
          refine c_seq ?_
          refine awd ?_
          refine cal [] (split_c (cLo cs k, cHi cs k) at') ?_ ?_
          · obtain ⟨a, b, hab, hsp⟩ := splitA_eq (cLo cs k, cHi cs k) at'
            rw [hab]
            simp only at hsp
            simp only at hab
            generalize hok : sSplitB (cLo cs k) (cHi cs k) at' = ok at hab hsp ⊢
            refine ret1 ?_; first | (refine akc ?_) | (refine aec ?_)
            repeat' (first | ((with_reducible refine is_aops ?_); first | (refine o_op rfl ?_) | (refine o_yes rfl rfl rfl ?_) | (refine o_no rfl rfl rfl (fun _ h => h) ?_) | (refine o_not rfl rfl rfl (fun _ h => h) ?_)) | ((with_reducible refine is_opK ?_); first | (refine k_op' (fun _ h => h) ?_)) | ((with_reducible refine is_aop ?_); first | (refine a_q1 rfl (fun _ h => h) ?_) | (refine a_box rfl (fun _ h => h) ?_) | (refine a_alloc rfl (fun _ h => h) ?_) | (refine a_storev rfl (fun _ h => h) ?_) | (refine a_store rfl (fun _ h => h) ?_) | (refine a_panic rfl rfl ?_)) | ((with_reducible refine is_aop ?_); refine a_qS rfl (qIx (fun _ h => h)) (by assumption) ?_) | (with_reducible refine o_nil ?_) | fail)
            refine k_seq ?_
            refine c_seq ?_
            refine c_cutx (fun (cs' : List ByteArray) (_ : Unit) => chSt l names cs' i at') (fun cs' _ => RiseR noB cs' ∧ cs'.length ≤ i + 1) ?_ ?_
            · rintro cs' _ ⟨g1, g2⟩
              refine c_turn (n' := 40) (fun _ h => h) (fun _ h => h) rfl ?_
              refine awd ?_
              refine cal [] (cov_c g1.rise (by omega)) ?_ ?_
              · refine ret1 ?_; first | (refine akc ?_) | (refine aec ?_)
                refine awd ?_
                refine cal [] (apa_c g1.rise (by omega)) ?_ ?_
                · refine ret1 ?_; first | (refine akc ?_) | (refine aec ?_)
                  refine awd ?_
                  refine cal [] (head_c at' 3) ?_ ?_
                  · refine ret1 ?_; first | (refine akc ?_) | (refine aec ?_)
                    refine awd ?_
                    refine cal [] (few_c names) ?_ ?_
                    · refine ret1 ?_; first | (refine akc ?_) | (refine aec ?_)
                      have h4n : (names.take 4).length ≤ 4 := by simp; omega
                      refine awd ?_
                      refine c_loop2 (fun j (_ : Unit) => nmSt l names cs' i at' (headS at' 3 :: noB :: names.take 4) j) (fun j _ => j ≤ 6) (fun j _ => 6 - j) 0 () (Nat.zero_le _) (to_nil ?_ rfl (Nat.le_of_ble_eq_true rfl)) ?_
                      · unfold nmSt
                        (repeat' (first | (with_reducible exact .nil) | (refine .cons ?_ ?_) | (exact Wk.dead _) | (with_reducible exact Wk.refl _) | (exact WkL.nil))) <;> first | exact Wk.eq rfl | exact (Wk.free _ _).trans (Wk.eq rfl) | skip
                        exact Wk.int (by simp)
                      · rintro j _ hj
                        generalize hns : headS at' 3 :: noB :: names.take 4 = ns
                        have hnl : ns.length ≤ 6 := by rw [← hns]; simp; omega
                        refine c_turn (n' := 60) (fun _ h => h) (fun _ h => h) rfl ?_
                        repeat' (first | (refine awd1 ?_) | (((with_reducible refine is_aops ?_); refine o_split rfl rfl rfl (fun hc => ?_) (fun hc => ?_) <;> rw [hc])) | (((with_reducible refine is_cond ?_); refine c_cond rfl (fun hc => ?_) (fun hc => ?_))) | (((with_reducible refine is_aop ?_); refine a_pick rfl rfl (fun hc => ?_) (fun hc => ?_) <;> rw [hc])) | fail)
                        · have hjn : j < ns.length := by simp at hc; omega
                          have hx1 : 0 ≤ (j : Int) ∧ (ns.map nrow)[(j : Int).toNat]? = some (nrow ns[j]) ∧ (nrow ns[j]).length = 1 := ⟨Int.natCast_nonneg _, (by rw [Int.toNat_natCast, List.getElem?_map, List.getElem?_eq_getElem hjn]; rfl), rfl⟩
                          generalize ns[j] = nm at *
                          obtain ⟨m, hm1, hm2⟩ := has_one g1.rise nm
                          refine awd ?_
                          refine c_loop2 (fun q (_ : Unit) => ctSt l names cs' i at' ns j nm m q) (fun q _ => q ≤ cs'.length + 1) (fun q _ => 22 - q) 0 () (Nat.zero_le _) (to_nil ?_ rfl (Nat.le_of_ble_eq_true rfl)) ?_
                          · unfold ctSt
                            (repeat' (first | (with_reducible exact .nil) | (refine .cons ?_ ?_) | (exact Wk.dead _) | (with_reducible exact Wk.refl _) | (exact WkL.nil))) <;> first | exact Wk.eq rfl | exact Wk.int (by simp)
                          · rintro q _ hq
                            refine c_turn (n' := 60) (fun _ h => h) (fun _ h => h) rfl ?_
                            repeat' (first | (refine awd1 ?_) | (((with_reducible refine is_aops ?_); refine o_split rfl rfl rfl (fun hc => ?_) (fun hc => ?_) <;> rw [hc])) | (((with_reducible refine is_cond ?_); refine c_cond rfl (fun hc => ?_) (fun hc => ?_))) | (((with_reducible refine is_aop ?_); refine a_pick rfl rfl (fun hc => ?_) (fun hc => ?_) <;> rw [hc])) | fail)
                            · have hq' : q ≤ cs'.length := by simp [zc_len] at hc; omega
                              have hz' := zc_at cs' hq'
                              have hh := has_c7 (cLo cs' q, cHi cs' q) nm
                              rw [show sHas (cLo cs' q, cHi cs' q).1 (cLo cs' q, cHi cs' q).2 nm = decide (q = m) from hm2 q hq'] at hh
                              refine awd ?_
                              refine cal [] (hh) ?_ ?_
                              · refine ret1 ?_; first | (refine akc ?_) | (refine aec ?_)
                                repeat' (first | (refine awd1 ?_) | (((with_reducible refine is_aops ?_); refine o_split rfl rfl rfl (fun hc => ?_) (fun hc => ?_) <;> rw [hc])) | (((with_reducible refine is_cond ?_); refine c_cond rfl (fun hc => ?_) (fun hc => ?_))) | (((with_reducible refine is_aop ?_); refine a_pick rfl rfl (fun hc => ?_) (fun hc => ?_) <;> rw [hc])) | fail)
                                · have e : q = m := by simpa using hc
                                  refine k_loopI (q + 1, ()) (by show q + 1 ≤ _; omega) (by show 22 - (q + 1) < 22 - q; omega) ?_
                                  unfold ctSt
                                  (repeat' (first | (with_reducible exact .nil) | (refine .cons ?_ ?_) | (exact Wk.dead _) | (with_reducible exact Wk.refl _) | (exact WkL.nil))) <;> first | exact Wk.eq rfl | skip
                                  · subst e; exact Wk.int (by rw [if_neg (Nat.lt_irrefl q), if_pos (Nat.lt_succ_self q)]; decide)
                                  · exact Wk.int (w64' (by omega) (by omega))
                                · have e : q ≠ m := by simpa using hc
                                  refine k_loopI (q + 1, ()) (by show q + 1 ≤ _; omega) (by show 22 - (q + 1) < 22 - q; omega) ?_
                                  unfold ctSt
                                  (repeat' (first | (with_reducible exact .nil) | (refine .cons ?_ ?_) | (exact Wk.dead _) | (with_reducible exact Wk.refl _) | (exact WkL.nil))) <;> first | exact Wk.eq rfl | skip
                                  · exact Wk.int (by
                                      by_cases h5 : m < q
                                      · rw [if_pos h5, if_pos (by omega)]
                                      · rw [if_neg h5, if_neg (by omega)])
                                  · exact Wk.int (w64' (by omega) (by omega))
                              · first | (exact retN) | (exact retP)
                            · exfalso
                              rename_i hcq
                              have e : ¬ q < cs'.length + 1 := by simp [zc_len] at hcq; omega
                              rw [if_pos (by omega)] at hc
                              cases hc
                            · refine k_loopI (j + 1, ()) (by show j + 1 ≤ 6; omega) (by show 6 - (j + 1) < 6 - j; omega) ?_
                              unfold nmSt
                              (repeat' (first | (with_reducible exact .nil) | (refine .cons ?_ ?_) | (exact Wk.dead _) | (with_reducible exact Wk.refl _) | (exact WkL.nil))) <;> first | exact Wk.eq rfl | exact Wk.int (w64' (by omega) (by omega))
                        · rw [w64' (n := (i : Int) + 1) (by omega) (by omega)]
                          refine k_loopI (cs', i + 1) ⟨g1, g2, by omega⟩ (by show 20 - (i + 1) < 20 - i; omega) ?_
                          unfold cvSt
                          (repeat' (first | (with_reducible exact .nil) | (refine .cons ?_ ?_) | (exact Wk.dead _) | (with_reducible exact Wk.refl _) | (exact WkL.nil))) <;> first | (exact Wk.eq rfl) | (exact Wk.int (w64 (by omega) (by omega))) | (exact Wk.int (by simp)) | (exact Wk.int (by simp; omega)) | (exact Wk.eq (by simp))
                    · first | (exact retN) | (exact retP)
                  · first | (exact retN) | (exact retP)
                · first | (exact retN) | (exact retP)
              · first | (exact retN) | (exact retP)
            · intro Kx kN kP kR kE
              refine c_turn (L' := [(21, .box [.v (.string b.1), .v (.string b.2)]), (20, .box [.v (.string a.1), .v (.string a.2)])]) (n' := 22) (fun _ h => h) (fun _ h => h) rfl ?_
              repeat' (first | (refine awd1 ?_) | (((with_reducible refine is_aops ?_); refine o_split rfl rfl rfl (fun hc => ?_) (fun hc => ?_) <;> rw [hc])) | (((with_reducible refine is_cond ?_); refine c_cond rfl (fun hc => ?_) (fun hc => ?_))) | (((with_reducible refine is_aop ?_); refine a_pick rfl rfl (fun hc => ?_) (fun hc => ?_) <;> rw [hc])) | fail)
              · have hrw : ∀ row ∈ (zc noB cs).map srow, row.length = 2 := fun row hr => by obtain ⟨_, _, rfl⟩ := List.mem_map.1 hr; rfl
                (with_reducible refine is_ev ?_); first | (refine v_qS rfl rfl rfl rfl (fun _ h => h) (fun _ h => h) ?_ ?_) | (refine v_qS rfl rfl rfl rfl (qIx (fun _ h => h)) (fun _ h => h) ?_ ?_) | (refine v_qS rfl rfl rfl rfl (qAnd5 (fun _ h => h)) (fun _ h => h) ?_ ?_) | (refine v_qS rfl rfl rfl rfl (qStr (fun _ h => h)) (fun _ h => h) ?_ ?_)
                · refine ⟨trivial, Int.natCast_nonneg k, Nat.zero_le _, ?_, hrw⟩
                  rw [List.length_map, zc_len, Int.toNat_natCast]; omega
                refine awd ?_
                rw [w64' (n := (k : Int) + 1) (by omega) (by omega)]
                (with_reducible refine is_ev ?_); first | (refine v_qS rfl rfl rfl rfl (fun _ h => h) (fun _ h => h) ?_ ?_) | (refine v_qS rfl rfl rfl rfl (qIx (fun _ h => h)) (fun _ h => h) ?_ ?_) | (refine v_qS rfl rfl rfl rfl (qAnd5 (fun _ h => h)) (fun _ h => h) ?_ ?_) | (refine v_qS rfl rfl rfl rfl (qStr (fun _ h => h)) (fun _ h => h) ?_ ?_)
                · refine ⟨Int.add_nonneg (Int.natCast_nonneg k) (by decide), trivial, ?_, Nat.le_refl _, hrw⟩
                  rw [List.length_map, zc_len]; show ((k : Int) + 1).toNat ≤ _; omega
                generalize hRA : List.drop 0 (List.take (k : Int).toNat ((zc noB cs).map srow)) = RA
                generalize hRB : List.drop ((k : Int) + 1).toNat (List.take ((zc noB cs).map srow).length ((zc noB cs).map srow)) = RB
                have hA2 : ∀ row ∈ RA, row.length = 2 := fun row hr => hrw row (by rw [← hRA] at hr; exact List.mem_of_mem_take hr)
                have hB2 : ∀ row ∈ RB, row.length = 2 := fun row hr => hrw row (by rw [← hRB] at hr; exact List.mem_of_mem_take (List.mem_of_mem_drop hr))
                have hAl : RA.length ≤ 21 := by rw [← hRA]; simp [zc_len]; omega
                have hBl : RB.length ≤ 21 := by rw [← hRB]; simp [zc_len]; omega
                refine awd ?_
                refine awd ?_
                have hokt : ok = true := by assumption
                obtain ⟨rfl, rfl⟩ := hsp hokt
                refine kN (cs.take k ++ at' :: cs.drop k) () _ _ _ ⟨ins_ok h1 hk (hok.trans hokt), by simp; omega⟩ (to_nil ?_ rfl (Nat.le_of_ble_eq_true rfl))
                unfold chSt
                (repeat' (first | (with_reducible exact .nil) | (refine .cons ?_ ?_) | (exact Wk.dead _) | (with_reducible exact Wk.refl _) | (exact WkL.nil))) <;> first | exact Wk.eq rfl | skip
                refine (Wk.free _ _).trans (Wk.eq ?_)
                rw [ins_rows cs at' hk, ← hRA, ← hRB, List.take_length, Int.toNat_natCast, List.drop_zero]
                rfl
              · have hk1 : k + 1 ≤ cs.length := by
                  rw [w64' (n := (k : Int) + 1) (by omega) (by omega), List.length_map, zc_len] at hc
                  simp at hc; omega
                have hz1 : 0 ≤ IntKind.i64.wrap ((k : Int) + 1) ∧ ((zc noB cs).map srow)[(IntKind.i64.wrap ((k : Int) + 1)).toNat]? = some (srow (cLo cs (k + 1), cHi cs (k + 1))) ∧ (srow (cLo cs (k + 1), cHi cs (k + 1))).length = 2 := by
                  rw [w64' (n := (k : Int) + 1) (by omega) (by omega)]
                  exact zc_at cs hk1
                have hjc := join_c (cLo cs k, cHi cs k) (cLo cs (k + 1), cHi cs (k + 1))
                rw [joinA_yes h1.rise hk1] at hjc
                refine awd ?_
                refine cal [] (hjc) ?_ ?_
                · refine ret1 ?_; first | (refine akc ?_) | (refine aec ?_)
                  have hrw : ∀ row ∈ (zc noB cs).map srow, row.length = 2 := fun row hr => by obtain ⟨_, _, rfl⟩ := List.mem_map.1 hr; rfl
                  refine awd ?_
                  (with_reducible refine is_ev ?_); first | (refine v_qS rfl rfl rfl rfl (fun _ h => h) (fun _ h => h) ?_ ?_) | (refine v_qS rfl rfl rfl rfl (qIx (fun _ h => h)) (fun _ h => h) ?_ ?_) | (refine v_qS rfl rfl rfl rfl (qAnd5 (fun _ h => h)) (fun _ h => h) ?_ ?_) | (refine v_qS rfl rfl rfl rfl (qStr (fun _ h => h)) (fun _ h => h) ?_ ?_)
                  · refine ⟨trivial, Int.natCast_nonneg k, Nat.zero_le _, ?_, hrw⟩
                    rw [List.length_map, zc_len, Int.toNat_natCast]; omega
                  refine awd ?_
                  rw [w64' (n := (k : Int) + 2) (by omega) (by omega)]
                  (with_reducible refine is_ev ?_); first | (refine v_qS rfl rfl rfl rfl (fun _ h => h) (fun _ h => h) ?_ ?_) | (refine v_qS rfl rfl rfl rfl (qIx (fun _ h => h)) (fun _ h => h) ?_ ?_) | (refine v_qS rfl rfl rfl rfl (qAnd5 (fun _ h => h)) (fun _ h => h) ?_ ?_) | (refine v_qS rfl rfl rfl rfl (qStr (fun _ h => h)) (fun _ h => h) ?_ ?_)
                  · refine ⟨Int.add_nonneg (Int.natCast_nonneg k) (by decide), trivial, ?_, Nat.le_refl _, hrw⟩
                    rw [List.length_map, zc_len]; show ((k : Int) + 2).toNat ≤ _; omega
                  generalize hRA : List.drop 0 (List.take (k : Int).toNat ((zc noB cs).map srow)) = RA
                  generalize hRB : List.drop ((k : Int) + 2).toNat (List.take ((zc noB cs).map srow).length ((zc noB cs).map srow)) = RB
                  have hA2 : ∀ row ∈ RA, row.length = 2 := fun row hr => hrw row (by rw [← hRA] at hr; exact List.mem_of_mem_take hr)
                  have hB2 : ∀ row ∈ RB, row.length = 2 := fun row hr => hrw row (by rw [← hRB] at hr; exact List.mem_of_mem_take (List.mem_of_mem_drop hr))
                  have hAl : RA.length ≤ 21 := by rw [← hRA]; simp [zc_len]; omega
                  have hBl : RB.length ≤ 21 := by rw [← hRB]; simp [zc_len]; omega
                  refine awd ?_
                  refine kN (cs.take k ++ cs.drop (k + 1)) () _ _ _ ⟨riseR_del k cs noB h1, by simp; omega⟩ (to_nil ?_ rfl (Nat.le_of_ble_eq_true rfl))
                  unfold chSt
                  (repeat' (first | (with_reducible exact .nil) | (refine .cons ?_ ?_) | (exact Wk.dead _) | (with_reducible exact Wk.refl _) | (exact WkL.nil))) <;> first | exact Wk.eq rfl | skip
                  refine (Wk.free _ _).trans (Wk.eq ?_)
                  rw [del_rows cs hk1, ← hRA, ← hRB, List.take_length, Int.toNat_natCast, List.drop_zero]
                  rfl
                · first | (exact retN) | (exact retP)
              · refine kN cs () _ _ _ ⟨h1, by omega⟩ (to_nil ?_ rfl (Nat.le_of_ble_eq_true rfl))
                unfold chSt
                (repeat' (first | (with_reducible exact .nil) | (refine .cons ?_ ?_) | (exact Wk.dead _) | (with_reducible exact Wk.refl _) | (exact WkL.nil))) <;> first | (exact Wk.eq rfl) | (exact Wk.int (w64 (by omega) (by omega))) | (exact Wk.int (by simp)) | (exact Wk.int (by simp; omega)) | (exact Wk.eq (by simp))
              · have hk1 : k + 1 ≤ cs.length := by
                  rw [w64' (n := (k : Int) + 1) (by omega) (by omega), List.length_map, zc_len] at hc
                  simp at hc; omega
                have hz1 : 0 ≤ IntKind.i64.wrap ((k : Int) + 1) ∧ ((zc noB cs).map srow)[(IntKind.i64.wrap ((k : Int) + 1)).toNat]? = some (srow (cLo cs (k + 1), cHi cs (k + 1))) ∧ (srow (cLo cs (k + 1), cHi cs (k + 1))).length = 2 := by
                  rw [w64' (n := (k : Int) + 1) (by omega) (by omega)]
                  exact zc_at cs hk1
                have hjc := join_c (cLo cs k, cHi cs k) (cLo cs (k + 1), cHi cs (k + 1))
                rw [joinA_yes h1.rise hk1] at hjc
                refine awd ?_
                refine cal [] (hjc) ?_ ?_
                · refine ret1 ?_; first | (refine akc ?_) | (refine aec ?_)
                  have hrw : ∀ row ∈ (zc noB cs).map srow, row.length = 2 := fun row hr => by obtain ⟨_, _, rfl⟩ := List.mem_map.1 hr; rfl
                  refine awd ?_
                  (with_reducible refine is_ev ?_); first | (refine v_qS rfl rfl rfl rfl (fun _ h => h) (fun _ h => h) ?_ ?_) | (refine v_qS rfl rfl rfl rfl (qIx (fun _ h => h)) (fun _ h => h) ?_ ?_) | (refine v_qS rfl rfl rfl rfl (qAnd5 (fun _ h => h)) (fun _ h => h) ?_ ?_) | (refine v_qS rfl rfl rfl rfl (qStr (fun _ h => h)) (fun _ h => h) ?_ ?_)
                  · refine ⟨trivial, Int.natCast_nonneg k, Nat.zero_le _, ?_, hrw⟩
                    rw [List.length_map, zc_len, Int.toNat_natCast]; omega
                  refine awd ?_
                  rw [w64' (n := (k : Int) + 2) (by omega) (by omega)]
                  (with_reducible refine is_ev ?_); first | (refine v_qS rfl rfl rfl rfl (fun _ h => h) (fun _ h => h) ?_ ?_) | (refine v_qS rfl rfl rfl rfl (qIx (fun _ h => h)) (fun _ h => h) ?_ ?_) | (refine v_qS rfl rfl rfl rfl (qAnd5 (fun _ h => h)) (fun _ h => h) ?_ ?_) | (refine v_qS rfl rfl rfl rfl (qStr (fun _ h => h)) (fun _ h => h) ?_ ?_)
                  · refine ⟨Int.add_nonneg (Int.natCast_nonneg k) (by decide), trivial, ?_, Nat.le_refl _, hrw⟩
                    rw [List.length_map, zc_len]; show ((k : Int) + 2).toNat ≤ _; omega
                  generalize hRA : List.drop 0 (List.take (k : Int).toNat ((zc noB cs).map srow)) = RA
                  generalize hRB : List.drop ((k : Int) + 2).toNat (List.take ((zc noB cs).map srow).length ((zc noB cs).map srow)) = RB
                  have hA2 : ∀ row ∈ RA, row.length = 2 := fun row hr => hrw row (by rw [← hRA] at hr; exact List.mem_of_mem_take hr)
                  have hB2 : ∀ row ∈ RB, row.length = 2 := fun row hr => hrw row (by rw [← hRB] at hr; exact List.mem_of_mem_take (List.mem_of_mem_drop hr))
                  have hAl : RA.length ≤ 21 := by rw [← hRA]; simp [zc_len]; omega
                  have hBl : RB.length ≤ 21 := by rw [← hRB]; simp [zc_len]; omega
                  refine awd ?_
                  refine kN (cs.take k ++ cs.drop (k + 1)) () _ _ _ ⟨riseR_del k cs noB h1, by simp; omega⟩ (to_nil ?_ rfl (Nat.le_of_ble_eq_true rfl))
                  unfold chSt
                  (repeat' (first | (with_reducible exact .nil) | (refine .cons ?_ ?_) | (exact Wk.dead _) | (with_reducible exact Wk.refl _) | (exact WkL.nil))) <;> first | exact Wk.eq rfl | skip
                  refine (Wk.free _ _).trans (Wk.eq ?_)
                  rw [del_rows cs hk1, ← hRA, ← hRB, List.take_length, Int.toNat_natCast, List.drop_zero]
                  rfl
                · first | (exact retN) | (exact retP)
              · refine kN cs () _ _ _ ⟨h1, by omega⟩ (to_nil ?_ rfl (Nat.le_of_ble_eq_true rfl))
                unfold chSt
                (repeat' (first | (with_reducible exact .nil) | (refine .cons ?_ ?_) | (exact Wk.dead _) | (with_reducible exact Wk.refl _) | (exact WkL.nil))) <;> first | (exact Wk.eq rfl) | (exact Wk.int (w64 (by omega) (by omega))) | (exact Wk.int (by simp)) | (exact Wk.int (by simp; omega)) | (exact Wk.eq (by simp))
          · first | (exact retN) | (exact retP)
        · intro Kx kN kP kR kE
          refine c_block ?_
          refine c_loop2 (fun k (_ : Unit) => fkSt l names cs i at' k) (fun k _ => k ≤ cs.length) (fun k _ => 20 - k) 0 () (Nat.zero_le _) (.to [] ?_ (.of_eq rfl) (Nat.le_of_ble_eq_true rfl)) ?_
          · unfold fkSt
            (repeat' (first | (with_reducible exact .nil) | (refine .cons ?_ ?_) | (exact Wk.dead _) | (with_reducible exact Wk.refl _) | (exact WkL.nil))) <;> first | exact Wk.eq rfl | exact Wk.free _ _
          · rintro k _ hk
            have hz := zc_at cs hk
            refine c_turn (n' := 20) (fun _ h => h) (fun _ h => h) rfl ?_
            refine awd ?_
            rw [w64' (n := (k : Int) + 1) (by omega) (by omega), List.length_map, zc_len]
            ((with_reducible refine is_aops ?_); refine o_split rfl rfl rfl (fun hc => ?_) (fun hc => ?_) <;> rw [hc])
            · have hk2 : k + 1 ≤ cs.length := by simp at hc; omega
              refine awd ?_
              refine cal [] (has_c7 (cLo cs k, cHi cs k) at') ?_ ?_
              · refine ret1 ?_; first | (refine akc ?_) | (refine aec ?_)
                generalize sHas (cLo cs k, cHi cs k).1 (cLo cs k, cHi cs k).2 at' = hb
                refine awd ?_
                cases hb
                · refine awd ?_
                  rw [w64' (n := (k : Int) + 1) (by omega) (by omega)]
                  refine k_loop (k + 1, ()) hk2 (by show 20 - (k + 1) < 20 - k; omega) (.to [] ?_ (.of_eq rfl) (Nat.le_of_ble_eq_true rfl))
                  unfold fkSt
                  (repeat' (first | (with_reducible exact .nil) | (refine .cons ?_ ?_) | (exact Wk.dead _) | (with_reducible exact Wk.refl _) | (exact WkL.nil))) <;> first | (exact Wk.eq rfl) | (exact Wk.int (w64 (by omega) (by omega))) | (exact Wk.int (by simp)) | (exact Wk.int (by simp; omega)) | (exact Wk.eq (by simp))
                · refine awd ?_
                  refine kN k () _ _ _ hk (.to [] ?_ (.of_eq rfl) (Nat.le_of_ble_eq_true rfl))
                  unfold fkSt
                  (repeat' (first | (with_reducible exact .nil) | (refine .cons ?_ ?_) | (exact Wk.dead _) | (with_reducible exact Wk.refl _) | (exact WkL.nil))) <;> first | (exact Wk.eq rfl) | (exact Wk.int (w64 (by omega) (by omega))) | (exact Wk.int (by simp)) | (exact Wk.int (by simp; omega)) | (exact Wk.eq (by simp))
              · first | (exact retN) | (exact retP)
            · refine awd ?_
              refine kN k () _ _ _ hk (.to [] ?_ (.of_eq rfl) (Nat.le_of_ble_eq_true rfl))
              unfold fkSt
              (repeat' (first | (with_reducible exact .nil) | (refine .cons ?_ ?_) | (exact Wk.dead _) | (with_reducible exact Wk.refl _) | (exact WkL.nil))) <;> first | (exact Wk.eq rfl) | (exact Wk.int (w64 (by omega) (by omega))) | (exact Wk.int (by simp)) | (exact Wk.int (by simp; omega)) | (exact Wk.eq (by simp))
      · first | (exact retN) | (exact retP)
    · refine cal [] (known7_c) ?_ ?_
      · refine ret1 ?_; first | (refine akc ?_) | (refine aec ?_)
        refine awd ?_
        exact e_ret (H' := []) (rest := []) rfl ⟨rfl, rfl⟩ (.of_eq rfl) (Nat.le_of_ble_eq_true rfl)
      · first | (exact retN) | (exact retP)
    · refine cal [] (known7_c) ?_ ?_
      · refine ret1 ?_; first | (refine akc ?_) | (refine aec ?_)
        refine awd ?_
        exact e_ret (H' := []) (rest := []) rfl ⟨rfl, rfl⟩ (.of_eq rfl) (Nat.le_of_ble_eq_true rfl)
      · first | (exact retN) | (exact retP)
end Go.Proofs.Ytjklcpfkmnjjkaa
