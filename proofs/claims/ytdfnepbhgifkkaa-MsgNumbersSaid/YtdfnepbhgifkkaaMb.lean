/- Messages (chapter 16): written, by contracts. -/
import Derived.Test.YtdfnepbhgifkkaaMa

namespace Go.Proofs.Ytdfnepbhgifkkaa
open Go.Am
set_option linter.unusedSimpArgs false
set_option linter.unusedVariables false
set_option maxRecDepth 100000
/-- a right message, by its numbers as they are written -/
structure Vn where
  slot : Nat
  bal : Nat
  v : List UInt8
structure Mn where
  kind : Nat
  group : Nat
  frm : Nat
  to : Nat
  bal : Nat
  slot : Nat
  client : Nat
  seq : Nat
  b : List UInt8
  l : List Vn
def Vn.vt (x : Vn) : Vt := ⟨x.slot, (x.bal : Int) - 1, x.v⟩
def Mn.ms (m : Mn) : Ms := ⟨m.kind, m.group, m.frm, m.to, (m.bal : Int) - 1, m.slot, m.client, m.seq, m.b, m.l.map Vn.vt⟩
def Vn.Ok (x : Vn) : Prop := x.slot ≤ 1073741824 ∧ x.bal ≤ 1073741825 ∧ x.v.length ≤ 1048576
structure Mn.Ok (m : Mn) : Prop where
  kind : 1 ≤ m.kind ∧ m.kind ≤ 9
  group : m.group ≤ 3
  frm : m.frm ≤ 355
  to : m.to ≤ 355
  bal : m.bal ≤ 1073741825
  slot : m.slot ≤ 1073741824
  client : m.client ≤ 255
  seq : m.seq ≤ 1073741824
  b : m.b.length ≤ 1048576
  l : m.l.length ≤ 16
  votes : ∀ x ∈ m.l, x.Ok
theorem vtB_ok (x : Vn) : vtB x.vt = true ↔ x.Ok := by
  unfold vtB Vn.vt inB Vn.Ok
  simp only [Bool.and_eq_true, decide_eq_true_eq]
  omega
theorem rightB_ok (m : Mn) : rightB m.ms = true ↔ m.Ok := by
  unfold rightB waysB numsB Mn.ms inB
  simp only [Bool.and_eq_true, decide_eq_true_eq, List.length_map, List.all_map, List.all_eq_true, Function.comp, vtB_ok]
  constructor
  · rintro ⟨⟨h1, h2, h3, h4⟩, ⟨h5, h6, h7, h8⟩, h9, h10, h11⟩
    exact ⟨by omega, by omega, by omega, by omega, by omega, by omega, by omega, by omega, by omega, by omega, h11⟩
  · rintro ⟨h1, h2, h3, h4, h5, h6, h7, h8, h9, h10, h11⟩
    refine ⟨⟨by omega, by omega, by omega, by omega⟩, ⟨by omega, by omega, by omega, by omega⟩, by omega, by omega, h11⟩
/-- a message that may be is one of numbers -/
theorem ms_of {m : Ms} (h : rightB m = true) : ∃ n : Mn, m = n.ms ∧ n.Ok := by
  have h0 := h
  obtain ⟨kd, g, f, t, bl, s, c, q, b, l⟩ := m
  unfold rightB waysB numsB inB at h
  simp only [Bool.and_eq_true, decide_eq_true_eq, List.all_eq_true] at h
  obtain ⟨⟨h1, h2, h3, h4⟩, ⟨h5, h6, h7, h8⟩, h9, h10, h11⟩ := h
  have hv : ∀ l : List Vt, (∀ x ∈ l, vtB x = true) → ∃ n : List Vn, l = n.map Vn.vt := by
    intro l
    induction l with
    | nil => intro _; exact ⟨[], rfl⟩
    | cons x l ih =>
      intro hx
      obtain ⟨n, hn⟩ := ih fun y hy => hx y (List.mem_cons_of_mem _ hy)
      have hx0 := hx x List.mem_cons_self
      obtain ⟨xs, xb, xv⟩ := x
      unfold vtB inB at hx0
      simp only [Bool.and_eq_true, decide_eq_true_eq] at hx0
      refine ⟨⟨xs.toNat, (xb + 1).toNat, xv⟩ :: n, ?_⟩
      rw [List.map_cons, ← hn]
      show _ = (⟨(xs.toNat : Int), ((xb + 1).toNat : Int) - 1, xv⟩ : Vt) :: l
      rw [show (xs.toNat : Int) = xs by omega, show ((xb + 1).toNat : Int) - 1 = xb by omega]
  obtain ⟨n, rfl⟩ := hv l h11
  have e : (⟨kd, g, f, t, bl, s, c, q, b, n.map Vn.vt⟩ : Ms) = (⟨kd.toNat, g.toNat, f.toNat, t.toNat, (bl + 1).toNat, s.toNat, c.toNat, q.toNat, b, n⟩ : Mn).ms := by
    show _ = (⟨(kd.toNat : Int), (g.toNat : Int), (f.toNat : Int), (t.toNat : Int), ((bl + 1).toNat : Int) - 1, (s.toNat : Int), (c.toNat : Int), (q.toNat : Int), b, n.map Vn.vt⟩ : Ms)
    rw [show (kd.toNat : Int) = kd by omega, show (g.toNat : Int) = g by omega, show (f.toNat : Int) = f by omega, show (t.toNat : Int) = t by omega, show ((bl + 1).toNat : Int) - 1 = bl by omega, show (s.toNat : Int) = s by omega, show (c.toNat : Int) = c by omega, show (q.toNat : Int) = q by omega]
  refine ⟨_, e, ?_⟩
  rw [← rightB_ok, ← e]; exact h0
/-- its octets -/
def encVn (x : Vn) : List UInt8 := be x.slot 4 ++ (be x.bal 4 ++ (be x.v.length 4 ++ x.v))
def encVs : List Vn → List UInt8
  | [] => []
  | x :: l => encVn x ++ encVs l
def encH (m : Mn) : List UInt8 := [UInt8.ofNat m.kind, UInt8.ofNat m.group] ++ (be m.frm 4 ++ (be m.to 4 ++ (be m.bal 4 ++ be m.slot 4)))
def encM (m : Mn) : List UInt8 := encH m ++ ([UInt8.ofNat m.client] ++ (be m.seq 4 ++ ((be m.b.length 4 ++ m.b) ++ ([UInt8.ofNat m.l.length] ++ encVs m.l))))
theorem encVn_len {x : Vn} (h : x.Ok) : (encVn x).length ≤ 1048588 := by
  obtain ⟨_, _, h⟩ := h
  unfold encVn; simp [be_len]; omega
theorem encVs_len : ∀ {l : List Vn}, (∀ x ∈ l, x.Ok) → (encVs l).length ≤ 1048588 * l.length
  | [], _ => by simp [encVs]
  | x :: l, h => by
    have h1 := encVn_len (h x List.mem_cons_self)
    have h2 := encVs_len (l := l) fun y hy => h y (List.mem_cons_of_mem _ hy)
    unfold encVs
    rw [List.length_append, List.length_cons]; omega
theorem encVs_succ (l : List Vn) (i : Nat) (hi : i < l.length) : encVs (l.take (i + 1)) = encVs (l.take i) ++ encVn l[i] := by
  induction l generalizing i with
  | nil => simp at hi
  | cons x l ih =>
    cases i with
    | zero => simp [encVs]
    | succ i =>
      have := ih i (by simpa using hi)
      simp only [List.take_succ_cons, encVs, List.getElem_cons_succ, List.append_assoc]
      rw [this]
theorem m8 (x : Nat) : IntKind.u8.wrap (x : Int) = ((UInt8.ofNat x).toNat : Int) := by
  rw [IntKind.wrap_u8, UInt8.toNat_ofNat']; simp
theorem m32 {x : Nat} (h : x < 4294967296) : IntKind.u32.wrap (x : Int) = (x : Int) := by rw [IntKind.wrap_u32]; omega
def nrowI (x : Nat) : List AV := [.v (.int .i64 (x : Int))]
def vnrow (x : Vn) : List AV := [.v (.int .i64 (x.slot : Int)), .v (.int .i64 ((x.bal : Int) - 1)), .list (x.v.map brow) .free]
/-- a message's row, its numbers as they are written -/
def mnrow (m : Mn) : List AV := [.v (.int .i64 m.kind), .v (.int .i64 m.group), .v (.int .i64 m.frm), .v (.int .i64 m.to), .v (.int .i64 ((m.bal : Int) - 1)), .v (.int .i64 m.slot), .v (.int .i64 m.client), .v (.int .i64 m.seq), .list (m.b.map brow) .free, .list (m.l.map vnrow) .free]
theorem mnrow_eq (m : Mn) : msrow m.ms = mnrow m := by
  unfold msrow Mn.ms mnrow
  simp only [List.map_map]
  rfl
/-- the writer's objects in Encode -/
def ewH (out : List UInt8) (m : Mn) : Heap := [(2001, .box [.list (out.map brow) (.tok 2002)]), (2002, .tok 1 (out.map brow).length), (0, .box (mnrow m))]
def e1St (m : Mn) (i : Nat) (N : Unit) : ASt := ⟨[.dead, .ptr 0 0, .dead, .dead, .ptr 2001 0] ++ List.replicate 27 .dead ++ [.list ([m.frm, m.to, m.bal, m.slot].map nrowI) .free, .v (.int .i64 4), .v (.int .i64 i)] ++ List.replicate 53 .dead, ewH ([UInt8.ofNat m.kind, UInt8.ofNat m.group] ++ ([m.frm, m.to, m.bal, m.slot].take i).flatMap fun x => be x 4) m, 2010⟩
def e2St (m : Mn) (base : List UInt8) (i : Nat) (N : Unit) : ASt := ⟨[.dead, .ptr 0 0, .dead, .dead, .ptr 2001 0] ++ List.replicate 59 .dead ++ [.list (m.l.map vnrow) .free, .v (.int .i64 m.l.length), .v (.int .i64 i)] ++ List.replicate 21 .dead, ewH (base ++ encVs (m.l.take i)) m, 2010⟩
set_option maxHeartbeats 3200000 in
theorem mencode_c (m : Mn) (h : m.Ok) : ACalls Try.prog 16 0 100000 [msv m.ms] [] (fun out H' => out = .ret (.tuple [.list ((encM m).map brow) .free, .v (.int .i64 0)]) ∧ H' = []) := by
  have hR := mright_c m.ms (by have := h.l; show (m.l.map Vn.vt).length < _; rw [List.length_map]; omega)
  rw [(rightB_ok m).2 h] at hR
  unfold msv at hR ⊢
  rw [mnrow_eq] at hR ⊢
  have hvl := encVs_len h.votes
  obtain ⟨kd, g, f, t, bl, s, c, q, b, l⟩ := m
  obtain ⟨o1, o2, o3, o4, o5, o6, o7, o8, o9, o10, o11⟩ := h
  simp only at *
  refine acalls_of tok dok (f := 16) ⟨Try.func16, rfl, by kernel_rfl⟩ ?_; refine c_start (fun _ h => h) ?_
  refine awd ?_
  refine cal [] (hR) ?_ ?_
  · refine ret1 ?_; first | (refine akc ?_) | (refine aec ?_)
    refine awd ?_
    refine cal [] (new_c) ?_ ?_
    · refine ret1 ?_; first | (refine akc ?_) | (refine aec ?_)
      refine awd ?_
      rw [m8]
      refine cal [2001, 2002] (byte_c [] (UInt8.ofNat kd) (by decide)) ?_ ?_
      · refine ret1 ?_; first | (refine akc ?_) | (refine aec ?_)
        refine awd ?_
        rw [m8]
        refine cal [2001, 2002] (byte_c ([] ++ [UInt8.ofNat kd]) (UInt8.ofNat g) (by simp)) ?_ ?_
        · refine ret1 ?_; first | (refine akc ?_) | (refine aec ?_)
          refine awd ?_
          rw [z64 (n := (bl : Int) - 1 + 1) (by omega) (by omega), show (bl : Int) - 1 + 1 = bl by omega]
          have hlt : ∀ x ∈ [f, t, bl, s], x < 4294967296 := by
            intro x hx
            simp only [List.mem_cons, List.not_mem_nil, or_false] at hx
            rcases hx with rfl | rfl | rfl | rfl <;> omega
          refine c_loop2 (e1St ⟨kd, g, f, t, bl, s, c, q, b, l⟩) (fun i _ => i ≤ 4) (fun i _ => 4 - i) 0 () (by omega) (.to [] ?_ (.of_eq rfl) (Nat.le_of_ble_eq_true rfl)) ?_
          · unfold e1St
            (repeat' (first | (with_reducible exact .nil) | (refine .cons ?_ ?_) | (exact Wk.dead _) | (with_reducible exact Wk.refl _) | (exact WkL.nil))) <;> first | exact Wk.eq rfl | exact (Wk.free _ _).trans (Wk.eq rfl)
          · rintro i _ hi
            refine c_turn (n' := 2010) (fun _ h => h) (fun _ h => h) rfl ?_
            have hol : ([UInt8.ofNat kd, UInt8.ofNat g] ++ ([f, t, bl, s].take i).flatMap fun x => be x 4).length ≤ 18 := by
              rw [List.length_append, List.length_flatMap]
              simp only [be_len]
              have h1 : ([f, t, bl, s].take i).length ≤ 4 := by rw [List.length_take]; simp; omega
              simp only [List.map_const', List.sum_replicate_nat, List.length_cons, List.length_nil]
              omega
            repeat' (first | (refine awd1 ?_) | (((with_reducible refine is_aops ?_); refine o_split rfl rfl rfl (fun hc => ?_) (fun hc => ?_) <;> rw [hc])) | (((with_reducible refine is_cond ?_); refine c_cond rfl (fun hc => ?_) (fun hc => ?_))) | (((with_reducible refine is_aop ?_); refine a_pick rfl rfl (fun hc => ?_) (fun hc => ?_) <;> rw [hc])) | fail)
            · have hi4 : i < 4 := by simp at hc; omega
              have hi4' : i < [f, t, bl, s].length := hi4
              have hx0 : 0 ≤ (i : Int) ∧ ([f, t, bl, s].map nrowI)[(i : Int).toNat]? = some (nrowI [f, t, bl, s][i]) ∧ (nrowI [f, t, bl, s][i]).length = 1 := ⟨Int.natCast_nonneg _, (by rw [Int.toNat_natCast, List.getElem?_map, List.getElem?_eq_getElem hi4']; rfl), rfl⟩
              have hxl := hlt _ (List.getElem_mem hi4')
              have hsucc : [UInt8.ofNat kd, UInt8.ofNat g] ++ ([f, t, bl, s].take (i + 1)).flatMap (fun x => be x 4) = ([UInt8.ofNat kd, UInt8.ofNat g] ++ ([f, t, bl, s].take i).flatMap fun x => be x 4) ++ be [f, t, bl, s][i] 4 := by
                rw [List.take_succ_eq_append_getElem hi4', List.flatMap_append]; simp
              generalize hxe : [f, t, bl, s][i] = x at *
              refine awd ?_
              rw [m32 hxl]
              refine cal [2001, 2002] (num_c _ x hxl (Nat.lt_of_le_of_lt hol (by decide))) ?_ ?_
              · refine ret1 ?_; first | (refine akc ?_) | (refine aec ?_)
                refine awd ?_
                rw [z64 (n := (i : Int) + 1) (by omega) (by omega)]
                refine k_loop (i + 1, ()) hi4 (by show 4 - (i + 1) < 4 - i; omega) (.to [] ?_ (.of_eq ?_) (Nat.le_of_ble_eq_true rfl))
                · unfold e1St
                  (repeat' (first | (with_reducible exact .nil) | (refine .cons ?_ ?_) | (exact Wk.dead _) | (with_reducible exact Wk.refl _) | (exact WkL.nil))) <;> first | (exact Wk.eq rfl) | (exact Wk.free _ _) | (exact Wk.int (w64 (by omega) (by omega))) | (exact Wk.int (by simp)) | (exact Wk.int (by simp; omega)) | (exact Wk.eq (by simp))
                · unfold e1St ewH
                  simp only
                  rw [hsucc]
                  rfl
              · first | (exact retN) | (exact retP)
            · have hi4 : i = 4 := by simp at hc; omega
              subst hi4
              have e4 : [UInt8.ofNat kd, UInt8.ofNat g] ++ ([f, t, bl, s].take 4).flatMap (fun x => be x 4) = encH ⟨kd, g, f, t, bl, s, c, q, b, l⟩ := by simp [encH]
              rw [e4] at hol
              rw [e4]
              generalize he : encH ⟨kd, g, f, t, bl, s, c, q, b, l⟩ = out0 at *
              rw [m8]
              refine cal [2001, 2002] (byte_c out0 (UInt8.ofNat c) (by omega)) ?_ ?_
              · refine ret1 ?_; first | (refine akc ?_) | (refine aec ?_)
                refine awd ?_
                rw [m32 (show q < 4294967296 by omega)]
                refine cal [2001, 2002] (num_c (out0 ++ [UInt8.ofNat c]) q (by omega) (by simp; omega)) ?_ ?_
                · refine ret1 ?_; first | (refine akc ?_) | (refine aec ?_)
                  refine awd ?_
                  have hT := text_c (out0 ++ [UInt8.ofNat c] ++ be q 4) b (by omega) (by simp [be_len]; omega)
                  rw [if_pos o9] at hT
                  refine cal [2001, 2002] (hT) ?_ ?_
                  · refine ret1 ?_; first | (refine akc ?_) | (refine aec ?_)
                    refine awd ?_
                    rw [List.length_map, m8]
                    refine cal [2001, 2002] (byte_c (out0 ++ [UInt8.ofNat c] ++ be q 4 ++ (be b.length 4 ++ b)) (UInt8.ofNat l.length) (by simp [be_len]; omega)) ?_ ?_
                    · refine ret1 ?_; first | (refine akc ?_) | (refine aec ?_)
                      have hbl : (out0 ++ [UInt8.ofNat c] ++ be q 4 ++ (be b.length 4 ++ b) ++ [UInt8.ofNat l.length]).length ≤ 1048700 := by simp [be_len]; omega
                      have hfin : encM ⟨kd, g, f, t, bl, s, c, q, b, l⟩ = (out0 ++ [UInt8.ofNat c] ++ be q 4 ++ (be b.length 4 ++ b) ++ [UInt8.ofNat l.length]) ++ encVs l := by
                        unfold encM
                        rw [he]
                        simp
                      generalize out0 ++ [UInt8.ofNat c] ++ be q 4 ++ (be b.length 4 ++ b) ++ [UInt8.ofNat l.length] = base at *
                      refine awd ?_
                      refine c_loop2 (e2St ⟨kd, g, f, t, bl, s, c, q, b, l⟩ base) (fun i _ => i ≤ l.length) (fun i _ => l.length - i) 0 () (Nat.zero_le _) (.to [] ?_ (.of_eq ?_) (Nat.le_of_ble_eq_true rfl)) ?_
                      · unfold e2St
                        (repeat' (first | (with_reducible exact .nil) | (refine .cons ?_ ?_) | (exact Wk.dead _) | (with_reducible exact Wk.refl _) | (exact WkL.nil))) <;> first | (exact Wk.eq rfl) | (exact Wk.free _ _) | (exact Wk.int (w64 (by omega) (by omega))) | (exact Wk.int (by simp)) | (exact Wk.int (by simp; omega)) | (exact Wk.eq (by simp))
                      · unfold e2St ewH
                        simp only [List.take_zero, encVs, List.append_nil]
                        rfl
                      · rintro i _ hi
                        refine c_turn (n' := 2010) (fun _ h => h) (fun _ h => h) rfl ?_
                        have hvi : (encVs (l.take i)).length ≤ 16777408 := by
                          have h1 := encVs_len (l := l.take i) fun x hx => o11 x (List.mem_of_mem_take hx)
                          have h2 : (l.take i).length ≤ 16 := by rw [List.length_take]; omega
                          omega
                        repeat' (first | (refine awd1 ?_) | (((with_reducible refine is_aops ?_); refine o_split rfl rfl rfl (fun hc => ?_) (fun hc => ?_) <;> rw [hc])) | (((with_reducible refine is_cond ?_); refine c_cond rfl (fun hc => ?_) (fun hc => ?_))) | (((with_reducible refine is_aop ?_); refine a_pick rfl rfl (fun hc => ?_) (fun hc => ?_) <;> rw [hc])) | fail)
                        · have hi' : i < l.length := by simp at hc; omega
                          have hx0 : 0 ≤ (i : Int) ∧ (l.map vnrow)[(i : Int).toNat]? = some (vnrow l[i]) ∧ (vnrow l[i]).length = 3 := ⟨Int.natCast_nonneg _, (by rw [Int.toNat_natCast, List.getElem?_map, List.getElem?_eq_getElem hi']; rfl), rfl⟩
                          have hxo := o11 _ (List.getElem_mem hi')
                          have hsucc := encVs_succ l i hi'
                          generalize l[i] = x at *
                          obtain ⟨xs, xb, xv⟩ := x
                          obtain ⟨v1, v2, v3⟩ := hxo
                          simp only at v1 v2 v3
                          generalize hoi : base ++ encVs (l.take i) = oi at *
                          have hs2 : base ++ encVs (l.take (i + 1)) = oi ++ be xs 4 ++ be xb 4 ++ (be xv.length 4 ++ xv) := by
                            rw [hsucc, ← List.append_assoc, hoi]
                            simp [encVn]
                          have hol2 : oi.length ≤ 17826200 := by rw [← hoi, List.length_append]; omega
                          refine awd ?_
                          rw [m32 (show xs < 4294967296 by omega)]
                          refine cal [2001, 2002] (num_c oi xs (by omega) (by omega)) ?_ ?_
                          · refine ret1 ?_; first | (refine akc ?_) | (refine aec ?_)
                            refine awd ?_
                            rw [z64 (n := (xb : Int) - 1 + 1) (by omega) (by omega), show (xb : Int) - 1 + 1 = xb by omega, m32 (show xb < 4294967296 by omega)]
                            refine cal [2001, 2002] (num_c (oi ++ be xs 4) xb (by omega) (by simp [be_len]; omega)) ?_ ?_
                            · refine ret1 ?_; first | (refine akc ?_) | (refine aec ?_)
                              refine awd ?_
                              have hT2 := text_c (oi ++ be xs 4 ++ be xb 4) xv (by omega) (by simp [be_len]; omega)
                              rw [if_pos v3] at hT2
                              refine cal [2001, 2002] (hT2) ?_ ?_
                              · refine ret1 ?_; first | (refine akc ?_) | (refine aec ?_)
                                refine awd ?_
                                rw [z64 (n := (i : Int) + 1) (by omega) (by omega)]
                                refine k_loopJ (i + 1, ()) [(2010, .box (vnrow ⟨xs, xb, xv⟩))] hi' (by show l.length - (i + 1) < l.length - i; omega) ?_ ?_
                                · unfold e2St
                                  (repeat' (first | (with_reducible exact .nil) | (refine .cons ?_ ?_) | (exact Wk.dead _) | (with_reducible exact Wk.refl _) | (exact WkL.nil))) <;> first | (exact Wk.eq rfl) | (exact Wk.free _ _) | (exact Wk.int (w64 (by omega) (by omega))) | (exact Wk.int (by simp)) | (exact Wk.int (by simp; omega)) | (exact Wk.eq (by simp))
                                · unfold e2St ewH
                                  simp only
                                  rw [hs2]
                                  exact .cons _ (.cons _ (.swap _ _ _))
                              · first | (exact retN) | (exact retP)
                            · first | (exact retN) | (exact retP)
                          · first | (exact retN) | (exact retP)
                        · have hi' : i = l.length := by simp at hc; omega
                          rw [hfin]
                          subst hi'
                          rw [List.take_length]
                          refine cal [2001, 2002] (done_c (base ++ encVs l) (by rw [List.length_append]; rw [List.take_length] at hvi; omega)) ?_ ?_
                          · refine ret1 ?_; first | (refine akc ?_) | (refine aec ?_)
                            refine awd ?_
                            exact e_ret (H' := []) (rest := _) rfl ⟨rfl, rfl⟩ (.refl _) (Nat.le_of_ble_eq_true rfl)
                          · first | (exact retN) | (exact retP)
                    · first | (exact retN) | (exact retP)
                  · first | (exact retN) | (exact retP)
                · first | (exact retN) | (exact retP)
              · first | (exact retN) | (exact retP)
        · first | (exact retN) | (exact retP)
      · first | (exact retN) | (exact retP)
    · first | (exact retN) | (exact retP)
  · first | (exact retN) | (exact retP)
end Go.Proofs.Ytdfnepbhgifkkaa
