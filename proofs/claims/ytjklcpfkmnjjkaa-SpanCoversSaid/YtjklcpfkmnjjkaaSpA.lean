/- Spans, by contracts. -/
import Derived.Test.YtjklcpfkmnjjkaaAmT
import Derived.Test.YtjklcpfkmnjjkaaAmIn
import Derived.Test.YtjklcpfkmnjjkaaSpanSome
import Derived.Test.YtjklcpfkmnjjkaaSpanLaw
namespace Go.Proofs.Ytjklcpfkmnjjkaa
open Go.Am
set_option linter.unusedSimpArgs false
set_option linter.unusedVariables false

abbrev Sp := ByteArray × ByteArray
def spv (p : Sp) : AV := .agg [.v (.string p.1), .v (.string p.2)]
def srow (p : Sp) : List AV := [.v (.string p.1), .v (.string p.2)]
theorem spv_inv {G : Ghost} {p : Sp} {x : Value} (h : Sim G (spv p) x) : x = .agg #[.string p.1, .string p.2] := by
  obtain ⟨vs, rfl, h1, h2⟩ := Sim.agg_inv h
  have e := args2_eq h1
  have e0 := (h2 0 _ rfl).v_inv
  have e1 := (h2 1 _ rfl).v_inv
  rw [e, e0, e1]
theorem spv_sim (G : Ghost) (p : Sp) : Sim G (spv p) (.agg #[.string p.1, .string p.2]) :=
  .agg _ _ rfl fun i a h => by
    match i with
    | 0 => simp at h; subst h; exact .data _ _ (.v _)
    | 1 => simp at h; subst h; exact .data _ _ (.v _)
    | i + 2 => simp at h
theorem two_c (a b : Sp) (s : ByteArray) : ACalls Try.prog 20 0 0 [spv a, spv b, .v (.string s)] [] (fun out H' => out = .ret (.v (.bool true)) ∧ H' = []) :=
  .of_calls ⟨Try.func20, rfl, by kernel_rfl⟩ (fun G => .data _ _ (.v _)) fun G w vals hh hl hs => by
    rw [args3_eq hl, spv_inv (hs 0 _ rfl), spv_inv (hs 1 _ rfl), (hs 2 _ rfl).v_inv]
    exact two_any a.1 a.2 b.1 b.2 s w
theorem made_c (a b : Int) (ha1 : -9223372036854775808 ≤ a) (ha2 : a ≤ 9223372036854775807) (hb1 : -9223372036854775808 ≤ b) (hb2 : b ≤ 9223372036854775807) : ACalls Try.prog 11 0 0 [.v (.int .i64 a), .v (.int .i64 b)] [] (fun out H' => out = .ret (spv (mLo a, mLo b)) ∧ H' = []) :=
  .of_calls ⟨Try.func11, rfl, by kernel_rfl⟩ (fun G => spv_sim G _) fun G w vals hh hl hs => by
    rw [args2_eq hl, (hs 0 _ rfl).v_inv, (hs 1 _ rfl).v_inv]
    exact made_any a b w ha1 ha2 hb1 hb2
theorem row_c (n : Int) (h1 : -9223372036854775808 ≤ n) (h2 : n ≤ 9223372036854775807) : ACalls Try.prog 12 0 0 [.v (.int .i64 n)] [] (fun out H' => out = .ret (.v (.string (rowS n))) ∧ H' = []) :=
  .of_calls ⟨Try.func12, rfl, by kernel_rfl⟩ (fun G => .data _ _ (.v _)) fun G w vals hh hl hs => by
    rw [args1_eq hl, (hs 0 _ rfl).v_inv]
    exact row_any n w h1 h2
theorem known7_c : ACalls Try.prog 16 0 0 [] [] (fun out H' => out = .ret (.v (.bool true)) ∧ H' = []) :=
  .of_calls ⟨Try.func16, rfl, by kernel_rfl⟩ (fun G => .data _ _ (.v _)) fun G w vals hh hl hs => by
    have : vals = #[] := Array.eq_empty_of_size_eq_zero hl.symm
    rw [this]
    exact known7_any w
theorem lists_c (sp : List Sp) (h : sp.length ≤ 4611686018427387904) : ACalls Try.prog 21 0 0 [.list (sp.map srow) .free] [] (fun out H' => out = .ret (.v (.bool true)) ∧ H' = []) :=
  .of_calls ⟨Try.func21, rfl, by kernel_rfl⟩ (fun G => .data _ _ (.v _)) fun G w vals hh hl hs => by
    rw [args1_eq hl]
    have hd := (hs 0 _ rfl).list_inv.1
    generalize vals.getD 0 undef = x at *
    cases sp with
    | nil =>
      cases hd with
      | nil _ a c _ _ _ => exact lists_nil a c w
      | list _ _ b off c s y _ _ _ _ _ _ _ _ => exact lists_nil _ c w
    | cons p sp =>
      cases hd with
      | list _ _ b off c s y hn hc ho hss hr hX hS h1 =>
        have hs2 : s = 2 := (hr (srow p) (by simp)).symm
        subst hs2
        have hat : SpAt w b off (p :: sp) := fun i q hq => by
          have hrow : ((p :: sp).map srow)[i]? = some (srow q) := by rw [List.getElem?_map, hq]; rfl
          have a0 := hX i (srow q) 0 _ hrow rfl
          have a1 := hX i (srow q) 1 _ hrow rfl
          have b0 := hS i (srow q) 0 _ hrow rfl
          have b1 := hS i (srow q) 1 _ hrow rfl
          have e0 : y i 0 = .string q.1 := (Sim.data (G := G) _ _ b0).v_inv
          have e1 : y i 1 = .string q.2 := (Sim.data (G := G) _ _ b1).v_inv
          rw [e0] at a0
          rw [e1] at a1
          exact ⟨hh.X _ _ _ a0, hh.X _ _ _ a1⟩
        have hlt : b < w.heap.size := by
          have h2 := (hat 0 p rfl).1
          unfold World.cell? at h2
          split at h2
          · rename_i hg; exact (Array.getElem?_eq_some_iff.1 hg).1
          · cases h2
        have hlen : ((p :: sp).map srow).length = (p :: sp).length := by simp
        have := lists_any b off c (p :: sp) w (by simp) (by rw [← hlen]; exact hn) h hlt hat
        rw [hlen]
        exact this
def headS (s : ByteArray) (n : Nat) : ByteArray := if (n : Int) < s.size then s.extract 0 n else s
theorem head_c (s : ByteArray) (n : Nat) : ACalls Try.prog 22 0 0 [.v (.string s), .v (.int .i64 n)] [] (fun out H' => out = .ret (.v (.string (headS s n))) ∧ H' = []) := by
  refine acalls_of tok dok (f := 22) ⟨Try.func22, rfl, by kernel_rfl⟩ ?_; refine c_start (fun _ h => h) ?_
  refine awd ?_
  ((with_reducible refine is_cond ?_); refine c_cond rfl (fun hc => ?_) (fun hc => ?_))
  · simp only [gt_iff_lt, decide_eq_true_eq] at hc
    refine awd ?_
    (with_reducible refine is_aop ?_); first | (refine a_qS rfl (fun _ h => h) ?_ ?_) | (refine a_qS rfl (qIx (fun _ h => h)) ?_ ?_) | (refine a_qS rfl (qAnd5 (fun _ h => h)) ?_ ?_) | (refine a_qS rfl (qStr (fun _ h => h)) ?_ ?_) | (refine a_qS rfl (qAnd4 (fun _ h => h)) ?_ ?_)
    · refine ⟨trivial, Int.natCast_nonneg n, Nat.zero_le _, ?_⟩
      rw [Int.toNat_natCast]; omega
    refine awd ?_
    exact e_ret (H' := []) rfl ⟨by unfold headS; rw [if_pos hc]; rfl, rfl⟩ (.refl _) (Nat.le_of_ble_eq_true rfl)
  · simp only [gt_iff_lt, decide_eq_false_iff_not] at hc
    refine awd ?_
    exact e_ret (H' := []) rfl ⟨by unfold headS; rw [if_neg hc]; rfl, rfl⟩ (.refl _) (Nat.le_of_ble_eq_true rfl)
end Go.Proofs.Ytjklcpfkmnjjkaa
