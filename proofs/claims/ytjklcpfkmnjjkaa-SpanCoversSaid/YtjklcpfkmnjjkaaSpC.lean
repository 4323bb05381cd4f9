/- What SpanCovers calls, by contracts. -/
import Derived.Test.YtjklcpfkmnjjkaaSpT
namespace Go.Proofs.Ytjklcpfkmnjjkaa
open Go.Am
set_option linter.unusedSimpArgs false
set_option linter.unusedVariables false
theorem has_c7 (p : Sp) (s : ByteArray) : ACalls Try.prog 15 0 0 [spv p, .v (.string s)] [] (fun out H' => out = .ret (.v (.bool (sHas p.1 p.2 s))) ∧ H' = []) :=
  .of_calls ⟨Try.func15, rfl, by kernel_rfl⟩ (fun G => .data _ _ (.v _)) fun G w vals hh hl hs => by
    rw [args2_eq hl, spv_inv (hs 0 _ rfl), (hs 1 _ rfl).v_inv]
    exact has_any p.1 p.2 s w
/-- where rows of spans lie -/
theorem spAt_of {G : Ghost} {w : World} (hh : Holds G w []) {sp : List Sp} {b off c s : Nat} {y : Nat → Nat → Value} (hs2 : s = 2) (hX : ∀ i row j a, (sp.map srow)[i]? = some row → row[j]? = some a → G.X b (off + i * s + j) = some (y i j)) (hS : ∀ i row j a, (sp.map srow)[i]? = some row → row[j]? = some a → SimD G.X a (y i j)) : SpAt w b off sp := fun i q hq => by
  subst hs2
  have hrow : (sp.map srow)[i]? = some (srow q) := by rw [List.getElem?_map, hq]; rfl
  have a0 := hX i (srow q) 0 _ hrow rfl
  have a1 := hX i (srow q) 1 _ hrow rfl
  have b0 := hS i (srow q) 0 _ hrow rfl
  have b1 := hS i (srow q) 1 _ hrow rfl
  have e0 : y i 0 = .string q.1 := (Sim.data (G := G) _ _ b0).v_inv
  have e1 : y i 1 = .string q.2 := (Sim.data (G := G) _ _ b1).v_inv
  rw [e0] at a0
  rw [e1] at a1
  exact ⟨hh.X _ _ _ a0, hh.X _ _ _ a1⟩
theorem cell_lt {w : World} {b off : Nat} {v : Value} (h : w.cell? ⟨b, off, none⟩ = some v) : b < w.heap.size := by
  unfold World.cell? at h
  split at h
  · rename_i hg; exact (Array.getElem?_eq_some_iff.1 hg).1
  · cases h
theorem cover_c7 (p : Sp) (sp : List Sp) (h : (p :: sp).length ≤ 4611686018427387904) : ACalls Try.prog 23 0 0 [.list ((p :: sp).map srow) .free] [] (fun out H' => out = .ret (.v (.bool (sCover (p :: sp)))) ∧ H' = []) :=
  .of_calls ⟨Try.func23, rfl, by kernel_rfl⟩ (fun G => .data _ _ (.v _)) fun G w vals hh hl hs => by
    rw [args1_eq hl]
    have hd := (hs 0 _ rfl).list_inv.1
    generalize vals.getD 0 undef = x at *
    cases hd with
    | list _ _ b off c s y hn hc ho hss hr hX hS h1 =>
      have hs2 : s = 2 := (hr (srow p) (by simp)).symm
      have hat := spAt_of hh (c := c) hs2 hX hS
      have hlt := cell_lt (hat 0 p rfl).1
      have hlen : ((p :: sp).map srow).length = (p :: sp).length := by simp
      rw [hlen]
      exact cover_some b off c (p :: sp) w (by simp) h hlt hat
theorem apart_c7 (p : Sp) (sp : List Sp) (h : (p :: sp).length ≤ 4611686018427387904) : ACalls Try.prog 24 0 0 [.list ((p :: sp).map srow) .free] [] (fun out H' => out = .ret (.v (.bool (sApart (p :: sp)))) ∧ H' = []) :=
  .of_calls ⟨Try.func24, rfl, by kernel_rfl⟩ (fun G => .data _ _ (.v _)) fun G w vals hh hl hs => by
    rw [args1_eq hl]
    have hd := (hs 0 _ rfl).list_inv.1
    generalize vals.getD 0 undef = x at *
    cases hd with
    | list _ _ b off c s y hn hc ho hss hr hX hS h1 =>
      have hs2 : s = 2 := (hr (srow p) (by simp)).symm
      have hat := spAt_of hh (c := c) hs2 hX hS
      have hlt := cell_lt (hat 0 p rfl).1
      have hlen : ((p :: sp).map srow).length = (p :: sp).length := by simp
      rw [hlen]
      exact apart_some b off c (p :: sp) w (by rw [← hlen]; exact hn) h hlt hat
def noS : Sp := (⟨#[]⟩, ⟨#[]⟩)
def splitA (p : Sp) (s : ByteArray) : AV := match sSplitB p.1 p.2 s with
  | true => .tuple [spv (p.1, s), spv (s, p.2), .v (.bool true)]
  | false => .tuple [spv noS, spv noS, .v (.bool false)]
def joinA (p q : Sp) : AV := match sJoinB p.1 p.2 q.1 q.2 with
  | true => .tuple [spv (p.1, q.2), .v (.bool true)]
  | false => .tuple [spv noS, .v (.bool false)]
theorem split_c (p : Sp) (s : ByteArray) : ACalls Try.prog 13 0 0 [spv p, .v (.string s)] [] (fun out H' => out = .ret (splitA p s) ∧ H' = []) :=
  .of_calls (v := sSplit p.1 p.2 s) ⟨Try.func13, rfl, by kernel_rfl⟩ (fun G => by
      unfold splitA sSplit
      cases sSplitB p.1 p.2 s
      · refine .tuple _ _ rfl fun i a h => ?_
        match i with
        | 0 => simp at h; subst h; exact spv_sim G noS
        | 1 => simp at h; subst h; exact spv_sim G noS
        | 2 => simp at h; subst h; exact .data _ _ (.v _)
        | i + 3 => simp at h
      · refine .tuple _ _ rfl fun i a h => ?_
        match i with
        | 0 => simp at h; subst h; exact spv_sim G (p.1, s)
        | 1 => simp at h; subst h; exact spv_sim G (s, p.2)
        | 2 => simp at h; subst h; exact .data _ _ (.v _)
        | i + 3 => simp at h) fun G w vals hh hl hs => by
    rw [args2_eq hl, spv_inv (hs 0 _ rfl), (hs 1 _ rfl).v_inv]
    exact split_any p.1 p.2 s w
theorem join_c (p q : Sp) : ACalls Try.prog 17 0 0 [spv p, spv q] [] (fun out H' => out = .ret (joinA p q) ∧ H' = []) :=
  .of_calls (v := sJoin p.1 p.2 q.1 q.2) ⟨Try.func17, rfl, by kernel_rfl⟩ (fun G => by
      unfold joinA sJoin
      cases sJoinB p.1 p.2 q.1 q.2
      · refine .tuple _ _ rfl fun i a h => ?_
        match i with
        | 0 => simp at h; subst h; exact spv_sim G noS
        | 1 => simp at h; subst h; exact .data _ _ (.v _)
        | i + 2 => simp at h
      · refine .tuple _ _ rfl fun i a h => ?_
        match i with
        | 0 => simp at h; subst h; exact spv_sim G (p.1, q.2)
        | 1 => simp at h; subst h; exact .data _ _ (.v _)
        | i + 2 => simp at h) fun G w vals hh hl hs => by
    rw [args2_eq hl, spv_inv (hs 0 _ rfl), spv_inv (hs 1 _ rfl)]
    exact join_any p.1 p.2 q.1 q.2 w
def nrow (s : ByteArray) : List AV := [.v (.string s)]
theorem few_c (l : List ByteArray) : ACalls Try.prog 25 0 0 [.list (l.map nrow) .free] [] (fun out H' => out = .ret (.list ((l.take 4).map nrow) .free) ∧ H' = []) := by
  have hr : ∀ row ∈ l.map nrow, row.length = 1 := fun row h => by obtain ⟨_, _, rfl⟩ := List.mem_map.1 h; rfl
  refine acalls_of tok dok (f := 25) ⟨Try.func25, rfl, by kernel_rfl⟩ ?_; refine c_start (fun _ h => h) ?_
  refine awd ?_
  ((with_reducible refine is_cond ?_); refine c_cond rfl (fun hc => ?_) (fun hc => ?_))
  · simp only [List.length_map, gt_iff_lt, decide_eq_true_eq] at hc
    refine awd ?_
    (with_reducible refine is_aop ?_); first | (refine a_qS rfl (fun _ h => h) ?_ ?_) | (refine a_qS rfl (qIx (fun _ h => h)) ?_ ?_) | (refine a_qS rfl (qAnd5 (fun _ h => h)) ?_ ?_) | (refine a_qS rfl (qStr (fun _ h => h)) ?_ ?_) | (refine a_qS rfl (qAnd4 (fun _ h => h)) ?_ ?_)
    · refine ⟨trivial, Int.natCast_nonneg 4, Nat.zero_le _, ?_, hr⟩
      rw [List.length_map]; show 4 ≤ l.length; omega
    refine k_as (.list ((l.take 4).map nrow) .free) (by rw [List.map_take]; rfl) ?_
    refine awd ?_
    exact e_ret (H' := []) rfl ⟨rfl, rfl⟩ (.refl _) (Nat.le_of_ble_eq_true rfl)
  · simp only [List.length_map, gt_iff_lt, decide_eq_false_iff_not] at hc
    refine awd ?_
    exact e_ret (H' := []) rfl ⟨by rw [List.take_of_length_le (by omega)]; rfl, rfl⟩ (.refl _) (Nat.le_of_ble_eq_true rfl)
end Go.Proofs.Ytjklcpfkmnjjkaa
