/- octet.Read, by contract: a reader is handed on; what it panics with itself is caught. -/
import Derived.Test.YtabhfccfohpkaaaOcB
import Derived.Test.YtabhfccfohpkaaaAmDf
import Derived.LaidEql

namespace Go.Proofs.Ytabhfccfohpkaaa
open Go.Am
set_option linter.unusedSimpArgs false
set_option maxRecDepth 100000
set_option linter.unusedVariables false
theorem dRel {G : Ghost} {w : World} {L : Heap} {n ic io : Nat} {vs : Array Value} {B : Base} {s : List AV} {a0 : Act} (hr : Rel B No G ⟨s, L, n⟩ a0 w) (hvs : 2 = vs.size) (h0 : Sim G (.ptr ic 0) (vs.getD 0 undef)) (h1 : Sim G (.ptr io 0) (vs.getD 1 undef)) {x : AV} (v : Value) (hx : Sim G x v) :
    Rel ⟨G, w, L, n, []⟩ No G ⟨[.ptr ic 0, .ptr io 0, x, x, .dead, .dead, .dead, .dead, .dead, .dead, .dead, .dead], L, n⟩ { tmps := ((vs ++ Array.replicate (12 - vs.size) undef).setIfInBounds 3 v).setIfInBounds 2 (if 3 < vs.size + (12 - vs.size) then v else undef), defers := [] } w := by
  have hex : ∃ x0 x1, vs = #[x0, x1] := by
    obtain ⟨l⟩ := vs
    match l, hvs with
    | [x0, x1], _ => exact ⟨x0, x1, rfl⟩
  obtain ⟨x0, x1, rfl⟩ := hex
  have e : ((#[x0, x1] ++ Array.replicate (12 - (#[x0, x1] : Array Value).size) undef).setIfInBounds 3 v).setIfInBounds 2 (if 3 < (#[x0, x1] : Array Value).size + (12 - (#[x0, x1] : Array Value).size) then v else undef) = #[x0, x1, v, v, undef, undef, undef, undef, undef, undef, undef, undef] := by
    generalize undef = u
    rfl
  rw [e]
  refine ⟨rfl, fun t _ => ?_, rfl, hr.holds, Step.refl _ _ _, hr.next, hr.base, Nat.le_refl _, fun id h => .inl h⟩
  match t with
  | 0 => exact .of h0
  | 1 => exact .of h1
  | 2 => exact .of hx
  | 3 => exact .of hx
  | 4 | 5 | 6 | 7 | 8 | 9 | 10 | 11 => exact .of (.data _ _ (.dead _))
  | t + 12 => exact .of (.data _ _ (.dead _))
def restK (L1 : Heap) (n1 : Nat) : Kc := fun e s L n => e = .normal ∧ L = L1 ∧ n = n1
/-- what Read puts off -/
theorem readD {G : Ghost} {w : World} {L : Heap} {n m ic io : Nat} {vs : Array Value} {b : Bool} (B : Base) (s : List AV) (a0 : Act) (hr0 : Rel B No G ⟨s, L, n⟩ a0 w) (hvs : 2 = vs.size) (h0 : Sim G (.ptr ic 0) (vs.getD 0 undef)) (h1 : Sim G (.ptr io 0) (vs.getD 1 undef))
    (hc : findL L ic = some (.box [.ptr m 0])) (ho : findL L io = some (.box [.v (.bool b)])) :
    CallsD Try.prog 102 vs .returning w fun e u' w' => (∃ v, e = .returned v) ∧ u' = .returning ∧ ∃ G', Rel B No G' ⟨s, L, n⟩ a0 w' := by
  refine callsD_of_wpS Try.func102 rfl fun c₀ cs hu => ?_
  refine wpS_seq ?_
  refine wpS_region ?_
  refine (show wpOpsS Try.prog _ _ [0, 1] _ _ _ from ?_)
  have hrec : recoverD (c₀ :: cs) = none := by unfold recoverD; simp only [hu]
  simp [wpOpsS, Region.wanted, execOp, resolve, go_sem, hrec]
  refine wpS_of_wp ?_
  have hB2 : Rel ⟨G, w, L, n, []⟩ No G ⟨[.ptr ic 0, .ptr io 0, .v .nilIface, .v .nilIface, .dead, .dead, .dead, .dead, .dead, .dead, .dead, .dead], L, n⟩ _ w := dRel hr0 hvs h0 h1 .nilIface (.data _ _ (.v _))
  refine wp_mono (acode_sound0 tok dok _ _ _ _ (restK L n) _ _ _ ?_ hB2) ?_
  · refine no_implicit_lambda% (awd ?_)
    (with_reducible refine is_aop ?_)
    refine a_q1 rfl (qFall true (fun _ h => h) (fun w => by rfl)) ?_
    refine no_implicit_lambda% (awd ?_)
    exact ⟨rfl, rfl, rfl⟩
  · rintro e a' w' ⟨e', s', L', n', G', ⟨rfl, rfl, rfl⟩, k2, k3⟩
    cases e <;> first | exact k2.elim | skip
    refine ⟨k3.defers, .returning, by rw [← hu], .tuple #[], (by simp [results, Try.results102, go_sem]), ⟨_, rfl⟩, rfl, G', ?_⟩
    exact hr0.stepped k3.holds k3.step (Nat.le_refl _) fun id hid => ⟨k3.next id hid, (k3.old id hid).imp_right fun h => h⟩
theorem readDp {G : Ghost} {w : World} {L : Heap} {n m ic io : Nat} {vs : Array Value} {b : Bool} {v : Value} (B : Base) (s : List AV) (a0 : Act) (hr0 : Rel B No G ⟨s, L, n⟩ a0 w) (hvs : 2 = vs.size) (h0 : Sim G (.ptr ic 0) (vs.getD 0 undef)) (h1 : Sim G (.ptr io 0) (vs.getD 1 undef))
    (hv : Sim G (.iface 145 (.ptr m 0)) v) (hc : findL L ic = some (.box [.ptr m 0])) (ho : findL L io = some (.box [.v (.bool b)])) :
    CallsD Try.prog 102 vs (.panicking [{ v := v, recovered := false }]) w fun e u' w' => (∃ v, e = .returned v) ∧ settle u' = .returning ∧ ∃ G', Rel B No G' ⟨s, setL L io (.box [.v (.bool false)]), n⟩ a0 w' := by
  refine callsD_of_wpS Try.func102 rfl fun c₀ cs hu => ?_
  refine wpS_seq ?_
  refine wpS_region ?_
  refine (show wpOpsS Try.prog _ _ [0, 1] _ _ _ from ?_)
  have hrec : recoverD (c₀ :: cs) = some (v, { c₀ with mode := .panicking [{ v := v, recovered := true }] } :: cs) := by unfold recoverD; simp only [hu]
  simp [wpOpsS, Region.wanted, execOp, resolve, go_sem, hrec]
  refine wpS_of_wp ?_
  have hB2 : Rel ⟨G, w, L, n, []⟩ No G ⟨[.ptr ic 0, .ptr io 0, .iface 145 (.ptr m 0), .iface 145 (.ptr m 0), .dead, .dead, .dead, .dead, .dead, .dead, .dead, .dead], L, n⟩ _ w := dRel hr0 hvs h0 h1 v hv
  refine wp_mono (acode_sound0 tok dok _ _ _ _ (restK (setL L io (.box [.v (.bool false)])) n) _ _ _ ?_ hB2) ?_
  · refine no_implicit_lambda% (awd ?_)
    (with_reducible refine is_aop ?_)
    refine a_q1 rfl (qIfN false (fun _ h => h) (fun u w => by rfl)) ?_
    refine no_implicit_lambda% (awd ?_)
    (with_reducible refine is_aop ?_)
    refine a_loadAt rfl rfl rfl hc rfl rfl ?_
    refine no_implicit_lambda% (awd ?_)
    (with_reducible refine is_aop ?_)
    refine a_q1 rfl (qIfP true (fun _ h => h) (fun u w => run_eql_iface_ptr_same (P := Try.prog) w ⟨u, 0, none⟩ rfl rfl rfl rfl rfl)) ?_
    refine no_implicit_lambda% (awd ?_)
    (with_reducible refine is_aop ?_)
    refine a_storeAt rfl rfl rfl ho rfl rfl rfl ?_
    refine no_implicit_lambda% (awd ?_)
    exact ⟨rfl, rfl, rfl⟩
  · rintro e a' w' ⟨e', s', L', n', G', ⟨rfl, rfl, rfl⟩, k2, k3⟩
    cases e <;> first | exact k2.elim | skip
    refine ⟨k3.defers, _, rfl, .tuple #[], (by simp [results, Try.results102, go_sem]), ⟨_, rfl⟩, rfl, G', ?_⟩
    exact hr0.stepped k3.holds k3.step (Nat.le_refl _) fun id hid => ⟨k3.next id hid, (k3.old id hid).imp_right fun h => h⟩
theorem findL_here {i : Nat} {r : Res} {H : Heap} : findL ((i, r) :: H) i = some r := if_pos rfl
theorem findL_skip {i j : Nat} {r : Res} {H : Heap} (h : j ≠ i) : findL ((j, r) :: H) i = findL H i := if_neg h
abbrev rpan (m : Nat) : AOut := .panic (.iface 145 (.ptr m 0))
/-- what a caller's function may do with a reader, that is object m -/
abbrev cbR (m : Nat) (Rok : List UInt8 → Heap → Prop) (Rbad : Heap → Prop) : AOut → Heap → Prop := fun out H' => (∃ (x : AV) (l' : List UInt8) (H1' : Heap), Rok l' H1' ∧ out = .ret x ∧ H' = (m, .box [.list (l'.map brow) .free]) :: H1') ∨ ∃ H1', Rbad H1' ∧ out = rpan m ∧ H' = H1'
def afterK (m nn : Nat) (Rok : List UInt8 → Heap → Prop) (Rbad : Heap → Prop) : Kc := fun e s L n =>
  n = nn ∧ s.getD 4 .dead = .ptr m 0 ∧ ((∃ l' H1', Rok l' H1' ∧ e = .ret ∧ L = (m, .box [.v (.bool (decide ((((l'.map brow).length : Nat) : Int) = 0)))]) :: (m + 2, .box [.ptr (m + 1) 0]) :: (m + 1, .box [.list (l'.map brow) .free]) :: H1') ∨
    (∃ H1', Rbad H1' ∧ e = .panic (.iface 145 (.ptr (m + 1) 0)) ∧ L = H1' ++ [(m, .box [.v (.bool false)]), (m + 2, .box [.ptr (m + 1) 0])]))
/-- objects that the callback brought, as Read's caller calls them -/
def RokG (m : Nat) (Rok : List UInt8 → Heap → Prop) (l' : List UInt8) (H' : Heap) : Prop := ∃ H1', Rok l' H1' ∧ H' = renH (rn (idsTo m (m + 1)) (m + 1 + 1 + 1)) H1'
def RbadG (m : Nat) (Rbad : Heap → Prop) (H' : Heap) : Prop := ∃ H1', Rbad H1' ∧ H' = renH (rn (idsTo m (m + 1)) (m + 1 + 1 + 1)) H1'
theorem read_g {cb : FuncId} {m top : Nat} {cap : List AV} {H1 : Heap} {l : List UInt8} {Rok : List UInt8 → Heap → Prop} {Rbad : Heap → Prop} (htop : m + 1 ≤ top)
    (hcb : ACalls Try.prog cb (m + 1) top (.ptr m 0 :: cap) ((m, .box [.list (l.map brow) .free]) :: H1) (cbR m Rok Rbad))
    (hcap : keepL m cap) (hH1 : keepH m H1) :
    ACalls Try.prog 58 m (top + 2) [.list (l.map brow) .free, .fn cb cap] H1 fun out H' => (∃ l', RokG m Rok l' H' ∧ out = .ret (.v (.bool (decide ((((l'.map brow).length : Nat) : Int) = 0))))) ∨ (RbadG m Rbad H' ∧ out = .ret (.v (.bool false))) := by
  intro G w vals hk hlits hbase hh hlen hsim
  left
  refine ⟨by rfl, ?_⟩
  refine calls_of_wp_defers Try.func58 rfl ?_
  have hr : Rel ⟨G, w, H1, m, []⟩ No G ⟨[.list (l.map brow) .free, .fn cb cap, .dead, .dead, .dead, .dead, .dead, .dead, .dead, .dead, .dead, .dead, .dead, .dead, .dead, .dead, .dead, .dead, .dead, .dead, .dead, .dead, .dead, .dead], H1, m⟩ _ w := rel_start (m := 24) hk hbase hh hlen hsim
  refine wp_seq (wp_then tok dok hr ?_)
  refine no_implicit_lambda% (awd ?_)
  refine ⟨rfl, fun G1 a1 w1 hr1 => ?_⟩
  refine wp_seq (wp_then tok dok hr1 ?_)
  refine no_implicit_lambda% (awd ?_)
  (with_reducible refine is_aop ?_)
  refine a_move (av := .fn cb cap) rfl rfl ?_
  refine no_implicit_lambda% (awd ?_)
  refine ⟨rfl, fun G2 a2 w2 hr2 => ?_⟩
  refine wp_seq (wp_then tok dok hr2 ?_)
  refine no_implicit_lambda% (awd ?_)
  (with_reducible refine is_aop ?_)
  refine a_storeAt rfl rfl rfl findL_here rfl rfl (cells' := [.ptr (m + 1) 0]) rfl ?_
  simp only [setL, if_true]
  refine no_implicit_lambda% (awd ?_)
  refine ⟨rfl, fun G3 a3 w3 hr3 => ?_⟩
  refine wp_seq (wp_region_list ?_)
  refine wpL_at tok hr3 rfl (a_q1 (av := .fn 102 [.ptr (m + 1 + 1) 0, .ptr m 0]) rfl (fun _ h => h) ?_)
  intro G4 a4 w4 hr4
  refine wpL_defer hr4 rfl rfl rfl rfl rfl rfl ?_
  intro vs a5 hvs hcs hr5
  show Code.wp _ _ _ a5 w4
  refine wp_mono (acode_sound0 tok dok _ _ _ _ (afterK m (top + 2) (RokG m Rok) (RbadG m Rbad)) _ _ _ ?_ hr5.anew) ?_
  · refine no_implicit_lambda% (awd ?_)
    (with_reducible refine is_aop ?_)
    refine a_move (av := .fn cb cap) rfl rfl ?_
    refine no_implicit_lambda% (awd ?_)
    (with_reducible refine is_aop ?_)
    refine a_loadAt rfl rfl rfl findL_here rfl rfl ?_
    refine no_implicit_lambda% (awd ?_)
    (with_reducible refine is_aop ?_)
    refine a_callS rfl rfl rfl rfl (args := .ptr (m + 1) 0 :: cap) rfl ?_
    refine by_contract (idsTo m (m + 1)) hcb (by simp [idsTo]; exact ⟨fun i hi => by omega, htop⟩) (idsTo_nodup (by omega)) (.of_eq ?_) (rest := [(m, .box [.v (.bool false)]), (m + 1 + 1, .box [.ptr (m + 1) 0])]) ?_ ?_ ?_
    · simp only [AV.renL, AV.ren, idsTo_at]
      rw [hcap _ fun i hi => idsTo_lt hi]
    · simp only [renH, Res.ren, AV.renL, AV.ren, idsTo_at]
      rw [hH1 _ fun i hi => idsTo_lt hi]
      refine (List.Perm.swap _ _ _).trans (.cons _ ?_)
      have e : ∀ (a b : Nat × Res) (H : Heap), (a :: b :: H).Perm (H ++ [b, a]) := fun a b H => (List.Perm.swap _ _ _).trans (show ([b, a] ++ H).Perm (H ++ [b, a]) from List.perm_append_comm)
      exact e _ _ _
    · intro x H' h
      rcases h with ⟨x', l', H1', hR, h1, h2⟩ | ⟨H1', hR, h1, h2⟩
      · cases h1; subst h2
        simp only [renH, Res.ren, AV.renL, AV.ren, idsTo_at, Own.ren]
        have hR' : RokG m Rok l' (renH (rn (idsTo m (m + 1)) (m + 1 + 1 + 1)) H1') := ⟨H1', hR, rfl⟩
        generalize renH (rn (idsTo m (m + 1)) (m + 1 + 1 + 1)) H1' = H1' at *
        (with_reducible refine is_opK ?_)
        refine k_op' (fun _ h => h) ?_
        (with_reducible refine o_nil ?_)
        refine k_seq_to ⟨_, (m, .box [.v (.bool false)]) :: (m + 1 + 1, .box [.ptr (m + 1) 0]) :: (m + 1, .box [.list (l'.map brow) .free]) :: H1', _⟩ (.drop (rest := []) ?_ (Nat.le_refl _)) ?_
        · rw [List.append_nil]
          exact (List.perm_append_comm (l₁ := (m + 1, .box [.list (l'.map brow) .free]) :: H1'))
        refine no_implicit_lambda% (awd ?_)
        (with_reducible refine is_aop ?_)
        refine a_loadAt rfl rfl rfl ((findL_skip (by omega)).trans findL_here) rfl rfl ?_
        refine no_implicit_lambda% (awd ?_)
        (with_reducible refine is_aop ?_)
        refine a_loadAt rfl rfl rfl ((findL_skip (by omega)).trans ((findL_skip (by omega)).trans findL_here)) rfl rfl ?_
        refine no_implicit_lambda% (awd ?_)
        (with_reducible refine is_aop ?_)
        refine a_storeAt rfl rfl rfl findL_here rfl rfl (cells' := [.v (.bool (decide ((((l'.map brow).length : Nat) : Int) = 0)))]) rfl ?_
        simp only [setL, if_true]
        refine no_implicit_lambda% (awd ?_)
        exact ⟨by omega, rfl, .inl ⟨l', H1', hR', rfl, rfl⟩⟩
      · cases h1
    · intro x H' h
      rcases h with ⟨x', l', H1', hR, h1, h2⟩ | ⟨H1', hR, h1, h2⟩
      · cases h1
      · cases h1; subst h2
        have hR' : RbadG m Rbad (renH (rn (idsTo m (m + 1)) (m + 1 + 1 + 1)) H') := ⟨H', hR, rfl⟩
        generalize renH (rn (idsTo m (m + 1)) (m + 1 + 1 + 1)) H' = H' at *
        simp only [AV.ren, idsTo_at]
        refine no_implicit_lambda% (awd ?_)
        exact ⟨by omega, rfl, .inr ⟨H', hR', rfl, rfl⟩⟩
  · rintro e a' w' ⟨e', s', L', n', G', ⟨rfl, hs4, k1⟩, k2, k3⟩
    have hS := k3.step
    have hic : Sim G' (.ptr (m + 1 + 1) 0) (vs.getD 0 undef) := hS.sim (hcs 0 _ rfl)
    have hio : Sim G' (.ptr m 0) (vs.getD 1 undef) := hS.sim (hcs 1 _ rfl)
    have hJ := hr5.join k3
    have fin : ∀ (G3 : Ghost) (w3 : World) (L3 H' rest : Heap) (b : Bool) (R : AOut → Heap → Prop), Rel ⟨G, w, H1, m, [{ target := .fn (.func 102) vs, args := #[] }]⟩ No G3 ⟨s', (m, .box [.v (.bool b)]) :: L3, top + 2⟩ a' w3 → L3.Perm (H' ++ rest) → R (.ret (.v (.bool b))) H' → ∃ v, (results Try.f58 a'.tmps).run Try.prog w3 = .ok v w3 ∧ ∃ G' out H', R out H' ∧ OSim G' out (.returned v) ∧ Holds G' w3 H' ∧ Step G w H1 G' w3 H' ∧ ∀ id, G'.live id → G.live id ∨ (m ≤ id ∧ id < top + 2) := by
      intro G3 w3 L3 H' rest b R hR hp hRR
      obtain ⟨v, h1, h2⟩ := results_run (P := Try.prog) tok hR (fn := Try.f58) (l := [.v (.bool b)]) (by
        show aresults TT s' _ [.cell 4 4] = _
        unfold aresults
        rw [getA_eq, hs4]
        simp [aresults, AV.down, aload, findL]
        rfl)
      have hp2 : ((m, Res.box [.v (.bool b)]) :: L3).Perm (H' ++ ((m, Res.box [.v (.bool b)]) :: rest)) := (hp.cons _).trans List.perm_middle.symm
      exact ⟨v, h1, G3, _, H', hRR, h2, (hR.holds.perm hp2).left, hR.step.sub hp2, fun id hid => (hR.old id hid).imp_right fun h => ⟨h, hR.next id hid⟩⟩
    have hde : a'.defers = [{ target := .fn (.func 102) vs, args := #[] }] := hJ.defers
    have hinv : ∀ w : World, (invoke (.fn (.func 102) vs) #[]).run Try.prog w = .ok (.enter 102 vs) w := fun w => by
      simp only [invoke, Array.empty_append]
      rfl
    rcases k1 with ⟨l', H1', hR, rfl, rfl⟩ | ⟨H1', hR, rfl, rfl⟩
    · cases e <;> first | exact k2.elim | skip
      show Leaves Try.prog Try.f58 a'.tmps _ a'.defers .returning w'
      rw [hde]
      refine leaves_cons (by simp) (hinv w') ((readD _ _ _ hJ hvs hic hio (m := m + 1) (b := decide ((((l'.map brow).length : Nat) : Int) = 0)) ((findL_skip (by omega)).trans findL_here) findL_here).mono ?_)
      rintro e u' w3 ⟨⟨v, rfl⟩, rfl, G3, hr3⟩
      exact fin G3 w3 _ H1' [(m + 2, .box [.ptr (m + 1) 0]), (m + 1, .box [.list (l'.map brow) .free])] _ _ hr3 (by exact (List.perm_append_comm (l₁ := [_, _]))) (.inl ⟨l', hR, rfl⟩)
    · cases e <;> first | exact k2.elim | skip
      obtain ⟨v, rfl, hv⟩ := k2
      show Leaves Try.prog Try.f58 a'.tmps _ a'.defers (.panicking [{ v := v, recovered := false }]) w'
      rw [hde]
      have hJ5 := hJ.perm (L' := (m, .box [.v (.bool false)]) :: (m + 2, .box [.ptr (m + 1) 0]) :: H1') List.perm_append_comm
      refine leaves_cons (by simp) (hinv w') ((readDp _ _ _ hJ5 hvs hic hio hv (b := false) ((findL_skip (by omega)).trans findL_here) findL_here).mono ?_)
      rintro e u' w3 ⟨⟨v, rfl⟩, hu, G3, hr3⟩
      show Leaves Try.prog Try.f58 a'.tmps _ [] (settle u') w3
      rw [hu]
      simp only [setL, if_true] at hr3
      exact fin G3 w3 _ H1' [(m + 2, .box [.ptr (m + 1) 0])] _ _ hr3 (by exact (List.perm_append_comm (l₁ := [_]))) (.inr ⟨hR, rfl⟩)
theorem read_c {cb : FuncId} {m top : Nat} {cap : List AV} {H1 : Heap} {l : List UInt8} {Rok : List UInt8 → Heap → Prop} {Rbad : Heap → Prop} (htop : m + 1 ≤ top)
    (hcb : ACalls Try.prog cb (m + 1) top (.ptr m 0 :: cap) ((m, .box [.list (l.map brow) .free]) :: H1) (cbR m Rok Rbad))
    (hcap : keepL m cap) (hH1 : keepH m H1) (hok : ∀ l' H1', Rok l' H1' → keepH m H1') (hbad : ∀ H1', Rbad H1' → keepH m H1') :
    ACalls Try.prog 58 m (top + 2) [.list (l.map brow) .free, .fn cb cap] H1 fun out H' => (∃ l', Rok l' H' ∧ out = .ret (.v (.bool (decide ((((l'.map brow).length : Nat) : Int) = 0))))) ∨ (Rbad H' ∧ out = .ret (.v (.bool false))) :=
  (read_g htop hcb hcap hH1).mono fun out H' hh => by
    rcases hh with ⟨l', ⟨H1', hR, rfl⟩, h⟩ | ⟨⟨H1', hR, rfl⟩, h⟩
    · rw [hok l' H1' hR _ fun i hi => idsTo_lt hi]
      exact .inl ⟨l', hR, h⟩
    · rw [hbad H1' hR _ fun i hi => idsTo_lt hi]
      exact .inr ⟨hR, h⟩
end Go.Proofs.Ytabhfccfohpkaaa
