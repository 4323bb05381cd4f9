/- octet.Read, with a method bound. -/
import Derived.Test.YtabhfccfohpkaaaOcC
namespace Go.Proofs.Ytabhfccfohpkaaa
open Go.Am
set_option linter.unusedSimpArgs false
set_option linter.unusedVariables false
set_option maxRecDepth 100000
theorem read_b {cb : FuncId} {m top : Nat} {fst : List AV} {H1 : Heap} {l : List UInt8} {Rok : List UInt8 → Heap → Prop} {Rbad : Heap → Prop} (htop : m + 1 ≤ top)
    (hcb : ACalls Try.prog cb (m + 1) top (fst ++ [.ptr m 0]) ((m, .box [.list (l.map brow) .free]) :: H1) (cbR m Rok Rbad))
    (hcap : keepL m fst) (hH1 : keepH m H1) :
    ACalls Try.prog 58 m (top + 2) [.list (l.map brow) .free, .bnd cb fst] H1 fun out H' => (∃ l', RokG m Rok l' H' ∧ out = .ret (.v (.bool (decide ((((l'.map brow).length : Nat) : Int) = 0))))) ∨ (RbadG m Rbad H' ∧ out = .ret (.v (.bool false))) := by
  intro G w vals hk hlits hbase hh hlen hsim
  left
  refine ⟨by rfl, ?_⟩
  refine calls_of_wp_defers Try.func58 rfl ?_
  have hr : Rel ⟨G, w, H1, m, []⟩ No G ⟨[.list (l.map brow) .free, .bnd cb fst, .dead, .dead, .dead, .dead, .dead, .dead, .dead, .dead, .dead, .dead, .dead, .dead, .dead, .dead, .dead, .dead, .dead, .dead, .dead, .dead, .dead, .dead], H1, m⟩ _ w := rel_start (m := 24) hk hbase hh hlen hsim
  refine wp_seq (wp_then tok dok hr ?_)
  refine no_implicit_lambda% (awd ?_)
  refine ⟨rfl, fun G1 a1 w1 hr1 => ?_⟩
  refine wp_seq (wp_then tok dok hr1 ?_)
  refine no_implicit_lambda% (awd ?_)
  (with_reducible refine is_aop ?_)
  refine a_move (av := .bnd cb fst) rfl rfl ?_
  refine no_implicit_lambda% (awd ?_)
  refine ⟨rfl, fun G2 a2 w2 hr2 => ?_⟩
  refine wp_seq (wp_then tok dok hr2 ?_)
  refine no_implicit_lambda% (awd ?_)
  (with_reducible refine is_aop ?_)
  refine a_storeAt rfl rfl rfl findL_here rfl rfl (cells' := [.ptr (m + 1) 0]) rfl ?_
  simp only [setL, if_true]
  refine no_implicit_lambda% (awd ?_)
  refine ⟨rfl, fun G3 a3 w3 hr3 => ?_⟩
  refine wp_seq (wp_region_list ?_)
  refine wpL_at tok hr3 rfl (a_q1 (av := .fn 102 [.ptr (m + 1 + 1) 0, .ptr m 0]) rfl (fun _ h => h) ?_)
  intro G4 a4 w4 hr4
  refine wpL_defer hr4 rfl rfl rfl rfl rfl rfl ?_
  intro vs a5 hvs hcs hr5
  show Code.wp _ _ _ a5 w4
  refine wp_mono (acode_sound0 tok dok _ _ _ _ (afterK m (top + 2) (RokG m Rok) (RbadG m Rbad)) _ _ _ ?_ hr5.anew) ?_
  · refine no_implicit_lambda% (awd ?_)
    (with_reducible refine is_aop ?_)
    refine a_move (av := .bnd cb fst) rfl rfl ?_
    refine no_implicit_lambda% (awd ?_)
    (with_reducible refine is_aop ?_)
    refine a_loadAt rfl rfl rfl findL_here rfl rfl ?_
    refine no_implicit_lambda% (awd ?_)
    (with_reducible refine is_aop ?_)
    refine a_callB rfl rfl rfl rfl (args := fst ++ [.ptr (m + 1) 0]) rfl ?_
    refine by_contract (idsTo m (m + 1)) hcb (by simp [idsTo]; exact ⟨fun i hi => by omega, htop⟩) (idsTo_nodup (by omega)) (.of_eq ?_) (rest := [(m, .box [.v (.bool false)]), (m + 1 + 1, .box [.ptr (m + 1) 0])]) ?_ ?_ ?_
    · rw [renL_eq, List.map_append, ← renL_eq, hcap _ fun i hi => idsTo_lt hi]
      simp only [List.map_cons, List.map_nil, AV.ren, idsTo_at]
    · simp only [renH, Res.ren, AV.renL, AV.ren, idsTo_at]
      rw [hH1 _ fun i hi => idsTo_lt hi]
      refine (List.Perm.swap _ _ _).trans (.cons _ ?_)
      have e : ∀ (a b : Nat × Res) (H : Heap), (a :: b :: H).Perm (H ++ [b, a]) := fun a b H => (List.Perm.swap _ _ _).trans (show ([b, a] ++ H).Perm (H ++ [b, a]) from List.perm_append_comm)
      exact e _ _ _
    · intro x H' h
      rcases h with ⟨x', l', H1', hR, h1, h2⟩ | ⟨H1', hR, h1, h2⟩
      · cases h1; subst h2
        simp only [renH, Res.ren, AV.renL, AV.ren, idsTo_at, Own.ren]
        have hR' : RokG m Rok l' (renH (rn (idsTo m (m + 1)) (m + 1 + 1 + 1)) H1') := ⟨H1', hR, rfl⟩
        generalize renH (rn (idsTo m (m + 1)) (m + 1 + 1 + 1)) H1' = H1' at *
        (with_reducible refine is_opK ?_)
        refine k_op' (fun _ h => h) ?_
        (with_reducible refine o_nil ?_)
        refine k_seq_to ⟨_, (m, .box [.v (.bool false)]) :: (m + 1 + 1, .box [.ptr (m + 1) 0]) :: (m + 1, .box [.list (l'.map brow) .free]) :: H1', _⟩ (.drop (rest := []) ?_ (Nat.le_refl _)) ?_
        · rw [List.append_nil]
          exact (List.perm_append_comm (l₁ := (m + 1, .box [.list (l'.map brow) .free]) :: H1'))
        refine no_implicit_lambda% (awd ?_)
        (with_reducible refine is_aop ?_)
        refine a_loadAt rfl rfl rfl ((findL_skip (by omega)).trans findL_here) rfl rfl ?_
        refine no_implicit_lambda% (awd ?_)
        (with_reducible refine is_aop ?_)
        refine a_loadAt rfl rfl rfl ((findL_skip (by omega)).trans ((findL_skip (by omega)).trans findL_here)) rfl rfl ?_
        refine no_implicit_lambda% (awd ?_)
        (with_reducible refine is_aop ?_)
        refine a_storeAt rfl rfl rfl findL_here rfl rfl (cells' := [.v (.bool (decide ((((l'.map brow).length : Nat) : Int) = 0)))]) rfl ?_
        simp only [setL, if_true]
        refine no_implicit_lambda% (awd ?_)
        exact ⟨by omega, rfl, .inl ⟨l', H1', hR', rfl, rfl⟩⟩
      · cases h1
    · intro x H' h
      rcases h with ⟨x', l', H1', hR, h1, h2⟩ | ⟨H1', hR, h1, h2⟩
      · cases h1
      · cases h1; subst h2
        have hR' : RbadG m Rbad (renH (rn (idsTo m (m + 1)) (m + 1 + 1 + 1)) H') := ⟨H', hR, rfl⟩
        generalize renH (rn (idsTo m (m + 1)) (m + 1 + 1 + 1)) H' = H' at *
        simp only [AV.ren, idsTo_at]
        refine no_implicit_lambda% (awd ?_)
        exact ⟨by omega, rfl, .inr ⟨H', hR', rfl, rfl⟩⟩
  · rintro e a' w' ⟨e', s', L', n', G', ⟨rfl, hs4, k1⟩, k2, k3⟩
    have hS := k3.step
    have hic : Sim G' (.ptr (m + 1 + 1) 0) (vs.getD 0 undef) := hS.sim (hcs 0 _ rfl)
    have hio : Sim G' (.ptr m 0) (vs.getD 1 undef) := hS.sim (hcs 1 _ rfl)
    have hJ := hr5.join k3
    have fin : ∀ (G3 : Ghost) (w3 : World) (L3 H' rest : Heap) (b : Bool) (R : AOut → Heap → Prop), Rel ⟨G, w, H1, m, [{ target := .fn (.func 102) vs, args := #[] }]⟩ No G3 ⟨s', (m, .box [.v (.bool b)]) :: L3, top + 2⟩ a' w3 → L3.Perm (H' ++ rest) → R (.ret (.v (.bool b))) H' → ∃ v, (results Try.f58 a'.tmps).run Try.prog w3 = .ok v w3 ∧ ∃ G' out H', R out H' ∧ OSim G' out (.returned v) ∧ Holds G' w3 H' ∧ Step G w H1 G' w3 H' ∧ ∀ id, G'.live id → G.live id ∨ (m ≤ id ∧ id < top + 2) := by
      intro G3 w3 L3 H' rest b R hR hp hRR
      obtain ⟨v, h1, h2⟩ := results_run (P := Try.prog) tok hR (fn := Try.f58) (l := [.v (.bool b)]) (by
        show aresults TT s' _ [.cell 4 4] = _
        unfold aresults
        rw [getA_eq, hs4]
        simp [aresults, AV.down, aload, findL]
        rfl)
      have hp2 : ((m, Res.box [.v (.bool b)]) :: L3).Perm (H' ++ ((m, Res.box [.v (.bool b)]) :: rest)) := (hp.cons _).trans List.perm_middle.symm
      exact ⟨v, h1, G3, _, H', hRR, h2, (hR.holds.perm hp2).left, hR.step.sub hp2, fun id hid => (hR.old id hid).imp_right fun h => ⟨h, hR.next id hid⟩⟩
    have hde : a'.defers = [{ target := .fn (.func 102) vs, args := #[] }] := hJ.defers
    have hinv : ∀ w : World, (invoke (.fn (.func 102) vs) #[]).run Try.prog w = .ok (.enter 102 vs) w := fun w => by
      simp only [invoke, Array.empty_append]
      rfl
    rcases k1 with ⟨l', H1', hR, rfl, rfl⟩ | ⟨H1', hR, rfl, rfl⟩
    · cases e <;> first | exact k2.elim | skip
      show Leaves Try.prog Try.f58 a'.tmps _ a'.defers .returning w'
      rw [hde]
      refine leaves_cons (by simp) (hinv w') ((readD _ _ _ hJ hvs hic hio (m := m + 1) (b := decide ((((l'.map brow).length : Nat) : Int) = 0)) ((findL_skip (by omega)).trans findL_here) findL_here).mono ?_)
      rintro e u' w3 ⟨⟨v, rfl⟩, rfl, G3, hr3⟩
      exact fin G3 w3 _ H1' [(m + 2, .box [.ptr (m + 1) 0]), (m + 1, .box [.list (l'.map brow) .free])] _ _ hr3 (by exact (List.perm_append_comm (l₁ := [_, _]))) (.inl ⟨l', hR, rfl⟩)
    · cases e <;> first | exact k2.elim | skip
      obtain ⟨v, rfl, hv⟩ := k2
      show Leaves Try.prog Try.f58 a'.tmps _ a'.defers (.panicking [{ v := v, recovered := false }]) w'
      rw [hde]
      have hJ5 := hJ.perm (L' := (m, .box [.v (.bool false)]) :: (m + 2, .box [.ptr (m + 1) 0]) :: H1') List.perm_append_comm
      refine leaves_cons (by simp) (hinv w') ((readDp _ _ _ hJ5 hvs hic hio hv (b := false) ((findL_skip (by omega)).trans findL_here) findL_here).mono ?_)
      rintro e u' w3 ⟨⟨v, rfl⟩, hu, G3, hr3⟩
      show Leaves Try.prog Try.f58 a'.tmps _ [] (settle u') w3
      rw [hu]
      simp only [setL, if_true] at hr3
      exact fin G3 w3 _ H1' [(m + 2, .box [.ptr (m + 1) 0])] _ _ hr3 (by exact (List.perm_append_comm (l₁ := [_]))) (.inr ⟨hR, rfl⟩)
end Go.Proofs.Ytabhfccfohpkaaa
