/- ValueTells' walk. -/
import Derived.Test.YtdfnepbhgifkkaaVj
import Derived.Test.YtdfnepbhgifkkaaVh
namespace Go.Proofs.Ytdfnepbhgifkkaa
open Go.Am
set_option linter.unusedSimpArgs false
set_option linter.unusedVariables false
set_option maxRecDepth 100000
set_option maxHeartbeats 6400000 in
theorem vtells_c (a b : Va) (t0 t1 : Bool) (n0 n1 : Int) (x0 x1 : Nat) (b0 b1 z : List UInt8) (ha : a.n < 18446744073709551616) (hb : b.n < 18446744073709551616) (h0 : (-9223372036854775808 ≤ n0 ∧ n0 ≤ 9223372036854775807) ∧ x0 < 18446744073709551616) (h1 : (-9223372036854775808 ≤ n1 ∧ n1 ≤ 9223372036854775807) ∧ x1 < 18446744073709551616) :
    ACalls Try.prog 9 0 20000 [vav a, vav b, dvav t0 n0 x0 b0, dvav t1 n1 x1 b1, .list (z.map brow) .free] [] (fun out H' => out = .ret (.v (.bool true)) ∧ H' = []) := by
  obtain ⟨ka, ba, na⟩ := a
  obtain ⟨kb, bb, nb⟩ := b
  simp only at ha hb
  have la : (ba.take 20).length ≤ 20 := by simp; omega
  have lb : (bb.take 20).length ≤ 20 := by simp; omega
  have lz : (z.take 30).length ≤ 30 := by simp; omega
  have ca := cut_c ba 20 (by decide)
  have cb := cut_c bb 20 (by decide)
  have cz := cut_c z 30 (by decide)
  generalize ba.take 20 = ba' at *
  generalize bb.take 20 = bb' at *
  generalize z.take 30 = z' at *
  have hab := two_c ⟨ka, ba', na⟩ ⟨kb, bb', nb⟩ ha hb (show ba'.length < 1000 by omega) (show bb'.length < 1000 by omega)
  have wa := writes3_c ⟨ka, ba', na⟩ la ha
  have rz := reads3_c z' (by omega)
  refine acalls_of tok dok (f := 9) ⟨Try.func9, rfl, by kernel_rfl⟩ ?_; refine c_start (fun _ h => h) ?_
  refine awd ?_
  refine cal [] (ca) ?_ ?_
  · refine ret1 ?_; first | (refine akc ?_) | (refine aec ?_)
    refine awd ?_
    refine cal [] (cb) ?_ ?_
    · refine ret1 ?_; first | (refine akc ?_) | (refine aec ?_)
      refine awd ?_
      refine cal [] (vmade_c t0 n0 x0 b0 h0.1.1 h0.1.2 h0.2) ?_ ?_
      · intro x H' h
        obtain ⟨p, hp, h1, rfl⟩ := h
        cases h1
        first | (refine akc ?_) | (refine aec ?_)
        refine awd ?_
        refine cal [] (vmade_c t1 n1 x1 b1 h1.1.1 h1.1.2 h1.2) ?_ ?_
        · intro x H' h
          obtain ⟨q, hq, h1, rfl⟩ := h
          cases h1
          first | (refine akc ?_) | (refine aec ?_)
          refine awd ?_
          have pl : p.b.length ≤ 16 := by
            rcases hp with h | h
            · exact h.2.2
            · rw [h.2.1]; decide
          have pn : p.n < 18446744073709551616 := by
            rcases hp with h | h
            · rw [h.2.1]; decide
            · exact h.2.2
          have ql : q.b.length ≤ 16 := by
            rcases hq with h | h
            · exact h.2.2
            · rw [h.2.1]; decide
          have qn : q.n < 18446744073709551616 := by
            rcases hq with h | h
            · rw [h.2.1]; decide
            · exact h.2.2
          refine cal [] (hab) ?_ ?_
          · refine ret1 ?_; first | (refine akc ?_) | (refine aec ?_)
            refine awd ?_
            refine cal [] (two_c p q pn qn (by omega) (by omega)) ?_ ?_
            · refine ret1 ?_; first | (refine akc ?_) | (refine aec ?_)
              refine awd ?_
              refine cal [] (two_c ⟨ka, ba', na⟩ p ha pn (show ba'.length < 1000 by omega) (by omega)) ?_ ?_
              · refine ret1 ?_; first | (refine akc ?_) | (refine aec ?_)
                refine awd ?_
                refine cal [] (wa) ?_ ?_
                · refine ret1 ?_; first | (refine akc ?_) | (refine aec ?_)
                  refine awd ?_
                  refine cal [] (writes3_c p (by omega) pn) ?_ ?_
                  · refine ret1 ?_; first | (refine akc ?_) | (refine aec ?_)
                    refine awd ?_
                    refine cal [] (cz) ?_ ?_
                    · refine ret1 ?_; first | (refine akc ?_) | (refine aec ?_)
                      refine awd ?_
                      refine cal [] (rz) ?_ ?_
                      · refine ret1 ?_; first | (refine akc ?_) | (refine aec ?_)
                        refine awd ?_
                        refine calw [] (refPutA_c p (by omega) pn) ?_ ?_
                        · refine ret1 ?_; first | (refine akc ?_) | (refine aec ?_)
                          refine awd ?_
                          refine cal [] (reads3_c (encA p) (by have := encA_len (v := p) (by omega); omega)) ?_ ?_
                          · refine ret1 ?_; first | (refine akc ?_) | (refine aec ?_)
                            refine awd ?_
                            refine cal [] (known3_c) ?_ ?_
                            · refine ret1 ?_; first | (refine akc ?_) | (refine aec ?_)
                              refine awd ?_
                              exact e_ret (H' := []) (rest := _) rfl ⟨rfl, rfl⟩ (.refl _) (Nat.le_of_ble_eq_true rfl)
                            · first | (exact retN) | (exact retP)
                          · first | (exact retN) | (exact retP)
                        · first | (exact retN) | (exact retP)
                      · first | (exact retN) | (exact retP)
                    · first | (exact retN) | (exact retP)
                  · first | (exact retN) | (exact retP)
                · first | (exact retN) | (exact retP)
              · first | (exact retN) | (exact retP)
            · first | (exact retN) | (exact retP)
          · first | (exact retN) | (exact retP)
        · intro x H' h; obtain ⟨_, _, h1, _⟩ := h; cases h1
      · intro x H' h; obtain ⟨_, _, h1, _⟩ := h; cases h1
    · first | (exact retN) | (exact retP)
  · first | (exact retN) | (exact retP)
end Go.Proofs.Ytdfnepbhgifkkaa
