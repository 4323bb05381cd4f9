/- The document's writer, what it hands back as a list that may be written. -/
import Derived.Test.YtdfnepbhgifkkaaOcD
import Derived.Test.YtdfnepbhgifkkaaAmTc
namespace Go.Proofs.Ytdfnepbhgifkkaa
open Go.Am
set_option linter.unusedSimpArgs false
set_option linter.unusedVariables false
set_option maxRecDepth 100000
theorem broOk (l : List UInt8) : RowsOk 1 (l.map brow) := .map (f := brow) (fun _ => ⟨rfl, rfl, rfl⟩) l
theorem map_snoc (l : List UInt8) (x : Nat) : l.map brow ++ [[AV.v (.int .u8 ((UInt8.ofNat x).toNat : Int))]] = (l ++ [UInt8.ofNat x]).map brow := by rw [List.map_append]; rfl
/-- octets in a list that may be written -/
def bA (id : Nat) (l : List UInt8) (cp : Nat) : Heap := [(id, .seq (l.map brow) ((cp - l.length) * 1))]
abbrev bAR (id : Nat) (l : List UInt8) (out : AOut) (H' : Heap) : Prop := ∃ cp, l.length ≤ cp ∧ cp ≤ maxLen ∧ out = .ret (.arr id 0 l.length cp) ∧ H' = bA id l cp
theorem refNumA_c (b : List UInt8) (hb : 0 < b.length) (x : Nat) (hx : x < 4294967296) (h : b.length < 1073741824) : ACalls Try.prog 91 0 2 [.list (b.map brow) .free, .v (.int .u32 x)] [] (bAR 1 (b ++ be x 4)) := by
  have hbe := be_len x 4
  refine acalls_of tok dok (f := 91) ⟨Try.func91, rfl, by kernel_rfl⟩ ?_; refine c_start (fun _ h => h) ?_
  refine awdz ?_
  ((with_reducible refine is_aop ?_); refine a_appS0 (sz := 1) (B := 1) (m2 := b.length) rfl rfl rfl rfl rfl rfl rfl rfl rfl (by first | exact .inl rfl | exact .inr ⟨_, _, rfl⟩) rfl rfl rfl (broOk b) (by first | omega | (simp; done) | (simp; omega)) (by first | omega | (simp; omega)) (by first | rfl | (exact List.length_map ..) | (simp; done)) ?_)
  intro cp h1 h2
  refine akc ?_
  refine awdz ?_
  rw [oct_of x 24 (min (Int.toNat 24) IntKind.u32.bits) rfl, oct_of x 16 (min (Int.toNat 16) IntKind.u32.bits) rfl, oct_of x 8 (min (Int.toNat 8) IntKind.u32.bits) rfl, oct_0]
  ((with_reducible refine is_aop ?_); refine a_appS (sz := 1) (B := 1) (m2 := (b ++ be x 4).length) (rows3 := (b ++ be x 4).map brow) rfl rfl rfl rfl rfl rfl rfl rfl rfl rfl rfl (fun _ h => h) rfl rfl (broOk b) (broOk (be x 4)) (by first | rfl | (exact List.length_map ..) | (simp; done) | (simp; omega)) rfl (by first | omega | (simp; omega)) (by first | rfl | (simp; done) | (simp; omega)) (by first | rfl | (exact map_snoc _ _) | (rw [List.map_append]; rfl) | (simp; done)) ?_)
  intro cp' h1' h2'
  refine akc ?_
  refine awdz ?_
  exact e_ret (H' := bA 1 (b ++ be x 4) cp') (rest := []) rfl ⟨cp', h1', h2', rfl, rfl⟩ (.of_eq rfl) (Nat.le_of_ble_eq_true rfl)
theorem refTextA_c (b x : List UInt8) (hb : 0 < b.length) (h : b.length < 1073741000) (hx : x.length < 1048577) : ACalls Try.prog 56 0 20 [.list (b.map brow) .free, .list (x.map brow) .free] [] (bAR 2 (b ++ (be x.length 4 ++ x))) := by
  have hbe := be_len x.length 4
  refine acalls_of tok dok (f := 56) ⟨Try.func56, rfl, by kernel_rfl⟩ ?_; refine c_start (fun _ h => h) ?_
  refine awdz ?_
  rw [show IntKind.u32.wrap ((x.map brow).length : Int) = x.length by rw [IntKind.wrap_u32, List.length_map]; omega]
  refine cal [] (refNumA_c b hb x.length (by omega) (by omega)) ?_ ?_
  · intro xx H' hh
    obtain ⟨cp, c1, c2, h', rfl⟩ := hh
    cases h'
    first | (refine akc ?_) | (refine aec ?_)
    refine awdz ?_
    ((with_reducible refine is_aop ?_); refine a_appS (sz := 1) (B := 1) (m2 := (b ++ (be x.length 4 ++ x)).length) (rows3 := (b ++ (be x.length 4 ++ x)).map brow) rfl rfl rfl rfl rfl rfl rfl rfl rfl rfl rfl (fun _ h => h) rfl rfl (broOk (b ++ be x.length 4)) (broOk x) (by first | rfl | (exact List.length_map ..) | (simp; done) | (simp; omega)) rfl (by first | omega | (simp; omega)) (by first | rfl | (simp; done) | (simp; omega)) (by first | rfl | (exact map_snoc _ _) | (rw [List.map_append]; rfl) | (simp; done)) ?_)
    intro cp' h1' h2'
    refine akc ?_
    refine awdz ?_
    exact e_ret (H' := bA 2 (b ++ (be x.length 4 ++ x)) cp') (rest := []) rfl ⟨cp', h1', h2', rfl, rfl⟩ (.of_eq rfl) (Nat.le_of_ble_eq_true rfl)
  · intro x H' hh
    obtain ⟨_, _, _, h', _⟩ := hh
    cases h'
theorem u8_any (z : Int) : ∃ u : UInt8, IntKind.u8.wrap z = (u.toNat : Int) := by
  refine ⟨UInt8.ofNat (IntKind.u8.wrap z).toNat, ?_⟩
  have h1 : 0 ≤ IntKind.u8.wrap z ∧ IntKind.u8.wrap z < 256 := by rw [IntKind.wrap_u8]; omega
  generalize IntKind.u8.wrap z = x at *
  rw [UInt8.toNat_ofNat_of_lt' (by show x.toNat < 256; omega)]
  omega
theorem bAR_ren {P : Program} {f : FuncId} {top : Nat} {args : List AV} {l : List UInt8} (h : ACalls P f 0 top args [] fun out H' => ∃ id, id < top ∧ bAR id l out H') : ACalls P f 0 1 args [] (bAR 0 l) :=
  h.ren (Nat.zero_le _) fun out H' hh => by
    obtain ⟨id, hid, cp, c1, c2, rfl, rfl⟩ := hh
    exact ⟨[id], .ret (.arr 0 0 l.length cp), bA 0 l cp, by simp, by simpa using hid, fun i h => by omega, Nat.le_refl _, by simp [AOut.ren, AV.ren, rn], by simp [bA, renH, Res.ren, rn], cp, c1, c2, rfl, rfl⟩
/-- .. as a list that stays -/
theorem bAR_list {P : Program} {f : FuncId} {top : Nat} {args : List AV} {l : List UInt8} {id : Nat} (h : ACalls P f 0 top args [] (bAR id l)) : ACalls P f 0 top args [] fun out H' => out = .ret (.list (l.map brow) .free) ∧ H' = [] :=
  h.conv (Nat.zero_le _) (Nat.le_refl _) (fun x H' hh => by
    obtain ⟨cp, c1, c2, h', rfl⟩ := hh
    cases h'
    exact ⟨.list (l.map brow) .free, [], top, Nat.le_refl _, (Conv.freezeS (j := 0) (sz := 1) rfl (.refl _) (broOk l) (List.length_map ..)).toN 0, fun rows h => (by cases h), rfl, rfl⟩) fun x H' hh => by
    obtain ⟨_, _, _, h', _⟩ := hh
    cases h'
end Go.Proofs.Ytdfnepbhgifkkaa
