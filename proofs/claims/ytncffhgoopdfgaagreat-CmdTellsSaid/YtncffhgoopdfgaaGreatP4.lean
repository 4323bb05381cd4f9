/- Part 4 of what the laws CmdTells rest on: AmO, AmP, AmQ. -/
import Derived.Test.YtncffhgoopdfgaaGreatP3
set_option linter.unusedSimpArgs false
set_option linter.unusedVariables false
namespace Go.Am
open Go.RowKit
structure ASt where
 slots : List AV
 L : Heap
 next : Nat
inductive AExit where
 | normal
 | ret
 | exit (id : Nat)
 | panic (x : AV)
def ESim (G : Ghost) : AExit → Exit → Prop
 | .normal, .normal => True
 | .ret, .ret => True
 | .exit i, .exit j => i = j
 | .panic a, .panic chain => ∃ v, chain = [{ v, recovered := false }] ∧ Sim G a v
 | _, _ => False
def getA : List AV → Nat → AV
 | [], _ => .dead
 | a :: _, 0 => a
 | _ :: l, n + 1 => getA l n
theorem getA_eq (l : List AV) (n : Nat) : getA l n = l.getD n .dead := by
 induction l generalizing n with
 | nil => rfl
 | cons a l ih => cases n <;> simp [getA, ih]
def setA : List AV → Nat → AV → List AV
 | [], _, _ => []
 | _ :: l, 0, x => x :: l
 | a :: l, n + 1, x => a :: setA l n x
theorem setA_eq (l : List AV) (n : Nat) (x : AV) : setA l n x = l.set n x := by
 induction l generalizing n with
 | nil => rfl
 | cons a l ih => cases n <;> simp [setA, ih]
def raw (s : List AV) : Operand → AV
 | .tmp t => getA s t
 | .const v => .ofValue v
 | .func f => .fn f []
 | .global _ => .dead
def ev (s : List AV) : Operand → AV
 | .tmp t => (getA s t).down
 | .const v => .ofValue v
 | .func f => .fn f []
 | .global _ => .dead
structure Base where
 G : Ghost
 w : World
 H : Heap
 k : Nat
 D : List Deferred := []
structure Rel (B : Base) (U : Nat → Prop) (G : Ghost) (σ : ASt) (a : Act) (w : World) : Prop where
 size : a.tmps.size = σ.slots.length
 slots : ∀ t, ¬ U t → Slot G (getA σ.slots t) (a.tmps.getD t undef)
 defers : a.defers = B.D
 holds : Holds G w σ.L
 step : Step B.G B.w B.H G w σ.L
 next : ∀ id, G.live id → id < σ.next
 base : G.base ≤ w.heap.size
 low : B.k ≤ σ.next
 old : ∀ id, G.live id → B.G.live id ∨ B.k ≤ id
theorem Rel.op {B : Base} {U : Nat → Prop} {G : Ghost} {σ : ASt} {a : Act} {w : World} (h : Rel B U G σ a w) {x : Operand} (hx : ∀ t, x = .tmp t → ¬ U t) : Sim G (ev σ.slots x) (a.eval x) ∧ Slot G (raw σ.slots x) (a.eval x) := by
 cases x with
 | tmp t => exact ⟨(h.slots t (hx t rfl)).down, h.slots t (hx t rfl)⟩
 | const v => exact ⟨.ofValue G v, .of (.ofValue G v)⟩
 | func f =>
  have : Sim G (.fn f []) (.func (.func f) #[] #[]) := .fn f [] #[] rfl fun i a h => by simp at h
  exact ⟨this, .of this⟩
 | global g => exact ⟨.data _ _ (.dead _), .of (.data _ _ (.dead _))⟩
theorem Rel.here {B : Base} {U : Nat → Prop} {G : Ghost} {σ : ASt} {a : Act} {w : World} {P : Program} {o : Oper} (h : Rel B U G σ a w) (hx : ∀ t, .tmp t ∈ o.op.operands → ¬ U t) : Here P σ.L (ev σ.slots) (raw σ.slots) o G w a.eval :=
 ⟨fun x hm => (h.op fun t e => hx t (e ▸ hm)).1, fun x hm => (h.op fun t e => hx t (e ▸ hm)).2, h.holds, h.base⟩
def LeA (a b : AV) : Prop := ∀ G x, Sim G a x → Sim G b x
inductive LeL : List AV → List AV → Prop
 | nil : LeL [] []
 | cons {a b : AV} {s t : List AV} (h : LeA a b) (hs : LeL s t) : LeL (a :: s) (b :: t)
theorem LeL.refl : ∀ s, LeL s s
 | [] => .nil
 | a :: s => .cons (fun _ _ h => h) (LeL.refl s)
theorem LeL.of_eq {s t : List AV} (h : s = t) : LeL s t := by subst h; exact .refl _
theorem LeL.len {s t : List AV} (h : LeL s t) : s.length = t.length := by
 induction h with
 | nil => rfl
 | cons _ _ ih => simp [ih]
theorem LeL.get {s t : List AV} (h : LeL s t) : ∀ (i : Nat) (b : AV), t[i]? = some b → ∃ a, s[i]? = some a ∧ LeA a b := by
 induction h with
 | nil => intro i b hb; simp at hb
 | @cons a b s t h1 _ ih =>
  intro i c hc
  cases i with
  | zero => simp at hc; subst hc; exact ⟨a, rfl, h1⟩
  | succ i => exact ih i c hc
theorem LeA.refl (a : AV) : LeA a a := fun _ _ h => h
theorem LeA.free (rows : List (List AV)) (o : Own) : LeA (.list rows o) (.list rows .free) := fun G x h => by
 cases h with
 | data _ _ h => exact .data _ _ h.free
 | tok _ k _ _ h => exact .data _ _ h
theorem LeA.dead (a : AV) : LeA a .dead := fun _ _ _ => .data _ _ (.dead _)
def acall (P : Program) (f : FuncId) (args : List AV) (L : Heap) (next : Nat) (K KP : AV → Heap → Nat → Prop) : Prop :=
 ∃ (k top : Nat) (args0 : List AV) (H0 : Heap) (R : AOut → Heap → Prop) (ids : List Nat) (rest : Heap), ACalls P f k top args0 H0 R ∧
  (ids.length = k ∧ ids.Nodup ∧ (∀ i ∈ ids, i < next) ∧ k ≤ top ∧ LeL args (AV.renL (rn ids next) args0) ∧ L.Perm (renH (rn ids next) H0 ++ rest)) ∧
  ∀ out H', R out H' → match out with
   | .ret x => K (x.ren (rn ids next)) (renH (rn ids next) H' ++ rest) (next + (top - k))
   | .panic x => KP (x.ren (rn ids next)) (renH (rn ids next) H' ++ rest) (next + (top - k))
def isNilS : Value → Bool | .slice none 0 0 => true | _ => false
inductive OK where
 | quiet | store | box | alloc | append | call | panic | nilq | mem
def opKind (o : Oper) : OK :=
 match o.op with
 | .store _ _ _ => .store
 | .box _ _ => .box
 | .alloc _ => .alloc
 | .panic _ => .panic
 | .call c => match c.callee with
  | .builtin .append => .append
  | .builtin .copy => .mem
  | .builtin .clear => .mem
  | .builtin .panic => .panic
  | .builtin _ => .quiet
  | .value _ => .call
  | .invoke _ _ => .quiet
 | .binOp _ _ _ y _ => match y with
  | .const v => match isNilS v with | true => .nilq | false => .quiet
  | _ => .quiet
 | _ => .quiet
def astore (TT : Types) (s : List AV) (L : Heap) (t : TypeId) (x y : Operand) (K : Heap → Prop) : Prop :=
 opt1 (TT t) fun ti => match ev s x with
  | .ptr id off => match findL L id with
   | some (.box cells) => opt1 (acells (ev s y)) fun l => if l.all AV.one && (Nat.beq l.length ti.size && Nat.ble (off + l.length) cells.length) then K (setL L id (.box (putCells cells off l))) else False
   | _ => False
  | _ => False
def aappend (TT : Types) (s : List AV) (L : Heap) (next : Nat) (c : Call) (K : AV → Heap → Nat → Prop) : Prop :=
 match c.args.toList, c.argTypes.toList with
 | [x, y], [t, tx] => match kindT TT t, kindT TT tx with
  | .slice e, .slice _ => opt1 (TT e) fun te => opt1 te.zero fun z => if zok te z then
    match ev s x, ev s y with
    | .list rows own, .list rows2 _ => (∀ row ∈ rows2, row.length = te.size) ∧ (rows.length + rows2.length) * te.bytes ≤ 140737488355328 ∧ rows.length + rows2.length ≤ 4611686018427387904 ∧
     match own with
     | .tok k => match findL L k with
      | some (.tok sz n) => sz = te.size ∧ n = rows.length ∧ K (.list (rows ++ rows2) (.tok k)) (setL L k (.tok te.size (rows.length + rows2.length))) next
      | _ => False
     | .full => (∀ row ∈ rows, row.length = te.size) ∧ K (.list (rows ++ rows2) (.tok next)) ((next, .tok te.size (rows.length + rows2.length)) :: L) (next + 1)
     | _ => False
    | _, _ => False
   else False
  | _, _ => False
 | _, _ => False
def asrc (L : Heap) (s : Nat) (lim : Nat → Nat) (y : AV) (K : Nat → List AV → Prop) : Prop :=
 match y with
 | .list rows _ => (∀ row ∈ rows, row.length = s) ∧ lim rows.length ≤ rows.length ∧ K rows.length (rows.flatten.take (lim rows.length * s))
 | .arr id off m _ => match findL L id with
  | some (.box cells) => lim m ≤ m ∧ off + lim m * s ≤ cells.length ∧ ((cells.drop off).take (lim m * s)).all AV.one = true ∧ K m ((cells.drop off).take (lim m * s))
  | some (.seq rows k) => lim m ≤ m ∧ off + lim m * s ≤ (seqC rows k).length ∧ (((seqC rows k).drop off).take (lim m * s)).all AV.one = true ∧ K m (((seqC rows k).drop off).take (lim m * s))
  | _ => False
 | _ => False
def aolds (L : Heap) (s : Nat) (x : AV) (olds : List AV) (n cp : Nat) : Prop :=
 match x with
 | .list [] .full => n = 0 ∧ cp = 0 ∧ olds = []
 | .arr id off n' cp' => n' = n ∧ cp' = cp ∧ ((n = 0 ∧ olds = []) ∨ (∃ rows k, findL L id = some (.seq rows k) ∧ off + n * s ≤ (seqC rows k).length ∧ (((seqC rows k).drop off).take (n * s)).all AV.one = true ∧ olds = ((seqC rows k).drop off).take (n * s)) ∨ ∃ cells, findL L id = some (.box cells) ∧ off + n * s ≤ cells.length ∧ ((cells.drop off).take (n * s)).all AV.one = true ∧ olds = (cells.drop off).take (n * s))
 | _ => False
def aappendA (TT : Types) (s : List AV) (L : Heap) (next : Nat) (c : Call) (K : AV → Heap → Nat → Prop) : Prop :=
 match c.args.toList, c.argTypes.toList with
 | [x, y], [t, tx] => match kindT TT t with
  | .slice e => opt1 (TT e) fun te => opt1 te.zero fun z => if zok te z then
    match kindT TT tx with
    | .slice _ => asrc L te.size (fun m => m) (ev s y) fun m cs => ∃ n cp, (n + m) * te.bytes ≤ 140737488355328 ∧ n + m ≤ 4611686018427387904 ∧
      (n + m ≤ cp → ∃ id off cells, ev s x = .arr id off n cp ∧ findL L id = some (.box cells) ∧ off + (n + m) * te.size ≤ cells.length ∧ K (.arr id off (n + m) cp) (setL L id (.box (putCells cells (off + n * te.size) cs))) next) ∧
      (cp < n + m → ∃ olds, aolds L te.size (ev s x) olds n cp ∧ ∀ cp', n + m ≤ cp' → cp' ≤ maxLen → K (.arr next 0 (n + m) cp') ((next, .box (olds ++ cs ++ List.replicate ((cp' - (n + m)) * te.size) .dead)) :: L) (next + 1))
    | .int _ => ∃ k m n cp olds, ev s y = .v (.int k (m : Nat)) ∧ 0 < m ∧ cp < n + m ∧ (n + m) * te.bytes ≤ 140737488355328 ∧ n + m ≤ 4611686018427387904 ∧ aolds L te.size (ev s x) olds n cp ∧ ∃ rows0, olds = rows0.flatten ∧ (∀ a ∈ rows0.flatten, a.pure = true) ∧
      ∀ cp', n + m ≤ cp' → cp' ≤ maxLen → K (.arr next 0 (n + m) cp') ((next, .seq rows0 ((cp' - n) * te.size)) :: L) (next + 1)
    | _ => False
   else False
  | _ => False
 | _, _ => False
def aappendS (TT : Types) (s : List AV) (L : Heap) (next : Nat) (c : Call) (K : AV → Heap → Nat → Prop) : Prop :=
 match c.args.toList, c.argTypes.toList with
 | [x, y], [t, tx] => match kindT TT t, kindT TT tx with
  | .slice e, .slice _ => opt1 (TT e) fun te => opt1 te.zero fun z => if zok te z then
    asrc L te.size (fun m => m) (ev s y) fun m cs => ∃ rows2, cs = rows2.flatten ∧ rows2.length = m ∧ (∀ row ∈ rows2, row.length = te.size) ∧ (∀ a ∈ rows2.flatten, a.pure = true) ∧
     ((∃ id nn cp rows k L0, ev s x = .arr id 0 nn cp ∧ L.Perm ((id, .seq rows k) :: L0) ∧ (∀ row ∈ rows, row.length = te.size) ∧ rows.length = nn ∧ k = (cp - nn) * te.size ∧ rows.flatten.all AV.one = true ∧ bigB (nn + m) te.bytes ∧ nn + m ≤ 4611686018427387904 ∧ 0 < nn + m ∧
       ∀ cp', nn + m ≤ cp' → cp' ≤ maxLen → K (.arr next 0 (nn + m) cp') ((next, .seq (rows ++ rows2) ((cp' - (nn + m)) * te.size)) :: L0) (next + 1)) ∨
      ((ev s x = .list [] .full ∨ ∃ id off, ev s x = .arr id off 0 0) ∧ m * te.bytes ≤ 140737488355328 ∧ m ≤ 4611686018427387904 ∧
       ∀ cp', m ≤ cp' → cp' ≤ maxLen → K (.arr next 0 m cp') ((next, .seq rows2 ((cp' - m) * te.size)) :: L) (next + 1)))
   else False
  | _, _ => False
 | _, _ => False
def astoreS (TT : Types) (s : List AV) (L : Heap) (t : TypeId) (x y : Operand) (K : Heap → Prop) : Prop :=
 opt1 (TT t) fun ti => ∃ id off rows k L0 l rows', ev s x = .ptr id off ∧ L.Perm ((id, .seq rows k) :: L0) ∧ acells (ev s y) = some l ∧ l.all AV.one = true ∧ l.length = ti.size ∧ 0 < l.length ∧ off + l.length ≤ (seqC rows k).length ∧ putCells (seqC rows k) off l = seqC rows' k ∧ (∀ a ∈ rows'.flatten, a.pure = true) ∧ K ((id, .seq rows' k) :: L0)
def amem (TT : Types) (s : List AV) (L : Heap) (next : Nat) (c : Call) (K : AV → Heap → Nat → Prop) : Prop :=
 match c.callee with
 | .builtin .copy => match c.args.toList, c.argTypes.toList with
  | [x, y], [t, _] => match kindT TT t, ev s x with
   | .slice e, .arr id off n _ => opt1 (TT e) fun te => asrc L te.size (fun m => Nat.min m n) (ev s y) fun m cs => (∃ cells, findL L id = some (.box cells) ∧ off + Nat.min m n * te.size ≤ cells.length ∧ K (.v (.int .i64 (Nat.min m n : Nat))) (setL L id (.box (putCells cells off cs))) next) ∨
     ∃ rows k L0 rows' k', L.Perm ((id, .seq rows k) :: L0) ∧ rows.length + k ≠ 0 ∧ off + Nat.min m n * te.size ≤ (seqC rows k).length ∧ putCells (seqC rows k) off cs = seqC rows' k' ∧ (∀ a ∈ rows'.flatten, a.pure = true) ∧ K (.v (.int .i64 (Nat.min m n : Nat))) ((id, .seq rows' k') :: L0) next
   | _, _ => False
  | _, _ => False
 | .builtin .clear => match c.args.toList, c.argTypes.toList with
  | [x], [t] => match kindT TT t, ev s x with
   | .slice e, .arr id off n _ => opt1 (TT e) fun te => opt1 te.zero fun z => if zok te z then (∃ cells, findL L id = some (.box cells) ∧ off + n * te.size ≤ cells.length ∧ K (.tuple []) (setL L id (.box (putCells cells off (List.replicate (n * te.size) .dead)))) next) ∨
     (∃ rows k L0 rows' k', L.Perm ((id, .seq rows k) :: L0) ∧ rows.length + k ≠ 0 ∧ off + n * te.size ≤ (seqC rows k).length ∧ putCells (seqC rows k) off (List.replicate (n * te.size) .dead) = seqC rows' k' ∧ (∀ a ∈ rows'.flatten, a.pure = true) ∧ K (.tuple []) ((id, .seq rows' k') :: L0) next) else False
   | _, _ => False
  | _, _ => False
 | _ => False
theorem asrc_ok {P : Program} {L : Heap} {s : Nat} {lim : Nat → Nat} {y : AV} {K : Nat → List AV → Prop} (h : asrc L s lim y K) : ∃ m cs, K m cs ∧ ∀ G w vy, Holds G w L → Sim G y vy → ∃ news, SrcK P G w s (lim m) m vy cs news := by
 unfold asrc at h
 split at h
 ·rename_i rows own
  obtain ⟨h1, h2, h3⟩ := h
  exact ⟨_, _, h3, fun G w vy hh hy => srck_list hh hy h1 h2⟩
 ·rename_i id off m cp
  split at h
  ·rename_i cells hf
   obtain ⟨h1, h2, h3, h4⟩ := h
   exact ⟨_, _, h4, fun G w vy hh hy => srck_arr hh hy hf h1 h2 h3⟩
  ·rename_i rows k hf
   obtain ⟨h1, h2, h3, h4⟩ := h
   refine ⟨_, _, h4, fun G w vy hh hy => ?_⟩
   obtain ⟨L0, p1, _⟩ := findL_perm hf
   have hH := hh.perm p1
   by_cases hne : rows.length + k = 0
   ·have e1 : rows = [] := List.eq_nil_of_length_eq_zero (by omega)
    have e2 : k = 0 := by omega
    subst e1; subst e2
    obtain ⟨base, rfl, _⟩ := hy.arr_inv
    have e3 : lim m * s = 0 := by
     have : (seqC [] 0).length = 0 := rfl
     omega
    rw [e3]
    exact ⟨[], srck_slice (by simp [e3]) (by simp) (fun i a h => by simp at h) (fun u h => by cases h) (fun h => absurd rfl h)⟩
   exact srck_arr (hH.unseq hne).1 hy (by simp [findL]) h1 h2 h3
  ·exact h.elim
 ·exact h.elim
theorem aolds_ok {P : Program} {L : Heap} {s : Nat} {x : AV} {olds : List AV} {n cp : Nat} (h : aolds L s x olds n cp) : ∀ G w vx, Holds G w L → Sim G x vx → (∃ base, vx = .slice base n cp) ∧ ∃ olds', SrcK P G w s n n vx olds olds' := by
 intro G w vx hh hx
 unfold aolds at h
 split at h
 ·obtain ⟨rfl, rfl, rfl⟩ := h
  obtain ⟨base, c, rfl, _, _, hc⟩ := (hx.list_inv.2 rfl).slice
  have := hc rfl
  simp only [List.length_nil] at this ⊢
  subst this
  exact ⟨⟨base, rfl⟩, [], srck_slice (by simp) rfl (fun i a h => by simp at h) (fun u h => by cases h) (fun h => absurd rfl h)⟩
 ·rename_i id off n' cp'
  obtain ⟨rfl, rfl, h⟩ := h
  rcases h with ⟨rfl, rfl⟩ | ⟨rows, k, hf, h1, h2, rfl⟩ | ⟨cells, hf, h1, h2, rfl⟩
  ·obtain ⟨base, rfl, _⟩ := hx.arr_inv
   exact ⟨⟨base, rfl⟩, [], srck_slice (by simp) rfl (fun i a h => by simp at h) (fun u h => by cases h) (fun h => absurd rfl h)⟩
  ·obtain ⟨L0, p1, _⟩ := findL_perm hf
   have hH := hh.perm p1
   by_cases hne : rows.length + k = 0
   ·have e1 : rows = [] := List.eq_nil_of_length_eq_zero (by omega)
    have e2 : k = 0 := by omega
    subst e1; subst e2
    obtain ⟨base, rfl, _⟩ := hx.arr_inv
    have e3 : n' * s = 0 := by
     have : (seqC [] 0).length = 0 := rfl
     omega
    rw [e3]
    exact ⟨⟨base, rfl⟩, [], srck_slice (by simp [e3]) (by simp) (fun i a h => by simp at h) (fun u h => by cases h) (fun h => absurd rfl h)⟩
   obtain ⟨news, hS⟩ := srck_arr (P := P) (hH.unseq hne).1 hx (show findL ((id, Res.box (seqC rows k)) :: L0) id = some (.box (seqC rows k)) by simp [findL]) (Nat.le_refl _) h1 h2
   obtain ⟨base, rfl, _⟩ := hx.arr_inv
   exact ⟨⟨base, rfl⟩, news, hS⟩
  ·obtain ⟨news, hS⟩ := srck_arr (P := P) hh hx hf (Nat.le_refl _) h1 h2
   obtain ⟨base, rfl, _⟩ := hx.arr_inv
   exact ⟨⟨base, rfl⟩, news, hS⟩
 ·exact h.elim
def isIface : AV → Bool | .iface _ _ => true | _ => false
def nanR (r : Nat) : Prop := (9218868437227405312 < r ∧ r < 9223372036854775808) ∨ (18442240474082181120 < r ∧ r < 18446744073709551616)
def afl (s : List AV) (o : Oper) (K : AV → Prop) : Prop :=
 match o.op with
 | .binOp .add _ x y _ => match ev s x, ev s y with
  | .v (.float .f64 a), .v (.float .f64 b) => ∀ r, (match FloatKind.f64.format.add a b with | some r0 => r = r0 | none => nanR r) → K (.v (.float .f64 r))
  | _, _ => False
 | _ => False
def abuildO (TT : Types) (s : List AV) (L : Heap) (next : Nat) (o : Oper) (K : AV → Heap → Nat → Prop) : Prop := match o.op with
 | .buildSlice t len parts => match kindT TT t with
  | .slice e => opt1 (TT e) fun te => opt2 te.zero (partCells (ev s) parts.toList) fun z p => if zok te z && decide (0 < len ∧ len * te.size ≤ 16777216) then opt1 (aFill (fun i => some (i * te.size, te.size)) (List.replicate len (zcells z)).flatten p) fun cells => K (.arr next 0 len len) ((next, .box cells) :: L) (next + 1) else False
  | _ => False
 | .makeSlice t x y => match kindT TT t, ev s x, ev s y with
  | .slice e, .v (.int .i64 a), .v (.int .i64 b) => opt1 (TT e) fun te => opt1 te.zero fun z => if zok te z && decide (b = a ∧ 0 < a ∧ a.toNat ≤ 16777216 ∧ te.bytes * a.toNat ≤ 140737488355328) then K (.arr next 0 a.toNat a.toNat) ((next, .box (List.replicate a.toNat (zcells z)).flatten) :: L) (next + 1) else False
  | _, _, _ => False
 | _ => False
def aop (P : Program) (TT : Types) (o : Oper) (s : List AV) (L : Heap) (next : Nat) (K KP : AV → Heap → Nat → Prop) : Prop :=
 match opKind o with
 | .quiet => aq P TT L (ev s) (raw s) o (fun av => K av L next) ∨ (afl s o fun av => K av L next) ∨ abuildO TT s L next o K ∨ ∃ av, QOk P L (ev s) (raw s) o av ∧ K av L next
 | .store => match o.op with | .store t x y => (astore TT s L t x y fun L' => K .dead L' next) ∨ (astoreS TT s L t x y fun L' => K .dead L' next) | _ => False
 | .box => match o.op with | .box _ x => opt1 (acells (ev s x)) fun l => K (.ptr next 0) ((next, .box l) :: L) (next + 1) | _ => False
 | .alloc => match o.op with | .alloc t => opt1 (TT t) fun ti => opt1 ti.zero fun z => K (.ptr next 0) ((next, .box (zcells z)) :: L) (next + 1) | _ => False
 | .append => match o.op with | .call c => aappend TT s L next c K ∨ aappendA TT s L next c K ∨ aappendS TT s L next c K | _ => False
 | .panic => match o.op with
  | .panic x => match isIface (ev s x) with | true => KP (ev s x) L next | false => False
  | _ => False
 | .call => match o.op with
  | .call c => match c.callee with
   | .value x => match ev s x with
    | .fn f cap => acall P f (c.args.toList.map (ev s) ++ cap) L next K KP
    | .bnd f fst => acall P f (fst ++ c.args.toList.map (ev s)) L next K KP
    | _ => False
   | _ => False
  | _ => False
 | .nilq => match o.op with
  | .binOp op t x _ _ => match kindT TT t, ev s x with
   | .slice _, .list rows _ => (rows = [] → eqRes op true fun v => K v L next) ∧ eqRes op false fun v => K v L next
   | _, _ => False
  | _ => False
 | .mem => match o.op with | .call c => amem TT s L next c K | _ => False
section
variable {P : Program} {TT : Types} {o : Oper} {B : Base} {U : Nat → Prop}
def Nexts (B : Base) (U : Nat → Prop) (σ : ASt) (a : Act) (o : Oper) (K KP : AV → Heap → Nat → Prop) (next : Act → World → Prop) (Q : Exit → Act → World → Prop) : Prop :=
 (∀ av L' n' v G' w', K av L' n' → Slot G' av v → σ.next ≤ n' → Rel B U G' ⟨σ.slots, L', n'⟩ a w' → next (a.put o.dst v) w') ∧
 ∀ x L' n' v G' w', KP x L' n' → Sim G' x v → σ.next ≤ n' → Rel B U G' ⟨σ.slots, L', n'⟩ a w' → Q (.panic [{ v := v, recovered := false }]) a w'
theorem Rel.stepped {G G' : Ghost} {σ : ASt} {a : Act} {w w' : World} {L' : Heap} {n' : Nat} (h : Rel B U G σ a w) (hh : Holds G' w' L') (st : Step G w σ.L G' w' L') (hnn : σ.next ≤ n') (hn : ∀ id, G'.live id → id < n' ∧ (G.live id ∨ σ.next ≤ id)) : Rel B U G' ⟨σ.slots, L', n'⟩ a w' :=
 ⟨h.size, fun t ht => (h.slots t ht).mono st.lits fun _ _ => st.sim, h.defers, hh, h.step.trans st, fun id hid => (hn id hid).1, by rw [st.base]; exact Nat.le_trans h.base st.size, Nat.le_trans h.low hnn, fun id hid => (hn id hid).2.elim (h.old id) fun h1 => .inr (Nat.le_trans h.low h1)⟩
theorem quiet_sound {σ : ASt} {a : Act} {w : World} {G : Ghost} {K KP : AV → Heap → Nat → Prop} {next : Act → World → Prop} {Q : Exit → Act → World → Prop} (hr : Rel B U G σ a w) (hU : ∀ t, .tmp t ∈ o.op.operands → ¬ U t)
  {av : AV} (hq : QOk P σ.L (ev σ.slots) (raw σ.slots) o av) (hK : K av σ.L σ.next) (hN : Nexts B U σ a o K KP next Q) : o.wp P a w next Q := by
 obtain ⟨v, G', w', h1, h2, h3⟩ := hq G w a.eval (hr.here hU)
 unfold Oper.wp
 rw [h1, Oper.upon_value]
 exact hN.1 av σ.L σ.next v G' w' hK h2 (Nat.le_refl _) (hr.stepped (h3.holds hr.holds) (h3.step _) (Nat.le_refl _) fun id hid => by rw [h3.live] at hid; exact ⟨hr.next id hid, .inl hid⟩)
theorem eff_sound {σ : ASt} {a : Act} {w : World} {G : Ghost} {K KP : AV → Heap → Nat → Prop} {next : Act → World → Prop} {Q : Exit → Act → World → Prop} (hr : Rel B U G σ a w) (hU : ∀ t, .tmp t ∈ o.op.operands → ¬ U t)
  {av : AV} {L' : Heap} {new : Nat → Prop} {n' : Nat} (hnn : σ.next ≤ n') (hnew : ∀ i, new i → i = σ.next ∧ i < n') (hq : EOk P σ.L (ev σ.slots) (raw σ.slots) o av L' new) (hlit : ∀ rows, av ≠ .list rows .lit) (hK : K av L' n') (hN : Nexts B U σ a o K KP next Q) : o.wp P a w next Q := by
 obtain ⟨v, G', w', h1, h2, h3, h4, h5⟩ := hq G w a.eval (hr.here hU) (fun id hid hl => by have := hr.next id hl; rw [(hnew id hid).1] at this; omega)
 have hrel : Rel B U G' ⟨σ.slots, L', n'⟩ a w' := hr.stepped h3 h4 hnn fun id hid => by
  rcases h5 id hid with h | h
  ·exact ⟨Nat.lt_of_lt_of_le (hr.next id h) hnn, .inl h⟩
  ·exact ⟨(hnew id h).2, .inr (Nat.le_of_eq (hnew id h).1.symm)⟩
 unfold Oper.wp
 rcases h1 with h1 | ⟨h1, rfl⟩
 ·rw [h1, Oper.upon_value]
  exact hN.1 av L' n' v G' w' hK (.of h2) hnn hrel
 ·rw [h1, Oper.upon_skip]
  exact hN.1 av L' n' undef G' w' hK (.of h2) hnn hrel
theorem new_sound {σ : ASt} {a : Act} {w : World} {G : Ghost} {K KP : AV → Heap → Nat → Prop} {next : Act → World → Prop} {Q : Exit → Act → World → Prop} (hr : Rel B U G σ a w) (hU : ∀ t, .tmp t ∈ o.op.operands → ¬ U t)
  {n : Nat} {L' : Nat → Heap} (hq : ∀ G w ρ, Here P σ.L (ev σ.slots) (raw σ.slots) o G w ρ → ¬ G.live σ.next → ∃ v G' w' cp', n ≤ cp' ∧ cp' ≤ maxLen ∧ (execOp ρ o).run P w = .ok (.value v) w' ∧ Sim G' (.arr σ.next 0 n cp') v ∧ Holds G' w' (L' cp') ∧ Step G w σ.L G' w' (L' cp') ∧ ∀ i, G'.live i → G.live i ∨ i = σ.next)
  (hK : ∀ cp', n ≤ cp' → cp' ≤ maxLen → K (.arr σ.next 0 n cp') (L' cp') (σ.next + 1)) (hN : Nexts B U σ a o K KP next Q) : o.wp P a w next Q := by
 obtain ⟨v, G', w', cp', c1, c2, h1, h2, h3, h4, h5⟩ := hq G w a.eval (hr.here hU) (fun hl => by have := hr.next _ hl; omega)
 have hrel : Rel B U G' ⟨σ.slots, L' cp', σ.next + 1⟩ a w' := hr.stepped h3 h4 (Nat.le_succ _) fun id hid => by
  rcases h5 id hid with h | h
  ·exact ⟨Nat.lt_of_lt_of_le (hr.next id h) (Nat.le_succ _), .inl h⟩
  ·subst h; exact ⟨Nat.lt_succ_self _, .inr (Nat.le_refl _)⟩
 unfold Oper.wp
 rw [h1, Oper.upon_value]
 exact hN.1 _ _ _ v G' w' (hK cp' c1 c2) (.of h2) (Nat.le_succ _) hrel
theorem appendA_sound (hT : TOk P TT) {σ : ASt} {a : Act} {w : World} {G : Ghost} {K KP : AV → Heap → Nat → Prop} {next : Act → World → Prop} {Q : Exit → Act → World → Prop} (hr : Rel B U G σ a w) (hU : ∀ t, .tmp t ∈ o.op.operands → ¬ U t)
  {c : Call} (ho : o.op = .call c) (hc : c.callee = .builtin .append) (h : aappendA TT σ.slots σ.L σ.next c K) (hN : Nexts B U σ a o K KP next Q) : o.wp P a w next Q := by
 unfold aappendA at h
 split at h
 ·rename_i x y t tx ha hty
  have ha := args2 ha
  have hty : c.argTypes = #[t, tx] := by have := congrArg List.toArray hty; simpa using this
  split at h
  ·rename_i e hk
   obtain ⟨ti, ht, hk⟩ := kindT_some hk (by simp)
   obtain ⟨hti⟩ := hT.get ht
   obtain ⟨te, he, h1⟩ := opt1_some h
   obtain ⟨hte⟩ := hT.get he
   obtain ⟨z, hz, h2⟩ := opt1_some h1
   split at h2
   ·rename_i hok
    split at h2
    ·rename_i e' hkx
     obtain ⟨tj, htj, hkj⟩ := kindT_some hkx (by simp)
     obtain ⟨htj⟩ := hT.get htj
     obtain ⟨m, cs, ⟨n, cp, c1, c2, hin, hnew⟩, hsrc⟩ := asrc_ok (P := P) h2
     by_cases hroom : n + m ≤ cp
     ·obtain ⟨id, off, cells, hx, hf, hle, hK⟩ := hin hroom
      exact eff_sound hr hU (Nat.le_refl _) (fun i hi => hi.elim) (e_append_in ho hc ha hty ⟨hti⟩ hk ⟨e', htj.slice hkj⟩ ⟨hte⟩ hx hf hroom hle hsrc) (fun _ h => by cases h) hK hN
     ·obtain ⟨olds, hol, hK⟩ := hnew (by omega)
      exact new_sound hr hU (fun G w ρ hh hn => e_append_new ho hc ha hty ⟨hti⟩ hk ⟨e', htj.slice hkj⟩ ⟨hte⟩ hz hok (by omega) (.inl c1) c2 (aolds_ok hol) hsrc G w ρ hh hn) hK hN
    ·rename_i kk hkx
     obtain ⟨tj, htj, hkj⟩ := kindT_some hkx (by simp)
     obtain ⟨htj⟩ := hT.get htj
     obtain ⟨k, m, n, cp, olds, hy, hm0, hroom, c1, c2, hol, rows0, rfl, hp0, hK⟩ := h2
     exact new_sound hr hU (fun G w ρ hh hn => by
      obtain ⟨v, G', w', cp', q1, q2, r1, r2, r3, r4, r5⟩ := e_append_zeros ho hc ha hty ⟨hti⟩ hk ⟨htj⟩ hkj ⟨hte⟩ hz hok hroom hm0 c1 c2 hy (aolds_ok hol) G w ρ hh hn
      exact ⟨v, G', w', cp', q1, q2, r1, r2, Holds.toSeq (rows := rows0) (k := (cp' - n) * te.size) r3 hp0, Step.toSeq (rows := rows0) (k := (cp' - n) * te.size) r4, r5⟩) hK hN
    ·exact h2.elim
   ·exact h2.elim
  ·exact h.elim
 ·exact h.elim
theorem appendS_sound (hT : TOk P TT) {σ : ASt} {a : Act} {w : World} {G : Ghost} {K KP : AV → Heap → Nat → Prop} {next : Act → World → Prop} {Q : Exit → Act → World → Prop} (hr : Rel B U G σ a w) (hU : ∀ t, .tmp t ∈ o.op.operands → ¬ U t)
  {c : Call} (ho : o.op = .call c) (hc : c.callee = .builtin .append) (h : aappendS TT σ.slots σ.L σ.next c K) (hN : Nexts B U σ a o K KP next Q) : o.wp P a w next Q := by
 unfold aappendS at h
 split at h
 ·rename_i x y t tx ha hty
  have ha := args2 ha
  have hty : c.argTypes = #[t, tx] := by have := congrArg List.toArray hty; simpa using this
  split at h
  ·rename_i e e' hk hkx
   obtain ⟨ti, ht, hk⟩ := kindT_some hk (by simp)
   obtain ⟨hti⟩ := hT.get ht
   obtain ⟨tj, htj, hkj⟩ := kindT_some hkx (by simp)
   obtain ⟨htj⟩ := hT.get htj
   obtain ⟨te, he, h1⟩ := opt1_some h
   obtain ⟨hte⟩ := hT.get he
   obtain ⟨z, hz, h2⟩ := opt1_some h1
   split at h2
   ·rename_i hok
    obtain ⟨m, cs, ⟨rows2, rfl, hl2, hr2, hp2, h3⟩, hsrc⟩ := asrc_ok (P := P) h2
    rcases h3 with ⟨id, nn, cp, rows, k, L0, hx, hp, hr', hn, hkk, hone, c1, c2, c3, hK⟩ | ⟨hx, c1, c2, hK⟩
    ·exact new_sound hr hU (fun G w ρ hh hn' => e_append_seq ho hc ha hty ⟨hti⟩ hk ⟨e', htj.slice hkj⟩ ⟨hte⟩ hz hok hx hp hr' hn hkk hone hl2 hr2 hp2 c1 c2 c3 hsrc G w ρ hh hn') hK hN
    ·exact new_sound hr hU (fun G w ρ hh hn' => e_append_seq0 ho hc ha hty ⟨hti⟩ hk ⟨e', htj.slice hkj⟩ ⟨hte⟩ hz hok hl2 hx hp2 c1 c2 hsrc G w ρ hh hn') hK hN
   ·exact h2.elim
  ·exact h.elim
 ·exact h.elim
theorem storeS_sound (hT : TOk P TT) {σ : ASt} {a : Act} {w : World} {G : Ghost} {K KP : AV → Heap → Nat → Prop} {next : Act → World → Prop} {Q : Exit → Act → World → Prop} (hr : Rel B U G σ a w) (hU : ∀ t, .tmp t ∈ o.op.operands → ¬ U t)
  {t : TypeId} {x y : Operand} (ho : o.op = .store t x y) (h : astoreS TT σ.slots σ.L t x y fun L' => K .dead L' σ.next) (hN : Nexts B U σ a o K KP next Q) : o.wp P a w next Q := by
 unfold astoreS at h
 obtain ⟨ti, ht, id, off, rows, k, L0, l, rows', hx, hp, hl, hone, hs, hl0, hle, hput, hpure, hK⟩ := opt1_some h
 obtain ⟨hti⟩ := hT.get ht
 exact eff_sound hr hU (Nat.le_refl _) (fun i hi => hi.elim) (e_store_seq ho hti hx hp hl hone hs hl0 hle hput hpure) (fun _ h => by cases h) hK hN
theorem mem_sound (hT : TOk P TT) {σ : ASt} {a : Act} {w : World} {G : Ghost} {K KP : AV → Heap → Nat → Prop} {next : Act → World → Prop} {Q : Exit → Act → World → Prop} (hr : Rel B U G σ a w) (hU : ∀ t, .tmp t ∈ o.op.operands → ¬ U t)
  {c : Call} (ho : o.op = .call c) (h : amem TT σ.slots σ.L σ.next c K) (hN : Nexts B U σ a o K KP next Q) : o.wp P a w next Q := by
 unfold amem at h
 split at h
 ·rename_i hc
  split at h
  ·rename_i x y t tx ha hty
   have ha := args2 ha
   have hty : c.argTypes = #[t, tx] := by have := congrArg List.toArray hty; simpa using this
   split at h
   ·rename_i e id off n cp hk hx
    obtain ⟨ti, ht, hk⟩ := kindT_some hk (by simp)
    obtain ⟨hti⟩ := hT.get ht
    obtain ⟨te, he, h1⟩ := opt1_some h
    obtain ⟨hte⟩ := hT.get he
    obtain ⟨m, cs, h2, hsrc⟩ := asrc_ok (P := P) h1
    rcases h2 with ⟨cells, hf, hle, hK⟩ | ⟨rows, k, L0, rows', k', hp, hne, hle, hput, hpure, hK⟩
    ·exact eff_sound hr hU (Nat.le_refl _) (fun i hi => hi.elim) (e_copy ho hc ha hty ⟨hti⟩ hk ⟨hte⟩ hx hf hle hsrc) (fun _ h => by cases h) hK hN
    ·refine eff_sound hr hU (Nat.le_refl _) (fun i hi => hi.elim) (EOk.onSeq hp hne hput hpure fun hpr => ?_) (fun _ h => by cases h) hK hN
     have he := e_copy (L := (id, Res.box (seqC rows k)) :: L0) (P := P) (raw := raw σ.slots) ho hc ha hty ⟨hti⟩ hk ⟨hte⟩ hx (show findL ((id, Res.box (seqC rows k)) :: L0) id = some (.box (seqC rows k)) by simp [findL]) hle (fun G w vy hh hy => hsrc G w vy ((hh.toSeq hpr).perm hp.symm) hy)
     rw [setL_here] at he
     exact he
   ·exact h.elim
  ·exact h.elim
 ·rename_i hc
  split at h
  ·rename_i x t ha hty
   have ha := args1 ha
   have hty := tys1 hty
   split at h
   ·rename_i e id off n cp hk hx
    obtain ⟨ti, ht, hk⟩ := kindT_some hk (by simp)
    obtain ⟨hti⟩ := hT.get ht
    obtain ⟨te, he, h1⟩ := opt1_some h
    obtain ⟨hte⟩ := hT.get he
    obtain ⟨z, hz, h2⟩ := opt1_some h1
    split at h2
    ·rename_i hok
     rcases h2 with ⟨cells, hf, hle, hK⟩ | ⟨rows, k, L0, rows', k', hp, hne, hle, hput, hpure, hK⟩
     ·exact eff_sound hr hU (Nat.le_refl _) (fun i hi => hi.elim) (e_clear ho hc ha hty ⟨hti⟩ hk ⟨hte⟩ hz hok hx hf hle) (fun _ h => by cases h) hK hN
     ·have he := e_clear (L := (id, Res.box (seqC rows k)) :: L0) (P := P) (raw := raw σ.slots) ho hc ha hty ⟨hti⟩ hk ⟨hte⟩ hz hok hx (show findL ((id, Res.box (seqC rows k)) :: L0) id = some (.box (seqC rows k)) by simp [findL]) hle
      rw [setL_here] at he
      exact eff_sound hr hU (Nat.le_refl _) (fun i hi => hi.elim) (EOk.onSeq hp hne hput hpure fun _ => he) (fun _ h => by cases h) hK hN
    ·exact h2.elim
   ·exact h.elim
  ·exact h.elim
 ·exact h.elim
theorem call_run {c : Call} {x : Operand} {f : FuncId} {vs : Array Value} {ρ : Operand → Value} {w w' : World} {r : Next} (ho : o.op = .call c) (hc : c.callee = .value x) (hx : ρ x = .func (.func f) #[] vs) (h : (callFunc f (c.args.map ρ ++ vs)).run P w = .ok r w') :
  (execOp ρ o).run P w = .ok r w' := by
 simp only [execOp, ho, resolve, hc, hx, Deferred.ofValue]
 rw [Sem.run_bind, Sem.run_pure]
 simp only [Result.andThen, invoke, Array.empty_append]
 exact h
theorem call_runB {c : Call} {x : Operand} {f : FuncId} {vs : Array Value} {ρ : Operand → Value} {w w' : World} {r : Next} (ho : o.op = .call c) (hc : c.callee = .value x) (hx : ρ x = .func (.func f) vs #[]) (h : (callFunc f (vs ++ c.args.map ρ)).run P w = .ok r w') :
  (execOp ρ o).run P w = .ok r w' := by
 simp only [execOp, ho, resolve, hc, hx, Deferred.ofValue]
 rw [Sem.run_bind, Sem.run_pure]
 simp only [Result.andThen, invoke, Array.append_empty]
 exact h
theorem acall_gen {σ : ASt} {a : Act} {w : World} {G : Ghost} {K KP : AV → Heap → Nat → Prop} {next : Act → World → Prop} {Q : Exit → Act → World → Prop} (hr : Rel B U G σ a w)
  {f : FuncId} {aargs : List AV} {vals : Array Value} (hlen : aargs.length = vals.size) (hs : ∀ i b, aargs[i]? = some b → Sim G b (vals.getD i undef)) (hex : ∀ (w' : World) (r : Next), (callFunc f vals).run P w = .ok r w' → (execOp a.eval o).run P w = .ok r w')
  (h : acall P f aargs σ.L σ.next K KP) (hN : Nexts B U σ a o K KP next Q) : o.wp P a w next Q := by
 obtain ⟨k, top, args0, H0, R, ids, rest, hC, ⟨hk, hnd, hlt, hkt, hargs, hperm⟩, hout⟩ := h
 have hinj := fun a b => rn_inj (next := σ.next) hnd hlt (a := a) (b := b)
 have hlivek : ∀ i, G.live (rn ids σ.next i) → i < k := fun i hi => by
  have := hr.next _ hi
  unfold rn at this
  cases hg : ids[i]? with
  | some j => rw [← hk]; exact (List.getElem?_eq_some_iff.1 hg).1
  | none => rw [hg] at this; simp only at this; omega
 have hpart : Holds G w (renH (rn ids σ.next) H0 ++ rest) := hr.holds.perm hperm
 have hlook := Holds.look hinj hlivek hpart.left
 have hsim : ∀ (i : Nat) (b : AV), args0[i]? = some b → Sim (G.look (rn ids σ.next) k w.heap.size) b (vals.getD i undef) := fun i b hb => by
  refine Sim.look ?_ hlivek
  obtain ⟨b1, h1, hle⟩ := hargs.get i (b.ren (rn ids σ.next)) (by rw [renL_eq]; simp [hb])
  exact hle _ _ (hs i b1 h1)
 have hU' := hC (G.look (rn ids σ.next) k w.heap.size) w vals (fun id hid => hid.2) (fun _ h => h) rfl hlook (by
  have h1 := hargs.len
  rw [renL_eq, List.length_map] at h1
  rw [← h1]; exact hlen) hsim
 have fin : ∀ (G0' : Ghost) (w' : World) (H' : Heap), Holds G0' w' H' → Step (G.look (rn ids σ.next) k w.heap.size) w H0 G0' w' H' → (∀ id, G0'.live id → (G.look (rn ids σ.next) k w.heap.size).live id ∨ (k ≤ id ∧ id < top)) →
   Rel B U (G.after G0' (rn ids σ.next)) ⟨σ.slots, renH (rn ids σ.next) H' ++ rest, σ.next + (top - k)⟩ a w' ∧ ∀ b v, Sim G0' b v → Sim (G.after G0' (rn ids σ.next)) (b.ren (rn ids σ.next)) v := by
  intro G0' w' H' h1 h2 h3
  obtain ⟨k1, k2⟩ := Holds.back hinj hlivek hpart.left rfl h1 h2
  obtain ⟨m1, m2⟩ := hpart.beside k1 k2
  refine ⟨hr.stepped m1 (m2.perm hperm.symm (.refl _)) (Nat.le_add_right _ _) fun id hid => ?_, fun b v hb => hb.back rfl fun i hi => Ghost.after_at hinj hi⟩
  rcases hid with hid | ⟨j, rfl, hj⟩
  ·have := hr.next id hid; exact ⟨by omega, .inl hid⟩
  ·rcases h3 j hj with h4 | ⟨h4, h5⟩
   ·have := hr.next _ h4.1; exact ⟨by omega, .inl h4.1⟩
   ·have : rn ids σ.next j = σ.next + (j - ids.length) := by
     unfold rn
     rw [List.getElem?_eq_none (by omega)]
    rw [this]
    exact ⟨by omega, .inr (Nat.le_add_right _ _)⟩
 unfold Oper.wp
 rcases hU' with ⟨hrun, hcalls⟩ | ⟨v, w', hrun, G', out, H', hR, hos, hho, hst, hlv⟩
 ·rw [hex _ _ hrun, Oper.upon_enter]
  refine hcalls.mono fun e w' ⟨G', out, H', hR, hos, hho, hst, hlv⟩ => ?_
  obtain ⟨f1, f2⟩ := fin G' w' H' hho hst hlv
  have ho' := hout out H' hR
  cases out with
  | ret b =>
   cases e with
   | returned v => exact hN.1 _ _ _ _ _ _ ho' (.of (f2 _ _ hos)) (by omega) f1
   | panicked chain => exact hos.elim
   | outgrown => exact hos.elim
  | panic b =>
   cases e with
   | returned v => exact hos.elim
   | panicked chain =>
    obtain ⟨v, rfl, hv⟩ := hos
    exact hN.2 _ _ _ _ _ _ ho' (f2 _ _ hv) (by omega) f1
   | outgrown => exact hos.elim
 ·rw [hex _ _ hrun, Oper.upon_value]
  obtain ⟨f1, f2⟩ := fin G' w' H' hho hst hlv
  have ho' := hout out H' hR
  cases out with
  | ret b => exact hN.1 _ _ _ _ _ _ ho' (.of (f2 _ _ hos)) (by omega) f1
  | panic b => exact hos.elim
theorem acall_sound {σ : ASt} {a : Act} {w : World} {G : Ghost} {K KP : AV → Heap → Nat → Prop} {next : Act → World → Prop} {Q : Exit → Act → World → Prop} (hr : Rel B U G σ a w) (hU : ∀ t, .tmp t ∈ o.op.operands → ¬ U t)
  {c : Call} {x : Operand} {f : FuncId} {cap : List AV} (ho : o.op = .call c) (hc : c.callee = .value x) (hx : ev σ.slots x = .fn f cap) (h : acall P f (c.args.toList.map (ev σ.slots) ++ cap) σ.L σ.next K KP) (hN : Nexts B U σ a o K KP next Q) : o.wp P a w next Q := by
 have hh := hr.here (P := P) hU
 have hfx := hh.ev x (by rw [ho]; simp [Op.operands, Call.operands, hc])
 rw [hx] at hfx
 obtain ⟨vs, hv, hvl, hvs⟩ := hfx.fn_inv
 refine acall_gen (vals := c.args.map a.eval ++ vs) hr (by simp [hvl]) (fun i b h1 => ?_) (fun w' r hrun => call_run ho hc hv hrun) h hN
 rw [List.getElem?_append] at h1
 split at h1
 ·rename_i hi
  simp only [List.length_map, Array.length_toList] at hi
  rw [List.getElem?_map, Array.getElem?_toList, Option.map_eq_some_iff] at h1
  obtain ⟨y, hy, he⟩ := h1
  have h2 := hh.ev y (by rw [ho]; simp only [Op.operands, Call.operands, hc, Array.mem_append]; exact .inr (Array.mem_of_getElem? hy))
  have h3 : (c.args.map a.eval ++ vs).getD i undef = a.eval y := by
   have : (c.args.map a.eval ++ vs)[i]? = some (a.eval y) := by
    rw [Array.getElem?_append_left (by simpa using hi)]
    simp [hy]
   simp [Array.getD_eq_getD_getElem?, this]
  rw [h3, ← he]; exact h2
 ·rename_i hi
  simp only [List.length_map, Array.length_toList, Nat.not_lt] at hi h1
  have h2 := hvs _ _ h1
  have h3 : (c.args.map a.eval ++ vs).getD i undef = vs.getD (i - c.args.size) undef := by
   rw [Array.getD_eq_getD_getElem?, Array.getElem?_append_right (by simpa using hi), Array.getD_eq_getD_getElem?]
   simp
  rw [h3]; exact h2
theorem acall_soundB {σ : ASt} {a : Act} {w : World} {G : Ghost} {K KP : AV → Heap → Nat → Prop} {next : Act → World → Prop} {Q : Exit → Act → World → Prop} (hr : Rel B U G σ a w) (hU : ∀ t, .tmp t ∈ o.op.operands → ¬ U t)
  {c : Call} {x : Operand} {f : FuncId} {fst : List AV} (ho : o.op = .call c) (hc : c.callee = .value x) (hx : ev σ.slots x = .bnd f fst) (h : acall P f (fst ++ c.args.toList.map (ev σ.slots)) σ.L σ.next K KP) (hN : Nexts B U σ a o K KP next Q) : o.wp P a w next Q := by
 have hh := hr.here (P := P) hU
 have hfx := hh.ev x (by rw [ho]; simp [Op.operands, Call.operands, hc])
 rw [hx] at hfx
 obtain ⟨vs, hv, hvl, hvs⟩ := hfx.bnd_inv
 refine acall_gen (vals := vs ++ c.args.map a.eval) hr (by simp [hvl]) (fun i b h1 => ?_) (fun w' r hrun => call_runB ho hc hv hrun) h hN
 rw [List.getElem?_append] at h1
 split at h1
 ·rename_i hi
  have h2 := hvs _ _ h1
  have h3 : (vs ++ c.args.map a.eval).getD i undef = vs.getD i undef := by
   rw [Array.getD_eq_getD_getElem?, Array.getElem?_append_left (by omega), Array.getD_eq_getD_getElem?]
  rw [h3]; exact h2
 ·rename_i hi
  rw [List.getElem?_map, Array.getElem?_toList, Option.map_eq_some_iff] at h1
  obtain ⟨y, hy, he⟩ := h1
  have h2 := hh.ev y (by rw [ho]; simp only [Op.operands, Call.operands, hc, Array.mem_append]; exact .inr (Array.mem_of_getElem? hy))
  have h3 : (vs ++ c.args.map a.eval).getD i undef = a.eval y := by
   have : (vs ++ c.args.map a.eval)[i]? = some (a.eval y) := by
    rw [Array.getElem?_append_right (by omega), ← hvl]
    simp [hy]
   simp [Array.getD_eq_getD_getElem?, this]
  rw [h3, ← he]; exact h2
theorem afl_sound {σ : ASt} {a : Act} {w : World} {G : Ghost} {K KP : AV → Heap → Nat → Prop} {next : Act → World → Prop} {Q : Exit → Act → World → Prop} (hr : Rel B U G σ a w) (hU : ∀ t, .tmp t ∈ o.op.operands → ¬ U t)
  (h : afl σ.slots o fun av => K av σ.L σ.next) (hN : Nexts B U σ a o K KP next Q) : o.wp P a w next Q := by
 unfold afl at h
 split at h
 ·rename_i t x y t' ho
  split at h
  ·rename_i x1 y1 hx hy
   have hxo := hr.here (P := P) hU
   have e1 := hxo.ev x (by rw [ho]; simp [Op.operands])
   have e2 := hxo.ev y (by rw [ho]; simp [Op.operands])
   rw [hx] at e1; rw [hy] at e2
   have hrel : Rel B U G ⟨σ.slots, σ.L, σ.next⟩ a w.drew :=
    ⟨hr.size, hr.slots, hr.defers, ⟨hr.holds.X, hr.holds.res, hr.holds.ids, hr.holds.live, hr.holds.blocks, hr.holds.lits⟩,
     ⟨hr.step.os, hr.step.tape, hr.step.output, hr.step.size, hr.step.base, hr.step.X, hr.step.frame, hr.step.newX, hr.step.newB, hr.step.live, hr.step.newI, hr.step.lits, hr.step.newL⟩, hr.next, hr.base, hr.low, hr.old⟩
   unfold Oper.wp
   cases hadd : FloatKind.f64.format.add x1 y1 with
   | some r0 =>
    have hrun : (execOp a.eval o).run P w = .ok (.value (.float .f64 r0)) w := by
     have hv : (do eqGuard .add t x y (.float .f64 x1) (.float .f64 y1); binOp .add t (.float .f64 x1) (.float .f64 y1) : Sem Value).run P w = .ok (.float .f64 r0) w := by simp [eqGuard, binOp, Op.floatArith, hadd]
     simp only [execOp, ho, e1.v_inv, e2.v_inv]
     rw [Sem.run_bind, hv]; rfl
    rw [hrun, Oper.upon_value]
    exact hN.1 _ _ _ _ _ _ (h r0 (by rw [hadd])) (.of (.data _ _ (.v _))) (Nat.le_refl _) hr
   | none =>
    have hrun : (execOp a.eval o).run P w = .ok (.value (.float .f64 ((Question.nanBits .f64 x1 y1).cut (w.tape w.drawn (Question.nanBits .f64 x1 y1))))) w.drew := by
     have hv : (do eqGuard .add t x y (.float .f64 x1) (.float .f64 y1); binOp .add t (.float .f64 x1) (.float .f64 y1) : Sem Value).run P w = .ok (.float .f64 ((Question.nanBits .f64 x1 y1).cut (w.tape w.drawn (Question.nanBits .f64 x1 y1)))) w.drew := by simp [eqGuard, binOp, Op.floatArith, hadd, Question.forced]
     simp only [execOp, ho, e1.v_inv, e2.v_inv]
     rw [Sem.run_bind, hv]; rfl
    rw [hrun, Oper.upon_value]
    refine hN.1 _ _ _ _ _ _ (h _ ?_) (.of (.data _ _ (.v _))) (Nat.le_refl _) hrel
    rw [hadd]
    generalize w.tape w.drawn (Question.nanBits .f64 x1 y1) = tt
    show nanR (tt % 2 * 9223372036854775808 + 9218868437227405312 + 1 + tt / 2 % 4503599627370495)
    unfold nanR
    omega
  ·exact h.elim
 ·exact h.elim
theorem equal_slice_nil {t e : TypeId} (h : P.underlying t = some (.slice e)) (b : Option Addr) (n c : Nat) (w : World) : (Op.equal t (.slice b n c) (.slice none 0 0)).run P w = .ok b.isNone w := by
 have : ∀ d, (Op.equalIn (d + 1) t (.slice b n c) (.slice none 0 0)).run P w = .ok b.isNone w := fun d => by cases b <;> simp [Op.equalIn, run_underlying h]
 exact this 9999
theorem aop_sound (hT : TOk P TT) {σ : ASt} {a : Act} {w : World} {G : Ghost} {K KP : AV → Heap → Nat → Prop} {next : Act → World → Prop} {Q : Exit → Act → World → Prop} (hr : Rel B U G σ a w) (hU : ∀ t, .tmp t ∈ o.op.operands → ¬ U t)
  (h : aop P TT o σ.slots σ.L σ.next K KP) (hN : Nexts B U σ a o K KP next Q) : o.wp P a w next Q := by
 unfold aop at h
 split at h
 ·rcases h with h | h | h | ⟨av, h1, h2⟩
  ·obtain ⟨av, h1, h2⟩ := aq_ok hT h
   exact quiet_sound hr hU h2 h1 hN
  ·exact afl_sound hr hU h hN
  rotate_left
  ·exact quiet_sound hr hU h1 h2 hN
  ·unfold abuildO at h
   split at h
   ·rename_i t len parts ho
    split at h
    ·rename_i e hk
     obtain ⟨te, hte, h1⟩ := opt1_some h
     obtain ⟨z, p, hz, hp, h2⟩ := opt2_some h1
     split at h2
     ·rename_i hc
      simp only [Bool.and_eq_true, decide_eq_true_eq] at hc
      obtain ⟨c1, c2, c3⟩ := hc
      obtain ⟨z1, z2, z3⟩ := zok_spec c1
      obtain ⟨cells, hf, h3⟩ := opt1_some h2
      obtain ⟨ti, hti, hki⟩ := kindT_some hk (by simp)
      obtain ⟨g1⟩ := hT.get hti
      obtain ⟨g2⟩ := hT.get hte
      exact eff_sound hr hU (Nat.le_succ _) (fun i hi => ⟨hi, by rw [hi]; exact Nat.lt_succ_self _⟩) (e_buildObj ho g1 hki g2 hz z1 z2 z3 c2 c3 hp hf) (fun _ h => by cases h) h3 hN
     ·exact h2.elim
    ·exact h.elim
   ·rename_i t x y ho
    split at h
    ·rename_i e xa ya hk hx hy
     obtain ⟨te, hte, h1⟩ := opt1_some h
     obtain ⟨z, hz, h2⟩ := opt1_some h1
     split at h2
     ·rename_i hc
      simp only [Bool.and_eq_true, decide_eq_true_eq] at hc
      obtain ⟨c1, rfl, c2, c3, c4⟩ := hc
      obtain ⟨z1, z2, z3⟩ := zok_spec c1
      obtain ⟨ti, hti, hki⟩ := kindT_some hk (by simp)
      obtain ⟨g1⟩ := hT.get hti
      obtain ⟨g2⟩ := hT.get hte
      obtain ⟨n, rfl⟩ : ∃ n : Nat, ya = n := ⟨ya.toNat, by omega⟩
      rw [Int.toNat_natCast] at *
      exact eff_sound hr hU (Nat.le_succ _) (fun i hi => ⟨hi, by rw [hi]; exact Nat.lt_succ_self _⟩) (e_makeObj ho g1 hki g2 hz z1 z2 z3 hx hy (by omega) c3 c4) (fun _ h => by cases h) h2 hN
     ·exact h2.elim
    ·exact h.elim
   ·exact h.elim
 ·split at h
  ·rename_i t x y ho
   rcases h with h | h
   rotate_left
   ·exact storeS_sound hT hr hU ho h hN
   unfold astore at h
   obtain ⟨ti, ht, h1⟩ := opt1_some h
   obtain ⟨hti⟩ := hT.get ht
   split at h1
   ·rename_i id off hx
    split at h1
    ·rename_i cells hf
     obtain ⟨l, hl, h2⟩ := opt1_some h1
     split at h2
     ·rename_i hc
      simp only [Bool.and_eq_true] at hc
      obtain ⟨c1, c2, c3⟩ := hc
      exact eff_sound hr hU (Nat.le_refl _) (fun i hi => hi.elim) (e_store ho hti hx hf hl c1 (Nat.eq_of_beq_eq_true c2) (Nat.le_of_ble_eq_true c3)) (fun _ h => by cases h) h2 hN
     ·exact h2.elim
    ·exact h1.elim
   ·exact h1.elim
  ·exact h.elim
 ·split at h
  ·rename_i t x ho
   obtain ⟨l, hl, h1⟩ := opt1_some h
   exact eff_sound hr hU (Nat.le_succ _) (fun i hi => ⟨hi, by rw [hi]; exact Nat.lt_succ_self _⟩) (e_box ho hl) (fun _ h => by cases h) h1 hN
  ·exact h.elim
 ·split at h
  ·rename_i t ho
   obtain ⟨ti, ht, h1⟩ := opt1_some h
   obtain ⟨hti⟩ := hT.get ht
   obtain ⟨z, hz, h2⟩ := opt1_some h1
   exact eff_sound hr hU (Nat.le_succ _) (fun i hi => ⟨hi, by rw [hi]; exact Nat.lt_succ_self _⟩) (e_alloc ho hti hz) (fun _ h => by cases h) h2 hN
  ·exact h.elim
 ·split at h
  ·rename_i hkind _ c ho
   have hc : c.callee = .builtin .append := by
    unfold opKind at hkind
    rw [ho] at hkind
    simp only at hkind
    split at hkind <;> first | assumption | cases hkind
   rcases h with h | h
   rotate_left
   ·rcases h with h | h
    ·exact appendA_sound hT hr hU ho hc h hN
    ·exact appendS_sound hT hr hU ho hc h hN
   unfold aappend at h
   split at h
   ·rename_i x y t tx ha hty
    have ha := args2 ha
    have hty : c.argTypes = #[t, tx] := by have := congrArg List.toArray hty; simpa using this
    split at h
    ·rename_i e e' hk hkx
     obtain ⟨ti, ht, hk⟩ := kindT_some hk (by simp)
     obtain ⟨hti⟩ := hT.get ht
     obtain ⟨tj, htj, hkj⟩ := kindT_some hkx (by simp)
     obtain ⟨htj⟩ := hT.get htj
     obtain ⟨te, he, h1⟩ := opt1_some h
     obtain ⟨hte⟩ := hT.get he
     obtain ⟨z, hz, h2⟩ := opt1_some h1
     split at h2
     ·rename_i hok
      split at h2
      ·rename_i rows own rows2 own2 hx hy
       obtain ⟨c1, c2, c3, h3⟩ := h2
       have hR : Rows P t tx e ti te z rows2 := ⟨⟨hti⟩, hk, ⟨tj, ⟨htj⟩, e', hkj⟩, ⟨hte⟩, hz, hok, c1⟩
       split at h3
       ·rename_i k
        split at h3
        ·rename_i sz n hf
         obtain ⟨rfl, rfl, h3⟩ := h3
         exact eff_sound hr hU (Nat.le_refl _) (fun i hi => hi.elim) (e_append_tok ho hc ha hty hR hx hf hy c2 c3) (fun _ h => by cases h) h3 hN
        ·exact h3.elim
       ·obtain ⟨h4, h3⟩ := h3
        exact eff_sound hr hU (Nat.le_succ _) (fun i hi => ⟨hi, by rw [hi]; exact Nat.lt_succ_self _⟩) (e_append_full ho hc ha hty hR h4 hx hy c2 c3) (fun _ h => by cases h) h3 hN
       ·exact h3.elim
      ·exact h2.elim
     ·exact h2.elim
    ·exact h.elim
   ·exact h.elim
  ·exact h.elim
 ·split at h
  ·rename_i x ho
   split at h
   ·rename_i hi
    have hxo := hr.here (P := P) hU
    have h1 := hxo.ev x (by rw [ho]; simp [Op.operands])
    cases hx : ev σ.slots x <;> rw [hx] at hi <;> simp [isIface] at hi
    rename_i t b
    have h2 := h1
    rw [hx] at h2
    obtain ⟨y, h3, h4⟩ := h2.iface_inv
    unfold Oper.wp
    have hrun : (execOp a.eval o).run P w = .halt (.panic (a.eval x)) w := by
     simp only [execOp, ho, h3]; rfl
    rw [hrun, Oper.upon_panic]
    exact hN.2 _ _ _ _ _ _ h h1 (Nat.le_refl _) hr
   ·exact h.elim
  ·exact h.elim
 ·split at h
  ·rename_i c ho
   split at h
   ·rename_i x hc
    split at h
    ·rename_i f cap hx
     exact acall_sound hr hU ho hc hx h hN
    ·rename_i f fst hx
     exact acall_soundB hr hU ho hc hx h hN
    ·exact h.elim
   ·exact h.elim
  ·exact h.elim
 ·rename_i hkind
  split at h
  ·rename_i op t x y t' ho
   have hy : y = .const (.slice none 0 0) := by
    unfold opKind at hkind
    rw [ho] at hkind
    simp only at hkind
    split at hkind
    ·split at hkind
     ·rename_i v hv
      unfold isNilS at hv
      split at hv
      ·rfl
      ·cases hv
     ·cases hkind
    ·cases hkind
   subst hy
   split at h
   ·rename_i e rows own hk hx
    obtain ⟨ti, ht, hk⟩ := kindT_some hk (by simp)
    obtain ⟨hti⟩ := hT.get ht
    have hxo := (hr.here (P := P) hU).ev x (by rw [ho]; simp [Op.operands])
    rw [hx] at hxo
    have hsd := hxo.list_inv.1
    have hund := hti.slice hk
    have go : ∀ (base : Option Addr) (n c : Nat), a.eval x = .slice base n c → eqRes op base.isNone (fun v => K v σ.L σ.next) → o.wp P a w next Q := fun base n c hv he => by
     obtain ⟨r, h3, h4⟩ := eqRes_ok he
     have hrun : (execOp a.eval o).run P w = .ok (.value (.bool r)) w := by
      have hc : a.eval (.const (.slice none 0 0)) = .slice none 0 0 := rfl
      simp only [execOp, ho, hv, hc]
      rcases h4 with ⟨rfl, rfl⟩ | ⟨rfl, rfl⟩
      ·(cases base <;> simp [eqGuard, binOp, equal_slice_nil hund])
      ·(cases base <;> simp [eqGuard, binOp, equal_slice_nil hund])
     unfold Oper.wp
     rw [hrun, Oper.upon_value]
     exact hN.1 _ _ _ _ _ _ h3 (.of (.data _ _ (.v _))) (Nat.le_refl _) hr
    have fin : ∀ v : Value, SimD G.X (.list rows .free) v → a.eval x = v → o.wp P a w next Q := fun v hv he => by
     cases hv with
     | nil _ b c _ _ _ =>
      cases b with
      | none => exact go none 0 c he (h.1 rfl)
      | some b => exact go (some b) 0 c he h.2
     | list _ _ b off c s y _ _ _ _ _ _ _ _ => exact go _ _ _ he h.2
    exact fin _ hsd rfl
   ·exact h.elim
  ·exact h.elim
 ·split at h
  ·rename_i c ho
   exact mem_sound hT hr hU ho h hN
  ·exact h.elim
end
end Go.Am
namespace Go.Am
open Go.RowKit
def setK {α : Type} : List AV → Nat → AV → (List AV → α) → α
 | [], _, _, k => k []
 | _ :: l, 0, x, k => k (x :: l)
 | a :: l, n + 1, x, k => setK l n x fun l' => k (a :: l')
theorem setK_eq {α : Type} (l : List AV) (n : Nat) (x : AV) (k : List AV → α) : setK l n x k = k (setA l n x) := by
 induction l generalizing n k with
 | nil => rfl
 | cons a l ih => cases n <;> simp [setK, setA, ih]
def forceA {α : Type} : List AV → (List AV → α) → α
 | [], k => k []
 | a :: l, k => forceA l fun l' => k (a :: l')
theorem forceA_eq {α : Type} (l : List AV) (k : List AV → α) : forceA l k = k l := by
 induction l generalizing k with
 | nil => rfl
 | cons a l ih => simp [forceA, ih]
def forceR {α : Type} : Res → (Res → α) → α
 | .box l, k => forceA l fun l' => k (.box l')
 | .seq rows m, k => k (.seq rows m)
 | .tok s n, k => k (.tok s n)
theorem forceR_eq {α : Type} (r : Res) (k : Res → α) : forceR r k = k r := by cases r <;> simp [forceR, forceA_eq]
def forceH {α : Type} : Heap → (Heap → α) → α
 | [], k => k []
 | (i, r) :: H, k => forceR r fun r' => forceH H fun H' => k ((i, r') :: H')
theorem forceH_eq {α : Type} (H : Heap) (k : Heap → α) : forceH H k = k H := by
 induction H generalizing k with
 | nil => rfl
 | cons p H ih => obtain ⟨i, r⟩ := p; simp [forceH, forceR_eq, ih]
def putD {α : Type} (s : List AV) (d : Option Nat) (x : AV) (k : List AV → α) : α :=
 match d with
 | none => k s
 | some d => setK s d x k
def putS (s : List AV) (d : Option Nat) (x : AV) : List AV := match d with | none => s | some d => setA s d x
theorem putD_eq {α : Type} (s : List AV) (d : Option Nat) (x : AV) (k : List AV → α) : putD s d x k = k (putS s d x) := by cases d <;> simp [putD, putS, setK_eq]
abbrev Kn := List AV → Heap → Nat → Prop
def guarded (all : List Oper) (s : List AV) (o : Oper) (yes no : Prop) : Prop :=
 match o.guard with
 | none => yes
 | some (j, want) => match (all[j]?).bind (·.dst) with
  | some d => match getA s d with
   | .v (.bool b) => match want with | true => abr b yes no | false => abr b no yes
   | .v (.tuple _) => no
   | _ => False
  | none => False
def aops (P : Program) (TT : Types) (all : List Oper) : List Oper → List AV → Heap → Nat → Kn → (AV → Kn) → Prop
 | [], s, L, n, K, _ => K s L n
 | o :: rest, s, L, n, K, KP =>
  guarded all s o (aop P TT o s L n (fun av L' n' => putD s o.dst av fun s' => forceH L' fun L'' => aops P TT all rest s' L'' n' K KP) (fun x L' n' => KP x s L' n'))
   (putD s o.dst (.v (.tuple #[])) fun s' => aops P TT all rest s' L n K KP)
section
variable {P : Program} {TT : Types} {B : Base} {Q : Exit → Act → World → Prop}
theorem getA_setA (s : List AV) (d t : Nat) (x : AV) : getA (setA s d x) t = if d = t ∧ t < s.length then x else getA s t := by
 rw [getA_eq, setA_eq, getA_eq]
 by_cases h : d = t
 ·subst h
  by_cases hl : d < s.length
  ·simp [hl]
  ·simp [hl, List.getElem?_eq_none (Nat.not_lt.1 hl), List.set_eq_of_length_le (Nat.not_lt.1 hl)]
 ·simp [h, List.getElem?_set]
theorem Rel.put {U : Nat → Prop} {G : Ghost} {σ : ASt} {a : Act} {w : World} (h : Rel B U G σ a w) (d : Option Nat) {x : AV} {v : Value} (hx : Slot G x v) : Rel B (fun t => U t ∧ d ≠ some t) G ⟨putS σ.slots d x, σ.L, σ.next⟩ (a.put d v) w := by
 cases d with
 | none => exact ⟨h.size, fun t ht => h.slots t fun hu => ht ⟨hu, by simp⟩, h.defers, h.holds, h.step, h.next, h.base, h.low, h.old⟩
 | some d =>
  refine ⟨by simp [Act.put, putS, setA_eq, h.size], fun t ht => ?_, h.defers, h.holds, h.step, h.next, h.base, h.low, h.old⟩
  simp only [Act.put, putS]
  rw [getA_setA]
  by_cases hd : d = t
  ·subst hd
   by_cases hl : d < σ.slots.length
   ·rw [if_pos ⟨rfl, hl⟩]
    have hl' : d < a.tmps.size := by rw [h.size]; exact hl
    simp only [Array.getD_eq_getD_getElem?, Array.getElem?_setIfInBounds, if_pos hl', if_true, Option.getD_some]
    exact hx
   ·rw [if_neg (by simp [hl])]
    have : getA σ.slots d = .dead := by rw [getA_eq, List.getD, List.getElem?_eq_none (Nat.not_lt.1 hl)]; rfl
    rw [this]
    exact .of (.data _ _ (.dead _))
  ·rw [if_neg (by simp [hd])]
   have : (a.tmps.setIfInBounds d v).getD t undef = a.tmps.getD t undef := by
    simp only [Array.getD_eq_getD_getElem?, Array.getElem?_setIfInBounds, if_neg hd]
   rw [this]
   exact h.slots t fun hu => ht ⟨hu, by simpa using hd⟩
theorem Rel.weakU {U U' : Nat → Prop} {G : Ghost} {σ : ASt} {a : Act} {w : World} (h : Rel B U G σ a w) (hu : ∀ t, U t → U' t) : Rel B U' G σ a w :=
 ⟨h.size, fun t ht => h.slots t fun hu' => ht (hu t hu'), h.defers, h.holds, h.step, h.next, h.base, h.low, h.old⟩
def No : Nat → Prop := fun _ => False
theorem Rel.bool {U : Nat → Prop} {G : Ghost} {σ : ASt} {a : Act} {w : World} (h : Rel B U G σ a w) {d : Nat} {b : Bool} (hd : ¬ U d) (hb : getA σ.slots d = .v (.bool b)) : a.tmps[d]? = some (.bool b) := by
 have h1 := h.slots d hd
 rw [hb] at h1
 have h2 : a.tmps.getD d undef = .bool b := Sim.v_inv h1.down
 rw [Array.getD_eq_getD_getElem?] at h2
 cases hg : a.tmps[d]? with
 | some v => rw [hg] at h2; simpa using h2
 | none => rw [hg] at h2; cases h2
theorem guarded_sound {U : Nat → Prop} {G : Ghost} {σ : ASt} {a : Act} {w : World} (h : Rel B U G σ a w) {ops : Array Oper} {o : Oper} {yes no : Prop} (hU : ∀ j b d, o.guard = some (j, b) → (ops[j]?).bind (·.dst) = some d → ¬ U d) (hg : guarded ops.toList σ.slots o yes no) :
  (Region.wanted o (yielded ops a.tmps) = true ∧ yes) ∨ (Region.wanted o (yielded ops a.tmps) = false ∧ no) := by
 unfold guarded at hg
 split at hg
 ·rename_i h0
  exact .inl ⟨by simp [Region.wanted, h0], hg⟩
 ·rename_i j want h0
  split at hg
  ·rename_i d hd
   rw [Array.getElem?_toList] at hd
   split at hg
   ·rename_i b hb
    have h1 := h.bool (hU j want d h0 hd) hb
    have hy : yielded ops a.tmps j = some b := by simp [yielded, hd, h1]
    cases want <;> cases b <;> simp only [abr] at hg
    ·exact .inl ⟨by simp [Region.wanted, h0, hy], hg⟩
    ·exact .inr ⟨by simp [Region.wanted, h0, hy], hg⟩
    ·exact .inr ⟨by simp [Region.wanted, h0, hy], hg⟩
    ·exact .inl ⟨by simp [Region.wanted, h0, hy], hg⟩
   ·rename_i vs hb
    have h1 := h.slots d (hU j want d h0 hd)
    rw [hb] at h1
    have h2 : a.tmps.getD d undef = .tuple vs := Sim.v_inv h1.down
    have hy : yielded ops a.tmps j = none := by
     unfold yielded
     rw [hd]
     simp only [Option.bind_some]
     cases hg' : a.tmps[d]? with
     | none => rfl
     | some v =>
      rw [Array.getD_eq_getD_getElem?, hg'] at h2
      simp only [Option.getD_some] at h2
      subst h2; rfl
    exact .inr ⟨by simp [Region.wanted, h0, hy], hg⟩
   ·exact hg.elim
  ·exact hg.elim
theorem aops_sound (hT : TOk P TT) {ops : Array Oper} {K : Kn} {KP : AV → Kn} (hK : ∀ s L n G a w, K s L n → Rel B No G ⟨s, L, n⟩ a w → Q .normal a w)
  (hKP : ∀ x s L n v G a w, KP x s L n → Sim G x v → Rel B No G ⟨s, L, n⟩ a w → Q (.panic [{ v := v, recovered := false }]) a w) :
  ∀ (rest : List Oper) (s : List AV) (L : Heap) (n : Nat) (G : Ghost) (a : Act) (w : World), aops P TT ops.toList rest s L n K KP → Rel B No G ⟨s, L, n⟩ a w → wpList P ops Q rest a w
 | [], s, L, n, G, a, w, h, hr => hK s L n G a w h hr
 | o :: rest, s, L, n, G, a, w, h, hr => by
  unfold aops at h
  unfold wpList
  rcases guarded_sound (B := B) hr (fun _ _ _ _ _ h => h) h with ⟨h1, h2⟩ | ⟨h1, h2⟩
  ·rw [if_pos h1]
   refine .inl (aop_sound hT (σ := ⟨s, L, n⟩) hr (fun _ _ h => h) h2 ⟨fun av L' n' v G' w' k1 k2 k3 k4 => ?_, fun x L' n' v G' w' k1 k2 k3 k4 => hKP x s L' n' v G' a w' k1 k2 k4⟩)
   simp only [putD_eq, forceH_eq] at k1
   exact aops_sound hT hK hKP rest _ _ _ G' _ w' k1 ((k4.put o.dst k2).weakU fun t ht => ht.1)
  ·rw [if_neg (by simp [h1])]
   simp only [putD_eq] at h2
   exact aops_sound hT hK hKP rest _ _ _ G _ w h2 ((hr.put o.dst (.of (.data _ _ (.v undef)))).weakU fun t ht => ht.1)
def Conv (σ τ : ASt) : Prop := ∀ B G a w, Rel B No G σ a w → ∃ G', Rel B No G' τ a w
theorem Conv.refl (σ : ASt) : Conv σ σ := fun _ G _ _ h => ⟨G, h⟩
theorem Conv.trans {σ τ υ : ASt} (h : Conv σ τ) (k : Conv τ υ) : Conv σ υ := fun B G a w hr => let ⟨G', h'⟩ := h B G a w hr; k B G' a w h'
def ConvN (N : Nat) (σ τ : ASt) : Prop := ∀ B G a w, (∀ id, B.G.live id → id < N) → B.k ≤ N → Rel B No G σ a w → ∃ G', Rel B No G' τ a w
theorem Conv.toN {σ τ : ASt} (h : Conv σ τ) (N : Nat) : ConvN N σ τ := fun B G a w _ _ hr => h B G a w hr
theorem ConvN.after {N : Nat} {σ τ υ : ASt} (k : ConvN N τ υ) (h : Conv σ τ) : ConvN N σ υ := fun B G a w h1 h2 hr => let ⟨G', h'⟩ := h B G a w hr; k B G' a w h1 h2 h'
theorem ConvN.then {N : Nat} {σ τ υ : ASt} (h : ConvN N σ τ) (k : Conv τ υ) : ConvN N σ υ := fun B G a w h1 h2 hr => let ⟨G', h'⟩ := h B G a w h1 h2 hr; k B G' a w h'
theorem getA_renL (f : Nat → Nat) : ∀ (t : List AV) (i : Nat), getA (AV.renL f t) i = (getA t i).ren f := fun t i => by
 rw [getA_eq, getA_eq, renL_eq, List.getD, List.getD, List.getElem?_map]
 cases t[i]? with
 | none => rfl
 | some a => rfl
theorem ConvN.ren {t : List AV} {H : Heap} {n N M : Nat} (ids : List Nat) (hnd : ids.Nodup) (hlt : ∀ i ∈ ids, i < n) (hN : ∀ i, i < N → ids[i]? = some i) (hM : ids.length = M) : ConvN N ⟨AV.renL (rn ids n) t, renH (rn ids n) H, n⟩ ⟨t, H, M⟩ := fun B G a w hB hk hr => by
 have hf : ∀ a b, rn ids n a = rn ids n b → a = b := fun a b => rn_inj hnd hlt
 have hlo : ∀ i, i < N → rn ids n i = i := fun i hi => by unfold rn; rw [hN i hi]
 have hle : N ≤ M := by
  rcases Nat.lt_or_ge M N with h | h
  ·have := hN M h
   rw [← hM] at this; simp at this
  ·exact h
 have hkk : ∀ i, G.live (rn ids n i) → i < M := fun i hi => by
  have := hr.next _ hi
  unfold rn at this
  split at this
  ·rename_i h; rw [← hM]; exact (List.getElem?_eq_some_iff.1 h).1
  ·simp only at this; omega
 have hh := Holds.look hf hkk hr.holds
 generalize hG : ({ G.look (rn ids n) M w.heap.size with lits := G.lits, base := G.base } : Ghost) = G'
 have e1 : G'.X = G.X := by rw [← hG]; rfl
 have e2 : G'.loc = fun i => G.loc (rn ids n i) := by rw [← hG]; rfl
 have e3 : G'.tk = fun i => G.tk (rn ids n i) := by rw [← hG]; rfl
 have e4 : G'.live = fun i => G.live (rn ids n i) ∧ i < M := by rw [← hG]; rfl
 have e5 : G'.lits = G.lits := by rw [← hG]
 have e6 : G'.base = G.base := by rw [← hG]
 have hsim : ∀ a x, Sim (G.look (rn ids n) M w.heap.size) a x → Sim G' a x := fun a x h => h.mono (by rw [e1]; exact fun _ _ _ h => h) fun i hi => ⟨by rw [e4]; exact hi, by rw [e2]; rfl, .inl (by rw [e3]; rfl)⟩
 have hres : ∀ r, ResHolds (G.look (rn ids n) M w.heap.size) w r → ResHolds G' w r := fun r h => h.keep (by rw [e2]; rfl) (by rw [e3]; rfl) hsim fun b _ => ⟨rfl, by rw [e1]; exact fun _ _ h => h⟩
 have hbl : blocksOf G' H = blocksOf G (renH (rn ids n) H) := by
  rw [blocks_ren (G' := G') fun r _ => ⟨by rw [e2], by rw [e3]⟩]
 refine ⟨G', ?_, fun i hi => ?_, hr.defers, ⟨by rw [e1]; exact hh.X, fun r h => hres r (hh.res r h), hh.ids, fun r h => ?_, ?_, fun b hb => ?_⟩, ?_, fun i hi => ?_, by rw [e6]; exact hr.base, Nat.le_trans hk hle, fun i hi => ?_⟩
 ·rw [hr.size, renL_eq]; simp
 ·have h1 := hr.slots i hi
  rw [getA_renL] at h1
  show Slot G' (getA t i) _
  generalize getA t i = av at h1 ⊢
  unfold Slot at h1 ⊢
  split
  ·rw [AV.ren] at h1
   simp only [Own.ren] at h1
   obtain ⟨h1, b, off, h2, h3⟩ := h1
   exact ⟨hsim _ _ (Sim.look (a := .list _ .full) h1 hkk), b, off, h2, by rw [e5]; exact h3⟩
  ·rename_i hne
   have : Sim G (av.ren (rn ids n)) (a.tmps.getD i undef) := by
    split at h1
    ·rename_i rows he
     exfalso
     cases av with
     | list rows' o =>
      rw [AV.ren] at he
      cases o <;> simp only [Own.ren] at he <;> first | exact hne _ rfl | (cases he; done)
     | _ => rw [AV.ren] at he; cases he
    ·exact h1
   exact hsim _ _ (this.look hkk)
 ·have := hh.live r h
  rw [e4]; exact this
 ·rw [hbl]; exact hr.holds.blocks
 ·rw [e5] at hb
  obtain ⟨q1, q2, q3⟩ := hr.holds.lits b hb
  exact ⟨by rw [e6]; exact q1, q2, by rw [hbl]; exact q3⟩
 ·have st := hr.step
  refine ⟨st.os, st.tape, st.output, st.size, by rw [e6]; exact st.base, by rw [e1]; exact st.X, st.frame, by rw [e1]; exact st.newX, fun b hb => st.newB b (by rw [← hbl]; exact hb), fun i hi => ?_, fun i hi => ?_, by rw [e5]; exact st.lits, by rw [e5]; exact st.newL⟩
  ·have hiN := hB i hi
   obtain ⟨k1, k2, k3⟩ := st.live i hi
   rw [e4, e2, e3]
   simp only [hlo i hiN]
   exact ⟨⟨k1, Nat.lt_of_lt_of_le hiN hle⟩, k2, k3⟩
  ·rcases Nat.lt_or_ge i N with h | h
   ·have h2 : i ∈ (renH (rn ids n) H).map (·.1) := by
     rw [ids_ren]
     exact List.mem_map.2 ⟨i, hi, hlo i h⟩
    exact st.newI i h2
   ·exact .inr fun hl => Nat.lt_irrefl _ (Nat.lt_of_lt_of_le (hB i hl) h)
 ·rw [e4] at hi; exact hi.2
 ·rw [e4] at hi
  rcases Nat.lt_or_ge i N with h | h
  ·have := hr.old _ hi.1
   rw [hlo i h] at this; exact this
  ·exact .inr (Nat.le_trans hk h)
abbrev Kc := AExit → Kn
structure Dr where
 run : Nat → List Oper → List AV → Heap → Nat → Kc → Prop
 low : Nat → Prop
def LoopTo (low : Nat → Prop) (N : Nat) (σ τ : ASt) : Prop := ConvN N σ τ ∨ ∃ M, low M ∧ ConvN M σ τ
def SeqTo (low : Nat → Prop) (σ τ : ASt) : Prop := Conv σ τ ∨ ∃ M, low M ∧ ConvN M σ τ
def acode (P : Program) (TT : Types) (D : Dr) : Code → List AV → Heap → Nat → Kc → Prop
 | .skip, s, L, n, K => K .normal s L n
 | .region id ops draw, s, L, n, K => match draw with
  | false => aops P TT ops.toList ops.toList s L n (K .normal) (fun x => K (.panic x))
  | true => D.run id ops.toList s L n K
 | .seq x y, s, L, n, K => acode P TT D x s L n fun e s' L' n' => match e with
  | .normal => ∃ τ : ASt, SeqTo D.low ⟨s', L', n'⟩ τ ∧ acode P TT D y τ.slots τ.L τ.next K
  | e => K e s' L' n'
 | .cond c x y, s, L, n, K => match ev s c with
  | .v (.bool b) => abr b (acode P TT D x s L n K) (acode P TT D y s L n K)
  | _ => False
 | .block id x, s, L, n, K => acode P TT D x s L n fun e s' L' n' => match e with
  | .exit i => match Nat.beq i id with
   | true => K .normal s' L' n'
   | false => K (.exit i) s' L' n'
  | e => K e s' L' n'
 | .loop x, s, L, n, K => ∃ (α : Type) (S : α → ASt) (C : α → Prop) (μ : α → Nat), (∃ a, C a ∧ Conv ⟨s, L, n⟩ (S a)) ∧ ∀ a, C a → acode P TT D x (S a).slots (S a).L (S a).next fun e s' L' n' => match e with
  | .normal => ∃ b, C b ∧ μ b < μ a ∧ LoopTo D.low (S a).next ⟨s', L', n'⟩ (S b)
  | e => K e s' L' n'
 | .exit id, s, L, n, K => K (.exit id) s L n
 | .ret, s, L, n, K => K .ret s L n
 | _, _, _, _, _ => False
def Post (B : Base) (K : Kc) : Exit → Act → World → Prop := fun e a w => ∃ e' s L n G, K e' s L n ∧ ESim G e' e ∧ Rel B No G ⟨s, L, n⟩ a w
def DOk (P : Program) (D : Nat → List Oper → List AV → Heap → Nat → Kc → Prop) : Prop :=
 ∀ B id (ops : Array Oper) s L n K G a w, D id ops.toList s L n K → Rel B No G ⟨s, L, n⟩ a w → (Code.region id ops true).wp P (Post B K) a w
theorem least {p : Nat → Prop} (h : ∃ n, p n) : ∃ n, p n ∧ ∀ m, p m → n ≤ m := by
 obtain ⟨n, hn⟩ := h
 induction n using Nat.strongRecOn with
 | _ n ih =>
  by_cases hx : ∃ m, m < n ∧ p m
  ·obtain ⟨m, h1, h2⟩ := hx; exact ih m h1 h2
  ·refine ⟨n, hn, fun m hm => ?_⟩
   rcases Nat.lt_or_ge m n with h1 | h1
   ·exact absurd ⟨m, h1, hm⟩ hx
   ·exact h1
open Classical in
theorem loop_by {P : Program} {Q : Exit → Act → World → Prop} {c : Code} {a : Act} {w : World} (I : Nat → Act → World → Prop) (h0 : ∃ n, I n a w) (hround : ∀ n a w, I n a w → c.wp P (Exit.then (fun a' w' => ∃ m, m < n ∧ I m a' w') Q) a w) : (Code.loop c).wp P Q a w := by
 refine wp_loop (fun a w => ∃ n, I n a w) (fun a w => if h : ∃ n, I n a w then (least h).choose else 0) h0 fun a w hI => ?_
 have h1 := (least hI).choose_spec
 refine wp_mono (hround _ a w h1.1) fun e a' w' he => ?_
 cases e with
 | normal =>
  obtain ⟨m, hm, hm'⟩ := he
  refine ⟨⟨m, hm'⟩, ?_⟩
  rw [dif_pos ⟨m, hm'⟩, dif_pos hI]
  exact Nat.lt_of_le_of_lt ((least ⟨m, hm'⟩).choose_spec.2 m hm') hm
 | exit id => exact he
 | goto l => exact he
 | ret => exact he
 | panic ch => exact he
 | outgrown => exact he
theorem acode_sound (hT : TOk P TT) {D : Dr} (hD : DOk P D.run) (hlow : ∀ N, D.low N → (∀ id, B.G.live id → id < N) ∧ B.k ≤ N) : ∀ (c : Code) (s : List AV) (L : Heap) (n : Nat) (K : Kc) (G : Ghost) (a : Act) (w : World), acode P TT D c s L n K → Rel B No G ⟨s, L, n⟩ a w → c.wp P (Post B K) a w := by
 intro c
 induction c with
 | skip => exact fun s L n K G a w h hr => wp_skip ⟨_, s, L, n, G, h, trivial, hr⟩
 | region id ops draw =>
  intro s L n K G a w h hr
  cases draw with
  | false => exact wp_region_list (aops_sound hT (fun s L n G a w h hr => ⟨.normal, s, L, n, G, h, trivial, hr⟩) (fun x s L n v G a w h hs hr => ⟨.panic x, s, L, n, G, h, ⟨v, rfl, hs⟩, hr⟩) _ s L n G a w h hr)
  | true => exact hD B id ops s L n K G a w h hr
 | seq x y ihx ihy =>
  intro s L n K G a w h hr
  refine wp_seq (wp_mono (ihx _ _ _ _ G a w h hr) fun e a' w' ⟨e', s', L', n', G', k1, k2, k3⟩ => ?_)
  cases e' with
  | normal =>
   obtain ⟨τ, c1, c2⟩ := k1
   obtain ⟨G2, c3⟩ : ∃ G2, Rel B No G2 τ a' w' := by
    rcases c1 with c1 | ⟨M, hM, c1⟩
    ·exact c1 B G' a' w' k3
    ·exact c1 B G' a' w' (hlow M hM).1 (hlow M hM).2 k3
   cases e <;> first | exact k2.elim | exact ihy _ _ _ _ G2 a' w' c2 c3
  | ret => cases e <;> first | exact k2.elim | exact ⟨_, s', L', n', G', k1, k2, k3⟩
  | exit i => cases e <;> first | exact k2.elim | exact ⟨_, s', L', n', G', k1, k2, k3⟩
  | panic x => cases e <;> first | exact k2.elim | exact ⟨_, s', L', n', G', k1, k2, k3⟩
 | cond c x y ihx ihy =>
  intro s L n K G a w h hr
  unfold acode at h
  split at h
  ·rename_i b hb
   have h1 := (hr.op (x := c) (fun _ _ h => h)).1
   rw [hb] at h1
   have h2 := h1.v_inv
   cases b with
   | true => exact wp_cond_true h2 (ihx _ _ _ _ G a w h hr)
   | false => exact wp_cond_false h2 (ihy _ _ _ _ G a w h hr)
  ·exact h.elim
 | block id x ih =>
  intro s L n K G a w h hr
  refine wp_block (wp_mono (ih _ _ _ _ G a w h hr) fun e a' w' ⟨e', s', L', n', G', k1, k2, k3⟩ => ?_)
  cases e' with
  | normal => cases e <;> first | exact k2.elim | exact ⟨_, s', L', n', G', k1, trivial, k3⟩
  | ret => cases e <;> first | exact k2.elim | exact ⟨_, s', L', n', G', k1, k2, k3⟩
  | panic x => cases e <;> first | exact k2.elim | exact ⟨_, s', L', n', G', k1, k2, k3⟩
  | exit i =>
   cases e with
   | exit j =>
    have hij : i = j := k2
    subst hij
    simp only at k1
    show (if i = id then Post B K Exit.normal a' w' else Post B K (Exit.exit i) a' w')
    cases hb : Nat.beq i id with
    | true =>
     rw [hb] at k1
     rw [if_pos (Nat.eq_of_beq_eq_true hb)]
     exact ⟨_, s', L', n', G', k1, trivial, k3⟩
    | false =>
     rw [hb] at k1
     rw [if_neg (fun e => by subst e; simp at hb)]
     exact ⟨.exit i, s', L', n', G', k1, rfl, k3⟩
   | normal => exact k2.elim
   | goto l => exact k2.elim
   | ret => exact k2.elim
   | panic ch => exact k2.elim
   | outgrown => exact k2.elim
 | loop x ih =>
  intro s L n K G a w h hr
  unfold acode at h
  obtain ⟨α, S, C, μ, ⟨a0, hc0, hv0⟩, hround⟩ := h
  obtain ⟨G0, hr0⟩ := hv0 B G a w hr
  refine loop_by (fun m a w => ∃ al G, C al ∧ μ al = m ∧ Rel B No G (S al) a w) ⟨_, a0, G0, hc0, rfl, hr0⟩ fun m a w ⟨al, G, hc, hm, hr⟩ => ?_
  refine wp_mono (ih _ _ _ _ G a w (hround al hc) hr) fun e a' w' ⟨e', s', L', n', G', k1, k2, k3⟩ => ?_
  cases e' with
  | normal =>
   cases e with
   | normal =>
    obtain ⟨b, h1, h2, h3⟩ := k1
    obtain ⟨G'', h4⟩ : ∃ G'', Rel B No G'' (S b) a' w' := by
     rcases h3 with h3 | ⟨M, hM, h3⟩
     ·exact h3 B G' a' w' (fun id hl => hr.next id (hr.step.live id hl).1) hr.low k3
     ·exact h3 B G' a' w' (hlow M hM).1 (hlow M hM).2 k3
    exact ⟨μ b, by rw [← hm]; exact h2, b, G'', h1, rfl, h4⟩
   | exit i => exact k2.elim
   | goto l => exact k2.elim
   | ret => exact k2.elim
   | panic ch => exact k2.elim
   | outgrown => exact k2.elim
  | ret => cases e <;> first | exact k2.elim | exact ⟨_, s', L', n', G', k1, k2, k3⟩
  | exit i => cases e <;> first | exact k2.elim | exact ⟨_, s', L', n', G', k1, k2, k3⟩
  | panic x => cases e <;> first | exact k2.elim | exact ⟨_, s', L', n', G', k1, k2, k3⟩
 | exit id => exact fun s L n K G a w h hr => wp_exit ⟨_, s, L, n, G, h, rfl, hr⟩
 | ret => exact fun s L n K G a w h hr => wp_ret ⟨_, s, L, n, G, h, trivial, hr⟩
 | rangeFunc => exact fun s L n K G a w h hr => h.elim
 | scope => exact fun s L n K G a w h hr => h.elim
 | label => exact fun s L n K G a w h hr => h.elim
 | goto => exact fun s L n K G a w h hr => h.elim
 | refuse => exact fun s L n K G a w h hr => h.elim
theorem acode_sound0 (hT : TOk P TT) {d : Nat → List Oper → List AV → Heap → Nat → Kc → Prop} (hD : DOk P d) (c : Code) (s : List AV) (L : Heap) (n : Nat) (K : Kc) (G : Ghost) (a : Act) (w : World) (h : acode P TT ⟨d, fun _ => False⟩ c s L n K) (hr : Rel B No G ⟨s, L, n⟩ a w) : c.wp P (Post B K) a w :=
 acode_sound hT (D := ⟨d, fun _ => False⟩) hD (fun _ h => h.elim) c s L n K G a w h hr
end
end Go.Am
namespace Go.Am
open Go.RowKit
def aresults (TT : Types) (s : List AV) (L : Heap) : List ResultVar → Option (List AV)
 | [] => some []
 | .tmp t :: r => match aresults TT s L r with
  | some l => some ((getA s t).down :: l)
  | none => none
 | .cell a ty :: r => match TT ty with
  | some ti => match aload L ti ((getA s a).down), aresults TT s L r with
   | some x, some l => some (x :: l)
   | _, _ => none
  | none => none
def aout : List AV → AV
 | [a] => a
 | l => .tuple l
section
variable {P : Program} {TT : Types} {B : Base}
theorem results_mapM (hT : TOk P TT) {G : Ghost} {s : List AV} {L : Heap} {n : Nat} {a : Act} {w : World} (hr : Rel B No G ⟨s, L, n⟩ a w) : ∀ (r : List ResultVar) (l : List AV), aresults TT s L r = some l →
  ∃ vs : List Value, (∀ g : ResultVar → Sem Value, (∀ t, g (.tmp t) = pure (a.tmps.getD t undef)) → (∀ x t, g (.cell x t) = do loadVar t (← asAddr (a.tmps.getD x undef))) → (r.mapM g).run P w = .ok vs w) ∧ vs.length = l.length ∧ ∀ i b, l[i]? = some b → Sim G b (vs.getD i undef)
 | [], l, h => by
  cases h
  exact ⟨[], (fun _ _ _ => rfl), rfl, fun i b h => by simp at h⟩
 | .tmp t :: r, l, h => by
  unfold aresults at h
  split at h
  ·rename_i l' hl'
   cases h
   obtain ⟨vs, h1, h2, h3⟩ := results_mapM hT hr r l' hl'
   refine ⟨a.tmps.getD t undef :: vs, fun g g1 g2 => ?_, by simp [h2], fun i b hb => ?_⟩
   ·rw [List.mapM_cons, Sem.run_bind, g1, Sem.run_pure]
    simp only [Result.andThen]
    rw [Sem.run_bind, h1 g g1 g2]
    rfl
   ·cases i with
    | zero => simp at hb; subst hb; exact (hr.slots t (fun h => h)).down
    | succ i => exact h3 i b (by simpa using hb)
  ·cases h
 | .cell x t :: r, l, h => by
  unfold aresults at h
  split at h
  ·rename_i ti ht
   obtain ⟨hti⟩ := hT.get ht
   split at h
   ·rename_i c l' hc hl'
    cases h
    obtain ⟨vs, h1, h2, h3⟩ := results_mapM hT hr r l' hl'
    obtain ⟨v, ad, e1, e2, e3⟩ := load_run (P := P) (hr.slots x (fun h => h)).down hr.holds hti hc
    rw [e1] at e2
    have e2 : (loadVar t ad).run P w = .ok v w := e2
    refine ⟨v :: vs, fun g g1 g2 => ?_, by simp [h2], fun i b hb => ?_⟩
    ·have e4 : (do loadVar t (← asAddr (a.tmps.getD x undef)) : Sem Value).run P w = .ok v w := by
      rw [Sem.run_bind, e1]
      have : (asAddr (.pointer (some ad))).run P w = .ok ad w := rfl
      rw [this]
      exact e2
     rw [List.mapM_cons, Sem.run_bind, g2, e4]
     simp only [Result.andThen]
     rw [Sem.run_bind, h1 g g1 g2]
     rfl
    ·cases i with
     | zero => simp at hb; subst hb; exact e3
     | succ i => exact h3 i b (by simpa using hb)
   ·cases h
  ·cases h
theorem results_run (hT : TOk P TT) {G : Ghost} {s : List AV} {L : Heap} {n : Nat} {a : Act} {w : World} (hr : Rel B No G ⟨s, L, n⟩ a w) {fn : Func} {l : List AV} (h : aresults TT s L fn.results.toList = some l) :
  ∃ v, (results fn a.tmps).run P w = .ok v w ∧ Sim G (aout l) v := by
 obtain ⟨vs, h1, h2, h3⟩ := results_mapM hT hr _ l h
 refine ⟨if h : vs.toArray.size = 1 then vs.toArray[0] else .tuple vs.toArray, ?_, ?_⟩
 ·unfold results
  rw [Sem.run_bind, Array.mapM_eq_mapM_toList, Sem.run_map, h1 _ (fun _ => rfl) (fun _ _ => rfl)]
  rfl
 unfold aout
 split
 ·rename_i b
  have hl : vs.length = 1 := h2
  have h4 := h3 0 b rfl
  rw [dif_pos (by simp [hl])]
  have : vs.toArray[0]'(by simp [hl]) = vs.getD 0 undef := by simp [hl]
  rw [this]; exact h4
 ·rename_i hne
  have hl : ¬ vs.toArray.size = 1 := fun e => by
   have e' : l.length = 1 := by rw [← h2]; simpa using e
   obtain ⟨b, hb⟩ := List.length_eq_one_iff.1 e'
   exact hne b hb
  rw [dif_neg hl]
  exact .tuple _ _ (by simp [h2]) fun i b hb => by have := h3 i b hb; simpa using this
theorem Step.sub {G G' : Ghost} {w w' : World} {H L H' rest : Heap} (h : Step G w H G' w' L) (hp : L.Perm (H' ++ rest)) : Step G w H G' w' H' where
 os := h.os
 tape := h.tape
 output := h.output
 size := h.size
 base := h.base
 X := h.X
 frame := h.frame
 newX := h.newX
 newB := fun b hb => h.newB b ((hp.filterMap _).mem_iff.2 (by rw [List.filterMap_append]; exact List.mem_append_left _ hb))
 live := h.live
 newI := fun id hid => h.newI id ((hp.map _).mem_iff.2 (by rw [List.map_append]; exact List.mem_append_left _ hid))
 lits := h.lits
 newL := h.newL
def aend (P : Program) (TT : Types) (res : List ResultVar) (top : Nat) (R : AOut → Heap → Prop) : Kc := fun e s L n =>
 match e with
 | .panic x => ∃ H' rest, R (.panic x) H' ∧ L.Perm (H' ++ rest) ∧ n ≤ top
 | .exit _ => False
 | _ => ∃ τ : ASt, Conv ⟨s, L, n⟩ τ ∧ opt1 (aresults TT τ.slots τ.L res) fun l => ∃ H' rest, R (.ret (aout l)) H' ∧ τ.L.Perm (H' ++ rest) ∧ τ.next ≤ top
structure FnIs (P : Program) (f : FuncId) (fn : Func) (c : Code) : Prop where
 get : P.funcs[f]? = some fn
 body : fn.body = some c
 name : (fn.name == "runtime.NumGoroutine") = false
theorem acalls_of (hT : TOk P TT) {d : Nat → List Oper → List AV → Heap → Nat → Kc → Prop} (hD : DOk P d) {f : FuncId} {fn : Func} {c : Code} (hf : FnIs P f fn c) {k top : Nat} {args : List AV} {H : Heap} {R : AOut → Heap → Prop}
  (h : acode P TT ⟨d, fun N => k ≤ N⟩ c (args ++ List.replicate (fn.ntmps - args.length) .dead) H k (aend P TT fn.results.toList top R)) : ACalls P f k top args H R := by
 intro G w vals hk hlits hbase hh hlen hsim
 left
 refine ⟨?_, ?_⟩
 ·unfold callFunc
  have hp : program.run P w = .ok P w := rfl
  rw [Sem.run_bind, hp]
  simp only [Result.andThen, hf.get, hf.name, hf.body]
  rfl
 ·refine calls_of_wp hf.get hf.body ?_
  have hr : Rel ⟨G, w, H, k, []⟩ No G ⟨args ++ List.replicate (fn.ntmps - args.length) .dead, H, k⟩ { tmps := vals ++ Array.replicate (fn.ntmps - vals.size) undef, defers := [] } w := by
   refine ⟨by simp [hlen], fun t _ => ?_, rfl, hh, Step.refl _ _ _, hk, by rw [hbase]; exact Nat.le_refl _, Nat.le_refl _, fun id hid => .inl hid⟩
   rw [getA_eq]
   by_cases ht : t < args.length
   ·have e1 : (args ++ List.replicate (fn.ntmps - args.length) AV.dead).getD t .dead = args[t] := by simp [List.getElem?_append, ht]
    have e2 : (vals ++ Array.replicate (fn.ntmps - vals.size) undef).getD t undef = vals.getD t undef := by
     have : t < vals.size := by omega
     rw [Array.getD_eq_getD_getElem?, Array.getElem?_append_left this, Array.getD_eq_getD_getElem?]
    rw [e1, e2]
    exact .of (hsim t _ (List.getElem?_eq_getElem ht))
   ·have e1 : (args ++ List.replicate (fn.ntmps - args.length) AV.dead).getD t .dead = .dead := by
     rw [List.getD, List.getElem?_append_right (by omega), List.getElem?_replicate]
     split <;> rfl
    rw [e1]
    exact .of (.data _ _ (.dead _))
  refine wp_mono (acode_sound hT (D := ⟨d, fun N => k ≤ N⟩) hD (fun N hN => ⟨fun id hid => Nat.lt_of_lt_of_le (hk id hid) hN, hN⟩) c _ _ _ _ G _ w h hr) fun e a' w' ⟨e', s, L, n, G', k1, k2, k3⟩ => ?_
  have fin : ∀ (G' : Ghost) (s : List AV) (L H' rest : Heap) (n : Nat) (a' : Act) (w' : World), Rel ⟨G, w, H, k, []⟩ No G' ⟨s, L, n⟩ a' w' → L.Perm (H' ++ rest) → n ≤ top → Holds G' w' H' ∧ Step G w H G' w' H' ∧ ∀ id, G'.live id → G.live id ∨ (k ≤ id ∧ id < top) := fun G' s L H' rest n a' w' hr hp hn =>
   ⟨(hr.holds.perm hp).left, hr.step.sub hp, fun id hid => (hr.old id hid).imp_right fun h1 => ⟨h1, Nat.lt_of_lt_of_le (hr.next id hid) hn⟩⟩
  have ret : (∃ τ : ASt, Conv ⟨s, L, n⟩ τ ∧ opt1 (aresults TT τ.slots τ.L fn.results.toList) fun l => ∃ H' rest, R (.ret (aout l)) H' ∧ τ.L.Perm (H' ++ rest) ∧ τ.next ≤ top) →
    a'.defers = [] ∧ ∃ v, (results fn a'.tmps).run P w' = .ok v w' ∧ ∃ G' out H', R out H' ∧ OSim G' out (.returned v) ∧ Holds G' w' H' ∧ Step G w H G' w' H' ∧ ∀ id, G'.live id → G.live id ∨ (k ≤ id ∧ id < top) := fun ⟨τ, hc, h1⟩ => by
   obtain ⟨G2, hr2⟩ := hc _ _ _ _ k3
   obtain ⟨l, hl, H', rest, h2, h3, h4⟩ := opt1_some h1
   obtain ⟨v, h5, h6⟩ := results_run (P := P) hT (s := τ.slots) (L := τ.L) (n := τ.next) hr2 hl
   exact ⟨hr2.defers, v, h5, G2, .ret (aout l), H', h2, h6, fin G2 τ.slots τ.L H' rest τ.next a' w' hr2 h3 h4⟩
  cases e' with
  | normal =>
   cases e <;> first | exact k2.elim | skip
   exact ret k1
  | ret =>
   cases e <;> first | exact k2.elim | skip
   exact ret k1
  | exit i => exact k1.elim
  | panic x =>
   cases e <;> first | exact k2.elim | skip
   obtain ⟨v, rfl, hv⟩ := k2
   obtain ⟨H', rest, h1, h2, h3⟩ := k1
   exact ⟨k3.defers, G', .panic x, H', h1, ⟨v, rfl, hv⟩, fin G' s L H' rest n a' w' k3 h2 h3⟩
end
end Go.Am
