import Derived.Tactics
import Derived.Orders
import Derived.OrdersHeld
import Derived.Below
import Derived.Laws.Sem
import Derived.Laws.World
import Derived.Laws.Cells
import Derived.Laws.Slices
import Derived.Laws.Append
import Derived.Laws.AppendOwn
import Derived.Laws.CopyRow
import Derived.Laws.MakeOwn
import Derived.Deep.LoopGhost
import Derived.Laws.Bits64
import Derived.Deep.Slices
import Derived.SizedLaws
import Derived.WalkKit
import Derived.ProofKit
import Derived.OpenShut
import Derived.ShutString
import Derived.ChangeOld
import Derived.Carry
import Derived.JoinedOf
import Derived.KernelRfl
import Derived.Test.YtpfpnkaeoedeiaaRows
import Derived.MapKept
import Derived.DeepKeys4
import Derived.Laws.StructEq
import Derived.Test.YtpfpnkaeoedeiaaProg
namespace Go.Lf
end Go.Lf
namespace Go.Proofs.Ytpfpnkaeoedeiaa.Back
end Go.Proofs.Ytpfpnkaeoedeiaa.Back
namespace Go.Proofs.Ytpfpnkaeoedeiaa.Pl
end Go.Proofs.Ytpfpnkaeoedeiaa.Pl
namespace Go.Proofs.Ytpfpnkaeoedeiaa.Sh
end Go.Proofs.Ytpfpnkaeoedeiaa.Sh
namespace Go.Proofs.Ytpfpnkaeoedeiaa.Sp
end Go.Proofs.Ytpfpnkaeoedeiaa.Sp
namespace Go.Sx
end Go.Sx
section
set_option linter.unusedVariables false
namespace Go.Sx
abbrev Heap := Array Obj
def cellH (H : Heap) (a : Addr) : Option Value :=
 match H[a.block]? with
 | some (.cells c _ _) => if a.spot.isSome then none else c[a.off]?
 | _ => none
def setH (H : Heap) (a : Addr) (v : Value) : Heap :=
 H.modify a.block fun
   | .cells c elem frozen => .cells (if a.spot.isSome then c else c.setIfInBounds a.off v) elem frozen
   | o => o
theorem cellH_eq (w : World) (a : Addr) : w.cell? a = cellH w.heap a := rfl
structure Same (w w' : World) : Prop where
 os : w'.os = w.os
 tape : w'.tape = w.tape
 output : w'.output = w.output
theorem Same.refl (w : World) : Same w w := ⟨rfl, rfl, rfl⟩
theorem Same.trans {a b c : World} (h : Same a b) (k : Same b c) : Same a c :=
 ⟨k.os.trans h.os, k.tape.trans h.tape, k.output.trans h.output⟩
def CallH (P : Program) (f : FuncId) (args : List Value) (H : Heap) (K : Value → Heap → Prop) : Prop :=
 ∀ w : World, w.heap = H → Calls P f args.toArray w fun e w' => ∃ v, e = .returned v ∧ Same w w' ∧ K v w'.heap
theorem CallH.mono {P : Program} {f : FuncId} {args : List Value} {H : Heap} {K K' : Value → Heap → Prop}
   (h : CallH P f args H K) (hk : ∀ v H', K v H' → K' v H') : CallH P f args H K' :=
 fun w hw => (h w hw).mono fun _ _ ⟨v, he, hs, hv⟩ => ⟨v, he, hs, hk _ _ hv⟩
inductive S1 where
 | int (k : IntKind) | bool | str | slice | ptr | map | func | any
inductive Sh where
 | one (s : S1)
 | agg (l : List S1)
inductive Kind where
 | int (k : IntKind) | bool | str | slice (e : Nat) | ptr | map | func
 | struct (fields : List (Nat × Sh)) | array (n : Nat) (e : Nat) | other
structure TI where
 kind : Kind
 sh : Sh
 zero : List Value
 bytes : Nat
def Sh.size : Sh → Nat
 | .one _ => 1
 | .agg l => l.length
def TI.size (i : TI) : Nat := i.sh.size
def TI.known (i : TI) : Bool :=
 match i.kind with
 | .other => false
 | _ => true
def TyEx : S1 → (Value → Prop) → Prop
 | .int k, κ => ∃ x : Int, κ (.int k x)
 | .bool, κ => ∃ b : Bool, κ (.bool b)
 | .str, κ => ∃ s : ByteArray, κ (.string s)
 | .slice, κ => ∃ (A : Option Addr) (n c : Nat), κ (.slice A n c)
 | .ptr, κ => ∃ a : Addr, κ (.pointer (some a))
 | .map, κ => ∃ r : Nat, κ (.map (some r))
 | .func, κ => ∃ (f : Nat) (a b : Array Value), κ (.func (.func f) a b)
 | .any, κ => ∃ v : Value, κ v
theorem TyEx.out {s : S1} {κ : Value → Prop} (h : TyEx s κ) : ∃ v, κ v := by
 cases s <;> simp only [TyEx] at h
 · obtain ⟨x, h⟩ := h; exact ⟨_, h⟩
 · obtain ⟨x, h⟩ := h; exact ⟨_, h⟩
 · obtain ⟨x, h⟩ := h; exact ⟨_, h⟩
 · obtain ⟨x, y, z, h⟩ := h; exact ⟨_, h⟩
 · obtain ⟨x, h⟩ := h; exact ⟨_, h⟩
 · obtain ⟨x, h⟩ := h; exact ⟨_, h⟩
 · obtain ⟨x, y, z, h⟩ := h; exact ⟨_, h⟩
 · exact h
def TyExL : List S1 → (List Value → Prop) → Prop
 | [], κ => κ []
 | s :: l, κ => TyEx s fun v => TyExL l fun vs => κ (v :: vs)
theorem TyExL.out : ∀ {l : List S1} {κ : List Value → Prop}, TyExL l κ → ∃ vs, vs.length = l.length ∧ κ vs
 | [], _, h => ⟨[], rfl, h⟩
 | _ :: _, _, h => by
   obtain ⟨v, h⟩ := TyEx.out h
   obtain ⟨vs, hl, h⟩ := TyExL.out h
   exact ⟨v :: vs, by simp [hl], h⟩
def TyExS : Sh → (Value → Prop) → Prop
 | .one s, κ => TyEx s κ
 | .agg l, κ => TyExL l fun vs => κ (.agg vs.toArray)
theorem TyExS.out {s : Sh} {κ : Value → Prop} (h : TyExS s κ) : ∃ v, κ v := by
 cases s
 · exact TyEx.out h
 · obtain ⟨vs, _, h⟩ := TyExL.out h; exact ⟨_, h⟩
def TyExT : List Sh → (List Value → Prop) → Prop
 | [], κ => κ []
 | s :: l, κ => TyExS s fun v => TyExT l fun vs => κ (v :: vs)
theorem TyExT.out : ∀ {l : List Sh} {κ : List Value → Prop}, TyExT l κ → ∃ vs, κ vs
 | [], _, h => ⟨[], h⟩
 | _ :: _, _, h => by
   obtain ⟨v, h⟩ := TyExS.out h
   obtain ⟨vs, h⟩ := TyExT.out h
   exact ⟨v :: vs, h⟩
def TyRes : List Sh → (Value → Prop) → Prop
 | [], κ => κ (.tuple #[])
 | [s], κ => TyExS s κ
 | s :: t :: l, κ => TyExS s fun v => TyExS t fun u => TyExT l fun vs => κ (.tuple (v :: u :: vs).toArray)
theorem TyRes.out {l : List Sh} {κ : Value → Prop} (h : TyRes l κ) : ∃ v, κ v := by
 match l, h with
 | [], h => exact ⟨_, h⟩
 | [s], h => exact TyExS.out h
 | a :: b :: l, h =>
   obtain ⟨_, h⟩ := TyExS.out h
   obtain ⟨_, h⟩ := TyExS.out h
   obtain ⟨_, h⟩ := TyExT.out h
   exact ⟨_, h⟩
def NewH (H : Heap) (K : Heap → Prop) : Prop := K H
theorem NewH.mk {H : Heap} {K : Heap → Prop} (h : ∀ H', H' = H → K H') : NewH H K := h H rfl
def scale (i sz : Nat) : Nat := cond (Nat.beq sz 1) i (i * sz)
theorem scale_eq (i sz : Nat) : scale i sz = i * sz := by
 unfold scale
 cases h : Nat.beq sz 1 with
 | false => rfl
 | true => have := Nat.eq_of_beq_eq_true h; subst this; simp
def CellsAre (H : Heap) (a : Addr) : Nat → List Value → Prop → Prop
 | _, [], R => R
 | j, v :: vs, R => cellH H (a.add j) = some v ∧ CellsAre H a (j + 1) vs R
def LoadH (s : Sh) (H : Heap) (a : Addr) (κ : Value → Prop) : Prop :=
 match s with
 | .one s => TyEx s fun v => cellH H a = some v ∧ κ v
 | .agg l => TyExL l fun vs => CellsAre H a 0 vs (κ (.agg vs.toArray))
def StillP (s : Sh) (a : Addr) (v : Value) (H : Heap) (R : Prop) : Prop :=
 match s, v with
 | .one _, v => cellH H a = some v ∧ R
 | .agg l, .agg cs => if cs.toList.length = l.length then CellsAre H a 0 cs.toList R else False
 | _, _ => False
def setsH (H : Heap) (a : Addr) : Nat → List Value → Heap
 | _, [] => H
 | i, v :: vs => setsH (setH H (a.add i) v) a (i + 1) vs
def isCell : Value → Bool
 | .agg _ => false
 | .tuple _ => false
 | _ => true
def MayWrite (H : Heap) (a : Addr) (n : Nat) : Prop :=
 ∃ cs t, H[a.block]? = some (.cells cs t (0, 0)) ∧ a.spot = none ∧ a.off + n ≤ cs.size
def StoreH (n : Nat) (H : Heap) (a : Addr) (vs : List Value) (κ : Heap → Prop) : Prop :=
 cond (Nat.beq vs.length n && vs.all isCell) (MayWrite H a n ∧ NewH (setsH H a 0 vs) κ) False
def ReadsC (H : Heap) (A : Option Addr) (vs : List Value) : Prop :=
 match A with
 | some a => ∀ j (h : j < vs.length), cellH H (a.add j) = some vs[j]
 | none => vs = []
def repl (n : Nat) (z : List Value) : List Value := (List.replicate n z).flatten
def AppendT (e sz bytes : Nat) (zero : List Value) (H : Heap) (A : Option Addr) (n c m : Nat) (new : List Value) (K : Option Addr → Nat → Nat → Heap → Prop) : Prop :=
 new.all isCell = true ∧
 (n + m ≤ c → match A with
   | none => K none (n + m) c H
   | some a => MayWrite H (a.add (n * sz)) new.length ∧ K (some a) (n + m) c (setsH H (a.add (n * sz)) 0 new)) ∧
 (c < n + m → Builtin.nextslicecap (n + m) c * bytes ≤ 2 ^ 48 ∧ n + m < 2 ^ 62 ∧ ∃ old : List Value, old.length = n * sz ∧ ReadsC H A old ∧
   ∀ c', n + m ≤ c' → K (some ⟨H.size, 0, none⟩) (n + m) c' (H.push (.cells (old ++ new ++ repl (c' - (n + m)) zero).toArray e (0, 0))))
def AppendV (e sz bytes : Nat) (zero : List Value) (H : Heap) (A : Option Addr) (n c : Nat) (B : Option Addr) (m : Nat) (K : Option Addr → Nat → Nat → Heap → Prop) : Prop :=
 ∃ new : List Value, new.length = m * sz ∧ ReadsC H B new ∧ AppendT e sz bytes zero H A n c m new K
def CopyV (sz : Nat) (H : Heap) (A : Option Addr) (n : Nat) (B : Option Addr) (m : Nat) (K : Int → Heap → Prop) : Prop :=
 ∃ new : List Value, new.length = min m n * sz ∧ ReadsC H B new ∧ new.all isCell = true ∧
   match A with
   | none => K (min m n : Nat) H
   | some a => MayWrite H a new.length ∧ K (min m n : Nat) (setsH H a 0 new)
def SemV (P : Program) (s : Sem Value) (H : Heap) (K : Value → Heap → Prop) : Prop :=
 ∀ w : World, w.heap = H → ∃ v w', s.run P w = .ok v w' ∧ Same w w' ∧ K v w'.heap
def SemU (P : Program) (s : Sem Unit) (H : Heap) (K : Heap → Prop) : Prop :=
 ∀ w : World, w.heap = H → ∃ w', s.run P w = .ok () w' ∧ Same w w' ∧ K w'.heap
def SemP (P : Program) (s : Sem Value) (κ : Value → Prop) : Prop := ∃ v, (∀ w : World, s.run P w = .ok v w) ∧ κ v
def bitsOf (op : BinOp) (k : IntKind) (x y : Int) : Int :=
 let a := BitVec.ofInt k.bits x
 let b := BitVec.ofInt k.bits y
 match op with
 | .and => k.wrap (a &&& b).toNat
 | .or => k.wrap (a ||| b).toNat
 | .xor => k.wrap (a ^^^ b).toNat
 | _ => k.wrap (a &&& ~~~b).toNat
def EqAgg (P : Program) (op : BinOp) (t : Nat) (x y : Value) (b : Bool) : Prop := ∀ xo yo : Operand, SemP P (do eqGuard op t xo yo x y; binOp op t x y) fun v => v = .bool b
def BinH (P : Program) (op : BinOp) (t : Nat) (i : TI) (H : Heap) (xo yo : Operand) (x y : Value) (K : Value → Heap → Prop) : Prop :=
 match x, y with
 | .int k a, .int k' b =>
   match op with
   | .shl => 0 ≤ b ∧ K (.int k (k.wrap (a * 2 ^ (min b.toNat k.bits)))) H
   | .shr => 0 ≤ b ∧ K (.int k (a.fdiv (2 ^ (min b.toNat k.bits)))) H
   | .add => cond (decide (k = k')) (K (.int k (k.wrap (a + b))) H) False
   | .sub => cond (decide (k = k')) (K (.int k (k.wrap (a - b))) H) False
   | .mul => cond (decide (k = k')) (K (.int k (k.wrap (a * b))) H) False
   | .quo => cond (decide (k = k')) (b ≠ 0 ∧ K (.int k (k.wrap (a.tdiv b))) H) False
   | .rem => cond (decide (k = k')) (b ≠ 0 ∧ K (.int k (a.tmod b)) H) False
   | .eql => cond (decide (k = k')) (K (.bool (a == b)) H) False
   | .neq => cond (decide (k = k')) (K (.bool (a != b)) H) False
   | .lss => cond (decide (k = k')) (K (.bool (decide (a < b))) H) False
   | .leq => cond (decide (k = k')) (K (.bool (decide (a ≤ b))) H) False
   | .gtr => cond (decide (k = k')) (K (.bool (decide (a > b))) H) False
   | .geq => cond (decide (k = k')) (K (.bool (decide (a ≥ b))) H) False
   | op => cond (decide (k = k')) (K (.int k (bitsOf op k a b)) H) False
 | .bool a, .bool b =>
   match op, i.kind with
   | .eql, .bool => K (.bool (a == b)) H
   | .neq, .bool => K (.bool (a != b)) H
   | _, _ => False
 | .slice A _ _, .slice none 0 0 =>
   match op, i.kind with
   | .eql, .slice _ => K (.bool A.isNone) H
   | .neq, .slice _ => K (.bool (!A.isNone)) H
   | _, _ => False
 | .agg xs, .agg ys => ∃ b : Bool, EqAgg P op t (.agg xs) (.agg ys) b ∧ K (.bool b) H
 | x, y => SemP P (do eqGuard op t xo yo x y; binOp op t x y) fun v => K v H
def setRange (cs : List Value) (off : Nat) : List Value → List Value
 | [] => cs
 | v :: vs => setRange (cs.set off v) (off + 1) vs
def fillL (f : Nat → Option (Nat × Nat)) : List Value → List (Nat × Value) → Option (List Value)
 | cells, [] => some cells
 | cells, (i, v) :: rest =>
   match f i with
   | none => none
   | some (off, size) => if v.cells.toList.length = size ∧ off + size ≤ cells.length then fillL f (setRange cells off v.cells.toList) rest else none
def SubA (A : Option Addr) (c l sz : Nat) : Option Addr := if c = l then A else A.map (·.add (scale l sz))
def SliceH (sz : Nat) (A : Option Addr) (n c : Nat) (lo hi : Option Value) (κ : Value → Prop) : Prop :=
 match lo, hi with
 | none, none => κ (.slice A n c)
 | none, some (.int _ h) => 0 ≤ h ∧ h ≤ (c : Int) ∧ κ (.slice A h.toNat c)
 | some (.int _ l), none => 0 ≤ l ∧ l ≤ (n : Int) ∧ κ (.slice (SubA A c l.toNat sz) (n - l.toNat) (c - l.toNat))
 | some (.int _ l), some (.int _ h) => 0 ≤ l ∧ l ≤ h ∧ h ≤ (c : Int) ∧ κ (.slice (SubA A c l.toNat sz) (h.toNat - l.toNat) (c - l.toNat))
 | _, _ => False
def sxBuiltin (P : Program) (T : Nat → TI) (b : Builtin) (argTypes : List Nat) (args : List Value) (H : Heap) (K : Value → Heap → Prop) : Prop :=
 match b, args with
 | .len, [.slice _ n _] => match argTypes with
   | t :: _ => match (T t).kind with
     | .slice _ => K (.int .i64 n) H
     | _ => False
   | _ => False
 | .len, [.map (some r)] => match argTypes with
   | t :: _ => match (T t).kind with
     | .map => ∃ es clock, H[r]? = some (.map es clock) ∧ K (.int .i64 es.size) H
     | _ => False
   | _ => False
 | .len, [.string s] => match argTypes with
   | t :: _ => match (T t).kind with
     | .str => K (.int .i64 s.size) H
     | _ => False
   | _ => False
 | .min, [.int k x, .int _ y] => K (.int k (if y < x then y else x)) H
 | .max, [.int k x, .int _ y] => K (.int k (if y > x then y else x)) H
 | .append, [.slice A n c, x] => match argTypes with
   | [t, u] => match (T t).kind with
     | .slice e => match (T u).kind, x with
       | .slice _, .slice B m _ => AppendV e (T e).size (T e).bytes (T e).zero H A n c B m fun A n c H' => K (.slice A n c) H'
       | .int .i64, .int _ m => 0 ≤ m ∧ m * (T e).bytes ≤ 2 ^ 48 ∧ m < 2 ^ 62 ∧ AppendT e (T e).size (T e).bytes (T e).zero H A n c m.toNat (repl m.toNat (T e).zero) fun A n c H' => K (.slice A n c) H'
       | _, _ => False
     | _ => False
   | _ => False
 | .copy, [.slice A n _, .slice B m _] => match argTypes with
   | t :: _ => match (T t).kind with
     | .slice e => CopyV (T e).size H A n B m fun m H' => K (.int .i64 m) H'
     | _ => False
   | _ => False
 | _, _ => False
def hasB (nf f : Nat) : Bool := Nat.blt 1 f && Nat.blt f nf
def CallV (P : Program) (nf : Nat) (v : Value) (args : List Value) (H : Heap) (K : Value → Heap → Prop) : Prop :=
 match v with
 | .func (.func f) first cap => cond (hasB nf f) (CallH P f (first.toList ++ args ++ cap.toList) H K) False
 | _ => False
def sxCall (P : Program) (T : Nat → TI) (R : Nat → List Sh) (nf : Nat) (ty : Nat) (ρ : Operand → Value) (H : Heap) (c : Call) (K : Value → Heap → Prop) : Prop :=
 match c.callee with
 | .builtin b => sxBuiltin P T b c.argTypes.toList (c.args.toList.map ρ) H K
 | .value (.func f) => cond (hasB nf f) (CallH P f (c.args.toList.map ρ) H fun v H' => TyRes (R ty) fun v' => v = v' ∧ K v' H') False
 | .value x => CallV P nf (ρ x) (c.args.toList.map ρ) H fun v H' => TyRes (R ty) fun v' => v = v' ∧ K v' H'
 | _ => False
def sxOp (P : Program) (T : Nat → TI) (R : Nat → List Sh) (nf : Nat) (ty : Nat) (ρ : Operand → Value) (H : Heap) (K : Value → Heap → Prop) : Op → Prop
 | .move x => K (ρ x) H
 | .assign x => K (ρ x) H
 | .pick c a b => match ρ c, ρ a, ρ b with
   | .bool t, .bool x, .bool y => K (.bool (cond t x y)) H
   | .bool t, x, y => cond t (K x H) (K y H)
   | _, _, _ => False
 | .alloc e => cond (T e).known (NewH (H.push (.cells (T e).zero.toArray e (0, 0))) fun H' => K (.pointer (some ⟨H.size, 0, none⟩)) H') False
 | .box e x => NewH (H.push (.cells (ρ x).cells e (0, 0))) fun H' => K (.pointer (some ⟨H.size, 0, none⟩)) H'
 | .load t x => match ρ x with
   | .pointer (some a) => cond (T t).known (LoadH (T t).sh H a fun v => K v H) False
   | _ => False
 | .store t x y => match ρ x with
   | .pointer (some a) => cond (T t).known (StoreH (T t).size H a (ρ y).cells.toList fun H' => K undef H') False
   | _ => False
 | .nilCheck x => match ρ x with
   | .pointer (some a) => K (.pointer (some a)) H
   | .func (.func f) a b => K (.func (.func f) a b) H
   | _ => False
 | .binOp op t x y _ => BinH P op t (T t) H x y (ρ x) (ρ y) K
 | .unOp op _ x => match op, ρ x with
   | .not, .bool b => K (.bool !b) H
   | .neg, .int k n => K (.int k (k.wrap (0 - n))) H
   | _, _ => False
 | .convert s d x => match (T s).kind, (T d).kind, ρ x with
   | .int _, .int k, .int _ n => K (.int k (k.wrap n)) H
   | _, _, _ => False
 | .makeFunc fn first cap => K (.func fn (first.toList.map ρ).toArray (cap.toList.map ρ).toArray) H
 | .makeMap _ none => NewH (H.push (.map #[] 0)) fun H' => K (.map (some H.size)) H'
 | .makeSlice t l c => match (T t).kind, ρ l, ρ c with
   | .slice e, .int _ n, .int _ m => 0 ≤ n ∧ n ≤ m ∧ m * (T e).bytes ≤ 2 ^ 48 ∧ m < 2 ^ 62 ∧
       NewH (H.push (.cells (repl m.toNat (T e).zero).toArray e (0, 0))) fun H' => K (.slice (some ⟨H.size, 0, none⟩) n.toNat m.toNat) H'
   | _, _, _ => False
 | .slice t x lo hi none => match (T t).kind, ρ x with
   | .slice e, .slice A n c => SliceH (T e).size A n c (lo.map ρ) (hi.map ρ) fun v => K v H
   | .array n e, .pointer (some a) => SliceH (T e).size (some a) n n (lo.map ρ) (hi.map ρ) fun v => K v H
   | _, _ => False
 | .fieldAddr s x f => match (T s).kind, ρ x with
   | .struct fs, .pointer (some a) => match fs[f]? with
     | some (off, _) => K (.pointer (some (a.add off))) H
     | none => False
   | _, _ => False
 | .field s x f => match (T s).kind, ρ x with
   | .struct fs, .agg cs => match fs[f]? with
     | some (off, .one _) => match cs.toList[off]? with
       | some v => K v H
       | none => False
     | some (off, .agg l) => K (.agg ((cs.toList.drop off).take l.length).toArray) H
     | none => False
   | _, _ => False
 | .indexAddr t x i => match (T t).kind, ρ x, ρ i with
   | .slice e, .slice A n _, .int _ i => ∃ a, A = some a ∧ 0 ≤ i ∧ i < (n : Int) ∧ K (.pointer (some (a.add (scale i.toNat (T e).size)))) H
   | .array n e, .pointer (some a), .int _ i => 0 ≤ i ∧ i < (n : Int) ∧ K (.pointer (some (a.add (scale i.toNat (T e).size)))) H
   | _, _, _ => False
 | .index t x i => match (T t).kind, ρ x, ρ i with
   | .array n e, .agg cs, .int _ i => match (T e).sh with
     | .one s => 0 ≤ i ∧ i < (n : Int) ∧ TyEx s fun v => cs.toList[i.toNat]? = some v ∧ K v H
     | _ => False
   | _, _, _ => False
 | .extract x i => match ρ x with
   | .tuple vs => match vs.toList[i]? with
     | some v => K v H
     | none => False
   | _ => False
 | .build t parts => match (T t).kind with
   | .struct fs => match fillL (fun i => (fs[i]?).map fun f => (f.1, f.2.size)) (T t).zero (parts.toList.map fun p => (p.1, ρ p.2)) with
     | some cs => K (.agg cs.toArray) H
     | none => False
   | .array n e => match fillL (fun i => some (i * (T e).size, (T e).size)) (T t).zero (parts.toList.map fun p => (p.1, ρ p.2)) with
     | some cs => K (.agg cs.toArray) H
     | none => False
   | _ => False
 | .buildSlice t len parts => match (T t).kind with
   | .slice e => match fillL (fun i => some (i * (T e).size, (T e).size)) (repl len (T e).zero) (parts.toList.map fun p => (p.1, ρ p.2)) with
     | some cs => cond (Nat.ble (len * (T e).size) 16777216) (NewH (H.push (.cells cs.toArray e (0, 0))) fun H' => K (.slice (some ⟨H.size, 0, none⟩) len len) H') False
     | none => False
   | _ => False
 | .lookup t m k ok => SemV P (Instr.lookup t (ρ m) (ρ k) ok) H fun v H' => TyRes (R ty) fun v' => v = v' ∧ K v' H'
 | .mapUpdate t m k v => SemU P (Instr.mapUpdate t (ρ m) (ρ k) (ρ v)) H fun H' => K undef H'
 | .insert t m k v => SemU P (Instr.mapUpdate t (ρ m) (ρ k) (ρ v)) H fun H' => K undef H'
 | .mapEntry t m k => SemV P (Instr.mapEntry t (ρ m) (ρ k)) H fun v H' => TyRes (R ty) fun v' => v = v' ∧ K v' H'
 | .entryStore t m s v => SemU P (Instr.entryStore t (ρ m) (ρ s) (ρ v)) H fun H' => K undef H'
 | .call c => sxCall P T R nf ty ρ H c K
 | _ => False
end Go.Sx
set_option linter.unusedVariables false
set_option linter.unusedSimpArgs false
namespace Go.Sx
def Sh.isAgg : Sh → Bool
 | .one _ => false
 | .agg _ => true
def FitsK (P : Program) (T : Nat → TI) (t : Nat) : Kind → Prop
 | .int k => P.underlying t = some (.int k)
 | .bool => P.underlying t = some .bool
 | .str => P.underlying t = some .string
 | .slice e => P.underlying t = some (.slice e) ∧ (T e).known = true
 | .ptr => ∃ e, P.underlying t = some (.pointer e)
 | .map => ∃ k e, P.underlying t = some (.map k e)
 | .func => ∃ a b c, P.underlying t = some (.func a b c)
 | .struct fs => ∃ F : Array Field, P.underlying t = some (.struct F) ∧ fs = F.toList.map (fun f => (f.offset, (T f.type).sh)) ∧ (F.toList.all fun f => (T f.type).known && !Nat.beq (T f.type).size 0) = true
 | .array n e => P.underlying t = some (.array n e) ∧ (T e).known = true
 | .other => True
def Kind.isAgg : Kind → Bool
 | .struct _ => true
 | .array _ _ => true
 | _ => false
def Fits (P : Program) (T : Nat → TI) (t : Nat) (i : TI) : Prop :=
 FitsK P T t i.kind ∧ i.kind.isAgg = i.sh.isAgg ∧ i.zero.length = i.size ∧
 (P.info? t).map (fun j => (j.zero.map (·.cells.toList), j.size, j.bytes)) = some (some i.zero, i.size, i.bytes)
theorem TI.known_ne {i : TI} (h : i.known = true) : i.kind ≠ .other := fun hn => by simp [TI.known, hn] at h
theorem fields_of {T : Nat → TI} {F : Array Field} (h : (F.toList.all fun f => (T f.type).known && !Nat.beq (T f.type).size 0) = true) : ∀ f ∈ F.toList, (T f.type).kind ≠ .other ∧ (T f.type).size ≠ 0 := by
 intro f hf
 have := List.all_eq_true.1 h f hf
 simp only [Bool.and_eq_true, Bool.not_eq_true'] at this
 exact ⟨TI.known_ne this.1, fun h0 => by rw [h0] at this; simp at this⟩
def AllFit (P : Program) (T : Nat → TI) : Prop := ∀ t, (T t).kind ≠ .other → Fits P T t (T t)
section
variable {P : Program} {T : Nat → TI} (hT : AllFit P T)
include hT
theorem run_info {t : Nat} (h : (T t).kind ≠ .other) (w : World) : ∃ j : TypeInfo, P.info? t = some j ∧ j.size = (T t).size ∧ j.bytes = (T t).bytes ∧ (∃ z, j.zero = some z ∧ z.cells.toList = (T t).zero) := by
 have hf := (hT t h).2.2.2
 cases hi : P.info? t with
 | none => rw [hi] at hf; simp at hf
 | some j =>
   rw [hi] at hf
   simp only [Option.map_some, Option.some.injEq, Prod.mk.injEq] at hf
   obtain ⟨hz, h1, h2⟩ := hf
   cases hz' : j.zero with
   | none => rw [hz'] at hz; simp at hz
   | some z => rw [hz'] at hz; simp only [Option.map_some, Option.some.injEq] at hz; exact ⟨j, rfl, h1, h2, z, hz', hz⟩
theorem run_sizeOf' {t : Nat} (h : (T t).kind ≠ .other) (w : World) : (sizeOf t).run P w = .ok (T t).size w := by
 obtain ⟨j, hi, hs, -⟩ := run_info hT h w
 simp [sizeOf, typeInfo, hi, hs]
theorem run_zero' {t : Nat} (h : (T t).kind ≠ .other) (w : World) : ∃ z, (zeroValue t).run P w = .ok z w ∧ z.cells.toList = (T t).zero := by
 obtain ⟨j, hi, hs, hb, z, hz, hc⟩ := run_info hT h w
 exact ⟨z, by simp [zeroValue, typeInfo, hi, hz], hc⟩
omit hT in
theorem run_und {t : Nat} {d : TypeDesc} (h : P.underlying t = some d) (w : World) : (underlying t).run P w = .ok d w := by
 simp [underlying, h]
theorem run_isAgg' {t : Nat} (h : (T t).kind ≠ .other) (w : World) : (isAgg t).run P w = .ok (T t).sh.isAgg w := by
 have hk := (hT t h).1
 have ha := (hT t h).2.1
 rw [← ha]
 revert hk h
 cases (T t).kind <;> intro h hk <;> simp only [FitsK] at hk
 case other => exact absurd rfl h
 case slice => simp [isAgg, underlying, hk.1, Kind.isAgg]
 case array => simp [isAgg, underlying, hk.1, Kind.isAgg]
 case ptr => obtain ⟨e, hk⟩ := hk; simp [isAgg, underlying, hk, Kind.isAgg]
 case map => obtain ⟨e, k, hk⟩ := hk; simp [isAgg, underlying, hk, Kind.isAgg]
 case func => obtain ⟨e, k, b, hk⟩ := hk; simp [isAgg, underlying, hk, Kind.isAgg]
 case struct => obtain ⟨F, hk, -⟩ := hk; simp [isAgg, underlying, hk, Kind.isAgg]
 all_goals simp [isAgg, underlying, hk, Kind.isAgg]
end
theorem CellsAre.cells {w : World} {a : Addr} : ∀ {vs : List Value} {j : Nat} {R : Prop}, CellsAre w.heap a j vs R → (∀ i v, vs[i]? = some v → w.cell? (a.add (j + i)) = some v) ∧ R
 | [], _, _, h => ⟨fun i v hv => by simp at hv, h⟩
 | v :: vs, j, R, h => by
   obtain ⟨h0, h⟩ := h
   obtain ⟨h1, hR⟩ := CellsAre.cells h
   refine ⟨fun i u hu => ?_, hR⟩
   cases i with
   | zero => simp at hu; subst hu; exact h0
   | succ i => have := h1 i u (by simpa using hu); rwa [show j + (i + 1) = j + 1 + i from by omega]
theorem CellsAre.imp {H : Heap} {a : Addr} : ∀ {vs : List Value} {j : Nat} {R R' : Prop}, CellsAre H a j vs R → (R → R') → CellsAre H a j vs R'
 | [], _, _, _, h, k => k h
 | _ :: _, _, _, _, ⟨h0, h⟩, k => ⟨h0, h.imp k⟩
theorem load_sound {P : Program} {T : Nat → TI} (hT : AllFit P T) {t : Nat} (ht : (T t).kind ≠ .other) {a : Addr} {w : World} {κ : Value → Prop} (h : LoadH (T t).sh w.heap a κ) :
   ∃ v, κ v ∧ StillP (T t).sh a v w.heap True ∧ ∀ w' : World, StillP (T t).sh a v w'.heap True → (Instr.loadAt t (.pointer (some a))).run P w' = .ok v w' := by
 have hagg := fun w' => run_isAgg' hT ht w'
 have hsz := fun w' => run_sizeOf' hT ht w'
 unfold LoadH at h
 unfold StillP
 cases hs : (T t).sh with
 | one s =>
   rw [hs] at h hagg
   obtain ⟨v, hc, hk⟩ := TyEx.out h
   refine ⟨v, hk, ⟨hc, trivial⟩, fun w' hw => ?_⟩
   have hc' : w'.cell? a = some v := hw.1
   simp [Instr.loadAt, Instr.sureAddr, loadVar, hagg w', Sh.isAgg, hc']
 | agg l =>
   rw [hs] at h hagg
   obtain ⟨vs, hl, hc⟩ := TyExL.out h
   have hR := (CellsAre.cells (w := w) hc).2
   refine ⟨_, hR, ?_, fun w' hw => ?_⟩
   · simp only [hl, if_true]; exact hc.imp (fun _ => trivial)
   · simp only [hl, if_true] at hw
     have hcells := (CellsAre.cells (w := w') hw).1
     have hl' : (T t).size = vs.length := by rw [TI.size, hs]; exact hl.symm
     have := run_loadCells_list (P := P) (w := w') a vs (fun j v hj => by have := hcells j v hj; rwa [Nat.zero_add] at this)
     simp [Instr.loadAt, Instr.sureAddr, loadVar, hagg w', Sh.isAgg, hsz w', hl', this]
theorem isCell_one {v : Value} (h : isCell v = true) : v.oneCell' = true := by cases v <;> simp_all [isCell, Value.oneCell']
theorem Addr.add_off (a : Addr) (j : Nat) (h : a.spot = none) : a.add j = ⟨a.block, a.off + j, none⟩ := by
 unfold Addr.add
 split
 · cases a; simp_all
 · rfl
theorem setH_get_ne (H : Heap) (a : Addr) (v : Value) (b : Nat) (h : b ≠ a.block) : (setH H a v)[b]? = H[b]? := by
 simp [setH, Array.getElem?_modify, Ne.symm h]
theorem setH_get_eq {H : Heap} {g i : Nat} {cs : Array Value} {t : Nat} {fr : Nat × Nat} (h : H[g]? = some (.cells cs t fr)) (v : Value) :
   (setH H ⟨g, i, none⟩ v)[g]? = some (.cells (cs.setIfInBounds i v) t fr) := by
 simp [setH, Array.getElem?_modify, h]
theorem setH_size (H : Heap) (a : Addr) (v : Value) : (setH H a v).size = H.size := by simp [setH]
theorem stores_sound {P : Program} : ∀ (vs : List Value) (i : Nat) (w : World) (a : Addr) (cs : Array Value) (t : Nat), a.spot = none → w.heap[a.block]? = some (.cells cs t (0, 0)) → a.off + i + vs.length ≤ cs.size → vs.all isCell = true →
   ∃ w', (storeCells a vs i).run P w = .ok () w' ∧ Same w w' ∧ w'.heap = setsH w.heap a i vs
 | [], i, w, a, cs, t, _, _, _, _ => ⟨w, rfl, Same.refl w, rfl⟩
 | v :: vs, i, w, a, cs, t, hs, hb, hl, hc => by
   simp only [List.all_cons, Bool.and_eq_true] at hc
   simp only [List.length_cons] at hl
   have ha := Addr.add_off a i hs
   have hcell : w.cell? (a.add i) = some (cs[a.off + i]'(by omega)) := by
     rw [ha]; simp [World.cell?, hb]
   have hfr : w.frozen? (a.add i) = false := by rw [ha]; simp [World.frozen?, hb]
   have hb' : (w.setCell (a.add i) v).heap[a.block]? = some (.cells (cs.setIfInBounds (a.off + i) v) t (0, 0)) := by
     rw [ha]; exact setH_get_eq (H := w.heap) hb v
   obtain ⟨w', hr, hsm, hh⟩ := stores_sound (P := P) vs (i + 1) (w.setCell (a.add i) v) a _ t hs hb' (by simp; omega) hc.2
   refine ⟨w', ?_, ⟨hsm.os, hsm.tape, hsm.output⟩, hh⟩
   simp [storeCells, run_store P w (a.add i) v .plain (isCell_one hc.1), hcell, hfr, hr]
theorem mayWrite_stores {P : Program} {vs : List Value} {w : World} {a : Addr} (h : MayWrite w.heap a vs.length) (hc : vs.all isCell = true) :
   ∃ w', (storeCells a vs).run P w = .ok () w' ∧ Same w w' ∧ w'.heap = setsH w.heap a 0 vs := by
 obtain ⟨cs, t, hb, hs, hl⟩ := h
 exact stores_sound vs 0 w a cs t hs hb (by omega) hc
theorem store_sound {P : Program} {T : Nat → TI} (hT : AllFit P T) {t : Nat} (ht : (T t).kind ≠ .other) {a : Addr} {v : Value} {w : World} {κ : Heap → Prop} (h : StoreH (T t).size w.heap a v.cells.toList κ) :
   ∃ w', (Instr.storeAt t (.pointer (some a)) v).run P w = .ok () w' ∧ Same w w' ∧ κ w'.heap := by
 unfold StoreH at h
 cases hb : (Nat.beq v.cells.toList.length (T t).size && v.cells.toList.all isCell) <;> rw [hb] at h
 · exact h.elim
 simp only [Bool.and_eq_true] at hb
 have hn := Nat.eq_of_beq_eq_true hb.1
 have hc := hb.2
 obtain ⟨hm, hk⟩ := h
 rw [← hn] at hm
 obtain ⟨w', hr, hs, hh⟩ := mayWrite_stores (P := P) hm hc
 refine ⟨w', ?_, hs, hh ▸ hk⟩
 have hsz := run_sizeOf' hT ht w
 rw [Array.length_toList] at hn
 simp [Instr.storeAt, Instr.sureAddr, storeVar, hsz, hn, hr]
def OpOK (P : Program) (s : Sem Next) (w : World) (K : Value → Heap → Prop) : Prop :=
 (∃ v w', s.run P w = .ok (.value v) w' ∧ Same w w' ∧ K v w'.heap) ∨
 (∃ w', s.run P w = .ok .skip w' ∧ Same w w' ∧ K undef w'.heap) ∨
 (∃ f args w', s.run P w = .ok (.enter f args) w' ∧ Same w w' ∧ CallH P f args.toList w'.heap K)
theorem OpOK.val {P : Program} {s : Sem Value} {w : World} {K : Value → Heap → Prop} (h : ∃ v w', s.run P w = .ok v w' ∧ Same w w' ∧ K v w'.heap) :
   OpOK P (do pure (.value (← s))) w K := by
 obtain ⟨v, w', hr, hs, hk⟩ := h
 exact .inl ⟨v, w', by simp [hr], hs, hk⟩
theorem OpOK.pureV {P : Program} {s : Sem Value} {w : World} {K : Value → Heap → Prop} {v : Value} (hr : s.run P w = .ok v w) (hk : K v w.heap) :
   OpOK P (do pure (.value (← s))) w K := OpOK.val ⟨v, w, hr, Same.refl w, hk⟩
theorem OpOK.unit {P : Program} {s : Sem Unit} {w : World} {K : Value → Heap → Prop} (h : ∃ w', s.run P w = .ok () w' ∧ Same w w' ∧ K undef w'.heap) :
   OpOK P (do s; pure .skip) w K := by
 obtain ⟨w', hr, hs, hk⟩ := h
 exact .inr (.inl ⟨w', by simp [hr], hs, hk⟩)
theorem run_equal_bool {P : Program} {t : Nat} (hu : P.underlying t = some .bool) (a b : Bool) (w : World) : (Op.equal t (.bool a) (.bool b)).run P w = .ok (a == b) w := by
 rw [Op.equal, show Op.maxDepth = 9999 + 1 from rfl, Op.equalIn]
 simp only [Sem.run_bind, run_und hu, Result.andThen_ok, Sem.run_pure]
theorem run_equal_slice_nil {P : Program} {t e : Nat} (hu : P.underlying t = some (.slice e)) (A : Option Addr) (n c m d : Nat) (w : World) : (Op.equal t (.slice A n c) (.slice none m d)).run P w = .ok A.isNone w := by
 rw [Op.equal, show Op.maxDepth = 9999 + 1 from rfl, Op.equalIn]
 cases A <;> simp only [Sem.run_bind, run_und hu, Result.andThen_ok, Sem.run_pure, Option.isNone]
theorem bin_eql_bool (t : Nat) (a b : Bool) : binOp .eql t (.bool a) (.bool b) = (do pure (.bool (← Op.equal t (.bool a) (.bool b)))) := rfl
theorem bin_neq_bool (t : Nat) (a b : Bool) : binOp .neq t (.bool a) (.bool b) = (do pure (.bool (!(← Op.equal t (.bool a) (.bool b))))) := rfl
theorem bin_eql_slice (t : Nat) (A B : Option Addr) (n c m d : Nat) : binOp .eql t (.slice A n c) (.slice B m d) = (do pure (.bool (← Op.equal t (.slice A n c) (.slice B m d)))) := rfl
theorem bin_neq_slice (t : Nat) (A B : Option Addr) (n c m d : Nat) : binOp .neq t (.slice A n c) (.slice B m d) = (do pure (.bool (!(← Op.equal t (.slice A n c) (.slice B m d))))) := rfl
theorem cond_dec {p q : Prop} [Decidable p] (h : cond (decide p) q False) : p ∧ q := by
 by_cases hp : p
 · rw [decide_eq_true hp] at h; exact ⟨hp, h⟩
 · rw [decide_eq_false hp] at h; exact h.elim
theorem bin_sound {P : Program} {T : Nat → TI} (hT : AllFit P T) {op : BinOp} {t : Nat} {x y : Operand} {a b : Value} {H : Heap} {K : Value → Heap → Prop}
   (h : BinH P op t (T t) H x y a b K) : ∃ v, (∀ w, (do eqGuard op t x y a b; binOp op t a b : Sem Value).run P w = .ok v w) ∧ K v H := by
 unfold BinH at h
 split at h
 · rename_i k a k' b
   have hg : ∀ w, (eqGuard op t x y (.int k a) (.int k' b)).run P w = .ok () w := by intro w; unfold eqGuard; split <;> rfl
   cases op
   case shl => obtain ⟨h0, h⟩ := h; exact ⟨_, fun w => by simp [hg, binOp, Op.shift, Int.not_lt.2 h0], h⟩
   case shr => obtain ⟨h0, h⟩ := h; exact ⟨_, fun w => by simp [hg, binOp, Op.shift, Int.not_lt.2 h0], h⟩
   case quo => obtain ⟨e, h0, h2⟩ := cond_dec h; subst e; exact ⟨_, fun w => by simp [hg, binOp, Op.intDiv, h0], h2⟩
   case rem => obtain ⟨e, h0, h2⟩ := cond_dec h; subst e; exact ⟨_, fun w => by simp [hg, binOp, Op.intDiv, h0], h2⟩
   all_goals (obtain ⟨e, h2⟩ := cond_dec h; subst e; exact ⟨_, fun w => by simp [hg, binOp, Op.intArith, Op.intCmp, Op.intBits, bitsOf], h2⟩)
 · rename_i a b
   have hg : ∀ w, (eqGuard op t x y (.bool a) (.bool b)).run P w = .ok () w := by intro w; unfold eqGuard; split <;> rfl
   split at h
   · rename_i hk
     have hu := (hT t (by rw [hk]; simp)).1; rw [hk] at hu
     exact ⟨_, fun w => by simp only [Sem.run_bind, hg, Result.andThen_ok, bin_eql_bool, run_equal_bool hu, Sem.run_pure], h⟩
   · rename_i hk
     have hu := (hT t (by rw [hk]; simp)).1; rw [hk] at hu
     exact ⟨.bool (!(a == b)), fun w => by simp only [Sem.run_bind, hg, Result.andThen_ok, bin_neq_bool, run_equal_bool hu, Sem.run_pure], h⟩
   · exact h.elim
 · rename_i A n c
   have hg : ∀ w, (eqGuard op t x y (.slice A n c) (.slice none 0 0)).run P w = .ok () w := by intro w; unfold eqGuard; split <;> rfl
   split at h
   · rename_i hk
     have hu := (hT t (by rw [hk]; simp)).1; rw [hk] at hu
     exact ⟨_, fun w => by simp only [Sem.run_bind, hg, Result.andThen_ok, bin_eql_slice, run_equal_slice_nil hu.1, Sem.run_pure], h⟩
   · rename_i hk
     have hu := (hT t (by rw [hk]; simp)).1; rw [hk] at hu
     exact ⟨_, fun w => by simp only [Sem.run_bind, hg, Result.andThen_ok, bin_neq_slice, run_equal_slice_nil hu.1, Sem.run_pure], h⟩
   · exact h.elim
 · obtain ⟨b, hb, hk⟩ := h
   obtain ⟨v, hv, rfl⟩ := hb x y
   exact ⟨_, hv, hk⟩
 · exact h
theorem bounds_sound {P : Program} {b : Bool} {n c : Nat} {lo hi : Option Value} {l h : Int} (hl : (lo = none ∧ l = 0) ∨ ∃ k, lo = some (.int k l)) (hh : (hi = none ∧ h = n) ∨ (h ≤ (c : Int) ∧ ∃ k, hi = some (.int k h))) (h0 : 0 ≤ l) (h1 : l ≤ h) (w : World) :
   (Instr.sliceBounds b n c lo hi none).run P w = .ok (l.toNat, h.toNat, c) w := by
 have e0 : 0 ≤ h := by omega
 rcases hl with ⟨rfl, rfl⟩ | ⟨k, rfl⟩ <;> rcases hh with ⟨rfl, rfl⟩ | ⟨h2, k', rfl⟩ <;>
   simp [Instr.sliceBounds, Instr.sliceBound, asIntOf, h0, h1, e0, *] <;> (intro hx; exfalso; omega)
theorem slice_cases {sz : Nat} {A : Option Addr} {n c : Nat} {lo hi : Option Value} {κ : Value → Prop} (h : SliceH sz A n c lo hi κ) :
   ∃ l h' : Int, ((lo = none ∧ l = 0) ∨ ∃ k, lo = some (.int k l)) ∧ ((hi = none ∧ h' = n) ∨ (h' ≤ (c : Int) ∧ ∃ k, hi = some (.int k h'))) ∧ 0 ≤ l ∧ l ≤ h' ∧
     κ (.slice (if c = l.toNat then A else A.map (·.add (l.toNat * sz))) (h'.toNat - l.toNat) (c - l.toNat)) := by
 have add0 : ∀ A : Option Addr, A.map (·.add (0 * sz)) = A := fun A => by cases A <;> simp [Addr.add]
 unfold SliceH at h
 split at h
 · exact ⟨0, n, .inl ⟨rfl, rfl⟩, .inl ⟨rfl, rfl⟩, by omega, by omega, by
     have : (if c = (0 : Int).toNat then A else A.map (·.add ((0 : Int).toNat * sz))) = A := by split; rfl; exact add0 A
     rw [this]; exact h⟩
 · rename_i k h'
   obtain ⟨h0, h1, h⟩ := h
   exact ⟨0, h', .inl ⟨rfl, rfl⟩, .inr ⟨h1, k, rfl⟩, by omega, by omega, by
     have : (if c = (0 : Int).toNat then A else A.map (·.add ((0 : Int).toNat * sz))) = A := by split; rfl; exact add0 A
     rw [this]; exact h⟩
 · rename_i k l
   obtain ⟨h0, h1, h⟩ := h
   exact ⟨l, n, .inr ⟨k, rfl⟩, .inl ⟨rfl, rfl⟩, h0, h1, by simpa [SubA, scale_eq] using h⟩
 · rename_i k l k' h'
   obtain ⟨h0, h1, h2, h⟩ := h
   exact ⟨l, h', .inr ⟨k, rfl⟩, .inr ⟨h2, k', rfl⟩, h0, h1, by simpa [SubA, scale_eq] using h⟩
 · exact h.elim
theorem slice_sound {P : Program} {T : Nat → TI} (hT : AllFit P T) {t e : Nat} (hk : (T t).kind = .slice e) {A : Option Addr} {n c : Nat} {lo hi : Option Value} {κ : Value → Prop}
   (h : SliceH (T e).size A n c lo hi κ) : ∃ v, (∀ w : World, (Instr.sliceAt t (.slice A n c) lo hi none).run P w = .ok v w) ∧ κ v := by
 have hu := (hT t (by rw [hk]; simp)).1; rw [hk] at hu
 have hs := fun w => run_sizeOf' hT (TI.known_ne hu.2) w
 obtain ⟨l, h', hl, hh, h0, h1, h⟩ := slice_cases h
 refine ⟨_, fun w => ?_, h⟩
 simp [Instr.sliceAt, Instr.slice, run_und hu.1, bounds_sound hl hh h0 h1, hs w]
theorem slice_arr_sound {P : Program} {T : Nat → TI} (hT : AllFit P T) {t m e : Nat} (hk : (T t).kind = .array m e) {a : Addr} {lo hi : Option Value} {κ : Value → Prop}
   (h : SliceH (T e).size (some a) m m lo hi κ) : ∃ v, (∀ w : World, (Instr.sliceAt t (.pointer (some a)) lo hi none).run P w = .ok v w) ∧ κ v := by
 have hu := (hT t (by rw [hk]; simp)).1; rw [hk] at hu
 have hs := fun w => run_sizeOf' hT (TI.known_ne hu.2) w
 obtain ⟨l, h', hl, hh, h0, h1, h⟩ := slice_cases h
 refine ⟨_, fun w => ?_, h⟩
 simp [Instr.sliceAt, run_und hu.1, bounds_sound hl hh h0 h1, hs w, Instr.sureAddr]
 split <;> rfl
theorem index_sound {P : Program} {T : Nat → TI} (hT : AllFit P T) {t e : Nat} (hk : (T t).kind = .slice e) {a : Addr} {n c : Nat} {k : IntKind} {i : Int} (h0 : 0 ≤ i) (h1 : i < (n : Int)) (w : World) :
   (Instr.indexAt t (.slice (some a) n c) (.int k i)).run P w = .ok (.pointer (some (a.add (scale i.toNat (T e).size)))) w := by
 have hu := (hT t (by rw [hk]; simp)).1; rw [hk] at hu
 have hs := fun w => run_sizeOf' hT (TI.known_ne hu.2) w
 simp [Instr.indexAt, asIntOf, run_und hu.1, h0, h1, hs w, scale_eq]
theorem index_arr_sound {P : Program} {T : Nat → TI} (hT : AllFit P T) {t m e : Nat} (hk : (T t).kind = .array m e) {a : Addr} {k : IntKind} {i : Int} (h0 : 0 ≤ i) (h1 : i < (m : Int)) (w : World) :
   (Instr.indexAt t (.pointer (some a)) (.int k i)).run P w = .ok (.pointer (some (a.add (scale i.toNat (T e).size)))) w := by
 have hu := (hT t (by rw [hk]; simp)).1; rw [hk] at hu
 have hs := fun w => run_sizeOf' hT (TI.known_ne hu.2) w
 simp [Instr.indexAt, asIntOf, run_und hu.1, h0, h1, hs w, Instr.sureAddr, scale_eq]
theorem repl_succ (m : Nat) (z : List Value) : repl (m + 1) z = z ++ repl m z := by simp [repl, List.replicate_succ]
theorem repl_length (m : Nat) (z : List Value) : (repl m z).length = m * z.length := by simp [repl, List.length_flatten]
theorem repl_get (z : List Value) : ∀ (m i : Nat), i < m * z.length → (repl m z)[i]? = z[i % z.length]?
 | 0, i, h => by simp at h
 | m + 1, i, h => by
   rw [repl_succ]
   by_cases hi : i < z.length
   · rw [List.getElem?_append_left hi, Nat.mod_eq_of_lt hi]
   · have hm : (m + 1) * z.length = m * z.length + z.length := Nat.succ_mul _ _
     rw [List.getElem?_append_right (by omega), repl_get z m (i - z.length) (by omega), ← Nat.mod_eq_sub_mod (by omega)]
theorem zero_repeat (z : Array Value) (m : Nat) : (Array.range (m * z.size)).map (fun i => z[i % z.size]!) = (repl m z.toList).toArray := by
 apply Array.ext
 · simp [repl_length]
 · intro i h1 h2
   simp at h1
   have hz : 0 < z.size := by
     rcases Nat.eq_zero_or_pos z.size with h | h
     · simp [h] at h1
     · exact h
   have hlt := Nat.mod_lt i hz
   have hg := repl_get z.toList m i (by simpa using h1)
   simp only [Array.getElem_map, Array.getElem_range, List.getElem_toArray]
   rw [getElem!_pos z _ hlt]
   have h2' : i < (repl m z.toList).length := by simpa using h2
   rw [List.getElem?_eq_getElem h2', Array.length_toList, List.getElem?_eq_getElem (by simpa using hlt)] at hg
   simpa using (Option.some.inj hg).symm
theorem make_sound {P : Program} {T : Nat → TI} (hT : AllFit P T) {t e : Nat} (hk : (T t).kind = .slice e) {kl kc : IntKind} {n m : Int} (h0 : 0 ≤ n) (h1 : n ≤ m) (h2 : m * ((T e).bytes : Int) ≤ 2 ^ 48) (h3 : m < 2 ^ 62) (w : World) :
   (Instr.makeSlice t (.int kl n) (.int kc m)).run P w = .ok (.slice (some ⟨w.heap.size, 0, none⟩) n.toNat m.toNat) { w with heap := w.heap.push (.cells (repl m.toNat (T e).zero).toArray e (0, 0)) } := by
 have hu := (hT t (by rw [hk]; simp)).1; rw [hk] at hu
 obtain ⟨j, hi, hs, hb, z, hz, hc⟩ := run_info hT (TI.known_ne hu.2) w
 have hzl := (hT e (TI.known_ne hu.2)).2.2.1
 have hsz : z.cells.size = j.size := by rw [hs, ← hzl, ← hc, Array.length_toList]
 have := run_make (P := P) w t e j z hu.1 hi hz kl kc n m h0 h1 (by rw [hb, Int.mul_comm]; omega) (by omega)
 rw [this]
 have hm : madeCells z.cells (m.toNat * j.size) = (repl m.toNat (T e).zero).toArray := by
   rw [← hsz, ← hc]; exact zero_repeat z.cells m.toNat
 rw [hm]; rfl
theorem firstCells_sound {P : Program} {sz m : Nat} {B : Option Addr} {l c : Nat} {new : List Value} {w : World} (hl : new.length = m * sz) (h : ReadsC w.heap B new) :
   (Builtin.firstCells sz m (.slice B l c)).run P w = .ok new.toArray w := by
 cases B with
 | none => simp only [ReadsC] at h; subst h; simp [Builtin.firstCells]
 | some b =>
   simp only [ReadsC] at h
   exact run_firstCells_some (P := P) (w := w) sz m b l c new hl (fun j v hj => by
     obtain ⟨hj', rfl⟩ := List.getElem?_eq_some_iff.1 hj
     exact h j hj')
theorem zeroCells_repl (z : Array Value) (n : Nat) : Builtin.zeroCells z n = (repl n z.toList).toArray := zero_repeat z n
set_option maxHeartbeats 1000000 in
theorem append_sound {P : Program} {T : Nat → TI} (hT : AllFit P T) {t u ty e e' : Nat} (hk : (T t).kind = .slice e) (hku : (T u).kind = .slice e') {A B : Option Addr} {n c m l : Nat} {w : World} {K : Value → Heap → Prop}
   (h : AppendV e (T e).size (T e).bytes (T e).zero w.heap A n c B m fun A n c H' => K (.slice A n c) H') :
   ∃ v w', (Builtin.append_ #[t, u] ty #[.slice A n c, .slice B m l]).run P w = .ok v w' ∧ Same w w' ∧ K v w'.heap := by
 have hu := (hT t (by rw [hk]; simp)).1; rw [hk] at hu
 have huu := (hT u (by rw [hku]; simp)).1; rw [hku] at huu
 obtain ⟨j, hi, hs, hb, z, hz, hc⟩ := run_info hT (TI.known_ne hu.2) w
 have hzl := (hT e (TI.known_ne hu.2)).2.2.1
 obtain ⟨new, hnl, hnr, hcell, hfit, hgrow⟩ := h
 have hf := firstCells_sound (P := P) (l := m) (c := l) hnl hnr
 by_cases hroom : n + m ≤ c
 · have h1 := hfit hroom
   cases A with
   | none =>
     refine ⟨_, w, ?_, Same.refl w, h1⟩
     simp [Builtin.append_, run_und hu.1, run_und huu.1, sizeOf, typeInfo, hi, Builtin.lenOf, hroom, hs, hf]
   | some a =>
     obtain ⟨hm, hk'⟩ := h1
     obtain ⟨w', hr, hsm, hh⟩ := mayWrite_stores (P := P) hm hcell
     refine ⟨_, w', ?_, hsm, by rw [hh]; exact hk'⟩
     simp [Builtin.append_, run_und hu.1, run_und huu.1, sizeOf, typeInfo, hi, Builtin.lenOf, hroom, hs, hf, hr]
 · obtain ⟨h48, h62, old, hol, hor, hkk⟩ := hgrow (by omega)
   have h63' : ¬ (9223372036854775807 < ((n : Int) + (m : Int))) := by omega
   have h48' : ¬ (281474976710656 < Builtin.nextslicecap (n + m) c * (T e).bytes) := by omega
   have hge := grownCap_ge w (n + m) c e
   have hnr' : ReadsC w.drew.heap B new := hnr
   have hor' : ReadsC w.drew.heap A old := hor
   have hf1 := firstCells_sound (P := P) (l := m) (c := l) hnl hnr'
   have hf2 := firstCells_sound (P := P) (l := n) (c := c) hol hor'
   refine ⟨_, w.drew.alloc (.cells (old ++ new ++ repl (grownCap w (n + m) c e - (n + m)) (T e).zero).toArray e (0, 0)), ?_, ⟨rfl, rfl, rfl⟩, hkk _ hge⟩
   simp [Builtin.append_, run_und hu.1, run_und huu.1, sizeOf, typeInfo, zeroValue, hi, hz, Builtin.lenOf, hroom, hs, hb, h63', h48', Question.forced, hf1, hf2, newRow, grownCap, zeroCells_repl, hc]
set_option maxHeartbeats 1000000 in
theorem append_make_sound {P : Program} {T : Nat → TI} (hT : AllFit P T) {t u ty e : Nat} (hk : (T t).kind = .slice e) (hku : (T u).kind = .int .i64) {A : Option Addr} {n c : Nat} {k : IntKind} {i : Int} {w : World} {K : Value → Heap → Prop}
   (h0 : 0 ≤ i) (h1 : i * ((T e).bytes : Int) ≤ 2 ^ 48) (h2 : i < 2 ^ 62)
   (h : AppendT e (T e).size (T e).bytes (T e).zero w.heap A n c i.toNat (repl i.toNat (T e).zero) fun A n c H' => K (.slice A n c) H') :
   ∃ v w', (Builtin.append_ #[t, u] ty #[.slice A n c, .int k i]).run P w = .ok v w' ∧ Same w w' ∧ K v w'.heap := by
 have hu := (hT t (by rw [hk]; simp)).1; rw [hk] at hu
 have huu : P.underlying u = some (.int .i64) := by have := (hT u (by rw [hku]; simp)).1; rwa [hku] at this
 obtain ⟨j, hi, hs, hb, z, hz, hc⟩ := run_info hT (TI.known_ne hu.2) w
 have hzl := (hT e (TI.known_ne hu.2)).2.2.1
 obtain ⟨hcell, hfit, hgrow⟩ := h
 have wi : IntKind.i64.wrap i = i := by rw [IntKind.wrap_i64]; omega
 have n0 : ¬ i < 0 := by omega
 have n1 : ¬ (281474976710656 < i * ((T e).bytes : Int)) := by omega
 have hz0 : i.toNat * (T e).size = 0 → repl i.toNat (T e).zero = [] := fun h => List.eq_nil_of_length_eq_zero (by rw [repl_length, hzl]; exact h)
 by_cases hroom : n + i.toNat ≤ c
 · have h1 := hfit hroom
   cases A with
   | none =>
     refine ⟨_, w, ?_, Same.refl w, h1⟩
     by_cases hn : i.toNat * (T e).size = 0
     · simp [Builtin.append_, run_und hu.1, run_und huu, sizeOf, typeInfo, hi, asInt, asIntOf, wi, n0, n1, hb, hroom, hs, hn]
     · simp [Builtin.append_, run_und hu.1, run_und huu, sizeOf, typeInfo, zeroValue, hz, hi, asInt, asIntOf, wi, n0, n1, hb, hroom, hs, hn]
   | some a =>
     obtain ⟨hm, hk'⟩ := h1
     obtain ⟨w', hr, hsm, hh⟩ := mayWrite_stores (P := P) hm hcell
     refine ⟨_, w', ?_, hsm, by rw [hh]; exact hk'⟩
     by_cases hn : i.toNat * (T e).size = 0
     · rw [hz0 hn] at hr
       simp [Builtin.append_, run_und hu.1, run_und huu, sizeOf, typeInfo, hi, asInt, asIntOf, wi, n0, n1, hb, hroom, hs, hn, hr]
     · simp [Builtin.append_, run_und hu.1, run_und huu, sizeOf, typeInfo, zeroValue, hz, hi, asInt, asIntOf, wi, n0, n1, hb, hroom, hs, hn, hr, zeroCells_repl, hc]
 · obtain ⟨h48, h62, old, hol, hor, hkk⟩ := hgrow (by omega)
   have h63' : ¬ (9223372036854775807 < ((n : Int) + (i.toNat : Int))) := by omega
   have h48' : ¬ (281474976710656 < Builtin.nextslicecap (n + i.toNat) c * (T e).bytes) := by omega
   have hge := grownCap_ge w (n + i.toNat) c e
   have hor' : ReadsC w.drew.heap A old := hor
   have hf2 := firstCells_sound (P := P) (l := n) (c := c) hol hor'
   refine ⟨_, w.drew.alloc (.cells (old ++ repl i.toNat (T e).zero ++ repl (grownCap w (n + i.toNat) c e - (n + i.toNat)) (T e).zero).toArray e (0, 0)), ?_, ⟨rfl, rfl, rfl⟩, hkk _ hge⟩
   have h63'' : ¬ (9223372036854775807 < ((n : Int) + max i 0)) := by omega
   by_cases hn : i.toNat * (T e).size = 0
   · rw [hz0 hn]
     simp [Builtin.append_, run_und hu.1, run_und huu, sizeOf, typeInfo, zeroValue, hi, hz, asInt, asIntOf, wi, n0, n1, hroom, hs, hb, h63', h63'', h48', Question.forced, hf2, newRow, grownCap, zeroCells_repl, hc, hn]
   · simp [Builtin.append_, run_und hu.1, run_und huu, sizeOf, typeInfo, zeroValue, hi, hz, asInt, asIntOf, wi, n0, n1, hroom, hs, hb, h63', h63'', h48', Question.forced, hf2, newRow, grownCap, zeroCells_repl, hc, hn]
theorem copy_sound {P : Program} {T : Nat → TI} (hT : AllFit P T) {t ty e : Nat} (hk : (T t).kind = .slice e) {A B : Option Addr} {n c m l : Nat} {w : World} {K : Value → Heap → Prop}
   (h : CopyV (T e).size w.heap A n B m fun m H' => K (.int .i64 m) H') (rest : List Nat) :
   ∃ v w', (Builtin.copy_ (t :: rest).toArray ty #[.slice A n c, .slice B m l]).run P w = .ok v w' ∧ Same w w' ∧ K v w'.heap := by
 have hu := (hT t (by rw [hk]; simp)).1; rw [hk] at hu
 obtain ⟨j, hi, hs, hb, z, hz, hc⟩ := run_info hT (TI.known_ne hu.2) w
 obtain ⟨new, hnl, hnr, hcell, h⟩ := h
 have hf := firstCells_sound (P := P) (l := m) (c := l) hnl hnr
 have hmin : Nat.min m n = min m n := rfl
 cases A with
 | none =>
   refine ⟨_, w, ?_, Same.refl w, h⟩
   simp [Builtin.copy_, run_und hu.1, sizeOf, typeInfo, hi, Builtin.lenOf, hs, hf, hmin, goInt]
 | some a =>
   obtain ⟨hm, hk'⟩ := h
   obtain ⟨w', hr, hsm, hh⟩ := mayWrite_stores (P := P) hm hcell
   refine ⟨_, w', ?_, hsm, by rw [hh]; exact hk'⟩
   simp [Builtin.copy_, run_und hu.1, sizeOf, typeInfo, hi, Builtin.lenOf, hs, hf, hmin, goInt, hr]
theorem fold_setRange (off : Nat) : ∀ (vs : List Value) (k : Nat) (cells : List Value),
   (vs.zipIdx k).foldl (fun (cs : Array Value) (p : Value × Nat) => cs.setIfInBounds (off + p.2) p.1) cells.toArray = (setRange cells (off + k) vs).toArray
 | [], k, cells => rfl
 | v :: vs, k, cells => by
   rw [List.zipIdx_cons, List.foldl_cons, setRange, List.setIfInBounds_toArray, fold_setRange off vs (k + 1)]
   rfl
theorem fill_sound (f : Nat → Option (Nat × Nat)) : ∀ (parts : List (Nat × Value)) (cells cs : List Value), fillL f cells parts = some cs → Instr.fill f cells.toArray parts = some cs.toArray
 | [], cells, cs, h => by simp only [fillL, Option.some.injEq] at h; subst h; rfl
 | (i, v) :: rest, cells, cs, h => by
   unfold fillL at h
   unfold Instr.fill
   split at h
   · cases h
   · rename_i off size hf
     rw [hf]
     split at h
     · rename_i hs
       have h1 : v.cells.size = size := by rw [← Array.length_toList]; exact hs.1
       have := fill_sound f rest _ cs h
       have hfold : Array.foldl (fun (cs : Array Value) (x : Value × Nat) => cs.setIfInBounds (off + x.2) x.1) cells.toArray v.cells.zipIdx = (setRange cells off v.cells.toList).toArray := by
         have h2 := fold_setRange off v.cells.toList 0 cells
         rw [Nat.add_zero] at h2
         rw [← h2, ← Array.foldl_toList, Array.toList_zipIdx]
       simp only [h1, ne_eq, not_true_eq_false, decide_false, Bool.false_or, List.size_toArray, gt_iff_lt, decide_eq_true_eq, Nat.not_lt.2 hs.2, Bool.false_eq_true, if_false]
       rw [hfold, this]
     · cases h
theorem build_sound {P : Program} {T : Nat → TI} (hT : AllFit P T) {t : Nat} {fs : List (Nat × Sh)} (hk : (T t).kind = .struct fs) {parts : List (Nat × Value)} {cs : List Value}
   (h : fillL (fun i => (fs[i]?).map fun f => (f.1, f.2.size)) (T t).zero parts = some cs) (w : World) :
   (Instr.build t parts.toArray).run P w = .ok (.agg cs.toArray) w := by
 have hne : (T t).kind ≠ .other := by rw [hk]; simp
 have hu := (hT t hne).1; rw [hk] at hu
 obtain ⟨F, hF, rfl, hall'⟩ := hu
 have hall := fields_of hall'
 obtain ⟨z, hz, hzc⟩ := run_zero' hT hne w
 have hmap : ∀ (l : List Field) (w : World), (∀ f ∈ l, (T f.type).kind ≠ .other ∧ (T f.type).size ≠ 0) →
     (l.mapM fun f => (do pure (f.offset, ← sizeOf f.type) : Sem (Nat × Nat))).run P w = .ok (l.map fun f => (f.offset, (T f.type).sh.size)) w := by
   intro l
   induction l with
   | nil => intro w _; rfl
   | cons f l ih =>
     intro w hl
     have h1 := run_sizeOf' hT (hl f (List.mem_cons_self ..)).1 w
     have h2 := ih w fun g hg => hl g (List.mem_cons_of_mem _ hg)
     simp only [List.mapM_cons, Sem.run_bind, h1, Result.andThen_ok, Sem.run_pure, h2, List.map_cons, TI.size]
 have hm := hmap F.toList w hall
 have hfs : ∀ i : Nat, ((F.toList.map fun f => (f.offset, (T f.type).sh.size)).toArray)[i]? = ((F.toList.map (fun f => (f.offset, (T f.type).sh)))[i]?).map fun (f : Nat × Sh) => (f.1, f.2.size) := by
   intro i; simp [List.getElem?_map, Function.comp_def]
 have hfill := fill_sound _ _ _ _ h
 have hmA : (F.mapM fun f => (do pure (f.offset, ← sizeOf f.type) : Sem (Nat × Nat))).run P w = .ok (F.toList.map fun f => (f.offset, (T f.type).sh.size)).toArray w := by
   rw [Array.mapM_eq_mapM_toList, Sem.run_map, hm]; rfl
 have hzt : z.cells = (T t).zero.toArray := by rw [← hzc]
 simp only [Instr.build, Sem.run_bind, hz, Result.andThen_ok, run_und hF, hmA, List.toList_toArray]
 rw [hzt]
 have hfs' : (fun x => (F.toList.map fun (f : Field) => (f.offset, (T f.type).sh.size)).toArray[x]?) = (fun i => ((F.toList.map (fun (f : Field) => (f.offset, (T f.type).sh)))[i]?).map fun (f : Nat × Sh) => (f.1, f.2.size)) := funext hfs
 rw [hfs', hfill]
 rfl
theorem build_arr_sound {P : Program} {T : Nat → TI} (hT : AllFit P T) {t n e : Nat} (hk : (T t).kind = .array n e) {parts : List (Nat × Value)} {cs : List Value}
   (h : fillL (fun i => some (i * (T e).size, (T e).size)) (T t).zero parts = some cs) (w : World) :
   (Instr.build t parts.toArray).run P w = .ok (.agg cs.toArray) w := by
 have hne : (T t).kind ≠ .other := by rw [hk]; simp
 have hu := (hT t hne).1; rw [hk] at hu
 obtain ⟨z, hz, hzc⟩ := run_zero' hT hne w
 have hfill := fill_sound _ _ _ _ h
 have hzt : z.cells = (T t).zero.toArray := by rw [← hzc]
 have hs := run_sizeOf' hT (TI.known_ne hu.2) w
 simp only [Instr.build, Sem.run_bind, hz, Result.andThen_ok, run_und hu.1, hs, List.toList_toArray]
 rw [hzt, hfill]
 rfl
theorem buildSlice_sound {P : Program} {T : Nat → TI} (hT : AllFit P T) {t len e : Nat} (hk : (T t).kind = .slice e) {parts : List (Nat × Value)} {cs : List Value}
   (h : fillL (fun i => some (i * (T e).size, (T e).size)) (repl len (T e).zero) parts = some cs) (hl : len * (T e).size ≤ 2 ^ 24) (w : World) :
   (Instr.buildSlice t len parts.toArray).run P w = .ok (.slice (some ⟨w.heap.size, 0, none⟩) len len) { w with heap := w.heap.push (.cells cs.toArray e (0, 0)) } := by
 have hu := (hT t (by rw [hk]; simp)).1; rw [hk] at hu
 obtain ⟨z, hz, hzc⟩ := run_zero' hT (TI.known_ne hu.2) w
 have hzl := (hT e (TI.known_ne hu.2)).2.2.1
 have hs := run_sizeOf' hT (TI.known_ne hu.2) w
 have hfill := fill_sound _ _ _ _ h
 have hzs : z.cells.size = (T e).size := by rw [← hzl, ← hzc, Array.length_toList]
 have hn : ¬ (16777216 < len * (T e).size) := by omega
 have hz' : (Array.range (len * (T e).size)).map (fun i => z.cells[i % z.cells.size]!) = (repl len (T e).zero).toArray := by
   rw [← hzs, ← hzc]; exact zero_repeat z.cells len
 by_cases h0 : len * (T e).size = 0
 · have hr : repl len (T e).zero = [] := List.eq_nil_of_length_eq_zero (by rw [repl_length, hzl]; exact h0)
   rw [hr] at hfill
   have hfill' : Instr.fill (fun i => some (i * (T e).size, (T e).size)) #[] parts = some cs.toArray := hfill
   have hr0 : (Array.range 0).map (fun _ : Nat => (default : Value)) = #[] := by simp
   simp [Instr.buildSlice, run_und hu.1, hs, h0]
   rw [hr0, hfill']
   rfl
 · simp [Instr.buildSlice, run_und hu.1, hs, hn, h0, hz, newRow]
   rw [hz', hfill]
   rfl
def Bodies (P : Program) (nf : Nat) : Prop := ∀ f, hasB nf f = true → ∃ fn, P.funcs[f]? = some fn ∧ fn.body.isNone = false ∧ (fn.name == "runtime.NumGoroutine") = false
def bodiesB (P : Program) (nf : Nat) : Bool := (List.range nf).all fun f => !Nat.blt 1 f || match P.funcs[f]? with
 | some fn => !fn.body.isNone && !(fn.name == "runtime.NumGoroutine")
 | none => false
theorem Bodies.of {P : Program} {nf : Nat} (h : bodiesB P nf = true) : Bodies P nf := by
 intro f hf
 simp only [hasB, Bool.and_eq_true] at hf
 have hlt : f < nf := by simpa [Nat.blt_eq] using hf.2
 have := List.all_eq_true.1 h f (List.mem_range.2 hlt)
 rw [hf.1] at this
 cases hfn : P.funcs[f]? with
 | none => rw [hfn] at this; simp at this
 | some fn => rw [hfn] at this; simp at this; exact ⟨fn, rfl, by simpa using this.1, by simpa using this.2⟩
theorem callFunc_sound {P : Program} {nf f : Nat} (hB : Bodies P nf) (hf : hasB nf f = true) (args : Array Value) (w : World) :
   (callFunc f args).run P w = .ok (.enter f args) w := by
 obtain ⟨fn, h1, h2, h3⟩ := hB f hf
 have h3' : ¬ fn.name = "runtime.NumGoroutine" := by simpa using h3
 have h2' : ¬ fn.body = none := by intro h; simp [h] at h2
 simp [callFunc, h1, h2', h3']
theorem TyRes.imp {l : List Sh} {v : Value} {H : Heap} {K : Value → Heap → Prop} (h : TyRes l fun v' => v = v' ∧ K v' H) : K v H := by
 obtain ⟨v', rfl, h⟩ := TyRes.out h; exact h
theorem cond_true {b : Bool} {q : Prop} (h : cond b q False) : b = true ∧ q := by cases b; exact h.elim; exact ⟨rfl, h⟩
theorem callV_sound {P : Program} {nf : Nat} (hB : Bodies P nf) {v : Value} {args : List Value} {w : World} {K : Value → Heap → Prop}
   (h : CallV P nf v args w.heap K) : OpOK P (do let d ← Deferred.ofValue v args.toArray; invoke d.target d.args) w K := by
 unfold CallV at h
 split at h
 · rename_i f first cap
   obtain ⟨hf, h⟩ := cond_true h
   refine .inr (.inr ⟨f, first ++ args.toArray ++ cap, w, ?_, Same.refl w, ?_⟩)
   · simp [Deferred.ofValue, invoke, callFunc_sound hB hf]
   · simpa using h
 · exact h.elim
theorem len_sound {P : Program} {T : Nat → TI} (hT : AllFit P T) {t ty n e : Nat} (hk : (T t).kind = .slice e) (rest : List Nat) (A : Option Addr) (c : Nat) (w : World) :
   (Builtin.len_ (t :: rest).toArray ty #[.slice A n c]).run P w = .ok (.int .i64 n) w := by
 have hu := (hT t (by rw [hk]; simp)).1; rw [hk] at hu
 simp [Builtin.len_, run_und hu.1, goInt]
set_option maxHeartbeats 1000000 in
theorem builtin_sound {P : Program} {T : Nat → TI} (hT : AllFit P T) {b : Builtin} {ts : List Nat} {args : List Value} {ty : Nat} {consts : Array Bool} {w : World} {K : Value → Heap → Prop}
   (h : sxBuiltin P T b ts args w.heap K) : OpOK P (builtin b ts.toArray ty consts args.toArray) w K := by
 unfold sxBuiltin at h
 split at h
 · split at h
   · split at h
     · rename_i hk
       exact OpOK.pureV (len_sound hT hk _ _ _ w) h
     · exact h.elim
   · exact h.elim
 · split at h
   · split at h
     · rename_i t rest _ hk
       obtain ⟨es, clock, hr, h⟩ := h
       have hu := (hT t (by rw [hk]; simp)).1; rw [hk] at hu
       obtain ⟨k, e, hu⟩ := hu
       exact OpOK.pureV (v := .int .i64 es.size) (by simp [Builtin.len_, run_und hu, goInt, getObj, Sem.run, hr]) h
     · exact h.elim
   · exact h.elim
 · split at h
   · split at h
     · rename_i t rest _ hk
       have hu := (hT t (by rw [hk]; simp)).1; rw [hk] at hu
       exact OpOK.pureV (v := .int .i64 _) (by simp [Builtin.len_, run_und hu, goInt]) h
     · exact h.elim
   · exact h.elim
 · exact OpOK.pureV (by simp [Builtin.min_, Builtin.min2]) h
 · exact OpOK.pureV (by simp [Builtin.max_, Builtin.max2]) h
 · split at h
   · split at h
     · rename_i t u _ e hk
       split at h
       · rename_i hku
         exact OpOK.val (append_sound hT hk hku h)
       · rename_i hku
         obtain ⟨h0, h1, h2, h⟩ := h
         exact OpOK.val (append_make_sound hT hk hku h0 h1 h2 h)
       · exact h.elim
     · exact h.elim
   · exact h.elim
 · split at h
   · split at h
     · rename_i t rest _ e hk
       exact OpOK.val (copy_sound hT hk h rest)
     · exact h.elim
   · exact h.elim
 · exact h.elim
theorem fieldAddr_sound {P : Program} {T : Nat → TI} (hT : AllFit P T) {s : Nat} {fs : List (Nat × Sh)} (hk : (T s).kind = .struct fs) {f off : Nat} {sh : Sh} (hf : fs[f]? = some (off, sh)) (a : Addr) (w : World) :
   (Instr.fieldAt s (.pointer (some a)) f).run P w = .ok (.pointer (some (a.add off))) w := by
 have hu := (hT s (by rw [hk]; simp)).1; rw [hk] at hu
 obtain ⟨F, hF, rfl, hall'⟩ := hu
 have hall := fields_of hall'
 rw [List.getElem?_map] at hf
 cases hFf : F.toList[f]? with
 | none => rw [hFf] at hf; simp at hf
 | some fd =>
   rw [hFf] at hf
   simp only [Option.map_some, Option.some.injEq, Prod.mk.injEq] at hf
   obtain ⟨rfl, rfl⟩ := hf
   have hmem := hall fd (List.mem_of_getElem? hFf)
   have hs := run_sizeOf' hT hmem.1 w
   have hFf' : F[f]? = some fd := by rwa [Array.getElem?_toList] at hFf
   simp [Instr.fieldAt, run_und hF, hFf', Instr.sureAddr, fieldPlace, hs, hmem.2]
def FieldIs (sh : Sh) (off : Nat) (cs : Array Value) (v : Value) : Prop :=
 match sh with
 | .one _ => cs.toList[off]? = some v
 | .agg l => v = .agg ((cs.toList.drop off).take l.length).toArray
theorem field_sound {P : Program} {T : Nat → TI} (hT : AllFit P T) {s : Nat} {fs : List (Nat × Sh)} (hk : (T s).kind = .struct fs) {f off : Nat} {sh : Sh} (hf : fs[f]? = some (off, sh)) (cs : Array Value) {v : Value}
   (hv : FieldIs sh off cs v) (w : World) :
   (Instr.field s (.agg cs) f).run P w = .ok v w := by
 have hu := (hT s (by rw [hk]; simp)).1; rw [hk] at hu
 obtain ⟨F, hF, rfl, hall'⟩ := hu
 have hall := fields_of hall'
 rw [List.getElem?_map] at hf
 cases hFf : F.toList[f]? with
 | none => rw [hFf] at hf; simp at hf
 | some fd =>
   rw [hFf] at hf
   simp only [Option.map_some, Option.some.injEq, Prod.mk.injEq] at hf
   obtain ⟨rfl, rfl⟩ := hf
   have hmem := hall fd (List.mem_of_getElem? hFf)
   have hs := run_sizeOf' hT hmem.1 w
   have ha := run_isAgg' hT hmem.1 w
   have hFf' : F[f]? = some fd := by rwa [Array.getElem?_toList] at hFf
   simp only [Instr.field, Sem.run_bind, run_und hF, Result.andThen_ok, hFf', asAgg, Sem.run_pure, part, ha]
   cases hsh : (T fd.type).sh with
   | one s1 =>
     rw [hsh] at hv
     simp only [FieldIs] at hv
     simp only [Sh.isAgg, Bool.false_eq_true, if_false]
     rw [Array.getElem?_toList] at hv
     rw [hv]; rfl
   | agg l =>
     rw [hsh] at hv
     simp only [FieldIs] at hv
     have hsz : (T fd.type).size = l.length := by rw [TI.size, hsh]; rfl
     simp only [Sh.isAgg, if_true, Sem.run_bind, hs, Result.andThen_ok, Sem.run_pure, hv, hsz]
     congr 2
     apply Array.ext'
     simp [Array.toList_extract, List.drop_take]
theorem index_val_sound {P : Program} {T : Nat → TI} (hT : AllFit P T) {t n e : Nat} (hk : (T t).kind = .array n e) {s : S1} (hs1 : (T e).sh = .one s) {cs : Array Value} {k : IntKind} {i : Int} {v : Value}
   (h0 : 0 ≤ i) (h1 : i < (n : Int)) (hv : cs.toList[i.toNat]? = some v) (w : World) : (Instr.index t (.agg cs) (.int k i)).run P w = .ok v w := by
 have hu := (hT t (by rw [hk]; simp)).1; rw [hk] at hu
 have hs := run_sizeOf' hT (TI.known_ne hu.2) w
 have ha := run_isAgg' hT (TI.known_ne hu.2) w
 have hsz : (T e).size = 1 := by rw [TI.size, hs1]; rfl
 rw [Array.getElem?_toList] at hv
 simp [Instr.index, asIntOf, run_und hu.1, h0, h1, hs, hsz, part, ha, hs1, Sh.isAgg, hv]
theorem map_ops (ρ : Operand → Value) (l : Array Operand) : l.map ρ = (l.toList.map ρ).toArray := by apply Array.ext'; simp
theorem map_parts (ρ : Operand → Value) (l : Array (Nat × Operand)) : l.map (fun (i, x) => (i, ρ x)) = (l.toList.map fun p => (p.1, ρ p.2)).toArray := by apply Array.ext'; simp
set_option maxHeartbeats 1000000 in
theorem call_sound {P : Program} {T : Nat → TI} {R : Nat → List Sh} {nf : Nat} (hT : AllFit P T) (hB : Bodies P nf) {ty : Nat} {ρ : Operand → Value} {w : World} {c : Call} {K : Value → Heap → Prop}
   (h : sxCall P T R nf ty ρ w.heap c K) (hρ : ∀ f, ρ (.func f) = .func (.func f) #[] #[]) : OpOK P (do let d ← resolve ρ c ty; invoke d.target d.args) w K := by
 unfold sxCall at h
 split at h
 · rename_i b hb
   simp only [resolve, hb, pure_bind]
   simp only [invoke]
   rw [map_ops]
   exact builtin_sound (ts := c.argTypes.toList) hT h
 · rename_i f hb
   simp only [resolve, hb]
   obtain ⟨hf, h⟩ := cond_true h
   rw [map_ops]
   refine callV_sound hB (K := K) ?_
   rw [hρ]
   unfold CallV
   simp only [hf, cond]
   simpa using h.mono fun v H' hv => hv.imp
 · rename_i x _ hb
   simp only [resolve, hb]
   rw [map_ops]
   refine callV_sound hB (K := K) ?_
   unfold CallV at h ⊢
   split at h
   · obtain ⟨hf, h⟩ := cond_true h
     simp only [hf, cond]
     exact h.mono fun v H' hv => hv.imp
   · exact h.elim
 · exact h.elim
theorem pv {P : Program} {s : Sem Value} {κ : Value → Prop} {v : Value} (hr : ∀ w : World, s.run P w = .ok v w) (hk : κ v) :
   ∃ v, κ v ∧ ∀ w : World, (do pure (.value (← s)) : Sem Next).run P w = .ok (.value v) w := ⟨v, hk, fun w => by simp [hr w]⟩
def pureOp (T : Nat → TI) : Op → Bool
 | .move _ | .assign _ | .pick .. | .nilCheck _ | .unOp .. | .convert .. | .makeFunc .. | .slice .. | .fieldAddr .. | .field .. | .indexAddr .. | .index .. | .extract .. | .build .. | .binOp .. => true
 | .call { callee := .builtin .len, argTypes, .. } => match argTypes.toList with
   | t :: _ => match (T t).kind with
     | .slice _ => true
     | .str => true
     | _ => false
   | _ => false
 | .call { callee := .builtin .min, .. } => true
 | .call { callee := .builtin .max, .. } => true
 | _ => false
theorem pureBuiltin_sound {P : Program} {T : Nat → TI} (hT : AllFit P T) {b : Builtin} {ts : List Nat} {args : List Value} {ty : Nat} {consts : Array Bool} {H : Heap} {K : Value → Heap → Prop}
   (hb : b = .min ∨ b = .max ∨ (b = .len ∧ ∃ t rest, ts = t :: rest ∧ ((∃ e, (T t).kind = .slice e) ∨ (T t).kind = .str)))
   (h : sxBuiltin P T b ts args H K) : ∃ v, K v H ∧ ∀ w, (builtin b ts.toArray ty consts args.toArray).run P w = .ok (.value v) w := by
 unfold sxBuiltin at h
 split at h
 · split at h
   · split at h
     · rename_i hk
       exact pv (len_sound hT hk _ _ _) h
     · exact h.elim
   · exact h.elim
 · rcases hb with hb | hb | ⟨hb, t, rest, rfl, hk⟩ <;> try (cases hb; done)
   rcases hk with ⟨e, hk⟩ | hk <;> simp [hk] at h
 · split at h
   · split at h
     · rename_i t rest _ hk
       have hu := (hT t (by rw [hk]; simp)).1; rw [hk] at hu
       exact pv (v := .int .i64 _) (fun w => by simp [Builtin.len_, run_und hu, goInt]) h
     · exact h.elim
   · exact h.elim
 · exact pv (fun w => by simp [Builtin.min_, Builtin.min2]) h
 · exact pv (fun w => by simp [Builtin.max_, Builtin.max2]) h
 · rcases hb with hb | hb | ⟨hb, _⟩ <;> cases hb
 · rcases hb with hb | hb | ⟨hb, _⟩ <;> cases hb
 · exact h.elim
set_option maxHeartbeats 2000000 in
theorem pure_sound {P : Program} {T : Nat → TI} {R : Nat → List Sh} {nf : Nat} (hT : AllFit P T) (hB : Bodies P nf) {o : Oper} {ρ : Operand → Value} {H : Heap} {K : Value → Heap → Prop}
   (hp : pureOp T o.op = true) (h : sxOp P T R nf o.type ρ H K o.op) : ∃ v, K v H ∧ ∀ w, (execOp ρ o).run P w = .ok (.value v) w := by
 obtain ⟨dst, op, ty, pos, after, guard⟩ := o
 simp only at h hp
 have known : ∀ {t : Nat}, (T t).known = true → (T t).kind ≠ .other := fun {t} hk hn => by simp [TI.known, hn] at hk
 cases op <;> simp only [sxOp] at h <;> try (first | exact h.elim | (cases hp; done))
 case move x => exact ⟨_, h, fun w => rfl⟩
 case assign x => exact ⟨_, h, fun w => rfl⟩
 case pick c a b =>
   split at h
   · rename_i t x y hc ha hb
     refine ⟨_, h, fun w => ?_⟩
     cases t <;> simp [execOp, hc, ha, hb, asBool]
   · rename_i t hc _
     cases t
     · exact ⟨_, h, fun w => by simp [execOp, hc, asBool]⟩
     · exact ⟨_, h, fun w => by simp [execOp, hc, asBool]⟩
   · exact h.elim
 case build t parts =>
   simp only [execOp]
   rw [map_parts]
   split at h
   · rename_i fs hk
     split at h
     · rename_i cs hf
       exact pv (build_sound hT hk hf) h
     · exact h.elim
   · rename_i n e hk
     split at h
     · rename_i cs hf
       exact pv (build_arr_sound hT hk hf) h
     · exact h.elim
   · exact h.elim
 case nilCheck x =>
   simp only [execOp]
   split at h
   · rename_i a ha; rw [ha]; exact ⟨_, h, fun w => rfl⟩
   · rename_i f a b ha; rw [ha]; exact ⟨_, h, fun w => rfl⟩
   · exact h.elim
 case binOp op t x y yt => exact (by obtain ⟨v, hr, hv⟩ := bin_sound hT h; exact pv hr hv)
 case unOp op t x =>
   simp only [execOp]
   split at h
   · rename_i b hb; rw [hb]; exact pv (fun w => by simp [Op.unary]) h
   · rename_i k n hb; rw [hb]; exact pv (v := .int k (k.wrap (0 - n))) (fun w => by simp [Op.unary, Op.intArith]) h
   · exact h.elim
 case convert s d x =>
   simp only [execOp]
   split at h
   · rename_i k1 k k2 n hs hd hx
     have hu := (hT d (by rw [hd]; simp)).1; rw [hd] at hu
     have hu1 := (hT s (by rw [hs]; simp)).1; rw [hs] at hu1
     rw [hx]
     exact pv (fun w => by simp [convert, run_und hu, run_und hu1, Conv.intToInt]) h
   · exact h.elim
 case makeFunc fn first cap =>
   simp only [execOp]
   rw [map_ops, map_ops]
   exact pv (fun w => rfl) h
 case slice t x lo hi mx =>
   cases mx <;> simp only at h
   · simp only [execOp]
     split at h
     · rename_i e A n c hk hx
       obtain ⟨v, hr, hv⟩ := slice_sound hT hk h
       rw [hx]
       exact pv hr hv
     · rename_i n e a hk hx
       obtain ⟨v, hr, hv⟩ := slice_arr_sound hT hk h
       rw [hx]
       exact pv hr hv
     · exact h.elim
 case fieldAddr s x f =>
   simp only [execOp]
   split at h
   · rename_i fs a hk hx
     split at h
     · rename_i off sh hf
       rw [hx]
       exact pv (fieldAddr_sound hT hk hf a) h
     · exact h.elim
   · exact h.elim
 case field s x f =>
   simp only [execOp]
   split at h
   · rename_i fs cs hk hx
     split at h
     · rename_i off s1 hf
       split at h
       · rename_i v hv
         rw [hx]
         exact pv (field_sound hT hk hf cs (v := v) hv) h
       · exact h.elim
     · rename_i off l hf
       rw [hx]
       exact pv (field_sound hT hk hf cs (v := _) rfl) h
     · exact h.elim
   · exact h.elim
 case indexAddr t x i =>
   simp only [execOp]
   split at h
   · rename_i e A n c k i' hk hx hi
     obtain ⟨a, rfl, h0, h1, h⟩ := h
     rw [hx, hi]
     exact pv (index_sound hT hk h0 h1) h
   · rename_i n e a k i' hk hx hi
     obtain ⟨h0, h1, h⟩ := h
     rw [hx, hi]
     exact pv (index_arr_sound hT hk h0 h1) h
   · exact h.elim
 case index t x i =>
   simp only [execOp]
   split at h
   · rename_i n e cs k i' hk hx hi
     split at h
     · rename_i s1 hs1
       obtain ⟨h0, h1, h⟩ := h
       obtain ⟨v, hv, h⟩ := TyEx.out h
       rw [hx, hi]
       exact pv (index_val_sound hT hk hs1 h0 h1 hv) h
     · exact h.elim
   · exact h.elim
 case extract x i =>
   simp only [execOp]
   split at h
   · rename_i vs hx
     split at h
     · rename_i v hv
       rw [hx]
       rw [Array.getElem?_toList] at hv
       exact pv (fun w => by simp [Instr.extract, hv]) h
     · exact h.elim
   · exact h.elim
 case call c =>
   obtain ⟨callee, args, argTypes⟩ := c
   cases callee <;> try (cases hp; done)
   rename_i b
   have hb : b = .min ∨ b = .max ∨ (b = .len ∧ ∃ t rest, argTypes.toList = t :: rest ∧ ((∃ e, (T t).kind = .slice e) ∨ (T t).kind = .str)) := by
     cases b <;> try (cases hp; done)
     · refine .inr (.inr ⟨rfl, ?_⟩)
       simp only [pureOp] at hp
       split at hp
       · rename_i t rest ht
         refine ⟨t, rest, ht, ?_⟩
         split at hp
         · rename_i e hk; exact .inl ⟨e, hk⟩
         · rename_i hk; exact .inr hk
         · cases hp
       · cases hp
     · exact .inr (.inl rfl)
     · exact .inl rfl
   simp only [sxCall] at h
   simp only [execOp, resolve, pure_bind]
   simp only [invoke]
   rw [map_ops]
   exact pureBuiltin_sound (ts := argTypes.toList) hT hb h
set_option maxHeartbeats 2000000 in
theorem op_sound {P : Program} {T : Nat → TI} {R : Nat → List Sh} {nf : Nat} (hT : AllFit P T) (hB : Bodies P nf) {o : Oper} {ρ : Operand → Value} {w : World} {K : Value → Heap → Prop}
   (h : sxOp P T R nf o.type ρ w.heap K o.op) (hρ : ∀ f, ρ (.func f) = .func (.func f) #[] #[]) : OpOK P (execOp ρ o) w K := by
 obtain ⟨dst, op, ty, pos, after, guard⟩ := o
 simp only at h
 have known : ∀ {t : Nat}, (T t).known = true → (T t).kind ≠ .other := fun {t} hk hn => by simp [TI.known, hn] at hk
 by_cases hp : pureOp T op = true
 · obtain ⟨v, hv, hr⟩ := pure_sound (o := ⟨dst, op, ty, pos, after, guard⟩) hT hB hp h
   exact .inl ⟨v, w, hr w, Same.refl w, hv⟩
 cases op <;> try (exact absurd rfl hp)
 all_goals simp only [sxOp] at h
 all_goals try exact h.elim
 case alloc e =>
   cases hk : (T e).known <;> rw [hk] at h
   · exact h.elim
   · obtain ⟨z, hz, hzc⟩ := run_zero' hT (known hk) w
     refine OpOK.val ⟨_, { w with heap := w.heap.push (.cells (T e).zero.toArray e (0, 0)) }, ?_, ⟨rfl, rfl, rfl⟩, h⟩
     have hzt : z.cells = (T e).zero.toArray := by rw [← hzc]
     simp [Instr.alloc, hz, newVar, newRow, hzt]
 case box e x => exact OpOK.val ⟨_, { w with heap := w.heap.push (.cells (ρ x).cells e (0, 0)) }, by simp [Instr.box, newVar, newRow], ⟨rfl, rfl, rfl⟩, h⟩
 case buildSlice t len parts =>
   simp only [execOp]
   rw [map_parts]
   split at h
   · rename_i e hk
     split at h
     · rename_i cs hf
       obtain ⟨hl, h⟩ := cond_true h
       have hl := Nat.le_of_ble_eq_true hl
       exact OpOK.val ⟨_, _, buildSlice_sound hT hk hf hl w, ⟨rfl, rfl, rfl⟩, h⟩
     · exact h.elim
   · exact h.elim
 case load t x =>
   simp only [execOp]
   split at h
   · rename_i a ha
     cases hk : (T t).known <;> rw [hk] at h
     · exact h.elim
     · obtain ⟨v, hv, hst, hr⟩ := load_sound hT (known hk) h
       rw [ha]
       exact OpOK.pureV (hr w hst) hv
   · exact h.elim
 case store t x y =>
   simp only [execOp]
   split at h
   · rename_i a ha
     cases hk : (T t).known <;> rw [hk] at h
     · exact h.elim
     · rw [ha]
       exact OpOK.unit (store_sound hT (known hk) h)
   · exact h.elim
 case makeMap t r =>
   cases r <;> simp only at h
   exact OpOK.val ⟨_, { w with heap := w.heap.push (.map #[] 0) }, by simp [Instr.makeMap], ⟨rfl, rfl, rfl⟩, h⟩
 case makeSlice t l c =>
   simp only [execOp]
   split at h
   · rename_i e kl n kc m hk hl hc
     obtain ⟨h0, h1, h2, h3, h⟩ := h
     rw [hl, hc]
     exact OpOK.val ⟨_, _, make_sound hT hk h0 h1 h2 h3 w, ⟨rfl, rfl, rfl⟩, h⟩
   · exact h.elim
 case lookup t m k ok => exact OpOK.val (by obtain ⟨v, w', hr, hs, hk⟩ := h w rfl; exact ⟨v, w', hr, hs, hk.imp⟩)
 case mapUpdate t m k v => exact OpOK.unit (h w rfl)
 case insert t m k v => exact OpOK.unit (h w rfl)
 case mapEntry t m k => exact OpOK.val (by obtain ⟨v, w', hr, hs, hk⟩ := h w rfl; exact ⟨v, w', hr, hs, hk.imp⟩)
 case entryStore t m s v => exact OpOK.unit (h w rfl)
 case call c => exact call_sound hT hB h hρ
def evL (τ : List Value) : Operand → Value
 | .tmp t => τ.getD t undef
 | .const v => v
 | .global g => .pointer (some ⟨g, 0, none⟩)
 | .func f => .func (.func f) #[] #[]
def putL (τ : List Value) (d : Option Tmp) (v : Value) : List Value :=
 match d with
 | some d => τ.set d v
 | none => τ
theorem evL_eq (τ : List Value) (x : Operand) : (Act.mk τ.toArray []).eval x = evL τ x := by
 cases x <;> simp [Act.eval, evL, List.getD]
theorem evL_fun (τ : List Value) : (Act.mk τ.toArray []).eval = evL τ := funext (evL_eq τ)
theorem putL_eq (τ : List Value) (d : Option Tmp) (v : Value) : (Act.mk τ.toArray []).put d v = Act.mk (putL τ d v).toArray [] := by
 cases d <;> simp [Act.put, putL]
abbrev Kont := List Value → Heap → Prop
inductive Plan where
 | done
 | first (i : Nat) (p : Plan)
 | read (i : Nat) (p : Plan)
 | alt (i : Nat) (drop : List Nat) (p rest : Plan)
 | stop
structure Ann where
 loops : Nat → List (Nat × S1)
 plans : Nat → Plan
section
variable (P : Program) (T : Nat → TI) (R : Nat → List Sh) (nf : Nat) (A : Ann)
def guarded (ops : List Oper) (τ : List Value) (o : Oper) (run : List Value → Prop) (skip : List Value → Prop) : Prop :=
 match o.guard with
 | none => run τ
 | some (j, want) => match (ops[j]?).bind (·.dst) with
   | none => False
   | some d => match τ.getD d undef with
     | .bool b => match want with
       | true => cond b (run (τ.set d (.bool true))) (skip (τ.set d (.bool false)))
       | false => cond b (skip (τ.set d (.bool true))) (run (τ.set d (.bool false)))
     | .tuple _ => skip τ
     | _ => False
def sxOps (ops : List Oper) : List Oper → Kont → Kont
 | [], K, τ, H => K τ H
 | o :: rest, K, τ, H => guarded ops τ o
     (fun τ => sxOp P T R nf o.type (evL τ) H (fun v H' => sxOps ops rest K (putL τ o.dst v) H') o.op)
     (fun τ => sxOps ops rest K (putL τ o.dst undef) H)
def heldAll (drop : List Nat) (H : Heap) (R : Prop) : List (Nat × (Heap → Prop → Prop)) → Prop
 | [] => R
 | (j, C) :: l => cond (drop.contains j) (heldAll drop H R l) (C H (heldAll drop H R l))
def dropHeld (drop : List Nat) (l : List (Nat × (Heap → Prop → Prop))) : List (Nat × (Heap → Prop → Prop)) := l.filter fun p => !drop.contains p.1
def isStop : Plan → Bool
 | .stop => true
 | _ => false
def sxPlan (ops : List Oper) (K : Kont) : Plan → List (Nat × (Heap → Prop → Prop)) → List Value → Heap → Prop
 | .done, _, τ, H => K τ H
 | .stop, _, _, _ => True
 | .first i p, held, τ, H => match ops[i]? with
   | none => False
   | some o => guarded ops τ o
     (fun τ => sxOp P T R nf o.type (evL τ) H (fun v H' => sxPlan ops K p held (putL τ o.dst v) H') o.op)
     (fun τ => sxPlan ops K p held (putL τ o.dst undef) H)
 | .read i p, held, τ, H => match ops[i]? with
   | none => False
   | some o => guarded ops τ o
     (fun τ => match o.op with
       | .load t x => match evL τ x with
         | .pointer (some a) => cond (T t).known (LoadH (T t).sh H a fun v => sxPlan ops K p ((i, fun H' R => StillP (T t).sh a v H' R) :: held) (putL τ o.dst v) H) False
         | _ => False
       | _ => False)
     (fun τ => sxPlan ops K p held (putL τ o.dst undef) H)
 | .alt i drop p rest, held, τ, H => match ops[i]? with
   | none => False
   | some o => cond (isStop rest)
     (guarded ops τ o
       (fun τ => sxOp P T R nf o.type (evL τ) H (fun v H' => heldAll drop H' (sxPlan ops K p (dropHeld drop held) (putL τ o.dst v) H') held) o.op)
       (fun τ => sxPlan ops K p (dropHeld drop held) (putL τ o.dst undef) H))
     ((guarded ops τ o
       (fun τ => sxOp P T R nf o.type (evL τ) H (fun v H' => heldAll drop H' (sxPlan ops K p (dropHeld drop held) (putL τ o.dst v) H') held) o.op)
       (fun τ => sxPlan ops K p (dropHeld drop held) (putL τ o.dst undef) H)) ∧ sxPlan ops K rest held τ H)
def dsts (ops : List Oper) : List Tmp := ops.filterMap (·.dst)
def wr : Code → List Tmp
 | .region _ ops _ => dsts ops.toList
 | .seq a b => wr a ++ wr b
 | .cond _ a b => wr a ++ wr b
 | .block _ b => wr b
 | .loop b => wr b
 | .scope b => wr b
 | _ => []
def firstRegion : Code → Nat
 | .region id _ _ => id
 | .seq a _ => firstRegion a
 | .block _ b => firstRegion b
 | .loop b => firstRegion b
 | _ => 0
def orr (a b : Nat) : Nat := match a with
 | 0 => b
 | a => a
def lastRegion : Code → Nat
 | .region id _ _ => id
 | .seq a b => orr (lastRegion b) (lastRegion a)
 | .cond _ a b => orr (lastRegion b) (lastRegion a)
 | .block _ b => lastRegion b
 | .loop b => lastRegion b
 | _ => 0
def loopKey (b : Code) : Nat := firstRegion b * 4096 + lastRegion b
def S1.Ty : S1 → Type
 | .int _ => Int
 | .bool => Bool
 | .str => ByteArray
 | .slice => Option Addr × Nat × Nat
 | .ptr => Addr
 | .map => Nat
 | .func => Nat × Array Value × Array Value
 | .any => Value
def S1.emb : (s : S1) → s.Ty → Value
 | .int k, (x : Int) => .int k x
 | .bool, (b : Bool) => .bool b
 | .str, (s : ByteArray) => .string s
 | .slice, (x : Option Addr × Nat × Nat) => .slice x.1 x.2.1 x.2.2
 | .ptr, (a : Addr) => .pointer (some a)
 | .map, (r : Nat) => .map (some r)
 | .func, (x : Nat × Array Value × Array Value) => .func (.func x.1) x.2.1 x.2.2
 | .any, (v : Value) => v
def S1.proj (s : S1) (v : Value) (κ : s.Ty → Prop) : Prop :=
 match s, κ with
 | .int k, κ => match v with | .int k' x => cond (decide (k' = k)) (κ x) False | _ => False
 | .bool, κ => match v with | .bool b => κ b | _ => False
 | .str, κ => match v with | .string b => κ b | _ => False
 | .slice, κ => match v with | .slice A n c => κ (A, n, c) | _ => False
 | .ptr, κ => match v with | .pointer (some a) => κ a | _ => False
 | .map, κ => match v with | .map (some r) => κ r | _ => False
 | .func, κ => match v with | .func (.func f) a b => κ (f, a, b) | _ => False
 | .any, κ => κ v
theorem S1.proj_spec {s : S1} {v : Value} {κ : s.Ty → Prop} (h : s.proj v κ) : ∃ x, v = s.emb x ∧ κ x := by
 cases s
 case int k => simp only [S1.proj] at h; split at h; · obtain ⟨rfl, h⟩ := cond_dec h; exact ⟨_, rfl, h⟩
               · exact h.elim
 case bool => simp only [S1.proj] at h; split at h; · exact ⟨_, rfl, h⟩
              · exact h.elim
 case str => simp only [S1.proj] at h; split at h; · exact ⟨_, rfl, h⟩
             · exact h.elim
 case slice => simp only [S1.proj] at h; split at h; · exact ⟨_, rfl, h⟩
               · exact h.elim
 case ptr => simp only [S1.proj] at h; split at h; · exact ⟨_, rfl, h⟩
             · exact h.elim
 case map => simp only [S1.proj] at h; split at h; · exact ⟨_, rfl, h⟩
             · exact h.elim
 case func => simp only [S1.proj] at h; split at h; · exact ⟨_, rfl, h⟩
              · exact h.elim
 case any => exact ⟨v, rfl, h⟩
def LTy : List (Nat × S1) → Type
 | [] => Unit
 | [(_, s)] => s.Ty
 | (_, s) :: l => s.Ty × LTy l
def embL : (l : List (Nat × S1)) → LTy l → List Value → List Value
 | [], _, τ => τ
 | [(n, s)], x, τ => τ.set n (s.emb x)
 | (n, s) :: a :: l, x, τ => embL (a :: l) x.2 (τ.set n (s.emb x.1))
def projL : (l : List (Nat × S1)) → List Value → (LTy l → Prop) → Prop
 | [], _, κ => κ ()
 | [(n, s)], τ, κ => s.proj (τ.getD n undef) κ
 | (n, s) :: a :: l, τ, κ => s.proj (τ.getD n undef) fun x => projL (a :: l) τ fun y => κ (x, y)
def junk (z : Nat → Value) : List Nat → List Value → List Value
 | [], τ => τ
 | n :: ns, τ => junk z ns (τ.set n (z n))
def LoopI {σ : Type} (init : (σ → Heap → Prop) → Prop) (step : σ → (Nat → Value) → Heap → (σ → Heap → Prop) → Prop) : Prop :=
 ∃ I : Nat → σ → Heap → Prop, (∃ n, init (I n)) ∧ ∀ n s z H, I n s H → step s z H fun s' H' => ∃ n', n' < n ∧ I n' s' H'
def sx : Code → Kont → (Nat → Kont) → Kont → Kont
 | .skip, Kn, _, _, τ, H => Kn τ H
 | .label _, Kn, _, _, τ, H => Kn τ H
 | .region _ ops false, Kn, _, _, τ, H => sxOps P T R nf ops.toList ops.toList Kn τ H
 | .region id ops true, Kn, _, _, τ, H => sxPlan P T R nf ops.toList Kn (A.plans id) [] τ H
 | .seq a b, Kn, E, Rt, τ, H => sx a (sx b Kn E Rt) E Rt τ H
 | .cond c x y, Kn, E, Rt, τ, H => match evL τ c with
   | .bool t => cond t (sx x Kn E Rt τ H) (sx y Kn E Rt τ H)
   | _ => False
 | .block id b, Kn, E, Rt, τ, H => sx b Kn (fun j => cond (Nat.beq j id) Kn (E j)) Rt τ H
 | .loop b, _, E, Rt, τ, H => LoopI (σ := LTy (A.loops (loopKey b))) (fun κ => projL (A.loops (loopKey b)) τ fun s => κ s H)
     fun s z H next => sx b (fun τ' H' => projL (A.loops (loopKey b)) τ' fun s' => next s' H') E Rt (embL (A.loops (loopKey b)) s (junk z (wr b) τ)) H
 | .exit id, _, E, _, τ, H => E id τ H
 | .ret, _, _, Rt, τ, H => Rt τ H
 | _, _, _, _, _, _ => False
def resL : List ResultVar → List Value → Heap → (List Value → Prop) → Prop
 | [], _, _, κ => κ []
 | .tmp t :: l, τ, H, κ => resL l τ H fun vs => κ (τ.getD t undef :: vs)
 | .cell a t :: l, τ, H, κ => match τ.getD a undef with
   | .pointer (some a) => cond (T t).known (LoadH (T t).sh H a fun v => resL l τ H fun vs => κ (v :: vs)) False
   | _ => False
def one : List Value → Value
 | [v] => v
 | vs => .tuple vs.toArray
def sxFn (rs : List ResultVar) (body : Code) (frame : List Value) (H : Heap) (K : Value → Heap → Prop) : Prop :=
 sx P T R nf A body (fun τ H => resL T rs τ H fun vs => K (one vs) H) (fun _ _ _ => False) (fun τ H => resL T rs τ H fun vs => K (one vs) H) frame H
end
section
variable {P : Program} {T : Nat → TI} {R : Nat → List Sh} {nf : Nat} {A : Ann}
theorem wp_of_ok {o : Oper} {a : Act} {w : World} {K : Value → Heap → Prop} {next : Act → World → Prop} {Q : Exit → Act → World → Prop}
   (h : OpOK P (execOp a.eval o) w K) (hn : ∀ v w', Same w w' → K v w'.heap → next (a.put o.dst v) w') : o.wp P a w next Q := by
 unfold Oper.wp
 rcases h with ⟨v, w', hr, hs, hk⟩ | ⟨w', hr, hs, hk⟩ | ⟨f, args, w', hr, hs, hk⟩
 · rw [hr]; exact hn v w' hs hk
 · rw [hr]; exact hn undef w' hs hk
 · rw [hr]
   refine (hk w' rfl).mono ?_
   rintro e w'' ⟨v, rfl, hs', hv⟩
   exact hn v w'' (hs.trans hs') hv
def act (τ : List Value) : Act := ⟨τ.toArray, []⟩
theorem act_put (τ : List Value) (d : Option Tmp) (v : Value) : (act τ).put d v = act (putL τ d v) := putL_eq τ d v
theorem act_eval (τ : List Value) : (act τ).eval = evL τ := evL_fun τ
theorem set_same {τ : List Value} {d : Nat} {v : Value} (h : τ[d]? = some v) : τ.set d v = τ := by
 apply List.ext_getElem?
 intro i
 rw [List.getElem?_set]
 split
 · rename_i hi; subst hi
   split
   · exact h.symm
   · rename_i hl; rw [List.getElem?_eq_none (by omega)] at h; cases h
 · rfl
theorem guarded_cases {ops : Array Oper} {τ : List Value} {o : Oper} {run skip : List Value → Prop} (h : guarded ops.toList τ o run skip) :
   (Region.wanted o (yielded ops (act τ).tmps) = true ∧ run τ) ∨ (Region.wanted o (yielded ops (act τ).tmps) = false ∧ skip τ) := by
 unfold guarded at h
 unfold Region.wanted
 split at h
 · rename_i hg; rw [hg]; exact .inl ⟨rfl, h⟩
 · rename_i j want hg
   rw [hg]
   split at h
   · exact h.elim
   · rename_i d hd
     rw [Array.getElem?_toList] at hd
     split at h
     · rename_i b hb
       have hb' : τ[d]? = some (.bool b) := by
         cases hq : τ[d]? with
         | none => simp [List.getD, hq, undef] at hb
         | some v => simp [List.getD, hq] at hb; rw [hb]
       have hy : yielded ops (act τ).tmps j = some b := by
         simp [yielded, hd, act, hb']
       simp only [hy]
       cases want <;> cases b <;> simp only [cond] at h <;> (rw [set_same hb'] at h) <;> simp_all
     · rename_i vs hb
       have hy : yielded ops (act τ).tmps j = none := by
         simp only [yielded, hd, act, Option.bind_some]
         cases hq : τ[d]? with
         | none => simp [hq]
         | some v => simp [List.getD, hq] at hb; simp [hq, hb]
       simp only [hy]
       exact .inr ⟨by cases want <;> rfl, h⟩
     · exact h.elim
def Agree (D : List Tmp) (τb τ : List Value) : Prop := τ.length = τb.length ∧ ∀ n, n ∉ D → τ[n]? = τb[n]?
theorem Agree.refl (D : List Tmp) (τ : List Value) : Agree D τ τ := ⟨rfl, fun _ _ => rfl⟩
theorem Agree.trans {D : List Tmp} {a b c : List Value} (h : Agree D a b) (k : Agree D b c) : Agree D a c := ⟨k.1.trans h.1, fun n hn => (k.2 n hn).trans (h.2 n hn)⟩
theorem Agree.mono {D D' : List Tmp} {a b : List Value} (h : Agree D a b) (hd : ∀ t ∈ D, t ∈ D') : Agree D' a b := ⟨h.1, fun n hn => h.2 n fun hm => hn (hd n hm)⟩
theorem Agree.put {D : List Tmp} {τb τ : List Value} (h : Agree D τb τ) {d : Option Tmp} (hd : ∀ t, d = some t → t ∈ D) (v : Value) : Agree D τb (putL τ d v) := by
 cases d with
 | none => exact h
 | some t =>
   refine ⟨by rw [putL, List.length_set]; exact h.1, fun n hn => ?_⟩
   rw [putL, List.getElem?_set_ne (fun e => hn (by subst e; exact hd _ rfl))]
   exact h.2 n hn
def Post (w0 : World) (τb : List Value) (D : List Tmp) (K : Kont) (a : Act) (w : World) : Prop :=
 ∃ τ, a = act τ ∧ Same w0 w ∧ Agree D τb τ ∧ K τ w.heap
theorem mem_dsts {ops : List Oper} {o : Oper} (h : o ∈ ops) : ∀ t, o.dst = some t → t ∈ dsts ops := fun t ht => List.mem_filterMap.2 ⟨o, h, ht⟩
theorem ops_sound (hT : AllFit P T) (hB : Bodies P nf) {w0 : World} {τb : List Value} {D : List Tmp} {ops : Array Oper} {K : Kont} {Q : Exit → Act → World → Prop}
   (hQ : ∀ a w, Post w0 τb D K a w → Q .normal a w) : ∀ (l : List Oper), (∀ o ∈ l, ∀ t, o.dst = some t → t ∈ D) → ∀ (τ : List Value) (w : World), Same w0 w → Agree D τb τ →
     sxOps P T R nf ops.toList l K τ w.heap → wpList P ops Q l (act τ) w
 | [], _, τ, w, hs, ha, h => wpList_nil (hQ _ _ ⟨τ, rfl, hs, ha, h⟩)
 | o :: rest, hd, τ, w, hs, ha, h => by
   have ih := ops_sound (ops := ops) hT hB hQ rest (fun o ho => hd o (List.mem_cons_of_mem _ ho))
   have hdo := hd o (List.mem_cons_self ..)
   refine wpList_step fun K' hK' => ?_
   rw [sxOps] at h
   rcases guarded_cases h with ⟨hw, h⟩ | ⟨hw, h⟩
   · rw [if_pos hw]
     rw [← act_eval] at h
     refine wp_of_ok (op_sound hT hB h (fun f => rfl)) fun v w' hsw hk => hK' _ _ ?_
     rw [act_put]
     exact ih _ _ (hs.trans hsw) (ha.put hdo v) hk
   · rw [if_neg (by simp [hw])]
     refine hK' _ _ ?_
     rw [act_put]
     exact ih _ _ hs (ha.put hdo undef) h
abbrev Held := List (Nat × (Heap → Prop → Prop))
def beforeN (ops : Array Oper) (j : Nat) : Nat → Nat → Bool
 | 0, _ => false
 | n + 1, i => match ops[i]? with
   | some o => o.after.any fun e => Region.binds .any e && (e.on == j || beforeN ops j n e.on)
   | none => false
def before1 (ops : Array Oper) (j i : Nat) : Bool := beforeN ops j 8 i
def Closed (ops : Array Oper) (listed : Array Bool) : Prop := ∀ m oq, ops[m]? = some oq → listed.getD m false = true → ∀ e ∈ oq.after, Region.binds .any e = true → listed.getD e.on false = true
theorem closed_before {ops : Array Oper} {listed : Array Bool} (hcl : Closed ops listed) {j : Nat} : ∀ (n i : Nat), (∀ oi, ops[i]? = some oi → ∀ e ∈ oi.after, Region.binds .any e = true → listed.getD e.on false = true) → beforeN ops j n i = true → listed.getD j false = true
 | 0, _, _, h => by simp [beforeN] at h
 | n + 1, i, ha, h => by
   unfold beforeN at h
   cases ho : ops[i]? with
   | none => rw [ho] at h; simp at h
   | some o =>
     rw [ho] at h
     obtain ⟨e, he, hb⟩ := Array.any_eq_true'.1 h
     simp only [Bool.and_eq_true, Bool.or_eq_true, beq_iff_eq] at hb
     have hl := ha o ho e he hb.1
     rcases hb.2 with hb2 | hb2
     · rw [← hb2]; exact hl
     · exact closed_before hcl n e.on (fun oq hoq => hcl e.on oq hoq hl) hb2
theorem getD_set_f {l : Array Bool} {j m : Nat} (h : (l.setIfInBounds j true).getD m false = true) : m = j ∨ l.getD m false = true := by
 by_cases hmj : m = j
 · exact .inl hmj
 · right
   simp only [Array.getD_eq_getD_getElem?, Array.getElem?_setIfInBounds_ne (Ne.symm hmj)] at h ⊢
   exact h
theorem getD_set_t {l : Array Bool} {j m : Nat} (h : l.getD m false = true) : (l.setIfInBounds j true).getD m false = true := by
 by_cases hmj : m = j
 · subst hmj
   have : m < l.size := by
     rcases Nat.lt_or_ge m l.size with h' | h'
     · exact h'
     · simp [Array.getElem?_eq_none h'] at h
   simp [this]
 · simp only [Array.getD_eq_getD_getElem?, Array.getElem?_setIfInBounds_ne (Ne.symm hmj)] at h ⊢
   exact h
theorem Closed.set {ops : Array Oper} {listed : Array Bool} (hcl : Closed ops listed) {j : Nat} (hj : j ∈ Region.ready .any ops listed) : Closed ops (listed.setIfInBounds j true) := by
 intro m oq hoq hm e he hb
 obtain ⟨_, oj, hoj, hall⟩ := mem_ready.1 hj
 rcases getD_set_f hm with rfl | hm
 · rw [hoj] at hoq; cases hoq
   exact getD_set_t (hall e he hb)
 · exact getD_set_t (hcl m oq hoq hm e he hb)
theorem Closed.start (ops : Array Oper) (n : Nat) : Closed ops (Array.replicate n false) := by
 intro m oq _ hm
 by_cases h : m < n <;> simp [Array.getElem?_replicate, h] at hm
def heldAfter (ops : Array Oper) (held : Held) (i : Nat) : Held := held.filter fun p => !before1 ops p.1 i
def HeldAt (held : Held) (H : Heap) : Prop := ∀ p ∈ held, p.2 H True
def wpAnyC (P : Program) (ops : Array Oper) (Q : Exit → Act → World → Prop) : Held → Nat → Array Bool → Act → World → Prop
 | _, 0, listed, a, w => Region.ready .any ops listed = [] ∧ Q .normal a w
 | held, fuel + 1, listed, a, w =>
   (Region.ready .any ops listed = [] → Q .normal a w) ∧
   ∀ i ∈ Region.ready .any ops listed, wpOp P ops Q i (fun a' w' => HeldAt (heldAfter ops held i) w'.heap ∧ wpAnyC P ops Q (heldAfter ops held i) fuel (listed.setIfInBounds i true) a' w') a w
variable {ops : Array Oper} {Q : Exit → Act → World → Prop}
theorem wpAny_of_C : ∀ (fuel : Nat) (held : Held) (listed : Array Bool) (a : Act) (w : World), wpAnyC P ops Q held fuel listed a w → wpAny P .any ops Q fuel listed a w
 | 0, _, _, _, _, h => h
 | fuel + 1, held, _, _, _, h => ⟨h.1, fun i hi => wpOp_mono (fun a' w' h' => wpAny_of_C fuel _ _ a' w' h'.2) (h.2 i hi)⟩
theorem heldAfter_sub {held held' : Held} (h : ∀ p ∈ held', p ∈ held) (i : Nat) : ∀ p ∈ heldAfter ops held' i, p ∈ heldAfter ops held i := by
 intro p hp
 simp only [heldAfter, List.mem_filter] at hp ⊢
 exact ⟨h p hp.1, hp.2⟩
theorem wpAnyC_mono : ∀ (fuel : Nat) {held held' : Held} (_ : ∀ p ∈ held', p ∈ held) (listed : Array Bool) (a : Act) (w : World), wpAnyC P ops Q held fuel listed a w → wpAnyC P ops Q held' fuel listed a w
 | 0, _, _, _, _, _, _, h => h
 | fuel + 1, held, held', hsub, _, _, _, h =>
   ⟨h.1, fun i hi => wpOp_mono (fun a' w' h' => ⟨fun p hp => h'.1 p (heldAfter_sub hsub i p hp), wpAnyC_mono fuel (heldAfter_sub hsub i) _ a' w' h'.2⟩) (h.2 i hi)⟩
theorem wpAnyC_first {i : Nat} {oi : Oper} {v : Value} {C : Heap → Prop → Prop} (hi : ops[i]? = some oi) (hsel : ∀ (j : Nat) (o : Oper) cs b, ops[j]? = some o → o.op ≠ .select cs b)
   (hQ : ∀ c a w, Q (.panic c) (a.put oi.dst v) w → Q (.panic c) a w) :
   ∀ (fuel : Nat) (held : Held) (listed : Array Bool) (a : Act) (w : World), Closed ops listed →
     ((i, C) ∈ held ∨ ∀ H, C H True) → HeldAt held w.heap → C w.heap True →
     (∀ j oj, ops[j]? = some oj → j ≠ i → listed.getD j true = false → (∀ e ∈ oj.after, Region.binds .any e = true → e.on ≠ i) → oi.apart ops oj = true) →
     i ∈ Region.ready .any ops listed → YieldsIf P ops (fun w => C w.heap True) oi v a →
     wpAnyC P ops Q held fuel (listed.setIfInBounds i true) (a.put oi.dst v) w → wpAnyC P ops Q held (fuel + 1) listed a w := by
 intro fuel
 induction fuel with
 | zero =>
   intro held listed a w hcl hm hh hc _ hr hy H
   refine ⟨fun h => (by rw [h] at hr; cases hr), fun j hj => ?_⟩
   by_cases hji : j = i
   · subst hji
     exact hy.wpOp hi hc ⟨fun p hp => hh p (List.mem_filter.1 hp).1, H⟩
   · have := ready_mono hj hji
     rw [H.1] at this
     cases this
 | succ fuel ih =>
   intro held listed a w hcl hm hh hc hfree hr hy H
   refine ⟨fun h => (by rw [h] at hr; cases hr), fun j hj => ?_⟩
   by_cases hji : j = i
   · subst hji
     exact hy.wpOp hi hc ⟨fun p hp => hh p (List.mem_filter.1 hp).1, wpAnyC_mono _ (fun p hp => (List.mem_filter.1 hp).1) _ _ _ H⟩
   · have h1 := H.2 j (ready_mono hj hji)
     obtain ⟨hjun, oj, hoj, hall⟩ := mem_ready.1 hj
     have hnot : ∀ e ∈ oj.after, Region.binds .any e = true → e.on ≠ i := fun e he hb heq => by
       have h1 := hall e he hb
       have h0 := (mem_ready.1 hr).1
       rw [heq] at h1
       rcases Nat.lt_or_ge i listed.size with h' | h'
       · simp [h'] at h0 h1; rw [h0] at h1; cases h1
       · simp [Array.getElem?_eq_none h'] at h1
     have hb1 : before1 ops i j = false := by
       cases hx : before1 ops i j with
       | false => rfl
       | true =>
         have h1 := closed_before hcl 8 j (fun o ho e he hb => by rw [hoj] at ho; cases ho; exact hall e he hb) hx
         have h0 := (mem_ready.1 hr).1
         rcases Nat.lt_or_ge i listed.size with h' | h'
         · simp [h'] at h0 h1; rw [h0] at h1; cases h1
         · simp [Array.getElem?_eq_none h'] at h1
     have h2 := wpOp_putIf hoj (hfree j oj hoj hji hjun hnot) (fun cs b => hsel i oi cs b hi) (fun cs b => hsel j oj cs b hoj) hQ hy h1
     have hfree' : ∀ k ok, ops[k]? = some ok → k ≠ i → (listed.setIfInBounds j true).getD k true = false →
         (∀ e ∈ ok.after, Region.binds .any e = true → e.on ≠ i) → oi.apart ops ok = true := fun k ok hk hki hun hno => by
       refine hfree k ok hk hki ?_ hno
       by_cases hjk : j = k
       · subst hjk; exact hjun
       · rw [getD_set_ne true hjk] at hun; exact hun
     refine wpOp_mono (fun a' w' h3 => ⟨h3.2.1, ?_⟩) h2
     have hm' : (i, C) ∈ heldAfter ops held j ∨ ∀ H, C H True := hm.imp (fun hm => List.mem_filter.2 ⟨hm, by simp [hb1]⟩) id
     have hc' : C w'.heap True := hm'.elim (fun hm => h3.2.1 _ hm) (fun h => h _)
     refine ih (heldAfter ops held j) (listed.setIfInBounds j true) a' w' (hcl.set hj) hm' h3.2.1 hc' hfree' (ready_mono hr (Ne.symm hji)) h3.1 ?_
     rw [Array.setIfInBounds_comm _ _ hji]
     exact h3.2.2
def planAlts : Plan → List Nat
 | .alt i _ _ rest => i :: planAlts rest
 | _ => []
def isLoad : Op → Bool
 | .load .. => true
 | _ => false
def planChk (T : Nat → TI) (ops : Array Oper) : Bool → Plan → Array Bool → Bool
 | m, .stop, _ => m
 | m, .done, l => !m && (Region.ready .any ops l).isEmpty
 | m, .first i p, l => !m && ((ops[i]?).map fun o => pureOp T o.op).getD false && Region.free .any ops l i && (Region.ready .any ops l).contains i && planChk T ops false p (l.setIfInBounds i true)
 | m, .read i p, l => !m && ((ops[i]?).map fun o => isLoad o.op).getD false && Region.free .any ops l i && (Region.ready .any ops l).contains i && planChk T ops false p (l.setIfInBounds i true)
 | m, .alt i drop p rest, l => (m || (!(Region.ready .any ops l).isEmpty && (Region.ready .any ops l).all fun j => (i :: planAlts rest).contains j)) && drop.all (fun j => before1 ops j i) &&
     planChk T ops false p (l.setIfInBounds i true) && planChk T ops true rest l
def regionChk (T : Nat → TI) (ops : Array Oper) (p : Plan) : Bool := Region.noSelect ops && planChk T ops false p (Array.replicate ops.size false)
theorem StillP.out {s : Sh} {a : Addr} {v : Value} {H : Heap} {R : Prop} (h : StillP s a v H R) : StillP s a v H True ∧ R := by
 unfold StillP at *
 split at h
 · exact ⟨⟨h.1, trivial⟩, h.2⟩
 · split at h
   · exact ⟨by rename_i hl; simp only [hl, if_true]; exact h.imp (fun _ => trivial), (CellsAre.cells (w := { (default : World) with heap := H }) h).2⟩
   · exact h.elim
 · exact h.elim
def GoodHeld (held : Held) : Prop := ∀ p ∈ held, ∀ H R, p.2 H R → p.2 H True ∧ R
theorem heldAll_out {drop : List Nat} {H : Heap} {R : Prop} : ∀ {held : Held}, GoodHeld held → heldAll drop H R held → HeldAt (dropHeld drop held) H ∧ R
 | [], _, h => ⟨fun p hp => by simp [dropHeld] at hp, h⟩
 | (j, C) :: l, hg, h => by
   have hgl : GoodHeld l := fun p hp => hg p (List.mem_cons_of_mem _ hp)
   rw [heldAll] at h
   cases hd : drop.contains j <;> rw [hd] at h
   · obtain ⟨h1, h2⟩ := hg _ (List.mem_cons_self ..) H _ h
     obtain ⟨h3, h4⟩ := heldAll_out hgl h2
     refine ⟨fun p hp => ?_, h4⟩
     simp only [dropHeld, List.filter_cons, hd, Bool.not_false, if_true, List.mem_cons] at hp
     rcases hp with rfl | hp
     · exact h1
     · exact h3 p hp
   · obtain ⟨h3, h4⟩ := heldAll_out hgl h
     refine ⟨fun p hp => ?_, h4⟩
     simp only [dropHeld, List.filter_cons, hd, Bool.not_true, Bool.false_eq_true, if_false] at hp
     exact h3 p hp
theorem count_set {l : Array Bool} {i : Nat} (h : l.getD i true = false) : (l.setIfInBounds i true).toList.count false + 1 = l.toList.count false := by
 have hlt : i < l.size := by
   rcases Nat.lt_or_ge i l.size with h' | h'
   · exact h'
   · simp [Array.getElem?_eq_none h'] at h
 have hget : l.toList[i]'(by simpa using hlt) = false := by simpa [hlt] using h
 rw [Array.toList_setIfInBounds, List.count_set (by simpa using hlt)]
 have : 0 < l.toList.count false := List.count_pos_iff.2 (by rw [← hget]; exact List.getElem_mem _)
 have h2 : (if l.toList[i]'(by simpa using hlt) == false then 1 else 0) = 1 := by rw [hget]; rfl
 have h3 : (if true == false then 1 else 0) = 0 := rfl
 omega
theorem plan_sound (hT : AllFit P T) (hB : Bodies P nf) {w0 : World} {τb : List Value} {D : List Tmp} {K : Kont}
   (hsel : Region.noSelect ops = true) (hd : ∀ o ∈ ops.toList, ∀ t, o.dst = some t → t ∈ D)
   (hQ : ∀ a w, Post w0 τb D K a w → Q .normal a w) (hQp : ∀ c a w d v, Q (.panic c) (Act.put a d v) w → Q (.panic c) a w) :
   ∀ (p : Plan) (m : Bool) (held : Held) (listed : Array Bool) (τ : List Value) (w : World) (fuel : Nat), Closed ops listed → GoodHeld held → HeldAt held w.heap → Same w0 w → Agree D τb τ → planChk T ops m p listed = true →
     listed.toList.count false ≤ fuel → sxPlan P T R nf ops.toList K p held τ w.heap →
     (m = false → wpAnyC P ops Q held fuel listed (act τ) w) ∧
     (∀ i ∈ planAlts p, i ∈ Region.ready .any ops listed → ∀ fuel', fuel = fuel' + 1 →
       wpOp P ops Q i (fun a' w' => HeldAt (heldAfter ops held i) w'.heap ∧ wpAnyC P ops Q (heldAfter ops held i) fuel' (listed.setIfInBounds i true) a' w') (act τ) w) := by
 intro p
 induction p with
 | stop => intro m held listed τ w fuel _ _ _ _ _ hc _ _; simp only [planChk] at hc; exact ⟨fun h => (by rw [h] at hc; cases hc), fun i hi => by simp [planAlts] at hi⟩
 | done =>
   intro m held listed τ w fuel _ _ _ hs ha hc _ h
   simp only [planChk, Bool.and_eq_true, List.isEmpty_iff] at hc
   refine ⟨fun _ => ?_, fun i hi => by simp [planAlts] at hi⟩
   have hq : Q .normal (act τ) w := hQ _ _ ⟨τ, rfl, hs, ha, h⟩
   cases fuel with
   | zero => exact ⟨hc.2, hq⟩
   | succ n => exact ⟨fun _ => hq, fun i hi => by rw [hc.2] at hi; cases hi⟩
 | first i p ih =>
   intro m held listed τ w fuel hcl hg hh hs ha hc hf h
   simp only [planChk, Bool.and_eq_true, List.contains_iff_mem] at hc
   obtain ⟨⟨⟨⟨hm, hp⟩, hfr⟩, hr⟩, hc⟩ := hc
   refine ⟨fun _ => ?_, fun i hi => by simp [planAlts] at hi⟩
   simp only [sxPlan] at h
   cases hi : ops[i]? with
   | none => rw [hi] at hp; simp at hp
   | some o =>
     rw [hi] at hp
     simp only [Option.map_some, Option.getD_some] at hp
     have hi' : ops.toList[i]? = some o := by rw [Array.getElem?_toList]; exact hi
     rw [hi'] at h
     simp only at h
     have hdo := hd o (List.mem_of_getElem? hi')
     have hcnt := count_set (mem_ready.1 hr).1
     obtain ⟨n, rfl⟩ : ∃ n, fuel = n + 1 := ⟨fuel - 1, by omega⟩
     have fin : ∀ v, YieldsIf P ops (fun _ => True) o v (act τ) → sxPlan P T R nf ops.toList K p held (putL τ o.dst v) w.heap → wpAnyC P ops Q held (n + 1) listed (act τ) w := fun v hy hk => by
       refine wpAnyC_first (C := fun _ _ => True) hi (Region.noSelect_spec hsel) (fun c a w => hQp c a w _ _) n held listed _ w hcl (.inr fun _ => trivial) hh trivial (Region.free_spec hi hfr) hr hy ?_
       rw [act_put]
       exact (ih false held _ _ w n (hcl.set hr) hg hh hs (ha.put hdo v) hc (by omega) hk).1 rfl
     rcases guarded_cases h with ⟨hw, h⟩ | ⟨hw, h⟩
     · obtain ⟨v, hv, hrun⟩ := pure_sound hT hB hp h
       exact fin v (.inl ⟨hw, fun w' _ => by rw [act_eval]; exact hrun w'⟩) hv
     · exact fin undef (.inr ⟨hw, rfl⟩) h
 | read i p ih =>
   intro m held listed τ w fuel hcl hg hh hs ha hc hf h
   simp only [planChk, Bool.and_eq_true, List.contains_iff_mem] at hc
   obtain ⟨⟨⟨⟨hm, hp⟩, hfr⟩, hr⟩, hc⟩ := hc
   refine ⟨fun _ => ?_, fun i hi => by simp [planAlts] at hi⟩
   simp only [sxPlan] at h
   cases hi : ops[i]? with
   | none => rw [hi] at hp; simp at hp
   | some o =>
     have hi' : ops.toList[i]? = some o := by rw [Array.getElem?_toList]; exact hi
     rw [hi'] at h
     simp only at h
     have hdo := hd o (List.mem_of_getElem? hi')
     have hcnt := count_set (mem_ready.1 hr).1
     obtain ⟨n, rfl⟩ : ∃ n, fuel = n + 1 := ⟨fuel - 1, by omega⟩
     rcases guarded_cases h with ⟨hw, h⟩ | ⟨hw, h⟩
     · split at h
       · rename_i t x hop
         split at h
         · rename_i a ha'
           obtain ⟨hkn, h⟩ := cond_true h
           have hkn' : (T t).kind ≠ .other := fun hn => by simp [TI.known, hn] at hkn
           obtain ⟨v, hv, hst, hrun⟩ := load_sound hT hkn' h
           have hg' : GoodHeld ((i, fun H' R => StillP (T t).sh a v H' R) :: held) := fun p hp => by
             rcases List.mem_cons.1 hp with rfl | hp
             · exact fun H R h => StillP.out h
             · exact hg p hp
           have hh' : HeldAt ((i, fun H' R => StillP (T t).sh a v H' R) :: held) w.heap := fun p hp => by
             rcases List.mem_cons.1 hp with rfl | hp
             · exact hst
             · exact hh p hp
           refine wpAnyC_mono _ (held := (i, fun H' R => StillP (T t).sh a v H' R) :: held) (fun p hp => List.mem_cons_of_mem _ hp) _ _ _ ?_
           refine wpAnyC_first (C := fun H' R => StillP (T t).sh a v H' R) (v := v) hi (Region.noSelect_spec hsel) (fun c a w => hQp c a w _ _) n _ listed _ w hcl (.inl (List.mem_cons_self ..)) hh' hst (Region.free_spec hi hfr) hr (.inl ⟨hw, fun w' hw' => ?_⟩) ?_
           · rw [act_eval]
             simp only [execOp, hop, ha']
             simp [hrun w' hw']
           · rw [act_put]
             exact (ih false _ _ _ w n (hcl.set hr) hg' hh' hs (ha.put hdo v) hc (by omega) hv).1 rfl
         · exact h.elim
       · exact h.elim
     · refine wpAnyC_first (C := fun _ _ => True) (v := undef) hi (Region.noSelect_spec hsel) (fun c a w => hQp c a w _ _) n held listed _ w hcl (.inr fun _ => trivial) hh trivial (Region.free_spec hi hfr) hr (.inr ⟨hw, rfl⟩) ?_
       rw [act_put]
       exact (ih false held _ _ w n (hcl.set hr) hg hh hs (ha.put hdo undef) hc (by omega) h).1 rfl
 | alt i drop p rest ih ihr =>
   intro m held listed τ w fuel hcl hg hh hs ha hc hf h
   simp only [planChk, Bool.and_eq_true] at hc
   obtain ⟨⟨⟨hm, hdr⟩, hc⟩, hcr⟩ := hc
   simp only [sxPlan] at h
   cases hi : ops.toList[i]? with
   | none => rw [hi] at h; exact h.elim
   | some o =>
     rw [hi] at h
     have h2 : (guarded ops.toList τ o
         (fun τ => sxOp P T R nf o.type (evL τ) w.heap (fun v H' => heldAll drop H' (sxPlan P T R nf ops.toList K p (dropHeld drop held) (putL τ o.dst v) H') held) o.op)
         (fun τ => sxPlan P T R nf ops.toList K p (dropHeld drop held) (putL τ o.dst undef) w.heap)) ∧ sxPlan P T R nf ops.toList K rest held τ w.heap := by
       cases rest <;> first | exact h | exact ⟨h, trivial⟩
     clear h
     obtain ⟨h, hrest⟩ := h2
     have hi' : ops[i]? = some o := by rwa [Array.getElem?_toList] at hi
     have hdo := hd o (List.mem_of_getElem? hi)
     have hsub : ∀ p ∈ heldAfter ops held i, p ∈ dropHeld drop held := by
       intro p hp
       simp only [heldAfter, dropHeld, List.mem_filter] at hp ⊢
       refine ⟨hp.1, ?_⟩
       cases hdc : drop.contains p.1 with
       | false => rfl
       | true =>
         have := List.all_eq_true.1 hdr p.1 (by simpa using hdc)
         rw [this] at hp
         simp at hp
     have alts : ∀ j ∈ planAlts (.alt i drop p rest), j ∈ Region.ready .any ops listed → ∀ fuel', fuel = fuel' + 1 →
         wpOp P ops Q j (fun a' w' => HeldAt (heldAfter ops held j) w'.heap ∧ wpAnyC P ops Q (heldAfter ops held j) fuel' (listed.setIfInBounds j true) a' w') (act τ) w := by
       intro j hj hr fuel' hfu
       simp only [planAlts, List.mem_cons] at hj
       by_cases hji : j = i
       · subst hji
         have hcnt := count_set (mem_ready.1 hr).1
         unfold wpOp
         simp only [hi']
         rcases guarded_cases h with ⟨hw, h⟩ | ⟨hw, h⟩
         · rw [if_pos hw]
           rw [← act_eval] at h
           refine .inl (wp_of_ok (op_sound hT hB h (fun f => rfl)) fun v w' hsw hk => ?_)
           obtain ⟨hk1, hk2⟩ := heldAll_out hg hk
           refine ⟨fun p hp => hk1 p (hsub p hp), ?_⟩
           rw [act_put]
           refine wpAnyC_mono _ hsub _ _ _ ?_
           exact (ih false (dropHeld drop held) _ _ w' fuel' (hcl.set hr) (fun p hp => hg p (List.mem_filter.1 hp).1) hk1 (hs.trans hsw) (ha.put hdo v) hc (by omega) hk2).1 rfl
         · rw [if_neg (by simp [hw])]
           refine ⟨fun p hp => hh p (List.mem_filter.1 hp).1, ?_⟩
           rw [act_put]
           refine wpAnyC_mono _ hsub _ _ _ ?_
           exact (ih false (dropHeld drop held) _ _ w fuel' (hcl.set hr) (fun p hp => hg p (List.mem_filter.1 hp).1) (fun p hp => hh p (List.mem_filter.1 hp).1) hs (ha.put hdo undef) hc (by omega) h).1 rfl
       · exact (ihr true held listed τ w fuel hcl hg hh hs ha hcr hf hrest).2 j (hj.resolve_left hji) hr fuel' hfu
     refine ⟨fun hmf => ?_, alts⟩
     rw [hmf] at hm
     simp only [Bool.false_or, Bool.and_eq_true, List.all_eq_true] at hm
     obtain ⟨hne, hm⟩ := hm
     have hne' : Region.ready .any ops listed ≠ [] := by intro h0; rw [h0] at hne; simp at hne
     cases fuel with
     | zero =>
       obtain ⟨j, js, hq⟩ := List.exists_cons_of_ne_nil hne'
       have hj : j ∈ Region.ready .any ops listed := by rw [hq]; exact List.mem_cons_self ..
       have := count_set (mem_ready.1 hj).1
       omega
     | succ n => exact ⟨fun h0 => absurd h0 hne', fun j hj => alts j (by have := hm j hj; simpa [planAlts] using this) hj n rfl⟩
end
section
variable {P : Program} {T : Nat → TI} {R : Nat → List Sh} {nf : Nat} {A : Ann}
def codeChk (T : Nat → TI) (A : Ann) : Code → Bool
 | .region id ops true => regionChk T ops (A.plans id)
 | .seq a b => codeChk T A a && codeChk T A b
 | .cond _ a b => codeChk T A a && codeChk T A b
 | .block _ b => codeChk T A b
 | .loop b => codeChk T A b && (A.loops (loopKey b)).all fun p => (wr b).contains p.1
 | _ => true
def QS (w0 : World) (τb : List Value) (D : List Tmp) (Kn : Kont) (E : Nat → Kont) (Rt : Kont) : Exit → Act → World → Prop
 | .normal, a, w => Post w0 τb D Kn a w
 | .exit id, a, w => Post w0 τb D (E id) a w
 | .ret, a, w => Post w0 τb D Rt a w
 | _, _, _ => False
theorem set_getD (τ : List Value) (n : Nat) : τ.set n (τ.getD n undef) = τ := by
 rcases Nat.lt_or_ge n τ.length with h | h
 · exact set_same (by simp [List.getD, h])
 · exact List.set_eq_of_length_le h
theorem junk_length (z : Nat → Value) : ∀ (W : List Nat) (τ : List Value), (junk z W τ).length = τ.length
 | [], _ => rfl
 | n :: W, τ => by rw [junk, junk_length z W, List.length_set]
theorem junk_get (z : Nat → Value) : ∀ (W : List Nat) (τ : List Value) (n : Nat), (junk z W τ)[n]? = if n ∈ W ∧ n < τ.length then some (z n) else τ[n]?
 | [], τ, n => by simp [junk]
 | m :: W, τ, n => by
   rw [junk, junk_get z W (τ.set m (z m)) n, List.length_set, List.getElem?_set]
   by_cases h1 : n ∈ W ∧ n < τ.length
   · rw [if_pos h1, if_pos ⟨List.mem_cons_of_mem _ h1.1, h1.2⟩]
   · rw [if_neg h1]
     by_cases hm : m = n
     · subst hm
       by_cases hl : m < τ.length
       · rw [if_pos rfl, if_pos hl, if_pos ⟨List.mem_cons_self .., hl⟩]
       · rw [if_pos rfl, if_neg hl, if_neg (fun h => hl h.2)]
         rw [List.getElem?_eq_none (by omega)]
     · rw [if_neg hm, if_neg]
       rintro ⟨h2, h3⟩
       rcases List.mem_cons.1 h2 with h2 | h2
       · exact hm h2.symm
       · exact h1 ⟨h2, h3⟩
theorem junk_self (τ : List Value) : ∀ W : List Nat, junk (fun n => τ.getD n undef) W τ = τ := by
 intro W
 induction W with
 | nil => rfl
 | cons n W ih => rw [junk, set_getD]; exact ih
theorem projL_spec : ∀ {l : List (Nat × S1)} {τ : List Value} {κ : LTy l → Prop}, projL l τ κ → ∃ s, κ s ∧ embL l s τ = τ
 | [], τ, κ, h => ⟨(), h, rfl⟩
 | [(n, s)], τ, κ, h => by
   obtain ⟨x, hx, hk⟩ := S1.proj_spec h
   exact ⟨x, hk, by show τ.set n (s.emb x) = τ; rw [← hx]; exact set_getD τ n⟩
 | (n, s) :: a :: l, τ, κ, h => by
   obtain ⟨x, hx, hk⟩ := S1.proj_spec h
   obtain ⟨y, hy, he⟩ := projL_spec hk
   exact ⟨(x, y), hy, by show embL (a :: l) y (τ.set n (s.emb x)) = τ; rw [← hx, set_getD]; exact he⟩
theorem embL_agree : ∀ {l : List (Nat × S1)} (s : LTy l) (W : List Nat) (τ : List Value), (∀ p ∈ l, p.1 ∈ W) → Agree W τ (embL l s τ)
 | [], _, W, τ, _ => Agree.refl W τ
 | [(n, s)], x, W, τ, h => by
   have := (Agree.refl W τ).put (d := some n) (fun t ht => by cases ht; exact h _ (List.mem_cons_self ..)) (s.emb x)
   exact this
 | (n, s) :: a :: l, x, W, τ, h => by
   have h1 := (Agree.refl W τ).put (d := some n) (fun t ht => by cases ht; exact h _ (List.mem_cons_self ..)) (s.emb x.1)
   exact h1.trans (embL_agree x.2 W _ fun p hp => h p (List.mem_cons_of_mem _ hp))
theorem junk_agree (z : Nat → Value) (W : List Nat) (τ : List Value) : Agree W τ (junk z W τ) :=
 ⟨junk_length z W τ, fun n hn => by rw [junk_get, if_neg (fun h => hn h.1)]⟩
theorem junk_of_agree {W : List Nat} {τ τ' : List Value} (h : Agree W τ τ') : junk (fun n => τ'.getD n undef) W τ = τ' := by
 apply List.ext_getElem?
 intro n
 rw [junk_get]
 split
 · rename_i hn
   have : n < τ'.length := by rw [h.1]; exact hn.2
   simp [List.getD, this]
 · rename_i hn
   by_cases hw : n ∈ W
   · have hl : τ.length ≤ n := by
       rcases Nat.lt_or_ge n τ.length with h' | h'
       · exact absurd ⟨hw, h'⟩ hn
       · exact h'
     rw [List.getElem?_eq_none hl, List.getElem?_eq_none (by rw [h.1]; exact hl)]
   · exact (h.2 n hw).symm
theorem sx_sound (hT : AllFit P T) (hB : Bodies P nf) (hm : P.follows .mixedOrders = true) : ∀ (c : Code) (Kn : Kont) (E : Nat → Kont) (Rt : Kont) (w0 : World) (τb : List Value) (D : List Tmp) (τ : List Value) (w : World),
   (∀ t ∈ wr c, t ∈ D) → codeChk T A c = true → Same w0 w → Agree D τb τ → sx P T R nf A c Kn E Rt τ w.heap → c.wp P (QS w0 τb D Kn E Rt) (act τ) w := by
 intro c
 induction c with
 | skip => intro Kn E Rt w0 τb D τ w _ _ hs ha h; exact wp_skip ⟨τ, rfl, hs, ha, h⟩
 | label l => intro Kn E Rt w0 τb D τ w _ _ hs ha h; exact wp_label ⟨τ, rfl, hs, ha, h⟩
 | exit id => intro Kn E Rt w0 τb D τ w _ _ hs ha h; exact wp_exit ⟨τ, rfl, hs, ha, h⟩
 | ret => intro Kn E Rt w0 τb D τ w _ _ hs ha h; exact wp_ret ⟨τ, rfl, hs, ha, h⟩
 | goto l => intro Kn E Rt w0 τb D τ w _ _ hs ha h; exact h.elim
 | refuse l => intro Kn E Rt w0 τb D τ w _ _ hs ha h; exact h.elim
 | scope b _ => intro Kn E Rt w0 τb D τ w _ _ hs ha h; exact h.elim
 | rangeFunc f ps as_ b _ _ => intro Kn E Rt w0 τb D τ w _ _ hs ha h; exact h.elim
 | region id ops draw =>
   intro Kn E Rt w0 τb D τ w hd hc hs ha h
   have hdo : ∀ o ∈ ops.toList, ∀ t, o.dst = some t → t ∈ D := fun o ho t ht => hd t (mem_dsts ho t ht)
   cases draw with
   | false => exact wp_region_list (ops_sound hT hB (fun a w h => h) ops.toList hdo τ w hs ha h)
   | true =>
     simp only [codeChk, regionChk, Bool.and_eq_true] at hc
     refine wp_region_any hm (wpAny_of_C _ [] _ _ _ ?_)
     have hf : (Array.replicate ops.size false).toList.count false ≤ ops.size := by simp
     exact (plan_sound (w0 := w0) (τb := τb) (D := D) (K := Kn) (Q := QS w0 τb D Kn E Rt) hT hB hc.1 hdo (fun a w h => h) (fun c a w d v h => h.elim) (A.plans id) false [] _ τ { w with drawn := w.drawn + 1 } ops.size
       (Closed.start _ _) (fun p hp => by simp at hp) (fun p hp => by simp at hp) (hs.trans ⟨rfl, rfl, rfl⟩) ha hc.2 hf h).1 rfl
 | seq a b iha ihb =>
   intro Kn E Rt w0 τb D τ w hd hc hs ha h
   simp only [codeChk, Bool.and_eq_true] at hc
   refine wp_seq (wp_mono (iha (sx P T R nf A b Kn E Rt) E Rt w0 τb D τ w (fun t ht => hd t (List.mem_append_left _ ht)) hc.1 hs ha h) ?_)
   intro e a' w' hq
   cases e with
   | normal =>
     obtain ⟨τ', rfl, hs', ha', h'⟩ := hq
     exact ihb Kn E Rt w0 τb D τ' w' (fun t ht => hd t (List.mem_append_right _ ht)) hc.2 hs' ha' h'
   | exit id => exact hq
   | ret => exact hq
   | goto l => exact hq
   | panic ch => exact hq
   | outgrown => exact hq
 | cond x a b iha ihb =>
   intro Kn E Rt w0 τb D τ w hd hc hs ha h
   simp only [codeChk, Bool.and_eq_true] at hc
   simp only [sx] at h
   split at h
   · rename_i t ht
     have ht' : (act τ).eval x = .bool t := by rw [act_eval]; exact ht
     cases t with
     | true => exact wp_cond_true ht' (iha Kn E Rt w0 τb D τ w (fun t ht => hd t (List.mem_append_left _ ht)) hc.1 hs ha h)
     | false => exact wp_cond_false ht' (ihb Kn E Rt w0 τb D τ w (fun t ht => hd t (List.mem_append_right _ ht)) hc.2 hs ha h)
   · exact h.elim
 | block id b ih =>
   intro Kn E Rt w0 τb D τ w hd hc hs ha h
   refine wp_block (wp_mono (ih Kn (fun j => cond (Nat.beq j id) Kn (E j)) Rt w0 τb D τ w hd hc hs ha h) ?_)
   intro e a' w' hq
   cases e with
   | normal => exact hq
   | exit j =>
     simp only [QS] at hq
     simp only [Exit.inBlock]
     by_cases hj : j = id
     · subst hj
       rw [if_pos rfl]
       simpa [QS] using hq
     · rw [if_neg hj]
       have hb : Nat.beq j id = false := by
         cases hb : Nat.beq j id with
         | false => rfl
         | true => exact absurd (Nat.eq_of_beq_eq_true hb) hj
       rw [hb] at hq
       exact hq
   | ret => exact hq
   | goto l => exact hq
   | panic ch => exact hq
   | outgrown => exact hq
 | loop b ih =>
   intro Kn E Rt w0 τb D τ w hd hc hs ha h
   simp only [codeChk, Bool.and_eq_true, List.all_eq_true] at hc
   obtain ⟨hcb, hcl⟩ := hc
   have hl : ∀ p ∈ A.loops (loopKey b), p.1 ∈ wr b := fun p hp => by simpa using hcl p hp
   obtain ⟨I, ⟨n0, hinit⟩, hstep⟩ := h
   refine wp_loop_ghost (fun n a w => ∃ s z, a = act (embL (A.loops (loopKey b)) s (junk z (wr b) τ)) ∧ Same w0 w ∧ I n s w.heap) n0 ?_ ?_
   · obtain ⟨s, hI, he⟩ := projL_spec hinit
     exact ⟨s, fun n => τ.getD n undef, by rw [junk_self, he], hs, hI⟩
   · rintro n a w' ⟨s, z, rfl, hs', hI⟩
     have hag : Agree (wr b) τ (embL (A.loops (loopKey b)) s (junk z (wr b) τ)) := (junk_agree z (wr b) τ).trans (embL_agree s (wr b) _ hl)
     have hbody := ih _ E Rt w0 (embL (A.loops (loopKey b)) s (junk z (wr b) τ)) (wr b) _ w' (fun t ht => ht) hcb hs' (Agree.refl _ _) (hstep n s z w'.heap hI)
     refine wp_mono hbody ?_
     intro e a' w'' hq
     cases e with
     | normal =>
       obtain ⟨τ', rfl, hs'', ha'', h'⟩ := hq
       obtain ⟨s', ⟨n', hn, hI'⟩, he⟩ := projL_spec h'
       exact ⟨n', hn, s', fun n => τ'.getD n undef, by rw [junk_of_agree (hag.trans ha''), he], hs'', hI'⟩
     | exit id => obtain ⟨τ', h1, h2, h3, h4⟩ := hq; exact ⟨τ', h1, h2, ha.trans ((hag.trans h3).mono hd), h4⟩
     | ret => obtain ⟨τ', h1, h2, h3, h4⟩ := hq; exact ⟨τ', h1, h2, ha.trans ((hag.trans h3).mono hd), h4⟩
     | goto l => exact hq
     | panic ch => exact hq
     | outgrown => exact hq
def resOne (tmps : Array Value) : ResultVar → Sem Value
 | .tmp t => pure (tmps.getD t undef)
 | .cell a t => do loadVar t (← asAddr (tmps.getD a undef))
theorem res_sound (hT : AllFit P T) : ∀ (rs : List ResultVar) (τ : List Value) (w : World) (κ : List Value → Prop), resL T rs τ w.heap κ →
   ∃ vs, κ vs ∧ (rs.mapM (resOne τ.toArray)).run P w = .ok vs w
 | [], _, _, _, h => ⟨[], h, rfl⟩
 | .tmp t :: l, τ, w, κ, h => by
   obtain ⟨vs, hk, hr⟩ := res_sound hT l τ w _ h
   exact ⟨_, hk, by simp only [List.mapM_cons, Sem.run_bind, hr, resOne, Sem.run_pure, Result.andThen_ok]; simp [List.getD]⟩
 | .cell a t :: l, τ, w, κ, h => by
   simp only [resL] at h
   split at h
   · rename_i ad hd
     obtain ⟨hkn, h⟩ := cond_true h
     have hkn' : (T t).kind ≠ .other := fun hn => by simp [TI.known, hn] at hkn
     obtain ⟨v, hv, hst, hrun⟩ := load_sound hT hkn' h
     obtain ⟨vs, hk, hr⟩ := res_sound hT l τ w _ hv
     have hl : (loadVar t ad).run P w = .ok v w := by have := hrun w hst; simpa [Instr.loadAt, Instr.sureAddr] using this
     have hd' : τ.toArray.getD a undef = .pointer (some ad) := by simpa [List.getD] using hd
     exact ⟨_, hk, by simp only [List.mapM_cons, Sem.run_bind, resOne, hd', asAddr, Sem.run_pure, Result.andThen_ok, hl, hr]⟩
   · exact h.elim
theorem call_of_sx (hT : AllFit P T) (hB : Bodies P nf) (hm : P.follows .mixedOrders = true) {f : FuncId} {fn : Func} {c : Code} {args : List Value} {H : Heap} {K : Value → Heap → Prop} {n : Nat}
   (hf : P.funcs[f]? = some fn) (hb : fn.body = some c) (hn : fn.ntmps = n) (A : Ann) (hc : codeChk T A c = true)
   (h : sxFn P T R nf A fn.results.toList c (args ++ List.replicate (n - args.length) undef) H K) : CallH P f args H K := by
 subst hn
 intro w hw
 subst hw
 refine calls_of_wp hf hb ?_
 have hfr : ({ tmps := args.toArray ++ Array.replicate (fn.ntmps - args.toArray.size) undef, defers := [] } : Act) = act (args ++ List.replicate (fn.ntmps - args.length) undef) := by
   simp [act]
 rw [hfr]
 refine wp_mono (sx_sound hT hB hm c _ _ _ w _ (wr c) _ w (fun t ht => ht) hc (Same.refl w) (Agree.refl _ _) h) ?_
 have fin : ∀ (a : Act) (w' : World), Post w (args ++ List.replicate (fn.ntmps - args.length) undef) (wr c) (fun τ H => resL T fn.results.toList τ H fun vs => K (one vs) H) a w' →
     a.defers = [] ∧ ∃ v, (results fn a.tmps).run P w' = .ok v w' ∧ (∃ v', Ending.returned v = .returned v' ∧ Same w w' ∧ K v' w'.heap) := by
   rintro a w' ⟨τ, rfl, hs, ha, hr⟩
   refine ⟨rfl, ?_⟩
   obtain ⟨vs, hk, hrun⟩ := res_sound (P := P) hT _ _ _ _ hr
   refine ⟨one vs, ?_, _, rfl, hs, hk⟩
   unfold results
   simp only [Sem.run_bind]
   rw [Array.mapM_eq_mapM_toList, Sem.run_map]
   simp only [act]
   have : ∀ (f g : ResultVar → Sem Value), f = g → (fn.results.toList.mapM f).run P w' = (fn.results.toList.mapM g).run P w' := fun f g h => by rw [h]
   rw [this _ (resOne τ.toArray) (by funext x; cases x <;> rfl), hrun]
   simp only [Result.andThen_ok, Sem.run_pure]
   congr 1
   match vs with
   | [] => rfl
   | [v] => rfl
   | a :: b :: l => simp [one]
 intro e a w' hq
 cases e with
 | normal => exact fin a w' hq
 | ret => exact fin a w' hq
 | exit id => obtain ⟨_, _, _, _, h⟩ := hq; exact h.elim
 | goto l => exact hq
 | panic ch => exact hq.elim
 | outgrown => exact hq.elim
def otherTI : TI := ⟨.other, .one .any, [], 0⟩
def lookTI : List (Nat × TI) → Nat → TI
 | [], _ => otherTI
 | (a, i) :: l, t => cond (Nat.beq a t) i (lookTI l t)
theorem lookTI_mem : ∀ {tab : List (Nat × TI)} {t : Nat}, (lookTI tab t).kind ≠ .other → (t, lookTI tab t) ∈ tab
 | [], _, h => absurd rfl h
 | (a, i) :: l, t, h => by
   rw [lookTI] at h ⊢
   cases hb : Nat.beq a t with
   | true =>
     have := Nat.eq_of_beq_eq_true hb
     subst this
     exact List.mem_cons_self ..
   | false =>
     rw [hb] at h
     exact List.mem_cons_of_mem _ (lookTI_mem h)
theorem fits_lookTI {P : Program} {tab : List (Nat × TI)} (h : ∀ p ∈ tab, Fits P (lookTI tab) p.1 p.2) : AllFit P (lookTI tab) := fun t ht => h _ (lookTI_mem ht)
def bodyOf (fn : Func) : Code := match fn.body with
 | some c => c
 | none => .skip
end
theorem ct {c : Bool} {A B : Prop} (h : c = true) (a : A) : cond c A B := by rw [h]; exact a
theorem cf {c : Bool} {A B : Prop} (h : c = false) (b : B) : cond c A B := by rw [h]; exact b
theorem ctd {p : Prop} [Decidable p] {A B : Prop} (h : p) (a : A) : cond (decide p) A B := ct (decide_eq_true h) a
theorem cfd {p : Prop} [Decidable p] {A B : Prop} (h : ¬ p) (b : B) : cond (decide p) A B := cf (decide_eq_false h) b
theorem wu64 {x : Int} (h0 : 0 ≤ x) (h1 : x < 18446744073709551616) : IntKind.u64.wrap x = x := by rw [IntKind.wrap_u64]; omega
theorem wi64 {x : Int} (h0 : -9223372036854775808 ≤ x) (h1 : x < 9223372036854775808) : IntKind.i64.wrap x = x := by rw [IntKind.wrap_i64]; omega
theorem wsucc {k : Nat} (h : k < 9223372036854775807) : IntKind.i64.wrap ((k : Int) + 1) = ((k + 1 : Nat) : Int) := by rw [wi64 (by omega) (by omega)]; omega
theorem tmod_nat (a b : Nat) : Int.tmod (a : Int) (b : Int) = ((a % b : Nat) : Int) := rfl
theorem beq_t {a b : Int} (h : a = b) : (a == b) = true := by simp [h]
theorem beq_f {a b : Int} (h : a ≠ b) : (a == b) = false := by simp [h]
theorem bne_t {a b : Int} (h : a ≠ b) : (a != b) = true := by simp [h]
theorem bne_f {a b : Int} (h : a = b) : (a != b) = false := by simp [h]
structure Ext (H H' : Heap) : Prop where
 size : H.size ≤ H'.size
 get : ∀ i, i < H.size → H'[i]? = H[i]?
theorem Ext.refl (H : Heap) : Ext H H := ⟨Nat.le_refl _, fun _ _ => rfl⟩
theorem Ext.push (H : Heap) (o : Obj) : Ext H (H.push o) := ⟨by simp, fun i hi => by rw [Array.getElem?_push_lt hi]; simp [hi]⟩
theorem get_push_new (H : Heap) (o : Obj) : (H.push o)[H.size]? = some o := by simp
theorem lt_of_get {H : Heap} {g : Nat} {o : Obj} (h : H[g]? = some o) : g < H.size := (Array.getElem?_eq_some_iff.1 h).1
theorem lt_of_cell {H : Heap} {a : Addr} {v : Value} (h : cellH H a = some v) : a.block < H.size := by
 unfold cellH at h
 split at h
 · rename_i hb; exact lt_of_get hb
 · cases h
theorem cell_of_get {H H' : Heap} {a : Addr} (h : H'[a.block]? = H[a.block]?) : cellH H' a = cellH H a := by unfold cellH; rw [h]
theorem add_block (a : Addr) (i : Nat) : (a.add i).block = a.block := by unfold Addr.add; split <;> rfl
theorem add_mk (g i : Nat) : (Addr.mk g 0 none).add i = ⟨g, i, none⟩ := by unfold Addr.add; split <;> simp_all
theorem add_zero (a : Addr) : a.add 0 = a := rfl
theorem cell_blk {H : Heap} {g : Nat} {cs : Array Value} {t : Nat} (h : H[g]? = some (.cells cs t (0, 0))) (i : Nat) : cellH H ⟨g, i, none⟩ = cs[i]? := by simp [cellH, h]
theorem mayWrite_blk {H : Heap} {g n i : Nat} {cs : Array Value} {t : Nat} (h : H[g]? = some (.cells cs t (0, 0))) (hi : i + n ≤ cs.size) : MayWrite H ⟨g, i, none⟩ n := ⟨cs, t, h, rfl, hi⟩
def All : Nat → Prop := fun _ => True
abbrev Rel (α : Type) := (Nat → Prop) → Heap → α → Value → Prop
section
variable {α : Type} {E : Rel α} {S S' : Nat → Prop} {H H' : Heap} {A : Option Addr} {n c e : Nat} {xs : List α}
theorem setsH_size : ∀ (vs : List Value) (H : Heap) (a : Addr) (i : Nat), (setsH H a i vs).size = H.size
 | [], _, _, _ => rfl
 | v :: vs, H, a, i => by rw [setsH, setsH_size vs, setH_size]
theorem setsH_get_ne : ∀ (vs : List Value) (H : Heap) (a : Addr) (i b : Nat), b ≠ a.block → (setsH H a i vs)[b]? = H[b]?
 | [], _, _, _, _, _ => rfl
 | v :: vs, H, a, i, b, h => by rw [setsH, setsH_get_ne vs _ a _ b h, setH_get_ne _ _ _ _ (by rw [add_block]; exact h)]
theorem setsH_blk : ∀ (vs : List Value) (H : Heap) (g o i : Nat) (cs : Array Value) (t : Nat), H[g]? = some (.cells cs t (0, 0)) → o + i + vs.length ≤ cs.size →
   ∃ cs' : Array Value, (setsH H ⟨g, o, none⟩ i vs)[g]? = some (.cells cs' t (0, 0)) ∧ cs'.size = cs.size ∧ ∀ j, cs'[j]? = if o + i ≤ j ∧ j < o + i + vs.length then vs[j - (o + i)]? else cs[j]?
 | [], H, g, o, i, cs, t, h, hl => ⟨cs, h, rfl, fun j => by rw [if_neg]; simp⟩
 | v :: vs, H, g, o, i, cs, t, h, hl => by
   simp only [List.length_cons] at hl
   have ha : (Addr.mk g o none).add i = ⟨g, o + i, none⟩ := by unfold Addr.add; split <;> simp_all
   have h1 : (setH H ((Addr.mk g o none).add i) v)[g]? = some (.cells (cs.setIfInBounds (o + i) v) t (0, 0)) := by rw [ha]; exact setH_get_eq h v
   obtain ⟨cs', hb, hs, hget⟩ := setsH_blk vs _ g o (i + 1) _ t h1 (by simp; omega)
   refine ⟨cs', hb, by rw [hs]; simp, fun j => ?_⟩
   rw [hget j, Array.getElem?_setIfInBounds]
   simp only [List.length_cons]
   by_cases hj : j = o + i
   · subst hj
     rw [if_neg (by omega), if_pos rfl, if_pos (by omega), if_pos (by omega)]
     simp
   · by_cases hj2 : o + (i + 1) ≤ j ∧ j < o + (i + 1) + vs.length
     · rw [if_pos hj2, if_pos (by omega), show j - (o + i) = (j - (o + (i + 1))) + 1 from by omega]
       simp
     · rw [if_neg hj2, if_neg (by omega), if_neg (by omega)]
end
end Go.Sx
set_option linter.unusedVariables false
namespace Go.Lf
open Go.Sx
def Fr (Z : Nat → Prop) (H : Heap) (Z' : Nat → Prop) (H' : Heap) : Prop := ∀ i, Z i → i < H.size → Z' i ∧ H'[i]? = H[i]?
section
variable {Z Z' Z2 Y Y' : Nat → Prop} {H H' H2 : Heap} {a : Addr} {v : Value}
theorem Fr.refl (Z : Nat → Prop) (H : Heap) : Fr Z H Z H := fun i h _ => ⟨h, rfl⟩
theorem Fr.lt (h : Fr Z H Z' H') {i : Nat} (hz : Z i) (hi : i < H.size) : i < H'.size := by
 have := (h i hz hi).2
 rw [Array.getElem?_eq_getElem hi] at this
 exact (Array.getElem?_eq_some_iff.1 this).1
theorem Fr.trans (h : Fr Z H Z' H') (k : Fr Z' H' Z2 H2) : Fr Z H Z2 H2 := fun i hz hi => by
 obtain ⟨h1, h2⟩ := h i hz hi
 obtain ⟨k1, k2⟩ := k i h1 (h.lt hz hi)
 exact ⟨k1, k2.trans h2⟩
theorem Fr.wide (hz : ∀ i, Z i → Z' i) (H : Heap) : Fr Z H Z' H := fun i h _ => ⟨hz i h, rfl⟩
theorem Fr.cell (h : Fr Z H Z' H') (hz : Z a.block) (hc : cellH H a = some v) : cellH H' a = some v :=
 (cell_of_get (h _ hz (lt_of_cell hc)).2).trans hc
theorem Fr.blk (h : Fr Z H Z' H') {g : Nat} {o : Obj} (hz : Z g) (hc : H[g]? = some o) : H'[g]? = some o := ((h g hz (lt_of_get hc)).2).trans hc
theorem Fr.in (h : Fr Z H Z' H') {g : Nat} {o : Obj} (hz : Z g) (hc : H[g]? = some o) : Z' g := (h g hz (lt_of_get hc)).1
end
theorem add_add (a : Addr) (i j : Nat) : (a.add i).add j = a.add (i + j) := by
 by_cases h1 : i = 0
 · subst h1; simp [add_zero]
 · by_cases h2 : j = 0
   · subst h2; simp [add_zero]
   · simp [Addr.add, h1, h2, Nat.add_assoc]
structure Rl (α : Type) where
 sz : Nat
 rep : (Nat → Prop) → Heap → α → List Value → Prop
 len : ∀ {Z H x cs}, rep Z H x cs → cs.length = sz
 flat : ∀ {Z H x cs}, rep Z H x cs → cs.all isCell = true
 keep : ∀ {Z Z' : Nat → Prop} {H H' x cs}, Fr Z H Z' H' → rep Z H x cs → rep Z' H' x cs
 mx : Nat := 17592186044416
 mlo : 17592186044416 ≤ mx := by decide
 mhi : mx ≤ 140737488355328 := by decide
 sm : Nat → α → Prop := fun _ _ => True
def u64L : Rl Nat where
 sz := 1
 rep := fun _ _ x cs => cs = [.int .u64 (x : Int)]
 len := fun h => by rw [h]; rfl
 flat := fun h => by rw [h]; rfl
 keep := fun _ h => h
def i64L : Rl Int where
 sz := 1
 rep := fun _ _ x cs => cs = [.int .i64 x]
 len := fun h => by rw [h]; rfl
 flat := fun h => by rw [h]; rfl
 keep := fun _ h => h
def boolL : Rl Bool where
 sz := 1
 rep := fun _ _ x cs => cs = [.bool x]
 len := fun h => by rw [h]; rfl
 flat := fun h => by rw [h]; rfl
 keep := fun _ h => h
 mx := 140737488355328
structure SlF {α : Type} (E : Rl α) (Z : Nat → Prop) (H : Heap) (A : Option Addr) (c : Nat) (xs : List α) : Prop where
 cap : xs.length ≤ c
 lt : xs.length ≤ E.mx
 get : ∀ (i : Nat) (x : α), xs[i]? = some x → ∃ a cs, A = some a ∧ E.rep Z H x cs ∧ ∀ (j : Nat) (v : Value), cs[j]? = some v → Z a.block ∧ cellH H (a.add (i * E.sz + j)) = some v
section
variable {α : Type} {E : Rl α} {Z Z' Y Y' : Nat → Prop} {H H' : Heap} {A : Option Addr} {c : Nat} {xs : List α}
theorem SlF.keep (h : SlF E Z H A c xs) (hf : Fr Z H Z' H') : SlF E Z' H' A c xs :=
 ⟨h.cap, h.lt, fun i x hx => by
   obtain ⟨a, cs, ha, hr, hc⟩ := h.get i x hx
   refine ⟨a, cs, ha, E.keep hf hr, fun j v hj => ?_⟩
   obtain ⟨hz, hv⟩ := hc j v hj
   have hlt := lt_of_cell hv
   rw [add_block] at hlt
   exact ⟨(hf _ hz hlt).1, hf.cell (by rw [add_block]; exact hz) hv⟩⟩
theorem SlF.lt47 (h : SlF E Z H A c xs) : xs.length ≤ 140737488355328 := Nat.le_trans h.lt E.mhi
theorem SlF.wide (h : SlF E Z H A c xs) (hz : ∀ i, Z i → Z' i) : SlF E Z' H A c xs := h.keep (Fr.wide hz H)
theorem SlF.nil (E : Rl α) (Z : Nat → Prop) (H : Heap) (A : Option Addr) (c : Nat) : SlF E Z H A c [] := ⟨Nat.zero_le _, by simp, fun i x h => by simp at h⟩
end
def slL {α : Type} (E : Rl α) : Rl (List α) where
 sz := 1
 rep := fun Z H xs cs => ∃ A c, cs = [.slice A xs.length c] ∧ SlF E Z H A c xs
 len := fun ⟨A, c, e, _⟩ => by rw [e]; rfl
 flat := fun ⟨A, c, e, _⟩ => by rw [e]; rfl
 keep := fun hf ⟨A, c, e, h⟩ => ⟨A, c, e, h.keep hf⟩
 sm := fun n xs => xs.length ≤ n ∧ ∀ x ∈ xs, E.sm n x
structure Mr (α : Type) where
 rd : Rl α
 rep : (Nat → Prop) → (Nat → Prop) → Heap → α → List Value → Prop
 keep : ∀ {Z Z' Y Y' : Nat → Prop} {H H' x cs}, Fr Z H Z' H' → Fr Y H Y' H' → rep Z Y H x cs → rep Z' Y' H' x cs
 read : ∀ {Z Y Z' : Nat → Prop} {H x cs}, (∀ i, Z i → Z' i) → (∀ i, Y i → Z' i) → rep Z Y H x cs → rd.rep Z' H x cs
def rdM {α : Type} (E : Rl α) : Mr α := ⟨E, fun Z _ H x cs => E.rep Z H x cs, fun h _ r => E.keep h r, fun h _ r => E.keep (Fr.wide h _) r⟩
theorem Mr.len {α : Type} (O : Mr α) {Z Y : Nat → Prop} {H x cs} (h : O.rep Z Y H x cs) : cs.length = O.rd.sz := O.rd.len (O.read (Z' := fun i => Z i ∨ Y i) (fun _ h => .inl h) (fun _ h => .inr h) h)
structure SlO {α : Type} (O : Mr α) (e : Nat) (Z Y : Nat → Prop) (H : Heap) (A : Option Addr) (c : Nat) (xs : List α) : Prop where
 cap : xs.length ≤ c
 lt : xs.length ≤ 17592186044416
 blk : (A = none ∧ c = 0) ∨ ∃ (g : Nat) (cells : Array Value) (Ys : Nat → Nat → Prop), A = some ⟨g, 0, none⟩ ∧ Y g ∧ H[g]? = some (.cells cells e (0, 0)) ∧ cells.size = c * O.rd.sz ∧
   (∀ i b, Ys i b → Y b ∧ b ≠ g) ∧ (∀ i j b, Ys i b → Ys j b → i = j) ∧
   ∀ i x, xs[i]? = some x → ∃ cs, O.rep Z (Ys i) H x cs ∧ ∀ (j : Nat) (v : Value), cs[j]? = some v → cells[i * O.rd.sz + j]? = some v
section
variable {α : Type} {O : Mr α} {E : Rl α} {e : Nat} {Z Z' Y Y' : Nat → Prop} {H H' : Heap} {A : Option Addr} {c : Nat} {xs : List α}
theorem SlO.keep (h : SlO O e Z Y H A c xs) (hz : Fr Z H Z' H') (hy : Fr Y H Y' H') : SlO O e Z' Y' H' A c xs :=
 ⟨h.cap, h.lt, h.blk.imp id fun ⟨g, cells, Ys, hA, hg, hb, hs, h1, h2, h3⟩ => by
   refine ⟨g, cells, fun i b => Ys i b ∧ b < H.size, hA, hy.in hg hb, hy.blk hg hb, hs, fun i b ⟨hi, hl⟩ => ⟨(hy b (h1 i b hi).1 hl).1, (h1 i b hi).2⟩, fun i j b hi hj => h2 i j b hi.1 hj.1, fun i x hx => ?_⟩
   obtain ⟨cs, hr, hc⟩ := h3 i x hx
   exact ⟨cs, O.keep hz (fun b hb hl => ⟨⟨hb, hl⟩, (hy b (h1 i b hb).1 hl).2⟩) hr, hc⟩⟩
theorem SlO.nil (O : Mr α) (e : Nat) (Z Y : Nat → Prop) (H : Heap) : SlO O e Z Y H none 0 [] := ⟨Nat.zero_le _, by simp, .inl ⟨rfl, rfl⟩⟩
theorem SlO.read (h : SlO O e Z Y H A c xs) (hz : ∀ i, Z i → Z' i) (hy : ∀ i, Y i → Z' i) : SlF O.rd Z' H A c xs :=
 ⟨h.cap, Nat.le_trans h.lt O.rd.mlo, fun i x hx => by
   have hi := (List.getElem?_eq_some_iff.1 hx).1
   rcases h.blk with ⟨rfl, rfl⟩ | ⟨g, cells, Ys, hA, hg, hb, hs, h1, h2, h3⟩
   · have := h.cap; omega
   · obtain ⟨cs, hr, hc⟩ := h3 i x hx
     exact ⟨_, cs, hA, O.read hz (fun b hb => hy _ (h1 i b hb).1) hr, fun j v hj => ⟨hy _ hg, by rw [add_mk, cell_blk hb]; exact hc j v hj⟩⟩⟩
theorem SlO.lens (h : SlO O e Z Y H A c xs) {i : Int} (h0 : 0 ≤ i) {x : α} (hx : xs[i.toNat]? = some x) :
   ∃ (g : Nat) (cs : List Value) (Yi : Nat → Prop), A = some ⟨g, 0, none⟩ ∧ Y g ∧ g < H.size ∧ i < (xs.length : Int) ∧ (∀ b, Yi b → Y b ∧ b ≠ g) ∧ O.rep Z Yi H x cs ∧
     (∀ (j : Nat) (v : Value), cs[j]? = some v → cellH H ((Addr.mk g 0 none).add (i.toNat * O.rd.sz + j)) = some v) ∧
     (∀ {H' : Heap} {Z' Y' Yi' : Nat → Prop} {x' : α}, Fr Z H Z' H' → (∀ b, Y b → ¬ Yi b → b < H.size → Y' b ∧ H'[b]? = H[b]?) → (∀ b, Yi' b → Y' b ∧ (b < H.size → Yi b)) → O.rep Z' Yi' H' x' cs → SlO O e Z' Y' H' A c (xs.set i.toNat x')) ∧
     (∀ {Z' Y' Yi' : Nat → Prop} {H1 : Heap} {x' : α} {cs' : List Value} {o : Nat} {vs : List Value}, Fr Z H Z' H1 → (∀ b, Y b → ¬ Yi b → b < H.size → Y' b ∧ H1[b]? = H[b]?) → ¬ Z' g → (∀ b, Yi' b → Y' b ∧ (b < H.size → ¬ Y b ∨ Yi b) ∧ b ≠ g) → O.rep Z' Yi' (setsH H1 ((Addr.mk g 0 none).add (i.toNat * O.rd.sz + o)) 0 vs) x' cs' →
       o + vs.length ≤ O.rd.sz → (∀ (j : Nat), cs'[j]? = if o ≤ j ∧ j < o + vs.length then vs[j - o]? else cs[j]?) → MayWrite H1 ((Addr.mk g 0 none).add (i.toNat * O.rd.sz + o)) vs.length ∧
       SlO O e Z' Y' (setsH H1 ((Addr.mk g 0 none).add (i.toNat * O.rd.sz + o)) 0 vs) A c (xs.set i.toNat x')) := by
 have hi := (List.getElem?_eq_some_iff.1 hx).1
 have hcap := h.cap
 rcases h.blk with ⟨rfl, rfl⟩ | ⟨g, cells, Ys, hA, hg, hb, hs, h1, h2, h3⟩
 · omega
 obtain ⟨cs, hr, hc⟩ := h3 _ x hx
 refine ⟨g, cs, Ys i.toNat, hA, hg, lt_of_get hb, by omega, h1 _, hr, fun j v hj => by rw [add_mk, cell_blk hb]; exact hc j v hj, ?_, ?_⟩
 · intro H' Z' Y' Yi' x' hz hy hyi hr'
   have hgy : ¬ Ys i.toNat g := fun hh => (h1 _ _ hh).2 rfl
   refine ⟨by simpa using hcap, by simpa using h.lt, .inr ⟨g, cells, fun k b => if k = i.toNat then Yi' b ∧ b ≠ g else Ys k b ∧ b < H.size, hA, (hy g hg hgy (lt_of_get hb)).1, (hy g hg hgy (lt_of_get hb)).2.trans hb, hs, ?_, ?_, ?_⟩⟩
   · intro k b hk
     by_cases hki : k = i.toNat
     · simp only [hki, if_true] at hk
       exact ⟨(hyi b hk.1).1, hk.2⟩
     · simp only [hki, if_false] at hk
       exact ⟨(hy b (h1 k b hk.1).1 (fun hh => hki (h2 _ _ _ hk.1 hh)) hk.2).1, (h1 k b hk.1).2⟩
   · intro k l b hk hl
     by_cases hki : k = i.toNat <;> by_cases hli : l = i.toNat
     · rw [hki, hli]
     · simp only [hki, if_true] at hk
       simp only [hli, if_false] at hl
       exact absurd (h2 _ _ _ hl.1 ((hyi b hk.1).2 hl.2)) hli
     · simp only [hki, if_false] at hk
       simp only [hli, if_true] at hl
       exact absurd (h2 _ _ _ hk.1 ((hyi b hl.1).2 hk.2)) hki
     · simp only [hki, if_false] at hk
       simp only [hli, if_false] at hl
       exact h2 _ _ _ hk.1 hl.1
   · intro k y hy'
     rw [List.getElem?_set] at hy'
     by_cases hki : i.toNat = k
     · subst hki
       rw [if_pos rfl, if_pos hi] at hy'
       cases hy'
       exact ⟨cs, by simp only [if_true]; refine O.keep (Fr.refl _ _) ?_ hr'; exact fun b hbi _ => ⟨⟨hbi, fun hbg => by rw [hbg] at hbi; exact hgy ((hyi _ hbi).2 (lt_of_get hb))⟩, rfl⟩, hc⟩
     · rw [if_neg hki] at hy'
       obtain ⟨cs2, hr2, hc2⟩ := h3 k y hy'
       refine ⟨cs2, ?_, hc2⟩
       simp only [Ne.symm hki, if_false]
       exact O.keep hz (fun b hbk hbl => ⟨⟨hbk, hbl⟩, (hy b (h1 k b hbk).1 (fun hh => hki (h2 _ _ _ hh hbk)) hbl).2⟩) hr2
 · intro Z' Y' Yi' H1 x' cs' o vs hz hy hgz hyi hr' hov hcs'
   have hcl := O.len hr
   have hgy : ¬ Ys i.toNat g := fun hh => (h1 _ _ hh).2 rfl
   have hb1 := (hy g hg hgy (lt_of_get hb)).2.trans hb
   have hmul : i.toNat * O.rd.sz + O.rd.sz ≤ c * O.rd.sz := by
     have := Nat.mul_le_mul_right O.rd.sz (show i.toNat + 1 ≤ c by omega)
     rw [Nat.add_mul, Nat.one_mul] at this; exact this
   have ha : (Addr.mk g 0 none).add (i.toNat * O.rd.sz + o) = ⟨g, i.toNat * O.rd.sz + o, none⟩ := add_mk _ _
   rw [ha] at hr' ⊢
   obtain ⟨cells', hb', hs', hget⟩ := setsH_blk vs H1 g (i.toNat * O.rd.sz + o) 0 cells e hb1 (by omega)
   refine ⟨mayWrite_blk hb1 (by omega), by simpa using hcap, by simpa using h.lt, .inr ⟨g, cells', fun k b => if k = i.toNat then Yi' b else Ys k b ∧ b < H.size, hA, (hy g hg hgy (lt_of_get hb)).1, hb', by omega, ?_, ?_, ?_⟩⟩
   · intro k b hk
     by_cases hki : k = i.toNat
     · simp only [hki, if_true] at hk
       exact ⟨(hyi b hk).1, (hyi b hk).2.2⟩
     · simp only [hki, if_false] at hk
       exact ⟨(hy b (h1 k b hk.1).1 (fun hh => hki (h2 _ _ _ hk.1 hh)) hk.2).1, (h1 k b hk.1).2⟩
   · intro k l b hk hl
     by_cases hki : k = i.toNat <;> by_cases hli : l = i.toNat
     · rw [hki, hli]
     · simp only [hki, if_true] at hk
       simp only [hli, if_false] at hl
       rcases (hyi b hk).2.1 hl.2 with hh | hh
       · exact absurd (h1 _ _ hl.1).1 hh
       · exact absurd (h2 _ _ _ hl.1 hh) hli
     · simp only [hki, if_false] at hk
       simp only [hli, if_true] at hl
       rcases (hyi b hl).2.1 hk.2 with hh | hh
       · exact absurd (h1 _ _ hk.1).1 hh
       · exact absurd (h2 _ _ _ hk.1 hh) hki
     · simp only [hki, if_false] at hk
       simp only [hli, if_false] at hl
       exact h2 _ _ _ hk.1 hl.1
   · intro k y hy'
     rw [List.getElem?_set] at hy'
     by_cases hki : i.toNat = k
     · subst hki
       rw [if_pos rfl, if_pos hi] at hy'
       cases hy'
       refine ⟨cs', by simpa using hr', fun j v hj => ?_⟩
       rw [hcs' j] at hj
       rw [hget]
       by_cases hjo : o ≤ j ∧ j < o + vs.length
       · rw [if_pos hjo] at hj
         rw [if_pos (by omega), ← hj]
         congr 1; omega
       · rw [if_neg hjo] at hj
         rw [if_neg (by omega)]
         exact hc j v hj
     · rw [if_neg hki] at hy'
       obtain ⟨cs2, hr2, hc2⟩ := h3 k y hy'
       have hl2 := O.len hr2
       have hkn := (List.getElem?_eq_some_iff.1 hy').1
       refine ⟨cs2, ?_, fun j v hj => ?_⟩
       · simp only [Ne.symm hki, if_false]
         refine O.keep (fun b hb hbl => ⟨(hz b hb hbl).1, ?_⟩) (fun b hbk hbl => ⟨⟨hbk, hbl⟩, ?_⟩) hr2
         · rw [setsH_get_ne _ _ _ _ _ (fun q : b = g => hgz (q ▸ (hz b hb hbl).1))]; exact (hz b hb hbl).2
         · rw [setsH_get_ne _ _ _ _ _ (show b ≠ g from (h1 k b hbk).2)]; exact (hy b (h1 k b hbk).1 (fun hh => hki (h2 _ _ _ hh hbk)) hbl).2
       · have hjl := (List.getElem?_eq_some_iff.1 hj).1
         rw [hget, if_neg]
         · exact hc2 j v hj
         · rintro ⟨q1, q2⟩
           rcases Nat.lt_or_gt_of_ne hki with hlt | hgt
           · have := Nat.mul_le_mul_right O.rd.sz (show i.toNat + 1 ≤ k by omega)
             rw [Nat.add_mul, Nat.one_mul] at this; omega
           · have := Nat.mul_le_mul_right O.rd.sz (show k + 1 ≤ i.toNat by omega)
             rw [Nat.add_mul, Nat.one_mul] at this; omega
end
def Zt (σ : Nat → Nat) : Nat → Prop := fun i => σ i = 0
def Yt (σ : Nat → Nat) (j : Nat) : Nat → Prop := fun i => σ i = j
structure Stp (m : List Nat) (σ : Nat → Nat) (H : Heap) (σ' : Nat → Nat) (H' : Heap) : Prop where
 size : H.size ≤ H'.size
 get : ∀ i, i < H.size → σ i ∉ m → σ' i = σ i ∧ H'[i]? = H[i]?
section
variable {m m' : List Nat} {σ σ' σ2 : Nat → Nat} {H H' H2 : Heap} {j : Nat}
theorem Stp.refl (m : List Nat) (σ : Nat → Nat) (H : Heap) : Stp m σ H σ H := ⟨Nat.le_refl _, fun _ _ _ => ⟨rfl, rfl⟩⟩
theorem Stp.trans (h : Stp m σ H σ' H') (k : Stp m' σ' H' σ2 H2) (hm : ∀ x ∈ m', x ∈ m := by decide) : Stp m σ H σ2 H2 :=
 ⟨Nat.le_trans h.size k.size, fun i hi hn => by
   obtain ⟨h1, h2⟩ := h.get i hi hn
   obtain ⟨k1, k2⟩ := k.get i (Nat.lt_of_lt_of_le hi h.size) (fun hh => hn (by rw [← h1]; exact hm _ hh))
   exact ⟨k1.trans h1, k2.trans h2⟩⟩
theorem Stp.mono (h : Stp m' σ H σ' H') (hm : ∀ x ∈ m', x ∈ m := by decide) : Stp m σ H σ' H' := ⟨h.size, fun i hi hn => h.get i hi fun hh => hn (hm _ hh)⟩
theorem Stp.then (h : Stp m σ H σ' H') (k : Stp m' σ' H' σ2 H2) : Stp (m ++ m') σ H σ2 H2 :=
 (h.mono (fun x hx => List.mem_append_left _ hx)).trans k (fun x hx => List.mem_append_right _ hx)
theorem Stp.y (h : Stp m σ H σ' H') (hj : j ∉ m) : Fr (Yt σ j) H (Yt σ' j) H' := fun i hi hl => by
 have hi' : σ i = j := hi
 obtain ⟨h1, h2⟩ := h.get i hl (by rw [hi']; exact hj)
 exact ⟨h1.trans hi', h2⟩
theorem Stp.z (h : Stp m σ H σ' H') (hm : 0 ∉ m) : Fr (Zt σ) H (Zt σ') H' := h.y hm
def Old (Z : Nat → Prop) (H : Heap) (Z' : Nat → Prop) : Prop := ∀ i, Z' i → i < H.size → Z i
theorem tags (Z : Nat → Prop) : ∃ σ : Nat → Nat, (∀ i, Z i → Zt σ i) ∧ ∀ i, (σ i = 0 ∧ Z i) ∨ σ i = 999 := by
 classical
 refine ⟨fun i => if Z i then 0 else 999, fun i h => by simp [Zt, h], fun i => ?_⟩
 by_cases h : Z i <;> simp [h]
theorem Stp.ext {Z : Nat → Prop} (h : Stp m σ H σ' H') (hσ : ∀ i, (σ i = 0 ∧ Z i) ∨ σ i = 999) (h0 : 0 ∉ m := by decide) (h9 : 999 ∉ m := by decide) : Ext H H' :=
 ⟨h.size, fun i hi => (h.get i hi (by rcases hσ i with ⟨e, _⟩ | e <;> rw [e] <;> assumption)).2⟩
theorem Stp.old {Z : Nat → Prop} (h : Stp m σ H σ' H') (hσ : ∀ i, (σ i = 0 ∧ Z i) ∨ σ i = 999) (h0 : 0 ∉ m := by decide) (h9 : 999 ∉ m := by decide) : Old Z H (Zt σ') := fun i hz hi => by
 rcases hσ i with ⟨e, hz'⟩ | e
 · exact hz'
 · have := (h.get i hi (by rw [e]; assumption)).1
   have hz' : σ' i = 0 := hz
   omega
theorem Stp.fresh {Z : Nat → Prop} (h : Stp m σ H σ' H') (hσ : ∀ i, (σ i = 0 ∧ Z i) ∨ σ i = 999) (hj : j ≠ 0 := by decide) (hj9 : j ≠ 999 := by decide) (h0 : 0 ∉ m := by decide) (h9 : 999 ∉ m := by decide) :
   ∀ i, Yt σ' j i → H.size ≤ i ∧ ¬ Zt σ' i := fun i hy => by
 have hy' : σ' i = j := hy
 refine ⟨?_, fun hz => hj (hy'.symm.trans hz)⟩
 rcases Nat.lt_or_ge i H.size with hi | hi
 · rcases hσ i with ⟨e, _⟩ | e
   · have := (h.get i hi (by rw [e]; exact h0)).1; omega
   · have := (h.get i hi (by rw [e]; exact h9)).1; omega
 · exact hi
section
variable {α : Type} {O : Mr α} {E : Rl α} {e : Nat} {A : Option Addr} {c : Nat} {xs : List α}
theorem SlF.step (h : SlF E (Zt σ) H A c xs) (hs : Stp m σ H σ' H') (hm : 0 ∉ m := by decide) : SlF E (Zt σ') H' A c xs := h.keep (hs.z hm)
theorem SlO.step (h : SlO O e (Zt σ) (Yt σ j) H A c xs) (hs : Stp m σ H σ' H') (hm : 0 ∉ m := by decide) (hj : j ∉ m := by decide) : SlO O e (Zt σ') (Yt σ' j) H' A c xs := h.keep (hs.z hm) (hs.y hj)
end
def nt (σ : Nat → Nat) (n k : Nat) : Nat → Nat := fun i => if i < n then σ i else k
def rt (σ : Nat → Nat) (j k : Nat) : Nat → Nat := fun i => if σ i = j then k else σ i
theorem nt_old {n k i : Nat} (h : i < n) : nt σ n k i = σ i := by simp [nt, h]
theorem nt_new {n k i : Nat} (h : n ≤ i) : nt σ n k i = k := by simp [nt, Nat.not_lt.2 h]
theorem Stp.push (σ : Nat → Nat) (H : Heap) (o : Obj) (k : Nat) : Stp [] σ H (nt σ H.size k) (H.push o) :=
 ⟨(Ext.push H o).size, fun i hi _ => ⟨nt_old hi, (Ext.push H o).get i hi⟩⟩
theorem Stp.retag (σ : Nat → Nat) (H : Heap) (j k : Nat) : Stp [j] σ H (rt σ j k) H :=
 ⟨Nat.le_refl _, fun i hi hn => ⟨by simp at hn; simp [rt, hn], rfl⟩⟩
theorem Ext.stp (h : Ext H H') (σ : Nat → Nat) (k : Nat) : Stp [] σ H (nt σ H.size k) H' := ⟨h.size, fun i hi _ => ⟨nt_old hi, h.get i hi⟩⟩
end
structure CelF (j : Nat) (σ : Nat → Nat) (H : Heap) (a : Addr) (v : Value) : Prop where
 tag : σ a.block = j
 val : cellH H a = some v
theorem CelF.step {m : List Nat} {j : Nat} {σ σ' : Nat → Nat} {H H' : Heap} {a : Addr} {v : Value} (h : CelF j σ H a v) (hs : Stp m σ H σ' H') (hj : j ∉ m := by decide) : CelF j σ' H' a v :=
 ⟨(hs.get _ (lt_of_cell h.val) (by rw [h.tag]; exact hj)).1.trans h.tag, (cell_of_get (hs.get _ (lt_of_cell h.val) (by rw [h.tag]; exact hj)).2).trans h.val⟩
section
variable {m m' : List Nat} {σ σ' σ2 : Nat → Nat} {H H' H2 : Heap} {j : Nat}
structure BoxF (j : Nat) (σ : Nat → Nat) (H : Heap) (g : Nat) (cs : List Value) (t : Nat) : Prop where
 blk : H[g]? = some (.cells cs.toArray t (0, 0))
 tag : σ g = j
theorem BoxF.step {g t : Nat} {cs : List Value} (h : BoxF j σ H g cs t) (hs : Stp m σ H σ' H') (hj : j ∉ m := by decide) : BoxF j σ' H' g cs t := by
 obtain ⟨h1, h2⟩ := hs.get g (lt_of_get h.blk) (by rw [h.tag]; exact hj)
 exact ⟨h2.trans h.blk, h1.trans h.tag⟩
theorem BoxF.new (σ : Nat → Nat) {H H1 : Heap} {cs : List Value} {t : Nat} (k : Nat) (e : H1 = H.push (.cells cs.toArray t (0, 0))) : ∃ σ1, Stp [] σ H σ1 H1 ∧ BoxF k σ1 H1 H.size cs t := by
 subst e; exact ⟨_, Stp.push σ H _ k, get_push_new H _, nt_new (Nat.le_refl _)⟩
theorem BoxF.cell {g t : Nat} {cs : List Value} (h : BoxF j σ H g cs t) (i : Nat) {v : Value} (hv : cs[i]? = some v) : cellH H ((Addr.mk g 0 none).add i) = some v := by
 rw [add_mk, cell_blk h.blk]; simpa using hv
theorem BoxF.cell0 {g t : Nat} {v : Value} {cs : List Value} (h : BoxF j σ H g (v :: cs) t) : cellH H (Addr.mk g 0 none) = some v := by
 rw [cell_blk h.blk]; simp
theorem BoxF.write {g t : Nat} {cs : List Value} (h : BoxF j σ H g cs t) (i : Nat) (v : Value) (hi : i < cs.length) :
   MayWrite H ((Addr.mk g 0 none).add i) 1 ∧ ∀ H1, H1 = setH H ((Addr.mk g 0 none).add i) v → Stp [j] σ H σ H1 ∧ BoxF j σ H1 g (cs.set i v) t := by
 rw [add_mk]
 refine ⟨mayWrite_blk h.blk (by simp; omega), ?_⟩
 rintro H1 rfl
 refine ⟨⟨by rw [setH_size]; exact Nat.le_refl _, fun k hk hn => ⟨rfl, setH_get_ne _ _ _ _ (fun q : k = g => hn (by rw [q, h.tag]; simp))⟩⟩, ?_, h.tag⟩
 have := setH_get_eq (i := i) h.blk v
 rw [this]; simp
end
section
variable {m m' : List Nat} {σ σ' : Nat → Nat} {H H1 : Heap} {j g t : Nat} {cs : List Value}
theorem BoxF.may (h : BoxF j σ H g cs t) (i : Nat) (hi : i < cs.length) : MayWrite H ((Addr.mk g 0 none).add i) 1 := (h.write i undef hi).1
theorem BoxF.wrote {v : Value} (h : BoxF j σ H g cs t) (i : Nat) (hi : i < cs.length) (e : H1 = setH H ((Addr.mk g 0 none).add i) v) : Stp [j] σ H σ H1 ∧ BoxF j σ H1 g (cs.set i v) t := (h.write i v hi).2 H1 e
end
structure PtF {α : Type} (E : Rl α) (Z : Nat → Prop) (H : Heap) (a : Addr) (x : α) : Prop where
 get : ∃ cs, E.rep Z H x cs ∧ ∀ (j : Nat) (v : Value), cs[j]? = some v → Z a.block ∧ cellH H (a.add j) = some v
theorem PtF.keep {α : Type} {E : Rl α} {Z Z' : Nat → Prop} {H H' : Heap} {a : Addr} {x : α} (h : PtF E Z H a x) (hf : Fr Z H Z' H') : PtF E Z' H' a x := by
 obtain ⟨cs, hr, hc⟩ := h.get
 refine ⟨cs, E.keep hf hr, fun j v hj => ?_⟩
 obtain ⟨hz, hv⟩ := hc j v hj
 have hlt := lt_of_cell hv
 rw [add_block] at hlt
 exact ⟨(hf _ hz hlt).1, hf.cell (by rw [add_block]; exact hz) hv⟩
theorem PtF.wide {α : Type} {E : Rl α} {Z Z' : Nat → Prop} {H : Heap} {a : Addr} {x : α} (h : PtF E Z H a x) (hz : ∀ i, Z i → Z' i) : PtF E Z' H a x := h.keep (Fr.wide hz H)
theorem BoxF.pt {α : Type} {E : Rl α} {σ : Nat → Nat} {H : Heap} {g t : Nat} {cs : List Value} {x : α} (h : BoxF 0 σ H g cs t) (hr : E.rep (Zt σ) H x cs) : PtF E (Zt σ) H (Addr.mk g 0 none) x :=
 ⟨cs, hr, fun j v hj => ⟨h.tag, h.cell j hj⟩⟩
theorem PtF.ldN {α : Type} {E : Rl α} {σ : Nat → Nat} {H : Heap} {a : Addr} {x : α} (h : PtF E (Zt σ) H a x) : ∃ cs, E.rep (Zt σ) H x cs ∧ ∀ (j : Nat) (v : Value), cs[j]? = some v → CelF 0 σ H (a.add j) v := by
 obtain ⟨cs, hr, hc⟩ := h.get
 exact ⟨cs, hr, fun j v hj => ⟨by rw [add_block]; exact (hc j v hj).1, (hc j v hj).2⟩⟩
theorem PtF.ld1 {α : Type} {E : Rl α} {σ : Nat → Nat} {H : Heap} {a : Addr} {x : α} (h : PtF E (Zt σ) H a x) (hs : E.sz = 1) : ∃ v, CelF 0 σ H a v ∧ E.rep (Zt σ) H x [v] := by
 obtain ⟨cs, hr, hc⟩ := h.ldN
 have hl := E.len hr
 rw [hs] at hl
 match cs, hl with
 | [v], _ => exact ⟨v, hc 0 v rfl, hr⟩
section
variable {α : Type} {O : Mr α} {E : Rl α} {e j k : Nat} {σ σ' : Nat → Nat} {H H' : Heap} {A : Option Addr} {c : Nat} {xs : List α} {a : Addr}
theorem SlF.addr {Z : Nat → Prop} (h : SlF E Z H A c xs) {i : Int} (h0 : 0 ≤ i) {x : α} (hx : xs[i.toNat]? = some x) {n : Nat} (hn : n = xs.length) : ∃ a, A = some a ∧ 0 ≤ i ∧ i < (n : Int) := by
 obtain ⟨a, _, ha, _⟩ := h.get _ x hx
 have hlt := (List.getElem?_eq_some_iff.1 hx).1
 exact ⟨a, ha, h0, by omega⟩
theorem SlF.ldN {k : Nat} (h : SlF E (Zt σ) H A c xs) (hs : E.sz = k) (ha : A = some a) {i : Int} (h0 : 0 ≤ i) {x : α} (hx : xs[i.toNat]? = some x) :
   ∃ cs, E.rep (Zt σ) H x cs ∧ ∀ (j : Nat) (v : Value), cs[j]? = some v → CelF 0 σ H ((a.add (i.toNat * k)).add j) v := by
 obtain ⟨a', cs, ha', hr, hc⟩ := h.get _ x hx
 rw [ha] at ha'; cases ha'
 refine ⟨cs, hr, fun j v hj => ?_⟩
 obtain ⟨hz, hv⟩ := hc j v hj
 rw [hs, ← add_add] at hv
 exact ⟨by rw [add_block, add_block]; exact hz, hv⟩
theorem SlF.ld1 (h : SlF E (Zt σ) H A c xs) (hs : E.sz = 1) (ha : A = some a) {i : Int} (h0 : 0 ≤ i) {x : α} (hx : xs[i.toNat]? = some x) : ∃ v, CelF 0 σ H (a.add i.toNat) v ∧ E.rep (Zt σ) H x [v] := by
 obtain ⟨cs, hr, hc⟩ := h.ldN hs ha h0 hx
 have hl := E.len hr
 rw [hs] at hl
 match cs, hl with
 | [v], _ => exact ⟨v, by simpa [add_zero] using hc 0 v rfl, hr⟩
theorem SlF.ldu {xs : List Nat} (h : SlF u64L (Zt σ) H A c xs) (ha : A = some a) {i : Int} (h0 : 0 ≤ i) {x : Nat} (hx : xs[i.toNat]? = some x) : CelF 0 σ H (a.add i.toNat) (.int .u64 (x : Int)) := by
 obtain ⟨v, hc, hr⟩ := h.ld1 rfl ha h0 hx; cases hr; exact hc
theorem SlF.ldi {xs : List Int} (h : SlF i64L (Zt σ) H A c xs) (ha : A = some a) {i : Int} (h0 : 0 ≤ i) {x : Int} (hx : xs[i.toNat]? = some x) : CelF 0 σ H (a.add i.toNat) (.int .i64 x) := by
 obtain ⟨v, hc, hr⟩ := h.ld1 rfl ha h0 hx; cases hr; exact hc
theorem SlF.lds {xs : List (List α)} (h : SlF (slL E) (Zt σ) H A c xs) (ha : A = some a) {i : Int} (h0 : 0 ≤ i) {x : List α} (hx : xs[i.toNat]? = some x) :
   ∃ A' c', CelF 0 σ H (a.add i.toNat) (.slice A' x.length c') ∧ SlF E (Zt σ) H A' c' x := by
 obtain ⟨v, hc, A', c', e, hr⟩ := h.ld1 rfl ha h0 hx; cases e; exact ⟨A', c', hc, hr⟩
theorem SlO.seen (h : SlO O e (Zt σ) (Yt σ j) H A c xs) : SlF O.rd (fun i => σ i = 0 ∨ σ i = j) H A c xs := h.read (fun _ h => .inl h) (fun _ h => .inr h)
theorem SlO.addr (h : SlO O e (Zt σ) (Yt σ j) H A c xs) {i : Int} (h0 : 0 ≤ i) {n : Nat} (hn : n = xs.length) (hi : i < (n : Int)) : ∃ a, A = some a ∧ 0 ≤ i ∧ i < (n : Int) :=
 (h.seen.addr h0 (List.getElem?_eq_getElem (show i.toNat < xs.length by omega)) hn)
theorem SlO.freeze (h : SlO O e (Zt σ) (Yt σ j) H A c xs) : ∃ σ', Stp [j] σ H σ' H ∧ SlF O.rd (Zt σ') H A c xs :=
 ⟨rt σ j 0, Stp.retag σ H j 0, h.read (fun i hi => by have hi' : σ i = 0 := hi; simp [Zt, rt, hi']) (fun i hi => by have hi' : σ i = j := hi; simp [Zt, rt, hi'])⟩
theorem SlO.ldN {k : Nat} (h : SlO (rdM E) e (Zt σ) (Yt σ j) H A c xs) (hs : E.sz = k) (ha : A = some a) {i : Int} (h0 : 0 ≤ i) {x : α} (hx : xs[i.toNat]? = some x) :
   ∃ cs, E.rep (Zt σ) H x cs ∧ ∀ (q : Nat) (v : Value), cs[q]? = some v → CelF j σ H ((a.add (i.toNat * k)).add q) v := by
 obtain ⟨g, cs, Yi, hA, hg, _, _, _, hr, hc, _, _⟩ := h.lens h0 hx
 rw [ha] at hA; cases hA
 have hs' : (rdM E).rd.sz = k := hs
 refine ⟨cs, hr, fun q v hq => ?_⟩
 have := hc q v hq
 rw [hs', ← add_add] at this
 exact ⟨by rw [add_block, add_block]; exact hg, this⟩
theorem SlO.ld1 (h : SlO (rdM E) e (Zt σ) (Yt σ j) H A c xs) (hs : E.sz = 1) (ha : A = some a) {i : Int} (h0 : 0 ≤ i) {x : α} (hx : xs[i.toNat]? = some x) : ∃ v, CelF j σ H (a.add i.toNat) v ∧ E.rep (Zt σ) H x [v] := by
 obtain ⟨cs, hr, hc⟩ := h.ldN hs ha h0 hx
 have hl := E.len hr
 rw [hs] at hl
 match cs, hl with
 | [v], _ => exact ⟨v, by simpa [add_zero] using hc 0 v rfl, hr⟩
theorem SlO.ldi {xs : List Int} (h : SlO (rdM i64L) e (Zt σ) (Yt σ j) H A c xs) (ha : A = some a) {i : Int} (h0 : 0 ≤ i) {x : Int} (hx : xs[i.toNat]? = some x) : CelF j σ H (a.add i.toNat) (.int .i64 x) := by
 obtain ⟨v, hc, hr⟩ := h.ld1 rfl ha h0 hx; cases hr; exact hc
theorem SlO.lds {xs : List (List α)} (h : SlO (rdM (slL E)) e (Zt σ) (Yt σ j) H A c xs) (ha : A = some a) {i : Int} (h0 : 0 ≤ i) {x : List α} (hx : xs[i.toNat]? = some x) :
   ∃ A' c', CelF j σ H (a.add i.toNat) (.slice A' x.length c') ∧ SlF E (Zt σ) H A' c' x := by
 obtain ⟨v, hc, A', c', e, hr⟩ := h.ld1 rfl ha h0 hx; cases e; exact ⟨A', c', hc, hr⟩
theorem SlO.set1 (h : SlO (rdM E) e (Zt σ) (Yt σ j) H A c xs) (hs : E.sz = 1) (ha : A = some a) {i : Int} (h0 : 0 ≤ i) (hi : i < (xs.length : Int)) {y : α} {v : Value} (hr : E.rep (Zt σ) H y [v]) (hj : j ≠ 0 := by decide) :
   MayWrite H (a.add i.toNat) 1 ∧ ∀ H1, H1 = setH H (a.add i.toNat) v → Stp [j] σ H σ H1 ∧ SlO (rdM E) e (Zt σ) (Yt σ j) H1 A c (xs.set i.toNat y) := by
 obtain ⟨g, cs, Yi, hA, hg, hgl, _, hYi, hr0, hc, _, hw⟩ := h.lens h0 (List.getElem?_eq_getElem (show i.toNat < xs.length by omega))
 have hl := E.len hr0
 rw [ha] at hA; cases hA
 have hs' : (rdM E).rd.sz = 1 := hs
 rw [hs'] at hw
 have hgz : ¬ Zt σ g := fun q => hj ((show σ g = j from hg).symm.trans q)
 have st : Stp [j] σ H σ (setH H ((Addr.mk g 0 none).add i.toNat) v) := ⟨by rw [setH_size]; exact Nat.le_refl _, fun b hb hn => ⟨rfl, setH_get_ne _ _ _ _ (by rw [add_mk]; exact fun q : b = g => hn (by rw [q, show σ g = j from hg]; simp))⟩⟩
 have := hw (Z' := Zt σ) (Y' := Yt σ j) (Yi' := fun _ => False) (x' := y) (cs' := [v]) (o := 0) (vs := [v]) (Fr.refl _ _) (fun b hb _ _ => ⟨hb, rfl⟩) hgz (fun _ h => h.elim)
   (by simp only [Nat.mul_one, Nat.add_zero]; exact E.keep (st.z (by simpa using Ne.symm hj)) hr) (by simp) (fun k => by
     rw [hs] at hl
     by_cases hk : k = 0
     · subst hk; simp
     · rw [if_neg (by simp; omega), List.getElem?_eq_none (by simp; omega), List.getElem?_eq_none (by omega)])
 simp only [Nat.mul_one, Nat.add_zero] at this
 refine ⟨this.1, ?_⟩
 rintro H1 rfl
 exact ⟨st, this.2⟩
theorem SlO.setF {k : Nat} (h : SlO (rdM E) e (Zt σ) (Yt σ j) H A c xs) (hs : E.sz = k) (ha : A = some a) {i : Int} (h0 : 0 ≤ i) {x : α} (hx : xs[i.toNat]? = some x) (o : Nat) (ho : o < k) {y : α} {v : Value} {β : Type} {EF : Rl β} {xv : β} (hv : EF.rep (Zt σ) H xv [v]) (hr : ∀ cs, EF.rep (Zt σ) H xv [v] → E.rep (Zt σ) H x cs → E.rep (Zt σ) H y (cs.set o v)) (hj : j ≠ 0 := by decide) :
   MayWrite H ((a.add (i.toNat * k)).add o) 1 ∧ ∀ H1, H1 = setH H ((a.add (i.toNat * k)).add o) v → Stp [j] σ H σ H1 ∧ SlO (rdM E) e (Zt σ) (Yt σ j) H1 A c (xs.set i.toNat y) := by
 obtain ⟨g, cs, Yi, hA, hg, hgl, _, hYi, hr0, hc, _, hw⟩ := h.lens h0 hx
 have hl := E.len hr0
 rw [ha] at hA; cases hA
 have hs' : (rdM E).rd.sz = k := hs
 rw [hs'] at hw
 have hgz : ¬ Zt σ g := fun q => hj ((show σ g = j from hg).symm.trans q)
 have st : Stp [j] σ H σ (setH H ((Addr.mk g 0 none).add (i.toNat * k + o)) v) := ⟨by rw [setH_size]; exact Nat.le_refl _, fun b hb hn => ⟨rfl, setH_get_ne _ _ _ _ (by rw [add_mk]; exact fun q : b = g => hn (by rw [q, show σ g = j from hg]; simp))⟩⟩
 have := hw (Z' := Zt σ) (Y' := Yt σ j) (Yi' := fun _ => False) (x' := y) (cs' := cs.set o v) (o := o) (vs := [v]) (Fr.refl _ _) (fun b hb _ _ => ⟨hb, rfl⟩) hgz (fun _ h => h.elim)
   (by simp only [setsH, Nat.add_zero]; exact E.keep (st.z (by simpa using Ne.symm hj)) (hr cs hv hr0)) (by simp; omega) (fun q => by
     rw [hs] at hl
     rw [List.getElem?_set]
     by_cases hq : o = q
     · subst hq; rw [if_pos rfl, if_pos (by omega), if_pos (by simp)]; simp
     · rw [if_neg hq, if_neg (by simp; omega)])
 rw [add_add]
 simp only [setsH, Nat.add_zero] at this
 refine ⟨this.1, ?_⟩
 rintro H1 rfl
 exact ⟨st, this.2⟩
end
theorem repl_len (m : Nat) (zs : List Value) : (repl m zs).length = m * zs.length := by simp [repl]
theorem repl_get (m : Nat) (zs : List Value) : ∀ (i j : Nat) (v : Value), i < m → zs[j]? = some v → (repl m zs)[i * zs.length + j]? = some v := by
 induction m with
 | zero => intro i j v h; omega
 | succ m ih =>
   intro i j v hi hv
   have hj := (List.getElem?_eq_some_iff.1 hv).1
   rw [repl_succ]
   cases i with
   | zero => rw [Nat.zero_mul, Nat.zero_add, List.getElem?_append_left hj]; exact hv
   | succ i =>
     rw [Nat.add_mul, Nat.one_mul, List.getElem?_append_right (by omega), show i * zs.length + zs.length + j - zs.length = i * zs.length + j by omega]
     exact ih i j v (by omega) hv
section
variable {α : Type} {O : Mr α} {E : Rl α} {e j : Nat} {σ : Nat → Nat} {H H1 : Heap} {A : Option Addr} {c : Nat} {xs : List α}
theorem SlO.made (σ : Nat → Nat) (k : Nat) {m : Nat} {zs : List Value} {x : α} (eq : H1 = H.push (.cells (repl m zs).toArray e (0, 0))) (hz : ∀ Z Y H, O.rep Z Y H x zs) (hm : m ≤ 17592186044416) :
   ∃ σ1, Stp [] σ H σ1 H1 ∧ SlO O e (Zt σ1) (Yt σ1 k) H1 (some (Addr.mk H.size 0 none)) m (List.replicate m x) := by
 subst eq
 refine ⟨_, Stp.push σ H _ k, by simp, by simpa using hm, .inr ⟨H.size, _, fun _ _ => False, rfl, nt_new (Nat.le_refl _), get_push_new H _, ?_, fun _ _ h => h.elim, fun _ _ _ h => h.elim, fun i y hy => ?_⟩⟩
 · have := O.len (hz (fun _ => True) (fun _ => True) H); simp [repl_len, this]
 · obtain ⟨hi, hy⟩ := List.getElem?_eq_some_iff.1 hy
   simp at hi hy
   subst hy
   have hl := O.len (hz (fun _ => True) (fun _ => True) H)
   exact ⟨zs, hz _ _ _, fun j v hj => by rw [← hl]; simpa using repl_get m zs i j v hi hj⟩
theorem flat_get {sz : Nat} : ∀ (l : List (List Value)), (∀ cs ∈ l, cs.length = sz) → ∀ (i j : Nat) (cs : List Value) (v : Value), l[i]? = some cs → cs[j]? = some v → l.flatten[i * sz + j]? = some v
 | a :: l, h, i, j, cs, v, hi, hj => by
   have ha := h a (List.mem_cons_self ..)
   have hjl := (List.getElem?_eq_some_iff.1 hj).1
   rw [List.flatten_cons]
   cases i with
   | zero =>
     simp at hi; subst hi
     rw [Nat.zero_mul, Nat.zero_add, List.getElem?_append_left hjl]; exact hj
   | succ i =>
     rw [Nat.add_mul, Nat.one_mul, List.getElem?_append_right (by omega), show i * sz + sz + j - a.length = i * sz + j by omega]
     exact flat_get l (fun cs hc => h cs (List.mem_cons_of_mem _ hc)) i j cs v (by simpa using hi) hj
inductive Each {α : Type} (R : α → List Value → Prop) : List α → List (List Value) → Prop where
 | nil : Each R [] []
 | cons {x : α} {cs : List Value} {xs : List α} {l : List (List Value)} : R x cs → Each R xs l → Each R (x :: xs) (cs :: l)
theorem Each.len {R : α → List Value → Prop} : ∀ {xs : List α} {l : List (List Value)}, Each R xs l → l.length = xs.length
 | _, _, .nil => rfl
 | _, _, .cons _ h => by simp [h.len]
theorem Each.get {R : α → List Value → Prop} : ∀ {xs : List α} {l : List (List Value)}, Each R xs l → ∀ (i : Nat) (x : α), xs[i]? = some x → ∃ cs, l[i]? = some cs ∧ R x cs
 | _, _, .nil, i, x, h => by simp at h
 | _, _, .cons hr h, i, x, hx => by
   cases i with
   | zero => simp at hx; subst hx; exact ⟨_, rfl, hr⟩
   | succ i => exact h.get i x (by simpa using hx)
theorem Each.all {R : α → List Value → Prop} {p : List Value → Prop} (hp : ∀ x cs, R x cs → p cs) : ∀ {xs : List α} {l : List (List Value)}, Each R xs l → ∀ cs ∈ l, p cs
 | _, _, .nil, cs, h => by cases h
 | _, _, .cons hr h, cs, hc => by
   rcases List.mem_cons.1 hc with rfl | hc
   · exact hp _ _ hr
   · exact h.all hp cs hc
theorem flat_len {sz : Nat} : ∀ (l : List (List Value)), (∀ cs ∈ l, cs.length = sz) → l.flatten.length = l.length * sz
 | [], _ => by simp
 | a :: l, h => by rw [List.flatten_cons, List.length_append, flat_len l (fun cs hc => h cs (List.mem_cons_of_mem _ hc)), h a (List.mem_cons_self ..), List.length_cons, Nat.add_mul, Nat.one_mul, Nat.add_comm]
theorem SlO.lit (σ : Nat → Nat) (k : Nat) {xs : List α} {l : List (List Value)} {cells : Array Value} (eq : H1 = H.push (.cells cells e (0, 0))) (hc : cells = l.flatten.toArray) (h : Each (E.rep (Zt σ) H) xs l) (hlen : xs.length ≤ 17592186044416) :
   ∃ σ1, Stp [] σ H σ1 H1 ∧ SlO (rdM E) e (Zt σ1) (Yt σ1 k) H1 (some (Addr.mk H.size 0 none)) xs.length xs := by
 subst eq; subst hc
 have hl : ∀ cs ∈ l, cs.length = E.sz := h.all (fun x cs hr => E.len hr)
 refine ⟨_, Stp.push σ H _ k, Nat.le_refl _, hlen, .inr ⟨H.size, _, fun _ _ => False, rfl, nt_new (Nat.le_refl _), get_push_new H _, ?_, fun _ _ h => h.elim, fun _ _ _ h => h.elim, fun i y hy => ?_⟩⟩
 · rw [List.size_toArray, flat_len l hl, h.len]; rfl
 · obtain ⟨cs, hcs, hr⟩ := h.get i y hy
   exact ⟨cs, E.keep ((Stp.push σ H _ k).z (by simp)) hr, fun j v hj => by rw [List.getElem?_toArray]; exact flat_get l hl i j cs v hcs hj⟩
theorem SlF.upto {Z : Nat → Prop} (h : SlF E Z H A c xs) {u : Nat} (hu : u ≤ xs.length) : SlF E Z H A c (xs.take u) := by
 have hcap := h.cap
 have hlt := h.lt
 refine ⟨by simp; omega, by simp; omega, fun i x hx => ?_⟩
 have hi : i < u := by have := (List.getElem?_eq_some_iff.1 hx).1; simp at this; omega
 rw [List.getElem?_take_of_lt hi] at hx
 exact h.get _ x hx
theorem SlO.appT {ys : List α} {Y : Nat → Nat → Prop} (h : SlO O e (Zt σ) (Yt σ j) H A c xs) (hj : j ≠ 0) {new : List Value} {k bytes : Nat} {zero : List Value}
   (hk : O.rd.sz = k) (hl : new.length = ys.length * k) (hc : new.all isCell = true)
   (hy : ∀ (i : Nat) (y : α), ys[i]? = some y → ∃ cs, O.rep (Zt σ) (Y i) H y cs ∧ ∀ (j : Nat) (v : Value), cs[j]? = some v → new[i * k + j]? = some v)
   (hY1 : ∀ i b, Y i b → σ b ≠ j ∧ σ b ≠ 0) (hY2 : ∀ i l b, Y i b → Y l b → i = l) (hz : zero.length = k) (hb : (xs.length + ys.length) * bytes ≤ 140737488355328) (hlen : xs.length + ys.length ≤ 17592186044416)
   {K : Option Addr → Nat → Nat → Heap → Prop}
   (kont : ∀ A' c' H' Y', (∀ b, Y' b → b < H.size → σ b = j ∨ ∃ i, Y i b) → H.size ≤ H'.size → (∀ b, b < H.size → σ b ≠ j → H'[b]? = H[b]?) → (∀ b, Y' b → b < H'.size) → SlO O e (fun b => Zt σ b ∧ b < H.size) Y' H' A' c' (xs ++ ys) → K A' (xs ++ ys).length c' H') :
   AppendT e k bytes zero H A xs.length c ys.length new K := by
 have hcap := h.cap
 refine ⟨hc, fun hroom => ?_, fun hno => ⟨growslice_fits hno hb, by omega, ?_⟩⟩
 · rcases h.blk with ⟨rfl, rfl⟩ | ⟨g, cells, Ys, rfl, hg, hbk, hs, h1, h2, h3⟩
   · simp only
     have hys : ys = [] := List.eq_nil_of_length_eq_zero (by omega)
     have hxs : xs = [] := List.eq_nil_of_length_eq_zero (by omega)
     subst hys; subst hxs
     have := kont none 0 H (fun _ => False) (fun _ h => h.elim) (Nat.le_refl _) (fun _ _ _ => rfl) (fun _ h => h.elim) (SlO.nil _ _ _ _ _)
     simpa using this
   · simp only
     have ha : (Addr.mk g 0 none).add (xs.length * k) = ⟨g, xs.length * k, none⟩ := add_mk g _
     rw [ha]
     have hsz : xs.length * k + ys.length * k ≤ cells.size := by
       rw [hs, hk, ← Nat.add_mul]; exact Nat.mul_le_mul_right k hroom
     obtain ⟨cells', hb', hs', hget⟩ := setsH_blk new H g (xs.length * k) 0 cells e hbk (by omega)
     have hne : ∀ b, σ b ≠ j → (setsH H ⟨g, xs.length * k, none⟩ 0 new)[b]? = H[b]? := fun b hb => setsH_get_ne _ _ _ _ _ (fun q : b = g => hb (q ▸ hg))
     have hsize : (setsH H ⟨g, xs.length * k, none⟩ 0 new).size = H.size := setsH_size _ _ _ _
     refine ⟨mayWrite_blk hbk (by omega), ?_⟩
     rw [← List.length_append]
     refine kont _ _ _ (fun b => (σ b = j ∨ ∃ i, Y i b) ∧ b < H.size) (fun b hb _ => hb.1) (Nat.le_of_eq hsize.symm) (fun b _ hb => hne b hb) (fun b hb => by rw [hsize]; exact hb.2) ⟨by simpa using hroom, by simpa using hlen, .inr ⟨g, cells', fun i b => if i < xs.length then Ys i b ∧ b < H.size else Y (i - xs.length) b ∧ b < H.size, rfl, ⟨.inl hg, lt_of_get hbk⟩, hb', by rw [hs', hs], ?_, ?_, ?_⟩⟩
     · intro i b hi
       by_cases hlt : i < xs.length
       · simp only [hlt, if_true] at hi
         exact ⟨⟨.inl (h1 i b hi.1).1, hi.2⟩, (h1 i b hi.1).2⟩
       · simp only [hlt, if_false] at hi
         exact ⟨⟨.inr ⟨_, hi.1⟩, hi.2⟩, fun q => (hY1 _ _ hi.1).1 (q ▸ hg)⟩
     · intro i l b hi hl
       by_cases h1i : i < xs.length <;> by_cases h1l : l < xs.length
       · simp only [h1i, h1l, if_true] at hi hl; exact h2 _ _ _ hi.1 hl.1
       · simp only [h1i, h1l, if_true, if_false] at hi hl; exact absurd (h1 _ _ hi.1).1 (hY1 _ _ hl.1).1
       · simp only [h1i, h1l, if_true, if_false] at hi hl; exact absurd (h1 _ _ hl.1).1 (hY1 _ _ hi.1).1
       · simp only [h1i, h1l, if_false] at hi hl; have := hY2 _ _ _ hi.1 hl.1; omega
     · intro i x hx
       have frz : Fr (Zt σ) H (fun b => Zt σ b ∧ b < H.size) (setsH H ⟨g, xs.length * k, none⟩ 0 new) := fun b hb hbl => ⟨⟨hb, hbl⟩, hne b (fun q => hj (q.symm.trans hb))⟩
       by_cases hlt : i < xs.length
       · rw [List.getElem?_append_left hlt] at hx
         obtain ⟨cs, hrp, hcs⟩ := h3 i x hx
         have hl2 := O.len hrp
         refine ⟨cs, by simp only [hlt, if_true]; exact O.keep frz (fun b hb hbl => ⟨⟨hb, hbl⟩, setsH_get_ne _ _ _ _ _ (show b ≠ g from (h1 i b hb).2)⟩) hrp, fun q v hq => ?_⟩
         have hql := (List.getElem?_eq_some_iff.1 hq).1
         have := Nat.mul_le_mul_right k (show i + 1 ≤ xs.length by omega)
         rw [Nat.add_mul, Nat.one_mul] at this
         rw [hget, if_neg (by rw [hk] at hl2 ⊢; omega)]; exact hcs q v hq
       · rw [List.getElem?_append_right (by omega)] at hx
         obtain ⟨cs, hrp, hcs⟩ := hy _ x hx
         have hl2 := O.len hrp
         have hiy := (List.getElem?_eq_some_iff.1 hx).1
         refine ⟨cs, by simp only [hlt, if_false]; exact O.keep frz (fun b hb hbl => ⟨⟨hb, hbl⟩, hne b (hY1 _ _ hb).1⟩) hrp, fun q v hq => ?_⟩
         have hql := (List.getElem?_eq_some_iff.1 hq).1
         have e1 : i * k = xs.length * k + (i - xs.length) * k := by rw [← Nat.add_mul]; congr 1; omega
         have := Nat.mul_le_mul_right k (show (i - xs.length) + 1 ≤ ys.length by omega)
         rw [Nat.add_mul, Nat.one_mul] at this
         rw [hk] at hl2 ⊢
         rw [hget, if_pos (by omega), ← hcs q v hq]
         congr 1; omega
 · obtain ⟨old, Ys, hol, hor, h1, h2, h3⟩ : ∃ (old : List Value) (Ys : Nat → Nat → Prop), old.length = xs.length * k ∧ ReadsC H A old ∧ (∀ i b, Ys i b → σ b = j) ∧ (∀ i l b, Ys i b → Ys l b → i = l) ∧
       ∀ i x, xs[i]? = some x → ∃ cs, O.rep (Zt σ) (Ys i) H x cs ∧ ∀ (q : Nat) (v : Value), cs[q]? = some v → old[i * k + q]? = some v := by
     rcases h.blk with ⟨rfl, rfl⟩ | ⟨g, cells, Ys, rfl, hg, hbk, hs, h1, h2, h3⟩
     · have hxs : xs = [] := List.eq_nil_of_length_eq_zero (by omega)
       subst hxs
       exact ⟨[], fun _ _ => False, by simp, rfl, fun _ _ h => h.elim, fun _ _ _ h => h.elim, fun i x hx => by simp at hx⟩
     · have hle : xs.length * k ≤ cells.size := by rw [hs, hk]; exact Nat.mul_le_mul_right k hcap
       refine ⟨cells.toList.take (xs.length * k), Ys, by simp; omega, fun q hq => ?_, fun i b hb => (h1 i b hb).1, h2, fun i x hx => ?_⟩
       · simp at hq
         have hq2 : q < cells.size := by omega
         rw [add_mk, cell_blk hbk]
         simp [hq2]
       · obtain ⟨cs, hrp, hcs⟩ := h3 i x hx
         have hl2 := O.len hrp
         have hi := (List.getElem?_eq_some_iff.1 hx).1
         refine ⟨cs, hrp, fun q v hq => ?_⟩
         have hql := (List.getElem?_eq_some_iff.1 hq).1
         have := Nat.mul_le_mul_right k (show i + 1 ≤ xs.length by omega)
         rw [Nat.add_mul, Nat.one_mul] at this
         rw [List.getElem?_take_of_lt (by omega), ← hk]; simpa using hcs q v hq
   refine ⟨old, hol, hor, fun c' hc' => ?_⟩
   have E2 := Ext.push H (.cells (old ++ new ++ repl (c' - (xs.length + ys.length)) zero).toArray e (0, 0))
   have frz : ∀ Z : Nat → Prop, Fr Z H (fun b => Z b ∧ b < H.size) (H.push (.cells (old ++ new ++ repl (c' - (xs.length + ys.length)) zero).toArray e (0, 0))) := fun Z b hb hbl => ⟨⟨hb, hbl⟩, E2.get b hbl⟩
   have hcells : (old ++ new ++ repl (c' - (xs.length + ys.length)) zero).length = c' * k := by
     rw [List.length_append, List.length_append, repl_len, hol, hl, hz, ← Nat.add_mul, ← Nat.add_mul]; congr 1; omega
   rw [← List.length_append]
   rw [← List.length_append] at hc' E2 frz hcells
   refine kont _ _ _ (fun b => ((σ b = j ∨ ∃ i, Y i b) ∧ b < H.size) ∨ b = H.size) (fun b hb hlt => by rcases hb with hb | hb; exact hb.1; omega) E2.size (fun b hb _ => E2.get b hb) (fun b hb => by rcases hb with hb | hb; exact Nat.lt_of_lt_of_le hb.2 E2.size; rw [hb]; simp)
     ⟨hc', by simpa using hlen, .inr ⟨H.size, _, fun i b => if i < xs.length then Ys i b ∧ b < H.size else Y (i - xs.length) b ∧ b < H.size, rfl, .inr rfl, get_push_new H _, by rw [List.size_toArray, hcells, hk], ?_, ?_, ?_⟩⟩
   · intro i b hi
     by_cases hlt : i < xs.length
     · simp only [hlt, if_true] at hi
       exact ⟨.inl ⟨.inl (h1 i b hi.1), hi.2⟩, by omega⟩
     · simp only [hlt, if_false] at hi
       exact ⟨.inl ⟨.inr ⟨_, hi.1⟩, hi.2⟩, by omega⟩
   · intro i l b hi hl
     by_cases h1i : i < xs.length <;> by_cases h1l : l < xs.length
     · simp only [h1i, h1l, if_true] at hi hl; exact h2 _ _ _ hi.1 hl.1
     · simp only [h1i, h1l, if_true, if_false] at hi hl; exact absurd (h1 _ _ hi.1) (hY1 _ _ hl.1).1
     · simp only [h1i, h1l, if_true, if_false] at hi hl; exact absurd (h1 _ _ hl.1) (hY1 _ _ hi.1).1
     · simp only [h1i, h1l, if_false] at hi hl; have := hY2 _ _ _ hi.1 hl.1; omega
   · intro i x hx
     by_cases hlt : i < xs.length
     · rw [List.getElem?_append_left hlt] at hx
       obtain ⟨cs, hrp, hcs⟩ := h3 i x hx
       have hl2 := O.len hrp
       refine ⟨cs, by simp only [hlt, if_true]; exact O.keep (frz _) (fun b hb hbl => ⟨⟨hb, hbl⟩, E2.get b hbl⟩) hrp, fun q v hq => ?_⟩
       have hql := (List.getElem?_eq_some_iff.1 hq).1
       have := Nat.mul_le_mul_right k (show i + 1 ≤ xs.length by omega)
       rw [Nat.add_mul, Nat.one_mul] at this
       rw [hk] at hl2 ⊢
       rw [List.getElem?_toArray, List.append_assoc, List.getElem?_append_left (by omega)]; exact hcs q v hq
     · rw [List.getElem?_append_right (by omega)] at hx
       obtain ⟨cs, hrp, hcs⟩ := hy _ x hx
       have hl2 := O.len hrp
       have hiy := (List.getElem?_eq_some_iff.1 hx).1
       refine ⟨cs, by simp only [hlt, if_false]; exact O.keep (frz _) (fun b hb hbl => ⟨⟨hb, hbl⟩, E2.get b hbl⟩) hrp, fun q v hq => ?_⟩
       have hql := (List.getElem?_eq_some_iff.1 hq).1
       have e1 : i * k = xs.length * k + (i - xs.length) * k := by rw [← Nat.add_mul]; congr 1; omega
       have := Nat.mul_le_mul_right k (show (i - xs.length) + 1 ≤ ys.length by omega)
       rw [Nat.add_mul, Nat.one_mul] at this
       rw [hk] at hl2 ⊢
       rw [List.getElem?_toArray, List.append_assoc, List.getElem?_append_right (by omega), List.getElem?_append_left (by omega), ← hcs q v hq]
       congr 1; omega
theorem SlF.reads {Z : Nat → Prop} {k : Nat} (h : SlF E Z H A c xs) (hk : E.sz = k) (hA : A = none → xs = []) :
   ∃ vs : List Value, vs.length = xs.length * k ∧ ReadsC H A vs ∧ vs.all isCell = true ∧ ∀ (i : Nat) (x : α), xs[i]? = some x → ∃ cs, E.rep Z H x cs ∧ ∀ (j : Nat) (v : Value), cs[j]? = some v → vs[i * k + j]? = some v := by
 cases A with
 | none =>
   obtain rfl := hA rfl
   exact ⟨[], by simp, rfl, rfl, fun i x hx => by simp at hx⟩
 | some a =>
   have get : ∀ q, q < xs.length * k → ∃ v, cellH H (a.add q) = some v ∧ isCell v = true := by
     intro q hq
     have hk0 : 0 < k := by rcases Nat.eq_zero_or_pos k with h0 | h0; rw [h0] at hq; omega; exact h0
     have hqi : q / k < xs.length := (Nat.div_lt_iff_lt_mul hk0).2 hq
     obtain ⟨a', cs, ha', hr, hc⟩ := h.get (q / k) _ (List.getElem?_eq_getElem hqi)
     cases ha'
     have hl := E.len hr
     have hm := Nat.mod_lt q hk0
     rw [hk] at hl hc
     have hv := (hc (q % k) _ (List.getElem?_eq_getElem (show q % k < cs.length by omega))).2
     rw [show q / k * k + q % k = q by rw [Nat.mul_comm]; exact Nat.div_add_mod q k] at hv
     exact ⟨_, hv, by have hf := E.flat hr; rw [List.all_eq_true] at hf; exact hf _ (List.getElem_mem _)⟩
   refine ⟨(List.range (xs.length * k)).map fun q => (cellH H (a.add q)).getD undef, by simp, ?_, ?_, ?_⟩
   · intro q hq
     simp at hq
     obtain ⟨v, hv, _⟩ := get q hq
     simp [hv]
   · rw [List.all_eq_true]
     intro v hv
     obtain ⟨q, hq, rfl⟩ := List.mem_map.1 hv
     obtain ⟨v, hv, hf⟩ := get q (List.mem_range.1 hq)
     rw [hv]; exact hf
   · intro i x hx
     obtain ⟨a', cs, ha', hr, hc⟩ := h.get i x hx
     cases ha'
     have hl := E.len hr
     have hi := (List.getElem?_eq_some_iff.1 hx).1
     refine ⟨cs, hr, fun q v hq => ?_⟩
     have hql := (List.getElem?_eq_some_iff.1 hq).1
     have := Nat.mul_le_mul_right k (show i + 1 ≤ xs.length by omega)
     rw [Nat.add_mul, Nat.one_mul] at this
     have hv := (hc q v hq).2
     rw [hk] at hv hl
     have hb : i * k + q < xs.length * k := by omega
     simp [hb, hv]
theorem SlF.none_nil {Z : Nat → Prop} (h : SlF E Z H A c xs) (hA : A = none) : xs = [] := by
 cases xs with
 | nil => rfl
 | cons x l => obtain ⟨a, cs, ha, _⟩ := h.get 0 x rfl; rw [hA] at ha; cases ha
theorem growth {σ : Nat → Nat} {H H' : Heap} {Y' : Nat → Prop} {js : Nat → Prop} (hY' : ∀ b, Y' b → b < H.size → js (σ b)) (hs : H.size ≤ H'.size) (hg : ∀ b, b < H.size → σ b ≠ j → H'[b]? = H[b]?) {m : List Nat} (hm : ∀ x, x ∉ m → ¬ js x) (hj : j ∈ m) (h0 : 0 ∉ m) :
   ∃ σ1, Stp m σ H σ1 H' ∧ Fr (fun b => Zt σ b ∧ b < H.size) H' (Zt σ1) H' ∧ Fr Y' H' (Yt σ1 j) H' := by
 classical
 refine ⟨fun i => if i < H.size then (if Y' i then j else σ i) else j, ⟨hs, fun i hi hn => ⟨?_, hg i hi (fun q => hn (q ▸ hj))⟩⟩, fun i hz _ => ⟨?_, rfl⟩, fun i hy _ => ⟨?_, rfl⟩⟩
 · simp only [hi, if_true]
   rw [if_neg (fun hy => hm _ hn (hY' i hy hi))]
 · have hz' : σ i = 0 := hz.1
   simp only [Zt, hz.2, if_true]
   rw [if_neg (fun hy => hm 0 h0 (by rw [← hz']; exact hY' i hy hz.2))]; exact hz'
 · by_cases hi : i < H.size <;> simp [Yt, hi, hy]
theorem SlO.appF {ys : List α} (h : SlO (rdM E) e (Zt σ) (Yt σ j) H A c xs) {B : Option Addr} {cB : Nat} (hB : SlF E (Zt σ) H B cB ys) {k bytes : Nat} {zero : List Value} (hk : E.sz = k) (hz : zero.length = k)
   (hb : (xs.length + ys.length) * bytes ≤ 140737488355328) (hlen : xs.length + ys.length ≤ 17592186044416) {n m : Nat} (hn : n = xs.length) (hm : m = ys.length) {K : Option Addr → Nat → Nat → Heap → Prop}
   (kont : ∀ A' c' H' σ', Stp [j] σ H σ' H' → SlO (rdM E) e (Zt σ') (Yt σ' j) H' A' c' (xs ++ ys) → K A' (xs ++ ys).length c' H') (hj : j ≠ 0 := by decide) :
   AppendV e k bytes zero H A n c B m K := by
 subst hn; subst hm
 obtain ⟨vs, hl, hr, hc, hv⟩ := hB.reads hk hB.none_nil
 refine ⟨vs, hl, hr, h.appT (O := rdM E) (Y := fun _ _ => False) hj hk hl hc (fun i y hy => hv i y hy) (fun _ _ h => h.elim) (fun _ _ _ h => h.elim) hz hb hlen fun A' c' H' Y' h1 h2 h3 h4 h5 => ?_⟩
 obtain ⟨σ1, st, hz1, hy1⟩ := growth (j := j) (js := fun x => x = j) (m := [j]) (fun b hb hl => by rcases h1 b hb hl with q | ⟨_, q⟩; exact q; exact q.elim) h2 h3 (fun x hx => by simpa using hx) (by simp) (by simpa using Ne.symm hj)
 exact kont A' c' H' σ1 st (h5.keep hz1 hy1)
def slM {α : Type} (O : Mr α) (e : Nat) : Mr (List α) where
 rd := slL O.rd
 rep := fun Z Y H xs cs => ∃ A c, cs = [.slice A xs.length c] ∧ SlO O e Z Y H A c xs
 keep := fun hz hy ⟨A, c, q, h⟩ => ⟨A, c, q, h.keep hz hy⟩
 read := fun hz hy ⟨A, c, q, h⟩ => ⟨A, c, q, h.read hz hy⟩
theorem slM_zero {α : Type} (O : Mr α) (e : Nat) (Z Y : Nat → Prop) (H : Heap) : (slM O e).rep Z Y H [] [.slice none 0 0] := ⟨none, 0, rfl, SlO.nil _ _ _ _ _⟩
theorem slL_zero {α : Type} (E : Rl α) (Z Y : Nat → Prop) (H : Heap) : (rdM (slL E)).rep Z Y H [] [.slice none 0 0] := ⟨none, 0, rfl, SlF.nil _ _ _ _ _⟩
theorem i64_zero (Z Y : Nat → Prop) (H : Heap) : (rdM i64L).rep Z Y H 0 [.int .i64 0] := rfl
end
section
variable {α : Type} {O : Mr α} {E : Rl α} {e e2 j : Nat} {σ : Nat → Nat} {H H1 : Heap} {A : Option Addr} {c : Nat} {xs : List (List α)} {a : Addr}
theorem SlO.row (h : SlO (slM O e2) e (Zt σ) (Yt σ j) H A c xs) (ha : A = some a) {i : Int} (h0 : 0 ≤ i) {x : List α} (hx : xs[i.toNat]? = some x) :
   ∃ A' c' Yi, CelF j σ H (a.add i.toNat) (.slice A' x.length c') ∧ (∀ b, Yi b → σ b = j ∧ b ≠ a.block) ∧ SlO O e2 (Zt σ) Yi H A' c' x ∧
     ∀ {H1 : Heap} {σ1 : Nat → Nat} {x' : List α}, Fr (Zt σ) H (Zt σ1) H1 → (∀ b, b < H.size → σ b = j → ¬ Yi b → σ1 b = j ∧ H1[b]? = H[b]?) → x'.length = x.length → SlO O e2 (Zt σ1) (fun b => Yi b ∧ σ1 b = j) H1 A' c' x' → SlO (slM O e2) e (Zt σ1) (Yt σ1 j) H1 A c (xs.set i.toNat x') := by
 obtain ⟨g, cs, Yi, hA, hg, hgl, _, hYi, hr0, hc, hl, _⟩ := h.lens h0 hx
 rw [ha] at hA; cases hA
 obtain ⟨A', c', rfl, hs⟩ := hr0
 refine ⟨A', c', Yi, ⟨by rw [add_block]; exact hg, by have := hc 0 _ rfl; rw [Nat.add_zero, show (slM O e2).rd.sz = 1 from rfl, Nat.mul_one] at this; exact this⟩, fun b hb => hYi b hb, hs, ?_⟩
 intro H1 σ1 x' hz hy hxl hs'
 exact hl hz (fun b hb hnb hbl => hy b hbl hb hnb) (fun b hb => ⟨hb.2, fun _ => hb.1⟩) ⟨A', c', by rw [hxl], hs'⟩
theorem SlO.set2 {xs : List (List α)} (h : SlO (slM (rdM E) e2) e (Zt σ) (Yt σ j) H A c xs) (hs : E.sz = 1) (ha : A = some a) {i : Int} (h0 : 0 ≤ i) {x : List α} (hx : xs[i.toNat]? = some x)
   {A' : Option Addr} {n' c' : Nat} (hh : CelF j σ H (a.add i.toNat) (.slice A' n' c')) {a' : Addr} (ha' : A' = some a') {l : Int} (l0 : 0 ≤ l) (hl : l < (x.length : Int)) {y : α} {v : Value} (hr : E.rep (Zt σ) H y [v]) (hj : j ≠ 0 := by decide) :
   MayWrite H (a'.add l.toNat) 1 ∧ ∀ H1, H1 = setH H (a'.add l.toNat) v → Stp [j] σ H σ H1 ∧ SlO (slM (rdM E) e2) e (Zt σ) (Yt σ j) H1 A c (xs.set i.toNat (x.set l.toNat y)) ∧ ∀ q u, CelF j σ H (a.add q) u → CelF j σ H1 (a.add q) u := by
 obtain ⟨A2, c2, Yi, hc, hYi, hrow, back⟩ := h.row ha h0 hx
 have hc := hc.val
 rw [hh.val] at hc; cases hc
 obtain ⟨g, cs, Y2, hA, hg, hgl, _, _, hr0, _, _, hw⟩ := hrow.lens l0 (List.getElem?_eq_getElem (show l.toNat < x.length by omega))
 rw [ha'] at hA; cases hA
 have hlen := E.len hr0
 have hs' : (rdM E).rd.sz = 1 := hs
 rw [hs'] at hw
 have hgj : σ g = j := (hYi g hg).1
 have hgz : ¬ Zt σ g := fun q => hj (hgj.symm.trans q)
 have st : Stp [j] σ H σ (setH H ((Addr.mk g 0 none).add l.toNat) v) := ⟨by rw [setH_size]; exact Nat.le_refl _, fun b hb hn => ⟨rfl, setH_get_ne _ _ _ _ (by rw [add_mk]; exact fun q : b = g => hn (by rw [q, hgj]; simp))⟩⟩
 have := hw (Z' := Zt σ) (Y' := fun b => Yi b ∧ σ b = j) (Yi' := fun _ => False) (x' := y) (cs' := [v]) (o := 0) (vs := [v]) (Fr.refl _ _) (fun b hb _ _ => ⟨⟨hb, (hYi b hb).1⟩, rfl⟩) hgz (fun _ h => h.elim)
   (by simp only [Nat.mul_one, Nat.add_zero]; exact E.keep (st.z (by simpa using Ne.symm hj)) hr) (by simp) (fun k => by
     rw [hs] at hlen
     by_cases hk : k = 0
     · subst hk; simp
     · rw [if_neg (by simp; omega), List.getElem?_eq_none (by simp; omega), List.getElem?_eq_none (by omega)])
 simp only [Nat.mul_one, Nat.add_zero] at this
 refine ⟨this.1, ?_⟩
 rintro H1 rfl
 refine ⟨st, back (st.z (by simpa using Ne.symm hj)) (fun b hb hbj hnb => ⟨hbj, ?_⟩) (by simp) this.2, fun q u hq => ⟨hq.tag, ?_⟩⟩
 · rw [setH_get_ne]; rw [add_mk]; exact fun q : b = g => hnb (q ▸ hg)
 · rw [← hq.val]; refine cell_of_get (setH_get_ne _ _ _ _ ?_); rw [add_block, add_mk]; exact fun w => (hYi g hg).2 w.symm
theorem SlO.put {j2 : Nat} (h : SlO (slM O e2) e (Zt σ) (Yt σ j) H A c xs) (ha : A = some a) {i : Int} (h0 : 0 ≤ i) (hi : i < (xs.length : Int)) {A' : Option Addr} {c' n' : Nat} {y : List α} (hn : n' = y.length) (hy : SlO O e2 (Zt σ) (Yt σ j2) H A' c' y) (hj : j ≠ 0 := by decide) (hj2 : j2 ≠ 0 := by decide) (hjj : j2 ≠ j := by decide) :
   MayWrite H (a.add i.toNat) 1 ∧ ∀ H1, H1 = setH H (a.add i.toNat) (.slice A' n' c') → ∃ σ1, Stp [j, j2] σ H σ1 H1 ∧ SlO (slM O e2) e (Zt σ1) (Yt σ1 j) H1 A c (xs.set i.toNat y) := by
 subst hn
 obtain ⟨g, cs, Yi, hA, hg, hgl, _, hYi, hr0, hc, _, hw⟩ := h.lens h0 (List.getElem?_eq_getElem (show i.toNat < xs.length by omega))
 rw [ha] at hA; cases hA
 have hlen := (slM O e2).len hr0
 have hs' : (slM O e2).rd.sz = 1 := rfl
 rw [hs'] at hw hlen
 have hgj : σ g = j := hg
 have e1 : Fr (Zt σ) H (Zt (rt σ j2 j)) H := fun b hb _ => ⟨by have hb' : σ b = 0 := hb; simp [Zt, rt, hb', Ne.symm hj2], rfl⟩
 have e2' : Fr (Yt σ j) H (Yt (rt σ j2 j)  j) H := fun b hb _ => ⟨by have hb' : σ b = j := hb; simp [Yt, rt, hb'], rfl⟩
 have hgz : ¬ Zt (rt σ j2 j) g := fun q => by simp [Zt, rt, hgj, Ne.symm hjj] at q; exact hj q
 have hne : ∀ b, b ≠ g → (setH H ((Addr.mk g 0 none).add i.toNat) (.slice A' y.length c'))[b]? = H[b]? := fun b hb => setH_get_ne _ _ _ _ (by rw [add_mk]; exact hb)
 have := hw (Z' := Zt (rt σ j2 j)) (Y' := Yt (rt σ j2 j) j) (Yi' := fun b => Yt σ j2 b ∧ b < H.size) (x' := y) (cs' := [.slice A' y.length c']) (o := 0) (vs := [.slice A' y.length c']) e1 (fun b hb _ hl => e2' b hb hl) hgz
   (fun b hb => ⟨by have hb' : σ b = j2 := hb.1; simp [Yt, rt, hb'], fun _ => .inl (fun q => by have hb' : σ b = j2 := hb.1; have q' : σ b = j := q; omega), fun q => by have hb' : σ b = j2 := hb.1; rw [q, hgj] at hb'; exact hjj hb'.symm⟩)
   (by
     simp only [Nat.mul_one, Nat.add_zero]
     exact ⟨A', c', rfl, hy.keep (fun b hb hbl => ⟨(e1 b hb hbl).1, hne b (fun q => by have hb' : σ b = 0 := hb; rw [q, hgj] at hb'; exact hj hb')⟩) (fun b hb hbl => ⟨⟨hb, hbl⟩, hne b (fun q => by have hb' : σ b = j2 := hb; rw [q, hgj] at hb'; exact hjj hb'.symm)⟩)⟩) (by simp) (fun k => by
     by_cases hk : k = 0
     · subst hk; simp
     · rw [if_neg (by simp; omega), List.getElem?_eq_none (by simp; omega), List.getElem?_eq_none (by omega)])
 simp only [Nat.mul_one, Nat.add_zero] at this
 refine ⟨this.1, ?_⟩
 rintro H1 rfl
 exact ⟨rt σ j2 j, ⟨by rw [setH_size]; exact Nat.le_refl _, fun b hb hn => ⟨by simp at hn; simp [rt, hn.2], hne b (fun q => hn (by rw [q, hgj]; simp))⟩⟩, this.2⟩
end
def LoopQ {τ : Type} (t0 : τ) (step : τ → (τ → Prop) → Prop) : Prop :=
 ∃ I : Nat → τ → Prop, (∃ n, I n t0) ∧ ∀ n t, I n t → step t fun t' => ∃ n', n' < n ∧ I n' t'
def JoinQ {τ : Type} (body : (τ → Prop) → Prop) (rest : τ → Prop) : Prop := body rest
theorem callJoin {τ : Type} {body : (τ → Prop) → Prop} {rest : τ → Prop} (q : JoinQ body rest) {P : Program} {f : FuncId} {args : List Value} {H : Heap} {K : Value → Heap → Prop} (Rel : τ → Value → Heap → Prop)
   (h1 : body rest → CallH P f args H fun v H' => ∃ t, Rel t v H' ∧ rest t) (h2 : ∀ t v H', Rel t v H' → rest t → K v H') : CallH P f args H K :=
 (h1 q).mono fun v H' ⟨t, hR, hr⟩ => h2 t v H' hR hr
theorem LoopI.ofQ {τ σ : Type} {t0 : τ} {stepQ : τ → (τ → Prop) → Prop} {init : (σ → Heap → Prop) → Prop} {step : σ → (Nat → Value) → Heap → (σ → Heap → Prop) → Prop}
   (q : LoopQ t0 stepQ) (R : τ → σ → Heap → Prop) (hm : ∀ {κ κ' : σ → Heap → Prop}, (∀ s H, κ s H → κ' s H) → init κ → init κ') (h0 : init (R t0))
   (hs : ∀ (t : τ) (s : σ) (z : Nat → Value) (H : Heap) (next : σ → Heap → Prop) (nextQ : τ → Prop), R t s H → stepQ t nextQ → (∀ t' s' H', R t' s' H' → nextQ t' → next s' H') → step s z H next) : LoopI init step := by
 obtain ⟨I, ⟨n, hI⟩, hstep⟩ := q
 refine ⟨fun n s H => ∃ t, I n t ∧ R t s H, ⟨n, hm (fun s H h => ⟨t0, hI, h⟩) h0⟩, ?_⟩
 rintro n s z H ⟨t, hIt, hR⟩
 exact hs t s z H _ _ hR (hstep n t hIt) fun t' s' H' hR' ⟨n', hlt, hI'⟩ => ⟨n', hlt, t', hI', hR'⟩
theorem condI {c : Bool} {A B A' B' : Prop} (h1 : A' → A) (h2 : B' → B) (q : cond c A' B') : cond c A B := by
 cases c
 · exact h2 q
 · exact h1 q
def MakeOk (b : Nat) (l : Int) : Prop := 0 ≤ l ∧ l * (b : Int) ≤ 140737488355328 ∧ l ≤ 17592186044416
theorem MakeOk.w1 {b : Nat} {l : Int} (h : MakeOk b l) : l * (b : Int) ≤ 2 ^ 48 := by have := h.2.1; omega
theorem MakeOk.w2 {b : Nat} {l : Int} (h : MakeOk b l) : l < 2 ^ 62 := by have := h.2.2; omega
theorem MakeOk.len {b : Nat} {l : Int} (h : MakeOk b l) : l.toNat ≤ 17592186044416 := by have := h.2.2; omega
def AppOk (b : Nat) (n : Nat) : Prop := n * b ≤ 140737488355328 ∧ n ≤ 17592186044416
theorem AppOk.l {α : Type} {b : Nat} {xs ys : List α} (h : AppOk b (xs ++ ys).length) : (xs.length + ys.length) * b ≤ 140737488355328 := by have := h.1; rwa [List.length_append] at this
theorem AppOk.r {α : Type} {b : Nat} {xs ys : List α} (h : AppOk b (xs ++ ys).length) : xs.length + ys.length ≤ 17592186044416 := by have := h.2; rwa [List.length_append] at this
theorem MakeOk.of {b : Nat} {l : Int} (h0 : 0 ≤ l) (h : l ≤ 1000000) (hb : b ≤ 1000 := by decide) : MakeOk b l := by
 obtain ⟨n, rfl⟩ := Int.eq_ofNat_of_zero_le h0
 have := Nat.mul_le_mul (show n ≤ 1000000 by omega) hb
 refine ⟨h0, ?_, by omega⟩
 have e : (n : Int) * (b : Int) = ((n * b : Nat) : Int) := by simp
 rw [e]; omega
theorem nnw (x : Int) : 0 ≤ IntKind.u64.wrap x := by rw [IntKind.wrap_u64]; omega
theorem natEq {x : Int} (h : 0 ≤ x) : x = ((x.toNat : Nat) : Int) := (Int.toNat_of_nonneg h).symm
theorem slL_rep {α : Type} {E : Rl α} {Z : Nat → Prop} {H : Heap} {A : Option Addr} {n c : Nat} {xs : List α} (hn : n = xs.length) (h : SlF E Z H A c xs) : (slL E).rep Z H xs [.slice A n c] := by
 subst hn; exact ⟨A, c, rfl, h⟩
theorem rl_len {α : Type} (m : Nat) (x : α) : m = (List.replicate m x).length := List.length_replicate.symm
theorem set_len {α : Type} {n i : Nat} {xs : List α} {y : α} (h : n = xs.length) : n = (xs.set i y).length := by rw [List.length_set]; exact h
theorem take_len {α : Type} {n : Nat} {i : Int} {xs : List α} (hn : n = xs.length) (h : i ≤ (n : Int)) : i.toNat = (xs.take i.toNat).length := by simp; omega
theorem upto_le {n m : Nat} {i : Int} (hn : n = m) (h : i ≤ (n : Int)) : i.toNat ≤ m := by omega
theorem cap_le {n m c : Nat} {i : Int} (hn : n = m) (hc : m ≤ c) (h : i ≤ (n : Int)) : i ≤ (c : Int) := by omega
theorem lt_of_n {n m : Nat} {i : Int} (hn : n = m) (h : i < (n : Int)) : i < (m : Int) := by omega
theorem call0 {H H1 : Heap} (hE : Ext H H1) (σ : Nat → Nat) : ∃ σ1, Stp [] σ H σ1 H1 := ⟨_, Go.Lf.Ext.stp hE σ 998⟩
theorem call2 {H H1 : Heap} {Zc Z' Y1 Y2 : Nat → Prop} (hE : Ext H H1) (hO : Old Zc H Z') (σ : Nat → Nat) (t1 t2 : Nat) (hZ : ∀ i, Zc i → σ i = 0) (h1 : ∀ i, Y1 i → H.size ≤ i ∧ ¬ Z' i) (h2 : ∀ i, Y2 i → H.size ≤ i ∧ ¬ Z' i) (h12 : ∀ i, Y1 i → ¬ Y2 i) :
   ∃ σ1, Stp [] σ H σ1 H1 ∧ Fr Z' H1 (Zt σ1) H1 ∧ Fr Y1 H1 (Yt σ1 t1) H1 ∧ Fr Y2 H1 (Yt σ1 t2) H1 := by
 classical
 refine ⟨fun i => if i < H.size then σ i else if Y1 i then t1 else if Y2 i then t2 else if Z' i then 0 else 998, ⟨hE.size, fun i hi _ => ⟨by simp [hi], hE.get i hi⟩⟩, fun i hz _ => ⟨?_, rfl⟩, fun i hy _ => ⟨?_, rfl⟩, fun i hy _ => ⟨?_, rfl⟩⟩
 · by_cases hi : i < H.size
   · simp [Zt, hi, hZ i (hO i hz hi)]
   · have e1 : ¬ Y1 i := fun h => (h1 i h).2 hz
     have e2 : ¬ Y2 i := fun h => (h2 i h).2 hz
     simp [Zt, hi, e1, e2, hz]
 · have := (h1 i hy).1
   simp [Yt, Nat.not_lt.2 this, hy]
 · have := (h2 i hy).1
   have e1 : ¬ Y1 i := fun h => h12 i h hy
   simp [Yt, Nat.not_lt.2 this, hy, e1]
theorem call1 {H H1 : Heap} {Zc Z' Y1 : Nat → Prop} (hE : Ext H H1) (hO : Old Zc H Z') (σ : Nat → Nat) (t1 : Nat) (hZ : ∀ i, Zc i → σ i = 0) (h1 : ∀ i, Y1 i → H.size ≤ i ∧ ¬ Z' i) :
   ∃ σ1, Stp [] σ H σ1 H1 ∧ Fr Z' H1 (Zt σ1) H1 ∧ Fr Y1 H1 (Yt σ1 t1) H1 := by
 obtain ⟨σ1, a, b, c, _⟩ := call2 hE hO σ t1 0 hZ h1 (Y2 := fun _ => False) (fun _ h => h.elim) (fun _ _ h => h)
 exact ⟨σ1, a, b, c⟩
theorem callZ {H H1 : Heap} {Zc Z' : Nat → Prop} (hE : Ext H H1) (hO : Old Zc H Z') (σ : Nat → Nat) (hZ : ∀ i, Zc i → σ i = 0) : ∃ σ1, Stp [] σ H σ1 H1 ∧ Fr Z' H1 (Zt σ1) H1 := by
 obtain ⟨σ1, a, b, _, _⟩ := call2 hE hO σ 0 0 hZ (Y1 := fun _ => False) (fun _ h => h.elim) (Y2 := fun _ => False) (fun _ h => h.elim) (fun _ _ h => h)
 exact ⟨σ1, a, b⟩
theorem Yt.apart {σ : Nat → Nat} {j k : Nat} (h : j ≠ k := by decide) : ∀ i, Yt σ j i → ¬ Yt σ k i := fun i a b => h ((show σ i = j from a).symm.trans b)
theorem SlO.nilapp {α : Type} {O : Mr α} {e : Nat} {Z Y : Nat → Prop} {H : Heap} {A : Option Addr} {c : Nat} {ys : List α} (h : SlO O e Z Y H A c ([] ++ ys)) : SlO O e Z Y H A c ys := h
theorem idx_lt {α : Type} {n : Nat} {i : Int} {xs : List α} (hn : n = xs.length) (h0 : 0 ≤ i) (h : i < (n : Int)) : i.toNat < xs.length := by omega
theorem set_back {α β : Type} {n a : Nat} {xs : List α} {ys : List β} (h1 : n = ys.length) (h2 : n = xs.length) (h3 : ys.length = a) : xs.length = a := by omega
section
variable {α : Type} {O : Mr α} {E : Rl α} {e e2 j : Nat} {σ : Nat → Nat} {H H1 : Heap} {A : Option Addr} {c : Nat} {xs : List (List α)} {a : Addr}
theorem SlO.rowF {Y : Nat → Prop} {A' : Option Addr} {c' : Nat} {x : List α} (h : SlO O e (Zt σ) Y H A' c' x) (hY : ∀ b, Y b → σ b = j) : SlF O.rd (fun i => σ i = 0 ∨ σ i = j) H A' c' x :=
 h.read (fun _ h => .inl h) (fun b hb => .inr (hY b hb))
theorem SlO.row_lds {xs : List (List (List α))} (h : SlO (slM (rdM (slL E)) e2) e (Zt σ) (Yt σ j) H A c xs) (ha : A = some a) {i : Int} (h0 : 0 ≤ i) {x : List (List α)} (hx : xs[i.toNat]? = some x)
   {A' : Option Addr} {n' c' : Nat} (hh : CelF j σ H (a.add i.toNat) (.slice A' n' c')) {a' : Addr} (ha' : A' = some a') {l : Int} (l0 : 0 ≤ l) {y : List α} (hy : x[l.toNat]? = some y) :
   ∃ A3 c3, CelF j σ H (a'.add l.toNat) (.slice A3 y.length c3) ∧ SlF E (Zt σ) H A3 c3 y := by
 obtain ⟨A2, c2, Yi, hc, hYi, hrow, _⟩ := h.row ha h0 hx
 have hc := hc.val
 rw [hh.val] at hc; cases hc
 obtain ⟨g, cs, Y2, hA, hg, _, _, _, hr0, hcs, _, _⟩ := hrow.lens l0 hy
 rw [ha'] at hA; cases hA
 obtain ⟨A3, c3, rfl, hs⟩ := hr0
 exact ⟨A3, c3, ⟨by rw [add_block]; exact (hYi g hg).1, by have := hcs 0 _ rfl; rw [Nat.add_zero, show (rdM (slL E)).rd.sz = 1 from rfl, Nat.mul_one] at this; exact this⟩, hs⟩
theorem SlO.retag {j : Nat} {xs : List α} (h : SlO O e (Zt σ) (Yt σ j) H A c xs) (k : Nat) (hj : j ≠ 0 := by decide) (hk : k ≠ 0 := by decide) : ∃ σ1, Stp [j] σ H σ1 H ∧ SlO O e (Zt σ1) (Yt σ1 k) H A c xs :=
 ⟨rt σ j k, Stp.retag σ H j k, h.keep (fun b hb _ => ⟨by have hb' : σ b = 0 := hb; simp [Zt, rt, hb', Ne.symm hj], rfl⟩) (fun b hb _ => ⟨by have hb' : σ b = j := hb; simp [Yt, rt, hb'], rfl⟩)⟩
end
section
variable {j : Nat} {σ : Nat → Nat} {H H1 : Heap} {g t : Nat} {cs : List Value}
theorem BoxF.wroteN {vs : List Value} (h : BoxF j σ H g cs t) (i : Nat) (hi : i + vs.length ≤ cs.length) (e : H1 = setsH H ((Addr.mk g 0 none).add i) 0 vs) : Stp [j] σ H σ H1 ∧ BoxF j σ H1 g (cs.take i ++ vs ++ cs.drop (i + vs.length)) t := by
 subst e
 rw [add_mk]
 obtain ⟨cells', hb', hs', hget⟩ := setsH_blk vs H g i 0 _ t h.blk (by simpa using hi)
 refine ⟨⟨by rw [setsH_size]; exact Nat.le_refl _, fun b hb hn => ⟨rfl, setsH_get_ne _ _ _ _ _ (fun q : b = g => hn (by rw [q, h.tag]; simp))⟩⟩, ?_, h.tag⟩
 rw [hb']
 have : cells' = (cs.take i ++ vs ++ cs.drop (i + vs.length)).toArray := by
   apply Array.ext_getElem?
   intro q
   rw [hget q]
   simp only [Nat.add_zero, List.getElem?_toArray]
   rw [List.append_assoc]
   by_cases h1 : q < i
   · rw [if_neg (by omega), List.getElem?_append_left (by simp; omega), List.getElem?_take_of_lt h1]
   · rw [List.getElem?_append_right (by simp; omega)]
     have hl : (List.take i cs).length = i := by simp; omega
     rw [hl]
     by_cases h2 : q < i + vs.length
     · rw [if_pos (by omega), List.getElem?_append_left (by omega)]
     · rw [if_neg (by omega), List.getElem?_append_right (by omega), List.getElem?_drop]
       congr 1; omega
 rw [this]
theorem BoxF.wroteN0 {vs : List Value} (h : BoxF j σ H g cs t) (hi : vs.length ≤ cs.length) (e : H1 = setsH H (Addr.mk g 0 none) 0 vs) : Stp [j] σ H σ H1 ∧ BoxF j σ H1 g (vs ++ cs.drop vs.length) t := by
 have h2 := h.wroteN (vs := vs) (H1 := H1) 0 (by omega) (by rw [add_zero]; exact e)
 simpa using h2
theorem BoxF.mayN (h : BoxF j σ H g cs t) (i n : Nat) (hi : i + n ≤ cs.length) : MayWrite H ((Addr.mk g 0 none).add i) n := by
 rw [add_mk]; exact mayWrite_blk h.blk (by simpa using hi)
end
def copyL {α : Type} (d s : List α) : List α := s.take d.length ++ d.drop s.length
theorem copyL_len {α : Type} (d s : List α) : (copyL d s).length = d.length := by simp [copyL]; omega
section
variable {α : Type} {E : Rl α} {e j : Nat} {σ : Nat → Nat} {H H1 : Heap} {A : Option Addr} {c : Nat} {xs : List α}
theorem SlO.copyW {ys : List α} (h : SlO (rdM E) e (Zt σ) (Yt σ j) H A c xs) {B : Option Addr} {k : Nat} (hk : E.sz = k)
   (hB : ∃ vs : List Value, vs.length = ys.length * k ∧ ReadsC H B vs ∧ vs.all isCell = true ∧ ∀ (i : Nat) (x : α), ys[i]? = some x → ∃ cs, E.rep (Zt σ) H x cs ∧ ∀ (j : Nat) (v : Value), cs[j]? = some v → vs[i * k + j]? = some v)
   {n m : Nat} (hn : n = xs.length) (hm : m = ys.length) {K : Int → Heap → Prop}
   (kont : ∀ H' σ', Stp [j] σ H σ' H' → SlO (rdM E) e (Zt σ') (Yt σ' j) H' A c (copyL xs ys) → K ((min m n : Nat) : Int) H') (hj : j ≠ 0 := by decide) : CopyV k H A n B m K := by
 subst hn; subst hm
 obtain ⟨vs, hl, hr, hc, hv⟩ := hB
 have hcap := h.cap
 have hmin : min ys.length xs.length * k ≤ vs.length := by rw [hl]; exact Nat.mul_le_mul_right k (Nat.min_le_left _ _)
 have hnl : (vs.take (min ys.length xs.length * k)).length = min ys.length xs.length * k := by simp; omega
 refine ⟨vs.take (min ys.length xs.length * k), hnl, ?_, ?_, ?_⟩
 · cases B with
   | none => have hr' : vs = [] := hr; rw [hr']; exact List.take_nil
   | some b => intro q hq; rw [hnl] at hq; rw [List.getElem_take]; exact hr q (by omega)
 · rw [List.all_eq_true] at hc ⊢; exact fun v hv => hc v (List.mem_of_mem_take hv)
 rcases h.blk with ⟨rfl, rfl⟩ | ⟨g, cells, Ys, rfl, hg, hbk, hs, h1, h2, h3⟩
 · simp only
   have hxs : xs = [] := List.eq_nil_of_length_eq_zero (by omega)
   subst hxs
   exact kont H σ (Stp.refl _ _ _) (by have : copyL ([] : List α) ys = [] := by simp [copyL]
                                       rw [this]; exact SlO.nil _ _ _ _ _)
 · simp only
   have hs' : cells.size = c * k := by rw [hs]; show c * E.sz = _; rw [hk]
   have hle : min ys.length xs.length * k ≤ cells.size := by rw [hs']; exact Nat.mul_le_mul_right k (by omega)
   obtain ⟨cells', hb', hz', hget⟩ := setsH_blk (vs.take (min ys.length xs.length * k)) H g 0 0 cells e hbk (by rw [hnl]; omega)
   refine ⟨mayWrite_blk hbk (by rw [hnl]; omega), ?_⟩
   have hgj : σ g = j := hg
   have hne : ∀ b, b ≠ g → (setsH H (Addr.mk g 0 none) 0 (vs.take (min ys.length xs.length * k)))[b]? = H[b]? := fun b hb => setsH_get_ne _ _ _ _ _ hb
   have st : Stp [j] σ H σ (setsH H (Addr.mk g 0 none) 0 (vs.take (min ys.length xs.length * k))) := ⟨by rw [setsH_size]; exact Nat.le_refl _, fun b hb hn => ⟨rfl, hne b (fun q => hn (by rw [q, hgj]; simp))⟩⟩
   refine kont _ σ st ⟨by rw [copyL_len]; exact hcap, by rw [copyL_len]; exact h.lt, .inr ⟨g, cells', fun _ _ => False, rfl, hg, hb', by rw [hz', hs], fun _ _ h => h.elim, fun _ _ _ h => h.elim, fun i x hx => ?_⟩⟩
   have hz0 : 0 ∉ [j] := by simpa using Ne.symm hj
   have hrd : (rdM E).rd.sz = k := hk
   by_cases hi : i < min ys.length xs.length
   · have hx' : ys[i]? = some x := by
       unfold copyL at hx
       rw [List.getElem?_append_left (by simp; omega), List.getElem?_take_of_lt (by omega)] at hx
       exact hx
     obtain ⟨cs, hrp, hcs⟩ := hv i x hx'
     have hcl := E.len hrp
     refine ⟨cs, E.keep (st.z hz0) hrp, fun q v hq => ?_⟩
     have hql := (List.getElem?_eq_some_iff.1 hq).1
     have hb2 := Nat.mul_le_mul_right k (show i + 1 ≤ min ys.length xs.length by omega)
     rw [Nat.add_mul, Nat.one_mul] at hb2
     rw [hrd, hget, if_pos (by rw [hnl]; omega), List.getElem?_take_of_lt (by omega), ← hcs q v hq]; congr 1
   · have hx' : xs[i]? = some x := by
       unfold copyL at hx
       by_cases hle2 : xs.length ≤ ys.length
       · have := (List.getElem?_eq_some_iff.1 hx).1
         simp at this
         omega
       · rw [List.getElem?_append_right (by simp; omega), List.getElem?_drop] at hx
         rw [← hx]; congr 1; simp; omega
     obtain ⟨cs, hrp, hcs⟩ := h3 i x hx'
     have hcl := E.len hrp
     refine ⟨cs, E.keep (st.z hz0) hrp, fun q v hq => ?_⟩
     have hb2 := Nat.mul_le_mul_right k (show min ys.length xs.length ≤ i by omega)
     rw [hget, if_neg (by rw [hnl, hrd]; omega)]
     exact hcs q v hq
theorem SlO.own_reads {ys : List α} {j2 e2 : Nat} {B : Option Addr} {cB : Nat} (hB : SlO (rdM E) e2 (Zt σ) (Yt σ j2) H B cB ys) {k : Nat} (hk : E.sz = k) :
   ∃ vs : List Value, vs.length = ys.length * k ∧ ReadsC H B vs ∧ vs.all isCell = true ∧ ∀ (i : Nat) (x : α), ys[i]? = some x → ∃ cs, E.rep (Zt σ) H x cs ∧ ∀ (j : Nat) (v : Value), cs[j]? = some v → vs[i * k + j]? = some v := by
 obtain ⟨vs, hl, hr, hc, _⟩ := hB.seen.reads hk hB.seen.none_nil
 refine ⟨vs, hl, hr, hc, ?_⟩
 rcases hB.blk with ⟨rfl, hc0⟩ | ⟨g, cells, Ys, rfl, hg, hbk, hs, h1, h2, h3⟩
 · have hys : ys = [] := List.eq_nil_of_length_eq_zero (by have := hB.cap; omega)
   subst hys
   exact fun i y hy => by simp at hy
 · intro i y hy
   obtain ⟨cs, hrp, hcs⟩ := h3 i y hy
   have hl2 := E.len hrp
   have hi := (List.getElem?_eq_some_iff.1 hy).1
   refine ⟨cs, hrp, fun q v hq => ?_⟩
   have hql := (List.getElem?_eq_some_iff.1 hq).1
   have := Nat.mul_le_mul_right k (show i + 1 ≤ ys.length by omega)
   rw [Nat.add_mul, Nat.one_mul] at this
   have hlt : i * k + q < vs.length := by rw [hl]; omega
   have h5 := hr (i * k + q) hlt
   rw [add_mk, cell_blk hbk] at h5
   have hk' : (rdM E).rd.sz = k := hk
   rw [hk'] at hcs
   rw [hcs q v hq] at h5
   rw [List.getElem?_eq_getElem hlt, h5]
theorem SlO.copyO {ys : List α} {j2 e2 : Nat} (h : SlO (rdM E) e (Zt σ) (Yt σ j) H A c xs) {B : Option Addr} {cB : Nat} (hB : SlO (rdM E) e2 (Zt σ) (Yt σ j2) H B cB ys) {k : Nat} (hk : E.sz = k) {n m : Nat} (hn : n = xs.length) (hm : m = ys.length) {K : Int → Heap → Prop}
   (kont : ∀ H' σ', Stp [j] σ H σ' H' → SlO (rdM E) e (Zt σ') (Yt σ' j) H' A c (copyL xs ys) → K ((min m n : Nat) : Int) H') (hj : j ≠ 0 := by decide) : CopyV k H A n B m K :=
 h.copyW hk (hB.own_reads hk) hn hm kont hj
end
structure Turn (τ : Nat → Nat) (H : Heap) (τ' : Nat → Nat) (H' : Heap) : Prop where
 size : H.size ≤ H'.size
 get : ∀ i, i < H.size → τ i = 0 → τ' i = 0 ∧ H'[i]? = H[i]?
def OldT (Z : Nat → Prop) (τ : Nat → Nat) (H : Heap) (Z' : Nat → Prop) : Prop := ∀ i, Z' i → i < H.size → Z i ∨ τ i ≠ 0
def ren (js : List Nat) (σ : Nat → Nat) : Nat → Nat := fun i => if σ i ∈ js then js.idxOf (σ i) + 1 else 0
section
variable {M js : List Nat} {σ σ' τ : Nat → Nat} {H H' H1 : Heap} {Z Z' : Nat → Prop} {n : Nat}
theorem tags2 (Z : Nat → Prop) (τ : Nat → Nat) (n : Nat) (hτ : ∀ i, τ i ≠ 0 → ¬ Z i) : ∃ σ : Nat → Nat, (∀ i, Z i → Zt σ i) ∧ (∀ m, 1 ≤ m → m ≤ n → ∀ i, Yt τ m i → Yt σ m i) ∧ ∀ i, (σ i = 0 ∧ Z i) ∨ (τ i ≠ 0 ∧ τ i = σ i ∧ σ i ≠ 0) ∨ σ i = 999 := by
 classical
 refine ⟨fun i => if Z i then 0 else if 1 ≤ τ i ∧ τ i ≤ n then τ i else 999, fun i h => by simp [Zt, h], fun m h1 h2 i hy => ?_, fun i => ?_⟩
 · have hy' : τ i = m := hy
   have : ¬ Z i := hτ i (by omega)
   simp only [Yt, this, if_false]
   rw [if_pos (by omega)]; exact hy'
 · by_cases hz : Z i
   · left; simp [hz]
   · by_cases h : 1 ≤ τ i ∧ τ i ≤ n
     · refine .inr (.inl ⟨by omega, ?_, ?_⟩)
       · simp only [hz, if_false]; rw [if_pos h]
       · simp only [hz, if_false]; rw [if_pos h]; omega
     · right; right; simp only [hz, if_false, h]
theorem ren_y {j m : Nat} (h : js.idxOf j + 1 = m) (hj : j ∈ js) : ∀ i, Yt σ j i → Yt (ren js σ) m i := fun i hy => by
 have hy' : σ i = j := hy
 simp [Yt, ren, hy', hj, h]
theorem ren_ne {i : Nat} (h : ren js σ i ≠ 0) : σ i ∈ js := by
 unfold ren at h; split at h
 · assumption
 · exact (h rfl).elim
theorem ren_zero {i : Nat} (h : σ i ∉ js) : ren js σ i = 0 := by simp [ren, h]
theorem ren_z (js : List Nat) (σ : Nat → Nat) (h0 : 0 ∉ js := by decide) : ∀ i, ren js σ i ≠ 0 → ¬ Zt σ i := fun i h hz => by
 have := ren_ne h
 rw [show σ i = 0 from hz] at this
 exact h0 this
theorem Stp.turn (h : Stp M σ H σ' H') (hσ : ∀ i, (σ i = 0 ∧ Z i) ∨ (τ i ≠ 0 ∧ τ i = σ i ∧ σ i ≠ 0) ∨ σ i = 999) (h0 : 0 ∉ M := by decide) (h9 : 999 ∉ M := by decide) (j0 : 0 ∉ js := by decide) (j9 : 999 ∉ js := by decide) : Turn τ H (ren js σ') H' :=
 ⟨h.size, fun i hi ht => by
   rcases hσ i with ⟨e, _⟩ | ⟨e, _⟩ | e
   · obtain ⟨a, b⟩ := h.get i hi (by rw [e]; exact h0)
     exact ⟨ren_zero (by rw [a, e]; exact j0), b⟩
   · exact (e ht).elim
   · obtain ⟨a, b⟩ := h.get i hi (by rw [e]; exact h9)
     exact ⟨ren_zero (by rw [a, e]; exact j9), b⟩⟩
theorem Stp.oldT (h : Stp M σ H σ' H') (hσ : ∀ i, (σ i = 0 ∧ Z i) ∨ (τ i ≠ 0 ∧ τ i = σ i ∧ σ i ≠ 0) ∨ σ i = 999) (h9 : 999 ∉ M := by decide) : OldT Z τ H (Zt σ') := fun i hz hi => by
 rcases hσ i with ⟨_, e⟩ | ⟨e, _⟩ | e
 · exact .inl e
 · exact .inr e
 · have := (h.get i hi (by rw [e]; exact h9)).1
   have hz' : σ' i = 0 := hz
   omega
theorem callT {τ' : Nat → Nat} (hT : Turn (ren js σ) H τ' H1) (hO : OldT (Zt σ) (ren js σ) H Z') (hd : ∀ i, τ' i ≠ 0 → ¬ Z' i) (js2 : List Nat) :
   ∃ σ1, Stp js σ H σ1 H1 ∧ Fr Z' H1 (Zt σ1) H1 ∧ ∀ (m j : Nat), js2[m]? = some j → ∀ i, Yt τ' (m + 1) i → Yt σ1 j i := by
 classical
 refine ⟨fun i => if i < H.size ∧ ren js σ i = 0 then σ i else if τ' i = 0 then (if Z' i then 0 else 998) else (js2[τ' i - 1]?).getD 998, ⟨hT.size, fun i hi hn => ?_⟩, fun i hz _ => ⟨?_, rfl⟩, fun m j hj i hy => ?_⟩
 · have hr := ren_zero (js := js) (σ := σ) (i := i) hn
   exact ⟨by simp [hi, hr], (hT.get i hi hr).2⟩
 · have h0 : τ' i = 0 := Classical.byContradiction fun h => hd i h hz
   show (if i < H.size ∧ ren js σ i = 0 then σ i else _) = 0
   by_cases h : i < H.size ∧ ren js σ i = 0
   · rw [if_pos h]
     rcases hO i hz h.1 with h1 | h1
     · exact h1
     · exact (h1 h.2).elim
   · rw [if_neg h, if_pos h0, if_pos hz]
 · have hy' : τ' i = m + 1 := hy
   show (if i < H.size ∧ ren js σ i = 0 then σ i else _) = j
   rw [if_neg (fun h => by have := (hT.get i h.1 h.2).1; omega), if_neg (by omega), hy']
   simp [hj]
end
end Go.Lf
set_option linter.unusedVariables false
namespace Go.Lf
open Go.Sx Go.Deep Go.WideShapes Go.ChangeShapes
def okW (P : Program) (t : TypeId) {I : Type} (d : DataW I) : Prop := (d.weights P t).all (· ≤ reachBytes) = true
structure Meas {I : Type} (μ : DataW I → Nat) : Prop where
 len : ∀ e s, e.length ≤ μ (.slice e s)
 sl : ∀ e s d, d ∈ e → μ d ≤ μ (.slice e s)
 agg : ∀ ps d, d ∈ ps → μ d ≤ μ (.agg ps)
def OpensL (P : Program) (t : TypeId) {α : Type} (E : Rl α) : Prop :=
 ∀ (I : Type) (enc : TypeId × Value → I) (w : World) (held : Bool) (fuel : Nat) (cs : List Value) (x : DataW I × List MemPlace), DataW.trod enc P w 0 (fun _ => true) held fuel t cs = some x → okW P t x.1 → ∃ y, E.rep All w.heap y cs ∧ ∀ (μ : DataW I → Nat) (n : Nat), Meas μ → μ x.1 ≤ n → E.sm n y
variable {P : Program} {t e : TypeId}
theorem wf_u64 {n : Int} (h : (Lit.int .u64 n).wf = true) : 0 ≤ n ∧ n < 18446744073709551616 := by
 simp [Lit.wf, IntKind.min, IntKind.max, IntKind.signed, IntKind.bits] at h; omega
theorem wf_i64 {n : Int} (h : (Lit.int .i64 n).wf = true) : -9223372036854775808 ≤ n ∧ n < 9223372036854775808 := by
 simp [Lit.wf, IntKind.min, IntKind.max, IntKind.signed, IntKind.bits] at h; omega
theorem opens_u64 (ht : P.underlying t = some (.int .u64)) : OpensL P t u64L := by
 intro I enc w held fuel cs x h _
 obtain ⟨n, rfl, _, hw⟩ := DataW.trod_int ht h
 have := wf_u64 hw
 exact ⟨n.toNat, by show [Value.int .u64 n] = _; rw [show ((n.toNat : Nat) : Int) = n by omega], fun _ _ _ _ => trivial⟩
theorem opens_i64 (ht : P.underlying t = some (.int .i64)) : OpensL P t i64L := by
 intro I enc w held fuel cs x h _
 obtain ⟨n, rfl, _, hw⟩ := DataW.trod_int ht h
 exact ⟨n, rfl, fun _ _ _ _ => trivial⟩
theorem opens_bool (ht : P.underlying t = some .bool) : OpensL P t boolL := by
 intro I enc w held fuel cs x h _
 obtain ⟨n, rfl, _⟩ := DataW.trod_bool ht h
 exact ⟨n, rfl, fun _ _ _ _ => trivial⟩
theorem weightsAll_mem {I : Type} {d : DataW I} : ∀ {l : List (DataW I)}, d ∈ l → (DataW.weightsAll P e l).all (· ≤ reachBytes) = true → okW P e d
 | a :: l, hm, h => by
   simp only [DataW.weightsAll, List.all_append, Bool.and_eq_true] at h
   rcases List.mem_cons.1 hm with rfl | hm
   · exact h.1
   · exact weightsAll_mem hm h.2
theorem weightsEach_get {I : Type} {ts : List TypeId} {ds : List (DataW I)} (h : (DataW.weightsEach P ts ds).all (· ≤ reachBytes) = true) {j : Nat} {d : DataW I} (ht : ts[j]? = some t) (hd : ds[j]? = some d) : okW P t d := by
 induction ts generalizing ds j with
 | nil => simp at ht
 | cons a ts ih =>
   cases ds with
   | nil => simp at hd
   | cons b ds =>
     simp only [DataW.weightsEach, List.all_append, Bool.and_eq_true] at h
     cases j with
     | zero => simp at ht hd; subst ht; subst hd; exact h.1
     | succ j => exact ih h.2 (by simpa using ht) (by simpa using hd)
theorem opens_slice {α : Type} {E : Rl α} (ht : P.underlying t = some (.slice e)) (ce : P.cellsOf e = E.sz) (hb : 140737488351232 ≤ E.mx * P.bytesOf e) (he : OpensL P e E) : OpensL P t (slL E) := by
 intro I enc w held fuel cs x h hw
 rcases open_slice ht h with ⟨rfl, rfl⟩ | ⟨a, len, cap, m, n, D, Pl, rfl, hb0, hl, hm, hmm, rfl, hx⟩
 · exact ⟨[], ⟨none, 0, rfl, SlF.nil _ _ _ _ _⟩, fun _ _ _ _ => ⟨Nat.zero_le _, fun x h => by cases h⟩⟩
 simp only [if_true] at hmm
 subst hmm
 unfold okW at hw
 simp only [DataW.weights, ht, List.all_cons, List.all_append, Bool.and_eq_true, List.length_map, List.length_range, decide_eq_true_eq] at hw
 obtain ⟨hsz, hel, _⟩ := hw
 have hcap : m ≤ E.mx := by
   have h1 : (len + (m - len)) * P.bytesOf e ≤ 140737488351232 := hsz
   rw [show len + (m - len) = m by omega] at h1
   have h2 := Nat.le_trans h1 hb
   refine Nat.le_of_mul_le_mul_right h2 ?_
   rcases Nat.eq_zero_or_pos (P.bytesOf e) with h0 | h0
   · rw [h0] at hb; omega
   · exact h0
 have each : ∀ i, i < len → ∃ y cs, (E.rep All w.heap y cs ∧ ∀ (j : Nat) (v : Value), cs[j]? = some v → cellH w.heap (a.add (i * E.sz + j)) = some v) ∧ ∀ (μ : DataW I → Nat) (n : Nat), Meas μ → μ (D i) ≤ n → E.sm n y := fun i hi => by
   obtain ⟨cs', h1, h2⟩ := hx i (by omega)
   obtain ⟨y, hy, hsm⟩ := he I enc w held n cs' (D i, Pl i) h2 (weightsAll_mem (List.mem_map.2 ⟨i, List.mem_range.2 hi, rfl⟩) hel)
   obtain ⟨_, hlen, hc⟩ := World.cells?_some h1
   refine ⟨y, cs', ⟨hy, fun j v hj => ?_⟩, hsm⟩
   have hjl := (List.getElem?_eq_some_iff.1 hj).1
   have := hc j (by omega)
   rw [hj, cellH_eq, add_add, ce] at this
   exact this
 obtain ⟨xs, hxl, hxs⟩ : ∃ xs : List α, xs.length = len ∧ ∀ (i : Nat) (y : α), xs[i]? = some y → ∃ cs, (E.rep All w.heap y cs ∧ ∀ (j : Nat) (v : Value), cs[j]? = some v → cellH w.heap (a.add (i * E.sz + j)) = some v) ∧ ∀ (μ : DataW I → Nat) (n : Nat), Meas μ → μ (D i) ≤ n → E.sm n y := by
   have : ∀ k, k ≤ len → ∃ xs : List α, xs.length = k ∧ ∀ (i : Nat) (y : α), xs[i]? = some y → ∃ cs, (E.rep All w.heap y cs ∧ ∀ (j : Nat) (v : Value), cs[j]? = some v → cellH w.heap (a.add (i * E.sz + j)) = some v) ∧ ∀ (μ : DataW I → Nat) (n : Nat), Meas μ → μ (D i) ≤ n → E.sm n y := by
     intro k
     induction k with
     | zero => exact fun _ => ⟨[], rfl, fun i y h => by simp at h⟩
     | succ k ih =>
       intro hk
       obtain ⟨xs, h1, h2⟩ := ih (by omega)
       obtain ⟨y, hy⟩ := each k (by omega)
       refine ⟨xs ++ [y], by simp [h1], fun i z hz => ?_⟩
       rcases Nat.lt_or_ge i k with h' | h'
       · rw [List.getElem?_append_left (by omega)] at hz; exact h2 i z hz
       · have hi := (List.getElem?_eq_some_iff.1 hz).1
         simp at hi
         obtain rfl : i = k := by omega
         rw [List.getElem?_append_right (by omega), h1] at hz
         simp at hz
         subst hz; exact hy
   exact this len (Nat.le_refl _)
 refine ⟨xs, ⟨some a, m, by rw [hxl], by omega, by omega, fun i y hy => ?_⟩, fun μ q hμ hq => ⟨?_, fun y hy => ?_⟩⟩
 · obtain ⟨cs', ⟨hr, hc⟩, _⟩ := hxs i y hy
   exact ⟨a, cs', rfl, hr, fun j v hj => ⟨trivial, hc j v hj⟩⟩
 · have := Nat.le_trans (hμ.len _ _) hq
   simpa [hxl] using this
 · obtain ⟨i, hi⟩ := List.mem_iff_getElem?.1 hy
   obtain ⟨cs', _, hsm⟩ := hxs i y hi
   have hil := (List.getElem?_eq_some_iff.1 hi).1
   exact hsm μ q hμ (Nat.le_trans (hμ.sl _ _ _ (List.mem_map.2 ⟨i, List.mem_range.2 (by omega), rfl⟩)) hq)
theorem open_struct {fs : Array Field} (ht : P.underlying t = some (.struct fs)) {I : Type} {enc : TypeId × Value → I} {w : World} {held : Bool} {fuel : Nat} {cs : List Value} {x : DataW I × List MemPlace} (h : DataW.trod enc P w 0 (fun _ => true) held fuel t cs = some x) (hw : okW P t x.1) :
   cs.length = P.cellsOf t ∧ ∀ (i : Nat) (f : Field) {α : Type} {E : Rl α} {k o : Nat}, fs[i]? = some f → OpensL P f.type E → P.cellsOf f.type = k → f.offset = o → ∃ y, E.rep All w.heap y ((cs.drop o).take k) ∧ ∀ (μ : DataW I → Nat) (n : Nat), Meas μ → μ x.1 ≤ n → E.sm n y := by
 obtain ⟨xs, n, _, rfl, hl, hlen, hel⟩ := DataW.trod_struct ht h
 refine ⟨hl, fun i f α E k o hi hE hk ho => ?_⟩
 subst hk; subst ho
 have hil : i < xs.length := by rw [hlen]; exact (Array.getElem?_eq_some_iff.1 hi).1
 have h1 := hel i f hi
 rw [List.getElem?_eq_getElem hil] at h1
 obtain ⟨y, hy, hsm⟩ := hE I enc w held n _ _ h1 (by
   unfold okW at hw
   simp only [DataW.weights, ht] at hw
   exact weightsEach_get hw (by rw [List.getElem?_map, Array.getElem?_toList, hi]; rfl) (by rw [List.getElem?_map, List.getElem?_eq_getElem hil]; rfl))
 exact ⟨y, hy, fun μ q hμ hq => hsm μ q hμ (Nat.le_trans (hμ.agg _ _ (List.mem_map.2 ⟨_, List.getElem_mem hil, rfl⟩)) hq)⟩
section
variable {I : Type} {enc : TypeId × Value → I} {w : World} {held : Bool} {v : Value} {d : DataW I} {ps : List MemPlace} {r : Reach} {b0 : Nat}
theorem argL {α : Type} {E : Rl α} (ho : OpensL P t E) (hd : DataW.Trod enc P w 0 (fun _ => true) held t v d ps) (hw : okW P t d) : ∃ y, E.rep All w.heap y v.cells.toList ∧ ∀ (μ : DataW I → Nat) (n : Nat), Meas μ → μ d ≤ n → E.sm n y := by
 obtain ⟨fuel, hf⟩ := hd
 exact ho I enc w held fuel _ (d, ps) hf hw
theorem arg_i64L (ht : P.underlying t = some (.int .i64)) (hval : Value.okWide P w r b0 t v) (hd : DataW.Trod enc P w 0 (fun _ => true) held t v d ps) : ∃ x : Int, v = .int .i64 x ∧ -9223372036854775808 ≤ x ∧ x < 9223372036854775808 := by
 obtain ⟨n, rfl, _, _, hw⟩ := open_int ht hval hd
 exact ⟨n, rfl, wf_i64 hw⟩
theorem arg_sliceL {α : Type} {E : Rl α} (ht : P.underlying t = some (.slice e)) (ho : OpensL P t (slL E)) (hval : Value.okWide P w r b0 t v) (hd : DataW.Trod enc P w 0 (fun _ => true) held t v d ps) (hw : okW P t d) :
   ∃ A c xs, v = .slice A xs.length c ∧ SlF E All w.heap A c xs ∧ ∀ (μ : DataW I → Nat) (n : Nat), Meas μ → μ d ≤ n → (slL E).sm n xs := by
 obtain ⟨a, len, cap, rfl⟩ := okWide_slice ht hval
 obtain ⟨y, ⟨A, c, hv, hs⟩, hsm⟩ := argL ho hd hw
 simp [Value.cells] at hv
 obtain ⟨rfl, rfl, rfl⟩ := hv
 exact ⟨_, _, y, rfl, hs, hsm⟩
theorem arg_structL {α : Type} {E : Rl α} {fs : Array Field} (ht : P.underlying t = some (.struct fs)) (ho : OpensL P t E) (hval : Value.okWide P w r b0 t v) (hd : DataW.Trod enc P w 0 (fun _ => true) held t v d ps) (hw : okW P t d) :
   ∃ (y : α) (cs : List Value), v = .agg cs.toArray ∧ E.rep All w.heap y cs ∧ ∀ (μ : DataW I → Nat) (n : Nat), Meas μ → μ d ≤ n → E.sm n y := by
 obtain ⟨cs, rfl, hcs⟩ := okWide_struct ht hval
 obtain ⟨y, hy, hsm⟩ := argL ho hd hw
 exact ⟨y, cs.toList, by simp, hy, hsm⟩
theorem list_0 {l : List Value} (h : l.length = 0) : l = [] := List.eq_nil_of_length_eq_zero h
theorem list_s {l : List Value} {n : Nat} (h : l.length = n + 1) : ∃ a l', l = a :: l' ∧ l'.length = n := by
 cases l with
 | nil => simp at h
 | cons a l => exact ⟨a, l, rfl, by simpa using h⟩
end
end Go.Lf
set_option linter.unusedVariables false
set_option linter.unusedVariables false
namespace Go.Lf
open Go.Sx
section
variable {σ : Nat → Nat} {H H1 : Heap} {j g t : Nat} {cs : List Value}
theorem BoxF.wr3 {v0 v1 v2 : Value} (h : BoxF j σ H g cs t) (hi : 3 ≤ cs.length) (e : H1 = setH (setH (setH H (Addr.mk g 0 none) v0) ((Addr.mk g 0 none).add 1) v1) ((Addr.mk g 0 none).add 2) v2) : Stp [j] σ H σ H1 ∧ BoxF j σ H1 g ([v0, v1, v2] ++ cs.drop 3) t :=
 h.wroteN0 (vs := [v0, v1, v2]) hi (by rw [e]; simp only [setsH, Nat.zero_add, Nat.reduceAdd, Go.Sx.add_zero])
theorem BoxF.wr5 {v0 v1 v2 v3 v4 : Value} (h : BoxF j σ H g cs t) (hi : 5 ≤ cs.length) (e : H1 = setH (setH (setH (setH (setH H (Addr.mk g 0 none) v0) ((Addr.mk g 0 none).add 1) v1) ((Addr.mk g 0 none).add 2) v2) ((Addr.mk g 0 none).add 3) v3) ((Addr.mk g 0 none).add 4) v4) : Stp [j] σ H σ H1 ∧ BoxF j σ H1 g ([v0, v1, v2, v3, v4] ++ cs.drop 5) t :=
 h.wroteN0 (vs := [v0, v1, v2, v3, v4]) hi (by rw [e]; simp only [setsH, Nat.zero_add, Nat.reduceAdd, Go.Sx.add_zero])
theorem BoxF.wr8 {v0 v1 v2 v3 v4 v5 v6 v7 : Value} (h : BoxF j σ H g cs t) (hi : 8 ≤ cs.length) (e : H1 = setH (setH (setH (setH (setH (setH (setH (setH H (Addr.mk g 0 none) v0) ((Addr.mk g 0 none).add 1) v1) ((Addr.mk g 0 none).add 2) v2) ((Addr.mk g 0 none).add 3) v3) ((Addr.mk g 0 none).add 4) v4) ((Addr.mk g 0 none).add 5) v5) ((Addr.mk g 0 none).add 6) v6) ((Addr.mk g 0 none).add 7) v7) : Stp [j] σ H σ H1 ∧ BoxF j σ H1 g ([v0, v1, v2, v3, v4, v5, v6, v7] ++ cs.drop 8) t :=
 h.wroteN0 (vs := [v0, v1, v2, v3, v4, v5, v6, v7]) hi (by rw [e]; simp only [setsH, Nat.zero_add, Nat.reduceAdd, Go.Sx.add_zero])
theorem condJ {c : Bool} {A B A' B' : Prop} (h2 : B' → B) (h1 : A' → A) (q : cond c A' B') : cond c A B := condI h1 h2 q
theorem BoxF.mayF {n : Nat} (h : BoxF j σ H g cs t) (hi : cs.length = n) : MayWrite H (Addr.mk g 0 none) n := by
 have := h.mayN 0 n (by omega)
 rwa [Go.Sx.add_zero] at this
theorem BoxF.wf3 {v0 v1 v2 : Value} (h : BoxF j σ H g cs t) (hi : cs.length = 3) (e : H1 = setH (setH (setH H (Addr.mk g 0 none) v0) ((Addr.mk g 0 none).add 1) v1) ((Addr.mk g 0 none).add 2) v2) : Stp [j] σ H σ H1 ∧ BoxF j σ H1 g [v0, v1, v2] t := by
 have := h.wr3 (by omega) e
 rwa [List.drop_of_length_le (by omega), List.append_nil] at this
theorem BoxF.wf5 {v0 v1 v2 v3 v4 : Value} (h : BoxF j σ H g cs t) (hi : cs.length = 5) (e : H1 = setH (setH (setH (setH (setH H (Addr.mk g 0 none) v0) ((Addr.mk g 0 none).add 1) v1) ((Addr.mk g 0 none).add 2) v2) ((Addr.mk g 0 none).add 3) v3) ((Addr.mk g 0 none).add 4) v4) : Stp [j] σ H σ H1 ∧ BoxF j σ H1 g [v0, v1, v2, v3, v4] t := by
 have := h.wr5 (by omega) e
 rwa [List.drop_of_length_le (by omega), List.append_nil] at this
theorem BoxF.wf8 {v0 v1 v2 v3 v4 v5 v6 v7 : Value} (h : BoxF j σ H g cs t) (hi : cs.length = 8) (e : H1 = setH (setH (setH (setH (setH (setH (setH (setH H (Addr.mk g 0 none) v0) ((Addr.mk g 0 none).add 1) v1) ((Addr.mk g 0 none).add 2) v2) ((Addr.mk g 0 none).add 3) v3) ((Addr.mk g 0 none).add 4) v4) ((Addr.mk g 0 none).add 5) v5) ((Addr.mk g 0 none).add 6) v6) ((Addr.mk g 0 none).add 7) v7) : Stp [j] σ H σ H1 ∧ BoxF j σ H1 g [v0, v1, v2, v3, v4, v5, v6, v7] t := by
 have := h.wr8 (by omega) e
 rwa [List.drop_of_length_le (by omega), List.append_nil] at this
end
end Go.Lf
end
section
set_option maxRecDepth 100000
namespace Go.Proofs.Ytpfpnkaeoedeiaa.Facts
theorem make_of {P : Program} {r : List (List Char)} (h : behindMainWord (wordsSigns P.initOrder.toList) = [Char.ofNat 99, Char.ofNat 117, Char.ofNat 116] :: r) : P.make = some .cut := by
 unfold Program.make; rw [h]; rfl
theorem lifts_of {P : Program} {r : List (List Char)} (h : behindMainWord (wordsSigns P.initOrder.toList) = [Char.ofNat 99, Char.ofNat 117, Char.ofNat 116] :: r) : P.headLifts = [] := by
 unfold Program.headLifts; rw [h]; rfl
theorem final_of {P : Program} {r : List (List Char)} (h : behindMainWord (wordsSigns P.initOrder.toList) = [Char.ofNat 99, Char.ofNat 117, Char.ofNat 116] :: r) : P.liftsFinal = false := by
 unfold Program.liftsFinal; rw [h, lifts_of h]; rfl
theorem enters_of {P : Program} {r : List (List Char)} (h : behindMainWord (wordsSigns P.initOrder.toList) = [Char.ofNat 99, Char.ofNat 117, Char.ofNat 116] :: r) (h1 : P.laysLater = false) (h2 : P.bearsReflect = false) (h3 : P.doorRows = []) : P.mayEnter = true := by
 unfold Program.mayEnter; rw [h]
 have e : stripLifts liftWords ([Char.ofNat 99, Char.ofNat 117, Char.ofNat 116] :: r) = ([], [Char.ofNat 99, Char.ofNat 117, Char.ofNat 116] :: r) := rfl
 simp only [e, h1, h2, Program.doorFits, h3]
 rfl
def left (P : Program) (f : FuncId) (fn : Func) (s : ChangeSpec) (c : OpenClaim) (m l : Bool) (k : Bool) : Bool :=
 c.wf (OpenSpec.ofChange s) && laidOutB P && mapsRowed P &&
 fn.params.all (P.readableRec ·) && namedTie P c.named s.vars &&
 (c.stops == []) && (P.stops == []) && (c.knobs == []) && (P.stopKnobs == []) &&
 (c.inPlace == P.inPlace f) && (c.unfollowed == P.unfollowed f) && (c.recurses == P.recurses f) && (c.named == P.varsNamed f) &&
 (c.maps == (fn.params.toList ++ s.plain.varTypes P).any (P.mapsRec ·)) && (c.ifaces == (fn.params.toList ++ s.plain.varTypes P).any (P.ifacesRec ·)) && (c.mapsOut == P.mapsAmong fn.resultTypes.toList) &&
 (c.loops == (fn.params.toList ++ s.plain.varTypes P).any (P.loopsFrom ·)) && (c.wideKeys == (fn.params.toList ++ s.plain.varTypes P ++ fn.resultTypes.toList).any (P.wideKeysFrom ·)) &&
 s.vars.all (P.varReadable ·) && fn.resultTypes.all (fun t => P.readableRec t && decide (t < P.types.size)) && (c.ifacesOut == fn.resultTypes.toList.any (P.ifacesRec ·)) && (c.loopsOut == fn.resultTypes.toList.any (P.loopsFrom ·)) && (c.plainKeys == P.plainKeys) && c.shortTexts.isNone && P.stopsHeard && m && l && k && (c.kinds == (if c.domain.isEmpty then [] else fn.params.toList.map fun t => match P.underlying t with | some (.int k) => some k | _ => none)) && (c.pinned == c.pinnedBy) &&
 (c.veiled == (fn.params.toList ++ s.plain.varTypes P ++ fn.resultTypes.toList).any (P.veiledRec ·)) && c.veiledFits P fn.params.toList (fn.params.toList ++ s.plain.varTypes P ++ fn.resultTypes.toList)
theorem joined_of {P : Program} {f : FuncId} {fn : Func} {s : ChangeSpec} {c : OpenClaim} {M : Make} (hm : P.mayEnter = true) (hl : P.liftsFinal = false) (hk : P.make = some M)
   (h : left P f fn s c true (c.lifted == false) (some M == some c.make) = true) : joinedFacts P f fn s c = true := by
 unfold left at h; unfold joinedFacts; rw [hm, hl, hk]; exact h
def signs : List Char := [Char.ofNat 104, Char.ofNat 97, Char.ofNat 114, Char.ofNat 110, Char.ofNat 101, Char.ofNat 115, Char.ofNat 115, Char.ofNat 32, Char.ofNat 52, Char.ofNat 50, Char.ofNat 54, Char.ofNat 52, Char.ofNat 51, Char.ofNat 102, Char.ofNat 55, Char.ofNat 57, Char.ofNat 57, Char.ofNat 52, Char.ofNat 52, Char.ofNat 102, Char.ofNat 98, Char.ofNat 48, Char.ofNat 102, Char.ofNat 97, Char.ofNat 55, Char.ofNat 49, Char.ofNat 101, Char.ofNat 54, Char.ofNat 55, Char.ofNat 54, Char.ofNat 49, Char.ofNat 101, Char.ofNat 100, Char.ofNat 54, Char.ofNat 56, Char.ofNat 54, Char.ofNat 55, Char.ofNat 53, Char.ofNat 97, Char.ofNat 48, Char.ofNat 102, Char.ofNat 99, Char.ofNat 99, Char.ofNat 100, Char.ofNat 51, Char.ofNat 49, Char.ofNat 98, Char.ofNat 49, Char.ofNat 57, Char.ofNat 49, Char.ofNat 97, Char.ofNat 100, Char.ofNat 100, Char.ofNat 97, Char.ofNat 51, Char.ofNat 54, Char.ofNat 101, Char.ofNat 101, Char.ofNat 102, Char.ofNat 101, Char.ofNat 98, Char.ofNat 52, Char.ofNat 100, Char.ofNat 101, Char.ofNat 53, Char.ofNat 98, Char.ofNat 102, Char.ofNat 102, Char.ofNat 100, Char.ofNat 57, Char.ofNat 57, Char.ofNat 52, Char.ofNat 32, Char.ofNat 99, Char.ofNat 117, Char.ofNat 116, Char.ofNat 32, Char.ofNat 97, Char.ofNat 116, Char.ofNat 32, Char.ofNat 106, Char.ofNat 117, Char.ofNat 110, Char.ofNat 116, Char.ofNat 111, Char.ofNat 47, Char.ofNat 106, Char.ofNat 117, Char.ofNat 110, Char.ofNat 116, Char.ofNat 111, Char.ofNat 108, Char.ofNat 97, Char.ofNat 119, Char.ofNat 49, Char.ofNat 56, Char.ofNat 46, Char.ofNat 75, Char.ofNat 105, Char.ofNat 110, Char.ofNat 103, Char.ofNat 65, Char.ofNat 103, Char.ofNat 114, Char.ofNat 101, Char.ofNat 101, Char.ofNat 115, Char.ofNat 32, Char.ofNat 106, Char.ofNat 117, Char.ofNat 110, Char.ofNat 116, Char.ofNat 111, Char.ofNat 47, Char.ofNat 106, Char.ofNat 117, Char.ofNat 110, Char.ofNat 116, Char.ofNat 111, Char.ofNat 108, Char.ofNat 97, Char.ofNat 119, Char.ofNat 49, Char.ofNat 56, Char.ofNat 46, Char.ofNat 75, Char.ofNat 105, Char.ofNat 110, Char.ofNat 103, Char.ofNat 79, Char.ofNat 110, Char.ofNat 101, Char.ofNat 32, Char.ofNat 106, Char.ofNat 117, Char.ofNat 110, Char.ofNat 116, Char.ofNat 111, Char.ofNat 47, Char.ofNat 106, Char.ofNat 117, Char.ofNat 110, Char.ofNat 116, Char.ofNat 111, Char.ofNat 108, Char.ofNat 97, Char.ofNat 119, Char.ofNat 49, Char.ofNat 56, Char.ofNat 46, Char.ofNat 75, Char.ofNat 105, Char.ofNat 110, Char.ofNat 103, Char.ofNat 83, Char.ofNat 97, Char.ofNat 121, Char.ofNat 115, Char.ofNat 32, Char.ofNat 106, Char.ofNat 117, Char.ofNat 110, Char.ofNat 116, Char.ofNat 111, Char.ofNat 47, Char.ofNat 106, Char.ofNat 117, Char.ofNat 110, Char.ofNat 116, Char.ofNat 111, Char.ofNat 108, Char.ofNat 97, Char.ofNat 119, Char.ofNat 49, Char.ofNat 56, Char.ofNat 46, Char.ofNat 75, Char.ofNat 105, Char.ofNat 110, Char.ofNat 103, Char.ofNat 72, Char.ofNat 101, Char.ofNat 97, Char.ofNat 114, Char.ofNat 100, Char.ofNat 32, Char.ofNat 106, Char.ofNat 117, Char.ofNat 110, Char.ofNat 116, Char.ofNat 111, Char.ofNat 47, Char.ofNat 106, Char.ofNat 117, Char.ofNat 110, Char.ofNat 116, Char.ofNat 111, Char.ofNat 108, Char.ofNat 97, Char.ofNat 119, Char.ofNat 49, Char.ofNat 56, Char.ofNat 46, Char.ofNat 75, Char.ofNat 105, Char.ofNat 110, Char.ofNat 103, Char.ofNat 82, Char.ofNat 111, Char.ofNat 117, Char.ofNat 110, Char.ofNat 100, Char.ofNat 115]
def words : List (List Char) := [[Char.ofNat 99, Char.ofNat 117, Char.ofNat 116], [Char.ofNat 97, Char.ofNat 116], [Char.ofNat 106, Char.ofNat 117, Char.ofNat 110, Char.ofNat 116, Char.ofNat 111, Char.ofNat 47, Char.ofNat 106, Char.ofNat 117, Char.ofNat 110, Char.ofNat 116, Char.ofNat 111, Char.ofNat 108, Char.ofNat 97, Char.ofNat 119, Char.ofNat 49, Char.ofNat 56, Char.ofNat 46, Char.ofNat 75, Char.ofNat 105, Char.ofNat 110, Char.ofNat 103, Char.ofNat 65, Char.ofNat 103, Char.ofNat 114, Char.ofNat 101, Char.ofNat 101, Char.ofNat 115], [Char.ofNat 106, Char.ofNat 117, Char.ofNat 110, Char.ofNat 116, Char.ofNat 111, Char.ofNat 47, Char.ofNat 106, Char.ofNat 117, Char.ofNat 110, Char.ofNat 116, Char.ofNat 111, Char.ofNat 108, Char.ofNat 97, Char.ofNat 119, Char.ofNat 49, Char.ofNat 56, Char.ofNat 46, Char.ofNat 75, Char.ofNat 105, Char.ofNat 110, Char.ofNat 103, Char.ofNat 79, Char.ofNat 110, Char.ofNat 101], [Char.ofNat 106, Char.ofNat 117, Char.ofNat 110, Char.ofNat 116, Char.ofNat 111, Char.ofNat 47, Char.ofNat 106, Char.ofNat 117, Char.ofNat 110, Char.ofNat 116, Char.ofNat 111, Char.ofNat 108, Char.ofNat 97, Char.ofNat 119, Char.ofNat 49, Char.ofNat 56, Char.ofNat 46, Char.ofNat 75, Char.ofNat 105, Char.ofNat 110, Char.ofNat 103, Char.ofNat 83, Char.ofNat 97, Char.ofNat 121, Char.ofNat 115], [Char.ofNat 106, Char.ofNat 117, Char.ofNat 110, Char.ofNat 116, Char.ofNat 111, Char.ofNat 47, Char.ofNat 106, Char.ofNat 117, Char.ofNat 110, Char.ofNat 116, Char.ofNat 111, Char.ofNat 108, Char.ofNat 97, Char.ofNat 119, Char.ofNat 49, Char.ofNat 56, Char.ofNat 46, Char.ofNat 75, Char.ofNat 105, Char.ofNat 110, Char.ofNat 103, Char.ofNat 72, Char.ofNat 101, Char.ofNat 97, Char.ofNat 114, Char.ofNat 100], [Char.ofNat 106, Char.ofNat 117, Char.ofNat 110, Char.ofNat 116, Char.ofNat 111, Char.ofNat 47, Char.ofNat 106, Char.ofNat 117, Char.ofNat 110, Char.ofNat 116, Char.ofNat 111, Char.ofNat 108, Char.ofNat 97, Char.ofNat 119, Char.ofNat 49, Char.ofNat 56, Char.ofNat 46, Char.ofNat 75, Char.ofNat 105, Char.ofNat 110, Char.ofNat 103, Char.ofNat 82, Char.ofNat 111, Char.ofNat 117, Char.ofNat 110, Char.ofNat 100, Char.ofNat 115]]
theorem order : Try.prog.initOrder = String.ofList signs := by kernel_rfl
theorem front : behindMainWord (wordsSigns Try.prog.initOrder.toList) = words := by
 rw [order, String.toList_ofList]; kernel_rfl
theorem enters : Try.prog.mayEnter = true := enters_of front (by kernel_rfl) (by kernel_rfl) (by kernel_rfl)
theorem final : Try.prog.liftsFinal = false := final_of front
theorem made : Try.prog.make = some .cut := make_of front
open Go.Lf
theorem one_le {H : Type} (d : DataW H) : 1 ≤ Rows.uptoBulk d := by
 cases d with
 | lit l => cases l <;> simp [Rows.uptoBulk]
 | nil => simp [Rows.uptoBulk]
 | ptr d => simp [Rows.uptoBulk]
 | slice elems spare => simp [Rows.uptoBulk]
 | agg parts => simp [Rows.uptoBulk]
 | iface t d => simp [Rows.uptoBulk]
 | map entries => simp [Rows.uptoBulk]
 | held h => simp [Rows.uptoBulk]
theorem part_le {H : Type} {d : DataW H} {l : List (DataW H)} (h : d ∈ l) : Rows.uptoBulk d ≤ Rows.uptoBulkAll l := by
 induction l with
 | nil => cases h
 | cons x r ih =>
   simp only [Rows.uptoBulkAll]
   cases List.mem_cons.1 h with
   | inl e => subst e; omega
   | inr e => have := ih e; omega
theorem length_le {H : Type} (l : List (DataW H)) : l.length ≤ Rows.uptoBulkAll l := by
 induction l with
 | nil => simp [Rows.uptoBulkAll]
 | cons x r ih => have := one_le x; simp only [Rows.uptoBulkAll, List.length_cons]; omega
theorem meas {H : Type} : Meas (I := H) Rows.uptoBulk where
 len := fun e s => by have := length_le e; simp only [Rows.uptoBulk]; omega
 sl := fun e s d h => by have := part_le h; simp only [Rows.uptoBulk]; omega
 agg := fun ps d h => by have := part_le h; simp only [Rows.uptoBulk]; omega
theorem bulk_get {H : Type} {l : List (DataW H)} (hk : Rows.uptoSmall H l = true) {d : DataW H} (hd : d ∈ l) : Rows.uptoBulk d ≤ 1048576 :=
 Nat.le_trans (part_le hd) (of_decide_eq_true hk)
end Go.Proofs.Ytpfpnkaeoedeiaa.Facts
end
section
set_option linter.unusedVariables false
namespace Go.Lf
open Go.Sx
structure KeyOps (P : Program) (kt : TypeId) {κ : Type} (ek : κ → Value) : Prop where
 check : ∀ (w : World) (em : Bool) (k : κ), (Instr.checkKey em 10000 kt (ek k)).run P w = .ok () w
 find : ∀ (w : World) (k : κ) (es : List MapEntry) (ks : List κ), es.map (·.key) = ks.map ek → ((Instr.findKey kt (ek k) es).run P w = .ok none w ∧ k ∉ ks) ∨ ∃ i e, (Instr.findKey kt (ek k) es).run P w = .ok (some (i, e.val)) w ∧ es[i]? = some e ∧ ks[i]? = some k
 stays : ∀ (w : World) (k : κ), (Instr.keyThatStays (ek k) (ek k)).run P w = .ok (ek k) w
section
variable {P : Program} {q : IntKind}
def intsV (q : IntKind) (l : List Int) : Array Value := (l.map (Value.int q)).toArray
theorem intsV_get (l : List Int) (i : Nat) : (intsV q l)[i]? = (l[i]?).map (Value.int q) := by simp [intsV]
theorem plain_int {e : TypeId} (he : P.underlying e = some (.int q)) : P.plainKey e = true := by unfold Program.plainKey; simp [he]
theorem eqItems_int {e : TypeId} (he : P.underlying e = some (.int q)) (d : Nat) (w : World) {a b : List Int} : ∀ (is : List Nat), (∀ i ∈ is, i < a.length ∧ i < b.length) →
   (Op.eqItems (d + 1) e 1 (intsV q a) (intsV q b) is).run P w = .ok (is.all fun i => decide (a[i]? = b[i]?)) w
 | [], _ => by simp [Op.eqItems]
 | i :: is, h => by
   obtain ⟨h1, h2⟩ := h i (List.mem_cons_self ..)
   have ea : a[i]? = some a[i] := List.getElem?_eq_getElem h1
   have eb : b[i]? = some b[i] := List.getElem?_eq_getElem h2
   have ga : (intsV q a)[i * 1]? = some (.int q a[i]) := by rw [Nat.mul_one, intsV_get, ea]; rfl
   have gb : (intsV q b)[i * 1]? = some (.int q b[i]) := by rw [Nat.mul_one, intsV_get, eb]; rfl
   have ih := eqItems_int he d w (a := a) (b := b) is fun j hj => h j (List.mem_cons_of_mem _ hj)
   simp only [Op.eqItems, Sem.run_bind, run_part_plain w (plain_int he) ga, run_part_plain w (plain_int he) gb, Result.andThen_ok, run_equalIn_int w d e q q a[i] b[i] he]
   by_cases hab : a[i] = b[i]
   · simp [hab, ih, ea, eb]
   · simp [hab, ea, eb]
theorem all_range {a b : List Int} {n : Nat} (ha : a.length = n) (hb : b.length = n) : ((List.range n).all fun i => decide (a[i]? = b[i]?)) = decide (a = b) := by
 by_cases h : a = b
 · subst h; simp
 · rw [decide_eq_false h, List.all_eq_false]
   apply Classical.byContradiction
   intro hno
   apply h
   apply List.ext_getElem?
   intro i
   by_cases hi : i < n
   · apply Classical.byContradiction
     intro hne
     exact hno ⟨i, List.mem_range.2 hi, by simpa using hne⟩
   · rw [List.getElem?_eq_none (by omega), List.getElem?_eq_none (by omega)]
section
variable {t e : TypeId} {n : Nat} {i : TypeInfo}
theorem equal_arr (hu : P.underlying t = some (.array n e)) (hi : P.info? e = some i) (hc : P.cellsOf e = 1) (he : P.underlying e = some (.int q)) (w : World) {a b : List Int} (ha : a.length = n) (hb : b.length = n) :
   (Op.equal t (.agg (intsV q a)) (.agg (intsV q b))).run P w = .ok (decide (a = b)) w := by
 show (Op.equalIn (9999 + 1) t _ _).run P w = _
 rw [run_equalIn_array w 9999 _ _ hu hi, hc, eqItems_int he 9998 w _ (fun j hj => by have := List.mem_range.1 hj; omega), all_range ha hb]
theorem check_arr (hu : P.underlying t = some (.array n e)) (hi : P.info? e = some i) (hc : P.cellsOf e = 1) (he : P.underlying e = some (.int q)) (w : World) (em : Bool) {a : List Int} (ha : a.length = n) :
   (Instr.checkKey em 10000 t (.agg (intsV q a))).run P w = .ok () w := by
 show (Instr.checkKey em (9999 + 1) t _).run P w = _
 rw [Instr.checkKey]
 simp only [Sem.run_bind, run_underlying hu, Result.andThen_ok]
 simp only [Std.Legacy.Range.forIn_eq_forIn_range', Std.Legacy.Range.size, Nat.sub_zero, Nat.add_one_sub_one, Nat.div_one]
 have hall : ∀ j ∈ List.range' 0 n, j < a.length := fun j hj => by simp [List.mem_range'] at hj; omega
 generalize List.range' 0 n = is at hall
 induction is with
 | nil => simp
 | cons j is ih =>
   have hj := hall j (by simp)
   have gj : (intsV q a)[j * 1]? = some (.int q a[j]) := by rw [Nat.mul_one, intsV_get, List.getElem?_eq_getElem hj]; rfl
   have hk : (Instr.checkKey em 9999 e (.int q a[j])).run P w = .ok () w := MapKept.run_checkKey (k := .int q a[j]) he (by simp [MapKept.IsKey]) em 9998
   simp only [List.forIn_cons, Sem.run_bind, run_sizeOf w hi, hc, Result.andThen_ok, run_part_plain w (plain_int he) gj, hk, Sem.run_pure]
   exact ih (fun y hy => hall y (by simp [hy]))
theorem findAsking_arr (hu : P.underlying t = some (.array n e)) (hi : P.info? e = some i) (hc : P.cellsOf e = 1) (he : P.underlying e = some (.int q)) (w : World) {a : List Int} (ha : a.length = n) : ∀ (es : List MapEntry) (ks : List (List Int)) (j : Nat), (∀ b ∈ ks, b.length = n) → es.map (·.key) = ks.map (fun b => .agg (intsV q b)) →
   ((Instr.findAsking t (.agg (intsV q a)) es j).run P w = .ok none w ∧ a ∉ ks) ∨ ∃ m e, (Instr.findAsking t (.agg (intsV q a)) es j).run P w = .ok (some (j + m, e.val)) w ∧ es[m]? = some e ∧ ks[m]? = some a
 | [], [], _, _, _ => .inl ⟨by simp [Instr.findAsking], by simp⟩
 | [], _ :: _, _, _, h => by simp at h
 | _ :: _, [], _, _, h => by simp at h
 | x :: es, b :: ks, j, hks, h => by
   simp only [List.map_cons, List.cons.injEq] at h
   obtain ⟨h1, h2⟩ := h
   have hr := equal_arr hu hi hc he w ha (hks b (List.mem_cons_self ..))
   by_cases hab : a = b
   · subst hab
     rw [decide_eq_true rfl] at hr
     exact .inr ⟨0, x, by simp [Instr.findAsking, h1, hr], by simp, by simp⟩
   · rw [decide_eq_false hab] at hr
     rcases findAsking_arr hu hi hc he w ha es ks (j + 1) (fun b hb => hks b (List.mem_cons_of_mem _ hb)) h2 with ⟨h3, h4⟩ | ⟨m, e', h3, h4, h5⟩
     · exact .inl ⟨by simp [Instr.findAsking, h1, hr, h3], by simp [hab, h4]⟩
     · exact .inr ⟨m + 1, e', by simp [Instr.findAsking, h1, hr, h3, Nat.add_assoc, Nat.add_comm 1 m], by simpa using h4, by simpa using h5⟩
theorem keyArr {κ : Type} {enc : κ → List Int} (inj : ∀ a b, enc a = enc b → a = b) (hlen : ∀ k, (enc k).length = n) (hu : P.underlying t = some (.array n e)) (hi : P.info? e = some i) (hc : P.cellsOf e = 1) (he : P.underlying e = some (.int q)) : KeyOps P t (fun k => .agg (intsV q (enc k))) where
 check w em k := check_arr hu hi hc he w em (hlen k)
 find w k es ks h := by
   have hw : (match P.underlying t with | some (.array _ _) | some (.struct _) => true | _ => false) = true := by rw [hu]
   rw [run_findKey_eq w hw]
   rcases findAsking_arr hu hi hc he w (hlen k) es (ks.map enc) 0 (fun b hb => by obtain ⟨k', _, rfl⟩ := List.mem_map.1 hb; exact hlen k') (by rw [h, List.map_map]; rfl) with ⟨h1, h2⟩ | ⟨m, e', h1, h2, h3⟩
   · exact .inl ⟨h1, fun hk => h2 (List.mem_map.2 ⟨k, hk, rfl⟩)⟩
   · refine .inr ⟨m, e', by rw [Nat.zero_add] at h1; exact h1, h2, ?_⟩
     rw [List.getElem?_map] at h3
     cases hm : ks[m]? with
     | none => rw [hm] at h3; cases h3
     | some k' => rw [hm] at h3; rw [inj _ _ (Option.some.inj h3)]
 stays w k := by
   have : Instr.sameBits 10000 (.agg (intsV q (enc k))) (.agg (intsV q (enc k))) = true := by
     show Instr.sameBits (9999 + 1) _ _ = true
     simp only [Instr.sameBits, beq_self_eq_true, Bool.true_and, List.all_eq_true]
     intro p hp
     have := List.of_mem_zip hp
     obtain ⟨i, hi⟩ := List.mem_iff_getElem?.1 hp
     rw [List.getElem?_zip_eq_some] at hi
     have e : p.1 = p.2 := Option.some.inj (hi.1.symm.trans hi.2)
     obtain ⟨x, hx⟩ : ∃ x, p.1 = .int q x := by
       have h1 := this.1
       simp [intsV] at h1
       obtain ⟨x, _, hx⟩ := h1
       exact ⟨x, hx.symm⟩
     obtain ⟨p1, p2⟩ := p
     simp only at e hx
     subst e; subst hx
     simp [Instr.sameBits]
   simp [Instr.keyThatStays, this]
end
end
section
variable {κ α : Type} [DecidableEq κ]
def mhas (l : List (κ × α)) (k : κ) : Bool := l.any fun p => decide (p.1 = k)
def mgetD (l : List (κ × α)) (k : κ) (x : α) : α := ((l.find? fun p => decide (p.1 = k)).map (·.2)).getD x
def mset : List (κ × α) → κ → α → List (κ × α)
 | [], k, x => [(k, x)]
 | p :: l, k, x => if p.1 = k then (k, x) :: l else p :: mset l k x
theorem mset_none {l : List (κ × α)} {k : κ} {x : α} (h : ∀ p ∈ l, p.1 ≠ k) : mset l k x = l ++ [(k, x)] := by
 induction l with
 | nil => rfl
 | cons p l ih => rw [mset, if_neg (h p (List.mem_cons_self ..)), ih fun q hq => h q (List.mem_cons_of_mem _ hq)]; rfl
theorem mset_some {k : κ} {x : α} : ∀ {l : List (κ × α)} {i : Nat} {y : α}, (l.map (·.1)).Nodup → l[i]? = some (k, y) → mset l k x = l.set i (k, x)
 | [], i, y, _, h => by simp at h
 | p :: l, 0, y, _, h => by simp at h; subst h; rw [mset, if_pos rfl]; rfl
 | p :: l, i + 1, y, hn, h => by
   rw [List.map_cons, List.nodup_cons] at hn
   have h' : l[i]? = some (k, y) := by simpa using h
   have hne : p.1 ≠ k := fun q => hn.1 (by rw [q]; exact List.mem_map.2 ⟨(k, y), List.mem_of_getElem? h', rfl⟩)
   rw [mset, if_neg hne, mset_some hn.2 h']; rfl
theorem mset_keys (l : List (κ × α)) (k : κ) (x : α) : ∀ a, a ∈ (mset l k x).map (·.1) ↔ a = k ∨ a ∈ l.map (·.1) := by
 intro a
 induction l with
 | nil => simp [mset]
 | cons p l ih =>
   rw [mset]
   split
   · rename_i h; subst h; simp
   · rw [List.map_cons, List.mem_cons, ih, List.map_cons, List.mem_cons]
     constructor
     · rintro (h | h | h)
       · exact .inr (.inl h)
       · exact .inl h
       · exact .inr (.inr h)
     · rintro (h | h | h)
       · exact .inr (.inl h)
       · exact .inl h
       · exact .inr (.inr h)
theorem mset_nodup {l : List (κ × α)} (h : (l.map (·.1)).Nodup) (k : κ) (x : α) : ((mset l k x).map (·.1)).Nodup := by
 induction l with
 | nil => simp [mset]
 | cons p l ih =>
   rw [List.map_cons, List.nodup_cons] at h
   rw [mset]
   split
   · rename_i hp; subst hp; rw [List.map_cons, List.nodup_cons]; exact h
   · rename_i hp
     rw [List.map_cons, List.nodup_cons]
     refine ⟨fun hm => ?_, ih h.2⟩
     rcases (mset_keys l k x _).1 hm with e | e
     · exact hp e
     · exact h.1 e
theorem mhas_set (l : List (κ × α)) (k a : κ) (x : α) : mhas (mset l k x) a = (decide (k = a) || mhas l a) := by
 induction l with
 | nil => simp [mset, mhas]
 | cons p l ih =>
   rw [mset]
   unfold mhas at *
   split
   · rename_i h; subst h; simp [List.any_cons]
   · rename_i h; rw [List.any_cons, ih, List.any_cons]; cases decide (p.1 = a) <;> cases decide (k = a) <;> rfl
theorem mgetD_set (l : List (κ × α)) (k a : κ) (x d : α) : mgetD (mset l k x) a d = if k = a then x else mgetD l a d := by
 induction l with
 | nil =>
   unfold mgetD mset
   by_cases h : k = a <;> simp [h]
 | cons p l ih =>
   rw [mset]
   unfold mgetD at *
   split
   · rename_i h; subst h
     by_cases h2 : p.1 = a <;> simp [h2]
   · rename_i h
     rw [List.find?_cons, List.find?_cons]
     by_cases h2 : p.1 = a
     · have : k ≠ a := fun q => h (h2.trans q.symm)
       simp [h2, this]
     · simp only [decide_eq_false h2]; exact ih
end
def pkV (ag : Bool) (cs : List Value) : Value := if ag then .agg cs.toArray else cs.headD undef
structure KvF {κ α : Type} (ek : κ → Value) (E : Rl α) (ag : Bool) (Z : Nat → Prop) (H : Heap) (g : Nat) (l : List (κ × α)) : Prop where
 nodup : (l.map (·.1)).Nodup
 blk : ∃ (es : Array MapEntry) (ck : Nat), H[g]? = some (.map es ck) ∧ es.size = l.length ∧ ∀ (i : Nat) (k : κ) (x : α), l[i]? = some (k, x) → ∃ (e : MapEntry) (cs : List Value), es[i]? = some e ∧ e.key = ek k ∧ E.rep Z H x cs ∧ e.val = pkV ag cs
structure KvO {κ α : Type} (ek : κ → Value) (E : Rl α) (ag : Bool) (j : Nat) (σ : Nat → Nat) (H : Heap) (g : Nat) (l : List (κ × α)) : Prop where
 kv : KvF ek E ag (Zt σ) H g l
 tag : σ g = j
section
variable {κ α : Type} {ek : κ → Value} {E : Rl α} {ag : Bool} {Z Z' : Nat → Prop} {H H' H1 : Heap} {g j : Nat} {σ σ' : Nat → Nat} {m : List Nat} {l : List (κ × α)}
theorem KvF.keep (h : KvF ek E ag Z H g l) (hf : Fr Z H Z' H') (hb : H'[g]? = H[g]?) : KvF ek E ag Z' H' g l := by
 obtain ⟨es, ck, h1, h2, h3⟩ := h.blk
 exact ⟨h.nodup, es, ck, hb.trans h1, h2, fun i k x hx => by
   obtain ⟨e, cs, a, b, c, d⟩ := h3 i k x hx
   exact ⟨e, cs, a, b, E.keep hf c, d⟩⟩
theorem KvF.lt (h : KvF ek E ag Z H g l) : g < H.size := by obtain ⟨es, ck, h1, _⟩ := h.blk; exact lt_of_get h1
theorem KvO.step (h : KvO ek E ag j σ H g l) (hs : Stp m σ H σ' H') (hm : 0 ∉ m := by decide) (hj : j ∉ m := by decide) : KvO ek E ag j σ' H' g l := by
 obtain ⟨h1, h2⟩ := hs.get g h.kv.lt (by rw [h.tag]; exact hj)
 exact ⟨h.kv.keep (hs.z hm) h2, h1.trans h.tag⟩
theorem KvO.new (σ : Nat → Nat) (ek : κ → Value) (E : Rl α) (ag : Bool) {H H1 : Heap} (k : Nat) (e : H1 = H.push (.map #[] 0)) : ∃ σ1, Stp [] σ H σ1 H1 ∧ KvO ek E ag k σ1 H1 H.size ([] : List (κ × α)) := by
 subst e; exact ⟨_, Stp.push σ H _ k, ⟨List.nodup_nil, #[], 0, get_push_new H _, rfl, fun i k x h => by simp at h⟩, nt_new (Nat.le_refl _)⟩
variable [DecidableEq κ]
omit [DecidableEq κ] in
theorem KvF.keysEq (h : KvF ek E ag Z H g l) {es : Array MapEntry} {ck : Nat} (hb : H[g]? = some (.map es ck)) : es.toList.map (·.key) = (l.map (·.1)).map ek := by
 obtain ⟨es', ck', h1, h2, h3⟩ := h.blk
 rw [h1] at hb; cases hb
 apply List.ext_getElem?
 intro i
 rw [List.getElem?_map, List.getElem?_map, List.getElem?_map, Array.getElem?_toList]
 by_cases hi : i < l.length
 · obtain ⟨e, cs, a, b, _, _⟩ := h3 i (l[i]).1 (l[i]).2 (by simp [hi])
   rw [a, List.getElem?_eq_getElem hi]; simp [b]
 · rw [List.getElem?_eq_none (by omega), Array.getElem?_eq_none (by omega)]; rfl
theorem find_at {k : κ} {x : α} : ∀ {l : List (κ × α)} {i : Nat}, (l.map (·.1)).Nodup → l[i]? = some (k, x) → (l.find? fun p => decide (p.1 = k)) = some (k, x)
 | [], i, _, h => by simp at h
 | p :: l, 0, _, h => by simp at h; subst h; simp
 | p :: l, i + 1, hn, h => by
   rw [List.map_cons, List.nodup_cons] at hn
   have h' : l[i]? = some (k, x) := by simpa using h
   have hne : p.1 ≠ k := fun q => hn.1 (by rw [q]; exact List.mem_map.2 ⟨(k, x), List.mem_of_getElem? h', rfl⟩)
   rw [List.find?_cons, decide_eq_false hne]
   exact find_at hn.2 h'
theorem KvF.lookD {P : Program} {t kt et : TypeId} (h : KvF ek E ag Z H g l) (ht : P.underlying t = some (.map kt et)) (K : KeyOps P kt ek) {x0 : α} {zcs : List Value} (hz : ∀ w, (zeroValue et).run P w = .ok (pkV ag zcs) w) (hz0 : ∀ Z H, E.rep Z H x0 zcs) (c : Bool) (k : κ) {Kc : Value → Heap → Prop}
   (kk : ∀ cs, E.rep Z H (mgetD l k x0) cs → Kc (if c then .tuple #[pkV ag cs, .bool (mhas l k)] else pkV ag cs) H) : SemV P (Instr.lookup t (.map (some g)) (ek k) c) H Kc := by
 intro w hw
 subst hw
 obtain ⟨es, ck, hb, hsz, hel⟩ := h.blk
 have hall := h.keysEq hb
 have hc := K.check w es.isEmpty k
 rcases K.find w k es.toList _ hall with ⟨h1, h2⟩ | ⟨i, e, h1, h2, h3⟩
 · have hno : ∀ p ∈ l, p.1 ≠ k := fun p hp hpk => h2 (by rw [← hpk]; exact List.mem_map.2 ⟨p, hp, rfl⟩)
   have e1 : mgetD l k x0 = x0 := by
     unfold mgetD
     rw [List.find?_eq_none.2 fun p hp => by simpa using hno p hp]; rfl
   have e2 : mhas l k = false := by unfold mhas; rw [List.any_eq_false]; intro p hp; simpa using hno p hp
   have := kk zcs (by rw [e1]; exact hz0 _ _)
   rw [e2] at this
   exact ⟨_, w, by simp [Instr.lookup, run_underlying ht, MapKept.run_getObj_map hb, hc, h1, hz, Result.andThen], Same.refl w, this⟩
 · have hil : i < l.length := by have := (List.getElem?_eq_some_iff.1 h2).1; simp at this; omega
   obtain ⟨e', cs, a, b, cc, d⟩ := hel i (l[i]).1 (l[i]).2 (by simp [hil])
   rw [Array.getElem?_toList, a] at h2
   cases h2
   have hki : (l[i]).1 = k := by rw [List.getElem?_map, List.getElem?_eq_getElem hil] at h3; exact Option.some.inj h3
   have h3 : e.key = ek k := by rw [b, hki]
   have hli : l[i]? = some (k, (l[i]).2) := by rw [List.getElem?_eq_getElem hil, ← hki]
   have e1 : mgetD l k x0 = (l[i]).2 := by unfold mgetD; rw [find_at h.nodup hli]; rfl
   have e2 : mhas l k = true := by unfold mhas; rw [List.any_eq_true]; exact ⟨_, List.getElem_mem hil, by simpa using hki⟩
   have := kk cs (by rw [e1]; exact cc)
   rw [e2, ← d] at this
   exact ⟨_, w, by simp [Instr.lookup, run_underlying ht, MapKept.run_getObj_map hb, hc, h1, Result.andThen], Same.refl w, this⟩
theorem KvO.put {P : Program} {t kt et : TypeId} (h : KvO ek E ag j σ H g l) (ht : P.underlying t = some (.map kt et)) (K : KeyOps P kt ek) (k : κ) {x : α} {cs : List Value} (hx : E.rep (Zt σ) H x cs) {v : Value} (hv : v = pkV ag cs) (hj : j ≠ 0 := by decide) {Kc : Heap → Prop}
   (kk : ∀ H1, Stp [j] σ H σ H1 → KvO ek E ag j σ H1 g (mset l k x) → Kc H1) : SemU P (Instr.mapUpdate t (.map (some g)) (ek k) v) H Kc := by
 intro w hw
 subst hw; subst hv
 obtain ⟨es, ck, hb, hsz, hel⟩ := h.kv.blk
 have hall := h.kv.keysEq hb
 have hc := K.check w false k
 have htag := h.tag
 have stp : ∀ o', Stp [j] σ w.heap σ (w.heap.setIfInBounds g o') := fun o' => ⟨by simp, fun i hi hn => ⟨rfl, by
   have : i ≠ g := fun h => hn (by rw [h, htag]; simp)
   simp [Ne.symm this]⟩⟩
 have h0 : (0 : Nat) ∉ [j] := by simpa using Ne.symm hj
 rcases K.find w k es.toList _ hall with ⟨h1, h2⟩ | ⟨i, e, h1, h2, h3⟩
 · have hno : ∀ p ∈ l, p.1 ≠ k := fun p hp hpk => h2 (by rw [← hpk]; exact List.mem_map.2 ⟨p, hp, rfl⟩)
   refine ⟨{ w with heap := w.heap.setIfInBounds g (.map (es.push { key := ek k, val := pkV ag cs, born := ck }) (ck + 1)) }, ?_, ⟨rfl, rfl, rfl⟩, ?_⟩
   · simp [Instr.mapUpdate, run_underlying ht, MapKept.run_getObj_map hb, hc, h1, MapKept.run_setObj_map _ hb, Result.andThen]
   · refine kk _ (stp _) ⟨⟨mset_nodup h.kv.nodup k x, _, _, (MapKept.heap_set hb).1, ?_, fun i' k' x' hx' => ?_⟩, htag⟩
     · rw [mset_none hno]; simp [hsz]
     · rw [mset_none hno] at hx'
       rcases Nat.lt_or_ge i' l.length with hil | hil
       · rw [List.getElem?_append_left hil] at hx'
         obtain ⟨e, cs', a, b, c, d⟩ := hel i' k' x' hx'
         exact ⟨e, cs', by rw [Array.getElem?_push, if_neg (by omega)]; exact a, b, E.keep ((stp _).z h0) c, d⟩
       · rw [List.getElem?_append_right hil] at hx'
         have hz : i' - l.length = 0 := by have := (List.getElem?_eq_some_iff.1 hx').1; simp at this; omega
         rw [hz] at hx'; cases hx'
         have : i' = es.size := by omega
         exact ⟨_, cs, by rw [Array.getElem?_push, if_pos this], rfl, E.keep ((stp _).z h0) hx, rfl⟩
 · have hil : i < l.length := by have := (List.getElem?_eq_some_iff.1 h2).1; simp at this; omega
   obtain ⟨e', cs', a, b, cc, d⟩ := hel i (l[i]).1 (l[i]).2 (by simp [hil])
   have h2' : es[i]? = some e := by rw [Array.getElem?_toList] at h2; exact h2
   rw [a] at h2'
   cases h2'
   have hki : (l[i]).1 = k := by rw [List.getElem?_map, List.getElem?_eq_getElem hil] at h3; exact Option.some.inj h3
   have h3 : e.key = ek k := by rw [b, hki]
   have hli : l[i]? = some (k, (l[i]).2) := by rw [List.getElem?_eq_getElem hil, ← hki]
   refine ⟨{ w with heap := w.heap.setIfInBounds g (.map (es.modify i fun e => { e with key := ek k, val := pkV ag cs }) ck) }, ?_, ⟨rfl, rfl, rfl⟩, ?_⟩
   · have hst := K.stays w k
     simp [Instr.mapUpdate, run_underlying ht, MapKept.run_getObj_map hb, hc, h1, a, h3, hst, MapKept.run_setObj_map _ hb, Result.andThen]
   · refine kk _ (stp _) ⟨⟨mset_nodup h.kv.nodup k x, _, _, (MapKept.heap_set hb).1, ?_, fun i' k' x' hx' => ?_⟩, htag⟩
     · rw [mset_some h.kv.nodup hli]; simp [hsz]
     · rw [mset_some h.kv.nodup hli, List.getElem?_set] at hx'
       by_cases hii : i = i'
       · subst hii
         rw [if_pos rfl, if_pos hil] at hx'
         cases hx'
         exact ⟨_, cs, by rw [Array.getElem?_modify, if_pos rfl, a]; rfl, rfl, E.keep ((stp _).z h0) hx, rfl⟩
       · rw [if_neg hii] at hx'
         obtain ⟨e, cs2, a2, b2, c2, d2⟩ := hel i' k' x' hx'
         exact ⟨e, cs2, by rw [Array.getElem?_modify, if_neg hii]; exact a2, b2, E.keep ((stp _).z h0) c2, d2⟩
end
end Go.Lf
end
section
namespace Go.Proofs.Ytpfpnkaeoedeiaa.Sh
open Go.Sx
noncomputable abbrev P : Program := Try.prog
def tab : List (Nat × TI) := [
 (3, ⟨.int .i64, .one (.int .i64), [.int .i64 0], 8⟩),
 (4, ⟨.bool, .one (.bool), [.bool false], 1⟩),
 (5, ⟨.int .u8, .one (.int .u8), [.int .u8 0], 1⟩),
 (9, ⟨.str, .one (.str), [.string ByteArray.empty], 16⟩),
 (22, ⟨.int .u64, .one (.int .u64), [.int .u64 0], 8⟩),
 (24, ⟨.struct [(0, .one (.int .u64)), (1, .one (.int .i64)), (2, .one (.int .i64))], .agg [.int .u64, .int .i64, .int .i64], [.int .u64 0, .int .i64 0, .int .i64 0], 24⟩),
 (25, ⟨.slice 3, .one (.slice), [.slice none 0 0], 24⟩),
 (26, ⟨.slice 60, .one (.slice), [.slice none 0 0], 24⟩),
 (27, ⟨.slice 47, .one (.slice), [.slice none 0 0], 24⟩),
 (28, ⟨.slice 57, .one (.slice), [.slice none 0 0], 24⟩),
 (30, ⟨.struct [(0, .agg [.int .u64, .int .i64, .int .i64]), (3, .one (.slice)), (4, .one (.slice)), (5, .one (.slice)), (6, .one (.int .i64)), (7, .one (.slice))], .agg [.int .u64, .int .i64, .int .i64, .slice, .slice, .slice, .int .i64, .slice], [.int .u64 0, .int .i64 0, .int .i64 0, .slice none 0 0, .slice none 0 0, .slice none 0 0, .int .i64 0, .slice none 0 0], 128⟩),
 (33, ⟨.int .i64, .one (.int .i64), [.int .i64 0], 8⟩),
 (47, ⟨.slice 22, .one (.slice), [.slice none 0 0], 24⟩),
 (55, ⟨.slice 30, .one (.slice), [.slice none 0 0], 24⟩),
 (57, ⟨.struct [(0, .one (.int .i64)), (1, .one (.int .i64)), (2, .one (.int .i64)), (3, .one (.slice))], .agg [.int .i64, .int .i64, .int .i64, .slice], [.int .i64 0, .int .i64 0, .int .i64 0, .slice none 0 0], 48⟩),
 (60, ⟨.struct [(0, .one (.int .i64)), (1, .one (.int .i64)), (2, .one (.int .i64)), (3, .one (.bool)), (4, .one (.slice))], .agg [.int .i64, .int .i64, .int .i64, .bool, .slice], [.int .i64 0, .int .i64 0, .int .i64 0, .bool false, .slice none 0 0], 56⟩),
 (62, ⟨.ptr, .one (.ptr), [.pointer none], 8⟩),
 (64, ⟨.func, .one (.func), [.nilFunc], 8⟩),
 (69, ⟨.slice 27, .one (.slice), [.slice none 0 0], 24⟩),
 (76, ⟨.func, .one (.func), [.nilFunc], 8⟩),
 (78, ⟨.struct [(0, .agg [.int .u64, .int .i64, .int .i64]), (3, .one (.slice)), (4, .one (.func))], .agg [.int .u64, .int .i64, .int .i64, .slice, .func], [.int .u64 0, .int .i64 0, .int .i64 0, .slice none 0 0, .nilFunc], 56⟩),
 (80, ⟨.func, .one (.func), [.nilFunc], 8⟩),
 (84, ⟨.ptr, .one (.ptr), [.pointer none], 8⟩),
 (90, ⟨.map, .one (.map), [.map none], 8⟩),
 (91, ⟨.array 3 3, .agg [.int .i64, .int .i64, .int .i64], [.int .i64 0, .int .i64 0, .int .i64 0], 24⟩),
 (95, ⟨.map, .one (.map), [.map none], 8⟩),
 (96, ⟨.array 2 3, .agg [.int .i64, .int .i64], [.int .i64 0, .int .i64 0], 16⟩),
 (102, ⟨.func, .one (.func), [.nilFunc], 8⟩),
 (105, ⟨.int .u64, .one (.int .u64), [.int .u64 0], 8⟩),
 (108, ⟨.int .i64, .one (.int .i64), [.int .i64 0], 8⟩),
 (116, ⟨.int .u32, .one (.int .u32), [.int .u32 0], 4⟩),
 (118, ⟨.int .u64, .one (.int .u64), [.int .u64 0], 8⟩),
 (122, ⟨.ptr, .one (.ptr), [.pointer none], 8⟩),
 (124, ⟨.ptr, .one (.ptr), [.pointer none], 8⟩)]
def T : Nat → TI := lookTI tab
def R : Nat → List Sh
 | 0 => []
 | 3 => [.one (.int .i64)]
 | 4 => [.one (.bool)]
 | 22 => [.one (.int .u64)]
 | 25 => [.one (.slice)]
 | 26 => [.one (.slice)]
 | 27 => [.one (.slice)]
 | 28 => [.one (.slice)]
 | 30 => [.agg [.int .u64, .int .i64, .int .i64, .slice, .slice, .slice, .int .i64, .slice]]
 | 33 => [.one (.int .i64)]
 | 34 => [.one (.slice), .agg [.int .u64, .int .i64, .int .i64, .slice, .slice, .slice, .int .i64, .slice], .one (.int .i64)]
 | 42 => [.one (.slice), .agg [.int .u64, .int .i64, .int .i64, .slice, .slice, .slice, .int .i64, .slice]]
 | 47 => [.one (.slice)]
 | 48 => [.one (.slice), .one (.bool)]
 | 62 => [.one (.ptr)]
 | 69 => [.one (.slice)]
 | 70 => [.one (.slice), .one (.slice)]
 | 72 => [.one (.slice), .one (.slice), .agg [.int .u64, .int .i64, .int .i64, .slice, .slice, .slice, .int .i64, .slice]]
 | 74 => [.one (.slice), .one (.int .i64)]
 | 97 => [.agg [.int .i64, .int .i64, .int .i64, .bool, .slice], .one (.bool)]
 | 105 => [.one (.int .u64)]
 | 109 => [.one (.int .i64), .one (.int .i64)]
 | 113 => [.one (.int .i64), .one (.bool)]
 | 125 => [.one (.int .i64), .one (.int .i64)]
 | _ => []
def nf : Nat := 90
theorem bodies : Bodies P nf := Bodies.of (by kernel_rfl)
theorem mixed : P.follows .mixedOrders = true := by kernel_rfl
theorem fit3 : Fits P T 3 ⟨.int .i64, .one (.int .i64), [.int .i64 0], 8⟩ := ⟨Try.underlying3, by kernel_rfl, by kernel_rfl, by kernel_rfl⟩
theorem fit4 : Fits P T 4 ⟨.bool, .one (.bool), [.bool false], 1⟩ := ⟨Try.underlying4, by kernel_rfl, by kernel_rfl, by kernel_rfl⟩
theorem fit5 : Fits P T 5 ⟨.int .u8, .one (.int .u8), [.int .u8 0], 1⟩ := ⟨Try.underlying5, by kernel_rfl, by kernel_rfl, by kernel_rfl⟩
theorem fit9 : Fits P T 9 ⟨.str, .one (.str), [.string ByteArray.empty], 16⟩ := ⟨Try.underlying9, by kernel_rfl, by kernel_rfl, by kernel_rfl⟩
theorem fit22 : Fits P T 22 ⟨.int .u64, .one (.int .u64), [.int .u64 0], 8⟩ := ⟨Try.underlying22, by kernel_rfl, by kernel_rfl, by kernel_rfl⟩
theorem fit24 : Fits P T 24 ⟨.struct [(0, .one (.int .u64)), (1, .one (.int .i64)), (2, .one (.int .i64))], .agg [.int .u64, .int .i64, .int .i64], [.int .u64 0, .int .i64 0, .int .i64 0], 24⟩ := ⟨⟨_, Try.underlying24, by kernel_rfl, by kernel_rfl⟩, by kernel_rfl, by kernel_rfl, by kernel_rfl⟩
theorem fit25 : Fits P T 25 ⟨.slice 3, .one (.slice), [.slice none 0 0], 24⟩ := ⟨⟨Try.underlying25, by kernel_rfl⟩, by kernel_rfl, by kernel_rfl, by kernel_rfl⟩
theorem fit26 : Fits P T 26 ⟨.slice 60, .one (.slice), [.slice none 0 0], 24⟩ := ⟨⟨Try.underlying26, by kernel_rfl⟩, by kernel_rfl, by kernel_rfl, by kernel_rfl⟩
theorem fit27 : Fits P T 27 ⟨.slice 47, .one (.slice), [.slice none 0 0], 24⟩ := ⟨⟨Try.underlying27, by kernel_rfl⟩, by kernel_rfl, by kernel_rfl, by kernel_rfl⟩
theorem fit28 : Fits P T 28 ⟨.slice 57, .one (.slice), [.slice none 0 0], 24⟩ := ⟨⟨Try.underlying28, by kernel_rfl⟩, by kernel_rfl, by kernel_rfl, by kernel_rfl⟩
theorem fit30 : Fits P T 30 ⟨.struct [(0, .agg [.int .u64, .int .i64, .int .i64]), (3, .one (.slice)), (4, .one (.slice)), (5, .one (.slice)), (6, .one (.int .i64)), (7, .one (.slice))], .agg [.int .u64, .int .i64, .int .i64, .slice, .slice, .slice, .int .i64, .slice], [.int .u64 0, .int .i64 0, .int .i64 0, .slice none 0 0, .slice none 0 0, .slice none 0 0, .int .i64 0, .slice none 0 0], 128⟩ := ⟨⟨_, Try.underlying30, by kernel_rfl, by kernel_rfl⟩, by kernel_rfl, by kernel_rfl, by kernel_rfl⟩
theorem fit33 : Fits P T 33 ⟨.int .i64, .one (.int .i64), [.int .i64 0], 8⟩ := ⟨Try.underlying33, by kernel_rfl, by kernel_rfl, by kernel_rfl⟩
theorem fit47 : Fits P T 47 ⟨.slice 22, .one (.slice), [.slice none 0 0], 24⟩ := ⟨⟨Try.underlying47, by kernel_rfl⟩, by kernel_rfl, by kernel_rfl, by kernel_rfl⟩
theorem fit55 : Fits P T 55 ⟨.slice 30, .one (.slice), [.slice none 0 0], 24⟩ := ⟨⟨Try.underlying55, by kernel_rfl⟩, by kernel_rfl, by kernel_rfl, by kernel_rfl⟩
theorem fit57 : Fits P T 57 ⟨.struct [(0, .one (.int .i64)), (1, .one (.int .i64)), (2, .one (.int .i64)), (3, .one (.slice))], .agg [.int .i64, .int .i64, .int .i64, .slice], [.int .i64 0, .int .i64 0, .int .i64 0, .slice none 0 0], 48⟩ := ⟨⟨_, Try.underlying57, by kernel_rfl, by kernel_rfl⟩, by kernel_rfl, by kernel_rfl, by kernel_rfl⟩
theorem fit60 : Fits P T 60 ⟨.struct [(0, .one (.int .i64)), (1, .one (.int .i64)), (2, .one (.int .i64)), (3, .one (.bool)), (4, .one (.slice))], .agg [.int .i64, .int .i64, .int .i64, .bool, .slice], [.int .i64 0, .int .i64 0, .int .i64 0, .bool false, .slice none 0 0], 56⟩ := ⟨⟨_, Try.underlying60, by kernel_rfl, by kernel_rfl⟩, by kernel_rfl, by kernel_rfl, by kernel_rfl⟩
theorem fit62 : Fits P T 62 ⟨.ptr, .one (.ptr), [.pointer none], 8⟩ := ⟨⟨_, Try.underlying62⟩, by kernel_rfl, by kernel_rfl, by kernel_rfl⟩
theorem fit64 : Fits P T 64 ⟨.func, .one (.func), [.nilFunc], 8⟩ := ⟨⟨_, _, _, Try.underlying64⟩, by kernel_rfl, by kernel_rfl, by kernel_rfl⟩
theorem fit69 : Fits P T 69 ⟨.slice 27, .one (.slice), [.slice none 0 0], 24⟩ := ⟨⟨Try.underlying69, by kernel_rfl⟩, by kernel_rfl, by kernel_rfl, by kernel_rfl⟩
theorem fit76 : Fits P T 76 ⟨.func, .one (.func), [.nilFunc], 8⟩ := ⟨⟨_, _, _, Try.underlying76⟩, by kernel_rfl, by kernel_rfl, by kernel_rfl⟩
theorem fit78 : Fits P T 78 ⟨.struct [(0, .agg [.int .u64, .int .i64, .int .i64]), (3, .one (.slice)), (4, .one (.func))], .agg [.int .u64, .int .i64, .int .i64, .slice, .func], [.int .u64 0, .int .i64 0, .int .i64 0, .slice none 0 0, .nilFunc], 56⟩ := ⟨⟨_, Try.underlying78, by kernel_rfl, by kernel_rfl⟩, by kernel_rfl, by kernel_rfl, by kernel_rfl⟩
theorem fit80 : Fits P T 80 ⟨.func, .one (.func), [.nilFunc], 8⟩ := ⟨⟨_, _, _, Try.underlying80⟩, by kernel_rfl, by kernel_rfl, by kernel_rfl⟩
theorem fit84 : Fits P T 84 ⟨.ptr, .one (.ptr), [.pointer none], 8⟩ := ⟨⟨_, Try.underlying84⟩, by kernel_rfl, by kernel_rfl, by kernel_rfl⟩
theorem fit90 : Fits P T 90 ⟨.map, .one (.map), [.map none], 8⟩ := ⟨⟨_, _, Try.underlying90⟩, by kernel_rfl, by kernel_rfl, by kernel_rfl⟩
theorem fit91 : Fits P T 91 ⟨.array 3 3, .agg [.int .i64, .int .i64, .int .i64], [.int .i64 0, .int .i64 0, .int .i64 0], 24⟩ := ⟨⟨Try.underlying91, by kernel_rfl⟩, by kernel_rfl, by kernel_rfl, by kernel_rfl⟩
theorem fit95 : Fits P T 95 ⟨.map, .one (.map), [.map none], 8⟩ := ⟨⟨_, _, Try.underlying95⟩, by kernel_rfl, by kernel_rfl, by kernel_rfl⟩
theorem fit96 : Fits P T 96 ⟨.array 2 3, .agg [.int .i64, .int .i64], [.int .i64 0, .int .i64 0], 16⟩ := ⟨⟨Try.underlying96, by kernel_rfl⟩, by kernel_rfl, by kernel_rfl, by kernel_rfl⟩
theorem fit102 : Fits P T 102 ⟨.func, .one (.func), [.nilFunc], 8⟩ := ⟨⟨_, _, _, Try.underlying102⟩, by kernel_rfl, by kernel_rfl, by kernel_rfl⟩
theorem fit105 : Fits P T 105 ⟨.int .u64, .one (.int .u64), [.int .u64 0], 8⟩ := ⟨Try.underlying105, by kernel_rfl, by kernel_rfl, by kernel_rfl⟩
theorem fit108 : Fits P T 108 ⟨.int .i64, .one (.int .i64), [.int .i64 0], 8⟩ := ⟨Try.underlying108, by kernel_rfl, by kernel_rfl, by kernel_rfl⟩
theorem fit116 : Fits P T 116 ⟨.int .u32, .one (.int .u32), [.int .u32 0], 4⟩ := ⟨Try.underlying116, by kernel_rfl, by kernel_rfl, by kernel_rfl⟩
theorem fit118 : Fits P T 118 ⟨.int .u64, .one (.int .u64), [.int .u64 0], 8⟩ := ⟨Try.underlying118, by kernel_rfl, by kernel_rfl, by kernel_rfl⟩
theorem fit122 : Fits P T 122 ⟨.ptr, .one (.ptr), [.pointer none], 8⟩ := ⟨⟨_, Try.underlying122⟩, by kernel_rfl, by kernel_rfl, by kernel_rfl⟩
theorem fit124 : Fits P T 124 ⟨.ptr, .one (.ptr), [.pointer none], 8⟩ := ⟨⟨_, Try.underlying124⟩, by kernel_rfl, by kernel_rfl, by kernel_rfl⟩
theorem fits : AllFit P T := fits_lookTI (by
 simp only [tab, List.forall_mem_cons]
 exact ⟨fit3, fit4, fit5, fit9, fit22, fit24, fit25, fit26, fit27, fit28, fit30, fit33, fit47, fit55, fit57, fit60, fit62, fit64, fit69, fit76, fit78, fit80, fit84, fit90, fit91, fit95, fit96, fit102, fit105, fit108, fit116, fit118, fit122, fit124, fun _ h => by cases h⟩)
theorem okW {k : FuncId} {F : Func} {n : Nat} {vs : List Value} {H : Heap} {R : Value → Heap → Prop} {W : Prop} (hf : P.funcs[k]? = some F) (hb : F.body = some (bodyOf F)) (hn : F.ntmps = n) (A : Ann) (hc : codeChk T A (bodyOf F) = true)
   (e : W = sxFn P T Sh.R nf A F.results.toList (bodyOf F) (vs ++ List.replicate (n - vs.length) undef) H R) (h : W) : CallH P k vs H R :=
 call_of_sx fits bodies mixed hf hb hn A hc (e.mp h)
namespace N
abbrev juntolaw18_KingSays : Nat := 5
abbrev juntoref17_Copy : Nat := 9
abbrev king_Agree : Nat := 10
abbrev juntoref17_Check : Nat := 11
abbrev juntoref18_AgreeError : Nat := 12
abbrev juntoref17_Same : Nat := 13
abbrev juntoref17_SamePayloads : Nat := 14
abbrev juntoref17_Zero : Nat := 15
abbrev juntolaw18_alive : Nat := 16
abbrev juntoref18_Agree : Nat := 17
abbrev juntoref01_Same : Nat := 21
abbrev king_Say : Nat := 22
abbrev juntoref18_Say : Nat := 23
abbrev juntoref17_Is : Nat := 24
abbrev net_Check : Nat := 25
abbrev net_Room : Nat := 26
abbrev net_Play : Nat := 27
abbrev king_Agree_1 : Nat := 28
abbrev king_phases : Nat := 29
abbrev juntoref04_Corrupted : Nat := 30
abbrev juntoref17_Ahead : Nat := 31
abbrev juntoref17_SameInts : Nat := 32
abbrev juntoref17_SameSent : Nat := 33
abbrev juntoref17_Nothing : Nat := 34
abbrev juntoref17_Exchange : Nat := 35
abbrev juntoref18_Choice : Nat := 36
abbrev king_Say_1 : Nat := 37
abbrev king_send : Nat := 38
abbrev king_Say_1_1 : Nat := 39
abbrev share_Corrupted : Nat := 40
abbrev net_acts : Nat := 41
abbrev net_Clone : Nat := 42
abbrev net_Lay : Nat := 43
abbrev net_Play_1 : Nat := 44
abbrev net_swap : Nat := 45
abbrev slices_Clone_uint64uint64 : Nat := 46
abbrev king_phase : Nat := 47
abbrev juntoref04_Setup : Nat := 48
abbrev juntoref04_Rising : Nat := 49
abbrev juntoref17_Act : Nat := 50
abbrev juntoref18_Lesser : Nat := 51
abbrev net_Blank : Nat := 52
abbrev net_Table_Round : Nat := 53
abbrev share_Setup : Nat := 54
abbrev slices_Contains_intint : Nat := 55
abbrev slices_Clone_intint : Nat := 56
abbrev slices_Clone_juntoapiActjuntoapiAct : Nat := 57
abbrev slices_Clone_LLuint64Luint64 : Nat := 58
abbrev slices_Clone_juntoapiSentjuntoapiSent : Nat := 59
abbrev net_swap_1 : Nat := 60
abbrev king_phase_1 : Nat := 61
abbrev king_choice : Nat := 62
abbrev king_phase_2 : Nat := 63
abbrev juntoref01_Is : Nat := 64
abbrev field_Is : Nat := 65
abbrev slices_Index_intint : Nat := 66
abbrev slices_SortFunc_LLuint64Luint64 : Nat := 67
abbrev slices_Equal_uint64uint64 : Nat := 69
end N
end Go.Proofs.Ytpfpnkaeoedeiaa.Sh
set_option linter.unusedVariables false
set_option maxRecDepth 100000
namespace Go.Proofs.Ytpfpnkaeoedeiaa.Sh
open Go.Sx Go.Lf
structure TSetup where
 P : Nat
 N : Int
 T_ : Int
def TSetup.L : Rl TSetup where
 sz := 3
 rep := fun Z H x cs => cs = [.int .u64 (x.P : Int), .int .i64 x.N, .int .i64 x.T_]
 len := fun e => by rw [e]; rfl
 flat := fun e => by rw [e]; rfl
 keep := fun _ e => e
structure TAct where
 Round : Int
 From : Int
 To : Int
 Silent : Bool
 Data : (List Nat)
def TAct.L : Rl TAct where
 sz := 5
 rep := fun Z H x cs => ∃ (A4 : Option Addr) (c4 : Nat), cs = [.int .i64 x.Round, .int .i64 x.From, .int .i64 x.To, .bool x.Silent, .slice A4 x.Data.length c4] ∧ SlF u64L Z H A4 c4 x.Data
 len := fun ⟨A4, c4, e, h4⟩ => by rw [e]; rfl
 flat := fun ⟨A4, c4, e, h4⟩ => by rw [e]; rfl
 keep := fun hf ⟨A4, c4, e, h4⟩ => ⟨A4, c4, e, h4.keep hf⟩
 sm := fun n x => ((slL u64L)).sm n x.Data
theorem TAct.zero (Z Y : Nat → Prop) (H : Heap) : (rdM TAct.L).rep Z Y H (⟨0, 0, 0, false, []⟩ : TAct) [.int .i64 0, .int .i64 0, .int .i64 0, .bool false, .slice none 0 0] := ⟨none, 0, rfl, SlF.nil _ _ _ _ _⟩
structure TSent where
 Round : Int
 From : Int
 To : Int
 Data : (List Nat)
def TSent.L : Rl TSent where
 sz := 4
 rep := fun Z H x cs => ∃ (A3 : Option Addr) (c3 : Nat), cs = [.int .i64 x.Round, .int .i64 x.From, .int .i64 x.To, .slice A3 x.Data.length c3] ∧ SlF u64L Z H A3 c3 x.Data
 len := fun ⟨A3, c3, e, h3⟩ => by rw [e]; rfl
 flat := fun ⟨A3, c3, e, h3⟩ => by rw [e]; rfl
 keep := fun hf ⟨A3, c3, e, h3⟩ => ⟨A3, c3, e, h3.keep hf⟩
 sm := fun n x => ((slL u64L)).sm n x.Data
structure TWorld where
 Setup : TSetup
 Corrupted : (List Int)
 Acts : (List TAct)
 Tapes : (List (List Nat))
 Round : Int
 Sent : (List TSent)
def TWorld.L : Rl TWorld where
 sz := 8
 rep := fun Z H x cs => ∃ (A3 : Option Addr) (c3 : Nat) (A4 : Option Addr) (c4 : Nat) (A5 : Option Addr) (c5 : Nat) (A7 : Option Addr) (c7 : Nat), cs = [.int .u64 (x.Setup.P : Int), .int .i64 x.Setup.N, .int .i64 x.Setup.T_, .slice A3 x.Corrupted.length c3, .slice A4 x.Acts.length c4, .slice A5 x.Tapes.length c5, .int .i64 x.Round, .slice A7 x.Sent.length c7] ∧ SlF i64L Z H A3 c3 x.Corrupted ∧ SlF TAct.L Z H A4 c4 x.Acts ∧ SlF (slL u64L) Z H A5 c5 x.Tapes ∧ SlF TSent.L Z H A7 c7 x.Sent
 len := fun ⟨A3, c3, A4, c4, A5, c5, A7, c7, e, h3, h4, h5, h7⟩ => by rw [e]; rfl
 flat := fun ⟨A3, c3, A4, c4, A5, c5, A7, c7, e, h3, h4, h5, h7⟩ => by rw [e]; rfl
 keep := fun hf ⟨A3, c3, A4, c4, A5, c5, A7, c7, e, h3, h4, h5, h7⟩ => ⟨A3, c3, A4, c4, A5, c5, A7, c7, e, h3.keep hf, h4.keep hf, h5.keep hf, h7.keep hf⟩
 sm := fun n x => ((slL i64L)).sm n x.Corrupted ∧ ((slL TAct.L)).sm n x.Acts ∧ ((slL (slL u64L))).sm n x.Tapes ∧ ((slL TSent.L)).sm n x.Sent
structure TTable where
 Setup : TSetup
 tapes : (List (List Nat))
def Fn80.F (Z : Nat → Prop) (H : Heap) (ff : Nat) (fa fb : Array Value) (φ : (Int → (Bool → Prop) → Prop)) : Prop :=
 hasB nf ff = true ∧ ∀ (Z1 : Nat → Prop) (H1 : Heap), Fr Z H Z1 H1 → ∀ (x0 : Int) (K : Bool → Prop), φ x0 K → ∀ KK : Value → Heap → Prop,
   (∀ (Z' : Nat → Prop) (H' : Heap), Ext H1 H' → Old Z1 H1 Z' → ∀ (r0 : Bool), K r0 → KK (.bool r0) H') →
   CallH P ff (fa.toList ++ ([.int .i64 x0] : List Value) ++ fb.toList) H1 KK
theorem Fn80.F.keep {Z Z2 : Nat → Prop} {H H2 : Heap} {ff : Nat} {fa fb : Array Value} {φ : (Int → (Bool → Prop) → Prop)} (h : Fn80.F Z H ff fa fb φ) (hf : Fr Z H Z2 H2) : Fn80.F Z2 H2 ff fa fb φ :=
 ⟨h.1, fun Z1 H1 k => h.2 Z1 H1 (hf.trans k)⟩
theorem Fn80.F.wide {Z Z2 : Nat → Prop} {H : Heap} {ff : Nat} {fa fb : Array Value} {φ : (Int → (Bool → Prop) → Prop)} (h : Fn80.F Z H ff fa fb φ) (hz : ∀ i, Z i → Z2 i) : Fn80.F Z2 H ff fa fb φ := h.keep (Fr.wide hz H)
theorem Fn80.F.step {m : List Nat} {σ σ2 : Nat → Nat} {H H2 : Heap} {ff : Nat} {fa fb : Array Value} {φ : (Int → (Bool → Prop) → Prop)} (h : Fn80.F (Zt σ) H ff fa fb φ) (hs : Stp m σ H σ2 H2) (hm : 0 ∉ m := by decide) : Fn80.F (Zt σ2) H2 ff fa fb φ := h.keep (hs.z hm)
abbrev Key91.e (k : (Int × Int × Int)) : Value := .agg #[.int .i64 k.1, .int .i64 k.2.1, .int .i64 k.2.2]
theorem Key91.ops : KeyOps P 91 Key91.e := keyArr (q := .i64) (enc := fun k : (Int × Int × Int) => [k.1, k.2.1, k.2.2]) (fun a b h => by simp at h; simp [Prod.ext_iff, h]) (fun _ => rfl) Try.underlying91 (e := 3) (i := _) rfl (by kernel_rfl) Try.underlying3
theorem Zero4.run : ∀ w, (zeroValue 4).run P w = .ok (.bool false) w := fun w => by kernel_rfl
abbrev Key96.e (k : (Int × Int)) : Value := .agg #[.int .i64 k.1, .int .i64 k.2]
theorem Key96.ops : KeyOps P 96 Key96.e := keyArr (q := .i64) (enc := fun k : (Int × Int) => [k.1, k.2]) (fun a b h => by simp at h; simp [Prod.ext_iff, h]) (fun _ => rfl) Try.underlying96 (e := 3) (i := _) rfl (by kernel_rfl) Try.underlying3
theorem Zero60.run : ∀ w, (zeroValue 60).run P w = .ok (.agg #[.int .i64 0, .int .i64 0, .int .i64 0, .bool false, .slice none 0 0]) w := fun w => by kernel_rfl
theorem eqAgg_of {t : Nat} {xs ys : Array Value} {b : Bool} (hq : P.eqGuardType P.depth t = false) (h : ∀ w : World, (Op.equalIn 10000 t (.agg xs) (.agg ys)).run P w = .ok b w) :
   EqAgg P .eql t (.agg xs) (.agg ys) b ∧ EqAgg P .neq t (.agg xs) (.agg ys) (!b) := by
 refine ⟨fun xo yo => ⟨_, fun w => ?_, rfl⟩, fun xo yo => ⟨_, fun w => ?_, rfl⟩⟩
 · have e := run_eql_struct (P := P) (w := w) t xs ys
   rw [h w] at e
   simp only [Sem.run_bind, eqGuard]
   simp [Sem.run_bind, Result.andThen, run_program, hq, e]
 · have e := run_neq_struct (P := P) (w := w) t xs ys
   rw [h w] at e
   simp only [Sem.run_bind, eqGuard]
   simp [Sem.run_bind, Result.andThen, run_program, hq, e]
theorem agg24 (a0 : Int) (a1 : Int) (a2 : Int) (b0 : Int) (b1 : Int) (b2 : Int) : EqAgg P .eql 24 (.agg #[.int .u64 a0, .int .i64 a1, .int .i64 a2]) (.agg #[.int .u64 b0, .int .i64 b1, .int .i64 b2]) (a0 == b0 && a1 == b1 && a2 == b2) ∧ EqAgg P .neq 24 (.agg #[.int .u64 a0, .int .i64 a1, .int .i64 a2]) (.agg #[.int .u64 b0, .int .i64 b1, .int .i64 b2]) (!(a0 == b0 && a1 == b1 && a2 == b2)) := by
 refine eqAgg_of (by kernel_rfl) fun w => ?_
 have u3 := Try.underlying3
 have a3_ := Try.isAgg3
 have z3_ := Try.sizeOf3
 have u22 := Try.underlying22
 have a22_ := Try.isAgg22
 have z22_ := Try.sizeOf22
 have hS : Try.prog.underlying 24 = some (.struct (Try.prog.fieldsOf 24)) := by kernel_rfl
 have hp : Try.prog.stoodInHeld 24 = false := by kernel_rfl
 rw [show (10000 : Nat) = 9999 + 1 from rfl, run_equalIn_agg w 9999 24 _ _ hS hp]
 simp only [Program.fieldsOf, Try.underlying24]
 go_simp
 by_cases h0_ : a0 = b0 <;> by_cases h1_ : a1 = b1 <;> by_cases h2_ : a2 = b2 <;> simp [h0_, h1_, h2_]
def slices_Clone_uint64uint64.C (s : (List Nat)) (K : (List Nat) → Prop) : Prop :=
 ∀ (Z : Nat → Prop) (H : Heap), ∀ (sA : Option Addr) (sn sc : Nat), sn = s.length → SlF u64L Z H sA sc s → ∀ KK : Value → Heap → Prop,
   (∀ (Z' : Nat → Prop) (H' : Heap), Ext H H' → Old Z H Z' → ∀ (r0 : (List Nat)), ∀ (Y0 : Nat → Prop), (∀ i, Y0 i → H.size ≤ i ∧ ¬ Z' i) → ∀ (Ar0_0 : Option Addr) (nr0_0 cr0_0 : Nat), nr0_0 = r0.length → SlO (rdM u64L) 22 Z' Y0 H' Ar0_0 cr0_0 r0 → K r0 → KK (.slice Ar0_0 nr0_0 cr0_0) H') →
   CallH P N.slices_Clone_uint64uint64 [.slice sA sn sc] H KK
def slices_Clone_LLuint64Luint64.C (s : (List (List Nat))) (K : (List (List Nat)) → Prop) : Prop :=
 ∀ (Z : Nat → Prop) (H : Heap), ∀ (sA : Option Addr) (sn sc : Nat), sn = s.length → SlF (slL u64L) Z H sA sc s → ∀ KK : Value → Heap → Prop,
   (∀ (Z' : Nat → Prop) (H' : Heap), Ext H H' → Old Z H Z' → ∀ (r0 : (List (List Nat))), ∀ (Y0 : Nat → Prop), (∀ i, Y0 i → H.size ≤ i ∧ ¬ Z' i) → ∀ (Ar0_0 : Option Addr) (nr0_0 cr0_0 : Nat), nr0_0 = r0.length → SlO (rdM (slL u64L)) 47 Z' Y0 H' Ar0_0 cr0_0 r0 → K r0 → KK (.slice Ar0_0 nr0_0 cr0_0) H') →
   CallH P N.slices_Clone_LLuint64Luint64 [.slice sA sn sc] H KK
def slices_SortFunc_LLuint64Luint64.C (x : (List (List Nat))) (K : (List (List Nat)) → Prop) : Prop :=
 ∀ (Z : Nat → Prop) (τ : Nat → Nat) (H : Heap), (∀ i, τ i ≠ 0 → ¬ Z i) → ∀ (xA : Option Addr) (xn xc : Nat), xn = x.length → SlO (rdM (slL u64L)) 47 Z (Yt τ 1) H xA xc x → ∀ KK : Value → Heap → Prop,
   (∀ (Z' : Nat → Prop) (τ' : Nat → Nat) (H' : Heap), Turn τ H τ' H' → OldT Z τ H Z' → (∀ i, τ' i ≠ 0 → ¬ Z' i) → ∀ (o0 : List (List Nat)), o0.length = x.length → SlO (rdM (slL u64L)) 47 Z' (Yt τ' 1) H' xA xc o0 → K o0 → KK (.tuple #[]) H') →
   CallH P N.slices_SortFunc_LLuint64Luint64 [.slice xA xn xc, .func (.func 68) #[] #[]] H KK
def slices_Clone_intint.C (s : (List Int)) (K : (List Int) → Prop) : Prop :=
 ∀ (Z : Nat → Prop) (H : Heap), ∀ (sA : Option Addr) (sn sc : Nat), sn = s.length → SlF i64L Z H sA sc s → ∀ KK : Value → Heap → Prop,
   (∀ (Z' : Nat → Prop) (H' : Heap), Ext H H' → Old Z H Z' → ∀ (r0 : (List Int)), ∀ (Y0 : Nat → Prop), (∀ i, Y0 i → H.size ≤ i ∧ ¬ Z' i) → ∀ (Ar0_0 : Option Addr) (nr0_0 cr0_0 : Nat), nr0_0 = r0.length → SlO (rdM i64L) 3 Z' Y0 H' Ar0_0 cr0_0 r0 → K r0 → KK (.slice Ar0_0 nr0_0 cr0_0) H') →
   CallH P N.slices_Clone_intint [.slice sA sn sc] H KK
def slices_Clone_juntoapiActjuntoapiAct.C (s : (List TAct)) (K : (List TAct) → Prop) : Prop :=
 ∀ (Z : Nat → Prop) (H : Heap), ∀ (sA : Option Addr) (sn sc : Nat), sn = s.length → SlF TAct.L Z H sA sc s → ∀ KK : Value → Heap → Prop,
   (∀ (Z' : Nat → Prop) (H' : Heap), Ext H H' → Old Z H Z' → ∀ (r0 : (List TAct)), ∀ (Y0 : Nat → Prop), (∀ i, Y0 i → H.size ≤ i ∧ ¬ Z' i) → ∀ (Ar0_0 : Option Addr) (nr0_0 cr0_0 : Nat), nr0_0 = r0.length → SlO (rdM TAct.L) 60 Z' Y0 H' Ar0_0 cr0_0 r0 → K r0 → KK (.slice Ar0_0 nr0_0 cr0_0) H') →
   CallH P N.slices_Clone_juntoapiActjuntoapiAct [.slice sA sn sc] H KK
def slices_Clone_juntoapiSentjuntoapiSent.C (s : (List TSent)) (K : (List TSent) → Prop) : Prop :=
 ∀ (Z : Nat → Prop) (H : Heap), ∀ (sA : Option Addr) (sn sc : Nat), sn = s.length → SlF TSent.L Z H sA sc s → ∀ KK : Value → Heap → Prop,
   (∀ (Z' : Nat → Prop) (H' : Heap), Ext H H' → Old Z H Z' → ∀ (r0 : (List TSent)), ∀ (Y0 : Nat → Prop), (∀ i, Y0 i → H.size ≤ i ∧ ¬ Z' i) → ∀ (Ar0_0 : Option Addr) (nr0_0 cr0_0 : Nat), nr0_0 = r0.length → SlO (rdM TSent.L) 57 Z' Y0 H' Ar0_0 cr0_0 r0 → K r0 → KK (.slice Ar0_0 nr0_0 cr0_0) H') →
   CallH P N.slices_Clone_juntoapiSentjuntoapiSent [.slice sA sn sc] H KK
end Go.Proofs.Ytpfpnkaeoedeiaa.Sh
end
section
set_option linter.unusedVariables false
set_option maxRecDepth 100000
namespace Go.Proofs.Ytpfpnkaeoedeiaa.Sh
open Go.Sx Go.Lf
theorem rep_of {α : Type} {E : Rl α} {Z : Nat → Prop} {H : Heap} {y : α} {cs cs' : List Value} (h : E.rep Z H y cs) (e : cs = cs') : E.rep Z H y cs' := e ▸ h
theorem TSetup.opens : OpensL Try.prog 24 TSetup.L := by
 intro I enc w held fuel cs x h hw
 obtain ⟨hlen, hf⟩ := open_struct Try.underlying24 h hw
 replace hlen := hlen.trans (show Try.prog.cellsOf 24 = 3 by kernel_rfl)
 obtain ⟨v0, cs0, rfl, hl0⟩ := list_s hlen
 obtain ⟨v1, cs1, rfl, hl1⟩ := list_s hl0
 obtain ⟨v2, cs2, rfl, hl2⟩ := list_s hl1
 obtain rfl := list_0 hl2
 obtain ⟨y0, g0, s0⟩ := hf 0 _ rfl (k := 1) (o := 0) (opens_u64 Try.underlying22) (by kernel_rfl) rfl
 replace g0 := rep_of g0 (show _ = [v0] from rfl)
 cases g0
 obtain ⟨y1, g1, s1⟩ := hf 1 _ rfl (k := 1) (o := 1) (opens_i64 Try.underlying3) (by kernel_rfl) rfl
 replace g1 := rep_of g1 (show _ = [v1] from rfl)
 cases g1
 obtain ⟨y2, g2, s2⟩ := hf 2 _ rfl (k := 1) (o := 2) (opens_i64 Try.underlying3) (by kernel_rfl) rfl
 replace g2 := rep_of g2 (show _ = [v2] from rfl)
 cases g2
 exact ⟨(⟨y0, y1, y2⟩ : TSetup), rfl, fun μ n hm hx => trivial⟩
theorem TAct.opens : OpensL Try.prog 60 TAct.L := by
 intro I enc w held fuel cs x h hw
 obtain ⟨hlen, hf⟩ := open_struct Try.underlying60 h hw
 replace hlen := hlen.trans (show Try.prog.cellsOf 60 = 5 by kernel_rfl)
 obtain ⟨v0, cs0, rfl, hl0⟩ := list_s hlen
 obtain ⟨v1, cs1, rfl, hl1⟩ := list_s hl0
 obtain ⟨v2, cs2, rfl, hl2⟩ := list_s hl1
 obtain ⟨v3, cs3, rfl, hl3⟩ := list_s hl2
 obtain ⟨v4, cs4, rfl, hl4⟩ := list_s hl3
 obtain rfl := list_0 hl4
 obtain ⟨y0, g0, s0⟩ := hf 0 _ rfl (k := 1) (o := 0) (opens_i64 Try.underlying3) (by kernel_rfl) rfl
 replace g0 := rep_of g0 (show _ = [v0] from rfl)
 cases g0
 obtain ⟨y1, g1, s1⟩ := hf 1 _ rfl (k := 1) (o := 1) (opens_i64 Try.underlying3) (by kernel_rfl) rfl
 replace g1 := rep_of g1 (show _ = [v1] from rfl)
 cases g1
 obtain ⟨y2, g2, s2⟩ := hf 2 _ rfl (k := 1) (o := 2) (opens_i64 Try.underlying3) (by kernel_rfl) rfl
 replace g2 := rep_of g2 (show _ = [v2] from rfl)
 cases g2
 obtain ⟨y3, g3, s3⟩ := hf 3 _ rfl (k := 1) (o := 3) (opens_bool Try.underlying4) (by kernel_rfl) rfl
 replace g3 := rep_of g3 (show _ = [v3] from rfl)
 cases g3
 obtain ⟨y4, g4, s4⟩ := hf 4 _ rfl (k := 1) (o := 4) (opens_slice Try.underlying47 (by kernel_rfl) (of_decide_eq_true (by kernel_rfl)) (opens_u64 Try.underlying22)) (by kernel_rfl) rfl
 replace g4 := rep_of g4 (show _ = [v4] from rfl)
 obtain ⟨A4_0, c4_0, e4, f4_0⟩ := g4
 cases e4
 exact ⟨(⟨y0, y1, y2, y3, y4⟩ : TAct), ⟨A4_0, c4_0, rfl, f4_0⟩, fun μ n hm hx => s4 μ n hm hx⟩
theorem TSent.opens : OpensL Try.prog 57 TSent.L := by
 intro I enc w held fuel cs x h hw
 obtain ⟨hlen, hf⟩ := open_struct Try.underlying57 h hw
 replace hlen := hlen.trans (show Try.prog.cellsOf 57 = 4 by kernel_rfl)
 obtain ⟨v0, cs0, rfl, hl0⟩ := list_s hlen
 obtain ⟨v1, cs1, rfl, hl1⟩ := list_s hl0
 obtain ⟨v2, cs2, rfl, hl2⟩ := list_s hl1
 obtain ⟨v3, cs3, rfl, hl3⟩ := list_s hl2
 obtain rfl := list_0 hl3
 obtain ⟨y0, g0, s0⟩ := hf 0 _ rfl (k := 1) (o := 0) (opens_i64 Try.underlying3) (by kernel_rfl) rfl
 replace g0 := rep_of g0 (show _ = [v0] from rfl)
 cases g0
 obtain ⟨y1, g1, s1⟩ := hf 1 _ rfl (k := 1) (o := 1) (opens_i64 Try.underlying3) (by kernel_rfl) rfl
 replace g1 := rep_of g1 (show _ = [v1] from rfl)
 cases g1
 obtain ⟨y2, g2, s2⟩ := hf 2 _ rfl (k := 1) (o := 2) (opens_i64 Try.underlying3) (by kernel_rfl) rfl
 replace g2 := rep_of g2 (show _ = [v2] from rfl)
 cases g2
 obtain ⟨y3, g3, s3⟩ := hf 3 _ rfl (k := 1) (o := 3) (opens_slice Try.underlying47 (by kernel_rfl) (of_decide_eq_true (by kernel_rfl)) (opens_u64 Try.underlying22)) (by kernel_rfl) rfl
 replace g3 := rep_of g3 (show _ = [v3] from rfl)
 obtain ⟨A3_0, c3_0, e3, f3_0⟩ := g3
 cases e3
 exact ⟨(⟨y0, y1, y2, y3⟩ : TSent), ⟨A3_0, c3_0, rfl, f3_0⟩, fun μ n hm hx => s3 μ n hm hx⟩
theorem TWorld.opens : OpensL Try.prog 30 TWorld.L := by
 intro I enc w held fuel cs x h hw
 obtain ⟨hlen, hf⟩ := open_struct Try.underlying30 h hw
 replace hlen := hlen.trans (show Try.prog.cellsOf 30 = 8 by kernel_rfl)
 obtain ⟨v0, cs0, rfl, hl0⟩ := list_s hlen
 obtain ⟨v1, cs1, rfl, hl1⟩ := list_s hl0
 obtain ⟨v2, cs2, rfl, hl2⟩ := list_s hl1
 obtain ⟨v3, cs3, rfl, hl3⟩ := list_s hl2
 obtain ⟨v4, cs4, rfl, hl4⟩ := list_s hl3
 obtain ⟨v5, cs5, rfl, hl5⟩ := list_s hl4
 obtain ⟨v6, cs6, rfl, hl6⟩ := list_s hl5
 obtain ⟨v7, cs7, rfl, hl7⟩ := list_s hl6
 obtain rfl := list_0 hl7
 obtain ⟨y0, g0, s0⟩ := hf 0 _ rfl (k := 3) (o := 0) TSetup.opens (by kernel_rfl) rfl
 replace g0 := rep_of g0 (show _ = [v0, v1, v2] from rfl)
 cases g0
 obtain ⟨y1, g1, s1⟩ := hf 1 _ rfl (k := 1) (o := 3) (opens_slice Try.underlying25 (by kernel_rfl) (of_decide_eq_true (by kernel_rfl)) (opens_i64 Try.underlying3)) (by kernel_rfl) rfl
 replace g1 := rep_of g1 (show _ = [v3] from rfl)
 obtain ⟨A1_0, c1_0, e1, f1_0⟩ := g1
 cases e1
 obtain ⟨y2, g2, s2⟩ := hf 2 _ rfl (k := 1) (o := 4) (opens_slice Try.underlying26 (by kernel_rfl) (of_decide_eq_true (by kernel_rfl)) TAct.opens) (by kernel_rfl) rfl
 replace g2 := rep_of g2 (show _ = [v4] from rfl)
 obtain ⟨A2_0, c2_0, e2, f2_0⟩ := g2
 cases e2
 obtain ⟨y3, g3, s3⟩ := hf 3 _ rfl (k := 1) (o := 5) (opens_slice Try.underlying27 (by kernel_rfl) (of_decide_eq_true (by kernel_rfl)) (opens_slice Try.underlying47 (by kernel_rfl) (of_decide_eq_true (by kernel_rfl)) (opens_u64 Try.underlying22))) (by kernel_rfl) rfl
 replace g3 := rep_of g3 (show _ = [v5] from rfl)
 obtain ⟨A3_0, c3_0, e3, f3_0⟩ := g3
 cases e3
 obtain ⟨y4, g4, s4⟩ := hf 4 _ rfl (k := 1) (o := 6) (opens_i64 Try.underlying3) (by kernel_rfl) rfl
 replace g4 := rep_of g4 (show _ = [v6] from rfl)
 cases g4
 obtain ⟨y5, g5, s5⟩ := hf 5 _ rfl (k := 1) (o := 7) (opens_slice Try.underlying28 (by kernel_rfl) (of_decide_eq_true (by kernel_rfl)) TSent.opens) (by kernel_rfl) rfl
 replace g5 := rep_of g5 (show _ = [v7] from rfl)
 obtain ⟨A5_0, c5_0, e5, f5_0⟩ := g5
 cases e5
 exact ⟨(⟨y0, y1, y2, y3, y4, y5⟩ : TWorld), ⟨A1_0, c1_0, A2_0, c2_0, A3_0, c3_0, A5_0, c5_0, rfl, f1_0, f2_0, f3_0, f5_0⟩, fun μ n hm hx => ⟨s1 μ n hm hx, s2 μ n hm hx, s3 μ n hm hx, s5 μ n hm hx⟩⟩
end Go.Proofs.Ytpfpnkaeoedeiaa.Sh
end
section
set_option linter.unusedVariables false
set_option linter.unusedSimpArgs false
set_option maxRecDepth 100000
set_option maxHeartbeats 8000000
namespace Go.Proofs.Ytpfpnkaeoedeiaa.Sh
open Go.Sx
def field_Is.A : Ann where
 loops := fun i => match i with
   | 16389 => [(3, .int .u64)]
   | _ => []
 plans := fun i => match i with
   | _ => .stop
def field_Is.W (p : Int) (H : Heap) (R : Value → Heap → Prop) : Prop :=
 cond (decide (p < 3)) (R (.bool false) H) (cond (decide (p > 65537)) (R (.bool false) H) ((2 : Int) ≠ 0 ∧ cond ((Int.tmod p 2) == 0) (R (.bool false) H)
  (LoopI (σ := Int) (fun κ => κ 3 H) fun s z H_ next =>
 cond (decide ((IntKind.u64.wrap (s * s)) ≤ p)) (s ≠ 0 ∧ cond ((Int.tmod p s) == 0) (R (.bool false) H_)
  (next (IntKind.u64.wrap (s + 2)) H_))
  (R (.bool true) H_))))
theorem field_Is.ok (p : Int) (H : Heap) (R : Value → Heap → Prop) (h : field_Is.W p H R) : CallH P N.field_Is [.int .u64 p] H R :=
 okW Try.func65 (by kernel_rfl) Try.ntmps65 field_Is.A (by kernel_rfl) (by kernel_rfl) h
end Go.Proofs.Ytpfpnkaeoedeiaa.Sh
namespace Go.Proofs.Ytpfpnkaeoedeiaa.Sh
open Go.Sx Go.Lf
def field_Is.C (p : Nat) (K : Bool → Prop) : Prop :=
 ∀ (Z : Nat → Prop) (H : Heap), ∀ (pv : Int), pv = (p : Int) → ∀ KK : Value → Heap → Prop,
   (∀ (Z' : Nat → Prop) (H' : Heap), Ext H H' → Old Z H Z' → ∀ (r0 : Bool), K r0 → KK (.bool r0) H') →
   CallH P N.field_Is [.int .u64 pv] H KK
def field_Is.Q (p : Nat) (K : Bool → Prop) : Prop :=
 cond (decide ((p : Int) < 3)) (K false)
  (cond (decide ((p : Int) > 65537)) (K false)
  ((2 : Int) ≠ 0 ∧ cond ((Int.tmod (p : Int) 2) == 0) (K false)
  (LoopQ (τ := Nat) 3 fun t nextQ =>
 cond (decide ((IntKind.u64.wrap ((t : Int) * (t : Int))) ≤ (p : Int))) ((t : Int) ≠ 0 ∧ cond ((Int.tmod (p : Int) (t : Int)) == 0) (K false)
  (nextQ ((IntKind.u64.wrap ((t : Int) + 2)).toNat)))
  (K true))))
theorem field_Is.q {p : Nat} {K : Bool → Prop} (q : field_Is.Q p K) : field_Is.C p K := by
 intro Z H pv he KK hk; cases he; apply field_Is.ok; unfold field_Is.W; unfold field_Is.Q at q; obtain ⟨σ, hz, hσ⟩ := tags Z; have hs : Stp ([] : List Nat) σ H σ H := Stp.refl _ _ _; clear hz; refine condI (fun q => ?_) (fun q => ?_) q
 · exact hk (Zt σ) _ (hs.ext hσ) (hs.old hσ) _ q
 refine condI (fun q => ?_) (fun q => ?_) q
 · exact hk (Zt σ) _ (hs.ext hσ) (hs.old hσ) _ q
 obtain ⟨q3, q⟩ := q; refine ⟨q3, ?_⟩; refine condI (fun q => ?_) (fun q => ?_) q
 · exact hk (Zt σ) _ (hs.ext hσ) (hs.old hσ) _ q
 refine LoopI.ofQ q (fun t_ s_ hp_ => ∃ σ_ x0_, Stp [] σ H σ_ hp_ ∧ x0_ = s_ ∧ x0_ = ((t_ : Nat) : Int)) (fun h k => h _ _ k) ⟨_, _, Stp.refl _ _ _, rfl, rfl⟩ ?_; rintro t _ _ H_ next nextQ ⟨xσ, x, st, rfl, rfl⟩ q hnext; (try dsimp only at q ⊢); have sl0 := st; refine condJ (fun q => ?_) (fun q => ?_) q
 · replace hs := hs.trans st; exact hk (Zt xσ) _ (hs.ext hσ) (hs.old hσ) _ q
 obtain ⟨q2, q⟩ := q; refine ⟨q2, ?_⟩; refine condI (fun q => ?_) (fun q => ?_) q
 · replace hs := hs.trans st; exact hk (Zt xσ) _ (hs.ext hσ) (hs.old hσ) _ q
 exact hnext ((IntKind.u64.wrap ((t : Int) + 2)).toNat) _ _ ⟨_, _, sl0, rfl, (natEq (nnw _))⟩ q
end Go.Proofs.Ytpfpnkaeoedeiaa.Sh
end
