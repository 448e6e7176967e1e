import Derived.Tactics
import Derived.Orders
import Derived.OrdersHeld
import Derived.Below
set_option linter.unusedVariables false
namespace Go.Sx

/-! The shallow form of a function's body: state is the frame (a list of values) and the heap alone. -/
abbrev Heap := Array Obj

def cellH (H : Heap) (a : Addr) : Option Value :=
  match H[a.block]? with
  | some (.cells c _ _) => if a.spot.isSome then none else c[a.off]?
  | _ => none

def setH (H : Heap) (a : Addr) (v : Value) : Heap :=
  H.modify a.block fun
    | .cells c elem frozen => .cells (if a.spot.isSome then c else c.setIfInBounds a.off v) elem frozen
    | o => o

theorem cellH_eq (w : World) (a : Addr) : w.cell? a = cellH w.heap a := rfl
theorem setH_eq (w : World) (a : Addr) (v : Value) : w.setCell a v = { w with heap := setH w.heap a v } := rfl

structure Same (w w' : World) : Prop where
  os : w'.os = w.os
  tape : w'.tape = w.tape
  output : w'.output = w.output
theorem Same.refl (w : World) : Same w w := ⟨rfl, rfl, rfl⟩
theorem Same.trans {a b c : World} (h : Same a b) (k : Same b c) : Same a c :=
  ⟨k.os.trans h.os, k.tape.trans h.tape, k.output.trans h.output⟩

/-- A call, by the heap alone. -/
def CallH (P : Program) (f : FuncId) (args : List Value) (H : Heap) (K : Value → Heap → Prop) : Prop :=
  ∀ w : World, w.heap = H → Calls P f args.toArray w fun e w' => ∃ v, e = .returned v ∧ Same w w' ∧ K v w'.heap

theorem CallH.mono {P : Program} {f : FuncId} {args : List Value} {H : Heap} {K K' : Value → Heap → Prop}
    (h : CallH P f args H K) (hk : ∀ v H', K v H' → K' v H') : CallH P f args H K' :=
  fun w hw => (h w hw).mono fun _ _ ⟨v, he, hs, hv⟩ => ⟨v, he, hs, hk _ _ hv⟩

/-! Types -/
inductive S1 where
  | int (k : IntKind) | bool | str | slice | ptr | map | func | any
inductive Sh where
  | one (s : S1)
  | agg (l : List S1)
inductive Kind where
  | int (k : IntKind) | bool | str | slice (e : Nat) | ptr | map | func
  | struct (fields : List (Nat × Sh)) | array (n : Nat) (e : Nat) | other
structure TI where
  kind : Kind
  sh : Sh
  zero : List Value
  bytes : Nat
def Sh.size : Sh → Nat
  | .one _ => 1
  | .agg l => l.length
def TI.size (i : TI) : Nat := i.sh.size
def TI.known (i : TI) : Bool :=
  match i.kind with
  | .other => false
  | _ => true

def TyEx : S1 → (Value → Prop) → Prop
  | .int k, κ => ∃ x : Int, κ (.int k x)
  | .bool, κ => ∃ b : Bool, κ (.bool b)
  | .str, κ => ∃ s : ByteArray, κ (.string s)
  | .slice, κ => ∃ (A : Option Addr) (n c : Nat), κ (.slice A n c)
  | .ptr, κ => ∃ a : Addr, κ (.pointer (some a))
  | .map, κ => ∃ r : Nat, κ (.map (some r))
  | .func, κ => ∃ (f : Nat) (a b : Array Value), κ (.func (.func f) a b)
  | .any, κ => ∃ v : Value, κ v
theorem TyEx.out {s : S1} {κ : Value → Prop} (h : TyEx s κ) : ∃ v, κ v := by
  cases s <;> simp only [TyEx] at h
  · obtain ⟨x, h⟩ := h; exact ⟨_, h⟩
  · obtain ⟨x, h⟩ := h; exact ⟨_, h⟩
  · obtain ⟨x, h⟩ := h; exact ⟨_, h⟩
  · obtain ⟨x, y, z, h⟩ := h; exact ⟨_, h⟩
  · obtain ⟨x, h⟩ := h; exact ⟨_, h⟩
  · obtain ⟨x, h⟩ := h; exact ⟨_, h⟩
  · obtain ⟨x, y, z, h⟩ := h; exact ⟨_, h⟩
  · exact h
def TyExL : List S1 → (List Value → Prop) → Prop
  | [], κ => κ []
  | s :: l, κ => TyEx s fun v => TyExL l fun vs => κ (v :: vs)
theorem TyExL.out : ∀ {l : List S1} {κ : List Value → Prop}, TyExL l κ → ∃ vs, vs.length = l.length ∧ κ vs
  | [], _, h => ⟨[], rfl, h⟩
  | _ :: _, _, h => by
    obtain ⟨v, h⟩ := TyEx.out h
    obtain ⟨vs, hl, h⟩ := TyExL.out h
    exact ⟨v :: vs, by simp [hl], h⟩
def TyExS : Sh → (Value → Prop) → Prop
  | .one s, κ => TyEx s κ
  | .agg l, κ => TyExL l fun vs => κ (.agg vs.toArray)
theorem TyExS.out {s : Sh} {κ : Value → Prop} (h : TyExS s κ) : ∃ v, κ v := by
  cases s
  · exact TyEx.out h
  · obtain ⟨vs, _, h⟩ := TyExL.out h; exact ⟨_, h⟩
def TyExT : List Sh → (List Value → Prop) → Prop
  | [], κ => κ []
  | s :: l, κ => TyExS s fun v => TyExT l fun vs => κ (v :: vs)
theorem TyExT.out : ∀ {l : List Sh} {κ : List Value → Prop}, TyExT l κ → ∃ vs, κ vs
  | [], _, h => ⟨[], h⟩
  | _ :: _, _, h => by
    obtain ⟨v, h⟩ := TyExS.out h
    obtain ⟨vs, h⟩ := TyExT.out h
    exact ⟨v :: vs, h⟩

/-- What a call gives back: nothing or several results as a tuple, one bare. -/
def TyRes : List Sh → (Value → Prop) → Prop
  | [], κ => κ (.tuple #[])
  | [s], κ => TyExS s κ
  | s :: t :: l, κ => TyExS s fun v => TyExS t fun u => TyExT l fun vs => κ (.tuple (v :: u :: vs).toArray)
theorem TyRes.out {l : List Sh} {κ : Value → Prop} (h : TyRes l κ) : ∃ v, κ v := by
  match l, h with
  | [], h => exact ⟨_, h⟩
  | [s], h => exact TyExS.out h
  | a :: b :: l, h =>
    obtain ⟨_, h⟩ := TyExS.out h
    obtain ⟨_, h⟩ := TyExS.out h
    obtain ⟨_, h⟩ := TyExT.out h
    exact ⟨_, h⟩

/-! Memory -/
/-- A new heap, by name. -/
def NewH (H : Heap) (K : Heap → Prop) : Prop := K H
theorem NewH.mk {H : Heap} {K : Heap → Prop} (h : ∀ H', H' = H → K H') : NewH H K := h H rfl
def scale (i sz : Nat) : Nat := cond (Nat.beq sz 1) i (i * sz)
theorem scale_eq (i sz : Nat) : scale i sz = i * sz := by
  unfold scale
  cases h : Nat.beq sz 1 with
  | false => rfl
  | true => have := Nat.eq_of_beq_eq_true h; subst this; simp
def CellsAre (H : Heap) (a : Addr) : Nat → List Value → Prop → Prop
  | _, [], R => R
  | j, v :: vs, R => cellH H (a.add j) = some v ∧ CellsAre H a (j + 1) vs R
def LoadH (s : Sh) (H : Heap) (a : Addr) (κ : Value → Prop) : Prop :=
  match s with
  | .one s => TyEx s fun v => cellH H a = some v ∧ κ v
  | .agg l => TyExL l fun vs => CellsAre H a 0 vs (κ (.agg vs.toArray))
/-- The load gives the same there. -/
def StillH (s : Sh) (H : Heap) (a : Addr) (v : Value) : Prop :=
  match s with
  | .one _ => cellH H a = some v
  | .agg l => ∃ vs : List Value, vs.length = l.length ∧ v = .agg vs.toArray ∧ CellsAre H a 0 vs True
def StillP (s : Sh) (a : Addr) (v : Value) (H : Heap) (R : Prop) : Prop :=
  match s, v with
  | .one _, v => cellH H a = some v ∧ R
  | .agg l, .agg cs => if cs.toList.length = l.length then CellsAre H a 0 cs.toList R else False
  | _, _ => False
def setsH (H : Heap) (a : Addr) : Nat → List Value → Heap
  | _, [] => H
  | i, v :: vs => setsH (setH H (a.add i) v) a (i + 1) vs
def isCell : Value → Bool
  | .agg _ => false
  | .tuple _ => false
  | _ => true
/-- Cells from a on may be written: they lie in one block of cells that is not frozen. -/
def MayWrite (H : Heap) (a : Addr) (n : Nat) : Prop :=
  ∃ cs t, H[a.block]? = some (.cells cs t (0, 0)) ∧ a.spot = none ∧ a.off + n ≤ cs.size
def StoreH (n : Nat) (H : Heap) (a : Addr) (vs : List Value) (κ : Heap → Prop) : Prop :=
  cond (Nat.beq vs.length n && vs.all isCell) (MayWrite H a n ∧ NewH (setsH H a 0 vs) κ) False
def ReadsC (H : Heap) (A : Option Addr) (vs : List Value) : Prop :=
  match A with
  | some a => ∀ j (h : j < vs.length), cellH H (a.add j) = some vs[j]
  | none => vs = []
def repl (n : Nat) (z : List Value) : List Value := (List.replicate n z).flatten

/-- append(s, x...): s has address A, length n, capacity c; m new elements, their cells new. -/
def AppendT (e sz bytes : Nat) (zero : List Value) (H : Heap) (A : Option Addr) (n c m : Nat) (new : List Value) (K : Option Addr → Nat → Nat → Heap → Prop) : Prop :=
  new.all isCell = true ∧
  (n + m ≤ c → match A with
    | none => K none (n + m) c H
    | some a => MayWrite H (a.add (n * sz)) new.length ∧ K (some a) (n + m) c (setsH H (a.add (n * sz)) 0 new)) ∧
  (c < n + m → Builtin.nextslicecap (n + m) c * bytes ≤ 2 ^ 48 ∧ n + m < 2 ^ 62 ∧ ∃ old : List Value, old.length = n * sz ∧ ReadsC H A old ∧
    ∀ c', n + m ≤ c' → K (some ⟨H.size, 0, none⟩) (n + m) c' (H.push (.cells (old ++ new ++ repl (c' - (n + m)) zero).toArray e (0, 0))))
def AppendV (e sz bytes : Nat) (zero : List Value) (H : Heap) (A : Option Addr) (n c : Nat) (B : Option Addr) (m : Nat) (K : Option Addr → Nat → Nat → Heap → Prop) : Prop :=
  ∃ new : List Value, new.length = m * sz ∧ ReadsC H B new ∧ AppendT e sz bytes zero H A n c m new K
def CopyV (sz : Nat) (H : Heap) (A : Option Addr) (n : Nat) (B : Option Addr) (m : Nat) (K : Int → Heap → Prop) : Prop :=
  ∃ new : List Value, new.length = min m n * sz ∧ ReadsC H B new ∧ new.all isCell = true ∧
    match A with
    | none => K (min m n : Nat) H
    | some a => MayWrite H a new.length ∧ K (min m n : Nat) (setsH H a 0 new)

/-! Operations -/
/-- An operation of the model, as it is: it gives a value (or nothing) in every world with this heap. -/
def SemV (P : Program) (s : Sem Value) (H : Heap) (K : Value → Heap → Prop) : Prop :=
  ∀ w : World, w.heap = H → ∃ v w', s.run P w = .ok v w' ∧ Same w w' ∧ K v w'.heap
def SemU (P : Program) (s : Sem Unit) (H : Heap) (K : Heap → Prop) : Prop :=
  ∀ w : World, w.heap = H → ∃ w', s.run P w = .ok () w' ∧ Same w w' ∧ K w'.heap

/-- A value that hangs on no memory. -/
def SemP (P : Program) (s : Sem Value) (κ : Value → Prop) : Prop := ∃ v, (∀ w : World, s.run P w = .ok v w) ∧ κ v

def bitsOf (op : BinOp) (k : IntKind) (x y : Int) : Int :=
  let a := BitVec.ofInt k.bits x
  let b := BitVec.ofInt k.bits y
  match op with
  | .and => k.wrap (a &&& b).toNat
  | .or => k.wrap (a ||| b).toNat
  | .xor => k.wrap (a ^^^ b).toNat
  | _ => k.wrap (a &&& ~~~b).toNat

def BinH (P : Program) (op : BinOp) (t : Nat) (i : TI) (H : Heap) (xo yo : Operand) (x y : Value) (K : Value → Heap → Prop) : Prop :=
  match x, y with
  | .int k a, .int k' b =>
    match op with
    | .shl => 0 ≤ b ∧ K (.int k (k.wrap (a * 2 ^ (min b.toNat k.bits)))) H
    | .shr => 0 ≤ b ∧ K (.int k (a.fdiv (2 ^ (min b.toNat k.bits)))) H
    | .add => cond (decide (k = k')) (K (.int k (k.wrap (a + b))) H) False
    | .sub => cond (decide (k = k')) (K (.int k (k.wrap (a - b))) H) False
    | .mul => cond (decide (k = k')) (K (.int k (k.wrap (a * b))) H) False
    | .quo => cond (decide (k = k')) (b ≠ 0 ∧ K (.int k (k.wrap (a.tdiv b))) H) False
    | .rem => cond (decide (k = k')) (b ≠ 0 ∧ K (.int k (a.tmod b)) H) False
    | .eql => cond (decide (k = k')) (K (.bool (a == b)) H) False
    | .neq => cond (decide (k = k')) (K (.bool (a != b)) H) False
    | .lss => cond (decide (k = k')) (K (.bool (decide (a < b))) H) False
    | .leq => cond (decide (k = k')) (K (.bool (decide (a ≤ b))) H) False
    | .gtr => cond (decide (k = k')) (K (.bool (decide (a > b))) H) False
    | .geq => cond (decide (k = k')) (K (.bool (decide (a ≥ b))) H) False
    | op => cond (decide (k = k')) (K (.int k (bitsOf op k a b)) H) False
  | .bool a, .bool b =>
    match op, i.kind with
    | .eql, .bool => K (.bool (a == b)) H
    | .neq, .bool => K (.bool (a != b)) H
    | _, _ => False
  | .slice A _ _, .slice none 0 0 =>
    match op, i.kind with
    | .eql, .slice _ => K (.bool A.isNone) H
    | .neq, .slice _ => K (.bool (!A.isNone)) H
    | _, _ => False
  | x, y => SemP P (do eqGuard op t xo yo x y; binOp op t x y) fun v => K v H

def setRange (cs : List Value) (off : Nat) : List Value → List Value
  | [] => cs
  | v :: vs => setRange (cs.set off v) (off + 1) vs
/-- A struct's cells out of its parts (their places and sizes by f). -/
def fillL (f : Nat → Option (Nat × Nat)) : List Value → List (Nat × Value) → Option (List Value)
  | cells, [] => some cells
  | cells, (i, v) :: rest =>
    match f i with
    | none => none
    | some (off, size) => if v.cells.toList.length = size ∧ off + size ≤ cells.length then fillL f (setRange cells off v.cells.toList) rest else none

def SubA (A : Option Addr) (c l sz : Nat) : Option Addr := if c = l then A else A.map (·.add (scale l sz))
def SliceH (sz : Nat) (A : Option Addr) (n c : Nat) (lo hi : Option Value) (κ : Value → Prop) : Prop :=
  match lo, hi with
  | none, none => κ (.slice A n c)
  | none, some (.int _ h) => 0 ≤ h ∧ h ≤ (c : Int) ∧ κ (.slice A h.toNat c)
  | some (.int _ l), none => 0 ≤ l ∧ l ≤ (n : Int) ∧ κ (.slice (SubA A c l.toNat sz) (n - l.toNat) (c - l.toNat))
  | some (.int _ l), some (.int _ h) => 0 ≤ l ∧ l ≤ h ∧ h ≤ (c : Int) ∧ κ (.slice (SubA A c l.toNat sz) (h.toNat - l.toNat) (c - l.toNat))
  | _, _ => False

def sxBuiltin (P : Program) (T : Nat → TI) (b : Builtin) (argTypes : List Nat) (args : List Value) (H : Heap) (K : Value → Heap → Prop) : Prop :=
  match b, args with
  | .len, [.slice _ n _] => match argTypes with
    | t :: _ => match (T t).kind with
      | .slice _ => K (.int .i64 n) H
      | _ => False
    | _ => False
  | .len, [.map (some r)] => match argTypes with
    | t :: _ => match (T t).kind with
      | .map => ∃ es clock, H[r]? = some (.map es clock) ∧ K (.int .i64 es.size) H
      | _ => False
    | _ => False
  | .len, [.string s] => match argTypes with
    | t :: _ => match (T t).kind with
      | .str => K (.int .i64 s.size) H
      | _ => False
    | _ => False
  | .min, [.int k x, .int _ y] => K (.int k (if y < x then y else x)) H
  | .max, [.int k x, .int _ y] => K (.int k (if y > x then y else x)) H
  | .append, [.slice A n c, x] => match argTypes with
    | [t, u] => match (T t).kind with
      | .slice e => match (T u).kind, x with
        | .slice _, .slice B m _ => AppendV e (T e).size (T e).bytes (T e).zero H A n c B m fun A n c H' => K (.slice A n c) H'
        | .int .i64, .int _ m => 0 ≤ m ∧ m * (T e).bytes ≤ 2 ^ 48 ∧ m < 2 ^ 62 ∧ AppendT e (T e).size (T e).bytes (T e).zero H A n c m.toNat (repl m.toNat (T e).zero) fun A n c H' => K (.slice A n c) H'
        | _, _ => False
      | _ => False
    | _ => False
  | .copy, [.slice A n _, .slice B m _] => match argTypes with
    | t :: _ => match (T t).kind with
      | .slice e => CopyV (T e).size H A n B m fun m H' => K (.int .i64 m) H'
      | _ => False
    | _ => False
  | _, _ => False

def hasB (nf f : Nat) : Bool := Nat.blt 1 f && Nat.blt f nf
/-- A call of a function value. -/
def CallV (P : Program) (nf : Nat) (v : Value) (args : List Value) (H : Heap) (K : Value → Heap → Prop) : Prop :=
  match v with
  | .func (.func f) first cap => cond (hasB nf f) (CallH P f (first.toList ++ args ++ cap.toList) H K) False
  | _ => False

def sxCall (P : Program) (T : Nat → TI) (R : Nat → List Sh) (nf : Nat) (ty : Nat) (ρ : Operand → Value) (H : Heap) (c : Call) (K : Value → Heap → Prop) : Prop :=
  match c.callee with
  | .builtin b => sxBuiltin P T b c.argTypes.toList (c.args.toList.map ρ) H K
  | .value (.func f) => cond (hasB nf f) (CallH P f (c.args.toList.map ρ) H fun v H' => TyRes (R ty) fun v' => v = v' ∧ K v' H') False
  | .value x => CallV P nf (ρ x) (c.args.toList.map ρ) H fun v H' => TyRes (R ty) fun v' => v = v' ∧ K v' H'
  | _ => False

def sxOp (P : Program) (T : Nat → TI) (R : Nat → List Sh) (nf : Nat) (ty : Nat) (ρ : Operand → Value) (H : Heap) (K : Value → Heap → Prop) : Op → Prop
  | .move x => K (ρ x) H
  | .assign x => K (ρ x) H
  | .pick c a b => match ρ c, ρ a, ρ b with
    | .bool t, .bool x, .bool y => K (.bool (cond t x y)) H
    | .bool t, x, y => cond t (K x H) (K y H)
    | _, _, _ => False
  | .alloc e => cond (T e).known (NewH (H.push (.cells (T e).zero.toArray e (0, 0))) fun H' => K (.pointer (some ⟨H.size, 0, none⟩)) H') False
  | .box e x => NewH (H.push (.cells (ρ x).cells e (0, 0))) fun H' => K (.pointer (some ⟨H.size, 0, none⟩)) H'
  | .load t x => match ρ x with
    | .pointer (some a) => cond (T t).known (LoadH (T t).sh H a fun v => K v H) False
    | _ => False
  | .store t x y => match ρ x with
    | .pointer (some a) => cond (T t).known (StoreH (T t).size H a (ρ y).cells.toList fun H' => K undef H') False
    | _ => False
  | .nilCheck x => match ρ x with
    | .pointer (some a) => K (.pointer (some a)) H
    | .func (.func f) a b => K (.func (.func f) a b) H
    | _ => False
  | .binOp op t x y _ => BinH P op t (T t) H x y (ρ x) (ρ y) K
  | .unOp op _ x => match op, ρ x with
    | .not, .bool b => K (.bool !b) H
    | .neg, .int k n => K (.int k (k.wrap (0 - n))) H
    | _, _ => False
  | .convert s d x => match (T s).kind, (T d).kind, ρ x with
    | .int _, .int k, .int _ n => K (.int k (k.wrap n)) H
    | _, _, _ => False
  | .makeFunc fn first cap => K (.func fn (first.toList.map ρ).toArray (cap.toList.map ρ).toArray) H
  | .makeMap _ none => NewH (H.push (.map #[] 0)) fun H' => K (.map (some H.size)) H'
  | .makeSlice t l c => match (T t).kind, ρ l, ρ c with
    | .slice e, .int _ n, .int _ m => 0 ≤ n ∧ n ≤ m ∧ m * (T e).bytes ≤ 2 ^ 48 ∧ m < 2 ^ 62 ∧
        NewH (H.push (.cells (repl m.toNat (T e).zero).toArray e (0, 0))) fun H' => K (.slice (some ⟨H.size, 0, none⟩) n.toNat m.toNat) H'
    | _, _, _ => False
  | .slice t x lo hi none => match (T t).kind, ρ x with
    | .slice e, .slice A n c => SliceH (T e).size A n c (lo.map ρ) (hi.map ρ) fun v => K v H
    | .array n e, .pointer (some a) => SliceH (T e).size (some a) n n (lo.map ρ) (hi.map ρ) fun v => K v H
    | _, _ => False
  | .fieldAddr s x f => match (T s).kind, ρ x with
    | .struct fs, .pointer (some a) => match fs[f]? with
      | some (off, _) => K (.pointer (some (a.add off))) H
      | none => False
    | _, _ => False
  | .field s x f => match (T s).kind, ρ x with
    | .struct fs, .agg cs => match fs[f]? with
      | some (off, .one _) => match cs.toList[off]? with
        | some v => K v H
        | none => False
      | some (off, .agg l) => K (.agg ((cs.toList.drop off).take l.length).toArray) H
      | none => False
    | _, _ => False
  | .indexAddr t x i => match (T t).kind, ρ x, ρ i with
    | .slice e, .slice A n _, .int _ i => ∃ a, A = some a ∧ 0 ≤ i ∧ i < (n : Int) ∧ K (.pointer (some (a.add (scale i.toNat (T e).size)))) H
    | .array n e, .pointer (some a), .int _ i => 0 ≤ i ∧ i < (n : Int) ∧ K (.pointer (some (a.add (scale i.toNat (T e).size)))) H
    | _, _, _ => False
  | .index t x i => match (T t).kind, ρ x, ρ i with
    | .array n e, .agg cs, .int _ i => match (T e).sh with
      | .one s => 0 ≤ i ∧ i < (n : Int) ∧ TyEx s fun v => cs.toList[i.toNat]? = some v ∧ K v H
      | _ => False
    | _, _, _ => False
  | .extract x i => match ρ x with
    | .tuple vs => match vs.toList[i]? with
      | some v => K v H
      | none => False
    | _ => False
  | .build t parts => match (T t).kind with
    | .struct fs => match fillL (fun i => (fs[i]?).map fun f => (f.1, f.2.size)) (T t).zero (parts.toList.map fun p => (p.1, ρ p.2)) with
      | some cs => K (.agg cs.toArray) H
      | none => False
    | .array n e => match fillL (fun i => some (i * (T e).size, (T e).size)) (T t).zero (parts.toList.map fun p => (p.1, ρ p.2)) with
      | some cs => K (.agg cs.toArray) H
      | none => False
    | _ => False
  | .buildSlice t len parts => match (T t).kind with
    | .slice e => match fillL (fun i => some (i * (T e).size, (T e).size)) (repl len (T e).zero) (parts.toList.map fun p => (p.1, ρ p.2)) with
      | some cs => cond (Nat.ble (len * (T e).size) 16777216) (NewH (H.push (.cells cs.toArray e (0, 0))) fun H' => K (.slice (some ⟨H.size, 0, none⟩) len len) H') False
      | none => False
    | _ => False
  | .lookup t m k ok => SemV P (Instr.lookup t (ρ m) (ρ k) ok) H fun v H' => TyRes (R ty) fun v' => v = v' ∧ K v' H'
  | .mapUpdate t m k v => SemU P (Instr.mapUpdate t (ρ m) (ρ k) (ρ v)) H fun H' => K undef H'
  | .insert t m k v => SemU P (Instr.mapUpdate t (ρ m) (ρ k) (ρ v)) H fun H' => K undef H'
  | .mapEntry t m k => SemV P (Instr.mapEntry t (ρ m) (ρ k)) H fun v H' => TyRes (R ty) fun v' => v = v' ∧ K v' H'
  | .entryStore t m s v => SemU P (Instr.entryStore t (ρ m) (ρ s) (ρ v)) H fun H' => K undef H'
  | .call c => sxCall P T R nf ty ρ H c K
  | _ => False
end Go.Sx
