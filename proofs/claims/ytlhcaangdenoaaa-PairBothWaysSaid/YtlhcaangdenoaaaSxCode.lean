import Derived.Test.YtlhcaangdenoaaaSxSound
set_option linter.unusedVariables false
set_option linter.unusedSimpArgs false
namespace Go.Sx

/-! ### Frames -/
def evL (τ : List Value) : Operand → Value
  | .tmp t => τ.getD t undef
  | .const v => v
  | .global g => .pointer (some ⟨g, 0, none⟩)
  | .func f => .func (.func f) #[] #[]
def putL (τ : List Value) (d : Option Tmp) (v : Value) : List Value :=
  match d with
  | some d => τ.set d v
  | none => τ
theorem evL_eq (τ : List Value) (x : Operand) : (Act.mk τ.toArray []).eval x = evL τ x := by
  cases x <;> simp [Act.eval, evL, List.getD]
theorem evL_fun (τ : List Value) : (Act.mk τ.toArray []).eval = evL τ := funext (evL_eq τ)
theorem putL_eq (τ : List Value) (d : Option Tmp) (v : Value) : (Act.mk τ.toArray []).put d v = Act.mk (putL τ d v).toArray [] := by
  cases d <;> simp [Act.put, putL]

abbrev Kont := List Value → Heap → Prop

/-- The order of a region that draws: first (i): an operation that reads no memory; read (i): a load, taken early; alt: one that may come up now, or else the rest. -/
inductive Plan where
  | done
  | first (i : Nat) (p : Plan)
  | read (i : Nat) (p : Plan)
  | alt (i : Nat) (drop : List Nat) (p rest : Plan)
  | stop
structure Ann where
  loops : Nat → List (Nat × S1)
  plans : Nat → Plan

section
variable (P : Program) (T : Nat → TI) (R : Nat → List Sh) (nf : Nat) (A : Ann)

def guarded (ops : List Oper) (τ : List Value) (o : Oper) (run : List Value → Prop) (skip : List Value → Prop) : Prop :=
  match o.guard with
  | none => run τ
  | some (j, want) => match (ops[j]?).bind (·.dst) with
    | none => False
    | some d => match τ.getD d undef with
      | .bool b => match want with
        | true => cond b (run (τ.set d (.bool true))) (skip (τ.set d (.bool false)))
        | false => cond b (skip (τ.set d (.bool true))) (run (τ.set d (.bool false)))
      | .tuple _ => skip τ
      | _ => False

def sxOps (ops : List Oper) : List Oper → Kont → Kont
  | [], K, τ, H => K τ H
  | o :: rest, K, τ, H => guarded ops τ o
      (fun τ => sxOp P T R nf o.type (evL τ) H (fun v H' => sxOps ops rest K (putL τ o.dst v) H') o.op)
      (fun τ => sxOps ops rest K (putL τ o.dst undef) H)

def heldAll (drop : List Nat) (H : Heap) (R : Prop) : List (Nat × (Heap → Prop → Prop)) → Prop
  | [] => R
  | (j, C) :: l => cond (drop.contains j) (heldAll drop H R l) (C H (heldAll drop H R l))
def dropHeld (drop : List Nat) (l : List (Nat × (Heap → Prop → Prop))) : List (Nat × (Heap → Prop → Prop)) := l.filter fun p => !drop.contains p.1

def isStop : Plan → Bool
  | .stop => true
  | _ => false
def sxPlan (ops : List Oper) (K : Kont) : Plan → List (Nat × (Heap → Prop → Prop)) → List Value → Heap → Prop
  | .done, _, τ, H => K τ H
  | .stop, _, _, _ => True
  | .first i p, held, τ, H => match ops[i]? with
    | none => False
    | some o => guarded ops τ o
      (fun τ => sxOp P T R nf o.type (evL τ) H (fun v H' => sxPlan ops K p held (putL τ o.dst v) H') o.op)
      (fun τ => sxPlan ops K p held (putL τ o.dst undef) H)
  | .read i p, held, τ, H => match ops[i]? with
    | none => False
    | some o => guarded ops τ o
      (fun τ => match o.op with
        | .load t x => match evL τ x with
          | .pointer (some a) => cond (T t).known (LoadH (T t).sh H a fun v => sxPlan ops K p ((i, fun H' R => StillP (T t).sh a v H' R) :: held) (putL τ o.dst v) H) False
          | _ => False
        | _ => False)
      (fun τ => sxPlan ops K p held (putL τ o.dst undef) H)
  | .alt i drop p rest, held, τ, H => match ops[i]? with
    | none => False
    | some o => cond (isStop rest)
      (guarded ops τ o
        (fun τ => sxOp P T R nf o.type (evL τ) H (fun v H' => heldAll drop H' (sxPlan ops K p (dropHeld drop held) (putL τ o.dst v) H') held) o.op)
        (fun τ => sxPlan ops K p (dropHeld drop held) (putL τ o.dst undef) H))
      ((guarded ops τ o
        (fun τ => sxOp P T R nf o.type (evL τ) H (fun v H' => heldAll drop H' (sxPlan ops K p (dropHeld drop held) (putL τ o.dst v) H') held) o.op)
        (fun τ => sxPlan ops K p (dropHeld drop held) (putL τ o.dst undef) H)) ∧ sxPlan ops K rest held τ H)

def dsts (ops : List Oper) : List Tmp := ops.filterMap (·.dst)
/-- The temporaries that a piece of code may write (those of guards among them). -/
def wr : Code → List Tmp
  | .region _ ops _ => dsts ops.toList
  | .seq a b => wr a ++ wr b
  | .cond _ a b => wr a ++ wr b
  | .block _ b => wr b
  | .loop b => wr b
  | .scope b => wr b
  | _ => []
def firstRegion : Code → Nat
  | .region id _ _ => id
  | .seq a _ => firstRegion a
  | .block _ b => firstRegion b
  | .loop b => firstRegion b
  | _ => 0

def orr (a b : Nat) : Nat := match a with
  | 0 => b
  | a => a
def lastRegion : Code → Nat
  | .region id _ _ => id
  | .seq a b => orr (lastRegion b) (lastRegion a)
  | .cond _ a b => orr (lastRegion b) (lastRegion a)
  | .block _ b => lastRegion b
  | .loop b => lastRegion b
  | _ => 0
def loopKey (b : Code) : Nat := firstRegion b * 4096 + lastRegion b

/-! Loops: the slots that live over a round, with their kinds. -/
def S1.Ty : S1 → Type
  | .int _ => Int
  | .bool => Bool
  | .str => ByteArray
  | .slice => Option Addr × Nat × Nat
  | .ptr => Addr
  | .map => Nat
  | .func => Nat × Array Value × Array Value
  | .any => Value
def S1.emb : (s : S1) → s.Ty → Value
  | .int k, (x : Int) => .int k x
  | .bool, (b : Bool) => .bool b
  | .str, (s : ByteArray) => .string s
  | .slice, (x : Option Addr × Nat × Nat) => .slice x.1 x.2.1 x.2.2
  | .ptr, (a : Addr) => .pointer (some a)
  | .map, (r : Nat) => .map (some r)
  | .func, (x : Nat × Array Value × Array Value) => .func (.func x.1) x.2.1 x.2.2
  | .any, (v : Value) => v
def S1.proj (s : S1) (v : Value) (κ : s.Ty → Prop) : Prop :=
  match s, κ with
  | .int k, κ => match v with | .int k' x => cond (decide (k' = k)) (κ x) False | _ => False
  | .bool, κ => match v with | .bool b => κ b | _ => False
  | .str, κ => match v with | .string b => κ b | _ => False
  | .slice, κ => match v with | .slice A n c => κ (A, n, c) | _ => False
  | .ptr, κ => match v with | .pointer (some a) => κ a | _ => False
  | .map, κ => match v with | .map (some r) => κ r | _ => False
  | .func, κ => match v with | .func (.func f) a b => κ (f, a, b) | _ => False
  | .any, κ => κ v
theorem S1.proj_spec {s : S1} {v : Value} {κ : s.Ty → Prop} (h : s.proj v κ) : ∃ x, v = s.emb x ∧ κ x := by
  cases s
  case int k => simp only [S1.proj] at h; split at h; · obtain ⟨rfl, h⟩ := cond_dec h; exact ⟨_, rfl, h⟩
                · exact h.elim
  case bool => simp only [S1.proj] at h; split at h; · exact ⟨_, rfl, h⟩
               · exact h.elim
  case str => simp only [S1.proj] at h; split at h; · exact ⟨_, rfl, h⟩
              · exact h.elim
  case slice => simp only [S1.proj] at h; split at h; · exact ⟨_, rfl, h⟩
                · exact h.elim
  case ptr => simp only [S1.proj] at h; split at h; · exact ⟨_, rfl, h⟩
              · exact h.elim
  case map => simp only [S1.proj] at h; split at h; · exact ⟨_, rfl, h⟩
              · exact h.elim
  case func => simp only [S1.proj] at h; split at h; · exact ⟨_, rfl, h⟩
               · exact h.elim
  case any => exact ⟨v, rfl, h⟩
def LTy : List (Nat × S1) → Type
  | [] => Unit
  | [(_, s)] => s.Ty
  | (_, s) :: l => s.Ty × LTy l
def embL : (l : List (Nat × S1)) → LTy l → List Value → List Value
  | [], _, τ => τ
  | [(n, s)], x, τ => τ.set n (s.emb x)
  | (n, s) :: a :: l, x, τ => embL (a :: l) x.2 (τ.set n (s.emb x.1))
def projL : (l : List (Nat × S1)) → List Value → (LTy l → Prop) → Prop
  | [], _, κ => κ ()
  | [(n, s)], τ, κ => s.proj (τ.getD n undef) κ
  | (n, s) :: a :: l, τ, κ => s.proj (τ.getD n undef) fun x => projL (a :: l) τ fun y => κ (x, y)
/-- The slots of ns forgotten: each holds what z gives. -/
def junk (z : Nat → Value) : List Nat → List Value → List Value
  | [], τ => τ
  | n :: ns, τ => junk z ns (τ.set n (z n))

def LoopI {σ : Type} (init : (σ → Heap → Prop) → Prop) (step : σ → (Nat → Value) → Heap → (σ → Heap → Prop) → Prop) : Prop :=
  ∃ I : Nat → σ → Heap → Prop, (∃ n, init (I n)) ∧ ∀ n s z H, I n s H → step s z H fun s' H' => ∃ n', n' < n ∧ I n' s' H'

def sx : Code → Kont → (Nat → Kont) → Kont → Kont
  | .skip, Kn, _, _, τ, H => Kn τ H
  | .label _, Kn, _, _, τ, H => Kn τ H
  | .region _ ops false, Kn, _, _, τ, H => sxOps P T R nf ops.toList ops.toList Kn τ H
  | .region id ops true, Kn, _, _, τ, H => sxPlan P T R nf ops.toList Kn (A.plans id) [] τ H
  | .seq a b, Kn, E, Rt, τ, H => sx a (sx b Kn E Rt) E Rt τ H
  | .cond c x y, Kn, E, Rt, τ, H => match evL τ c with
    | .bool t => cond t (sx x Kn E Rt τ H) (sx y Kn E Rt τ H)
    | _ => False
  | .block id b, Kn, E, Rt, τ, H => sx b Kn (fun j => cond (Nat.beq j id) Kn (E j)) Rt τ H
  | .loop b, _, E, Rt, τ, H => LoopI (σ := LTy (A.loops (loopKey b))) (fun κ => projL (A.loops (loopKey b)) τ fun s => κ s H)
      fun s z H next => sx b (fun τ' H' => projL (A.loops (loopKey b)) τ' fun s' => next s' H') E Rt (embL (A.loops (loopKey b)) s (junk z (wr b) τ)) H
  | .exit id, _, E, _, τ, H => E id τ H
  | .ret, _, _, Rt, τ, H => Rt τ H
  | _, _, _, _, _, _ => False

/-- What the result variables hold. -/
def resL : List ResultVar → List Value → Heap → (List Value → Prop) → Prop
  | [], _, _, κ => κ []
  | .tmp t :: l, τ, H, κ => resL l τ H fun vs => κ (τ.getD t undef :: vs)
  | .cell a t :: l, τ, H, κ => match τ.getD a undef with
    | .pointer (some a) => cond (T t).known (LoadH (T t).sh H a fun v => resL l τ H fun vs => κ (v :: vs)) False
    | _ => False
def one : List Value → Value
  | [v] => v
  | vs => .tuple vs.toArray
def sxFn (rs : List ResultVar) (body : Code) (frame : List Value) (H : Heap) (K : Value → Heap → Prop) : Prop :=
  sx P T R nf A body (fun τ H => resL T rs τ H fun vs => K (one vs) H) (fun _ _ _ => False) (fun τ H => resL T rs τ H fun vs => K (one vs) H) frame H
end
end Go.Sx
