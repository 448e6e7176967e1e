import Derived.RangeFuncNested
import Derived.RangeFuncBound
import Derived.RangeFuncCalls
import Derived.RangeFuncLeaves
import Derived.RangeFuncBox
import Derived.Shelf.RegionOpen
import Derived.Shelf.Abstract
import Derived.WalkKit
import Derived.OwnWalkIn
import Derived.TacticsInMore
import Derived.LoopNIn
import Derived.LoopIn
import Derived.KernelRfl
import Derived.Test.YtlhcaangdenoaaaProg
import Derived.Test.YtlhcaangdenoaaaUTypes
import Derived.Test.YtlhcaangdenoaaaUFnField
namespace Go.Proofs
end Go.Proofs
namespace Go.Proofs.Ytlhcaangdenoaaa.Sh
end Go.Proofs.Ytlhcaangdenoaaa.Sh
namespace Go.RowKit
end Go.RowKit
namespace Go.Shelf
end Go.Shelf
namespace Go.Sx
end Go.Sx
set_option linter.unusedVariables false
namespace Go.Proofs.Ytlhcaangdenoaaa.Sp
open Go.Sx Go.Proofs.Ytlhcaangdenoaaa.Sh
def fmul (p a b : Nat) : Nat := a * b % p
def fadd (p a b : Nat) : Nat := (a + b) % p
def fsub (p a b : Nat) : Nat := (a + (p - b)) % p
theorem mul_lt {p a b : Nat} (hp : p ≤ 65537) (ha : a < p) (hb : b < p) : a * b < 18446744073709551616 := by
  have : a * b ≤ 65537 * 65537 := Nat.mul_le_mul (by omega) (by omega)
  omega
theorem fmul_lt {p : Nat} (hp : 0 < p) (a b : Nat) : fmul p a b < p := Nat.mod_lt _ hp
theorem fadd_lt {p : Nat} (hp : 0 < p) (a b : Nat) : fadd p a b < p := Nat.mod_lt _ hp
theorem fsub_lt {p : Nat} (hp : 0 < p) (a b : Nat) : fsub p a b < p := Nat.mod_lt _ hp
def below (p : Nat) (l : List Nat) : Bool := l.all fun a => decide (a < p)
def codeB (b : Bool) : Int := if b then 0 else 2
end Go.Proofs.Ytlhcaangdenoaaa.Sp
namespace Go.Proofs.Ytlhcaangdenoaaa.Back
open Go Go.Proofs Go.RowKit Go.Shelf
attribute [local go_sem] Oper.semAt_some
set_option linter.unusedVariables false
def down (zs : List Int) (k : Nat) : List (Int × Int) := (List.range k).map fun j => (((zs.length - 1 - j : Nat) : Int), zs[zs.length - 1 - j]?.getD 0)
theorem down_succ (zs : List Int) (k : Nat) : down zs (k + 1) = down zs k ++ [(((zs.length - 1 - k : Nat) : Int), zs[zs.length - 1 - k]?.getD 0)] := by simp [down, List.range_succ]
theorem down_length (zs : List Int) (k : Nat) : (down zs k).length = k := by simp [down]
def KB (n₀ Bs : Nat) (A B : World) : Prop := Below n₀ A B ∧ ∀ o : Obj, A.heap[Bs]? = some o → o.isCells = true → B.heap[Bs]? = some o
theorem KB.refl (n₀ Bs : Nat) (A : World) : KB n₀ Bs A A := ⟨Below.refl _ _, fun _ h _ => h⟩
theorem KB.trans {n₀ Bs : Nat} {A B C : World} (h : KB n₀ Bs A B) (k : KB n₀ Bs B C) : KB n₀ Bs A C := ⟨h.1.trans k.1, fun o ho hc => k.2 o (h.2 o ho hc) hc⟩
theorem KB.boxed {n₀ Bs t : Nat} {v : Value} {A B : World} (h : KB n₀ Bs A B) (b : Boxed A Bs t v) : Boxed B Bs t v := h.2 _ b rfl
theorem KB.put {n₀ Bs : Nat} {w : World} (hn : n₀ ≤ w.heap.size) (W : World) (l : Nat) (o o' : Obj) (hl : w.heap.size ≤ l) (h : W.heap[l]? = some o) (hc : o.isCells = false) (hw : o.isWalk = false) : KB n₀ Bs W (W.putObj l o') :=
  ⟨belowK_b hn W l o o' hl h hc hw, fun q hq hqc => by
    have hne : Bs ≠ l := fun e => by subst e; rw [h] at hq; cases hq; rw [hc] at hqc; cases hqc
    have hlt := (Array.getElem?_eq_some_iff.1 hq).1
    exact ((grownBy_putObj' W l o').block Bs hlt (fun e => hne (by cases e; rfl))).trans hq⟩
set_option maxRecDepth 100000 in
set_option maxHeartbeats 2000000 in
theorem back1_in (F : Fence) (n : Nat) (h8 : F.fn 133) (hro : F.round = none) (hn : 1 ≤ n) (l Bs n₀ b off cap : Nat) (zs : List Int) (hreach : zs.length ≤ 17592186044416) (hb : b < n₀) (J Jx : List (Int × Int) → World → Prop)
    (hY : ∀ pre x W, J pre W → pre.length < zs.length → YieldAt F (n - 1) Try.prog l #[.int .i64 x.1, .int .u64 x.2] W fun e W' =>
      (e = .returned (.bool true) ∧ J (pre ++ [x]) W' ∧ KB n₀ Bs W W') ∨ (e = .returned (.bool false) ∧ Jx (pre ++ [x]) W'))
    (W : World) (hBs : Boxed W Bs 30 (.slice (some ⟨b, off, none⟩) zs.length cap)) (hc : ∀ j, j < zs.length → W.cell? ⟨b, off + j, none⟩ = some (.int .u64 (zs[j]?.getD 0))) (h0 : J [] W) :
    CallsIn F n Try.prog 133 #[.func (.yield l) #[] #[], .pointer (some ⟨Bs, 0, none⟩)] W fun e W' => (∃ v, e = .returned v) ∧
      ((∃ ys, ys = down zs zs.length ∧ J ys W') ∨ (∃ pre, (∃ k, k ≤ zs.length ∧ pre = down zs k) ∧ Jx pre W')) := by
  have hBc := hBs.cell
  refine callsIn_of_wp Try.func133 rfl h8 ?_ hro
  simp only [Try.ntmps133, List.size_toArray, List.length_cons, List.length_nil, Nat.reduceAdd, Nat.reduceSub, Array.replicate_succ, Array.replicate_zero, List.push_toArray, List.append_toArray, List.nil_append, List.cons_append]
  gi_wp2
  gi_loopw [3] (fun i wr => ∃ k : Nat, k ≤ zs.length ∧ i = .int .i64 ((zs.length : Int) - 1 - k) ∧ J (down zs k) wr ∧ KB n₀ Bs W wr)
    (fun i _ => (intOf i + 1).toNat)
  case atStart => exact ⟨0, Nat.zero_le _, by simp, h0, KB.refl _ _ _⟩
  case round =>
    obtain ⟨k, hk, rfl, hJs, hnx⟩ := hrel
    by_cases hlt : k < zs.length
    · obtain ⟨m, x, hm, hml, hx, hds⟩ : ∃ (m : Nat) (x : Int), (zs.length : Int) - 1 - k = (m : Int) ∧ m < zs.length ∧ zs[m]?.getD 0 = x ∧ down zs (k + 1) = down zs k ++ [((m : Int), x)] :=
        ⟨zs.length - 1 - k, _, by omega, by omega, rfl, down_succ zs k⟩
      have hcx : wr.cell? ⟨b, off + m, none⟩ = some (.int .u64 x) := hx ▸ (hnx.1.cell (p := ⟨b, off + m, none⟩) hb).trans (hc m hml)
      have hBx : wr.cell? ⟨Bs, 0, none⟩ = some (.slice (some ⟨b, off, none⟩) zs.length cap) := (hnx.boxed hBs).cell
      obtain ⟨fn, tmps, assign, body, hy, hR⟩ := hY _ ((m : Int), x) wr hJs (by rw [down_length]; exact hlt)
      dsimp only at hy
      rw [hm]
      clear hx
      have hm1 : (m : Int) - 1 = (zs.length : Int) - 1 - ((k + 1 : Nat) : Int) := by omega
      gi_wp2
      refine hR.mono ?_
      rintro e W3 (⟨rfl, hJ3, hk3⟩ | ⟨rfl, hJx3⟩)
      · gi_wp2
        go_roundw
        case rel => exact ⟨k + 1, by omega, by congr 1, by rw [hds]; exact hJ3, hnx.trans hk3⟩
        case measure => simp [intOf] <;> omega
      · gi_wp2
        refine bodyPost_ret (results_none rfl _ _ _) rfl ?_
        exact ⟨⟨_, rfl⟩, .inr ⟨_, ⟨k + 1, by omega, hds.symm⟩, hJx3⟩⟩
    · obtain rfl : k = zs.length := by omega
      gi_wp2
      go_end0
      exact ⟨⟨_, rfl⟩, .inl ⟨_, rfl, hJs⟩⟩
set_option maxRecDepth 100000 in
set_option maxHeartbeats 1000000 in
theorem back1_nil_in (F : Fence) (n : Nat) (h8 : F.fn 133) (hro : F.round = none) (l Bs : Nat) (A : Option Addr) (c : Nat) (J : List (Int × Int) → World → Prop) (W : World) (hBs : W.cell? ⟨Bs, 0, none⟩ = some (.slice A 0 c)) (h0 : J [] W) :
    CallsIn F n Try.prog 133 #[.func (.yield l) #[] #[], .pointer (some ⟨Bs, 0, none⟩)] W fun e W' => (∃ v, e = .returned v) ∧ J [] W' := by
  refine callsIn_of_wp Try.func133 rfl h8 ?_ hro
  simp only [Try.ntmps133, List.size_toArray, List.length_cons, List.length_nil, Nat.reduceAdd, Nat.reduceSub, Array.replicate_succ, Array.replicate_zero, List.push_toArray, List.append_toArray, List.nil_append, List.cons_append]
  gi_wp2
  gi_loopw [3] (fun i wr => i = .int .i64 (-1) ∧ J [] wr) (fun _ _ => 0)
  case atStart => exact ⟨rfl, h0⟩
  case round =>
    obtain ⟨rfl, hJs⟩ := hrel
    gi_wp2
    go_end0
    exact ⟨⟨_, rfl⟩, hJs⟩
set_option maxHeartbeats 1000000 in
theorem back_in (F : Fence) (n : Nat) (h5 : F.fn 110) (hro : F.round = none) (a : Option Addr) (len cap : Nat) (w : World) :
    CallsIn F n Try.prog 110 #[.slice a len cap] w fun e w' => e = .returned (.func (.func 133) #[] #[.pointer (some ⟨w.heap.size, 0, none⟩)]) ∧ w' = w.alloc (.cells #[.slice a len cap] 30) := by
  refine callsIn_of_wp Try.func110 rfl h5 ?_ hro
  simp only [Try.ntmps110, List.size_toArray, List.length_cons, List.length_nil, Nat.reduceAdd, Nat.reduceSub, Array.replicate_succ, Array.replicate_zero, List.push_toArray, List.append_toArray, List.nil_append, List.cons_append]
  gi_wp2
  go_ret
  exact ⟨rfl, rfl⟩
def Words (n₀ : Nat) (W : World) (sv : Value) (zs : List Int) : Prop :=
  (∃ A c, sv = .slice A 0 c ∧ zs = []) ∨ ∃ b off cap, sv = .slice (some ⟨b, off, none⟩) zs.length cap ∧ b < n₀ ∧ ∀ j, j < zs.length → W.cell? ⟨b, off + j, none⟩ = some (.int .u64 (zs[j]?.getD 0))
theorem Words.below {n₀ : Nat} {A B : World} (h : Below n₀ A B) {sv : Value} {zs : List Int} : Words n₀ A sv zs → Words n₀ B sv zs
  | .inl e => .inl e
  | .inr ⟨b, off, cap, e, hb, hc⟩ => .inr ⟨b, off, cap, e, hb, fun j hj => (h.cell (p := ⟨b, off + j, none⟩) hb).trans (hc j hj)⟩
theorem back_stops (F : Fence) (n : Nat) (h7 : F.fn 133) (hro : F.round = none) (hn : 1 ≤ n) (Bs n₀ : Nat) (sv : Value) (zs : List Int) (hreach : zs.length ≤ 17592186044416) (w : World) (hn₀ : n₀ ≤ w.heap.size)
    (hc : Boxed w Bs 30 sv) (hI : Words n₀ w sv zs) :
    SeqStopsK F n Try.prog 133 #[.pointer (some ⟨Bs, 0, none⟩)] (fun x : Int × Int => #[Value.int .i64 x.1, .int .u64 x.2]) (KB n₀ Bs) (fun ys => ys = down zs zs.length) (fun pre => ∃ k, k ≤ zs.length ∧ pre = down zs k) zs.length w := fun l J Jx W hW _ _ hY h0 => by
  have hc' : Boxed W Bs 30 sv := (hW.block Bs hc.lt).trans hc
  rcases hI.below (hW.mono hn₀) with ⟨A, c, rfl, rfl⟩ | ⟨b, off, cap, rfl, hb, hcs⟩
  · exact (back1_nil_in F n h7 hro l Bs A c J W hc'.cell h0).mono fun e W' ⟨he, hj⟩ => ⟨he, .inl ⟨_, rfl, hj⟩⟩
  · exact back1_in F n h7 hro hn l Bs n₀ b off cap zs hreach hb J Jx hY W hc' hcs h0
def timesI (p v x : Int) : Int := Int.tmod (IntKind.u64.wrap (v * x)) p
def plusI (p t c : Int) : Int := if IntKind.u64.wrap (t + c) ≥ p then IntKind.u64.wrap (IntKind.u64.wrap (t + c) - p) else IntKind.u64.wrap (t + c)
def stepI (p x v c : Int) : Int := plusI p (timesI p v x) c
def hornI (p x : Int) (pre : List (Int × Int)) : Int := pre.foldl (fun v c => stepI p x v c.2) 0
theorem hornI_snoc (p x : Int) (pre : List (Int × Int)) (c : Int × Int) : hornI p x (pre ++ [c]) = stepI p x (hornI p x pre) c.2 := by simp [hornI]
theorem times_in {p v x : Int} (hp : p ≠ 0) (F : Fence) (n : Nat) (hF : F = Fence.wide) (W : World) :
    CallsIn F n Try.prog 112 #[.int .u64 p, .int .u64 v, .int .u64 x] W fun e W' => e = .returned (.int .u64 (timesI p v x)) ∧ Go.Sx.Same W W' ∧ W'.heap = W.heap := by
  subst hF
  refine callsIn_wide.2 ?_
  have h : Go.Sx.CallH Try.prog 112 [.int .u64 p, .int .u64 v, .int .u64 x] W.heap fun r H' => r = .int .u64 (timesI p v x) ∧ H' = W.heap :=
    Sh.field_Times.ok _ _ _ _ _ (Sh.field_mul.ok _ _ _ _ _ ⟨hp, ⟨_, rfl, rfl, rfl⟩⟩)
  exact (h W rfl).mono fun e W' ⟨v, he, hs, hv, hh⟩ => ⟨by rw [he, hv], hs, hh⟩
theorem plus_in {p t c : Int} (F : Fence) (n : Nat) (hF : F = Fence.wide) (W : World) :
    CallsIn F n Try.prog 111 #[.int .u64 p, .int .u64 t, .int .u64 c] W fun e W' =>
      e = .returned (.int .u64 (plusI p t c)) ∧ Go.Sx.Same W W' ∧ W'.heap = W.heap := by
  subst hF
  refine callsIn_wide.2 ?_
  have h : Go.Sx.CallH Try.prog 111 [.int .u64 p, .int .u64 t, .int .u64 c] W.heap fun r H' => r = .int .u64 (plusI p t c) ∧ H' = W.heap := by
    refine Sh.field_Plus.ok _ _ _ _ _ ?_
    unfold Sh.field_Plus.W
    by_cases hc : IntKind.u64.wrap (t + c) ≥ p
    · exact Go.Sx.ctd hc ⟨by rw [plusI, if_pos hc], rfl⟩
    · exact Go.Sx.cfd hc ⟨by rw [plusI, if_neg hc], rfl⟩
  exact (h W rfl).mono fun e W' ⟨v, he, hs, hv, hh⟩ => ⟨by rw [he, hv], hs, hh⟩
theorem fin_round {w W w1 w2 : World} {B : Nat} {p x v v' v2 : Int} (hh : w1.heap = W.drew.heap) (hs : Go.Sx.Same W.drew w1) (hh2 : w2.heap = w1.heap) (hs2 : Go.Sx.Same w1 w2)
    (h1 : Boxed W w.heap.size 22 (.int .u64 p)) (h2 : Boxed W (w.heap.size + 1) 22 (.int .u64 x)) (h3 : Boxed W (w.heap.size + 1 + 1) 22 (.int .u64 v)) (hB : Below w.heap.size w W) (he : v' = v2) :
    KeepsFrom B W (w2.setCell ⟨w.heap.size + 1 + 1, 0, none⟩ (.int .u64 v2)) ∧ KB w.heap.size (w.heap.size + 1 + 1 + 1) W (w2.setCell ⟨w.heap.size + 1 + 1, 0, none⟩ (.int .u64 v2)) ∧
      (Boxed (w2.setCell ⟨w.heap.size + 1 + 1, 0, none⟩ (.int .u64 v2)) w.heap.size 22 (.int .u64 p) ∧ Boxed (w2.setCell ⟨w.heap.size + 1 + 1, 0, none⟩ (.int .u64 v2)) (w.heap.size + 1) 22 (.int .u64 x) ∧
        Boxed (w2.setCell ⟨w.heap.size + 1 + 1, 0, none⟩ (.int .u64 v2)) (w.heap.size + 1 + 1) 22 (.int .u64 v')) ∧ Below w.heap.size w (w2.setCell ⟨w.heap.size + 1 + 1, 0, none⟩ (.int .u64 v2)) := by
  subst he
  have e : w2.heap = W.heap := hh2.trans hh
  have b0 : Below w.heap.size W w2 := ⟨(hs2.os.trans hs.os), (hs2.tape.trans hs.tape), (hs2.output.trans hs.output), by rw [e]; exact Nat.le_refl _, fun k _ => by rw [e]⟩
  have b1 : Below w.heap.size w2 (w2.setCell ⟨w.heap.size + 1 + 1, 0, none⟩ (.int .u64 v')) := (Below.refl w.heap.size w2).setCell (p := ⟨w.heap.size + 1 + 1, 0, none⟩) (by show w.heap.size ≤ w.heap.size + 1 + 1; omega) _
  have k1 : Boxed w2 w.heap.size 22 (.int .u64 p) := by unfold Boxed; rw [e]; exact h1
  have k2 : Boxed w2 (w.heap.size + 1) 22 (.int .u64 x) := by unfold Boxed; rw [e]; exact h2
  have k3 : Boxed w2 (w.heap.size + 1 + 1) 22 (.int .u64 v) := by unfold Boxed; rw [e]; exact h3
  refine ⟨?_, ⟨b0.trans b1, fun o ho hc => ?_⟩, ⟨k1.other (by omega) _, k2.other (by omega) _, k3.set _⟩, hB.trans (b0.trans b1)⟩
  · refine (KeepsFrom.trans (Y := w2) ⟨by rw [e]; exact Nat.le_refl _, fun k o _ ho _ => by rw [e]; exact ho⟩ ((KeepsOthers.setCell _ _ _).from _))
  · have hlt := (Array.getElem?_eq_some_iff.1 ho).1
    exact ((grownBy_setCell' w2 (w.heap.size + 1 + 1) _).block _ (by rw [e]; exact hlt) (fun q => by have := Option.some.inj q; omega)).trans (by rw [e]; exact ho)
set_option maxRecDepth 100000 in
set_option maxHeartbeats 4000000 in
theorem At_in (F : Fence) (n : Nat) (hF : F = Fence.wide) (hn : 3 ≤ n) (p x : Int) (hp : p ≠ 0) (a : Option Addr) (len cap : Nat) (zs : List Int) (hreach : zs.length ≤ 17592186044416) (w : World) (hI : Words w.heap.size w (.slice a len cap) zs) :
    CallsIn F n Try.prog 84 #[.int .u64 p, .slice a len cap, .int .u64 x] w fun e W' => e = .returned (.int .u64 (hornI p x (down zs zs.length))) ∧ Below w.heap.size w W' := by
  have h1 : 1 ≤ n := by omega
  have hro : F.round = none := by rw [hF]; rfl
  have hfn : ∀ f, F.fn f := fun f => by rw [hF]; trivial
  have hx5 := hfn 110
  have hT : ∀ (m : Nat) (v : Int) W, CallsIn F m Try.prog 112 #[.int .u64 p, .int .u64 v, .int .u64 x] W fun e W' => e = .returned (.int .u64 (timesI p v x)) ∧ Go.Sx.Same W W' ∧ W'.heap = W.heap := fun m v W => times_in hp F m hF W
  have hP : ∀ (m : Nat) (t c : Int) W, CallsIn F m Try.prog 111 #[.int .u64 p, .int .u64 t, .int .u64 c] W fun e W' =>
      e = .returned (.int .u64 (plusI p t c)) ∧ Go.Sx.Same W W' ∧ W'.heap = W.heap := fun m t c W => plus_in F m hF W
  clear hF
  refine callsIn_of_wp_marks Try.func84 rfl (hfn 84) ?_ hro
  simp only [Try.ntmps84, List.size_toArray, List.length_cons, List.length_nil, Nat.reduceAdd, Nat.reduceSub, Array.replicate_succ, Array.replicate_zero, List.push_toArray, List.append_toArray, List.nil_append, List.cons_append]
  gi_wp2_with (gi_at_call 110; refine (back_in F (n - 1) hx5 hro _ _ _ _).mono ?_; rintro e w' ⟨rfl, rfl⟩)
  have bP := Boxed.new w 22 (.int .u64 p)
  have bX := Boxed.new (w.alloc (.cells #[.int .u64 p] 22)) 22 (.int .u64 x)
  have bV := Boxed.new ((w.alloc (.cells #[.int .u64 p] 22)).alloc (.cells #[.int .u64 x] 22)) 22 (.int .u64 0)
  have bN := Boxed.new (((w.alloc (.cells #[.int .u64 p] 22)).alloc (.cells #[.int .u64 x] 22)).alloc (.cells #[.int .u64 0] 22)) 30 (.slice a len cap)
  simp only [World.size_alloc] at bX bV bN
  have hB0 : Below w.heap.size w ((((w.alloc (.cells #[.int .u64 p] 22)).alloc (.cells #[.int .u64 x] 22)).alloc (.cells #[.int .u64 0] 22)).alloc (.cells #[.slice a len cap] 30)) :=
    ((((Below.refl _ w).alloc (Nat.le_refl _) _).alloc (by simp) _).alloc (by simp; omega) _).alloc (by simp; omega) _
  generalize hw4 : ((((w.alloc (.cells #[.int .u64 p] 22)).alloc (.cells #[.int .u64 x] 22)).alloc (.cells #[.int .u64 0] 22)).alloc (.cells #[.slice a len cap] 30)) = w4 at *
  have hz4 : w.heap.size + 4 ≤ w4.heap.size := by rw [← hw4]; simp
  have bP4 : Boxed w4 w.heap.size 22 (.int .u64 p) := by rw [← hw4]; exact ((bP.alloc _).alloc _).alloc _
  have bX4 : Boxed w4 (w.heap.size + 1) 22 (.int .u64 x) := by rw [← hw4]; exact (bX.alloc _).alloc _
  have bV4 : Boxed w4 (w.heap.size + 1 + 1) 22 (.int .u64 0) := by rw [← hw4]; exact bV.alloc _
  clear bP bX bV
  refine wpIn_rangeFunc_ownG hro h1 (gf := 133) (lb := #[.pointer (some ⟨w.heap.size + 1 + 1 + 1, 0, none⟩)]) rfl (hfn 133) (enters_of Try.func133 (by kernel_rfl) rfl)
    (back_stops F (n - 1) (hfn 133) hro (by omega) (w.heap.size + 1 + 1 + 1) w.heap.size _ zs hreach _ (by omega) bN (hI.below hB0)) (fun h k => h.trans k) (KB.put (by omega)) (Below.refl _ _) (fun _ => rfl)
    (fun pre W => (Boxed W w.heap.size 22 (.int .u64 p) ∧ Boxed W (w.heap.size + 1) 22 (.int .u64 x) ∧ Boxed W (w.heap.size + 1 + 1) 22 (.int .u64 (hornI p x pre))) ∧ Below w.heap.size w W)
    (fun _ _ _ => False)
    ?own
    (fun _ _ _ _ _ hs _ _ => hs)
    ⟨⟨bP4, bX4, bV4⟩, hB0⟩
    (fun y => { tmps := #[.int .u64 p, .slice a len cap, .int .u64 x, .pointer (some ⟨w.heap.size, 0, none⟩), undef, .pointer (some ⟨w.heap.size + 1, 0, none⟩), .int .u64 0, .pointer (some ⟨w.heap.size + 1 + 1, 0, none⟩), undef, .int .u64 y.2,
      .slice a len cap, .func (.func 133) #[] #[.pointer (some ⟨w.heap.size + 1 + 1 + 1, 0, none⟩)], .int .i64 y.1, .int .u64 y.2, undef, undef, undef, undef, undef, undef, undef, undef], defers := [] }) ?assign ?body ?done ?stop
  case own => exact OwnFrom.and (fun s A B row hs hg hr => ⟨hs.1.kept hg (fun e => by obtain ⟨hle, _⟩ := hr _ e.symm; omega), hs.2.1.kept hg (fun e => by obtain ⟨hle, _⟩ := hr _ e.symm; omega), hs.2.2.kept hg (fun e => by obtain ⟨hle, _⟩ := hr _ e.symm; omega)⟩) (ownFrom_below (Nat.le_refl _) (by omega))
  case assign =>
    intro l y W K hK
    gi_wp2
    exact hK
  case body =>
    rintro l pre y W ⟨⟨h1, h2, h3⟩, hB⟩ _
    have c1 := h1.cell
    have c2 := h2.cell
    have c3 := h3.cell
    have hd : 1 ≤ n - 1 - 1 := by omega
    have hmx : Try.prog.follows .mixedOrders = true := by kernel_rfl
    have hcong : ∀ {A B : World} (q : Addr), B.heap = A.heap → B.cell? q = A.cell? q := fun q h => by unfold World.cell?; rw [h]
    have hfong : ∀ {A B : World} (q : Addr), B.heap = A.heap → B.frozen? q = A.frozen? q := fun q h => by unfold World.frozen?; rw [h]
    have f3 := h3.frozen
    gi_wp2
    gi_region_with_o (first
      | (gi_at_call 112; refine ((hT _ _ _).inRound l).mono ?_; rintro e w' ⟨rfl, hs, hh⟩; have d1 := (hcong ⟨w.heap.size, 0, none⟩ hh).trans c1; have d3 := (hcong ⟨w.heap.size + 1 + 1, 0, none⟩ hh).trans c3; have k3 := (hfong ⟨w.heap.size + 1 + 1, 0, none⟩ hh).trans f3)
      | (gi_at_call 111; refine ((hP _ _ _ _).inRound l).mono ?_; rintro e w'' ⟨rfl, hs2, hh2⟩; have e3 := (hcong ⟨w.heap.size + 1 + 1, 0, none⟩ hh2).trans d3; have l3 := (hfong ⟨w.heap.size + 1 + 1, 0, none⟩ hh2).trans k3))
    all_goals exact fin_round hh hs hh2 hs2 h1 h2 h3 hB (by rw [hornI_snoc]; rfl)
  case done =>
    rintro D ys W hD rfl ⟨⟨h1, h2, h3⟩, hB⟩ hK
    have c3 := h3.cell
    gi_wp2
    refine ⟨by simp, .inl ⟨_, _, rfl, run_takeDeferred hK, ?_⟩⟩
    exact ⟨_, results_tmp rfl _ _ _, rfl, hB.trans (belowK_b (w := w) (Nat.le_refl _) W D _ _ (by omega) hK rfl rfl)⟩
  case stop =>
    rintro D c pre W _ _ h _
    exact h.elim
end Go.Proofs.Ytlhcaangdenoaaa.Back
set_option linter.unusedVariables false
