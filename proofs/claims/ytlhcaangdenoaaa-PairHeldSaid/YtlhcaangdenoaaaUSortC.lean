import Derived.Test.YtlhcaangdenoaaaULays
import Derived.WalkKit
import Derived.OwnWalkIn
import Derived.TacticsInMore
import Derived.LoopNIn
import Derived.LoopIn
import Derived.Shelf.RegionOpen
namespace Go.Lib
end Go.Lib
namespace Go.Proofs
end Go.Proofs
namespace Go.RowKit
end Go.RowKit
namespace Go.Shelf
end Go.Shelf
namespace Go.Sort
end Go.Sort
set_option linter.unusedVariables false
namespace Go.Proofs.Ytlhcaangdenoaaa.Srt
open Go Go.Proofs Go.Shelf Go.RowKit Go.Lib Go.Sort
attribute [local go_sem] Oper.semAt_some
def lex2 (x y : Int × Int) : Int := if Lib.compareInt x.1 y.1 ≠ 0 then Lib.compareInt x.1 y.1 else Lib.compareInt x.2 y.2
theorem cmp_at (x y : Int) (w : World) : Calls Try.prog 132 #[.int .i64 x, .int .i64 y] w fun e w' => e = .returned (.int .i64 (Lib.compareInt x y)) ∧ w' = w :=
  AnyG.cmp_Compare_int Lay.cmpQ x y w
set_option maxRecDepth 100000 in
set_option maxHeartbeats 2000000 in
theorem comp2 (A B : Nat) (x y : Int × Int) (W : World) (hA0 : W.cell? ⟨A, 0, none⟩ = some (.int .i64 x.1)) (hA1 : W.cell? ⟨A, 1, none⟩ = some (.int .i64 x.2))
    (hB0 : W.cell? ⟨B, 0, none⟩ = some (.int .i64 y.1)) (hB1 : W.cell? ⟨B, 1, none⟩ = some (.int .i64 y.2)) :
    Calls Try.prog 108 #[.slice (some ⟨A, 0, none⟩) 2 2, .slice (some ⟨B, 0, none⟩) 2 2] W fun e w' => e = .returned (.int .i64 (lex2 x y)) ∧ ∃ q, w' = W.drewN q := by
  have hcon := cmp_at
  generalize hr : lex2 x y = r
  unfold lex2 at hr
  generalize Lib.compareInt = cI at hcon hr
  go_enter Try.func108, Try.ntmps108
  go_wp2
  refine wp_loop_rounds 3 ?_
  rw [rounds_succ]
  go_wp2_with (go_at_call 132; refine (hcon _ _ _).mono ?_; rintro e w' ⟨rfl, rfl⟩)
  · go_ret
    refine ⟨?_, 0, rfl⟩
    simp_all
  · rw [rounds_succ]
    go_wp2_with (go_at_call 132; refine (hcon _ _ _).mono ?_; rintro e w' ⟨rfl, rfl⟩)
    · go_ret
      refine ⟨?_, 0, rfl⟩
      simp_all
    · rw [rounds_succ]
      go_wp2
      go_ret
      refine ⟨?_, 0, rfl⟩
      simp_all
def enc2 (x : Int × Int) : List Value := [.int .i64 x.1, .int .i64 x.2]
theorem four {W X : World} {a b c d : Value} {t : TypeId} (h : X.heap = ((W.alloc (.cells #[a, b] t)).alloc (.cells #[c, d] t)).heap) :
    X.cell? ⟨W.heap.size, 0, none⟩ = some a ∧ X.cell? ⟨W.heap.size, 1, none⟩ = some b ∧ X.cell? ⟨W.heap.size + 1, 0, none⟩ = some c ∧ X.cell? ⟨W.heap.size + 1, 1, none⟩ = some d := by
  have h1 : X.heap[W.heap.size + 1]? = some (.cells #[c, d] t) := by
    rw [h]; unfold World.alloc
    show ((W.heap.push _).push _)[W.heap.size + 1]? = _
    rw [show W.heap.size + 1 = (W.heap.push (.cells #[a, b] t)).size by simp]
    exact Array.getElem?_push_size
  have h0 : X.heap[W.heap.size]? = some (.cells #[a, b] t) := by
    rw [h]; unfold World.alloc
    show ((W.heap.push _).push _)[W.heap.size]? = _
    rw [Array.getElem?_push_lt (by simp)]
    simp
  unfold World.cell?
  simp only [h1, h0]
  exact ⟨rfl, rfl, rfl, rfl⟩
set_option maxHeartbeats 2000000 in
theorem clo107 (x y : Int × Int) (W : World) : Calls Try.prog 107 #[.agg #[.int .i64 x.1, .int .i64 x.2], .agg #[.int .i64 y.1, .int .i64 y.2]] W fun e w' => e = .returned (.int .i64 (lex2 x y)) ∧ ∃ q os', w' = grow (W.drewN q) os' := by
  have hcon := comp2
  generalize lex2 = lx at hcon ⊢
  go_enter Try.func107, Try.ntmps107
  go_wp2
  have hmx : Try.prog.follows .mixedOrders = true := by kernel_rfl
  go_region_with_o (go_at_call 108; refine (hcon W.heap.size (W.heap.size + 1) x y _ (by exact (four rfl).1) (by exact (four rfl).2.1) (by exact (four rfl).2.2.1) (by exact (four rfl).2.2.2)).mono ?_; rintro e w' ⟨rfl, q, rfl⟩)
  all_goals go_wp2
  all_goals go_ret
  exact ⟨rfl, 1 + q, _, by rw [alloc_eq_grow, alloc_eq_grow, grow_grow]; rfl⟩
theorem cmpLays (blk off size : Nat) (w : World) : CmpLays Try.prog 107 #[] enc2 2 lex2 blk off size w := fun _ _ _ _ x y => clo107 x y _
theorem cI_lt (a b : Int) : (Lib.compareInt a b < 0) ↔ a < b := by
  unfold Lib.compareInt
  by_cases h1 : a < b
  · simp [h1]
  · by_cases h2 : b < a <;> simp [h1, h2]
theorem cI_ne (a b : Int) : (Lib.compareInt a b ≠ 0) ↔ a ≠ b := by
  unfold Lib.compareInt
  by_cases h1 : a < b
  · simp [h1]; omega
  · by_cases h2 : b < a
    · simp [h1, h2]; omega
    · simp [h1, h2]; omega
theorem lt2 (x y : Int × Int) : ltOf lex2 x y = decide (x.1 < y.1 ∨ (x.1 = y.1 ∧ x.2 < y.2)) := by
  unfold ltOf lex2
  congr 1
  by_cases h : x.1 = y.1
  · rw [if_neg (fun h' => ((cI_ne _ _).1 h') h), cI_lt]; simp [h]
  · rw [if_pos ((cI_ne _ _).2 h), cI_lt]; simp [h]
theorem swo2 : SWO (ltOf lex2) where
  irrefl x := by rw [lt2]; simp
  trans x y z h1 h2 := by rw [lt2] at *; simp only [decide_eq_true_eq] at *; omega
  ntrans x y z h1 h2 := by rw [lt2] at *; simp only [decide_eq_false_iff_not] at *; omega
theorem tot2 (x y : Int × Int) (h1 : ltOf lex2 x y = false) (h2 : ltOf lex2 y x = false) : x = y := by
  rw [lt2] at *
  simp only [decide_eq_false_iff_not] at *
  obtain ⟨a, b⟩ := x; obtain ⟨c, d⟩ := y
  simp only [Prod.mk.injEq]
  simp only at h1 h2
  omega
def sort2 (l : List (Int × Int)) : List (Int × Int) := l.mergeSort fun x y => !(ltOf lex2) y x
theorem sort_calls (b off cap : Nat) (d : Array (Int × Int)) (w : World) (hH : HoldsK enc2 2 w b off d) (hb : b < w.heap.size) (hsz : d.size < 4611686018427387904) :
    Calls Try.prog 106 #[.slice (some ⟨b, off, none⟩) d.size cap, .func (.func 107) #[] #[]] w fun e w' =>
      e = .returned (.tuple #[]) ∧ ∃ n os, w' = sortWorldK enc2 2 w b off n (sort2 d.toList).toArray os :=
  AnyQ.slices_SortFunc_total Lay.sortQ 2 Try.isAgg81 Try.sizeOf81 enc2 (fun _ => rfl) (fun x v hv => by simp [enc2] at hv; rcases hv with rfl | rfl <;> rfl) lex2 swo2 107 #[] b off cap d w (enters_of Try.func107 (by kernel_rfl) rfl)
    (cmpLays b off d.size w) hH hb hsz tot2
theorem sort_none (p : Option Addr) (cap : Nat) (w : World) : Calls Try.prog 106 #[.slice p 0 cap, .func (.func 107) #[] #[]] w fun e w' => e = .returned (.tuple #[]) ∧ w' = w :=
  AnyF.slices_SortFunc_none Lay.sortQ p cap _ w
end Go.Proofs.Ytlhcaangdenoaaa.Srt
