import Derived.Test.YtlhcaangdenoaaaUTypes
namespace Go.Lf
end Go.Lf
namespace Go.Sx
end Go.Sx
set_option linter.unusedVariables false
set_option maxRecDepth 100000
namespace Go.Proofs.Ytlhcaangdenoaaa.Sh
open Go.Sx Go.Lf
theorem rep_of {α : Type} {E : Rl α} {Z : Nat → Prop} {H : Heap} {y : α} {cs cs' : List Value} (h : E.rep Z H y cs) (e : cs = cs') : E.rep Z H y cs' := e ▸ h
theorem TSecret.opens : OpensL P 32 TSecret.L := by
  intro I enc w held fuel cs x h hw
  obtain ⟨hlen, hf⟩ := open_struct Try.underlying32 h hw
  replace hlen := hlen.trans (show P.cellsOf 32 = 3 by kernel_rfl)
  obtain ⟨v0, cs0, rfl, hl0⟩ := list_s hlen
  obtain ⟨v1, cs1, rfl, hl1⟩ := list_s hl0
  obtain ⟨v2, cs2, rfl, hl2⟩ := list_s hl1
  obtain rfl := list_0 hl2
  obtain ⟨y0, g0⟩ := hf 0 _ rfl (k := 1) (o := 0) (opens_u64 Try.underlying22) (by kernel_rfl) rfl
  replace g0 := rep_of g0 (show _ = [v0] from rfl)
  cases g0
  obtain ⟨y1, g1⟩ := hf 1 _ rfl (k := 1) (o := 1) (opens_i64 Try.underlying3) (by kernel_rfl) rfl
  replace g1 := rep_of g1 (show _ = [v1] from rfl)
  cases g1
  obtain ⟨y2, g2⟩ := hf 2 _ rfl (k := 1) (o := 2) (opens_slice Try.underlying30 (by kernel_rfl) (of_decide_eq_true (by kernel_rfl)) (opens_u64 Try.underlying22)) (by kernel_rfl) rfl
  replace g2 := rep_of g2 (show _ = [v2] from rfl)
  obtain ⟨A2_0, c2_0, e2, f2_0⟩ := g2
  cases e2
  exact ⟨(⟨y0, y1, y2⟩ : TSecret), ⟨A2_0, c2_0, rfl, f2_0⟩⟩
theorem TShape.opens : OpensL P 42 TShape.L := by
  intro I enc w held fuel cs x h hw
  obtain ⟨hlen, hf⟩ := open_struct Try.underlying42 h hw
  replace hlen := hlen.trans (show P.cellsOf 42 = 2 by kernel_rfl)
  obtain ⟨v0, cs0, rfl, hl0⟩ := list_s hlen
  obtain ⟨v1, cs1, rfl, hl1⟩ := list_s hl0
  obtain rfl := list_0 hl1
  obtain ⟨y0, g0⟩ := hf 0 _ rfl (k := 1) (o := 0) (opens_i64 Try.underlying3) (by kernel_rfl) rfl
  replace g0 := rep_of g0 (show _ = [v0] from rfl)
  cases g0
  obtain ⟨y1, g1⟩ := hf 1 _ rfl (k := 1) (o := 1) (opens_slice Try.underlying23 (by kernel_rfl) (of_decide_eq_true (by kernel_rfl)) (opens_slice Try.underlying30 (by kernel_rfl) (of_decide_eq_true (by kernel_rfl)) (opens_u64 Try.underlying22))) (by kernel_rfl) rfl
  replace g1 := rep_of g1 (show _ = [v1] from rfl)
  obtain ⟨A1_0, c1_0, e1, f1_0⟩ := g1
  cases e1
  exact ⟨(⟨y0, y1⟩ : TShape), ⟨A1_0, c1_0, rfl, f1_0⟩⟩
theorem Arr2_22.opens : OpensL P 43 Arr2_22.L := by
  intro I enc w held fuel cs x h hw
  obtain ⟨hlen, hf⟩ := open_array Try.underlying43 h hw
  replace hlen := hlen.trans (show P.cellsOf 43 = 2 by kernel_rfl)
  obtain ⟨v0, cs0, rfl, hl0⟩ := list_s hlen
  obtain ⟨v1, cs1, rfl, hl1⟩ := list_s hl0
  obtain rfl := list_0 hl1
  obtain ⟨y0, g0⟩ := hf 0 (k := 1) (by omega) (opens_u64 Try.underlying22) (by kernel_rfl)
  replace g0 := rep_of g0 (show _ = [v0] from rfl)
  cases g0
  obtain ⟨y1, g1⟩ := hf 1 (k := 1) (by omega) (opens_u64 Try.underlying22) (by kernel_rfl)
  replace g1 := rep_of g1 (show _ = [v1] from rfl)
  cases g1
  exact ⟨(y0, y1), rfl⟩
theorem TRows.opens : OpensL P 57 TRows.L := by
  intro I enc w held fuel cs x h hw
  obtain ⟨hlen, hf⟩ := open_struct Try.underlying57 h hw
  replace hlen := hlen.trans (show P.cellsOf 57 = 3 by kernel_rfl)
  obtain ⟨v0, cs0, rfl, hl0⟩ := list_s hlen
  obtain ⟨v1, cs1, rfl, hl1⟩ := list_s hl0
  obtain ⟨v2, cs2, rfl, hl2⟩ := list_s hl1
  obtain rfl := list_0 hl2
  obtain ⟨y0, g0⟩ := hf 0 _ rfl (k := 1) (o := 0) (opens_i64 Try.underlying3) (by kernel_rfl) rfl
  replace g0 := rep_of g0 (show _ = [v0] from rfl)
  cases g0
  obtain ⟨y1, g1⟩ := hf 1 _ rfl (k := 1) (o := 1) (opens_slice Try.underlying30 (by kernel_rfl) (of_decide_eq_true (by kernel_rfl)) (opens_u64 Try.underlying22)) (by kernel_rfl) rfl
  replace g1 := rep_of g1 (show _ = [v1] from rfl)
  obtain ⟨A1_0, c1_0, e1, f1_0⟩ := g1
  cases e1
  obtain ⟨y2, g2⟩ := hf 2 _ rfl (k := 1) (o := 2) (opens_slice Try.underlying23 (by kernel_rfl) (of_decide_eq_true (by kernel_rfl)) (opens_slice Try.underlying30 (by kernel_rfl) (of_decide_eq_true (by kernel_rfl)) (opens_u64 Try.underlying22))) (by kernel_rfl) rfl
  replace g2 := rep_of g2 (show _ = [v2] from rfl)
  obtain ⟨A2_0, c2_0, e2, f2_0⟩ := g2
  cases e2
  exact ⟨(⟨y0, y1, y2⟩ : TRows), ⟨A1_0, c1_0, A2_0, c2_0, rfl, f1_0, f2_0⟩⟩
theorem TLifted.opens : OpensL P 69 TLifted.L := by
  intro I enc w held fuel cs x h hw
  obtain ⟨hlen, hf⟩ := open_struct Try.underlying69 h hw
  replace hlen := hlen.trans (show P.cellsOf 69 = 2 by kernel_rfl)
  obtain ⟨v0, cs0, rfl, hl0⟩ := list_s hlen
  obtain ⟨v1, cs1, rfl, hl1⟩ := list_s hl0
  obtain rfl := list_0 hl1
  obtain ⟨y0, g0⟩ := hf 0 _ rfl (k := 1) (o := 0) (opens_u64 Try.underlying22) (by kernel_rfl) rfl
  replace g0 := rep_of g0 (show _ = [v0] from rfl)
  cases g0
  obtain ⟨y1, g1⟩ := hf 1 _ rfl (k := 1) (o := 1) (opens_slice Try.underlying30 (by kernel_rfl) (of_decide_eq_true (by kernel_rfl)) (opens_u64 Try.underlying22)) (by kernel_rfl) rfl
  replace g1 := rep_of g1 (show _ = [v1] from rfl)
  obtain ⟨A1_0, c1_0, e1, f1_0⟩ := g1
  cases e1
  exact ⟨(⟨y0, y1⟩ : TLifted), ⟨A1_0, c1_0, rfl, f1_0⟩⟩
theorem TPoint.opens : OpensL P 103 TPoint.L := by
  intro I enc w held fuel cs x h hw
  obtain ⟨hlen, hf⟩ := open_struct Try.underlying103 h hw
  replace hlen := hlen.trans (show P.cellsOf 103 = 2 by kernel_rfl)
  obtain ⟨v0, cs0, rfl, hl0⟩ := list_s hlen
  obtain ⟨v1, cs1, rfl, hl1⟩ := list_s hl0
  obtain rfl := list_0 hl1
  obtain ⟨y0, g0⟩ := hf 0 _ rfl (k := 1) (o := 0) (opens_u64 Try.underlying22) (by kernel_rfl) rfl
  replace g0 := rep_of g0 (show _ = [v0] from rfl)
  cases g0
  obtain ⟨y1, g1⟩ := hf 1 _ rfl (k := 1) (o := 1) (opens_u64 Try.underlying22) (by kernel_rfl) rfl
  replace g1 := rep_of g1 (show _ = [v1] from rfl)
  cases g1
  exact ⟨(⟨y0, y1⟩ : TPoint), rfl⟩
theorem Arr2_3.opens : OpensL P 81 Arr2_3.L := by
  intro I enc w held fuel cs x h hw
  obtain ⟨hlen, hf⟩ := open_array Try.underlying81 h hw
  replace hlen := hlen.trans (show P.cellsOf 81 = 2 by kernel_rfl)
  obtain ⟨v0, cs0, rfl, hl0⟩ := list_s hlen
  obtain ⟨v1, cs1, rfl, hl1⟩ := list_s hl0
  obtain rfl := list_0 hl1
  obtain ⟨y0, g0⟩ := hf 0 (k := 1) (by omega) (opens_i64 Try.underlying3) (by kernel_rfl)
  replace g0 := rep_of g0 (show _ = [v0] from rfl)
  cases g0
  obtain ⟨y1, g1⟩ := hf 1 (k := 1) (by omega) (opens_i64 Try.underlying3) (by kernel_rfl)
  replace g1 := rep_of g1 (show _ = [v1] from rfl)
  cases g1
  exact ⟨(y0, y1), rfl⟩
theorem Arr3_3.opens : OpensL P 96 Arr3_3.L := by
  intro I enc w held fuel cs x h hw
  obtain ⟨hlen, hf⟩ := open_array Try.underlying96 h hw
  replace hlen := hlen.trans (show P.cellsOf 96 = 3 by kernel_rfl)
  obtain ⟨v0, cs0, rfl, hl0⟩ := list_s hlen
  obtain ⟨v1, cs1, rfl, hl1⟩ := list_s hl0
  obtain ⟨v2, cs2, rfl, hl2⟩ := list_s hl1
  obtain rfl := list_0 hl2
  obtain ⟨y0, g0⟩ := hf 0 (k := 1) (by omega) (opens_i64 Try.underlying3) (by kernel_rfl)
  replace g0 := rep_of g0 (show _ = [v0] from rfl)
  cases g0
  obtain ⟨y1, g1⟩ := hf 1 (k := 1) (by omega) (opens_i64 Try.underlying3) (by kernel_rfl)
  replace g1 := rep_of g1 (show _ = [v1] from rfl)
  cases g1
  obtain ⟨y2, g2⟩ := hf 2 (k := 1) (by omega) (opens_i64 Try.underlying3) (by kernel_rfl)
  replace g2 := rep_of g2 (show _ = [v2] from rfl)
  cases g2
  exact ⟨(y0, y1, y2), rfl⟩
theorem TSpoilt.opens : OpensL P 99 TSpoilt.L := by
  intro I enc w held fuel cs x h hw
  obtain ⟨hlen, hf⟩ := open_struct Try.underlying99 h hw
  replace hlen := hlen.trans (show P.cellsOf 99 = 4 by kernel_rfl)
  obtain ⟨v0, cs0, rfl, hl0⟩ := list_s hlen
  obtain ⟨v1, cs1, rfl, hl1⟩ := list_s hl0
  obtain ⟨v2, cs2, rfl, hl2⟩ := list_s hl1
  obtain ⟨v3, cs3, rfl, hl3⟩ := list_s hl2
  obtain rfl := list_0 hl3
  obtain ⟨y0, g0⟩ := hf 0 _ rfl (k := 1) (o := 0) (opens_slice Try.underlying30 (by kernel_rfl) (of_decide_eq_true (by kernel_rfl)) (opens_u64 Try.underlying22)) (by kernel_rfl) rfl
  replace g0 := rep_of g0 (show _ = [v0] from rfl)
  obtain ⟨A0_0, c0_0, e0, f0_0⟩ := g0
  cases e0
  obtain ⟨y1, g1⟩ := hf 1 _ rfl (k := 1) (o := 1) (opens_slice Try.underlying30 (by kernel_rfl) (of_decide_eq_true (by kernel_rfl)) (opens_u64 Try.underlying22)) (by kernel_rfl) rfl
  replace g1 := rep_of g1 (show _ = [v1] from rfl)
  obtain ⟨A1_0, c1_0, e1, f1_0⟩ := g1
  cases e1
  obtain ⟨y2, g2⟩ := hf 2 _ rfl (k := 1) (o := 2) (opens_slice Try.underlying82 (by kernel_rfl) (of_decide_eq_true (by kernel_rfl)) (opens_i64 Try.underlying3)) (by kernel_rfl) rfl
  replace g2 := rep_of g2 (show _ = [v2] from rfl)
  obtain ⟨A2_0, c2_0, e2, f2_0⟩ := g2
  cases e2
  obtain ⟨y3, g3⟩ := hf 3 _ rfl (k := 1) (o := 3) (opens_slice Try.underlying30 (by kernel_rfl) (of_decide_eq_true (by kernel_rfl)) (opens_u64 Try.underlying22)) (by kernel_rfl) rfl
  replace g3 := rep_of g3 (show _ = [v3] from rfl)
  obtain ⟨A3_0, c3_0, e3, f3_0⟩ := g3
  cases e3
  exact ⟨(⟨y0, y1, y2, y3⟩ : TSpoilt), ⟨A0_0, c0_0, A1_0, c1_0, A2_0, c2_0, A3_0, c3_0, rfl, f0_0, f1_0, f2_0, f3_0⟩⟩
theorem TSome.opens : OpensL P 107 TSome.L := by
  intro I enc w held fuel cs x h hw
  obtain ⟨hlen, hf⟩ := open_struct Try.underlying107 h hw
  replace hlen := hlen.trans (show P.cellsOf 107 = 2 by kernel_rfl)
  obtain ⟨v0, cs0, rfl, hl0⟩ := list_s hlen
  obtain ⟨v1, cs1, rfl, hl1⟩ := list_s hl0
  obtain rfl := list_0 hl1
  obtain ⟨y0, g0⟩ := hf 0 _ rfl (k := 1) (o := 0) (opens_slice Try.underlying76 (by kernel_rfl) (of_decide_eq_true (by kernel_rfl)) TPoint.opens) (by kernel_rfl) rfl
  replace g0 := rep_of g0 (show _ = [v0] from rfl)
  obtain ⟨A0_0, c0_0, e0, f0_0⟩ := g0
  cases e0
  obtain ⟨y1, g1⟩ := hf 1 _ rfl (k := 1) (o := 1) (opens_slice Try.underlying105 (by kernel_rfl) (of_decide_eq_true (by kernel_rfl)) (opens_bool Try.underlying4)) (by kernel_rfl) rfl
  replace g1 := rep_of g1 (show _ = [v1] from rfl)
  obtain ⟨A1_0, c1_0, e1, f1_0⟩ := g1
  cases e1
  exact ⟨(⟨y0, y1⟩ : TSome), ⟨A0_0, c0_0, A1_0, c1_0, rfl, f0_0, f1_0⟩⟩
end Go.Proofs.Ytlhcaangdenoaaa.Sh
