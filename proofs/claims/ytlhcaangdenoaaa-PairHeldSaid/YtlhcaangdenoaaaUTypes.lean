import Derived.Test.YtlhcaangdenoaaaProg
import Derived.KernelRfl
import Derived.Test.YtlhcaangdenoaaaUBase
import Derived.WalkKit
import Derived.Laws.StructEq
namespace Go.Lf
end Go.Lf
namespace Go.Sx
end Go.Sx
namespace Go.Proofs.Ytlhcaangdenoaaa.Sh
open Go.Sx
noncomputable abbrev P : Program := Try.prog
def tab : List (Nat × TI) := [
  (3, ⟨.int .i64, .one (.int .i64), [.int .i64 0], 8⟩),
  (4, ⟨.bool, .one (.bool), [.bool false], 1⟩),
  (5, ⟨.int .u8, .one (.int .u8), [.int .u8 0], 1⟩),
  (9, ⟨.str, .one (.str), [.string ByteArray.empty], 16⟩),
  (22, ⟨.int .u64, .one (.int .u64), [.int .u64 0], 8⟩),
  (23, ⟨.slice 30, .one (.slice), [.slice none 0 0], 24⟩),
  (24, ⟨.int .i64, .one (.int .i64), [.int .i64 0], 8⟩),
  (30, ⟨.slice 22, .one (.slice), [.slice none 0 0], 24⟩),
  (32, ⟨.struct [(0, .one (.int .u64)), (1, .one (.int .i64)), (2, .one (.slice))], .agg [.int .u64, .int .i64, .slice], [.int .u64 0, .int .i64 0, .slice none 0 0], 40⟩),
  (42, ⟨.struct [(0, .one (.int .i64)), (1, .one (.slice))], .agg [.int .i64, .slice], [.int .i64 0, .slice none 0 0], 32⟩),
  (43, ⟨.array 2 22, .agg [.int .u64, .int .u64], [.int .u64 0, .int .u64 0], 16⟩),
  (57, ⟨.struct [(0, .one (.int .i64)), (1, .one (.slice)), (2, .one (.slice))], .agg [.int .i64, .slice, .slice], [.int .i64 0, .slice none 0 0, .slice none 0 0], 56⟩),
  (58, ⟨.func, .one (.func), [.nilFunc], 8⟩),
  (69, ⟨.struct [(0, .one (.int .u64)), (1, .one (.slice))], .agg [.int .u64, .slice], [.int .u64 0, .slice none 0 0], 32⟩),
  (75, ⟨.func, .one (.func), [.nilFunc], 8⟩),
  (76, ⟨.slice 103, .one (.slice), [.slice none 0 0], 24⟩),
  (81, ⟨.array 2 3, .agg [.int .i64, .int .i64], [.int .i64 0, .int .i64 0], 16⟩),
  (82, ⟨.slice 3, .one (.slice), [.slice none 0 0], 24⟩),
  (86, ⟨.struct [(0, .one (.slice)), (1, .one (.slice)), (2, .one (.int .i64))], .agg [.slice, .slice, .int .i64], [.slice none 0 0, .slice none 0 0, .int .i64 0], 56⟩),
  (96, ⟨.array 3 3, .agg [.int .i64, .int .i64, .int .i64], [.int .i64 0, .int .i64 0, .int .i64 0], 24⟩),
  (99, ⟨.struct [(0, .one (.slice)), (1, .one (.slice)), (2, .one (.slice)), (3, .one (.slice))], .agg [.slice, .slice, .slice, .slice], [.slice none 0 0, .slice none 0 0, .slice none 0 0, .slice none 0 0], 96⟩),
  (103, ⟨.struct [(0, .one (.int .u64)), (1, .one (.int .u64))], .agg [.int .u64, .int .u64], [.int .u64 0, .int .u64 0], 16⟩),
  (105, ⟨.slice 4, .one (.slice), [.slice none 0 0], 24⟩),
  (107, ⟨.struct [(0, .one (.slice)), (1, .one (.slice))], .agg [.slice, .slice], [.slice none 0 0, .slice none 0 0], 48⟩),
  (117, ⟨.slice 81, .one (.slice), [.slice none 0 0], 24⟩),
  (125, ⟨.slice 23, .one (.slice), [.slice none 0 0], 24⟩),
  (129, ⟨.array 2 23, .agg [.slice, .slice], [.slice none 0 0, .slice none 0 0], 48⟩),
  (131, ⟨.func, .one (.func), [.nilFunc], 8⟩),
  (134, ⟨.map, .one (.map), [.map none], 8⟩),
  (145, ⟨.func, .one (.func), [.nilFunc], 8⟩),
  (148, ⟨.func, .one (.func), [.nilFunc], 8⟩),
  (150, ⟨.func, .one (.func), [.nilFunc], 8⟩),
  (161, ⟨.int .u64, .one (.int .u64), [.int .u64 0], 8⟩),
  (162, ⟨.func, .one (.func), [.nilFunc], 8⟩),
  (163, ⟨.ptr, .one (.ptr), [.pointer none], 8⟩),
  (166, ⟨.struct [(0, .one (.int .u64)), (1, .one (.slice)), (2, .one (.int .u64)), (3, .one (.slice))], .agg [.int .u64, .slice, .int .u64, .slice], [.int .u64 0, .slice none 0 0, .int .u64 0, .slice none 0 0], 64⟩),
  (173, ⟨.int .i64, .one (.int .i64), [.int .i64 0], 8⟩),
  (181, ⟨.int .u32, .one (.int .u32), [.int .u32 0], 4⟩),
  (186, ⟨.int .u64, .one (.int .u64), [.int .u64 0], 8⟩),
  (190, ⟨.ptr, .one (.ptr), [.pointer none], 8⟩),
  (192, ⟨.ptr, .one (.ptr), [.pointer none], 8⟩)]
def T : Nat → TI := lookTI tab
def R : Nat → List Sh
  | 0 => []
  | 3 => [.one (.int .i64)]
  | 4 => [.one (.bool)]
  | 22 => [.one (.int .u64)]
  | 23 => [.one (.slice)]
  | 24 => [.one (.int .i64)]
  | 30 => [.one (.slice)]
  | 33 => [.one (.slice), .one (.slice), .one (.int .i64)]
  | 37 => [.one (.slice), .one (.slice)]
  | 44 => [.one (.int .u64), .one (.int .i64)]
  | 46 => [.one (.slice), .one (.int .i64)]
  | 60 => [.one (.int .u64), .one (.slice), .one (.int .i64)]
  | 62 => [.one (.int .u64), .one (.slice)]
  | 64 => [.one (.slice), .one (.int .i64)]
  | 76 => [.one (.slice)]
  | 82 => [.one (.slice)]
  | 83 => [.one (.slice), .one (.slice), .one (.int .i64)]
  | 92 => [.one (.slice), .one (.bool)]
  | 109 => [.one (.slice), .one (.slice)]
  | 114 => [.one (.slice), .one (.bool)]
  | 117 => [.one (.slice)]
  | 118 => [.one (.slice), .one (.int .i64)]
  | 126 => [.one (.slice), .one (.slice)]
  | 136 => [.one (.slice), .one (.slice), .one (.bool)]
  | 148 => [.one (.func)]
  | 151 => [.one (.slice), .one (.slice)]
  | 161 => [.one (.int .u64)]
  | 163 => [.one (.ptr)]
  | 174 => [.one (.int .i64), .one (.int .i64)]
  | 178 => [.one (.int .i64), .one (.bool)]
  | 193 => [.one (.int .i64), .one (.int .i64)]
  | _ => []
def nf : Nat := 165
theorem bodies : Bodies P nf := Bodies.of (by kernel_rfl)
theorem mixed : P.follows .mixedOrders = true := by kernel_rfl
theorem fit3 : Fits P T 3 ⟨.int .i64, .one (.int .i64), [.int .i64 0], 8⟩ := ⟨Try.underlying3, by kernel_rfl, by kernel_rfl, by kernel_rfl⟩
theorem fit4 : Fits P T 4 ⟨.bool, .one (.bool), [.bool false], 1⟩ := ⟨Try.underlying4, by kernel_rfl, by kernel_rfl, by kernel_rfl⟩
theorem fit5 : Fits P T 5 ⟨.int .u8, .one (.int .u8), [.int .u8 0], 1⟩ := ⟨Try.underlying5, by kernel_rfl, by kernel_rfl, by kernel_rfl⟩
theorem fit9 : Fits P T 9 ⟨.str, .one (.str), [.string ByteArray.empty], 16⟩ := ⟨Try.underlying9, by kernel_rfl, by kernel_rfl, by kernel_rfl⟩
theorem fit22 : Fits P T 22 ⟨.int .u64, .one (.int .u64), [.int .u64 0], 8⟩ := ⟨Try.underlying22, by kernel_rfl, by kernel_rfl, by kernel_rfl⟩
theorem fit23 : Fits P T 23 ⟨.slice 30, .one (.slice), [.slice none 0 0], 24⟩ := ⟨⟨Try.underlying23, by kernel_rfl⟩, by kernel_rfl, by kernel_rfl, by kernel_rfl⟩
theorem fit24 : Fits P T 24 ⟨.int .i64, .one (.int .i64), [.int .i64 0], 8⟩ := ⟨Try.underlying24, by kernel_rfl, by kernel_rfl, by kernel_rfl⟩
theorem fit30 : Fits P T 30 ⟨.slice 22, .one (.slice), [.slice none 0 0], 24⟩ := ⟨⟨Try.underlying30, by kernel_rfl⟩, by kernel_rfl, by kernel_rfl, by kernel_rfl⟩
theorem fit32 : Fits P T 32 ⟨.struct [(0, .one (.int .u64)), (1, .one (.int .i64)), (2, .one (.slice))], .agg [.int .u64, .int .i64, .slice], [.int .u64 0, .int .i64 0, .slice none 0 0], 40⟩ := ⟨⟨_, Try.underlying32, by kernel_rfl, by kernel_rfl⟩, by kernel_rfl, by kernel_rfl, by kernel_rfl⟩
theorem fit42 : Fits P T 42 ⟨.struct [(0, .one (.int .i64)), (1, .one (.slice))], .agg [.int .i64, .slice], [.int .i64 0, .slice none 0 0], 32⟩ := ⟨⟨_, Try.underlying42, by kernel_rfl, by kernel_rfl⟩, by kernel_rfl, by kernel_rfl, by kernel_rfl⟩
theorem fit43 : Fits P T 43 ⟨.array 2 22, .agg [.int .u64, .int .u64], [.int .u64 0, .int .u64 0], 16⟩ := ⟨⟨Try.underlying43, by kernel_rfl⟩, by kernel_rfl, by kernel_rfl, by kernel_rfl⟩
theorem fit57 : Fits P T 57 ⟨.struct [(0, .one (.int .i64)), (1, .one (.slice)), (2, .one (.slice))], .agg [.int .i64, .slice, .slice], [.int .i64 0, .slice none 0 0, .slice none 0 0], 56⟩ := ⟨⟨_, Try.underlying57, by kernel_rfl, by kernel_rfl⟩, by kernel_rfl, by kernel_rfl, by kernel_rfl⟩
theorem fit58 : Fits P T 58 ⟨.func, .one (.func), [.nilFunc], 8⟩ := ⟨⟨_, _, _, Try.underlying58⟩, by kernel_rfl, by kernel_rfl, by kernel_rfl⟩
theorem fit69 : Fits P T 69 ⟨.struct [(0, .one (.int .u64)), (1, .one (.slice))], .agg [.int .u64, .slice], [.int .u64 0, .slice none 0 0], 32⟩ := ⟨⟨_, Try.underlying69, by kernel_rfl, by kernel_rfl⟩, by kernel_rfl, by kernel_rfl, by kernel_rfl⟩
theorem fit75 : Fits P T 75 ⟨.func, .one (.func), [.nilFunc], 8⟩ := ⟨⟨_, _, _, Try.underlying75⟩, by kernel_rfl, by kernel_rfl, by kernel_rfl⟩
theorem fit76 : Fits P T 76 ⟨.slice 103, .one (.slice), [.slice none 0 0], 24⟩ := ⟨⟨Try.underlying76, by kernel_rfl⟩, by kernel_rfl, by kernel_rfl, by kernel_rfl⟩
theorem fit81 : Fits P T 81 ⟨.array 2 3, .agg [.int .i64, .int .i64], [.int .i64 0, .int .i64 0], 16⟩ := ⟨⟨Try.underlying81, by kernel_rfl⟩, by kernel_rfl, by kernel_rfl, by kernel_rfl⟩
theorem fit82 : Fits P T 82 ⟨.slice 3, .one (.slice), [.slice none 0 0], 24⟩ := ⟨⟨Try.underlying82, by kernel_rfl⟩, by kernel_rfl, by kernel_rfl, by kernel_rfl⟩
theorem fit86 : Fits P T 86 ⟨.struct [(0, .one (.slice)), (1, .one (.slice)), (2, .one (.int .i64))], .agg [.slice, .slice, .int .i64], [.slice none 0 0, .slice none 0 0, .int .i64 0], 56⟩ := ⟨⟨_, Try.underlying86, by kernel_rfl, by kernel_rfl⟩, by kernel_rfl, by kernel_rfl, by kernel_rfl⟩
theorem fit96 : Fits P T 96 ⟨.array 3 3, .agg [.int .i64, .int .i64, .int .i64], [.int .i64 0, .int .i64 0, .int .i64 0], 24⟩ := ⟨⟨Try.underlying96, by kernel_rfl⟩, by kernel_rfl, by kernel_rfl, by kernel_rfl⟩
theorem fit99 : Fits P T 99 ⟨.struct [(0, .one (.slice)), (1, .one (.slice)), (2, .one (.slice)), (3, .one (.slice))], .agg [.slice, .slice, .slice, .slice], [.slice none 0 0, .slice none 0 0, .slice none 0 0, .slice none 0 0], 96⟩ := ⟨⟨_, Try.underlying99, by kernel_rfl, by kernel_rfl⟩, by kernel_rfl, by kernel_rfl, by kernel_rfl⟩
theorem fit103 : Fits P T 103 ⟨.struct [(0, .one (.int .u64)), (1, .one (.int .u64))], .agg [.int .u64, .int .u64], [.int .u64 0, .int .u64 0], 16⟩ := ⟨⟨_, Try.underlying103, by kernel_rfl, by kernel_rfl⟩, by kernel_rfl, by kernel_rfl, by kernel_rfl⟩
theorem fit105 : Fits P T 105 ⟨.slice 4, .one (.slice), [.slice none 0 0], 24⟩ := ⟨⟨Try.underlying105, by kernel_rfl⟩, by kernel_rfl, by kernel_rfl, by kernel_rfl⟩
theorem fit107 : Fits P T 107 ⟨.struct [(0, .one (.slice)), (1, .one (.slice))], .agg [.slice, .slice], [.slice none 0 0, .slice none 0 0], 48⟩ := ⟨⟨_, Try.underlying107, by kernel_rfl, by kernel_rfl⟩, by kernel_rfl, by kernel_rfl, by kernel_rfl⟩
theorem fit117 : Fits P T 117 ⟨.slice 81, .one (.slice), [.slice none 0 0], 24⟩ := ⟨⟨Try.underlying117, by kernel_rfl⟩, by kernel_rfl, by kernel_rfl, by kernel_rfl⟩
theorem fit125 : Fits P T 125 ⟨.slice 23, .one (.slice), [.slice none 0 0], 24⟩ := ⟨⟨Try.underlying125, by kernel_rfl⟩, by kernel_rfl, by kernel_rfl, by kernel_rfl⟩
theorem fit129 : Fits P T 129 ⟨.array 2 23, .agg [.slice, .slice], [.slice none 0 0, .slice none 0 0], 48⟩ := ⟨⟨Try.underlying129, by kernel_rfl⟩, by kernel_rfl, by kernel_rfl, by kernel_rfl⟩
theorem fit131 : Fits P T 131 ⟨.func, .one (.func), [.nilFunc], 8⟩ := ⟨⟨_, _, _, Try.underlying131⟩, by kernel_rfl, by kernel_rfl, by kernel_rfl⟩
theorem fit134 : Fits P T 134 ⟨.map, .one (.map), [.map none], 8⟩ := ⟨⟨_, _, Try.underlying134⟩, by kernel_rfl, by kernel_rfl, by kernel_rfl⟩
theorem fit145 : Fits P T 145 ⟨.func, .one (.func), [.nilFunc], 8⟩ := ⟨⟨_, _, _, Try.underlying145⟩, by kernel_rfl, by kernel_rfl, by kernel_rfl⟩
theorem fit148 : Fits P T 148 ⟨.func, .one (.func), [.nilFunc], 8⟩ := ⟨⟨_, _, _, Try.underlying148⟩, by kernel_rfl, by kernel_rfl, by kernel_rfl⟩
theorem fit150 : Fits P T 150 ⟨.func, .one (.func), [.nilFunc], 8⟩ := ⟨⟨_, _, _, Try.underlying150⟩, by kernel_rfl, by kernel_rfl, by kernel_rfl⟩
theorem fit161 : Fits P T 161 ⟨.int .u64, .one (.int .u64), [.int .u64 0], 8⟩ := ⟨Try.underlying161, by kernel_rfl, by kernel_rfl, by kernel_rfl⟩
theorem fit162 : Fits P T 162 ⟨.func, .one (.func), [.nilFunc], 8⟩ := ⟨⟨_, _, _, Try.underlying162⟩, by kernel_rfl, by kernel_rfl, by kernel_rfl⟩
theorem fit163 : Fits P T 163 ⟨.ptr, .one (.ptr), [.pointer none], 8⟩ := ⟨⟨_, Try.underlying163⟩, by kernel_rfl, by kernel_rfl, by kernel_rfl⟩
theorem fit166 : Fits P T 166 ⟨.struct [(0, .one (.int .u64)), (1, .one (.slice)), (2, .one (.int .u64)), (3, .one (.slice))], .agg [.int .u64, .slice, .int .u64, .slice], [.int .u64 0, .slice none 0 0, .int .u64 0, .slice none 0 0], 64⟩ := ⟨⟨_, Try.underlying166, by kernel_rfl, by kernel_rfl⟩, by kernel_rfl, by kernel_rfl, by kernel_rfl⟩
theorem fit173 : Fits P T 173 ⟨.int .i64, .one (.int .i64), [.int .i64 0], 8⟩ := ⟨Try.underlying173, by kernel_rfl, by kernel_rfl, by kernel_rfl⟩
theorem fit181 : Fits P T 181 ⟨.int .u32, .one (.int .u32), [.int .u32 0], 4⟩ := ⟨Try.underlying181, by kernel_rfl, by kernel_rfl, by kernel_rfl⟩
theorem fit186 : Fits P T 186 ⟨.int .u64, .one (.int .u64), [.int .u64 0], 8⟩ := ⟨Try.underlying186, by kernel_rfl, by kernel_rfl, by kernel_rfl⟩
theorem fit190 : Fits P T 190 ⟨.ptr, .one (.ptr), [.pointer none], 8⟩ := ⟨⟨_, Try.underlying190⟩, by kernel_rfl, by kernel_rfl, by kernel_rfl⟩
theorem fit192 : Fits P T 192 ⟨.ptr, .one (.ptr), [.pointer none], 8⟩ := ⟨⟨_, Try.underlying192⟩, by kernel_rfl, by kernel_rfl, by kernel_rfl⟩
theorem fits : AllFit P T := fits_lookTI (by
  simp only [tab, List.forall_mem_cons]
  exact ⟨fit3, fit4, fit5, fit9, fit22, fit23, fit24, fit30, fit32, fit42, fit43, fit57, fit58, fit69, fit75, fit76, fit81, fit82, fit86, fit96, fit99, fit103, fit105, fit107, fit117, fit125, fit129, fit131, fit134, fit145, fit148, fit150, fit161, fit162, fit163, fit166, fit173, fit181, fit186, fit190, fit192, fun _ h => by cases h⟩)
namespace N
abbrev juntolaw06_PairHeld : Nat := 23
abbrev pair_Check : Nat := 24
abbrev pair_Size : Nat := 26
abbrev juntolaw06_alive : Nat := 28
abbrev pair_Make : Nat := 29
abbrev juntoref06_Bounds : Nat := 30
abbrev juntoref01_Same : Nat := 33
abbrev pair_At : Nat := 34
abbrev pair_Row : Nat := 35
abbrev juntoref01_Within : Nat := 39
abbrev juntoref02_Twice : Nat := 42
abbrev juntoref01_Is : Nat := 65
abbrev juntoref02_Trim : Nat := 66
abbrev pair_Join : Nat := 70
abbrev juntoref06_Rows : Nat := 71
abbrev pair_Quarrels : Nat := 73
abbrev juntoref06_Same : Nat := 75
abbrev pair_ground : Nat := 76
abbrev slices_ContainsFunc_uint64uint64 : Nat := 77
abbrev pair_Check_1 : Nat := 78
abbrev field_Below : Nat := 79
abbrev field_Take : Nat := 81
abbrev pair_Of : Nat := 82
abbrev poly_At : Nat := 84
abbrev pair_RowOf : Nat := 85
abbrev field_Is : Nat := 94
abbrev pair_rows : Nat := 100
abbrev pair_Glue : Nat := 101
abbrev slices_Equal_uint64uint64 : Nat := 102
abbrev poly_Short : Nat := 103
abbrev juntoref02_Within : Nat := 104
abbrev slices_SortFunc_2int2int : Nat := 106
abbrev slices_IndexFunc_uint64uint64 : Nat := 109
abbrev field_Plus : Nat := 111
abbrev field_Times : Nat := 112
abbrev field_Minus : Nat := 115
abbrev slices_Clone_uint64uint64 : Nat := 117
abbrev slices_Contains_uint64uint64 : Nat := 124
abbrev poly_Is : Nat := 125
abbrev poly_Fit : Nat := 126
abbrev cmp_Compare_int : Nat := 132
abbrev field_mul : Nat := 134
abbrev field_Over : Nat := 137
abbrev slices_Index_uint64uint64 : Nat := 140
abbrev poly_Times : Nat := 141
abbrev poly_Plus : Nat := 142
abbrev field_pow : Nat := 157
abbrev poly_each : Nat := 158
end N
end Go.Proofs.Ytlhcaangdenoaaa.Sh
set_option linter.unusedVariables false
namespace Go.Proofs.Ytlhcaangdenoaaa.Sh
open Go.Sx Go.Lf
def Fn58.F (Z : Nat → Prop) (H : Heap) (ff : Nat) (fa fb : Array Value) (φ : ((List Nat) → (Bool → Prop) → Prop)) : Prop :=
  hasB nf ff = true ∧ ∀ (Z1 : Nat → Prop) (H1 : Heap), Fr Z H Z1 H1 → ∀ (x0 : (List Nat)) (K : Bool → Prop), φ x0 K → ∀ (A0_0 : Option Addr) (n0_0 c0_0 : Nat), n0_0 = x0.length → SlF u64L Z1 H1 A0_0 c0_0 x0 → ∀ KK : Value → Heap → Prop,
    (∀ (Z' : Nat → Prop) (H' : Heap), Ext H1 H' → Old Z1 H1 Z' → ∀ (r0 : Bool), K r0 → KK (.bool r0) H') →
    CallH P ff (fa.toList ++ ([.slice A0_0 n0_0 c0_0] : List Value) ++ fb.toList) H1 KK
theorem Fn58.F.keep {Z Z2 : Nat → Prop} {H H2 : Heap} {ff : Nat} {fa fb : Array Value} {φ : ((List Nat) → (Bool → Prop) → Prop)} (h : Fn58.F Z H ff fa fb φ) (hf : Fr Z H Z2 H2) : Fn58.F Z2 H2 ff fa fb φ :=
  ⟨h.1, fun Z1 H1 k => h.2 Z1 H1 (hf.trans k)⟩
theorem Fn58.F.wide {Z Z2 : Nat → Prop} {H : Heap} {ff : Nat} {fa fb : Array Value} {φ : ((List Nat) → (Bool → Prop) → Prop)} (h : Fn58.F Z H ff fa fb φ) (hz : ∀ i, Z i → Z2 i) : Fn58.F Z2 H ff fa fb φ := h.keep (Fr.wide hz H)
theorem Fn58.F.step {m : List Nat} {σ σ2 : Nat → Nat} {H H2 : Heap} {ff : Nat} {fa fb : Array Value} {φ : ((List Nat) → (Bool → Prop) → Prop)} (h : Fn58.F (Zt σ) H ff fa fb φ) (hs : Stp m σ H σ2 H2) (hm : 0 ∉ m := by decide) : Fn58.F (Zt σ2) H2 ff fa fb φ := h.keep (hs.z hm)
def Fn58.L : Rl ((List Nat) → (Bool → Prop) → Prop) where
  sz := 1
  rep := fun Z H φ cs => ∃ (ff : Nat) (fa fb : Array Value), cs = [.func (.func ff) fa fb] ∧ Fn58.F Z H ff fa fb φ
  len := fun ⟨_, _, _, e, _⟩ => by rw [e]; rfl
  flat := fun ⟨_, _, _, e, _⟩ => by rw [e]; rfl
  keep := fun hf ⟨a, b, c, e, h⟩ => ⟨a, b, c, e, h.keep hf⟩
def Fn162.F (Z : Nat → Prop) (H : Heap) (ff : Nat) (fa fb : Array Value) (φ : (Int → Nat → (Bool → Prop) → Prop)) : Prop :=
  hasB nf ff = true ∧ ∀ (Z1 : Nat → Prop) (H1 : Heap), Fr Z H Z1 H1 → ∀ (x0 : Int) (x1 : Nat) (K : Bool → Prop), φ x0 x1 K → ∀ (v1_0 : Int), v1_0 = (x1 : Int) → ∀ KK : Value → Heap → Prop,
    (∀ (Z' : Nat → Prop) (H' : Heap), Ext H1 H' → Old Z1 H1 Z' → ∀ (r0 : Bool), K r0 → KK (.bool r0) H') →
    CallH P ff (fa.toList ++ ([.int .i64 x0, .int .u64 v1_0] : List Value) ++ fb.toList) H1 KK
theorem Fn162.F.keep {Z Z2 : Nat → Prop} {H H2 : Heap} {ff : Nat} {fa fb : Array Value} {φ : (Int → Nat → (Bool → Prop) → Prop)} (h : Fn162.F Z H ff fa fb φ) (hf : Fr Z H Z2 H2) : Fn162.F Z2 H2 ff fa fb φ :=
  ⟨h.1, fun Z1 H1 k => h.2 Z1 H1 (hf.trans k)⟩
theorem Fn162.F.wide {Z Z2 : Nat → Prop} {H : Heap} {ff : Nat} {fa fb : Array Value} {φ : (Int → Nat → (Bool → Prop) → Prop)} (h : Fn162.F Z H ff fa fb φ) (hz : ∀ i, Z i → Z2 i) : Fn162.F Z2 H ff fa fb φ := h.keep (Fr.wide hz H)
theorem Fn162.F.step {m : List Nat} {σ σ2 : Nat → Nat} {H H2 : Heap} {ff : Nat} {fa fb : Array Value} {φ : (Int → Nat → (Bool → Prop) → Prop)} (h : Fn162.F (Zt σ) H ff fa fb φ) (hs : Stp m σ H σ2 H2) (hm : 0 ∉ m := by decide) : Fn162.F (Zt σ2) H2 ff fa fb φ := h.keep (hs.z hm)
def Fn162.L : Rl (Int → Nat → (Bool → Prop) → Prop) where
  sz := 1
  rep := fun Z H φ cs => ∃ (ff : Nat) (fa fb : Array Value), cs = [.func (.func ff) fa fb] ∧ Fn162.F Z H ff fa fb φ
  len := fun ⟨_, _, _, e, _⟩ => by rw [e]; rfl
  flat := fun ⟨_, _, _, e, _⟩ => by rw [e]; rfl
  keep := fun hf ⟨a, b, c, e, h⟩ => ⟨a, b, c, e, h.keep hf⟩
structure TSecret where
  Value : Nat
  T_ : Int
  Tape : (List Nat)
def TSecret.L : Rl TSecret where
  sz := 3
  rep := fun Z H x cs => ∃ (A2 : Option Addr) (c2 : Nat), cs = [.int .u64 (x.Value : Int), .int .i64 x.T_, .slice A2 x.Tape.length c2] ∧ SlF u64L Z H A2 c2 x.Tape
  len := fun ⟨A2, c2, e, h2⟩ => by rw [e]; rfl
  flat := fun ⟨A2, c2, e, h2⟩ => by rw [e]; rfl
  keep := fun hf ⟨A2, c2, e, h2⟩ => ⟨A2, c2, e, h2.keep hf⟩
theorem TSecret.zero (Z Y : Nat → Prop) (H : Heap) : (rdM TSecret.L).rep Z Y H (⟨0, 0, []⟩ : TSecret) [.int .u64 0, .int .i64 0, .slice none 0 0] := ⟨none, 0, rfl, SlF.nil _ _ _ _ _⟩
structure TShape where
  T_ : Int
  F : (List (List Nat))
def TShape.L : Rl TShape where
  sz := 2
  rep := fun Z H x cs => ∃ (A1 : Option Addr) (c1 : Nat), cs = [.int .i64 x.T_, .slice A1 x.F.length c1] ∧ SlF (slL u64L) Z H A1 c1 x.F
  len := fun ⟨A1, c1, e, h1⟩ => by rw [e]; rfl
  flat := fun ⟨A1, c1, e, h1⟩ => by rw [e]; rfl
  keep := fun hf ⟨A1, c1, e, h1⟩ => ⟨A1, c1, e, h1.keep hf⟩
theorem TShape.zero (Z Y : Nat → Prop) (H : Heap) : (rdM TShape.L).rep Z Y H (⟨0, []⟩ : TShape) [.int .i64 0, .slice none 0 0] := ⟨none, 0, rfl, SlF.nil _ _ _ _ _⟩
structure TRows where
  T_ : Int
  Xs : (List Nat)
  Rows : (List (List Nat))
def TRows.L : Rl TRows where
  sz := 3
  rep := fun Z H x cs => ∃ (A1 : Option Addr) (c1 : Nat) (A2 : Option Addr) (c2 : Nat), cs = [.int .i64 x.T_, .slice A1 x.Xs.length c1, .slice A2 x.Rows.length c2] ∧ SlF u64L Z H A1 c1 x.Xs ∧ SlF (slL u64L) Z H A2 c2 x.Rows
  len := fun ⟨A1, c1, A2, c2, e, h1, h2⟩ => by rw [e]; rfl
  flat := fun ⟨A1, c1, A2, c2, e, h1, h2⟩ => by rw [e]; rfl
  keep := fun hf ⟨A1, c1, A2, c2, e, h1, h2⟩ => ⟨A1, c1, A2, c2, e, h1.keep hf, h2.keep hf⟩
theorem TRows.zero (Z Y : Nat → Prop) (H : Heap) : (rdM TRows.L).rep Z Y H (⟨0, [], []⟩ : TRows) [.int .i64 0, .slice none 0 0, .slice none 0 0] := ⟨none, 0, none, 0, rfl, SlF.nil _ _ _ _ _, SlF.nil _ _ _ _ _⟩
def Fn131.F (Z : Nat → Prop) (H : Heap) (ff : Nat) (fa fb : Array Value) (φ : (Int → Int → (Nat → Prop) → Prop)) : Prop :=
  hasB nf ff = true ∧ ∀ (Z1 : Nat → Prop) (H1 : Heap), Fr Z H Z1 H1 → ∀ (x0 : Int) (x1 : Int) (K : Nat → Prop), φ x0 x1 K → ∀ KK : Value → Heap → Prop,
    (∀ (Z' : Nat → Prop) (H' : Heap), Ext H1 H' → Old Z1 H1 Z' → ∀ (r0 : Nat), ∀ (r0v0 : Int), r0v0 = (r0 : Int) → K r0 → KK (.int .u64 r0v0) H') →
    CallH P ff (fa.toList ++ ([.int .i64 x0, .int .i64 x1] : List Value) ++ fb.toList) H1 KK
theorem Fn131.F.keep {Z Z2 : Nat → Prop} {H H2 : Heap} {ff : Nat} {fa fb : Array Value} {φ : (Int → Int → (Nat → Prop) → Prop)} (h : Fn131.F Z H ff fa fb φ) (hf : Fr Z H Z2 H2) : Fn131.F Z2 H2 ff fa fb φ :=
  ⟨h.1, fun Z1 H1 k => h.2 Z1 H1 (hf.trans k)⟩
theorem Fn131.F.wide {Z Z2 : Nat → Prop} {H : Heap} {ff : Nat} {fa fb : Array Value} {φ : (Int → Int → (Nat → Prop) → Prop)} (h : Fn131.F Z H ff fa fb φ) (hz : ∀ i, Z i → Z2 i) : Fn131.F Z2 H ff fa fb φ := h.keep (Fr.wide hz H)
theorem Fn131.F.step {m : List Nat} {σ σ2 : Nat → Nat} {H H2 : Heap} {ff : Nat} {fa fb : Array Value} {φ : (Int → Int → (Nat → Prop) → Prop)} (h : Fn131.F (Zt σ) H ff fa fb φ) (hs : Stp m σ H σ2 H2) (hm : 0 ∉ m := by decide) : Fn131.F (Zt σ2) H2 ff fa fb φ := h.keep (hs.z hm)
def Fn131.L : Rl (Int → Int → (Nat → Prop) → Prop) where
  sz := 1
  rep := fun Z H φ cs => ∃ (ff : Nat) (fa fb : Array Value), cs = [.func (.func ff) fa fb] ∧ Fn131.F Z H ff fa fb φ
  len := fun ⟨_, _, _, e, _⟩ => by rw [e]; rfl
  flat := fun ⟨_, _, _, e, _⟩ => by rw [e]; rfl
  keep := fun hf ⟨a, b, c, e, h⟩ => ⟨a, b, c, e, h.keep hf⟩
def Fn150.F (Z : Nat → Prop) (H : Heap) (ff : Nat) (fa fb : Array Value) (φ : (Int → (Nat → Prop) → Prop)) : Prop :=
  hasB nf ff = true ∧ ∀ (Z1 : Nat → Prop) (H1 : Heap), Fr Z H Z1 H1 → ∀ (x0 : Int) (K : Nat → Prop), φ x0 K → ∀ KK : Value → Heap → Prop,
    (∀ (Z' : Nat → Prop) (H' : Heap), Ext H1 H' → Old Z1 H1 Z' → ∀ (r0 : Nat), ∀ (r0v0 : Int), r0v0 = (r0 : Int) → K r0 → KK (.int .u64 r0v0) H') →
    CallH P ff (fa.toList ++ ([.int .i64 x0] : List Value) ++ fb.toList) H1 KK
theorem Fn150.F.keep {Z Z2 : Nat → Prop} {H H2 : Heap} {ff : Nat} {fa fb : Array Value} {φ : (Int → (Nat → Prop) → Prop)} (h : Fn150.F Z H ff fa fb φ) (hf : Fr Z H Z2 H2) : Fn150.F Z2 H2 ff fa fb φ :=
  ⟨h.1, fun Z1 H1 k => h.2 Z1 H1 (hf.trans k)⟩
theorem Fn150.F.wide {Z Z2 : Nat → Prop} {H : Heap} {ff : Nat} {fa fb : Array Value} {φ : (Int → (Nat → Prop) → Prop)} (h : Fn150.F Z H ff fa fb φ) (hz : ∀ i, Z i → Z2 i) : Fn150.F Z2 H ff fa fb φ := h.keep (Fr.wide hz H)
theorem Fn150.F.step {m : List Nat} {σ σ2 : Nat → Nat} {H H2 : Heap} {ff : Nat} {fa fb : Array Value} {φ : (Int → (Nat → Prop) → Prop)} (h : Fn150.F (Zt σ) H ff fa fb φ) (hs : Stp m σ H σ2 H2) (hm : 0 ∉ m := by decide) : Fn150.F (Zt σ2) H2 ff fa fb φ := h.keep (hs.z hm)
def Fn150.L : Rl (Int → (Nat → Prop) → Prop) where
  sz := 1
  rep := fun Z H φ cs => ∃ (ff : Nat) (fa fb : Array Value), cs = [.func (.func ff) fa fb] ∧ Fn150.F Z H ff fa fb φ
  len := fun ⟨_, _, _, e, _⟩ => by rw [e]; rfl
  flat := fun ⟨_, _, _, e, _⟩ => by rw [e]; rfl
  keep := fun hf ⟨a, b, c, e, h⟩ => ⟨a, b, c, e, h.keep hf⟩
structure TLifted where
  K : Nat
  Z : (List Nat)
def TLifted.L : Rl TLifted where
  sz := 2
  rep := fun Z H x cs => ∃ (A1 : Option Addr) (c1 : Nat), cs = [.int .u64 (x.K : Int), .slice A1 x.Z.length c1] ∧ SlF u64L Z H A1 c1 x.Z
  len := fun ⟨A1, c1, e, h1⟩ => by rw [e]; rfl
  flat := fun ⟨A1, c1, e, h1⟩ => by rw [e]; rfl
  keep := fun hf ⟨A1, c1, e, h1⟩ => ⟨A1, c1, e, h1.keep hf⟩
theorem TLifted.zero (Z Y : Nat → Prop) (H : Heap) : (rdM TLifted.L).rep Z Y H (⟨0, []⟩ : TLifted) [.int .u64 0, .slice none 0 0] := ⟨none, 0, rfl, SlF.nil _ _ _ _ _⟩
structure TPoint where
  X : Nat
  Y : Nat
def TPoint.L : Rl TPoint where
  sz := 2
  rep := fun Z H x cs => cs = [.int .u64 (x.X : Int), .int .u64 (x.Y : Int)]
  len := fun e => by rw [e]; rfl
  flat := fun e => by rw [e]; rfl
  keep := fun _ e => e
theorem TPoint.zero (Z Y : Nat → Prop) (H : Heap) : (rdM TPoint.L).rep Z Y H (⟨0, 0⟩ : TPoint) [.int .u64 0, .int .u64 0] := rfl
structure TGrid where
  p : Nat
  rows : (List (List Nat))
  det : Nat
  lead : (List Int)
def TGrid.L : Rl TGrid where
  sz := 4
  rep := fun Z H x cs => ∃ (A1 : Option Addr) (c1 : Nat) (A3 : Option Addr) (c3 : Nat), cs = [.int .u64 (x.p : Int), .slice A1 x.rows.length c1, .int .u64 (x.det : Int), .slice A3 x.lead.length c3] ∧ SlF (slL u64L) Z H A1 c1 x.rows ∧ SlF i64L Z H A3 c3 x.lead
  len := fun ⟨A1, c1, A3, c3, e, h1, h3⟩ => by rw [e]; rfl
  flat := fun ⟨A1, c1, A3, c3, e, h1, h3⟩ => by rw [e]; rfl
  keep := fun hf ⟨A1, c1, A3, c3, e, h1, h3⟩ => ⟨A1, c1, A3, c3, e, h1.keep hf, h3.keep hf⟩
theorem TGrid.zero (Z Y : Nat → Prop) (H : Heap) : (rdM TGrid.L).rep Z Y H (⟨0, [], 0, []⟩ : TGrid) [.int .u64 0, .slice none 0 0, .int .u64 0, .slice none 0 0] := ⟨none, 0, none, 0, rfl, SlF.nil _ _ _ _ _, SlF.nil _ _ _ _ _⟩
structure TTold where
  f : (List Nat)
  at_ : (List Int)
  e : Int
def TTold.L : Rl TTold where
  sz := 3
  rep := fun Z H x cs => ∃ (A0 : Option Addr) (c0 : Nat) (A1 : Option Addr) (c1 : Nat), cs = [.slice A0 x.f.length c0, .slice A1 x.at_.length c1, .int .i64 x.e] ∧ SlF u64L Z H A0 c0 x.f ∧ SlF i64L Z H A1 c1 x.at_
  len := fun ⟨A0, c0, A1, c1, e, h0, h1⟩ => by rw [e]; rfl
  flat := fun ⟨A0, c0, A1, c1, e, h0, h1⟩ => by rw [e]; rfl
  keep := fun hf ⟨A0, c0, A1, c1, e, h0, h1⟩ => ⟨A0, c0, A1, c1, e, h0.keep hf, h1.keep hf⟩
theorem TTold.zero (Z Y : Nat → Prop) (H : Heap) : (rdM TTold.L).rep Z Y H (⟨[], [], 0⟩ : TTold) [.slice none 0 0, .slice none 0 0, .int .i64 0] := ⟨none, 0, none, 0, rfl, SlF.nil _ _ _ _ _, SlF.nil _ _ _ _ _⟩
structure TSpoilt where
  F : (List Nat)
  Xs : (List Nat)
  At : (List Int)
  Values : (List Nat)
def TSpoilt.L : Rl TSpoilt where
  sz := 4
  rep := fun Z H x cs => ∃ (A0 : Option Addr) (c0 : Nat) (A1 : Option Addr) (c1 : Nat) (A2 : Option Addr) (c2 : Nat) (A3 : Option Addr) (c3 : Nat), cs = [.slice A0 x.F.length c0, .slice A1 x.Xs.length c1, .slice A2 x.At.length c2, .slice A3 x.Values.length c3] ∧ SlF u64L Z H A0 c0 x.F ∧ SlF u64L Z H A1 c1 x.Xs ∧ SlF i64L Z H A2 c2 x.At ∧ SlF u64L Z H A3 c3 x.Values
  len := fun ⟨A0, c0, A1, c1, A2, c2, A3, c3, e, h0, h1, h2, h3⟩ => by rw [e]; rfl
  flat := fun ⟨A0, c0, A1, c1, A2, c2, A3, c3, e, h0, h1, h2, h3⟩ => by rw [e]; rfl
  keep := fun hf ⟨A0, c0, A1, c1, A2, c2, A3, c3, e, h0, h1, h2, h3⟩ => ⟨A0, c0, A1, c1, A2, c2, A3, c3, e, h0.keep hf, h1.keep hf, h2.keep hf, h3.keep hf⟩
theorem TSpoilt.zero (Z Y : Nat → Prop) (H : Heap) : (rdM TSpoilt.L).rep Z Y H (⟨[], [], [], []⟩ : TSpoilt) [.slice none 0 0, .slice none 0 0, .slice none 0 0, .slice none 0 0] := ⟨none, 0, none, 0, none, 0, none, 0, rfl, SlF.nil _ _ _ _ _, SlF.nil _ _ _ _ _, SlF.nil _ _ _ _ _, SlF.nil _ _ _ _ _⟩
structure TSome where
  Points : (List TPoint)
  There : (List Bool)
def TSome.L : Rl TSome where
  sz := 2
  rep := fun Z H x cs => ∃ (A0 : Option Addr) (c0 : Nat) (A1 : Option Addr) (c1 : Nat), cs = [.slice A0 x.Points.length c0, .slice A1 x.There.length c1] ∧ SlF TPoint.L Z H A0 c0 x.Points ∧ SlF boolL Z H A1 c1 x.There
  len := fun ⟨A0, c0, A1, c1, e, h0, h1⟩ => by rw [e]; rfl
  flat := fun ⟨A0, c0, A1, c1, e, h0, h1⟩ => by rw [e]; rfl
  keep := fun hf ⟨A0, c0, A1, c1, e, h0, h1⟩ => ⟨A0, c0, A1, c1, e, h0.keep hf, h1.keep hf⟩
theorem TSome.zero (Z Y : Nat → Prop) (H : Heap) : (rdM TSome.L).rep Z Y H (⟨[], []⟩ : TSome) [.slice none 0 0, .slice none 0 0] := ⟨none, 0, none, 0, rfl, SlF.nil _ _ _ _ _, SlF.nil _ _ _ _ _⟩
def Fn75.F (Z : Nat → Prop) (H : Heap) (ff : Nat) (fa fb : Array Value) (φ : (Nat → Nat → Nat → (Nat → Prop) → Prop)) : Prop :=
  hasB nf ff = true ∧ ∀ (Z1 : Nat → Prop) (H1 : Heap), Fr Z H Z1 H1 → ∀ (x0 : Nat) (x1 : Nat) (x2 : Nat) (K : Nat → Prop), φ x0 x1 x2 K → ∀ (v0_0 : Int), v0_0 = (x0 : Int) → ∀ (v1_0 : Int), v1_0 = (x1 : Int) → ∀ (v2_0 : Int), v2_0 = (x2 : Int) → ∀ KK : Value → Heap → Prop,
    (∀ (Z' : Nat → Prop) (H' : Heap), Ext H1 H' → Old Z1 H1 Z' → ∀ (r0 : Nat), ∀ (r0v0 : Int), r0v0 = (r0 : Int) → K r0 → KK (.int .u64 r0v0) H') →
    CallH P ff (fa.toList ++ ([.int .u64 v0_0, .int .u64 v1_0, .int .u64 v2_0] : List Value) ++ fb.toList) H1 KK
theorem Fn75.F.keep {Z Z2 : Nat → Prop} {H H2 : Heap} {ff : Nat} {fa fb : Array Value} {φ : (Nat → Nat → Nat → (Nat → Prop) → Prop)} (h : Fn75.F Z H ff fa fb φ) (hf : Fr Z H Z2 H2) : Fn75.F Z2 H2 ff fa fb φ :=
  ⟨h.1, fun Z1 H1 k => h.2 Z1 H1 (hf.trans k)⟩
theorem Fn75.F.wide {Z Z2 : Nat → Prop} {H : Heap} {ff : Nat} {fa fb : Array Value} {φ : (Nat → Nat → Nat → (Nat → Prop) → Prop)} (h : Fn75.F Z H ff fa fb φ) (hz : ∀ i, Z i → Z2 i) : Fn75.F Z2 H ff fa fb φ := h.keep (Fr.wide hz H)
theorem Fn75.F.step {m : List Nat} {σ σ2 : Nat → Nat} {H H2 : Heap} {ff : Nat} {fa fb : Array Value} {φ : (Nat → Nat → Nat → (Nat → Prop) → Prop)} (h : Fn75.F (Zt σ) H ff fa fb φ) (hs : Stp m σ H σ2 H2) (hm : 0 ∉ m := by decide) : Fn75.F (Zt σ2) H2 ff fa fb φ := h.keep (hs.z hm)
def Fn75.L : Rl (Nat → Nat → Nat → (Nat → Prop) → Prop) where
  sz := 1
  rep := fun Z H φ cs => ∃ (ff : Nat) (fa fb : Array Value), cs = [.func (.func ff) fa fb] ∧ Fn75.F Z H ff fa fb φ
  len := fun ⟨_, _, _, e, _⟩ => by rw [e]; rfl
  flat := fun ⟨_, _, _, e, _⟩ => by rw [e]; rfl
  keep := fun hf ⟨a, b, c, e, h⟩ => ⟨a, b, c, e, h.keep hf⟩
def Arr2_3.L : Rl (Int × Int) where
  sz := 2
  rep := fun Z H x cs => cs = [.int .i64 x.1, .int .i64 x.2]
  len := fun e => by rw [e]; rfl
  flat := fun e => by rw [e]; rfl
  keep := fun _ e => e
def Fn145.F (Z : Nat → Prop) (H : Heap) (ff : Nat) (fa fb : Array Value) (φ : ((Int × Int) → (Int × Int) → (Int → Prop) → Prop)) : Prop :=
  hasB nf ff = true ∧ ∀ (Z1 : Nat → Prop) (H1 : Heap), Fr Z H Z1 H1 → ∀ (x0 : (Int × Int)) (x1 : (Int × Int)) (K : Int → Prop), φ x0 x1 K → ∀ KK : Value → Heap → Prop,
    (∀ (Z' : Nat → Prop) (H' : Heap), Ext H1 H' → Old Z1 H1 Z' → ∀ (r0 : Int), K r0 → KK (.int .i64 r0) H') →
    CallH P ff (fa.toList ++ ([.agg #[.int .i64 x0.1, .int .i64 x0.2], .agg #[.int .i64 x1.1, .int .i64 x1.2]] : List Value) ++ fb.toList) H1 KK
theorem Fn145.F.keep {Z Z2 : Nat → Prop} {H H2 : Heap} {ff : Nat} {fa fb : Array Value} {φ : ((Int × Int) → (Int × Int) → (Int → Prop) → Prop)} (h : Fn145.F Z H ff fa fb φ) (hf : Fr Z H Z2 H2) : Fn145.F Z2 H2 ff fa fb φ :=
  ⟨h.1, fun Z1 H1 k => h.2 Z1 H1 (hf.trans k)⟩
theorem Fn145.F.wide {Z Z2 : Nat → Prop} {H : Heap} {ff : Nat} {fa fb : Array Value} {φ : ((Int × Int) → (Int × Int) → (Int → Prop) → Prop)} (h : Fn145.F Z H ff fa fb φ) (hz : ∀ i, Z i → Z2 i) : Fn145.F Z2 H ff fa fb φ := h.keep (Fr.wide hz H)
theorem Fn145.F.step {m : List Nat} {σ σ2 : Nat → Nat} {H H2 : Heap} {ff : Nat} {fa fb : Array Value} {φ : ((Int × Int) → (Int × Int) → (Int → Prop) → Prop)} (h : Fn145.F (Zt σ) H ff fa fb φ) (hs : Stp m σ H σ2 H2) (hm : 0 ∉ m := by decide) : Fn145.F (Zt σ2) H2 ff fa fb φ := h.keep (hs.z hm)
def Fn145.L : Rl ((Int × Int) → (Int × Int) → (Int → Prop) → Prop) where
  sz := 1
  rep := fun Z H φ cs => ∃ (ff : Nat) (fa fb : Array Value), cs = [.func (.func ff) fa fb] ∧ Fn145.F Z H ff fa fb φ
  len := fun ⟨_, _, _, e, _⟩ => by rw [e]; rfl
  flat := fun ⟨_, _, _, e, _⟩ => by rw [e]; rfl
  keep := fun hf ⟨a, b, c, e, h⟩ => ⟨a, b, c, e, h.keep hf⟩
def Arr2_22.L : Rl (Nat × Nat) where
  sz := 2
  rep := fun Z H x cs => cs = [.int .u64 (x.1 : Int), .int .u64 (x.2 : Int)]
  len := fun e => by rw [e]; rfl
  flat := fun e => by rw [e]; rfl
  keep := fun _ e => e
def Arr3_3.L : Rl (Int × Int × Int) where
  sz := 3
  rep := fun Z H x cs => cs = [.int .i64 x.1, .int .i64 x.2.1, .int .i64 x.2.2]
  len := fun e => by rw [e]; rfl
  flat := fun e => by rw [e]; rfl
  keep := fun _ e => e
def poly_At.C (p : Nat) (f : (List Nat)) (x : Nat) (K : Nat → Prop) : Prop :=
  ∀ (Z : Nat → Prop) (H : Heap), ∀ (pv : Int), pv = (p : Int) → ∀ (fA : Option Addr) (fn fc : Nat), fn = f.length → SlF u64L Z H fA fc f → ∀ (xv : Int), xv = (x : Int) → ∀ KK : Value → Heap → Prop,
    (∀ (Z' : Nat → Prop) (H' : Heap), Ext H H' → Old Z H Z' → ∀ (r0 : Nat), ∀ (r0v0 : Int), r0v0 = (r0 : Int) → K r0 → KK (.int .u64 r0v0) H') →
    CallH P N.poly_At [.int .u64 pv, .slice fA fn fc, .int .u64 xv] H KK
def slices_Clone_uint64uint64.C (s : (List Nat)) (K : (List Nat) → Prop) : Prop :=
  ∀ (Z : Nat → Prop) (H : Heap), ∀ (sA : Option Addr) (sn sc : Nat), sn = s.length → SlF u64L Z H sA sc s → ∀ KK : Value → Heap → Prop,
    (∀ (Z' : Nat → Prop) (H' : Heap), Ext H H' → Old Z H Z' → ∀ (r0 : (List Nat)), ∀ (Y0 : Nat → Prop), (∀ i, Y0 i → H.size ≤ i ∧ ¬ Z' i) → ∀ (Ar0_0 : Option Addr) (nr0_0 cr0_0 : Nat), nr0_0 = r0.length → SlO (rdM u64L) 22 Z' Y0 H' Ar0_0 cr0_0 r0 → K r0 → KK (.slice Ar0_0 nr0_0 cr0_0) H') →
    CallH P N.slices_Clone_uint64uint64 [.slice sA sn sc] H KK
def slices_SortFunc_2int2int.C (x : (List (Int × Int))) (K : (List (Int × Int)) → Prop) : Prop :=
  ∀ (Z : Nat → Prop) (τ : Nat → Nat) (H : Heap), (∀ i, τ i ≠ 0 → ¬ Z i) → ∀ (xA : Option Addr) (xn xc : Nat), xn = x.length → SlO (rdM Arr2_3.L) 81 Z (Yt τ 1) H xA xc x → ∀ KK : Value → Heap → Prop,
    (∀ (Z' : Nat → Prop) (τ' : Nat → Nat) (H' : Heap), Turn τ H τ' H' → OldT Z τ H Z' → (∀ i, τ' i ≠ 0 → ¬ Z' i) → ∀ (o0 : List (Int × Int)), o0.length = x.length → SlO (rdM Arr2_3.L) 81 Z' (Yt τ' 1) H' xA xc o0 → K o0 → KK (.tuple #[]) H') →
    CallH P N.slices_SortFunc_2int2int [.slice xA xn xc, .func (.func 107) #[] #[]] H KK
end Go.Proofs.Ytlhcaangdenoaaa.Sh
