import Derived.Test.YtajdpkinlnaidaaSA
import Derived.KernelRfl
import Derived.Test.YtajdpkinlnaidaaProg
import Derived.RangeFuncNested
import Derived.RangeFuncBound
import Derived.RangeFuncCalls
import Derived.RangeFuncLeaves
import Derived.RangeFuncBox
import Derived.Shelf.RegionOpen
import Derived.Shelf.Abstract
import Derived.WalkKit
import Derived.OwnWalkIn
import Derived.TacticsInMore
import Derived.LoopNIn
import Derived.LoopIn
namespace Go.Lf
end Go.Lf
namespace Go.Proofs.Ytajdpkinlnaidaa.Back
end Go.Proofs.Ytajdpkinlnaidaa.Back
namespace Go.Proofs.Ytajdpkinlnaidaa.Pl
end Go.Proofs.Ytajdpkinlnaidaa.Pl
namespace Go.Proofs.Ytajdpkinlnaidaa.Sh
end Go.Proofs.Ytajdpkinlnaidaa.Sh
namespace Go.Proofs.Ytajdpkinlnaidaa.Sp
end Go.Proofs.Ytajdpkinlnaidaa.Sp
namespace Go.Sx
end Go.Sx
section
namespace Go.Proofs.Ytajdpkinlnaidaa.Sh
open Go.Sx
noncomputable abbrev P : Program := Try.prog
def tab : List (Nat × TI) := [
 (3, ⟨.int .i64, .one (.int .i64), [.int .i64 0], 8⟩),
 (4, ⟨.bool, .one (.bool), [.bool false], 1⟩),
 (22, ⟨.int .u64, .one (.int .u64), [.int .u64 0], 8⟩),
 (24, ⟨.struct [(0, .one (.int .u64)), (1, .one (.int .i64)), (2, .one (.int .i64))], .agg [.int .u64, .int .i64, .int .i64], [.int .u64 0, .int .i64 0, .int .i64 0], 24⟩),
 (25, ⟨.slice 3, .one (.slice), [.slice none 0 0], 24⟩),
 (26, ⟨.slice 67, .one (.slice), [.slice none 0 0], 24⟩),
 (27, ⟨.slice 37, .one (.slice), [.slice none 0 0], 24⟩),
 (28, ⟨.slice 76, .one (.slice), [.slice none 0 0], 24⟩),
 (30, ⟨.struct [(0, .agg [.int .u64, .int .i64, .int .i64]), (3, .one (.slice)), (4, .one (.slice)), (5, .one (.slice)), (6, .one (.int .i64)), (7, .one (.slice))], .agg [.int .u64, .int .i64, .int .i64, .slice, .slice, .slice, .int .i64, .slice], [.int .u64 0, .int .i64 0, .int .i64 0, .slice none 0 0, .slice none 0 0, .slice none 0 0, .int .i64 0, .slice none 0 0], 128⟩),
 (31, ⟨.slice 39, .one (.slice), [.slice none 0 0], 24⟩),
 (32, ⟨.slice 42, .one (.slice), [.slice none 0 0], 24⟩),
 (33, ⟨.int .i64, .one (.int .i64), [.int .i64 0], 8⟩),
 (37, ⟨.slice 22, .one (.slice), [.slice none 0 0], 24⟩),
 (39, ⟨.struct [(0, .one (.slice)), (1, .one (.slice))], .agg [.slice, .slice], [.slice none 0 0, .slice none 0 0], 48⟩),
 (42, ⟨.slice 44, .one (.slice), [.slice none 0 0], 24⟩),
 (44, ⟨.struct [(0, .one (.int .u64)), (1, .one (.slice)), (2, .one (.slice))], .agg [.int .u64, .slice, .slice], [.int .u64 0, .slice none 0 0, .slice none 0 0], 56⟩),
 (49, ⟨.slice 84, .one (.slice), [.slice none 0 0], 24⟩),
 (60, ⟨.ptr, .one (.ptr), [.pointer none], 8⟩),
 (61, ⟨.slice 63, .one (.slice), [.slice none 0 0], 24⟩),
 (63, ⟨.slice 108, .one (.slice), [.slice none 0 0], 24⟩),
 (65, ⟨.func, .one (.func), [.nilFunc], 8⟩),
 (67, ⟨.struct [(0, .one (.int .i64)), (1, .one (.int .i64)), (2, .one (.int .i64)), (3, .one (.bool)), (4, .one (.slice))], .agg [.int .i64, .int .i64, .int .i64, .bool, .slice], [.int .i64 0, .int .i64 0, .int .i64 0, .bool false, .slice none 0 0], 56⟩),
 (69, ⟨.slice 71, .one (.slice), [.slice none 0 0], 24⟩),
 (71, ⟨.struct [(0, .one (.int .u64)), (1, .one (.int .u64))], .agg [.int .u64, .int .u64], [.int .u64 0, .int .u64 0], 16⟩),
 (73, ⟨.func, .one (.func), [.nilFunc], 8⟩),
 (76, ⟨.struct [(0, .one (.int .i64)), (1, .one (.int .i64)), (2, .one (.int .i64)), (3, .one (.slice))], .agg [.int .i64, .int .i64, .int .i64, .slice], [.int .i64 0, .int .i64 0, .int .i64 0, .slice none 0 0], 48⟩),
 (84, ⟨.struct [(0, .one (.slice)), (1, .one (.slice))], .agg [.slice, .slice], [.slice none 0 0, .slice none 0 0], 48⟩),
 (92, ⟨.slice 27, .one (.slice), [.slice none 0 0], 24⟩),
 (95, ⟨.ptr, .one (.ptr), [.pointer none], 8⟩),
 (96, ⟨.func, .one (.func), [.nilFunc], 8⟩),
 (98, ⟨.struct [(0, .agg [.int .u64, .int .i64, .int .i64]), (3, .one (.slice)), (4, .one (.func))], .agg [.int .u64, .int .i64, .int .i64, .slice, .func], [.int .u64 0, .int .i64 0, .int .i64 0, .slice none 0 0, .nilFunc], 56⟩),
 (100, ⟨.ptr, .one (.ptr), [.pointer none], 8⟩),
 (101, ⟨.map, .one (.map), [.map none], 8⟩),
 (102, ⟨.map, .one (.map), [.map none], 8⟩),
 (104, ⟨.struct [(0, .one (.ptr)), (1, .one (.slice)), (2, .one (.int .i64)), (3, .one (.slice)), (4, .one (.map)), (5, .one (.map))], .agg [.ptr, .slice, .int .i64, .slice, .map, .map], [.pointer none, .slice none 0 0, .int .i64 0, .slice none 0 0, .map none, .map none], 80⟩),
 (108, ⟨.struct [(0, .agg [.int .u64, .slice, .slice]), (3, .one (.bool))], .agg [.int .u64, .slice, .slice, .bool], [.int .u64 0, .slice none 0 0, .slice none 0 0, .bool false], 64⟩),
 (115, ⟨.map, .one (.map), [.map none], 8⟩),
 (116, ⟨.array 3 3, .agg [.int .i64, .int .i64, .int .i64], [.int .i64 0, .int .i64 0, .int .i64 0], 24⟩),
 (123, ⟨.map, .one (.map), [.map none], 8⟩),
 (124, ⟨.array 2 3, .agg [.int .i64, .int .i64], [.int .i64 0, .int .i64 0], 16⟩),
 (142, ⟨.func, .one (.func), [.nilFunc], 8⟩),
 (148, ⟨.func, .one (.func), [.nilFunc], 8⟩),
 (149, ⟨.ptr, .one (.ptr), [.pointer none], 8⟩),
 (152, ⟨.struct [(0, .one (.int .u64)), (1, .one (.slice)), (2, .one (.int .u64)), (3, .one (.slice))], .agg [.int .u64, .slice, .int .u64, .slice], [.int .u64 0, .slice none 0 0, .int .u64 0, .slice none 0 0], 64⟩)]
def T : Nat → TI := lookTI tab
def R : Nat → List Sh
 | 0 => []
 | 3 => [.one (.int .i64)]
 | 4 => [.one (.bool)]
 | 22 => [.one (.int .u64)]
 | 25 => [.one (.slice)]
 | 26 => [.one (.slice)]
 | 27 => [.one (.slice)]
 | 28 => [.one (.slice)]
 | 30 => [.agg [.int .u64, .int .i64, .int .i64, .slice, .slice, .slice, .int .i64, .slice]]
 | 31 => [.one (.slice)]
 | 32 => [.one (.slice)]
 | 33 => [.one (.int .i64)]
 | 34 => [.one (.slice), .agg [.int .u64, .int .i64, .int .i64, .slice, .slice, .slice, .int .i64, .slice], .one (.int .i64)]
 | 37 => [.one (.slice)]
 | 40 => [.one (.slice), .one (.bool)]
 | 42 => [.one (.slice)]
 | 50 => [.one (.slice), .one (.slice), .agg [.int .u64, .int .i64, .int .i64, .slice, .slice, .slice, .int .i64, .slice], .one (.int .i64)]
 | 60 => [.one (.ptr)]
 | 61 => [.one (.slice)]
 | 63 => [.one (.slice)]
 | 69 => [.one (.slice)]
 | 78 => [.one (.slice), .one (.slice)]
 | 93 => [.one (.slice), .one (.slice)]
 | 108 => [.agg [.int .u64, .slice, .slice, .bool]]
 | 125 => [.agg [.int .i64, .int .i64, .int .i64, .bool, .slice], .one (.bool)]
 | 134 => [.one (.slice), .one (.slice)]
 | 137 => [.one (.slice), .one (.slice), .one (.bool)]
 | 142 => [.one (.func)]
 | 149 => [.one (.ptr)]
 | _ => []
def nf : Nat := 110
theorem bodies : Bodies P nf := Bodies.of (by kernel_rfl)
theorem mixed : P.follows .mixedOrders = true := by kernel_rfl
theorem fit3 : Fits P T 3 ⟨.int .i64, .one (.int .i64), [.int .i64 0], 8⟩ := ⟨Try.underlying3, by kernel_rfl, by kernel_rfl, by kernel_rfl⟩
theorem fit4 : Fits P T 4 ⟨.bool, .one (.bool), [.bool false], 1⟩ := ⟨Try.underlying4, by kernel_rfl, by kernel_rfl, by kernel_rfl⟩
theorem fit22 : Fits P T 22 ⟨.int .u64, .one (.int .u64), [.int .u64 0], 8⟩ := ⟨Try.underlying22, by kernel_rfl, by kernel_rfl, by kernel_rfl⟩
theorem fit24 : Fits P T 24 ⟨.struct [(0, .one (.int .u64)), (1, .one (.int .i64)), (2, .one (.int .i64))], .agg [.int .u64, .int .i64, .int .i64], [.int .u64 0, .int .i64 0, .int .i64 0], 24⟩ := ⟨⟨_, Try.underlying24, by kernel_rfl, by kernel_rfl⟩, by kernel_rfl, by kernel_rfl, by kernel_rfl⟩
theorem fit25 : Fits P T 25 ⟨.slice 3, .one (.slice), [.slice none 0 0], 24⟩ := ⟨⟨Try.underlying25, by kernel_rfl⟩, by kernel_rfl, by kernel_rfl, by kernel_rfl⟩
theorem fit26 : Fits P T 26 ⟨.slice 67, .one (.slice), [.slice none 0 0], 24⟩ := ⟨⟨Try.underlying26, by kernel_rfl⟩, by kernel_rfl, by kernel_rfl, by kernel_rfl⟩
theorem fit27 : Fits P T 27 ⟨.slice 37, .one (.slice), [.slice none 0 0], 24⟩ := ⟨⟨Try.underlying27, by kernel_rfl⟩, by kernel_rfl, by kernel_rfl, by kernel_rfl⟩
theorem fit28 : Fits P T 28 ⟨.slice 76, .one (.slice), [.slice none 0 0], 24⟩ := ⟨⟨Try.underlying28, by kernel_rfl⟩, by kernel_rfl, by kernel_rfl, by kernel_rfl⟩
theorem fit30 : Fits P T 30 ⟨.struct [(0, .agg [.int .u64, .int .i64, .int .i64]), (3, .one (.slice)), (4, .one (.slice)), (5, .one (.slice)), (6, .one (.int .i64)), (7, .one (.slice))], .agg [.int .u64, .int .i64, .int .i64, .slice, .slice, .slice, .int .i64, .slice], [.int .u64 0, .int .i64 0, .int .i64 0, .slice none 0 0, .slice none 0 0, .slice none 0 0, .int .i64 0, .slice none 0 0], 128⟩ := ⟨⟨_, Try.underlying30, by kernel_rfl, by kernel_rfl⟩, by kernel_rfl, by kernel_rfl, by kernel_rfl⟩
theorem fit31 : Fits P T 31 ⟨.slice 39, .one (.slice), [.slice none 0 0], 24⟩ := ⟨⟨Try.underlying31, by kernel_rfl⟩, by kernel_rfl, by kernel_rfl, by kernel_rfl⟩
theorem fit32 : Fits P T 32 ⟨.slice 42, .one (.slice), [.slice none 0 0], 24⟩ := ⟨⟨Try.underlying32, by kernel_rfl⟩, by kernel_rfl, by kernel_rfl, by kernel_rfl⟩
theorem fit33 : Fits P T 33 ⟨.int .i64, .one (.int .i64), [.int .i64 0], 8⟩ := ⟨Try.underlying33, by kernel_rfl, by kernel_rfl, by kernel_rfl⟩
theorem fit37 : Fits P T 37 ⟨.slice 22, .one (.slice), [.slice none 0 0], 24⟩ := ⟨⟨Try.underlying37, by kernel_rfl⟩, by kernel_rfl, by kernel_rfl, by kernel_rfl⟩
theorem fit39 : Fits P T 39 ⟨.struct [(0, .one (.slice)), (1, .one (.slice))], .agg [.slice, .slice], [.slice none 0 0, .slice none 0 0], 48⟩ := ⟨⟨_, Try.underlying39, by kernel_rfl, by kernel_rfl⟩, by kernel_rfl, by kernel_rfl, by kernel_rfl⟩
theorem fit42 : Fits P T 42 ⟨.slice 44, .one (.slice), [.slice none 0 0], 24⟩ := ⟨⟨Try.underlying42, by kernel_rfl⟩, by kernel_rfl, by kernel_rfl, by kernel_rfl⟩
theorem fit44 : Fits P T 44 ⟨.struct [(0, .one (.int .u64)), (1, .one (.slice)), (2, .one (.slice))], .agg [.int .u64, .slice, .slice], [.int .u64 0, .slice none 0 0, .slice none 0 0], 56⟩ := ⟨⟨_, Try.underlying44, by kernel_rfl, by kernel_rfl⟩, by kernel_rfl, by kernel_rfl, by kernel_rfl⟩
theorem fit49 : Fits P T 49 ⟨.slice 84, .one (.slice), [.slice none 0 0], 24⟩ := ⟨⟨Try.underlying49, by kernel_rfl⟩, by kernel_rfl, by kernel_rfl, by kernel_rfl⟩
theorem fit60 : Fits P T 60 ⟨.ptr, .one (.ptr), [.pointer none], 8⟩ := ⟨⟨_, Try.underlying60⟩, by kernel_rfl, by kernel_rfl, by kernel_rfl⟩
theorem fit61 : Fits P T 61 ⟨.slice 63, .one (.slice), [.slice none 0 0], 24⟩ := ⟨⟨Try.underlying61, by kernel_rfl⟩, by kernel_rfl, by kernel_rfl, by kernel_rfl⟩
theorem fit63 : Fits P T 63 ⟨.slice 108, .one (.slice), [.slice none 0 0], 24⟩ := ⟨⟨Try.underlying63, by kernel_rfl⟩, by kernel_rfl, by kernel_rfl, by kernel_rfl⟩
theorem fit65 : Fits P T 65 ⟨.func, .one (.func), [.nilFunc], 8⟩ := ⟨⟨_, _, _, Try.underlying65⟩, by kernel_rfl, by kernel_rfl, by kernel_rfl⟩
theorem fit67 : Fits P T 67 ⟨.struct [(0, .one (.int .i64)), (1, .one (.int .i64)), (2, .one (.int .i64)), (3, .one (.bool)), (4, .one (.slice))], .agg [.int .i64, .int .i64, .int .i64, .bool, .slice], [.int .i64 0, .int .i64 0, .int .i64 0, .bool false, .slice none 0 0], 56⟩ := ⟨⟨_, Try.underlying67, by kernel_rfl, by kernel_rfl⟩, by kernel_rfl, by kernel_rfl, by kernel_rfl⟩
theorem fit69 : Fits P T 69 ⟨.slice 71, .one (.slice), [.slice none 0 0], 24⟩ := ⟨⟨Try.underlying69, by kernel_rfl⟩, by kernel_rfl, by kernel_rfl, by kernel_rfl⟩
theorem fit71 : Fits P T 71 ⟨.struct [(0, .one (.int .u64)), (1, .one (.int .u64))], .agg [.int .u64, .int .u64], [.int .u64 0, .int .u64 0], 16⟩ := ⟨⟨_, Try.underlying71, by kernel_rfl, by kernel_rfl⟩, by kernel_rfl, by kernel_rfl, by kernel_rfl⟩
theorem fit73 : Fits P T 73 ⟨.func, .one (.func), [.nilFunc], 8⟩ := ⟨⟨_, _, _, Try.underlying73⟩, by kernel_rfl, by kernel_rfl, by kernel_rfl⟩
theorem fit76 : Fits P T 76 ⟨.struct [(0, .one (.int .i64)), (1, .one (.int .i64)), (2, .one (.int .i64)), (3, .one (.slice))], .agg [.int .i64, .int .i64, .int .i64, .slice], [.int .i64 0, .int .i64 0, .int .i64 0, .slice none 0 0], 48⟩ := ⟨⟨_, Try.underlying76, by kernel_rfl, by kernel_rfl⟩, by kernel_rfl, by kernel_rfl, by kernel_rfl⟩
theorem fit84 : Fits P T 84 ⟨.struct [(0, .one (.slice)), (1, .one (.slice))], .agg [.slice, .slice], [.slice none 0 0, .slice none 0 0], 48⟩ := ⟨⟨_, Try.underlying84, by kernel_rfl, by kernel_rfl⟩, by kernel_rfl, by kernel_rfl, by kernel_rfl⟩
theorem fit92 : Fits P T 92 ⟨.slice 27, .one (.slice), [.slice none 0 0], 24⟩ := ⟨⟨Try.underlying92, by kernel_rfl⟩, by kernel_rfl, by kernel_rfl, by kernel_rfl⟩
theorem fit95 : Fits P T 95 ⟨.ptr, .one (.ptr), [.pointer none], 8⟩ := ⟨⟨_, Try.underlying95⟩, by kernel_rfl, by kernel_rfl, by kernel_rfl⟩
theorem fit96 : Fits P T 96 ⟨.func, .one (.func), [.nilFunc], 8⟩ := ⟨⟨_, _, _, Try.underlying96⟩, by kernel_rfl, by kernel_rfl, by kernel_rfl⟩
theorem fit98 : Fits P T 98 ⟨.struct [(0, .agg [.int .u64, .int .i64, .int .i64]), (3, .one (.slice)), (4, .one (.func))], .agg [.int .u64, .int .i64, .int .i64, .slice, .func], [.int .u64 0, .int .i64 0, .int .i64 0, .slice none 0 0, .nilFunc], 56⟩ := ⟨⟨_, Try.underlying98, by kernel_rfl, by kernel_rfl⟩, by kernel_rfl, by kernel_rfl, by kernel_rfl⟩
theorem fit100 : Fits P T 100 ⟨.ptr, .one (.ptr), [.pointer none], 8⟩ := ⟨⟨_, Try.underlying100⟩, by kernel_rfl, by kernel_rfl, by kernel_rfl⟩
theorem fit101 : Fits P T 101 ⟨.map, .one (.map), [.map none], 8⟩ := ⟨⟨_, _, Try.underlying101⟩, by kernel_rfl, by kernel_rfl, by kernel_rfl⟩
theorem fit102 : Fits P T 102 ⟨.map, .one (.map), [.map none], 8⟩ := ⟨⟨_, _, Try.underlying102⟩, by kernel_rfl, by kernel_rfl, by kernel_rfl⟩
theorem fit104 : Fits P T 104 ⟨.struct [(0, .one (.ptr)), (1, .one (.slice)), (2, .one (.int .i64)), (3, .one (.slice)), (4, .one (.map)), (5, .one (.map))], .agg [.ptr, .slice, .int .i64, .slice, .map, .map], [.pointer none, .slice none 0 0, .int .i64 0, .slice none 0 0, .map none, .map none], 80⟩ := ⟨⟨_, Try.underlying104, by kernel_rfl, by kernel_rfl⟩, by kernel_rfl, by kernel_rfl, by kernel_rfl⟩
theorem fit108 : Fits P T 108 ⟨.struct [(0, .agg [.int .u64, .slice, .slice]), (3, .one (.bool))], .agg [.int .u64, .slice, .slice, .bool], [.int .u64 0, .slice none 0 0, .slice none 0 0, .bool false], 64⟩ := ⟨⟨_, Try.underlying108, by kernel_rfl, by kernel_rfl⟩, by kernel_rfl, by kernel_rfl, by kernel_rfl⟩
theorem fit115 : Fits P T 115 ⟨.map, .one (.map), [.map none], 8⟩ := ⟨⟨_, _, Try.underlying115⟩, by kernel_rfl, by kernel_rfl, by kernel_rfl⟩
theorem fit116 : Fits P T 116 ⟨.array 3 3, .agg [.int .i64, .int .i64, .int .i64], [.int .i64 0, .int .i64 0, .int .i64 0], 24⟩ := ⟨⟨Try.underlying116, by kernel_rfl⟩, by kernel_rfl, by kernel_rfl, by kernel_rfl⟩
theorem fit123 : Fits P T 123 ⟨.map, .one (.map), [.map none], 8⟩ := ⟨⟨_, _, Try.underlying123⟩, by kernel_rfl, by kernel_rfl, by kernel_rfl⟩
theorem fit124 : Fits P T 124 ⟨.array 2 3, .agg [.int .i64, .int .i64], [.int .i64 0, .int .i64 0], 16⟩ := ⟨⟨Try.underlying124, by kernel_rfl⟩, by kernel_rfl, by kernel_rfl, by kernel_rfl⟩
theorem fit142 : Fits P T 142 ⟨.func, .one (.func), [.nilFunc], 8⟩ := ⟨⟨_, _, _, Try.underlying142⟩, by kernel_rfl, by kernel_rfl, by kernel_rfl⟩
theorem fit148 : Fits P T 148 ⟨.func, .one (.func), [.nilFunc], 8⟩ := ⟨⟨_, _, _, Try.underlying148⟩, by kernel_rfl, by kernel_rfl, by kernel_rfl⟩
theorem fit149 : Fits P T 149 ⟨.ptr, .one (.ptr), [.pointer none], 8⟩ := ⟨⟨_, Try.underlying149⟩, by kernel_rfl, by kernel_rfl, by kernel_rfl⟩
theorem fit152 : Fits P T 152 ⟨.struct [(0, .one (.int .u64)), (1, .one (.slice)), (2, .one (.int .u64)), (3, .one (.slice))], .agg [.int .u64, .slice, .int .u64, .slice], [.int .u64 0, .slice none 0 0, .int .u64 0, .slice none 0 0], 64⟩ := ⟨⟨_, Try.underlying152, by kernel_rfl, by kernel_rfl⟩, by kernel_rfl, by kernel_rfl, by kernel_rfl⟩
theorem fits : AllFit P T := fits_lookTI (by
 simp only [tab, List.forall_mem_cons]
 exact ⟨fit3, fit4, fit22, fit24, fit25, fit26, fit27, fit28, fit30, fit31, fit32, fit33, fit37, fit39, fit42, fit44, fit49, fit60, fit61, fit63, fit65, fit67, fit69, fit71, fit73, fit76, fit84, fit92, fit95, fit96, fit98, fit100, fit101, fit102, fit104, fit108, fit115, fit116, fit123, fit124, fit142, fit148, fit149, fit152, fun _ h => by cases h⟩)
theorem okW {k : FuncId} {F : Func} {n : Nat} {vs : List Value} {H : Heap} {R : Value → Heap → Prop} {W : Prop} (hf : P.funcs[k]? = some F) (hb : F.body = some (bodyOf F)) (hn : F.ntmps = n) (A : Ann) (hc : codeChk T A (bodyOf F) = true)
   (e : W = sxFn P T Sh.R nf A F.results.toList (bodyOf F) (vs ++ List.replicate (n - vs.length) undef) H R) (h : W) : CallH P k vs H R :=
 call_of_sx fits bodies mixed hf hb hn A hc (e.mp h)
namespace N
abbrev juntolaw22_TimesBlame : Nat := 5
abbrev juntoref20_Line : Nat := 8
abbrev juntoref01_Same : Nat := 9
abbrev juntoref02_Eval : Nat := 10
abbrev times_All : Nat := 12
abbrev juntoref22_Error : Nat := 13
abbrev juntoref17_Is : Nat := 14
abbrev juntolaw22_alive : Nat := 15
abbrev net_Check : Nat := 16
abbrev net_Group : Nat := 17
abbrev open_check : Nat := 18
abbrev net_Room : Nat := 19
abbrev net_Play : Nat := 20
abbrev open_Play : Nat := 22
abbrev open_Bare : Nat := 23
abbrev juntoref04_Line : Nat := 25
abbrev juntoref01_Add : Nat := 26
abbrev juntoref01_Mul : Nat := 27
abbrev times_Check : Nat := 30
abbrev times_All_1 : Nat := 31
abbrev times_Play : Nat := 32
abbrev juntoref22_Lists : Nat := 33
abbrev juntoref20_Error : Nat := 34
abbrev juntoref22_Masked : Nat := 35
abbrev share_Corrupted : Nat := 36
abbrev net_acts : Nat := 37
abbrev share_Setup : Nat := 38
abbrev net_Parties : Nat := 39
abbrev open_Are : Nat := 40
abbrev open_Fits : Nat := 41
abbrev net_Clone : Nat := 42
abbrev net_Lay : Nat := 43
abbrev net_Play_1 : Nat := 44
abbrev net_swap : Nat := 45
abbrev slices_Clone_uint64uint64 : Nat := 46
abbrev open_telling_round : Nat := 47
abbrev open_telling_read : Nat := 48
abbrev open_telling_of : Nat := 49
abbrev juntoref02_Through : Nat := 50
abbrev times_Shares : Nat := 51
abbrev open_Public : Nat := 52
abbrev times_Less : Nat := 53
abbrev juntoref17_Check : Nat := 54
abbrev juntoref17_Group : Nat := 55
abbrev juntoref01_Within : Nat := 56
abbrev juntoref04_Rising : Nat := 57
abbrev slices_Contains_intint : Nat := 58
abbrev field_Is : Nat := 59
abbrev field_Below : Nat := 60
abbrev open_straight : Nat := 61
abbrev slices_Clone_intint : Nat := 62
abbrev slices_Clone_juntoapiActjuntoapiAct : Nat := 63
abbrev slices_Clone_LLuint64Luint64 : Nat := 64
abbrev slices_Clone_juntoapiSentjuntoapiSent : Nat := 65
abbrev net_swap_1 : Nat := 66
abbrev net_Blank : Nat := 67
abbrev net_Table_Round : Nat := 68
abbrev net_Of : Nat := 69
abbrev open_Decode : Nat := 70
abbrev juntoref02_Add : Nat := 71
abbrev juntoref02_Scale : Nat := 72
abbrev juntoref02_unit : Nat := 73
abbrev juntoref02_Places : Nat := 74
abbrev field_Plus : Nat := 75
abbrev field_Times : Nat := 76
abbrev field_Minus : Nat := 77
abbrev juntoref04_Corrupted : Nat := 78
abbrev juntoref17_Ahead : Nat := 79
abbrev juntoref04_Setup : Nat := 80
abbrev slices_Index_intint : Nat := 81
abbrev poly_Fit : Nat := 82
abbrev poly_At : Nat := 83
abbrev field_Take : Nat := 84
abbrev open_points : Nat := 85
abbrev decode_Find : Nat := 86
abbrev poly_Short : Nat := 87
abbrev juntoref02_at : Nat := 88
abbrev juntoref02_Trim : Nat := 89
abbrev juntoref02_Mul : Nat := 90
abbrev juntoref01_Sub : Nat := 91
abbrev juntoref01_Inv : Nat := 92
abbrev field_mul : Nat := 93
abbrev juntoref01_Is : Nat := 94
abbrev field_Over : Nat := 95
abbrev poly_Times : Nat := 96
abbrev poly_Plus : Nat := 97
abbrev matrix_Answer : Nat := 99
abbrev poly_Over : Nat := 100
abbrev decode_off : Nat := 101
abbrev juntoref01_Pow : Nat := 102
abbrev field_pow : Nat := 103
abbrev poly_each : Nat := 104
abbrev matrix_own : Nat := 106
abbrev matrix_grid_reduce : Nat := 107
abbrev matrix_grid_lift : Nat := 108
abbrev matrix_grid_add : Nat := 109
end N
end Go.Proofs.Ytajdpkinlnaidaa.Sh
set_option linter.unusedVariables false
set_option maxRecDepth 100000
namespace Go.Proofs.Ytajdpkinlnaidaa.Sh
open Go.Sx Go.Lf
structure TSetup where
 P : Nat
 N : Int
 T_ : Int
def TSetup.L : Rl TSetup where
 sz := 3
 rep := fun Z H x cs => cs = [.int .u64 (x.P : Int), .int .i64 x.N, .int .i64 x.T_]
 len := fun e => by rw [e]; rfl
 flat := fun e => by rw [e]; rfl
 keep := fun _ e => e
structure TAct where
 Round : Int
 From : Int
 To : Int
 Silent : Bool
 Data : (List Nat)
def TAct.L : Rl TAct where
 sz := 5
 rep := fun Z H x cs => ∃ (A4 : Option Addr) (c4 : Nat), cs = [.int .i64 x.Round, .int .i64 x.From, .int .i64 x.To, .bool x.Silent, .slice A4 x.Data.length c4] ∧ SlF u64L Z H A4 c4 x.Data
 len := fun ⟨A4, c4, e, h4⟩ => by rw [e]; rfl
 flat := fun ⟨A4, c4, e, h4⟩ => by rw [e]; rfl
 keep := fun hf ⟨A4, c4, e, h4⟩ => ⟨A4, c4, e, h4.keep hf⟩
 sm := fun n x => ((slL u64L)).sm n x.Data
theorem TAct.zero (Z Y : Nat → Prop) (H : Heap) : (rdM TAct.L).rep Z Y H (⟨0, 0, 0, false, []⟩ : TAct) [.int .i64 0, .int .i64 0, .int .i64 0, .bool false, .slice none 0 0] := ⟨none, 0, rfl, SlF.nil _ _ _ _ _⟩
structure TSent where
 Round : Int
 From : Int
 To : Int
 Data : (List Nat)
def TSent.L : Rl TSent where
 sz := 4
 rep := fun Z H x cs => ∃ (A3 : Option Addr) (c3 : Nat), cs = [.int .i64 x.Round, .int .i64 x.From, .int .i64 x.To, .slice A3 x.Data.length c3] ∧ SlF u64L Z H A3 c3 x.Data
 len := fun ⟨A3, c3, e, h3⟩ => by rw [e]; rfl
 flat := fun ⟨A3, c3, e, h3⟩ => by rw [e]; rfl
 keep := fun hf ⟨A3, c3, e, h3⟩ => ⟨A3, c3, e, h3.keep hf⟩
 sm := fun n x => ((slL u64L)).sm n x.Data
structure TWorld where
 Setup : TSetup
 Corrupted : (List Int)
 Acts : (List TAct)
 Tapes : (List (List Nat))
 Round : Int
 Sent : (List TSent)
def TWorld.L : Rl TWorld where
 sz := 8
 rep := fun Z H x cs => ∃ (A3 : Option Addr) (c3 : Nat) (A4 : Option Addr) (c4 : Nat) (A5 : Option Addr) (c5 : Nat) (A7 : Option Addr) (c7 : Nat), cs = [.int .u64 (x.Setup.P : Int), .int .i64 x.Setup.N, .int .i64 x.Setup.T_, .slice A3 x.Corrupted.length c3, .slice A4 x.Acts.length c4, .slice A5 x.Tapes.length c5, .int .i64 x.Round, .slice A7 x.Sent.length c7] ∧ SlF i64L Z H A3 c3 x.Corrupted ∧ SlF TAct.L Z H A4 c4 x.Acts ∧ SlF (slL u64L) Z H A5 c5 x.Tapes ∧ SlF TSent.L Z H A7 c7 x.Sent
 len := fun ⟨A3, c3, A4, c4, A5, c5, A7, c7, e, h3, h4, h5, h7⟩ => by rw [e]; rfl
 flat := fun ⟨A3, c3, A4, c4, A5, c5, A7, c7, e, h3, h4, h5, h7⟩ => by rw [e]; rfl
 keep := fun hf ⟨A3, c3, A4, c4, A5, c5, A7, c7, e, h3, h4, h5, h7⟩ => ⟨A3, c3, A4, c4, A5, c5, A7, c7, e, h3.keep hf, h4.keep hf, h5.keep hf, h7.keep hf⟩
 sm := fun n x => ((slL i64L)).sm n x.Corrupted ∧ ((slL TAct.L)).sm n x.Acts ∧ ((slL (slL u64L))).sm n x.Tapes ∧ ((slL TSent.L)).sm n x.Sent
def Fn73.F (Z : Nat → Prop) (H : Heap) (ff : Nat) (fa fb : Array Value) (φ : (Nat → Nat → Nat → (Nat → Prop) → Prop)) : Prop :=
 hasB nf ff = true ∧ ∀ (Z1 : Nat → Prop) (H1 : Heap), Fr Z H Z1 H1 → ∀ (x0 : Nat) (x1 : Nat) (x2 : Nat) (K : Nat → Prop), φ x0 x1 x2 K → ∀ (v0_0 : Int), v0_0 = (x0 : Int) → ∀ (v1_0 : Int), v1_0 = (x1 : Int) → ∀ (v2_0 : Int), v2_0 = (x2 : Int) → ∀ KK : Value → Heap → Prop,
   (∀ (Z' : Nat → Prop) (H' : Heap), Ext H1 H' → Old Z1 H1 Z' → ∀ (r0 : Nat), ∀ (r0v0 : Int), r0v0 = (r0 : Int) → K r0 → KK (.int .u64 r0v0) H') →
   CallH P ff (fa.toList ++ ([.int .u64 v0_0, .int .u64 v1_0, .int .u64 v2_0] : List Value) ++ fb.toList) H1 KK
theorem Fn73.F.keep {Z Z2 : Nat → Prop} {H H2 : Heap} {ff : Nat} {fa fb : Array Value} {φ : (Nat → Nat → Nat → (Nat → Prop) → Prop)} (h : Fn73.F Z H ff fa fb φ) (hf : Fr Z H Z2 H2) : Fn73.F Z2 H2 ff fa fb φ :=
 ⟨h.1, fun Z1 H1 k => h.2 Z1 H1 (hf.trans k)⟩
theorem Fn73.F.wide {Z Z2 : Nat → Prop} {H : Heap} {ff : Nat} {fa fb : Array Value} {φ : (Nat → Nat → Nat → (Nat → Prop) → Prop)} (h : Fn73.F Z H ff fa fb φ) (hz : ∀ i, Z i → Z2 i) : Fn73.F Z2 H ff fa fb φ := h.keep (Fr.wide hz H)
theorem Fn73.F.step {m : List Nat} {σ σ2 : Nat → Nat} {H H2 : Heap} {ff : Nat} {fa fb : Array Value} {φ : (Nat → Nat → Nat → (Nat → Prop) → Prop)} (h : Fn73.F (Zt σ) H ff fa fb φ) (hs : Stp m σ H σ2 H2) (hm : 0 ∉ m := by decide) : Fn73.F (Zt σ2) H2 ff fa fb φ := h.keep (hs.z hm)
structure TPoint where
 X : Nat
 Y : Nat
def TPoint.L : Rl TPoint where
 sz := 2
 rep := fun Z H x cs => cs = [.int .u64 (x.X : Int), .int .u64 (x.Y : Int)]
 len := fun e => by rw [e]; rfl
 flat := fun e => by rw [e]; rfl
 keep := fun _ e => e
theorem TPoint.zero (Z Y : Nat → Prop) (H : Heap) : (rdM TPoint.L).rep Z Y H (⟨0, 0⟩ : TPoint) [.int .u64 0, .int .u64 0] := rfl
structure TSecret where
 To : (List Int)
 Shares : (List Nat)
def TSecret.L : Rl TSecret where
 sz := 2
 rep := fun Z H x cs => ∃ (A0 : Option Addr) (c0 : Nat) (A1 : Option Addr) (c1 : Nat), cs = [.slice A0 x.To.length c0, .slice A1 x.Shares.length c1] ∧ SlF i64L Z H A0 c0 x.To ∧ SlF u64L Z H A1 c1 x.Shares
 len := fun ⟨A0, c0, A1, c1, e, h0, h1⟩ => by rw [e]; rfl
 flat := fun ⟨A0, c0, A1, c1, e, h0, h1⟩ => by rw [e]; rfl
 keep := fun hf ⟨A0, c0, A1, c1, e, h0, h1⟩ => ⟨A0, c0, A1, c1, e, h0.keep hf, h1.keep hf⟩
 sm := fun n x => ((slL i64L)).sm n x.To ∧ ((slL u64L)).sm n x.Shares
structure TTable where
 Setup : TSetup
 tapes : (List (List Nat))
structure TGrid where
 p : Nat
 rows : (List (List Nat))
 det : Nat
 lead : (List Int)
structure TOpened where
 Value : Nat
 Poly : (List Nat)
 Wrong : (List Int)
def TOpened.L : Rl TOpened where
 sz := 3
 rep := fun Z H x cs => ∃ (A1 : Option Addr) (c1 : Nat) (A2 : Option Addr) (c2 : Nat), cs = [.int .u64 (x.Value : Int), .slice A1 x.Poly.length c1, .slice A2 x.Wrong.length c2] ∧ SlF u64L Z H A1 c1 x.Poly ∧ SlF i64L Z H A2 c2 x.Wrong
 len := fun ⟨A1, c1, A2, c2, e, h1, h2⟩ => by rw [e]; rfl
 flat := fun ⟨A1, c1, A2, c2, e, h1, h2⟩ => by rw [e]; rfl
 keep := fun hf ⟨A1, c1, A2, c2, e, h1, h2⟩ => ⟨A1, c1, A2, c2, e, h1.keep hf, h2.keep hf⟩
 sm := fun n x => ((slL u64L)).sm n x.Poly ∧ ((slL i64L)).sm n x.Wrong
structure TGot where
 Opened : TOpened
 Ok : Bool
def TGot.L : Rl TGot where
 sz := 4
 rep := fun Z H x cs => ∃ (A1 : Option Addr) (c1 : Nat) (A2 : Option Addr) (c2 : Nat), cs = [.int .u64 (x.Opened.Value : Int), .slice A1 x.Opened.Poly.length c1, .slice A2 x.Opened.Wrong.length c2, .bool x.Ok] ∧ SlF u64L Z H A1 c1 x.Opened.Poly ∧ SlF i64L Z H A2 c2 x.Opened.Wrong
 len := fun ⟨A1, c1, A2, c2, e, h1, h2⟩ => by rw [e]; rfl
 flat := fun ⟨A1, c1, A2, c2, e, h1, h2⟩ => by rw [e]; rfl
 keep := fun hf ⟨A1, c1, A2, c2, e, h1, h2⟩ => ⟨A1, c1, A2, c2, e, h1.keep hf, h2.keep hf⟩
 sm := fun n x => (TOpened.L).sm n x.Opened
structure TMask where
 Low : (List Nat)
 High : (List Nat)
def TMask.L : Rl TMask where
 sz := 2
 rep := fun Z H x cs => ∃ (A0 : Option Addr) (c0 : Nat) (A1 : Option Addr) (c1 : Nat), cs = [.slice A0 x.Low.length c0, .slice A1 x.High.length c1] ∧ SlF u64L Z H A0 c0 x.Low ∧ SlF u64L Z H A1 c1 x.High
 len := fun ⟨A0, c0, A1, c1, e, h0, h1⟩ => by rw [e]; rfl
 flat := fun ⟨A0, c0, A1, c1, e, h0, h1⟩ => by rw [e]; rfl
 keep := fun hf ⟨A0, c0, A1, c1, e, h0, h1⟩ => ⟨A0, c0, A1, c1, e, h0.keep hf, h1.keep hf⟩
 sm := fun n x => ((slL u64L)).sm n x.Low ∧ ((slL u64L)).sm n x.High
abbrev Key116.e (k : (Int × Int × Int)) : Value := .agg #[.int .i64 k.1, .int .i64 k.2.1, .int .i64 k.2.2]
theorem Key116.ops : KeyOps P 116 Key116.e := keyArr (q := .i64) (enc := fun k : (Int × Int × Int) => [k.1, k.2.1, k.2.2]) (fun a b h => by simp at h; simp [Prod.ext_iff, h]) (fun _ => rfl) Try.underlying116 (e := 3) (i := _) rfl (by kernel_rfl) Try.underlying3
theorem Zero4.run : ∀ w, (zeroValue 4).run P w = .ok (.bool false) w := fun w => by kernel_rfl
abbrev Key124.e (k : (Int × Int)) : Value := .agg #[.int .i64 k.1, .int .i64 k.2]
theorem Key124.ops : KeyOps P 124 Key124.e := keyArr (q := .i64) (enc := fun k : (Int × Int) => [k.1, k.2]) (fun a b h => by simp at h; simp [Prod.ext_iff, h]) (fun _ => rfl) Try.underlying124 (e := 3) (i := _) rfl (by kernel_rfl) Try.underlying3
theorem Zero67.run : ∀ w, (zeroValue 67).run P w = .ok (.agg #[.int .i64 0, .int .i64 0, .int .i64 0, .bool false, .slice none 0 0]) w := fun w => by kernel_rfl
abbrev Key3.e (k : Int) : Value := .int .i64 k
theorem Key3.ops : KeyOps P 3 Key3.e := keyInt Try.underlying3
theorem Zero37.run : ∀ w, (zeroValue 37).run P w = .ok (.slice none 0 0) w := fun w => by kernel_rfl
def slices_Clone_uint64uint64.C (s : (List Nat)) (K : (List Nat) → Prop) : Prop :=
 ∀ (Z : Nat → Prop) (H : Heap), ∀ (sA : Option Addr) (sn sc : Nat), sn = s.length → SlF u64L Z H sA sc s → ∀ KK : Value → Heap → Prop,
   (∀ (Z' : Nat → Prop) (H' : Heap), Ext H H' → Old Z H Z' → ∀ (r0 : (List Nat)), ∀ (Y0 : Nat → Prop), (∀ i, Y0 i → H.size ≤ i ∧ ¬ Z' i) → ∀ (Ar0_0 : Option Addr) (nr0_0 cr0_0 : Nat), nr0_0 = r0.length → SlO (rdM u64L) 22 Z' Y0 H' Ar0_0 cr0_0 r0 → K r0 → KK (.slice Ar0_0 nr0_0 cr0_0) H') →
   CallH P N.slices_Clone_uint64uint64 [.slice sA sn sc] H KK
def poly_At.C (p : Nat) (f : (List Nat)) (x : Nat) (K : Nat → Prop) : Prop :=
 ∀ (Z : Nat → Prop) (H : Heap), ∀ (pv : Int), pv = (p : Int) → ∀ (fA : Option Addr) (fn fc : Nat), fn = f.length → SlF u64L Z H fA fc f → ∀ (xv : Int), xv = (x : Int) → ∀ KK : Value → Heap → Prop,
   (∀ (Z' : Nat → Prop) (H' : Heap), Ext H H' → Old Z H Z' → ∀ (r0 : Nat), ∀ (r0v0 : Int), r0v0 = (r0 : Int) → K r0 → KK (.int .u64 r0v0) H') →
   CallH P N.poly_At [.int .u64 pv, .slice fA fn fc, .int .u64 xv] H KK
def slices_Clone_intint.C (s : (List Int)) (K : (List Int) → Prop) : Prop :=
 ∀ (Z : Nat → Prop) (H : Heap), ∀ (sA : Option Addr) (sn sc : Nat), sn = s.length → SlF i64L Z H sA sc s → ∀ KK : Value → Heap → Prop,
   (∀ (Z' : Nat → Prop) (H' : Heap), Ext H H' → Old Z H Z' → ∀ (r0 : (List Int)), ∀ (Y0 : Nat → Prop), (∀ i, Y0 i → H.size ≤ i ∧ ¬ Z' i) → ∀ (Ar0_0 : Option Addr) (nr0_0 cr0_0 : Nat), nr0_0 = r0.length → SlO (rdM i64L) 3 Z' Y0 H' Ar0_0 cr0_0 r0 → K r0 → KK (.slice Ar0_0 nr0_0 cr0_0) H') →
   CallH P N.slices_Clone_intint [.slice sA sn sc] H KK
def slices_Clone_juntoapiActjuntoapiAct.C (s : (List TAct)) (K : (List TAct) → Prop) : Prop :=
 ∀ (Z : Nat → Prop) (H : Heap), ∀ (sA : Option Addr) (sn sc : Nat), sn = s.length → SlF TAct.L Z H sA sc s → ∀ KK : Value → Heap → Prop,
   (∀ (Z' : Nat → Prop) (H' : Heap), Ext H H' → Old Z H Z' → ∀ (r0 : (List TAct)), ∀ (Y0 : Nat → Prop), (∀ i, Y0 i → H.size ≤ i ∧ ¬ Z' i) → ∀ (Ar0_0 : Option Addr) (nr0_0 cr0_0 : Nat), nr0_0 = r0.length → SlO (rdM TAct.L) 67 Z' Y0 H' Ar0_0 cr0_0 r0 → K r0 → KK (.slice Ar0_0 nr0_0 cr0_0) H') →
   CallH P N.slices_Clone_juntoapiActjuntoapiAct [.slice sA sn sc] H KK
def slices_Clone_LLuint64Luint64.C (s : (List (List Nat))) (K : (List (List Nat)) → Prop) : Prop :=
 ∀ (Z : Nat → Prop) (H : Heap), ∀ (sA : Option Addr) (sn sc : Nat), sn = s.length → SlF (slL u64L) Z H sA sc s → ∀ KK : Value → Heap → Prop,
   (∀ (Z' : Nat → Prop) (H' : Heap), Ext H H' → Old Z H Z' → ∀ (r0 : (List (List Nat))), ∀ (Y0 : Nat → Prop), (∀ i, Y0 i → H.size ≤ i ∧ ¬ Z' i) → ∀ (Ar0_0 : Option Addr) (nr0_0 cr0_0 : Nat), nr0_0 = r0.length → SlO (rdM (slL u64L)) 37 Z' Y0 H' Ar0_0 cr0_0 r0 → K r0 → KK (.slice Ar0_0 nr0_0 cr0_0) H') →
   CallH P N.slices_Clone_LLuint64Luint64 [.slice sA sn sc] H KK
def slices_Clone_juntoapiSentjuntoapiSent.C (s : (List TSent)) (K : (List TSent) → Prop) : Prop :=
 ∀ (Z : Nat → Prop) (H : Heap), ∀ (sA : Option Addr) (sn sc : Nat), sn = s.length → SlF TSent.L Z H sA sc s → ∀ KK : Value → Heap → Prop,
   (∀ (Z' : Nat → Prop) (H' : Heap), Ext H H' → Old Z H Z' → ∀ (r0 : (List TSent)), ∀ (Y0 : Nat → Prop), (∀ i, Y0 i → H.size ≤ i ∧ ¬ Z' i) → ∀ (Ar0_0 : Option Addr) (nr0_0 cr0_0 : Nat), nr0_0 = r0.length → SlO (rdM TSent.L) 76 Z' Y0 H' Ar0_0 cr0_0 r0 → K r0 → KK (.slice Ar0_0 nr0_0 cr0_0) H') →
   CallH P N.slices_Clone_juntoapiSentjuntoapiSent [.slice sA sn sc] H KK
end Go.Proofs.Ytajdpkinlnaidaa.Sh
end
section
set_option linter.unusedVariables false
set_option maxRecDepth 100000
namespace Go.Proofs.Ytajdpkinlnaidaa.Sh
open Go.Sx Go.Lf
theorem rep_of {α : Type} {E : Rl α} {Z : Nat → Prop} {H : Heap} {y : α} {cs cs' : List Value} (h : E.rep Z H y cs) (e : cs = cs') : E.rep Z H y cs' := e ▸ h
theorem TSetup.opens : OpensL Try.prog 24 TSetup.L := by
 intro I enc w held fuel cs x h hw
 obtain ⟨hlen, hf⟩ := open_struct Try.underlying24 h hw
 replace hlen := hlen.trans (show Try.prog.cellsOf 24 = 3 by kernel_rfl)
 obtain ⟨v0, cs0, rfl, hl0⟩ := list_s hlen
 obtain ⟨v1, cs1, rfl, hl1⟩ := list_s hl0
 obtain ⟨v2, cs2, rfl, hl2⟩ := list_s hl1
 obtain rfl := list_0 hl2
 obtain ⟨y0, g0, s0⟩ := hf 0 _ rfl (k := 1) (o := 0) (opens_u64 Try.underlying22) (by kernel_rfl) rfl
 replace g0 := rep_of g0 (show _ = [v0] from rfl)
 cases g0
 obtain ⟨y1, g1, s1⟩ := hf 1 _ rfl (k := 1) (o := 1) (opens_i64 Try.underlying3) (by kernel_rfl) rfl
 replace g1 := rep_of g1 (show _ = [v1] from rfl)
 cases g1
 obtain ⟨y2, g2, s2⟩ := hf 2 _ rfl (k := 1) (o := 2) (opens_i64 Try.underlying3) (by kernel_rfl) rfl
 replace g2 := rep_of g2 (show _ = [v2] from rfl)
 cases g2
 exact ⟨(⟨y0, y1, y2⟩ : TSetup), rfl, fun μ n hm hx => trivial⟩
theorem TAct.opens : OpensL Try.prog 67 TAct.L := by
 intro I enc w held fuel cs x h hw
 obtain ⟨hlen, hf⟩ := open_struct Try.underlying67 h hw
 replace hlen := hlen.trans (show Try.prog.cellsOf 67 = 5 by kernel_rfl)
 obtain ⟨v0, cs0, rfl, hl0⟩ := list_s hlen
 obtain ⟨v1, cs1, rfl, hl1⟩ := list_s hl0
 obtain ⟨v2, cs2, rfl, hl2⟩ := list_s hl1
 obtain ⟨v3, cs3, rfl, hl3⟩ := list_s hl2
 obtain ⟨v4, cs4, rfl, hl4⟩ := list_s hl3
 obtain rfl := list_0 hl4
 obtain ⟨y0, g0, s0⟩ := hf 0 _ rfl (k := 1) (o := 0) (opens_i64 Try.underlying3) (by kernel_rfl) rfl
 replace g0 := rep_of g0 (show _ = [v0] from rfl)
 cases g0
 obtain ⟨y1, g1, s1⟩ := hf 1 _ rfl (k := 1) (o := 1) (opens_i64 Try.underlying3) (by kernel_rfl) rfl
 replace g1 := rep_of g1 (show _ = [v1] from rfl)
 cases g1
 obtain ⟨y2, g2, s2⟩ := hf 2 _ rfl (k := 1) (o := 2) (opens_i64 Try.underlying3) (by kernel_rfl) rfl
 replace g2 := rep_of g2 (show _ = [v2] from rfl)
 cases g2
 obtain ⟨y3, g3, s3⟩ := hf 3 _ rfl (k := 1) (o := 3) (opens_bool Try.underlying4) (by kernel_rfl) rfl
 replace g3 := rep_of g3 (show _ = [v3] from rfl)
 cases g3
 obtain ⟨y4, g4, s4⟩ := hf 4 _ rfl (k := 1) (o := 4) (opens_slice Try.underlying37 (by kernel_rfl) (of_decide_eq_true (by kernel_rfl)) (opens_u64 Try.underlying22)) (by kernel_rfl) rfl
 replace g4 := rep_of g4 (show _ = [v4] from rfl)
 obtain ⟨A4_0, c4_0, e4, f4_0⟩ := g4
 cases e4
 exact ⟨(⟨y0, y1, y2, y3, y4⟩ : TAct), ⟨A4_0, c4_0, rfl, f4_0⟩, fun μ n hm hx => s4 μ n hm hx⟩
theorem TSent.opens : OpensL Try.prog 76 TSent.L := by
 intro I enc w held fuel cs x h hw
 obtain ⟨hlen, hf⟩ := open_struct Try.underlying76 h hw
 replace hlen := hlen.trans (show Try.prog.cellsOf 76 = 4 by kernel_rfl)
 obtain ⟨v0, cs0, rfl, hl0⟩ := list_s hlen
 obtain ⟨v1, cs1, rfl, hl1⟩ := list_s hl0
 obtain ⟨v2, cs2, rfl, hl2⟩ := list_s hl1
 obtain ⟨v3, cs3, rfl, hl3⟩ := list_s hl2
 obtain rfl := list_0 hl3
 obtain ⟨y0, g0, s0⟩ := hf 0 _ rfl (k := 1) (o := 0) (opens_i64 Try.underlying3) (by kernel_rfl) rfl
 replace g0 := rep_of g0 (show _ = [v0] from rfl)
 cases g0
 obtain ⟨y1, g1, s1⟩ := hf 1 _ rfl (k := 1) (o := 1) (opens_i64 Try.underlying3) (by kernel_rfl) rfl
 replace g1 := rep_of g1 (show _ = [v1] from rfl)
 cases g1
 obtain ⟨y2, g2, s2⟩ := hf 2 _ rfl (k := 1) (o := 2) (opens_i64 Try.underlying3) (by kernel_rfl) rfl
 replace g2 := rep_of g2 (show _ = [v2] from rfl)
 cases g2
 obtain ⟨y3, g3, s3⟩ := hf 3 _ rfl (k := 1) (o := 3) (opens_slice Try.underlying37 (by kernel_rfl) (of_decide_eq_true (by kernel_rfl)) (opens_u64 Try.underlying22)) (by kernel_rfl) rfl
 replace g3 := rep_of g3 (show _ = [v3] from rfl)
 obtain ⟨A3_0, c3_0, e3, f3_0⟩ := g3
 cases e3
 exact ⟨(⟨y0, y1, y2, y3⟩ : TSent), ⟨A3_0, c3_0, rfl, f3_0⟩, fun μ n hm hx => s3 μ n hm hx⟩
theorem TWorld.opens : OpensL Try.prog 30 TWorld.L := by
 intro I enc w held fuel cs x h hw
 obtain ⟨hlen, hf⟩ := open_struct Try.underlying30 h hw
 replace hlen := hlen.trans (show Try.prog.cellsOf 30 = 8 by kernel_rfl)
 obtain ⟨v0, cs0, rfl, hl0⟩ := list_s hlen
 obtain ⟨v1, cs1, rfl, hl1⟩ := list_s hl0
 obtain ⟨v2, cs2, rfl, hl2⟩ := list_s hl1
 obtain ⟨v3, cs3, rfl, hl3⟩ := list_s hl2
 obtain ⟨v4, cs4, rfl, hl4⟩ := list_s hl3
 obtain ⟨v5, cs5, rfl, hl5⟩ := list_s hl4
 obtain ⟨v6, cs6, rfl, hl6⟩ := list_s hl5
 obtain ⟨v7, cs7, rfl, hl7⟩ := list_s hl6
 obtain rfl := list_0 hl7
 obtain ⟨y0, g0, s0⟩ := hf 0 _ rfl (k := 3) (o := 0) TSetup.opens (by kernel_rfl) rfl
 replace g0 := rep_of g0 (show _ = [v0, v1, v2] from rfl)
 cases g0
 obtain ⟨y1, g1, s1⟩ := hf 1 _ rfl (k := 1) (o := 3) (opens_slice Try.underlying25 (by kernel_rfl) (of_decide_eq_true (by kernel_rfl)) (opens_i64 Try.underlying3)) (by kernel_rfl) rfl
 replace g1 := rep_of g1 (show _ = [v3] from rfl)
 obtain ⟨A1_0, c1_0, e1, f1_0⟩ := g1
 cases e1
 obtain ⟨y2, g2, s2⟩ := hf 2 _ rfl (k := 1) (o := 4) (opens_slice Try.underlying26 (by kernel_rfl) (of_decide_eq_true (by kernel_rfl)) TAct.opens) (by kernel_rfl) rfl
 replace g2 := rep_of g2 (show _ = [v4] from rfl)
 obtain ⟨A2_0, c2_0, e2, f2_0⟩ := g2
 cases e2
 obtain ⟨y3, g3, s3⟩ := hf 3 _ rfl (k := 1) (o := 5) (opens_slice Try.underlying27 (by kernel_rfl) (of_decide_eq_true (by kernel_rfl)) (opens_slice Try.underlying37 (by kernel_rfl) (of_decide_eq_true (by kernel_rfl)) (opens_u64 Try.underlying22))) (by kernel_rfl) rfl
 replace g3 := rep_of g3 (show _ = [v5] from rfl)
 obtain ⟨A3_0, c3_0, e3, f3_0⟩ := g3
 cases e3
 obtain ⟨y4, g4, s4⟩ := hf 4 _ rfl (k := 1) (o := 6) (opens_i64 Try.underlying3) (by kernel_rfl) rfl
 replace g4 := rep_of g4 (show _ = [v6] from rfl)
 cases g4
 obtain ⟨y5, g5, s5⟩ := hf 5 _ rfl (k := 1) (o := 7) (opens_slice Try.underlying28 (by kernel_rfl) (of_decide_eq_true (by kernel_rfl)) TSent.opens) (by kernel_rfl) rfl
 replace g5 := rep_of g5 (show _ = [v7] from rfl)
 obtain ⟨A5_0, c5_0, e5, f5_0⟩ := g5
 cases e5
 exact ⟨(⟨y0, y1, y2, y3, y4, y5⟩ : TWorld), ⟨A1_0, c1_0, A2_0, c2_0, A3_0, c3_0, A5_0, c5_0, rfl, f1_0, f2_0, f3_0, f5_0⟩, fun μ n hm hx => ⟨s1 μ n hm hx, s2 μ n hm hx, s3 μ n hm hx, s5 μ n hm hx⟩⟩
theorem TMask.opens : OpensL Try.prog 84 TMask.L := by
 intro I enc w held fuel cs x h hw
 obtain ⟨hlen, hf⟩ := open_struct Try.underlying84 h hw
 replace hlen := hlen.trans (show Try.prog.cellsOf 84 = 2 by kernel_rfl)
 obtain ⟨v0, cs0, rfl, hl0⟩ := list_s hlen
 obtain ⟨v1, cs1, rfl, hl1⟩ := list_s hl0
 obtain rfl := list_0 hl1
 obtain ⟨y0, g0, s0⟩ := hf 0 _ rfl (k := 1) (o := 0) (opens_slice Try.underlying37 (by kernel_rfl) (of_decide_eq_true (by kernel_rfl)) (opens_u64 Try.underlying22)) (by kernel_rfl) rfl
 replace g0 := rep_of g0 (show _ = [v0] from rfl)
 obtain ⟨A0_0, c0_0, e0, f0_0⟩ := g0
 cases e0
 obtain ⟨y1, g1, s1⟩ := hf 1 _ rfl (k := 1) (o := 1) (opens_slice Try.underlying37 (by kernel_rfl) (of_decide_eq_true (by kernel_rfl)) (opens_u64 Try.underlying22)) (by kernel_rfl) rfl
 replace g1 := rep_of g1 (show _ = [v1] from rfl)
 obtain ⟨A1_0, c1_0, e1, f1_0⟩ := g1
 cases e1
 exact ⟨(⟨y0, y1⟩ : TMask), ⟨A0_0, c0_0, A1_0, c1_0, rfl, f0_0, f1_0⟩, fun μ n hm hx => ⟨s0 μ n hm hx, s1 μ n hm hx⟩⟩
end Go.Proofs.Ytajdpkinlnaidaa.Sh
end
section
set_option linter.unusedVariables false
set_option linter.unusedSimpArgs false
set_option maxRecDepth 100000
set_option maxHeartbeats 8000000
namespace Go.Proofs.Ytajdpkinlnaidaa.Sh
open Go.Sx
def field_Is.A : Ann where
 loops := fun i => match i with
   | 16389 => [(3, .int .u64)]
   | _ => []
 plans := fun i => match i with
   | _ => .stop
def field_Is.W (p : Int) (H : Heap) (R : Value → Heap → Prop) : Prop :=
 cond (decide (p < 3)) (R (.bool false) H) (cond (decide (p > 65537)) (R (.bool false) H) ((2 : Int) ≠ 0 ∧ cond ((Int.tmod p 2) == 0) (R (.bool false) H)
  (LoopI (σ := Int) (fun κ => κ 3 H) fun s z H_ next =>
 cond (decide ((IntKind.u64.wrap (s * s)) ≤ p)) (s ≠ 0 ∧ cond ((Int.tmod p s) == 0) (R (.bool false) H_)
  (next (IntKind.u64.wrap (s + 2)) H_))
  (R (.bool true) H_))))
theorem field_Is.ok (p : Int) (H : Heap) (R : Value → Heap → Prop) (h : field_Is.W p H R) : CallH P N.field_Is [.int .u64 p] H R :=
 okW Try.func59 (by kernel_rfl) Try.ntmps59 field_Is.A (by kernel_rfl) (by kernel_rfl) h
def field_Below.A : Ann where
 loops := fun i => match i with
   | 8198 => [(9, .int .i64)]
   | _ => []
 plans := fun i => match i with
   | _ => .stop
def field_Below.W (p : Int) (lA : Option Addr) (ln lc : Nat) (H : Heap) (R : Value → Heap → Prop) : Prop :=
 LoopI (σ := Int) (fun κ => κ 0 H) fun s z H_ next =>
 cond (decide (s < ((ln : Nat) : Int))) (∃ a : Addr, lA = some a ∧ 0 ≤ s ∧ s < ((ln : Nat) : Int) ∧ ∃ x : Int, cellH H_ (a.add (Int.toNat s)) = some (.int .u64 x) ∧ cond (decide (x ≥ p)) (R (.int .i64 2) H_)
  (next (IntKind.i64.wrap (s + 1)) H_))
  (R (.int .i64 0) H_)
theorem field_Below.ok (p : Int) (lA : Option Addr) (ln lc : Nat) (H : Heap) (R : Value → Heap → Prop) (h : field_Below.W p lA ln lc H R) : CallH P N.field_Below [.int .u64 p, .slice lA ln lc] H R :=
 okW Try.func60 (by kernel_rfl) Try.ntmps60 field_Below.A (by kernel_rfl) (by kernel_rfl) h
def field_Plus.A : Ann where
 loops := fun i => match i with
   | _ => []
 plans := fun i => match i with
   | _ => .stop
def field_Plus.W (p : Int) (a : Int) (b : Int) (H : Heap) (R : Value → Heap → Prop) : Prop :=
 cond (decide ((IntKind.u64.wrap (a + b)) ≥ p)) (R (.int .u64 (IntKind.u64.wrap ((IntKind.u64.wrap (a + b)) - p))) H)
  (R (.int .u64 (IntKind.u64.wrap (a + b))) H)
theorem field_Plus.ok (p : Int) (a : Int) (b : Int) (H : Heap) (R : Value → Heap → Prop) (h : field_Plus.W p a b H R) : CallH P N.field_Plus [.int .u64 p, .int .u64 a, .int .u64 b] H R :=
 okW Try.func75 (by kernel_rfl) Try.ntmps75 field_Plus.A (by kernel_rfl) (by kernel_rfl) h
def field_Times.A : Ann where
 loops := fun i => match i with
   | _ => []
 plans := fun i => match i with
   | _ => .stop
def field_Times.W (p : Int) (a : Int) (b : Int) (H : Heap) (R : Value → Heap → Prop) : Prop :=
 CallH P N.field_mul [.int .u64 p, .int .u64 a, .int .u64 b] H fun v H_ =>
 ∃ r : Int, v = .int .u64 r ∧ R (.int .u64 r) H_
theorem field_Times.ok (p : Int) (a : Int) (b : Int) (H : Heap) (R : Value → Heap → Prop) (h : field_Times.W p a b H R) : CallH P N.field_Times [.int .u64 p, .int .u64 a, .int .u64 b] H R :=
 okW Try.func76 (by kernel_rfl) Try.ntmps76 field_Times.A (by kernel_rfl) (by kernel_rfl) h
def field_Minus.A : Ann where
 loops := fun i => match i with
   | _ => []
 plans := fun i => match i with
   | _ => .stop
def field_Minus.W (p : Int) (a : Int) (b : Int) (H : Heap) (R : Value → Heap → Prop) : Prop :=
 p ≠ 0 ∧ CallH P N.field_Plus [.int .u64 p, .int .u64 a, .int .u64 (Int.tmod (IntKind.u64.wrap (p - b)) p)] H fun v H_ =>
 ∃ r : Int, v = .int .u64 r ∧ R (.int .u64 r) H_
theorem field_Minus.ok (p : Int) (a : Int) (b : Int) (H : Heap) (R : Value → Heap → Prop) (h : field_Minus.W p a b H R) : CallH P N.field_Minus [.int .u64 p, .int .u64 a, .int .u64 b] H R :=
 okW Try.func77 (by kernel_rfl) Try.ntmps77 field_Minus.A (by kernel_rfl) (by kernel_rfl) h
def field_Take.A : Ann where
 loops := fun i => match i with
   | 12295 => [(14, .int .i64)]
   | _ => []
 plans := fun i => match i with
   | _ => .stop
def field_Take.W (p : Int) (tapeA : Option Addr) (tapen tapec : Nat) (n : Int) (H : Heap) (R : Value → Heap → Prop) : Prop :=
 0 ≤ n ∧ n ≤ n ∧ n * 8 ≤ 2 ^ 48 ∧ n < 2 ^ 62 ∧ NewH (H.push (.cells (repl (Int.toNat n) [.int .u64 0]).toArray 22 (0, 0))) fun H_ =>
 LoopI (σ := Int) (fun κ => κ 0 H_) fun s z H_2 next =>
 cond (decide (s < ((Int.toNat n : Nat) : Int))) (cond (decide (s < ((tapen : Nat) : Int))) (∃ a : Addr, tapeA = some a ∧ 0 ≤ s ∧ s < ((tapen : Nat) : Int) ∧ ∃ x : Int, cellH H_2 (a.add (Int.toNat s)) = some (.int .u64 x) ∧ p ≠ 0 ∧ ∃ a2 : Addr, (some (Addr.mk H.size 0 none) : Option Addr) = some a2 ∧ 0 ≤ s ∧ s < ((Int.toNat n : Nat) : Int) ∧ MayWrite H_2 (a2.add (Int.toNat s)) 1 ∧ NewH (setH H_2 (a2.add (Int.toNat s)) (.int .u64 (Int.tmod x p))) fun H_3 =>
 next (IntKind.i64.wrap (s + 1)) H_3)
  (next (IntKind.i64.wrap (s + 1)) H_2))
  (NewH (H_2.push (.cells #[] 22 (0, 0))) fun H_4 =>
 0 ≤ (if ((tapen : Nat) : Int) < n then ((tapen : Nat) : Int) else n) ∧ (if ((tapen : Nat) : Int) < n then ((tapen : Nat) : Int) else n) ≤ ((tapen : Nat) : Int) ∧ AppendV 22 1 8 [.int .u64 0] H_4 (some (Addr.mk H_2.size 0 none)) 0 0 (SubA tapeA tapec (Int.toNat (if ((tapen : Nat) : Int) < n then ((tapen : Nat) : Int) else n)) 1) (tapen - (Int.toNat (if ((tapen : Nat) : Int) < n then ((tapen : Nat) : Int) else n))) fun vA vn vc H_5 =>
 R (.tuple #[.slice (some (Addr.mk H.size 0 none)) (Int.toNat n) (Int.toNat n), .slice vA vn vc]) H_5)
theorem field_Take.ok (p : Int) (tapeA : Option Addr) (tapen tapec : Nat) (n : Int) (H : Heap) (R : Value → Heap → Prop) (h : field_Take.W p tapeA tapen tapec n H R) : CallH P N.field_Take [.int .u64 p, .slice tapeA tapen tapec, .int .i64 n] H R :=
 okW Try.func84 (by kernel_rfl) Try.ntmps84 field_Take.A (by kernel_rfl) (by kernel_rfl) h
def field_mul.A : Ann where
 loops := fun i => match i with
   | _ => []
 plans := fun i => match i with
   | _ => .stop
def field_mul.W (p : Int) (a : Int) (b : Int) (H : Heap) (R : Value → Heap → Prop) : Prop :=
 p ≠ 0 ∧ R (.int .u64 (Int.tmod (IntKind.u64.wrap (a * b)) p)) H
theorem field_mul.ok (p : Int) (a : Int) (b : Int) (H : Heap) (R : Value → Heap → Prop) (h : field_mul.W p a b H R) : CallH P N.field_mul [.int .u64 p, .int .u64 a, .int .u64 b] H R :=
 okW Try.func93 (by kernel_rfl) Try.ntmps93 field_mul.A (by kernel_rfl) (by kernel_rfl) h
def field_Over.A : Ann where
 loops := fun i => match i with
   | _ => []
 plans := fun i => match i with
   | _ => .stop
def field_Over.W (p : Int) (a : Int) (H : Heap) (R : Value → Heap → Prop) : Prop :=
 CallH P N.field_pow [.int .u64 p, .int .u64 a, .int .u64 (IntKind.u64.wrap (p - 2))] H fun v H_ =>
 ∃ r : Int, v = .int .u64 r ∧ R (.int .u64 r) H_
theorem field_Over.ok (p : Int) (a : Int) (H : Heap) (R : Value → Heap → Prop) (h : field_Over.W p a H R) : CallH P N.field_Over [.int .u64 p, .int .u64 a] H R :=
 okW Try.func95 (by kernel_rfl) Try.ntmps95 field_Over.A (by kernel_rfl) (by kernel_rfl) h
def field_pow.A : Ann where
 loops := fun i => match i with
   | 8195 => [(1, .int .u64), (2, .int .u64), (7, .int .u64)]
   | _ => []
 plans := fun i => match i with
   | _ => .stop
def field_pow.W (p : Int) (a : Int) (e : Int) (H : Heap) (R : Value → Heap → Prop) : Prop :=
 p ≠ 0 ∧ LoopI (σ := Int × Int × Int) (fun κ => κ (a, e, Int.tmod 1 p) H) fun s z H_ next =>
 cond (decide (s.2.1 > 0)) (cond ((bitsOf .and .u64 s.2.1 1) == 1) (CallH P N.field_mul [.int .u64 p, .int .u64 s.2.2, .int .u64 s.1] H_ fun v H_2 =>
 ∃ r : Int, v = .int .u64 r ∧ CallH P N.field_mul [.int .u64 p, .int .u64 s.1, .int .u64 s.1] H_2 fun v2 H_3 =>
 ∃ r2 : Int, v2 = .int .u64 r2 ∧ 0 ≤ (1 : Int) ∧ next (r2, Int.fdiv s.2.1 (2 ^ (min (Int.toNat 1) 64)), r) H_3)
  (CallH P N.field_mul [.int .u64 p, .int .u64 s.1, .int .u64 s.1] H_ fun v3 H_4 =>
 ∃ r3 : Int, v3 = .int .u64 r3 ∧ 0 ≤ (1 : Int) ∧ next (r3, Int.fdiv s.2.1 (2 ^ (min (Int.toNat 1) 64)), s.2.2) H_4))
  (R (.int .u64 s.2.2) H_)
theorem field_pow.ok (p : Int) (a : Int) (e : Int) (H : Heap) (R : Value → Heap → Prop) (h : field_pow.W p a e H R) : CallH P N.field_pow [.int .u64 p, .int .u64 a, .int .u64 e] H R :=
 okW Try.func103 (by kernel_rfl) Try.ntmps103 field_pow.A (by kernel_rfl) (by kernel_rfl) h
end Go.Proofs.Ytajdpkinlnaidaa.Sh
namespace Go.Proofs.Ytajdpkinlnaidaa.Sh
open Go.Sx Go.Lf
def field_Is.C (p : Nat) (K : Bool → Prop) : Prop :=
 ∀ (Z : Nat → Prop) (H : Heap), ∀ (pv : Int), pv = (p : Int) → ∀ KK : Value → Heap → Prop,
   (∀ (Z' : Nat → Prop) (H' : Heap), Ext H H' → Old Z H Z' → ∀ (r0 : Bool), K r0 → KK (.bool r0) H') →
   CallH P N.field_Is [.int .u64 pv] H KK
def field_Is.Q (p : Nat) (K : Bool → Prop) : Prop :=
 cond (decide ((p : Int) < 3)) (K false)
  (cond (decide ((p : Int) > 65537)) (K false)
  ((2 : Int) ≠ 0 ∧ cond ((Int.tmod (p : Int) 2) == 0) (K false)
  (LoopQ (τ := Nat) 3 fun t nextQ =>
 cond (decide ((IntKind.u64.wrap ((t : Int) * (t : Int))) ≤ (p : Int))) ((t : Int) ≠ 0 ∧ cond ((Int.tmod (p : Int) (t : Int)) == 0) (K false)
  (nextQ ((IntKind.u64.wrap ((t : Int) + 2)).toNat)))
  (K true))))
theorem field_Is.q {p : Nat} {K : Bool → Prop} (q : field_Is.Q p K) : field_Is.C p K := by
 intro Z H pv he KK hk; cases he; apply field_Is.ok; unfold field_Is.W; unfold field_Is.Q at q; obtain ⟨σ, hz, hσ⟩ := tags Z; have hs : Stp ([] : List Nat) σ H σ H := Stp.refl _ _ _; clear hz; refine condI (fun q => ?_) (fun q => ?_) q
 · exact hk (Zt σ) _ (hs.ext hσ) (hs.old hσ) _ q
 refine condI (fun q => ?_) (fun q => ?_) q
 · exact hk (Zt σ) _ (hs.ext hσ) (hs.old hσ) _ q
 obtain ⟨q3, q⟩ := q; refine ⟨q3, ?_⟩; refine condI (fun q => ?_) (fun q => ?_) q
 · exact hk (Zt σ) _ (hs.ext hσ) (hs.old hσ) _ q
 refine LoopI.ofQ q (fun t_ s_ hp_ => ∃ σ_ x0_, Stp [] σ H σ_ hp_ ∧ x0_ = s_ ∧ x0_ = ((t_ : Nat) : Int)) (fun h k => h _ _ k) ⟨_, _, Stp.refl _ _ _, rfl, rfl⟩ ?_; rintro t _ _ H_ next nextQ ⟨xσ, x, st, rfl, rfl⟩ q hnext; (try dsimp only at q ⊢); have sl0 := st; refine condJ (fun q => ?_) (fun q => ?_) q
 · replace hs := hs.trans st; exact hk (Zt xσ) _ (hs.ext hσ) (hs.old hσ) _ q
 obtain ⟨q2, q⟩ := q; refine ⟨q2, ?_⟩; refine condI (fun q => ?_) (fun q => ?_) q
 · replace hs := hs.trans st; exact hk (Zt xσ) _ (hs.ext hσ) (hs.old hσ) _ q
 exact hnext ((IntKind.u64.wrap ((t : Int) + 2)).toNat) _ _ ⟨_, _, sl0, rfl, (natEq (nnw _))⟩ q
def field_Below.C (p : Nat) (l : (List Nat)) (K : Int → Prop) : Prop :=
 ∀ (Z : Nat → Prop) (H : Heap), ∀ (pv : Int), pv = (p : Int) → ∀ (lA : Option Addr) (ln lc : Nat), ln = l.length → SlF u64L Z H lA lc l → ∀ KK : Value → Heap → Prop,
   (∀ (Z' : Nat → Prop) (H' : Heap), Ext H H' → Old Z H Z' → ∀ (r0 : Int), K r0 → KK (.int .i64 r0) H') →
   CallH P N.field_Below [.int .u64 pv, .slice lA ln lc] H KK
def field_Below.Q (p : Nat) (l : (List Nat)) (K : Int → Prop) : Prop :=
 LoopQ (τ := Int) 0 fun t nextQ =>
 cond (decide (t < ((l.length : Nat) : Int))) (0 ≤ t ∧ ∃ x : Nat, l[Int.toNat t]? = some x ∧ cond (decide ((x : Int) ≥ (p : Int))) (K 2)
  (nextQ (IntKind.i64.wrap (t + 1))))
  (K 0)
theorem field_Below.q {p : Nat} {l : (List Nat)} {K : Int → Prop} (q : field_Below.Q p l K) : field_Below.C p l K := by
 intro Z H pv he lA ln lc hn f KK hk; cases he; cases hn; apply field_Below.ok; unfold field_Below.W; unfold field_Below.Q at q; obtain ⟨σ, hz, hσ⟩ := tags Z; have hs : Stp ([] : List Nat) σ H σ H := Stp.refl _ _ _; replace f := f.wide hz; clear hz; refine LoopI.ofQ q (fun t_ s_ hp_ => ∃ σ_, Stp [] σ H σ_ hp_ ∧ t_ = s_) (fun h k => h _ _ k) ⟨_, Stp.refl _ _ _, rfl⟩ ?_; rintro t _ _ H_ next nextQ ⟨xσ, st, rfl⟩ q hnext; (try dsimp only at q ⊢); have sl0 := st; refine condJ (fun q => ?_) (fun q => ?_) q
 · replace hs := hs.trans st; exact hk (Zt xσ) _ (hs.ext hσ) (hs.old hσ) _ q
 obtain ⟨h0, x, hx, q⟩ := q; replace f := f.step st; obtain ⟨a, ha, hi⟩ := f.addr h0 hx rfl; refine ⟨a, ha, hi.1, hi.2, ?_⟩; have hc := f.ldu ha h0 hx; refine ⟨_, hc.val, ?_⟩; refine condI (fun q => ?_) (fun q => ?_) q
 · replace hs := hs.trans st; exact hk (Zt xσ) _ (hs.ext hσ) (hs.old hσ) _ q
 exact hnext (IntKind.i64.wrap (t + 1)) _ _ ⟨_, sl0, rfl⟩ q
def field_Plus.C (p : Nat) (a : Nat) (b : Nat) (K : Nat → Prop) : Prop :=
 ∀ (Z : Nat → Prop) (H : Heap), ∀ (pv : Int), pv = (p : Int) → ∀ (av : Int), av = (a : Int) → ∀ (bv : Int), bv = (b : Int) → ∀ KK : Value → Heap → Prop,
   (∀ (Z' : Nat → Prop) (H' : Heap), Ext H H' → Old Z H Z' → ∀ (r0 : Nat), ∀ (r0v0 : Int), r0v0 = (r0 : Int) → K r0 → KK (.int .u64 r0v0) H') →
   CallH P N.field_Plus [.int .u64 pv, .int .u64 av, .int .u64 bv] H KK
def field_Plus.Q (p : Nat) (a : Nat) (b : Nat) (K : Nat → Prop) : Prop :=
 cond (decide ((IntKind.u64.wrap ((a : Int) + (b : Int))) ≥ (p : Int))) (K ((IntKind.u64.wrap ((IntKind.u64.wrap ((a : Int) + (b : Int))) - (p : Int))).toNat))
  (K ((IntKind.u64.wrap ((a : Int) + (b : Int))).toNat))
theorem field_Plus.q {p : Nat} {a : Nat} {b : Nat} {K : Nat → Prop} (q : field_Plus.Q p a b K) : field_Plus.C p a b K := by
 intro Z H pv he av he2 bv he3 KK hk; cases he; cases he2; cases he3; apply field_Plus.ok; unfold field_Plus.W; unfold field_Plus.Q at q; obtain ⟨σ, hz, hσ⟩ := tags Z; have hs : Stp ([] : List Nat) σ H σ H := Stp.refl _ _ _; clear hz; refine condI (fun q => ?_) (fun q => ?_) q
 · exact hk (Zt σ) _ (hs.ext hσ) (hs.old hσ) _ _ (natEq (nnw _)) q
 exact hk (Zt σ) _ (hs.ext hσ) (hs.old hσ) _ _ (natEq (nnw _)) q
def field_Minus.C (p : Nat) (a : Nat) (b : Nat) (K : Nat → Prop) : Prop :=
 ∀ (Z : Nat → Prop) (H : Heap), ∀ (pv : Int), pv = (p : Int) → ∀ (av : Int), av = (a : Int) → ∀ (bv : Int), bv = (b : Int) → ∀ KK : Value → Heap → Prop,
   (∀ (Z' : Nat → Prop) (H' : Heap), Ext H H' → Old Z H Z' → ∀ (r0 : Nat), ∀ (r0v0 : Int), r0v0 = (r0 : Int) → K r0 → KK (.int .u64 r0v0) H') →
   CallH P N.field_Minus [.int .u64 pv, .int .u64 av, .int .u64 bv] H KK
def field_Minus.Q (p : Nat) (a : Nat) (b : Nat) (K : Nat → Prop) : Prop :=
 (p : Int) ≠ 0 ∧ field_Plus.C p a ((Int.tmod (IntKind.u64.wrap ((p : Int) - (b : Int))) (p : Int)).toNat) (fun (x : Nat) =>
 K x)
theorem field_Minus.q {p : Nat} {a : Nat} {b : Nat} {K : Nat → Prop} (q : field_Minus.Q p a b K) : field_Minus.C p a b K := by
 intro Z H pv he av he2 bv he3 KK hk; cases he; cases he2; cases he3; apply field_Minus.ok; unfold field_Minus.W; unfold field_Minus.Q at q; obtain ⟨σ, hz, hσ⟩ := tags Z; have hs : Stp ([] : List Nat) σ H σ H := Stp.refl _ _ _; clear hz; obtain ⟨q2, q⟩ := q; refine ⟨q2, ?_⟩; refine q (Zt σ) H _ rfl _ rfl _ (natEq (nnr (nnw _) _)) _ (fun Z2 H_ hE hO x v he4 q => ?_); obtain ⟨xσ, st⟩ := call0 hE σ; cases he4; refine ⟨_, rfl, ?_⟩; replace hs := hs.trans st; exact hk (Zt xσ) _ (hs.ext hσ) (hs.old hσ) _ _ rfl q
def field_mul.C (p : Nat) (a : Nat) (b : Nat) (K : Nat → Prop) : Prop :=
 ∀ (Z : Nat → Prop) (H : Heap), ∀ (pv : Int), pv = (p : Int) → ∀ (av : Int), av = (a : Int) → ∀ (bv : Int), bv = (b : Int) → ∀ KK : Value → Heap → Prop,
   (∀ (Z' : Nat → Prop) (H' : Heap), Ext H H' → Old Z H Z' → ∀ (r0 : Nat), ∀ (r0v0 : Int), r0v0 = (r0 : Int) → K r0 → KK (.int .u64 r0v0) H') →
   CallH P N.field_mul [.int .u64 pv, .int .u64 av, .int .u64 bv] H KK
def field_mul.Q (p : Nat) (a : Nat) (b : Nat) (K : Nat → Prop) : Prop :=
 (p : Int) ≠ 0 ∧ K ((Int.tmod (IntKind.u64.wrap ((a : Int) * (b : Int))) (p : Int)).toNat)
theorem field_mul.q {p : Nat} {a : Nat} {b : Nat} {K : Nat → Prop} (q : field_mul.Q p a b K) : field_mul.C p a b K := by
 intro Z H pv he av he2 bv he3 KK hk; cases he; cases he2; cases he3; apply field_mul.ok; unfold field_mul.W; unfold field_mul.Q at q; obtain ⟨σ, hz, hσ⟩ := tags Z; have hs : Stp ([] : List Nat) σ H σ H := Stp.refl _ _ _; clear hz; obtain ⟨q2, q⟩ := q; refine ⟨q2, ?_⟩; exact hk (Zt σ) _ (hs.ext hσ) (hs.old hσ) _ _ (natEq (nnr (nnw _) _)) q
def field_pow.C (p : Nat) (a : Nat) (e : Nat) (K : Nat → Prop) : Prop :=
 ∀ (Z : Nat → Prop) (H : Heap), ∀ (pv : Int), pv = (p : Int) → ∀ (av : Int), av = (a : Int) → ∀ (ev : Int), ev = (e : Int) → ∀ KK : Value → Heap → Prop,
   (∀ (Z' : Nat → Prop) (H' : Heap), Ext H H' → Old Z H Z' → ∀ (r0 : Nat), ∀ (r0v0 : Int), r0v0 = (r0 : Int) → K r0 → KK (.int .u64 r0v0) H') →
   CallH P N.field_pow [.int .u64 pv, .int .u64 av, .int .u64 ev] H KK
def field_pow.Q (p : Nat) (a : Nat) (e : Nat) (K : Nat → Prop) : Prop :=
 (p : Int) ≠ 0 ∧ LoopQ (τ := Nat × Nat × Nat) (a, e, (Int.tmod 1 (p : Int)).toNat) fun t nextQ =>
 cond (decide ((t.2.1 : Int) > 0)) (cond ((bitsOf .and .u64 (t.2.1 : Int) 1) == 1) (field_mul.C p t.2.2 t.1 (fun (x4 : Nat) =>
 field_mul.C p t.1 t.1 (fun (x5 : Nat) =>
 0 ≤ (1 : Int) ∧ nextQ (x5, (Int.fdiv (t.2.1 : Int) (2 ^ (min (Int.toNat 1) 64))).toNat, x4))))
  (field_mul.C p t.1 t.1 (fun (x6 : Nat) =>
 0 ≤ (1 : Int) ∧ nextQ (x6, (Int.fdiv (t.2.1 : Int) (2 ^ (min (Int.toNat 1) 64))).toNat, t.2.2))))
  (K t.2.2)
theorem field_pow.q {p : Nat} {a : Nat} {e : Nat} {K : Nat → Prop} (q : field_pow.Q p a e K) : field_pow.C p a e K := by
 intro Z H pv he av he2 ev he3 KK hk; cases he; cases he2; cases he3; apply field_pow.ok; unfold field_pow.W; unfold field_pow.Q at q; obtain ⟨σ, hz, hσ⟩ := tags Z; have hs : Stp ([] : List Nat) σ H σ H := Stp.refl _ _ _; clear hz; obtain ⟨q4, q⟩ := q; refine ⟨q4, ?_⟩; refine LoopI.ofQ q (fun t_ s_ hp_ => ∃ σ_ x0_ x1_ x2_, Stp [] σ H σ_ hp_ ∧ (x0_, x1_, x2_) = s_ ∧ x0_ = ((t_.1 : Nat) : Int) ∧ x1_ = ((t_.2.1 : Nat) : Int) ∧ x2_ = ((t_.2.2 : Nat) : Int)) (fun h k => h _ _ k) ⟨_, _, _, _, Stp.refl _ _ _, rfl, rfl, rfl, (natEq (nnr (by decide) _))⟩ ?_; rintro t _ _ H_ next nextQ ⟨xσ, x, x2, x3, st, rfl, rfl, rfl, rfl⟩ q hnext; (try dsimp only at q ⊢); have sl0 := st; refine condJ (fun q => ?_) (fun q => ?_) q
 · replace hs := hs.trans st; exact hk (Zt xσ) _ (hs.ext hσ) (hs.old hσ) _ _ rfl q
 refine condJ (fun q => ?_) (fun q => ?_) q
 · refine q (Zt xσ) H_ _ rfl _ rfl _ rfl _ (fun Z4 H_4 hE3 hO3 x6 v3 he6 q => ?_); obtain ⟨xσ4, st4⟩ := call0 hE3 xσ; cases he6; refine ⟨_, rfl, ?_⟩; obtain ⟨q3, q⟩ := q; refine ⟨q3, ?_⟩; replace sl0 := sl0.trans st4; exact hnext (x6, (Int.fdiv (t.2.1 : Int) (2 ^ (min (Int.toNat 1) 64))).toNat, t.2.2) _ _ ⟨_, _, _, _, sl0, rfl, rfl, (natEq (nnshr (nnc _) _)), rfl⟩ q
 refine q (Zt xσ) H_ _ rfl _ rfl _ rfl _ (fun Z2 H_2 hE hO x4 v he4 q => ?_); obtain ⟨xσ2, st2⟩ := call0 hE xσ; cases he4; refine ⟨_, rfl, ?_⟩; refine q (Zt xσ2) H_2 _ rfl _ rfl _ rfl _ (fun Z3 H_3 hE2 hO2 x5 v2 he5 q => ?_); obtain ⟨xσ3, st3⟩ := call0 hE2 xσ2; cases he5; refine ⟨_, rfl, ?_⟩; obtain ⟨q2, q⟩ := q; refine ⟨q2, ?_⟩; replace sl0 := sl0.trans (st2.then st3); exact hnext (x5, (Int.fdiv (t.2.1 : Int) (2 ^ (min (Int.toNat 1) 64))).toNat, x4) _ _ ⟨_, _, _, _, sl0, rfl, rfl, (natEq (nnshr (nnc _) _)), rfl⟩ q
def field_Over.C (p : Nat) (a : Nat) (K : Nat → Prop) : Prop :=
 ∀ (Z : Nat → Prop) (H : Heap), ∀ (pv : Int), pv = (p : Int) → ∀ (av : Int), av = (a : Int) → ∀ KK : Value → Heap → Prop,
   (∀ (Z' : Nat → Prop) (H' : Heap), Ext H H' → Old Z H Z' → ∀ (r0 : Nat), ∀ (r0v0 : Int), r0v0 = (r0 : Int) → K r0 → KK (.int .u64 r0v0) H') →
   CallH P N.field_Over [.int .u64 pv, .int .u64 av] H KK
def field_Over.Q (p : Nat) (a : Nat) (K : Nat → Prop) : Prop :=
 field_pow.C p a ((IntKind.u64.wrap ((p : Int) - 2)).toNat) (fun (x : Nat) =>
 K x)
theorem field_Over.q {p : Nat} {a : Nat} {K : Nat → Prop} (q : field_Over.Q p a K) : field_Over.C p a K := by
 intro Z H pv he av he2 KK hk; cases he; cases he2; apply field_Over.ok; unfold field_Over.W; unfold field_Over.Q at q; obtain ⟨σ, hz, hσ⟩ := tags Z; have hs : Stp ([] : List Nat) σ H σ H := Stp.refl _ _ _; clear hz; refine q (Zt σ) H _ rfl _ rfl _ (natEq (nnw _)) _ (fun Z2 H_ hE hO x v he3 q => ?_); obtain ⟨xσ, st⟩ := call0 hE σ; cases he3; refine ⟨_, rfl, ?_⟩; replace hs := hs.trans st; exact hk (Zt xσ) _ (hs.ext hσ) (hs.old hσ) _ _ rfl q
def field_Times.C (p : Nat) (a : Nat) (b : Nat) (K : Nat → Prop) : Prop :=
 ∀ (Z : Nat → Prop) (H : Heap), ∀ (pv : Int), pv = (p : Int) → ∀ (av : Int), av = (a : Int) → ∀ (bv : Int), bv = (b : Int) → ∀ KK : Value → Heap → Prop,
   (∀ (Z' : Nat → Prop) (H' : Heap), Ext H H' → Old Z H Z' → ∀ (r0 : Nat), ∀ (r0v0 : Int), r0v0 = (r0 : Int) → K r0 → KK (.int .u64 r0v0) H') →
   CallH P N.field_Times [.int .u64 pv, .int .u64 av, .int .u64 bv] H KK
def field_Times.Q (p : Nat) (a : Nat) (b : Nat) (K : Nat → Prop) : Prop :=
 field_mul.C p a b (fun (x : Nat) =>
 K x)
theorem field_Times.q {p : Nat} {a : Nat} {b : Nat} {K : Nat → Prop} (q : field_Times.Q p a b K) : field_Times.C p a b K := by
 intro Z H pv he av he2 bv he3 KK hk; cases he; cases he2; cases he3; apply field_Times.ok; unfold field_Times.W; unfold field_Times.Q at q; obtain ⟨σ, hz, hσ⟩ := tags Z; have hs : Stp ([] : List Nat) σ H σ H := Stp.refl _ _ _; clear hz; refine q (Zt σ) H _ rfl _ rfl _ rfl _ (fun Z2 H_ hE hO x v he4 q => ?_); obtain ⟨xσ, st⟩ := call0 hE σ; cases he4; refine ⟨_, rfl, ?_⟩; replace hs := hs.trans st; exact hk (Zt xσ) _ (hs.ext hσ) (hs.old hσ) _ _ rfl q
def field_Take.C (p : Nat) (tape : (List Nat)) (n : Int) (K : (List Nat) → (List Nat) → Prop) : Prop :=
 ∀ (Z : Nat → Prop) (H : Heap), ∀ (pv : Int), pv = (p : Int) → ∀ (tapeA : Option Addr) (tapen tapec : Nat), tapen = tape.length → SlF u64L Z H tapeA tapec tape → ∀ KK : Value → Heap → Prop,
   (∀ (Z' : Nat → Prop) (H' : Heap), Ext H H' → Old Z H Z' → ∀ (r0 : (List Nat)), ∀ (Y0 : Nat → Prop), (∀ i, Y0 i → H.size ≤ i ∧ ¬ Z' i) → ∀ (Ar0_0 : Option Addr) (nr0_0 cr0_0 : Nat), nr0_0 = r0.length → SlO (rdM u64L) 22 Z' Y0 H' Ar0_0 cr0_0 r0 → ∀ (r1 : (List Nat)), ∀ (Y1 : Nat → Prop), (∀ i, Y1 i → H.size ≤ i ∧ ¬ Z' i) → ∀ (Ar1_0 : Option Addr) (nr1_0 cr1_0 : Nat), nr1_0 = r1.length → SlO (rdM u64L) 22 Z' Y1 H' Ar1_0 cr1_0 r1 → (∀ i, Y0 i → ¬ Y1 i) → K r0 r1 → KK (.tuple #[.slice Ar0_0 nr0_0 cr0_0, .slice Ar1_0 nr1_0 cr1_0]) H') →
   CallH P N.field_Take [.int .u64 pv, .slice tapeA tapen tapec, .int .i64 n] H KK
def field_Take.Q (p : Nat) (tape : (List Nat)) (n : Int) (K : (List Nat) → (List Nat) → Prop) : Prop :=
 MakeOk 8 n ∧ LoopQ (τ := Int × List Nat) (0, (List.replicate (Int.toNat n) 0)) fun t nextQ =>
 cond (decide (t.1 < ((Int.toNat n : Nat) : Int))) (cond (decide (t.1 < ((tape.length : Nat) : Int))) (0 ≤ t.1 ∧ ∃ x : Nat, tape[Int.toNat t.1]? = some x ∧ (p : Int) ≠ 0 ∧ 0 ≤ t.1 ∧ t.1 < ((Int.toNat n : Nat) : Int) ∧ nextQ (IntKind.i64.wrap (t.1 + 1), (List.set t.2 (Int.toNat t.1) ((Int.tmod (x : Int) (p : Int)).toNat))))
  (nextQ (IntKind.i64.wrap (t.1 + 1), t.2)))
  (0 ≤ (if ((tape.length : Nat) : Int) < n then ((tape.length : Nat) : Int) else n) ∧ (if ((tape.length : Nat) : Int) < n then ((tape.length : Nat) : Int) else n) ≤ ((tape.length : Nat) : Int) ∧ AppOk 8 ([] ++ (List.drop (Int.toNat (if ((tape.length : Nat) : Int) < n then ((tape.length : Nat) : Int) else n)) tape)).length ∧ K t.2 (List.drop (Int.toNat (if ((tape.length : Nat) : Int) < n then ((tape.length : Nat) : Int) else n)) tape))
theorem field_Take.q {p : Nat} {tape : (List Nat)} {n : Int} {K : (List Nat) → (List Nat) → Prop} (q : field_Take.Q p tape n K) : field_Take.C p tape n K := by
 intro Z H pv he tapeA tapen tapec hn f KK hk; cases he; cases hn; apply field_Take.ok; unfold field_Take.W; unfold field_Take.Q at q; obtain ⟨σ, hz, hσ⟩ := tags Z; have hs : Stp ([1, 2] : List Nat) σ H σ H := Stp.refl _ _ _; replace f := f.wide hz; clear hz; obtain ⟨q2, q⟩ := q; refine ⟨q2.1, Int.le_refl _, q2.w1, q2.w2, NewH.mk fun H_ e => ?_⟩; obtain ⟨xσ, st, f2⟩ := SlO.made (O := (rdM u64L)) σ 1 e (u64_zero) q2.len; refine LoopI.ofQ q (fun t_ s_ hp_ => ∃ σ_, Stp [1] xσ H_ σ_ hp_ ∧ t_.1 = s_ ∧ t_.2.length = (List.replicate (Int.toNat n) 0).length ∧ SlO (rdM u64L) 22 (Zt σ_) (Yt σ_ 1) hp_ (some (Addr.mk H.size 0 none)) (Int.toNat n) t_.2) (fun h k => h _ _ k) ⟨_, Stp.refl _ _ _, rfl, rfl, f2⟩ ?_; rintro t _ _ H_2 next nextQ ⟨xσ2, st2, rfl, hl, f2⟩ q hnext; (try dsimp only at q ⊢); have sl1 := st2; refine condJ (fun q => ?_) (fun q => ?_) q
 · refine NewH.mk fun H_4 e3 => ?_; obtain ⟨xσ3, st4, f3⟩ := SlO.lit (E := u64L) xσ2 2 (xs := []) (l := []) e3 rfl .nil (show (0 : Nat) ≤ 17592186044416 by decide); obtain ⟨q4, q5, q⟩ := q; replace f := f.step (st.then (st2.then st4)); have f4 := f.from (l := Int.toNat (if ((tape.length : Nat) : Int) < n then ((tape.length : Nat) : Int) else n)) (k := 1) (upto_le rfl q5) rfl; refine ⟨q4, q5, ?_⟩; obtain ⟨q6, q⟩ := q; refine SlO.appF f3 f4 rfl rfl q6.l q6.r rfl (drop_len rfl) (fun A c H_5 xσ4 st5 f3_ => ?_); replace f3 := f3_; have f5 := SlO.nilapp f3; clear f3; replace hs := hs.trans (st.then (st2.then (st4.then st5))); replace f2 := f2.step (st4.then st5); exact hk (Zt xσ4) _ (hs.ext hσ) (hs.old hσ) _ (Yt xσ4 1) (hs.fresh hσ) _ _ _ ((rl_len _ _).trans hl.symm) f2 _ (Yt xσ4 2) (hs.fresh hσ) _ _ _ rfl f5 Yt.apart q
 refine condJ (fun q => ?_) (fun q => ?_) q
 · exact hnext (IntKind.i64.wrap (t.1 + 1), t.2) _ _ ⟨_, sl1, rfl, hl, f2⟩ q
 obtain ⟨h0, x, hx, q⟩ := q; replace f := f.step (st.then st2); obtain ⟨a, ha, hi⟩ := f.addr h0 hx rfl; refine ⟨a, ha, hi.1, hi.2, ?_⟩; have hc := f.ldu ha h0 hx; refine ⟨_, hc.val, ?_⟩; obtain ⟨q3, q⟩ := q; refine ⟨q3, ?_⟩; obtain ⟨h02, hi3, q⟩ := q; obtain ⟨a2, ha2, hi2⟩ := f2.addr h02 ((rl_len _ _).trans hl.symm) hi3; refine ⟨a2, ha2, hi2.1, hi2.2, ?_⟩; have w := fun v hr => SlO.set1 (v := v) (y := (Int.tmod (x : Int) (p : Int)).toNat) f2 rfl ha2 h02 (lt_of_n ((rl_len _ _).trans hl.symm) hi3) hr; refine ⟨(w _ (u64_rep (nnr (nnc _) _))).1, NewH.mk fun H_3 e2 => ?_⟩; obtain ⟨st3, f2⟩ := (w _ (u64_rep (nnr (nnc _) _))).2 H_3 e2; replace sl1 := sl1.trans st3; exact hnext (IntKind.i64.wrap (t.1 + 1), (List.set t.2 (Int.toNat t.1) ((Int.tmod (x : Int) (p : Int)).toNat))) _ _ ⟨_, sl1, rfl, (set_back ((rl_len _ _).trans hl.symm) (set_len ((rl_len _ _).trans hl.symm)) hl), f2⟩ q
end Go.Proofs.Ytajdpkinlnaidaa.Sh
end
section
set_option linter.unusedVariables false
namespace Go.Proofs.Ytajdpkinlnaidaa.Sp
open Go.Sx Go.Proofs.Ytajdpkinlnaidaa.Sh
def fmul (p a b : Nat) : Nat := a * b % p
def fadd (p a b : Nat) : Nat := (a + b) % p
def fsub (p a b : Nat) : Nat := (a + (p - b)) % p
theorem mul_lt {p a b : Nat} (hp : p ≤ 65537) (ha : a < p) (hb : b < p) : a * b < 18446744073709551616 := by
 have : a * b ≤ 65537 * 65537 := Nat.mul_le_mul (by omega) (by omega)
 omega
theorem fmul_lt {p : Nat} (hp : 0 < p) (a b : Nat) : fmul p a b < p := Nat.mod_lt _ hp
theorem fadd_lt {p : Nat} (hp : 0 < p) (a b : Nat) : fadd p a b < p := Nat.mod_lt _ hp
theorem fsub_lt {p : Nat} (hp : 0 < p) (a b : Nat) : fsub p a b < p := Nat.mod_lt _ hp
def below (p : Nat) (l : List Nat) : Bool := l.all fun a => decide (a < p)
def codeB (b : Bool) : Int := if b then 0 else 2
end Go.Proofs.Ytajdpkinlnaidaa.Sp
namespace Go.Proofs.Ytajdpkinlnaidaa.Back
open Go Go.Proofs Go.RowKit Go.Shelf
attribute [local go_sem] Oper.semAt_some
set_option linter.unusedVariables false
def down (zs : List Int) (k : Nat) : List (Int × Int) := (List.range k).map fun j => (((zs.length - 1 - j : Nat) : Int), zs[zs.length - 1 - j]?.getD 0)
theorem down_succ (zs : List Int) (k : Nat) : down zs (k + 1) = down zs k ++ [(((zs.length - 1 - k : Nat) : Int), zs[zs.length - 1 - k]?.getD 0)] := by simp [down, List.range_succ]
theorem down_length (zs : List Int) (k : Nat) : (down zs k).length = k := by simp [down]
def KB (n₀ Bs : Nat) (A B : World) : Prop := Below n₀ A B ∧ ∀ o : Obj, A.heap[Bs]? = some o → o.isCells = true → B.heap[Bs]? = some o
theorem KB.refl (n₀ Bs : Nat) (A : World) : KB n₀ Bs A A := ⟨Below.refl _ _, fun _ h _ => h⟩
theorem KB.trans {n₀ Bs : Nat} {A B C : World} (h : KB n₀ Bs A B) (k : KB n₀ Bs B C) : KB n₀ Bs A C := ⟨h.1.trans k.1, fun o ho hc => k.2 o (h.2 o ho hc) hc⟩
theorem KB.boxed {n₀ Bs t : Nat} {v : Value} {A B : World} (h : KB n₀ Bs A B) (b : Boxed A Bs t v) : Boxed B Bs t v := h.2 _ b rfl
theorem KB.put {n₀ Bs : Nat} {w : World} (hn : n₀ ≤ w.heap.size) (W : World) (l : Nat) (o o' : Obj) (hl : w.heap.size ≤ l) (h : W.heap[l]? = some o) (hc : o.isCells = false) (hw : o.isWalk = false) : KB n₀ Bs W (W.putObj l o') :=
 ⟨belowK_b hn W l o o' hl h hc hw, fun q hq hqc => by
   have hne : Bs ≠ l := fun e => by subst e; rw [h] at hq; cases hq; rw [hc] at hqc; cases hqc
   have hlt := (Array.getElem?_eq_some_iff.1 hq).1
   exact ((grownBy_putObj' W l o').block Bs hlt (fun e => hne (by cases e; rfl))).trans hq⟩
set_option maxRecDepth 100000 in
set_option maxHeartbeats 2000000 in
theorem back1_in (F : Fence) (n : Nat) (h8 : F.fn 105) (hro : F.round = none) (hn : 1 ≤ n) (l Bs n₀ b off cap : Nat) (zs : List Int) (hreach : zs.length ≤ 17592186044416) (hb : b < n₀) (J Jx : List (Int × Int) → World → Prop)
   (hY : ∀ pre x W, J pre W → pre.length < zs.length → YieldAt F (n - 1) Try.prog l #[.int .i64 x.1, .int .u64 x.2] W fun e W' =>
     (e = .returned (.bool true) ∧ J (pre ++ [x]) W' ∧ KB n₀ Bs W W') ∨ (e = .returned (.bool false) ∧ Jx (pre ++ [x]) W'))
   (W : World) (hBs : Boxed W Bs 37 (.slice (some ⟨b, off, none⟩) zs.length cap)) (hc : ∀ j, j < zs.length → W.cell? ⟨b, off + j, none⟩ = some (.int .u64 (zs[j]?.getD 0))) (h0 : J [] W) :
   CallsIn F n Try.prog 105 #[.func (.yield l) #[] #[], .pointer (some ⟨Bs, 0, none⟩)] W fun e W' => (∃ v, e = .returned v) ∧
     ((∃ ys, ys = down zs zs.length ∧ J ys W') ∨ (∃ pre, (∃ k, k ≤ zs.length ∧ pre = down zs k) ∧ Jx pre W')) := by
 have hBc := hBs.cell
 refine callsIn_of_wp Try.func105 rfl h8 ?_ hro
 simp only [Try.ntmps105, List.size_toArray, List.length_cons, List.length_nil, Nat.reduceAdd, Nat.reduceSub, Array.replicate_succ, Array.replicate_zero, List.push_toArray, List.append_toArray, List.nil_append, List.cons_append]
 gi_wp2
 gi_loopw [3] (fun i wr => ∃ k : Nat, k ≤ zs.length ∧ i = .int .i64 ((zs.length : Int) - 1 - k) ∧ J (down zs k) wr ∧ KB n₀ Bs W wr)
   (fun i _ => (intOf i + 1).toNat)
 case atStart => exact ⟨0, Nat.zero_le _, by simp, h0, KB.refl _ _ _⟩
 case round =>
   obtain ⟨k, hk, rfl, hJs, hnx⟩ := hrel
   by_cases hlt : k < zs.length
   · obtain ⟨m, x, hm, hml, hx, hds⟩ : ∃ (m : Nat) (x : Int), (zs.length : Int) - 1 - k = (m : Int) ∧ m < zs.length ∧ zs[m]?.getD 0 = x ∧ down zs (k + 1) = down zs k ++ [((m : Int), x)] :=
       ⟨zs.length - 1 - k, _, by omega, by omega, rfl, down_succ zs k⟩
     have hcx : wr.cell? ⟨b, off + m, none⟩ = some (.int .u64 x) := hx ▸ (hnx.1.cell (p := ⟨b, off + m, none⟩) hb).trans (hc m hml)
     have hBx : wr.cell? ⟨Bs, 0, none⟩ = some (.slice (some ⟨b, off, none⟩) zs.length cap) := (hnx.boxed hBs).cell
     obtain ⟨fn, tmps, assign, body, hy, hR⟩ := hY _ ((m : Int), x) wr hJs (by rw [down_length]; exact hlt)
     dsimp only at hy
     rw [hm]
     clear hx
     have hm1 : (m : Int) - 1 = (zs.length : Int) - 1 - ((k + 1 : Nat) : Int) := by omega
     gi_wp2
     refine hR.mono ?_
     rintro e W3 (⟨rfl, hJ3, hk3⟩ | ⟨rfl, hJx3⟩)
     · gi_wp2
       go_roundw
       case rel => exact ⟨k + 1, by omega, by congr 1, by rw [hds]; exact hJ3, hnx.trans hk3⟩
       case measure => simp [intOf] <;> omega
     · gi_wp2
       refine bodyPost_ret (results_none rfl _ _ _) rfl ?_
       exact ⟨⟨_, rfl⟩, .inr ⟨_, ⟨k + 1, by omega, hds.symm⟩, hJx3⟩⟩
   · obtain rfl : k = zs.length := by omega
     gi_wp2
     go_end0
     exact ⟨⟨_, rfl⟩, .inl ⟨_, rfl, hJs⟩⟩
set_option maxRecDepth 100000 in
set_option maxHeartbeats 1000000 in
theorem back1_nil_in (F : Fence) (n : Nat) (h8 : F.fn 105) (hro : F.round = none) (l Bs : Nat) (A : Option Addr) (c : Nat) (J : List (Int × Int) → World → Prop) (W : World) (hBs : W.cell? ⟨Bs, 0, none⟩ = some (.slice A 0 c)) (h0 : J [] W) :
   CallsIn F n Try.prog 105 #[.func (.yield l) #[] #[], .pointer (some ⟨Bs, 0, none⟩)] W fun e W' => (∃ v, e = .returned v) ∧ J [] W' := by
 refine callsIn_of_wp Try.func105 rfl h8 ?_ hro
 simp only [Try.ntmps105, List.size_toArray, List.length_cons, List.length_nil, Nat.reduceAdd, Nat.reduceSub, Array.replicate_succ, Array.replicate_zero, List.push_toArray, List.append_toArray, List.nil_append, List.cons_append]
 gi_wp2
 gi_loopw [3] (fun i wr => i = .int .i64 (-1) ∧ J [] wr) (fun _ _ => 0)
 case atStart => exact ⟨rfl, h0⟩
 case round =>
   obtain ⟨rfl, hJs⟩ := hrel
   gi_wp2
   go_end0
   exact ⟨⟨_, rfl⟩, hJs⟩
set_option maxHeartbeats 1000000 in
theorem back_in (F : Fence) (n : Nat) (h5 : F.fn 98) (hro : F.round = none) (a : Option Addr) (len cap : Nat) (w : World) :
   CallsIn F n Try.prog 98 #[.slice a len cap] w fun e w' => e = .returned (.func (.func 105) #[] #[.pointer (some ⟨w.heap.size, 0, none⟩)]) ∧ w' = w.alloc (.cells #[.slice a len cap] 37) := by
 refine callsIn_of_wp Try.func98 rfl h5 ?_ hro
 simp only [Try.ntmps98, List.size_toArray, List.length_cons, List.length_nil, Nat.reduceAdd, Nat.reduceSub, Array.replicate_succ, Array.replicate_zero, List.push_toArray, List.append_toArray, List.nil_append, List.cons_append]
 gi_wp2
 go_ret
 exact ⟨rfl, rfl⟩
def Words (n₀ : Nat) (W : World) (sv : Value) (zs : List Int) : Prop :=
 (∃ A c, sv = .slice A 0 c ∧ zs = []) ∨ ∃ b off cap, sv = .slice (some ⟨b, off, none⟩) zs.length cap ∧ b < n₀ ∧ ∀ j, j < zs.length → W.cell? ⟨b, off + j, none⟩ = some (.int .u64 (zs[j]?.getD 0))
theorem Words.below {n₀ : Nat} {A B : World} (h : Below n₀ A B) {sv : Value} {zs : List Int} : Words n₀ A sv zs → Words n₀ B sv zs
 | .inl e => .inl e
 | .inr ⟨b, off, cap, e, hb, hc⟩ => .inr ⟨b, off, cap, e, hb, fun j hj => (h.cell (p := ⟨b, off + j, none⟩) hb).trans (hc j hj)⟩
theorem back_stops (F : Fence) (n : Nat) (h7 : F.fn 105) (hro : F.round = none) (hn : 1 ≤ n) (Bs n₀ : Nat) (sv : Value) (zs : List Int) (hreach : zs.length ≤ 17592186044416) (w : World) (hn₀ : n₀ ≤ w.heap.size)
   (hc : Boxed w Bs 37 sv) (hI : Words n₀ w sv zs) :
   SeqStopsK F n Try.prog 105 #[.pointer (some ⟨Bs, 0, none⟩)] (fun x : Int × Int => #[Value.int .i64 x.1, .int .u64 x.2]) (KB n₀ Bs) (fun ys => ys = down zs zs.length) (fun pre => ∃ k, k ≤ zs.length ∧ pre = down zs k) zs.length w := fun l J Jx W hW _ _ hY h0 => by
 have hc' : Boxed W Bs 37 sv := (hW.block Bs hc.lt).trans hc
 rcases hI.below (hW.mono hn₀) with ⟨A, c, rfl, rfl⟩ | ⟨b, off, cap, rfl, hb, hcs⟩
 · exact (back1_nil_in F n h7 hro l Bs A c J W hc'.cell h0).mono fun e W' ⟨he, hj⟩ => ⟨he, .inl ⟨_, rfl, hj⟩⟩
 · exact back1_in F n h7 hro hn l Bs n₀ b off cap zs hreach hb J Jx hY W hc' hcs h0
def timesI (p v x : Int) : Int := Int.tmod (IntKind.u64.wrap (v * x)) p
def plusI (p t c : Int) : Int := if IntKind.u64.wrap (t + c) ≥ p then IntKind.u64.wrap (IntKind.u64.wrap (t + c) - p) else IntKind.u64.wrap (t + c)
def stepI (p x v c : Int) : Int := plusI p (timesI p v x) c
def hornI (p x : Int) (pre : List (Int × Int)) : Int := pre.foldl (fun v c => stepI p x v c.2) 0
theorem hornI_snoc (p x : Int) (pre : List (Int × Int)) (c : Int × Int) : hornI p x (pre ++ [c]) = stepI p x (hornI p x pre) c.2 := by simp [hornI]
theorem times_in {p v x : Int} (hp : p ≠ 0) (F : Fence) (n : Nat) (hF : F = Fence.wide) (W : World) :
   CallsIn F n Try.prog 76 #[.int .u64 p, .int .u64 v, .int .u64 x] W fun e W' => e = .returned (.int .u64 (timesI p v x)) ∧ Go.Sx.Same W W' ∧ W'.heap = W.heap := by
 subst hF
 refine callsIn_wide.2 ?_
 have h : Go.Sx.CallH Try.prog 76 [.int .u64 p, .int .u64 v, .int .u64 x] W.heap fun r H' => r = .int .u64 (timesI p v x) ∧ H' = W.heap :=
   Sh.field_Times.ok _ _ _ _ _ (Sh.field_mul.ok _ _ _ _ _ ⟨hp, ⟨_, rfl, rfl, rfl⟩⟩)
 exact (h W rfl).mono fun e W' ⟨v, he, hs, hv, hh⟩ => ⟨by rw [he, hv], hs, hh⟩
theorem plus_in {p t c : Int} (F : Fence) (n : Nat) (hF : F = Fence.wide) (W : World) :
   CallsIn F n Try.prog 75 #[.int .u64 p, .int .u64 t, .int .u64 c] W fun e W' =>
     e = .returned (.int .u64 (plusI p t c)) ∧ Go.Sx.Same W W' ∧ W'.heap = W.heap := by
 subst hF
 refine callsIn_wide.2 ?_
 have h : Go.Sx.CallH Try.prog 75 [.int .u64 p, .int .u64 t, .int .u64 c] W.heap fun r H' => r = .int .u64 (plusI p t c) ∧ H' = W.heap := by
   refine Sh.field_Plus.ok _ _ _ _ _ ?_
   unfold Sh.field_Plus.W
   by_cases hc : IntKind.u64.wrap (t + c) ≥ p
   · exact Go.Sx.ctd hc ⟨by rw [plusI, if_pos hc], rfl⟩
   · exact Go.Sx.cfd hc ⟨by rw [plusI, if_neg hc], rfl⟩
 exact (h W rfl).mono fun e W' ⟨v, he, hs, hv, hh⟩ => ⟨by rw [he, hv], hs, hh⟩
theorem fin_round {w W w1 w2 : World} {B : Nat} {p x v v' v2 : Int} (hh : w1.heap = W.drew.heap) (hs : Go.Sx.Same W.drew w1) (hh2 : w2.heap = w1.heap) (hs2 : Go.Sx.Same w1 w2)
   (h1 : Boxed W w.heap.size 22 (.int .u64 p)) (h2 : Boxed W (w.heap.size + 1) 22 (.int .u64 x)) (h3 : Boxed W (w.heap.size + 1 + 1) 22 (.int .u64 v)) (hB : Below w.heap.size w W) (he : v' = v2) :
   KeepsFrom B W (w2.setCell ⟨w.heap.size + 1 + 1, 0, none⟩ (.int .u64 v2)) ∧ KB w.heap.size (w.heap.size + 1 + 1 + 1) W (w2.setCell ⟨w.heap.size + 1 + 1, 0, none⟩ (.int .u64 v2)) ∧
     (Boxed (w2.setCell ⟨w.heap.size + 1 + 1, 0, none⟩ (.int .u64 v2)) w.heap.size 22 (.int .u64 p) ∧ Boxed (w2.setCell ⟨w.heap.size + 1 + 1, 0, none⟩ (.int .u64 v2)) (w.heap.size + 1) 22 (.int .u64 x) ∧
       Boxed (w2.setCell ⟨w.heap.size + 1 + 1, 0, none⟩ (.int .u64 v2)) (w.heap.size + 1 + 1) 22 (.int .u64 v')) ∧ Below w.heap.size w (w2.setCell ⟨w.heap.size + 1 + 1, 0, none⟩ (.int .u64 v2)) := by
 subst he
 have e : w2.heap = W.heap := hh2.trans hh
 have b0 : Below w.heap.size W w2 := ⟨(hs2.os.trans hs.os), (hs2.tape.trans hs.tape), (hs2.output.trans hs.output), by rw [e]; exact Nat.le_refl _, fun k _ => by rw [e]⟩
 have b1 : Below w.heap.size w2 (w2.setCell ⟨w.heap.size + 1 + 1, 0, none⟩ (.int .u64 v')) := (Below.refl w.heap.size w2).setCell (p := ⟨w.heap.size + 1 + 1, 0, none⟩) (by show w.heap.size ≤ w.heap.size + 1 + 1; omega) _
 have k1 : Boxed w2 w.heap.size 22 (.int .u64 p) := by unfold Boxed; rw [e]; exact h1
 have k2 : Boxed w2 (w.heap.size + 1) 22 (.int .u64 x) := by unfold Boxed; rw [e]; exact h2
 have k3 : Boxed w2 (w.heap.size + 1 + 1) 22 (.int .u64 v) := by unfold Boxed; rw [e]; exact h3
 refine ⟨?_, ⟨b0.trans b1, fun o ho hc => ?_⟩, ⟨k1.other (by omega) _, k2.other (by omega) _, k3.set _⟩, hB.trans (b0.trans b1)⟩
 · refine (KeepsFrom.trans (Y := w2) ⟨by rw [e]; exact Nat.le_refl _, fun k o _ ho _ => by rw [e]; exact ho⟩ ((KeepsOthers.setCell _ _ _).from _))
 · have hlt := (Array.getElem?_eq_some_iff.1 ho).1
   exact ((grownBy_setCell' w2 (w.heap.size + 1 + 1) _).block _ (by rw [e]; exact hlt) (fun q => by have := Option.some.inj q; omega)).trans (by rw [e]; exact ho)
set_option maxRecDepth 100000 in
set_option maxHeartbeats 4000000 in
theorem At_in (F : Fence) (n : Nat) (hF : F = Fence.wide) (hn : 3 ≤ n) (p x : Int) (hp : p ≠ 0) (a : Option Addr) (len cap : Nat) (zs : List Int) (hreach : zs.length ≤ 17592186044416) (w : World) (hI : Words w.heap.size w (.slice a len cap) zs) :
   CallsIn F n Try.prog 83 #[.int .u64 p, .slice a len cap, .int .u64 x] w fun e W' => e = .returned (.int .u64 (hornI p x (down zs zs.length))) ∧ Below w.heap.size w W' := by
 have h1 : 1 ≤ n := by omega
 have hro : F.round = none := by rw [hF]; rfl
 have hfn : ∀ f, F.fn f := fun f => by rw [hF]; trivial
 have hx5 := hfn 98
 have hT : ∀ (m : Nat) (v : Int) W, CallsIn F m Try.prog 76 #[.int .u64 p, .int .u64 v, .int .u64 x] W fun e W' => e = .returned (.int .u64 (timesI p v x)) ∧ Go.Sx.Same W W' ∧ W'.heap = W.heap := fun m v W => times_in hp F m hF W
 have hP : ∀ (m : Nat) (t c : Int) W, CallsIn F m Try.prog 75 #[.int .u64 p, .int .u64 t, .int .u64 c] W fun e W' =>
     e = .returned (.int .u64 (plusI p t c)) ∧ Go.Sx.Same W W' ∧ W'.heap = W.heap := fun m t c W => plus_in F m hF W
 clear hF
 refine callsIn_of_wp_marks Try.func83 rfl (hfn 83) ?_ hro
 simp only [Try.ntmps83, List.size_toArray, List.length_cons, List.length_nil, Nat.reduceAdd, Nat.reduceSub, Array.replicate_succ, Array.replicate_zero, List.push_toArray, List.append_toArray, List.nil_append, List.cons_append]
 gi_wp2_with (gi_at_call 98; refine (back_in F (n - 1) hx5 hro _ _ _ _).mono ?_; rintro e w' ⟨rfl, rfl⟩)
 have bP := Boxed.new w 22 (.int .u64 p)
 have bX := Boxed.new (w.alloc (.cells #[.int .u64 p] 22)) 22 (.int .u64 x)
 have bV := Boxed.new ((w.alloc (.cells #[.int .u64 p] 22)).alloc (.cells #[.int .u64 x] 22)) 22 (.int .u64 0)
 have bN := Boxed.new (((w.alloc (.cells #[.int .u64 p] 22)).alloc (.cells #[.int .u64 x] 22)).alloc (.cells #[.int .u64 0] 22)) 37 (.slice a len cap)
 simp only [World.size_alloc] at bX bV bN
 have hB0 : Below w.heap.size w ((((w.alloc (.cells #[.int .u64 p] 22)).alloc (.cells #[.int .u64 x] 22)).alloc (.cells #[.int .u64 0] 22)).alloc (.cells #[.slice a len cap] 37)) :=
   ((((Below.refl _ w).alloc (Nat.le_refl _) _).alloc (by simp) _).alloc (by simp; omega) _).alloc (by simp; omega) _
 generalize hw4 : ((((w.alloc (.cells #[.int .u64 p] 22)).alloc (.cells #[.int .u64 x] 22)).alloc (.cells #[.int .u64 0] 22)).alloc (.cells #[.slice a len cap] 37)) = w4 at *
 have hz4 : w.heap.size + 4 ≤ w4.heap.size := by rw [← hw4]; simp
 have bP4 : Boxed w4 w.heap.size 22 (.int .u64 p) := by rw [← hw4]; exact ((bP.alloc _).alloc _).alloc _
 have bX4 : Boxed w4 (w.heap.size + 1) 22 (.int .u64 x) := by rw [← hw4]; exact (bX.alloc _).alloc _
 have bV4 : Boxed w4 (w.heap.size + 1 + 1) 22 (.int .u64 0) := by rw [← hw4]; exact bV.alloc _
 clear bP bX bV
 refine wpIn_rangeFunc_ownG hro h1 (gf := 105) (lb := #[.pointer (some ⟨w.heap.size + 1 + 1 + 1, 0, none⟩)]) rfl (hfn 105) (enters_of Try.func105 (by kernel_rfl) rfl)
   (back_stops F (n - 1) (hfn 105) hro (by omega) (w.heap.size + 1 + 1 + 1) w.heap.size _ zs hreach _ (by omega) bN (hI.below hB0)) (fun h k => h.trans k) (KB.put (by omega)) (Below.refl _ _) (fun _ => rfl)
   (fun pre W => (Boxed W w.heap.size 22 (.int .u64 p) ∧ Boxed W (w.heap.size + 1) 22 (.int .u64 x) ∧ Boxed W (w.heap.size + 1 + 1) 22 (.int .u64 (hornI p x pre))) ∧ Below w.heap.size w W)
   (fun _ _ _ => False)
   ?own
   (fun _ _ _ _ _ hs _ _ => hs)
   ⟨⟨bP4, bX4, bV4⟩, hB0⟩
   (fun y => { tmps := #[.int .u64 p, .slice a len cap, .int .u64 x, .pointer (some ⟨w.heap.size, 0, none⟩), undef, .pointer (some ⟨w.heap.size + 1, 0, none⟩), .int .u64 0, .pointer (some ⟨w.heap.size + 1 + 1, 0, none⟩), undef, .int .u64 y.2,
     .slice a len cap, .func (.func 105) #[] #[.pointer (some ⟨w.heap.size + 1 + 1 + 1, 0, none⟩)], .int .i64 y.1, .int .u64 y.2, undef, undef, undef, undef, undef, undef, undef, undef], defers := [] }) ?assign ?body ?done ?stop
 case own => exact OwnFrom.and (fun s A B row hs hg hr => ⟨hs.1.kept hg (fun e => by obtain ⟨hle, _⟩ := hr _ e.symm; omega), hs.2.1.kept hg (fun e => by obtain ⟨hle, _⟩ := hr _ e.symm; omega), hs.2.2.kept hg (fun e => by obtain ⟨hle, _⟩ := hr _ e.symm; omega)⟩) (ownFrom_below (Nat.le_refl _) (by omega))
 case assign =>
   intro l y W K hK
   gi_wp2
   exact hK
 case body =>
   rintro l pre y W ⟨⟨h1, h2, h3⟩, hB⟩ _
   have c1 := h1.cell
   have c2 := h2.cell
   have c3 := h3.cell
   have hd : 1 ≤ n - 1 - 1 := by omega
   have hmx : Try.prog.follows .mixedOrders = true := by kernel_rfl
   have hcong : ∀ {A B : World} (q : Addr), B.heap = A.heap → B.cell? q = A.cell? q := fun q h => by unfold World.cell?; rw [h]
   have hfong : ∀ {A B : World} (q : Addr), B.heap = A.heap → B.frozen? q = A.frozen? q := fun q h => by unfold World.frozen?; rw [h]
   have f3 := h3.frozen
   gi_wp2
   gi_region_with_o (first
     | (gi_at_call 76; refine ((hT _ _ _).inRound l).mono ?_; rintro e w' ⟨rfl, hs, hh⟩; have d1 := (hcong ⟨w.heap.size, 0, none⟩ hh).trans c1; have d3 := (hcong ⟨w.heap.size + 1 + 1, 0, none⟩ hh).trans c3; have k3 := (hfong ⟨w.heap.size + 1 + 1, 0, none⟩ hh).trans f3)
     | (gi_at_call 75; refine ((hP _ _ _ _).inRound l).mono ?_; rintro e w'' ⟨rfl, hs2, hh2⟩; have e3 := (hcong ⟨w.heap.size + 1 + 1, 0, none⟩ hh2).trans d3; have l3 := (hfong ⟨w.heap.size + 1 + 1, 0, none⟩ hh2).trans k3))
   all_goals exact fin_round hh hs hh2 hs2 h1 h2 h3 hB (by rw [hornI_snoc]; rfl)
 case done =>
   rintro D ys W hD rfl ⟨⟨h1, h2, h3⟩, hB⟩ hK
   have c3 := h3.cell
   gi_wp2
   refine ⟨by simp, .inl ⟨_, _, rfl, run_takeDeferred hK, ?_⟩⟩
   exact ⟨_, results_tmp rfl _ _ _, rfl, hB.trans (belowK_b (w := w) (Nat.le_refl _) W D _ _ (by omega) hK rfl rfl)⟩
 case stop =>
   rintro D c pre W _ _ h _
   exact h.elim
end Go.Proofs.Ytajdpkinlnaidaa.Back
set_option linter.unusedVariables false
end
section
set_option linter.unusedVariables false
set_option linter.unusedSimpArgs false
set_option maxRecDepth 100000
set_option maxHeartbeats 8000000
namespace Go.Proofs.Ytajdpkinlnaidaa.Sh
open Go.Sx
def slices_Clone_uint64uint64.A : Ann where
 loops := fun i => match i with
   | _ => []
 plans := fun i => match i with
   | _ => .stop
def slices_Clone_uint64uint64.W (sA : Option Addr) (sn sc : Nat) (H : Heap) (R : Value → Heap → Prop) : Prop :=
 cond (Option.isNone sA) (R (.slice none 0 0) H)
  (NewH (H.push (.cells #[] 22 (0, 0))) fun H_ =>
 AppendV 22 1 8 [.int .u64 0] H_ (some (Addr.mk H.size 0 none)) 0 0 sA sn fun vA vn vc H_2 =>
 R (.slice vA vn vc) H_2)
theorem slices_Clone_uint64uint64.ok (sA : Option Addr) (sn sc : Nat) (H : Heap) (R : Value → Heap → Prop) (h : slices_Clone_uint64uint64.W sA sn sc H R) : CallH P N.slices_Clone_uint64uint64 [.slice sA sn sc] H R :=
 okW Try.func46 (by kernel_rfl) Try.ntmps46 slices_Clone_uint64uint64.A (by kernel_rfl) (by kernel_rfl) h
def slices_Contains_intint.A : Ann where
 loops := fun i => match i with
   | _ => []
 plans := fun i => match i with
   | _ => .stop
def slices_Contains_intint.W (sA : Option Addr) (sn sc : Nat) (v : Int) (H : Heap) (R : Value → Heap → Prop) : Prop :=
 CallH P N.slices_Index_intint [.slice sA sn sc, .int .i64 v] H fun v2 H_ =>
 ∃ r : Int, v2 = .int .i64 r ∧ R (.bool (decide (r ≥ 0))) H_
theorem slices_Contains_intint.ok (sA : Option Addr) (sn sc : Nat) (v : Int) (H : Heap) (R : Value → Heap → Prop) (h : slices_Contains_intint.W sA sn sc v H R) : CallH P N.slices_Contains_intint [.slice sA sn sc, .int .i64 v] H R :=
 okW Try.func58 (by kernel_rfl) Try.ntmps58 slices_Contains_intint.A (by kernel_rfl) (by kernel_rfl) h
def slices_Clone_intint.A : Ann where
 loops := fun i => match i with
   | _ => []
 plans := fun i => match i with
   | _ => .stop
def slices_Clone_intint.W (sA : Option Addr) (sn sc : Nat) (H : Heap) (R : Value → Heap → Prop) : Prop :=
 cond (Option.isNone sA) (R (.slice none 0 0) H)
  (NewH (H.push (.cells #[] 3 (0, 0))) fun H_ =>
 AppendV 3 1 8 [.int .i64 0] H_ (some (Addr.mk H.size 0 none)) 0 0 sA sn fun vA vn vc H_2 =>
 R (.slice vA vn vc) H_2)
theorem slices_Clone_intint.ok (sA : Option Addr) (sn sc : Nat) (H : Heap) (R : Value → Heap → Prop) (h : slices_Clone_intint.W sA sn sc H R) : CallH P N.slices_Clone_intint [.slice sA sn sc] H R :=
 okW Try.func62 (by kernel_rfl) Try.ntmps62 slices_Clone_intint.A (by kernel_rfl) (by kernel_rfl) h
def slices_Clone_juntoapiActjuntoapiAct.A : Ann where
 loops := fun i => match i with
   | _ => []
 plans := fun i => match i with
   | _ => .stop
def slices_Clone_juntoapiActjuntoapiAct.W (sA : Option Addr) (sn sc : Nat) (H : Heap) (R : Value → Heap → Prop) : Prop :=
 cond (Option.isNone sA) (R (.slice none 0 0) H)
  (NewH (H.push (.cells #[] 67 (0, 0))) fun H_ =>
 AppendV 67 5 56 [.int .i64 0, .int .i64 0, .int .i64 0, .bool false, .slice none 0 0] H_ (some (Addr.mk H.size 0 none)) 0 0 sA sn fun vA vn vc H_2 =>
 R (.slice vA vn vc) H_2)
theorem slices_Clone_juntoapiActjuntoapiAct.ok (sA : Option Addr) (sn sc : Nat) (H : Heap) (R : Value → Heap → Prop) (h : slices_Clone_juntoapiActjuntoapiAct.W sA sn sc H R) : CallH P N.slices_Clone_juntoapiActjuntoapiAct [.slice sA sn sc] H R :=
 okW Try.func63 (by kernel_rfl) Try.ntmps63 slices_Clone_juntoapiActjuntoapiAct.A (by kernel_rfl) (by kernel_rfl) h
def slices_Clone_LLuint64Luint64.A : Ann where
 loops := fun i => match i with
   | _ => []
 plans := fun i => match i with
   | _ => .stop
def slices_Clone_LLuint64Luint64.W (sA : Option Addr) (sn sc : Nat) (H : Heap) (R : Value → Heap → Prop) : Prop :=
 cond (Option.isNone sA) (R (.slice none 0 0) H)
  (NewH (H.push (.cells #[] 37 (0, 0))) fun H_ =>
 AppendV 37 1 24 [.slice none 0 0] H_ (some (Addr.mk H.size 0 none)) 0 0 sA sn fun vA vn vc H_2 =>
 R (.slice vA vn vc) H_2)
theorem slices_Clone_LLuint64Luint64.ok (sA : Option Addr) (sn sc : Nat) (H : Heap) (R : Value → Heap → Prop) (h : slices_Clone_LLuint64Luint64.W sA sn sc H R) : CallH P N.slices_Clone_LLuint64Luint64 [.slice sA sn sc] H R :=
 okW Try.func64 (by kernel_rfl) Try.ntmps64 slices_Clone_LLuint64Luint64.A (by kernel_rfl) (by kernel_rfl) h
def slices_Clone_juntoapiSentjuntoapiSent.A : Ann where
 loops := fun i => match i with
   | _ => []
 plans := fun i => match i with
   | _ => .stop
def slices_Clone_juntoapiSentjuntoapiSent.W (sA : Option Addr) (sn sc : Nat) (H : Heap) (R : Value → Heap → Prop) : Prop :=
 cond (Option.isNone sA) (R (.slice none 0 0) H)
  (NewH (H.push (.cells #[] 76 (0, 0))) fun H_ =>
 AppendV 76 4 48 [.int .i64 0, .int .i64 0, .int .i64 0, .slice none 0 0] H_ (some (Addr.mk H.size 0 none)) 0 0 sA sn fun vA vn vc H_2 =>
 R (.slice vA vn vc) H_2)
theorem slices_Clone_juntoapiSentjuntoapiSent.ok (sA : Option Addr) (sn sc : Nat) (H : Heap) (R : Value → Heap → Prop) (h : slices_Clone_juntoapiSentjuntoapiSent.W sA sn sc H R) : CallH P N.slices_Clone_juntoapiSentjuntoapiSent [.slice sA sn sc] H R :=
 okW Try.func65 (by kernel_rfl) Try.ntmps65 slices_Clone_juntoapiSentjuntoapiSent.A (by kernel_rfl) (by kernel_rfl) h
def slices_Index_intint.A : Ann where
 loops := fun i => match i with
   | 8198 => [(8, .int .i64)]
   | _ => []
 plans := fun i => match i with
   | _ => .stop
def slices_Index_intint.W (sA : Option Addr) (sn sc : Nat) (v : Int) (H : Heap) (R : Value → Heap → Prop) : Prop :=
 LoopI (σ := Int) (fun κ => κ 0 H) fun s z H_ next =>
 cond (decide (s < ((sn : Nat) : Int))) (∃ a : Addr, sA = some a ∧ 0 ≤ s ∧ s < ((sn : Nat) : Int) ∧ ∃ x : Int, cellH H_ (a.add (Int.toNat s)) = some (.int .i64 x) ∧ cond (v == x) (R (.int .i64 s) H_)
  (next (IntKind.i64.wrap (s + 1)) H_))
  (R (.int .i64 (-1)) H_)
theorem slices_Index_intint.ok (sA : Option Addr) (sn sc : Nat) (v : Int) (H : Heap) (R : Value → Heap → Prop) (h : slices_Index_intint.W sA sn sc v H R) : CallH P N.slices_Index_intint [.slice sA sn sc, .int .i64 v] H R :=
 okW Try.func81 (by kernel_rfl) Try.ntmps81 slices_Index_intint.A (by kernel_rfl) (by kernel_rfl) h
end Go.Proofs.Ytajdpkinlnaidaa.Sh
namespace Go.Proofs.Ytajdpkinlnaidaa.Sh
open Go.Sx Go.Lf
def slices_Index_intint.C (s : (List Int)) (v : Int) (K : Int → Prop) : Prop :=
 ∀ (Z : Nat → Prop) (H : Heap), ∀ (sA : Option Addr) (sn sc : Nat), sn = s.length → SlF i64L Z H sA sc s → ∀ KK : Value → Heap → Prop,
   (∀ (Z' : Nat → Prop) (H' : Heap), Ext H H' → Old Z H Z' → ∀ (r0 : Int), K r0 → KK (.int .i64 r0) H') →
   CallH P N.slices_Index_intint [.slice sA sn sc, .int .i64 v] H KK
def slices_Index_intint.Q (s : (List Int)) (v : Int) (K : Int → Prop) : Prop :=
 LoopQ (τ := Int) 0 fun t nextQ =>
 cond (decide (t < ((s.length : Nat) : Int))) (0 ≤ t ∧ ∃ x : Int, s[Int.toNat t]? = some x ∧ cond (v == x) (K t)
  (nextQ (IntKind.i64.wrap (t + 1))))
  (K (-1))
theorem slices_Index_intint.q {s : (List Int)} {v : Int} {K : Int → Prop} (q : slices_Index_intint.Q s v K) : slices_Index_intint.C s v K := by
 intro Z H sA sn sc hn f KK hk; cases hn; apply slices_Index_intint.ok; unfold slices_Index_intint.W; unfold slices_Index_intint.Q at q; obtain ⟨σ, hz, hσ⟩ := tags Z; have hs : Stp ([] : List Nat) σ H σ H := Stp.refl _ _ _; replace f := f.wide hz; clear hz; refine LoopI.ofQ q (fun t_ s_ hp_ => ∃ σ_, Stp [] σ H σ_ hp_ ∧ t_ = s_) (fun h k => h _ _ k) ⟨_, Stp.refl _ _ _, rfl⟩ ?_; rintro t _ _ H_ next nextQ ⟨xσ, st, rfl⟩ q hnext; (try dsimp only at q ⊢); have sl0 := st; refine condJ (fun q => ?_) (fun q => ?_) q
 · replace hs := hs.trans st; exact hk (Zt xσ) _ (hs.ext hσ) (hs.old hσ) _ q
 obtain ⟨h0, x, hx, q⟩ := q; replace f := f.step st; obtain ⟨a, ha, hi⟩ := f.addr h0 hx rfl; refine ⟨a, ha, hi.1, hi.2, ?_⟩; have hc := f.ldi ha h0 hx; refine ⟨_, hc.val, ?_⟩; refine condI (fun q => ?_) (fun q => ?_) q
 · replace hs := hs.trans st; exact hk (Zt xσ) _ (hs.ext hσ) (hs.old hσ) _ q
 exact hnext (IntKind.i64.wrap (t + 1)) _ _ ⟨_, sl0, rfl⟩ q
def slices_Contains_intint.C (s : (List Int)) (v : Int) (K : Bool → Prop) : Prop :=
 ∀ (Z : Nat → Prop) (H : Heap), ∀ (sA : Option Addr) (sn sc : Nat), sn = s.length → SlF i64L Z H sA sc s → ∀ KK : Value → Heap → Prop,
   (∀ (Z' : Nat → Prop) (H' : Heap), Ext H H' → Old Z H Z' → ∀ (r0 : Bool), K r0 → KK (.bool r0) H') →
   CallH P N.slices_Contains_intint [.slice sA sn sc, .int .i64 v] H KK
def slices_Contains_intint.Q (s : (List Int)) (v : Int) (K : Bool → Prop) : Prop :=
 slices_Index_intint.C s v (fun (x : Int) =>
 K (decide (x ≥ 0)))
theorem slices_Contains_intint.q {s : (List Int)} {v : Int} {K : Bool → Prop} (q : slices_Contains_intint.Q s v K) : slices_Contains_intint.C s v K := by
 intro Z H sA sn sc hn f KK hk; cases hn; apply slices_Contains_intint.ok; unfold slices_Contains_intint.W; unfold slices_Contains_intint.Q at q; obtain ⟨σ, hz, hσ⟩ := tags Z; have hs : Stp ([] : List Nat) σ H σ H := Stp.refl _ _ _; replace f := f.wide hz; clear hz; refine q (Zt σ) H _ _ _ rfl f _ (fun Z2 H_ hE hO x q => ?_); obtain ⟨xσ, st⟩ := call0 hE σ; refine ⟨_, rfl, ?_⟩; replace hs := hs.trans st; exact hk (Zt xσ) _ (hs.ext hσ) (hs.old hσ) _ q
end Go.Proofs.Ytajdpkinlnaidaa.Sh
end
section
set_option linter.unusedVariables false
namespace Go.Proofs.Ytajdpkinlnaidaa.Sp
open Go.Sx Go.Proofs.Ytajdpkinlnaidaa.Sh Go.Proofs.Ytajdpkinlnaidaa.Back Go.Lf
def evalH (p : Nat) (xs : List Nat) (x : Nat) : Nat := xs.foldr (fun c v => fadd p (fmul p v x) c) 0
theorem evalH_lt {p : Nat} (hp : 0 < p) (xs : List Nat) (x : Nat) : evalH p xs x < p := by
 cases xs with
 | nil => exact hp
 | cons c l => exact fadd_lt hp _ _
theorem step_nat {p v x c : Nat} (hp : p ≤ 65537) (hv : v < p) (hx : x < p) (hc : c < p) : stepI p x v c = ((fadd p (fmul p v x) c : Nat) : Int) := by
 have hp0 : 0 < p := by omega
 have hm : v * x < 18446744073709551616 := mul_lt hp hv hx
 have e1 : timesI p v x = ((fmul p v x : Nat) : Int) := by
   unfold timesI
   rw [show (v : Int) * x = ((v * x : Nat) : Int) by simp, wu64 (by omega) (by omega), tmod_nat]; rfl
 have ht := fmul_lt hp0 v x
 unfold stepI
 rw [e1]
 generalize fmul p v x = t at *
 unfold plusI
 rw [wu64 (x := (t : Int) + c) (by omega) (by omega)]
 by_cases h : p ≤ t + c
 · rw [if_pos (by omega), wu64 (by omega) (by omega)]
   unfold fadd
   rw [Nat.mod_eq_sub_mod h, Nat.mod_eq_of_lt (by omega)]; omega
 · rw [if_neg (by omega)]
   unfold fadd
   rw [Nat.mod_eq_of_lt (by omega)]; omega
theorem down_snd (zs : List Int) : (down zs zs.length).map (·.2) = zs.reverse := by
 apply List.ext_getElem?
 intro i
 simp only [down, List.map_map, List.getElem?_map]
 by_cases h : i < zs.length
 · rw [List.getElem?_range h, List.getElem?_reverse h]
   simp only [Option.map_some, Function.comp]
   rw [List.getElem?_eq_getElem (show zs.length - 1 - i < zs.length by omega)]
   rfl
 · rw [List.getElem?_eq_none (by simp; omega), List.getElem?_eq_none (by simp; omega)]
   rfl
theorem horn_eval {p x : Nat} (hp0 : 0 < p) (hp : p ≤ 65537) (hx : x < p) (xs : List Nat) (hb : below p xs = true) : hornI p x (down (xs.map Int.ofNat) (xs.map Int.ofNat).length) = ((evalH p xs x : Nat) : Int) := by
 have e : hornI p x (down (xs.map Int.ofNat) (xs.map Int.ofNat).length) = ((down (xs.map Int.ofNat) (xs.map Int.ofNat).length).map (·.2)).foldl (fun v c => stepI p x v c) 0 := by
   unfold hornI; rw [List.foldl_map]
 rw [e, down_snd, List.foldl_reverse]
 clear e
 induction xs with
 | nil => rfl
 | cons c l ih =>
   simp only [List.map_cons, List.foldr_cons]
   unfold below at hb
   simp at hb
   rw [ih (by unfold below; simp; exact hb.2)]
   exact step_nat hp (evalH_lt hp0 l x) hx hb.1
theorem words_of_sl {S : Nat → Prop} {H : Heap} {A : Option Addr} {n c : Nat} {xs : List Nat} (h : Sl u64R S H A n c xs) (w : World) (hw : w.heap = H) : Words w.heap.size w (.slice A n c) (xs.map Int.ofNat) := by
 subst hw
 have hl := h.len
 cases n with
 | zero => exact .inl ⟨A, c, rfl, by rw [List.eq_nil_of_length_eq_zero hl.symm]; rfl⟩
 | succ n =>
   right
   obtain ⟨⟨b, off, sp⟩, ha, x, hx, hc⟩ := h.u64 (i := 0) (by omega)
   have hb := lt_of_cell hc
   rw [add_zero] at hb hc
   have hsp : sp = none := by
     cases sp with
     | none => rfl
     | some s => unfold cellH at hc; split at hc <;> simp at hc
   subst hsp
   refine ⟨b, off, c, by simp [ha, hl], hb, fun j hj => ?_⟩
   simp at hj
   obtain ⟨a2, ha2, y, hy, hc2⟩ := h.u64 (i := j) (by omega)
   rw [ha] at ha2; cases ha2
   rw [cellH_eq, show (⟨b, off + j, none⟩ : Addr) = (Addr.mk b off none).add j by unfold Addr.add; split <;> simp_all, hc2]
   simp [hy]
theorem poly_At_sp {p x : Nat} (hp0 : 0 < p) (hp : p ≤ 65537) (hx : x < p) {A : Option Addr} {n c : Nat} {S : Nat → Prop} {xs : List Nat} {H : Heap} (h : Sl u64R S H A n c xs) (hb : below p xs = true) {K : Value → Heap → Prop}
   (k : ∀ H', Ext H H' → K (.int .u64 (evalH p xs x : Nat)) H') : CallH P N.poly_At [.int .u64 p, .slice A n c, .int .u64 x] H K := by
 intro w hw
 refine (callsIn_wide (n := 3)).1 ?_
 refine (At_in Fence.wide 3 rfl (by omega) (p : Int) (x : Int) (by omega) A n c (xs.map Int.ofNat) (by simp; rw [← h.len]; exact h.lt) w (words_of_sl h w hw)).mono ?_
 rintro e W' ⟨rfl, hB⟩
 refine ⟨_, rfl, ⟨hB.os, hB.tape, hB.output⟩, ?_⟩
 rw [horn_eval hp0 hp hx xs hb]
 subst hw
 exact k _ ⟨hB.size, fun i hi => hB.block i hi⟩
theorem sl_of {Z : Nat → Prop} {H : Heap} {A : Option Addr} {c : Nat} {xs : List Nat} (h : SlF u64L Z H A c xs) : Sl u64R Z H A xs.length c xs :=
 ⟨rfl, h.cap, h.lt, fun i x hx => by
   obtain ⟨a, cs, ha, hr, hc⟩ := h.get i x hx
   cases hr
   obtain ⟨hz, hv⟩ := hc 0 _ rfl
   exact ⟨a, _, ha, hz, by simpa [u64L] using hv, rfl⟩⟩
theorem old_refl (Z : Nat → Prop) (H : Heap) : Old Z H Z := fun _ h _ => h
theorem poly_At_c {p x : Nat} {f : List Nat} (hp0 : 0 < p) (hp : p ≤ 65537) (hx : x < p) (hb : below p f = true) {K : Nat → Prop} (k : K (evalH p f x)) : poly_At.C p f x K := by
 intro Z H pv he A n c hn hF xv hx' KK hk
 subst he; subst hn; subst hx'
 exact poly_At_sp hp0 hp hx (sl_of hF) hb fun H' hE => hk Z H' hE (old_refl _ _) _ _ rfl k
theorem slices_Clone_c {xs : List Nat} {K : List Nat → Prop} (k : K xs) : slices_Clone_uint64uint64.C xs K := by
 intro Z H A n c hn hF KK hk
 subst hn
 apply slices_Clone_uint64uint64.ok
 unfold slices_Clone_uint64uint64.W
 cases A with
 | none =>
   have hx := hF.none_nil rfl
   subst hx
   exact hk Z H (Ext.refl _) (old_refl _ _) _ (fun _ => False) (fun _ h => h.elim) _ _ _ rfl (SlO.nil _ _ _ _ _) k
 | some a =>
   refine cf rfl ?_
   obtain ⟨σ, hz, hσ⟩ := tags Z
   refine NewH.mk fun H1 e1 => ?_
   obtain ⟨σ1, st1, f1⟩ := SlO.lit (E := u64L) σ 1 (xs := []) (l := []) e1 rfl .nil (show (0 : Nat) ≤ 17592186044416 by decide)
   have hF1 := (hF.wide hz).step st1
   have hs := (Stp.refl [1] σ H).trans st1
   refine SlO.appF f1 hF1 rfl rfl ?_ ?_ rfl rfl (fun A2 c2 H2 σ2 st2 f2 => ?_)
   · have : xs.length ≤ 17592186044416 := hF.lt; simp; omega
   · have : xs.length ≤ 17592186044416 := hF.lt; simp; omega
   have hs := hs.trans st2
   exact hk (Zt σ2) _ (hs.ext hσ) (hs.old hσ) _ (Yt σ2 1) (hs.fresh hσ) _ _ _ rfl f2 k
end Go.Proofs.Ytajdpkinlnaidaa.Sp
end
section
set_option linter.unusedVariables false
set_option linter.unusedSimpArgs false
set_option maxRecDepth 100000
set_option maxHeartbeats 8000000
namespace Go.Proofs.Ytajdpkinlnaidaa.Sh
open Go.Sx
def juntoref01_Same.A : Ann where
 loops := fun i => match i with
   | 16392 => [(13, .int .i64)]
   | _ => []
 plans := fun i => match i with
   | 6 => .first 0 (.first 1 (.first 2 (.first 4 (.first 5 (.first 6 (.read 3 (.read 7 (.first 8 (.done)))))))))
   | _ => .stop
def juntoref01_Same.W (aA : Option Addr) (an ac : Nat) (bA : Option Addr) (bn bc : Nat) (H : Heap) (R : Value → Heap → Prop) : Prop :=
 cond (((an : Nat) : Int) != ((bn : Nat) : Int)) (R (.bool false) H)
  (LoopI (σ := Int) (fun κ => κ 0 H) fun s z H_ next =>
 cond (decide (s < ((an : Nat) : Int))) (∃ a : Addr, aA = some a ∧ 0 ≤ s ∧ s < ((an : Nat) : Int) ∧ ∃ a2 : Addr, bA = some a2 ∧ 0 ≤ s ∧ s < ((bn : Nat) : Int) ∧ ∃ x : Int, cellH H_ (a.add (Int.toNat s)) = some (.int .u64 x) ∧ ∃ x2 : Int, cellH H_ (a2.add (Int.toNat s)) = some (.int .u64 x2) ∧ cond (x != x2) (R (.bool false) H_)
  (next (IntKind.i64.wrap (s + 1)) H_))
  (R (.bool true) H_))
theorem juntoref01_Same.ok (aA : Option Addr) (an ac : Nat) (bA : Option Addr) (bn bc : Nat) (H : Heap) (R : Value → Heap → Prop) (h : juntoref01_Same.W aA an ac bA bn bc H R) : CallH P N.juntoref01_Same [.slice aA an ac, .slice bA bn bc] H R :=
 okW Try.func9 (by kernel_rfl) Try.ntmps9 juntoref01_Same.A (by kernel_rfl) (by kernel_rfl) h
def juntoref01_Add.A : Ann where
 loops := fun i => match i with
   | _ => []
 plans := fun i => match i with
   | _ => .stop
def juntoref01_Add.W (p : Int) (a : Int) (b : Int) (H : Heap) (R : Value → Heap → Prop) : Prop :=
 p ≠ 0 ∧ R (.int .u64 (Int.tmod (IntKind.u64.wrap (a + b)) p)) H
theorem juntoref01_Add.ok (p : Int) (a : Int) (b : Int) (H : Heap) (R : Value → Heap → Prop) (h : juntoref01_Add.W p a b H R) : CallH P N.juntoref01_Add [.int .u64 p, .int .u64 a, .int .u64 b] H R :=
 okW Try.func26 (by kernel_rfl) Try.ntmps26 juntoref01_Add.A (by kernel_rfl) (by kernel_rfl) h
def juntoref01_Mul.A : Ann where
 loops := fun i => match i with
   | _ => []
 plans := fun i => match i with
   | _ => .stop
def juntoref01_Mul.W (p : Int) (a : Int) (b : Int) (H : Heap) (R : Value → Heap → Prop) : Prop :=
 p ≠ 0 ∧ R (.int .u64 (Int.tmod (IntKind.u64.wrap (a * b)) p)) H
theorem juntoref01_Mul.ok (p : Int) (a : Int) (b : Int) (H : Heap) (R : Value → Heap → Prop) (h : juntoref01_Mul.W p a b H R) : CallH P N.juntoref01_Mul [.int .u64 p, .int .u64 a, .int .u64 b] H R :=
 okW Try.func27 (by kernel_rfl) Try.ntmps27 juntoref01_Mul.A (by kernel_rfl) (by kernel_rfl) h
def juntoref01_Within.A : Ann where
 loops := fun i => match i with
   | 8198 => [(9, .int .i64)]
   | _ => []
 plans := fun i => match i with
   | _ => .stop
def juntoref01_Within.W (p : Int) (lA : Option Addr) (ln lc : Nat) (H : Heap) (R : Value → Heap → Prop) : Prop :=
 LoopI (σ := Int) (fun κ => κ 0 H) fun s z H_ next =>
 cond (decide (s < ((ln : Nat) : Int))) (∃ a : Addr, lA = some a ∧ 0 ≤ s ∧ s < ((ln : Nat) : Int) ∧ ∃ x : Int, cellH H_ (a.add (Int.toNat s)) = some (.int .u64 x) ∧ cond (decide (x ≥ p)) (R (.int .i64 2) H_)
  (next (IntKind.i64.wrap (s + 1)) H_))
  (R (.int .i64 0) H_)
theorem juntoref01_Within.ok (p : Int) (lA : Option Addr) (ln lc : Nat) (H : Heap) (R : Value → Heap → Prop) (h : juntoref01_Within.W p lA ln lc H R) : CallH P N.juntoref01_Within [.int .u64 p, .slice lA ln lc] H R :=
 okW Try.func56 (by kernel_rfl) Try.ntmps56 juntoref01_Within.A (by kernel_rfl) (by kernel_rfl) h
def juntoref01_Sub.A : Ann where
 loops := fun i => match i with
   | _ => []
 plans := fun i => match i with
   | _ => .stop
def juntoref01_Sub.W (p : Int) (a : Int) (b : Int) (H : Heap) (R : Value → Heap → Prop) : Prop :=
 p ≠ 0 ∧ R (.int .u64 (Int.tmod (IntKind.u64.wrap ((IntKind.u64.wrap (a + p)) - b)) p)) H
theorem juntoref01_Sub.ok (p : Int) (a : Int) (b : Int) (H : Heap) (R : Value → Heap → Prop) (h : juntoref01_Sub.W p a b H R) : CallH P N.juntoref01_Sub [.int .u64 p, .int .u64 a, .int .u64 b] H R :=
 okW Try.func91 (by kernel_rfl) Try.ntmps91 juntoref01_Sub.A (by kernel_rfl) (by kernel_rfl) h
def juntoref01_Inv.A : Ann where
 loops := fun i => match i with
   | _ => []
 plans := fun i => match i with
   | _ => .stop
def juntoref01_Inv.W (p : Int) (a : Int) (H : Heap) (R : Value → Heap → Prop) : Prop :=
 CallH P N.juntoref01_Pow [.int .u64 p, .int .u64 a, .int .u64 (IntKind.u64.wrap (p - 2))] H fun v H_ =>
 ∃ r : Int, v = .int .u64 r ∧ R (.int .u64 r) H_
theorem juntoref01_Inv.ok (p : Int) (a : Int) (H : Heap) (R : Value → Heap → Prop) (h : juntoref01_Inv.W p a H R) : CallH P N.juntoref01_Inv [.int .u64 p, .int .u64 a] H R :=
 okW Try.func92 (by kernel_rfl) Try.ntmps92 juntoref01_Inv.A (by kernel_rfl) (by kernel_rfl) h
def juntoref01_Is.A : Ann where
 loops := fun i => match i with
   | 16389 => [(3, .int .u64)]
   | _ => []
 plans := fun i => match i with
   | _ => .stop
def juntoref01_Is.W (p : Int) (H : Heap) (R : Value → Heap → Prop) : Prop :=
 cond (decide (p < 3)) (R (.bool false) H) (cond (decide (p > 65537)) (R (.bool false) H)
  (LoopI (σ := Int) (fun κ => κ 2 H) fun s z H_ next =>
 cond (decide ((IntKind.u64.wrap (s * s)) ≤ p)) (s ≠ 0 ∧ cond ((Int.tmod p s) == 0) (R (.bool false) H_)
  (next (IntKind.u64.wrap (s + 1)) H_))
  (R (.bool true) H_)))
theorem juntoref01_Is.ok (p : Int) (H : Heap) (R : Value → Heap → Prop) (h : juntoref01_Is.W p H R) : CallH P N.juntoref01_Is [.int .u64 p] H R :=
 okW Try.func94 (by kernel_rfl) Try.ntmps94 juntoref01_Is.A (by kernel_rfl) (by kernel_rfl) h
def juntoref01_Pow.A : Ann where
 loops := fun i => match i with
   | _ => []
 plans := fun i => match i with
   | _ => .stop
def juntoref01_Pow.W (p : Int) (a : Int) (e : Int) (H : Heap) (R : Value → Heap → Prop) : Prop :=
 cond (e == 0) (R (.int .u64 1) H)
  ((2 : Int) ≠ 0 ∧ CallH P N.juntoref01_Pow [.int .u64 p, .int .u64 a, .int .u64 (IntKind.u64.wrap (Int.tdiv e 2))] H fun v H_ =>
 ∃ r : Int, v = .int .u64 r ∧ CallH P N.juntoref01_Mul [.int .u64 p, .int .u64 r, .int .u64 r] H_ fun v2 H_2 =>
 ∃ r2 : Int, v2 = .int .u64 r2 ∧ (2 : Int) ≠ 0 ∧ cond ((Int.tmod e 2) == 1) (CallH P N.juntoref01_Mul [.int .u64 p, .int .u64 r2, .int .u64 a] H_2 fun v3 H_3 =>
 ∃ r3 : Int, v3 = .int .u64 r3 ∧ R (.int .u64 r3) H_3)
  (R (.int .u64 r2) H_2))
theorem juntoref01_Pow.ok (p : Int) (a : Int) (e : Int) (H : Heap) (R : Value → Heap → Prop) (h : juntoref01_Pow.W p a e H R) : CallH P N.juntoref01_Pow [.int .u64 p, .int .u64 a, .int .u64 e] H R :=
 okW Try.func102 (by kernel_rfl) Try.ntmps102 juntoref01_Pow.A (by kernel_rfl) (by kernel_rfl) h
end Go.Proofs.Ytajdpkinlnaidaa.Sh
namespace Go.Proofs.Ytajdpkinlnaidaa.Sh
open Go.Sx Go.Lf
def juntoref01_Same.C (a : (List Nat)) (b : (List Nat)) (K : Bool → Prop) : Prop :=
 ∀ (Z : Nat → Prop) (H : Heap), ∀ (aA : Option Addr) (an ac : Nat), an = a.length → SlF u64L Z H aA ac a → ∀ (bA : Option Addr) (bn bc : Nat), bn = b.length → SlF u64L Z H bA bc b → ∀ KK : Value → Heap → Prop,
   (∀ (Z' : Nat → Prop) (H' : Heap), Ext H H' → Old Z H Z' → ∀ (r0 : Bool), K r0 → KK (.bool r0) H') →
   CallH P N.juntoref01_Same [.slice aA an ac, .slice bA bn bc] H KK
def juntoref01_Same.Q (a : (List Nat)) (b : (List Nat)) (K : Bool → Prop) : Prop :=
 cond (((a.length : Nat) : Int) != ((b.length : Nat) : Int)) (K false)
  (LoopQ (τ := Int) 0 fun t nextQ =>
 cond (decide (t < ((a.length : Nat) : Int))) (0 ≤ t ∧ ∃ x : Nat, a[Int.toNat t]? = some x ∧ 0 ≤ t ∧ ∃ x2 : Nat, b[Int.toNat t]? = some x2 ∧ cond ((x : Int) != (x2 : Int)) (K false)
  (nextQ (IntKind.i64.wrap (t + 1))))
  (K true))
theorem juntoref01_Same.q {a : (List Nat)} {b : (List Nat)} {K : Bool → Prop} (q : juntoref01_Same.Q a b K) : juntoref01_Same.C a b K := by
 intro Z H aA an ac hn f bA bn bc hn2 f2 KK hk; cases hn; cases hn2; apply juntoref01_Same.ok; unfold juntoref01_Same.W; unfold juntoref01_Same.Q at q; obtain ⟨σ, hz, hσ⟩ := tags Z; have hs : Stp ([] : List Nat) σ H σ H := Stp.refl _ _ _; replace f := f.wide hz; replace f2 := f2.wide hz; clear hz; refine condI (fun q => ?_) (fun q => ?_) q
 · exact hk (Zt σ) _ (hs.ext hσ) (hs.old hσ) _ q
 refine LoopI.ofQ q (fun t_ s_ hp_ => ∃ σ_, Stp [] σ H σ_ hp_ ∧ t_ = s_) (fun h k => h _ _ k) ⟨_, Stp.refl _ _ _, rfl⟩ ?_; rintro t _ _ H_ next nextQ ⟨xσ, st, rfl⟩ q hnext; (try dsimp only at q ⊢); have sl0 := st; refine condJ (fun q => ?_) (fun q => ?_) q
 · replace hs := hs.trans st; exact hk (Zt xσ) _ (hs.ext hσ) (hs.old hσ) _ q
 obtain ⟨h0, x, hx, q⟩ := q; replace f := f.step st; obtain ⟨a2, ha, hi⟩ := f.addr h0 hx rfl; refine ⟨a2, ha, hi.1, hi.2, ?_⟩; obtain ⟨h02, x2, hx2, q⟩ := q; replace f2 := f2.step st; obtain ⟨a3, ha2, hi2⟩ := f2.addr h02 hx2 rfl; refine ⟨a3, ha2, hi2.1, hi2.2, ?_⟩; have hc := f.ldu ha h0 hx; refine ⟨_, hc.val, ?_⟩; have hc2 := f2.ldu ha2 h02 hx2; refine ⟨_, hc2.val, ?_⟩; refine condI (fun q => ?_) (fun q => ?_) q
 · replace hs := hs.trans st; exact hk (Zt xσ) _ (hs.ext hσ) (hs.old hσ) _ q
 exact hnext (IntKind.i64.wrap (t + 1)) _ _ ⟨_, sl0, rfl⟩ q
def juntoref01_Sub.C (p : Nat) (a : Nat) (b : Nat) (K : Nat → Prop) : Prop :=
 ∀ (Z : Nat → Prop) (H : Heap), ∀ (pv : Int), pv = (p : Int) → ∀ (av : Int), av = (a : Int) → ∀ (bv : Int), bv = (b : Int) → ∀ KK : Value → Heap → Prop,
   (∀ (Z' : Nat → Prop) (H' : Heap), Ext H H' → Old Z H Z' → ∀ (r0 : Nat), ∀ (r0v0 : Int), r0v0 = (r0 : Int) → K r0 → KK (.int .u64 r0v0) H') →
   CallH P N.juntoref01_Sub [.int .u64 pv, .int .u64 av, .int .u64 bv] H KK
def juntoref01_Sub.Q (p : Nat) (a : Nat) (b : Nat) (K : Nat → Prop) : Prop :=
 (p : Int) ≠ 0 ∧ K ((Int.tmod (IntKind.u64.wrap ((IntKind.u64.wrap ((a : Int) + (p : Int))) - (b : Int))) (p : Int)).toNat)
theorem juntoref01_Sub.q {p : Nat} {a : Nat} {b : Nat} {K : Nat → Prop} (q : juntoref01_Sub.Q p a b K) : juntoref01_Sub.C p a b K := by
 intro Z H pv he av he2 bv he3 KK hk; cases he; cases he2; cases he3; apply juntoref01_Sub.ok; unfold juntoref01_Sub.W; unfold juntoref01_Sub.Q at q; obtain ⟨σ, hz, hσ⟩ := tags Z; have hs : Stp ([] : List Nat) σ H σ H := Stp.refl _ _ _; clear hz; obtain ⟨q2, q⟩ := q; refine ⟨q2, ?_⟩; exact hk (Zt σ) _ (hs.ext hσ) (hs.old hσ) _ _ (natEq (nnr (nnw _) _)) q
def juntoref01_Mul.C (p : Nat) (a : Nat) (b : Nat) (K : Nat → Prop) : Prop :=
 ∀ (Z : Nat → Prop) (H : Heap), ∀ (pv : Int), pv = (p : Int) → ∀ (av : Int), av = (a : Int) → ∀ (bv : Int), bv = (b : Int) → ∀ KK : Value → Heap → Prop,
   (∀ (Z' : Nat → Prop) (H' : Heap), Ext H H' → Old Z H Z' → ∀ (r0 : Nat), ∀ (r0v0 : Int), r0v0 = (r0 : Int) → K r0 → KK (.int .u64 r0v0) H') →
   CallH P N.juntoref01_Mul [.int .u64 pv, .int .u64 av, .int .u64 bv] H KK
def juntoref01_Mul.Q (p : Nat) (a : Nat) (b : Nat) (K : Nat → Prop) : Prop :=
 (p : Int) ≠ 0 ∧ K ((Int.tmod (IntKind.u64.wrap ((a : Int) * (b : Int))) (p : Int)).toNat)
theorem juntoref01_Mul.q {p : Nat} {a : Nat} {b : Nat} {K : Nat → Prop} (q : juntoref01_Mul.Q p a b K) : juntoref01_Mul.C p a b K := by
 intro Z H pv he av he2 bv he3 KK hk; cases he; cases he2; cases he3; apply juntoref01_Mul.ok; unfold juntoref01_Mul.W; unfold juntoref01_Mul.Q at q; obtain ⟨σ, hz, hσ⟩ := tags Z; have hs : Stp ([] : List Nat) σ H σ H := Stp.refl _ _ _; clear hz; obtain ⟨q2, q⟩ := q; refine ⟨q2, ?_⟩; exact hk (Zt σ) _ (hs.ext hσ) (hs.old hσ) _ _ (natEq (nnr (nnw _) _)) q
def juntoref01_Add.C (p : Nat) (a : Nat) (b : Nat) (K : Nat → Prop) : Prop :=
 ∀ (Z : Nat → Prop) (H : Heap), ∀ (pv : Int), pv = (p : Int) → ∀ (av : Int), av = (a : Int) → ∀ (bv : Int), bv = (b : Int) → ∀ KK : Value → Heap → Prop,
   (∀ (Z' : Nat → Prop) (H' : Heap), Ext H H' → Old Z H Z' → ∀ (r0 : Nat), ∀ (r0v0 : Int), r0v0 = (r0 : Int) → K r0 → KK (.int .u64 r0v0) H') →
   CallH P N.juntoref01_Add [.int .u64 pv, .int .u64 av, .int .u64 bv] H KK
def juntoref01_Add.Q (p : Nat) (a : Nat) (b : Nat) (K : Nat → Prop) : Prop :=
 (p : Int) ≠ 0 ∧ K ((Int.tmod (IntKind.u64.wrap ((a : Int) + (b : Int))) (p : Int)).toNat)
theorem juntoref01_Add.q {p : Nat} {a : Nat} {b : Nat} {K : Nat → Prop} (q : juntoref01_Add.Q p a b K) : juntoref01_Add.C p a b K := by
 intro Z H pv he av he2 bv he3 KK hk; cases he; cases he2; cases he3; apply juntoref01_Add.ok; unfold juntoref01_Add.W; unfold juntoref01_Add.Q at q; obtain ⟨σ, hz, hσ⟩ := tags Z; have hs : Stp ([] : List Nat) σ H σ H := Stp.refl _ _ _; clear hz; obtain ⟨q2, q⟩ := q; refine ⟨q2, ?_⟩; exact hk (Zt σ) _ (hs.ext hσ) (hs.old hσ) _ _ (natEq (nnr (nnw _) _)) q
def juntoref01_Pow.C (p : Nat) (a : Nat) (e : Nat) (K : Nat → Prop) : Prop :=
 ∀ (Z : Nat → Prop) (H : Heap), ∀ (pv : Int), pv = (p : Int) → ∀ (av : Int), av = (a : Int) → ∀ (ev : Int), ev = (e : Int) → ∀ KK : Value → Heap → Prop,
   (∀ (Z' : Nat → Prop) (H' : Heap), Ext H H' → Old Z H Z' → ∀ (r0 : Nat), ∀ (r0v0 : Int), r0v0 = (r0 : Int) → K r0 → KK (.int .u64 r0v0) H') →
   CallH P N.juntoref01_Pow [.int .u64 pv, .int .u64 av, .int .u64 ev] H KK
def juntoref01_Pow.Q (p : Nat) (a : Nat) (e : Nat) (K : Nat → Prop) : Prop :=
 cond ((e : Int) == 0) (K 1)
  ((2 : Int) ≠ 0 ∧ juntoref01_Pow.C p a ((IntKind.u64.wrap (Int.tdiv (e : Int) 2)).toNat) (fun (x : Nat) =>
 juntoref01_Mul.C p x x (fun (x2 : Nat) =>
 (2 : Int) ≠ 0 ∧ cond ((Int.tmod (e : Int) 2) == 1) (juntoref01_Mul.C p x2 a (fun (x3 : Nat) =>
 K x3))
  (K x2))))
theorem juntoref01_Pow.q {p : Nat} {a : Nat} {e : Nat} {K : Nat → Prop} (q : juntoref01_Pow.Q p a e K) : juntoref01_Pow.C p a e K := by
 intro Z H pv he av he2 ev he3 KK hk; cases he; cases he2; cases he3; apply juntoref01_Pow.ok; unfold juntoref01_Pow.W; unfold juntoref01_Pow.Q at q; obtain ⟨σ, hz, hσ⟩ := tags Z; have hs : Stp ([] : List Nat) σ H σ H := Stp.refl _ _ _; clear hz; refine condI (fun q => ?_) (fun q => ?_) q
 · exact hk (Zt σ) _ (hs.ext hσ) (hs.old hσ) _ _ rfl q
 obtain ⟨q3, q⟩ := q; refine ⟨q3, ?_⟩; refine q (Zt σ) H _ rfl _ rfl _ (natEq (nnw _)) _ (fun Z2 H_ hE hO x v he4 q => ?_); obtain ⟨xσ, st⟩ := call0 hE σ; cases he4; refine ⟨_, rfl, ?_⟩; refine q (Zt xσ) H_ _ rfl _ rfl _ rfl _ (fun Z3 H_2 hE2 hO2 x2 v2 he5 q => ?_); obtain ⟨xσ2, st2⟩ := call0 hE2 xσ; cases he5; refine ⟨_, rfl, ?_⟩; obtain ⟨q2, q⟩ := q; refine ⟨q2, ?_⟩; refine condJ (fun q => ?_) (fun q => ?_) q
 · replace hs := hs.trans (st.then st2); exact hk (Zt xσ2) _ (hs.ext hσ) (hs.old hσ) _ _ rfl q
 refine q (Zt xσ2) H_2 _ rfl _ rfl _ rfl _ (fun Z4 H_3 hE3 hO3 x3 v3 he6 q => ?_); obtain ⟨xσ3, st3⟩ := call0 hE3 xσ2; cases he6; refine ⟨_, rfl, ?_⟩; replace hs := hs.trans (st.then (st2.then st3)); exact hk (Zt xσ3) _ (hs.ext hσ) (hs.old hσ) _ _ rfl q
def juntoref01_Inv.C (p : Nat) (a : Nat) (K : Nat → Prop) : Prop :=
 ∀ (Z : Nat → Prop) (H : Heap), ∀ (pv : Int), pv = (p : Int) → ∀ (av : Int), av = (a : Int) → ∀ KK : Value → Heap → Prop,
   (∀ (Z' : Nat → Prop) (H' : Heap), Ext H H' → Old Z H Z' → ∀ (r0 : Nat), ∀ (r0v0 : Int), r0v0 = (r0 : Int) → K r0 → KK (.int .u64 r0v0) H') →
   CallH P N.juntoref01_Inv [.int .u64 pv, .int .u64 av] H KK
def juntoref01_Inv.Q (p : Nat) (a : Nat) (K : Nat → Prop) : Prop :=
 juntoref01_Pow.C p a ((IntKind.u64.wrap ((p : Int) - 2)).toNat) (fun (x : Nat) =>
 K x)
theorem juntoref01_Inv.q {p : Nat} {a : Nat} {K : Nat → Prop} (q : juntoref01_Inv.Q p a K) : juntoref01_Inv.C p a K := by
 intro Z H pv he av he2 KK hk; cases he; cases he2; apply juntoref01_Inv.ok; unfold juntoref01_Inv.W; unfold juntoref01_Inv.Q at q; obtain ⟨σ, hz, hσ⟩ := tags Z; have hs : Stp ([] : List Nat) σ H σ H := Stp.refl _ _ _; clear hz; refine q (Zt σ) H _ rfl _ rfl _ (natEq (nnw _)) _ (fun Z2 H_ hE hO x v he3 q => ?_); obtain ⟨xσ, st⟩ := call0 hE σ; cases he3; refine ⟨_, rfl, ?_⟩; replace hs := hs.trans st; exact hk (Zt xσ) _ (hs.ext hσ) (hs.old hσ) _ _ rfl q
def juntoref01_Is.C (p : Nat) (K : Bool → Prop) : Prop :=
 ∀ (Z : Nat → Prop) (H : Heap), ∀ (pv : Int), pv = (p : Int) → ∀ KK : Value → Heap → Prop,
   (∀ (Z' : Nat → Prop) (H' : Heap), Ext H H' → Old Z H Z' → ∀ (r0 : Bool), K r0 → KK (.bool r0) H') →
   CallH P N.juntoref01_Is [.int .u64 pv] H KK
def juntoref01_Is.Q (p : Nat) (K : Bool → Prop) : Prop :=
 cond (decide ((p : Int) < 3)) (K false)
  (cond (decide ((p : Int) > 65537)) (K false)
  (LoopQ (τ := Nat) 2 fun t nextQ =>
 cond (decide ((IntKind.u64.wrap ((t : Int) * (t : Int))) ≤ (p : Int))) ((t : Int) ≠ 0 ∧ cond ((Int.tmod (p : Int) (t : Int)) == 0) (K false)
  (nextQ ((IntKind.u64.wrap ((t : Int) + 1)).toNat)))
  (K true)))
theorem juntoref01_Is.q {p : Nat} {K : Bool → Prop} (q : juntoref01_Is.Q p K) : juntoref01_Is.C p K := by
 intro Z H pv he KK hk; cases he; apply juntoref01_Is.ok; unfold juntoref01_Is.W; unfold juntoref01_Is.Q at q; obtain ⟨σ, hz, hσ⟩ := tags Z; have hs : Stp ([] : List Nat) σ H σ H := Stp.refl _ _ _; clear hz; refine condI (fun q => ?_) (fun q => ?_) q
 · exact hk (Zt σ) _ (hs.ext hσ) (hs.old hσ) _ q
 refine condI (fun q => ?_) (fun q => ?_) q
 · exact hk (Zt σ) _ (hs.ext hσ) (hs.old hσ) _ q
 refine LoopI.ofQ q (fun t_ s_ hp_ => ∃ σ_ x0_, Stp [] σ H σ_ hp_ ∧ x0_ = s_ ∧ x0_ = ((t_ : Nat) : Int)) (fun h k => h _ _ k) ⟨_, _, Stp.refl _ _ _, rfl, rfl⟩ ?_; rintro t _ _ H_ next nextQ ⟨xσ, x, st, rfl, rfl⟩ q hnext; (try dsimp only at q ⊢); have sl0 := st; refine condJ (fun q => ?_) (fun q => ?_) q
 · replace hs := hs.trans st; exact hk (Zt xσ) _ (hs.ext hσ) (hs.old hσ) _ q
 obtain ⟨q2, q⟩ := q; refine ⟨q2, ?_⟩; refine condI (fun q => ?_) (fun q => ?_) q
 · replace hs := hs.trans st; exact hk (Zt xσ) _ (hs.ext hσ) (hs.old hσ) _ q
 exact hnext ((IntKind.u64.wrap ((t : Int) + 1)).toNat) _ _ ⟨_, _, sl0, rfl, (natEq (nnw _))⟩ q
def juntoref01_Within.C (p : Nat) (l : (List Nat)) (K : Int → Prop) : Prop :=
 ∀ (Z : Nat → Prop) (H : Heap), ∀ (pv : Int), pv = (p : Int) → ∀ (lA : Option Addr) (ln lc : Nat), ln = l.length → SlF u64L Z H lA lc l → ∀ KK : Value → Heap → Prop,
   (∀ (Z' : Nat → Prop) (H' : Heap), Ext H H' → Old Z H Z' → ∀ (r0 : Int), K r0 → KK (.int .i64 r0) H') →
   CallH P N.juntoref01_Within [.int .u64 pv, .slice lA ln lc] H KK
def juntoref01_Within.Q (p : Nat) (l : (List Nat)) (K : Int → Prop) : Prop :=
 LoopQ (τ := Int) 0 fun t nextQ =>
 cond (decide (t < ((l.length : Nat) : Int))) (0 ≤ t ∧ ∃ x : Nat, l[Int.toNat t]? = some x ∧ cond (decide ((x : Int) ≥ (p : Int))) (K 2)
  (nextQ (IntKind.i64.wrap (t + 1))))
  (K 0)
theorem juntoref01_Within.q {p : Nat} {l : (List Nat)} {K : Int → Prop} (q : juntoref01_Within.Q p l K) : juntoref01_Within.C p l K := by
 intro Z H pv he lA ln lc hn f KK hk; cases he; cases hn; apply juntoref01_Within.ok; unfold juntoref01_Within.W; unfold juntoref01_Within.Q at q; obtain ⟨σ, hz, hσ⟩ := tags Z; have hs : Stp ([] : List Nat) σ H σ H := Stp.refl _ _ _; replace f := f.wide hz; clear hz; refine LoopI.ofQ q (fun t_ s_ hp_ => ∃ σ_, Stp [] σ H σ_ hp_ ∧ t_ = s_) (fun h k => h _ _ k) ⟨_, Stp.refl _ _ _, rfl⟩ ?_; rintro t _ _ H_ next nextQ ⟨xσ, st, rfl⟩ q hnext; (try dsimp only at q ⊢); have sl0 := st; refine condJ (fun q => ?_) (fun q => ?_) q
 · replace hs := hs.trans st; exact hk (Zt xσ) _ (hs.ext hσ) (hs.old hσ) _ q
 obtain ⟨h0, x, hx, q⟩ := q; replace f := f.step st; obtain ⟨a, ha, hi⟩ := f.addr h0 hx rfl; refine ⟨a, ha, hi.1, hi.2, ?_⟩; have hc := f.ldu ha h0 hx; refine ⟨_, hc.val, ?_⟩; refine condI (fun q => ?_) (fun q => ?_) q
 · replace hs := hs.trans st; exact hk (Zt xσ) _ (hs.ext hσ) (hs.old hσ) _ q
 exact hnext (IntKind.i64.wrap (t + 1)) _ _ ⟨_, sl0, rfl⟩ q
end Go.Proofs.Ytajdpkinlnaidaa.Sh
end
section
set_option linter.unusedVariables false
namespace Go.Lf
open Go.Sx
theorem LoopQ.upto {τ : Type} {t0 : τ} {step : τ → (τ → Prop) → Prop} (N : Nat) (Inv : Nat → τ → Prop) (h0 : Inv 0 t0) (hs : ∀ (k : Nat) (t : τ) (next : τ → Prop), k ≤ N → Inv k t → (k < N → ∀ t', Inv (k + 1) t' → next t') → step t next) : LoopQ t0 step := by
 refine ⟨fun n t => ∃ k : Nat, k ≤ N ∧ n = N - k ∧ Inv k t, ⟨N, 0, Nat.zero_le _, rfl, h0⟩, ?_⟩
 rintro n t ⟨k, hk, rfl, hI⟩
 exact hs k t _ hk hI fun hlt t' hI' => ⟨N - (k + 1), by omega, k + 1, by omega, rfl, hI'⟩
theorem LoopQ.down {τ : Type} {t0 : τ} {step : τ → (τ → Prop) → Prop} (Inv : τ → Prop) (μ : τ → Nat) (h0 : Inv t0) (hs : ∀ (t : τ) (next : τ → Prop), Inv t → (∀ t', μ t' < μ t → Inv t' → next t') → step t next) : LoopQ t0 step := by
 refine ⟨fun n t => n = μ t ∧ Inv t, ⟨_, rfl, h0⟩, ?_⟩
 rintro n t ⟨rfl, hI⟩
 exact hs t _ hI fun t' hlt hI' => ⟨μ t', hlt, rfl, hI'⟩
theorem LoopQ.range {step : Int → (Int → Prop) → Prop} (N : Nat) (Inv : Nat → Prop) (h0 : Inv 0) (hN : N < 4611686018427387904) (hs : ∀ (k : Nat) (next : Int → Prop), k < N → Inv k → (Inv (k + 1) → next (IntKind.i64.wrap ((k : Int) + 1))) → step (k : Int) next)
   (he : ∀ next : Int → Prop, Inv N → step (N : Int) next) : LoopQ 0 step := by
 refine LoopQ.upto N (fun k t => t = k ∧ Inv k) ⟨rfl, h0⟩ ?_
 rintro k t next hk ⟨rfl, hI⟩ hn
 by_cases h : k < N
 · exact hs k next h hI fun hI' => hn h _ ⟨wsucc (by omega), hI'⟩
 · obtain rfl : k = N := by omega
   exact he next hI
theorem LoopQ.rangeS {S : Type} {s0 : S} {step : Int × S → (Int × S → Prop) → Prop} (N : Nat) (Inv : Nat → S → Prop) (h0 : Inv 0 s0) (hN : N < 4611686018427387904) (hs : ∀ (k : Nat) (s : S) (next : Int × S → Prop), k < N → Inv k s → (∀ s', Inv (k + 1) s' → next (IntKind.i64.wrap ((k : Int) + 1), s')) → step ((k : Int), s) next)
   (he : ∀ (s : S) (next : Int × S → Prop), Inv N s → step ((N : Int), s) next) : LoopQ ((0 : Int), s0) step := by
 refine LoopQ.upto N (fun k t => t.1 = k ∧ Inv k t.2) ⟨rfl, h0⟩ ?_
 rintro k ⟨t, s⟩ next hk ⟨rfl, hI⟩ hn
 by_cases h : k < N
 · exact hs k s next h hI fun s' hI' => hn h _ ⟨wsucc (by omega), hI'⟩
 · obtain rfl : k = N := by omega
   exact he s next hI
theorem get_some {α : Type} {l : List α} {k : Nat} (h : k < l.length) : ∃ x, l[k]? = some x := ⟨_, List.getElem?_eq_getElem h⟩
theorem lt_get {α : Type} {l : List α} {k : Nat} {x : α} (h : l[k]? = some x) : k < l.length := (List.getElem?_eq_some_iff.1 h).1
theorem mem_get {α : Type} {l : List α} {k : Nat} {x : α} (h : l[k]? = some x) : x ∈ l := List.mem_of_getElem? h
theorem uw {x : Nat} (h : x < 18446744073709551616) : IntKind.u64.wrap (x : Int) = x := wu64 (by omega) (by omega)
theorem toNat_c (x : Nat) : ((x : Int)).toNat = x := rfl
theorem and_one {e : Nat} (h : e < 18446744073709551616) : bitsOf .and .u64 (e : Int) 1 = ((e % 2 : Nat) : Int) := by
 unfold bitsOf
 have e1 : (BitVec.ofInt IntKind.u64.bits (e : Int) &&& BitVec.ofInt IntKind.u64.bits 1).toNat = e % 2 := by
   have : (BitVec.ofInt IntKind.u64.bits (e : Int)).toNat = e := by
     rw [BitVec.toNat_ofInt]; show (((e : Int) % ((2 ^ 64 : Nat) : Int))).toNat = e; omega
   rw [BitVec.toNat_and, this]
   show e &&& 1 = e % 2
   exact Nat.and_one_is_mod e
 simp only [e1]
 exact wu64 (by omega) (by omega)
theorem shr_one (e : Nat) : (Int.fdiv (e : Int) (2 ^ (min (Int.toNat 1) 64))).toNat = e / 2 := by
 have : (2 : Int) ^ (min (Int.toNat 1) 64) = 2 := rfl
 rw [this]
 have h2 : Int.fdiv (e : Int) 2 = ((e / 2 : Nat) : Int) := by rw [Int.fdiv_eq_ediv_of_nonneg _ (by decide)]; rfl
 rw [h2]; rfl
end Go.Lf
namespace Go.Proofs.Ytajdpkinlnaidaa.Pl
open Go.Sx Go.Lf Go.Proofs.Ytajdpkinlnaidaa.Sh Go.Proofs.Ytajdpkinlnaidaa.Sp
section
variable {p a b e : Nat}
theorem field_mul_c (hp : 0 < p) (h : a * b < 18446744073709551616) {K : Nat → Prop} (k : K (fmul p a b)) : field_mul.C p a b K := by
 refine field_mul.q ⟨by omega, ?_⟩
 rw [show (a : Int) * b = ((a * b : Nat) : Int) by simp, uw h, tmod_nat]; exact k
theorem field_Times_c (hp0 : 0 < p) (hp : p ≤ 65537) (ha : a < p) (hb : b < p) {K : Nat → Prop} (k : K (fmul p a b)) : field_Times.C p a b K :=
 field_Times.q (field_mul_c hp0 (mul_lt hp ha hb) k)
theorem field_Plus_c (hp : p ≤ 65537) (ha : a < p) (hb : b < p) {K : Nat → Prop} (k : K (fadd p a b)) : field_Plus.C p a b K := by
 apply field_Plus.q
 unfold field_Plus.Q
 rw [show (a : Int) + b = ((a + b : Nat) : Int) by simp, uw (by omega)]
 by_cases hc : p ≤ a + b
 · refine ctd (by omega) ?_
   rw [show ((a + b : Nat) : Int) - p = ((a + b - p : Nat) : Int) by omega, uw (by omega)]
   have : fadd p a b = a + b - p := by unfold fadd; rw [Nat.mod_eq_sub_mod hc, Nat.mod_eq_of_lt (by omega)]
   rw [this] at k; exact k
 · refine cfd (by omega) ?_
   have : fadd p a b = a + b := by unfold fadd; rw [Nat.mod_eq_of_lt (by omega)]
   rw [this] at k; exact k
theorem field_Minus_c (hp0 : 0 < p) (hp : p ≤ 65537) (ha : a < p) (hb : b < p) {K : Nat → Prop} (k : K (fsub p a b)) : field_Minus.C p a b K := by
 refine field_Minus.q ⟨by omega, ?_⟩
 rw [show (p : Int) - b = ((p - b : Nat) : Int) by omega, uw (by omega), tmod_nat, toNat_c]
 refine field_Plus_c hp ha (Nat.mod_lt _ hp0) ?_
 have : fadd p a ((p - b) % p) = fsub p a b := by unfold fadd fsub; simp
 rw [this]; exact k
def fpow (p a e : Nat) : Nat := a ^ e % p
theorem fpow_lt (hp : 0 < p) (a e : Nat) : fpow p a e < p := Nat.mod_lt _ hp
def finv (p a : Nat) : Nat := fpow p a (p - 2)
theorem finv_lt (hp : 0 < p) (a : Nat) : finv p a < p := fpow_lt hp _ _
theorem field_pow_c (hp0 : 1 < p) (hp : p ≤ 65537) (ha : a < p) (he : e < 18446744073709551616) {K : Nat → Prop} (k : K (fpow p a e)) : field_pow.C p a e K := by
 refine field_pow.q ⟨by omega, ?_⟩
 have e1 : Int.tmod 1 (p : Int) = ((1 % p : Nat) : Int) := rfl
 rw [e1, toNat_c, Nat.mod_eq_of_lt hp0]
 refine LoopQ.down (fun t => t.1 < p ∧ t.2.1 < 18446744073709551616 ∧ t.2.2 < p ∧ t.2.2 * t.1 ^ t.2.1 % p = a ^ e % p) (fun t => t.2.1) ⟨ha, he, hp0, by simp⟩ ?_
 rintro ⟨x, n, r⟩ next ⟨hx, hn, hr, hi⟩ hnext
 dsimp only at *
 by_cases h0 : n = 0
 · subst h0
   refine cfd (by omega) ?_
   have : fpow p a e = r := by unfold fpow; rw [← hi]; simp [Nat.mod_eq_of_lt hr]
   rw [this] at k; exact k
 refine ctd (by omega) ?_
 rw [and_one hn, shr_one]
 have hh : x ^ n = x ^ (n % 2) * (x * x) ^ (n / 2) := by
   rw [← Nat.pow_two, ← Nat.pow_mul, ← Nat.pow_add]; congr 1; omega
 have hpm : ∀ y m, (y % p) ^ m % p = y ^ m % p := fun y m => (Nat.pow_mod y m p).symm
 rcases Nat.mod_two_eq_zero_or_one n with h | h
 · rw [h] at hh ⊢
   refine cf rfl (field_mul_c (by omega) (mul_lt hp hx hx) ⟨by decide, hnext _ (by dsimp only; omega) ⟨fmul_lt (by omega) _ _, by dsimp only; omega, hr, ?_⟩⟩)
   dsimp only
   rw [← hi, hh, Nat.pow_zero, Nat.one_mul, Nat.mul_mod, fmul, hpm, ← Nat.mul_mod]
 · rw [h] at hh ⊢
   refine ct rfl (field_mul_c (by omega) (mul_lt hp hr hx) (field_mul_c (by omega) (mul_lt hp hx hx) ⟨by decide, hnext _ (by dsimp only; omega) ⟨fmul_lt (by omega) _ _, by dsimp only; omega, fmul_lt (by omega) _ _, ?_⟩⟩))
   dsimp only
   rw [← hi, hh, Nat.pow_one, ← Nat.mul_assoc, Nat.mul_mod, fmul, fmul, hpm, Nat.mod_mod, ← Nat.mul_mod]
theorem field_Over_c (hp0 : 2 < p) (hp : p ≤ 65537) (ha : a < p) {K : Nat → Prop} (k : K (finv p a)) : field_Over.C p a K := by
 apply field_Over.q
 unfold field_Over.Q
 rw [show (p : Int) - 2 = ((p - 2 : Nat) : Int) by omega, uw (by omega), toNat_c]
 exact field_pow_c (by omega) hp ha (by omega) k
theorem field_Below_c {l : List Nat} (hl : l.length < 4611686018427387904) {K : Int → Prop} (k : K (codeB (below p l))) : field_Below.C p l K := by
 apply field_Below.q
 refine LoopQ.range l.length (fun k => ∀ j x, j < k → l[j]? = some x → x < p) (fun j x hj => by omega) hl ?_ ?_
 · intro i next hk hI hn
   obtain ⟨x, hx⟩ := get_some hk
   refine ctd (by omega) ⟨by omega, x, hx, ?_⟩
   by_cases hxp : p ≤ x
   · refine ctd (by omega) ?_
     have : below p l = false := by unfold below; rw [List.all_eq_false]; exact ⟨x, mem_get hx, by simp; omega⟩
     rw [this] at k; exact k
   · refine cfd (by omega) (hn fun j y hj hy => ?_)
     rcases Nat.lt_or_ge j i with h' | h'
     · exact hI j y h' hy
     · obtain rfl : j = i := by omega
       rw [hx] at hy; cases hy; omega
 · intro next hI
   refine cfd (by omega) ?_
   have : below p l = true := by
     unfold below; rw [List.all_eq_true]; intro x hx
     obtain ⟨j, hj⟩ := List.mem_iff_getElem?.1 hx
     simp [hI j x (lt_get hj) hj]
   rw [this] at k; exact k
theorem juntoref01_Within_c {l : List Nat} (hl : l.length < 4611686018427387904) {K : Int → Prop} (k : K (codeB (below p l))) : juntoref01_Within.C p l K := by
 apply juntoref01_Within.q
 refine LoopQ.range l.length (fun k => ∀ j x, j < k → l[j]? = some x → x < p) (fun j x hj => by omega) hl ?_ ?_
 · intro i next hk hI hn
   obtain ⟨x, hx⟩ := get_some hk
   refine ctd (by omega) ⟨by omega, x, hx, ?_⟩
   by_cases hxp : p ≤ x
   · refine ctd (by omega) ?_
     have : below p l = false := by unfold below; rw [List.all_eq_false]; exact ⟨x, mem_get hx, by simp; omega⟩
     rw [this] at k; exact k
   · refine cfd (by omega) (hn fun j y hj hy => ?_)
     rcases Nat.lt_or_ge j i with h' | h'
     · exact hI j y h' hy
     · obtain rfl : j = i := by omega
       rw [hx] at hy; cases hy; omega
 · intro next hI
   refine cfd (by omega) ?_
   have : below p l = true := by
     unfold below; rw [List.all_eq_true]; intro x hx
     obtain ⟨j, hj⟩ := List.mem_iff_getElem?.1 hx
     simp [hI j x (lt_get hj) hj]
   rw [this] at k; exact k
theorem juntoref01_Same_c {x y : List Nat} (hl : x.length < 4611686018427387904) {K : Bool → Prop} (k : K (decide (x = y))) : juntoref01_Same.C x y K := by
 apply juntoref01_Same.q
 unfold juntoref01_Same.Q
 by_cases hlen : x.length = y.length
 · refine cf (bne_f (by omega)) ?_
   refine LoopQ.range x.length (fun k => ∀ j, j < k → x[j]? = y[j]?) (fun j hj => by omega) hl ?_ ?_
   · intro n next hk hI hn
     obtain ⟨u, hu⟩ := get_some hk
     obtain ⟨v, hv⟩ := get_some (show n < y.length by omega)
     refine ctd (by omega) ⟨by omega, u, hu, by omega, v, hv, ?_⟩
     by_cases huv : u = v
     · refine cf (bne_f (by omega)) (hn fun j hj => ?_)
       rcases Nat.lt_or_ge j n with h' | h'
       · exact hI j h'
       · obtain rfl : j = n := by omega
         rw [hu, hv, huv]
     · refine ct (bne_t (by omega)) ?_
       rw [decide_eq_false (fun h => huv (by rw [h, hv] at hu; cases hu; rfl))] at k; exact k
   · intro next hI
     refine cfd (by omega) ?_
     rw [decide_eq_true] at k
     · exact k
     · apply List.ext_getElem?
       intro j
       rcases Nat.lt_or_ge j x.length with h' | h'
       · exact hI j h'
       · rw [List.getElem?_eq_none h', List.getElem?_eq_none (by omega)]
 · refine ct (bne_t (by omega)) ?_
   rw [decide_eq_false (fun h => hlen (by rw [h]))] at k; exact k
def takeN (p : Nat) (tape : List Nat) (n : Nat) : List Nat := (List.range n).map fun i => ((tape[i]?).map (· % p)).getD 0
def takeK (p : Nat) (tape : List Nat) (n k : Nat) : List Nat := (List.range n).map fun i => if i < k then ((tape[i]?).map (· % p)).getD 0 else 0
theorem takeN_len (p : Nat) (tape : List Nat) (n : Nat) : (takeN p tape n).length = n := by simp [takeN]
theorem takeK_zero (p : Nat) (tape : List Nat) (n : Nat) : takeK p tape n 0 = List.replicate n 0 := by
 apply List.ext_getElem?; intro i
 simp only [takeK, List.getElem?_map, List.getElem?_replicate]
 by_cases h : i < n <;> simp [h]
theorem takeK_all (p : Nat) (tape : List Nat) (n k : Nat) (h : n ≤ k ∨ tape.length ≤ k) : takeK p tape n k = takeN p tape n := by
 apply List.ext_getElem?; intro i
 simp only [takeK, takeN, List.getElem?_map]
 by_cases hi : i < n
 · simp only [List.getElem?_range hi, Option.map_some]
   by_cases hk : i < k
   · simp [hk]
   · simp [hk, List.getElem?_eq_none (show tape.length ≤ i by omega)]
 · simp [hi]
theorem takeK_set (p : Nat) (tape : List Nat) (n k : Nat) (x : Nat) (hx : tape[k]? = some x) : (takeK p tape n k).set k (x % p) = takeK p tape n (k + 1) := by
 apply List.ext_getElem?; intro i
 rw [List.getElem?_set]
 simp only [takeK, List.getElem?_map, List.length_map, List.length_range]
 by_cases hi : k = i
 · subst hi
   by_cases hn : k < n <;> simp [hn, hx]
 · by_cases hn : i < n
   · simp only [hi, if_false, List.getElem?_range hn, Option.map_some]
     by_cases h1 : i < k
     · simp [h1, show i < k + 1 by omega]
     · simp [h1, show ¬ i < k + 1 by omega]
   · simp [hi, hn]
theorem minI (m n : Nat) : (if ((m : Nat) : Int) < (n : Int) then ((m : Nat) : Int) else (n : Int)) = ((min n m : Nat) : Int) := by split <;> omega
theorem drop_min (n : Nat) (tape : List Nat) : List.drop (min n tape.length) tape = tape.drop n := by
 rcases Nat.le_total n tape.length with h | h
 · rw [Nat.min_eq_left h]
 · rw [Nat.min_eq_right h, List.drop_of_length_le (Nat.le_refl _), List.drop_of_length_le h]
theorem field_Take_c {tape : List Nat} {n : Nat} (hp : 0 < p) (hn : n ≤ 1000000) (ht : tape.length ≤ 17592186044416) {K : List Nat → List Nat → Prop} (k : K (takeN p tape n) (tape.drop n)) : field_Take.C p tape n K := by
 refine field_Take.q ⟨MakeOk.of (by omega) (by omega), ?_⟩
 rw [toNat_c, ← takeK_zero p tape n]
 refine LoopQ.rangeS n (fun k s => s = takeK p tape n k) rfl (by omega) ?_ ?_
 · rintro j _ next hj rfl hnext
   refine ctd (by dsimp only; omega) ?_
   by_cases h : j < tape.length
   · obtain ⟨x, hx⟩ := get_some h
     refine ctd (by dsimp only; omega) ⟨by dsimp only; omega, x, hx, by omega, by dsimp only; omega, by dsimp only; omega, ?_⟩
     refine hnext _ ?_
     rw [← takeK_set _ _ _ _ _ hx]; rfl
   · refine cfd (by dsimp only; omega) (hnext _ ?_)
     dsimp only
     rw [takeK_all _ _ _ _ (.inr (by omega)), takeK_all _ _ _ _ (.inr (by omega))]
 · rintro _ next rfl
   refine cfd (by dsimp only; omega) ?_
   dsimp only
   rw [minI, toNat_c, drop_min, takeK_all _ _ _ _ (.inl (Nat.le_refl _))]
   refine ⟨by omega, by omega, ?_, k⟩
   constructor <;> simp <;> omega
theorem juntoref01_Mul_c (hp0 : 0 < p) (hp : p ≤ 65537) (ha : a < p) (hb : b < p) {K : Nat → Prop} (k : K (fmul p a b)) : juntoref01_Mul.C p a b K := by
 refine juntoref01_Mul.q ⟨by omega, ?_⟩
 rw [show (a : Int) * b = ((a * b : Nat) : Int) by simp, uw (mul_lt hp ha hb), tmod_nat]; exact k
theorem juntoref01_Add_c (hp0 : 0 < p) (hp : p ≤ 65537) (ha : a < p) (hb : b < p) {K : Nat → Prop} (k : K (fadd p a b)) : juntoref01_Add.C p a b K := by
 refine juntoref01_Add.q ⟨by omega, ?_⟩
 rw [show (a : Int) + b = ((a + b : Nat) : Int) by simp, uw (by omega), tmod_nat]; exact k
theorem juntoref01_Sub_c (hp0 : 0 < p) (hp : p ≤ 65537) (ha : a < p) (hb : b < p) {K : Nat → Prop} (k : K (fsub p a b)) : juntoref01_Sub.C p a b K := by
 refine juntoref01_Sub.q ⟨by omega, ?_⟩
 rw [show (a : Int) + p = ((a + p : Nat) : Int) by simp, uw (by omega), show ((a + p : Nat) : Int) - b = ((a + (p - b) : Nat) : Int) by omega, uw (by omega), tmod_nat]; exact k
theorem juntoref01_Pow_c (hp0 : 1 < p) (hp : p ≤ 65537) (ha : a < p) : ∀ (e : Nat), e < 18446744073709551616 → ∀ {K : Nat → Prop}, K (fpow p a e) → juntoref01_Pow.C p a e K := by
 intro e
 induction e using Nat.strongRecOn with
 | ind e ih =>
   intro he K k
   apply juntoref01_Pow.q
   unfold juntoref01_Pow.Q
   by_cases h0 : e = 0
   · subst h0
     refine ct rfl ?_
     have : fpow p a 0 = 1 := by unfold fpow; rw [Nat.pow_zero, Nat.mod_eq_of_lt hp0]
     rw [this] at k; exact k
   refine cf (beq_f (by omega)) ⟨by omega, ?_⟩
   rw [show Int.tdiv (e : Int) 2 = ((e / 2 : Nat) : Int) from rfl, uw (by omega), toNat_c]
   refine ih (e / 2) (by omega) (by omega) (juntoref01_Mul_c (by omega) hp (fpow_lt (by omega) _ _) (fpow_lt (by omega) _ _) ⟨by omega, ?_⟩)
   have hsq : fmul p (fpow p a (e / 2)) (fpow p a (e / 2)) = fpow p a (e / 2 + e / 2) := by unfold fmul fpow; rw [← Nat.mul_mod, Nat.pow_add]
   rw [hsq, show Int.tmod (e : Int) 2 = ((e % 2 : Nat) : Int) from rfl]
   by_cases hodd : e % 2 = 1
   · refine ct (beq_t (by omega)) (juntoref01_Mul_c (by omega) hp (fpow_lt (by omega) _ _) ha ?_)
     have : fmul p (fpow p a (e / 2 + e / 2)) a = fpow p a e := by
       unfold fmul fpow
       rw [Nat.mod_mul_mod, ← Nat.pow_succ, show (e / 2 + e / 2).succ = e by omega]
     rw [this]; exact k
   · refine cf (beq_f (by omega)) ?_
     rw [show e / 2 + e / 2 = e by omega]; exact k
theorem juntoref01_Inv_c (hp0 : 2 < p) (hp : p ≤ 65537) (ha : a < p) {K : Nat → Prop} (k : K (finv p a)) : juntoref01_Inv.C p a K := by
 apply juntoref01_Inv.q
 unfold juntoref01_Inv.Q
 rw [show (p : Int) - 2 = ((p - 2 : Nat) : Int) by omega, uw (by omega), toNat_c]
 exact juntoref01_Pow_c (by omega) hp ha _ (by omega) k
end
end Go.Proofs.Ytajdpkinlnaidaa.Pl
end
section
set_option linter.unusedVariables false
set_option linter.unusedSimpArgs false
set_option maxRecDepth 100000
set_option maxHeartbeats 8000000
namespace Go.Proofs.Ytajdpkinlnaidaa.Sh
open Go.Sx
def poly_Fit.A : Ann where
 loops := fun i => match i with
   | 12294 => [(18, .int .i64)]
   | 32777 => [(8, .int .i64)]
   | 45068 => [(9, .int .i64)]
   | 69650 => [(11, .slice), (12, .int .i64)]
   | _ => []
 plans := fun i => match i with
   | 13 => .first 0 (.first 1 (.first 2 (.first 3 (.first 4 (.first 6 (.first 7 (.first 8 (.first 9 (.first 10 (.first 11 (.read 5 (.read 12 (.alt 13 [5, 12] (.first 14 (.done)) (.stop))))))))))))))
   | 14 => .first 0 (.first 1 (.first 2 (.first 3 (.first 4 (.first 5 (.first 6 (.first 8 (.first 9 (.first 10 (.first 11 (.first 14 (.first 15 (.read 7 (.read 12 (.alt 13 [7, 12] (.alt 16 [] (.alt 17 [] (.first 18 (.alt 19 [] (.done) (.stop))) (.stop)) (.stop)) (.stop))))))))))))))))
   | _ => .stop
def poly_Fit.W (p : Int) (lA : Option Addr) (ln lc : Nat) (H : Heap) (R : Value → Heap → Prop) : Prop :=
 0 ≤ ((ln : Nat) : Int) ∧ ((ln : Nat) : Int) ≤ ((ln : Nat) : Int) ∧ ((ln : Nat) : Int) * 8 ≤ 2 ^ 48 ∧ ((ln : Nat) : Int) < 2 ^ 62 ∧ NewH (H.push (.cells (repl (Int.toNat ((ln : Nat) : Int)) [.int .u64 0]).toArray 22 (0, 0))) fun H_ =>
 LoopI (σ := Int) (fun κ => κ 0 H_) fun s z H_2 next =>
 cond (decide (s < ((ln : Nat) : Int))) (∃ a : Addr, lA = some a ∧ 0 ≤ s ∧ s < ((ln : Nat) : Int) ∧ ∃ x0 : Int, ∃ x1 : Int, cellH H_2 (a.add ((Int.toNat s) * 2)) = some (.int .u64 x0) ∧ cellH H_2 ((a.add ((Int.toNat s) * 2)).add 1) = some (.int .u64 x1) ∧ NewH (H_2.push (.cells #[.int .u64 0, .int .u64 0] 71 (0, 0))) fun H_3 =>
 MayWrite H_3 (Addr.mk H_2.size 0 none) 2 ∧ NewH (setH (setH H_3 (Addr.mk H_2.size 0 none) (.int .u64 x0)) (((Addr.mk H_2.size 0 none)).add 1) (.int .u64 x1)) fun H_4 =>
 ∃ x : Int, cellH H_4 (((Addr.mk H_2.size 0 none)).add 1) = some (.int .u64 x) ∧ ∃ a2 : Addr, (some (Addr.mk H.size 0 none) : Option Addr) = some a2 ∧ 0 ≤ s ∧ s < ((Int.toNat ((ln : Nat) : Int) : Nat) : Int) ∧ MayWrite H_4 (a2.add (Int.toNat s)) 1 ∧ NewH (setH H_4 (a2.add (Int.toNat s)) (.int .u64 x)) fun H_5 =>
 next (IntKind.i64.wrap (s + 1)) H_5)
  (LoopI (σ := Int) (fun κ => κ 1 H_2) fun s2 z2 H_6 next2 =>
 cond (decide (s2 < ((ln : Nat) : Int))) (LoopI (σ := Int) (fun κ => κ (IntKind.i64.wrap (((ln : Nat) : Int) - 1)) H_6) fun s3 z3 H_7 next3 =>
 cond (decide (s3 ≥ s2)) (∃ a3 : Addr, lA = some a3 ∧ 0 ≤ s3 ∧ s3 < ((ln : Nat) : Int) ∧ ∃ a4 : Addr, lA = some a4 ∧ 0 ≤ (IntKind.i64.wrap (s3 - s2)) ∧ (IntKind.i64.wrap (s3 - s2)) < ((ln : Nat) : Int) ∧ ∃ x2 : Int, cellH H_7 (a3.add ((Int.toNat s3) * 2)) = some (.int .u64 x2) ∧ ∃ x3 : Int, cellH H_7 (a4.add ((Int.toNat (IntKind.i64.wrap (s3 - s2))) * 2)) = some (.int .u64 x3) ∧ CallH P N.field_Minus [.int .u64 p, .int .u64 x2, .int .u64 x3] H_7 fun v H_8 =>
 ∃ r : Int, v = .int .u64 r ∧ ∃ a5 : Addr, (some (Addr.mk H.size 0 none) : Option Addr) = some a5 ∧ 0 ≤ s3 ∧ s3 < ((Int.toNat ((ln : Nat) : Int) : Nat) : Int) ∧ ∃ a6 : Addr, (some (Addr.mk H.size 0 none) : Option Addr) = some a6 ∧ 0 ≤ (IntKind.i64.wrap (s3 - 1)) ∧ (IntKind.i64.wrap (s3 - 1)) < ((Int.toNat ((ln : Nat) : Int) : Nat) : Int) ∧ ∃ x4 : Int, cellH H_8 (a5.add (Int.toNat s3)) = some (.int .u64 x4) ∧ ∃ x5 : Int, cellH H_8 (a6.add (Int.toNat (IntKind.i64.wrap (s3 - 1)))) = some (.int .u64 x5) ∧ CallH P N.field_Minus [.int .u64 p, .int .u64 x4, .int .u64 x5] H_8 fun v2 H_9 =>
 ∃ r2 : Int, v2 = .int .u64 r2 ∧ CallH P N.field_Over [.int .u64 p, .int .u64 r] H_9 fun v3 H_10 =>
 ∃ r3 : Int, v3 = .int .u64 r3 ∧ CallH P N.field_Times [.int .u64 p, .int .u64 r2, .int .u64 r3] H_10 fun v4 H_11 =>
 ∃ r4 : Int, v4 = .int .u64 r4 ∧ ∃ a7 : Addr, (some (Addr.mk H.size 0 none) : Option Addr) = some a7 ∧ 0 ≤ s3 ∧ s3 < ((Int.toNat ((ln : Nat) : Int) : Nat) : Int) ∧ MayWrite H_11 (a7.add (Int.toNat s3)) 1 ∧ NewH (setH H_11 (a7.add (Int.toNat s3)) (.int .u64 r4)) fun H_12 =>
 next3 (IntKind.i64.wrap (s3 - 1)) H_12)
  (next2 (IntKind.i64.wrap (s2 + 1)) H_7))
  (LoopI (σ := (Option Addr × Nat × Nat) × Int) (fun κ => κ ((none, 0, 0), IntKind.i64.wrap (((ln : Nat) : Int) - 1)) H_6) fun s4 z4 H_13 next4 =>
 cond (decide (s4.2 ≥ 0)) (∃ a8 : Addr, lA = some a8 ∧ 0 ≤ s4.2 ∧ s4.2 < ((ln : Nat) : Int) ∧ ∃ x6 : Int, cellH H_13 (a8.add ((Int.toNat s4.2) * 2)) = some (.int .u64 x6) ∧ CallH P N.field_Minus [.int .u64 p, .int .u64 0, .int .u64 x6] H_13 fun v5 H_14 =>
 ∃ r5 : Int, v5 = .int .u64 r5 ∧ NewH (H_14.push (.cells #[.int .u64 r5, .int .u64 1] 22 (0, 0))) fun H_15 =>
 CallH P N.poly_Times [.int .u64 p, .slice s4.1.1 s4.1.2.1 s4.1.2.2, .slice (some (Addr.mk H_14.size 0 none)) 2 2] H_15 fun v6 H_16 =>
 ∃ (rA : Option Addr) (rn rc : Nat), v6 = .slice rA rn rc ∧ ∃ a9 : Addr, (some (Addr.mk H.size 0 none) : Option Addr) = some a9 ∧ 0 ≤ s4.2 ∧ s4.2 < ((Int.toNat ((ln : Nat) : Int) : Nat) : Int) ∧ ∃ x7 : Int, cellH H_16 (a9.add (Int.toNat s4.2)) = some (.int .u64 x7) ∧ NewH (H_16.push (.cells #[.int .u64 x7] 22 (0, 0))) fun H_17 =>
 CallH P N.poly_Plus [.int .u64 p, .slice rA rn rc, .slice (some (Addr.mk H_16.size 0 none)) 1 1] H_17 fun v7 H_18 =>
 ∃ (rA2 : Option Addr) (rn2 rc2 : Nat), v7 = .slice rA2 rn2 rc2 ∧ next4 ((rA2, rn2, rc2), IntKind.i64.wrap (s4.2 - 1)) H_18)
  (CallH P N.poly_Short [.slice s4.1.1 s4.1.2.1 s4.1.2.2] H_13 fun v8 H_19 =>
 ∃ (rA3 : Option Addr) (rn3 rc3 : Nat), v8 = .slice rA3 rn3 rc3 ∧ R (.slice rA3 rn3 rc3) H_19)))
theorem poly_Fit.ok (p : Int) (lA : Option Addr) (ln lc : Nat) (H : Heap) (R : Value → Heap → Prop) (h : poly_Fit.W p lA ln lc H R) : CallH P N.poly_Fit [.int .u64 p, .slice lA ln lc] H R :=
 okW Try.func82 (by kernel_rfl) Try.ntmps82 poly_Fit.A (by kernel_rfl) (by kernel_rfl) h
def poly_Short.A : Ann where
 loops := fun i => match i with
   | 8195 => [(3, .int .i64)]
   | _ => []
 plans := fun i => match i with
   | _ => .stop
def poly_Short.W (fA : Option Addr) (fn fc : Nat) (H : Heap) (R : Value → Heap → Prop) : Prop :=
 LoopI (σ := Int) (fun κ => κ ((fn : Nat) : Int) H) fun s z H_ next =>
 cond (decide (s > 0)) (∃ a : Addr, fA = some a ∧ 0 ≤ (IntKind.i64.wrap (s - 1)) ∧ (IntKind.i64.wrap (s - 1)) < ((fn : Nat) : Int) ∧ ∃ x : Int, cellH H_ (a.add (Int.toNat (IntKind.i64.wrap (s - 1)))) = some (.int .u64 x) ∧ cond (x == 0) (next (IntKind.i64.wrap (s - 1)) H_)
  (0 ≤ s ∧ s ≤ ((fc : Nat) : Int) ∧ CallH P N.slices_Clone_uint64uint64 [.slice fA (Int.toNat s) fc] H_ fun v H_2 =>
 ∃ (rA : Option Addr) (rn rc : Nat), v = .slice rA rn rc ∧ R (.slice rA rn rc) H_2)) (0 ≤ s ∧ s ≤ ((fc : Nat) : Int) ∧ CallH P N.slices_Clone_uint64uint64 [.slice fA (Int.toNat s) fc] H_ fun v2 H_3 =>
 ∃ (rA2 : Option Addr) (rn2 rc2 : Nat), v2 = .slice rA2 rn2 rc2 ∧ R (.slice rA2 rn2 rc2) H_3)
theorem poly_Short.ok (fA : Option Addr) (fn fc : Nat) (H : Heap) (R : Value → Heap → Prop) (h : poly_Short.W fA fn fc H R) : CallH P N.poly_Short [.slice fA fn fc] H R :=
 okW Try.func87 (by kernel_rfl) Try.ntmps87 poly_Short.A (by kernel_rfl) (by kernel_rfl) h
def poly_Times.A : Ann where
 loops := fun i => match i with
   | 20492 => [(29, .int .i64)]
   | 32779 => [(36, .int .i64)]
   | _ => []
 plans := fun i => match i with
   | 10 => .first 0 (.first 1 (.first 2 (.first 3 (.first 4 (.first 5 (.first 6 (.first 7 (.first 8 (.first 9 (.first 11 (.first 12 (.first 13 (.read 10 (.alt 14 [] (.alt 15 [10] (.first 16 (.alt 17 [] (.done) (.stop))) (.stop)) (.stop)))))))))))))))
   | _ => .stop
def poly_Times.W (p : Int) (fA : Option Addr) (fn fc : Nat) (gA : Option Addr) (gn gc : Nat) (H : Heap) (R : Value → Heap → Prop) : Prop :=
 cond (((fn : Nat) : Int) == 0) (R (.slice none 0 0) H) (cond (((gn : Nat) : Int) == 0) (R (.slice none 0 0) H)
  (0 ≤ (IntKind.i64.wrap ((IntKind.i64.wrap (((fn : Nat) : Int) + ((gn : Nat) : Int))) - 1)) ∧ (IntKind.i64.wrap ((IntKind.i64.wrap (((fn : Nat) : Int) + ((gn : Nat) : Int))) - 1)) ≤ (IntKind.i64.wrap ((IntKind.i64.wrap (((fn : Nat) : Int) + ((gn : Nat) : Int))) - 1)) ∧ (IntKind.i64.wrap ((IntKind.i64.wrap (((fn : Nat) : Int) + ((gn : Nat) : Int))) - 1)) * 8 ≤ 2 ^ 48 ∧ (IntKind.i64.wrap ((IntKind.i64.wrap (((fn : Nat) : Int) + ((gn : Nat) : Int))) - 1)) < 2 ^ 62 ∧ NewH (H.push (.cells (repl (Int.toNat (IntKind.i64.wrap ((IntKind.i64.wrap (((fn : Nat) : Int) + ((gn : Nat) : Int))) - 1))) [.int .u64 0]).toArray 22 (0, 0))) fun H_ =>
 LoopI (σ := Int) (fun κ => κ 0 H_) fun s z H_2 next =>
 cond (decide (s < ((fn : Nat) : Int))) (∃ a : Addr, fA = some a ∧ 0 ≤ s ∧ s < ((fn : Nat) : Int) ∧ ∃ x : Int, cellH H_2 (a.add (Int.toNat s)) = some (.int .u64 x) ∧ LoopI (σ := Int) (fun κ => κ 0 H_2) fun s2 z2 H_3 next2 =>
 cond (decide (s2 < ((gn : Nat) : Int))) (∃ a2 : Addr, gA = some a2 ∧ 0 ≤ s2 ∧ s2 < ((gn : Nat) : Int) ∧ ∃ x2 : Int, cellH H_3 (a2.add (Int.toNat s2)) = some (.int .u64 x2) ∧ ∃ a3 : Addr, (some (Addr.mk H.size 0 none) : Option Addr) = some a3 ∧ 0 ≤ (IntKind.i64.wrap (s + s2)) ∧ (IntKind.i64.wrap (s + s2)) < ((Int.toNat (IntKind.i64.wrap ((IntKind.i64.wrap (((fn : Nat) : Int) + ((gn : Nat) : Int))) - 1)) : Nat) : Int) ∧ ∃ x3 : Int, cellH H_3 (a3.add (Int.toNat (IntKind.i64.wrap (s + s2)))) = some (.int .u64 x3) ∧ CallH P N.field_Times [.int .u64 p, .int .u64 x, .int .u64 x2] H_3 fun v H_4 =>
 ∃ r : Int, v = .int .u64 r ∧ cellH H_4 (a3.add (Int.toNat (IntKind.i64.wrap (s + s2)))) = some (.int .u64 x3) ∧ CallH P N.field_Plus [.int .u64 p, .int .u64 x3, .int .u64 r] H_4 fun v2 H_5 =>
 ∃ r2 : Int, v2 = .int .u64 r2 ∧ ∃ a4 : Addr, (some (Addr.mk H.size 0 none) : Option Addr) = some a4 ∧ 0 ≤ (IntKind.i64.wrap (s + s2)) ∧ (IntKind.i64.wrap (s + s2)) < ((Int.toNat (IntKind.i64.wrap ((IntKind.i64.wrap (((fn : Nat) : Int) + ((gn : Nat) : Int))) - 1)) : Nat) : Int) ∧ MayWrite H_5 (a4.add (Int.toNat (IntKind.i64.wrap (s + s2)))) 1 ∧ NewH (setH H_5 (a4.add (Int.toNat (IntKind.i64.wrap (s + s2)))) (.int .u64 r2)) fun H_6 =>
 next2 (IntKind.i64.wrap (s2 + 1)) H_6)
  (next (IntKind.i64.wrap (s + 1)) H_3))
  (CallH P N.poly_Short [.slice (some (Addr.mk H.size 0 none)) (Int.toNat (IntKind.i64.wrap ((IntKind.i64.wrap (((fn : Nat) : Int) + ((gn : Nat) : Int))) - 1))) (Int.toNat (IntKind.i64.wrap ((IntKind.i64.wrap (((fn : Nat) : Int) + ((gn : Nat) : Int))) - 1)))] H_2 fun v3 H_7 =>
 ∃ (rA : Option Addr) (rn rc : Nat), v3 = .slice rA rn rc ∧ R (.slice rA rn rc) H_7)))
theorem poly_Times.ok (p : Int) (fA : Option Addr) (fn fc : Nat) (gA : Option Addr) (gn gc : Nat) (H : Heap) (R : Value → Heap → Prop) (h : poly_Times.W p fA fn fc gA gn gc H R) : CallH P N.poly_Times [.int .u64 p, .slice fA fn fc, .slice gA gn gc] H R :=
 okW Try.func96 (by kernel_rfl) Try.ntmps96 poly_Times.A (by kernel_rfl) (by kernel_rfl) h
def poly_Plus.A : Ann where
 loops := fun i => match i with
   | _ => []
 plans := fun i => match i with
   | _ => .stop
def poly_Plus.W (p : Int) (fA : Option Addr) (fn fc : Nat) (gA : Option Addr) (gn gc : Nat) (H : Heap) (R : Value → Heap → Prop) : Prop :=
 CallH P N.poly_each [.int .u64 p, .slice fA fn fc, .slice gA gn gc, .func (.func 75) #[] #[]] H fun v H_ =>
 ∃ (rA : Option Addr) (rn rc : Nat), v = .slice rA rn rc ∧ R (.slice rA rn rc) H_
theorem poly_Plus.ok (p : Int) (fA : Option Addr) (fn fc : Nat) (gA : Option Addr) (gn gc : Nat) (H : Heap) (R : Value → Heap → Prop) (h : poly_Plus.W p fA fn fc gA gn gc H R) : CallH P N.poly_Plus [.int .u64 p, .slice fA fn fc, .slice gA gn gc] H R :=
 okW Try.func97 (by kernel_rfl) Try.ntmps97 poly_Plus.A (by kernel_rfl) (by kernel_rfl) h
def poly_Over.A : Ann where
 loops := fun i => match i with
   | 28680 => [(11, .int .i64)]
   | 49167 => [(64, .int .i64)]
   | _ => []
 plans := fun i => match i with
   | 14 => .first 0 (.first 1 (.first 2 (.first 3 (.first 4 (.first 5 (.first 6 (.first 7 (.first 8 (.first 9 (.first 11 (.first 12 (.first 13 (.read 10 (.alt 14 [] (.alt 15 [10] (.first 16 (.alt 17 [] (.done) (.stop))) (.stop)) (.stop)))))))))))))))
   | _ => .stop
def poly_Over.W (p : Int) (fA : Option Addr) (fn fc : Nat) (gA : Option Addr) (gn gc : Nat) (H : Heap) (R : Value → Heap → Prop) : Prop :=
 CallH P N.poly_Short [.slice fA fn fc] H fun v H_ =>
 ∃ (rA : Option Addr) (rn rc : Nat), v = .slice rA rn rc ∧ CallH P N.poly_Short [.slice gA gn gc] H_ fun v2 H_2 =>
 ∃ (rA2 : Option Addr) (rn2 rc2 : Nat), v2 = .slice rA2 rn2 rc2 ∧ cond (decide (((rn : Nat) : Int) < ((rn2 : Nat) : Int))) (R (.tuple #[.slice none 0 0, .slice rA rn rc]) H_2)
  (0 ≤ (IntKind.i64.wrap ((IntKind.i64.wrap (((rn : Nat) : Int) - ((rn2 : Nat) : Int))) + 1)) ∧ (IntKind.i64.wrap ((IntKind.i64.wrap (((rn : Nat) : Int) - ((rn2 : Nat) : Int))) + 1)) ≤ (IntKind.i64.wrap ((IntKind.i64.wrap (((rn : Nat) : Int) - ((rn2 : Nat) : Int))) + 1)) ∧ (IntKind.i64.wrap ((IntKind.i64.wrap (((rn : Nat) : Int) - ((rn2 : Nat) : Int))) + 1)) * 8 ≤ 2 ^ 48 ∧ (IntKind.i64.wrap ((IntKind.i64.wrap (((rn : Nat) : Int) - ((rn2 : Nat) : Int))) + 1)) < 2 ^ 62 ∧ NewH (H_2.push (.cells (repl (Int.toNat (IntKind.i64.wrap ((IntKind.i64.wrap (((rn : Nat) : Int) - ((rn2 : Nat) : Int))) + 1))) [.int .u64 0]).toArray 22 (0, 0))) fun H_3 =>
 ∃ a : Addr, rA2 = some a ∧ 0 ≤ (IntKind.i64.wrap (((rn2 : Nat) : Int) - 1)) ∧ (IntKind.i64.wrap (((rn2 : Nat) : Int) - 1)) < ((rn2 : Nat) : Int) ∧ ∃ x : Int, cellH H_3 (a.add (Int.toNat (IntKind.i64.wrap (((rn2 : Nat) : Int) - 1)))) = some (.int .u64 x) ∧ CallH P N.field_Over [.int .u64 p, .int .u64 x] H_3 fun v3 H_4 =>
 ∃ r : Int, v3 = .int .u64 r ∧ LoopI (σ := Int) (fun κ => κ (IntKind.i64.wrap (((Int.toNat (IntKind.i64.wrap ((IntKind.i64.wrap (((rn : Nat) : Int) - ((rn2 : Nat) : Int))) + 1)) : Nat) : Int) - 1)) H_4) fun s z H_5 next =>
 cond (decide (s ≥ 0)) (∃ a2 : Addr, rA = some a2 ∧ 0 ≤ (IntKind.i64.wrap ((IntKind.i64.wrap (s + ((rn2 : Nat) : Int))) - 1)) ∧ (IntKind.i64.wrap ((IntKind.i64.wrap (s + ((rn2 : Nat) : Int))) - 1)) < ((rn : Nat) : Int) ∧ ∃ x2 : Int, cellH H_5 (a2.add (Int.toNat (IntKind.i64.wrap ((IntKind.i64.wrap (s + ((rn2 : Nat) : Int))) - 1)))) = some (.int .u64 x2) ∧ CallH P N.field_Times [.int .u64 p, .int .u64 x2, .int .u64 r] H_5 fun v4 H_6 =>
 ∃ r2 : Int, v4 = .int .u64 r2 ∧ ∃ a3 : Addr, (some (Addr.mk H_2.size 0 none) : Option Addr) = some a3 ∧ 0 ≤ s ∧ s < ((Int.toNat (IntKind.i64.wrap ((IntKind.i64.wrap (((rn : Nat) : Int) - ((rn2 : Nat) : Int))) + 1)) : Nat) : Int) ∧ MayWrite H_6 (a3.add (Int.toNat s)) 1 ∧ NewH (setH H_6 (a3.add (Int.toNat s)) (.int .u64 r2)) fun H_7 =>
 LoopI (σ := Int) (fun κ => κ 0 H_7) fun s2 z2 H_8 next2 =>
 cond (decide (s2 < ((rn2 : Nat) : Int))) (∃ a4 : Addr, rA2 = some a4 ∧ 0 ≤ s2 ∧ s2 < ((rn2 : Nat) : Int) ∧ ∃ x3 : Int, cellH H_8 (a4.add (Int.toNat s2)) = some (.int .u64 x3) ∧ ∃ a5 : Addr, rA = some a5 ∧ 0 ≤ (IntKind.i64.wrap (s + s2)) ∧ (IntKind.i64.wrap (s + s2)) < ((rn : Nat) : Int) ∧ ∃ x4 : Int, cellH H_8 (a5.add (Int.toNat (IntKind.i64.wrap (s + s2)))) = some (.int .u64 x4) ∧ CallH P N.field_Times [.int .u64 p, .int .u64 r2, .int .u64 x3] H_8 fun v5 H_9 =>
 ∃ r3 : Int, v5 = .int .u64 r3 ∧ cellH H_9 (a5.add (Int.toNat (IntKind.i64.wrap (s + s2)))) = some (.int .u64 x4) ∧ CallH P N.field_Minus [.int .u64 p, .int .u64 x4, .int .u64 r3] H_9 fun v6 H_10 =>
 ∃ r4 : Int, v6 = .int .u64 r4 ∧ ∃ a6 : Addr, rA = some a6 ∧ 0 ≤ (IntKind.i64.wrap (s + s2)) ∧ (IntKind.i64.wrap (s + s2)) < ((rn : Nat) : Int) ∧ MayWrite H_10 (a6.add (Int.toNat (IntKind.i64.wrap (s + s2)))) 1 ∧ NewH (setH H_10 (a6.add (Int.toNat (IntKind.i64.wrap (s + s2)))) (.int .u64 r4)) fun H_11 =>
 next2 (IntKind.i64.wrap (s2 + 1)) H_11)
  (next (IntKind.i64.wrap (s - 1)) H_8))
  (CallH P N.poly_Short [.slice (some (Addr.mk H_2.size 0 none)) (Int.toNat (IntKind.i64.wrap ((IntKind.i64.wrap (((rn : Nat) : Int) - ((rn2 : Nat) : Int))) + 1))) (Int.toNat (IntKind.i64.wrap ((IntKind.i64.wrap (((rn : Nat) : Int) - ((rn2 : Nat) : Int))) + 1)))] H_5 fun v7 H_12 =>
 ∃ (rA3 : Option Addr) (rn3 rc3 : Nat), v7 = .slice rA3 rn3 rc3 ∧ CallH P N.poly_Short [.slice rA rn rc] H_12 fun v8 H_13 =>
 ∃ (rA4 : Option Addr) (rn4 rc4 : Nat), v8 = .slice rA4 rn4 rc4 ∧ R (.tuple #[.slice rA3 rn3 rc3, .slice rA4 rn4 rc4]) H_13))
theorem poly_Over.ok (p : Int) (fA : Option Addr) (fn fc : Nat) (gA : Option Addr) (gn gc : Nat) (H : Heap) (R : Value → Heap → Prop) (h : poly_Over.W p fA fn fc gA gn gc H R) : CallH P N.poly_Over [.int .u64 p, .slice fA fn fc, .slice gA gn gc] H R :=
 okW Try.func100 (by kernel_rfl) Try.ntmps100 poly_Over.A (by kernel_rfl) (by kernel_rfl) h
def poly_each.A : Ann where
 loops := fun i => match i with
   | 16394 => [(23, .int .i64)]
   | _ => []
 plans := fun i => match i with
   | _ => .stop
def poly_each.W (p : Int) (fA : Option Addr) (fn fc : Nat) (gA : Option Addr) (gn gc : Nat) (dof : Nat) (doa dob : Array Value) (H : Heap) (R : Value → Heap → Prop) : Prop :=
 0 ≤ (if ((gn : Nat) : Int) > ((fn : Nat) : Int) then ((gn : Nat) : Int) else ((fn : Nat) : Int)) ∧ (if ((gn : Nat) : Int) > ((fn : Nat) : Int) then ((gn : Nat) : Int) else ((fn : Nat) : Int)) ≤ (if ((gn : Nat) : Int) > ((fn : Nat) : Int) then ((gn : Nat) : Int) else ((fn : Nat) : Int)) ∧ (if ((gn : Nat) : Int) > ((fn : Nat) : Int) then ((gn : Nat) : Int) else ((fn : Nat) : Int)) * 8 ≤ 2 ^ 48 ∧ (if ((gn : Nat) : Int) > ((fn : Nat) : Int) then ((gn : Nat) : Int) else ((fn : Nat) : Int)) < 2 ^ 62 ∧ NewH (H.push (.cells (repl (Int.toNat (if ((gn : Nat) : Int) > ((fn : Nat) : Int) then ((gn : Nat) : Int) else ((fn : Nat) : Int))) [.int .u64 0]).toArray 22 (0, 0))) fun H_ =>
 CopyV 1 H_ (some (Addr.mk H.size 0 none)) (Int.toNat (if ((gn : Nat) : Int) > ((fn : Nat) : Int) then ((gn : Nat) : Int) else ((fn : Nat) : Int))) fA fn fun m H_2 =>
 LoopI (σ := Int) (fun κ => κ 0 H_2) fun s z H_3 next =>
 cond (decide (s < ((Int.toNat (if ((gn : Nat) : Int) > ((fn : Nat) : Int) then ((gn : Nat) : Int) else ((fn : Nat) : Int)) : Nat) : Int))) (cond (decide (s < ((gn : Nat) : Int))) (∃ a : Addr, gA = some a ∧ 0 ≤ s ∧ s < ((gn : Nat) : Int) ∧ ∃ x : Int, cellH H_3 (a.add (Int.toNat s)) = some (.int .u64 x) ∧ ∃ a2 : Addr, (some (Addr.mk H.size 0 none) : Option Addr) = some a2 ∧ 0 ≤ s ∧ s < ((Int.toNat (if ((gn : Nat) : Int) > ((fn : Nat) : Int) then ((gn : Nat) : Int) else ((fn : Nat) : Int)) : Nat) : Int) ∧ ∃ x2 : Int, cellH H_3 (a2.add (Int.toNat s)) = some (.int .u64 x2) ∧ cond (hasB nf dof) (CallH P dof (doa.toList ++ [.int .u64 p, .int .u64 x2, .int .u64 x] ++ dob.toList) H_3 fun v H_4 =>
 ∃ r : Int, v = .int .u64 r ∧ ∃ a3 : Addr, (some (Addr.mk H.size 0 none) : Option Addr) = some a3 ∧ 0 ≤ s ∧ s < ((Int.toNat (if ((gn : Nat) : Int) > ((fn : Nat) : Int) then ((gn : Nat) : Int) else ((fn : Nat) : Int)) : Nat) : Int) ∧ MayWrite H_4 (a3.add (Int.toNat s)) 1 ∧ NewH (setH H_4 (a3.add (Int.toNat s)) (.int .u64 r)) fun H_5 =>
 next (IntKind.i64.wrap (s + 1)) H_5) False)
  (∃ a4 : Addr, (some (Addr.mk H.size 0 none) : Option Addr) = some a4 ∧ 0 ≤ s ∧ s < ((Int.toNat (if ((gn : Nat) : Int) > ((fn : Nat) : Int) then ((gn : Nat) : Int) else ((fn : Nat) : Int)) : Nat) : Int) ∧ ∃ x3 : Int, cellH H_3 (a4.add (Int.toNat s)) = some (.int .u64 x3) ∧ cond (hasB nf dof) (CallH P dof (doa.toList ++ [.int .u64 p, .int .u64 x3, .int .u64 0] ++ dob.toList) H_3 fun v2 H_6 =>
 ∃ r2 : Int, v2 = .int .u64 r2 ∧ ∃ a5 : Addr, (some (Addr.mk H.size 0 none) : Option Addr) = some a5 ∧ 0 ≤ s ∧ s < ((Int.toNat (if ((gn : Nat) : Int) > ((fn : Nat) : Int) then ((gn : Nat) : Int) else ((fn : Nat) : Int)) : Nat) : Int) ∧ MayWrite H_6 (a5.add (Int.toNat s)) 1 ∧ NewH (setH H_6 (a5.add (Int.toNat s)) (.int .u64 r2)) fun H_7 =>
 next (IntKind.i64.wrap (s + 1)) H_7) False))
  (CallH P N.poly_Short [.slice (some (Addr.mk H.size 0 none)) (Int.toNat (if ((gn : Nat) : Int) > ((fn : Nat) : Int) then ((gn : Nat) : Int) else ((fn : Nat) : Int))) (Int.toNat (if ((gn : Nat) : Int) > ((fn : Nat) : Int) then ((gn : Nat) : Int) else ((fn : Nat) : Int)))] H_3 fun v3 H_8 =>
 ∃ (rA : Option Addr) (rn rc : Nat), v3 = .slice rA rn rc ∧ R (.slice rA rn rc) H_8)
theorem poly_each.ok (p : Int) (fA : Option Addr) (fn fc : Nat) (gA : Option Addr) (gn gc : Nat) (dof : Nat) (doa dob : Array Value) (H : Heap) (R : Value → Heap → Prop) (h : poly_each.W p fA fn fc gA gn gc dof doa dob H R) : CallH P N.poly_each [.int .u64 p, .slice fA fn fc, .slice gA gn gc, .func (.func dof) doa dob] H R :=
 okW Try.func104 (by kernel_rfl) Try.ntmps104 poly_each.A (by kernel_rfl) (by kernel_rfl) h
end Go.Proofs.Ytajdpkinlnaidaa.Sh
namespace Go.Proofs.Ytajdpkinlnaidaa.Sh
open Go.Sx Go.Lf
def poly_Short.C (f : (List Nat)) (K : (List Nat) → Prop) : Prop :=
 ∀ (Z : Nat → Prop) (H : Heap), ∀ (fA : Option Addr) (fn fc : Nat), fn = f.length → SlF u64L Z H fA fc f → ∀ KK : Value → Heap → Prop,
   (∀ (Z' : Nat → Prop) (H' : Heap), Ext H H' → Old Z H Z' → ∀ (r0 : (List Nat)), ∀ (Y0 : Nat → Prop), (∀ i, Y0 i → H.size ≤ i ∧ ¬ Z' i) → ∀ (Ar0_0 : Option Addr) (nr0_0 cr0_0 : Nat), nr0_0 = r0.length → SlO (rdM u64L) 22 Z' Y0 H' Ar0_0 cr0_0 r0 → K r0 → KK (.slice Ar0_0 nr0_0 cr0_0) H') →
   CallH P N.poly_Short [.slice fA fn fc] H KK
def poly_Short.Q (f : (List Nat)) (K : (List Nat) → Prop) : Prop :=
 LoopQ (τ := Int) ((f.length : Nat) : Int) fun t nextQ =>
 cond (decide (t > 0)) (0 ≤ (IntKind.i64.wrap (t - 1)) ∧ ∃ x : Nat, f[Int.toNat (IntKind.i64.wrap (t - 1))]? = some x ∧ cond ((x : Int) == 0) (nextQ (IntKind.i64.wrap (t - 1)))
  (0 ≤ t ∧ t ≤ ((f.length : Nat) : Int) ∧ slices_Clone_uint64uint64.C (List.take (Int.toNat t) f) (fun (x2 : (List Nat)) =>
 K x2)))
  (0 ≤ t ∧ t ≤ ((f.length : Nat) : Int) ∧ slices_Clone_uint64uint64.C (List.take (Int.toNat t) f) (fun (x3 : (List Nat)) =>
 K x3))
theorem poly_Short.q {f : (List Nat)} {K : (List Nat) → Prop} (q : poly_Short.Q f K) : poly_Short.C f K := by
 intro Z H fA fn fc hn f2 KK hk; cases hn; apply poly_Short.ok; unfold poly_Short.W; unfold poly_Short.Q at q; obtain ⟨σ, hz, hσ⟩ := tags Z; have hs : Stp ([1, 2] : List Nat) σ H σ H := Stp.refl _ _ _; replace f2 := f2.wide hz; clear hz; refine LoopI.ofQ q (fun t_ s_ hp_ => ∃ σ_, Stp [] σ H σ_ hp_ ∧ t_ = s_) (fun h k => h _ _ k) ⟨_, Stp.refl _ _ _, rfl⟩ ?_; rintro t _ _ H_ next nextQ ⟨xσ, st, rfl⟩ q hnext; (try dsimp only at q ⊢); have sl0 := st; refine condJ (fun q => ?_) (fun q => ?_) q
 · obtain ⟨q4, q5, q⟩ := q; replace f2 := f2.step st; have f5 := f2.upto (u := Int.toNat t) (upto_le rfl q5); refine ⟨q4, cap_le rfl f2.cap q5, ?_⟩; refine q (Zt xσ) H_ _ _ _ (take_len rfl q5) f5 _ (fun Z3 H_3 hE2 hO2 x3 Y2 hY2 A2 n2 c2 hn3 f6 q => ?_); obtain ⟨xσ3, st3, fz2, fy2⟩ := call1 hE2 hO2 xσ 2 (fun _ h => h) hY2; replace f6 := f6.keep fz2 fy2; cases hn3; refine ⟨_, _, _, rfl, ?_⟩; replace hs := hs.trans (st.then st3); exact hk (Zt xσ3) _ (hs.ext hσ) (hs.old hσ) _ (Yt xσ3 2) (hs.fresh hσ) _ _ _ rfl f6 q
 obtain ⟨h0, x, hx, q⟩ := q; replace f2 := f2.step st; obtain ⟨a, ha, hi⟩ := f2.addr h0 hx rfl; refine ⟨a, ha, hi.1, hi.2, ?_⟩; have hc := f2.ldu ha h0 hx; refine ⟨_, hc.val, ?_⟩; refine condI (fun q => ?_) (fun q => ?_) q
 · exact hnext (IntKind.i64.wrap (t - 1)) _ _ ⟨_, sl0, rfl⟩ q
 obtain ⟨q2, q3, q⟩ := q; have f3 := f2.upto (u := Int.toNat t) (upto_le rfl q3); refine ⟨q2, cap_le rfl f2.cap q3, ?_⟩; refine q (Zt xσ) H_ _ _ _ (take_len rfl q3) f3 _ (fun Z2 H_2 hE hO x2 Y hY A n c hn2 f4 q => ?_); obtain ⟨xσ2, st2, fz, fy⟩ := call1 hE hO xσ 1 (fun _ h => h) hY; replace f4 := f4.keep fz fy; cases hn2; refine ⟨_, _, _, rfl, ?_⟩; replace hs := hs.trans (st.then st2); exact hk (Zt xσ2) _ (hs.ext hσ) (hs.old hσ) _ (Yt xσ2 1) (hs.fresh hσ) _ _ _ rfl f4 q
def poly_Times.C (p : Nat) (f : (List Nat)) (g : (List Nat)) (K : (List Nat) → Prop) : Prop :=
 ∀ (Z : Nat → Prop) (H : Heap), ∀ (pv : Int), pv = (p : Int) → ∀ (fA : Option Addr) (fn fc : Nat), fn = f.length → SlF u64L Z H fA fc f → ∀ (gA : Option Addr) (gn gc : Nat), gn = g.length → SlF u64L Z H gA gc g → ∀ KK : Value → Heap → Prop,
   (∀ (Z' : Nat → Prop) (H' : Heap), Ext H H' → Old Z H Z' → ∀ (r0 : (List Nat)), ∀ (Y0 : Nat → Prop), (∀ i, Y0 i → H.size ≤ i ∧ ¬ Z' i) → ∀ (Ar0_0 : Option Addr) (nr0_0 cr0_0 : Nat), nr0_0 = r0.length → SlO (rdM u64L) 22 Z' Y0 H' Ar0_0 cr0_0 r0 → K r0 → KK (.slice Ar0_0 nr0_0 cr0_0) H') →
   CallH P N.poly_Times [.int .u64 pv, .slice fA fn fc, .slice gA gn gc] H KK
def poly_Times.Q (p : Nat) (f : (List Nat)) (g : (List Nat)) (K : (List Nat) → Prop) : Prop :=
 cond (((f.length : Nat) : Int) == 0) (K ([]))
  (cond (((g.length : Nat) : Int) == 0) (K ([]))
  (MakeOk 8 (IntKind.i64.wrap ((IntKind.i64.wrap (((f.length : Nat) : Int) + ((g.length : Nat) : Int))) - 1)) ∧ LoopQ (τ := Int × List Nat) (0, (List.replicate (Int.toNat (IntKind.i64.wrap ((IntKind.i64.wrap (((f.length : Nat) : Int) + ((g.length : Nat) : Int))) - 1))) 0)) fun t nextQ =>
 cond (decide (t.1 < ((f.length : Nat) : Int))) (0 ≤ t.1 ∧ ∃ x : Nat, f[Int.toNat t.1]? = some x ∧ LoopQ (τ := Int × List Nat) (0, t.2) fun t2 nextQ2 =>
 cond (decide (t2.1 < ((g.length : Nat) : Int))) (0 ≤ t2.1 ∧ ∃ x2 : Nat, g[Int.toNat t2.1]? = some x2 ∧ 0 ≤ (IntKind.i64.wrap (t.1 + t2.1)) ∧ (IntKind.i64.wrap (t.1 + t2.1)) < ((Int.toNat (IntKind.i64.wrap ((IntKind.i64.wrap (((f.length : Nat) : Int) + ((g.length : Nat) : Int))) - 1)) : Nat) : Int) ∧ ∃ x3 : Nat, t2.2[Int.toNat (IntKind.i64.wrap (t.1 + t2.1))]? = some x3 ∧ field_Times.C p x x2 (fun (x4 : Nat) =>
 field_Plus.C p x3 x4 (fun (x5 : Nat) =>
 0 ≤ (IntKind.i64.wrap (t.1 + t2.1)) ∧ (IntKind.i64.wrap (t.1 + t2.1)) < ((Int.toNat (IntKind.i64.wrap ((IntKind.i64.wrap (((f.length : Nat) : Int) + ((g.length : Nat) : Int))) - 1)) : Nat) : Int) ∧ nextQ2 (IntKind.i64.wrap (t2.1 + 1), (List.set t2.2 (Int.toNat (IntKind.i64.wrap (t.1 + t2.1))) x5)))))
  (nextQ (IntKind.i64.wrap (t.1 + 1), t2.2)))
  (poly_Short.C t.2 (fun (x6 : (List Nat)) =>
 K x6))))
theorem poly_Times.q {p : Nat} {f : (List Nat)} {g : (List Nat)} {K : (List Nat) → Prop} (q : poly_Times.Q p f g K) : poly_Times.C p f g K := by
 intro Z H pv he fA fn fc hn f2 gA gn gc hn2 f3 KK hk; cases he; cases hn; cases hn2; apply poly_Times.ok; unfold poly_Times.W; unfold poly_Times.Q at q; obtain ⟨σ, hz, hσ⟩ := tags Z; have hs : Stp ([1, 2] : List Nat) σ H σ H := Stp.refl _ _ _; replace f2 := f2.wide hz; replace f3 := f3.wide hz; clear hz; refine condI (fun q => ?_) (fun q => ?_) q
 · exact hk (Zt σ) _ (hs.ext hσ) (hs.old hσ) _ (fun _ => False) (fun _ h => h.elim) _ _ _ rfl (SlO.nil _ _ _ _ _) q
 refine condI (fun q => ?_) (fun q => ?_) q
 · exact hk (Zt σ) _ (hs.ext hσ) (hs.old hσ) _ (fun _ => False) (fun _ h => h.elim) _ _ _ rfl (SlO.nil _ _ _ _ _) q
 obtain ⟨q2, q⟩ := q; refine ⟨q2.1, Int.le_refl _, q2.w1, q2.w2, NewH.mk fun H_ e => ?_⟩; obtain ⟨xσ, st, f4⟩ := SlO.made (O := (rdM u64L)) σ 1 e (u64_zero) q2.len; refine LoopI.ofQ q (fun t_ s_ hp_ => ∃ σ_, Stp [1] xσ H_ σ_ hp_ ∧ t_.1 = s_ ∧ t_.2.length = (List.replicate (Int.toNat (IntKind.i64.wrap ((IntKind.i64.wrap (((f.length : Nat) : Int) + ((g.length : Nat) : Int))) - 1))) 0).length ∧ SlO (rdM u64L) 22 (Zt σ_) (Yt σ_ 1) hp_ (some (Addr.mk H.size 0 none)) (Int.toNat (IntKind.i64.wrap ((IntKind.i64.wrap (((f.length : Nat) : Int) + ((g.length : Nat) : Int))) - 1))) t_.2) (fun h k => h _ _ k) ⟨_, Stp.refl _ _ _, rfl, rfl, f4⟩ ?_; rintro t _ _ H_2 next nextQ ⟨xσ2, st2, rfl, hl, f4⟩ q hnext; (try dsimp only at q ⊢); have sl3 := st2; refine condJ (fun q => ?_) (fun q => ?_) q
 · refine q (fun i => xσ2 i = 0 ∨ xσ2 i = 1) H_2 _ _ _ ((rl_len _ _).trans hl.symm) (f4.read (fun i h => .inl h) (fun i h => .inr (h))) _ (fun Z4 H_7 hE3 hO3 x6 Y hY A n c hn3 f5 q => ?_); obtain ⟨xσ6, st7, fy⟩ := callB1 hE3 hO3 xσ2 2 hY; replace f5 := (SlO.anyZ (Z' := Zt xσ6) u64_flatL f5).keep (Fr.refl _ _) fy; cases hn3; refine ⟨_, _, _, rfl, ?_⟩; replace hs := hs.trans (st.then (st2.then st7)); exact hk (Zt xσ6) _ (hs.ext hσ) (hs.old hσ) _ (Yt xσ6 2) (hs.fresh hσ) _ _ _ rfl f5 q
 obtain ⟨h0, x, hx, q⟩ := q; replace f2 := f2.step (st.then st2); obtain ⟨a, ha, hi⟩ := f2.addr h0 hx rfl; refine ⟨a, ha, hi.1, hi.2, ?_⟩; have hc := f2.ldu ha h0 hx; refine ⟨_, hc.val, ?_⟩; refine LoopI.ofQ q (fun t_ s_ hp_ => ∃ σ_, Stp [1] xσ2 H_2 σ_ hp_ ∧ t_.1 = s_ ∧ t_.2.length = t.2.length ∧ SlO (rdM u64L) 22 (Zt σ_) (Yt σ_ 1) hp_ (some (Addr.mk H.size 0 none)) (Int.toNat (IntKind.i64.wrap ((IntKind.i64.wrap (((f.length : Nat) : Int) + ((g.length : Nat) : Int))) - 1))) t_.2) (fun h k => h _ _ k) ⟨_, Stp.refl _ _ _, rfl, rfl, f4⟩ ?_; rintro t2 _ _ H_3 next2 nextQ2 ⟨xσ3, st3, rfl, hl2, f4⟩ q hnext2; (try dsimp only at q ⊢); have sl5 := st3; refine condJ (fun q => ?_) (fun q => ?_) q
 · replace sl3 := sl3.trans st3; exact hnext (IntKind.i64.wrap (t.1 + 1), t2.2) _ _ ⟨_, sl3, rfl, (set_back ((rl_len _ _).trans hl.symm) (((rl_len _ _).trans hl.symm).trans hl2.symm) hl), f4⟩ q
 obtain ⟨h02, x2, hx2, q⟩ := q; replace f3 := f3.step (st.then (st2.then st3)); obtain ⟨a2, ha2, hi2⟩ := f3.addr h02 hx2 rfl; refine ⟨a2, ha2, hi2.1, hi2.2, ?_⟩; have hc2 := f3.ldu ha2 h02 hx2; refine ⟨_, hc2.val, ?_⟩; obtain ⟨h03, hi4, q⟩ := q; obtain ⟨a3, ha3, hi3⟩ := f4.addr h03 (((rl_len _ _).trans hl.symm).trans hl2.symm) hi4; refine ⟨a3, ha3, hi3.1, hi3.2, ?_⟩; obtain ⟨x3, hx3, q⟩ := q; have hc3 := f4.ldu ha3 h03 hx3; refine ⟨_, hc3.val, ?_⟩; refine q (Zt xσ3) H_3 _ rfl _ rfl _ rfl _ (fun Z2 H_4 hE hO x4 v he2 q => ?_); obtain ⟨xσ4, st4⟩ := call0 hE xσ3; cases he2; refine ⟨_, rfl, ?_⟩; replace hc3 := hc3.step st4; refine ⟨hc3.val, ?_⟩; refine q (Zt xσ4) H_4 _ rfl _ rfl _ rfl _ (fun Z3 H_5 hE2 hO2 x5 v2 he3 q => ?_); obtain ⟨xσ5, st5⟩ := call0 hE2 xσ4; cases he3; refine ⟨_, rfl, ?_⟩; obtain ⟨h04, hi6, q⟩ := q; replace f4 := f4.step (st4.then st5); obtain ⟨a4, ha4, hi5⟩ := f4.addr h04 (((rl_len _ _).trans hl.symm).trans hl2.symm) hi6; refine ⟨a4, ha4, hi5.1, hi5.2, ?_⟩; have w := fun v hr => SlO.set1 (v := v) (y := x5) f4 rfl ha4 h04 (lt_of_n (((rl_len _ _).trans hl.symm).trans hl2.symm) hi6) hr; refine ⟨(w _ rfl).1, NewH.mk fun H_6 e2 => ?_⟩; obtain ⟨st6, f4⟩ := (w _ rfl).2 H_6 e2; replace sl5 := sl5.trans (st4.then (st5.then st6)); exact hnext2 (IntKind.i64.wrap (t2.1 + 1), (List.set t2.2 (Int.toNat (IntKind.i64.wrap (t.1 + t2.1))) x5)) _ _ ⟨_, sl5, rfl, (set_back (((rl_len _ _).trans hl.symm).trans hl2.symm) (set_len (((rl_len _ _).trans hl.symm).trans hl2.symm)) hl2), f4⟩ q
def poly_each.C (p : Nat) (f : (List Nat)) (g : (List Nat)) (do_ : (Nat → Nat → Nat → (Nat → Prop) → Prop)) (K : (List Nat) → Prop) : Prop :=
 ∀ (Z : Nat → Prop) (H : Heap), ∀ (pv : Int), pv = (p : Int) → ∀ (fA : Option Addr) (fn fc : Nat), fn = f.length → SlF u64L Z H fA fc f → ∀ (gA : Option Addr) (gn gc : Nat), gn = g.length → SlF u64L Z H gA gc g → ∀ (doF : Nat) (doa dob : Array Value), Fn73.F Z H doF doa dob do_ → ∀ KK : Value → Heap → Prop,
   (∀ (Z' : Nat → Prop) (H' : Heap), Ext H H' → Old Z H Z' → ∀ (r0 : (List Nat)), ∀ (Y0 : Nat → Prop), (∀ i, Y0 i → H.size ≤ i ∧ ¬ Z' i) → ∀ (Ar0_0 : Option Addr) (nr0_0 cr0_0 : Nat), nr0_0 = r0.length → SlO (rdM u64L) 22 Z' Y0 H' Ar0_0 cr0_0 r0 → K r0 → KK (.slice Ar0_0 nr0_0 cr0_0) H') →
   CallH P N.poly_each [.int .u64 pv, .slice fA fn fc, .slice gA gn gc, .func (.func doF) doa dob] H KK
def poly_each.Q (p : Nat) (f : (List Nat)) (g : (List Nat)) (do_ : (Nat → Nat → Nat → (Nat → Prop) → Prop)) (K : (List Nat) → Prop) : Prop :=
 MakeOk 8 (if ((g.length : Nat) : Int) > ((f.length : Nat) : Int) then ((g.length : Nat) : Int) else ((f.length : Nat) : Int)) ∧ LoopQ (τ := Int × List Nat) (0, (copyL (List.replicate (Int.toNat (if ((g.length : Nat) : Int) > ((f.length : Nat) : Int) then ((g.length : Nat) : Int) else ((f.length : Nat) : Int))) 0) f)) fun t nextQ =>
 cond (decide (t.1 < ((Int.toNat (if ((g.length : Nat) : Int) > ((f.length : Nat) : Int) then ((g.length : Nat) : Int) else ((f.length : Nat) : Int)) : Nat) : Int))) (cond (decide (t.1 < ((g.length : Nat) : Int))) (0 ≤ t.1 ∧ ∃ x : Nat, g[Int.toNat t.1]? = some x ∧ 0 ≤ t.1 ∧ t.1 < ((Int.toNat (if ((g.length : Nat) : Int) > ((f.length : Nat) : Int) then ((g.length : Nat) : Int) else ((f.length : Nat) : Int)) : Nat) : Int) ∧ ∃ x2 : Nat, t.2[Int.toNat t.1]? = some x2 ∧ do_ p x2 x (fun (x3 : Nat) =>
 0 ≤ t.1 ∧ t.1 < ((Int.toNat (if ((g.length : Nat) : Int) > ((f.length : Nat) : Int) then ((g.length : Nat) : Int) else ((f.length : Nat) : Int)) : Nat) : Int) ∧ nextQ (IntKind.i64.wrap (t.1 + 1), (List.set t.2 (Int.toNat t.1) x3))))
  (0 ≤ t.1 ∧ t.1 < ((Int.toNat (if ((g.length : Nat) : Int) > ((f.length : Nat) : Int) then ((g.length : Nat) : Int) else ((f.length : Nat) : Int)) : Nat) : Int) ∧ ∃ x4 : Nat, t.2[Int.toNat t.1]? = some x4 ∧ do_ p x4 0 (fun (x5 : Nat) =>
 0 ≤ t.1 ∧ t.1 < ((Int.toNat (if ((g.length : Nat) : Int) > ((f.length : Nat) : Int) then ((g.length : Nat) : Int) else ((f.length : Nat) : Int)) : Nat) : Int) ∧ nextQ (IntKind.i64.wrap (t.1 + 1), (List.set t.2 (Int.toNat t.1) x5)))))
  (poly_Short.C t.2 (fun (x6 : (List Nat)) =>
 K x6))
theorem poly_each.q {p : Nat} {f : (List Nat)} {g : (List Nat)} {do_ : (Nat → Nat → Nat → (Nat → Prop) → Prop)} {K : (List Nat) → Prop} (q : poly_each.Q p f g do_ K) : poly_each.C p f g do_ K := by
 intro Z H pv he fA fn fc hn f2 gA gn gc hn2 f3 doF doa dob f4 KK hk; cases he; cases hn; cases hn2; apply poly_each.ok; unfold poly_each.W; unfold poly_each.Q at q; obtain ⟨σ, hz, hσ⟩ := tags Z; have hs : Stp ([1, 2] : List Nat) σ H σ H := Stp.refl _ _ _; replace f2 := f2.wide hz; replace f3 := f3.wide hz; replace f4 := f4.wide hz; clear hz; obtain ⟨q2, q⟩ := q; refine ⟨q2.1, Int.le_refl _, q2.w1, q2.w2, NewH.mk fun H_ e => ?_⟩; obtain ⟨xσ, st, f5⟩ := SlO.made (O := (rdM u64L)) σ 1 e (u64_zero) q2.len; replace f2 := f2.step st; refine SlO.copyF f5 f2 rfl (rl_len _ _) rfl (fun H_2 xσ2 st2 f5_ => ?_); replace f5 := f5_; refine LoopI.ofQ q (fun t_ s_ hp_ => ∃ σ_, Stp [1] xσ2 H_2 σ_ hp_ ∧ t_.1 = s_ ∧ t_.2.length = (copyL (List.replicate (Int.toNat (if ((g.length : Nat) : Int) > ((f.length : Nat) : Int) then ((g.length : Nat) : Int) else ((f.length : Nat) : Int))) 0) f).length ∧ SlO (rdM u64L) 22 (Zt σ_) (Yt σ_ 1) hp_ (some (Addr.mk H.size 0 none)) (Int.toNat (if ((g.length : Nat) : Int) > ((f.length : Nat) : Int) then ((g.length : Nat) : Int) else ((f.length : Nat) : Int))) t_.2) (fun h k => h _ _ k) ⟨_, Stp.refl _ _ _, rfl, rfl, f5⟩ ?_; rintro t _ _ H_3 next nextQ ⟨xσ3, st3, rfl, hl, f5⟩ q hnext; (try dsimp only at q ⊢); have sl1 := st3; refine condJ (fun q => ?_) (fun q => ?_) q
 · refine q (fun i => xσ3 i = 0 ∨ xσ3 i = 1) H_3 _ _ _ (((rl_len _ _).trans (copyL_len _ _).symm).trans hl.symm) (f5.read (fun i h => .inl h) (fun i h => .inr (h))) _ (fun Z4 H_8 hE3 hO3 x6 Y hY A n2 c hn3 f6 q => ?_); obtain ⟨xσ6, st8, fy⟩ := callB1 hE3 hO3 xσ3 2 hY; replace f6 := (SlO.anyZ (Z' := Zt xσ6) u64_flatL f6).keep (Fr.refl _ _) fy; cases hn3; refine ⟨_, _, _, rfl, ?_⟩; replace hs := hs.trans (st.then (st2.then (st3.then st8))); exact hk (Zt xσ6) _ (hs.ext hσ) (hs.old hσ) _ (Yt xσ6 2) (hs.fresh hσ) _ _ _ rfl f6 q
 refine condJ (fun q => ?_) (fun q => ?_) q
 · obtain ⟨h04, hi7, q⟩ := q; obtain ⟨a4, ha4, hi6⟩ := f5.addr h04 (((rl_len _ _).trans (copyL_len _ _).symm).trans hl.symm) hi7; refine ⟨a4, ha4, hi6.1, hi6.2, ?_⟩; obtain ⟨x4, hx3, q⟩ := q; have hc3 := f5.ldu ha4 h04 hx3; refine ⟨_, hc3.val, ?_⟩; replace f4 := f4.step (st.then (st2.then st3)); refine ct f4.1 ?_; refine f4.2 (Zt xσ3) H_3 (Fr.refl _ _) _ _ _ _ q _ rfl _ rfl _ rfl _ (fun Z3 H_6 hE2 hO2 x5 v2 he3 q => ?_); obtain ⟨xσ5, st6⟩ := call0 hE2 xσ3; cases he3; refine ⟨_, rfl, ?_⟩; obtain ⟨h05, hi9, q⟩ := q; replace f5 := f5.step st6; obtain ⟨a5, ha5, hi8⟩ := f5.addr h05 (((rl_len _ _).trans (copyL_len _ _).symm).trans hl.symm) hi9; refine ⟨a5, ha5, hi8.1, hi8.2, ?_⟩; have w2 := fun v hr => SlO.set1 (v := v) (y := x5) f5 rfl ha5 h05 (lt_of_n (((rl_len _ _).trans (copyL_len _ _).symm).trans hl.symm) hi9) hr; refine ⟨(w2 _ rfl).1, NewH.mk fun H_7 e3 => ?_⟩; obtain ⟨st7, f5⟩ := (w2 _ rfl).2 H_7 e3; replace sl1 := sl1.trans (st6.then st7); exact hnext (IntKind.i64.wrap (t.1 + 1), (List.set t.2 (Int.toNat t.1) x5)) _ _ ⟨_, sl1, rfl, (set_back (((rl_len _ _).trans (copyL_len _ _).symm).trans hl.symm) (set_len (((rl_len _ _).trans (copyL_len _ _).symm).trans hl.symm)) hl), f5⟩ q
 obtain ⟨h0, x, hx, q⟩ := q; replace f3 := f3.step (st.then (st2.then st3)); obtain ⟨a, ha, hi⟩ := f3.addr h0 hx rfl; refine ⟨a, ha, hi.1, hi.2, ?_⟩; have hc := f3.ldu ha h0 hx; refine ⟨_, hc.val, ?_⟩; obtain ⟨h02, hi3, q⟩ := q; obtain ⟨a2, ha2, hi2⟩ := f5.addr h02 (((rl_len _ _).trans (copyL_len _ _).symm).trans hl.symm) hi3; refine ⟨a2, ha2, hi2.1, hi2.2, ?_⟩; obtain ⟨x2, hx2, q⟩ := q; have hc2 := f5.ldu ha2 h02 hx2; refine ⟨_, hc2.val, ?_⟩; replace f4 := f4.step (st.then (st2.then st3)); refine ct f4.1 ?_; refine f4.2 (Zt xσ3) H_3 (Fr.refl _ _) _ _ _ _ q _ rfl _ rfl _ rfl _ (fun Z2 H_4 hE hO x3 v he2 q => ?_); obtain ⟨xσ4, st4⟩ := call0 hE xσ3; cases he2; refine ⟨_, rfl, ?_⟩; obtain ⟨h03, hi5, q⟩ := q; replace f5 := f5.step st4; obtain ⟨a3, ha3, hi4⟩ := f5.addr h03 (((rl_len _ _).trans (copyL_len _ _).symm).trans hl.symm) hi5; refine ⟨a3, ha3, hi4.1, hi4.2, ?_⟩; have w := fun v hr => SlO.set1 (v := v) (y := x3) f5 rfl ha3 h03 (lt_of_n (((rl_len _ _).trans (copyL_len _ _).symm).trans hl.symm) hi5) hr; refine ⟨(w _ rfl).1, NewH.mk fun H_5 e2 => ?_⟩; obtain ⟨st5, f5⟩ := (w _ rfl).2 H_5 e2; replace sl1 := sl1.trans (st4.then st5); exact hnext (IntKind.i64.wrap (t.1 + 1), (List.set t.2 (Int.toNat t.1) x3)) _ _ ⟨_, sl1, rfl, (set_back (((rl_len _ _).trans (copyL_len _ _).symm).trans hl.symm) (set_len (((rl_len _ _).trans (copyL_len _ _).symm).trans hl.symm)) hl), f5⟩ q
def poly_Plus.C (p : Nat) (f : (List Nat)) (g : (List Nat)) (K : (List Nat) → Prop) : Prop :=
 ∀ (Z : Nat → Prop) (H : Heap), ∀ (pv : Int), pv = (p : Int) → ∀ (fA : Option Addr) (fn fc : Nat), fn = f.length → SlF u64L Z H fA fc f → ∀ (gA : Option Addr) (gn gc : Nat), gn = g.length → SlF u64L Z H gA gc g → ∀ KK : Value → Heap → Prop,
   (∀ (Z' : Nat → Prop) (H' : Heap), Ext H H' → Old Z H Z' → ∀ (r0 : (List Nat)), ∀ (Y0 : Nat → Prop), (∀ i, Y0 i → H.size ≤ i ∧ ¬ Z' i) → ∀ (Ar0_0 : Option Addr) (nr0_0 cr0_0 : Nat), nr0_0 = r0.length → SlO (rdM u64L) 22 Z' Y0 H' Ar0_0 cr0_0 r0 → K r0 → KK (.slice Ar0_0 nr0_0 cr0_0) H') →
   CallH P N.poly_Plus [.int .u64 pv, .slice fA fn fc, .slice gA gn gc] H KK
def poly_Plus.Q (p : Nat) (f : (List Nat)) (g : (List Nat)) (K : (List Nat) → Prop) : Prop :=
 poly_each.C p f g (fun x0_ x1_ x2_ K_ => field_Plus.C x0_ x1_ x2_  K_) (fun (x : (List Nat)) =>
 K x)
theorem poly_Plus.q {p : Nat} {f : (List Nat)} {g : (List Nat)} {K : (List Nat) → Prop} (q : poly_Plus.Q p f g K) : poly_Plus.C p f g K := by
 intro Z H pv he fA fn fc hn f2 gA gn gc hn2 f3 KK hk; cases he; cases hn; cases hn2; apply poly_Plus.ok; unfold poly_Plus.W; unfold poly_Plus.Q at q; obtain ⟨σ, hz, hσ⟩ := tags Z; have hs : Stp ([1] : List Nat) σ H σ H := Stp.refl _ _ _; replace f2 := f2.wide hz; replace f3 := f3.wide hz; clear hz; refine q (Zt σ) H _ rfl _ _ _ rfl f2 _ _ _ rfl f3 (75) (#[]) (#[]) ⟨rfl, fun Z_ H_ fr_ x0_ x1_ x2_ K_ q_ a0_ a1_ a2_ a3_ a4_ a5_ KK_ hk_ => q_ Z_ H_ a0_ a1_ a2_ a3_ a4_ a5_  KK_ hk_⟩ _ (fun Z2 H_ hE hO x Y hY A n c hn3 f4 q => ?_); obtain ⟨xσ, st, fz, fy⟩ := call1 hE hO σ 1 (fun _ h => h) hY; replace f4 := f4.keep fz fy; cases hn3; refine ⟨_, _, _, rfl, ?_⟩; replace hs := hs.trans st; exact hk (Zt xσ) _ (hs.ext hσ) (hs.old hσ) _ (Yt xσ 1) (hs.fresh hσ) _ _ _ rfl f4 q
def poly_Fit.C (p : Nat) (l : (List TPoint)) (K : (List Nat) → Prop) : Prop :=
 ∀ (Z : Nat → Prop) (H : Heap), ∀ (pv : Int), pv = (p : Int) → ∀ (lA : Option Addr) (ln lc : Nat), ln = l.length → SlF TPoint.L Z H lA lc l → ∀ KK : Value → Heap → Prop,
   (∀ (Z' : Nat → Prop) (H' : Heap), Ext H H' → Old Z H Z' → ∀ (r0 : (List Nat)), ∀ (Y0 : Nat → Prop), (∀ i, Y0 i → H.size ≤ i ∧ ¬ Z' i) → ∀ (Ar0_0 : Option Addr) (nr0_0 cr0_0 : Nat), nr0_0 = r0.length → SlO (rdM u64L) 22 Z' Y0 H' Ar0_0 cr0_0 r0 → K r0 → KK (.slice Ar0_0 nr0_0 cr0_0) H') →
   CallH P N.poly_Fit [.int .u64 pv, .slice lA ln lc] H KK
def poly_Fit.Q (p : Nat) (l : (List TPoint)) (K : (List Nat) → Prop) : Prop :=
 MakeOk 8 ((l.length : Nat) : Int) ∧ LoopQ (τ := Int × List Nat) (0, (List.replicate l.length 0)) fun t nextQ =>
 cond (decide (t.1 < ((l.length : Nat) : Int))) (0 ≤ t.1 ∧ ∃ x : TPoint, l[Int.toNat t.1]? = some x ∧ 0 ≤ t.1 ∧ t.1 < ((l.length : Nat) : Int) ∧ nextQ (IntKind.i64.wrap (t.1 + 1), (List.set t.2 (Int.toNat t.1) x.Y)))
  (LoopQ (τ := Int × List Nat) (1, t.2) fun t2 nextQ2 =>
 cond (decide (t2.1 < ((l.length : Nat) : Int))) (LoopQ (τ := Int × List Nat) (IntKind.i64.wrap (((l.length : Nat) : Int) - 1), t2.2) fun t3 nextQ3 =>
 cond (decide (t3.1 ≥ t2.1)) (0 ≤ t3.1 ∧ ∃ x2 : TPoint, l[Int.toNat t3.1]? = some x2 ∧ 0 ≤ (IntKind.i64.wrap (t3.1 - t2.1)) ∧ ∃ x3 : TPoint, l[Int.toNat (IntKind.i64.wrap (t3.1 - t2.1))]? = some x3 ∧ field_Minus.C p x2.X x3.X (fun (x4 : Nat) =>
 0 ≤ t3.1 ∧ t3.1 < ((l.length : Nat) : Int) ∧ 0 ≤ (IntKind.i64.wrap (t3.1 - 1)) ∧ (IntKind.i64.wrap (t3.1 - 1)) < ((l.length : Nat) : Int) ∧ ∃ x5 : Nat, t3.2[Int.toNat t3.1]? = some x5 ∧ ∃ x6 : Nat, t3.2[Int.toNat (IntKind.i64.wrap (t3.1 - 1))]? = some x6 ∧ field_Minus.C p x5 x6 (fun (x7 : Nat) =>
 field_Over.C p x4 (fun (x8 : Nat) =>
 field_Times.C p x7 x8 (fun (x9 : Nat) =>
 0 ≤ t3.1 ∧ t3.1 < ((l.length : Nat) : Int) ∧ nextQ3 (IntKind.i64.wrap (t3.1 - 1), (List.set t3.2 (Int.toNat t3.1) x9)))))))
  (nextQ2 (IntKind.i64.wrap (t2.1 + 1), t3.2)))
  (LoopQ (τ := List Nat × Int) (([] : List Nat), IntKind.i64.wrap (((l.length : Nat) : Int) - 1)) fun t4 nextQ4 =>
 cond (decide (t4.2 ≥ 0)) (0 ≤ t4.2 ∧ ∃ x10 : TPoint, l[Int.toNat t4.2]? = some x10 ∧ field_Minus.C p 0 x10.X (fun (x11 : Nat) =>
 poly_Times.C p t4.1 ([x11, 1]) (fun (x12 : (List Nat)) =>
 0 ≤ t4.2 ∧ t4.2 < ((l.length : Nat) : Int) ∧ ∃ x13 : Nat, t2.2[Int.toNat t4.2]? = some x13 ∧ poly_Plus.C p x12 ([x13]) (fun (x14 : (List Nat)) =>
 nextQ4 (x14, IntKind.i64.wrap (t4.2 - 1))))))
  (poly_Short.C t4.1 (fun (x15 : (List Nat)) =>
 K x15))))
theorem poly_Fit.q {p : Nat} {l : (List TPoint)} {K : (List Nat) → Prop} (q : poly_Fit.Q p l K) : poly_Fit.C p l K := by
 intro Z H pv he lA ln lc hn f KK hk; cases he; cases hn; apply poly_Fit.ok; unfold poly_Fit.W; unfold poly_Fit.Q at q; obtain ⟨σ, hz, hσ⟩ := tags Z; have hs : Stp ([1, 2, 3, 4, 5, 6, 7, 8] : List Nat) σ H σ H := Stp.refl _ _ _; replace f := f.wide hz; clear hz; obtain ⟨q2, q⟩ := q; refine ⟨q2.1, Int.le_refl _, q2.w1, q2.w2, NewH.mk fun H_ e => ?_⟩; obtain ⟨xσ, st, f2⟩ := SlO.made (O := (rdM u64L)) σ 1 e (u64_zero) q2.len; refine LoopI.ofQ q (fun t_ s_ hp_ => ∃ σ_, Stp [1, 2] xσ H_ σ_ hp_ ∧ t_.1 = s_ ∧ t_.2.length = (List.replicate l.length 0).length ∧ SlO (rdM u64L) 22 (Zt σ_) (Yt σ_ 1) hp_ (some (Addr.mk H.size 0 none)) l.length t_.2) (fun h k => h _ _ k) ⟨_, Stp.refl _ _ _, rfl, rfl, f2⟩ ?_; rintro t _ _ H_2 next nextQ ⟨xσ2, st2, rfl, hl, f2⟩ q hnext; (try dsimp only at q ⊢); have sl9 := st2; refine condI (fun q => ?_) (fun q => ?_) q
 · obtain ⟨h0, x, hx, q⟩ := q; replace f := f.step (st.then st2); obtain ⟨a, ha, hi⟩ := f.addr h0 hx rfl; refine ⟨a, ha, hi.1, hi.2, ?_⟩; obtain ⟨cs, hr, hc⟩ := f.ldN (k := 2) rfl ha h0 hx; cases hr; have hc2 := hc 0 _ rfl; have hc3 := hc 1 _ rfl; refine ⟨_, _, hc2.val, hc3.val, ?_⟩; refine NewH.mk fun H_3 e2 => ?_; obtain ⟨xσ3, st3, b⟩ := BoxF.new xσ2 2 e2; refine ⟨b.mayF rfl, NewH.mk fun H_4 e3 => ?_⟩; obtain ⟨st4, b⟩ := b.wf2 rfl e3; refine ⟨_, b.cell 1 rfl, ?_⟩; obtain ⟨h02, hi3, q⟩ := q; replace f2 := f2.step (st3.then st4); obtain ⟨a2, ha2, hi2⟩ := f2.addr h02 ((rl_len _ _).trans hl.symm) hi3; refine ⟨a2, ha2, hi2.1, hi2.2, ?_⟩; have w := fun v hr => SlO.set1 (v := v) (y := x.Y) f2 rfl ha2 h02 (lt_of_n ((rl_len _ _).trans hl.symm) hi3) hr; refine ⟨(w _ rfl).1, NewH.mk fun H_5 e4 => ?_⟩; obtain ⟨st5, f2⟩ := (w _ rfl).2 H_5 e4; replace sl9 := sl9.trans (st3.then (st4.then st5)); exact hnext (IntKind.i64.wrap (t.1 + 1), (List.set t.2 (Int.toNat t.1) x.Y)) _ _ ⟨_, sl9, rfl, (set_back ((rl_len _ _).trans hl.symm) (set_len ((rl_len _ _).trans hl.symm)) hl), f2⟩ q
 refine LoopI.ofQ q (fun t_ s_ hp_ => ∃ σ_, Stp [1] xσ2 H_2 σ_ hp_ ∧ t_.1 = s_ ∧ t_.2.length = t.2.length ∧ SlO (rdM u64L) 22 (Zt σ_) (Yt σ_ 1) hp_ (some (Addr.mk H.size 0 none)) l.length t_.2) (fun h k => h _ _ k) ⟨_, Stp.refl _ _ _, rfl, rfl, f2⟩ ?_; rintro t2 _ _ H_6 next2 nextQ2 ⟨xσ4, st6, rfl, hl2, f2⟩ q hnext2; (try dsimp only at q ⊢); have sl14 := st6; refine condI (fun q => ?_) (fun q => ?_) q
 · refine LoopI.ofQ q (fun t_ s_ hp_ => ∃ σ_, Stp [1] xσ4 H_6 σ_ hp_ ∧ t_.1 = s_ ∧ t_.2.length = t2.2.length ∧ SlO (rdM u64L) 22 (Zt σ_) (Yt σ_ 1) hp_ (some (Addr.mk H.size 0 none)) l.length t_.2) (fun h k => h _ _ k) ⟨_, Stp.refl _ _ _, rfl, rfl, f2⟩ ?_; rintro t3 _ _ H_7 next3 nextQ3 ⟨xσ5, st7, rfl, hl3, f2⟩ q hnext3; (try dsimp only at q ⊢); have sl16 := st7; refine condJ (fun q => ?_) (fun q => ?_) q
   · replace sl14 := sl14.trans st7; exact hnext2 (IntKind.i64.wrap (t2.1 + 1), t3.2) _ _ ⟨_, sl14, rfl, (set_back (((rl_len _ _).trans hl.symm).trans hl2.symm) ((((rl_len _ _).trans hl.symm).trans hl2.symm).trans hl3.symm) hl2), f2⟩ q
   obtain ⟨h03, x2, hx2, q⟩ := q; replace f := f.step (st.then (st2.then (st6.then st7))); obtain ⟨a3, ha3, hi4⟩ := f.addr h03 hx2 rfl; refine ⟨a3, ha3, hi4.1, hi4.2, ?_⟩; obtain ⟨h04, x3, hx3, q⟩ := q; obtain ⟨a4, ha4, hi5⟩ := f.addr h04 hx3 rfl; refine ⟨a4, ha4, hi5.1, hi5.2, ?_⟩; obtain ⟨cs2, hr2, hc4⟩ := f.ldN (k := 2) rfl ha3 h03 hx2; cases hr2; have hc5 := hc4 0 _ rfl; refine ⟨_, hc5.val, ?_⟩; obtain ⟨cs3, hr3, hc6⟩ := f.ldN (k := 2) rfl ha4 h04 hx3; cases hr3; have hc7 := hc6 0 _ rfl; refine ⟨_, hc7.val, ?_⟩; refine q (Zt xσ5) H_7 _ rfl _ rfl _ rfl _ (fun Z2 H_8 hE hO x4 v he2 q => ?_); obtain ⟨xσ6, st8⟩ := call0 hE xσ5; cases he2; refine ⟨_, rfl, ?_⟩; obtain ⟨h05, hi7, q⟩ := q; replace f2 := f2.step st8; obtain ⟨a5, ha5, hi6⟩ := f2.addr h05 ((((rl_len _ _).trans hl.symm).trans hl2.symm).trans hl3.symm) hi7; refine ⟨a5, ha5, hi6.1, hi6.2, ?_⟩; obtain ⟨h06, hi9, q⟩ := q; obtain ⟨a6, ha6, hi8⟩ := f2.addr h06 ((((rl_len _ _).trans hl.symm).trans hl2.symm).trans hl3.symm) hi9; refine ⟨a6, ha6, hi8.1, hi8.2, ?_⟩; obtain ⟨x5, hx4, q⟩ := q; have hc8 := f2.ldu ha5 h05 hx4; refine ⟨_, hc8.val, ?_⟩; obtain ⟨x6, hx5, q⟩ := q; have hc9 := f2.ldu ha6 h06 hx5; refine ⟨_, hc9.val, ?_⟩; refine q (Zt xσ6) H_8 _ rfl _ rfl _ rfl _ (fun Z3 H_9 hE2 hO2 x7 v2 he3 q => ?_); obtain ⟨xσ7, st9⟩ := call0 hE2 xσ6; cases he3; refine ⟨_, rfl, ?_⟩; refine q (Zt xσ7) H_9 _ rfl _ rfl _ (fun Z4 H_10 hE3 hO3 x8 v3 he4 q => ?_); obtain ⟨xσ8, st10⟩ := call0 hE3 xσ7; cases he4; refine ⟨_, rfl, ?_⟩; refine q (Zt xσ8) H_10 _ rfl _ rfl _ rfl _ (fun Z5 H_11 hE4 hO4 x9 v4 he5 q => ?_); obtain ⟨xσ9, st11⟩ := call0 hE4 xσ8; cases he5; refine ⟨_, rfl, ?_⟩; obtain ⟨h07, hi11, q⟩ := q; replace f2 := f2.step (st9.then (st10.then st11)); obtain ⟨a7, ha7, hi10⟩ := f2.addr h07 ((((rl_len _ _).trans hl.symm).trans hl2.symm).trans hl3.symm) hi11; refine ⟨a7, ha7, hi10.1, hi10.2, ?_⟩; have w2 := fun v hr => SlO.set1 (v := v) (y := x9) f2 rfl ha7 h07 (lt_of_n ((((rl_len _ _).trans hl.symm).trans hl2.symm).trans hl3.symm) hi11) hr; refine ⟨(w2 _ rfl).1, NewH.mk fun H_12 e5 => ?_⟩; obtain ⟨st12, f2⟩ := (w2 _ rfl).2 H_12 e5; replace sl16 := sl16.trans (st8.then (st9.then (st10.then (st11.then st12)))); exact hnext3 (IntKind.i64.wrap (t3.1 - 1), (List.set t3.2 (Int.toNat t3.1) x9)) _ _ ⟨_, sl16, rfl, (set_back ((((rl_len _ _).trans hl.symm).trans hl2.symm).trans hl3.symm) (set_len ((((rl_len _ _).trans hl.symm).trans hl2.symm).trans hl3.symm)) hl3), f2⟩ q
 have f3 := SlO.nil (rdM u64L) 22 (Zt xσ4) (Yt xσ4 3) H_6; refine LoopI.ofQ q (fun t_ s_ hp_ => ∃ σ_ A0_ n0_ c0_, Stp [4, 5, 6, 7] xσ4 H_6 σ_ hp_ ∧ ((A0_, n0_, c0_), t_.2) = s_ ∧ n0_ = t_.1.length ∧ SlO (rdM u64L) 22 (Zt σ_) (Yt σ_ 3) hp_ A0_ c0_ t_.1) (fun h k => h _ _ k) ⟨_, _, _, _, Stp.refl _ _ _, rfl, rfl, f3⟩ ?_; rintro t4 _ _ H_13 next4 nextQ4 ⟨xσ10, A, n, c, st13, rfl, rfl, f4⟩ q hnext4; (try dsimp only at q ⊢); have sl17 := st13; refine condJ (fun q => ?_) (fun q => ?_) q
 · refine q (fun i => xσ10 i = 0 ∨ xσ10 i = 3) H_13 _ _ _ rfl (f4.read (fun i h => .inl h) (fun i h => .inr (h))) _ (fun Z9 H_19 hE8 hO8 x15 Y3 hY3 A4 n4 c4 hn4 f9 q => ?_); obtain ⟨xσ17, st20, fy3⟩ := callB1 hE8 hO8 xσ10 8 hY3; replace f9 := (SlO.anyZ (Z' := Zt xσ17) u64_flatL f9).keep (Fr.refl _ _) fy3; cases hn4; refine ⟨_, _, _, rfl, ?_⟩; replace hs := hs.trans (st.then (st2.then (st6.then (st13.then st20)))); exact hk (Zt xσ17) _ (hs.ext hσ) (hs.old hσ) _ (Yt xσ17 8) (hs.fresh hσ) _ _ _ rfl f9 q
 obtain ⟨h08, x10, hx6, q⟩ := q; replace f := f.step (st.then (st2.then (st6.then st13))); obtain ⟨a8, ha8, hi12⟩ := f.addr h08 hx6 rfl; refine ⟨a8, ha8, hi12.1, hi12.2, ?_⟩; obtain ⟨cs4, hr4, hc10⟩ := f.ldN (k := 2) rfl ha8 h08 hx6; cases hr4; have hc11 := hc10 0 _ rfl; refine ⟨_, hc11.val, ?_⟩; refine q (Zt xσ10) H_13 _ rfl _ rfl _ rfl _ (fun Z6 H_14 hE5 hO5 x11 v5 he6 q => ?_); obtain ⟨xσ11, st14⟩ := call0 hE5 xσ10; cases he6; refine ⟨_, rfl, ?_⟩; refine NewH.mk fun H_15 e6 => ?_; obtain ⟨xσ12, st15, f5⟩ := SlO.lit (E := u64L) xσ11 4 (xs := [x11, 1]) (l := [[_], [_]]) e6 rfl (.cons rfl (.cons rfl .nil)) (show (2 : Nat) ≤ 17592186044416 by decide); replace f4 := f4.step (st14.then st15); refine q (fun i => xσ12 i = 0 ∨ xσ12 i = 3 ∨ xσ12 i = 4) H_15 _ rfl _ _ _ rfl (f4.read (fun i h => .inl h) (fun i h => .inr (.inl h))) _ _ _ rfl (f5.read (fun i h => .inl h) (fun i h => .inr (.inr (h)))) _ (fun Z7 H_16 hE6 hO6 x12 Y hY A2 n2 c2 hn2 f6 q => ?_); obtain ⟨xσ13, st16, fy⟩ := callB1 hE6 hO6 xσ12 5 hY; replace f6 := (SlO.anyZ (Z' := Zt xσ13) u64_flatL f6).keep (Fr.refl _ _) fy; cases hn2; refine ⟨_, _, _, rfl, ?_⟩; obtain ⟨h09, hi14, q⟩ := q; replace f2 := f2.step (st13.then (st14.then (st15.then st16))); obtain ⟨a9, ha9, hi13⟩ := f2.addr h09 (((rl_len _ _).trans hl.symm).trans hl2.symm) hi14; refine ⟨a9, ha9, hi13.1, hi13.2, ?_⟩; obtain ⟨x13, hx7, q⟩ := q; have hc12 := f2.ldu ha9 h09 hx7; refine ⟨_, hc12.val, ?_⟩; refine NewH.mk fun H_17 e7 => ?_; obtain ⟨xσ14, st17, f7⟩ := SlO.lit (E := u64L) xσ13 6 (xs := [x13]) (l := [[_]]) e7 rfl (.cons rfl .nil) (show (1 : Nat) ≤ 17592186044416 by decide); replace f6 := f6.step st17; refine q (fun i => xσ14 i = 0 ∨ xσ14 i = 5 ∨ xσ14 i = 6) H_17 _ rfl _ _ _ rfl (f6.read (fun i h => .inl h) (fun i h => .inr (.inl h))) _ _ _ rfl (f7.read (fun i h => .inl h) (fun i h => .inr (.inr (h)))) _ (fun Z8 H_18 hE7 hO7 x14 Y2 hY2 A3 n3 c3 hn3 f8 q => ?_); obtain ⟨xσ15, st18, fy2⟩ := callB1 hE7 hO7 xσ14 7 hY2; replace f8 := (SlO.anyZ (Z' := Zt xσ15) u64_flatL f8).keep (Fr.refl _ _) fy2; cases hn3; refine ⟨_, _, _, rfl, ?_⟩; obtain ⟨xσ16, st19, f8⟩ := SlO.retag f8 3; replace sl17 := sl17.trans (st14.then (st15.then (st16.then (st17.then (st18.then st19))))); exact hnext4 (x14, IntKind.i64.wrap (t4.2 - 1)) _ _ ⟨_, _, _, _, sl17, rfl, rfl, f8⟩ q
def poly_Over.C (p : Nat) (f : (List Nat)) (g : (List Nat)) (K : (List Nat) → (List Nat) → Prop) : Prop :=
 ∀ (Z : Nat → Prop) (H : Heap), ∀ (pv : Int), pv = (p : Int) → ∀ (fA : Option Addr) (fn fc : Nat), fn = f.length → SlF u64L Z H fA fc f → ∀ (gA : Option Addr) (gn gc : Nat), gn = g.length → SlF u64L Z H gA gc g → ∀ KK : Value → Heap → Prop,
   (∀ (Z' : Nat → Prop) (H' : Heap), Ext H H' → Old Z H Z' → ∀ (r0 : (List Nat)), ∀ (Y0 : Nat → Prop), (∀ i, Y0 i → H.size ≤ i ∧ ¬ Z' i) → ∀ (Ar0_0 : Option Addr) (nr0_0 cr0_0 : Nat), nr0_0 = r0.length → SlO (rdM u64L) 22 Z' Y0 H' Ar0_0 cr0_0 r0 → ∀ (r1 : (List Nat)), ∀ (Y1 : Nat → Prop), (∀ i, Y1 i → H.size ≤ i ∧ ¬ Z' i) → ∀ (Ar1_0 : Option Addr) (nr1_0 cr1_0 : Nat), nr1_0 = r1.length → SlO (rdM u64L) 22 Z' Y1 H' Ar1_0 cr1_0 r1 → (∀ i, Y0 i → ¬ Y1 i) → K r0 r1 → KK (.tuple #[.slice Ar0_0 nr0_0 cr0_0, .slice Ar1_0 nr1_0 cr1_0]) H') →
   CallH P N.poly_Over [.int .u64 pv, .slice fA fn fc, .slice gA gn gc] H KK
def poly_Over.Q (p : Nat) (f : (List Nat)) (g : (List Nat)) (K : (List Nat) → (List Nat) → Prop) : Prop :=
 poly_Short.C f (fun (x : (List Nat)) =>
 poly_Short.C g (fun (x2 : (List Nat)) =>
 cond (decide (((x.length : Nat) : Int) < ((x2.length : Nat) : Int))) (K ([]) x)
  (MakeOk 8 (IntKind.i64.wrap ((IntKind.i64.wrap (((x.length : Nat) : Int) - ((x2.length : Nat) : Int))) + 1)) ∧ 0 ≤ (IntKind.i64.wrap (((x2.length : Nat) : Int) - 1)) ∧ (IntKind.i64.wrap (((x2.length : Nat) : Int) - 1)) < ((x2.length : Nat) : Int) ∧ ∃ x3 : Nat, x2[Int.toNat (IntKind.i64.wrap (((x2.length : Nat) : Int) - 1))]? = some x3 ∧ field_Over.C p x3 (fun (x4 : Nat) =>
 LoopQ (τ := Int × List Nat × List Nat) (IntKind.i64.wrap (((Int.toNat (IntKind.i64.wrap ((IntKind.i64.wrap (((x.length : Nat) : Int) - ((x2.length : Nat) : Int))) + 1)) : Nat) : Int) - 1), x, (List.replicate (Int.toNat (IntKind.i64.wrap ((IntKind.i64.wrap (((x.length : Nat) : Int) - ((x2.length : Nat) : Int))) + 1))) 0)) fun t nextQ =>
 cond (decide (t.1 ≥ 0)) (0 ≤ (IntKind.i64.wrap ((IntKind.i64.wrap (t.1 + ((x2.length : Nat) : Int))) - 1)) ∧ (IntKind.i64.wrap ((IntKind.i64.wrap (t.1 + ((x2.length : Nat) : Int))) - 1)) < ((x.length : Nat) : Int) ∧ ∃ x5 : Nat, t.2.1[Int.toNat (IntKind.i64.wrap ((IntKind.i64.wrap (t.1 + ((x2.length : Nat) : Int))) - 1))]? = some x5 ∧ field_Times.C p x5 x4 (fun (x6 : Nat) =>
 0 ≤ t.1 ∧ t.1 < ((Int.toNat (IntKind.i64.wrap ((IntKind.i64.wrap (((x.length : Nat) : Int) - ((x2.length : Nat) : Int))) + 1)) : Nat) : Int) ∧ LoopQ (τ := Int × List Nat) (0, t.2.1) fun t2 nextQ2 =>
 cond (decide (t2.1 < ((x2.length : Nat) : Int))) (0 ≤ t2.1 ∧ t2.1 < ((x2.length : Nat) : Int) ∧ ∃ x7 : Nat, x2[Int.toNat t2.1]? = some x7 ∧ 0 ≤ (IntKind.i64.wrap (t.1 + t2.1)) ∧ (IntKind.i64.wrap (t.1 + t2.1)) < ((x.length : Nat) : Int) ∧ ∃ x8 : Nat, t2.2[Int.toNat (IntKind.i64.wrap (t.1 + t2.1))]? = some x8 ∧ field_Times.C p x6 x7 (fun (x9 : Nat) =>
 field_Minus.C p x8 x9 (fun (x10 : Nat) =>
 0 ≤ (IntKind.i64.wrap (t.1 + t2.1)) ∧ (IntKind.i64.wrap (t.1 + t2.1)) < ((x.length : Nat) : Int) ∧ nextQ2 (IntKind.i64.wrap (t2.1 + 1), (List.set t2.2 (Int.toNat (IntKind.i64.wrap (t.1 + t2.1))) x10)))))
  (nextQ (IntKind.i64.wrap (t.1 - 1), t2.2, (List.set t.2.2 (Int.toNat t.1) x6)))))
  (poly_Short.C t.2.2 (fun (x11 : (List Nat)) =>
 poly_Short.C t.2.1 (fun (x12 : (List Nat)) =>
 K x11 x12)))))))
theorem poly_Over.q {p : Nat} {f : (List Nat)} {g : (List Nat)} {K : (List Nat) → (List Nat) → Prop} (q : poly_Over.Q p f g K) : poly_Over.C p f g K := by
 intro Z H pv he fA fn fc hn f2 gA gn gc hn2 f3 KK hk; cases he; cases hn; cases hn2; apply poly_Over.ok; unfold poly_Over.W; unfold poly_Over.Q at q; obtain ⟨σ, hz, hσ⟩ := tags Z; have hs : Stp ([1, 2, 3, 4, 5] : List Nat) σ H σ H := Stp.refl _ _ _; replace f2 := f2.wide hz; replace f3 := f3.wide hz; clear hz; refine q (Zt σ) H _ _ _ rfl f2 _ (fun Z2 H_ hE hO x Y hY A n c hn3 f4 q => ?_); obtain ⟨xσ, st, fz, fy⟩ := call1 hE hO σ 1 (fun _ h => h) hY; replace f4 := f4.keep fz fy; cases hn3; refine ⟨_, _, _, rfl, ?_⟩; replace f3 := f3.step st; refine q (Zt xσ) H_ _ _ _ rfl f3 _ (fun Z3 H_2 hE2 hO2 x2 Y2 hY2 A2 n2 c2 hn4 f5 q => ?_); obtain ⟨xσ2, st2, fz2, fy2⟩ := call1 hE2 hO2 xσ 2 (fun _ h => h) hY2; replace f5 := f5.keep fz2 fy2; cases hn4; refine ⟨_, _, _, rfl, ?_⟩; refine condI (fun q => ?_) (fun q => ?_) q
 · replace hs := hs.trans (st.then st2); replace f4 := f4.step st2; exact hk (Zt xσ2) _ (hs.ext hσ) (hs.old hσ) _ (fun _ => False) (fun _ h => h.elim) _ _ _ rfl (SlO.nil _ _ _ _ _) _ (Yt xσ2 1) (hs.fresh hσ) _ _ _ rfl f4 (fun _ h => h.elim) q
 obtain ⟨q2, q⟩ := q; refine ⟨q2.1, Int.le_refl _, q2.w1, q2.w2, NewH.mk fun H_3 e => ?_⟩; obtain ⟨xσ3, st3, f6⟩ := SlO.made (O := (rdM u64L)) xσ2 3 e (u64_zero) q2.len; obtain ⟨h0, hi2, q⟩ := q; replace f5 := f5.step st3; obtain ⟨a, ha, hi⟩ := f5.addr h0 rfl hi2; refine ⟨a, ha, hi.1, hi.2, ?_⟩; obtain ⟨x3, hx, q⟩ := q; have hc := f5.ldu ha h0 hx; refine ⟨_, hc.val, ?_⟩; refine q (Zt xσ3) H_3 _ rfl _ rfl _ (fun Z4 H_4 hE3 hO3 x4 v he2 q => ?_); obtain ⟨xσ4, st4⟩ := call0 hE3 xσ3; cases he2; refine ⟨_, rfl, ?_⟩; replace f4 := f4.step (st2.then (st3.then st4)); replace f6 := f6.step st4; refine LoopI.ofQ q (fun t_ s_ hp_ => ∃ σ_, Stp [1, 3] xσ4 H_4 σ_ hp_ ∧ t_.1 = s_ ∧ t_.2.1.length = x.length ∧ SlO (rdM u64L) 22 (Zt σ_) (Yt σ_ 1) hp_ A c t_.2.1 ∧ t_.2.2.length = (List.replicate (Int.toNat (IntKind.i64.wrap ((IntKind.i64.wrap (((x.length : Nat) : Int) - ((x2.length : Nat) : Int))) + 1))) 0).length ∧ SlO (rdM u64L) 22 (Zt σ_) (Yt σ_ 3) hp_ (some (Addr.mk H_2.size 0 none)) (Int.toNat (IntKind.i64.wrap ((IntKind.i64.wrap (((x.length : Nat) : Int) - ((x2.length : Nat) : Int))) + 1))) t_.2.2) (fun h k => h _ _ k) ⟨_, Stp.refl _ _ _, rfl, rfl, f4, rfl, f6⟩ ?_; rintro t _ _ H_5 next nextQ ⟨xσ5, st5, rfl, hl, f4, hl2, f6⟩ q hnext; (try dsimp only at q ⊢); have sl3 := st5; refine condJ (fun q => ?_) (fun q => ?_) q
 · refine q (fun i => xσ5 i = 0 ∨ xσ5 i = 3) H_5 _ _ _ ((rl_len _ _).trans hl2.symm) (f6.read (fun i h => .inl h) (fun i h => .inr (h))) _ (fun Z8 H_12 hE7 hO7 x11 Y3 hY3 A3 n3 c3 hn5 f7 q => ?_); obtain ⟨xσ10, st12, fy3⟩ := callB1 hE7 hO7 xσ5 4 hY3; replace f7 := (SlO.anyZ (Z' := Zt xσ10) u64_flatL f7).keep (Fr.refl _ _) fy3; cases hn5; refine ⟨_, _, _, rfl, ?_⟩; replace f4 := f4.step st12; refine q (fun i => xσ10 i = 0 ∨ xσ10 i = 1) H_12 _ _ _ ((rfl : _ = _).trans hl.symm) (f4.read (fun i h => .inl h) (fun i h => .inr (h))) _ (fun Z9 H_13 hE8 hO8 x12 Y4 hY4 A4 n4 c4 hn6 f8 q => ?_); obtain ⟨xσ11, st13, fy4⟩ := callB1 hE8 hO8 xσ10 5 hY4; replace f8 := (SlO.anyZ (Z' := Zt xσ11) u64_flatL f8).keep (Fr.refl _ _) fy4; cases hn6; refine ⟨_, _, _, rfl, ?_⟩; replace hs := hs.trans (st.then (st2.then (st3.then (st4.then (st5.then (st12.then st13)))))); replace f7 := f7.step st13; exact hk (Zt xσ11) _ (hs.ext hσ) (hs.old hσ) _ (Yt xσ11 4) (hs.fresh hσ) _ _ _ rfl f7 _ (Yt xσ11 5) (hs.fresh hσ) _ _ _ rfl f8 Yt.apart q
 obtain ⟨h02, hi4, q⟩ := q; obtain ⟨a2, ha2, hi3⟩ := f4.addr h02 ((rfl : _ = _).trans hl.symm) hi4; refine ⟨a2, ha2, hi3.1, hi3.2, ?_⟩; obtain ⟨x5, hx2, q⟩ := q; have hc2 := f4.ldu ha2 h02 hx2; refine ⟨_, hc2.val, ?_⟩; refine q (Zt xσ5) H_5 _ rfl _ rfl _ rfl _ (fun Z5 H_6 hE4 hO4 x6 v2 he3 q => ?_); obtain ⟨xσ6, st6⟩ := call0 hE4 xσ5; cases he3; refine ⟨_, rfl, ?_⟩; obtain ⟨h03, hi6, q⟩ := q; replace f6 := f6.step st6; obtain ⟨a3, ha3, hi5⟩ := f6.addr h03 ((rl_len _ _).trans hl2.symm) hi6; refine ⟨a3, ha3, hi5.1, hi5.2, ?_⟩; have w := fun v hr => SlO.set1 (v := v) (y := x6) f6 rfl ha3 h03 (lt_of_n ((rl_len _ _).trans hl2.symm) hi6) hr; refine ⟨(w _ rfl).1, NewH.mk fun H_7 e2 => ?_⟩; obtain ⟨st7, f6⟩ := (w _ rfl).2 H_7 e2; replace f4 := f4.step (st6.then st7); refine LoopI.ofQ q (fun t_ s_ hp_ => ∃ σ_, Stp [1] xσ6 H_7 σ_ hp_ ∧ t_.1 = s_ ∧ t_.2.length = t.2.1.length ∧ SlO (rdM u64L) 22 (Zt σ_) (Yt σ_ 1) hp_ A c t_.2) (fun h k => h _ _ k) ⟨_, Stp.refl _ _ _, rfl, rfl, f4⟩ ?_; rintro t2 _ _ H_8 next2 nextQ2 ⟨xσ7, st8, rfl, hl3, f4⟩ q hnext2; (try dsimp only at q ⊢); have sl5 := st8; refine condJ (fun q => ?_) (fun q => ?_) q
 · replace sl3 := sl3.trans (st6.then (st7.then st8)); replace f6 := f6.step st8; exact hnext (IntKind.i64.wrap (t.1 - 1), t2.2, (List.set t.2.2 (Int.toNat t.1) x6)) _ _ ⟨_, sl3, rfl, (set_back ((rfl : _ = _).trans hl.symm) (((rfl : _ = _).trans hl.symm).trans hl3.symm) hl), f4, (set_back ((rl_len _ _).trans hl2.symm) (set_len ((rl_len _ _).trans hl2.symm)) hl2), f6⟩ q
 obtain ⟨h04, hi8, q⟩ := q; replace f5 := f5.step (st4.then (st5.then (st6.then (st7.then st8)))); obtain ⟨a4, ha4, hi7⟩ := f5.addr h04 rfl hi8; refine ⟨a4, ha4, hi7.1, hi7.2, ?_⟩; obtain ⟨x7, hx3, q⟩ := q; have hc3 := f5.ldu ha4 h04 hx3; refine ⟨_, hc3.val, ?_⟩; obtain ⟨h05, hi10, q⟩ := q; obtain ⟨a5, ha5, hi9⟩ := f4.addr h05 (((rfl : _ = _).trans hl.symm).trans hl3.symm) hi10; refine ⟨a5, ha5, hi9.1, hi9.2, ?_⟩; obtain ⟨x8, hx4, q⟩ := q; have hc4 := f4.ldu ha5 h05 hx4; refine ⟨_, hc4.val, ?_⟩; refine q (Zt xσ7) H_8 _ rfl _ rfl _ rfl _ (fun Z6 H_9 hE5 hO5 x9 v3 he4 q => ?_); obtain ⟨xσ8, st9⟩ := call0 hE5 xσ7; cases he4; refine ⟨_, rfl, ?_⟩; replace hc4 := hc4.step st9; refine ⟨hc4.val, ?_⟩; refine q (Zt xσ8) H_9 _ rfl _ rfl _ rfl _ (fun Z7 H_10 hE6 hO6 x10 v4 he5 q => ?_); obtain ⟨xσ9, st10⟩ := call0 hE6 xσ8; cases he5; refine ⟨_, rfl, ?_⟩; obtain ⟨h06, hi12, q⟩ := q; replace f4 := f4.step (st9.then st10); obtain ⟨a6, ha6, hi11⟩ := f4.addr h06 (((rfl : _ = _).trans hl.symm).trans hl3.symm) hi12; refine ⟨a6, ha6, hi11.1, hi11.2, ?_⟩; have w2 := fun v hr => SlO.set1 (v := v) (y := x10) f4 rfl ha6 h06 (lt_of_n (((rfl : _ = _).trans hl.symm).trans hl3.symm) hi12) hr; refine ⟨(w2 _ rfl).1, NewH.mk fun H_11 e3 => ?_⟩; obtain ⟨st11, f4⟩ := (w2 _ rfl).2 H_11 e3; replace sl5 := sl5.trans (st9.then (st10.then st11)); exact hnext2 (IntKind.i64.wrap (t2.1 + 1), (List.set t2.2 (Int.toNat (IntKind.i64.wrap (t.1 + t2.1))) x10)) _ _ ⟨_, sl5, rfl, (set_back (((rfl : _ = _).trans hl.symm).trans hl3.symm) (set_len (((rfl : _ = _).trans hl.symm).trans hl3.symm)) hl3), f4⟩ q
end Go.Proofs.Ytajdpkinlnaidaa.Sh
end
section
set_option linter.unusedVariables false
set_option linter.unusedSimpArgs false
set_option maxRecDepth 100000
set_option maxHeartbeats 8000000
namespace Go.Proofs.Ytajdpkinlnaidaa.Sh
open Go.Sx
def juntoref02_Eval.A : Ann where
 loops := fun i => match i with
   | 12295 => [(7, .int .u64), (8, .int .u64), (13, .int .i64)]
   | _ => []
 plans := fun i => match i with
   | _ => .stop
def juntoref02_Through.A : Ann where
 loops := fun i => match i with
   | 12294 => [(5, .slice), (10, .int .i64)]
   | _ => []
 plans := fun i => match i with
   | 5 => .first 0 (.first 1 (.first 2 (.first 3 (.first 4 (.first 6 (.first 8 (.read 9 (.alt 5 [] (.alt 7 [] (.alt 10 [9] (.alt 11 [] (.first 12 (.done)) (.stop)) (.stop)) (.stop)) (.stop)))))))))
   | _ => .stop
def juntoref02_Through.W (p : Int) (lA : Option Addr) (ln lc : Nat) (H : Heap) (R : Value → Heap → Prop) : Prop :=
 LoopI (σ := (Option Addr × Nat × Nat) × Int) (fun κ => κ ((none, 0, 0), 0) H) fun s z H_ next =>
 cond (decide (s.2 < ((ln : Nat) : Int))) (∃ a : Addr, lA = some a ∧ 0 ≤ s.2 ∧ s.2 < ((ln : Nat) : Int) ∧ ∃ x0 : Int, ∃ x1 : Int, cellH H_ (a.add ((Int.toNat s.2) * 2)) = some (.int .u64 x0) ∧ cellH H_ ((a.add ((Int.toNat s.2) * 2)).add 1) = some (.int .u64 x1) ∧ NewH (H_.push (.cells #[.int .u64 0, .int .u64 0] 71 (0, 0))) fun H_2 =>
 MayWrite H_2 (Addr.mk H_.size 0 none) 2 ∧ NewH (setH (setH H_2 (Addr.mk H_.size 0 none) (.int .u64 x0)) (((Addr.mk H_.size 0 none)).add 1) (.int .u64 x1)) fun H_3 =>
 ∃ x : Int, cellH H_3 (((Addr.mk H_.size 0 none)).add 1) = some (.int .u64 x) ∧ CallH P N.juntoref02_Places [.slice lA ln lc] H_3 fun v H_4 =>
 ∃ (rA : Option Addr) (rn rc : Nat), v = .slice rA rn rc ∧ cellH H_4 (((Addr.mk H_.size 0 none)).add 1) = some (.int .u64 x) ∧ CallH P N.juntoref02_unit [.int .u64 p, .slice rA rn rc, .int .i64 s.2] H_4 fun v2 H_5 =>
 ∃ (rA2 : Option Addr) (rn2 rc2 : Nat), v2 = .slice rA2 rn2 rc2 ∧ cellH H_5 (((Addr.mk H_.size 0 none)).add 1) = some (.int .u64 x) ∧ CallH P N.juntoref02_Scale [.int .u64 p, .slice rA2 rn2 rc2, .int .u64 x] H_5 fun v3 H_6 =>
 ∃ (rA3 : Option Addr) (rn3 rc3 : Nat), v3 = .slice rA3 rn3 rc3 ∧ CallH P N.juntoref02_Add [.int .u64 p, .slice s.1.1 s.1.2.1 s.1.2.2, .slice rA3 rn3 rc3] H_6 fun v4 H_7 =>
 ∃ (rA4 : Option Addr) (rn4 rc4 : Nat), v4 = .slice rA4 rn4 rc4 ∧ next ((rA4, rn4, rc4), IntKind.i64.wrap (s.2 + 1)) H_7)
  (R (.slice s.1.1 s.1.2.1 s.1.2.2) H_)
theorem juntoref02_Through.ok (p : Int) (lA : Option Addr) (ln lc : Nat) (H : Heap) (R : Value → Heap → Prop) (h : juntoref02_Through.W p lA ln lc H R) : CallH P N.juntoref02_Through [.int .u64 p, .slice lA ln lc] H R :=
 okW Try.func50 (by kernel_rfl) Try.ntmps50 juntoref02_Through.A (by kernel_rfl) (by kernel_rfl) h
def juntoref02_Add.A : Ann where
 loops := fun i => match i with
   | 12294 => [(17, .int .i64)]
   | _ => []
 plans := fun i => match i with
   | _ => .stop
def juntoref02_Add.W (p : Int) (fA : Option Addr) (fn fc : Nat) (gA : Option Addr) (gn gc : Nat) (H : Heap) (R : Value → Heap → Prop) : Prop :=
 0 ≤ (if ((gn : Nat) : Int) > ((fn : Nat) : Int) then ((gn : Nat) : Int) else ((fn : Nat) : Int)) ∧ (if ((gn : Nat) : Int) > ((fn : Nat) : Int) then ((gn : Nat) : Int) else ((fn : Nat) : Int)) ≤ (if ((gn : Nat) : Int) > ((fn : Nat) : Int) then ((gn : Nat) : Int) else ((fn : Nat) : Int)) ∧ (if ((gn : Nat) : Int) > ((fn : Nat) : Int) then ((gn : Nat) : Int) else ((fn : Nat) : Int)) * 8 ≤ 2 ^ 48 ∧ (if ((gn : Nat) : Int) > ((fn : Nat) : Int) then ((gn : Nat) : Int) else ((fn : Nat) : Int)) < 2 ^ 62 ∧ NewH (H.push (.cells (repl (Int.toNat (if ((gn : Nat) : Int) > ((fn : Nat) : Int) then ((gn : Nat) : Int) else ((fn : Nat) : Int))) [.int .u64 0]).toArray 22 (0, 0))) fun H_ =>
 LoopI (σ := Int) (fun κ => κ 0 H_) fun s z H_2 next =>
 cond (decide (s < ((Int.toNat (if ((gn : Nat) : Int) > ((fn : Nat) : Int) then ((gn : Nat) : Int) else ((fn : Nat) : Int)) : Nat) : Int))) (CallH P N.juntoref02_at [.slice fA fn fc, .int .i64 s] H_2 fun v H_3 =>
 ∃ r : Int, v = .int .u64 r ∧ CallH P N.juntoref02_at [.slice gA gn gc, .int .i64 s] H_3 fun v2 H_4 =>
 ∃ r2 : Int, v2 = .int .u64 r2 ∧ CallH P N.juntoref01_Add [.int .u64 p, .int .u64 r, .int .u64 r2] H_4 fun v3 H_5 =>
 ∃ r3 : Int, v3 = .int .u64 r3 ∧ ∃ a : Addr, (some (Addr.mk H.size 0 none) : Option Addr) = some a ∧ 0 ≤ s ∧ s < ((Int.toNat (if ((gn : Nat) : Int) > ((fn : Nat) : Int) then ((gn : Nat) : Int) else ((fn : Nat) : Int)) : Nat) : Int) ∧ MayWrite H_5 (a.add (Int.toNat s)) 1 ∧ NewH (setH H_5 (a.add (Int.toNat s)) (.int .u64 r3)) fun H_6 =>
 next (IntKind.i64.wrap (s + 1)) H_6)
  (CallH P N.juntoref02_Trim [.slice (some (Addr.mk H.size 0 none)) (Int.toNat (if ((gn : Nat) : Int) > ((fn : Nat) : Int) then ((gn : Nat) : Int) else ((fn : Nat) : Int))) (Int.toNat (if ((gn : Nat) : Int) > ((fn : Nat) : Int) then ((gn : Nat) : Int) else ((fn : Nat) : Int)))] H_2 fun v4 H_7 =>
 ∃ (rA : Option Addr) (rn rc : Nat), v4 = .slice rA rn rc ∧ R (.slice rA rn rc) H_7)
theorem juntoref02_Add.ok (p : Int) (fA : Option Addr) (fn fc : Nat) (gA : Option Addr) (gn gc : Nat) (H : Heap) (R : Value → Heap → Prop) (h : juntoref02_Add.W p fA fn fc gA gn gc H R) : CallH P N.juntoref02_Add [.int .u64 p, .slice fA fn fc, .slice gA gn gc] H R :=
 okW Try.func71 (by kernel_rfl) Try.ntmps71 juntoref02_Add.A (by kernel_rfl) (by kernel_rfl) h
def juntoref02_Scale.A : Ann where
 loops := fun i => match i with
   | 12294 => [(14, .int .i64)]
   | _ => []
 plans := fun i => match i with
   | _ => .stop
def juntoref02_Scale.W (p : Int) (fA : Option Addr) (fn fc : Nat) (k : Int) (H : Heap) (R : Value → Heap → Prop) : Prop :=
 0 ≤ ((fn : Nat) : Int) ∧ ((fn : Nat) : Int) ≤ ((fn : Nat) : Int) ∧ ((fn : Nat) : Int) * 8 ≤ 2 ^ 48 ∧ ((fn : Nat) : Int) < 2 ^ 62 ∧ NewH (H.push (.cells (repl (Int.toNat ((fn : Nat) : Int)) [.int .u64 0]).toArray 22 (0, 0))) fun H_ =>
 LoopI (σ := Int) (fun κ => κ 0 H_) fun s z H_2 next =>
 cond (decide (s < ((fn : Nat) : Int))) (∃ a : Addr, fA = some a ∧ 0 ≤ s ∧ s < ((fn : Nat) : Int) ∧ ∃ x : Int, cellH H_2 (a.add (Int.toNat s)) = some (.int .u64 x) ∧ CallH P N.juntoref01_Mul [.int .u64 p, .int .u64 x, .int .u64 k] H_2 fun v H_3 =>
 ∃ r : Int, v = .int .u64 r ∧ ∃ a2 : Addr, (some (Addr.mk H.size 0 none) : Option Addr) = some a2 ∧ 0 ≤ s ∧ s < ((Int.toNat ((fn : Nat) : Int) : Nat) : Int) ∧ MayWrite H_3 (a2.add (Int.toNat s)) 1 ∧ NewH (setH H_3 (a2.add (Int.toNat s)) (.int .u64 r)) fun H_4 =>
 next (IntKind.i64.wrap (s + 1)) H_4)
  (CallH P N.juntoref02_Trim [.slice (some (Addr.mk H.size 0 none)) (Int.toNat ((fn : Nat) : Int)) (Int.toNat ((fn : Nat) : Int))] H_2 fun v2 H_5 =>
 ∃ (rA : Option Addr) (rn rc : Nat), v2 = .slice rA rn rc ∧ R (.slice rA rn rc) H_5)
theorem juntoref02_Scale.ok (p : Int) (fA : Option Addr) (fn fc : Nat) (k : Int) (H : Heap) (R : Value → Heap → Prop) (h : juntoref02_Scale.W p fA fn fc k H R) : CallH P N.juntoref02_Scale [.int .u64 p, .slice fA fn fc, .int .u64 k] H R :=
 okW Try.func72 (by kernel_rfl) Try.ntmps72 juntoref02_Scale.A (by kernel_rfl) (by kernel_rfl) h
def juntoref02_unit.A : Ann where
 loops := fun i => match i with
   | 12295 => [(7, .slice), (13, .int .i64)]
   | _ => []
 plans := fun i => match i with
   | 6 => .first 0 (.first 1 (.first 2 (.first 3 (.first 4 (.first 8 (.first 9 (.first 10 (.first 11 (.first 12 (.first 14 (.read 13 (.alt 5 [] (.alt 6 [] (.alt 7 [] (.alt 15 [13] (.alt 16 [] (.alt 17 [] (.first 18 (.done)) (.stop)) (.stop)) (.stop)) (.stop)) (.stop)) (.stop)))))))))))))
   | _ => .stop
def juntoref02_unit.W (p : Int) (xsA : Option Addr) (xsn xsc : Nat) (i : Int) (H : Heap) (R : Value → Heap → Prop) : Prop :=
 NewH (H.push (.cells #[.int .u64 1] 22 (0, 0))) fun H_ =>
 LoopI (σ := (Option Addr × Nat × Nat) × Int) (fun κ => κ (((some (Addr.mk H.size 0 none) : Option Addr), 1, 1), 0) H_) fun s z H_2 next =>
 cond (decide (s.2 < ((xsn : Nat) : Int))) (∃ a : Addr, xsA = some a ∧ 0 ≤ s.2 ∧ s.2 < ((xsn : Nat) : Int) ∧ ∃ x : Int, cellH H_2 (a.add (Int.toNat s.2)) = some (.int .u64 x) ∧ cond (s.2 != i) (∃ a2 : Addr, xsA = some a2 ∧ 0 ≤ i ∧ i < ((xsn : Nat) : Int) ∧ ∃ x2 : Int, cellH H_2 (a2.add (Int.toNat i)) = some (.int .u64 x2) ∧ CallH P N.juntoref01_Sub [.int .u64 p, .int .u64 0, .int .u64 x] H_2 fun v H_3 =>
 ∃ r : Int, v = .int .u64 r ∧ cellH H_3 (a2.add (Int.toNat i)) = some (.int .u64 x2) ∧ NewH (H_3.push (.cells #[.int .u64 r, .int .u64 1] 22 (0, 0))) fun H_4 =>
 cellH H_4 (a2.add (Int.toNat i)) = some (.int .u64 x2) ∧ CallH P N.juntoref02_Mul [.int .u64 p, .slice s.1.1 s.1.2.1 s.1.2.2, .slice (some (Addr.mk H_3.size 0 none)) 2 2] H_4 fun v2 H_5 =>
 ∃ (rA : Option Addr) (rn rc : Nat), v2 = .slice rA rn rc ∧ cellH H_5 (a2.add (Int.toNat i)) = some (.int .u64 x2) ∧ CallH P N.juntoref01_Sub [.int .u64 p, .int .u64 x2, .int .u64 x] H_5 fun v3 H_6 =>
 ∃ r2 : Int, v3 = .int .u64 r2 ∧ CallH P N.juntoref01_Inv [.int .u64 p, .int .u64 r2] H_6 fun v4 H_7 =>
 ∃ r3 : Int, v4 = .int .u64 r3 ∧ CallH P N.juntoref02_Scale [.int .u64 p, .slice rA rn rc, .int .u64 r3] H_7 fun v5 H_8 =>
 ∃ (rA2 : Option Addr) (rn2 rc2 : Nat), v5 = .slice rA2 rn2 rc2 ∧ next ((rA2, rn2, rc2), IntKind.i64.wrap (s.2 + 1)) H_8)
  (next ((s.1.1, s.1.2.1, s.1.2.2), IntKind.i64.wrap (s.2 + 1)) H_2))
  (R (.slice s.1.1 s.1.2.1 s.1.2.2) H_2)
theorem juntoref02_unit.ok (p : Int) (xsA : Option Addr) (xsn xsc : Nat) (i : Int) (H : Heap) (R : Value → Heap → Prop) (h : juntoref02_unit.W p xsA xsn xsc i H R) : CallH P N.juntoref02_unit [.int .u64 p, .slice xsA xsn xsc, .int .i64 i] H R :=
 okW Try.func73 (by kernel_rfl) Try.ntmps73 juntoref02_unit.A (by kernel_rfl) (by kernel_rfl) h
def juntoref02_Places.A : Ann where
 loops := fun i => match i with
   | 12294 => [(3, .slice), (8, .int .i64)]
   | _ => []
 plans := fun i => match i with
   | _ => .stop
def juntoref02_Places.W (lA : Option Addr) (ln lc : Nat) (H : Heap) (R : Value → Heap → Prop) : Prop :=
 LoopI (σ := (Option Addr × Nat × Nat) × Int) (fun κ => κ ((none, 0, 0), 0) H) fun s z H_ next =>
 cond (decide (s.2 < ((ln : Nat) : Int))) (∃ a : Addr, lA = some a ∧ 0 ≤ s.2 ∧ s.2 < ((ln : Nat) : Int) ∧ ∃ x0 : Int, ∃ x1 : Int, cellH H_ (a.add ((Int.toNat s.2) * 2)) = some (.int .u64 x0) ∧ cellH H_ ((a.add ((Int.toNat s.2) * 2)).add 1) = some (.int .u64 x1) ∧ NewH (H_.push (.cells #[.int .u64 0, .int .u64 0] 71 (0, 0))) fun H_2 =>
 MayWrite H_2 (Addr.mk H_.size 0 none) 2 ∧ NewH (setH (setH H_2 (Addr.mk H_.size 0 none) (.int .u64 x0)) (((Addr.mk H_.size 0 none)).add 1) (.int .u64 x1)) fun H_3 =>
 ∃ x : Int, cellH H_3 (Addr.mk H_.size 0 none) = some (.int .u64 x) ∧ NewH (H_3.push (.cells #[.int .u64 x] 22 (0, 0))) fun H_4 =>
 AppendV 22 1 8 [.int .u64 0] H_4 s.1.1 s.1.2.1 s.1.2.2 (some (Addr.mk H_3.size 0 none)) 1 fun vA vn vc H_5 =>
 next ((vA, vn, vc), IntKind.i64.wrap (s.2 + 1)) H_5)
  (R (.slice s.1.1 s.1.2.1 s.1.2.2) H_)
theorem juntoref02_Places.ok (lA : Option Addr) (ln lc : Nat) (H : Heap) (R : Value → Heap → Prop) (h : juntoref02_Places.W lA ln lc H R) : CallH P N.juntoref02_Places [.slice lA ln lc] H R :=
 okW Try.func74 (by kernel_rfl) Try.ntmps74 juntoref02_Places.A (by kernel_rfl) (by kernel_rfl) h
def juntoref02_at.A : Ann where
 loops := fun i => match i with
   | _ => []
 plans := fun i => match i with
   | _ => .stop
def juntoref02_at.W (fA : Option Addr) (fn fc : Nat) (i : Int) (H : Heap) (R : Value → Heap → Prop) : Prop :=
 cond (decide (i < ((fn : Nat) : Int))) (∃ a : Addr, fA = some a ∧ 0 ≤ i ∧ i < ((fn : Nat) : Int) ∧ ∃ x : Int, cellH H (a.add (Int.toNat i)) = some (.int .u64 x) ∧ R (.int .u64 x) H)
  (R (.int .u64 0) H)
theorem juntoref02_at.ok (fA : Option Addr) (fn fc : Nat) (i : Int) (H : Heap) (R : Value → Heap → Prop) (h : juntoref02_at.W fA fn fc i H R) : CallH P N.juntoref02_at [.slice fA fn fc, .int .i64 i] H R :=
 okW Try.func88 (by kernel_rfl) Try.ntmps88 juntoref02_at.A (by kernel_rfl) (by kernel_rfl) h
def juntoref02_Trim.A : Ann where
 loops := fun i => match i with
   | 8195 => [(3, .int .i64)]
   | _ => []
 plans := fun i => match i with
   | _ => .stop
def juntoref02_Trim.W (fA : Option Addr) (fn fc : Nat) (H : Heap) (R : Value → Heap → Prop) : Prop :=
 LoopI (σ := Int) (fun κ => κ ((fn : Nat) : Int) H) fun s z H_ next =>
 cond (decide (s > 0)) (∃ a : Addr, fA = some a ∧ 0 ≤ (IntKind.i64.wrap (s - 1)) ∧ (IntKind.i64.wrap (s - 1)) < ((fn : Nat) : Int) ∧ ∃ x : Int, cellH H_ (a.add (Int.toNat (IntKind.i64.wrap (s - 1)))) = some (.int .u64 x) ∧ cond (x == 0) (next (IntKind.i64.wrap (s - 1)) H_)
  (NewH (H_.push (.cells #[] 22 (0, 0))) fun H_2 =>
 0 ≤ s ∧ s ≤ ((fc : Nat) : Int) ∧ AppendV 22 1 8 [.int .u64 0] H_2 (some (Addr.mk H_.size 0 none)) 0 0 fA (Int.toNat s) fun vA vn vc H_3 =>
 R (.slice vA vn vc) H_3)) (NewH (H_.push (.cells #[] 22 (0, 0))) fun H_4 =>
 0 ≤ s ∧ s ≤ ((fc : Nat) : Int) ∧ AppendV 22 1 8 [.int .u64 0] H_4 (some (Addr.mk H_.size 0 none)) 0 0 fA (Int.toNat s) fun vA2 vn2 vc2 H_5 =>
 R (.slice vA2 vn2 vc2) H_5)
theorem juntoref02_Trim.ok (fA : Option Addr) (fn fc : Nat) (H : Heap) (R : Value → Heap → Prop) (h : juntoref02_Trim.W fA fn fc H R) : CallH P N.juntoref02_Trim [.slice fA fn fc] H R :=
 okW Try.func89 (by kernel_rfl) Try.ntmps89 juntoref02_Trim.A (by kernel_rfl) (by kernel_rfl) h
def juntoref02_Mul.A : Ann where
 loops := fun i => match i with
   | 12298 => [(18, .int .i64)]
   | 24585 => [(23, .int .i64)]
   | _ => []
 plans := fun i => match i with
   | 8 => .first 0 (.first 1 (.first 2 (.first 3 (.first 4 (.first 5 (.first 6 (.first 7 (.first 8 (.first 9 (.first 11 (.first 12 (.first 13 (.first 14 (.first 16 (.first 17 (.first 18 (.read 10 (.read 15 (.read 19 (.alt 20 [15, 19] (.alt 21 [10] (.first 22 (.alt 23 [] (.done) (.stop))) (.stop)) (.stop)))))))))))))))))))))
   | _ => .stop
def juntoref02_Mul.W (p : Int) (fA : Option Addr) (fn fc : Nat) (gA : Option Addr) (gn gc : Nat) (H : Heap) (R : Value → Heap → Prop) : Prop :=
 0 ≤ (IntKind.i64.wrap (((fn : Nat) : Int) + ((gn : Nat) : Int))) ∧ (IntKind.i64.wrap (((fn : Nat) : Int) + ((gn : Nat) : Int))) ≤ (IntKind.i64.wrap (((fn : Nat) : Int) + ((gn : Nat) : Int))) ∧ (IntKind.i64.wrap (((fn : Nat) : Int) + ((gn : Nat) : Int))) * 8 ≤ 2 ^ 48 ∧ (IntKind.i64.wrap (((fn : Nat) : Int) + ((gn : Nat) : Int))) < 2 ^ 62 ∧ NewH (H.push (.cells (repl (Int.toNat (IntKind.i64.wrap (((fn : Nat) : Int) + ((gn : Nat) : Int)))) [.int .u64 0]).toArray 22 (0, 0))) fun H_ =>
 LoopI (σ := Int) (fun κ => κ 0 H_) fun s z H_2 next =>
 cond (decide (s < ((fn : Nat) : Int))) (LoopI (σ := Int) (fun κ => κ 0 H_2) fun s2 z2 H_3 next2 =>
 cond (decide (s2 < ((gn : Nat) : Int))) (∃ a : Addr, (some (Addr.mk H.size 0 none) : Option Addr) = some a ∧ 0 ≤ (IntKind.i64.wrap (s + s2)) ∧ (IntKind.i64.wrap (s + s2)) < ((Int.toNat (IntKind.i64.wrap (((fn : Nat) : Int) + ((gn : Nat) : Int))) : Nat) : Int) ∧ ∃ a2 : Addr, fA = some a2 ∧ 0 ≤ s ∧ s < ((fn : Nat) : Int) ∧ ∃ a3 : Addr, gA = some a3 ∧ 0 ≤ s2 ∧ s2 < ((gn : Nat) : Int) ∧ ∃ x : Int, cellH H_3 (a.add (Int.toNat (IntKind.i64.wrap (s + s2)))) = some (.int .u64 x) ∧ ∃ x2 : Int, cellH H_3 (a2.add (Int.toNat s)) = some (.int .u64 x2) ∧ ∃ x3 : Int, cellH H_3 (a3.add (Int.toNat s2)) = some (.int .u64 x3) ∧ CallH P N.juntoref01_Mul [.int .u64 p, .int .u64 x2, .int .u64 x3] H_3 fun v H_4 =>
 ∃ r : Int, v = .int .u64 r ∧ cellH H_4 (a.add (Int.toNat (IntKind.i64.wrap (s + s2)))) = some (.int .u64 x) ∧ CallH P N.juntoref01_Add [.int .u64 p, .int .u64 x, .int .u64 r] H_4 fun v2 H_5 =>
 ∃ r2 : Int, v2 = .int .u64 r2 ∧ ∃ a4 : Addr, (some (Addr.mk H.size 0 none) : Option Addr) = some a4 ∧ 0 ≤ (IntKind.i64.wrap (s + s2)) ∧ (IntKind.i64.wrap (s + s2)) < ((Int.toNat (IntKind.i64.wrap (((fn : Nat) : Int) + ((gn : Nat) : Int))) : Nat) : Int) ∧ MayWrite H_5 (a4.add (Int.toNat (IntKind.i64.wrap (s + s2)))) 1 ∧ NewH (setH H_5 (a4.add (Int.toNat (IntKind.i64.wrap (s + s2)))) (.int .u64 r2)) fun H_6 =>
 next2 (IntKind.i64.wrap (s2 + 1)) H_6)
  (next (IntKind.i64.wrap (s + 1)) H_3))
  (CallH P N.juntoref02_Trim [.slice (some (Addr.mk H.size 0 none)) (Int.toNat (IntKind.i64.wrap (((fn : Nat) : Int) + ((gn : Nat) : Int)))) (Int.toNat (IntKind.i64.wrap (((fn : Nat) : Int) + ((gn : Nat) : Int))))] H_2 fun v3 H_7 =>
 ∃ (rA : Option Addr) (rn rc : Nat), v3 = .slice rA rn rc ∧ R (.slice rA rn rc) H_7)
theorem juntoref02_Mul.ok (p : Int) (fA : Option Addr) (fn fc : Nat) (gA : Option Addr) (gn gc : Nat) (H : Heap) (R : Value → Heap → Prop) (h : juntoref02_Mul.W p fA fn fc gA gn gc H R) : CallH P N.juntoref02_Mul [.int .u64 p, .slice fA fn fc, .slice gA gn gc] H R :=
 okW Try.func90 (by kernel_rfl) Try.ntmps90 juntoref02_Mul.A (by kernel_rfl) (by kernel_rfl) h
end Go.Proofs.Ytajdpkinlnaidaa.Sh
namespace Go.Proofs.Ytajdpkinlnaidaa.Sh
open Go.Sx Go.Lf
def juntoref02_Places.C (l : (List TPoint)) (K : (List Nat) → Prop) : Prop :=
 ∀ (Z : Nat → Prop) (H : Heap), ∀ (lA : Option Addr) (ln lc : Nat), ln = l.length → SlF TPoint.L Z H lA lc l → ∀ KK : Value → Heap → Prop,
   (∀ (Z' : Nat → Prop) (H' : Heap), Ext H H' → Old Z H Z' → ∀ (r0 : (List Nat)), ∀ (Y0 : Nat → Prop), (∀ i, Y0 i → H.size ≤ i ∧ ¬ Z' i) → ∀ (Ar0_0 : Option Addr) (nr0_0 cr0_0 : Nat), nr0_0 = r0.length → SlO (rdM u64L) 22 Z' Y0 H' Ar0_0 cr0_0 r0 → K r0 → KK (.slice Ar0_0 nr0_0 cr0_0) H') →
   CallH P N.juntoref02_Places [.slice lA ln lc] H KK
def juntoref02_Places.Q (l : (List TPoint)) (K : (List Nat) → Prop) : Prop :=
 LoopQ (τ := List Nat × Int) (([] : List Nat), 0) fun t nextQ =>
 cond (decide (t.2 < ((l.length : Nat) : Int))) (0 ≤ t.2 ∧ ∃ x : TPoint, l[Int.toNat t.2]? = some x ∧ AppOk 8 (t.1 ++ ([x.X] : List Nat)).length ∧ nextQ ((t.1 ++ ([x.X] : List Nat)), IntKind.i64.wrap (t.2 + 1)))
  (K t.1)
theorem juntoref02_Places.q {l : (List TPoint)} {K : (List Nat) → Prop} (q : juntoref02_Places.Q l K) : juntoref02_Places.C l K := by
 intro Z H lA ln lc hn f KK hk; cases hn; apply juntoref02_Places.ok; unfold juntoref02_Places.W; unfold juntoref02_Places.Q at q; obtain ⟨σ, hz, hσ⟩ := tags Z; have hs : Stp ([1, 2, 3] : List Nat) σ H σ H := Stp.refl _ _ _; replace f := f.wide hz; clear hz; have f2 := SlO.nil (rdM u64L) 22 (Zt σ) (Yt σ 1) H; refine LoopI.ofQ q (fun t_ s_ hp_ => ∃ σ_ A0_ n0_ c0_, Stp [1, 2, 3] σ H σ_ hp_ ∧ ((A0_, n0_, c0_), t_.2) = s_ ∧ n0_ = t_.1.length ∧ SlO (rdM u64L) 22 (Zt σ_) (Yt σ_ 1) hp_ A0_ c0_ t_.1) (fun h k => h _ _ k) ⟨_, _, _, _, Stp.refl _ _ _, rfl, rfl, f2⟩ ?_; rintro t _ _ H_ next nextQ ⟨xσ, A, n, c, st, rfl, rfl, f3⟩ q hnext; (try dsimp only at q ⊢); have sl0 := st; refine condJ (fun q => ?_) (fun q => ?_) q
 · replace hs := hs.trans st; exact hk (Zt xσ) _ (hs.ext hσ) (hs.old hσ) _ (Yt xσ 1) (hs.fresh hσ) _ _ _ rfl f3 q
 obtain ⟨h0, x, hx, q⟩ := q; replace f := f.step st; obtain ⟨a, ha, hi⟩ := f.addr h0 hx rfl; refine ⟨a, ha, hi.1, hi.2, ?_⟩; obtain ⟨cs, hr, hc⟩ := f.ldN (k := 2) rfl ha h0 hx; cases hr; have hc2 := hc 0 _ rfl; have hc3 := hc 1 _ rfl; refine ⟨_, _, hc2.val, hc3.val, ?_⟩; refine NewH.mk fun H_2 e => ?_; obtain ⟨xσ2, st2, b⟩ := BoxF.new xσ 2 e; refine ⟨b.mayF rfl, NewH.mk fun H_3 e2 => ?_⟩; obtain ⟨st3, b⟩ := b.wf2 rfl e2; refine ⟨_, b.cell0, ?_⟩; refine NewH.mk fun H_4 e3 => ?_; obtain ⟨xσ3, st4, f4⟩ := SlO.lit (E := u64L) xσ2 3 (xs := [x.X]) (l := [[_]]) e3 rfl (.cons rfl .nil) (show (1 : Nat) ≤ 17592186044416 by decide); obtain ⟨xσ5, st6, f4⟩ := SlO.freeze f4; obtain ⟨q2, q⟩ := q; replace f3 := f3.step (st2.then (st3.then (st4.then st6))); refine SlO.appF f3 f4 rfl rfl q2.l q2.r rfl rfl (fun A2 c2 H_5 xσ4 st5 f3_ => ?_); replace f3 := f3_; have f5 := f3; clear f3; replace sl0 := sl0.trans (st2.then (st3.then (st4.then (st6.then st5)))); exact hnext ((t.1 ++ ([x.X] : List Nat)), IntKind.i64.wrap (t.2 + 1)) _ _ ⟨_, _, _, _, sl0, rfl, rfl, f5⟩ q
def juntoref02_Trim.C (f : (List Nat)) (K : (List Nat) → Prop) : Prop :=
 ∀ (Z : Nat → Prop) (H : Heap), ∀ (fA : Option Addr) (fn fc : Nat), fn = f.length → SlF u64L Z H fA fc f → ∀ KK : Value → Heap → Prop,
   (∀ (Z' : Nat → Prop) (H' : Heap), Ext H H' → Old Z H Z' → ∀ (r0 : (List Nat)), ∀ (Y0 : Nat → Prop), (∀ i, Y0 i → H.size ≤ i ∧ ¬ Z' i) → ∀ (Ar0_0 : Option Addr) (nr0_0 cr0_0 : Nat), nr0_0 = r0.length → SlO (rdM u64L) 22 Z' Y0 H' Ar0_0 cr0_0 r0 → K r0 → KK (.slice Ar0_0 nr0_0 cr0_0) H') →
   CallH P N.juntoref02_Trim [.slice fA fn fc] H KK
def juntoref02_Trim.Q (f : (List Nat)) (K : (List Nat) → Prop) : Prop :=
 LoopQ (τ := Int) ((f.length : Nat) : Int) fun t nextQ =>
 cond (decide (t > 0)) (0 ≤ (IntKind.i64.wrap (t - 1)) ∧ ∃ x : Nat, f[Int.toNat (IntKind.i64.wrap (t - 1))]? = some x ∧ cond ((x : Int) == 0) (nextQ (IntKind.i64.wrap (t - 1)))
  (0 ≤ t ∧ t ≤ ((f.length : Nat) : Int) ∧ AppOk 8 ([] ++ (List.take (Int.toNat t) f)).length ∧ K (List.take (Int.toNat t) f)))
  (0 ≤ t ∧ t ≤ ((f.length : Nat) : Int) ∧ AppOk 8 ([] ++ (List.take (Int.toNat t) f)).length ∧ K (List.take (Int.toNat t) f))
theorem juntoref02_Trim.q {f : (List Nat)} {K : (List Nat) → Prop} (q : juntoref02_Trim.Q f K) : juntoref02_Trim.C f K := by
 intro Z H fA fn fc hn f2 KK hk; cases hn; apply juntoref02_Trim.ok; unfold juntoref02_Trim.W; unfold juntoref02_Trim.Q at q; obtain ⟨σ, hz, hσ⟩ := tags Z; have hs : Stp ([1, 2] : List Nat) σ H σ H := Stp.refl _ _ _; replace f2 := f2.wide hz; clear hz; refine LoopI.ofQ q (fun t_ s_ hp_ => ∃ σ_, Stp [] σ H σ_ hp_ ∧ t_ = s_) (fun h k => h _ _ k) ⟨_, Stp.refl _ _ _, rfl⟩ ?_; rintro t _ _ H_ next nextQ ⟨xσ, st, rfl⟩ q hnext; (try dsimp only at q ⊢); have sl0 := st; refine condJ (fun q => ?_) (fun q => ?_) q
 · refine NewH.mk fun H_4 e2 => ?_; obtain ⟨xσ4, st4, f6⟩ := SlO.lit (E := u64L) xσ 2 (xs := []) (l := []) e2 rfl .nil (show (0 : Nat) ≤ 17592186044416 by decide); obtain ⟨q5, q6, q⟩ := q; replace f2 := f2.step (st.then st4); have f7 := f2.upto (u := Int.toNat t) (upto_le rfl q6); refine ⟨q5, cap_le rfl f2.cap q6, ?_⟩; obtain ⟨q7, q⟩ := q; refine SlO.appF f6 f7 rfl rfl q7.l q7.r rfl (take_len rfl q6) (fun A2 c2 H_5 xσ5 st5 f6_ => ?_); replace f6 := f6_; have f8 := SlO.nilapp f6; clear f6; replace hs := hs.trans (st.then (st4.then st5)); exact hk (Zt xσ5) _ (hs.ext hσ) (hs.old hσ) _ (Yt xσ5 2) (hs.fresh hσ) _ _ _ rfl f8 q
 obtain ⟨h0, x, hx, q⟩ := q; replace f2 := f2.step st; obtain ⟨a, ha, hi⟩ := f2.addr h0 hx rfl; refine ⟨a, ha, hi.1, hi.2, ?_⟩; have hc := f2.ldu ha h0 hx; refine ⟨_, hc.val, ?_⟩; refine condI (fun q => ?_) (fun q => ?_) q
 · exact hnext (IntKind.i64.wrap (t - 1)) _ _ ⟨_, sl0, rfl⟩ q
 refine NewH.mk fun H_2 e => ?_; obtain ⟨xσ2, st2, f3⟩ := SlO.lit (E := u64L) xσ 1 (xs := []) (l := []) e rfl .nil (show (0 : Nat) ≤ 17592186044416 by decide); obtain ⟨q2, q3, q⟩ := q; replace f2 := f2.step st2; have f4 := f2.upto (u := Int.toNat t) (upto_le rfl q3); refine ⟨q2, cap_le rfl f2.cap q3, ?_⟩; obtain ⟨q4, q⟩ := q; refine SlO.appF f3 f4 rfl rfl q4.l q4.r rfl (take_len rfl q3) (fun A c H_3 xσ3 st3 f3_ => ?_); replace f3 := f3_; have f5 := SlO.nilapp f3; clear f3; replace hs := hs.trans (st.then (st2.then st3)); exact hk (Zt xσ3) _ (hs.ext hσ) (hs.old hσ) _ (Yt xσ3 1) (hs.fresh hσ) _ _ _ rfl f5 q
def juntoref02_Mul.C (p : Nat) (f : (List Nat)) (g : (List Nat)) (K : (List Nat) → Prop) : Prop :=
 ∀ (Z : Nat → Prop) (H : Heap), ∀ (pv : Int), pv = (p : Int) → ∀ (fA : Option Addr) (fn fc : Nat), fn = f.length → SlF u64L Z H fA fc f → ∀ (gA : Option Addr) (gn gc : Nat), gn = g.length → SlF u64L Z H gA gc g → ∀ KK : Value → Heap → Prop,
   (∀ (Z' : Nat → Prop) (H' : Heap), Ext H H' → Old Z H Z' → ∀ (r0 : (List Nat)), ∀ (Y0 : Nat → Prop), (∀ i, Y0 i → H.size ≤ i ∧ ¬ Z' i) → ∀ (Ar0_0 : Option Addr) (nr0_0 cr0_0 : Nat), nr0_0 = r0.length → SlO (rdM u64L) 22 Z' Y0 H' Ar0_0 cr0_0 r0 → K r0 → KK (.slice Ar0_0 nr0_0 cr0_0) H') →
   CallH P N.juntoref02_Mul [.int .u64 pv, .slice fA fn fc, .slice gA gn gc] H KK
def juntoref02_Mul.Q (p : Nat) (f : (List Nat)) (g : (List Nat)) (K : (List Nat) → Prop) : Prop :=
 MakeOk 8 (IntKind.i64.wrap (((f.length : Nat) : Int) + ((g.length : Nat) : Int))) ∧ LoopQ (τ := Int × List Nat) (0, (List.replicate (Int.toNat (IntKind.i64.wrap (((f.length : Nat) : Int) + ((g.length : Nat) : Int)))) 0)) fun t nextQ =>
 cond (decide (t.1 < ((f.length : Nat) : Int))) (LoopQ (τ := Int × List Nat) (0, t.2) fun t2 nextQ2 =>
 cond (decide (t2.1 < ((g.length : Nat) : Int))) (0 ≤ (IntKind.i64.wrap (t.1 + t2.1)) ∧ (IntKind.i64.wrap (t.1 + t2.1)) < ((Int.toNat (IntKind.i64.wrap (((f.length : Nat) : Int) + ((g.length : Nat) : Int))) : Nat) : Int) ∧ 0 ≤ t.1 ∧ ∃ x : Nat, f[Int.toNat t.1]? = some x ∧ 0 ≤ t2.1 ∧ ∃ x2 : Nat, g[Int.toNat t2.1]? = some x2 ∧ ∃ x3 : Nat, t2.2[Int.toNat (IntKind.i64.wrap (t.1 + t2.1))]? = some x3 ∧ juntoref01_Mul.C p x x2 (fun (x4 : Nat) =>
 juntoref01_Add.C p x3 x4 (fun (x5 : Nat) =>
 0 ≤ (IntKind.i64.wrap (t.1 + t2.1)) ∧ (IntKind.i64.wrap (t.1 + t2.1)) < ((Int.toNat (IntKind.i64.wrap (((f.length : Nat) : Int) + ((g.length : Nat) : Int))) : Nat) : Int) ∧ nextQ2 (IntKind.i64.wrap (t2.1 + 1), (List.set t2.2 (Int.toNat (IntKind.i64.wrap (t.1 + t2.1))) x5)))))
  (nextQ (IntKind.i64.wrap (t.1 + 1), t2.2)))
  (juntoref02_Trim.C t.2 (fun (x6 : (List Nat)) =>
 K x6))
theorem juntoref02_Mul.q {p : Nat} {f : (List Nat)} {g : (List Nat)} {K : (List Nat) → Prop} (q : juntoref02_Mul.Q p f g K) : juntoref02_Mul.C p f g K := by
 intro Z H pv he fA fn fc hn f2 gA gn gc hn2 f3 KK hk; cases he; cases hn; cases hn2; apply juntoref02_Mul.ok; unfold juntoref02_Mul.W; unfold juntoref02_Mul.Q at q; obtain ⟨σ, hz, hσ⟩ := tags Z; have hs : Stp ([1, 2] : List Nat) σ H σ H := Stp.refl _ _ _; replace f2 := f2.wide hz; replace f3 := f3.wide hz; clear hz; obtain ⟨q2, q⟩ := q; refine ⟨q2.1, Int.le_refl _, q2.w1, q2.w2, NewH.mk fun H_ e => ?_⟩; obtain ⟨xσ, st, f4⟩ := SlO.made (O := (rdM u64L)) σ 1 e (u64_zero) q2.len; refine LoopI.ofQ q (fun t_ s_ hp_ => ∃ σ_, Stp [1] xσ H_ σ_ hp_ ∧ t_.1 = s_ ∧ t_.2.length = (List.replicate (Int.toNat (IntKind.i64.wrap (((f.length : Nat) : Int) + ((g.length : Nat) : Int)))) 0).length ∧ SlO (rdM u64L) 22 (Zt σ_) (Yt σ_ 1) hp_ (some (Addr.mk H.size 0 none)) (Int.toNat (IntKind.i64.wrap (((f.length : Nat) : Int) + ((g.length : Nat) : Int)))) t_.2) (fun h k => h _ _ k) ⟨_, Stp.refl _ _ _, rfl, rfl, f4⟩ ?_; rintro t _ _ H_2 next nextQ ⟨xσ2, st2, rfl, hl, f4⟩ q hnext; (try dsimp only at q ⊢); have sl3 := st2; refine condJ (fun q => ?_) (fun q => ?_) q
 · refine q (fun i => xσ2 i = 0 ∨ xσ2 i = 1) H_2 _ _ _ ((rl_len _ _).trans hl.symm) (f4.read (fun i h => .inl h) (fun i h => .inr (h))) _ (fun Z4 H_7 hE3 hO3 x6 Y hY A n c hn3 f5 q => ?_); obtain ⟨xσ6, st7, fy⟩ := callB1 hE3 hO3 xσ2 2 hY; replace f5 := (SlO.anyZ (Z' := Zt xσ6) u64_flatL f5).keep (Fr.refl _ _) fy; cases hn3; refine ⟨_, _, _, rfl, ?_⟩; replace hs := hs.trans (st.then (st2.then st7)); exact hk (Zt xσ6) _ (hs.ext hσ) (hs.old hσ) _ (Yt xσ6 2) (hs.fresh hσ) _ _ _ rfl f5 q
 refine LoopI.ofQ q (fun t_ s_ hp_ => ∃ σ_, Stp [1] xσ2 H_2 σ_ hp_ ∧ t_.1 = s_ ∧ t_.2.length = t.2.length ∧ SlO (rdM u64L) 22 (Zt σ_) (Yt σ_ 1) hp_ (some (Addr.mk H.size 0 none)) (Int.toNat (IntKind.i64.wrap (((f.length : Nat) : Int) + ((g.length : Nat) : Int)))) t_.2) (fun h k => h _ _ k) ⟨_, Stp.refl _ _ _, rfl, rfl, f4⟩ ?_; rintro t2 _ _ H_3 next2 nextQ2 ⟨xσ3, st3, rfl, hl2, f4⟩ q hnext2; (try dsimp only at q ⊢); have sl5 := st3; refine condJ (fun q => ?_) (fun q => ?_) q
 · replace sl3 := sl3.trans st3; exact hnext (IntKind.i64.wrap (t.1 + 1), t2.2) _ _ ⟨_, sl3, rfl, (set_back ((rl_len _ _).trans hl.symm) (((rl_len _ _).trans hl.symm).trans hl2.symm) hl), f4⟩ q
 obtain ⟨h0, hi2, q⟩ := q; obtain ⟨a, ha, hi⟩ := f4.addr h0 (((rl_len _ _).trans hl.symm).trans hl2.symm) hi2; refine ⟨a, ha, hi.1, hi.2, ?_⟩; obtain ⟨h02, x, hx, q⟩ := q; replace f2 := f2.step (st.then (st2.then st3)); obtain ⟨a2, ha2, hi3⟩ := f2.addr h02 hx rfl; refine ⟨a2, ha2, hi3.1, hi3.2, ?_⟩; obtain ⟨h03, x2, hx2, q⟩ := q; replace f3 := f3.step (st.then (st2.then st3)); obtain ⟨a3, ha3, hi4⟩ := f3.addr h03 hx2 rfl; refine ⟨a3, ha3, hi4.1, hi4.2, ?_⟩; obtain ⟨x3, hx3, q⟩ := q; have hc := f4.ldu ha h0 hx3; refine ⟨_, hc.val, ?_⟩; have hc2 := f2.ldu ha2 h02 hx; refine ⟨_, hc2.val, ?_⟩; have hc3 := f3.ldu ha3 h03 hx2; refine ⟨_, hc3.val, ?_⟩; refine q (Zt xσ3) H_3 _ rfl _ rfl _ rfl _ (fun Z2 H_4 hE hO x4 v he2 q => ?_); obtain ⟨xσ4, st4⟩ := call0 hE xσ3; cases he2; refine ⟨_, rfl, ?_⟩; replace hc := hc.step st4; refine ⟨hc.val, ?_⟩; refine q (Zt xσ4) H_4 _ rfl _ rfl _ rfl _ (fun Z3 H_5 hE2 hO2 x5 v2 he3 q => ?_); obtain ⟨xσ5, st5⟩ := call0 hE2 xσ4; cases he3; refine ⟨_, rfl, ?_⟩; obtain ⟨h04, hi6, q⟩ := q; replace f4 := f4.step (st4.then st5); obtain ⟨a4, ha4, hi5⟩ := f4.addr h04 (((rl_len _ _).trans hl.symm).trans hl2.symm) hi6; refine ⟨a4, ha4, hi5.1, hi5.2, ?_⟩; have w := fun v hr => SlO.set1 (v := v) (y := x5) f4 rfl ha4 h04 (lt_of_n (((rl_len _ _).trans hl.symm).trans hl2.symm) hi6) hr; refine ⟨(w _ rfl).1, NewH.mk fun H_6 e2 => ?_⟩; obtain ⟨st6, f4⟩ := (w _ rfl).2 H_6 e2; replace sl5 := sl5.trans (st4.then (st5.then st6)); exact hnext2 (IntKind.i64.wrap (t2.1 + 1), (List.set t2.2 (Int.toNat (IntKind.i64.wrap (t.1 + t2.1))) x5)) _ _ ⟨_, sl5, rfl, (set_back (((rl_len _ _).trans hl.symm).trans hl2.symm) (set_len (((rl_len _ _).trans hl.symm).trans hl2.symm)) hl2), f4⟩ q
def juntoref02_Scale.C (p : Nat) (f : (List Nat)) (k : Nat) (K : (List Nat) → Prop) : Prop :=
 ∀ (Z : Nat → Prop) (H : Heap), ∀ (pv : Int), pv = (p : Int) → ∀ (fA : Option Addr) (fn fc : Nat), fn = f.length → SlF u64L Z H fA fc f → ∀ (kv : Int), kv = (k : Int) → ∀ KK : Value → Heap → Prop,
   (∀ (Z' : Nat → Prop) (H' : Heap), Ext H H' → Old Z H Z' → ∀ (r0 : (List Nat)), ∀ (Y0 : Nat → Prop), (∀ i, Y0 i → H.size ≤ i ∧ ¬ Z' i) → ∀ (Ar0_0 : Option Addr) (nr0_0 cr0_0 : Nat), nr0_0 = r0.length → SlO (rdM u64L) 22 Z' Y0 H' Ar0_0 cr0_0 r0 → K r0 → KK (.slice Ar0_0 nr0_0 cr0_0) H') →
   CallH P N.juntoref02_Scale [.int .u64 pv, .slice fA fn fc, .int .u64 kv] H KK
def juntoref02_Scale.Q (p : Nat) (f : (List Nat)) (k : Nat) (K : (List Nat) → Prop) : Prop :=
 MakeOk 8 ((f.length : Nat) : Int) ∧ LoopQ (τ := Int × List Nat) (0, (List.replicate f.length 0)) fun t nextQ =>
 cond (decide (t.1 < ((f.length : Nat) : Int))) (0 ≤ t.1 ∧ ∃ x : Nat, f[Int.toNat t.1]? = some x ∧ juntoref01_Mul.C p x k (fun (x2 : Nat) =>
 0 ≤ t.1 ∧ t.1 < ((f.length : Nat) : Int) ∧ nextQ (IntKind.i64.wrap (t.1 + 1), (List.set t.2 (Int.toNat t.1) x2))))
  (juntoref02_Trim.C t.2 (fun (x3 : (List Nat)) =>
 K x3))
theorem juntoref02_Scale.q {p : Nat} {f : (List Nat)} {k : Nat} {K : (List Nat) → Prop} (q : juntoref02_Scale.Q p f k K) : juntoref02_Scale.C p f k K := by
 intro Z H pv he fA fn fc hn f2 kv he2 KK hk; cases he; cases hn; cases he2; apply juntoref02_Scale.ok; unfold juntoref02_Scale.W; unfold juntoref02_Scale.Q at q; obtain ⟨σ, hz, hσ⟩ := tags Z; have hs : Stp ([1, 2] : List Nat) σ H σ H := Stp.refl _ _ _; replace f2 := f2.wide hz; clear hz; obtain ⟨q2, q⟩ := q; refine ⟨q2.1, Int.le_refl _, q2.w1, q2.w2, NewH.mk fun H_ e => ?_⟩; obtain ⟨xσ, st, f3⟩ := SlO.made (O := (rdM u64L)) σ 1 e (u64_zero) q2.len; refine LoopI.ofQ q (fun t_ s_ hp_ => ∃ σ_, Stp [1] xσ H_ σ_ hp_ ∧ t_.1 = s_ ∧ t_.2.length = (List.replicate f.length 0).length ∧ SlO (rdM u64L) 22 (Zt σ_) (Yt σ_ 1) hp_ (some (Addr.mk H.size 0 none)) f.length t_.2) (fun h k => h _ _ k) ⟨_, Stp.refl _ _ _, rfl, rfl, f3⟩ ?_; rintro t _ _ H_2 next nextQ ⟨xσ2, st2, rfl, hl, f3⟩ q hnext; (try dsimp only at q ⊢); have sl1 := st2; refine condJ (fun q => ?_) (fun q => ?_) q
 · refine q (fun i => xσ2 i = 0 ∨ xσ2 i = 1) H_2 _ _ _ ((rl_len _ _).trans hl.symm) (f3.read (fun i h => .inl h) (fun i h => .inr (h))) _ (fun Z3 H_5 hE2 hO2 x3 Y hY A n c hn2 f4 q => ?_); obtain ⟨xσ4, st5, fy⟩ := callB1 hE2 hO2 xσ2 2 hY; replace f4 := (SlO.anyZ (Z' := Zt xσ4) u64_flatL f4).keep (Fr.refl _ _) fy; cases hn2; refine ⟨_, _, _, rfl, ?_⟩; replace hs := hs.trans (st.then (st2.then st5)); exact hk (Zt xσ4) _ (hs.ext hσ) (hs.old hσ) _ (Yt xσ4 2) (hs.fresh hσ) _ _ _ rfl f4 q
 obtain ⟨h0, x, hx, q⟩ := q; replace f2 := f2.step (st.then st2); obtain ⟨a, ha, hi⟩ := f2.addr h0 hx rfl; refine ⟨a, ha, hi.1, hi.2, ?_⟩; have hc := f2.ldu ha h0 hx; refine ⟨_, hc.val, ?_⟩; refine q (Zt xσ2) H_2 _ rfl _ rfl _ rfl _ (fun Z2 H_3 hE hO x2 v he3 q => ?_); obtain ⟨xσ3, st3⟩ := call0 hE xσ2; cases he3; refine ⟨_, rfl, ?_⟩; obtain ⟨h02, hi3, q⟩ := q; replace f3 := f3.step st3; obtain ⟨a2, ha2, hi2⟩ := f3.addr h02 ((rl_len _ _).trans hl.symm) hi3; refine ⟨a2, ha2, hi2.1, hi2.2, ?_⟩; have w := fun v hr => SlO.set1 (v := v) (y := x2) f3 rfl ha2 h02 (lt_of_n ((rl_len _ _).trans hl.symm) hi3) hr; refine ⟨(w _ rfl).1, NewH.mk fun H_4 e2 => ?_⟩; obtain ⟨st4, f3⟩ := (w _ rfl).2 H_4 e2; replace sl1 := sl1.trans (st3.then st4); exact hnext (IntKind.i64.wrap (t.1 + 1), (List.set t.2 (Int.toNat t.1) x2)) _ _ ⟨_, sl1, rfl, (set_back ((rl_len _ _).trans hl.symm) (set_len ((rl_len _ _).trans hl.symm)) hl), f3⟩ q
def juntoref02_unit.C (p : Nat) (xs : (List Nat)) (i : Int) (K : (List Nat) → Prop) : Prop :=
 ∀ (Z : Nat → Prop) (H : Heap), ∀ (pv : Int), pv = (p : Int) → ∀ (xsA : Option Addr) (xsn xsc : Nat), xsn = xs.length → SlF u64L Z H xsA xsc xs → ∀ KK : Value → Heap → Prop,
   (∀ (Z' : Nat → Prop) (H' : Heap), Ext H H' → Old Z H Z' → ∀ (r0 : (List Nat)), ∀ (Y0 : Nat → Prop), (∀ i, Y0 i → H.size ≤ i ∧ ¬ Z' i) → ∀ (Ar0_0 : Option Addr) (nr0_0 cr0_0 : Nat), nr0_0 = r0.length → SlO (rdM u64L) 22 Z' Y0 H' Ar0_0 cr0_0 r0 → K r0 → KK (.slice Ar0_0 nr0_0 cr0_0) H') →
   CallH P N.juntoref02_unit [.int .u64 pv, .slice xsA xsn xsc, .int .i64 i] H KK
def juntoref02_unit.Q (p : Nat) (xs : (List Nat)) (i : Int) (K : (List Nat) → Prop) : Prop :=
 LoopQ (τ := List Nat × Int) ([1], 0) fun t nextQ =>
 cond (decide (t.2 < ((xs.length : Nat) : Int))) (0 ≤ t.2 ∧ ∃ x : Nat, xs[Int.toNat t.2]? = some x ∧ cond (t.2 != i) (0 ≤ i ∧ ∃ x2 : Nat, xs[Int.toNat i]? = some x2 ∧ juntoref01_Sub.C p 0 x (fun (x3 : Nat) =>
 juntoref02_Mul.C p t.1 ([x3, 1]) (fun (x4 : (List Nat)) =>
 juntoref01_Sub.C p x2 x (fun (x5 : Nat) =>
 juntoref01_Inv.C p x5 (fun (x6 : Nat) =>
 juntoref02_Scale.C p x4 x6 (fun (x7 : (List Nat)) =>
 nextQ (x7, IntKind.i64.wrap (t.2 + 1))))))))
  (nextQ (t.1, IntKind.i64.wrap (t.2 + 1))))
  (K t.1)
theorem juntoref02_unit.q {p : Nat} {xs : (List Nat)} {i : Int} {K : (List Nat) → Prop} (q : juntoref02_unit.Q p xs i K) : juntoref02_unit.C p xs i K := by
 intro Z H pv he xsA xsn xsc hn f KK hk; cases he; cases hn; apply juntoref02_unit.ok; unfold juntoref02_unit.W; unfold juntoref02_unit.Q at q; obtain ⟨σ, hz, hσ⟩ := tags Z; have hs : Stp ([1, 2, 3, 4] : List Nat) σ H σ H := Stp.refl _ _ _; replace f := f.wide hz; clear hz; refine NewH.mk fun H_ e => ?_; obtain ⟨xσ, st, f2⟩ := SlO.lit (E := u64L) σ 1 (xs := [1]) (l := [[_]]) e rfl (.cons rfl .nil) (show (1 : Nat) ≤ 17592186044416 by decide); refine LoopI.ofQ q (fun t_ s_ hp_ => ∃ σ_ A0_ n0_ c0_, Stp [2, 3, 4] xσ H_ σ_ hp_ ∧ ((A0_, n0_, c0_), t_.2) = s_ ∧ n0_ = t_.1.length ∧ SlO (rdM u64L) 22 (Zt σ_) (Yt σ_ 1) hp_ A0_ c0_ t_.1) (fun h k => h _ _ k) ⟨_, _, _, _, Stp.refl _ _ _, rfl, rfl, f2⟩ ?_; rintro t _ _ H_2 next nextQ ⟨xσ2, A, n, c, st2, rfl, rfl, f3⟩ q hnext; (try dsimp only at q ⊢); have sl0 := st2; refine condJ (fun q => ?_) (fun q => ?_) q
 · replace hs := hs.trans (st.then st2); exact hk (Zt xσ2) _ (hs.ext hσ) (hs.old hσ) _ (Yt xσ2 1) (hs.fresh hσ) _ _ _ rfl f3 q
 obtain ⟨h0, x, hx, q⟩ := q; replace f := f.step (st.then st2); obtain ⟨a, ha, hi⟩ := f.addr h0 hx rfl; refine ⟨a, ha, hi.1, hi.2, ?_⟩; have hc := f.ldu ha h0 hx; refine ⟨_, hc.val, ?_⟩; refine condJ (fun q => ?_) (fun q => ?_) q
 · exact hnext (t.1, IntKind.i64.wrap (t.2 + 1)) _ _ ⟨_, _, _, _, sl0, rfl, rfl, f3⟩ q
 obtain ⟨h02, x2, hx2, q⟩ := q; obtain ⟨a2, ha2, hi2⟩ := f.addr h02 hx2 rfl; refine ⟨a2, ha2, hi2.1, hi2.2, ?_⟩; have hc2 := f.ldu ha2 h02 hx2; refine ⟨_, hc2.val, ?_⟩; refine q (Zt xσ2) H_2 _ rfl _ rfl _ rfl _ (fun Z2 H_3 hE hO x3 v he2 q => ?_); obtain ⟨xσ3, st3⟩ := call0 hE xσ2; cases he2; refine ⟨_, rfl, ?_⟩; replace hc2 := hc2.step st3; refine ⟨hc2.val, ?_⟩; refine NewH.mk fun H_4 e2 => ?_; obtain ⟨xσ4, st4, f4⟩ := SlO.lit (E := u64L) xσ3 2 (xs := [x3, 1]) (l := [[_], [_]]) e2 rfl (.cons rfl (.cons rfl .nil)) (show (2 : Nat) ≤ 17592186044416 by decide); replace hc2 := hc2.step st4; refine ⟨hc2.val, ?_⟩; replace f3 := f3.step (st3.then st4); refine q (fun i => xσ4 i = 0 ∨ xσ4 i = 1 ∨ xσ4 i = 2) H_4 _ rfl _ _ _ rfl (f3.read (fun i h => .inl h) (fun i h => .inr (.inl h))) _ _ _ rfl (f4.read (fun i h => .inl h) (fun i h => .inr (.inr (h)))) _ (fun Z3 H_5 hE2 hO2 x4 Y hY A2 n2 c2 hn2 f5 q => ?_); obtain ⟨xσ5, st5, fy⟩ := callB1 hE2 hO2 xσ4 3 hY; replace f5 := (SlO.anyZ (Z' := Zt xσ5) u64_flatL f5).keep (Fr.refl _ _) fy; cases hn2; refine ⟨_, _, _, rfl, ?_⟩; replace hc2 := hc2.step st5; refine ⟨hc2.val, ?_⟩; refine q (Zt xσ5) H_5 _ rfl _ rfl _ rfl _ (fun Z4 H_6 hE3 hO3 x5 v2 he3 q => ?_); obtain ⟨xσ6, st6⟩ := call0 hE3 xσ5; cases he3; refine ⟨_, rfl, ?_⟩; refine q (Zt xσ6) H_6 _ rfl _ rfl _ (fun Z5 H_7 hE4 hO4 x6 v3 he4 q => ?_); obtain ⟨xσ7, st7⟩ := call0 hE4 xσ6; cases he4; refine ⟨_, rfl, ?_⟩; replace f5 := f5.step (st6.then st7); refine q (fun i => xσ7 i = 0 ∨ xσ7 i = 3) H_7 _ rfl _ _ _ rfl (f5.read (fun i h => .inl h) (fun i h => .inr (h))) _ rfl _ (fun Z6 H_8 hE5 hO5 x7 Y2 hY2 A3 n3 c3 hn3 f6 q => ?_); obtain ⟨xσ8, st8, fy2⟩ := callB1 hE5 hO5 xσ7 4 hY2; replace f6 := (SlO.anyZ (Z' := Zt xσ8) u64_flatL f6).keep (Fr.refl _ _) fy2; cases hn3; refine ⟨_, _, _, rfl, ?_⟩; obtain ⟨xσ9, st9, f6⟩ := SlO.retag f6 1; replace sl0 := sl0.trans (st3.then (st4.then (st5.then (st6.then (st7.then (st8.then st9)))))); exact hnext (x7, IntKind.i64.wrap (t.2 + 1)) _ _ ⟨_, _, _, _, sl0, rfl, rfl, f6⟩ q
def juntoref02_at.C (f : (List Nat)) (i : Int) (K : Nat → Prop) : Prop :=
 ∀ (Z : Nat → Prop) (H : Heap), ∀ (fA : Option Addr) (fn fc : Nat), fn = f.length → SlF u64L Z H fA fc f → ∀ KK : Value → Heap → Prop,
   (∀ (Z' : Nat → Prop) (H' : Heap), Ext H H' → Old Z H Z' → ∀ (r0 : Nat), ∀ (r0v0 : Int), r0v0 = (r0 : Int) → K r0 → KK (.int .u64 r0v0) H') →
   CallH P N.juntoref02_at [.slice fA fn fc, .int .i64 i] H KK
def juntoref02_at.Q (f : (List Nat)) (i : Int) (K : Nat → Prop) : Prop :=
 cond (decide (i < ((f.length : Nat) : Int))) (0 ≤ i ∧ ∃ x : Nat, f[Int.toNat i]? = some x ∧ K x)
  (K 0)
theorem juntoref02_at.q {f : (List Nat)} {i : Int} {K : Nat → Prop} (q : juntoref02_at.Q f i K) : juntoref02_at.C f i K := by
 intro Z H fA fn fc hn f2 KK hk; cases hn; apply juntoref02_at.ok; unfold juntoref02_at.W; unfold juntoref02_at.Q at q; obtain ⟨σ, hz, hσ⟩ := tags Z; have hs : Stp ([] : List Nat) σ H σ H := Stp.refl _ _ _; replace f2 := f2.wide hz; clear hz; refine condJ (fun q => ?_) (fun q => ?_) q
 · exact hk (Zt σ) _ (hs.ext hσ) (hs.old hσ) _ _ rfl q
 obtain ⟨h0, x, hx, q⟩ := q; obtain ⟨a, ha, hi⟩ := f2.addr h0 hx rfl; refine ⟨a, ha, hi.1, hi.2, ?_⟩; have hc := f2.ldu ha h0 hx; refine ⟨_, hc.val, ?_⟩; exact hk (Zt σ) _ (hs.ext hσ) (hs.old hσ) _ _ rfl q
def juntoref02_Add.C (p : Nat) (f : (List Nat)) (g : (List Nat)) (K : (List Nat) → Prop) : Prop :=
 ∀ (Z : Nat → Prop) (H : Heap), ∀ (pv : Int), pv = (p : Int) → ∀ (fA : Option Addr) (fn fc : Nat), fn = f.length → SlF u64L Z H fA fc f → ∀ (gA : Option Addr) (gn gc : Nat), gn = g.length → SlF u64L Z H gA gc g → ∀ KK : Value → Heap → Prop,
   (∀ (Z' : Nat → Prop) (H' : Heap), Ext H H' → Old Z H Z' → ∀ (r0 : (List Nat)), ∀ (Y0 : Nat → Prop), (∀ i, Y0 i → H.size ≤ i ∧ ¬ Z' i) → ∀ (Ar0_0 : Option Addr) (nr0_0 cr0_0 : Nat), nr0_0 = r0.length → SlO (rdM u64L) 22 Z' Y0 H' Ar0_0 cr0_0 r0 → K r0 → KK (.slice Ar0_0 nr0_0 cr0_0) H') →
   CallH P N.juntoref02_Add [.int .u64 pv, .slice fA fn fc, .slice gA gn gc] H KK
def juntoref02_Add.Q (p : Nat) (f : (List Nat)) (g : (List Nat)) (K : (List Nat) → Prop) : Prop :=
 MakeOk 8 (if ((g.length : Nat) : Int) > ((f.length : Nat) : Int) then ((g.length : Nat) : Int) else ((f.length : Nat) : Int)) ∧ LoopQ (τ := Int × List Nat) (0, (List.replicate (Int.toNat (if ((g.length : Nat) : Int) > ((f.length : Nat) : Int) then ((g.length : Nat) : Int) else ((f.length : Nat) : Int))) 0)) fun t nextQ =>
 cond (decide (t.1 < ((Int.toNat (if ((g.length : Nat) : Int) > ((f.length : Nat) : Int) then ((g.length : Nat) : Int) else ((f.length : Nat) : Int)) : Nat) : Int))) (juntoref02_at.C f t.1 (fun (x : Nat) =>
 juntoref02_at.C g t.1 (fun (x2 : Nat) =>
 juntoref01_Add.C p x x2 (fun (x3 : Nat) =>
 0 ≤ t.1 ∧ t.1 < ((Int.toNat (if ((g.length : Nat) : Int) > ((f.length : Nat) : Int) then ((g.length : Nat) : Int) else ((f.length : Nat) : Int)) : Nat) : Int) ∧ nextQ (IntKind.i64.wrap (t.1 + 1), (List.set t.2 (Int.toNat t.1) x3))))))
  (juntoref02_Trim.C t.2 (fun (x4 : (List Nat)) =>
 K x4))
theorem juntoref02_Add.q {p : Nat} {f : (List Nat)} {g : (List Nat)} {K : (List Nat) → Prop} (q : juntoref02_Add.Q p f g K) : juntoref02_Add.C p f g K := by
 intro Z H pv he fA fn fc hn f2 gA gn gc hn2 f3 KK hk; cases he; cases hn; cases hn2; apply juntoref02_Add.ok; unfold juntoref02_Add.W; unfold juntoref02_Add.Q at q; obtain ⟨σ, hz, hσ⟩ := tags Z; have hs : Stp ([1, 2] : List Nat) σ H σ H := Stp.refl _ _ _; replace f2 := f2.wide hz; replace f3 := f3.wide hz; clear hz; obtain ⟨q2, q⟩ := q; refine ⟨q2.1, Int.le_refl _, q2.w1, q2.w2, NewH.mk fun H_ e => ?_⟩; obtain ⟨xσ, st, f4⟩ := SlO.made (O := (rdM u64L)) σ 1 e (u64_zero) q2.len; refine LoopI.ofQ q (fun t_ s_ hp_ => ∃ σ_, Stp [1] xσ H_ σ_ hp_ ∧ t_.1 = s_ ∧ t_.2.length = (List.replicate (Int.toNat (if ((g.length : Nat) : Int) > ((f.length : Nat) : Int) then ((g.length : Nat) : Int) else ((f.length : Nat) : Int))) 0).length ∧ SlO (rdM u64L) 22 (Zt σ_) (Yt σ_ 1) hp_ (some (Addr.mk H.size 0 none)) (Int.toNat (if ((g.length : Nat) : Int) > ((f.length : Nat) : Int) then ((g.length : Nat) : Int) else ((f.length : Nat) : Int))) t_.2) (fun h k => h _ _ k) ⟨_, Stp.refl _ _ _, rfl, rfl, f4⟩ ?_; rintro t _ _ H_2 next nextQ ⟨xσ2, st2, rfl, hl, f4⟩ q hnext; (try dsimp only at q ⊢); have sl1 := st2; refine condJ (fun q => ?_) (fun q => ?_) q
 · refine q (fun i => xσ2 i = 0 ∨ xσ2 i = 1) H_2 _ _ _ ((rl_len _ _).trans hl.symm) (f4.read (fun i h => .inl h) (fun i h => .inr (h))) _ (fun Z5 H_7 hE4 hO4 x4 Y hY A n c hn3 f5 q => ?_); obtain ⟨xσ6, st7, fy⟩ := callB1 hE4 hO4 xσ2 2 hY; replace f5 := (SlO.anyZ (Z' := Zt xσ6) u64_flatL f5).keep (Fr.refl _ _) fy; cases hn3; refine ⟨_, _, _, rfl, ?_⟩; replace hs := hs.trans (st.then (st2.then st7)); exact hk (Zt xσ6) _ (hs.ext hσ) (hs.old hσ) _ (Yt xσ6 2) (hs.fresh hσ) _ _ _ rfl f5 q
 replace f2 := f2.step (st.then st2); refine q (Zt xσ2) H_2 _ _ _ rfl f2 _ (fun Z2 H_3 hE hO x v he2 q => ?_); obtain ⟨xσ3, st3⟩ := call0 hE xσ2; cases he2; refine ⟨_, rfl, ?_⟩; replace f3 := f3.step (st.then (st2.then st3)); refine q (Zt xσ3) H_3 _ _ _ rfl f3 _ (fun Z3 H_4 hE2 hO2 x2 v2 he3 q => ?_); obtain ⟨xσ4, st4⟩ := call0 hE2 xσ3; cases he3; refine ⟨_, rfl, ?_⟩; refine q (Zt xσ4) H_4 _ rfl _ rfl _ rfl _ (fun Z4 H_5 hE3 hO3 x3 v3 he4 q => ?_); obtain ⟨xσ5, st5⟩ := call0 hE3 xσ4; cases he4; refine ⟨_, rfl, ?_⟩; obtain ⟨h0, hi2, q⟩ := q; replace f4 := f4.step (st3.then (st4.then st5)); obtain ⟨a, ha, hi⟩ := f4.addr h0 ((rl_len _ _).trans hl.symm) hi2; refine ⟨a, ha, hi.1, hi.2, ?_⟩; have w := fun v hr => SlO.set1 (v := v) (y := x3) f4 rfl ha h0 (lt_of_n ((rl_len _ _).trans hl.symm) hi2) hr; refine ⟨(w _ rfl).1, NewH.mk fun H_6 e2 => ?_⟩; obtain ⟨st6, f4⟩ := (w _ rfl).2 H_6 e2; replace sl1 := sl1.trans (st3.then (st4.then (st5.then st6))); exact hnext (IntKind.i64.wrap (t.1 + 1), (List.set t.2 (Int.toNat t.1) x3)) _ _ ⟨_, sl1, rfl, (set_back ((rl_len _ _).trans hl.symm) (set_len ((rl_len _ _).trans hl.symm)) hl), f4⟩ q
def juntoref02_Through.C (p : Nat) (l : (List TPoint)) (K : (List Nat) → Prop) : Prop :=
 ∀ (Z : Nat → Prop) (H : Heap), ∀ (pv : Int), pv = (p : Int) → ∀ (lA : Option Addr) (ln lc : Nat), ln = l.length → SlF TPoint.L Z H lA lc l → ∀ KK : Value → Heap → Prop,
   (∀ (Z' : Nat → Prop) (H' : Heap), Ext H H' → Old Z H Z' → ∀ (r0 : (List Nat)), ∀ (Y0 : Nat → Prop), (∀ i, Y0 i → H.size ≤ i ∧ ¬ Z' i) → ∀ (Ar0_0 : Option Addr) (nr0_0 cr0_0 : Nat), nr0_0 = r0.length → SlO (rdM u64L) 22 Z' Y0 H' Ar0_0 cr0_0 r0 → K r0 → KK (.slice Ar0_0 nr0_0 cr0_0) H') →
   CallH P N.juntoref02_Through [.int .u64 pv, .slice lA ln lc] H KK
def juntoref02_Through.Q (p : Nat) (l : (List TPoint)) (K : (List Nat) → Prop) : Prop :=
 LoopQ (τ := List Nat × Int) (([] : List Nat), 0) fun t nextQ =>
 cond (decide (t.2 < ((l.length : Nat) : Int))) (0 ≤ t.2 ∧ ∃ x : TPoint, l[Int.toNat t.2]? = some x ∧ juntoref02_Places.C l (fun (x2 : (List Nat)) =>
 juntoref02_unit.C p x2 t.2 (fun (x3 : (List Nat)) =>
 juntoref02_Scale.C p x3 x.Y (fun (x4 : (List Nat)) =>
 juntoref02_Add.C p t.1 x4 (fun (x5 : (List Nat)) =>
 nextQ (x5, IntKind.i64.wrap (t.2 + 1)))))))
  (K t.1)
theorem juntoref02_Through.q {p : Nat} {l : (List TPoint)} {K : (List Nat) → Prop} (q : juntoref02_Through.Q p l K) : juntoref02_Through.C p l K := by
 intro Z H pv he lA ln lc hn f KK hk; cases he; cases hn; apply juntoref02_Through.ok; unfold juntoref02_Through.W; unfold juntoref02_Through.Q at q; obtain ⟨σ, hz, hσ⟩ := tags Z; have hs : Stp ([1, 2, 3, 4, 5, 6] : List Nat) σ H σ H := Stp.refl _ _ _; replace f := f.wide hz; clear hz; have f2 := SlO.nil (rdM u64L) 22 (Zt σ) (Yt σ 1) H; refine LoopI.ofQ q (fun t_ s_ hp_ => ∃ σ_ A0_ n0_ c0_, Stp [2, 3, 4, 5, 6] σ H σ_ hp_ ∧ ((A0_, n0_, c0_), t_.2) = s_ ∧ n0_ = t_.1.length ∧ SlO (rdM u64L) 22 (Zt σ_) (Yt σ_ 1) hp_ A0_ c0_ t_.1) (fun h k => h _ _ k) ⟨_, _, _, _, Stp.refl _ _ _, rfl, rfl, f2⟩ ?_; rintro t _ _ H_ next nextQ ⟨xσ, A, n, c, st, rfl, rfl, f3⟩ q hnext; (try dsimp only at q ⊢); have sl0 := st; refine condJ (fun q => ?_) (fun q => ?_) q
 · replace hs := hs.trans st; exact hk (Zt xσ) _ (hs.ext hσ) (hs.old hσ) _ (Yt xσ 1) (hs.fresh hσ) _ _ _ rfl f3 q
 obtain ⟨h0, x, hx, q⟩ := q; replace f := f.step st; obtain ⟨a, ha, hi⟩ := f.addr h0 hx rfl; refine ⟨a, ha, hi.1, hi.2, ?_⟩; obtain ⟨cs, hr, hc⟩ := f.ldN (k := 2) rfl ha h0 hx; cases hr; have hc2 := hc 0 _ rfl; have hc3 := hc 1 _ rfl; refine ⟨_, _, hc2.val, hc3.val, ?_⟩; refine NewH.mk fun H_2 e => ?_; obtain ⟨xσ2, st2, b⟩ := BoxF.new xσ 2 e; refine ⟨b.mayF rfl, NewH.mk fun H_3 e2 => ?_⟩; obtain ⟨st3, b⟩ := b.wf2 rfl e2; refine ⟨_, b.cell 1 rfl, ?_⟩; replace f := f.step (st2.then st3); refine q (Zt xσ2) H_3 _ _ _ rfl f _ (fun Z2 H_4 hE hO x2 Y hY A2 n2 c2 hn2 f4 q => ?_); obtain ⟨xσ3, st4, fz, fy⟩ := call1 hE hO xσ2 3 (fun _ h => h) hY; replace f4 := f4.keep fz fy; cases hn2; refine ⟨_, _, _, rfl, ?_⟩; replace b := b.step st4; refine ⟨(b.cell 1 rfl), ?_⟩; refine q (fun i => xσ3 i = 0 ∨ xσ3 i = 3) H_4 _ rfl _ _ _ rfl (f4.read (fun i h => .inl h) (fun i h => .inr (h))) _ (fun Z3 H_5 hE2 hO2 x3 Y2 hY2 A3 n3 c3 hn3 f5 q => ?_); obtain ⟨xσ4, st5, fy2⟩ := callB1 hE2 hO2 xσ3 4 hY2; replace f5 := (SlO.anyZ (Z' := Zt xσ4) u64_flatL f5).keep (Fr.refl _ _) fy2; cases hn3; refine ⟨_, _, _, rfl, ?_⟩; replace b := b.step st5; refine ⟨(b.cell 1 rfl), ?_⟩; refine q (fun i => xσ4 i = 0 ∨ xσ4 i = 4) H_5 _ rfl _ _ _ rfl (f5.read (fun i h => .inl h) (fun i h => .inr (h))) _ rfl _ (fun Z4 H_6 hE3 hO3 x4 Y3 hY3 A4 n4 c4 hn4 f6 q => ?_); obtain ⟨xσ5, st6, fy3⟩ := callB1 hE3 hO3 xσ4 5 hY3; replace f6 := (SlO.anyZ (Z' := Zt xσ5) u64_flatL f6).keep (Fr.refl _ _) fy3; cases hn4; refine ⟨_, _, _, rfl, ?_⟩; replace f3 := f3.step (st2.then (st3.then (st4.then (st5.then st6)))); refine q (fun i => xσ5 i = 0 ∨ xσ5 i = 1 ∨ xσ5 i = 5) H_6 _ rfl _ _ _ rfl (f3.read (fun i h => .inl h) (fun i h => .inr (.inl h))) _ _ _ rfl (f6.read (fun i h => .inl h) (fun i h => .inr (.inr (h)))) _ (fun Z5 H_7 hE4 hO4 x5 Y4 hY4 A5 n5 c5 hn5 f7 q => ?_); obtain ⟨xσ6, st7, fy4⟩ := callB1 hE4 hO4 xσ5 6 hY4; replace f7 := (SlO.anyZ (Z' := Zt xσ6) u64_flatL f7).keep (Fr.refl _ _) fy4; cases hn5; refine ⟨_, _, _, rfl, ?_⟩; obtain ⟨xσ7, st8, f7⟩ := SlO.retag f7 1; replace sl0 := sl0.trans (st2.then (st3.then (st4.then (st5.then (st6.then (st7.then st8)))))); exact hnext (x5, IntKind.i64.wrap (t.2 + 1)) _ _ ⟨_, _, _, _, sl0, rfl, rfl, f7⟩ q
end Go.Proofs.Ytajdpkinlnaidaa.Sh
end
section
set_option linter.unusedVariables false
set_option linter.unusedSimpArgs false
namespace Go.Proofs.Ytajdpkinlnaidaa.Pl
open Go.Sx Go.Lf Go.Proofs.Ytajdpkinlnaidaa.Sh Go.Proofs.Ytajdpkinlnaidaa.Sp
section
variable {p : Nat} [NeZero p]
def cz (p : Nat) [NeZero p] (x : Nat) : Fin p := Fin.ofNat p x
theorem cz_mod (x : Nat) : cz p (x % p) = cz p x := by apply Fin.ext; simp [cz, Fin.ofNat]
theorem cz_mul (a b : Nat) : cz p (a * b) = cz p a * cz p b := by apply Fin.ext; simp [cz, Fin.ofNat, Fin.mul_def, Nat.mul_mod]
theorem cz_add (a b : Nat) : cz p (a + b) = cz p a + cz p b := by apply Fin.ext; simp [cz, Fin.ofNat, Fin.add_def, Nat.add_mod]
theorem cz_fmul (a b : Nat) : cz p (fmul p a b) = cz p a * cz p b := by unfold fmul; rw [cz_mod, cz_mul]
theorem cz_fadd (a b : Nat) : cz p (fadd p a b) = cz p a + cz p b := by unfold fadd; rw [cz_mod, cz_add]
theorem cz_zero : cz p 0 = 0 := rfl
theorem cz_one : cz p 1 = 1 := rfl
theorem cz_self : cz p p = 0 := by apply Fin.ext; simp [cz, Fin.ofNat]
theorem cz_pow (a e : Nat) : cz p (a ^ e) = cz p a ^ e := by
 induction e with
 | zero => simp [cz_one]
 | succ e ih => rw [Nat.pow_succ, cz_mul, ih]; grind
theorem cz_inj {a b : Nat} (ha : a < p) (hb : b < p) (h : cz p a = cz p b) : a = b := by
 have := congrArg Fin.val h
 simp [cz, Fin.ofNat, Nat.mod_eq_of_lt ha, Nat.mod_eq_of_lt hb] at this
 exact this
theorem cz_val (x : Fin p) : cz p x.val = x := by apply Fin.ext; simp [cz, Fin.ofNat, Nat.mod_eq_of_lt x.isLt]
theorem cz_fsub {a b : Nat} (hb : b ≤ p) : cz p (fsub p a b) = cz p a - cz p b := by
 have h : cz p (p - b) + cz p b = 0 := by rw [← cz_add, Nat.sub_add_cancel hb, cz_self]
 unfold fsub; rw [cz_mod, cz_add]; grind
theorem cz_fpow (a e : Nat) : cz p (fpow p a e) = cz p a ^ e := by unfold fpow; rw [cz_mod, cz_pow]
def pv (p : Nat) [NeZero p] (f : List Nat) (x : Fin p) : Fin p := f.foldr (fun c v => v * x + cz p c) 0
theorem pv_cons (c : Nat) (f : List Nat) (x : Fin p) : pv p (c :: f) x = pv p f x * x + cz p c := rfl
theorem pv_nil (x : Fin p) : pv p [] x = 0 := rfl
theorem pv_evalH (f : List Nat) (x : Nat) : cz p (evalH p f x) = pv p f (cz p x) := by
 induction f with
 | nil => rfl
 | cons c f ih => rw [pv_cons, ← ih, evalH, List.foldr_cons, cz_fadd, cz_fmul]; rfl
theorem pv_append (f g : List Nat) (x : Fin p) : pv p (f ++ g) x = pv p f x + pv p g x * x ^ f.length := by
 induction f with
 | nil => simp [pv_nil]; grind
 | cons c f ih => rw [List.cons_append, pv_cons, pv_cons, ih, List.length_cons]; grind
theorem pv_zeros (n : Nat) (x : Fin p) : pv p (List.replicate n 0) x = 0 := by
 induction n with
 | zero => rfl
 | succ n ih => rw [List.replicate_succ, pv_cons, ih, cz_zero]; grind
end
def psum (p : Nat) (g : Nat → Nat) : Nat → Nat
 | 0 => 0
 | m + 1 => fadd p (psum p g m) (g m)
theorem psum_lt {p : Nat} (hp : 0 < p) (g : Nat → Nat) (m : Nat) : psum p g m < p := by
 cases m with
 | zero => exact hp
 | succ m => exact fadd_lt hp _ _
def short (f : List Nat) : List Nat := (f.reverse.dropWhile (· == 0)).reverse
theorem short_take (f : List Nat) (n : Nat) (h0 : ∀ j x, n ≤ j → f[j]? = some x → x = 0) (hn : n = 0 ∨ ∃ x, f[n - 1]? = some x ∧ x ≠ 0) (hlen : n ≤ f.length) : short f = f.take n := by
 have e : f = f.take n ++ List.replicate (f.length - n) 0 := by
   apply List.ext_getElem?
   intro i
   rcases Nat.lt_or_ge i n with h | h
   · rw [List.getElem?_append_left (by simp; omega), List.getElem?_take_of_lt h]
   · rw [List.getElem?_append_right (by simp; omega), List.getElem?_replicate]
     simp only [List.length_take, Nat.min_eq_left hlen]
     rcases Nat.lt_or_ge i f.length with h' | h'
     · rw [if_pos (by omega), List.getElem?_eq_getElem h', h0 i _ h (List.getElem?_eq_getElem h')]
     · rw [if_neg (by omega), List.getElem?_eq_none h']
 have hrep : ∀ (m : Nat) (l : List Nat), ((List.replicate m 0) ++ l).dropWhile (· == 0) = l.dropWhile (· == 0) := by
   intro m l
   induction m with
   | zero => simp
   | succ m ih => rw [List.replicate_succ, List.cons_append, List.dropWhile_cons]; simp [ih]
 unfold short
 conv => lhs; rw [e]
 rw [List.reverse_append, List.reverse_replicate, hrep]
 rcases hn with rfl | ⟨x, hx, hx0⟩
 · simp
 · by_cases hz : n = 0
   · subst hz; simp
   obtain ⟨hi, rfl⟩ := List.getElem?_eq_some_iff.1 hx
   have e2 : f.take n = f.take (n - 1) ++ [f[n - 1]] := by
     conv => lhs; rw [show n = (n - 1) + 1 by omega]
     rw [List.take_add_one, List.getElem?_eq_getElem hi]; rfl
   rw [e2, List.reverse_append, List.reverse_singleton, List.singleton_append, List.dropWhile_cons]
   have hb : (f[n - 1] == 0) = false := by simpa using hx0
   simp [hb]
theorem short_loop {f : List Nat} (hf : f.length < 4611686018427387904) {step : Int → (Int → Prop) → Prop}
   (h0 : ∀ (n x : Nat) (next : Int → Prop), n < f.length → f[n]? = some x → x = 0 → next (n : Int) → step ((n + 1 : Nat) : Int) next)
   (h1 : ∀ (n x : Nat) (next : Int → Prop), n < f.length → f[n]? = some x → x ≠ 0 → short f = f.take (n + 1) → step ((n + 1 : Nat) : Int) next)
   (h2 : ∀ next : Int → Prop, short f = f.take 0 → step 0 next) : LoopQ ((f.length : Nat) : Int) step := by
 refine LoopQ.down (fun t => ∃ n : Nat, t = n ∧ n ≤ f.length ∧ ∀ j x, n ≤ j → f[j]? = some x → x = 0) (fun t => t.toNat) ⟨_, rfl, Nat.le_refl _, fun j x hj hx => by have := lt_get hx; omega⟩ ?_
 rintro _ next ⟨n, rfl, hn, hI⟩ hnx
 cases n with
 | zero => exact h2 next (short_take f 0 hI (.inl rfl) (Nat.zero_le _))
 | succ n =>
   obtain ⟨x, hx⟩ := get_some (show n < f.length by omega)
   by_cases hx0 : x = 0
   · refine h0 n x next (by omega) hx hx0 (hnx _ (by simp) ⟨n, rfl, by omega, fun j y hj hy => ?_⟩)
     rcases Nat.lt_or_ge n j with h' | h'
     · exact hI j y h' hy
     · obtain rfl : j = n := by omega
       rw [hx] at hy; cases hy; exact hx0
   · exact h1 n x next (by omega) hx hx0 (short_take f (n + 1) hI (.inr ⟨x, hx, hx0⟩) hn)
theorem pred_w {n : Nat} (h : n < 4611686018427387904) : IntKind.i64.wrap (((n + 1 : Nat) : Int) - 1) = n := by rw [wi64 (by omega) (by omega)]; omega
theorem short_len (f : List Nat) : (short f).length ≤ f.length := by
 unfold short
 rw [List.length_reverse]
 have := (List.dropWhile_sublist (· == 0) (l := f.reverse)).length_le
 simpa using this
theorem poly_Short_c {f : List Nat} (hf : f.length < 4611686018427387904) {K : List Nat → Prop} (k : K (short f)) : poly_Short.C f K := by
 apply poly_Short.q
 refine short_loop hf ?_ ?_ ?_
 · intro n x next hn hx h0 hnx
   subst h0
   rw [pred_w (by omega)]
   exact ctd (by omega) ⟨by omega, 0, hx, ct rfl hnx⟩
 · intro n x next hn hx h0 hs
   rw [pred_w (by omega)]
   refine ctd (by omega) ⟨by omega, x, hx, cf (beq_f (by omega)) ⟨by omega, by omega, slices_Clone_c ?_⟩⟩
   rw [toNat_c, ← hs]; exact k
 · intro next hs
   refine cfd (by omega) ⟨by omega, by omega, slices_Clone_c ?_⟩
   rw [show Int.toNat 0 = 0 from rfl, ← hs]; exact k
theorem juntoref02_Trim_c {f : List Nat} (hf : f.length ≤ 17592186044416) {K : List Nat → Prop} (k : K (short f)) : juntoref02_Trim.C f K := by
 apply juntoref02_Trim.q
 have ha : ∀ n, AppOk 8 ([] ++ List.take n f).length := fun n => by constructor <;> simp <;> omega
 refine short_loop (by omega) ?_ ?_ ?_
 · intro n x next hn hx h0 hnx
   subst h0
   rw [pred_w (by omega)]
   exact ctd (by omega) ⟨by omega, 0, hx, ct rfl hnx⟩
 · intro n x next hn hx h0 hs
   rw [pred_w (by omega)]
   refine ctd (by omega) ⟨by omega, x, hx, cf (beq_f (by omega)) ⟨by omega, by omega, ha _, ?_⟩⟩
   rw [toNat_c, ← hs]; exact k
 · intro next hs
   refine cfd (by omega) ⟨by omega, by omega, ha _, ?_⟩
   rw [show Int.toNat 0 = 0 from rfl, ← hs]; exact k
theorem short_mem {f : List Nat} {a : Nat} (h : a ∈ short f) : a ∈ f := by
 unfold short at h
 rw [List.mem_reverse] at h
 exact List.mem_reverse.1 ((List.dropWhile_sublist (· == 0)).mem h)
theorem short_split (f : List Nat) : ∃ m, f = short f ++ List.replicate m 0 := by
 have h : ∀ l : List Nat, ∃ m, l = List.replicate m 0 ++ l.dropWhile (· == 0) := by
   intro l
   induction l with
   | nil => exact ⟨0, rfl⟩
   | cons a l ih =>
     by_cases ha : a = 0
     · obtain ⟨m, hm⟩ := ih
       refine ⟨m + 1, ?_⟩
       subst ha
       rw [List.dropWhile_cons, List.replicate_succ]
       simp only [beq_self_eq_true, if_true, List.cons_append]
       rw [← hm]
     · refine ⟨0, ?_⟩
       rw [List.dropWhile_cons]
       have : (a == 0) = false := by simpa using ha
       simp [this]
 obtain ⟨m, hm⟩ := h f.reverse
 refine ⟨m, ?_⟩
 have := congrArg List.reverse hm
 rw [List.reverse_reverse, List.reverse_append, List.reverse_replicate] at this
 exact this
def isP (p : Nat) : Prop := 3 ≤ p ∧ p ≤ 65537 ∧ ∀ d, 2 ≤ d → d * d ≤ p → p % d ≠ 0
open Classical in
noncomputable def prm (p : Nat) : Bool := decide (isP p)
theorem prm_t {p : Nat} (h : isP p) : prm p = true := by unfold prm; simp [h]
theorem prm_f {p : Nat} (h : ¬ isP p) : prm p = false := by unfold prm; simp [h]
theorem sq_lt {s p : Nat} (h : s * s ≤ p) (hp : p ≤ 65537) : s ≤ 256 := by
 rcases Nat.lt_or_ge 256 s with h' | h'
 · have := Nat.mul_le_mul h' h'; omega
 · exact h'
theorem sq_small {s : Nat} (h : s ≤ 258) : s * s < 18446744073709551616 := by
 have := Nat.mul_le_mul h h; omega
theorem field_Is_c {p : Nat} {K : Bool → Prop} (k : K (prm p)) : field_Is.C p K := by
 apply field_Is.q
 unfold field_Is.Q
 by_cases h1 : p < 3
 · rw [prm_f (fun h => by have := h.1; omega)] at k; exact ctd (by omega) k
 refine cfd (by omega) ?_
 by_cases h2 : 65537 < p
 · rw [prm_f (fun h => by have := h.2.1; omega)] at k; exact ctd (by omega) k
 refine cfd (by omega) ⟨by omega, ?_⟩
 rw [show Int.tmod (p : Int) 2 = ((p % 2 : Nat) : Int) from rfl]
 by_cases h3 : p % 2 = 0
 · rw [prm_f (fun h => h.2.2 2 (by omega) (by omega) h3)] at k; exact ct (beq_t (by omega)) k
 refine cf (beq_f (by omega)) ?_
 refine LoopQ.down (fun s => 3 ≤ s ∧ s ≤ 258 ∧ s % 2 = 1 ∧ ∀ d, 2 ≤ d → d < s → d * d ≤ p → p % d ≠ 0) (fun s => 1000 - s) ⟨by omega, by omega, by omega, fun d h2 h3' h4 => by rw [show d = 2 by omega]; exact h3⟩ ?_
 rintro s next ⟨hs1, hs2, hs3, hd⟩ hn
 rw [show (s : Int) * s = ((s * s : Nat) : Int) by simp, uw (sq_small hs2)]
 by_cases hle : s * s ≤ p
 · refine ctd (by omega) ⟨by omega, ?_⟩
   rw [tmod_nat]
   have hs := sq_lt hle (by omega)
   by_cases hz : p % s = 0
   · rw [prm_f (fun h => h.2.2 s (by omega) hle hz)] at k; exact ct (beq_t (by omega)) k
   · refine cf (beq_f (by omega)) ?_
     rw [show (s : Int) + 2 = ((s + 2 : Nat) : Int) by omega, uw (by omega), toNat_c]
     refine hn _ (by omega) ⟨by omega, by omega, by omega, fun d h2 hlt hdd => ?_⟩
     rcases Nat.lt_or_ge d s with h' | h'
     · exact hd d h2 h' hdd
     · rcases Nat.eq_or_lt_of_le h' with rfl | h''
       · exact hz
       · have : d = s + 1 := by omega
         subst this
         intro hh
         have h5 : (2 : Nat) ∣ p := Nat.dvd_trans (by omega) (Nat.dvd_of_mod_eq_zero hh)
         omega
 · refine cfd (by omega) ?_
   rw [prm_t ⟨by omega, by omega, fun d h2 hdd => hd d h2 (by
     rcases Nat.lt_or_ge d s with h' | h'
     · exact h'
     · have := Nat.mul_le_mul h' h'; omega) hdd⟩] at k
   exact k
theorem juntoref01_Is_c {p : Nat} {K : Bool → Prop} (k : K (prm p)) : juntoref01_Is.C p K := by
 apply juntoref01_Is.q
 unfold juntoref01_Is.Q
 by_cases h1 : p < 3
 · rw [prm_f (fun h => by have := h.1; omega)] at k; exact ctd (by omega) k
 refine cfd (by omega) ?_
 by_cases h2 : 65537 < p
 · rw [prm_f (fun h => by have := h.2.1; omega)] at k; exact ctd (by omega) k
 refine cfd (by omega) ?_
 refine LoopQ.down (fun s => 2 ≤ s ∧ s ≤ 258 ∧ ∀ d, 2 ≤ d → d < s → d * d ≤ p → p % d ≠ 0) (fun s => 1000 - s) ⟨by omega, by omega, fun d h2 h3' h4 => by omega⟩ ?_
 rintro s next ⟨hs1, hs2, hd⟩ hn
 rw [show (s : Int) * s = ((s * s : Nat) : Int) by simp, uw (sq_small hs2)]
 by_cases hle : s * s ≤ p
 · refine ctd (by omega) ⟨by omega, ?_⟩
   rw [tmod_nat]
   have hs := sq_lt hle (by omega)
   by_cases hz : p % s = 0
   · rw [prm_f (fun h => h.2.2 s (by omega) hle hz)] at k; exact ct (beq_t (by omega)) k
   · refine cf (beq_f (by omega)) ?_
     rw [show (s : Int) + 1 = ((s + 1 : Nat) : Int) by omega, uw (by omega), toNat_c]
     refine hn _ (by omega) ⟨by omega, by omega, fun d h2 hlt hdd => ?_⟩
     rcases Nat.lt_or_ge d s with h' | h'
     · exact hd d h2 h' hdd
     · obtain rfl : d = s := by omega
       exact hz
 · refine cfd (by omega) ?_
   rw [prm_t ⟨by omega, by omega, fun d h2 hdd => hd d h2 (by
     rcases Nat.lt_or_ge d s with h' | h'
     · exact h'
     · have := Nat.mul_le_mul h' h'; omega) hdd⟩] at k
   exact k
def tab {α : Type} (n : Nat) (g : Nat → α) : List α := (List.range n).map g
def mat (n : Nat) (g : Nat → Nat → Nat) : List (List Nat) := tab n fun i => tab n (g i)
theorem tab_len {α : Type} (n : Nat) (g : Nat → α) : (tab n g).length = n := by simp [tab]
theorem tab_get {α : Type} {n i : Nat} (g : Nat → α) (h : i < n) : (tab n g)[i]? = some (g i) := by simp [tab, h]
theorem tab_get_inv {α : Type} {n i : Nat} {g : Nat → α} {x : α} (h : (tab n g)[i]? = some x) : i < n ∧ x = g i := by
 have hl := lt_get h
 rw [tab_len] at hl
 rw [tab_get g hl] at h; cases h; exact ⟨hl, rfl⟩
theorem tab_ext {α : Type} {n : Nat} {g g' : Nat → α} (h : ∀ i, i < n → g i = g' i) : tab n g = tab n g' := by
 unfold tab; exact List.map_congr_left fun i hi => h i (List.mem_range.1 hi)
theorem tab_of {α : Type} {n : Nat} {l : List α} {g : Nat → α} (hl : l.length = n) (h : ∀ i x, l[i]? = some x → x = g i) : l = tab n g := by
 apply List.ext_getElem?
 intro i
 rcases Nat.lt_or_ge i n with hi | hi
 · obtain ⟨x, hx⟩ := get_some (show i < l.length by omega)
   rw [hx, tab_get g hi, h i x hx]
 · rw [List.getElem?_eq_none (by omega), List.getElem?_eq_none (by rw [tab_len]; omega)]
theorem tab_set {α : Type} {n k : Nat} (g : Nat → α) (v : α) : (tab n g).set k v = tab n fun i => if i = k then v else g i := by
 refine tab_of (by simp [tab_len]) fun i x hx => ?_
 rw [List.getElem?_set] at hx
 by_cases h : k = i
 · subst h
   rw [if_pos rfl] at hx
   split at hx
   · cases hx; simp
   · cases hx
 · rw [if_neg h] at hx
   rw [(tab_get_inv hx).2, if_neg (fun q => h q.symm)]
theorem tab_rep {α : Type} (n : Nat) (v : α) : List.replicate n v = tab n fun _ => v := tab_of (by simp) fun i x hx => by
 obtain ⟨hi, hx⟩ := List.getElem?_eq_some_iff.1 hx
 simp at hx; exact hx.symm
theorem tab_snoc {α : Type} (n : Nat) (g : Nat → α) : tab n g ++ [g n] = tab (n + 1) g := by simp [tab, List.range_succ]
theorem tab_mem {α : Type} {n : Nat} {g : Nat → α} {x : α} (h : x ∈ tab n g) : ∃ i, i < n ∧ x = g i := by
 obtain ⟨i, hi⟩ := List.mem_iff_getElem?.1 h
 exact ⟨i, tab_get_inv hi⟩
theorem below_lt {p : Nat} {l : List Nat} (h : below p l = true) {x : Nat} (hx : x ∈ l) : x < p := by
 unfold below at h; rw [List.all_eq_true] at h; simpa using h x hx
theorem below_of {p : Nat} {l : List Nat} (h : ∀ x ∈ l, x < p) : below p l = true := by
 unfold below; rw [List.all_eq_true]; intro x hx; simpa using h x hx
theorem isP.dvd {p d : Nat} (hp : isP p) (hd : d ∣ p) : d = 1 ∨ d = p := by
 obtain ⟨e, he⟩ := hd
 have hp3 := hp.1
 have d0 : d ≠ 0 := by rintro rfl; omega
 have e0 : e ≠ 0 := by rintro rfl; omega
 by_cases d1 : d = 1
 · exact .inl d1
 by_cases e1 : e = 1
 · exact .inr (by rw [he, e1, Nat.mul_one])
 exfalso
 rcases Nat.le_total d e with h | h
 · exact hp.2.2 d (by omega) (by rw [he]; exact Nat.mul_le_mul_left d h) (by rw [he]; exact Nat.mul_mod_right d e)
 · exact hp.2.2 e (by omega) (by rw [he]; exact Nat.mul_le_mul_right e h) (by rw [he]; exact Nat.mul_mod_left d e)
theorem isP.cop {p a : Nat} (hp : isP p) (ha : ¬ p ∣ a) : Nat.Coprime p a := by
 have hg : Nat.gcd p a ∣ p := Nat.gcd_dvd_left p a
 rcases hp.dvd hg with h | h
 · exact h
 · exact (ha (by rw [← h]; exact Nat.gcd_dvd_right p a)).elim
theorem isP.mul {p a b : Nat} (hp : isP p) (h : p ∣ a * b) : p ∣ a ∨ p ∣ b := by
 by_cases ha : p ∣ a
 · exact .inl ha
 · exact .inr ((hp.cop ha).dvd_of_dvd_mul_left h)
section
variable {p : Nat} [NeZero p]
theorem cz_eq_zero {a : Nat} : cz p a = 0 ↔ p ∣ a := by
 constructor
 · intro h
   have := congrArg Fin.val h
   simp [cz, Fin.ofNat] at this
   exact Nat.dvd_of_mod_eq_zero this
 · intro h
   apply Fin.ext
   simp [cz, Fin.ofNat, Nat.mod_eq_zero_of_dvd h]
theorem fin_mul (hp : isP p) {a b : Fin p} (h : a * b = 0) : a = 0 ∨ b = 0 := by
 rw [← cz_val a, ← cz_val b, ← cz_mul, cz_eq_zero] at h
 rcases hp.mul h with h | h
 · left; rw [← cz_val a]; exact cz_eq_zero.2 h
 · right; rw [← cz_val b]; exact cz_eq_zero.2 h
theorem fin_cancel (hp : isP p) {a b c : Fin p} (ha : a ≠ 0) (h : a * b = a * c) : b = c := by
 have : a * (b - c) = 0 := by grind
 rcases fin_mul hp this with h' | h'
 · exact (ha h').elim
 · grind
theorem bez : ∀ (a b : Nat), ∃ u v : Int, u * a + v * b = Nat.gcd a b := by
 intro a b
 induction a, b using Nat.gcd.induction with
 | H0 b => exact ⟨0, 1, by simp⟩
 | H1 a b ha ih =>
   obtain ⟨u, v, h⟩ := ih
   refine ⟨v - u * (b / a : Nat), u, ?_⟩
   rw [Nat.gcd_rec a b, ← h]
   have e : ((b % a : Nat) : Int) = (b : Int) - (a : Int) * ((b / a : Nat) : Int) := by
     have := Nat.div_add_mod b a
     have h2 : ((a * (b / a) + b % a : Nat) : Int) = (b : Int) := by rw [this]
     rw [Int.natCast_add, Int.natCast_mul] at h2
     omega
   rw [e]
   grind
theorem fin_inv (hp : isP p) {a : Fin p} (ha : a ≠ 0) : ∃ b, a * b = 1 := by
 have hc : Nat.gcd a.val p = 1 := by
   have : Nat.Coprime p a.val := hp.cop fun h => ha (by rw [← cz_val a]; exact cz_eq_zero.2 h)
   exact this.symm
 obtain ⟨u, v, h⟩ := bez a.val p
 rw [hc] at h
 have hp3 := hp.1
 refine ⟨cz p (u % p).toNat, ?_⟩
 have hu : ((u % p).toNat : Int) = u % p := Int.toNat_of_nonneg (Int.emod_nonneg _ (by omega))
 rw [← cz_val a, ← cz_mul, ← cz_one]
 apply Fin.ext
 have e : ((a.val * (u % p).toNat : Nat) : Int) % (p : Int) = 1 % (p : Int) := by
   rw [Int.natCast_mul, hu, Int.mul_emod, Int.emod_emod_of_dvd _ (Int.dvd_refl _), ← Int.mul_emod]
   have : (a.val : Int) * u = 1 - v * p := by have h1 : ((1 : Nat) : Int) = 1 := rfl; rw [h1] at h; grind
   rw [this, Int.sub_emod, Int.mul_emod_left]; simp
 have e2 : (a.val * (u % p).toNat) % p = 1 % p := by
   have h1 : ((a.val * (u % p).toNat % p : Nat) : Int) = ((1 % p : Nat) : Int) := by rw [Int.natCast_emod, e]; rfl
   exact Int.ofNat.inj h1
 simpa [cz, Fin.ofNat] using e2
def lprod (l : List (Fin p)) : Fin p := l.foldr (· * ·) 1
theorem lprod_perm {l l' : List (Fin p)} (h : l.Perm l') : lprod l = lprod l' := by
 induction h with
 | nil => rfl
 | cons x _ ih => simp only [lprod, List.foldr_cons] at *; rw [ih]
 | swap x y l => simp only [lprod, List.foldr_cons]; grind
 | trans _ _ h1 h2 => rw [h1, h2]
theorem lprod_map (a : Fin p) (l : List (Fin p)) : lprod (l.map (a * ·)) = a ^ l.length * lprod l := by
 induction l with
 | nil => simp [lprod]; grind
 | cons x l ih => simp only [lprod, List.map_cons, List.foldr_cons, List.length_cons] at *; rw [ih]; grind
theorem lprod_ne (hp : isP p) {l : List (Fin p)} (h : ∀ x ∈ l, x ≠ 0) : lprod l ≠ 0 := by
 induction l with
 | nil =>
   intro h1
   have := congrArg Fin.val h1
   have hp3 := hp.1
   have h2 : (1 : Fin p).val = 1 % p := rfl
   simp only [lprod, List.foldr_nil] at this
   rw [h2, Nat.mod_eq_of_lt (by omega)] at this
   simp at this
 | cons x l ih =>
   intro h1
   simp only [lprod, List.foldr_cons] at h1
   rcases fin_mul hp h1 with h2 | h2
   · exact h x (List.mem_cons_self ..) h2
   · exact ih (fun y hy => h y (List.mem_cons_of_mem _ hy)) h2
def units (p : Nat) [NeZero p] : List (Fin p) := (List.range (p - 1)).map fun i => cz p (i + 1)
theorem units_mem (hp : isP p) (x : Fin p) : x ∈ units p ↔ x ≠ 0 := by
 have hp3 := hp.1
 unfold units
 rw [List.mem_map]
 constructor
 · rintro ⟨i, hi, rfl⟩ h
   have := List.mem_range.1 hi
   have h2 := cz_inj (p := p) (a := i + 1) (b := 0) (by omega) (by omega) (by rw [h, cz_zero])
   omega
 · intro h
   have hv : x.val ≠ 0 := fun h0 => h (by apply Fin.ext; rw [h0]; rfl)
   refine ⟨x.val - 1, List.mem_range.2 (by have := x.isLt; omega), ?_⟩
   rw [show x.val - 1 + 1 = x.val by omega, cz_val]
theorem nodup_map {α β : Type} {f : α → β} {l : List α} (h : l.Nodup) (hf : ∀ a ∈ l, ∀ b ∈ l, f a = f b → a = b) : (l.map f).Nodup := by
 induction l with
 | nil => simp
 | cons a l ih =>
   rw [List.map_cons, List.nodup_cons]
   rw [List.nodup_cons] at h
   refine ⟨fun hm => ?_, ih h.2 fun x hx y hy => hf x (List.mem_cons_of_mem _ hx) y (List.mem_cons_of_mem _ hy)⟩
   obtain ⟨b, hb, he⟩ := List.mem_map.1 hm
   have := hf b (List.mem_cons_of_mem _ hb) a (List.mem_cons_self ..) he
   subst this
   exact h.1 hb
theorem units_nodup (hp : isP p) : (units p).Nodup := by
 have hp3 := hp.1
 refine nodup_map List.nodup_range fun a ha b hb h => ?_
 have h1 := List.mem_range.1 ha
 have h2 := List.mem_range.1 hb
 have := cz_inj (p := p) (a := a + 1) (b := b + 1) (by omega) (by omega) h
 omega
theorem fermat (hp : isP p) {a : Fin p} (ha : a ≠ 0) : a ^ (p - 1) = 1 := by
 have hperm : ((units p).map (a * ·)).Perm (units p) := by
   rw [List.perm_ext_iff_of_nodup (nodup_map (units_nodup hp) fun x _ y _ h => fin_cancel hp ha h) (units_nodup hp)]
   intro x
   rw [units_mem hp]
   constructor
   · intro h
     obtain ⟨y, hy, rfl⟩ := List.mem_map.1 h
     intro h0
     rcases fin_mul hp h0 with h1 | h1
     · exact ha h1
     · exact (units_mem hp y).1 hy h1
   · intro h
     obtain ⟨b, hb⟩ := fin_inv hp ha
     refine List.mem_map.2 ⟨b * x, (units_mem hp _).2 fun h0 => ?_, by grind⟩
     have : x = a * (b * x) := by grind
     rw [h0] at this
     exact h (by rw [this]; grind)
 have h1 := lprod_perm hperm
 rw [lprod_map] at h1
 have hl : (units p).length = p - 1 := by simp [units]
 rw [hl] at h1
 have hne := lprod_ne hp (l := units p) fun x hx => (units_mem hp x).1 hx
 refine fin_cancel hp hne ?_
 grind
theorem fin_finv (hp : isP p) {a : Nat} (ha : cz p a ≠ 0) : cz p a * cz p (finv p a) = 1 := by
 have hp3 := hp.1
 unfold finv
 rw [cz_fpow, ← fermat hp ha, show p - 1 = (p - 2) + 1 by omega, Lean.Grind.Semiring.pow_succ]
 grind
def pe (l : List (Fin p)) (x : Fin p) : Fin p := l.foldr (fun c v => v * x + c) 0
theorem pe_cons (c : Fin p) (l : List (Fin p)) (x : Fin p) : pe (c :: l) x = pe l x * x + c := rfl
def sdiv : List (Fin p) → Fin p → List (Fin p)
 | [], _ => []
 | [_], _ => []
 | _ :: d :: h, r => pe (d :: h) r :: sdiv (d :: h) r
theorem sdiv_len (l : List (Fin p)) (r : Fin p) : (sdiv l r).length = l.length - 1 := by
 induction l with
 | nil => rfl
 | cons c l ih =>
   cases l with
   | nil => rfl
   | cons d h => rw [sdiv, List.length_cons, ih]; simp
theorem sdiv_eval (l : List (Fin p)) (r x : Fin p) : pe l x = (x - r) * pe (sdiv l r) x + pe l r := by
 induction l with
 | nil => show (0 : Fin p) = (x - r) * 0 + 0; grind
 | cons c l ih =>
   cases l with
   | nil => show (0 : Fin p) * x + c = (x - r) * 0 + (0 * r + c); grind
   | cons d h => rw [sdiv, pe_cons c (d :: h) x, pe_cons _ (sdiv (d :: h) r) x, pe_cons c (d :: h) r, ih]; grind
theorem sdiv_zero (l : List (Fin p)) (r : Fin p) (h : ∀ c ∈ sdiv l r, c = 0) : ∀ c ∈ l.tail, c = 0 := by
 induction l with
 | nil => intro c hc; cases hc
 | cons a l ih =>
   cases l with
   | nil => intro c hc; cases hc
   | cons d g =>
     intro c hc
     rw [List.tail_cons] at hc
     rw [sdiv] at h
     have ht := ih fun c hc => h c (List.mem_cons_of_mem _ hc)
     rw [List.tail_cons] at ht
     have h0 := h _ (List.mem_cons_self ..)
     have hz : ∀ l : List (Fin p), (∀ c ∈ l, c = 0) → pe l r = 0 := by
       intro l hl
       induction l with
       | nil => rfl
       | cons a l ih2 => rw [pe_cons, ih2 fun c hc => hl c (List.mem_cons_of_mem _ hc), hl a (List.mem_cons_self ..)]; grind
     rw [pe_cons, hz g ht] at h0
     rcases List.mem_cons.1 hc with rfl | hc
     · grind
     · exact ht c hc
theorem pe_zero {l : List (Fin p)} (h : ∀ c ∈ l, c = 0) (x : Fin p) : pe l x = 0 := by
 induction l with
 | nil => rfl
 | cons a l ih => rw [pe_cons, ih fun c hc => h c (List.mem_cons_of_mem _ hc), h a (List.mem_cons_self ..)]; grind
theorem roots_zero (hp : isP p) : ∀ (xs l : List (Fin p)), xs.Nodup → l.length ≤ xs.length → (∀ x ∈ xs, pe l x = 0) → ∀ c ∈ l, c = 0
 | [], l, _, hl, _ => by
   have : l = [] := List.eq_nil_of_length_eq_zero (by simpa using hl)
   subst this; intro c hc; cases hc
 | r :: xs, l, hn, hl, h => by
   rw [List.nodup_cons] at hn
   have h1 : ∀ c ∈ sdiv l r, c = 0 := roots_zero hp xs (sdiv l r) hn.2 (by rw [sdiv_len]; simp at hl; omega) fun x hx => by
     have hx0 := h x (List.mem_cons_of_mem _ hx)
     rw [sdiv_eval l r x, h r (List.mem_cons_self ..)] at hx0
     have : (x - r) * pe (sdiv l r) x = 0 := by grind
     rcases fin_mul hp this with h2 | h2
     · have : x = r := by grind
       subst this; exact (hn.1 hx).elim
     · exact h2
   have h2 := sdiv_zero l r h1
   have h3 := h r (List.mem_cons_self ..)
   cases l with
   | nil => intro c hc; cases hc
   | cons a l =>
     rw [List.tail_cons] at h2
     rw [pe_cons, pe_zero h2] at h3
     intro c hc
     rcases List.mem_cons.1 hc with rfl | hc
     · grind
     · exact h2 c hc
def S (g : Nat → Fin p) : Nat → Fin p
 | 0 => 0
 | m + 1 => S g m + g m
theorem S_ext {g g' : Nat → Fin p} {m : Nat} (h : ∀ i, i < m → g i = g' i) : S g m = S g' m := by
 induction m with
 | zero => rfl
 | succ m ih => rw [S, S, ih fun i hi => h i (by omega), h m (by omega)]
theorem S_add (g h : Nat → Fin p) (m : Nat) : S (fun i => g i + h i) m = S g m + S h m := by
 induction m with
 | zero => show (0 : Fin p) = 0 + 0; grind
 | succ m ih => rw [S, S, S, ih]; grind
theorem S_mul (c : Fin p) (g : Nat → Fin p) (m : Nat) : S (fun i => c * g i) m = c * S g m := by
 induction m with
 | zero => show (0 : Fin p) = c * 0; grind
 | succ m ih => rw [S, S, ih]; grind
theorem S_zero (m : Nat) : S (fun _ => (0 : Fin p)) m = 0 := by
 induction m with
 | zero => rfl
 | succ m ih => rw [S, ih]; grind
theorem S_psum (g : Nat → Nat) (m : Nat) : cz p (psum p g m) = S (fun i => cz p (g i)) m := by
 induction m with
 | zero => rfl
 | succ m ih => rw [psum, cz_fadd, ih]; rfl
theorem S_shift (g : Nat → Fin p) (a n N : Nat) (hN : a + n ≤ N) : S (fun m => if a ≤ m ∧ m - a < n then g (m - a) else 0) N = S g n := by
 induction N with
 | zero =>
   obtain rfl : n = 0 := by omega
   rfl
 | succ N ih =>
   by_cases h : a + n ≤ N
   · rw [S, ih h, if_neg (by omega)]; grind
   · have e : N + 1 = a + n := by omega
     rw [e]
     cases n with
     | zero =>
       have hz : ∀ m, S (fun m => if a ≤ m ∧ m - a < 0 then g (m - a) else 0) m = 0 := fun m => by
         have : (fun m => if a ≤ m ∧ m - a < 0 then g (m - a) else 0) = fun _ => (0 : Fin p) := by funext m; rw [if_neg (by omega)]
         rw [this, S_zero]
       exact hz _
     | succ n =>
       clear ih h hN e
       have key : ∀ k, k ≤ n + 1 → S (fun m => if a ≤ m ∧ m - a < n + 1 then g (m - a) else 0) (a + k) = S g k := by
         intro k
         induction k with
         | zero =>
           intro _
           have : ∀ m, m ≤ a → S (fun m => if a ≤ m ∧ m - a < n + 1 then g (m - a) else 0) m = 0 := by
             intro m
             induction m with
             | zero => intro _; rfl
             | succ m ih => intro hm; rw [S, ih (by omega), if_neg (by omega)]; grind
           exact this a (Nat.le_refl _)
         | succ k ih =>
           intro hk
           rw [← Nat.add_assoc, S, ih (by omega), if_pos (by omega), S, show a + k - a = k by omega]
       exact key (n + 1) (Nat.le_refl _)
theorem pv_tab (g : Nat → Nat) (x : Fin p) (n : Nat) : pv p (tab n g) x = S (fun i => cz p (g i) * x ^ i) n := by
 induction n with
 | zero => rfl
 | succ n ih =>
   rw [← tab_snoc, pv_append, ih, S, pv_cons, pv_nil, tab_len]; grind
theorem pv_S (f : List Nat) (x : Fin p) : pv p f x = S (fun i => cz p (f[i]?.getD 0) * x ^ i) f.length := by
 rw [← pv_tab]
 congr 1
 exact tab_of rfl fun i y hy => by rw [hy]; rfl
end
def mat2 (n w : Nat) (M : Nat → Nat → Nat) : List (List Nat) := tab n fun i => tab w (M i)
theorem mat2_len (n w : Nat) (M : Nat → Nat → Nat) : (mat2 n w M).length = n := tab_len _ _
theorem mat2_get {n w i : Nat} (M : Nat → Nat → Nat) (h : i < n) : (mat2 n w M)[i]? = some (tab w (M i)) := tab_get _ h
theorem mat2_ext {n w : Nat} {M M' : Nat → Nat → Nat} (h : ∀ i k, i < n → k < w → M i k = M' i k) : mat2 n w M = mat2 n w M' := tab_ext fun i hi => tab_ext fun k hk => h i k hi hk
theorem mat2_row {n w i : Nat} (M : Nat → Nat → Nat) (g : Nat → Nat) : (mat2 n w M).set i (tab w g) = mat2 n w fun a k => if a = i then g k else M a k := by
 unfold mat2
 rw [tab_set]
 refine tab_ext fun a _ => ?_
 by_cases h : a = i
 · simp [h]
 · simp [h]
theorem mat2_cell {n w i k : Nat} (M : Nat → Nat → Nat) (v : Nat) : (mat2 n w M).set i ((tab w (M i)).set k v) = mat2 n w fun a b => if a = i ∧ b = k then v else M a b := by
 rw [tab_set, mat2_row]
 refine mat2_ext fun a b _ _ => ?_
 by_cases h : a = i
 · subst h; by_cases h2 : b = k <;> simp [h2]
 · simp [h]
def piv (n : Nat) (M : Nat → Nat → Nat) (top c : Nat) : Option Nat := (List.range n).find? fun i => decide (top ≤ i) && decide (M i c ≠ 0)
theorem piv_some {n : Nat} {M : Nat → Nat → Nat} {top c i : Nat} (hi : i < n) (ht : top ≤ i) (hne : M i c ≠ 0) (hz : ∀ j, top ≤ j → j < i → M j c = 0) : piv n M top c = some i := by
 unfold piv
 rw [List.find?_range_eq_some]
 refine ⟨by simp [ht, hne], by simp [hi], fun j hj => ?_⟩
 by_cases h : top ≤ j
 · simp [h, hz j h hj]
 · simp [h]
theorem piv_none {n : Nat} {M : Nat → Nat → Nat} {top c : Nat} (hz : ∀ j, top ≤ j → j < n → M j c = 0) : piv n M top c = none := by
 unfold piv
 rw [List.find?_range_eq_none]
 intro j hj
 by_cases h : top ≤ j
 · simp [h, hz j h hj]
 · simp [h]
def swapM (M : Nat → Nat → Nat) (a b : Nat) : Nat → Nat → Nat := fun i => M (if i = a then b else if i = b then a else i)
def scaleM (p : Nat) (M : Nat → Nat → Nat) (top one : Nat) : Nat → Nat → Nat := fun i k => if i = top then fmul p (M i k) one else M i k
def scaleJ (p : Nat) (M : Nat → Nat → Nat) (top one j : Nat) : Nat → Nat → Nat := fun i k => if i = top ∧ k < j then fmul p (M i k) one else M i k
def elimM (p : Nat) (M : Nat → Nat → Nat) (top c : Nat) : Nat → Nat → Nat := fun i k => if i = top then M i k else fsub p (M i k) (fmul p (M i c) (M top k))
def pivM (p : Nat) (M : Nat → Nat → Nat) (top c at_ : Nat) : Nat → Nat → Nat :=
 elimM p (scaleM p (swapM M top at_) top (finv p (swapM M top at_ top c))) top c
structure El where
 M : Nat → Nat → Nat
 lead : List Nat
def El.step (p n : Nat) (s : El) (c : Nat) : El := match piv n s.M s.lead.length c with
 | none => s
 | some i => ⟨pivM p s.M s.lead.length c i, s.lead ++ [c]⟩
def El.run (p n : Nat) (M : Nat → Nat → Nat) : Nat → El
 | 0 => ⟨M, []⟩
 | c + 1 => (El.run p n M c).step p n c
def ints (l : List Nat) : List Int := l.map fun (k : Nat) => (k : Int)
theorem ints_len (l : List Nat) : (ints l).length = l.length := by simp [ints]
theorem step_len (p n : Nat) (s : El) (c : Nat) : (s.step p n c).lead.length ≤ s.lead.length + 1 := by
 unfold El.step; split <;> simp
theorem run_len (p n : Nat) (M : Nat → Nat → Nat) : ∀ c, (El.run p n M c).lead.length ≤ c
 | 0 => Nat.le_refl _
 | c + 1 => Nat.le_trans (step_len p n _ c) (by have := run_len p n M c; omega)
theorem run_lt {p n : Nat} (hp : 0 < p) {M : Nat → Nat → Nat} (h : ∀ i k, M i k < p) : ∀ c i k, (El.run p n M c).M i k < p
 | 0, i, k => h i k
 | c + 1, i, k => by
   have ih := run_lt (n := n) hp h c
   unfold El.run El.step
   split
   · exact ih i k
   · unfold pivM elimM
     dsimp only
     split
     · rename_i hi
       subst hi
       unfold scaleM; rw [if_pos rfl]; exact fmul_lt hp _ _
     · exact fsub_lt hp _ _
end Go.Proofs.Ytajdpkinlnaidaa.Pl
end
