/- A part of the proof of ReplayLongs. -/
import Derived.Test.YtekbfckpnooloaaGreatDoorGood
import Derived.Test.YtekbfckpnooloaaGreatDoorAbsR
namespace Go.Proofs.YtekbfckpnooloaaGreatDoor
open Go.Abs
set_option maxRecDepth 100000
/-- A call of scrollback/replay.Run: 23617 operations. -/
noncomputable def rKnown0 : Rec := {
  f := 10
  next := 70
  args := [.agg [.int .i64 (.ofNat 1), .int .i64 (.ofNat 4), .int .i64 (.ofNat 0)], .slice (some ⟨69, 0, 0⟩) 6 (.exact 6)]
  objs := [(1, .cells tab6.cells),
    (2, .cells tab7.cells),
    (69, .cells (cellsR 5 1 6 false 0 0 0 false false [(0, 0, (nats .u8 [8, 97, 98, 2, 0, 2]))]))]
  v := .tuple [.ptr (some ⟨110, 0, 0⟩), .int .i64 (.ofNat 0)]
  out := [(80, .cells (cellsR 189 5 5 false 0 0 0 false false [(0, 0, [.int .i64 (.ofNat 0), .int .i64 (.ofNat 64), .int .i64 (.ofNat 0), .int .i64 (.ofNat 0), .slice none 0 (.exact 0)])])),
    (81, .cells (cellsR 148 1 1 false 0 0 0 false false [(0, 0, [.ptr (some ⟨80, 0, 0⟩)])])),
    (82, .cells (cellsR 133 73 73 false 0 0 0 false false [(0, 0, [.int .i64 (.ofNat 1), .int .i64 (.ofNat 3), .ptr (some ⟨83, 0, 0⟩), .ptr (some ⟨81, 0, 0⟩), .int .i64 (.ofNat 0), .int .i64 (.ofNat 2), .bool false, .int .i64 (.ofNat 0), .int .u8 (.ofNat 0), .int .u8 (.ofNat 0), .int .u8 (.ofNat 0), .int .u8 (.ofNat 0), .int .i64 (.ofNat 0), .int .u8 (.ofNat 0), .int .u8 (.ofNat 0), .int .u8 (.ofNat 0), .int .u8 (.ofNat 0), .int .u8 (.ofNat 0), .bool true, .bool false, .bool false, .bool true, .bool false, .bool false, .bool false, .int .i64 (.ofNat 0), .int .i64 (.ofNat 0), .int .i64 (.ofNat 0), .int .i64 (.ofNat 0), .ptr (some ⟨103, 0, 0⟩), .int .i64 (.ofNat 0), .int .i64 (.ofNat 0), .int .i64 (.ofNat 0), .int .i64 (.ofNat 0), .int .i64 (.ofNat 0), .bool false, .int .i64 (.ofNat 0), .int .u8 (.ofNat 0), .int .u8 (.ofNat 0), .int .u8 (.ofNat 0), .int .u8 (.ofNat 0), .int .i64 (.ofNat 0), .int .u8 (.ofNat 0), .int .u8 (.ofNat 0), .int .u8 (.ofNat 0), .int .u8 (.ofNat 0), .int .u8 (.ofNat 0), .bool false, .int .i64 (.ofNat 0), .int .i64 (.ofNat 0), .int .i64 (.ofNat 0), .int .i64 (.ofNat 0), .int .i64 (.ofNat 0), .bool false, .int .i64 (.ofNat 0), .int .u8 (.ofNat 0), .int .u8 (.ofNat 0), .int .u8 (.ofNat 0), .int .u8 (.ofNat 0), .int .i64 (.ofNat 0), .int .u8 (.ofNat 0), .int .u8 (.ofNat 0), .int .u8 (.ofNat 0), .int .u8 (.ofNat 0), .int .u8 (.ofNat 0), .bool false, .int .i64 (.ofNat 0), .int .i64 (.ofNat 0), .int .i64 (.ofNat 0), .str [], .str [], .str [], .int .i64 (.ofNat 0)])])),
    (83, .cells (cellsR 174 5 5 false 0 0 0 false false [(0, 0, [.ptr (some ⟨862, 0, 0⟩), .ptr (some ⟨795, 0, 0⟩), .int .i64 (.ofNat 0), .int .i64 (.ofNat 0), .ptr none])])),
    (102, .amap .i64 []),
    (103, .cells (cellsR 228 2 2 false 0 0 0 false false [(0, 0, [.int .i64 (.ofNat 3), .map (some 102)])])),
    (108, .cells (cellsR 136 2 2 false 0 0 0 false false [(0, 0, (nats .i64 [1, 0]))])),
    (109, .cells (cellsR 112 26 26 false 0 0 0 false false [(0, 0, [.slice none 0 (.exact 0), .int .i64 (.ofNat 0), .int .u8 (.ofNat 128), .int .u8 (.ofNat 191), .int .i64 (.ofNat 0), .int .i32 (.ofNat 0), .str [], .int .i64 (.ofNat 0), .int .i64 (.ofNat 0), .int .i64 (.ofNat 0), .int .i64 (.ofNat 0), .int .i64 (.ofNat 0), .int .i64 (.ofNat 0), .int .i64 (.ofNat 0), .int .i64 (.ofNat 0), .int .i64 (.ofNat 0), .int .i64 (.ofNat 0), .int .i64 (.ofNat 0), .int .i64 (.ofNat 0), .int .i64 (.ofNat 0), .int .i64 (.ofNat 0), .int .i64 (.ofNat 0), .int .i64 (.ofNat 0), .int .i64 (.ofNat 0), .bool false, .slice none 0 (.exact 0)])])),
    (110, .cells (cellsR 48 3 3 false 0 0 0 false false [(0, 0, [.ptr (some ⟨109, 0, 0⟩), .ptr (some ⟨82, 0, 0⟩), .ptr (some ⟨108, 0, 0⟩)])])),
    (795, .cells (cellsR 176 2 2 false 0 0 0 false false [(0, 0, [.int .i64 (.ofNat 3), .slice (some ⟨854, 0, 0⟩) 1 .toEnd])])),
    (847, .cells (cellsR 143 16 48 true 0 0 0 false false [(0, 0, [.int .i32 (.ofNat 0), .int .i32 (.ofNat 0), .int .i32 (.ofNat 0), .int .i32 (.ofNat 0), .int .i64 (.ofNat 1), .int .i64 (.ofNat 0), .int .u8 (.ofNat 0), .int .u8 (.ofNat 0), .int .u8 (.ofNat 0), .int .u8 (.ofNat 0), .int .i64 (.ofNat 0), .int .u8 (.ofNat 0), .int .u8 (.ofNat 0), .int .u8 (.ofNat 0), .int .u8 (.ofNat 0), .int .u8 (.ofNat 0), .int .i32 (.ofNat 0), .int .i32 (.ofNat 0), .int .i32 (.ofNat 0), .int .i32 (.ofNat 0), .int .i64 (.ofNat 1), .int .i64 (.ofNat 0), .int .u8 (.ofNat 0), .int .u8 (.ofNat 0), .int .u8 (.ofNat 0), .int .u8 (.ofNat 0), .int .i64 (.ofNat 0), .int .u8 (.ofNat 0), .int .u8 (.ofNat 0), .int .u8 (.ofNat 0), .int .u8 (.ofNat 0), .int .u8 (.ofNat 0), .int .i32 (.ofNat 0), .int .i32 (.ofNat 0), .int .i32 (.ofNat 0), .int .i32 (.ofNat 0), .int .i64 (.ofNat 1), .int .i64 (.ofNat 0), .int .u8 (.ofNat 0), .int .u8 (.ofNat 0), .int .u8 (.ofNat 0), .int .u8 (.ofNat 0), .int .i64 (.ofNat 0), .int .u8 (.ofNat 0), .int .u8 (.ofNat 0), .int .u8 (.ofNat 0), .int .u8 (.ofNat 0), .int .u8 (.ofNat 0)])])),
    (854, .cells (cellsR 95 2 2 true 0 0 0 false false [(0, 0, [.slice (some ⟨847, 0, 0⟩) 3 .toEnd, .bool false])])),
    (859, .cells (cellsR 143 16 48 true 0 0 0 false false [(0, 0, [.int .i32 (.ofNat 97), .int .i32 (.ofNat 0), .int .i32 (.ofNat 0), .int .i32 (.ofNat 0), .int .i64 (.ofNat 1), .int .i64 (.ofNat 0), .int .u8 (.ofNat 0), .int .u8 (.ofNat 0), .int .u8 (.ofNat 0), .int .u8 (.ofNat 0), .int .i64 (.ofNat 0), .int .u8 (.ofNat 0), .int .u8 (.ofNat 0), .int .u8 (.ofNat 0), .int .u8 (.ofNat 0), .int .u8 (.ofNat 0), .int .i32 (.ofNat 98), .int .i32 (.ofNat 0), .int .i32 (.ofNat 0), .int .i32 (.ofNat 0), .int .i64 (.ofNat 1), .int .i64 (.ofNat 0), .int .u8 (.ofNat 0), .int .u8 (.ofNat 0), .int .u8 (.ofNat 0), .int .u8 (.ofNat 0), .int .i64 (.ofNat 0), .int .u8 (.ofNat 0), .int .u8 (.ofNat 0), .int .u8 (.ofNat 0), .int .u8 (.ofNat 0), .int .u8 (.ofNat 0), .int .i32 (.ofNat 0), .int .i32 (.ofNat 0), .int .i32 (.ofNat 0), .int .i32 (.ofNat 0), .int .i64 (.ofNat 1), .int .i64 (.ofNat 0), .int .u8 (.ofNat 0), .int .u8 (.ofNat 0), .int .u8 (.ofNat 0), .int .u8 (.ofNat 0), .int .i64 (.ofNat 0), .int .u8 (.ofNat 0), .int .u8 (.ofNat 0), .int .u8 (.ofNat 0), .int .u8 (.ofNat 0), .int .u8 (.ofNat 0)])])),
    (861, .cells (cellsR 95 2 2 true 0 0 0 false false [(0, 0, [.slice (some ⟨859, 0, 0⟩) 3 .toEnd, .bool false])])),
    (862, .cells (cellsR 176 2 2 false 0 0 0 false false [(0, 0, [.int .i64 (.ofNat 3), .slice (some ⟨861, 0, 0⟩) 1 .toEnd])]))]
  next' := 878
  low := 70 }
theorem kKnown0 : rKnown0.check Tryz.prog.globals.size (fcallO Tryz.prog okMask 0 60 noS noY (.func rKnown0.f) rKnown0.args rKnown0.heap) = true := by kernel_rfl
theorem sKnown0 : RecSound Tryz.prog rKnown0 := rec_sound Tryz.checked.mixed (good_of good) look_none kKnown0
end Go.Proofs.YtekbfckpnooloaaGreatDoor
