/- A part of the proof of ScreenReplies. -/
import Derived.Test.YtmoeainaojbiiaaGreatDoorGood
import Derived.Test.YtmoeainaojbiiaaGreatDoorAbsI
namespace Go.Proofs.YtmoeainaojbiiaaGreatDoor
open Go.Abs
set_option maxRecDepth 100000
/-- k replies. -/
noncomputable def rep (k : Nat) : List UInt8 := Nat.rec (motive := fun _ => List UInt8) [] (fun _ l => 27 :: 91 :: 49 :: 59 :: 49 :: 82 :: l) k
/-- A screen with k replies. -/
noncomputable def scr (k : Nat) : List (Nat × AObj) := [(20, .cells (cellsR 54 73 73 false 0 0 0 false false [(0, 0, [.int .i64 (.ofNat 2), .int .i64 (.ofNat 9), .ptr (some ⟨21, 0, 0⟩), .ptr (some ⟨19, 0, 0⟩), .int .i64 (.ofNat 0), .int .i64 (.ofNat 0), .bool false, .int .i64 (.ofNat 0), .int .u8 (.ofNat 0), .int .u8 (.ofNat 0), .int .u8 (.ofNat 0), .int .u8 (.ofNat 0), .int .i64 (.ofNat 0), .int .u8 (.ofNat 0), .int .u8 (.ofNat 0), .int .u8 (.ofNat 0), .int .u8 (.ofNat 0), .int .u8 (.ofNat 0), .bool true, .bool false, .bool false, .bool true, .bool false, .bool false, .bool false, .int .i64 (.ofNat 0), .int .i64 (.ofNat 0), .int .i64 (.ofNat 0), .int .i64 (.ofNat 1), .ptr (some ⟨55, 0, 0⟩), .int .i64 (.ofNat 0), .int .i64 (.ofNat 0), .int .i64 (.ofNat 0), .int .i64 (.ofNat 0), .int .i64 (.ofNat 0), .bool false, .int .i64 (.ofNat 0), .int .u8 (.ofNat 0), .int .u8 (.ofNat 0), .int .u8 (.ofNat 0), .int .u8 (.ofNat 0), .int .i64 (.ofNat 0), .int .u8 (.ofNat 0), .int .u8 (.ofNat 0), .int .u8 (.ofNat 0), .int .u8 (.ofNat 0), .int .u8 (.ofNat 0), .bool false, .int .i64 (.ofNat 0), .int .i64 (.ofNat 0), .int .i64 (.ofNat 0), .int .i64 (.ofNat 0), .int .i64 (.ofNat 0), .bool false, .int .i64 (.ofNat 0), .int .u8 (.ofNat 0), .int .u8 (.ofNat 0), .int .u8 (.ofNat 0), .int .u8 (.ofNat 0), .int .i64 (.ofNat 0), .int .u8 (.ofNat 0), .int .u8 (.ofNat 0), .int .u8 (.ofNat 0), .int .u8 (.ofNat 0), .int .u8 (.ofNat 0), .bool false, .int .i64 (.ofNat 0), .int .i64 (.ofNat 0), .int .i64 (.ofNat 0), .str [], .str [], .str (rep k), .int .i64 (.ofNat 0)])])),
  (21, .cells (cellsR 125 5 5 false 0 0 0 false false [(0, 0, [.ptr (some ⟨22, 0, 0⟩), .ptr (some ⟨38, 0, 0⟩), .int .i64 (.ofNat 0), .int .i64 (.ofNat 0), .ptr none])]))]
def scrAt : APtr := ⟨20, 0, 0⟩
noncomputable def doesAt (k : Nat) : Bool := endsAt 60 (.bool true) (scr (k + 1)) 60 (fstep okMask Tryz.prog (fcallO Tryz.prog okMask 0 60 noS noY) (fun i hd => fcallO Tryz.prog okMask 0 60 noS (fext noY i hd)) 7 [.ptr (some scrAt), .int .i32 (.ofNat 0), .int .i64 (.ofNat 6), .int .i32 (.ofNat 110)] (heapL (scr k) 60))
noncomputable def fullAt : Bool := endsAt 60 (.bool true) (scr 682) 60 (fstep okMask Tryz.prog (fcallO Tryz.prog okMask 0 60 noS noY) (fun i hd => fcallO Tryz.prog okMask 0 60 noS (fext noY i hd)) 7 [.ptr (some scrAt), .int .i32 (.ofNat 0), .int .i64 (.ofNat 6), .int .i32 (.ofNat 110)] (heapL (scr 682) 60))
noncomputable def saysAt (k : Nat) : Bool := endsAt 60 (.str (rep k)) (scr 0) 60 (fstep okMask Tryz.prog (fcallO Tryz.prog okMask 0 60 noS noY) (fun i hd => fcallO Tryz.prog okMask 0 60 noS (fext noY i hd)) 8 [.ptr (some scrAt)] (heapL (scr k) 60))
/-- A stretch of numbers. -/
def stretch (a n : Nat) : List Nat := (List.range n).map (a + ·)
end Go.Proofs.YtmoeainaojbiiaaGreatDoor
