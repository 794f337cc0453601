/- A part of the proof of TermNew. -/
import Derived.Test.YtbnnnmohggladabGreatDoorNF
import Derived.Deep.RegionHeld3
namespace Go.Proofs.YtbnnnmohggladabGreatDoor
open Go.RowKit Go.Rep
set_option maxRecDepth 100000
theorem lines_none (w : World) : Lines w w.heap.size (.slice none 0 0) 0 1 := ⟨[], World.ownsRow_nil _ _ _ _, fun i h => absurd h (by omega)⟩
/-- What lies of a new screen. -/
structure ScrAt (w : World) (s n m h : Nat) (q r p g bb : Nat) (b v st : Value) : Prop where
  scr : Blk w s 118 (SC n m (.pointer (some ⟨p, 0, none⟩)) (.pointer (some ⟨q, 0, none⟩)) st true true ((n : Int) - 1))
  hist : Blk w q 144 #[.pointer (some ⟨r, 0, none⟩)]
  ring : Blk w r 208 (RING h)
  pair : Blk w p 181 #[.pointer (some ⟨g, 0, none⟩), b, .int .i64 0, .int .i64 0, .pointer none]
  grid : Blk w g 183 #[.int .i64 m, v]
  lines : Lines w bb v n m
theorem ScrAt.below {w w' : World} {s n m h q r p g bb : Nat} {b v st : Value} (H : ScrAt w s n m h q r p g bb b v st) (hb : Below w.heap.size w w') : ScrAt w' s n m h q r p g bb b v st :=
  ⟨H.scr.below hb H.scr.lt, H.hist.below hb H.hist.lt, H.ring.below hb H.ring.lt, H.pair.below hb H.pair.lt, H.grid.below hb H.grid.lt, lines_below H.lines hb⟩
/-- What lies of the reference's new screen. -/
structure RefAt (w : World) (s n m h : Nat) (p g bb : Nat) (b v st : Value) : Prop where
  scr : Blk w s 89 (SR n m h (.pointer (some ⟨p, 0, none⟩)) st true true ((n : Int) - 1))
  pair : Blk w p 216 #[.pointer (some ⟨g, 0, none⟩), b, .int .i64 0, .int .i64 0, .int .i64 0, .bool false, .int .i64 0, .int .u8 0, .int .u8 0, .int .u8 0, .int .u8 0, .int .i64 0, .int .u8 0, .int .u8 0, .int .u8 0, .int .u8 0, .int .u8 0, .bool false, .int .i64 0, .int .i64 0, .int .i64 0, .bool false]
  grid : Blk w g 166 #[.int .i64 m, v]
  lines : Lines w bb v n m
theorem RefAt.below {w w' : World} {s n m h p g bb : Nat} {b v st : Value} (H : RefAt w s n m h p g bb b v st) (hb : Below w.heap.size w w') : RefAt w' s n m h p g bb b v st :=
  ⟨H.scr.below hb H.scr.lt, H.pair.below hb H.pair.lt, H.grid.below hb H.grid.lt, lines_below H.lines hb⟩
end Go.Proofs.YtbnnnmohggladabGreatDoor
