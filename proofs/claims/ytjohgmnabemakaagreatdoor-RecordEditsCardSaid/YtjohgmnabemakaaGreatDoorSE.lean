/- A part of the proof of RecordEdits. -/
import Derived.Test.YtjohgmnabemakaaGreatDoorS2
import Derived.Deep.RegionHeld3
import Derived.Deep.Light
import Derived.BigFrame
import Derived.Deep.CutBlock
namespace Go.Proofs.YtjohgmnabemakaaGreatDoor
open Go.RowKit Go.Rep
set_option maxRecDepth 100000
set_option maxHeartbeats 12000000 in
/-- What stands behind the loop. -/
theorem edits_after {r c h f t ti p : Int} {A A3 A1 A2 A4 : Option Addr} {m cp g g1 g2 g3 c3 n1 c1 n2 c2 n4 c4 N : Nat} {l : List Ev} {w wc : World} {x6 x7 x8 x9 x16 x17 x18 x19 x20 x21 x22 x23 x24 x25 x26 x27 x28 x29 x30 x31 x32 x33 x34 x35 x36 x37 x38 x39 x40 x41 x42 x43 x44 x45 x46 x47 x48 x49 x50 x51 x52 x53 x54 x55 x56 x57 x58 x59 x60 x61 x62 x63 x64 x65 x66 x67 x68 x69 x70 x71 x72 x73 x74 x75 x76 x77 x78 x79 x80 x81 x82 x83 x84 x85 x86 x87 x88 x89 x90 x91 x92 x93 x94 x95 x96 x97 x98 x99 x100 x101 x102 x103 x104 x105 x106 x107 x108 x109 x110 x111 x112 x113 x114 x115 x116 x117 x118 x119 x120 x121 x122 x123 x124 x125 x126 x127 x128 x129 x130 x131 x132 x133 x134 x135 x136 x137 x138 x139 x140 x141 x142 x143 x144 x145 x146 x147 x148 x149 x150 x151 x152 x153 x154 x155 x156 x157 x158 x159 x160 x161 x162 x163 x164 x165 x166 x167 x168 x169 x170 x171 x172 x173 x174 x175 x176 x177 x178 x179 x180 x181 x182 x183 x184 x185 x186 x187 x188 x189 x190 x191 x192 x193 x194 x195 x196 x197 x198 x199 x200 x201 x202 x203 x204 x205 x206 x207 x208 x209 x210 x211 x212 x213 x214 x215 x216 x217 x218 x219 x220 x221 x222 x223 x224 x225 x226 x227 x228 x229 x230 x231 x232 x233 x234 x235 x236 x237 x238 x239 x240 x241 x242 x243 x244 x245 x246 x247 x248 x249 x250 x251 x252 x253 x254 x255 x256 x257 x258 x259 x260 x261 x262 x263 x264 x265 x266 x267 : Value} (hw : Laid w) (hc3 : c3 ≤ maxLen) (hmc3 : m ≤ c3) (hm : m ≤ 20) (hn1 : n1 ≤ 20) (hn2 : n2 ≤ 20) (hn4 : n4 ≤ 20) (HLM : Hid (l.length = m)) (HV : Hid (validB r c h l = true)) (HS : Hid (smallB l = true))
    (F : Fin4 r c h w A m cp g g1 g2 g3 A3 c3 A1 n1 c1 A2 n2 c2 A4 n4 c4 l (oneTo l m) (cutW f t l) (speedK ti p l m) N wc) :
    (sq 7 (bodyOf Tryz.f3)).wp Tryz.prog (bodyPost Tryz.prog Tryz.f3 (YesP w)) { tmps := #[(.agg #[.int .i64 r, .int .i64 c, .int .i64 h, .slice A m cp]), (.int .i64 f), (.int .i64 t), (.int .i64 ti), (.int .i64 p), (.pointer (some ⟨w.heap.size, 0, none⟩)), x6, x7, x8, x9, (.bool false), (.pointer (some ⟨g, 0, none⟩)), (.pointer (some ⟨g1, 0, none⟩)), (.pointer (some ⟨g2, 0, none⟩)), (.pointer (some ⟨g3, 0, none⟩)), (.bool (longTo ti p l m)), x16, x17, x18, x19, x20, x21, x22, x23, x24, x25, x26, x27, x28, x29, x30, x31, x32, x33, x34, x35, x36, x37, x38, x39, x40, x41, x42, x43, x44, x45, x46, x47, x48, x49, x50, x51, x52, x53, x54, x55, x56, x57, x58, x59, x60, x61, x62, x63, x64, x65, x66, x67, x68, x69, x70, x71, x72, x73, x74, x75, x76, x77, x78, x79, x80, x81, x82, x83, x84, x85, x86, x87, x88, x89, x90, x91, x92, x93, x94, x95, x96, x97, x98, x99, x100, x101, x102, x103, x104, x105, x106, x107, x108, x109, x110, x111, x112, x113, x114, x115, x116, x117, x118, x119, x120, x121, x122, x123, x124, x125, x126, x127, x128, x129, x130, x131, x132, x133, x134, x135, x136, x137, x138, x139, x140, x141, x142, x143, x144, x145, x146, x147, x148, x149, x150, x151, x152, x153, x154, x155, x156, x157, x158, x159, x160, x161, x162, x163, x164, x165, x166, x167, x168, x169, x170, x171, x172, x173, x174, x175, x176, x177, x178, x179, x180, x181, x182, x183, x184, x185, x186, x187, x188, x189, x190, x191, x192, x193, x194, x195, x196, x197, x198, x199, x200, x201, x202, x203, x204, x205, x206, x207, x208, x209, x210, x211, x212, x213, x214, x215, x216, x217, x218, x219, x220, x221, x222, x223, x224, x225, x226, x227, x228, x229, x230, x231, x232, x233, x234, x235, x236, x237, x238, x239, x240, x241, x242, x243, x244, x245, x246, x247, x248, x249, x250, x251, x252, x253, x254, x255, x256, x257, x258, x259, x260, x261, x262, x263, x264, x265, x266, x267], defers := [] } wc := by
  show Code.wp Tryz.prog (sq 7 (bodyOf Tryz.f3)) (bodyPost Tryz.prog Tryz.f3 (YesP w)) _ _
  have hG := hw.size
  have HJ : Hid (joinTo l l.length = oneTo l m) := Lib.hid (by rw [HLM.out]; exact (one_join (small_all80 HS.out) (by have := HLM.out; omega) m (by have := HLM.out; omega)).1)
  have abX0 : wc.cell? ⟨w.heap.size, 0, none⟩ = some (.int .i64 r) := F.bX.cell 0
  have abX1 : wc.cell? ⟨w.heap.size, 1, none⟩ = some (.int .i64 c) := F.bX.cell 1
  have abX2 : wc.cell? ⟨w.heap.size, 2, none⟩ = some (.int .i64 h) := F.bX.cell 2
  have abX3 : wc.cell? ⟨w.heap.size, 3, none⟩ = some (.slice A m cp) := F.bX.cell 3
  have abO0 : wc.cell? ⟨g, 0, none⟩ = some (.int .i64 r) := F.bO.cell 0
  have abO1 : wc.cell? ⟨g, 1, none⟩ = some (.int .i64 c) := F.bO.cell 1
  have abO2 : wc.cell? ⟨g, 2, none⟩ = some (.int .i64 h) := F.bO.cell 2
  have abO3 : wc.cell? ⟨g, 3, none⟩ = some (.slice A3 m c3) := F.bO.cell 3
  have ab10 : wc.cell? ⟨g1, 0, none⟩ = some (.int .i64 r) := F.b1.cell 0
  have ab11 : wc.cell? ⟨g1, 1, none⟩ = some (.int .i64 c) := F.b1.cell 1
  have ab12 : wc.cell? ⟨g1, 2, none⟩ = some (.int .i64 h) := F.b1.cell 2
  have ab13 : wc.cell? ⟨g1, 3, none⟩ = some (.slice A1 n1 c1) := F.b1.cell 3
  have ab20 : wc.cell? ⟨g2, 0, none⟩ = some (.int .i64 r) := F.b2.cell 0
  have ab21 : wc.cell? ⟨g2, 1, none⟩ = some (.int .i64 c) := F.b2.cell 1
  have ab22 : wc.cell? ⟨g2, 2, none⟩ = some (.int .i64 h) := F.b2.cell 2
  have ab23 : wc.cell? ⟨g2, 3, none⟩ = some (.slice A2 n2 c2) := F.b2.cell 3
  have ab30 : wc.cell? ⟨g3, 0, none⟩ = some (.int .i64 r) := F.b3.cell 0
  have ab31 : wc.cell? ⟨g3, 1, none⟩ = some (.int .i64 c) := F.b3.cell 1
  have ab32 : wc.cell? ⟨g3, 2, none⟩ = some (.int .i64 h) := F.b3.cell 2
  have ab33 : wc.cell? ⟨g3, 3, none⟩ = some (.slice A4 n4 c4) := F.b3.cell 3
  conv => arg 2; simp only [bodyOf, Tryz.f3, sq]
  go_upto_block 2 with (go_at_call 7; refine (joins_yes F.rO F.hN hc3 hmc3 (by omega) HV.out (by rw [HJ.out]; exact F.r1) F.hN (by omega)).mono ?_; rintro e w1 ⟨rfl, hb1⟩; have F1 := F.below hb1)
  refine edits_cuts hc3 hmc3 hm hn1 hn2 hn4 HLM HV F1 ?_
  clear F F1 abX0 abX1 abX2 abX3 abO0 abO1 abO2 abO3 ab10 ab11 ab12 ab13 ab20 ab21 ab22 ab23 ab30 ab31 ab32 ab33
  intro w2 y190 y191 y192 y193 y194 y195 y196 y197 y198 y199 y200 y201 y202 y203 y204 y205 y206 y207 y208 y209 y210 y211 y212 y213 y214 y215 y216 y217 y218 y219 y220 y221 y222 y223 y224 y225 y226 F
  go_upto_block 3 with fail
  refine edits_speeds hc3 hmc3 hm hn1 hn2 hn4 HLM HV F ?_
  clear F
  intro wx z227 z228 z229 z230 z231 z232 z233 z234 z235 z236 z237 z238 z239 z240 z241 z242 z243 z244 z245 z246 z247 z248 z249 z250 z251 z252 z253 z254 z255 z256 z257 z258 z259 z260 z261 F
  have dbX0 : wx.cell? ⟨w.heap.size, 0, none⟩ = some (.int .i64 r) := F.bX.cell 0
  have dbX1 : wx.cell? ⟨w.heap.size, 1, none⟩ = some (.int .i64 c) := F.bX.cell 1
  have dbX2 : wx.cell? ⟨w.heap.size, 2, none⟩ = some (.int .i64 h) := F.bX.cell 2
  have dbX3 : wx.cell? ⟨w.heap.size, 3, none⟩ = some (.slice A m cp) := F.bX.cell 3
  have dbO0 : wx.cell? ⟨g, 0, none⟩ = some (.int .i64 r) := F.bO.cell 0
  have dbO1 : wx.cell? ⟨g, 1, none⟩ = some (.int .i64 c) := F.bO.cell 1
  have dbO2 : wx.cell? ⟨g, 2, none⟩ = some (.int .i64 h) := F.bO.cell 2
  have dbO3 : wx.cell? ⟨g, 3, none⟩ = some (.slice A3 m c3) := F.bO.cell 3
  have db10 : wx.cell? ⟨g1, 0, none⟩ = some (.int .i64 r) := F.b1.cell 0
  have db11 : wx.cell? ⟨g1, 1, none⟩ = some (.int .i64 c) := F.b1.cell 1
  have db12 : wx.cell? ⟨g1, 2, none⟩ = some (.int .i64 h) := F.b1.cell 2
  have db13 : wx.cell? ⟨g1, 3, none⟩ = some (.slice A1 n1 c1) := F.b1.cell 3
  have db20 : wx.cell? ⟨g2, 0, none⟩ = some (.int .i64 r) := F.b2.cell 0
  have db21 : wx.cell? ⟨g2, 1, none⟩ = some (.int .i64 c) := F.b2.cell 1
  have db22 : wx.cell? ⟨g2, 2, none⟩ = some (.int .i64 h) := F.b2.cell 2
  have db23 : wx.cell? ⟨g2, 3, none⟩ = some (.slice A2 n2 c2) := F.b2.cell 3
  have db30 : wx.cell? ⟨g3, 0, none⟩ = some (.int .i64 r) := F.b3.cell 0
  have db31 : wx.cell? ⟨g3, 1, none⟩ = some (.int .i64 c) := F.b3.cell 1
  have db32 : wx.cell? ⟨g3, 2, none⟩ = some (.int .i64 h) := F.b3.cell 2
  have db33 : wx.cell? ⟨g3, 3, none⟩ = some (.slice A4 n4 c4) := F.b3.cell 3
  go_wp2_with (first
    | (go_at_call 10; refine (same_eq F.rO F.hN F.rX F.hN (by omega)).mono ?_; rintro e w5 ⟨rfl, hb5⟩; have hbw5 := F.hb.trans (hb5.mono F.hb.size); have hT5 := tab_up hG hbw5 hw)
    | (go_at_call 5; refine (any_Known _ hT5).mono ?_; rintro e w6 ⟨rfl, hb6⟩; have hbw6 := hbw5.trans (hb6.mono hbw5.size)))
  go_ret
  exact ⟨rfl, hbw6⟩
end Go.Proofs.YtjohgmnabemakaaGreatDoor
