/- A part of the proof of RecordEdits. -/
import Derived.Test.YtjohgmnabemakaaGreatDoorS1
import Derived.Deep.RegionHeld3
import Derived.Deep.Light
import Derived.BigFrame
import Derived.Deep.CutBlock
namespace Go.Proofs.YtjohgmnabemakaaGreatDoor
open Go.RowKit Go.Rep
set_option maxRecDepth 100000
set_option maxHeartbeats 12000000 in
/-- What is cut. -/
theorem edits_cuts {r c h f t ti p : Int} {A A3 A1 A2 A4 : Option Addr} {m cp g g1 g2 g3 c3 n1 c1 n2 c2 n4 c4 N : Nat} {l : List Ev} {w wc : World} {x6 x7 x8 x9 x15 x16 x17 x18 x19 x20 x21 x22 x23 x24 x25 x26 x27 x28 x29 x30 x31 x32 x33 x34 x35 x36 x37 x38 x39 x40 x41 x42 x43 x44 x45 x46 x47 x48 x49 x50 x51 x52 x53 x54 x55 x56 x57 x58 x59 x60 x61 x62 x63 x64 x65 x66 x67 x68 x69 x70 x71 x72 x73 x74 x75 x76 x77 x78 x79 x80 x81 x82 x83 x84 x85 x86 x87 x88 x89 x90 x91 x92 x93 x94 x95 x96 x97 x98 x99 x100 x101 x102 x103 x104 x105 x106 x107 x108 x109 x110 x111 x112 x113 x114 x115 x116 x117 x118 x119 x120 x121 x122 x123 x124 x125 x126 x127 x128 x129 x130 x131 x132 x133 x134 x135 x136 x137 x138 x139 x140 x141 x142 x143 x144 x145 x146 x147 x148 x149 x150 x151 x152 x153 x154 x155 x156 x157 x158 x159 x160 x161 x162 x163 x164 x165 x166 x167 x168 x169 x170 x171 x172 x173 x174 x175 x176 x177 x178 x179 x180 x181 x182 x183 x184 x185 x186 x187 x188 x189 x190 x191 x192 x193 x194 x195 x196 x197 x198 x199 x200 x201 x202 x203 x204 x205 x206 x207 x208 x209 x210 x211 x212 x213 x214 x215 x216 x217 x218 x219 x220 x221 x222 x223 x224 x225 x226 x227 x228 x229 x230 x231 x232 x233 x234 x235 x236 x237 x238 x239 x240 x241 x242 x243 x244 x245 x246 x247 x248 x249 x250 x251 x252 x253 x254 x255 x256 x257 x258 x259 x260 x261 x262 x263 x264 x265 x266 x267 : Value} {Q : Exit → Act → World → Prop} (hc3 : c3 ≤ maxLen) (hmc3 : m ≤ c3) (hm : m ≤ 20) (_hn1 : n1 ≤ 20) (hn2 : n2 ≤ 20) (_hn4 : n4 ≤ 20) (_HLM : Hid (l.length = m)) (HV : Hid (validB r c h l = true))
    (F : Fin4 r c h w A m cp g g1 g2 g3 A3 c3 A1 n1 c1 A2 n2 c2 A4 n4 c4 l (oneTo l m) (cutW f t l) (speedK ti p l m) N wc)
    (hQ : ∀ (wx : World) (y190 y191 y192 y193 y194 y195 y196 y197 y198 y199 y200 y201 y202 y203 y204 y205 y206 y207 y208 y209 y210 y211 y212 y213 y214 y215 y216 y217 y218 y219 y220 y221 y222 y223 y224 y225 y226 : Value), Fin4 r c h w A m cp g g1 g2 g3 A3 c3 A1 n1 c1 A2 n2 c2 A4 n4 c4 l (oneTo l m) (cutW f t l) (speedK ti p l m) N wx → Q .normal { tmps := #[(.agg #[.int .i64 r, .int .i64 c, .int .i64 h, .slice A m cp]), (.int .i64 f), (.int .i64 t), (.int .i64 ti), (.int .i64 p), (.pointer (some ⟨w.heap.size, 0, none⟩)), x6, x7, x8, x9, (.bool false), (.pointer (some ⟨g, 0, none⟩)), (.pointer (some ⟨g1, 0, none⟩)), (.pointer (some ⟨g2, 0, none⟩)), (.pointer (some ⟨g3, 0, none⟩)), x15, x16, x17, x18, x19, x20, x21, x22, x23, x24, x25, x26, x27, x28, x29, x30, x31, x32, x33, x34, x35, x36, x37, x38, x39, x40, x41, x42, x43, x44, x45, x46, x47, x48, x49, x50, x51, x52, x53, x54, x55, x56, x57, x58, x59, x60, x61, x62, x63, x64, x65, x66, x67, x68, x69, x70, x71, x72, x73, x74, x75, x76, x77, x78, x79, x80, x81, x82, x83, x84, x85, x86, x87, x88, x89, x90, x91, x92, x93, x94, x95, x96, x97, x98, x99, x100, x101, x102, x103, x104, x105, x106, x107, x108, x109, x110, x111, x112, x113, x114, x115, x116, x117, x118, x119, x120, x121, x122, x123, x124, x125, x126, x127, x128, x129, x130, x131, x132, x133, x134, x135, x136, x137, x138, x139, x140, x141, x142, x143, x144, x145, x146, x147, x148, x149, x150, x151, x152, x153, x154, x155, x156, x157, x158, x159, x160, x161, x162, x163, x164, x165, x166, x167, x168, x169, x170, x171, x172, x173, x174, x175, x176, x177, x178, x179, x180, x181, x182, x183, x184, x185, x186, x187, x188, x189, y190, y191, y192, y193, y194, y195, y196, y197, y198, y199, y200, y201, y202, y203, y204, y205, y206, y207, y208, y209, y210, y211, y212, y213, y214, y215, y216, y217, y218, y219, y220, y221, y222, y223, y224, y225, y226, x227, x228, x229, x230, x231, x232, x233, x234, x235, x236, x237, x238, x239, x240, x241, x242, x243, x244, x245, x246, x247, x248, x249, x250, x251, x252, x253, x254, x255, x256, x257, x258, x259, x260, x261, x262, x263, x264, x265, x266, x267], defers := [] } wx) :
    (fs (sq 8 (bodyOf Tryz.f3))).wp Tryz.prog Q { tmps := #[(.agg #[.int .i64 r, .int .i64 c, .int .i64 h, .slice A m cp]), (.int .i64 f), (.int .i64 t), (.int .i64 ti), (.int .i64 p), (.pointer (some ⟨w.heap.size, 0, none⟩)), x6, x7, x8, x9, (.bool false), (.pointer (some ⟨g, 0, none⟩)), (.pointer (some ⟨g1, 0, none⟩)), (.pointer (some ⟨g2, 0, none⟩)), (.pointer (some ⟨g3, 0, none⟩)), x15, x16, x17, x18, x19, x20, x21, x22, x23, x24, x25, x26, x27, x28, x29, x30, x31, x32, x33, x34, x35, x36, x37, x38, x39, x40, x41, x42, x43, x44, x45, x46, x47, x48, x49, x50, x51, x52, x53, x54, x55, x56, x57, x58, x59, x60, x61, x62, x63, x64, x65, x66, x67, x68, x69, x70, x71, x72, x73, x74, x75, x76, x77, x78, x79, x80, x81, x82, x83, x84, x85, x86, x87, x88, x89, x90, x91, x92, x93, x94, x95, x96, x97, x98, x99, x100, x101, x102, x103, x104, x105, x106, x107, x108, x109, x110, x111, x112, x113, x114, x115, x116, x117, x118, x119, x120, x121, x122, x123, x124, x125, x126, x127, x128, x129, x130, x131, x132, x133, x134, x135, x136, x137, x138, x139, x140, x141, x142, x143, x144, x145, x146, x147, x148, x149, x150, x151, x152, x153, x154, x155, x156, x157, x158, x159, x160, x161, x162, x163, x164, x165, x166, x167, x168, x169, x170, x171, x172, x173, x174, x175, x176, x177, x178, x179, x180, x181, x182, x183, x184, x185, x186, x187, x188, x189, x190, x191, x192, x193, x194, x195, x196, x197, x198, x199, x200, x201, x202, x203, x204, x205, x206, x207, x208, x209, x210, x211, x212, x213, x214, x215, x216, x217, x218, x219, x220, x221, x222, x223, x224, x225, x226, x227, x228, x229, x230, x231, x232, x233, x234, x235, x236, x237, x238, x239, x240, x241, x242, x243, x244, x245, x246, x247, x248, x249, x250, x251, x252, x253, x254, x255, x256, x257, x258, x259, x260, x261, x262, x263, x264, x265, x266, x267], defers := [] } wc := by
  simp only [bodyOf, Tryz.f3, sq, fs]
  have HQ := Lib.hid hQ
  clear hQ
  have abX0 : wc.cell? ⟨w.heap.size, 0, none⟩ = some (.int .i64 r) := F.bX.cell 0
  have abX1 : wc.cell? ⟨w.heap.size, 1, none⟩ = some (.int .i64 c) := F.bX.cell 1
  have abX2 : wc.cell? ⟨w.heap.size, 2, none⟩ = some (.int .i64 h) := F.bX.cell 2
  have abX3 : wc.cell? ⟨w.heap.size, 3, none⟩ = some (.slice A m cp) := F.bX.cell 3
  have abO0 : wc.cell? ⟨g, 0, none⟩ = some (.int .i64 r) := F.bO.cell 0
  have abO1 : wc.cell? ⟨g, 1, none⟩ = some (.int .i64 c) := F.bO.cell 1
  have abO2 : wc.cell? ⟨g, 2, none⟩ = some (.int .i64 h) := F.bO.cell 2
  have abO3 : wc.cell? ⟨g, 3, none⟩ = some (.slice A3 m c3) := F.bO.cell 3
  have ab10 : wc.cell? ⟨g1, 0, none⟩ = some (.int .i64 r) := F.b1.cell 0
  have ab11 : wc.cell? ⟨g1, 1, none⟩ = some (.int .i64 c) := F.b1.cell 1
  have ab12 : wc.cell? ⟨g1, 2, none⟩ = some (.int .i64 h) := F.b1.cell 2
  have ab13 : wc.cell? ⟨g1, 3, none⟩ = some (.slice A1 n1 c1) := F.b1.cell 3
  have ab20 : wc.cell? ⟨g2, 0, none⟩ = some (.int .i64 r) := F.b2.cell 0
  have ab21 : wc.cell? ⟨g2, 1, none⟩ = some (.int .i64 c) := F.b2.cell 1
  have ab22 : wc.cell? ⟨g2, 2, none⟩ = some (.int .i64 h) := F.b2.cell 2
  have ab23 : wc.cell? ⟨g2, 3, none⟩ = some (.slice A2 n2 c2) := F.b2.cell 3
  have ab30 : wc.cell? ⟨g3, 0, none⟩ = some (.int .i64 r) := F.b3.cell 0
  have ab31 : wc.cell? ⟨g3, 1, none⟩ = some (.int .i64 c) := F.b3.cell 1
  have ab32 : wc.cell? ⟨g3, 2, none⟩ = some (.int .i64 h) := F.b3.cell 2
  have ab33 : wc.cell? ⟨g3, 3, none⟩ = some (.slice A4 n4 c4) := F.b3.cell 3
  by_cases h1 : f < 0
  · go_wp2_with (go_at_call 8; refine (cuts_arg F.rO F.hN hc3 hmc3 HV.out (.inl h1)).mono ?_; rintro e w9 ⟨rfl, hb9⟩; have F9 := F.below hb9)
    exact HQ.out w9 _ _ _ _ _ _ _ _ _ _ _ _ _ _ _ _ _ _ _ _ _ _ _ _ _ _ _ _ _ _ _ _ _ _ _ _ _ F9
  · by_cases h2 : 1099511627776 < f
    · go_wp2_with (go_at_call 8; refine (cuts_arg F.rO F.hN hc3 hmc3 HV.out (.inr (.inl h2))).mono ?_; rintro e w9 ⟨rfl, hb9⟩; have F9 := F.below hb9)
      exact HQ.out w9 _ _ _ _ _ _ _ _ _ _ _ _ _ _ _ _ _ _ _ _ _ _ _ _ _ _ _ _ _ _ _ _ _ _ _ _ _ F9
    · by_cases h3 : t < 0
      · go_wp2_with (go_at_call 8; refine (cuts_arg F.rO F.hN hc3 hmc3 HV.out (.inr (.inr (.inl h3)))).mono ?_; rintro e w9 ⟨rfl, hb9⟩; have F9 := F.below hb9)
        exact HQ.out w9 _ _ _ _ _ _ _ _ _ _ _ _ _ _ _ _ _ _ _ _ _ _ _ _ _ _ _ _ _ _ _ _ _ _ _ _ _ F9
      · by_cases h4 : 1099511627776 < t
        · go_wp2_with (go_at_call 8; refine (cuts_arg F.rO F.hN hc3 hmc3 HV.out (.inr (.inr (.inr h4)))).mono ?_; rintro e w9 ⟨rfl, hb9⟩; have F9 := F.below hb9)
          exact HQ.out w9 _ _ _ _ _ _ _ _ _ _ _ _ _ _ _ _ _ _ _ _ _ _ _ _ _ _ _ _ _ _ _ _ _ _ _ _ _ F9
        · by_cases h5 : t < f
          · go_wp2_with (go_at_call 8; refine (cuts_order F.rO F.hN hc3 hmc3 HV.out (by omega) (by omega) (by omega) (by omega) h5).mono ?_; rintro e w9 ⟨rfl, hb9⟩; have F9 := F.below hb9)
            exact HQ.out w9 _ _ _ _ _ _ _ _ _ _ _ _ _ _ _ _ _ _ _ _ _ _ _ _ _ _ _ _ _ _ _ _ _ _ _ _ _ F9
          · have hcw : cutW f t l = cutL f t l := cutW_eq (by have := HV.out; unfold validB at this; simp only [Bool.and_eq_true] at this; exact this.2) (by omega) (by omega)
            have hr2 := F.r2
            rw [hcw] at hr2
            have HR2 := Lib.hid hr2
            clear hcw hr2
            go_wp2_with (go_at_call 8; refine (cuts_yes F.rO F.hN hc3 hmc3 (by omega) HV.out (by omega) (by omega) (by omega) HR2.out F.hN (by omega)).mono ?_; rintro e w9 ⟨rfl, hb9⟩; have F9 := F.below hb9)
            exact HQ.out w9 _ _ _ _ _ _ _ _ _ _ _ _ _ _ _ _ _ _ _ _ _ _ _ _ _ _ _ _ _ _ _ _ _ _ _ _ _ F9
end Go.Proofs.YtjohgmnabemakaaGreatDoor

namespace Go.Proofs.YtjohgmnabemakaaGreatDoor
open Go.RowKit Go.Rep
set_option maxRecDepth 100000
set_option maxHeartbeats 12000000 in
/-- What is made faster. -/
theorem edits_speeds {r c h f t ti p : Int} {A A3 A1 A2 A4 : Option Addr} {m cp g g1 g2 g3 c3 n1 c1 n2 c2 n4 c4 N : Nat} {l : List Ev} {w wc : World} {x6 x7 x8 x9 x16 x17 x18 x19 x20 x21 x22 x23 x24 x25 x26 x27 x28 x29 x30 x31 x32 x33 x34 x35 x36 x37 x38 x39 x40 x41 x42 x43 x44 x45 x46 x47 x48 x49 x50 x51 x52 x53 x54 x55 x56 x57 x58 x59 x60 x61 x62 x63 x64 x65 x66 x67 x68 x69 x70 x71 x72 x73 x74 x75 x76 x77 x78 x79 x80 x81 x82 x83 x84 x85 x86 x87 x88 x89 x90 x91 x92 x93 x94 x95 x96 x97 x98 x99 x100 x101 x102 x103 x104 x105 x106 x107 x108 x109 x110 x111 x112 x113 x114 x115 x116 x117 x118 x119 x120 x121 x122 x123 x124 x125 x126 x127 x128 x129 x130 x131 x132 x133 x134 x135 x136 x137 x138 x139 x140 x141 x142 x143 x144 x145 x146 x147 x148 x149 x150 x151 x152 x153 x154 x155 x156 x157 x158 x159 x160 x161 x162 x163 x164 x165 x166 x167 x168 x169 x170 x171 x172 x173 x174 x175 x176 x177 x178 x179 x180 x181 x182 x183 x184 x185 x186 x187 x188 x189 x190 x191 x192 x193 x194 x195 x196 x197 x198 x199 x200 x201 x202 x203 x204 x205 x206 x207 x208 x209 x210 x211 x212 x213 x214 x215 x216 x217 x218 x219 x220 x221 x222 x223 x224 x225 x226 x227 x228 x229 x230 x231 x232 x233 x234 x235 x236 x237 x238 x239 x240 x241 x242 x243 x244 x245 x246 x247 x248 x249 x250 x251 x252 x253 x254 x255 x256 x257 x258 x259 x260 x261 x262 x263 x264 x265 x266 x267 : Value} {Q : Exit → Act → World → Prop} (hc3 : c3 ≤ maxLen) (hmc3 : m ≤ c3) (hm : m ≤ 20) (_hn1 : n1 ≤ 20) (_hn2 : n2 ≤ 20) (hn4 : n4 ≤ 20) (HLM : Hid (l.length = m)) (HV : Hid (validB r c h l = true))
    (F : Fin4 r c h w A m cp g g1 g2 g3 A3 c3 A1 n1 c1 A2 n2 c2 A4 n4 c4 l (oneTo l m) (cutW f t l) (speedK ti p l m) N wc)
    (hQ : ∀ (wx : World) (y227 y228 y229 y230 y231 y232 y233 y234 y235 y236 y237 y238 y239 y240 y241 y242 y243 y244 y245 y246 y247 y248 y249 y250 y251 y252 y253 y254 y255 y256 y257 y258 y259 y260 y261 : Value), Fin4 r c h w A m cp g g1 g2 g3 A3 c3 A1 n1 c1 A2 n2 c2 A4 n4 c4 l (oneTo l m) (cutW f t l) (speedK ti p l m) N wx → Q .normal { tmps := #[(.agg #[.int .i64 r, .int .i64 c, .int .i64 h, .slice A m cp]), (.int .i64 f), (.int .i64 t), (.int .i64 ti), (.int .i64 p), (.pointer (some ⟨w.heap.size, 0, none⟩)), x6, x7, x8, x9, (.bool false), (.pointer (some ⟨g, 0, none⟩)), (.pointer (some ⟨g1, 0, none⟩)), (.pointer (some ⟨g2, 0, none⟩)), (.pointer (some ⟨g3, 0, none⟩)), (.bool (longTo ti p l m)), x16, x17, x18, x19, x20, x21, x22, x23, x24, x25, x26, x27, x28, x29, x30, x31, x32, x33, x34, x35, x36, x37, x38, x39, x40, x41, x42, x43, x44, x45, x46, x47, x48, x49, x50, x51, x52, x53, x54, x55, x56, x57, x58, x59, x60, x61, x62, x63, x64, x65, x66, x67, x68, x69, x70, x71, x72, x73, x74, x75, x76, x77, x78, x79, x80, x81, x82, x83, x84, x85, x86, x87, x88, x89, x90, x91, x92, x93, x94, x95, x96, x97, x98, x99, x100, x101, x102, x103, x104, x105, x106, x107, x108, x109, x110, x111, x112, x113, x114, x115, x116, x117, x118, x119, x120, x121, x122, x123, x124, x125, x126, x127, x128, x129, x130, x131, x132, x133, x134, x135, x136, x137, x138, x139, x140, x141, x142, x143, x144, x145, x146, x147, x148, x149, x150, x151, x152, x153, x154, x155, x156, x157, x158, x159, x160, x161, x162, x163, x164, x165, x166, x167, x168, x169, x170, x171, x172, x173, x174, x175, x176, x177, x178, x179, x180, x181, x182, x183, x184, x185, x186, x187, x188, x189, x190, x191, x192, x193, x194, x195, x196, x197, x198, x199, x200, x201, x202, x203, x204, x205, x206, x207, x208, x209, x210, x211, x212, x213, x214, x215, x216, x217, x218, x219, x220, x221, x222, x223, x224, x225, x226, y227, y228, y229, y230, y231, y232, y233, y234, y235, y236, y237, y238, y239, y240, y241, y242, y243, y244, y245, y246, y247, y248, y249, y250, y251, y252, y253, y254, y255, y256, y257, y258, y259, y260, y261, x262, x263, x264, x265, x266, x267], defers := [] } wx) :
    (fs (sq 9 (bodyOf Tryz.f3))).wp Tryz.prog Q { tmps := #[(.agg #[.int .i64 r, .int .i64 c, .int .i64 h, .slice A m cp]), (.int .i64 f), (.int .i64 t), (.int .i64 ti), (.int .i64 p), (.pointer (some ⟨w.heap.size, 0, none⟩)), x6, x7, x8, x9, (.bool false), (.pointer (some ⟨g, 0, none⟩)), (.pointer (some ⟨g1, 0, none⟩)), (.pointer (some ⟨g2, 0, none⟩)), (.pointer (some ⟨g3, 0, none⟩)), (.bool (longTo ti p l m)), x16, x17, x18, x19, x20, x21, x22, x23, x24, x25, x26, x27, x28, x29, x30, x31, x32, x33, x34, x35, x36, x37, x38, x39, x40, x41, x42, x43, x44, x45, x46, x47, x48, x49, x50, x51, x52, x53, x54, x55, x56, x57, x58, x59, x60, x61, x62, x63, x64, x65, x66, x67, x68, x69, x70, x71, x72, x73, x74, x75, x76, x77, x78, x79, x80, x81, x82, x83, x84, x85, x86, x87, x88, x89, x90, x91, x92, x93, x94, x95, x96, x97, x98, x99, x100, x101, x102, x103, x104, x105, x106, x107, x108, x109, x110, x111, x112, x113, x114, x115, x116, x117, x118, x119, x120, x121, x122, x123, x124, x125, x126, x127, x128, x129, x130, x131, x132, x133, x134, x135, x136, x137, x138, x139, x140, x141, x142, x143, x144, x145, x146, x147, x148, x149, x150, x151, x152, x153, x154, x155, x156, x157, x158, x159, x160, x161, x162, x163, x164, x165, x166, x167, x168, x169, x170, x171, x172, x173, x174, x175, x176, x177, x178, x179, x180, x181, x182, x183, x184, x185, x186, x187, x188, x189, x190, x191, x192, x193, x194, x195, x196, x197, x198, x199, x200, x201, x202, x203, x204, x205, x206, x207, x208, x209, x210, x211, x212, x213, x214, x215, x216, x217, x218, x219, x220, x221, x222, x223, x224, x225, x226, x227, x228, x229, x230, x231, x232, x233, x234, x235, x236, x237, x238, x239, x240, x241, x242, x243, x244, x245, x246, x247, x248, x249, x250, x251, x252, x253, x254, x255, x256, x257, x258, x259, x260, x261, x262, x263, x264, x265, x266, x267], defers := [] } wc := by
  simp only [bodyOf, Tryz.f3, sq, fs]
  have HQ := Lib.hid hQ
  clear hQ
  have abX0 : wc.cell? ⟨w.heap.size, 0, none⟩ = some (.int .i64 r) := F.bX.cell 0
  have abX1 : wc.cell? ⟨w.heap.size, 1, none⟩ = some (.int .i64 c) := F.bX.cell 1
  have abX2 : wc.cell? ⟨w.heap.size, 2, none⟩ = some (.int .i64 h) := F.bX.cell 2
  have abX3 : wc.cell? ⟨w.heap.size, 3, none⟩ = some (.slice A m cp) := F.bX.cell 3
  have abO0 : wc.cell? ⟨g, 0, none⟩ = some (.int .i64 r) := F.bO.cell 0
  have abO1 : wc.cell? ⟨g, 1, none⟩ = some (.int .i64 c) := F.bO.cell 1
  have abO2 : wc.cell? ⟨g, 2, none⟩ = some (.int .i64 h) := F.bO.cell 2
  have abO3 : wc.cell? ⟨g, 3, none⟩ = some (.slice A3 m c3) := F.bO.cell 3
  have ab10 : wc.cell? ⟨g1, 0, none⟩ = some (.int .i64 r) := F.b1.cell 0
  have ab11 : wc.cell? ⟨g1, 1, none⟩ = some (.int .i64 c) := F.b1.cell 1
  have ab12 : wc.cell? ⟨g1, 2, none⟩ = some (.int .i64 h) := F.b1.cell 2
  have ab13 : wc.cell? ⟨g1, 3, none⟩ = some (.slice A1 n1 c1) := F.b1.cell 3
  have ab20 : wc.cell? ⟨g2, 0, none⟩ = some (.int .i64 r) := F.b2.cell 0
  have ab21 : wc.cell? ⟨g2, 1, none⟩ = some (.int .i64 c) := F.b2.cell 1
  have ab22 : wc.cell? ⟨g2, 2, none⟩ = some (.int .i64 h) := F.b2.cell 2
  have ab23 : wc.cell? ⟨g2, 3, none⟩ = some (.slice A2 n2 c2) := F.b2.cell 3
  have ab30 : wc.cell? ⟨g3, 0, none⟩ = some (.int .i64 r) := F.b3.cell 0
  have ab31 : wc.cell? ⟨g3, 1, none⟩ = some (.int .i64 c) := F.b3.cell 1
  have ab32 : wc.cell? ⟨g3, 2, none⟩ = some (.int .i64 h) := F.b3.cell 2
  have ab33 : wc.cell? ⟨g3, 3, none⟩ = some (.slice A4 n4 c4) := F.b3.cell 3
  by_cases h1 : ti < 1
  · go_wp2_with (go_at_call 9; refine (speeds_arg F.rO F.hN hc3 hmc3 HV.out (.inl h1)).mono ?_; rintro e w9 ⟨rfl, hb9⟩; have F9 := F.below hb9)
    exact HQ.out w9 _ _ _ _ _ _ _ _ _ _ _ _ _ _ _ _ _ _ _ _ _ _ _ _ _ _ _ _ _ _ _ _ _ _ _ F9
  · by_cases h2 : 1000 < ti
    · go_wp2_with (go_at_call 9; refine (speeds_arg F.rO F.hN hc3 hmc3 HV.out (.inr (.inl h2))).mono ?_; rintro e w9 ⟨rfl, hb9⟩; have F9 := F.below hb9)
      exact HQ.out w9 _ _ _ _ _ _ _ _ _ _ _ _ _ _ _ _ _ _ _ _ _ _ _ _ _ _ _ _ _ _ _ _ _ _ _ F9
    · by_cases h3 : p < 1
      · go_wp2_with (go_at_call 9; refine (speeds_arg F.rO F.hN hc3 hmc3 HV.out (.inr (.inr (.inl h3)))).mono ?_; rintro e w9 ⟨rfl, hb9⟩; have F9 := F.below hb9)
        exact HQ.out w9 _ _ _ _ _ _ _ _ _ _ _ _ _ _ _ _ _ _ _ _ _ _ _ _ _ _ _ _ _ _ _ _ _ _ _ F9
      · by_cases h4 : 1000 < p
        · go_wp2_with (go_at_call 9; refine (speeds_arg F.rO F.hN hc3 hmc3 HV.out (.inr (.inr (.inr h4)))).mono ?_; rintro e w9 ⟨rfl, hb9⟩; have F9 := F.below hb9)
          exact HQ.out w9 _ _ _ _ _ _ _ _ _ _ _ _ _ _ _ _ _ _ _ _ _ _ _ _ _ _ _ _ _ _ _ _ _ _ _ F9
        · have ho : okR ti p = true := by simp [okR]; omega
          have hll := long_last HV.out HLM.out ho
          by_cases h5 : 1099511627776 < prevAt l m * p / ti
          · rw [decide_eq_true h5] at hll
            have hQ := HQ.out
            rw [hll] at hQ
            clear HQ
            have HQ := Lib.hid hQ
            clear hQ
            rw [hll]
            have H5 := Lib.hid h5
            clear hll h5 ho
            go_wp2_with (go_at_call 9; refine (speeds_long F.rO F.hN hc3 hmc3 HV.out (by omega) (by omega) (by omega) (by omega) (by omega) H5.out).mono ?_; rintro e w9 ⟨rfl, hb9⟩; have F9 := F.below hb9)
            exact HQ.out w9 _ _ _ _ _ _ _ _ _ _ _ _ _ _ _ _ _ _ _ _ _ _ _ _ _ _ _ _ _ _ _ _ _ _ _ F9
          · rw [decide_eq_false h5] at hll
            have hQ := HQ.out
            rw [hll] at hQ
            clear HQ
            have HQ := Lib.hid hQ
            clear hQ
            rw [hll]
            have H5 : Hid (prevAt l m * p / ti ≤ 1099511627776) := Lib.hid (by omega)
            have hr3 := F.r3
            have hsk : speedK ti p l m = speedL ti p l := by
              unfold speedK
              rw [if_pos ho, List.take_of_length_le (by have := HLM.out; omega)]
            rw [hsk] at hr3
            have HR3 := Lib.hid hr3
            clear hll h5 ho hsk hr3
            go_wp2_with (go_at_call 9; refine (speeds_yes F.rO F.hN hc3 hmc3 (by omega) HV.out (by omega) (by omega) (by omega) (by omega) H5.out HR3.out F.hN (by omega)).mono ?_; rintro e w9 ⟨rfl, hb9⟩; have F9 := F.below hb9)
            exact HQ.out w9 _ _ _ _ _ _ _ _ _ _ _ _ _ _ _ _ _ _ _ _ _ _ _ _ _ _ _ _ _ _ _ _ _ _ _ F9
end Go.Proofs.YtjohgmnabemakaaGreatDoor
