/- A part of the proof of RecordEdits. -/
import Derived.Test.YtjohgmnabemakaaGreatDoorS1
import Derived.Deep.RegionHeld3
import Derived.Deep.Light
import Derived.BigFrame
namespace Go.Proofs.YtjohgmnabemakaaGreatDoor
open Go.RowKit Go.Rep
set_option maxRecDepth 100000
set_option maxHeartbeats 12000000 in
/-- The loop that makes what Join, Cut and Speed must return. -/
theorem edits_loop {r c h f t ti p : Int} {A A3 : Option Addr} {m cp B g g1 g2 g3 c3 : Nat} {l : List Ev} {w wc : World} {Q : Exit → Act → World → Prop} {x6 x7 x8 x9 x17 x18 x19 x20 x21 x22 x23 x24 x25 x26 x27 x28 x29 x30 x31 x32 x33 x34 x35 x36 x37 x38 x39 x40 x41 x42 x43 x44 x45 x46 x47 x48 x49 x50 x51 x52 x53 x54 x55 x56 x57 x58 x59 x60 x61 x62 x63 x64 x65 x66 x67 x68 x69 x70 x71 x72 x73 x74 x75 x76 x77 x78 x79 x80 x81 x82 x83 x84 x85 x86 x87 x88 x89 x90 x91 x92 x93 x94 x95 x96 x97 x98 x99 x100 x101 x102 x103 x104 x105 x106 x107 x108 x109 x110 x111 x112 x113 x114 x115 x116 x117 x118 x119 x120 x121 x122 x123 x124 x125 x126 x127 x128 x129 x130 x131 x132 x133 x134 x135 x136 x137 x138 x139 x140 x141 x142 x143 x144 x145 x146 x147 x148 x149 x150 x151 x152 x153 x154 x155 x156 x157 x158 x159 x160 x161 x162 x163 x164 x165 x166 x167 x168 x169 x170 x171 x172 x173 x174 x175 x176 x177 x178 x179 x180 x181 x182 x183 x184 x185 x186 x187 x188 x189 x190 x191 x192 x193 x194 x195 x196 x197 x198 x199 x200 x201 x202 x203 x204 x205 x206 x207 x208 x209 x210 x211 x212 x213 x214 x215 x216 x217 x218 x219 x220 x221 x222 x223 x224 x225 x226 x227 x228 x229 x230 x231 x232 x233 x234 x235 x236 x237 x238 x239 x240 x241 x242 x243 x244 x245 x246 x247 x248 x249 x250 x251 x252 x253 x254 x255 x256 x257 x258 x259 x260 x261 x262 x263 x264 x265 x266 x267 : Value}
    (hr : Reads w B 6 A m (evCells l)) (hB : B ≤ w.heap.size) (_hc : cp ≤ maxLen) (hmc : m ≤ cp) (hm : m ≤ 20) (HS : Hid (smallB l = true)) (HV : Hid (validB r c h l = true))
    (HF0 : Four r c h w (.slice A m cp) (gs g g1 g2 g3) (vs (.slice A3 m c3)) (ls l) wc)
    (hQ : ∀ (V : Nat → Value) (L : Nat → List Ev) (wx : World) (y17 y18 y19 y62 y63 y64 y65 y66 y67 y68 y69 y70 y71 y72 y73 y74 y75 y76 y77 y78 y79 y80 y81 y82 y83 y84 y85 y86 y87 y88 y89 y90 y91 y92 y93 y94 y95 y96 y97 y98 y99 y100 y101 y102 y103 y104 y105 y106 y107 y108 y109 y110 y111 y112 y113 y114 y115 y116 y117 y118 y119 y120 y121 y122 y123 y124 y125 y126 y127 y128 y129 y130 y131 y132 y133 y134 y135 y136 y137 y138 y139 y140 y141 y142 y143 y144 y145 y146 y147 y148 y149 y150 y151 y152 y153 y154 y155 y156 y157 y158 y159 y160 y161 y162 y163 y164 y165 y166 y167 y168 y169 y170 y171 y172 y173 y174 y175 y176 y177 y178 y179 y180 y181 y182 y183 y184 y185 : Value), V 0 = .slice A3 m c3 → L 0 = l → Hid (L 1 = oneTo l m) → Hid (L 2 = cutW f t (l.take m)) → Hid (L 3 = speedK ti p l m) → Four r c h w (.slice A m cp) (gs g g1 g2 g3) V L wx →
      Q .normal { tmps := #[(.agg #[.int .i64 r, .int .i64 c, .int .i64 h, .slice A m cp]), (.int .i64 f), (.int .i64 t), (.int .i64 ti), (.int .i64 p), (.pointer (some ⟨w.heap.size, 0, none⟩)), x6, x7, x8, x9, (.bool false), (.pointer (some ⟨g, 0, none⟩)), (.pointer (some ⟨g1, 0, none⟩)), (.pointer (some ⟨g2, 0, none⟩)), (.pointer (some ⟨g3, 0, none⟩)), (.bool (longTo ti p l m)), (.int .i64 m), y17, y18, y19, x20, x21, x22, x23, x24, x25, x26, x27, x28, x29, x30, x31, x32, x33, x34, x35, x36, x37, x38, x39, x40, x41, x42, x43, x44, x45, x46, x47, x48, x49, x50, x51, x52, x53, x54, x55, x56, x57, x58, x59, x60, x61, y62, y63, y64, y65, y66, y67, y68, y69, y70, y71, y72, y73, y74, y75, y76, y77, y78, y79, y80, y81, y82, y83, y84, y85, y86, y87, y88, y89, y90, y91, y92, y93, y94, y95, y96, y97, y98, y99, y100, y101, y102, y103, y104, y105, y106, y107, y108, y109, y110, y111, y112, y113, y114, y115, y116, y117, y118, y119, y120, y121, y122, y123, y124, y125, y126, y127, y128, y129, y130, y131, y132, y133, y134, y135, y136, y137, y138, y139, y140, y141, y142, y143, y144, y145, y146, y147, y148, y149, y150, y151, y152, y153, y154, y155, y156, y157, y158, y159, y160, y161, y162, y163, y164, y165, y166, y167, y168, y169, y170, y171, y172, y173, y174, y175, y176, y177, y178, y179, y180, y181, y182, y183, y184, y185, x186, x187, x188, x189, x190, x191, x192, x193, x194, x195, x196, x197, x198, x199, x200, x201, x202, x203, x204, x205, x206, x207, x208, x209, x210, x211, x212, x213, x214, x215, x216, x217, x218, x219, x220, x221, x222, x223, x224, x225, x226, x227, x228, x229, x230, x231, x232, x233, x234, x235, x236, x237, x238, x239, x240, x241, x242, x243, x244, x245, x246, x247, x248, x249, x250, x251, x252, x253, x254, x255, x256, x257, x258, x259, x260, x261, x262, x263, x264, x265, x266, x267], defers := [] } wx) :
    (sn (fs (sq 6 (bodyOf Tryz.f3)))).wp Tryz.prog Q { tmps := #[(.agg #[.int .i64 r, .int .i64 c, .int .i64 h, .slice A m cp]), (.int .i64 f), (.int .i64 t), (.int .i64 ti), (.int .i64 p), (.pointer (some ⟨w.heap.size, 0, none⟩)), x6, x7, x8, x9, (.bool false), (.pointer (some ⟨g, 0, none⟩)), (.pointer (some ⟨g1, 0, none⟩)), (.pointer (some ⟨g2, 0, none⟩)), (.pointer (some ⟨g3, 0, none⟩)), (.bool false), (.int .i64 0), x17, x18, x19, x20, x21, x22, x23, x24, x25, x26, x27, x28, x29, x30, x31, x32, x33, x34, x35, x36, x37, x38, x39, x40, x41, x42, x43, x44, x45, x46, x47, x48, x49, x50, x51, x52, x53, x54, x55, x56, x57, x58, x59, x60, x61, x62, x63, x64, x65, x66, x67, x68, x69, x70, x71, x72, x73, x74, x75, x76, x77, x78, x79, x80, x81, x82, x83, x84, x85, x86, x87, x88, x89, x90, x91, x92, x93, x94, x95, x96, x97, x98, x99, x100, x101, x102, x103, x104, x105, x106, x107, x108, x109, x110, x111, x112, x113, x114, x115, x116, x117, x118, x119, x120, x121, x122, x123, x124, x125, x126, x127, x128, x129, x130, x131, x132, x133, x134, x135, x136, x137, x138, x139, x140, x141, x142, x143, x144, x145, x146, x147, x148, x149, x150, x151, x152, x153, x154, x155, x156, x157, x158, x159, x160, x161, x162, x163, x164, x165, x166, x167, x168, x169, x170, x171, x172, x173, x174, x175, x176, x177, x178, x179, x180, x181, x182, x183, x184, x185, x186, x187, x188, x189, x190, x191, x192, x193, x194, x195, x196, x197, x198, x199, x200, x201, x202, x203, x204, x205, x206, x207, x208, x209, x210, x211, x212, x213, x214, x215, x216, x217, x218, x219, x220, x221, x222, x223, x224, x225, x226, x227, x228, x229, x230, x231, x232, x233, x234, x235, x236, x237, x238, x239, x240, x241, x242, x243, x244, x245, x246, x247, x248, x249, x250, x251, x252, x253, x254, x255, x256, x257, x258, x259, x260, x261, x262, x263, x264, x265, x266, x267], defers := [] } wc := by
  simp only [bodyOf, Tryz.f3, sq, fs, sn]
  obtain ⟨i0, hi, hz0, hz1, hz2⟩ := info_parts ev_info
  have HL := Lib.hid hr.evs
  have HQ := Lib.hid hQ
  clear hQ
  let hbp := bodyPost Tryz.prog Tryz.f3 (YesP w)
  go_wp2
  go_loopw [15, 16] (fun b i wr => ∃ (k : Nat) (V : Nat → Value) (L : Nat → List Ev), k ≤ m ∧ i = .int .i64 k ∧ b = .bool (longTo ti p l k) ∧ V 0 = .slice A3 m c3 ∧ L 0 = l ∧ Hid (L 1 = oneTo l k) ∧ Hid (L 2 = cutW f t (l.take k)) ∧ Hid (L 3 = speedK ti p l k) ∧ Four r c h w (.slice A m cp) (gs g g1 g2 g3) V L wr) (fun _ i _ => m - (intOf i).toNat)
  case atStart => exact ⟨0, _, _, Nat.zero_le _, rfl, by simp [longTo], rfl, rfl, Lib.hid rfl, Lib.hid rfl, Lib.hid (by simp [speedK, speedL, ls]), HF0⟩
  case round =>
    clear HF0
    obtain ⟨k, V, L, hk, rfl, rfl, hV0, hL0, hL1, hL2, hL3, HF⟩ := hrel
    have x3 : wr.cell? ⟨w.heap.size, 3, none⟩ = some (.slice A m cp) := HF.bX.cell 3
    obtain ⟨A1, c1, hV1, _, _, _⟩ := own_slice (HF.row 1 (by omega))
    have b1 := HF.blk 1 (by omega)
    rw [hV1] at b1
    have x1 : wr.cell? ⟨g1, 3, none⟩ = some (.slice A1 (L 1).length c1) := b1.cell 3
    by_cases hlt : k < m
    · obtain ⟨ad, e, rfl, he, y0, y1, y2, y3, y4, y5⟩ := ((hr.more hB).below HF.hb).ev hlt
      have HE := Lib.hid he
      have hes : e.o.s.size ≤ 80 := small80 HS.out e (List.mem_of_getElem? he)
      clear he
      have HY := HF.new e
      have x1' : (wr.alloc (.cells #[.int .i64 e.at', .int .i64 e.o.k, .string e.o.s, .int .i64 e.o.r, .int .i64 e.o.c, .int .i64 e.o.n] 35)).cell? ⟨g1, 3, none⟩ = some (.slice A1 (L 1).length c1) := (b1.alloc _).cell 3
      obtain ⟨n1, hn1⟩ : ∃ n, n = (L 1).length := ⟨_, rfl⟩
      rw [← hn1] at x1 x1'
      have hn1k : n1 ≤ k := by rw [hn1, hL1.out]; exact oneTo_le k (by have := HL.out; omega)
      have hw1 : wrap64 ((n1 : Int) - 1) = (n1 : Int) - 1 := IntWalk.wrap64_in _ (by omega)
      have HN1 := Lib.hid hn1
      clear hn1
      go_upto_region 13 with fail
      go_cut [106] (fun cc wx => cc = .bool (jn (L 1) e) ∧ FourY r c h w (.slice (some ad) m cp) (gs g g1 g2 g3) V L wr.heap.size e wx ∧ wr.heap.size + 1 ≤ wx.heap.size)
      case first => as_aux_lemma =>
        rename_i J_ K_ hJ_ hK_
        revert hJ_ hK_
        go_light
        intro hJ_ hK_
        have F := fun (q : Nat) => And.intro (HY.drewN q) (show wr.heap.size + 1 ≤ ((wr.alloc (.cells #[.int .i64 e.at', .int .i64 e.o.k, .string e.o.s, .int .i64 e.o.r, .int .i64 e.o.c, .int .i64 e.o.n] 35)).drewN q).heap.size by simp)
        have HFF := Lib.hid F
        clear F
        rcases snoc_cases (L 1) with h0 | ⟨zs, z, h0⟩
        · obtain rfl : n1 = 0 := by rw [HN1.out, h0]; rfl
          go_quiet (fail)
          go_wp2
          go_meet
          exact ⟨congrArg Value.bool (by simp [jn, h0]), HFF.out nq⟩
        · have hn1p : 1 ≤ n1 := by rw [HN1.out, h0]; simp
          have hrow := HF.row 1 (by omega)
          rw [hV1, ← HN1.out] at hrow
          obtain ⟨gv, c1', hAA, hgB, hgl⟩ := World.ownsRow.form hrow (by omega)
          injection hAA with hA1 _ _
          subst hA1
          have hzat : ∀ j u, j < 6 → z.cells[j]? = some u → (wr.alloc (.cells #[.int .i64 e.at', .int .i64 e.o.k, .string e.o.s, .int .i64 e.o.r, .int .i64 e.o.c, .int .i64 e.o.n] 35)).cell? ⟨gv, (n1 - 1) * 6 + j, none⟩ = some u := fun j u hj hu => by
            rw [(hrow.alloc _).cellAt ((n1 - 1) * 6 + j) (by omega)]
            have e1 : n1 - 1 = zs.length := by have := HN1.out; rw [h0] at this; simp at this; omega
            rw [h0, e1, evCells_at _ _ _ (by simp) hj]
            simpa using hu
          have q1 : (0 : Int) ≤ (n1 : Int) - 1 := by omega
          have q5 : (1 : Int) ≤ (n1 : Int) := by omega
          have q2 : ¬ ((n1 : Int) - 1 < 0) := by omega
          have q3 : (n1 : Int) - 1 < (n1 : Int) := by omega
          have q4 : ((n1 : Int) - 1).toNat = n1 - 1 := by omega
          have z0 := hzat 0 _ (by omega) rfl
          have z1 := hzat 1 _ (by omega) rfl
          rw [Nat.add_zero] at z0
          clear hzat hrow hV1 b1
          obtain ⟨t', ⟨kk, s, er, ec, en⟩⟩ := e
          obtain ⟨zt, ⟨zk, zs', zr, zc, zn⟩⟩ := z
          dsimp only at y0 y1 y2 y3 y4 y5 z0 z1 x1'
          by_cases hk1 : kk = 1
          · subst hk1
            by_cases hk2 : zk = 1
            · subst hk2
              by_cases hk3 : zt = t'
              · subst hk3
                go_quiet (fail)
                go_wp2
                go_meet
                exact ⟨congrArg Value.bool (by simp [jn, h0]), HFF.out nq⟩
              · have hb3 : (zt == t') = false := by simp [hk3]
                go_quiet (fail)
                go_wp2
                go_meet
                exact ⟨congrArg Value.bool (by simp [jn, h0, hk3]), HFF.out nq⟩
            · have hb2 : (zk == 1) = false := by simp [hk2]
              go_quiet (fail)
              go_wp2
              go_meet
              exact ⟨congrArg Value.bool (by simp [jn, h0, hk2]), HFF.out nq⟩
          · have hb1 : (kk == 1) = false := by simp [hk1]
            go_quiet (fail)
            go_wp2
            go_meet
            exact ⟨congrArg Value.bool (by simp [jn, h0, hk1]), HFF.out nq⟩
      case rest =>
        clear HY b1 x1 x1' x3 y0 y1 y2 y3 y4 y5 HF hw1
        obtain ⟨rfl, HY, hsz7⟩ := hcut
        have gyl := HY.bY.lt
        have hyb := HY.ybase
        obtain ⟨A1, c1, hV1, _, _, _⟩ := own_slice (HY.four.row 1 (by omega))
        have b1 := HY.four.blk 1 (by omega)
        have hrow := HY.four.row 1 (by omega)
        rw [hV1, ← HN1.out] at hrow
        rw [hV1, ← HN1.out] at b1
        have x1 : wc.cell? ⟨g1, 3, none⟩ = some (.slice A1 n1 c1) := b1.cell 3
        have f1 : wc.frozen? ⟨g1, 3, none⟩ = false := b1.frozen 3
        obtain ⟨gy, hgy⟩ : ∃ n, n = wr.heap.size := ⟨_, rfl⟩
        rw [← hgy] at HY hsz7 gyl hyb ⊢
        clear hgy
        have y0 : wc.cell? ⟨gy, 0, none⟩ = some (.int .i64 e.at') := HY.bY.cell 0
        have y1 : wc.cell? ⟨gy, 1, none⟩ = some (.int .i64 e.o.k) := HY.bY.cell 1
        have y2 : wc.cell? ⟨gy, 2, none⟩ = some (.string e.o.s) := HY.bY.cell 2
        have y3 : wc.cell? ⟨gy, 3, none⟩ = some (.int .i64 e.o.r) := HY.bY.cell 3
        have y4 : wc.cell? ⟨gy, 4, none⟩ = some (.int .i64 e.o.c) := HY.bY.cell 4
        have y5 : wc.cell? ⟨gy, 5, none⟩ = some (.int .i64 e.o.n) := HY.bY.cell 5
        go_upto_if 106 with fail
        go_cut [] (fun wx => ∃ (V' : Nat → Value) (L' : Nat → List Ev), V' 0 = .slice A3 m c3 ∧ L' 0 = l ∧ Hid (L' 1 = oneTo l (k + 1)) ∧ Hid (L' 2 = cutW f t (l.take k)) ∧ Hid (L' 3 = speedK ti p l k) ∧ FourY r c h w (.slice (some ad) m cp) (gs g g1 g2 g3) V' L' gy e wx)
        case first =>
          rename_i J_ K_ hJ_ hK_
          revert hJ_ hK_
          go_light
          intro hJ_ hK_
          by_cases hj : jn (L 1) e = true
          · rcases snoc_cases (L 1) with h0 | ⟨zs, z, h0⟩
            · rw [h0] at hj
              simp [jn] at hj
            · rw [hj]
              rw [h0] at hj
              have hj2 := jn_snoc hj
              have hn1p : 1 ≤ n1 := by rw [HN1.out, h0]; simp
              obtain ⟨gv, c1', hAA, hgB, hgl⟩ := World.ownsRow.form hrow (by omega)
              injection hAA with hA1 _ _
              subst hA1
              have z2 : wc.cell? ⟨gv, (n1 - 1) * 6 + 2, none⟩ = some (.string z.o.s) := by
                rw [hrow.cellAt ((n1 - 1) * 6 + 2) (by omega)]
                have e1 : n1 - 1 = zs.length := by have := HN1.out; rw [h0] at this; simp at this; omega
                rw [h0, e1, evCells_at _ _ _ (by simp) (by decide)]
                simp [Ev.cells, TOp.cells]
              have zf := hrow.frozenAt ((n1 - 1) * 6 + 2)
              have hzs : z.o.s.size ≤ 80 * k := by
                have h1 := one_join (small_all80 HS.out) (by have := HL.out; omega) k (by have := HL.out; omega)
                refine h1.2 z ?_
                rw [h1.1, ← hL1.out, h0]
                simp
              have hcat : ¬ (9223372036854775807 < z.o.s.size + e.o.s.size) := by omega
              have HG := Lib.hid ((oneTo_succ HE.out).trans (show oneStep (oneTo l k) e = zs ++ [glue z e] by rw [← hL1.out, h0]; exact oneStep_yes hj2.1 hj2.2.1 hj2.2.2))
              have q5 : (1 : Int) ≤ (n1 : Int) := by omega
              have q1 : (0 : Int) ≤ (n1 : Int) - 1 := by omega
              have q2 : ¬ ((n1 : Int) - 1 < 0) := by omega
              have q3 : (n1 : Int) - 1 < (n1 : Int) := by omega
              have q4 : ((n1 : Int) - 1).toNat = n1 - 1 := by omega
              rw [h0] at hrow
              have HH0 := Lib.hid h0
              clear hj hj2 h0
              go_wp2
              go_still_tail 14, (by kernel_rfl)
              change wpList _ _ _ _ _ wc.drew
              go_wp2
              go_meet
              have hg9 := own_glue (e := e) (World.ownsRow.drew hrow) (HN1.out.trans (congrArg List.length HH0.out))
              exact ⟨V, upd L 1 (zs ++ [glue z e]), hV0, (upd_ne _ _ (by decide)).trans hL0, Lib.hid ((upd_same _ _ _).trans HG.out.symm), Lib.hid ((upd_ne _ _ (by decide)).trans hL2.out), Lib.hid ((upd_ne _ _ (by decide)).trans hL3.out),
                (HY.drew).cell (i := 1) (by omega) (by rw [hV1]; rfl) (by rw [hV1, ← HN1.out]; exact hg9)⟩
          · have hj : jn (L 1) e = false := by simpa using hj
            rw [hj]
            have HG := Lib.hid ((oneTo_succ HE.out).trans (show oneStep (oneTo l k) e = L 1 ++ [e] by rw [← hL1.out]; exact oneStep_jn hj))
            have hne1 := hrow
            have hneG := own_blk_ne hrow b1 (by decide)
            clear hj
            go_wp2_with (at_builtin; (first | (refine wpList_append_own_at _ rfl (.tmp 125) (.tmp 127) 24 rfl (w.heap.size + 1) 35 i0 (.agg zero6) 6 56 Tryz.underlying24 hi hz0 hz1 hz2 rfl (by decide) (.slice A1 n1 c1) n1 (evCells (L 1)) rfl (hrow.alloc _) ⟨wc.heap.size, 0, none⟩ 1 1 e.cells rfl rfl (ev_new' (n := wc.heap.size) rfl e _) (ev_cell e) (by unfold maxLen; omega) (by omega) (by simp; omega) ?_) | go_loud (refine wpList_append_own_at _ rfl (.tmp 125) (.tmp 127) 24 rfl (w.heap.size + 1) 35 i0 (.agg zero6) 6 56 Tryz.underlying24 hi hz0 hz1 hz2 rfl (by decide) (.slice A1 n1 c1) n1 (evCells (L 1)) rfl (hrow.alloc _) ⟨wc.heap.size, 0, none⟩ 1 1 e.cells rfl rfl (ev_new' (n := wc.heap.size) rfl e _) (ev_cell e) (by unfold maxLen; omega) (by omega) (by simp; omega) ?_)); intro v7 w7 hown7 hg7 _ hn7; obtain ⟨A7, c7, rfl, _, _, _⟩ := own_slice hown7; have b17 := (b1.alloc (.cells #[.int .i64 e.at', .int .i64 e.o.k, .string e.o.s, .int .i64 e.o.r, .int .i64 e.o.c, .int .i64 e.o.n] 35)).grown hg7 (fun q => hneG q.symm); have c37 : w7.cell? ⟨g1, 3, none⟩ = some (.slice A1 n1 c1) := b17.cell 3; have f37 : w7.frozen? ⟨g1, 3, none⟩ = false := b17.frozen 3)
            go_meet
            exact ⟨upd V 1 (.slice A7 (n1 + 1) c7), upd L 1 (L 1 ++ [e]), (upd_ne _ _ (by decide)).trans hV0, (upd_ne _ _ (by decide)).trans hL0, Lib.hid ((upd_same _ _ _).trans HG.out.symm), Lib.hid ((upd_ne _ _ (by decide)).trans hL2.out), Lib.hid ((upd_ne _ _ (by decide)).trans hL3.out),
              (HY.alloc (.cells #[.int .i64 e.at', .int .i64 e.o.k, .string e.o.s, .int .i64 e.o.r, .int .i64 e.o.c, .int .i64 e.o.n] 35)).grown (i := 1) (by omega) (by rw [hV1, ← HN1.out]; exact hg7) (ev_snoc hown7 HN1.out) (by rw [hV1, ← HN1.out]; exact hn7)⟩
        case rest =>
          clear HY b1 x1 y0 y1 y2 y3 y4 y5 f1 hrow hV1 gyl hyb hsz7 HN1 hn1k hV0 hL0 hL1 hL2 hL3
          obtain ⟨V, L, hV0, hL0, hL1, hL2, hL3, HY⟩ := hcut
          obtain ⟨A2, c2, hV2, _, _, _⟩ := own_slice (HY.four.row 2 (by omega))
          have b2 := HY.four.blk 2 (by omega)
          have hrow := HY.four.row 2 (by omega)
          obtain ⟨n2, hn2⟩ : ∃ n, n = (L 2).length := ⟨_, rfl⟩
          have hn2k : n2 ≤ k := by rw [hn2, hL2.out]; exact cutW_le
          rw [hV2, ← hn2] at hrow b2
          have HN2 := Lib.hid hn2
          clear hn2
          have x2 : wc.cell? ⟨g2, 3, none⟩ = some (.slice A2 n2 c2) := b2.cell 3
          have f2 : wc.frozen? ⟨g2, 3, none⟩ = false := b2.frozen 3
          have gyl := HY.bY.lt
          have hyb := HY.ybase
          have y0 : wc.cell? ⟨gy, 0, none⟩ = some (.int .i64 e.at') := HY.bY.cell 0
          have y1 : wc.cell? ⟨gy, 1, none⟩ = some (.int .i64 e.o.k) := HY.bY.cell 1
          have y2 : wc.cell? ⟨gy, 2, none⟩ = some (.string e.o.s) := HY.bY.cell 2
          have y3 : wc.cell? ⟨gy, 3, none⟩ = some (.int .i64 e.o.r) := HY.bY.cell 3
          have y4 : wc.cell? ⟨gy, 4, none⟩ = some (.int .i64 e.o.c) := HY.bY.cell 4
          have y5 : wc.cell? ⟨gy, 5, none⟩ = some (.int .i64 e.o.n) := HY.bY.cell 5
          go_upto_region 16 with fail
          go_cut [139] (fun cc wx => cc = .bool (inCut f t e) ∧ wx = wc)
          case first => as_aux_lemma =>
            rename_i J_ K_ hJ_ hK_
            revert hJ_ hK_
            go_light
            intro hJ_ hK_
            by_cases h1 : f ≤ e.at'
            · by_cases h2 : e.at' ≤ t
              · go_wp2
                go_meet
                exact ⟨congrArg Value.bool (by first | (simp [inCut, h1, h2]; done) | (simp [inCut]; omega)), rfl⟩
              · go_wp2
                go_meet
                exact ⟨congrArg Value.bool (by first | (simp [inCut, h1, h2]; done) | (simp [inCut]; omega)), rfl⟩
            · go_wp2
              go_meet
              exact ⟨congrArg Value.bool (by first | (simp [inCut]; done) | (simp [inCut]; omega)), rfl⟩
          case rest =>
            obtain ⟨rfl, rfl⟩ := hcut
            go_upto_if 139 with fail
            go_cut [] (fun wx => ∃ (V' : Nat → Value) (L' : Nat → List Ev), V' 0 = .slice A3 m c3 ∧ L' 0 = l ∧ Hid (L' 1 = oneTo l (k + 1)) ∧ Hid (L' 2 = cutW f t (l.take (k + 1))) ∧ Hid (L' 3 = speedK ti p l k) ∧ FourY r c h w (.slice (some ad) m cp) (gs g g1 g2 g3) V' L' gy e wx)
            case first =>
              rename_i J_ K_ hJ_ hK_
              revert hJ_ hK_
              go_light
              intro hJ_ hK_
              by_cases hj : inCut f t e = true
              · rw [hj]
                obtain ⟨a2, ha2⟩ : ∃ a, wrap64 (e.at' - f) = a := ⟨_, rfl⟩
                have HG := Lib.hid ((cutW_succ HE.out).trans (show (if inCut f t e then cutW f t (l.take k) ++ [shiftW f e] else cutW f t (l.take k)) = L 2 ++ [(⟨a2, e.o⟩ : Ev)] by rw [if_pos hj, hL2.out, ← ha2]; rfl))
                have hneG := own_blk_ne hrow b2 (by decide)
                clear hj
                go_wp2_with (at_builtin; (first | (refine wpList_append_own_at _ rfl (.tmp 141) (.tmp 149) 24 rfl (w.heap.size + 1) 35 i0 (.agg zero6) 6 56 Tryz.underlying24 hi hz0 hz1 hz2 rfl (by decide) (.slice A2 n2 c2) n2 (evCells (L 2)) rfl (hrow.alloc _) ⟨wc.heap.size, 0, none⟩ 1 1 (⟨a2, e.o⟩ : Ev).cells rfl rfl (ev_new' (n := wc.heap.size) rfl (⟨a2, e.o⟩ : Ev) _) (ev_cell (⟨a2, e.o⟩ : Ev)) (by unfold maxLen; omega) (by omega) (by simp; omega) ?_) | go_loud (refine wpList_append_own_at _ rfl (.tmp 141) (.tmp 149) 24 rfl (w.heap.size + 1) 35 i0 (.agg zero6) 6 56 Tryz.underlying24 hi hz0 hz1 hz2 rfl (by decide) (.slice A2 n2 c2) n2 (evCells (L 2)) rfl (hrow.alloc _) ⟨wc.heap.size, 0, none⟩ 1 1 (⟨a2, e.o⟩ : Ev).cells rfl rfl (ev_new' (n := wc.heap.size) rfl (⟨a2, e.o⟩ : Ev) _) (ev_cell (⟨a2, e.o⟩ : Ev)) (by unfold maxLen; omega) (by omega) (by simp; omega) ?_)); intro v7 w7 hown7 hg7 _ hn7; obtain ⟨A7, c7, rfl, _, _, _⟩ := own_slice hown7; have b17 := (b2.alloc (.cells #[.int .i64 a2, .int .i64 e.o.k, .string e.o.s, .int .i64 e.o.r, .int .i64 e.o.c, .int .i64 e.o.n] 35)).grown hg7 (fun q => hneG q.symm); have c37 : w7.cell? ⟨g2, 3, none⟩ = some (.slice A2 n2 c2) := b17.cell 3; have f37 : w7.frozen? ⟨g2, 3, none⟩ = false := b17.frozen 3)
                go_meet
                exact ⟨upd V 2 (.slice A7 (n2 + 1) c7), upd L 2 (L 2 ++ [(⟨a2, e.o⟩ : Ev)]), (upd_ne _ _ (by decide)).trans hV0, (upd_ne _ _ (by decide)).trans hL0, Lib.hid ((upd_ne _ _ (by decide)).trans hL1.out), Lib.hid ((upd_same _ _ _).trans HG.out.symm), Lib.hid ((upd_ne _ _ (by decide)).trans hL3.out),
                  (HY.alloc (.cells #[.int .i64 a2, .int .i64 e.o.k, .string e.o.s, .int .i64 e.o.r, .int .i64 e.o.c, .int .i64 e.o.n] 35)).grown (i := 2) (by omega) (by rw [hV2, ← HN2.out]; exact hg7) (ev_snoc (e := (⟨a2, e.o⟩ : Ev)) hown7 HN2.out) (by rw [hV2, ← HN2.out]; exact hn7)⟩
              · have hj : inCut f t e = false := by simpa using hj
                rw [hj]
                have HG := Lib.hid ((cutW_succ HE.out).trans (show (if inCut f t e then cutW f t (l.take k) ++ [shiftW f e] else cutW f t (l.take k)) = L 2 by rw [hj]; exact hL2.out.symm))
                go_wp2
                go_meet
                exact ⟨V, L, hV0, hL0, hL1, Lib.hid HG.out.symm, hL3, HY⟩
            case rest =>
              clear HY b2 x2 y0 y1 y2 y3 y4 y5 f2 hrow hV2 gyl hyb HN2 hn2k hV0 hL0 hL1 hL2 hL3
              obtain ⟨V, L, hV0, hL0, hL1, hL2, hL3, HY⟩ := hcut
              obtain ⟨A3, c3, hV3, _, _, _⟩ := own_slice (HY.four.row 3 (by omega))
              have b3 := HY.four.blk 3 (by omega)
              have hrow := HY.four.row 3 (by omega)
              obtain ⟨n3, hn3⟩ : ∃ n, n = (L 3).length := ⟨_, rfl⟩
              have hn3k : n3 ≤ k := by rw [hn3, hL3.out]; exact speedK_le
              rw [hV3, ← hn3] at hrow b3
              have HN3 := Lib.hid hn3
              clear hn3
              have x3 : wc.cell? ⟨g3, 3, none⟩ = some (.slice A3 n3 c3) := b3.cell 3
              have f3 : wc.frozen? ⟨g3, 3, none⟩ = false := b3.frozen 3
              have gyl := HY.bY.lt
              have hyb := HY.ybase
              have y0 : wc.cell? ⟨gy, 0, none⟩ = some (.int .i64 e.at') := HY.bY.cell 0
              have y1 : wc.cell? ⟨gy, 1, none⟩ = some (.int .i64 e.o.k) := HY.bY.cell 1
              have y2 : wc.cell? ⟨gy, 2, none⟩ = some (.string e.o.s) := HY.bY.cell 2
              have y3 : wc.cell? ⟨gy, 3, none⟩ = some (.int .i64 e.o.r) := HY.bY.cell 3
              have y4 : wc.cell? ⟨gy, 4, none⟩ = some (.int .i64 e.o.c) := HY.bY.cell 4
              have y5 : wc.cell? ⟨gy, 5, none⟩ = some (.int .i64 e.o.n) := HY.bY.cell 5
              go_upto_region 18 with fail
              go_cut [165] (fun cc wx => cc = .bool (okR ti p) ∧ wx = wc)
              case first => as_aux_lemma =>
                rename_i J_ K_ hJ_ hK_
                revert hJ_ hK_
                go_light
                intro hJ_ hK_
                by_cases h1 : 1 ≤ ti
                · by_cases h2 : ti ≤ 1000
                  · by_cases h3 : 1 ≤ p
                    · by_cases h4 : p ≤ 1000
                      · go_wp2
                        go_meet
                        exact ⟨congrArg Value.bool (by first | (simp [okR, h1, h2, h3, h4]; done) | (simp [okR]; omega)), rfl⟩
                      · go_wp2
                        go_meet
                        exact ⟨congrArg Value.bool (by first | (simp [okR, h1, h2, h3, h4]; done) | (simp [okR]; omega)), rfl⟩
                    · go_wp2
                      go_meet
                      exact ⟨congrArg Value.bool (by first | (simp [okR, h1, h2]; done) | (simp [okR]; omega)), rfl⟩
                  · go_wp2
                    go_meet
                    exact ⟨congrArg Value.bool (by first | (simp [okR, h1]; done) | (simp [okR]; omega)), rfl⟩
                · go_wp2
                  go_meet
                  exact ⟨congrArg Value.bool (by first | (simp [okR]; done) | (simp [okR]; omega)), rfl⟩
              case rest =>
                obtain ⟨rfl, rfl⟩ := hcut
                go_upto_if 165 with fail
                by_cases ho : okR ti p = true
                · rw [ho]
                  have ho' := ho
                  simp only [okR, Bool.and_eq_true, decide_eq_true_eq] at ho'
                  obtain ⟨⟨⟨o1, o2⟩, o3⟩, o4⟩ := ho'
                  have hE := evsB_at (last := 0) (l := l) (by have := HV.out; unfold validB at this; simp only [Bool.and_eq_true] at this; exact this.2) e (List.mem_of_getElem? HE.out)
                  obtain ⟨v1_, v2_, v3_, v4_⟩ := wrapped hE.1 hE.2 o3 o4 o1
                  have n1_ : IntKind.i64.wrap (e.at' * p) = e.at' * p := (IntWalk.i64_left _).trans v1_
                  have n2_ : IntKind.i64.wrap (e.at' * p / ti) = e.at' * p / ti := (IntWalk.i64_left _).trans v3_
                  have n3_ : ¬ ti = 0 := by omega
                  obtain ⟨a3, ha3⟩ : ∃ a, e.at' * p / ti = a := ⟨_, rfl⟩
                  rw [ha3] at v2_ v3_ v4_ n2_
                  have HG := Lib.hid ((speedK_succ HE.out ho).trans (show speedK ti p l k ++ [fast ti p e] = L 3 ++ [(⟨a3, e.o⟩ : Ev)] by rw [hL3.out, ← ha3]; rfl))
                  have HLG := Lib.hid ((longTo_succ HE.out ho).trans (by rw [ha3]))
                  clear ho ha3
                  go_upto_region 20 with fail
                  go_cut [15] (fun cc wx => cc = .bool (longTo ti p l (k + 1)) ∧ wx = wc)
                  case first => as_aux_lemma =>
                    rename_i J_ K_ hJ_ hK_
                    revert hJ_ hK_
                    go_light
                    intro hJ_ hK_
                    by_cases hlg : longTo ti p l k = true
                    · rw [hlg]
                      go_wp2
                      go_meet
                      exact ⟨congrArg Value.bool (by rw [HLG.out, hlg]; rfl), rfl⟩
                    · have hlg : longTo ti p l k = false := by simpa using hlg
                      rw [hlg]
                      go_wp2
                      go_meet
                      exact ⟨congrArg Value.bool (by rw [HLG.out, hlg]; simp), rfl⟩
                  case rest =>
                    obtain ⟨rfl, rfl⟩ := hcut
                    have hneG := own_blk_ne hrow b3 (by decide)
                    go_wp2_with (at_builtin; (first | (refine wpList_append_own_at _ rfl (.tmp 178) (.tmp 183) 24 rfl (w.heap.size + 1) 35 i0 (.agg zero6) 6 56 Tryz.underlying24 hi hz0 hz1 hz2 rfl (by decide) (.slice A3 n3 c3) n3 (evCells (L 3)) rfl (hrow.alloc _) ⟨wc.heap.size, 0, none⟩ 1 1 (⟨a3, e.o⟩ : Ev).cells rfl rfl (ev_new' (n := wc.heap.size) rfl (⟨a3, e.o⟩ : Ev) _) (ev_cell (⟨a3, e.o⟩ : Ev)) (by unfold maxLen; omega) (by omega) (by simp; omega) ?_) | go_loud (refine wpList_append_own_at _ rfl (.tmp 178) (.tmp 183) 24 rfl (w.heap.size + 1) 35 i0 (.agg zero6) 6 56 Tryz.underlying24 hi hz0 hz1 hz2 rfl (by decide) (.slice A3 n3 c3) n3 (evCells (L 3)) rfl (hrow.alloc _) ⟨wc.heap.size, 0, none⟩ 1 1 (⟨a3, e.o⟩ : Ev).cells rfl rfl (ev_new' (n := wc.heap.size) rfl (⟨a3, e.o⟩ : Ev) _) (ev_cell (⟨a3, e.o⟩ : Ev)) (by unfold maxLen; omega) (by omega) (by simp; omega) ?_)); intro v7 w7 hown7 hg7 _ hn7; obtain ⟨A7, c7, rfl, _, _, _⟩ := own_slice hown7; have b17 := (b3.alloc (.cells #[.int .i64 a3, .int .i64 e.o.k, .string e.o.s, .int .i64 e.o.r, .int .i64 e.o.c, .int .i64 e.o.n] 35)).grown hg7 (fun q => hneG q.symm); have c37 : w7.cell? ⟨g3, 3, none⟩ = some (.slice A3 n3 c3) := b17.cell 3; have f37 : w7.frozen? ⟨g3, 3, none⟩ = false := b17.frozen 3)
                    go_roundw
                    case rel =>
                      go_light
                      exact ⟨k + 1, upd V 3 (.slice A7 (n3 + 1) c7), upd L 3 (L 3 ++ [(⟨a3, e.o⟩ : Ev)]), by omega, by go_num, rfl, (upd_ne _ _ (by decide)).trans hV0, (upd_ne _ _ (by decide)).trans hL0, Lib.hid ((upd_ne _ _ (by decide)).trans hL1.out), Lib.hid ((upd_ne _ _ (by decide)).trans hL2.out), Lib.hid ((upd_same _ _ _).trans HG.out.symm),
                        ((HY.alloc (.cells #[.int .i64 a3, .int .i64 e.o.k, .string e.o.s, .int .i64 e.o.r, .int .i64 e.o.c, .int .i64 e.o.n] 35)).grown (i := 3) (by omega) (by rw [hV3, ← HN3.out]; exact hg7) (ev_snoc (e := (⟨a3, e.o⟩ : Ev)) hown7 HN3.out) (by rw [hV3, ← HN3.out]; exact hn7)).four⟩
                    case measure => simp [intOf]; omega
                · have ho : okR ti p = false := by simpa using ho
                  rw [ho]
                  go_wp2
                  go_roundw
                  case rel =>
                    go_light
                    exact ⟨k + 1, V, L, by omega, by go_num, congrArg Value.bool (okR_no ho _ _).1, hV0, hL0, hL1, hL2, Lib.hid (hL3.out.trans (okR_no ho _ _).2), HY.four⟩
                  case measure => simp [intOf]; omega
    · obtain rfl : k = m := by omega
      go_wp2
      exact HQ.out V L wr _ _ _ _ _ _ _ _ _ _ _ _ _ _ _ _ _ _ _ _ _ _ _ _ _ _ _ _ _ _ _ _ _ _ _ _ _ _ _ _ _ _ _ _ _ _ _ _ _ _ _ _ _ _ _ _ _ _ _ _ _ _ _ _ _ _ _ _ _ _ _ _ _ _ _ _ _ _ _ _ _ _ _ _ _ _ _ _ _ _ _ _ _ _ _ _ _ _ _ _ _ _ _ _ _ _ _ _ _ _ _ _ _ _ _ _ _ _ _ _ _ _ _ _ _ _ _ hV0 hL0 hL1 hL2 hL3 HF
end Go.Proofs.YtjohgmnabemakaaGreatDoor
