/- A part of the proof of RecordEdits. -/
import Derived.Test.YtjohgmnabemakaaGreatDoorSL
import Derived.Test.YtjohgmnabemakaaGreatDoorSE
import Derived.Test.YtjohgmnabemakaaGreatDoorS3
import Derived.Test.YtjohgmnabemakaaGreatDoorQ4
import Derived.Deep.CutBlock
namespace Go.Proofs.YtjohgmnabemakaaGreatDoor
open Go.RowKit Go.Rep
set_option maxRecDepth 100000
section
variable {r c h f t ti p : Int} {A : Option Addr} {m cp B : Nat} {l : List Ev} {w : World}
set_option maxHeartbeats 8000000 in
/-- A small record that is valid. -/
theorem edits_valid (hw : Laid w) (hr : Reads w B 6 A m (evCells l)) (hB : B ≤ w.heap.size) (hc : cp ≤ maxLen) (hmc : m ≤ cp) (hm : m ≤ 20) (hs : smallB l = true) (hv : validB r c h l = true) :
    Calls Tryz.prog 3 #[.agg #[.int .i64 r, .int .i64 c, .int .i64 h, .slice A m cp], .int .i64 f, .int .i64 t, .int .i64 ti, .int .i64 p] w (YesP w) := by
  have HS := Lib.hid hs
  have HV := Lib.hid hv
  have hG := hw.size
  go_enter Tryz.func3, Tryz.ntmps3
  go_wp2_with (first
    | (go_at_call 4; refine (small_any (hr.alloc hB _) (by simp; omega)).mono ?_; rintro e w1 ⟨rfl, hb1⟩; rw [HS.out]; have hr1 := (hr.alloc hB (.cells #[.int .i64 r, .int .i64 c, .int .i64 h, .slice A m cp] 26)).below (hb1.mono (by simp; omega)); have hbw1 : Below w.heap.size w w1 := ((Below.refl _ _).alloc (Nat.le_refl _) _).trans (hb1.mono (by simp)); have hs1 := hb1.size; simp at hs1; have b1 := (Blk.new w 26 #[.int .i64 r, .int .i64 c, .int .i64 h, .slice A m cp]).below hb1 (by simp); have q0 : w1.cell? ⟨w.heap.size, 0, none⟩ = some (.int .i64 r) := b1.cell 0; have q1 : w1.cell? ⟨w.heap.size, 1, none⟩ = some (.int .i64 c) := b1.cell 1; have q2 : w1.cell? ⟨w.heap.size, 2, none⟩ = some (.int .i64 h) := b1.cell 2; have q3 : w1.cell? ⟨w.heap.size, 3, none⟩ = some (.slice A m cp) := b1.cell 3)
    | (go_at_call 6; refine (lvalid_any hr1 (by omega) hc hmc).mono ?_; rintro e w2 ⟨rfl, hb2⟩; rw [HV.out]; have hr2 := hr1.below (hb2.mono (by omega)); have hbw2 := hbw1.trans (hb2.mono hbw1.size); have hs2 := hb2.size; have b2 := b1.below hb2 (by omega); have d0 : w2.cell? ⟨w.heap.size, 0, none⟩ = some (.int .i64 r) := b2.cell 0; have d1 : w2.cell? ⟨w.heap.size, 1, none⟩ = some (.int .i64 c) := b2.cell 1; have d2 : w2.cell? ⟨w.heap.size, 2, none⟩ = some (.int .i64 h) := b2.cell 2; have d3 : w2.cell? ⟨w.heap.size, 3, none⟩ = some (.slice A m cp) := b2.cell 3))
  clear q0 q1 q2 q3
  clear d0 d1 d2 d3 hb1 hb2 b1 hr1 hbw1
  go_upto_region 5 with fail
  refine edits_own hr2 (by omega) hm hbw2 b2 ?_
  intro g A3 c3 wv y47 y48 y49 y50 y51 y52 hg bX bB hown hbr
  go_upto_region 6 with fail
  refine edits_three bB ?_
  intro g1 g2 g3 wc y53 y54 y55 y56 y57 y58 y59 y60 y61 hg1 hg2 hg3 h12 h13 h23 b1 b2' b3 hb6
  obtain ⟨A3', c3', hAA, hmc3, hc3, _⟩ := own_slice hown
  obtain ⟨rfl, rfl⟩ : A3' = A3 ∧ c3' = c3 := by injection hAA with h1 h2 h3; exact ⟨h1.symm, h3.symm⟩
  have hgl := bX.lt
  have hsz := hbr.size
  have hown6 : wc.ownsRow (w.heap.size + 1) 35 6 (.slice A3' m c3') l.length (evCells l) := by
    rw [hr.evs]
    rcases hown.2 with ⟨hv, hn⟩ | ⟨gg, cap, cur, hv, hbg, hhp, hcc⟩
    · exact ⟨hown.1, .inl ⟨hv, hn⟩⟩
    · refine ⟨hown.1, .inr ⟨gg, cap, cur, hv, hbg, ?_, hcc⟩⟩
      rw [hb6.block gg (by rcases Nat.lt_or_ge gg wv.heap.size with h9 | h9; exact h9; rw [Array.getElem?_eq_none h9] at hhp; cases hhp)]
      exact hhp
  have HF0 : Four r c h w (.slice A m cp) (gs g g1 g2 g3) (vs (.slice A3' m c3')) (ls l) wc := by
    refine ⟨bB.below hb6 bB.lt, ?_, ?_, ?_, ?_, ?_, hbr.trans (hb6.mono hsz)⟩
    · intro i hi
      obtain rfl | rfl | rfl | rfl : i = 0 ∨ i = 1 ∨ i = 2 ∨ i = 3 := by omega
      · exact bX.below hb6 hgl
      · exact b1
      · exact b2'
      · exact b3
    · intro i hi
      obtain rfl | rfl | rfl | rfl : i = 0 ∨ i = 1 ∨ i = 2 ∨ i = 3 := by omega
      · exact hown6
      · exact World.ownsRow_nil _ _ _ _
      · exact World.ownsRow_nil _ _ _ _
      · exact World.ownsRow_nil _ _ _ _
    · intro i hi
      obtain rfl | rfl | rfl | rfl : i = 0 ∨ i = 1 ∨ i = 2 ∨ i = 3 := by omega
      · exact hg
      · show w.heap.size + 1 ≤ g1; omega
      · show w.heap.size + 1 ≤ g2; omega
      · show w.heap.size + 1 ≤ g3; omega
    · intro i j hi hj hij
      obtain rfl | rfl | rfl | rfl : i = 0 ∨ i = 1 ∨ i = 2 ∨ i = 3 := by omega
      all_goals
        obtain rfl | rfl | rfl | rfl : j = 0 ∨ j = 1 ∨ j = 2 ∨ j = 3 := by omega
      all_goals first | (exact absurd rfl hij) | (simp only [gs]; simp; omega)
    · intro i j hi hj hij
      obtain rfl | rfl | rfl | rfl : i = 0 ∨ i = 1 ∨ i = 2 ∨ i = 3 := by omega
      · obtain rfl | rfl | rfl : j = 1 ∨ j = 2 ∨ j = 3 := by omega
        all_goals
          rcases hAo : (vs (.slice A3' m c3') 0).ownBlock with _ | q
          · exact .inl rfl
          · exact .inr (by simp [vs, Value.ownBlock])
      · exact .inl rfl
      · exact .inl rfl
      · exact .inl rfl
  clear b1 b2' b3 bX bB hown hown6 hb6 hbr hAA
  go_upto_block 0 with fail
  refine edits_loop hr hB hc hmc hm HS HV HF0 ?_
  clear HF0
  intro V L wx y17 y18 y19 y62 y63 y64 y65 y66 y67 y68 y69 y70 y71 y72 y73 y74 y75 y76 y77 y78 y79 y80 y81 y82 y83 y84 y85 y86 y87 y88 y89 y90 y91 y92 y93 y94 y95 y96 y97 y98 y99 y100 y101 y102 y103 y104 y105 y106 y107 y108 y109 y110 y111 y112 y113 y114 y115 y116 y117 y118 y119 y120 y121 y122 y123 y124 y125 y126 y127 y128 y129 y130 y131 y132 y133 y134 y135 y136 y137 y138 y139 y140 y141 y142 y143 y144 y145 y146 y147 y148 y149 y150 y151 y152 y153 y154 y155 y156 y157 y158 y159 y160 y161 y162 y163 y164 y165 y166 y167 y168 y169 y170 y171 y172 y173 y174 y175 y176 y177 y178 y179 y180 y181 y182 y183 y184 y185 hV0 hL0 hL1 hL2 hL3 HF
  have HLM : Hid (l.length = m) := Lib.hid hr.evs
  obtain ⟨A0, c0, hV0', hm0, hc0, hr0⟩ := own_slice (HF.row 0 (by omega))
  obtain ⟨A1, c1, hV1, hm1, hc1, hr1⟩ := own_slice (HF.row 1 (by omega))
  obtain ⟨A2, c2, hV2, hm2, hc2, hr2⟩ := own_slice (HF.row 2 (by omega))
  obtain ⟨A4, c4, hV4, hm4, hc4, hr4⟩ := own_slice (HF.row 3 (by omega))
  rw [hV0, hL0] at hV0'
  obtain ⟨rfl, rfl⟩ : A3' = A0 ∧ c3' = c0 := by injection hV0' with h1 h2 h3; exact ⟨h1, h3⟩
  have q0 := HF.blk 0 (by omega)
  have q1 := HF.blk 1 (by omega)
  have q2 := HF.blk 2 (by omega)
  have q3 := HF.blk 3 (by omega)
  rw [hV0] at q0
  rw [hV1, hL1.out] at q1
  rw [hV2, hL2.out] at q2
  rw [hV4, hL3.out] at q3
  rw [hL0, HLM.out] at hr0
  rw [hL1.out] at hr1
  rw [hL2.out] at hr2
  rw [hL3.out] at hr4
  have htk : l.take m = l := List.take_of_length_le (by have := HLM.out; omega)
  rw [htk] at hr2 q2
  have hn1 : (oneTo l m).length ≤ 20 := Nat.le_trans (oneTo_le m (by have := HLM.out; omega)) hm
  have hn2 : (cutW f t l).length ≤ 20 := by rw [← htk]; exact Nat.le_trans cutW_le hm
  have hn4 : (speedK ti p l m).length ≤ 20 := Nat.le_trans speedK_le hm
  have F : Fin4 r c h w A m cp g g1 g2 g3 A3' c3' A1 (oneTo l m).length c1 A2 (cutW f t l).length c2 A4 (speedK ti p l m).length c4 l (oneTo l m) (cutW f t l) (speedK ti p l m) wx.heap.size wx :=
    ⟨HF.bX, q0, q1, q2, q3, ((hr.more hB).below HF.hb).more HF.hb.size, hr0, hr1, hr2, hr4, Nat.le_refl _, HF.hb⟩
  go_step
  go_step
  exact edits_after hw hc3 hmc3 hm hn1 hn2 hn4 HLM HV HS F
end
end Go.Proofs.YtjohgmnabemakaaGreatDoor
