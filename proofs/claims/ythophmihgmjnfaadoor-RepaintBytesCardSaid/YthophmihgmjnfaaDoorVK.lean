/- A part of the proof of RepaintBytes. -/
import Derived.Test.YthophmihgmjnfaaDoorVJ
set_option linter.unusedVariables false
set_option linter.unusedSimpArgs false
-- --
namespace Go.Proofs.YthophmihgmjnfaaDoor
open Go.RowKit Go.Rep
set_option maxRecDepth 100000
set_option linter.unusedSimpArgs false
theorem make_ints (n : Nat) (hn : n ≤ 100000) (W : World) : (Instr.makeSlice 61 (.int .i64 n) (.int .i64 n)).run Tryd.prog W = .ok (.slice (some ⟨W.heap.size, 0, none⟩) n n) (W.alloc (.cells (ivals (List.replicate n 0)).toArray 3)) := by
  obtain ⟨i0, hi, hz0, hz1, hz2⟩ := info_parts int_info
  have h := run_makeSlice (P := Tryd.prog) (w := W) 61 3 i0 (.int .i64 0) Tryd.underlying61 hi hz0 .i64 .i64 n n (by omega) (by omega) (by rw [hz1]; omega) (by rw [hz2]; omega) (by omega)
  have e : madeCells (Value.int .i64 0).cells (Int.toNat (n : Int) * 1) = (ivals (List.replicate n 0)).toArray := by
    rw [Int.toNat_natCast, Nat.mul_one]
    apply Array.ext
    · simp [madeCells, ivals]
    · intro i h1 h2
      simp [madeCells, ivals, Value.cells, Nat.mod_one]
  rw [h, hz1, e]
  rfl
theorem Reads.subZ {w : World} {B n : Nat} {A : Option Addr} {l : List Int} (hl : l.length = n) (hn : n = 0) : Reads w B 1 A n (ivals l) := ⟨by rw [ivals_length]; omega, fun h => by omega⟩
theorem fill_at (l : List Int) {i q : Nat} (hl : i ≤ l.length) (hi : i < q) : (ivals (l.take i ++ List.replicate (q - i) 0)).toArray[i]? = some (.int .i64 0) := by
  unfold ivals
  rw [List.getElem?_toArray, List.getElem?_map, List.getElem?_append_right (by rw [List.length_take]; omega), List.length_take, show i - min i l.length = 0 by omega, List.getElem?_replicate]
  rw [if_pos (by omega)]
  rfl
theorem fill_set (l : List Int) {i q : Nat} (hl : i < l.length) (hi : i < q) : (ivals (l.take i ++ List.replicate (q - i) 0)).toArray.setIfInBounds i (.int .i64 (iAt l i)) = (ivals (l.take (i + 1) ++ List.replicate (q - (i + 1)) 0)).toArray := by
  have e : iAt l i = l[i] := by unfold iAt; rw [List.getD_eq_getElem?_getD, List.getElem?_eq_getElem hl]; rfl
  rw [e, List.take_succ_eq_append_getElem hl, show q - i = (q - (i + 1)) + 1 by omega, List.replicate_succ]
  unfold ivals
  rw [List.setIfInBounds_toArray]
  congr 1
  rw [List.map_append, List.set_append, if_neg (by rw [List.length_map, List.length_take]; omega)]
  rw [List.length_map, List.length_take, show i - min i l.length = 0 by omega, List.map_append, List.map_append, List.append_assoc]
  rfl
set_option maxHeartbeats 8000000 in
theorem stext_any {l : List Int} {B n cp : Nat} {A : Option Addr} {w0 : World} (hr : Reads w0 B 1 A n (ivals l)) (hB : B ≤ w0.heap.size) (hn : l.length = n) (hcp : n ≤ cp) (hs : smI l) (h40 : n ≤ 40) (hL : Laid2 w0) : Calls Tryd.prog 21 #[.slice A n cp] w0 fun e w' => e = .returned (.tuple #[.string (S (sgrL l)), .int .i64 0]) ∧ Below w0.heap.size w0 w' := by
  have HR := Lib.hid hr
  have HN := Lib.hid hn
  have HL := Lib.hid hL
  clear hr hn hL
  go_enter Tryd.func21, Tryd.ntmps21
  go_upto_block 0 with (go_at_call 31; refine (scheck_any HR.out HN.out hs (by omega)).mono ?_; rintro e w ⟨rfl, rfl⟩)
  go_wp2
  go_loopw [0] (fun v wr => ∃ (l' : List Int) (A' : Option Addr) (m c' : Nat) (acc : List UInt8), v = .slice A' m c' ∧ l'.length = m ∧ m ≤ c' ∧ m ≤ n ∧ smI l' ∧ Reads wr B 1 A' m (ivals l') ∧ Hid (acc ++ sgrL l' = sgrL l) ∧ acc.length ≤ 600 * (n - m) ∧ Lib.IsBuilderF 67 5 w.heap.size w.heap.size (Lib.byteCells acc) wr ∧ Below w.heap.size w wr) (fun v _ => lenOf v)
  case atStart => exact ⟨l, A, n, cp, [], rfl, HN.out, hcp, Nat.le_refl _, hs, HR.out.alloc hB _, Lib.hid rfl, Nat.zero_le _, bl_new w, (Below.refl _ _).alloc (Nat.le_refl _) _⟩
  case round =>
    obtain ⟨l', A', m, c', acc, rfl, hl', hmc, hmn, hs', RL, hacc, hal, hI, hbr⟩ := hrel
    have hsr := hbr.size
    have hlb := bl_lt hI
    have HAL := Lib.hid hal
    clear hal
    obtain ⟨wd, hwd⟩ : ∃ wd, wd = wr := ⟨_, rfl⟩
    subst hwd
    by_cases h1 : 0 < m
    · have h1' : (0 : Int) < (m : Int) := by omega
      obtain ⟨ad, rfl⟩ := Reads.isome RL h1
      go_wp2_with fail
      go_loopw [6] (fun u wx => ∃ q : Nat, q ≤ m ∧ q ≤ 16 ∧ u = .int .i64 q ∧ Hid (manyTo l' q = manyTo l' 0) ∧ wd = wx) (fun u _ => m - (intOf u).toNat)
      case atStart => exact ⟨0, Nat.zero_le _, by omega, rfl, Lib.hid rfl, rfl⟩
      case round =>
        obtain ⟨q, hq, hq16, rfl, hmt, hwx⟩ := hrel
        subst hwx
        by_cases h2 : q < m
        · have h2' : (q : Int) < (m : Int) := by omega
          have h3 : ¬ c' = q := by omega
          have h4 : (q : Int) ≤ (m : Int) := by omega
          have h5 : (m : Int) ≤ (c' : Int) := by omega
          have RQ := Reads.subI RL hl' hq
          have hgr := group_any (cp := c' - q) RQ (by rw [List.length_drop, hl']) (by omega)
          have hgl := groupN_le (l'.drop q) (by rw [List.length_drop]; omega)
          rw [List.length_drop] at hgl
          have hmu : manyTo l' q = if q < l'.length ∧ q + groupN (l'.drop q) ≤ 16 then manyTo l' (q + groupN (l'.drop q)) else q := by (conv => lhs; unfold manyTo); simp only [dite_eq_ite]
          obtain ⟨g, hg⟩ : ∃ g, groupN (l'.drop q) = g := ⟨_, rfl⟩
          rw [hg] at hgr hgl hmu
          clear hg
          have HMU := Lib.hid hmu
          have HGL := Lib.hid hgl
          have g1 : 1 ≤ g := hgl.1
          have g2 : g ≤ 5 := hgl.2.1
          have g3 : q + g ≤ m := by have := hgl.2.2; omega
          clear hmu hgl
          have hgw : IntKind.i64.wrap ((q : Int) + (g : Int)) = (q : Int) + (g : Int) := by rw [IntWalk.i64_in] <;> omega
          by_cases h6 : q + g ≤ 16
          · have h6' : ¬ (16 : Int) < (q : Int) + (g : Int) := by omega
            have h6'' : ¬ 16 < q + g := by omega
            have EU := Lib.hid (show manyTo l' q = manyTo l' (q + g) by rw [HMU.out, if_pos ⟨by omega, h6⟩])
            clear h6
            go_wp2_with (go_at_call 32; refine hgr.mono ?_; rintro e w5 ⟨rfl, hw5⟩; rw [hw5])
            go_roundw
            case rel => exact ⟨q + g, by omega, by omega, by first | rfl | (show Value.int .i64 _ = .int .i64 _; congr 1; omega), Lib.hid (by rw [← EU.out]; exact hmt.out), trivial⟩
            case measure => simp [intOf]; omega
          · have h6' : (16 : Int) < (q : Int) + (g : Int) := by omega
            have h6'' : 16 < q + g := by omega
            have EM := Lib.hid (show manyTo l' 0 = q by rw [← hmt.out, HMU.out, if_neg (fun h => h6 h.2)])
            clear h6
            have hM1 : 1 ≤ q := by rw [← EM.out]; exact manyTo_pos (by omega)
            have hmk := make_ints q (by omega)
            have HG := Lib.hid (show sgrL l' = [27, 91] ++ joinL (l'.take q) ++ [109] ++ sgrL (l'.drop q) by conv => lhs; unfold sgrL; rw [dif_pos (by omega), EM.out])
            have hm6 : (q : Int) ≤ (m : Int) := by omega
            have hm7 : (0 : Int) ≤ (q : Int) := by omega
            have hm8 : (q : Int) ≤ (c' : Int) := by omega
            clear hmt
            go_wp2_with (go_at_call 32; refine hgr.mono ?_; rintro e w5 ⟨rfl, hw5⟩; rw [hw5])
            go_loopw [42] (fun u wx => ∃ i : Nat, i ≤ q ∧ u = .int .i64 i ∧ Blk wx wd.heap.size 3 (ivals (l'.take i ++ List.replicate (q - i) 0)).toArray ∧ Below wd.heap.size wd wx) (fun u _ => q - (intOf u).toNat)
            case atStart => exact ⟨0, Nat.zero_le _, rfl, by rw [List.take_zero, List.nil_append, Nat.sub_zero]; exact Blk.new wd 3 _, (Below.refl _ _).alloc (Nat.le_refl _) _⟩
            case round =>
              obtain ⟨i, hi1, rfl, Bi, hbi⟩ := hrel
              clear hmk
              have hsi := hbi.size
              have RLi := RL.below (hbi.mono (Nat.le_trans hB hsr))
              by_cases hiq : i < q
              · have i1 : (i : Int) < (q : Int) := by omega
                have i2 : (i : Int) < (m : Int) := by omega
                have hc := Reads.iat RLi hl' (show i < m by omega)
                have hx := hs'.at_ (show i < l'.length by omega)
                have mx : max (-1 : Int) (iAt l' i) = iAt l' i := by omega
                have c1 : wr.cell? ⟨wd.heap.size, i, none⟩ = some (.int .i64 0) := (Bi.cell i).trans (fill_at l' (by omega) hiq)
                have c2 := Bi.frozen i
                have ES := Lib.hid (fill_set l' (show i < l'.length by omega) hiq)
                go_wp2
                go_roundw
                case rel => exact ⟨i + 1, by omega, by go_num, by rw [← ES.out]; exact Bi.set_ i _, hbi.setCell (p := ⟨wd.heap.size, i, none⟩) (Nat.le_refl _) _⟩
                case measure => simp [intOf]; omega
              · obtain rfl : i = q := by omega
                have i1 : ¬ (i : Int) < (i : Int) := by omega
                have hbk : (l'.take i ++ List.replicate (i - i) 0) = l'.take i := by rw [Nat.sub_self]; simp
                rw [hbk] at Bi
                have hlt : (l'.take i).length = i := by rw [List.length_take]; omega
                have RT : Reads wr (wd.heap.size + 1) 1 (some ⟨wd.heap.size, 0, none⟩) i (ivals (l'.take i)) := Blk.readsAll Bi (by rw [ivals_length, hlt]; omega)
                have c0 := Reads.iat RT hlt (show 0 < i by omega)
                rw [add_zero_ad] at c0
                have hx0 := (hs'.sub i).2.at_ (show 0 < (l'.take i).length by rw [hlt]; omega)
                have hx1 : ¬ iAt (l'.take i) 0 < 0 := by omega
                have hbw : Below w.heap.size w wr := hbr.trans (hbi.mono hsr)
                have hpt := ptext_any (cp := i) RT (by have := Bi.lt; omega) hlt (hs'.sub i).2 (by omega) (HL.out.low hbw)
                have hjl : (joinL (l'.take i)).length ≤ 500 := by have := joinL_len (hs'.sub i).2; rw [hlt] at this; omega
                obtain ⟨jt, hjt⟩ : ∃ jt, joinL (l'.take i) = jt := ⟨_, rfl⟩
                rw [hjt] at hpt hjl HG
                clear hjt
                obtain ⟨zjt, yjt⟩ := sized jt
                obtain ⟨s0, sz0, sE0, sl0, sq0, sn0, sy0⟩ := cat [27, 91] jt ⟨#[27, 91]⟩ (S jt) 2 zjt 2 500 502 rfl rfl rfl yjt (by decide) hjl rfl (by decide)
                obtain ⟨s1, sz1, sE1, sl1, sq1, sn1, sy1⟩ := cat s0 [109] (S s0) ⟨#[109]⟩ sz0 1 502 1 503 rfl rfl sy0 rfl sl0 (by decide) rfl (by decide)
                have hI0 := Lib_up hI hbi
                obtain ⟨AA, hif⟩ : ∃ AA, (if c' = i then some ad else some (ad.add i)) = AA := ⟨_, rfl⟩
                have HIF := Lib.hid hif
                have RS := Reads.subI RL hl' (show i ≤ m by omega)
                rcases Decidable.em (i = 1) with h18 | h18
                · have e18 : ((i : Int) == 1) = true := beq_iff_eq.2 (by omega)
                  clear h18
                  go_wp2_with (first
                    | (go_at_call 28; have qq := hI6; refine (ws_any (acc := acc) (a := s1) hI6 (by have := HAL.out; omega) (by omega)).mono ?_; rintro e w7 ⟨⟨u7, rfl⟩, hI7, hb7, hk7⟩)
                    | (go_at_call 33; refine hpt.mono ?_; rintro e w6 ⟨rfl, hb6⟩; have hI6 := Lib_up hI0 hb6; have hs6 := hb6.size; have Bi6 := Bi.below hb6 Bi.lt; have c06 : w6.cell? ⟨wd.heap.size, 0, none⟩ = some (.int .i64 (iAt (l'.take i) 0)) := by rw [← c0]; exact hb6.cell (by exact Bi.lt)))
                  have hbt : Below w.heap.size wd w7 := ((hbi.mono hsr).trans (hb6.mono (Nat.le_trans hsr hsi))).trans hb7
                  have RA : Reads w7 B 1 AA (m - i) (ivals (l'.drop i)) := by rw [← HIF.out]; split; exact Reads.subZ (by rw [List.length_drop]; omega) (by omega); exact RS.below (hbt.mono hB)
                  go_roundw
                  case rel => first | exact ⟨l'.drop i, AA, m - i, c' - i, acc ++ s1, rfl, by rw [List.length_drop]; omega, by omega, by omega, (hs'.sub i).1, RA, Lib.hid (by rw [← hacc.out, HG.out, sE1.out, sE0.out]; simp), by have := HAL.out; rw [List.length_append]; omega, hI7, hbr.trans (hbt.mono (Nat.le_refl _))⟩ | exact ⟨l'.drop i, some (ad.add i), m - i, c' - i, acc ++ s1, rfl, by rw [List.length_drop]; omega, by omega, by omega, (hs'.sub i).1, RS.below (hbt.mono hB), Lib.hid (by rw [← hacc.out, HG.out, sE1.out, sE0.out]; simp), by have := HAL.out; rw [List.length_append]; omega, hI7, hbr.trans (hbt.mono (Nat.le_refl _))⟩
                  case measure => simp [lenOf]; omega
                · have e18 : ((i : Int) == 1) = false := beq_eq_false_iff_ne.2 (by omega)
                  clear h18
                  go_wp2_with (first
                    | (go_at_call 28; have qq := hI6; refine (ws_any (acc := acc) (a := s1) hI6 (by have := HAL.out; omega) (by omega)).mono ?_; rintro e w7 ⟨⟨u7, rfl⟩, hI7, hb7, hk7⟩)
                    | (go_at_call 33; refine hpt.mono ?_; rintro e w6 ⟨rfl, hb6⟩; have hI6 := Lib_up hI0 hb6; have hs6 := hb6.size; have Bi6 := Bi.below hb6 Bi.lt; have c06 : w6.cell? ⟨wd.heap.size, 0, none⟩ = some (.int .i64 (iAt (l'.take i) 0)) := by rw [← c0]; exact hb6.cell (by exact Bi.lt)))
                  have hbt : Below w.heap.size wd w7 := ((hbi.mono hsr).trans (hb6.mono (Nat.le_trans hsr hsi))).trans hb7
                  have RA : Reads w7 B 1 AA (m - i) (ivals (l'.drop i)) := by rw [← HIF.out]; split; exact Reads.subZ (by rw [List.length_drop]; omega) (by omega); exact RS.below (hbt.mono hB)
                  go_roundw
                  case rel => first | exact ⟨l'.drop i, AA, m - i, c' - i, acc ++ s1, rfl, by rw [List.length_drop]; omega, by omega, by omega, (hs'.sub i).1, RA, Lib.hid (by rw [← hacc.out, HG.out, sE1.out, sE0.out]; simp), by have := HAL.out; rw [List.length_append]; omega, hI7, hbr.trans (hbt.mono (Nat.le_refl _))⟩ | exact ⟨l'.drop i, some (ad.add i), m - i, c' - i, acc ++ s1, rfl, by rw [List.length_drop]; omega, by omega, by omega, (hs'.sub i).1, RS.below (hbt.mono hB), Lib.hid (by rw [← hacc.out, HG.out, sE1.out, sE0.out]; simp), by have := HAL.out; rw [List.length_append]; omega, hI7, hbr.trans (hbt.mono (Nat.le_refl _))⟩
                  case measure => simp [lenOf]; omega
        · have h2' : ¬ (q : Int) < (m : Int) := by omega
          have EM := Lib.hid (show manyTo l' 0 = q by rw [← hmt.out]; unfold manyTo; rw [dif_neg (fun h => h2 (by omega))])
          have hM1 : 1 ≤ q := by rw [← EM.out]; exact manyTo_pos (by omega)
          have hmk := make_ints q (by omega)
          have HG := Lib.hid (show sgrL l' = [27, 91] ++ joinL (l'.take q) ++ [109] ++ sgrL (l'.drop q) by conv => lhs; unfold sgrL; rw [dif_pos (by omega), EM.out])
          have hm6 : (q : Int) ≤ (m : Int) := by omega
          have hm7 : (0 : Int) ≤ (q : Int) := by omega
          have hm8 : (q : Int) ≤ (c' : Int) := by omega
          clear hmt
          go_wp2_with fail
          go_loopw [42] (fun u wx => ∃ i : Nat, i ≤ q ∧ u = .int .i64 i ∧ Blk wx wd.heap.size 3 (ivals (l'.take i ++ List.replicate (q - i) 0)).toArray ∧ Below wd.heap.size wd wx) (fun u _ => q - (intOf u).toNat)
          case atStart => exact ⟨0, Nat.zero_le _, rfl, by rw [List.take_zero, List.nil_append, Nat.sub_zero]; exact Blk.new wd 3 _, (Below.refl _ _).alloc (Nat.le_refl _) _⟩
          case round =>
            obtain ⟨i, hi1, rfl, Bi, hbi⟩ := hrel
            clear hmk
            have hsi := hbi.size
            have RLi := RL.below (hbi.mono (Nat.le_trans hB hsr))
            by_cases hiq : i < q
            · have i1 : (i : Int) < (q : Int) := by omega
              have i2 : (i : Int) < (m : Int) := by omega
              have hc := Reads.iat RLi hl' (show i < m by omega)
              have hx := hs'.at_ (show i < l'.length by omega)
              have mx : max (-1 : Int) (iAt l' i) = iAt l' i := by omega
              have c1 : wr.cell? ⟨wd.heap.size, i, none⟩ = some (.int .i64 0) := (Bi.cell i).trans (fill_at l' (by omega) hiq)
              have c2 := Bi.frozen i
              have ES := Lib.hid (fill_set l' (show i < l'.length by omega) hiq)
              go_wp2
              go_roundw
              case rel => exact ⟨i + 1, by omega, by go_num, by rw [← ES.out]; exact Bi.set_ i _, hbi.setCell (p := ⟨wd.heap.size, i, none⟩) (Nat.le_refl _) _⟩
              case measure => simp [intOf]; omega
            · obtain rfl : i = q := by omega
              have i1 : ¬ (i : Int) < (i : Int) := by omega
              have hbk : (l'.take i ++ List.replicate (i - i) 0) = l'.take i := by rw [Nat.sub_self]; simp
              rw [hbk] at Bi
              have hlt : (l'.take i).length = i := by rw [List.length_take]; omega
              have RT : Reads wr (wd.heap.size + 1) 1 (some ⟨wd.heap.size, 0, none⟩) i (ivals (l'.take i)) := Blk.readsAll Bi (by rw [ivals_length, hlt]; omega)
              have c0 := Reads.iat RT hlt (show 0 < i by omega)
              rw [add_zero_ad] at c0
              have hx0 := (hs'.sub i).2.at_ (show 0 < (l'.take i).length by rw [hlt]; omega)
              have hx1 : ¬ iAt (l'.take i) 0 < 0 := by omega
              have hbw : Below w.heap.size w wr := hbr.trans (hbi.mono hsr)
              have hpt := ptext_any (cp := i) RT (by have := Bi.lt; omega) hlt (hs'.sub i).2 (by omega) (HL.out.low hbw)
              have hjl : (joinL (l'.take i)).length ≤ 500 := by have := joinL_len (hs'.sub i).2; rw [hlt] at this; omega
              obtain ⟨jt, hjt⟩ : ∃ jt, joinL (l'.take i) = jt := ⟨_, rfl⟩
              rw [hjt] at hpt hjl HG
              clear hjt
              obtain ⟨zjt, yjt⟩ := sized jt
              obtain ⟨s0, sz0, sE0, sl0, sq0, sn0, sy0⟩ := cat [27, 91] jt ⟨#[27, 91]⟩ (S jt) 2 zjt 2 500 502 rfl rfl rfl yjt (by decide) hjl rfl (by decide)
              obtain ⟨s1, sz1, sE1, sl1, sq1, sn1, sy1⟩ := cat s0 [109] (S s0) ⟨#[109]⟩ sz0 1 502 1 503 rfl rfl sy0 rfl sl0 (by decide) rfl (by decide)
              have hI0 := Lib_up hI hbi
              obtain ⟨AA, hif⟩ : ∃ AA, (if c' = i then some ad else some (ad.add i)) = AA := ⟨_, rfl⟩
              have HIF := Lib.hid hif
              have RS := Reads.subI RL hl' (show i ≤ m by omega)
              rcases Decidable.em (i = 1) with h18 | h18
              · have e18 : ((i : Int) == 1) = true := beq_iff_eq.2 (by omega)
                clear h18
                go_wp2_with (first
                  | (go_at_call 28; have qq := hI6; refine (ws_any (acc := acc) (a := s1) hI6 (by have := HAL.out; omega) (by omega)).mono ?_; rintro e w7 ⟨⟨u7, rfl⟩, hI7, hb7, hk7⟩)
                  | (go_at_call 33; refine hpt.mono ?_; rintro e w6 ⟨rfl, hb6⟩; have hI6 := Lib_up hI0 hb6; have hs6 := hb6.size; have Bi6 := Bi.below hb6 Bi.lt; have c06 : w6.cell? ⟨wd.heap.size, 0, none⟩ = some (.int .i64 (iAt (l'.take i) 0)) := by rw [← c0]; exact hb6.cell (by exact Bi.lt)))
                have hbt : Below w.heap.size wd w7 := ((hbi.mono hsr).trans (hb6.mono (Nat.le_trans hsr hsi))).trans hb7
                have RA : Reads w7 B 1 AA (m - i) (ivals (l'.drop i)) := by rw [← HIF.out]; split; exact Reads.subZ (by rw [List.length_drop]; omega) (by omega); exact RS.below (hbt.mono hB)
                go_roundw
                case rel => first | exact ⟨l'.drop i, AA, m - i, c' - i, acc ++ s1, rfl, by rw [List.length_drop]; omega, by omega, by omega, (hs'.sub i).1, RA, Lib.hid (by rw [← hacc.out, HG.out, sE1.out, sE0.out]; simp), by have := HAL.out; rw [List.length_append]; omega, hI7, hbr.trans (hbt.mono (Nat.le_refl _))⟩ | exact ⟨l'.drop i, some (ad.add i), m - i, c' - i, acc ++ s1, rfl, by rw [List.length_drop]; omega, by omega, by omega, (hs'.sub i).1, RS.below (hbt.mono hB), Lib.hid (by rw [← hacc.out, HG.out, sE1.out, sE0.out]; simp), by have := HAL.out; rw [List.length_append]; omega, hI7, hbr.trans (hbt.mono (Nat.le_refl _))⟩
                case measure => simp [lenOf]; omega
              · have e18 : ((i : Int) == 1) = false := beq_eq_false_iff_ne.2 (by omega)
                clear h18
                go_wp2_with (first
                  | (go_at_call 28; have qq := hI6; refine (ws_any (acc := acc) (a := s1) hI6 (by have := HAL.out; omega) (by omega)).mono ?_; rintro e w7 ⟨⟨u7, rfl⟩, hI7, hb7, hk7⟩)
                  | (go_at_call 33; refine hpt.mono ?_; rintro e w6 ⟨rfl, hb6⟩; have hI6 := Lib_up hI0 hb6; have hs6 := hb6.size; have Bi6 := Bi.below hb6 Bi.lt; have c06 : w6.cell? ⟨wd.heap.size, 0, none⟩ = some (.int .i64 (iAt (l'.take i) 0)) := by rw [← c0]; exact hb6.cell (by exact Bi.lt)))
                have hbt : Below w.heap.size wd w7 := ((hbi.mono hsr).trans (hb6.mono (Nat.le_trans hsr hsi))).trans hb7
                have RA : Reads w7 B 1 AA (m - i) (ivals (l'.drop i)) := by rw [← HIF.out]; split; exact Reads.subZ (by rw [List.length_drop]; omega) (by omega); exact RS.below (hbt.mono hB)
                go_roundw
                case rel => first | exact ⟨l'.drop i, AA, m - i, c' - i, acc ++ s1, rfl, by rw [List.length_drop]; omega, by omega, by omega, (hs'.sub i).1, RA, Lib.hid (by rw [← hacc.out, HG.out, sE1.out, sE0.out]; simp), by have := HAL.out; rw [List.length_append]; omega, hI7, hbr.trans (hbt.mono (Nat.le_refl _))⟩ | exact ⟨l'.drop i, some (ad.add i), m - i, c' - i, acc ++ s1, rfl, by rw [List.length_drop]; omega, by omega, by omega, (hs'.sub i).1, RS.below (hbt.mono hB), Lib.hid (by rw [← hacc.out, HG.out, sE1.out, sE0.out]; simp), by have := HAL.out; rw [List.length_append]; omega, hI7, hbr.trans (hbt.mono (Nat.le_refl _))⟩
                case measure => simp [lenOf]; omega
    · have h1' : ¬ (0 : Int) < (m : Int) := by omega
      obtain rfl : m = 0 := by omega
      obtain rfl : l' = [] := List.eq_nil_of_length_eq_zero hl'
      have HE := Lib.hid (show acc = sgrL l by rw [← hacc.out, show sgrL [] = [] by unfold sgrL; rfl, List.append_nil])
      have hstr := Tryd.Builder_String_any_k w.heap.size w.heap.size _ wd hI (by omega)
      go_wp2_with (go_at_call 29; refine hstr.mono ?_; rintro e w9 ⟨rfl, _, hb9, _⟩)
      go_ret2
      exact ⟨by rw [← HE.out]; rfl, hbr.trans hb9⟩
end Go.Proofs.YthophmihgmjnfaaDoor
