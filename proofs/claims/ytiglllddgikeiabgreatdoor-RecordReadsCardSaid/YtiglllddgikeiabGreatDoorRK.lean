/- The run of the law by the evaluator returns true, whatever the numbers. -/
import Derived.Test.YtiglllddgikeiabGreatDoorM4
import Derived.Test.YtiglllddgikeiabGreatDoorM3
import Derived.OwnWalk
import Derived.Deep.DeepCutAuto
import Derived.Deep.RegionHeld3
import Derived.Deep.RegionLaw
namespace Go.Proofs.YtiglllddgikeiabGreatDoor
open Go.RowKit Go.Rep
set_option maxRecDepth 100000
abbrev strs (l : List ByteArray) : Array Value := (l.map Value.string).toArray
/-- The loop of Parse, behind k lines. -/
def PL (w : World) (lns : List ByteArray) (k : Nat) (last : Int) (wr : World) : Prop := ∃ (r c h : Int) (evs : List Ev) (v : Value), PSt ((lns.take k).map words) r c h last evs ∧ Blk wr (w.heap.size + 1) 26 #[.int .i64 r, .int .i64 c, .int .i64 h, v] ∧
  wr.ownsRow (w.heap.size + 3) 40 6 v evs.length (evCells evs) ∧ Blk wr w.heap.size 26 zeroRec ∧ Blk wr (w.heap.size + 1 + 1) 9 (strs lns) ∧ Below w.heap.size w wr ∧ w.heap.size + 3 ≤ wr.heap.size
theorem PL.up {w wr w' : World} {lns : List ByteArray} {k : Nat} {last : Int} (h : PL w lns k last wr) (hb : Below wr.heap.size wr w') : PL w lns k last w' := by
  obtain ⟨r, c, h, evs, v, h1, h2, h3, h4, h5, h6, h7⟩ := h
  exact ⟨r, c, h, evs, v, h1, h2.below hb h2.lt, own_up h3 hb, h4.below hb h4.lt, h5.below hb h5.lt, h6.then _ hb, Nat.le_trans h7 hb.size⟩
def ParseP (s : ByteArray) (w : World) (e : Ending) (w' : World) : Prop :=
  ((∃ (r c h : Int) (l : List Ev) (v : Value), e = .returned (.tuple #[.agg #[.int .i64 r, .int .i64 c, .int .i64 h, v], .int .i64 0]) ∧ w'.ownsRow w.heap.size 40 6 v l.length (evCells l) ∧ validB r c h l = true ∧ S (textL r c h l) = s ∧ parsed s = some (r, c, h, l)) ∨
    (e = .returned (.tuple #[.agg zeroRec, .int .i64 6]) ∧ ∀ r c h l, parsed s = some (r, c, h, l) → validB r c h l = true → S (textL r c h l) = s → False)) ∧ Below w.heap.size w w'
abbrev ints (l : List Int) : Array Value := (l.map (Value.int .i64)).toArray
theorem int_info : (Tryz.prog.info? 3).map (fun i => (i.zero, i.size, i.bytes)) = some (some (.int .i64 0), 1, 8) := by kernel_rfl
theorem make4 (W : World) : (Instr.makeSlice 47 (.int .i64 4) (.int .i64 4)).run Tryz.prog W = .ok (.slice (some ⟨W.heap.size, 0, none⟩) 4 4) (W.alloc (.cells #[.int .i64 0, .int .i64 0, .int .i64 0, .int .i64 0] 3)) := by
  obtain ⟨i0, hi, hz0, hz1, hz2⟩ := info_parts int_info
  have h := run_makeSlice (P := Tryz.prog) (w := W) 47 3 i0 (.int .i64 0) Tryz.underlying47 hi hz0 .i64 .i64 4 4 (by omega) (by omega) (by rw [hz1]; decide) (by rw [hz2]; decide) (by omega)
  have e : madeCells (Value.int IntKind.i64 0).cells (Int.toNat 4 * 1) = #[.int .i64 0, .int .i64 0, .int .i64 0, .int .i64 0] := by kernel_rfl
  rw [h, hz1, e]
  rfl
theorem parsed_of {s : ByteArray} {ls : List (List ByteArray)} {r c h last : Int} {evs : List Ev} (hl : (linesOf s).map words = ls) (hp : PSt ls r c h last evs) (h0 : ls ≠ []) (h1 : ls.length ≤ 2001) : parsed s = some (r, c, h, evs) := by
  unfold parsed
  rw [hl]
  cases ls with
  | nil => exact absurd rfl h0
  | cons w0 rest =>
    obtain ⟨q1, rfl, rfl, rfl, rfl, rfl⟩ := hp
    simp only
    rw [if_pos ⟨by simp at h1; omega, fun ws hws => q1 ws hws⟩]
theorem parsed_long {s : ByteArray} (h : 2001 < (linesOf s).length) : parsed s = none := by
  unfold parsed
  have hl : ((linesOf s).map words).length = (linesOf s).length := List.length_map ..
  cases hq : (linesOf s).map words with
  | nil => rfl
  | cons w0 rest =>
    simp only
    rw [hq] at hl
    rw [if_neg]
    intro hh
    simp at hl
    omega
theorem parsed_bad {s : ByteArray} {ws : List ByteArray} (hm : ws ∈ (linesOf s).map words) (h : ¬ (3 ≤ ws.length ∧ ws.length ≤ 4)) : parsed s = none := by
  unfold parsed
  cases hq : (linesOf s).map words with
  | nil => rfl
  | cons w0 rest =>
    simp only
    rw [if_neg]
    intro hh
    rw [hq] at hm
    exact h (hh.2 ws hm)
theorem str_of {s : ByteArray} {l : List UInt8} (h : (s.toList == l) = true) : s = S l := by
  have h2 : s.toList = l := by simpa using h
  rw [Lib.toList_data] at h2
  rw [← S_of s, h2]
theorem str_not {s : ByteArray} {l : List UInt8} (h : (s.toList == l) = false) : ¬ s = S l := by
  intro e
  rw [e, Lib.toList_data, S_list] at h
  simp at h
theorem ev_new' {w1 : World} {n : Nat} (hn : w1.heap.size = n) (e : Ev) (T : TypeId) : ∀ (j : Nat) (u : Value), e.cells[j]? = some u → (w1.alloc (.cells #[.int .i64 e.at', .int .i64 e.o.k, .string e.o.s, .int .i64 e.o.r, .int .i64 e.o.c, .int .i64 e.o.n] T)).cell? ((⟨n, 0, none⟩ : Addr).add j) = some u := by
  subst hn
  exact ev_new w1 e T
theorem strs_at {l : List ByteArray} {k : Nat} {x : ByteArray} (h : l[k]? = some x) : (strs l)[k]? = some (.string x) := by
  simp [h]
set_option maxHeartbeats 8000000 in
theorem parse_any (s : ByteArray) (hs : s.size ≤ 1000000) {w : World} (hw : Laid w) : Calls Tryz.prog 8 #[.string s] w (ParseP s w) := by
  obtain ⟨i0, hi, hz0, hz1, hz2⟩ := info_parts ev_info
  have HW := Lib.hid hw
  obtain ⟨t, ht⟩ : ∃ t, S (Lib.trimSuffix s.data.toList [10]) = t := ⟨_, rfl⟩
  obtain ⟨lns, hlns⟩ : ∃ lns, cutB 10 t = lns := ⟨_, rfl⟩
  have hlin : linesOf s = lns := by rw [linesOf, ht, hlns]
  have hts : t.size ≤ 1000000 := by
    rw [← ht, S_size]
    have := Lib.trimSuffix_le s.data.toList [10]
    rw [Array.length_toList] at this
    exact Nat.le_trans this hs
  have htr := trim_any s (by omega) 
  rw [ht] at htr
  have hsp := fun (w' : World) (h : Laid w') => split_any 10 t (by omega) h
  rw [hlns] at hsp
  have HLIN := Lib.hid hlin
  clear hlin ht
  have hba : Below w.heap.size w ((w.alloc (.cells zeroRec 26)).alloc (.cells zeroRec 26)) := ((Below.refl _ _).alloc (Nat.le_refl _) _).alloc (by simp) _
  have hLa := HW.out.up hba
  go_enter Tryz.func8, Tryz.ntmps8
  go_wp2_with (first
    | (go_at_call 22; refine (hsp _ hLa).mono ?_; rintro e w2 ⟨rfl, rfl⟩)
    | (go_at_call 23; refine (htr _).mono ?_; rintro e w2 ⟨rfl, rfl⟩))
  have hPL0 : PL w lns 0 0 (((w.alloc (.cells zeroRec 26)).alloc (.cells zeroRec 26)).alloc (.cells (strs lns) 9)) := by
    have s1 : (w.alloc (.cells zeroRec 26)).heap.size = w.heap.size + 1 := by simp
    have s2 : ((w.alloc (.cells zeroRec 26)).alloc (.cells zeroRec 26)).heap.size = w.heap.size + 1 + 1 := by simp
    have B0 := ((Blk.new w 26 zeroRec).alloc (.cells zeroRec 26)).alloc (.cells (strs lns) 9)
    have B1 := (Blk.new (w.alloc (.cells zeroRec 26)) 26 zeroRec).alloc (.cells (strs lns) 9)
    have B2 := Blk.new ((w.alloc (.cells zeroRec 26)).alloc (.cells zeroRec 26)) 9 (strs lns)
    rw [s1] at B1
    rw [s2] at B2
    exact ⟨0, 0, 0, [], .slice none 0 0, ⟨by simp, rfl, rfl, rfl, rfl, rfl⟩, B1, by simpa [evCells] using World.ownsRow_nil _ _ _ _, B0, B2, hba.alloc (by simp; omega) _, by simp⟩
  clear hLa hba htr hsp
  go_loopw [5, 18] (fun la i wr => ∃ (k : Nat) (last : Int), k ≤ lns.length ∧ k ≤ 2001 ∧ la = .int .i64 last ∧ i = .int .i64 (k : Int) ∧ PL w lns k last wr) (fun _ i _ => lns.length - (intOf i).toNat)
  case atStart => exact ⟨0, 0, Nat.zero_le _, by omega, rfl, rfl, hPL0⟩
  case round =>
    obtain ⟨k, last, hk, hk1, rfl, rfl, hPL⟩ := hrel
    obtain ⟨wo, hwo⟩ : ∃ wo, wo = wr := ⟨_, rfl⟩
    subst hwo
    by_cases hlt : k < lns.length
    · obtain ⟨L, hL⟩ : ∃ L, lns[k]? = some L := ⟨_, List.getElem?_eq_getElem hlt⟩
      have hPL' := hPL
      obtain ⟨r, c, h, evs, v, q1, q2, q3, q4, q5, q6, q7⟩ := hPL'
      have x5 : wo.cell? ⟨w.heap.size + 1 + 1, k, none⟩ = some (.string L) := (q5.cell k).trans (strs_at hL)
      have hLs : L.size ≤ 1000000 := Nat.le_trans (cutB_le (by rw [hlns]; exact List.mem_of_getElem? hL)) hts
      have hlt2 : (k : Int) < (lns.length : Int) := by omega
      obtain ⟨ws, hws⟩ : ∃ ws, words L = ws := ⟨_, rfl⟩
      have hsp2 := split_any 32 L (by omega) (HW.out.up q6)
      rw [show cutB 32 L = ws from hws] at hsp2
      by_cases hbad : 2000 < k ∨ ws.length < 3 ∨ 4 < ws.length
      · have hpn : Hid (parsed s = none) := Lib.hid (by
          rcases Nat.lt_or_ge 2000 k with h1 | h1
          · exact parsed_long (by rw [HLIN.out]; omega)
          · refine parsed_bad (ws := ws) ?_ (by omega)
            rw [HLIN.out, ← hws]
            exact List.mem_map.2 ⟨L, List.mem_of_getElem? hL, rfl⟩)
        have P4 := q4.alloc (.cells (strs ws) 9)
        have P6 : Below w.heap.size w (wo.alloc (.cells (strs ws) 9)) := q6.alloc (by omega) _
        have p0 : (wo.alloc (.cells (strs ws) 9)).cell? ⟨w.heap.size, 0, none⟩ = some (.int .i64 0) := P4.cell 0
        have p1 : (wo.alloc (.cells (strs ws) 9)).cell? ⟨w.heap.size, 1, none⟩ = some (.int .i64 0) := P4.cell 1
        have p2 : (wo.alloc (.cells (strs ws) 9)).cell? ⟨w.heap.size, 2, none⟩ = some (.int .i64 0) := P4.cell 2
        have p3 : (wo.alloc (.cells (strs ws) 9)).cell? ⟨w.heap.size, 3, none⟩ = some (.slice none 0 0) := P4.cell 3
        have f0 : (wo.alloc (.cells (strs ws) 9)).frozen? ⟨w.heap.size, 0, none⟩ = false := P4.frozen 0
        have f1 : (wo.alloc (.cells (strs ws) 9)).frozen? ⟨w.heap.size, 1, none⟩ = false := P4.frozen 1
        have f2 : (wo.alloc (.cells (strs ws) 9)).frozen? ⟨w.heap.size, 2, none⟩ = false := P4.frozen 2
        have f3 : (wo.alloc (.cells (strs ws) 9)).frozen? ⟨w.heap.size, 3, none⟩ = false := P4.frozen 3
        have hle : w.heap.size ≤ w.heap.size := Nat.le_refl _
        have b3 := (((P4.set_ 0 (.int .i64 0)).set_ 1 (.int .i64 0)).set_ 2 (.int .i64 0)).set_ 3 (.slice none 0 0)
        have hfin : Below w.heap.size w (((((wo.alloc (.cells (strs ws) 9)).setCell ⟨w.heap.size, 0, none⟩ (.int .i64 0)).setCell ⟨w.heap.size, 1, none⟩ (.int .i64 0)).setCell ⟨w.heap.size, 2, none⟩ (.int .i64 0)).setCell ⟨w.heap.size, 3, none⟩ (.slice none 0 0)) := (((P6.setCell (p := ⟨w.heap.size, 0, none⟩) hle _).setCell (p := ⟨w.heap.size, 1, none⟩) hle _).setCell (p := ⟨w.heap.size, 2, none⟩) hle _).setCell (p := ⟨w.heap.size, 3, none⟩) hle _
        rcases Nat.lt_or_ge 2000 k with h1 | h1
        · have hk2 : 2000 < (k : Int) := by omega
          clear hbad
          go_wp2_with (go_at_call 22; refine hsp2.mono ?_; rintro e w2 ⟨rfl, rfl⟩)
          refine bodyPost_ret (res_rec rfl (b3.cell 0) (b3.cell 1) (b3.cell 2) (b3.cell 3) rfl rfl) rfl ?_
          exact ⟨.inr ⟨rfl, fun r c h l hp _ _ => by rw [hpn.out] at hp; cases hp⟩, hfin⟩
        · have hk2 : ¬ 2000 < (k : Int) := by omega
          rcases Nat.lt_or_ge ws.length 3 with h2 | h2
          · have hw3 : (ws.length : Int) < 3 := by omega
            clear hbad
            go_wp2_with (go_at_call 22; refine hsp2.mono ?_; rintro e w2 ⟨rfl, rfl⟩)
            refine bodyPost_ret (res_rec rfl (b3.cell 0) (b3.cell 1) (b3.cell 2) (b3.cell 3) rfl rfl) rfl ?_
            exact ⟨.inr ⟨rfl, fun r c h l hp _ _ => by rw [hpn.out] at hp; cases hp⟩, hfin⟩
          · have hw3 : ¬ (ws.length : Int) < 3 := by omega
            have hw4 : 4 < (ws.length : Int) := by omega
            clear hbad
            go_wp2_with (go_at_call 22; refine hsp2.mono ?_; rintro e w2 ⟨rfl, rfl⟩)
            refine bodyPost_ret (res_rec rfl (b3.cell 0) (b3.cell 1) (b3.cell 2) (b3.cell 3) rfl rfl) rfl ?_
            exact ⟨.inr ⟨rfl, fun r c h l hp _ _ => by rw [hpn.out] at hp; cases hp⟩, hfin⟩
      · have hk2 : ¬ 2000 < (k : Int) := by omega
        have hw3 : ¬ (ws.length : Int) < 3 := by omega
        have hw4 : ¬ 4 < (ws.length : Int) := by omega
        go_upto_region 9 with (first
          | (go_at_call 22; refine hsp2.mono ?_; rintro e w2 ⟨rfl, rfl⟩))
        have BW := Blk.new wo 9 (strs ws)
        have hPL2 := hPL.up ((Below.refl _ _).alloc (Nat.le_refl _) (.cells (strs ws) 9))
        have hws1 : (wo.alloc (.cells (strs ws) 9)).heap.size = wo.heap.size + 1 := by simp
        have hmk := make4 (wo.alloc (.cells (strs ws) 9))
        rw [hws1] at hmk
        have BN := Blk.new (wo.alloc (.cells (strs ws) 9)) 3 #[.int .i64 0, .int .i64 0, .int .i64 0, .int .i64 0]
        rw [hws1] at BN
        have hPL3 := hPL2.up ((Below.refl _ _).alloc (Nat.le_refl _) (.cells #[.int .i64 0, .int .i64 0, .int .i64 0, .int .i64 0] 3))
        have BW3 := BW.alloc (.cells #[.int .i64 0, .int .i64 0, .int .i64 0, .int .i64 0] 3)
        have hw3b : Below w.heap.size w ((wo.alloc (.cells (strs ws) 9)).alloc (.cells #[.int .i64 0, .int .i64 0, .int .i64 0, .int .i64 0] 3)) := (q6.alloc (by omega) _).alloc (by simp; omega) _
        have HB3 := Lib.hid hw3b
        have hwo3 : Below wo.heap.size wo ((wo.alloc (.cells (strs ws) 9)).alloc (.cells #[.int .i64 0, .int .i64 0, .int .i64 0, .int .i64 0] 3)) := ((Below.refl _ _).alloc (Nat.le_refl _) _).alloc (by simp) _
        have HWO := Lib.hid hwo3
        clear hwo3
        have HWS := Lib.hid hws
        have HL := Lib.hid hL
        clear hws hL hw3b hws1 hsp2
        go_wp2
        generalize hW3 : (wo.alloc (.cells (strs ws) 9)).alloc (.cells #[.int .i64 0, .int .i64 0, .int .i64 0, .int .i64 0] 3) = W3 at *
        have HW3 := Lib.hid hW3
        clear hW3
        go_loopw [41] (fun i wr => ∃ j : Nat, j ≤ ws.length ∧ i = .int .i64 (j : Int) ∧ Blk wr (wo.heap.size + 1) 3 (ints (numsTo ws j)) ∧ Below (wo.heap.size + 1) W3 wr) (fun i _ => ws.length - (intOf i).toNat)
        case atStart => exact ⟨0, Nat.zero_le _, rfl, by simpa [numsTo, ints] using BN, Below.refl _ _⟩
        case round =>
          obtain ⟨j, hj, rfl, BNq, hbq⟩ := hrel
          have hqs := BNq.lt
          have BWq := BW3.below hbq (by omega)
          have hwq : Below w.heap.size w wr := HB3.out.trans (hbq.mono (by omega))
          by_cases hjl : j < ws.length
          · obtain ⟨x, hx⟩ : ∃ x, ws[j]? = some x := ⟨_, List.getElem?_eq_getElem hjl⟩
            have y0 : wr.cell? ⟨wo.heap.size, j, none⟩ = some (.string x) := (BWq.cell j).trans (strs_at hx)
            have hxs : x.size ≤ 1000000 := Nat.le_trans (cutB_le (s := L) (c := 32) (by rw [show cutB 32 L = ws from HWS.out]; exact List.mem_of_getElem? hx)) hLs
            have hat := atoi_any x (by omega) (HW.out.up hwq)
            have hnl := numsTo_len hj (by omega)
            have hset := numsTo_set hx (by omega)
            obtain ⟨av, hav⟩ : ∃ av, atoiV x = av := ⟨_, rfl⟩
            rw [hav] at hat hset
            have HSET := Lib.hid hset
            have HX := Lib.hid hx
            clear hset hx hav
            have hjl0 : (j : Int) < (ws.length : Int) := by omega
            have hj40 : (j : Int) < 4 := by omega
            have hj41 : (0 : Int) ≤ (j : Int) := by omega
            obtain ⟨o, ho⟩ : ∃ o, (numsTo ws j)[j]? = some o := ⟨_, List.getElem?_eq_getElem (by omega)⟩
            have ho2 : (ints (numsTo ws j))[j]? = some (.int .i64 o) := by simp [ho]
            have HO := Lib.hid ho2
            clear ho ho2
            go_wp2_with (go_at_call 24; refine hat.mono ?_; rintro e w5 ⟨⟨u5, rfl⟩, hb5⟩; have BN5 := BNq.below hb5 BNq.lt; have z0 : w5.cell? ⟨wo.heap.size + 1, j, none⟩ = some (.int .i64 o) := (BN5.cell j).trans HO.out; have f0 : w5.frozen? ⟨wo.heap.size + 1, j, none⟩ = false := BN5.frozen j)
            go_roundw
            case rel =>
              refine ⟨j + 1, by omega, by go_num, ?_, (hbq.trans (hb5.mono (by omega))).setCell (p := ⟨wo.heap.size + 1, j, none⟩) (Nat.le_refl _) _⟩
              have h9 := BN5.set_ j (.int .i64 av)
              have e9 : (ints (numsTo ws j)).setIfInBounds j (.int .i64 av) = ints (numsTo ws (j + 1)) := by
                rw [← HSET.out]
                simp [ints]
              rw [e9] at h9
              exact h9
            case measure => simp [intOf]; omega
          · obtain rfl : j = ws.length := by omega
            have hna := numsTo_all (ws := ws) (by omega) (by omega)
            have hwor : Below wo.heap.size wo wr := HWO.out.trans (hbq.mono (by omega))
            obtain ⟨r', c', h', evs', v', p1, p2, p3, p4, p5, p6, p7⟩ := hPL.up hwor
            clear hPL2 hPL3
            rw [hna] at BNq
            obtain ⟨n0, hn0⟩ : ∃ n0, nthV ws 0 = n0 := ⟨_, rfl⟩
            obtain ⟨n1, hn1⟩ : ∃ n1, nthV ws 1 = n1 := ⟨_, rfl⟩
            obtain ⟨n2, hn2⟩ : ∃ n2, nthV ws 2 = n2 := ⟨_, rfl⟩
            obtain ⟨n3, hn3⟩ : ∃ n3, nthV ws 3 = n3 := ⟨_, rfl⟩
            rw [hn0, hn1, hn2, hn3] at BNq
            have HN := Lib.hid (And.intro hn0 (And.intro hn1 (And.intro hn2 hn3)))
            clear hn0 hn1 hn2 hn3 hna
            have z0 : wr.cell? ⟨wo.heap.size + 1, 0, none⟩ = some (.int .i64 n0) := BNq.cell 0
            have z1 : wr.cell? ⟨wo.heap.size + 1, 1, none⟩ = some (.int .i64 n1) := BNq.cell 1
            have z2 : wr.cell? ⟨wo.heap.size + 1, 2, none⟩ = some (.int .i64 n2) := BNq.cell 2
            have z3 : wr.cell? ⟨wo.heap.size + 1, 3, none⟩ = some (.int .i64 n3) := BNq.cell 3
            have hokw : lineOK ws := ⟨by omega, by omega⟩
            have htk : Hid ((lns.take (k + 1)).map words = (lns.take k).map words ++ [ws]) := Lib.hid (by
              rw [List.take_succ_eq_append_getElem hlt, (List.getElem?_eq_some_iff.1 HL.out).2]
              simp [HWS.out])
            have hel : evs'.length ≤ 2000 := Nat.le_trans p1.len (by rw [List.length_map, List.length_take]; omega)
            rcases Nat.eq_zero_or_pos k with h0 | h0
            · subst h0
              have b0 : wr.cell? ⟨w.heap.size + 1, 0, none⟩ = some (.int .i64 r') := p2.cell 0
              have b1 : wr.cell? ⟨w.heap.size + 1, 1, none⟩ = some (.int .i64 c') := p2.cell 1
              have b2 : wr.cell? ⟨w.heap.size + 1, 2, none⟩ = some (.int .i64 h') := p2.cell 2
              have f0 : wr.frozen? ⟨w.heap.size + 1, 0, none⟩ = false := p2.frozen 0
              have f1 : wr.frozen? ⟨w.heap.size + 1, 1, none⟩ = false := p2.frozen 1
              have f2 : wr.frozen? ⟨w.heap.size + 1, 2, none⟩ = false := p2.frozen 2
              go_upto_region 16 with fail
              go_region_law (fail)
              all_goals
                go_wp2_with fail
                go_roundw
                case rel =>
                  have hlast : last = 0 := p1.2.2.2.2.1
                  have hev : evs' = [] := p1.2.2.2.2.2
                  subst hlast hev
                  have hps : PSt ((lns.take 1).map words) n1 n2 n3 0 [] := by
                    have h1 := PSt.first (ws := ws) (by simpa using p1) hokw
                    rw [HN.out.2.1, HN.out.2.2.1, HN.out.2.2.2] at h1
                    have h2 := htk.out
                    simp only [Nat.zero_add] at h2
                    rw [h2]
                    simpa using h1
                  have hneA : w.heap.size ≠ w.heap.size + 1 := by omega
                  have hneB : w.heap.size + 1 + 1 ≠ w.heap.size + 1 := by omega
                  refine ⟨1, 0, by omega, by omega, rfl, by go_num, n1, n2, n3, [], v', hps, ((p2.drew.set_ 0 _).set_ 1 _).set_ 2 _, own_far (own_far (own_far (own_drewN p3 1) (by omega)) (by omega)) (by omega), (((p4.drew.far (p := ⟨w.heap.size + 1, 0, none⟩) hneA _).far (p := ⟨w.heap.size + 1, 1, none⟩) hneA _).far (p := ⟨w.heap.size + 1, 2, none⟩) hneA _), (((p5.drew.far (p := ⟨w.heap.size + 1, 0, none⟩) hneB _).far (p := ⟨w.heap.size + 1, 1, none⟩) hneB _).far (p := ⟨w.heap.size + 1, 2, none⟩) hneB _), ?_, by simpa [World.setCell] using p7⟩
                  exact (((below_drewN p6 1).setCell (p := ⟨w.heap.size + 1, 0, none⟩) (by show w.heap.size ≤ w.heap.size + 1; omega) _).setCell (p := ⟨w.heap.size + 1, 1, none⟩) (by show w.heap.size ≤ w.heap.size + 1; omega) _).setCell (p := ⟨w.heap.size + 1, 2, none⟩) (by show w.heap.size ≤ w.heap.size + 1; omega) _
                case measure => simp [intOf]; omega
            · have hk0 : ¬ (k : Int) = 0 := by omega
              obtain ⟨la, hla⟩ : ∃ la, wrap64 (last + min n0 1099511627777) = la := ⟨_, rfl⟩
              have hlan : Hid (lastNext last ws = la) := Lib.hid (by rw [lastNext, HN.out.1, ← hla])
              obtain ⟨w1, w2, hw1, hw2⟩ : ∃ w1 w2, ws[1]? = some w1 ∧ ws[2]? = some w2 := ⟨_, _, List.getElem?_eq_getElem (by omega), List.getElem?_eq_getElem (by omega)⟩
              have y1 : wr.cell? ⟨wo.heap.size, 1, none⟩ = some (.string w1) := (BWq.cell 1).trans (strs_at hw1)
              have y2 : wr.cell? ⟨wo.heap.size, 2, none⟩ = some (.string w2) := (BWq.cell 2).trans (strs_at hw2)
              have ya1 : ∀ o, (wr.alloc o).cell? ⟨wo.heap.size, 1, none⟩ = some (.string w1) := fun o => ((BWq.alloc o).cell 1).trans (strs_at hw1)
              have ya2 : ∀ o, (wr.alloc o).cell? ⟨wo.heap.size, 2, none⟩ = some (.string w2) := fun o => ((BWq.alloc o).cell 2).trans (strs_at hw2)
              have za2 : ∀ o, (wr.alloc o).cell? ⟨wo.heap.size + 1, 2, none⟩ = some (.int .i64 n2) := fun o => (BNq.alloc o).cell 2
              have za3 : ∀ o, (wr.alloc o).cell? ⟨wo.heap.size + 1, 3, none⟩ = some (.int .i64 n3) := fun o => (BNq.alloc o).cell 3
              have hw1l : (1 : Int) < (ws.length : Int) := by omega
              have hw2l : (2 : Int) < (ws.length : Int) := by omega
              have HW12 := Lib.hid (And.intro hw1 hw2)
              clear hw1 hw2
              by_cases hwr : (w1.toList == [119, 114, 105, 116, 101]) = true
              · have HWR : Hid (w1 = S [119, 114, 105, 116, 101]) := Lib.hid (str_of hwr)
                have hw2s : w2.size ≤ 1000000 := Nat.le_trans (cutB_le (s := L) (c := 32) (by rw [show cutB 32 L = ws from HWS.out]; exact List.mem_of_getElem? HW12.out.2)) hLs
                have hLr : Laid (wr.alloc (.cells #[.int .i64 la, .int .i64 0, .string ⟨#[]⟩, .int .i64 0, .int .i64 0, .int .i64 0] 40)) := (HW.out.up p6).up ((Below.refl _ _).alloc (Nat.le_refl _) _)
                have hun := unhexed_any w2 hw2s hLr
                obtain ⟨dt, hdt⟩ : ∃ dt, unhexL w2.data.toList = dt := ⟨_, rfl⟩
                rw [hdt] at hun
                have HDT := Lib.hid hdt
                clear hdt
                have BY := Blk.new wr 40 #[.int .i64 la, .int .i64 0, .string ⟨#[]⟩, .int .i64 0, .int .i64 0, .int .i64 0]
                go_upto_region 26 with (go_at_call 25; refine hun.mono ?_; rintro e w5 ⟨rfl, hb5⟩; have BY5 := BY.below hb5 BY.lt; have c0 : w5.cell? ⟨wr.heap.size, 0, none⟩ = some (.int .i64 la) := BY5.cell 0; have c1 : w5.cell? ⟨wr.heap.size, 1, none⟩ = some (.int .i64 0) := BY5.cell 1; have c2 : w5.cell? ⟨wr.heap.size, 2, none⟩ = some (.string ⟨#[]⟩) := BY5.cell 2; have c3 : w5.cell? ⟨wr.heap.size, 3, none⟩ = some (.int .i64 0) := BY5.cell 3; have c4 : w5.cell? ⟨wr.heap.size, 4, none⟩ = some (.int .i64 0) := BY5.cell 4; have c5 : w5.cell? ⟨wr.heap.size, 5, none⟩ = some (.int .i64 0) := BY5.cell 5; have f1 : w5.frozen? ⟨wr.heap.size, 1, none⟩ = false := BY5.frozen 1; have f2 : w5.frozen? ⟨wr.heap.size, 2, none⟩ = false := BY5.frozen 2; have f3 : w5.frozen? ⟨wr.heap.size, 3, none⟩ = false := BY5.frozen 3; have f4 : w5.frozen? ⟨wr.heap.size, 4, none⟩ = false := BY5.frozen 4; have f5 : w5.frozen? ⟨wr.heap.size, 5, none⟩ = false := BY5.frozen 5)
                obtain ⟨Wy, hWy⟩ : ∃ Wy, Wy = (((((w5.setCell ⟨wr.heap.size, 1, none⟩ (.int .i64 1)).setCell ⟨wr.heap.size, 2, none⟩ (.string (S dt))).setCell ⟨wr.heap.size, 3, none⟩ (.int .i64 0)).setCell ⟨wr.heap.size, 4, none⟩ (.int .i64 0)).setCell ⟨wr.heap.size, 5, none⟩ (.int .i64 0)) := ⟨_, rfl⟩
                have BYy : Blk Wy wr.heap.size 40 #[.int .i64 la, .int .i64 1, .string (S dt), .int .i64 0, .int .i64 0, .int .i64 0] := by rw [hWy]; exact ((((BY5.set_ 1 _).set_ 2 _).set_ 3 _).set_ 4 _).set_ 5 _
                have hbY : Below wr.heap.size wr Wy := by rw [hWy]; exact (((((((Below.refl wr.heap.size wr).alloc (Nat.le_refl _) _).then _ hb5).setCell (Nat.le_refl _) _).setCell (Nat.le_refl _) _).setCell (Nat.le_refl _) _).setCell (Nat.le_refl _) _).setCell (Nat.le_refl _) _
                rw [← hWy]
                clear hWy
                have P2 := p2.below hbY p2.lt
                have P3 := own_up p3 hbY
                have P4 := p4.below hbY p4.lt
                have P5 := p5.below hbY p5.lt
                have P6 := p6.then _ hbY
                have hsy := hbY.size
                have t0 : Wy.cell? ⟨wr.heap.size, 0, none⟩ = some (.int .i64 la) := BYy.cell 0
                have t1 : Wy.cell? ⟨wr.heap.size, 1, none⟩ = some (.int .i64 1) := BYy.cell 1
                have t2 : Wy.cell? ⟨wr.heap.size, 2, none⟩ = some (.string (S dt)) := BYy.cell 2
                have t3 : Wy.cell? ⟨wr.heap.size, 3, none⟩ = some (.int .i64 0) := BYy.cell 3
                have t4 : Wy.cell? ⟨wr.heap.size, 4, none⟩ = some (.int .i64 0) := BYy.cell 4
                have t5 : Wy.cell? ⟨wr.heap.size, 5, none⟩ = some (.int .i64 0) := BYy.cell 5
                have x3 : Wy.cell? ⟨w.heap.size + 1, 3, none⟩ = some v' := P2.cell 3
                have hneO : v'.ownBlock ≠ some (w.heap.size + 1) := fun e => by have := own_base P3 e; omega
                have hneO2 : v'.ownBlock ≠ some (w.heap.size + 1 + 1) := fun e => by have := own_lt p3 e; exact own_blk_ne P3 P5 (by decide) e
                have hneO0 : v'.ownBlock ≠ some w.heap.size := fun e => by have := own_base P3 e; omega
                have hYlt := BYy.lt
                have hnew := ev_new' (w1 := Wy) rfl (⟨la, ⟨1, (S dt), 0, 0, 0⟩⟩ : Ev) 40
                skip
                go_wp2_with (at_builtin; refine wpList_append_own _ rfl (.tmp 106) (.tmp 108) 24 rfl (w.heap.size + 3) 40 i0 (.agg zero6) 6 56 Tryz.underlying24 hi hz0 hz1 hz2 rfl (by decide) _ evs'.length (evCells evs') rfl (World.ownsRow.alloc P3 _) ⟨Wy.heap.size, 0, none⟩ 1 1 (⟨la, ⟨1, (S dt), 0, 0, 0⟩⟩ : Ev).cells rfl rfl hnew (ev_cell (⟨la, ⟨1, (S dt), 0, 0, 0⟩⟩ : Ev)) (by show evs'.length + 1 ≤ 9223372036854775807; omega) (by omega) (by simp; omega) ?_; intro v7 w7 hown7 hg7 _; obtain ⟨A7, c7, rfl, _, _, _⟩ := own_slice hown7; have Q2 := (P2.alloc (.cells #[.int .i64 la, .int .i64 1, .string (S dt), .int .i64 0, .int .i64 0, .int .i64 0] 40)).grown hg7 (fun q => hneO q.symm); have X3 : w7.cell? ⟨w.heap.size + 1, 3, none⟩ = some v' := Q2.cell 3; have F3 : w7.frozen? ⟨w.heap.size + 1, 3, none⟩ = false := Q2.frozen 3)
                go_roundw
                case rel =>
                  have hps := PSt.next (ws := ws) p1 (by intro hq; have h2 := congrArg List.length hq; rw [List.length_map, List.length_take, List.length_nil] at h2; omega) hokw
                  rw [hlan.out, ← htk.out] at hps
                  have hop : opOf ws = ⟨1, (S dt), 0, 0, 0⟩ := by unfold opOf; rw [if_pos (by rw [wd, HW12.out.1]; exact HWR.out)]; rw [wd, HW12.out.2]; simp only [Option.getD_some]; rw [HDT.out]
                  rw [hop] at hps
                  have Q4 := (P4.alloc (.cells #[.int .i64 la, .int .i64 1, .string (S dt), .int .i64 0, .int .i64 0, .int .i64 0] 40)).grown hg7 (fun q => hneO0 q.symm)
                  have Q5 := (P5.alloc (.cells #[.int .i64 la, .int .i64 1, .string (S dt), .int .i64 0, .int .i64 0, .int .i64 0] 40)).grown hg7 (fun q => hneO2 q.symm)
                  have Q6 : Below w.heap.size w w7 := (P6.alloc P6.size (.cells #[.int .i64 la, .int .i64 1, .string (S dt), .int .i64 0, .int .i64 0, .int .i64 0] 40)).grown hg7 (by have := P6.size; simp; omega) (fun q hq => by have := own_base P3 hq; omega)
                  have hl7 : (evs' ++ [(⟨la, ⟨1, (S dt), 0, 0, 0⟩⟩ : Ev)]).length = evs'.length + 1 := by simp
                  refine ⟨k + 1, la, by omega, by omega, rfl, by go_num, r', c', h', evs' ++ [(⟨la, ⟨1, (S dt), 0, 0, 0⟩⟩ : Ev)], _, hps, Q2.set_ 3 _, ?_, Q4.far (by show w.heap.size ≠ w.heap.size + 1; omega) _, Q5.far (by show w.heap.size + 1 + 1 ≠ w.heap.size + 1; omega) _, Q6.setCell (by show w.heap.size ≤ w.heap.size + 1; omega) _, ?_⟩
                  · rw [hl7, evCells_snoc]; exact own_far hown7 (by omega)
                  · have := hg7.size; simp at this; simp [World.setCell]; omega
                case measure => simp [intOf]; omega
              · have hwr2 : (w1.toList == [119, 114, 105, 116, 101]) = false := by simpa using hwr
                clear hwr
                have HNW : Hid (¬ w1 = S [119, 114, 105, 116, 101]) := Lib.hid (str_not hwr2)
                by_cases hrz : (w1.toList == [114, 101, 115, 105, 122, 101]) = true
                · have HRZ : Hid (w1 = S [114, 101, 115, 105, 122, 101]) := Lib.hid (str_of hrz)
                  go_upto_region 23 with fail
                  have zd2 : (wr.alloc (.cells #[.int .i64 la, .int .i64 0, .string ⟨#[]⟩, .int .i64 0, .int .i64 0, .int .i64 0] 40)).drew.cell? ⟨wo.heap.size + 1, 2, none⟩ = some (.int .i64 n2) := za2 _
                  have zd3 : (wr.alloc (.cells #[.int .i64 la, .int .i64 0, .string ⟨#[]⟩, .int .i64 0, .int .i64 0, .int .i64 0] 40)).drew.cell? ⟨wo.heap.size + 1, 3, none⟩ = some (.int .i64 n3) := za3 _
                  have ze2 : ∀ o, (wr.alloc o).drew.cell? ⟨wo.heap.size + 1, 2, none⟩ = some (.int .i64 n2) := za2
                  have ze3 : ∀ o, (wr.alloc o).drew.cell? ⟨wo.heap.size + 1, 3, none⟩ = some (.int .i64 n3) := za3
                  (go_region_held3 (fun w' => w'.cell? ⟨wo.heap.size + 1, 2, none⟩ = some (.int .i64 n2) ∧ w'.cell? ⟨wo.heap.size + 1, 3, none⟩ = some (.int .i64 n3)) (first | exact ⟨zd2, zd3⟩ | exact ⟨ze2 _, ze3 _⟩) (fail))
                  obtain ⟨Wy, hWy⟩ : ∃ Wy, Wy = (wr.alloc (.cells #[.int .i64 la, .int .i64 2, .string ⟨#[]⟩, .int .i64 n2, .int .i64 n3, .int .i64 0] 40)).drew := ⟨_, rfl⟩
                  have BYy : Blk Wy wr.heap.size 40 #[.int .i64 la, .int .i64 2, .string ⟨#[]⟩, .int .i64 n2, .int .i64 n3, .int .i64 0] := by rw [hWy]; exact (Blk.new wr 40 _).drew
                  have hbY : Below wr.heap.size wr Wy := by rw [hWy]; exact below_drewN ((Below.refl wr.heap.size wr).alloc (Nat.le_refl _) _) 1
                  rw [← hWy]
                  clear hWy
                  have P2 := p2.below hbY p2.lt
                  have P3 := own_up p3 hbY
                  have P4 := p4.below hbY p4.lt
                  have P5 := p5.below hbY p5.lt
                  have P6 := p6.then _ hbY
                  have hsy := hbY.size
                  have t0 : Wy.cell? ⟨wr.heap.size, 0, none⟩ = some (.int .i64 la) := BYy.cell 0
                  have t1 : Wy.cell? ⟨wr.heap.size, 1, none⟩ = some (.int .i64 2) := BYy.cell 1
                  have t2 : Wy.cell? ⟨wr.heap.size, 2, none⟩ = some (.string ⟨#[]⟩) := BYy.cell 2
                  have t3 : Wy.cell? ⟨wr.heap.size, 3, none⟩ = some (.int .i64 n2) := BYy.cell 3
                  have t4 : Wy.cell? ⟨wr.heap.size, 4, none⟩ = some (.int .i64 n3) := BYy.cell 4
                  have t5 : Wy.cell? ⟨wr.heap.size, 5, none⟩ = some (.int .i64 0) := BYy.cell 5
                  have x3 : Wy.cell? ⟨w.heap.size + 1, 3, none⟩ = some v' := P2.cell 3
                  have hneO : v'.ownBlock ≠ some (w.heap.size + 1) := fun e => by have := own_base P3 e; omega
                  have hneO2 : v'.ownBlock ≠ some (w.heap.size + 1 + 1) := fun e => by have := own_lt p3 e; exact own_blk_ne P3 P5 (by decide) e
                  have hneO0 : v'.ownBlock ≠ some w.heap.size := fun e => by have := own_base P3 e; omega
                  have hYlt := BYy.lt
                  have hnew := ev_new' (w1 := Wy) rfl (⟨la, ⟨2, ⟨#[]⟩, n2, n3, 0⟩⟩ : Ev) 40
                  skip
                  go_wp2_with (at_builtin; refine wpList_append_own _ rfl (.tmp 106) (.tmp 108) 24 rfl (w.heap.size + 3) 40 i0 (.agg zero6) 6 56 Tryz.underlying24 hi hz0 hz1 hz2 rfl (by decide) _ evs'.length (evCells evs') rfl (World.ownsRow.alloc P3 _) ⟨Wy.heap.size, 0, none⟩ 1 1 (⟨la, ⟨2, ⟨#[]⟩, n2, n3, 0⟩⟩ : Ev).cells rfl rfl hnew (ev_cell (⟨la, ⟨2, ⟨#[]⟩, n2, n3, 0⟩⟩ : Ev)) (by show evs'.length + 1 ≤ 9223372036854775807; omega) (by omega) (by simp; omega) ?_; intro v7 w7 hown7 hg7 _; obtain ⟨A7, c7, rfl, _, _, _⟩ := own_slice hown7; have Q2 := (P2.alloc (.cells #[.int .i64 la, .int .i64 2, .string ⟨#[]⟩, .int .i64 n2, .int .i64 n3, .int .i64 0] 40)).grown hg7 (fun q => hneO q.symm); have X3 : w7.cell? ⟨w.heap.size + 1, 3, none⟩ = some v' := Q2.cell 3; have F3 : w7.frozen? ⟨w.heap.size + 1, 3, none⟩ = false := Q2.frozen 3)
                  go_roundw
                  case rel =>
                    have hps := PSt.next (ws := ws) p1 (by intro hq; have h2 := congrArg List.length hq; rw [List.length_map, List.length_take, List.length_nil] at h2; omega) hokw
                    rw [hlan.out, ← htk.out] at hps
                    have hop : opOf ws = ⟨2, ⟨#[]⟩, n2, n3, 0⟩ := by unfold opOf; rw [if_neg (by rw [wd, HW12.out.1]; exact HNW.out), if_pos (by rw [wd, HW12.out.1]; exact HRZ.out), HN.out.2.2.1, HN.out.2.2.2]; rfl
                    rw [hop] at hps
                    have Q4 := (P4.alloc (.cells #[.int .i64 la, .int .i64 2, .string ⟨#[]⟩, .int .i64 n2, .int .i64 n3, .int .i64 0] 40)).grown hg7 (fun q => hneO0 q.symm)
                    have Q5 := (P5.alloc (.cells #[.int .i64 la, .int .i64 2, .string ⟨#[]⟩, .int .i64 n2, .int .i64 n3, .int .i64 0] 40)).grown hg7 (fun q => hneO2 q.symm)
                    have Q6 : Below w.heap.size w w7 := (P6.alloc P6.size (.cells #[.int .i64 la, .int .i64 2, .string ⟨#[]⟩, .int .i64 n2, .int .i64 n3, .int .i64 0] 40)).grown hg7 (by have := P6.size; simp; omega) (fun q hq => by have := own_base P3 hq; omega)
                    have hl7 : (evs' ++ [(⟨la, ⟨2, ⟨#[]⟩, n2, n3, 0⟩⟩ : Ev)]).length = evs'.length + 1 := by simp
                    refine ⟨k + 1, la, by omega, by omega, rfl, by go_num, r', c', h', evs' ++ [(⟨la, ⟨2, ⟨#[]⟩, n2, n3, 0⟩⟩ : Ev)], _, hps, Q2.set_ 3 _, ?_, Q4.far (by show w.heap.size ≠ w.heap.size + 1; omega) _, Q5.far (by show w.heap.size + 1 + 1 ≠ w.heap.size + 1; omega) _, Q6.setCell (by show w.heap.size ≤ w.heap.size + 1; omega) _, ?_⟩
                    · rw [hl7, evCells_snoc]; exact own_far hown7 (by omega)
                    · have := hg7.size; simp at this; simp [World.setCell]; omega
                  case measure => simp [intOf]; omega
                · have hrz2 : (w1.toList == [114, 101, 115, 105, 122, 101]) = false := by simpa using hrz
                  have HNR : Hid (¬ w1 = S [114, 101, 115, 105, 122, 101]) := Lib.hid (str_not hrz2)
                  clear hrz
                  by_cases hsc : (w1.toList == [115, 99, 114, 111, 108, 108]) = true
                  · have HSC : Hid (w1 = S [115, 99, 114, 111, 108, 108]) := Lib.hid (str_of hsc)
                    go_upto_region 26 with fail
                    obtain ⟨Wy, hWy⟩ : ∃ Wy, Wy = (wr.alloc (.cells #[.int .i64 la, .int .i64 3, .string ⟨#[]⟩, .int .i64 0, .int .i64 0, .int .i64 n2] 40)) := ⟨_, rfl⟩
                    have BYy : Blk Wy wr.heap.size 40 #[.int .i64 la, .int .i64 3, .string ⟨#[]⟩, .int .i64 0, .int .i64 0, .int .i64 n2] := by rw [hWy]; exact Blk.new wr 40 _
                    have hbY : Below wr.heap.size wr Wy := by rw [hWy]; exact (Below.refl wr.heap.size wr).alloc (Nat.le_refl _) _
                    rw [← hWy]
                    clear hWy
                    have P2 := p2.below hbY p2.lt
                    have P3 := own_up p3 hbY
                    have P4 := p4.below hbY p4.lt
                    have P5 := p5.below hbY p5.lt
                    have P6 := p6.then _ hbY
                    have hsy := hbY.size
                    have t0 : Wy.cell? ⟨wr.heap.size, 0, none⟩ = some (.int .i64 la) := BYy.cell 0
                    have t1 : Wy.cell? ⟨wr.heap.size, 1, none⟩ = some (.int .i64 3) := BYy.cell 1
                    have t2 : Wy.cell? ⟨wr.heap.size, 2, none⟩ = some (.string ⟨#[]⟩) := BYy.cell 2
                    have t3 : Wy.cell? ⟨wr.heap.size, 3, none⟩ = some (.int .i64 0) := BYy.cell 3
                    have t4 : Wy.cell? ⟨wr.heap.size, 4, none⟩ = some (.int .i64 0) := BYy.cell 4
                    have t5 : Wy.cell? ⟨wr.heap.size, 5, none⟩ = some (.int .i64 n2) := BYy.cell 5
                    have x3 : Wy.cell? ⟨w.heap.size + 1, 3, none⟩ = some v' := P2.cell 3
                    have hneO : v'.ownBlock ≠ some (w.heap.size + 1) := fun e => by have := own_base P3 e; omega
                    have hneO2 : v'.ownBlock ≠ some (w.heap.size + 1 + 1) := fun e => by have := own_lt p3 e; exact own_blk_ne P3 P5 (by decide) e
                    have hneO0 : v'.ownBlock ≠ some w.heap.size := fun e => by have := own_base P3 e; omega
                    have hYlt := BYy.lt
                    have hnew := ev_new' (w1 := Wy) rfl (⟨la, ⟨3, ⟨#[]⟩, 0, 0, n2⟩⟩ : Ev) 40
                    skip
                    go_wp2_with (at_builtin; refine wpList_append_own _ rfl (.tmp 106) (.tmp 108) 24 rfl (w.heap.size + 3) 40 i0 (.agg zero6) 6 56 Tryz.underlying24 hi hz0 hz1 hz2 rfl (by decide) _ evs'.length (evCells evs') rfl (World.ownsRow.alloc P3 _) ⟨Wy.heap.size, 0, none⟩ 1 1 (⟨la, ⟨3, ⟨#[]⟩, 0, 0, n2⟩⟩ : Ev).cells rfl rfl hnew (ev_cell (⟨la, ⟨3, ⟨#[]⟩, 0, 0, n2⟩⟩ : Ev)) (by show evs'.length + 1 ≤ 9223372036854775807; omega) (by omega) (by simp; omega) ?_; intro v7 w7 hown7 hg7 _; obtain ⟨A7, c7, rfl, _, _, _⟩ := own_slice hown7; have Q2 := (P2.alloc (.cells #[.int .i64 la, .int .i64 3, .string ⟨#[]⟩, .int .i64 0, .int .i64 0, .int .i64 n2] 40)).grown hg7 (fun q => hneO q.symm); have X3 : w7.cell? ⟨w.heap.size + 1, 3, none⟩ = some v' := Q2.cell 3; have F3 : w7.frozen? ⟨w.heap.size + 1, 3, none⟩ = false := Q2.frozen 3)
                    go_roundw
                    case rel =>
                      have hps := PSt.next (ws := ws) p1 (by intro hq; have h2 := congrArg List.length hq; rw [List.length_map, List.length_take, List.length_nil] at h2; omega) hokw
                      rw [hlan.out, ← htk.out] at hps
                      have hop : opOf ws = ⟨3, ⟨#[]⟩, 0, 0, n2⟩ := by unfold opOf; rw [if_neg (by rw [wd, HW12.out.1]; exact HNW.out), if_neg (by rw [wd, HW12.out.1]; exact HNR.out), if_pos (by rw [wd, HW12.out.1]; exact HSC.out), HN.out.2.2.1]; rfl
                      rw [hop] at hps
                      have Q4 := (P4.alloc (.cells #[.int .i64 la, .int .i64 3, .string ⟨#[]⟩, .int .i64 0, .int .i64 0, .int .i64 n2] 40)).grown hg7 (fun q => hneO0 q.symm)
                      have Q5 := (P5.alloc (.cells #[.int .i64 la, .int .i64 3, .string ⟨#[]⟩, .int .i64 0, .int .i64 0, .int .i64 n2] 40)).grown hg7 (fun q => hneO2 q.symm)
                      have Q6 : Below w.heap.size w w7 := (P6.alloc P6.size (.cells #[.int .i64 la, .int .i64 3, .string ⟨#[]⟩, .int .i64 0, .int .i64 0, .int .i64 n2] 40)).grown hg7 (by have := P6.size; simp; omega) (fun q hq => by have := own_base P3 hq; omega)
                      have hl7 : (evs' ++ [(⟨la, ⟨3, ⟨#[]⟩, 0, 0, n2⟩⟩ : Ev)]).length = evs'.length + 1 := by simp
                      refine ⟨k + 1, la, by omega, by omega, rfl, by go_num, r', c', h', evs' ++ [(⟨la, ⟨3, ⟨#[]⟩, 0, 0, n2⟩⟩ : Ev)], _, hps, Q2.set_ 3 _, ?_, Q4.far (by show w.heap.size ≠ w.heap.size + 1; omega) _, Q5.far (by show w.heap.size + 1 + 1 ≠ w.heap.size + 1; omega) _, Q6.setCell (by show w.heap.size ≤ w.heap.size + 1; omega) _, ?_⟩
                      · rw [hl7, evCells_snoc]; exact own_far hown7 (by omega)
                      · have := hg7.size; simp at this; simp [World.setCell]; omega
                    case measure => simp [intOf]; omega
                  · have hsc2 : (w1.toList == [115, 99, 114, 111, 108, 108]) = false := by simpa using hsc
                    have HNS : Hid (¬ w1 = S [115, 99, 114, 111, 108, 108]) := Lib.hid (str_not hsc2)
                    clear hsc
                    go_upto_region 26 with fail
                    obtain ⟨Wy, hWy⟩ : ∃ Wy, Wy = (wr.alloc (.cells #[.int .i64 la, .int .i64 0, .string ⟨#[]⟩, .int .i64 0, .int .i64 0, .int .i64 0] 40)) := ⟨_, rfl⟩
                    have BYy : Blk Wy wr.heap.size 40 #[.int .i64 la, .int .i64 0, .string ⟨#[]⟩, .int .i64 0, .int .i64 0, .int .i64 0] := by rw [hWy]; exact Blk.new wr 40 _
                    have hbY : Below wr.heap.size wr Wy := by rw [hWy]; exact (Below.refl wr.heap.size wr).alloc (Nat.le_refl _) _
                    rw [← hWy]
                    clear hWy
                    have P2 := p2.below hbY p2.lt
                    have P3 := own_up p3 hbY
                    have P4 := p4.below hbY p4.lt
                    have P5 := p5.below hbY p5.lt
                    have P6 := p6.then _ hbY
                    have hsy := hbY.size
                    have t0 : Wy.cell? ⟨wr.heap.size, 0, none⟩ = some (.int .i64 la) := BYy.cell 0
                    have t1 : Wy.cell? ⟨wr.heap.size, 1, none⟩ = some (.int .i64 0) := BYy.cell 1
                    have t2 : Wy.cell? ⟨wr.heap.size, 2, none⟩ = some (.string ⟨#[]⟩) := BYy.cell 2
                    have t3 : Wy.cell? ⟨wr.heap.size, 3, none⟩ = some (.int .i64 0) := BYy.cell 3
                    have t4 : Wy.cell? ⟨wr.heap.size, 4, none⟩ = some (.int .i64 0) := BYy.cell 4
                    have t5 : Wy.cell? ⟨wr.heap.size, 5, none⟩ = some (.int .i64 0) := BYy.cell 5
                    have x3 : Wy.cell? ⟨w.heap.size + 1, 3, none⟩ = some v' := P2.cell 3
                    have hneO : v'.ownBlock ≠ some (w.heap.size + 1) := fun e => by have := own_base P3 e; omega
                    have hneO2 : v'.ownBlock ≠ some (w.heap.size + 1 + 1) := fun e => by have := own_lt p3 e; exact own_blk_ne P3 P5 (by decide) e
                    have hneO0 : v'.ownBlock ≠ some w.heap.size := fun e => by have := own_base P3 e; omega
                    have hYlt := BYy.lt
                    have hnew := ev_new' (w1 := Wy) rfl (⟨la, ⟨0, ⟨#[]⟩, 0, 0, 0⟩⟩ : Ev) 40
                    skip
                    go_wp2_with (at_builtin; refine wpList_append_own _ rfl (.tmp 106) (.tmp 108) 24 rfl (w.heap.size + 3) 40 i0 (.agg zero6) 6 56 Tryz.underlying24 hi hz0 hz1 hz2 rfl (by decide) _ evs'.length (evCells evs') rfl (World.ownsRow.alloc P3 _) ⟨Wy.heap.size, 0, none⟩ 1 1 (⟨la, ⟨0, ⟨#[]⟩, 0, 0, 0⟩⟩ : Ev).cells rfl rfl hnew (ev_cell (⟨la, ⟨0, ⟨#[]⟩, 0, 0, 0⟩⟩ : Ev)) (by show evs'.length + 1 ≤ 9223372036854775807; omega) (by omega) (by simp; omega) ?_; intro v7 w7 hown7 hg7 _; obtain ⟨A7, c7, rfl, _, _, _⟩ := own_slice hown7; have Q2 := (P2.alloc (.cells #[.int .i64 la, .int .i64 0, .string ⟨#[]⟩, .int .i64 0, .int .i64 0, .int .i64 0] 40)).grown hg7 (fun q => hneO q.symm); have X3 : w7.cell? ⟨w.heap.size + 1, 3, none⟩ = some v' := Q2.cell 3; have F3 : w7.frozen? ⟨w.heap.size + 1, 3, none⟩ = false := Q2.frozen 3)
                    go_roundw
                    case rel =>
                      have hps := PSt.next (ws := ws) p1 (by intro hq; have h2 := congrArg List.length hq; rw [List.length_map, List.length_take, List.length_nil] at h2; omega) hokw
                      rw [hlan.out, ← htk.out] at hps
                      have hop : opOf ws = ⟨0, ⟨#[]⟩, 0, 0, 0⟩ := by unfold opOf; rw [if_neg (by rw [wd, HW12.out.1]; exact HNW.out), if_neg (by rw [wd, HW12.out.1]; exact HNR.out), if_neg (by rw [wd, HW12.out.1]; exact HNS.out)]; rfl
                      rw [hop] at hps
                      have Q4 := (P4.alloc (.cells #[.int .i64 la, .int .i64 0, .string ⟨#[]⟩, .int .i64 0, .int .i64 0, .int .i64 0] 40)).grown hg7 (fun q => hneO0 q.symm)
                      have Q5 := (P5.alloc (.cells #[.int .i64 la, .int .i64 0, .string ⟨#[]⟩, .int .i64 0, .int .i64 0, .int .i64 0] 40)).grown hg7 (fun q => hneO2 q.symm)
                      have Q6 : Below w.heap.size w w7 := (P6.alloc P6.size (.cells #[.int .i64 la, .int .i64 0, .string ⟨#[]⟩, .int .i64 0, .int .i64 0, .int .i64 0] 40)).grown hg7 (by have := P6.size; simp; omega) (fun q hq => by have := own_base P3 hq; omega)
                      have hl7 : (evs' ++ [(⟨la, ⟨0, ⟨#[]⟩, 0, 0, 0⟩⟩ : Ev)]).length = evs'.length + 1 := by simp
                      refine ⟨k + 1, la, by omega, by omega, rfl, by go_num, r', c', h', evs' ++ [(⟨la, ⟨0, ⟨#[]⟩, 0, 0, 0⟩⟩ : Ev)], _, hps, Q2.set_ 3 _, ?_, Q4.far (by show w.heap.size ≠ w.heap.size + 1; omega) _, Q5.far (by show w.heap.size + 1 + 1 ≠ w.heap.size + 1; omega) _, Q6.setCell (by show w.heap.size ≤ w.heap.size + 1; omega) _, ?_⟩
                      · rw [hl7, evCells_snoc]; exact own_far hown7 (by omega)
                      · have := hg7.size; simp at this; simp [World.setCell]; omega
                    case measure => simp [intOf]; omega
    · obtain rfl : k = lns.length := by omega
      obtain ⟨r, c, h, evs, v, q1, q2, q3, q4, q5, q6, q7⟩ := hPL
      have hlne : lns.length ≠ 0 := by
        rw [← hlns]
        have : (cutB 10 t).length = Lib.countB t (S [10]) + 1 := Lib.splitB_all (S [10]) (by rw [S_size]; simp) 0 _ t rfl
        omega
      rw [List.take_of_length_le (Nat.le_refl _)] at q1
      have hpar : parsed s = some (r, c, h, evs) := parsed_of (by rw [HLIN.out]) q1 (by intro hq; have h2 := congrArg List.length hq; rw [List.length_map, List.length_nil] at h2; omega) (by rw [List.length_map]; omega)
      have HPAR := Lib.hid hpar
      clear hpar
      obtain ⟨A3, c3, rfl, hc1, hc2, hr3⟩ := own_slice q3
      have y0 : wo.cell? ⟨w.heap.size + 1, 0, none⟩ = some (.int .i64 r) := q2.cell 0
      have y1 : wo.cell? ⟨w.heap.size + 1, 1, none⟩ = some (.int .i64 c) := q2.cell 1
      have y2 : wo.cell? ⟨w.heap.size + 1, 2, none⟩ = some (.int .i64 h) := q2.cell 2
      have y3 : wo.cell? ⟨w.heap.size + 1, 3, none⟩ = some (.slice A3 evs.length c3) := q2.cell 3
      have hle : w.heap.size ≤ w.heap.size := Nat.le_refl _
      by_cases hval : validB r c h evs = true
      · have hbt := rtext_ok hr3 (Nat.le_refl _) hc2 hc1 hval (HW.out.up q6)
        have HVAL := Lib.hid hval
        clear hval
        obtain ⟨tx, htx⟩ : ∃ tx, textL r c h evs = tx := ⟨_, rfl⟩
        rw [htx] at hbt
        have HTX := Lib.hid htx
        clear htx
        by_cases heq : ((S tx).toList == s.toList) = true
        · have HEQ : Hid (S tx = s) := Lib.hid (by
            have h2 : (S tx).toList = s.toList := by simpa using heq
            rw [Lib.toList_data, Lib.toList_data, S_list] at h2
            rw [← S_of s, h2])
          go_wp2_with (go_at_call 26; refine hbt.mono ?_; rintro e w5 ⟨rfl, hb5⟩; have P4 := q4.below hb5 q4.lt; have P2 := q2.below hb5 q2.lt; have p0 : w5.cell? ⟨w.heap.size, 0, none⟩ = some (.int .i64 0) := P4.cell 0; have p1 : w5.cell? ⟨w.heap.size, 1, none⟩ = some (.int .i64 0) := P4.cell 1; have p2 : w5.cell? ⟨w.heap.size, 2, none⟩ = some (.int .i64 0) := P4.cell 2; have p3 : w5.cell? ⟨w.heap.size, 3, none⟩ = some (.slice none 0 0) := P4.cell 3; have f0 : w5.frozen? ⟨w.heap.size, 0, none⟩ = false := P4.frozen 0; have f1 : w5.frozen? ⟨w.heap.size, 1, none⟩ = false := P4.frozen 1; have f2 : w5.frozen? ⟨w.heap.size, 2, none⟩ = false := P4.frozen 2; have f3 : w5.frozen? ⟨w.heap.size, 3, none⟩ = false := P4.frozen 3; have z0 : w5.cell? ⟨w.heap.size + 1, 0, none⟩ = some (.int .i64 r) := P2.cell 0; have z1 : w5.cell? ⟨w.heap.size + 1, 1, none⟩ = some (.int .i64 c) := P2.cell 1; have z2 : w5.cell? ⟨w.heap.size + 1, 2, none⟩ = some (.int .i64 h) := P2.cell 2; have z3 : w5.cell? ⟨w.heap.size + 1, 3, none⟩ = some (.slice A3 evs.length c3) := P2.cell 3)
          have b3 := (((P4.set_ 0 (.int .i64 r)).set_ 1 (.int .i64 c)).set_ 2 (.int .i64 h)).set_ 3 (.slice A3 evs.length c3)
          refine bodyPost_ret (res_rec rfl (b3.cell 0) (b3.cell 1) (b3.cell 2) (b3.cell 3) rfl rfl) rfl ?_
          have hown := own_far (own_far (own_far (own_far (own_up q3 hb5) (X := w.heap.size) (i := 0) (u := .int .i64 r) (by omega)) (X := w.heap.size) (i := 1) (u := .int .i64 c) (by omega)) (X := w.heap.size) (i := 2) (u := .int .i64 h) (by omega)) (X := w.heap.size) (i := 3) (u := .slice A3 evs.length c3) (by omega)
          refine ⟨.inl ⟨r, c, h, evs, _, rfl, World.ownsRow.mono hown (by omega), HVAL.out, by rw [HTX.out, HEQ.out], HPAR.out⟩, (((((q6.then _ hb5).setCell (p := ⟨w.heap.size, 0, none⟩) hle _).setCell (p := ⟨w.heap.size, 1, none⟩) hle _).setCell (p := ⟨w.heap.size, 2, none⟩) hle _).setCell (p := ⟨w.heap.size, 3, none⟩) hle _)⟩
        · have heq2 : ((S tx).toList == s.toList) = false := by simpa using heq
          have HNE : Hid (¬ S tx = s) := Lib.hid (fun e => by rw [e] at heq2; simp at heq2)
          clear heq
          go_wp2_with (go_at_call 26; refine hbt.mono ?_; rintro e w5 ⟨rfl, hb5⟩; have P4 := q4.below hb5 q4.lt; have P2 := q2.below hb5 q2.lt; have p0 : w5.cell? ⟨w.heap.size, 0, none⟩ = some (.int .i64 0) := P4.cell 0; have p1 : w5.cell? ⟨w.heap.size, 1, none⟩ = some (.int .i64 0) := P4.cell 1; have p2 : w5.cell? ⟨w.heap.size, 2, none⟩ = some (.int .i64 0) := P4.cell 2; have p3 : w5.cell? ⟨w.heap.size, 3, none⟩ = some (.slice none 0 0) := P4.cell 3; have f0 : w5.frozen? ⟨w.heap.size, 0, none⟩ = false := P4.frozen 0; have f1 : w5.frozen? ⟨w.heap.size, 1, none⟩ = false := P4.frozen 1; have f2 : w5.frozen? ⟨w.heap.size, 2, none⟩ = false := P4.frozen 2; have f3 : w5.frozen? ⟨w.heap.size, 3, none⟩ = false := P4.frozen 3; have z0 : w5.cell? ⟨w.heap.size + 1, 0, none⟩ = some (.int .i64 r) := P2.cell 0; have z1 : w5.cell? ⟨w.heap.size + 1, 1, none⟩ = some (.int .i64 c) := P2.cell 1; have z2 : w5.cell? ⟨w.heap.size + 1, 2, none⟩ = some (.int .i64 h) := P2.cell 2; have z3 : w5.cell? ⟨w.heap.size + 1, 3, none⟩ = some (.slice A3 evs.length c3) := P2.cell 3)
          have b3 := (((P4.set_ 0 (.int .i64 0)).set_ 1 (.int .i64 0)).set_ 2 (.int .i64 0)).set_ 3 (.slice none 0 0)
          refine bodyPost_ret (res_rec rfl (b3.cell 0) (b3.cell 1) (b3.cell 2) (b3.cell 3) rfl rfl) rfl ?_
          refine ⟨.inr ⟨rfl, fun r1 c1 h1 l1 hp hv1 ht1 => ?_⟩, (((((q6.then _ hb5).setCell (p := ⟨w.heap.size, 0, none⟩) hle _).setCell (p := ⟨w.heap.size, 1, none⟩) hle _).setCell (p := ⟨w.heap.size, 2, none⟩) hle _).setCell (p := ⟨w.heap.size, 3, none⟩) hle _)⟩
          rw [HPAR.out] at hp
          simp only [Option.some.injEq, Prod.mk.injEq] at hp
          obtain ⟨rfl, rfl, rfl, rfl⟩ := hp
          exact HNE.out (by rw [← HTX.out]; exact ht1)
      · have hval2 : validB r c h evs = false := by simpa using hval
        have hbt := rtext_bad hr3 (Nat.le_refl _) hc2 hc1 hval2
        have HVAL := Lib.hid hval2
        clear hval hval2
        go_wp2_with (go_at_call 26; refine hbt.mono ?_; rintro e w5 ⟨rfl, hb5⟩; have P4 := q4.below hb5 q4.lt; have P2 := q2.below hb5 q2.lt; have p0 : w5.cell? ⟨w.heap.size, 0, none⟩ = some (.int .i64 0) := P4.cell 0; have p1 : w5.cell? ⟨w.heap.size, 1, none⟩ = some (.int .i64 0) := P4.cell 1; have p2 : w5.cell? ⟨w.heap.size, 2, none⟩ = some (.int .i64 0) := P4.cell 2; have p3 : w5.cell? ⟨w.heap.size, 3, none⟩ = some (.slice none 0 0) := P4.cell 3; have f0 : w5.frozen? ⟨w.heap.size, 0, none⟩ = false := P4.frozen 0; have f1 : w5.frozen? ⟨w.heap.size, 1, none⟩ = false := P4.frozen 1; have f2 : w5.frozen? ⟨w.heap.size, 2, none⟩ = false := P4.frozen 2; have f3 : w5.frozen? ⟨w.heap.size, 3, none⟩ = false := P4.frozen 3; have z0 : w5.cell? ⟨w.heap.size + 1, 0, none⟩ = some (.int .i64 r) := P2.cell 0; have z1 : w5.cell? ⟨w.heap.size + 1, 1, none⟩ = some (.int .i64 c) := P2.cell 1; have z2 : w5.cell? ⟨w.heap.size + 1, 2, none⟩ = some (.int .i64 h) := P2.cell 2; have z3 : w5.cell? ⟨w.heap.size + 1, 3, none⟩ = some (.slice A3 evs.length c3) := P2.cell 3)
        have b3 := (((P4.set_ 0 (.int .i64 0)).set_ 1 (.int .i64 0)).set_ 2 (.int .i64 0)).set_ 3 (.slice none 0 0)
        refine bodyPost_ret (res_rec rfl (b3.cell 0) (b3.cell 1) (b3.cell 2) (b3.cell 3) rfl rfl) rfl ?_
        refine ⟨.inr ⟨rfl, fun r1 c1 h1 l1 hp hv1 ht1 => ?_⟩, (((((q6.then _ hb5).setCell (p := ⟨w.heap.size, 0, none⟩) hle _).setCell (p := ⟨w.heap.size, 1, none⟩) hle _).setCell (p := ⟨w.heap.size, 2, none⟩) hle _).setCell (p := ⟨w.heap.size, 3, none⟩) hle _)⟩
        rw [HPAR.out] at hp
        simp only [Option.some.injEq, Prod.mk.injEq] at hp
        obtain ⟨rfl, rfl, rfl, rfl⟩ := hp
        rw [HVAL.out] at hv1
        cases hv1
end Go.Proofs.YtiglllddgikeiabGreatDoor
