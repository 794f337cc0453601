/- A part of the proof of RepaintBytes. -/
import Derived.Test.YthophmihgmjnfaaDoorVF
set_option linter.unusedVariables false
set_option linter.unusedSimpArgs false
-- --
namespace Go.Proofs.YthophmihgmjnfaaDoor
open Go.RowKit Go.Rep
set_option maxRecDepth 100000
set_option linter.unusedSimpArgs false
def zPn : Pn := ⟨⟨0, 0, 0, 0, 0⟩, ⟨0, 0, 0, 0, 0⟩, 0⟩
def codesL (b : Pn) : List Int := 0 :: changesL zPn b
def betweenL (a b : Pn) : List Int := if (codesL b).length < (changesL a b).length then codesL b else changesL a b
theorem changes_len (a b : Pn) : (changesL a b).length ≤ 19 := by
  unfold changesL
  simp only [List.length_append]
  have h1 := chUp_len (flA a b) b.fl 8
  have h2 : (preL a b).length ≤ 1 := by unfold preL; split <;> simp
  have h3 : (if a.f = b.f then [] else numbersL b.f 30 : List Int).length ≤ 5 := by split; simp; exact numbers_len _ _
  have h4 : (if a.b = b.b then [] else numbersL b.b 40 : List Int).length ≤ 5 := by split; simp; exact numbers_len _ _
  omega
structure okPn (p : Pn) : Prop where
  f : okC p.f
  b : okC p.b
  v : validPn p = true
set_option maxHeartbeats 4000000 in
theorem codes_any (b : Pn) {w : World} (hL : Laid w) (hb : okPn b) : Calls Tryd.prog 36 #[.agg #[.int .i64 b.f.k, .int .u8 b.f.i, .int .u8 b.f.r, .int .u8 b.f.g, .int .u8 b.f.b, .int .i64 b.b.k, .int .u8 b.b.i, .int .u8 b.b.r, .int .u8 b.b.g, .int .u8 b.b.b, .int .u8 b.fl]] w fun e w' => ∃ v, e = .returned v ∧ OwnI w' w.heap.size v (codesL b) ∧ Below w.heap.size w w' := by
  obtain ⟨i0, hi, hz0, hz1, hz2⟩ := info_parts int_info
  obtain ⟨h1, h2, h3⟩ := hb
  have hlc := changes_len zPn b
  have B0 := Blk.new w 44 #[.int .i64 b.f.k, .int .u8 b.f.i, .int .u8 b.f.r, .int .u8 b.f.g, .int .u8 b.f.b, .int .i64 b.b.k, .int .u8 b.b.i, .int .u8 b.b.r, .int .u8 b.b.g, .int .u8 b.b.b, .int .u8 b.fl]
  have hb0 : Below w.heap.size w (w.alloc (.cells #[.int .i64 b.f.k, .int .u8 b.f.i, .int .u8 b.f.r, .int .u8 b.f.g, .int .u8 b.f.b, .int .i64 b.b.k, .int .u8 b.b.i, .int .u8 b.b.r, .int .u8 b.b.g, .int .u8 b.b.b, .int .u8 b.fl] 44)) := (Below.refl _ _).alloc (Nat.le_refl _) _
  have HV := Lib.hid h3
  have HL := Lib.hid hL
  clear h3 hL
  go_enter Tryd.func36, Tryd.ntmps36
  go_upto_region 3 with (first
    | (refine wpList_load_blk 44 (.tmp 3) rfl (by rfl) _ rfl #[.int .i64 b.f.k, .int .u8 b.f.i, .int .u8 b.f.r, .int .u8 b.f.g, .int .u8 b.f.b, .int .i64 b.b.k, .int .u8 b.b.i, .int .u8 b.b.r, .int .u8 b.b.g, .int .u8 b.b.b, .int .u8 b.fl] _ (B0) Tryd.underlying44 rfl (by kernel_rfl) ?_)
    | (refine wpList_load_blk 44 (.tmp 1) rfl (by rfl) _ rfl #[.int .i64 b.f.k, .int .u8 b.f.i, .int .u8 b.f.r, .int .u8 b.f.g, .int .u8 b.f.b, .int .i64 b.b.k, .int .u8 b.b.i, .int .u8 b.b.r, .int .u8 b.b.g, .int .u8 b.b.b, .int .u8 b.fl] _ (B0) Tryd.underlying44 rfl (by kernel_rfl) ?_)
    | (go_at_call 34; refine (vpn_any b _).mono ?_; rintro e w1 ⟨rfl, hb1⟩; rw [HV.out]; have B1 := B0.below hb1 B0.lt; have hs1 := hb1.size))
  have hbw1 : Below w.heap.size w w1 := hb0.trans (hb1.mono (by simp))
  have hsw1 : w.heap.size + 1 ≤ w1.heap.size := by simpa using hs1
  have O0 : OwnI (w1.alloc (.cells #[.int .i64 0] 3)) (w.heap.size + 1) (.slice (some ⟨w1.heap.size, 0, none⟩) 1 1) [0] := World.ownsRow.mono (ownI_new w1 [0] (by unfold maxLen; simp)) hsw1
  have B2 := B1.alloc (.cells #[.int .i64 0] 3)
  have hl0 : ([0] : List Int).length = 1 := rfl
  have L2 : Laid (w1.alloc (.cells #[.int .i64 0] 3)) := HL.out.low (hbw1.alloc (by omega) _)
  go_wp2_with (first
    | (at_builtin; refine wpList_append_any _ rfl (.tmp 6) (.tmp 9) 61 rfl (w.heap.size + 1) 3 i0 (.int .i64 0) 1 8 Tryd.underlying61 hi hz0 hz1 hz2 rfl (by decide) _ _ _ rfl O3 _ _ (changesL zPn b).length _ (ivals (changesL zPn b)) rfl r3 (ivals_one _) (by unfold maxLen; omega) (by omega) (by omega) ?_; intro v9 w9 hown9 hg9 _)
    | (refine wpList_load_blk 44 (.tmp 1) rfl (by rfl) _ rfl #[.int .i64 b.f.k, .int .u8 b.f.i, .int .u8 b.f.r, .int .u8 b.f.g, .int .u8 b.f.b, .int .i64 b.b.k, .int .u8 b.b.i, .int .u8 b.b.r, .int .u8 b.b.g, .int .u8 b.b.b, .int .u8 b.fl] _ (B2) Tryd.underlying44 rfl (by kernel_rfl) ?_)
    | (go_at_call 35; refine (changes_any zPn b L2 h1 h2).mono ?_; rintro e w3 ⟨v3, rfl, o3, hb3⟩; obtain ⟨A3, c3, rfl, _, _, r3⟩ := own_slice o3; have O3 := ownI_below O0 hb3; have hs3 := hb3.size; rw [alloc_size] at hs3))
  go_ret
  refine ⟨_, rfl, World.ownsRow.mono (ownI_app hown9) (by omega), ?_⟩
  exact ((hbw1.alloc (by omega) _).trans (hb3.mono (by simp; omega))).grown hg9 (by omega) (fun j q => by have := own_ge O3 j q; omega)
set_option maxHeartbeats 4000000 in
theorem between_any (a b : Pn) {w : World} (hL : Laid w) (ha : okPn a) (hb : okPn b) : Calls Tryd.prog 22 #[.agg #[.int .i64 a.f.k, .int .u8 a.f.i, .int .u8 a.f.r, .int .u8 a.f.g, .int .u8 a.f.b, .int .i64 a.b.k, .int .u8 a.b.i, .int .u8 a.b.r, .int .u8 a.b.g, .int .u8 a.b.b, .int .u8 a.fl], .agg #[.int .i64 b.f.k, .int .u8 b.f.i, .int .u8 b.f.r, .int .u8 b.f.g, .int .u8 b.f.b, .int .i64 b.b.k, .int .u8 b.b.i, .int .u8 b.b.r, .int .u8 b.b.g, .int .u8 b.b.b, .int .u8 b.fl]] w fun e w' => ∃ v, e = .returned v ∧ OwnI w' w.heap.size v (betweenL a b) ∧ Below w.heap.size w w' := by
  have hv1 := Lib.hid ha.v
  have hv2 := Lib.hid hb.v
  have B0 : Blk ((w.alloc (.cells #[.int .i64 a.f.k, .int .u8 a.f.i, .int .u8 a.f.r, .int .u8 a.f.g, .int .u8 a.f.b, .int .i64 a.b.k, .int .u8 a.b.i, .int .u8 a.b.r, .int .u8 a.b.g, .int .u8 a.b.b, .int .u8 a.fl] 44)).alloc (.cells #[.int .i64 b.f.k, .int .u8 b.f.i, .int .u8 b.f.r, .int .u8 b.f.g, .int .u8 b.f.b, .int .i64 b.b.k, .int .u8 b.b.i, .int .u8 b.b.r, .int .u8 b.b.g, .int .u8 b.b.b, .int .u8 b.fl] 44)) w.heap.size 44 #[.int .i64 a.f.k, .int .u8 a.f.i, .int .u8 a.f.r, .int .u8 a.f.g, .int .u8 a.f.b, .int .i64 a.b.k, .int .u8 a.b.i, .int .u8 a.b.r, .int .u8 a.b.g, .int .u8 a.b.b, .int .u8 a.fl] := (Blk.new w 44 _).alloc _
  have B1 : Blk ((w.alloc (.cells #[.int .i64 a.f.k, .int .u8 a.f.i, .int .u8 a.f.r, .int .u8 a.f.g, .int .u8 a.f.b, .int .i64 a.b.k, .int .u8 a.b.i, .int .u8 a.b.r, .int .u8 a.b.g, .int .u8 a.b.b, .int .u8 a.fl] 44)).alloc (.cells #[.int .i64 b.f.k, .int .u8 b.f.i, .int .u8 b.f.r, .int .u8 b.f.g, .int .u8 b.f.b, .int .i64 b.b.k, .int .u8 b.b.i, .int .u8 b.b.r, .int .u8 b.b.g, .int .u8 b.b.b, .int .u8 b.fl] 44)) (w.heap.size + 1) 44 #[.int .i64 b.f.k, .int .u8 b.f.i, .int .u8 b.f.r, .int .u8 b.f.g, .int .u8 b.f.b, .int .i64 b.b.k, .int .u8 b.b.i, .int .u8 b.b.r, .int .u8 b.b.g, .int .u8 b.b.b, .int .u8 b.fl] := by
    have := Blk.new (w.alloc (.cells #[.int .i64 a.f.k, .int .u8 a.f.i, .int .u8 a.f.r, .int .u8 a.f.g, .int .u8 a.f.b, .int .i64 a.b.k, .int .u8 a.b.i, .int .u8 a.b.r, .int .u8 a.b.g, .int .u8 a.b.b, .int .u8 a.fl] 44)) 44 #[.int .i64 b.f.k, .int .u8 b.f.i, .int .u8 b.f.r, .int .u8 b.f.g, .int .u8 b.f.b, .int .i64 b.b.k, .int .u8 b.b.i, .int .u8 b.b.r, .int .u8 b.b.g, .int .u8 b.b.b, .int .u8 b.fl]
    rw [alloc_size] at this
    exact this
  have hb0 : Below w.heap.size w ((w.alloc (.cells #[.int .i64 a.f.k, .int .u8 a.f.i, .int .u8 a.f.r, .int .u8 a.f.g, .int .u8 a.f.b, .int .i64 a.b.k, .int .u8 a.b.i, .int .u8 a.b.r, .int .u8 a.b.g, .int .u8 a.b.b, .int .u8 a.fl] 44)).alloc (.cells #[.int .i64 b.f.k, .int .u8 b.f.i, .int .u8 b.f.r, .int .u8 b.f.g, .int .u8 b.f.b, .int .i64 b.b.k, .int .u8 b.b.i, .int .u8 b.b.r, .int .u8 b.b.g, .int .u8 b.b.b, .int .u8 b.fl] 44)) := ((Below.refl _ _).alloc (Nat.le_refl _) _).alloc (by simp) _
  have HL := Lib.hid hL
  clear hL
  go_enter Tryd.func22, Tryd.ntmps22
  go_upto_region 3 with (first
    | (refine wpList_load_blk 44 (.tmp 3) rfl (by rfl) _ rfl #[.int .i64 b.f.k, .int .u8 b.f.i, .int .u8 b.f.r, .int .u8 b.f.g, .int .u8 b.f.b, .int .i64 b.b.k, .int .u8 b.b.i, .int .u8 b.b.r, .int .u8 b.b.g, .int .u8 b.b.b, .int .u8 b.fl] _ (C1) Tryd.underlying44 rfl (by kernel_rfl) ?_)
    | (refine wpList_load_blk 44 (.tmp 2) rfl (by rfl) _ rfl #[.int .i64 a.f.k, .int .u8 a.f.i, .int .u8 a.f.r, .int .u8 a.f.g, .int .u8 a.f.b, .int .i64 a.b.k, .int .u8 a.b.i, .int .u8 a.b.r, .int .u8 a.b.g, .int .u8 a.b.b, .int .u8 a.fl] _ (B0) Tryd.underlying44 rfl (by kernel_rfl) ?_)
    | (go_at_call 34; have q := C1; refine (vpn_any b _).mono ?_; rintro e w2 ⟨rfl, hb2⟩; rw [hv2.out]; have D0 := C0.below hb2 C0.lt; have D1 := C1.below hb2 C1.lt; have hs2 := hb2.size)
    | (go_at_call 34; refine (vpn_any a _).mono ?_; rintro e w1 ⟨rfl, hb1⟩; rw [hv1.out]; have C0 := B0.below hb1 B0.lt; have C1 := B1.below hb1 B1.lt; have hs1 := hb1.size; rw [alloc_size, alloc_size] at hs1))
  have hbw : Below w.heap.size w w2 := (hb0.trans (hb1.mono (by simp; omega))).trans (hb2.mono (by omega))
  have hsw := hbw.size
  go_upto_region 4 with (first
    | (refine wpList_load_blk 44 (.tmp 3) rfl (by rfl) _ rfl #[.int .i64 b.f.k, .int .u8 b.f.i, .int .u8 b.f.r, .int .u8 b.f.g, .int .u8 b.f.b, .int .i64 b.b.k, .int .u8 b.b.i, .int .u8 b.b.r, .int .u8 b.b.g, .int .u8 b.b.b, .int .u8 b.fl] _ (D1) Tryd.underlying44 rfl (by kernel_rfl) ?_)
    | (refine wpList_load_blk 44 (.tmp 2) rfl (by rfl) _ rfl #[.int .i64 a.f.k, .int .u8 a.f.i, .int .u8 a.f.r, .int .u8 a.f.g, .int .u8 a.f.b, .int .i64 a.b.k, .int .u8 a.b.i, .int .u8 a.b.r, .int .u8 a.b.g, .int .u8 a.b.b, .int .u8 a.fl] _ (D0) Tryd.underlying44 rfl (by kernel_rfl) ?_)
    | (go_at_call 35; refine (changes_any a b (HL.out.low hbw) hb.f hb.b).mono ?_; rintro e w3 ⟨v3, rfl, o3, hb3⟩; have E1 := D1.below hb3 D1.lt; have hs3 := hb3.size))
  have hbw3 : Below w.heap.size w w3 := hbw.trans (hb3.mono hsw)
  go_upto_region 5 with (first
    | (refine wpList_load_blk 44 (.tmp 3) rfl (by rfl) _ rfl #[.int .i64 b.f.k, .int .u8 b.f.i, .int .u8 b.f.r, .int .u8 b.f.g, .int .u8 b.f.b, .int .i64 b.b.k, .int .u8 b.b.i, .int .u8 b.b.r, .int .u8 b.b.g, .int .u8 b.b.b, .int .u8 b.fl] _ (E1) Tryd.underlying44 rfl (by kernel_rfl) ?_)
    | (go_at_call 36; refine (codes_any b (HL.out.low hbw3) hb).mono ?_; rintro e w4 ⟨v4, rfl, o4, hb4⟩; have o3' := ownI_below o3 hb4))
  have hbw4 : Below w.heap.size w w4 := hbw3.trans (hb4.mono (by omega))
  obtain ⟨A3, c3, rfl, _, _, r3⟩ := own_slice o3'
  obtain ⟨A4, c4, rfl, _, _, r4⟩ := own_slice o4
  by_cases hlt : (codesL b).length < (changesL a b).length
  · have E := Lib.hid (show betweenL a b = codesL b by unfold betweenL; rw [if_pos hlt])
    have hlt' : ((codesL b).length : Int) < ((changesL a b).length : Int) := by omega
    go_wp2
    go_ret
    exact ⟨_, rfl, by rw [E.out]; exact World.ownsRow.mono o4 (by omega), hbw4⟩
  · have E := Lib.hid (show betweenL a b = changesL a b by unfold betweenL; rw [if_neg hlt])
    have hlt' : ¬ ((codesL b).length : Int) < ((changesL a b).length : Int) := by omega
    go_wp2
    go_ret
    exact ⟨_, rfl, by rw [E.out]; exact World.ownsRow.mono o3' (by omega), hbw4⟩
end Go.Proofs.YthophmihgmjnfaaDoor

namespace Go.Proofs.YthophmihgmjnfaaDoor
open Go.RowKit Go.Rep
set_option maxRecDepth 100000
set_option linter.unusedSimpArgs false
def iAt (l : List Int) (j : Nat) : Int := l.getD j 0
theorem Reads.iat {w : World} {B n : Nat} {ad : Addr} {l : List Int} (h : Reads w B 1 (some ad) n (ivals l)) (hn : l.length = n) {j : Nat} (hj : j < n) : w.cell? (ad.add j) = some (.int .i64 (iAt l j)) := by
  obtain ⟨ad', e, _, hc⟩ := h.2 (by omega)
  injection e with e
  subst e
  refine hc j _ ?_
  unfold ivals iAt
  rw [List.getElem?_map, List.getD_eq_getElem?_getD, List.getElem?_eq_getElem (by omega)]
  rfl
theorem Reads.isome {w : World} {B n : Nat} {A : Option Addr} {l : List Int} (h : Reads w B 1 A n (ivals l)) (hn : 0 < n) : ∃ ad, A = some ad := by
  obtain ⟨ad, e, _⟩ := h.2 hn
  exact ⟨ad, e⟩
def smI (l : List Int) : Prop := ∀ x ∈ l, 0 ≤ x ∧ x ≤ 9999
theorem smI.at_ {l : List Int} (h : smI l) {j : Nat} (hj : j < l.length) : 0 ≤ iAt l j ∧ iAt l j ≤ 9999 := by
  unfold iAt
  rw [List.getD_eq_getElem?_getD, List.getElem?_eq_getElem hj]
  exact h _ (List.getElem_mem hj)
theorem scheck_any {l : List Int} {B n cp : Nat} {A : Option Addr} {w : World} (hr : Reads w B 1 A n (ivals l)) (hn : l.length = n) (hs : smI l) (hb : n ≤ 100000) : Calls Tryd.prog 31 #[.slice A n cp] w fun e w' => e = .returned (.int .i64 0) ∧ w' = w := by
  have HR := Lib.hid hr
  have HN := Lib.hid hn
  clear hr hn
  go_enter Tryd.func31, Tryd.ntmps31
  go_wp2
  go_loopw [7] (fun i wr => ∃ j : Nat, j ≤ n ∧ i = .int .i64 j ∧ w = wr) (fun i _ => n - (intOf i).toNat)
  case atStart => exact ⟨0, Nat.zero_le _, rfl, rfl⟩
  case round =>
    obtain ⟨j, hj, rfl, rfl⟩ := hrel
    by_cases h1 : j < n
    · have h1' : (j : Int) < (n : Int) := by omega
      obtain ⟨ad, rfl⟩ := Reads.isome HR.out (by omega)
      have hc := Reads.iat HR.out HN.out h1
      have hx := hs.at_ (show j < l.length by rw [HN.out]; exact h1)
      have hx1 : ¬ 9999 < iAt l j := by omega
      go_wp2
      go_roundw
      case rel => exact ⟨j + 1, by omega, by go_num, trivial⟩
      case measure => simp [intOf]; omega
    · obtain rfl : j = n := by omega
      have h1' : ¬ ((j : Nat) : Int) < ((j : Nat) : Int) := by omega
      go_wp2
      go_ret
      exact ⟨rfl, rfl⟩
theorem pvalid_any {l : List Int} {B n cp : Nat} {A : Option Addr} {w : World} (hr : Reads w B 1 A n (ivals l)) (hn : l.length = n) (hs : smI l) (h16 : n ≤ 16) : Calls Tryd.prog 42 #[.slice A n cp] w fun e w' => e = .returned (.bool true) ∧ w' = w := by
  have HR := Lib.hid hr
  have HN := Lib.hid hn
  clear hr hn
  go_enter Tryd.func42, Tryd.ntmps42
  go_wp2
  go_loopw [7] (fun i wr => ∃ j : Nat, j ≤ n ∧ i = .int .i64 j ∧ w = wr) (fun i _ => n - (intOf i).toNat)
  case atStart => exact ⟨0, Nat.zero_le _, rfl, rfl⟩
  case round =>
    obtain ⟨j, hj, rfl, rfl⟩ := hrel
    by_cases h1 : j < n
    · have h1' : (j : Int) < (n : Int) := by omega
      obtain ⟨ad, rfl⟩ := Reads.isome HR.out (by omega)
      have hc := Reads.iat HR.out HN.out h1
      have hx := hs.at_ (show j < l.length by rw [HN.out]; exact h1)
      have hx1 : ¬ 9999 < iAt l j := by omega
      have hx2 : ¬ iAt l j < -1 := by omega
      go_wp2
      go_roundw
      case rel => exact ⟨j + 1, by omega, by go_num, trivial⟩
      case measure => simp [intOf]; omega
    · obtain rfl : j = n := by omega
      have h1' : ¬ ((j : Nat) : Int) < ((j : Nat) : Int) := by omega
      have h2' : (j : Int) ≤ 16 := by omega
      by_cases h3 : j = 1
      · obtain ⟨ad, rfl⟩ := Reads.isome HR.out (by omega)
        have hc := Reads.iat HR.out HN.out (show 0 < j by omega)
        rw [add_zero_ad] at hc
        have hx := hs.at_ (show 0 < l.length by rw [HN.out]; omega)
        have hx2 : ¬ iAt l 0 < 0 := by omega
        have hx3 : (0 : Int) < (j : Int) := by omega
        have hx4 : 0 < j := by omega
        have e3 : ((j : Int) == 1) = true := beq_iff_eq.2 (by omega)
        subst h3
        go_wp2
        go_ret
        exact ⟨rfl, rfl⟩
      · have e3 : ((j : Int) == 1) = false := beq_eq_false_iff_ne.2 (by omega)
        go_wp2
        go_ret
        exact ⟨rfl, rfl⟩
def groupN (l : List Int) : Nat := if (iAt l 0 ≠ 38 ∧ iAt l 0 ≠ 48) ∨ l.length < 2 then 1 else if iAt l 1 = 5 then min 3 l.length else if iAt l 1 = 2 then min 5 l.length else 1
theorem groupN_le (l : List Int) (h : 0 < l.length) : 1 ≤ groupN l ∧ groupN l ≤ 5 ∧ groupN l ≤ l.length := by
  unfold groupN
  split
  · omega
  · split
    · omega
    · split <;> omega
theorem group_any {l : List Int} {B n cp : Nat} {A : Option Addr} {w : World} (hr : Reads w B 1 A n (ivals l)) (hn : l.length = n) (h0 : 0 < n) : Calls Tryd.prog 32 #[.slice A n cp] w fun e w' => e = .returned (.int .i64 (groupN l)) ∧ w' = w := by
  have HR := Lib.hid hr
  have HN := Lib.hid hn
  clear hr hn
  obtain ⟨ad, rfl⟩ := Reads.isome HR.out h0
  have hc := Reads.iat HR.out HN.out h0
  rw [add_zero_ad] at hc
  have h0' : (0 : Int) < (n : Int) := by omega
  by_cases hp : iAt l 0 ≠ 38 ∧ iAt l 0 ≠ 48
  · have E := Lib.hid (show groupN l = 1 by unfold groupN; rw [if_pos (.inl hp)])
    have e1 : (iAt l 0 != 38) = true := bne_iff_ne.2 hp.1
    have e2 : (iAt l 0 != 48) = true := bne_iff_ne.2 hp.2
    clear hp
    go_enter Tryd.func32, Tryd.ntmps32
    go_wp2
    go_ret
    exact ⟨by rw [E.out]; rfl, rfl⟩
  · by_cases h2 : n < 2
    · have E := Lib.hid (show groupN l = 1 by unfold groupN; rw [if_pos (.inr (by rw [HN.out]; exact h2))])
      obtain rfl : n = 1 := by omega
      go_enter Tryd.func32, Tryd.ntmps32
      by_cases q : iAt l 0 = 38
      · have e1 : (iAt l 0 != 38) = false := bne_eq_false_iff_eq.2 q
        clear q hp
        go_wp2
        go_ret
        exact ⟨by rw [E.out]; rfl, rfl⟩
      · have e1 : (iAt l 0 != 38) = true := bne_iff_ne.2 q
        have e2 : (iAt l 0 != 48) = false := bne_eq_false_iff_eq.2 (by omega)
        clear q hp
        go_wp2
        go_ret
        exact ⟨by rw [E.out]; rfl, rfl⟩
    · have hc1 := Reads.iat HR.out HN.out (show 1 < n by omega)
      rw [add_lit' _ (show 0 < 1 by decide)] at hc1
      have h2' : ¬ (n : Int) < 2 := by omega
      have h3' : (1 : Int) < (n : Int) := by omega
      have h3 : 1 < n := by omega
      have F : groupN l = if iAt l 1 = 5 then min 3 n else if iAt l 1 = 2 then min 5 n else 1 := by unfold groupN; rw [if_neg (by rw [HN.out]; rintro (h | h); exact hp h; exact h2 h), HN.out]
      have hF := Lib.hid F
      clear F
      have m3 : min (3 : Int) (n : Int) = ((min 3 n : Nat) : Int) := by omega
      have m5 : min (5 : Int) (n : Int) = ((min 5 n : Nat) : Int) := by omega
      go_enter Tryd.func32, Tryd.ntmps32
      by_cases q : iAt l 0 = 38
      · have e1 : (iAt l 0 != 38) = false := bne_eq_false_iff_eq.2 q
        clear q hp
        by_cases k5 : iAt l 1 = 5
        · have e5 : (iAt l 1 == 5) = true := beq_iff_eq.2 k5
          have E := Lib.hid (show groupN l = min 3 n by rw [hF.out, if_pos k5])
          clear k5
          go_wp2
          all_goals
            go_ret
            refine ⟨?_, rfl⟩
            rw [E.out]
            first
              | (show Ending.returned (.int .i64 (n : Int)) = .returned (.int .i64 ((min 3 n : Nat) : Int)); congr 2; omega)
              | (show Ending.returned (.int .i64 3) = .returned (.int .i64 ((min 3 n : Nat) : Int)); congr 2; omega)
        · have e5 : (iAt l 1 == 5) = false := beq_eq_false_iff_ne.2 k5
          by_cases k2 : iAt l 1 = 2
          · have e6 : (iAt l 1 == 2) = true := beq_iff_eq.2 k2
            have E := Lib.hid (show groupN l = min 5 n by rw [hF.out, if_neg k5, if_pos k2])
            clear k5 k2
            go_wp2
            all_goals
              go_ret
              refine ⟨?_, rfl⟩
              rw [E.out]
              first
                | (show Ending.returned (.int .i64 (n : Int)) = .returned (.int .i64 ((min 5 n : Nat) : Int)); congr 2; omega)
                | (show Ending.returned (.int .i64 5) = .returned (.int .i64 ((min 5 n : Nat) : Int)); congr 2; omega)
          · have e6 : (iAt l 1 == 2) = false := beq_eq_false_iff_ne.2 k2
            have E := Lib.hid (show groupN l = 1 by rw [hF.out, if_neg k5, if_neg k2])
            clear k5 k2
            go_wp2
            go_ret
            exact ⟨by rw [E.out]; rfl, rfl⟩
      · have e1 : (iAt l 0 != 38) = true := bne_iff_ne.2 q
        have e2 : (iAt l 0 != 48) = false := bne_eq_false_iff_eq.2 (by omega)
        clear q hp
        by_cases k5 : iAt l 1 = 5
        · have e5 : (iAt l 1 == 5) = true := beq_iff_eq.2 k5
          have E := Lib.hid (show groupN l = min 3 n by rw [hF.out, if_pos k5])
          clear k5
          go_wp2
          all_goals
            go_ret
            refine ⟨?_, rfl⟩
            rw [E.out]
            first
              | (show Ending.returned (.int .i64 (n : Int)) = .returned (.int .i64 ((min 3 n : Nat) : Int)); congr 2; omega)
              | (show Ending.returned (.int .i64 3) = .returned (.int .i64 ((min 3 n : Nat) : Int)); congr 2; omega)
        · have e5 : (iAt l 1 == 5) = false := beq_eq_false_iff_ne.2 k5
          by_cases k2 : iAt l 1 = 2
          · have e6 : (iAt l 1 == 2) = true := beq_iff_eq.2 k2
            have E := Lib.hid (show groupN l = min 5 n by rw [hF.out, if_neg k5, if_pos k2])
            clear k5 k2
            go_wp2
            all_goals
              go_ret
              refine ⟨?_, rfl⟩
              rw [E.out]
              first
                | (show Ending.returned (.int .i64 (n : Int)) = .returned (.int .i64 ((min 5 n : Nat) : Int)); congr 2; omega)
                | (show Ending.returned (.int .i64 5) = .returned (.int .i64 ((min 5 n : Nat) : Int)); congr 2; omega)
          · have e6 : (iAt l 1 == 2) = false := beq_eq_false_iff_ne.2 k2
            have E := Lib.hid (show groupN l = 1 by rw [hF.out, if_neg k5, if_neg k2])
            clear k5 k2
            go_wp2
            go_ret
            exact ⟨by rw [E.out]; rfl, rfl⟩
end Go.Proofs.YthophmihgmjnfaaDoor
