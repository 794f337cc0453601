/- The run of the law by the evaluator returns true, whatever the numbers. -/
import Derived.Test.YtiglllddgikeiabGreatDoorM3
namespace Go.Proofs.YtiglllddgikeiabGreatDoor
open Go.RowKit Go.Rep
set_option maxRecDepth 100000
def lo (x : UInt8) : Int := bits .or .u8 (x.toNat : Int) 32
/-- The value of a hexadecimal digit, small or great. -/
def hexv (x : UInt8) : Option Nat := if 48 ≤ x.toNat ∧ x.toNat ≤ 57 then some (x.toNat - 48) else if 97 ≤ lo x ∧ lo x ≤ 102 then some (lo x - 87).toNat else none
theorem hexv_lt {x : UInt8} {n : Nat} (h : hexv x = some n) : n < 16 := by
  unfold hexv at h
  split at h
  · cases h; omega
  · split at h
    · cases h; omega
    · cases h
/-- The five classes of a byte. -/
theorem hex_cases (x : UInt8) : (48 ≤ (x.toNat : Int) ∧ (x.toNat : Int) ≤ 57 ∧ hexv x = some (x.toNat - 48)) ∨ (¬ (48 ≤ (x.toNat : Int) ∧ (x.toNat : Int) ≤ 57) ∧ 97 ≤ lo x ∧ lo x ≤ 102 ∧ hexv x = some (lo x - 87).toNat) ∨
    (¬ (48 ≤ (x.toNat : Int) ∧ (x.toNat : Int) ≤ 57) ∧ 103 ≤ lo x ∧ lo x ≤ 122 ∧ hexv x = none) ∨ (¬ (48 ≤ (x.toNat : Int) ∧ (x.toNat : Int) ≤ 57) ∧ ¬ (97 ≤ lo x ∧ lo x ≤ 122) ∧ hexv x = none) := by
  by_cases h1 : 48 ≤ x.toNat ∧ x.toNat ≤ 57
  · exact .inl ⟨by omega, by omega, by simp [hexv, h1]⟩
  · have h1' : ¬ (48 ≤ (x.toNat : Int) ∧ (x.toNat : Int) ≤ 57) := by omega
    by_cases h2 : 97 ≤ lo x ∧ lo x ≤ 102
    · exact .inr (.inl ⟨h1', h2.1, h2.2, by simp [hexv, h1, h2]⟩)
    · have h3 : hexv x = none := by simp [hexv, h1, h2]
      by_cases h4 : 97 ≤ lo x ∧ lo x ≤ 122
      · exact .inr (.inr (.inl ⟨h1', by omega, h4.2, h3⟩))
      · exact .inr (.inr (.inr ⟨h1', h4, h3⟩))
theorem lo95' : lo 95 = 127 := by kernel_rfl
theorem lo95 (x : UInt8) (h : lo x ≤ 122) : ¬ (x.toNat : Int) = 95 := by
  intro e
  have e2 : x = 95 := UInt8.toNat_inj.1 (by show x.toNat = 95; omega)
  rw [e2, lo95'] at h
  omega
def pu2 (x y : UInt8) : Nat := match hexv x, hexv y with | some a, some b => a * 16 + b | _, _ => 0
def puOk (x y : UInt8) : Bool := (hexv x).isSome && (hexv y).isSome
theorem bytes_new (w : World) (s : ByteArray) : ∃ cp w1, (convert 9 90 (.string s)).run Tryz.prog w = .ok (.slice (some ⟨w.heap.size, 0, none⟩) s.size cp) w1 ∧
      (∀ j x, s.data.toList[j]? = some x → w1.cell? ⟨w.heap.size, j, none⟩ = some (.int .u8 (x.toNat : Int))) ∧ Below w.heap.size w w1 := by
  have h := run_bytes_of_string (P := Tryz.prog) w 9 90 5 s Tryz.underlying9 Tryz.underlying90 Tryz.underlying5
  refine ⟨_, _, h, ?_, (below_drewN (Below.refl w.heap.size w) 1).alloc (Nat.le_refl _) _⟩
  intro j x hx
  have hj : j < s.data.size := by have := (List.getElem?_eq_some_iff.1 hx).1; simpa using this
  have h2 := bytesRow_at s (grownCap w s.size 0 5) j hj
  have h3 : s.data[j] = x := by rw [Array.getElem?_toList, Array.getElem?_eq_getElem hj] at hx; exact Option.some.inj hx
  rw [h3] at h2
  rw [Lib.cell_of_heap (show (w.drew.alloc _).heap[w.heap.size]? = _ by exact heap_alloc_new w.drew _)]
  exact h2
/-- How it ends. -/
def PuP (x y : UInt8) (w : World) (e : Ending) (w' : World) : Prop := (e = .returned (.tuple #[.int .u64 (pu2 x y), if puOk x y then .nilIface else .iface 169 (.int .i64 2)])) ∧ Below w.heap.size w w'
set_option maxHeartbeats 4000000 in
theorem ipu (x y : UInt8) (w : World) : Calls Tryz.prog 90 #[.string (S [x, y]), .int .i64 16, .int .i64 8] w (PuP x y w) := by
  obtain ⟨cp, w1, hcv, hg, hbel⟩ := bytes_new w (S [x, y])
  have hs2 : (S [x, y]).size = 2 := rfl
  rw [hs2] at hcv
  have x0 : w1.cell? ⟨w.heap.size, 0, none⟩ = some (.int .u8 (x.toNat : Int)) := hg 0 x rfl
  have x1 : w1.cell? ⟨w.heap.size, 1, none⟩ = some (.int .u8 (y.toNat : Int)) := hg 1 y rfl
  clear hg
  have hne : (S [x, y]).toList.isEmpty = false := by rw [Lib.toList_data]; rfl
  go_enter Tryz.func90, Tryz.ntmps90
  go_wp2
  go_loopw [12, 13, 101] (fun f u i wr => wr = w1 ∧ f = .bool false ∧ ((u = .int .u64 0 ∧ i = .int .i64 0) ∨ (∃ a : Nat, a < 16 ∧ Hid (hexv x = some a) ∧ u = .int .u64 (a : Int) ∧ i = .int .i64 1) ∨ (∃ a b : Nat, a < 16 ∧ b < 16 ∧ Hid (hexv x = some a) ∧ Hid (hexv y = some b) ∧ u = .int .u64 ((a * 16 + b : Nat) : Int) ∧ i = .int .i64 2))) (fun _ _ i _ => 2 - (intOf i).toNat)
  case atStart => exact ⟨rfl, rfl, .inl ⟨rfl, rfl⟩⟩
  case round =>
    obtain ⟨rfl, rfl, ⟨rfl, rfl⟩ | ⟨a, ha, hxa, rfl, rfl⟩ | ⟨a, b, ha, hb, hxa, hyb, rfl, rfl⟩⟩ := hrel
    · have hw8 : ∀ z : Int, 0 ≤ z → z ≤ 255 → IntKind.u8.wrap z = z := fun z h1 h2 => by rw [show IntKind.u8.wrap z = z % 256 from rfl]; omega
      have hw64 : ∀ z : Int, 0 ≤ z → z ≤ 65535 → IntKind.u64.wrap z = z := fun z h1 h2 => by rw [show IntKind.u64.wrap z = z % 18446744073709551616 from rfl]; omega
      have hX0 : (0 : Int) ≤ (x.toNat : Int) := by omega
      have hX1 : (x.toNat : Int) ≤ 255 := by have := x.toNat_lt; omega
      have hlo : bits .or .u8 (x.toNat : Int) 32 = lo x := rfl
      have h95 := lo95 x
      rcases hex_cases x with ⟨c1, c2, hv⟩ | ⟨c1, c2, c3, hv⟩ | ⟨c1, c2, c3, hv⟩ | ⟨c1, c2, hv⟩
      all_goals
        have HV := Lib.hid hv
        clear hv
        generalize hX : (x.toNat : Int) = X at *
        generalize hL : lo x = L at *
        have HX := Lib.hid hX
        have HL := Lib.hid hL
        clear hX hL
      · have hw1 : IntKind.u8.wrap (X - 48) = X - 48 := hw8 _ (by omega) (by omega)
        have hv1 : IntKind.u64.wrap (X - 48) = X - 48 := hw64 _ (by omega) (by omega)
        have hv2 : ¬ 255 < X - 48 := by omega
        have hv3 : ¬ X - 48 < 0 := by omega
        clear hw8 h95 hw64
        have c3 : ¬ (16 : Int) ≤ X - 48 := by omega
        have h9 : ¬ X = 95 := by omega
        have HX2 := HX.out
        go_wp2
        all_goals
          go_roundw
          case rel =>
            refine ⟨by first | rfl | trivial, rfl, .inr (.inl ⟨(X - 48).toNat, by omega, Lib.hid (by rw [HV.out]; congr 1; omega), ?_, by go_num⟩)⟩
            rw [Int.toNat_of_nonneg (by omega)]
          case measure => simp [intOf]
      · have hw1 : IntKind.u8.wrap (L - 97) = L - 97 := hw8 _ (by omega) (by omega)
        have hw2 : IntKind.u8.wrap (L - 97 + 10) = L - 97 + 10 := hw8 _ (by omega) (by omega)
        have c4 : L ≤ 122 := by omega
        have c5 : ¬ (16 : Int) ≤ L - 97 + 10 := by omega
        have hv1 : IntKind.u64.wrap (L - 97 + 10) = L - 97 + 10 := hw64 _ (by omega) (by omega)
        have hv2 : ¬ 255 < L - 97 + 10 := by omega
        have hv3 : ¬ L - 97 + 10 < 0 := by omega
        have h9 := h95 c4
        clear hw8 h95 hw64
        go_wp2_with (go_at_call 122; refine (Tryz.internal_strconv_lower _ _).mono ?_; rintro e2 w2 ⟨rfl, rfl⟩)
        all_goals
          go_roundw
          case rel =>
            refine ⟨by first | rfl | trivial, rfl, .inr (.inl ⟨(L - 97 + 10).toNat, by omega, Lib.hid (by rw [HV.out]; congr 1; omega), ?_, by go_num⟩)⟩
            rw [Int.toNat_of_nonneg (by omega)]
          case measure => simp [intOf]
      · have hw1 : IntKind.u8.wrap (L - 97) = L - 97 := hw8 _ (by omega) (by omega)
        have hw2 : IntKind.u8.wrap (L - 97 + 10) = L - 97 + 10 := hw8 _ (by omega) (by omega)
        have c4 : 97 ≤ L := by omega
        have c5 : (16 : Int) ≤ L - 97 + 10 := by omega
        have h9 := h95 c3
        have hbad : Hid (pu2 x y = 0 ∧ puOk x y = false) := Lib.hid (by rw [pu2, puOk, HV.out]; simp)
        clear hw8 h95 hw64
        go_wp2_with (go_at_call 122; refine (Tryz.internal_strconv_lower _ _).mono ?_; rintro e2 w2 ⟨rfl, rfl⟩)
        all_goals
          go_ret2
          exact ⟨by rw [hbad.out.1, hbad.out.2]; rfl, hbel⟩
      · have hbad : Hid (pu2 x y = 0 ∧ puOk x y = false) := Lib.hid (by rw [pu2, puOk, HV.out]; simp)
        have hc2 : L < 97 ∨ 122 < L := by omega
        by_cases h9 : X = 95
        all_goals
          clear hw8 h95 hw64
          go_wp2_with (go_at_call 122; refine (Tryz.internal_strconv_lower _ _).mono ?_; rintro e2 w2 ⟨rfl, rfl⟩)
          all_goals
            go_ret2
            exact ⟨by rw [hbad.out.1, hbad.out.2]; rfl, hbel⟩
    · have hw8 : ∀ z : Int, 0 ≤ z → z ≤ 255 → IntKind.u8.wrap z = z := fun z h1 h2 => by rw [show IntKind.u8.wrap z = z % 256 from rfl]; omega
      have hw64 : ∀ z : Int, 0 ≤ z → z ≤ 65535 → IntKind.u64.wrap z = z := fun z h1 h2 => by rw [show IntKind.u64.wrap z = z % 18446744073709551616 from rfl]; omega
      have hX0 : (0 : Int) ≤ (y.toNat : Int) := by omega
      have hX1 : (y.toNat : Int) ≤ 255 := by have := y.toNat_lt; omega
      have hlo : bits .or .u8 (y.toNat : Int) 32 = lo y := rfl
      have h95 := lo95 y
      rcases hex_cases y with ⟨c1, c2, hv⟩ | ⟨c1, c2, c3, hv⟩ | ⟨c1, c2, c3, hv⟩ | ⟨c1, c2, hv⟩
      all_goals
        have HV := Lib.hid hv
        clear hv
        generalize hX : (y.toNat : Int) = X at *
        generalize hL : lo y = L at *
        have HX := Lib.hid hX
        have HL := Lib.hid hL
        clear hX hL
      · have hw1 : IntKind.u8.wrap (X - 48) = X - 48 := hw8 _ (by omega) (by omega)
        have hv0 : IntKind.u64.wrap ((a : Int) * 16) = (a : Int) * 16 := hw64 _ (by omega) (by omega)
        have hv1 : IntKind.u64.wrap ((a : Int) * 16 + (X - 48)) = (a : Int) * 16 + (X - 48) := hw64 _ (by omega) (by omega)
        have hv2 : ¬ 255 < (a : Int) * 16 + (X - 48) := by omega
        have hv3 : ¬ (a : Int) * 16 + (X - 48) < (a : Int) * 16 := by omega
        have hv4 : ¬ (1152921504606846976 : Int) ≤ (a : Int) := by omega
        have hv5 : IntKind.u64.wrap (X - 48) = X - 48 := hw64 _ (by omega) (by omega)
        clear hw8 h95 hw64
        have c3 : ¬ (16 : Int) ≤ X - 48 := by omega
        have h9 : ¬ X = 95 := by omega
        have HX2 := HX.out
        go_wp2
        all_goals
          go_roundw
          case rel =>
            refine ⟨by first | rfl | trivial, rfl, .inr (.inr ⟨a, (X - 48).toNat, ha, by omega, hxa, Lib.hid (by rw [HV.out]; congr 1; omega), ?_, by go_num⟩)⟩
            congr 2
            omega
          case measure => simp [intOf]
      · have hw1 : IntKind.u8.wrap (L - 97) = L - 97 := hw8 _ (by omega) (by omega)
        obtain ⟨d, hd⟩ : ∃ d, L - 97 + 10 = d := ⟨_, rfl⟩
        have hw2 : IntKind.u8.wrap d = d := hw8 _ (by omega) (by omega)
        have c4 : L ≤ 122 := by omega
        have c5 : ¬ (16 : Int) ≤ d := by omega
        have hv0 : IntKind.u64.wrap ((a : Int) * 16) = (a : Int) * 16 := hw64 _ (by omega) (by omega)
        have hv1 : IntKind.u64.wrap ((a : Int) * 16 + d) = (a : Int) * 16 + d := hw64 _ (by omega) (by omega)
        have hv2 : ¬ 255 < (a : Int) * 16 + d := by omega
        have hv3 : ¬ (a : Int) * 16 + d < (a : Int) * 16 := by omega
        have hv5 : IntKind.u64.wrap d = d := hw64 _ (by omega) (by omega)
        have h9 := h95 c4
        clear hw8 h95 hw64
        go_upto_region 48 with (go_at_call 122; refine (Tryz.internal_strconv_lower _ _).mono ?_; rintro e2 w2 ⟨rfl, rfl⟩)
        all_goals
          have hv4 : ¬ (1152921504606846976 : Int) ≤ (a : Int) := by omega
          go_wp2
          go_roundw
          case rel =>
            refine ⟨by first | rfl | trivial, rfl, .inr (.inr ⟨a, (d).toNat, ha, by omega, hxa, Lib.hid (by rw [HV.out]; congr 1; omega), ?_, by go_num⟩)⟩
            congr 2
            omega
          case measure => simp [intOf]
      · have hw1 : IntKind.u8.wrap (L - 97) = L - 97 := hw8 _ (by omega) (by omega)
        have hw2 : IntKind.u8.wrap (L - 97 + 10) = L - 97 + 10 := hw8 _ (by omega) (by omega)
        have c4 : 97 ≤ L := by omega
        have c5 : (16 : Int) ≤ L - 97 + 10 := by omega
        have h9 := h95 c3
        have hbad : Hid (pu2 x y = 0 ∧ puOk x y = false) := Lib.hid (by rw [pu2, puOk, HV.out]; cases hexv x <;> simp)
        clear hw8 h95 hw64
        go_wp2_with (go_at_call 122; refine (Tryz.internal_strconv_lower _ _).mono ?_; rintro e2 w2 ⟨rfl, rfl⟩)
        all_goals
          go_ret2
          exact ⟨by rw [hbad.out.1, hbad.out.2]; rfl, hbel⟩
      · have hbad : Hid (pu2 x y = 0 ∧ puOk x y = false) := Lib.hid (by rw [pu2, puOk, HV.out]; cases hexv x <;> simp)
        have hc2 : L < 97 ∨ 122 < L := by omega
        by_cases h9 : X = 95
        all_goals
          clear hw8 h95 hw64
          go_wp2_with (go_at_call 122; refine (Tryz.internal_strconv_lower _ _).mono ?_; rintro e2 w2 ⟨rfl, rfl⟩)
          all_goals
            go_ret2
            exact ⟨by rw [hbad.out.1, hbad.out.2]; rfl, hbel⟩
    · have hgood : Hid (pu2 x y = a * 16 + b ∧ puOk x y = true) := Lib.hid (by rw [pu2, puOk, hxa.out, hyb.out]; simp)
      go_wp2
      go_ret2
      exact ⟨by rw [hgood.out.1, hgood.out.2]; rfl, hbel⟩
end Go.Proofs.YtiglllddgikeiabGreatDoor
