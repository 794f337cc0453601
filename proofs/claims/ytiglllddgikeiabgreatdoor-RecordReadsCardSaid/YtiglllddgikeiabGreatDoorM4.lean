/- A part of the proof of RecordReads. -/
import Derived.Test.YtiglllddgikeiabGreatDoorRG
import Derived.OwnWalk
import Derived.Test.YtiglllddgikeiabGreatDoorAbsP
import Derived.Lib.AtoiErrMem
import Derived.Test.YtiglllddgikeiabGreatDoorM1
import Derived.Test.YtiglllddgikeiabGreatDoorAbsT
namespace Go.Proofs.YtiglllddgikeiabGreatDoor
open Go.RowKit Go.Rep
set_option maxRecDepth 100000
/-- ParseUint of two bytes, at base 16. -/
theorem pu_any (x y : UInt8) {w : World} (hw : Laid w) : Calls Tryz.prog 50 #[.string (S [x, y]), .int .i64 16, .int .i64 8] w fun e w' => (∃ v, e = .returned (.tuple #[.int .u64 (pu2 x y), v])) ∧ Below w.heap.size w w' := by
  obtain ⟨_, ⟨tp, p, hvar⟩, _⟩ := hw.parts
  have hc0 : w.cell? ⟨0, 0, none⟩ = some (.iface tp p) := by
    unfold World.var? at hvar
    rw [g0] at hvar
    simp only [Option.bind_some] at hvar
    cases hh : w.heap[0]? with
    | none => rw [hh] at hvar; cases hvar
    | some o =>
      rw [hh] at hvar
      cases o with
      | cells cs t f =>
        simp only [Option.some.injEq] at hvar
        subst hvar
        rw [Lib.cell_of_heap hh]
        rfl
      | _ => cases hvar
  have hgl : 0 < w.heap.size := by
    rcases Nat.eq_zero_or_pos w.heap.size with h | h
    · have : w.heap[0]? = none := Array.getElem?_eq_none (by omega)
      simp [World.cell?, this] at hc0
    · exact h
  cases hok : puOk x y with
  | true =>
    have HO := Lib.hid hok
    clear hok
    go_enter Tryz.func50, Tryz.ntmps50
    go_wp2_with (go_at_call 90; refine (ipu x y w).mono ?_; rintro e w2 ⟨rfl, hb2⟩; rw [HO.out]; simp only [if_true])
    go_ret2
    exact ⟨⟨_, rfl⟩, hb2⟩
  | false =>
    have HO := Lib.hid hok
    clear hok
    have hz : pu2 x y = 0 := by
      have h := HO.out
      unfold puOk at h
      unfold pu2
      cases h1 : hexv x <;> cases h2 : hexv y <;> rw [h1, h2] at h <;> first | rfl | cases h
    rw [hz]
    have HZ := Lib.hid hz
    clear hz
    go_enter Tryz.func50, Tryz.ntmps50
    go_wp2_with (first
      | (go_at_call 90; refine (ipu x y w).mono ?_; rintro e w2 ⟨rfl, hb2⟩; rw [HO.out, HZ.out]; simp only [Bool.false_eq_true, if_false])
      | (go_at_call 49; refine (Tryz.strconv_toError_syntax _ _ _ _ _ w2 (by rw [S_size]; simp) ((hb2.cell hgl).trans hc0) (.inr ⟨_, _, rfl⟩)).mono ?_; rintro e w3 ⟨N, rfl, _, _, hb3⟩))
    go_ret2
    exact ⟨⟨_, rfl⟩, hb2.then _ hb3⟩
def unhexL : List UInt8 → List UInt8
  | x :: y :: t => UInt8.ofNat (pu2 x y) :: unhexL t
  | _ => []
theorem unhexL_app : ∀ (n : Nat) (a b : List UInt8), a.length = 2 * n → unhexL (a ++ b) = unhexL a ++ unhexL b
  | 0, [], b, _ => by simp [unhexL]
  | n + 1, x :: y :: t, b, h => by
    have := unhexL_app n t b (by simp at h; omega)
    simp [unhexL, this]
  | n + 1, [], b, h => by simp at h
  | n + 1, [x], b, h => by simp at h; omega
  | 0, x :: t, b, h => by simp at h
theorem unhexL_short (l : List UInt8) (h : l.length ≤ 1) : unhexL l = [] := by
  match l, h with
  | [], _ => rfl
  | [x], _ => rfl
  | x :: y :: t, h => simp at h
theorem unhexL_len : ∀ (n : Nat) (a : List UInt8), a.length = 2 * n → (unhexL a).length = n
  | 0, [], _ => rfl
  | n + 1, x :: y :: t, h => by
    have := unhexL_len n t (by simp at h; omega)
    simp [unhexL, this]
  | n + 1, [], h => by simp at h
  | n + 1, [x], h => by simp at h; omega
  | 0, x :: t, h => by simp at h
theorem pu2_lt (x y : UInt8) : pu2 x y < 256 := by
  unfold pu2
  split
  · rename_i a b h1 h2
    have := hexv_lt h1
    have := hexv_lt h2
    omega
  · omega
theorem own_lt {w : World} {base size n : Nat} {e : TypeId} {v : Value} {xs : List Value} (h : w.ownsRow base e size v n xs) {g : Nat} (hg : v.ownBlock = some g) : base ≤ g ∧ g < w.heap.size := by
  rcases h.2 with ⟨rfl, _⟩ | ⟨g', cap, cur, rfl, hb, hh, _⟩
  · simp [Value.ownBlock] at hg
  · have : g' = g := by simpa [Value.ownBlock] using hg
    subst this
    exact ⟨hb, (Array.getElem?_eq_some_iff.1 hh).1⟩
theorem own_up {w w' : World} {base size n : Nat} {e : TypeId} {v : Value} {xs : List Value} (h : w.ownsRow base e size v n xs) (hb : Below w.heap.size w w') : w'.ownsRow base e size v n xs :=
  h.kept (row := none) ⟨hb.os, hb.tape, hb.output, hb.size, fun k hk _ => hb.block k hk⟩ (by cases hv : v.ownBlock <;> simp)
theorem reads_lit (w : World) (u : Value) (t : TypeId) : Reads (w.alloc (.cells #[u] t)) (w.heap.size + 1) 1 (some ⟨w.heap.size, 0, none⟩) 1 [u] := by
  refine ⟨rfl, fun _ => ⟨_, rfl, Nat.lt_succ_self _, fun j x hx => ?_⟩⟩
  rw [show (⟨w.heap.size, 0, none⟩ : Addr).add j = ⟨w.heap.size, j, none⟩ by simp [Addr.add]; omega, (Blk.new w t #[u]).cell j, ← hx]
  simp
theorem two_of (s : ByteArray) {i : Nat} {x y : UInt8} (hx : s.data.toList[i]? = some x) (hy : s.data.toList[i + 1]? = some y) : s.extract i (i + 2) = S [x, y] := by
  have h1 : i < s.data.toList.length := (List.getElem?_eq_some_iff.1 hx).1
  have h2 : i + 1 < s.data.toList.length := (List.getElem?_eq_some_iff.1 hy).1
  rw [← S_of (s.extract i (i + 2))]
  congr 1
  rw [ByteArray.data_extract, Array.toList_extract, List.extract_eq_take_drop]
  rw [List.drop_eq_getElem_cons h1, List.drop_eq_getElem_cons h2, (List.getElem?_eq_some_iff.1 hx).2, (List.getElem?_eq_some_iff.1 hy).2]
  simp [show i + 2 - i = 2 by omega]
set_option maxHeartbeats 4000000 in
theorem unhexed_any (s : ByteArray) (hs : s.size ≤ 1000000) {w : World} (hw : Laid w) : Calls Tryz.prog 25 #[.string s] w fun e w' => e = .returned (.string (S (unhexL s.data.toList))) ∧ Below w.heap.size w w' := by
  obtain ⟨i0, hi, hz0, hz1, hz2⟩ := info_parts byte_info
  have HW := Lib.hid hw
  have hlen : s.data.toList.length = s.size := Array.length_toList
  go_enter Tryz.func25, Tryz.ntmps25
  go_wp2
  go_loopw [3, 4] (fun v i wr => ∃ (j k : Nat), j ≤ s.size ∧ Hid (j = 2 * k) ∧ i = .int .i64 (j : Int) ∧ wr.ownsRow w.heap.size 5 1 v k (bcells (unhexL (s.data.toList.take j))) ∧ Below w.heap.size w wr) (fun _ i _ => s.size - (intOf i).toNat)
  case atStart => exact ⟨0, 0, Nat.zero_le _, Lib.hid rfl, rfl, by simpa [unhexL, bcells] using World.ownsRow_nil _ _ _ _, Below.refl _ _⟩
  case round =>
    obtain ⟨j, k, hj, hjk, rfl, hown, hbr⟩ := hrel
    have hsr := hbr.size
    by_cases hlt : j + 1 < s.size
    · obtain ⟨x, hx⟩ : ∃ x, s.data.toList[j]? = some x := ⟨_, List.getElem?_eq_getElem (by omega)⟩
      obtain ⟨y, hy⟩ : ∃ y, s.data.toList[j + 1]? = some y := ⟨_, List.getElem?_eq_getElem (by omega)⟩
      have hsl : ∀ W, (Instr.slice 9 (.string s) (some (.int .i64 (j : Int))) (some (.int .i64 ((j : Int) + 2))) none).run Tryz.prog W = .ok (.string (S [x, y])) W := by
        intro W
        rw [run_slice_string_if W 9 _ _ _ _ _ Tryz.underlying9, if_pos (by omega), if_pos (by omega)]
        rw [show ((j : Int) + 2).toNat = j + 2 by omega, show (j : Int).toNat = j by omega, two_of s hx hy]
      have HX := Lib.hid hx
      have HY := Lib.hid hy
      clear hx hy
      have hl1 : (j : Int) + 1 < (s.size : Int) := by omega
      have hw1 : IntKind.i64.wrap ((j : Int) + 1) = (j : Int) + 1 := IntWalk.i64_in _ (by omega)
      have hw2 : IntKind.i64.wrap ((j : Int) + 2) = (j : Int) + 2 := IntWalk.i64_in _ (by omega)
      have hp := pu2_lt x y
      have hpu := pu_any x y (HW.out.up hbr)
      generalize hpp : pu2 x y = p at *
      have HP := Lib.hid hpp
      clear hpp
      go_wp2_with (first
        | (go_at_call 50; refine hpu.mono ?_; rintro e w2 ⟨⟨u, rfl⟩, hb2⟩)
        | (at_builtin; have hown2 := own_up hown hb2; refine wpList_append_any _ rfl (.tmp 23) (.tmp 26) 90 rfl w.heap.size 5 i0 (.int .u8 0) 1 1 Tryz.underlying90 hi hz0 hz1 hz2 rfl (by decide) _ _ _ rfl (World.ownsRow.alloc hown2 _) _ _ _ _ [_] rfl (reads_lit w2 _ _) (by intro u hu; simp only [List.mem_singleton] at hu; subst hu; rfl) (by show k + 1 ≤ 9223372036854775807; have := hjk.out; omega) (by have := hjk.out; omega) (by have := hb2.size; simp; omega) ?_; intro v7 w7 hown7 hg7 _))
      go_roundw
      case rel =>
        have hb7 : Below w.heap.size w w7 := ((hbr.then _ hb2).alloc (by have := hb2.size; omega) (.cells #[.int .u8 (p : Int)] 5)).grown hg7 (by have := hb2.size; simp; omega) (fun q hq => (own_lt hown hq).1)
        refine ⟨j + 2, k + 1, by omega, Lib.hid (by have := hjk.out; omega), by go_num, ?_, hb7⟩
        have hj2 : s.data.toList.take (j + 2) = s.data.toList.take j ++ [x, y] := by
          have a1 := List.take_succ_eq_append_getElem (List.getElem?_eq_some_iff.1 HX.out).1
          have a2 := List.take_succ_eq_append_getElem (List.getElem?_eq_some_iff.1 HY.out).1
          rw [a2, a1, (List.getElem?_eq_some_iff.1 HX.out).2, (List.getElem?_eq_some_iff.1 HY.out).2]
          simp
        rw [hj2, unhexL_app k _ _ (by rw [List.length_take]; have := hjk.out; omega)]
        have e1 : bcells (unhexL (s.data.toList.take j) ++ unhexL [x, y]) = bcells (unhexL (s.data.toList.take j)) ++ [.int .u8 (p : Int)] := by
          simp [bcells, unhexL, HP.out]
          omega
        rw [e1]
        exact hown7
      case measure => simp [intOf]; omega
    · obtain ⟨A3, c3, rfl, _, _, hr3⟩ := own_slice hown
      have hfin : Hid (unhexL (s.data.toList.take j) = unhexL s.data.toList) := Lib.hid (by
        have h := unhexL_app k (s.data.toList.take j) (s.data.toList.drop j) (by rw [List.length_take]; have := hjk.out; omega)
        rw [List.take_append_drop] at h
        rw [h, unhexL_short (s.data.toList.drop j) (by rw [List.length_drop]; omega), List.append_nil])
      have hcv := run_conv_reads (P := Tryz.prog) hr3 90 5 Tryz.underlying90 Tryz.underlying5 c3 9 Tryz.underlying9
      rw [hfin.out] at hcv
      have hl1 : ¬ (j : Int) + 1 < (s.size : Int) := by omega
      have hw1 : IntKind.i64.wrap ((j : Int) + 1) = (j : Int) + 1 := IntWalk.i64_in _ (by omega)
      go_wp2
      go_ret
      exact ⟨rfl, hbr⟩
end Go.Proofs.YtiglllddgikeiabGreatDoor

namespace Go.Proofs.YtiglllddgikeiabGreatDoor
open Go.RowKit Go.Rep
set_option maxRecDepth 100000
/-- The number that Atoi hands back, whether it is one or not. -/
def atoiV (s : ByteArray) : Int := match Lib.atoiAll s.data.toList with | .ok v => v | .range => Lib.atoiSat s.data.toList | _ => 0
theorem atoi_any (s : ByteArray) (hs : s.size ≤ 281474976710656) {w : World} (hw : Laid w) : Calls Tryz.prog 24 #[.string s] w fun e w' => (∃ v, e = .returned (.tuple #[.int .i64 (atoiV s), v])) ∧ Below w.heap.size w w' := by
  obtain ⟨_, ⟨tp, p, h1⟩, ⟨tp2, p2, h2⟩, _⟩ := hw.parts
  unfold atoiV
  cases h : Lib.atoiAll s.data.toList with
  | ok v =>
    refine (Tryz.strconv_Atoi_ok s (by omega) v h w).mono ?_
    rintro e w' ⟨rfl, rfl | ⟨t, rfl⟩⟩
    · exact ⟨⟨_, rfl⟩, Below.refl _ _⟩
    · exact ⟨⟨_, rfl⟩, Lib.bytesWorld_below w 5 t⟩
  | range =>
    refine (Tryz.strconv_Atoi_range_var s hs h tp2 p2 w h2).mono ?_
    rintro e w' ⟨N, rfl, _, _, hb⟩
    exact ⟨⟨_, rfl⟩, hb⟩
  | _ =>
    refine (Any.strconv_Atoi_syntax_var Tryz.laysC172 s hs h tp p w h1).mono ?_
    rintro e w' ⟨N, rfl, _, _, hb⟩
    exact ⟨⟨_, rfl⟩, hb⟩
/-- The words of a string, between single bytes c. -/
def cutB (c : UInt8) (s : ByteArray) : List ByteArray := Lib.splitB (S [c]) 0 (Lib.countB s (S [c])) s
theorem split_any (c : UInt8) (s : ByteArray) (hs : s.size < 4294967281) {w : World} (hw : Laid w) : Calls Tryz.prog 22 #[.string s, .string (S [c])] w fun e w' =>
    e = .returned (.slice (some ⟨w.heap.size, 0, none⟩) (cutB c s).length (cutB c s).length) ∧ w' = w.alloc (.cells ((cutB c s).map Value.string).toArray 9) := by
  obtain ⟨_, _, _, ⟨m, hm⟩, _⟩ := hw.parts
  have hl : (cutB c s).length = Lib.countB s (S [c]) + 1 := Lib.splitB_all (S [c]) (by rw [S_size]; simp) 0 _ s rfl
  rw [hl]
  exact Tryz.strings_Split s (S [c]) m w hs hm (by rw [S_size]; simp)
theorem trim_any (s : ByteArray) (hs : s.size < 4294967281) (w : World) : Calls Tryz.prog 23 #[.string s, .string (S [10])] w fun e w' => e = .returned (.string (S (Lib.trimSuffix s.data.toList [10]))) ∧ w' = w := by
  refine (Tryz.strings_TrimSuffix s (S [10]) w (by omega)).mono ?_
  rintro e w' ⟨rfl, rfl⟩
  exact ⟨by rw [S_list]; rfl, rfl⟩
end Go.Proofs.YtiglllddgikeiabGreatDoor

namespace Go.Proofs.YtiglllddgikeiabGreatDoor
open Go.RowKit Go.Rep
set_option maxRecDepth 100000
def words (s : ByteArray) : List ByteArray := cutB 32 s
def linesOf (s : ByteArray) : List ByteArray := cutB 10 (S (Lib.trimSuffix s.data.toList [10]))
def wd (ws : List ByteArray) (k : Nat) : ByteArray := ws[k]?.getD ⟨#[]⟩
def nthV (ws : List ByteArray) (k : Nat) : Int := (ws[k]?.map atoiV).getD 0
def opOf (ws : List ByteArray) : TOp :=
  if wd ws 1 = S [119, 114, 105, 116, 101] then ⟨1, S (unhexL (wd ws 2).data.toList), 0, 0, 0⟩
  else if wd ws 1 = S [114, 101, 115, 105, 122, 101] then ⟨2, S [], nthV ws 2, nthV ws 3, 0⟩
  else if wd ws 1 = S [115, 99, 114, 111, 108, 108] then ⟨3, S [], 0, 0, nthV ws 2⟩
  else ⟨0, S [], 0, 0, 0⟩
def lastNext (last : Int) (ws : List ByteArray) : Int := wrap64 (last + min (nthV ws 0) 1099511627777)
def pEvs (last : Int) : List (List ByteArray) → List Ev
  | [] => []
  | ws :: t => ⟨lastNext last ws, opOf ws⟩ :: pEvs (lastNext last ws) t
def pLast (last : Int) : List (List ByteArray) → Int
  | [] => last
  | ws :: t => pLast (lastNext last ws) t
def lineOK (ws : List ByteArray) : Prop := 3 ≤ ws.length ∧ ws.length ≤ 4
theorem pEvs_snoc (last : Int) (a : List (List ByteArray)) (ws : List ByteArray) : pEvs last (a ++ [ws]) = pEvs last a ++ [⟨lastNext (pLast last a) ws, opOf ws⟩] := by
  induction a generalizing last with
  | nil => rfl
  | cons x t ih => simp [pEvs, pLast, ih]
theorem pLast_snoc (last : Int) (a : List (List ByteArray)) (ws : List ByteArray) : pLast last (a ++ [ws]) = lastNext (pLast last a) ws := by
  induction a generalizing last with
  | nil => rfl
  | cons x t ih => simp [pLast, ih]
theorem pEvs_length (last : Int) (a : List (List ByteArray)) : (pEvs last a).length = a.length := by
  induction a generalizing last with
  | nil => rfl
  | cons x t ih => simp [pEvs, ih]
/-- What is known behind the first lines. -/
def PSt (ls : List (List ByteArray)) (r c h last : Int) (evs : List Ev) : Prop :=
  (∀ ws ∈ ls, lineOK ws) ∧ match ls with
    | [] => r = 0 ∧ c = 0 ∧ h = 0 ∧ last = 0 ∧ evs = []
    | w0 :: rest => r = nthV w0 1 ∧ c = nthV w0 2 ∧ h = nthV w0 3 ∧ last = pLast 0 rest ∧ evs = pEvs 0 rest
theorem PSt.first {ws : List ByteArray} {r c h last : Int} {evs : List Ev} (h0 : PSt [] r c h last evs) (hw : lineOK ws) : PSt ([] ++ [ws]) (nthV ws 1) (nthV ws 2) (nthV ws 3) last evs := by
  obtain ⟨_, rfl, rfl, rfl, rfl, rfl⟩ := h0
  exact ⟨by simpa using hw, rfl, rfl, rfl, rfl, rfl⟩
theorem PSt.next {ls : List (List ByteArray)} {ws : List ByteArray} {r c h last : Int} {evs : List Ev} (h0 : PSt ls r c h last evs) (hl : ls ≠ []) (hw : lineOK ws) :
    PSt (ls ++ [ws]) r c h (lastNext last ws) (evs ++ [⟨lastNext last ws, opOf ws⟩]) := by
  cases ls with
  | nil => exact absurd rfl hl
  | cons w0 rest =>
    obtain ⟨h1, rfl, rfl, rfl, rfl, rfl⟩ := h0
    refine ⟨?_, rfl, rfl, rfl, (pLast_snoc _ _ _).symm, (pEvs_snoc _ _ _).symm⟩
    intro x hx
    rcases List.mem_append.1 hx with hx | hx
    · exact h1 x hx
    · rw [List.mem_singleton.1 hx]; exact hw
theorem PSt.len {ls : List (List ByteArray)} {r c h last : Int} {evs : List Ev} (h0 : PSt ls r c h last evs) : evs.length ≤ ls.length := by
  cases ls with
  | nil => obtain ⟨_, rfl, rfl, rfl, rfl, rfl⟩ := h0; simp
  | cons w0 rest => obtain ⟨_, rfl, rfl, rfl, rfl, rfl⟩ := h0; rw [pEvs_length]; simp
theorem splitB_le (sep : ByteArray) (save : Nat) : ∀ (k : Nat) (s : ByteArray), ∀ p ∈ Lib.splitB sep save k s, p.size ≤ s.size
  | 0, s => by intro p hp; simp [Lib.splitB] at hp; rw [hp]; exact Nat.le_refl _
  | k + 1, s => by
    intro p hp
    unfold Lib.splitB at hp
    split at hp
    · simp at hp; rw [hp]; exact Nat.le_refl _
    · rcases List.mem_cons.1 hp with rfl | hp
      · rw [ByteArray.size_extract]; omega
      · have := splitB_le sep save k _ p hp
        rw [ByteArray.size_extract] at this
        omega
theorem cutB_le {c : UInt8} {s p : ByteArray} (hp : p ∈ cutB c s) : p.size ≤ s.size := splitB_le _ _ _ _ _ hp
/-- The numbers of the first j words, four in all. -/
def numsTo (ws : List ByteArray) (j : Nat) : List Int := (ws.take j).map atoiV ++ List.replicate (4 - j) 0
theorem numsTo_len {ws : List ByteArray} {j : Nat} (hj : j ≤ ws.length) (h4 : ws.length ≤ 4) : (numsTo ws j).length = 4 := by
  simp [numsTo]; omega
theorem numsTo_set {ws : List ByteArray} {j : Nat} {s : ByteArray} (hs : ws[j]? = some s) (h4 : ws.length ≤ 4) : (numsTo ws j).set j (atoiV s) = numsTo ws (j + 1) := by
  have hj : j < ws.length := (List.getElem?_eq_some_iff.1 hs).1
  unfold numsTo
  rw [List.set_append_right _ _ (by simp; omega), List.take_succ_eq_append_getElem hj, (List.getElem?_eq_some_iff.1 hs).2]
  have e1 : j - ((ws.take j).map atoiV).length = 0 := by simp; omega
  have e2 : 4 - j = (4 - (j + 1)) + 1 := by omega
  rw [e1, e2, List.replicate_succ]
  simp
theorem numsTo_all {ws : List ByteArray} (h3 : 3 ≤ ws.length) (h4 : ws.length ≤ 4) : numsTo ws ws.length = [nthV ws 0, nthV ws 1, nthV ws 2, nthV ws 3] := by
  match ws, h3, h4 with
  | [a, b, c], _, _ => simp [numsTo, nthV]
  | [a, b, c, d], _, _ => simp [numsTo, nthV]
/-- What a text is read as, if its lines are such. -/
def parsed (s : ByteArray) : Option (Int × Int × Int × List Ev) :=
  match (linesOf s).map words with
  | w0 :: rest => if rest.length ≤ 2000 ∧ (∀ ws ∈ (linesOf s).map words, 3 ≤ ws.length ∧ ws.length ≤ 4) then some (nthV w0 1, nthV w0 2, nthV w0 3, pEvs 0 rest) else none
  | [] => none
end Go.Proofs.YtiglllddgikeiabGreatDoor

namespace Go.Proofs.YtiglllddgikeiabGreatDoor
open Go.RowKit Go.Rep
set_option maxRecDepth 100000
/-! The text of a valid record is read as that record. -/
theorem S_extract (l : List UInt8) (i j : Nat) : (S l).extract i j = S ((l.drop i).take (j - i)) := by
  rw [← S_of ((S l).extract i j)]
  congr 1
  rw [ByteArray.data_extract, Array.toList_extract, List.extract_eq_take_drop, S_list]
theorem idx_miss {c : UInt8} : ∀ {l : List UInt8}, c ∉ l → Lib.index l [c] = -1
  | [], _ => by simp [Lib.index]
  | b :: t, h => by
    have h1 : ¬ c = b := fun e => h (by simp [e])
    have h2 := idx_miss (c := c) (l := t) (fun e => h (List.mem_cons_of_mem _ e))
    unfold Lib.index
    rw [h2]
    simp [List.isPrefixOf, h1]
theorem idx_hit {c : UInt8} (b : List UInt8) : ∀ {a : List UInt8}, c ∉ a → Lib.index (a ++ c :: b) [c] = (a.length : Int)
  | [], _ => by simp [Lib.index, List.isPrefixOf]
  | x :: t, h => by
    have h1 : ¬ c = x := fun e => h (by simp [e])
    have h2 := idx_hit (c := c) b (a := t) (fun e => h (List.mem_cons_of_mem _ e))
    show Lib.index (x :: (t ++ c :: b)) [c] = _
    unfold Lib.index
    rw [h2]
    have h3 : ¬ ((t.length : Int) == -1) = true := by simp
    simp [List.isPrefixOf, h1]
theorem cut_miss {c : UInt8} {l : List UInt8} (h : c ∉ l) : cutB c (S l) = [S l] := by
  have h1 : Lib.indexB (S l) (S [c]) = -1 := by show Lib.index _ _ = _; rw [S_list, S_list]; exact idx_miss h
  unfold cutB
  rw [Lib.countB_miss _ _ h1, Lib.splitB_zero]
theorem cut_hit {c : UInt8} {a : List UInt8} (b : List UInt8) (h : c ∉ a) : cutB c (S (a ++ c :: b)) = S a :: cutB c (S b) := by
  have h1 : Lib.indexB (S (a ++ c :: b)) (S [c]) = (a.length : Int) := by show Lib.index _ _ = _; rw [S_list, S_list]; exact idx_hit b h
  have hs : (S [c]).size = 1 := rfl
  have e1 : (S (a ++ c :: b)).extract (a.length + 1) (S (a ++ c :: b)).size = S b := by
    rw [S_extract, S_size]
    congr 1
    rw [show a ++ c :: b = (a ++ [c]) ++ b by simp, List.drop_left' (by simp)]
    exact List.take_of_length_le (by simp; omega)
  have e2 : (S (a ++ c :: b)).extract 0 (a.length + 0) = S a := by
    rw [S_extract]
    congr 1
    simp
  unfold cutB
  rw [Lib.countB_hit _ _ a.length (by rw [hs]; exact Nat.le_refl _) h1, hs, e1, Nat.add_comm 1, Lib.splitB_hit _ _ _ _ _ h1, hs, e1, e2]
/-- Strings one behind the other, c between them. -/
def joinC (c : UInt8) : List (List UInt8) → List UInt8
  | [] => []
  | [a] => a
  | a :: b :: t => a ++ c :: joinC c (b :: t)
theorem cut_join {c : UInt8} : ∀ {ls : List (List UInt8)}, ls ≠ [] → (∀ l ∈ ls, c ∉ l) → cutB c (S (joinC c ls)) = ls.map S
  | [], h, _ => absurd rfl h
  | [a], _, h => by
    simp only [joinC, List.map_cons, List.map_nil]
    exact cut_miss (h a (by simp))
  | a :: b :: t, _, h => by
    simp only [joinC]
    rw [cut_hit _ (h a (by simp)), cut_join (ls := b :: t) (by simp) (fun l hl => h l (by simp at hl ⊢; exact .inr hl))]
    rfl
theorem join_app (c : UInt8) : ∀ {ls : List (List UInt8)} (a : List UInt8), ls ≠ [] → joinC c (ls ++ [a]) = joinC c ls ++ c :: a
  | [], a, h => absurd rfl h
  | [x], a, _ => rfl
  | x :: y :: t, a, _ => by
    have := join_app c (ls := y :: t) a (by simp)
    simp only [List.cons_append, joinC] at this ⊢
    rw [this]
    simp
theorem trim_last (x : List UInt8) : Lib.trimSuffix (x ++ [10]) [10] = x := by
  unfold Lib.trimSuffix
  rw [if_pos (by unfold Lib.hasSuffix; rw [List.isSuffixOf_iff_suffix]; exact ⟨x, rfl⟩)]
  simp
/-- The line of an event. -/
def lineOf (last : Int) (e : Ev) : List UInt8 := Lib.itoa (e.at' - last) ++ bodyL e.o
def linesEv (last : Int) : List Ev → List (List UInt8)
  | [] => []
  | e :: t => lineOf last e :: linesEv e.at' t
def head0 (r c h : Int) : List UInt8 := [116, 101, 114, 109, 105, 110, 97, 108] ++ numL r ++ numL c ++ numL h
theorem join_lines (a : List UInt8) : ∀ (l : List Ev) (last : Int), a ++ [10] ++ evsL last l = joinC 10 (a :: linesEv last l) ++ [10] := by
  intro l
  induction l generalizing a with
  | nil => intro last; simp [evsL, linesEv, joinC]
  | cons e t ih =>
    intro last
    have h1 := ih (lineOf last e) e.at'
    have h2 : evL last e = lineOf last e ++ [10] := rfl
    show a ++ [10] ++ (evL last e ++ evsL e.at' t) = (a ++ 10 :: joinC 10 (lineOf last e :: linesEv e.at' t)) ++ [10]
    rw [h2, h1]
    simp
theorem text_lines (r c h : Int) (l : List Ev) : textL r c h l = joinC 10 (head0 r c h :: linesEv 0 l) ++ [10] := by
  rw [← join_lines]
  simp [textL, headL, head0]
theorem lines_of (r c h : Int) (l : List Ev) (hn : ∀ x ∈ head0 r c h :: linesEv 0 l, (10 : UInt8) ∉ x) : linesOf (S (textL r c h l)) = (head0 r c h :: linesEv 0 l).map S := by
  unfold linesOf
  rw [S_list, text_lines, trim_last, cut_join (by simp) hn]
/-- A digit, or the sign. -/
def numB (b : UInt8) : Bool := b == 45 || (decide (48 ≤ b.toNat) && decide (b.toNat ≤ 57))
theorem dec_numB : ∀ (u : Nat), ∀ b ∈ Lib.decDigits u, numB b = true := by
  intro u
  induction u using Nat.strongRecOn with
  | _ u ih =>
    intro b hb
    rw [Lib.decDigits] at hb
    have key : ∀ d, d < 10 → numB (UInt8.ofNat (48 + d)) = true := by decide
    split at hb
    · rename_i h
      rw [List.mem_singleton.1 hb]
      exact key _ h
    · rename_i h
      rcases List.mem_append.1 hb with hb | hb
      · exact ih _ (by omega) b hb
      · rw [List.mem_singleton.1 hb]
        exact key _ (by omega)
theorem itoa_numB (n : Int) : ∀ b ∈ Lib.itoa n, numB b = true := by
  intro b hb
  unfold Lib.itoa at hb
  split at hb
  · rcases List.mem_cons.1 hb with rfl | hb
    · rfl
    · exact dec_numB _ b hb
  · exact dec_numB _ b hb
theorem itoa_not (n : Int) {b : UInt8} (h : numB b = false) : b ∉ Lib.itoa n := fun hb => by rw [itoa_numB n b hb] at h; cases h
theorem hexd_not {b : UInt8} (h : ∀ q, q < 16 → hexd q ≠ b) (l : List UInt8) : b ∉ hexl l := by
  intro hb
  unfold hexl at hb
  obtain ⟨x, _, hx⟩ := List.mem_flatMap.1 hb
  simp only [hex2, List.mem_cons, List.not_mem_nil, or_false] at hx
  have := x.toNat_lt
  rcases hx with hx | hx
  · exact h _ (by omega) hx.symm
  · exact h _ (by omega) hx.symm
def opWords (o : TOp) : List (List UInt8) :=
  if o.k = 1 then [[119, 114, 105, 116, 101], hexl o.s.data.toList]
  else if o.k = 2 then [[114, 101, 115, 105, 122, 101], Lib.itoa o.r, Lib.itoa o.c]
  else [[115, 99, 114, 111, 108, 108], Lib.itoa o.n]
theorem line_join (last : Int) (e : Ev) : lineOf last e = joinC 32 (Lib.itoa (e.at' - last) :: opWords e.o) := by
  unfold lineOf bodyL opWords
  split
  · simp [joinC]
  · split
    · simp [joinC, numL]
    · simp [joinC, numL]
theorem head_join (r c h : Int) : head0 r c h = joinC 32 [[116, 101, 114, 109, 105, 110, 97, 108], Lib.itoa r, Lib.itoa c, Lib.itoa h] := by
  simp [head0, joinC, numL]
theorem opWords_not {b : UInt8} (o : TOp) (hb : b = 10 ∨ b = 32) : ∀ x ∈ opWords o, b ∉ x := by
  have hn : numB b = false := by rcases hb with rfl | rfl <;> rfl
  have hh : ∀ q, q < 16 → hexd q ≠ b := by rcases hb with rfl | rfl <;> decide
  unfold opWords
  split
  · intro x hx
    simp only [List.mem_cons, List.not_mem_nil, or_false] at hx
    rcases hx with rfl | rfl
    · rcases hb with rfl | rfl <;> decide
    · exact hexd_not hh _
  · split
    · intro x hx
      simp only [List.mem_cons, List.not_mem_nil, or_false] at hx
      rcases hx with rfl | rfl | rfl
      · rcases hb with rfl | rfl <;> decide
      · exact itoa_not _ hn
      · exact itoa_not _ hn
    · intro x hx
      simp only [List.mem_cons, List.not_mem_nil, or_false] at hx
      rcases hx with rfl | rfl
      · rcases hb with rfl | rfl <;> decide
      · exact itoa_not _ hn
theorem join_not {b c : UInt8} (hbc : b ≠ c) : ∀ (ls : List (List UInt8)), (∀ x ∈ ls, b ∉ x) → b ∉ joinC c ls
  | [], _ => by simp [joinC]
  | [a], h => by simpa [joinC] using h a (by simp)
  | a :: d :: t, h => by
    have := join_not hbc (d :: t) (fun x hx => h x (by simp at hx ⊢; exact .inr hx))
    simp only [joinC, List.mem_append, List.mem_cons, not_or]
    exact ⟨h a (by simp), hbc, this⟩
theorem line_words (last : Int) (e : Ev) : words (S (lineOf last e)) = (Lib.itoa (e.at' - last) :: opWords e.o).map S := by
  unfold words
  rw [line_join, cut_join (by simp)]
  intro x hx
  rcases List.mem_cons.1 hx with rfl | hx
  · exact itoa_not _ rfl
  · exact opWords_not _ (.inr rfl) x hx
theorem head_words (r c h : Int) : words (S (head0 r c h)) = [S [116, 101, 114, 109, 105, 110, 97, 108], S (Lib.itoa r), S (Lib.itoa c), S (Lib.itoa h)] := by
  unfold words
  rw [head_join, cut_join (by simp)]
  · rfl
  · intro x hx
    simp only [List.mem_cons, List.not_mem_nil, or_false] at hx
    rcases hx with rfl | rfl | rfl | rfl
    · decide
    · exact itoa_not _ rfl
    · exact itoa_not _ rfl
    · exact itoa_not _ rfl
theorem lines_not (last : Int) (l : List Ev) : ∀ x ∈ linesEv last l, (10 : UInt8) ∉ x := by
  induction l generalizing last with
  | nil => simp [linesEv]
  | cons e t ih =>
    intro x hx
    rcases List.mem_cons.1 hx with rfl | hx
    · rw [line_join]
      refine join_not (by decide) _ ?_
      intro y hy
      rcases List.mem_cons.1 hy with rfl | hy
      · exact itoa_not _ rfl
      · exact opWords_not _ (.inl rfl) y hy
    · exact ih _ x hx
theorem head_not (r c h : Int) : (10 : UInt8) ∉ head0 r c h := by
  rw [head_join]
  refine join_not (by decide) _ ?_
  intro x hx
  simp only [List.mem_cons, List.not_mem_nil, or_false] at hx
  rcases hx with rfl | rfl | rfl | rfl
  · decide
  · exact itoa_not _ rfl
  · exact itoa_not _ rfl
  · exact itoa_not _ rfl
theorem lines_text (r c h : Int) (l : List Ev) : linesOf (S (textL r c h l)) = (head0 r c h :: linesEv 0 l).map S :=
  lines_of r c h l (fun x hx => by
    rcases List.mem_cons.1 hx with rfl | hx
    · exact head_not _ _ _
    · exact lines_not _ _ x hx)
end Go.Proofs.YtiglllddgikeiabGreatDoor

namespace Go.Proofs.YtiglllddgikeiabGreatDoor
open Go.RowKit Go.Rep
set_option maxRecDepth 100000
/-! Numbers and bytes are read as they were. -/
theorem parse_snoc (a : List UInt8) (d : UInt8) (hd : 48 ≤ d.toNat ∧ d.toNat ≤ 57) : ∀ (acc v : Nat), Lib.parseUint10 acc a = .ok v → v * 10 + 9 < 18446744073709551616 → Lib.parseUint10 acc (a ++ [d]) = .ok (v * 10 + (d.toNat - 48)) := by
  induction a with
  | nil =>
    intro acc v h hv
    simp only [Lib.parseUint10, Lib.NumEnd.ok.injEq] at h
    subst h
    simp only [List.nil_append, Lib.parseUint10]
    rw [if_pos hd, if_neg (by omega), if_neg (by omega)]
  | cons c t ih =>
    intro acc v h hv
    simp only [List.cons_append, Lib.parseUint10] at h ⊢
    split at h
    · rename_i hc
      rw [if_pos hc]
      split at h
      · cases h
      · rename_i h2
        rw [if_neg h2]
        split at h
        · cases h
        · rename_i h3
          rw [if_neg h3]
          exact ih _ _ h hv
    · cases h
theorem parse_dec : ∀ (u : Nat), u ≤ 4611686018427387904 → Lib.parseUint10 0 (Lib.decDigits u) = .ok u := by
  intro u
  induction u using Nat.strongRecOn with
  | _ u ih =>
    intro hu
    rw [Lib.decDigits]
    have key : ∀ d, d < 10 → (48 ≤ (UInt8.ofNat (48 + d)).toNat ∧ (UInt8.ofNat (48 + d)).toNat ≤ 57) ∧ (UInt8.ofNat (48 + d)).toNat - 48 = d := by decide
    split
    · rename_i h
      have k := key u h
      have h0 : Lib.parseUint10 0 ([] : List UInt8) = .ok 0 := rfl
      have := parse_snoc [] (UInt8.ofNat (48 + u)) k.1 0 0 h0 (by omega)
      rw [List.nil_append] at this
      rw [this, k.2]
      simp
    · rename_i h
      have k := key (u % 10) (by omega)
      have := parse_snoc (Lib.decDigits (u / 10)) (UInt8.ofNat (48 + u % 10)) k.1 0 (u / 10) (ih _ (by omega) (by omega)) (by omega)
      rw [this, k.2]
      congr 1
      omega
theorem dec_ne (u : Nat) : Lib.decDigits u ≠ [] := by
  rw [Lib.decDigits]
  split <;> simp
theorem dec_head (u : Nat) {c : UInt8} {t : List UInt8} (h : Lib.decDigits u = c :: t) : ¬ c.toNat = 43 ∧ ¬ c.toNat = 45 := by
  have hd : ∀ (u : Nat), ∀ b ∈ Lib.decDigits u, 48 ≤ b.toNat := by
    intro u
    induction u using Nat.strongRecOn with
    | _ u ih =>
      intro b hb
      rw [Lib.decDigits] at hb
      have key : ∀ d, d < 10 → 48 ≤ (UInt8.ofNat (48 + d)).toNat := by decide
      split at hb
      · rename_i h
        rw [List.mem_singleton.1 hb]
        exact key _ h
      · rcases List.mem_append.1 hb with hb | hb
        · exact ih _ (by omega) b hb
        · rw [List.mem_singleton.1 hb]
          exact key _ (by omega)
  have := hd u c (by rw [h]; simp)
  omega
theorem atoiV_itoa (n : Int) (h0 : -4611686018427387904 ≤ n) (h1 : n ≤ 4611686018427387904) : atoiV (S (Lib.itoa n)) = n := by
  have key : Lib.atoiAll (Lib.itoa n) = .ok n := by
    by_cases hn : n < 0
    · obtain ⟨m, hm⟩ : ∃ m : Nat, n = -(m : Int) := ⟨n.natAbs, by omega⟩
      subst hm
      rw [Lib.itoa_neg m (by omega)]
      have hp : Lib.parseMag (Lib.decDigits m) = .ok m := by unfold Lib.parseMag; rw [if_neg (dec_ne m)]; exact parse_dec m (by omega)
      unfold Lib.atoiAll
      simp only [show (45 : UInt8).toNat = 45 from rfl, or_true, if_true, hp]
      rw [if_neg (by omega), if_neg (by omega)]
    · obtain ⟨m, hm⟩ : ∃ m : Nat, n = (m : Int) := ⟨n.toNat, by omega⟩
      subst hm
      rw [Lib.itoa_nonneg]
      have hp : Lib.parseMag (Lib.decDigits m) = .ok m := by unfold Lib.parseMag; rw [if_neg (dec_ne m)]; exact parse_dec m (by omega)
      cases hd : Lib.decDigits m with
      | nil => exact absurd hd (dec_ne m)
      | cons c t =>
        obtain ⟨h43, h45⟩ := dec_head m hd
        rw [hd] at hp
        unfold Lib.atoiAll
        simp only [h43, h45, or_self, if_false, hp]
        rw [if_neg (by omega), if_neg (by simp)]
  unfold atoiV
  rw [S_list, key]
theorem hexv_hexd : ∀ q, q < 16 → hexv (hexd q) = some q := by
  have key : (List.range 16).map (fun q => hexv (hexd q)) = (List.range 16).map some := by kernel_rfl
  intro q hq
  have h2 := congrArg (fun l => l[q]?) key
  simpa only [List.getElem?_map, List.getElem?_range hq, Option.map_some, Option.some.injEq] using h2
theorem unhex_hex (l : List UInt8) : unhexL (hexl l) = l := by
  induction l with
  | nil => rfl
  | cons c t ih =>
    have e1 : hexl (c :: t) = hexd (c.toNat / 16) :: hexd (c.toNat % 16) :: hexl t := by simp [hexl, hex2]
    have hc := c.toNat_lt
    have e2 : pu2 (hexd (c.toNat / 16)) (hexd (c.toNat % 16)) = c.toNat := by
      unfold pu2
      rw [hexv_hexd _ (by omega), hexv_hexd _ (by omega)]
      simp only
      omega
    rw [e1]
    unfold unhexL
    rw [ih, e2]
    simp
theorem op_back {o : TOp} (h : okOp o = true) (w0 : ByteArray) : opOf (w0 :: (opWords o).map S) = o := by
  obtain ⟨k, s, r, c, n⟩ := o
  rcases okOp_cases h with ⟨rfl, h1, h2, rfl, rfl, rfl⟩ | ⟨rfl, rfl, h1, h2, h3, h4, rfl⟩ | ⟨rfl, rfl, rfl, rfl, h1, h2, h3⟩
  · have e : opWords ⟨1, s, 0, 0, 0⟩ = [[119, 114, 105, 116, 101], hexl s.data.toList] := rfl
    rw [e]
    unfold opOf
    rw [if_pos (by rfl)]
    have e2 : wd (w0 :: [[119, 114, 105, 116, 101], hexl s.data.toList].map S) 2 = S (hexl s.data.toList) := rfl
    rw [e2, S_list, unhex_hex, S_of]
  · have e : opWords ⟨2, S [], r, c, 0⟩ = [[114, 101, 115, 105, 122, 101], Lib.itoa r, Lib.itoa c] := rfl
    rw [e]
    unfold opOf
    rw [if_neg (by intro h; have h := S_inj (show S [114, 101, 115, 105, 122, 101] = S [119, 114, 105, 116, 101] from h); revert h; decide), if_pos (by rfl)]
    have e2 : nthV (w0 :: [[114, 101, 115, 105, 122, 101], Lib.itoa r, Lib.itoa c].map S) 2 = atoiV (S (Lib.itoa r)) := rfl
    have e3 : nthV (w0 :: [[114, 101, 115, 105, 122, 101], Lib.itoa r, Lib.itoa c].map S) 3 = atoiV (S (Lib.itoa c)) := rfl
    dsimp only at h1 h2 h3 h4
    rw [e2, e3, atoiV_itoa _ (by omega) (by omega), atoiV_itoa _ (by omega) (by omega)]
  · have e : opWords ⟨3, S [], 0, 0, n⟩ = [[115, 99, 114, 111, 108, 108], Lib.itoa n] := rfl
    rw [e]
    unfold opOf
    rw [if_neg (by intro h; have h := S_inj (show S [115, 99, 114, 111, 108, 108] = S [119, 114, 105, 116, 101] from h); revert h; decide), if_neg (by intro h; have h := S_inj (show S [115, 99, 114, 111, 108, 108] = S [114, 101, 115, 105, 122, 101] from h); revert h; decide), if_pos (by rfl)]
    have e2 : nthV (w0 :: [[115, 99, 114, 111, 108, 108], Lib.itoa n].map S) 2 = atoiV (S (Lib.itoa n)) := rfl
    dsimp only at h1 h2 h3
    rw [e2, atoiV_itoa _ (by omega) (by omega)]
theorem evs_back : ∀ (l : List Ev) (last : Int), evsB last l = true → 0 ≤ last → last ≤ 1099511627776 → pEvs last ((linesEv last l).map fun x => words (S x)) = l ∧ ∀ ws ∈ (linesEv last l).map (fun x => words (S x)), 3 ≤ ws.length ∧ ws.length ≤ 4 := by
  intro l
  induction l with
  | nil => intro last _ _ _; exact ⟨rfl, by simp [linesEv]⟩
  | cons e t ih =>
    intro last h h0 h1
    simp only [evsB, Bool.and_eq_true, decide_eq_true_eq] at h
    obtain ⟨⟨⟨a, b⟩, c⟩, d⟩ := h
    obtain ⟨i1, i2⟩ := ih e.at' d (by omega) b
    have hw : words (S (lineOf last e)) = S (Lib.itoa (e.at' - last)) :: (opWords e.o).map S := line_words last e
    have hn0 : nthV (S (Lib.itoa (e.at' - last)) :: (opWords e.o).map S) 0 = e.at' - last := by
      show atoiV (S (Lib.itoa (e.at' - last))) = _
      exact atoiV_itoa _ (by omega) (by omega)
    have hl : lastNext last (S (Lib.itoa (e.at' - last)) :: (opWords e.o).map S) = e.at' := by
      unfold lastNext
      rw [hn0, Int.min_eq_left (by omega), IntWalk.wrap64_in _ (by omega)]
      omega
    constructor
    · simp only [linesEv, List.map_cons, pEvs]
      rw [hw, hl, op_back c, i1]
    · intro ws hws
      simp only [linesEv, List.map_cons, List.mem_cons] at hws
      rcases hws with rfl | hws
      · rw [hw]
        unfold opWords
        split
        · simp
        · split <;> simp
      · exact i2 ws hws
/-- THE ROUND TRIP. -/
theorem parsed_text {r c h : Int} {l : List Ev} (hv : validB r c h l = true) : parsed (S (textL r c h l)) = some (r, c, h, l) := by
  obtain ⟨a1, a2, a3, a4, a5, a6, a7, hev⟩ := valid_parts hv
  obtain ⟨b1, b2⟩ := evs_back l 0 hev (Int.le_refl _) (by omega)
  have hlen : (linesEv 0 l).length = l.length := by
    have : ∀ (l : List Ev) (last : Int), (linesEv last l).length = l.length := by
      intro l
      induction l with
      | nil => intro _; rfl
      | cons e t ih => intro last; simp [linesEv, ih]
    exact this l 0
  unfold parsed
  rw [lines_text]
  have hm : ((head0 r c h :: linesEv 0 l).map S).map words = [S [116, 101, 114, 109, 105, 110, 97, 108], S (Lib.itoa r), S (Lib.itoa c), S (Lib.itoa h)] :: (linesEv 0 l).map (fun x => words (S x)) := by
    simp only [List.map_cons, List.map_map]
    rw [head_words]
    rfl
  rw [hm]
  simp only
  rw [if_pos]
  · have e1 : nthV [S [116, 101, 114, 109, 105, 110, 97, 108], S (Lib.itoa r), S (Lib.itoa c), S (Lib.itoa h)] 1 = atoiV (S (Lib.itoa r)) := rfl
    have e2 : nthV [S [116, 101, 114, 109, 105, 110, 97, 108], S (Lib.itoa r), S (Lib.itoa c), S (Lib.itoa h)] 2 = atoiV (S (Lib.itoa c)) := rfl
    have e3 : nthV [S [116, 101, 114, 109, 105, 110, 97, 108], S (Lib.itoa r), S (Lib.itoa c), S (Lib.itoa h)] 3 = atoiV (S (Lib.itoa h)) := rfl
    rw [e1, e2, e3, atoiV_itoa _ (by omega) (by omega), atoiV_itoa _ (by omega) (by omega), atoiV_itoa _ (by omega) (by omega), b1]
  · refine ⟨by rw [List.length_map, hlen]; exact a7, ?_⟩
    intro ws hws
    rcases List.mem_cons.1 hws with rfl | hws
    · exact ⟨by simp, by simp⟩
    · exact b2 ws hws
end Go.Proofs.YtiglllddgikeiabGreatDoor
