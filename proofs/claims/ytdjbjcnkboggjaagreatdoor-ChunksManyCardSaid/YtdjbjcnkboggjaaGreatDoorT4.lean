/- A part of the proof of ChunksMany. -/
import Derived.Test.YtdjbjcnkboggjaaGreatDoorT3
import Derived.Test.YtdjbjcnkboggjaaGreatDoorT2
import Derived.Test.YtdjbjcnkboggjaaGreatDoorCKnown
import Derived.Test.YtdjbjcnkboggjaaGreatDoorAbsF
import Derived.Deep.RegionHeld3
import Derived.Deep.Light
namespace Go.Proofs.YtdjbjcnkboggjaaGreatDoor
open Go.RowKit Go.Rep
set_option maxRecDepth 100000
open Go.Abs (SnapAt AVal concs)
theorem Zl.more {w : World} {B B' n : Nat} {A : Option Addr} (h : Zl w B A n) (hb : B ≤ B') : Zl w B' A n := by
  obtain ⟨vs, h1, h2⟩ := h
  refine ⟨vs, h1.more hb, fun i hi => ?_⟩
  obtain ⟨A', m', c', h3, h4, h5⟩ := h2 i hi
  exact ⟨A', m', c', h3, h4, h5.more hb⟩
theorem zl_one {w : World} {A : Option Addr} {m c : Nat} {t : TypeId} (hm : m ≤ 5000) (hr : Reads w w.heap.size 1 A m (bcells (List.replicate m 0))) : Zl (w.alloc (.cells #[.slice A m c] t)) (w.alloc (.cells #[.slice A m c] t)).heap.size (some ⟨w.heap.size, 0, none⟩) 1 := by
  have hs := alloc_size w (.cells #[.slice A m c] t)
  refine ⟨[.slice A m c], ⟨rfl, fun _ => ⟨_, rfl, by show w.heap.size < _; omega, fun j u hu => ?_⟩⟩, fun i hi => ?_⟩
  · match j, hu with
    | 0, hu => cases hu; exact (Blk.new w t _).cell 0
    | n + 1, hu => simp at hu
  · obtain rfl : i = 0 := by omega
    exact ⟨A, m, c, rfl, hm, (hr.alloc (Nat.le_refl _) _).more (by omega)⟩
theorem zl_cut {w : World} {A : Option Addr} {m c base : Nat} {vs : List Value} (h : w.ownsRow base 22 1 (.slice A m c) m vs) (hx : ∀ i, i < m → ∃ u : Value, vs[i]? = some u ∧ w.ownsRow base 5 1 u 1 (bcells [0])) : Zl w w.heap.size A m := by
  obtain ⟨A', c', he, _, _, hr⟩ := own_slice h
  injection he with h1 h2 h3
  subst h1
  refine ⟨vs, hr, fun i hi => ?_⟩
  obtain ⟨u, hu, ho⟩ := hx i hi
  obtain ⟨A2, c2, rfl, _, _, hr2⟩ := own_slice ho
  exact ⟨A2, 1, c2, hu, by omega, hr2⟩
section
variable {m c cc : Nat} {A Ac : Option Addr} {w : World}
def SameP (w : World) (e : Ending) (w' : World) : Prop := e = .returned (.tuple #[.bool true, .int .i64 0]) ∧ Below w.heap.size w w'
set_option maxHeartbeats 4000000 in
theorem same_zeros (hw : Tryz.prog.globals.size ≤ w.heap.size) (hcp : m ≤ c) (h0 : 0 < m) (hm : m ≤ 4096) (hr : Reads w w.heap.size 1 A m (bcells (List.replicate m 0))) (hc : Reads w w.heap.size 1 Ac 1 (bcells [1])) : Calls Tryz.prog 19 #[.agg #[.int .i64 1, .int .i64 1, .int .i64 0], .slice A m c, .slice Ac 1 cc] w (SameP w) := by
  go_enter Tryz.func19, Tryz.ntmps19
  go_wp2_with (first
    | (go_at_call 6; refine (zeros_ok (B := w.heap.size) hcp h0 hm (by simp only [alloc_size]; omega) (hr.alloc (Nat.le_refl _) _) (hc.alloc (Nat.le_refl _) _)).mono ?_; rintro e w2 ⟨A2, c2, vs2, rfl, hown2, hx2, hb2⟩; have hbw2 := ((Below.refl w.heap.size w).alloc (Nat.le_refl _) (.cells #[.int .i64 1, .int .i64 1, .int .i64 0] 33)).trans (hb2.mono (by simp only [alloc_size]; omega)); have bC := (Blk.new w 33 #[.int .i64 1, .int .i64 1, .int .i64 0]).below hb2 (by simp only [alloc_size]; omega); have hz2 := zl_cut hown2 hx2; have hs2 : w.heap.size + 1 ≤ w2.heap.size := (by have := hb2.size; rw [alloc_size] at this; exact this); have d0 : w2.cell? ⟨w.heap.size, 0, none⟩ = some (.int .i64 1) := bC.cell 0; have d1 : w2.cell? ⟨w.heap.size, 1, none⟩ = some (.int .i64 1) := bC.cell 1; have d2 : w2.cell? ⟨w.heap.size, 2, none⟩ = some (.int .i64 0) := bC.cell 2; have hr2 := (hr.below hbw2).more (show w.heap.size ≤ w2.heap.size by omega))
    | (go_at_call 15; have q4 := hz4; refine (run_zeros (by omega) q4 hm).mono ?_; rintro e w5 ⟨A5, c5, rfl, hsn5, hb5⟩; have hs5 := hb5.size)
    | (go_at_call 15; refine (run_zeros (by simp only [alloc_size]; omega) (zl_one (by omega) hr2) (by decide)).mono ?_; rintro e w3 ⟨A3, c3, rfl, hsn3, hb3⟩; have hs3 : w2.heap.size + 1 ≤ w3.heap.size := (by have := hb3.size; rw [alloc_size] at this; exact this))
    | ((with_reducible refine wpList_store_blk rfl 48 (.tmp 10) (.tmp 28) rfl _ #[.slice none 0 0, .int .i64 0, .int .i64 0, .int .i64 0, .int .i64 0, .int .i64 0, .int .i64 0, .bool false, .bool false, .bool false, .bool false, .bool false, .bool false, .bool false, .bool false, .int .i64 0, .int .i64 0, .int .i64 0, .int .u8 0, .int .u8 0, .int .u8 0, .int .u8 0, .int .i64 0, .int .u8 0, .int .u8 0, .int .u8 0, .int .u8 0, .int .u8 0, .string ⟨#[]⟩] #[.slice A3 1 c3, .int .i64 1, .int .i64 0, .int .i64 0, .int .i64 0, .int .i64 0, .int .i64 0, .bool false, .bool true, .bool false, .bool false, .bool true, .bool false, .bool false, .bool false, .int .i64 0, .int .i64 0, .int .i64 0, .int .u8 0, .int .u8 0, .int .u8 0, .int .u8 0, .int .i64 0, .int .u8 0, .int .u8 0, .int .u8 0, .int .u8 0, .int .u8 0, .string ⟨#[]⟩] rfl rfl (Blk.new _ 48 _) (by kernel_rfl) rfl (by kernel_rfl) ?_); intro w4 hw4st; have hs4 : w4.heap.size = w3.heap.size + 1 := (by have := hw4st.size; rw [alloc_size] at this; exact this); have hb34 : Below w3.heap.size w3 w4 := ((Below.refl _ _).alloc (Nat.le_refl _) _).trans hw4st.below; have hb24 : Below w2.heap.size w2 w4 := (((Below.refl _ _).alloc (Nat.le_refl _) _).trans (hb3.mono (by simp only [alloc_size]; omega))).trans (hb34.mono (by omega)); have bC4 := bC.below hb24 (by omega); have e0 : w4.cell? ⟨w.heap.size, 0, none⟩ = some (.int .i64 1) := bC4.cell 0; have e1 : w4.cell? ⟨w.heap.size, 1, none⟩ = some (.int .i64 1) := bC4.cell 1; have e2 : w4.cell? ⟨w.heap.size, 2, none⟩ = some (.int .i64 0) := bC4.cell 2; have hz4 := (hz2.below hb24).more (show w2.heap.size ≤ w4.heap.size by omega); have hsn4 := (hsn3.stay (w' := w4) (fun k hk _ => hb34.block k hk.2)).wide (S' := fun k => w.heap.size ≤ k ∧ k < w3.heap.size) (fun k hk _ => ⟨by have := hk.1; rw [alloc_size] at this; omega, hk.2⟩))
    | ((with_reducible refine wpList_store_blk rfl 48 (.tmp 12) (.tmp 38) rfl _ #[.slice none 0 0, .int .i64 0, .int .i64 0, .int .i64 0, .int .i64 0, .int .i64 0, .int .i64 0, .bool false, .bool false, .bool false, .bool false, .bool false, .bool false, .bool false, .bool false, .int .i64 0, .int .i64 0, .int .i64 0, .int .u8 0, .int .u8 0, .int .u8 0, .int .u8 0, .int .i64 0, .int .u8 0, .int .u8 0, .int .u8 0, .int .u8 0, .int .u8 0, .string ⟨#[]⟩] #[.slice A5 1 c5, .int .i64 1, .int .i64 0, .int .i64 0, .int .i64 0, .int .i64 0, .int .i64 0, .bool false, .bool true, .bool false, .bool false, .bool true, .bool false, .bool false, .bool false, .int .i64 0, .int .i64 0, .int .i64 0, .int .u8 0, .int .u8 0, .int .u8 0, .int .u8 0, .int .i64 0, .int .u8 0, .int .u8 0, .int .u8 0, .int .u8 0, .int .u8 0, .string ⟨#[]⟩] rfl rfl (Blk.new _ 48 _) (by kernel_rfl) rfl (by kernel_rfl) ?_); intro w6 hw6st; have hs6 : w6.heap.size = w5.heap.size + 1 := (by have := hw6st.size; rw [alloc_size] at this; exact this); have hb56 : Below w5.heap.size w5 w6 := ((Below.refl _ _).alloc (Nat.le_refl _) _).trans hw6st.below; have hb46 := hb5.trans (hb56.mono hs5); have hX := hsn4.stay (w' := w6) (fun k hk _ => hb46.block k (by omega)); have hY := hsn5.stay (w' := w6) (fun k hk _ => hb56.block k hk.2); have b10 := (hw4st.blk).below hb46 (by omega); have b12 := hw6st.blk)
    | (refine wpList_load_blk 48 (.tmp 10) rfl (by rfl) _ rfl #[.slice A3 1 c3, .int .i64 1, .int .i64 0, .int .i64 0, .int .i64 0, .int .i64 0, .int .i64 0, .bool false, .bool true, .bool false, .bool false, .bool true, .bool false, .bool false, .bool false, .int .i64 0, .int .i64 0, .int .i64 0, .int .u8 0, .int .u8 0, .int .u8 0, .int .u8 0, .int .i64 0, .int .u8 0, .int .u8 0, .int .u8 0, .int .u8 0, .int .u8 0, .string ⟨#[]⟩] _ b10 Tryz.underlying48 rfl (by kernel_rfl) ?_)
    | (refine wpList_load_blk 48 (.tmp 12) rfl (by rfl) _ rfl #[.slice A5 1 c5, .int .i64 1, .int .i64 0, .int .i64 0, .int .i64 0, .int .i64 0, .int .i64 0, .bool false, .bool true, .bool false, .bool false, .bool true, .bool false, .bool false, .bool false, .int .i64 0, .int .i64 0, .int .i64 0, .int .u8 0, .int .u8 0, .int .u8 0, .int .u8 0, .int .i64 0, .int .u8 0, .int .u8 0, .int .u8 0, .int .u8 0, .int .u8 0, .string ⟨#[]⟩] _ b12 Tryz.underlying48 rfl (by kernel_rfl) ?_)
    | (go_at_call 29; refine (eq_any (by omega) (fun k hk => by have := hk.1; omega) (fun k hk => by have := hk.1; omega) (fun k h1 h2 => by have := h1.2; have := h2.1; omega) hX hY).mono ?_; rintro e w7 ⟨rfl, hb7⟩; have hbw6 := (hbw2.trans (hb24.mono (by omega))).trans (hb46.mono (by omega)); have hbw7 := hbw6.trans (hb7.mono hbw6.size)))
  go_ret2
  exact ⟨rfl, hbw7⟩
end
end Go.Proofs.YtdjbjcnkboggjaaGreatDoor

namespace Go.Proofs.YtdjbjcnkboggjaaGreatDoor
open Go.RowKit Go.Rep
set_option maxRecDepth 100000
open Go.Abs (SnapAt AVal concs)
theorem reqz_run : (Go.Abs.fcall Tryz.prog okMask 60 20 [.agg [.slice none 0 (.exact 0), .int .i64 (.ofNat 0), .int .i64 (.ofNat 0), .int .i64 (.ofNat 0), .int .i64 (.ofNat 0), .int .i64 (.ofNat 0), .int .i64 (.ofNat 0), .bool false, .bool false, .bool false, .bool false, .bool false, .bool false, .bool false, .bool false, .int .i64 (.ofNat 0), .int .i64 (.ofNat 0), .int .i64 (.ofNat 0), .int .u8 (.ofNat 0), .int .u8 (.ofNat 0), .int .u8 (.ofNat 0), .int .u8 (.ofNat 0), .int .i64 (.ofNat 0), .int .u8 (.ofNat 0), .int .u8 (.ofNat 0), .int .u8 (.ofNat 0), .int .u8 (.ofNat 0), .int .u8 (.ofNat 0), .str []], .agg [.slice none 0 (.exact 0), .int .i64 (.ofNat 0), .int .i64 (.ofNat 0), .int .i64 (.ofNat 0), .int .i64 (.ofNat 0), .int .i64 (.ofNat 0), .int .i64 (.ofNat 0), .bool false, .bool false, .bool false, .bool false, .bool false, .bool false, .bool false, .bool false, .int .i64 (.ofNat 0), .int .i64 (.ofNat 0), .int .i64 (.ofNat 0), .int .u8 (.ofNat 0), .int .u8 (.ofNat 0), .int .u8 (.ofNat 0), .int .u8 (.ofNat 0), .int .i64 (.ofNat 0), .int .u8 (.ofNat 0), .int .u8 (.ofNat 0), .int .u8 (.ofNat 0), .int .u8 (.ofNat 0), .int .u8 (.ofNat 0), .str []]] (Go.Abs.start 15 [])).val = some (.bool true) := by kernel_rfl
theorem reqz_any (w : World) (hw : Tryz.prog.globals.size ≤ w.heap.size) : Calls Tryz.prog 20 #[.agg #[.slice none 0 0, .int .i64 0, .int .i64 0, .int .i64 0, .int .i64 0, .int .i64 0, .int .i64 0, .bool false, .bool false, .bool false, .bool false, .bool false, .bool false, .bool false, .bool false, .int .i64 0, .int .i64 0, .int .i64 0, .int .u8 0, .int .u8 0, .int .u8 0, .int .u8 0, .int .i64 0, .int .u8 0, .int .u8 0, .int .u8 0, .int .u8 0, .int .u8 0, .string ⟨#[]⟩], .agg #[.slice none 0 0, .int .i64 0, .int .i64 0, .int .i64 0, .int .i64 0, .int .i64 0, .int .i64 0, .bool false, .bool false, .bool false, .bool false, .bool false, .bool false, .bool false, .bool false, .int .i64 0, .int .i64 0, .int .i64 0, .int .u8 0, .int .u8 0, .int .u8 0, .int .u8 0, .int .i64 0, .int .u8 0, .int .u8 0, .int .u8 0, .int .u8 0, .int .u8 0, .string ⟨#[]⟩]] w fun e w' => e = .returned (.bool true) ∧ Below w.heap.size w w' := by
  have hk := reqz_run
  rw [← gsize] at hk
  refine (Go.Abs.calls_fast (P := Tryz.prog) (args := [.agg [.slice none 0 (.exact 0), .int .i64 (.ofNat 0), .int .i64 (.ofNat 0), .int .i64 (.ofNat 0), .int .i64 (.ofNat 0), .int .i64 (.ofNat 0), .int .i64 (.ofNat 0), .bool false, .bool false, .bool false, .bool false, .bool false, .bool false, .bool false, .bool false, .int .i64 (.ofNat 0), .int .i64 (.ofNat 0), .int .i64 (.ofNat 0), .int .u8 (.ofNat 0), .int .u8 (.ofNat 0), .int .u8 (.ofNat 0), .int .u8 (.ofNat 0), .int .i64 (.ofNat 0), .int .u8 (.ofNat 0), .int .u8 (.ofNat 0), .int .u8 (.ofNat 0), .int .u8 (.ofNat 0), .int .u8 (.ofNat 0), .str []], .agg [.slice none 0 (.exact 0), .int .i64 (.ofNat 0), .int .i64 (.ofNat 0), .int .i64 (.ofNat 0), .int .i64 (.ofNat 0), .int .i64 (.ofNat 0), .int .i64 (.ofNat 0), .bool false, .bool false, .bool false, .bool false, .bool false, .bool false, .bool false, .bool false, .int .i64 (.ofNat 0), .int .i64 (.ofNat 0), .int .i64 (.ofNat 0), .int .u8 (.ofNat 0), .int .u8 (.ofNat 0), .int .u8 (.ofNat 0), .int .u8 (.ofNat 0), .int .i64 (.ofNat 0), .int .u8 (.ofNat 0), .int .u8 (.ofNat 0), .int .u8 (.ofNat 0), .int .u8 (.ofNat 0), .int .u8 (.ofNat 0), .str []]]) Tryz.checked.mixed (good_of good) Tryz.func20 rfl hw (fun t ht => by cases ht) ⟨⟨⟨⟨_, rfl⟩, trivial, trivial, trivial, trivial, trivial, trivial, trivial, trivial, trivial, trivial, trivial, trivial, trivial, trivial, trivial, trivial, trivial, trivial, trivial, trivial, trivial, trivial, trivial, trivial, trivial, trivial, trivial, trivial, trivial⟩, rfl⟩, ⟨⟨⟨_, rfl⟩, trivial, trivial, trivial, trivial, trivial, trivial, trivial, trivial, trivial, trivial, trivial, trivial, trivial, trivial, trivial, trivial, trivial, trivial, trivial, trivial, trivial, trivial, trivial, trivial, trivial, trivial, trivial, trivial, trivial⟩, rfl⟩, trivial⟩ hk).mono fun e w' he => ?_
  obtain ⟨σ', h5, _, h6⟩ := he
  exact ⟨h5, h6⟩
section
variable {m n c cc : Nat} {A Ac A1 : Option Addr} {w : World}
theorem same_long (hcp : m ≤ c) (hm : m ≤ 1000000) (h : 4096 < m) (hr : Reads w w.heap.size 1 A m (bcells (List.replicate m 0))) (hc : Reads w w.heap.size 1 Ac 1 (bcells [1])) :
    Calls Tryz.prog 19 #[.agg #[.int .i64 1, .int .i64 1, .int .i64 0], .slice A m c, .slice Ac 1 cc] w fun e w' => e = .returned (.tuple #[.bool false, .int .i64 5]) ∧ Below w.heap.size w w' := by
  go_enter Tryz.func19, Tryz.ntmps19
  go_wp2_with (go_at_call 6; refine (zeros_long (B := w.heap.size) hcp hm h (by simp only [alloc_size]; omega) (hr.alloc (Nat.le_refl _) _) (hc.alloc (Nat.le_refl _) _)).mono ?_; rintro e w2 ⟨rfl, hb2⟩; have hbw2 := ((Below.refl w.heap.size w).alloc (Nat.le_refl _) (.cells #[.int .i64 1, .int .i64 1, .int .i64 0] 33)).trans (hb2.mono (by simp only [alloc_size]; omega)))
  go_ret2
  exact ⟨rfl, hbw2⟩
theorem lsame_zeros (hw : Tryz.prog.globals.size ≤ w.heap.size) (hcp : m ≤ c) (h0 : 0 < m) (hm : m ≤ 4096) (hr : Reads w w.heap.size 1 A m (bcells (List.replicate m 0))) (hc : Reads w w.heap.size 1 Ac 1 (bcells [1])) :
    Calls Tryz.prog 10 #[.agg #[.int .i64 1, .int .i64 1, .int .i64 0], .slice A m c, .slice Ac 1 cc, .bool true, .int .i64 0] w fun e w' => e = .returned (.bool true) ∧ Below w.heap.size w w' := by
  go_enter Tryz.func10, Tryz.ntmps10
  go_wp2_with (go_at_call 19; refine (same_zeros (by simp only [alloc_size]; omega) hcp h0 hm ((hr.alloc (Nat.le_refl _) _).more (by simp only [alloc_size]; omega)) ((hc.alloc (Nat.le_refl _) _).more (by simp only [alloc_size]; omega))).mono ?_; rintro e w2 ⟨rfl, hb2⟩; have hbw2 := ((Below.refl w.heap.size w).alloc (Nat.le_refl _) (.cells #[.int .i64 1, .int .i64 1, .int .i64 0] 33)).trans (hb2.mono (by simp only [alloc_size]; omega)))
  go_ret
  exact ⟨rfl, hbw2⟩
theorem lsame_long (hcp : m ≤ c) (hm : m ≤ 1000000) (h : 4096 < m) (hr : Reads w w.heap.size 1 A m (bcells (List.replicate m 0))) (hc : Reads w w.heap.size 1 Ac 1 (bcells [1])) :
    Calls Tryz.prog 10 #[.agg #[.int .i64 1, .int .i64 1, .int .i64 0], .slice A m c, .slice Ac 1 cc, .bool false, .int .i64 5] w fun e w' => e = .returned (.bool true) ∧ Below w.heap.size w w' := by
  go_enter Tryz.func10, Tryz.ntmps10
  go_wp2_with (go_at_call 19; refine (same_long hcp hm h ((hr.alloc (Nat.le_refl _) _).more (by simp only [alloc_size]; omega)) ((hc.alloc (Nat.le_refl _) _).more (by simp only [alloc_size]; omega))).mono ?_; rintro e w2 ⟨rfl, hb2⟩; have hbw2 := ((Below.refl w.heap.size w).alloc (Nat.le_refl _) (.cells #[.int .i64 1, .int .i64 1, .int .i64 0] 33)).trans (hb2.mono (by simp only [alloc_size]; omega)))
  go_ret
  exact ⟨rfl, hbw2⟩
theorem blk_two (w : World) (o : Obj) (t : TypeId) (cs : Array Value) : Blk ((w.alloc o).alloc (.cells cs t)) (w.heap.size + 1) t cs := by
  have := Blk.new (w.alloc o) t cs
  rw [alloc_size] at this
  exact this
set_option maxHeartbeats 2000000 in
theorem run_long (h : 4096 < n) : Calls Tryz.prog 15 #[.agg #[.int .i64 1, .int .i64 1, .int .i64 0], .slice A n c] w fun e w' => e = .returned (.tuple #[.agg #[.slice none 0 0, .int .i64 0, .int .i64 0, .int .i64 0, .int .i64 0, .int .i64 0, .int .i64 0, .bool false, .bool false, .bool false, .bool false, .bool false, .bool false, .bool false, .bool false, .int .i64 0, .int .i64 0, .int .i64 0, .int .u8 0, .int .u8 0, .int .u8 0, .int .u8 0, .int .i64 0, .int .u8 0, .int .u8 0, .int .u8 0, .int .u8 0, .int .u8 0, .string ⟨#[]⟩], .string ⟨#[]⟩, .int .i64 5]) ∧ Below w.heap.size w w' := by
  have hn' : (4096 : Int) < (n : Int) := by omega
  go_enter Tryz.func15, Tryz.ntmps15
  go_wp2_with ((with_reducible refine wpList_store_blk rfl 48 (.tmp 4) (.tmp 15) rfl (w.heap.size + 1) #[.slice none 0 0, .int .i64 0, .int .i64 0, .int .i64 0, .int .i64 0, .int .i64 0, .int .i64 0, .bool false, .bool false, .bool false, .bool false, .bool false, .bool false, .bool false, .bool false, .int .i64 0, .int .i64 0, .int .i64 0, .int .u8 0, .int .u8 0, .int .u8 0, .int .u8 0, .int .i64 0, .int .u8 0, .int .u8 0, .int .u8 0, .int .u8 0, .int .u8 0, .string ⟨#[]⟩] #[.slice none 0 0, .int .i64 0, .int .i64 0, .int .i64 0, .int .i64 0, .int .i64 0, .int .i64 0, .bool false, .bool false, .bool false, .bool false, .bool false, .bool false, .bool false, .bool false, .int .i64 0, .int .i64 0, .int .i64 0, .int .u8 0, .int .u8 0, .int .u8 0, .int .u8 0, .int .i64 0, .int .u8 0, .int .u8 0, .int .u8 0, .int .u8 0, .int .u8 0, .string ⟨#[]⟩] rfl rfl (blk_two w _ 48 _) (by kernel_rfl) rfl (by kernel_rfl) ?_); intro w4 hst)
  have hb := (((Below.refl w.heap.size w).alloc (Nat.le_refl _) (.cells #[.int .i64 1, .int .i64 1, .int .i64 0] 33)).alloc (by simp only [alloc_size]; omega) (.cells #[.slice none 0 0, .int .i64 0, .int .i64 0, .int .i64 0, .int .i64 0, .int .i64 0, .int .i64 0, .bool false, .bool false, .bool false, .bool false, .bool false, .bool false, .bool false, .bool false, .int .i64 0, .int .i64 0, .int .i64 0, .int .u8 0, .int .u8 0, .int .u8 0, .int .u8 0, .int .i64 0, .int .u8 0, .int .u8 0, .int .u8 0, .int .u8 0, .int .u8 0, .string ⟨#[]⟩] 48)).trans (hst.below.mono (by omega))
  refine bodyPost_ret (res_snap rfl hst.blk rfl rfl rfl rfl) rfl ?_
  exact ⟨rfl, hb⟩
set_option maxHeartbeats 2000000 in
theorem lruns_long (hw : Tryz.prog.globals.size ≤ w.heap.size) (h : 4096 < n) : Calls Tryz.prog 11 #[.agg #[.int .i64 1, .int .i64 1, .int .i64 0], .slice A n c, .agg #[.slice none 0 0, .int .i64 0, .int .i64 0, .int .i64 0, .int .i64 0, .int .i64 0, .int .i64 0, .bool false, .bool false, .bool false, .bool false, .bool false, .bool false, .bool false, .bool false, .int .i64 0, .int .i64 0, .int .i64 0, .int .u8 0, .int .u8 0, .int .u8 0, .int .u8 0, .int .i64 0, .int .u8 0, .int .u8 0, .int .u8 0, .int .u8 0, .int .u8 0, .string ⟨#[]⟩], .string ⟨#[]⟩, .int .i64 5] w fun e w' => e = .returned (.bool true) ∧ Below w.heap.size w w' := by
  have bW := blk_two w (.cells #[.int .i64 1, .int .i64 1, .int .i64 0] 33) 48 #[.slice none 0 0, .int .i64 0, .int .i64 0, .int .i64 0, .int .i64 0, .int .i64 0, .int .i64 0, .bool false, .bool false, .bool false, .bool false, .bool false, .bool false, .bool false, .bool false, .int .i64 0, .int .i64 0, .int .i64 0, .int .u8 0, .int .u8 0, .int .u8 0, .int .u8 0, .int .i64 0, .int .u8 0, .int .u8 0, .int .u8 0, .int .u8 0, .int .u8 0, .string ⟨#[]⟩]
  have hb0 := ((Below.refl w.heap.size w).alloc (Nat.le_refl _) (.cells #[.int .i64 1, .int .i64 1, .int .i64 0] 33)).alloc (by simp only [alloc_size]; omega) (.cells #[.slice none 0 0, .int .i64 0, .int .i64 0, .int .i64 0, .int .i64 0, .int .i64 0, .int .i64 0, .bool false, .bool false, .bool false, .bool false, .bool false, .bool false, .bool false, .bool false, .int .i64 0, .int .i64 0, .int .i64 0, .int .u8 0, .int .u8 0, .int .u8 0, .int .u8 0, .int .i64 0, .int .u8 0, .int .u8 0, .int .u8 0, .int .u8 0, .int .u8 0, .string ⟨#[]⟩] 48)
  go_enter Tryz.func11, Tryz.ntmps11
  go_wp2_with (first
    | (go_at_call 15; refine (run_long h).mono ?_; rintro e w2 ⟨rfl, hb2⟩; have hs2 : w.heap.size + 1 + 1 ≤ w2.heap.size := (by have := hb2.size; rw [alloc_size, alloc_size] at this; exact this); have hbw2 := hb0.trans (hb2.mono (by simp only [alloc_size]; omega)); have bW2 := bW.below hb2 (by simp only [alloc_size]; omega))
    | ((with_reducible refine wpList_store_blk rfl 48 (.tmp 11) (.tmp 18) rfl _ #[.slice none 0 0, .int .i64 0, .int .i64 0, .int .i64 0, .int .i64 0, .int .i64 0, .int .i64 0, .bool false, .bool false, .bool false, .bool false, .bool false, .bool false, .bool false, .bool false, .int .i64 0, .int .i64 0, .int .i64 0, .int .u8 0, .int .u8 0, .int .u8 0, .int .u8 0, .int .i64 0, .int .u8 0, .int .u8 0, .int .u8 0, .int .u8 0, .int .u8 0, .string ⟨#[]⟩] #[.slice none 0 0, .int .i64 0, .int .i64 0, .int .i64 0, .int .i64 0, .int .i64 0, .int .i64 0, .bool false, .bool false, .bool false, .bool false, .bool false, .bool false, .bool false, .bool false, .int .i64 0, .int .i64 0, .int .i64 0, .int .u8 0, .int .u8 0, .int .u8 0, .int .u8 0, .int .i64 0, .int .u8 0, .int .u8 0, .int .u8 0, .int .u8 0, .int .u8 0, .string ⟨#[]⟩] rfl rfl (Blk.new _ 48 _) (by kernel_rfl) rfl (by kernel_rfl) ?_); intro w3 hw3st; have hs3 : w3.heap.size = w2.heap.size + 1 := (by have := hw3st.size; rw [alloc_size] at this; exact this); have hb23 : Below w2.heap.size w2 w3 := ((Below.refl _ _).alloc (Nat.le_refl _) _).trans hw3st.below; have bW3 := bW2.below hb23 (by omega); have b11 := hw3st.blk)
    | (refine wpList_load_blk 48 (.tmp 11) rfl (by rfl) _ rfl #[.slice none 0 0, .int .i64 0, .int .i64 0, .int .i64 0, .int .i64 0, .int .i64 0, .int .i64 0, .bool false, .bool false, .bool false, .bool false, .bool false, .bool false, .bool false, .bool false, .int .i64 0, .int .i64 0, .int .i64 0, .int .u8 0, .int .u8 0, .int .u8 0, .int .u8 0, .int .i64 0, .int .u8 0, .int .u8 0, .int .u8 0, .int .u8 0, .int .u8 0, .string ⟨#[]⟩] _ b11 Tryz.underlying48 rfl (by kernel_rfl) ?_)
    | (refine wpList_load_blk 48 (.tmp 7) rfl (by rfl) _ rfl #[.slice none 0 0, .int .i64 0, .int .i64 0, .int .i64 0, .int .i64 0, .int .i64 0, .int .i64 0, .bool false, .bool false, .bool false, .bool false, .bool false, .bool false, .bool false, .bool false, .int .i64 0, .int .i64 0, .int .i64 0, .int .u8 0, .int .u8 0, .int .u8 0, .int .u8 0, .int .i64 0, .int .u8 0, .int .u8 0, .int .u8 0, .int .u8 0, .int .u8 0, .string ⟨#[]⟩] _ bW3 Tryz.underlying48 rfl (by kernel_rfl) ?_)
    | (go_at_call 20; refine (reqz_any _ (by omega)).mono ?_; rintro e w4 ⟨rfl, hb4⟩; have hbw3 := hbw2.trans (hb23.mono (by omega)); have hbw4 := hbw3.trans (hb4.mono hbw3.size)))
  go_ret
  exact ⟨rfl, hbw4⟩
set_option maxHeartbeats 4000000 in
theorem lruns_zeros {c1 : Nat} (hw : Tryz.prog.globals.size ≤ w.heap.size) (hn : n ≤ 4096) (hz : Zl w w.heap.size A n) (hS : SnapAt tlA c16A w (fun k => Tryz.prog.globals.size ≤ k ∧ k < w.heap.size) (.agg #[.slice A1 1 c1, .int .i64 1, .int .i64 0, .int .i64 0, .int .i64 0, .int .i64 0, .int .i64 0, .bool false, .bool true, .bool false, .bool false, .bool true, .bool false, .bool false, .bool false, .int .i64 0, .int .i64 0, .int .i64 0, .int .u8 0, .int .u8 0, .int .u8 0, .int .u8 0, .int .i64 0, .int .u8 0, .int .u8 0, .int .u8 0, .int .u8 0, .int .u8 0, .string ⟨#[]⟩])) :
    Calls Tryz.prog 11 #[.agg #[.int .i64 1, .int .i64 1, .int .i64 0], .slice A n c, .agg #[.slice A1 1 c1, .int .i64 1, .int .i64 0, .int .i64 0, .int .i64 0, .int .i64 0, .int .i64 0, .bool false, .bool true, .bool false, .bool false, .bool true, .bool false, .bool false, .bool false, .int .i64 0, .int .i64 0, .int .i64 0, .int .u8 0, .int .u8 0, .int .u8 0, .int .u8 0, .int .i64 0, .int .u8 0, .int .u8 0, .int .u8 0, .int .u8 0, .int .u8 0, .string ⟨#[]⟩], .string ⟨#[]⟩, .int .i64 0] w fun e w' => e = .returned (.bool true) ∧ Below w.heap.size w w' := by
  have bW := blk_two w (.cells #[.int .i64 1, .int .i64 1, .int .i64 0] 33) 48 #[.slice A1 1 c1, .int .i64 1, .int .i64 0, .int .i64 0, .int .i64 0, .int .i64 0, .int .i64 0, .bool false, .bool true, .bool false, .bool false, .bool true, .bool false, .bool false, .bool false, .int .i64 0, .int .i64 0, .int .i64 0, .int .u8 0, .int .u8 0, .int .u8 0, .int .u8 0, .int .i64 0, .int .u8 0, .int .u8 0, .int .u8 0, .int .u8 0, .int .u8 0, .string ⟨#[]⟩]
  have hb0 := ((Below.refl w.heap.size w).alloc (Nat.le_refl _) (.cells #[.int .i64 1, .int .i64 1, .int .i64 0] 33)).alloc (by simp only [alloc_size]; omega) (.cells #[.slice A1 1 c1, .int .i64 1, .int .i64 0, .int .i64 0, .int .i64 0, .int .i64 0, .int .i64 0, .bool false, .bool true, .bool false, .bool false, .bool true, .bool false, .bool false, .bool false, .int .i64 0, .int .i64 0, .int .i64 0, .int .u8 0, .int .u8 0, .int .u8 0, .int .u8 0, .int .i64 0, .int .u8 0, .int .u8 0, .int .u8 0, .int .u8 0, .int .u8 0, .string ⟨#[]⟩] 48)
  go_enter Tryz.func11, Tryz.ntmps11
  go_wp2_with (first
    | (go_at_call 15; refine (run_zeros (by simp only [alloc_size]; omega) ((hz.below hb0).more (by simp only [alloc_size]; omega)) hn).mono ?_; rintro e w2 ⟨A2, c2, rfl, hsn2, hb2⟩; have hs2 : w.heap.size + 1 + 1 ≤ w2.heap.size := (by have := hb2.size; rw [alloc_size, alloc_size] at this; exact this); have hbw2 := hb0.trans (hb2.mono (by simp only [alloc_size]; omega)); have bW2 := bW.below hb2 (by simp only [alloc_size]; omega))
    | ((with_reducible refine wpList_store_blk rfl 48 (.tmp 11) (.tmp 18) rfl _ #[.slice none 0 0, .int .i64 0, .int .i64 0, .int .i64 0, .int .i64 0, .int .i64 0, .int .i64 0, .bool false, .bool false, .bool false, .bool false, .bool false, .bool false, .bool false, .bool false, .int .i64 0, .int .i64 0, .int .i64 0, .int .u8 0, .int .u8 0, .int .u8 0, .int .u8 0, .int .i64 0, .int .u8 0, .int .u8 0, .int .u8 0, .int .u8 0, .int .u8 0, .string ⟨#[]⟩] #[.slice A2 1 c2, .int .i64 1, .int .i64 0, .int .i64 0, .int .i64 0, .int .i64 0, .int .i64 0, .bool false, .bool true, .bool false, .bool false, .bool true, .bool false, .bool false, .bool false, .int .i64 0, .int .i64 0, .int .i64 0, .int .u8 0, .int .u8 0, .int .u8 0, .int .u8 0, .int .i64 0, .int .u8 0, .int .u8 0, .int .u8 0, .int .u8 0, .int .u8 0, .string ⟨#[]⟩] rfl rfl (Blk.new _ 48 _) (by kernel_rfl) rfl (by kernel_rfl) ?_); intro w3 hw3st; have hs3 : w3.heap.size = w2.heap.size + 1 := (by have := hw3st.size; rw [alloc_size] at this; exact this); have hb23 : Below w2.heap.size w2 w3 := ((Below.refl _ _).alloc (Nat.le_refl _) _).trans hw3st.below; have bW3 := bW2.below hb23 (by omega); have b11 := hw3st.blk; have hbw3 := hbw2.trans (hb23.mono (by omega)); have hX := hsn2.stay (w' := w3) (fun k hk _ => hb23.block k hk.2); have hY := hS.stay (w' := w3) (fun k hk _ => hbw3.block k hk.2))
    | (refine wpList_load_blk 48 (.tmp 11) rfl (by rfl) _ rfl #[.slice A2 1 c2, .int .i64 1, .int .i64 0, .int .i64 0, .int .i64 0, .int .i64 0, .int .i64 0, .bool false, .bool true, .bool false, .bool false, .bool true, .bool false, .bool false, .bool false, .int .i64 0, .int .i64 0, .int .i64 0, .int .u8 0, .int .u8 0, .int .u8 0, .int .u8 0, .int .i64 0, .int .u8 0, .int .u8 0, .int .u8 0, .int .u8 0, .int .u8 0, .string ⟨#[]⟩] _ b11 Tryz.underlying48 rfl (by kernel_rfl) ?_)
    | (refine wpList_load_blk 48 (.tmp 7) rfl (by rfl) _ rfl #[.slice A1 1 c1, .int .i64 1, .int .i64 0, .int .i64 0, .int .i64 0, .int .i64 0, .int .i64 0, .bool false, .bool true, .bool false, .bool false, .bool true, .bool false, .bool false, .bool false, .int .i64 0, .int .i64 0, .int .i64 0, .int .u8 0, .int .u8 0, .int .u8 0, .int .u8 0, .int .i64 0, .int .u8 0, .int .u8 0, .int .u8 0, .int .u8 0, .int .u8 0, .string ⟨#[]⟩] _ bW3 Tryz.underlying48 rfl (by kernel_rfl) ?_)
    | (go_at_call 20; refine (req_any (by omega) (fun k hk => by have := hk.1; rw [alloc_size, alloc_size] at this; omega) (fun k hk => hk.1) (fun k h1 h2 => by have := h1.1; rw [alloc_size, alloc_size] at this; have := h2.2; omega) hX hY).mono ?_; rintro e w4 ⟨rfl, hb4⟩; have hbw4 := hbw3.trans (hb4.mono hbw3.size)))
  go_ret
  exact ⟨rfl, hbw4⟩
end
end Go.Proofs.YtdjbjcnkboggjaaGreatDoor

namespace Go.Proofs.YtdjbjcnkboggjaaGreatDoor
open Go.RowKit Go.Rep
set_option maxRecDepth 100000
open Go.Abs (SnapAt AVal concs)
theorem byte_info2 : (Tryz.prog.info? 5).map (fun i => (i.zero, i.size, i.bytes)) = some (some (.int .u8 0), 1, 1) := by kernel_rfl
theorem list_info : (Tryz.prog.info? 22).map (fun i => (i.zero, i.size, i.bytes)) = some (some (.slice none 0 0), 1, 24) := by kernel_rfl
theorem made_zeros (n : Nat) : (madeCells (Value.int .u8 0).cells (n * 1)).toList = bcells (List.replicate n 0) := by
  apply List.ext_getElem?
  intro i
  simp only [madeCells, bcells, Array.toList_map, List.getElem?_map, Array.getElem?_toList, Nat.mul_one, Array.getElem?_range, List.getElem?_replicate]
  by_cases h : i < n
  · simp [h, Value.cells, Nat.mod_one]
  · simp [h]
theorem made_nils (n : Nat) : (madeCells (Value.slice none 0 0).cells (n * 1)).toList = List.replicate n (.slice none 0 0) := by
  apply List.ext_getElem?
  intro i
  simp only [madeCells, Array.toList_map, List.getElem?_map, Array.getElem?_toList, Nat.mul_one, Array.getElem?_range, List.getElem?_replicate]
  by_cases h : i < n
  · simp [h, Value.cells, Nat.mod_one]
  · simp [h]
theorem reads_lit (w : World) (t : TypeId) : Reads (w.alloc (.cells #[.int .u8 1] t)) (w.heap.size + 1) 1 (some ⟨w.heap.size, 0, none⟩) 1 (bcells [1]) := by
  refine ⟨rfl, fun _ => ⟨_, rfl, Nat.lt_succ_self _, fun j u hu => ?_⟩⟩
  match j, hu with
  | 0, hu => cases hu; exact (Blk.new w t _).cell 0
  | n + 1, hu => simp [bcells] at hu
theorem zl_nils {w : World} {A : Option Addr} {m c base : Nat} (h : w.ownsRow base 22 1 (.slice A m c) m (List.replicate m (.slice none 0 0))) : Zl w w.heap.size A m := by
  obtain ⟨A', c', he, _, _, hr⟩ := own_slice h
  have h1 : A = A' := by injection he
  subst h1
  exact ⟨_, hr, fun i hi => ⟨none, 0, 0, by rw [List.getElem?_replicate, if_pos hi], by omega, Reads.none_⟩⟩
theorem reads_lit2 (w : World) (o : Obj) (t : TypeId) : Reads ((w.alloc o).alloc (.cells #[.int .u8 1] t)) ((w.alloc o).alloc (.cells #[.int .u8 1] t)).heap.size 1 (some ⟨w.heap.size + 1, 0, none⟩) 1 (bcells [1]) := by
  have := reads_lit (w.alloc o) t
  rw [alloc_size] at this
  exact this.more (by simp only [alloc_size]; omega)
def YesL (W : World) (e : Ending) (w' : World) : Prop := e = .returned (.bool true) ∧ Below W.heap.size W w'
set_option maxHeartbeats 4000000 in
theorem many_long (m : Nat) (h : 4096 < m) (h2 : m ≤ 4098) (W : World) (hw : Laid W) : Calls Tryz.prog 4 #[.int .i64 m] W (YesL W) := by
  obtain ⟨i0, hzi, hz0, hz1, hz2⟩ := info_parts byte_info2
  obtain ⟨j0, hyi, hy0, hy1, hy2⟩ := info_parts list_info
  have hG := hw.size
  have g1 : ¬ (m : Int) < 4094 := by omega
  have g2 : ¬ (4098 : Int) < (m : Int) := by omega
  have g3 : (4096 : Int) < (m : Int) := by omega
  go_enter Tryz.func4, Tryz.ntmps4
  go_wp2_with (first
    | ((with_reducible refine wpList_make_full _ rfl (.tmp 15) (.tmp 15) 22 rfl W.heap.size 5 i0 (.int .u8 0) 1 Tryz.underlying22 hzi hz0 hz1 .i64 .i64 (m : Int) (m : Int) m rfl rfl rfl rfl (by rw [hz2]; omega) (by unfold maxLen; omega) (Nat.le_refl _) ?_); intro w1 hown1 hw1g; rw [made_zeros] at hown1; have hr1 := Reads.of_own hown1; have hb1 : Below W.heap.size W w1 := (Below.refl W.heap.size W).grown hw1g (Nat.le_refl _) (fun j e => by cases e); have hs1 := hb1.size)
    | (go_at_call 6; refine (zeros_long (B := w1.heap.size + 1) (Nat.le_refl _) (by omega) h (by simp only [alloc_size]; omega) ((hr1.alloc (Nat.le_refl _) _).more (by omega)) (reads_lit w1 _)).mono ?_; rintro e w2 ⟨rfl, hb2⟩; have hs2 : w1.heap.size + 1 ≤ w2.heap.size := (by have := hb2.size; rw [alloc_size] at this; exact this); have hb12 : Below w1.heap.size w1 w2 := ((Below.refl _ _).alloc (Nat.le_refl _) _).trans (hb2.mono (by simp only [alloc_size]; omega)))
    | ((with_reducible refine wpList_make_full _ rfl (.tmp 23) (.tmp 23) 24 rfl W.heap.size 22 j0 (.slice none 0 0) 1 Tryz.underlying24 hyi hy0 hy1 .i64 .i64 (m : Int) (m : Int) m rfl rfl rfl rfl (by rw [hy2]; omega) (by unfold maxLen; omega) (by omega) ?_); intro w3 hown3 hw3g; rw [made_nils] at hown3; have hb23 : Below w2.heap.size w2 w3 := (Below.refl _ _).grown hw3g (Nat.le_refl _) (fun j e => by cases e); have hs3 := hb23.size; have hb13 := hb12.trans (hb23.mono (by omega)); have hr3 := ((((hr1.below hb13).more hb13.size).alloc (Nat.le_refl _) (.cells #[.int .i64 1, .int .i64 1, .int .i64 0] 33)).alloc (by simp only [alloc_size]; omega) (.cells #[.int .u8 1] 5)).more (show w3.heap.size ≤ ((w3.alloc (.cells #[.int .i64 1, .int .i64 1, .int .i64 0] 33)).alloc (.cells #[.int .u8 1] 5)).heap.size by simp only [alloc_size]; omega); have hb3 : Below W.heap.size W w3 := hb1.trans (hb13.mono hs1))
    | (go_at_call 10; refine (lsame_long (Nat.le_refl _) (by omega) h hr3 (reads_lit2 w3 _ 5)).mono ?_; rintro e w5 ⟨rfl, hb5⟩; have hs5 : w3.heap.size + 1 + 1 ≤ w5.heap.size := (by have := hb5.size; rw [alloc_size, alloc_size] at this; exact this); have bC5 := ((Blk.new w3 33 #[.int .i64 1, .int .i64 1, .int .i64 0]).alloc (.cells #[.int .u8 1] 5)).below hb5 (by simp only [alloc_size]; omega); have d0 : w5.cell? ⟨w3.heap.size, 0, none⟩ = some (.int .i64 1) := bC5.cell 0; have d1 : w5.cell? ⟨w3.heap.size, 1, none⟩ = some (.int .i64 1) := bC5.cell 1; have d2 : w5.cell? ⟨w3.heap.size, 2, none⟩ = some (.int .i64 0) := bC5.cell 2; have hb35 : Below w3.heap.size w3 w5 := (((Below.refl _ _).alloc (Nat.le_refl _) _).alloc (by simp only [alloc_size]; omega) _).trans (hb5.mono (by simp only [alloc_size]; omega)); have hbW5 := hb3.trans (hb35.mono (by omega)))
    | (go_at_call 11; refine (lruns_long (by omega) h).mono ?_; rintro e w6 ⟨rfl, hb6⟩; have hbW6 := hbW5.trans (hb6.mono hbW5.size); have hT6 := tab_up hG hbW6 hw)
    | (go_at_call 5; refine (any_Known _ hT6).mono ?_; rintro e w7 ⟨rfl, hb7⟩))
  go_ret
  exact ⟨rfl, hbW6.trans (hb7.mono hbW6.size)⟩
set_option maxHeartbeats 4000000 in
theorem many_ok (m : Nat) (h : m ≤ 4096) (h2 : 4094 ≤ m) (W : World) (hw : Laid W) : Calls Tryz.prog 4 #[.int .i64 m] W (YesL W) := by
  obtain ⟨i0, hzi, hz0, hz1, hz2⟩ := info_parts byte_info2
  obtain ⟨j0, hyi, hy0, hy1, hy2⟩ := info_parts list_info
  have hG := hw.size
  have g1 : ¬ (m : Int) < 4094 := by omega
  have g2 : ¬ (4098 : Int) < (m : Int) := by omega
  have g3 : ¬ (4096 : Int) < (m : Int) := by omega
  go_enter Tryz.func4, Tryz.ntmps4
  go_upto_region 9 with (first
    | ((with_reducible refine wpList_make_full _ rfl (.tmp 15) (.tmp 15) 22 rfl W.heap.size 5 i0 (.int .u8 0) 1 Tryz.underlying22 hzi hz0 hz1 .i64 .i64 (m : Int) (m : Int) m rfl rfl rfl rfl (by rw [hz2]; omega) (by unfold maxLen; omega) (Nat.le_refl _) ?_); intro w1 hown1 hw1g; rw [made_zeros] at hown1; have hr1 := Reads.of_own hown1; have hb1 : Below W.heap.size W w1 := (Below.refl W.heap.size W).grown hw1g (Nat.le_refl _) (fun j e => by cases e); have hs1 := hb1.size)
    | (go_at_call 6; refine (zeros_ok (B := w1.heap.size + 1) (Nat.le_refl _) (by omega) h (by simp only [alloc_size]; omega) ((hr1.alloc (Nat.le_refl _) _).more (by omega)) (reads_lit w1 _)).mono ?_; rintro e w2 ⟨A2, c2, vs2, rfl, hown2, hx2, hb2⟩; have hs2 : w1.heap.size + 1 ≤ w2.heap.size := (by have := hb2.size; rw [alloc_size] at this; exact this); have hb12 : Below w1.heap.size w1 w2 := ((Below.refl _ _).alloc (Nat.le_refl _) _).trans (hb2.mono (by simp only [alloc_size]; omega)))
    | ((with_reducible refine wpList_make_full _ rfl (.tmp 23) (.tmp 23) 24 rfl W.heap.size 22 j0 (.slice none 0 0) 1 Tryz.underlying24 hyi hy0 hy1 .i64 .i64 (m : Int) (m : Int) m rfl rfl rfl rfl (by rw [hy2]; omega) (by unfold maxLen; omega) (by omega) ?_); intro w3 hown3 hw3g; rw [made_nils] at hown3; have hb23 : Below w2.heap.size w2 w3 := (Below.refl _ _).grown hw3g (Nat.le_refl _) (fun j e => by cases e); have hs3 := hb23.size; have hb13 := hb12.trans (hb23.mono (by omega)); have hr3 := (hr1.below hb13).more hb13.size; have hb3 : Below W.heap.size W w3 := hb1.trans (hb13.mono hs1); have hzl3 := zl_nils hown3))
  clear hown1 hown2 hx2 hown3 hb2
  have hGB : Tryz.prog.globals.size ≤ (World.drew (w3.alloc (.cells #[.int .i64 1, .int .i64 1, .int .i64 0] 33))).heap.size := by show _ ≤ (w3.alloc (.cells #[.int .i64 1, .int .i64 1, .int .i64 0] 33)).heap.size; rw [alloc_size]; omega
  have bC := (Blk.new w3 33 #[.int .i64 1, .int .i64 1, .int .i64 0]).drew
  have hb3d : Below w3.heap.size w3 (World.drew (w3.alloc (.cells #[.int .i64 1, .int .i64 1, .int .i64 0] 33))) := ((Below.refl _ _).alloc (Nat.le_refl _) _).drew
  have hsd : (World.drew (w3.alloc (.cells #[.int .i64 1, .int .i64 1, .int .i64 0] 33))).heap.size = w3.heap.size + 1 := by show (w3.alloc (.cells #[.int .i64 1, .int .i64 1, .int .i64 0] 33)).heap.size = _; rw [alloc_size]
  have a0 : (World.drew (w3.alloc (.cells #[.int .i64 1, .int .i64 1, .int .i64 0] 33))).cell? ⟨w3.heap.size, 0, none⟩ = some (.int .i64 1) := bC.cell 0
  have a1 : (World.drew (w3.alloc (.cells #[.int .i64 1, .int .i64 1, .int .i64 0] 33))).cell? ⟨w3.heap.size, 1, none⟩ = some (.int .i64 1) := bC.cell 1
  have a2 : (World.drew (w3.alloc (.cells #[.int .i64 1, .int .i64 1, .int .i64 0] 33))).cell? ⟨w3.heap.size, 2, none⟩ = some (.int .i64 0) := bC.cell 2
  clear hw1g hw3g hr1 hzi hz0 hz1 hz2 hyi hy0 hy1 hy2 g1 g2
  go_region_held3 (fun w' => w'.cell? ⟨w3.heap.size, 0, none⟩ = some (.int .i64 1) ∧ w'.cell? ⟨w3.heap.size, 1, none⟩ = some (.int .i64 1) ∧ w'.cell? ⟨w3.heap.size, 2, none⟩ = some (.int .i64 0)) (first | exact ⟨a0, a1, a2⟩ | exact ⟨r0, r1, r2⟩ | exact ⟨v0, v1, v2⟩ | exact ⟨u0, u1, u2⟩ | exact ⟨q0, q1, q2⟩ | exact ⟨e0, e1, e2⟩ | exact ⟨d0, d1, d2⟩) (first
    | (go_at_call 12; refine (rnew_any _ hGB).mono ?_; rintro e w5 ⟨a5, own5, rfl, HR5, hb5⟩; have hs5 : w3.heap.size + 1 ≤ w5.heap.size := (by have := hb5.size; rw [hsd] at this; exact this); have bC5 := bC.below hb5 (by rw [hsd]; omega); have d0 : w5.cell? ⟨w3.heap.size, 0, none⟩ = some (.int .i64 1) := bC5.cell 0; have d1 : w5.cell? ⟨w3.heap.size, 1, none⟩ = some (.int .i64 1) := bC5.cell 1; have d2 : w5.cell? ⟨w3.heap.size, 2, none⟩ = some (.int .i64 0) := bC5.cell 2; rw [hsd] at hb5 HR5)
    | (go_at_call 13; refine (rsnap_any HR5).mono ?_; rintro e w6 ⟨val6, rfl, hsn6, hb6⟩; obtain ⟨A6, c6, rfl⟩ := snap_form hsn6; have hs6 := hb6.size; have bC6 := bC5.below hb6 (by omega); have e0 : w6.cell? ⟨w3.heap.size, 0, none⟩ = some (.int .i64 1) := bC6.cell 0; have e1 : w6.cell? ⟨w3.heap.size, 1, none⟩ = some (.int .i64 1) := bC6.cell 1; have e2 : w6.cell? ⟨w3.heap.size, 2, none⟩ = some (.int .i64 0) := bC6.cell 2; have hb36 := hb3d.trans ((hb5.trans hb6).mono (by omega)); have hz6 := (hzl3.below hb36).more hb36.size; have hS6 := hsn6.wide (S' := fun k => Tryz.prog.globals.size ≤ k ∧ k < w6.heap.size) (fun k hk hlt => ⟨by have := hk.1; omega, hlt⟩))
    | (go_at_call 11; refine (lruns_zeros (by omega) h hz6 hS6).mono ?_; rintro e w7 ⟨rfl, hb7⟩; have hs7 := hb7.size; have bC7 := bC6.below hb7 (by omega); have q0 : w7.cell? ⟨w3.heap.size, 0, none⟩ = some (.int .i64 1) := bC7.cell 0; have q1 : w7.cell? ⟨w3.heap.size, 1, none⟩ = some (.int .i64 1) := bC7.cell 1; have q2 : w7.cell? ⟨w3.heap.size, 2, none⟩ = some (.int .i64 0) := bC7.cell 2; have bC8 := bC7.alloc (.cells #[.int .u8 1] 5); have u0 : (w7.alloc (.cells #[.int .u8 1] 5)).cell? ⟨w3.heap.size, 0, none⟩ = some (.int .i64 1) := bC8.cell 0; have u1 : (w7.alloc (.cells #[.int .u8 1] 5)).cell? ⟨w3.heap.size, 1, none⟩ = some (.int .i64 1) := bC8.cell 1; have u2 : (w7.alloc (.cells #[.int .u8 1] 5)).cell? ⟨w3.heap.size, 2, none⟩ = some (.int .i64 0) := bC8.cell 2; have hb37 := hb36.trans (hb7.mono (by omega)); have hr7 := (((hr3.below hb37).more hb37.size).alloc (Nat.le_refl _) (.cells #[.int .u8 1] 5)).more (show w7.heap.size ≤ (w7.alloc (.cells #[.int .u8 1] 5)).heap.size by rw [alloc_size]; omega); have hc7 := (reads_lit w7 5).more (show w7.heap.size + 1 ≤ (w7.alloc (.cells #[.int .u8 1] 5)).heap.size by rw [alloc_size]; omega); have hb38 : Below w3.heap.size w3 (w7.alloc (.cells #[.int .u8 1] 5)) := hb37.alloc hb37.size _)
    | (go_at_call 10; refine (lsame_zeros (by rw [alloc_size]; omega) (Nat.le_refl _) (by omega) h hr7 hc7).mono ?_; rintro e w9 ⟨rfl, hb9⟩; have hb39 := hb38.trans (hb9.mono hb38.size); have hbW9 := hb3.trans (hb39.mono (by omega)); have hT9 := tab_up hG hbW9 hw; have bC9 := bC8.below hb9 (by rw [alloc_size]; omega); have v0 : w9.cell? ⟨w3.heap.size, 0, none⟩ = some (.int .i64 1) := bC9.cell 0; have v1 : w9.cell? ⟨w3.heap.size, 1, none⟩ = some (.int .i64 1) := bC9.cell 1; have v2 : w9.cell? ⟨w3.heap.size, 2, none⟩ = some (.int .i64 0) := bC9.cell 2)
    | (go_at_call 5; refine (any_Known _ hT9).mono ?_; rintro e w10 ⟨rfl, hb10⟩; have hbW10 := hbW9.trans (hb10.mono hbW9.size); have bC10 := bC9.below hb10 (by have := hbW9.size; have := hb9.size; rw [alloc_size] at this; omega); have r0 : w10.cell? ⟨w3.heap.size, 0, none⟩ = some (.int .i64 1) := bC10.cell 0; have r1 : w10.cell? ⟨w3.heap.size, 1, none⟩ = some (.int .i64 1) := bC10.cell 1; have r2 : w10.cell? ⟨w3.heap.size, 2, none⟩ = some (.int .i64 0) := bC10.cell 2))
  all_goals
    go_wp2_with fail
    go_ret
    exact ⟨rfl, hbW10⟩
theorem walk_ChunksMany (r : Int) (W : World) (hw : Laid W) : Calls Tryz.prog 4 #[.int .i64 r] W (YesL W) := by
  by_cases h1 : r < 4094
  · go_enter Tryz.func4, Tryz.ntmps4
    go_wp2_with (go_at_call 5; refine (any_Known _ hw).mono ?_; rintro e w1 ⟨rfl, hb⟩)
    go_ret
    exact ⟨rfl, hb⟩
  by_cases h2 : 4098 < r
  · go_enter Tryz.func4, Tryz.ntmps4
    go_wp2_with (go_at_call 5; refine (any_Known _ hw).mono ?_; rintro e w1 ⟨rfl, hb⟩)
    go_ret
    exact ⟨rfl, hb⟩
  obtain ⟨m, rfl⟩ := Int.eq_ofNat_of_zero_le (a := r) (by omega)
  by_cases h3 : m ≤ 4096
  · exact many_ok m h3 (by omega) W hw
  · exact many_long m (by omega) (by omega) W hw
end Go.Proofs.YtdjbjcnkboggjaaGreatDoor
