/- A part of the proof of ChunksCuts. -/
import Derived.Test.YtdjbjcnkboggjaaGreatDoorS2
import Derived.Test.YtdjbjcnkboggjaaGreatDoorCKnown
import Derived.Test.YtdjbjcnkboggjaaGreatDoorAbsP
namespace Go.Proofs.YtdjbjcnkboggjaaGreatDoor
open Go.RowKit Go.Rep Go.Shelf
set_option maxRecDepth 100000
def YesP (w : World) (e : Ending) (w' : World) : Prop := e = .returned (.bool true) ∧ Below w.heap.size w w'
section
variable {A Ac : Option Addr} {m cp mc cpc B : Nat} {bs ls : List UInt8} {w : World}
theorem cuts_large (hw : Laid w) (h : 300 < m ∨ 40 < mc) : Calls Tryz.prog 3 #[.slice A m cp, .slice Ac mc cpc] w (YesP w) := by
  by_cases h1 : 300 < m
  · have h2 : (300 : Int) < (m : Int) := by omega
    clear h
    go_enter Tryz.func3, Tryz.ntmps3
    go_wp2_with (go_at_call 5; refine (any_Known _ hw).mono ?_; rintro e w1 ⟨rfl, hb1⟩)
    go_ret
    exact ⟨rfl, hb1⟩
  · have h2 : ¬ (300 : Int) < (m : Int) := by omega
    have h3 : (40 : Int) < (mc : Int) := by omega
    clear h
    go_enter Tryz.func3, Tryz.ntmps3
    go_wp2_with (go_at_call 5; refine (any_Known _ hw).mono ?_; rintro e w1 ⟨rfl, hb1⟩)
    go_ret
    exact ⟨rfl, hb1⟩
set_option maxHeartbeats 4000000 in
theorem cuts_bad (hw : Laid w) (hm : m ≤ 300) (hmc : mc ≤ 40) (hcp : m ≤ cp) (hcl : cp ≤ maxLen) (hB : B ≤ w.heap.size) (hrb : Reads w B 1 A m (bcells bs)) (hrc : Reads w B 1 Ac mc (bcells ls)) (hfine : fineL ls = false) :
    Calls Tryz.prog 3 #[.slice A m cp, .slice Ac mc cpc] w (YesP w) := by
  obtain ⟨i0, hi, hz0, hz1, hz2⟩ := info_parts u8_info
  have HF := Lib.hid hfine
  have hG := hw.size
  have h1 : ¬ (300 : Int) < (m : Int) := by omega
  have h2 : ¬ (40 : Int) < (mc : Int) := by omega
  clear hfine
  go_enter Tryz.func3, Tryz.ntmps3
  go_wp2_with (first
    | (at_builtin; refine wpList_append_any _ rfl (.const (.slice none 0 0)) (.tmp 20) 22 rfl w.heap.size 5 i0 (.int .u8 0) 1 1 Tryz.underlying22 hi hz0 hz1 hz2 rfl (by decide) (.slice none 0 0) 0 [] rfl (World.ownsRow_nil w w.heap.size 5 1) B A m cp (bcells bs) rfl hrb (bcell_one bs) (by unfold maxLen; omega) (by omega) (Nat.le_refl _) ?_; intro v3 w3 hown3 hg3 _; obtain ⟨A3, c3, rfl, hmc3, hc3, hr3⟩ := own_slice hown3; have hb3 : Below w.heap.size w w3 := (Below.refl _ _).grown hg3 (Nat.le_refl _) (fun j q => by cases q); have hs3 := hb3.size)
    | (go_at_call 6; refine (cut_bad (by omega) HF.out (by omega) (hrc.below (hb3.mono hB))).mono ?_; rintro e w4 ⟨rfl, hb4⟩; have hb4' := hb3.trans (hb4.mono hs3); have hs4 := hb4.size)
    | (go_at_call 7; refine (ref_cut hcp hcl (by omega) (by omega) (by omega) (hrb.below (hb4'.mono hB)) (hrc.below (hb4'.mono hB))).mono ?_; rintro e w5 ⟨v5, vs5, k5, rfl, _, _, _, _, _, _, hb5⟩; have hb5' := hb4'.trans (hb5.mono (by omega)); have hs5 := hb5.size)
    | (go_at_call 8; refine (fine_any (hrc.below (hb5'.mono hB)) (by omega)).mono ?_; rintro e w6 ⟨rfl, rfl⟩; rw [HF.out]; have hT := tab_up hG hb5' hw)
    | (go_at_call 5; refine (any_Known _ hT).mono ?_; rintro e w7 ⟨rfl, hb7⟩))
  go_ret
  exact ⟨rfl, hb5'.trans (hb7.mono hb5'.size)⟩
end
end Go.Proofs.YtdjbjcnkboggjaaGreatDoor

namespace Go.Proofs.YtdjbjcnkboggjaaGreatDoor
open Go.RowKit Go.Rep Go.Shelf
set_option maxRecDepth 100000
section
variable {A Ac : Option Addr} {m cp mc cpc B : Nat} {bs ls : List UInt8} {w : World}
set_option maxHeartbeats 1000000 in
theorem cuts_long (hw : Laid w) (hm : m ≤ 300) (hmc : mc ≤ 40) (hcp : m ≤ cp) (hcl : cp ≤ maxLen) (hB : B ≤ w.heap.size) (hrb : Reads w B 1 A m (bcells bs)) (hrc : Reads w B 1 Ac mc (bcells ls)) (hfine : fineL ls = true) (hlong : LongP ls m) :
    Calls Tryz.prog 3 #[.slice A m cp, .slice Ac mc cpc] w (YesP w) := by
  obtain ⟨i0, hi, hz0, hz1, hz2⟩ := info_parts u8_info
  have HF := Lib.hid (And.intro hfine hlong)
  have hG := hw.size
  have h1 : ¬ (300 : Int) < (m : Int) := by omega
  have h2 : ¬ (40 : Int) < (mc : Int) := by omega
  clear hfine hlong
  go_enter Tryz.func3, Tryz.ntmps3
  go_wp2_with (first
    | (at_builtin; refine wpList_append_any _ rfl (.const (.slice none 0 0)) (.tmp 20) 22 rfl w.heap.size 5 i0 (.int .u8 0) 1 1 Tryz.underlying22 hi hz0 hz1 hz2 rfl (by decide) (.slice none 0 0) 0 [] rfl (World.ownsRow_nil w w.heap.size 5 1) B A m cp (bcells bs) rfl hrb (bcell_one bs) (by unfold maxLen; omega) (by omega) (Nat.le_refl _) ?_; intro v3 w3 hown3 hg3 _; rw [Nat.zero_add, List.nil_append] at hown3; obtain ⟨A3, c3, rfl, hmc3, hc3, hr3⟩ := own_slice hown3; have hb3 : Below w.heap.size w w3 := (Below.refl _ _).grown hg3 (Nat.le_refl _) (fun j q => by cases q); have hs3 := hb3.size; have hm3 := hrc.below (hb3.mono hB); have hm3' := hm3.more (Nat.le_trans hB hs3))
    | (go_at_call 6; refine (cut_long (bs := bs) (B := w3.heap.size) hmc3 (by omega) (by omega) HF.out.1 HF.out.2 (Nat.le_refl _) hr3 hm3').mono ?_; rintro e w4 ⟨rfl, hb4⟩; have hb4' := hb3.trans (hb4.mono hs3); have hs4 := hb4.size)
    | (go_at_call 7; refine (ref_long (bs := bs) (B := B) hcp hcl (by omega) (by omega) HF.out.2 (by omega) (hrb.below (hb4'.mono hB)) (hrc.below (hb4'.mono hB))).mono ?_; rintro e w5 ⟨A5, k5, c5, rfl, hk5, hb5⟩; have hb5' := hb4'.trans (hb5.mono (by omega)); have hs5 := hb5.size)
    | (go_at_call 8; refine (fine_any (hrc.below (hb5'.mono hB)) (by omega)).mono ?_; rintro e w6 ⟨rfl, rfl⟩; rw [HF.out.1]; have hT := tab_up hG hb5' hw)
    | (go_at_call 5; refine (any_Known _ hT).mono ?_; rintro e w7 ⟨rfl, hb7⟩))
  go_ret
  exact ⟨rfl, hb5'.trans (hb7.mono hb5'.size)⟩
end
end Go.Proofs.YtdjbjcnkboggjaaGreatDoor

namespace Go.Rep
open Go.RowKit
def bcell (x : UInt8) : Value := .int .u8 (x.toNat : Int)
/-- A row of bytes of its own whose letters do not matter. -/
def Soft (w : World) (b : Nat) (u : Value) (n : Nat) : Prop :=
  (u = .slice none 0 0 ∧ n = 0) ∨ ∃ g cap cs, u = .slice (some ⟨g, 0, none⟩) n cap ∧ b ≤ g ∧ Blk w g 5 cs ∧ n ≤ cs.size ∧ ∀ j, j < n → ∃ x : UInt8, cs[j]? = some (bcell x)
theorem Soft.of_own {w : World} {b n : Nat} {u : Value} {bs : List UInt8} (h : w.ownsRow b 5 1 u n (bcells bs)) : Soft w b u n := by
  obtain ⟨hl, h | ⟨g, cap, cur, hu, hb, hg, hn, _, hs, ht⟩⟩ := h
  · exact .inl h
  · refine .inr ⟨g, cap, cur, hu, hb, hg, by omega, fun j hj => ?_⟩
    have hj' : j < bs.length := by
      have : (bcells bs).length = bs.length := by simp [bcells]
      omega
    refine ⟨bs[j], ?_⟩
    have h1 : (cur.toList.take (n * 1))[j]? = (bcells bs)[j]? := by rw [ht]
    rw [List.getElem?_take_of_lt (by omega)] at h1
    have h2 : (bcells bs)[j]? = some (bcell bs[j]) := by simp [bcells, bcell, hj']
    rw [h2] at h1
    simpa using h1
theorem Soft.set {w : World} {b n g j : Nat} {u : Value} {cs : Array Value} (h : Soft w b u n) (hg : Blk w g 5 cs) (x : UInt8) : Soft (w.setCell ⟨g, j, none⟩ (bcell x)) b u n := by
  rcases h with h | ⟨g', cap, cs', hu, hb, hg', hn, hc⟩
  · exact .inl h
  · by_cases e : g' = g
    · subst e
      refine .inr ⟨g', cap, cs'.setIfInBounds j (bcell x), hu, hb, hg'.set_ j _, by simpa using hn, fun i hi => ?_⟩
      obtain ⟨y, hy⟩ := hc i hi
      rw [Array.getElem?_setIfInBounds]
      split
      · next h1 => rw [if_pos (by omega)]; exact ⟨x, rfl⟩
      · exact ⟨y, hy⟩
    · exact .inr ⟨g', cap, cs', hu, hb, hg'.far e _, hn, hc⟩
end Go.Rep

namespace Go.Rep
open Go.RowKit
/-- A row of its own whose elements are soft rows. -/
def Rows (w : World) (b : Nat) (v : Value) (k : Nat) (lens : Nat → Nat) : Prop :=
  ∃ vs, w.ownsRow b 22 1 v k vs ∧ ∀ i, i < k → ∃ u : Value, vs[i]? = some u ∧ Soft w b u (lens i)
theorem own_far {w : World} {b n g j : Nat} {v u : Value} {vs : List Value} {cs : Array Value} (h : w.ownsRow b 22 1 v n vs) (hg : Blk w g 5 cs) : (w.setCell ⟨g, j, none⟩ u).ownsRow b 22 1 v n vs := by
  obtain ⟨hl, h | ⟨g', cap, cur, hu, hb, hg', hn, hm, hs, ht⟩⟩ := h
  · exact ⟨hl, .inl h⟩
  · refine ⟨hl, .inr ⟨g', cap, cur, hu, hb, ?_, hn, hm, hs, ht⟩⟩
    have hne : g' ≠ g := by
      rintro rfl
      have h1 : w.heap[g']? = some (.cells cs 5 (0, 0)) := hg
      rw [h1] at hg'
      injection hg' with h2
      injection h2 with _ h3 _
      exact absurd h3 (by decide)
    rw [Below.heap_setCell w ⟨g, j, none⟩ u g' hne]
    exact hg'
theorem Rows.set {w : World} {b k g j : Nat} {v : Value} {lens : Nat → Nat} {cs : Array Value} (h : Rows w b v k lens) (hg : Blk w g 5 cs) (x : UInt8) : Rows (w.setCell ⟨g, j, none⟩ (bcell x)) b v k lens := by
  obtain ⟨vs, ho, hx⟩ := h
  exact ⟨vs, own_far ho hg, fun i hi => by obtain ⟨u, hu, hs⟩ := hx i hi; exact ⟨u, hu, hs.set hg x⟩⟩
/-- The i-th element, and where it lies. -/
theorem Rows.at_ {w : World} {b k i : Nat} {v : Value} {lens : Nat → Nat} (h : Rows w b v k lens) (hi : i < k) : ∃ A c ad u, v = .slice (some A) k c ∧ b ≤ A.block ∧ ad = A.add i ∧ w.cell? ad = some u ∧ Soft w b u (lens i) := by
  obtain ⟨vs, ho, hx⟩ := h
  obtain ⟨u, hu, hs⟩ := hx i hi
  obtain ⟨A, c, rfl, _, _, hr⟩ := own_slice ho
  obtain ⟨ad, u', rfl, _, hu', hc⟩ := hr.at_ hi
  rw [hu] at hu'
  cases hu'
  refine ⟨ad, c, _, u, rfl, ?_, rfl, hc, hs⟩
  obtain ⟨_, h | ⟨g', cap, cur, he, hb, _⟩⟩ := ho
  · cases h.1
  · cases he; exact hb
theorem wrap_byte (x : UInt8) : Value.int .u8 (((x.toNat : Int) + 1) % 256) = bcell (x + 1) := by
  show Value.int .u8 _ = Value.int .u8 _
  congr 1
end Go.Rep

namespace Go.Proofs.YtdjbjcnkboggjaaGreatDoor
open Go.RowKit Go.Rep Go.Shelf
set_option maxRecDepth 100000
theorem own_below {w w' : World} {B : Nat} {e : TypeId} {size n : Nat} {v : Value} {xs : List Value} (h : w.ownsRow B e size v n xs) (hb : Below w.heap.size w w') : w'.ownsRow B e size v n xs := by
  obtain ⟨hl, h | ⟨g, cap, cur, hu, hB, hg, hn, hm, hs, ht⟩⟩ := h
  · exact ⟨hl, .inl h⟩
  · exact ⟨hl, .inr ⟨g, cap, cur, hu, hB, (hb.block g (Blk.lt (t := e) hg)).trans hg, hn, hm, hs, ht⟩⟩
theorem lists_cut {W : World} {B m k c : Nat} {A : Option Addr} {bs ls : List UInt8} {vs : List Value} (hb : bs.length = m) (h : W.ownsRow B 22 1 (.slice A k c) k vs) (hx : ∀ i, i < k → ∃ u : Value, vs[i]? = some u ∧ W.ownsRow B 5 1 u (stepN ls m i (atOf ls m i)) (bcells (pieceOf bs ls m i))) : Lists W W.heap.size A k (pieceOf bs ls m) := by
  obtain ⟨A', c', he, _, _, hl⟩ := lists_of_cut hb h hx
  injection he with h1 h2 h3
  rw [h1]
  exact hl
theorem add0 (g j : Nat) : (⟨g, 0, none⟩ : Addr).add j = ⟨g, j, none⟩ := by
  unfold Addr.add
  split
  · next h => rw [h]
  · simp
theorem Soft.at_ {w : World} {b n j : Nat} {u : Value} (h : Soft w b u n) (hj : j < n) : ∃ (ad : Addr) (cap : Nat) (x : Int), u = .slice (some ad) n cap ∧ b ≤ (ad.add j).block ∧ w.cell? (ad.add j) = some (.int .u8 x) ∧ w.frozen? (ad.add j) = false ∧
    ∀ v k lens, Go.Rep.Rows w b v k lens → Go.Rep.Rows (w.setCell (ad.add j) (.int .u8 ((x + 1) % 256))) b v k lens := by
  rcases h with ⟨_, rfl⟩ | ⟨g, cap, cs, rfl, hb, hg, hn, hc⟩
  · omega
  · obtain ⟨x, hx⟩ := hc j hj
    refine ⟨⟨g, 0, none⟩, cap, (x.toNat : Int), rfl, by rw [block_of_add]; exact hb, ?_, ?_, fun v k lens hR => ?_⟩
    · rw [add0, hg.cell]; exact hx
    · rw [add0]; exact hg.frozen j
    · rw [add0, wrap_byte]; exact hR.set hg (x + 1)
theorem Soft.slice {w : World} {b n : Nat} {u : Value} (h : Soft w b u n) : ∃ A c, u = .slice A n c := by
  rcases h with ⟨rfl, rfl⟩ | ⟨g, cap, cs, rfl, _⟩
  · exact ⟨_, _, rfl⟩
  · exact ⟨_, _, rfl⟩
theorem rows_own {w w' : World} {b k : Nat} {v : Value} {vs : List Value} {bs ls : List UInt8} {m : Nat} (h : w.ownsRow b 22 1 v k vs) (hx : ∀ i, i < k → ∃ u : Value, vs[i]? = some u ∧ w.ownsRow b 5 1 u (stepN ls m i (atOf ls m i)) (bcells (pieceOf bs ls m i))) (hb : Below w.heap.size w w') (n : Nat) : ∃ L : Nat → Nat, (∀ i, L i ≤ m) ∧ Go.Rep.Rows (w'.drewN n) b v k L :=
  ⟨fun i => stepN ls m i (atOf ls m i), fun i => Nat.le_trans (stepN_le ls m i _) (Nat.sub_le _ _), vs, own_below h (below_drewN hb n), fun i hi => by
    obtain ⟨u, hu, ho⟩ := hx i hi
    exact ⟨u, hu, Soft.of_own (own_below ho (below_drewN hb n))⟩⟩
section
variable {A Ac : Option Addr} {m cp mc cpc B k : Nat} {bs ls : List UInt8} {w : World}
set_option maxHeartbeats 1000000 in
theorem cuts_ok (hw : Laid w) (hm : m ≤ 300) (hmc : mc ≤ 40) (hcp : m ≤ cp) (hcl : cp ≤ maxLen) (hB : B ≤ w.heap.size) (hrb : Reads w B 1 A m (bcells bs)) (hrc : Reads w B 1 Ac mc (bcells ls)) (hfine : fineL ls = true) (hct : countTo ls m k) (hmo : moreB ls m k = false) (hk : k ≤ 4096) :
    Calls Tryz.prog 3 #[.slice A m cp, .slice Ac mc cpc] w (YesP w) := by
  obtain ⟨i0, hi, hz0, hz1, hz2⟩ := info_parts u8_info
  have HF := Lib.hid (And.intro hfine (And.intro hct hmo))
  have HL := Lib.hid hrb.bytes
  have hG := hw.size
  have h1 : ¬ (300 : Int) < (m : Int) := by omega
  have h2 : ¬ (40 : Int) < (mc : Int) := by omega
  have h3 : ¬ (4096 : Int) < (k : Int) := by omega
  clear hfine hct hmo
  go_enter Tryz.func3, Tryz.ntmps3
  go_wp2_with (first
    | (at_builtin; refine wpList_append_any _ rfl (.const (.slice none 0 0)) (.tmp 20) 22 rfl w.heap.size 5 i0 (.int .u8 0) 1 1 Tryz.underlying22 hi hz0 hz1 hz2 rfl (by decide) (.slice none 0 0) 0 [] rfl (World.ownsRow_nil w w.heap.size 5 1) B A m cp (bcells bs) rfl hrb (bcell_one bs) (by unfold maxLen; omega) (by omega) (Nat.le_refl _) ?_; intro v3 w3 hown3 hg3 _; rw [Nat.zero_add, List.nil_append] at hown3; obtain ⟨A3, c3, rfl, hmc3, hc3, hr3⟩ := own_slice hown3; have hb3 : Below w.heap.size w w3 := (Below.refl _ _).grown hg3 (Nat.le_refl _) (fun j q => by cases q); have hs3 := hb3.size; have hm3 := hrc.below (hb3.mono hB); have hm3' := hm3.more (Nat.le_trans hB hs3))
    | (go_at_call 6; refine (cut_ok (bs := bs) (B := w3.heap.size) hmc3 (by omega) (by omega) HF.out.1 HF.out.2.1 HF.out.2.2 hk (Nat.le_refl _) hr3 hm3').mono ?_; rintro e w4 ⟨A4, c4, vs4, rfl, hown4, hx4, hb4⟩; have hb4' := hb3.trans (hb4.mono hs3); have hs4 := hb4.size)
    | (go_at_call 7; refine (ref_ok (bs := bs) (B := B) hcp hcl (by omega) (by omega) HF.out.2.1 HF.out.2.2 hk (by omega) (hrb.below (hb4'.mono hB)) (hrc.below (hb4'.mono hB))).mono ?_; rintro e w5 ⟨A5, c5, rfl, hl5, hb5⟩; have hb5' := hb4'.trans (hb5.mono (by omega)); have hs5 := hb5.size)
    | (go_at_call 8; refine (fine_any (hrc.below (hb5'.mono hB)) (by omega)).mono ?_; rintro e w6 ⟨rfl, rfl⟩; rw [HF.out.1]; have hT := tab_up hG hb5' hw; have hl4' := Lists.more (Lists.below (lists_cut HL.out hown4 hx4) hb5) hs5)
    | (go_at_call 9; refine (same_true (by omega) hl4' hl5).mono ?_; rintro e w8 ⟨rfl, n8, rfl⟩))
  obtain ⟨L, hLm, hRw⟩ := rows_own hown4 hx4 hb5 n8
  have hb30 : Below w3.heap.size w3 (w6.drewN n8) := below_drewN (hb4.trans (hb5.mono hs4)) n8
  clear hown4 hx4 hl4' hl5 hb4 hb4' hb5 hb5' hT hs5
  generalize w6.drewN n8 = w0 at hRw hb30 ⊢
  go_loopw [9] (fun i wr => ∃ j : Nat, j ≤ k ∧ i = .int .i64 j ∧ Go.Rep.Rows wr w3.heap.size (.slice A4 k c4) k L ∧ Below w3.heap.size w3 wr) (fun i _ => k - (intOf i).toNat)
  case atStart => exact ⟨0, Nat.zero_le _, rfl, hRw, hb30⟩
  case round =>
    obtain ⟨j, hj, rfl, hRr, hbr⟩ := hrel
    by_cases hlt : j < k
    · obtain ⟨wo, rfl⟩ : ∃ wo : World, wo = wr := ⟨_, rfl⟩
      have hlt' : (j : Int) < (k : Int) := by omega
      obtain ⟨Aj, cj, adj, uj, hvj, hbj, hadj, hcj, hsj⟩ := hRr.at_ hlt
      obtain ⟨Au, cu, huj⟩ := Soft.slice hsj
      have hA4 : A4 = some Aj := by injection hvj
      clear hvj
      subst hA4 huj hadj
      go_wp2
      go_loopw [10] (fun i wr => ∃ l : Nat, l ≤ L j ∧ i = .int .i64 l ∧ Go.Rep.Rows wr w3.heap.size (.slice (some Aj) k c4) k L ∧ Below w3.heap.size w3 wr) (fun i _ => L j - (intOf i).toNat)
      case atStart => exact ⟨0, Nat.zero_le _, rfl, hRr, hbr⟩
      case round =>
        obtain ⟨l, hl, rfl, hRl, hbl⟩ := hrel
        obtain ⟨Aj2, cj2, adj2, uj2, hvj2, hbj2, rfl, hcj2, hsj2⟩ := hRl.at_ hlt
        have hA42 : Aj = Aj2 := by injection hvj2 with h _ _; injection h
        clear hvj2
        subst hA42
        by_cases hlt2 : l < L j
        · obtain ⟨ad, cu2, x, rfl, hba, hcx, hfx, hRs⟩ := Soft.at_ hsj2 hlt2
          have hlt2' : (l : Int) < (L j : Int) := by omega
          have hRn := hRs _ _ _ hRl
          have hbn := hbl.setCell hba (.int .u8 ((x + 1) % 256))
          clear hRs hsj hsj2 hRr
          have hLj := hLm j
          go_wp2
          go_roundw
          case rel => exact ⟨l + 1, by omega, by go_num, hRn, hbn⟩
          case measure => simp [intOf]; omega
        · obtain ⟨Au2, cu2, rfl⟩ := Soft.slice hsj2
          have hlt2' : ¬ (l : Int) < (L j : Int) := by omega
          clear hsj hsj2 hRr
          go_wp2
          go_roundw
          case rel => exact ⟨j + 1, by omega, by go_num, hRl, hbl⟩
          case measure => simp [intOf]; omega
    · obtain rfl : j = k := by omega
      have hTr := tab_up hG (hb3.trans (hbr.mono hs3)) hw
      have q1 := run_conv_reads (P := Tryz.prog) (hr3.below hbr) 22 5 Tryz.underlying22 Tryz.underlying5 c3 9 Tryz.underlying9
      have q2 := run_conv_reads (P := Tryz.prog) (hrb.below ((hb3.trans (hbr.mono hs3)).mono hB)) 22 5 Tryz.underlying22 Tryz.underlying5 cp 9 Tryz.underlying9
      have hbw := hb3.trans (hbr.mono hs3)
      go_wp2_with (go_at_call 5; refine (any_Known _ hTr).mono ?_; rintro e w7 ⟨rfl, hb7⟩)
      go_ret
      exact ⟨rfl, hbw.trans (hb7.mono hbw.size)⟩
end
end Go.Proofs.YtdjbjcnkboggjaaGreatDoor

namespace Go.Proofs.YtdjbjcnkboggjaaGreatDoor
open Go.RowKit Go.Rep
theorem cuts_any {A Ac : Option Addr} {m cp mc cpc : Nat} {bs ls : List UInt8} {w : World} (hw : Laid w) (hcp : m ≤ cp) (hcl : cp ≤ maxLen) (hrb : Reads w w.heap.size 1 A m (bcells bs)) (hrc : Reads w w.heap.size 1 Ac mc (bcells ls)) :
    Calls Tryz.prog 3 #[.slice A m cp, .slice Ac mc cpc] w (YesP w) := by
  by_cases h : 300 < m ∨ 40 < mc
  · exact cuts_large hw h
  · have h1 : m ≤ 300 := by omega
    have h2 : mc ≤ 40 := by omega
    cases hf : fineL ls with
    | false => exact cuts_bad hw h1 h2 hcp hcl (Nat.le_refl _) hrb hrc hf
    | true =>
      rcases count_step (ls := ls) (m := m) 4097 with h3 | ⟨k, h3, h4, h5⟩
      · exact cuts_long hw h1 h2 hcp hcl (Nat.le_refl _) hrb hrc hf ⟨h3⟩
      · exact cuts_ok hw h1 h2 hcp hcl (Nat.le_refl _) hrb hrc hf h4 h5 (by omega)
end Go.Proofs.YtdjbjcnkboggjaaGreatDoor
