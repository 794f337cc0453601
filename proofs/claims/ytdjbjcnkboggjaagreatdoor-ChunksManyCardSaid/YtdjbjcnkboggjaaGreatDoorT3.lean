/- A part of the proof of ChunksMany. -/
import Derived.Test.YtdjbjcnkboggjaaGreatDoorMT
import Derived.Test.YtdjbjcnkboggjaaGreatDoorAbsP
import Derived.WalkKit
import Derived.ProofKit
import Derived.LoopTactic
import Derived.OwnWalk
import Derived.Maps.AppendAt
import Derived.Deep.Onto
import Derived.Lib.Hide
import Derived.Deep.DeepCutAuto
import Derived.BigFrame
import Derived.RegionTactic
import Derived.Deep.QuietTactic
import Derived.BigQuiet
import Derived.IntWalk
import Derived.Deep.RegionLaw
import Derived.Laws.Rows
namespace Go.Proofs.YtdjbjcnkboggjaaGreatDoor
open Go.RowKit Go.Rep
set_option maxRecDepth 100000
theorem own_lt {w : World} {base size n : Nat} {e : TypeId} {v : Value} {xs : List Value} (h : w.ownsRow base e size v n xs) {g : Nat} (hg : v.ownBlock = some g) : base ≤ g ∧ g < w.heap.size := by
  rcases h.2 with ⟨rfl, _⟩ | ⟨g', cap, cur, rfl, hb, hh, _⟩
  · simp [Value.ownBlock] at hg
  · have : g' = g := by simpa [Value.ownBlock] using hg
    subst this
    exact ⟨hb, (Array.getElem?_eq_some_iff.1 hh).1⟩
/-- The row is none of what is the terminal's own. -/
def Off (own : Nat → Prop) (v : Value) : Prop := ∀ g, v.ownBlock = some g → ¬ own g
theorem Off.step {own own' : Nat → Prop} {w w' : World} {base size n : Nat} {e : TypeId} {v : Value} {xs : List Value} (h : Off own v) (hk : Keeps own own' w w') (ho : w.ownsRow base e size v n xs) : Off own' v := by
  intro g hg hc
  have := (own_lt ho hg).2
  rcases hk.2 g hc with h1 | h1
  · exact h g hg h1
  · omega
theorem own_keeps {own own' : Nat → Prop} {w w' : World} {base size n : Nat} {e : TypeId} {v : Value} {xs : List Value} (h : Off own v) (hk : Keeps own own' w w') (ho : w.ownsRow base e size v n xs) : w'.ownsRow base e size v n xs := by
  obtain ⟨hl, h1 | ⟨g, cap, cur, hu, hB, hg, hn, hm, hs, ht⟩⟩ := ho
  · exact ⟨hl, .inl h1⟩
  · have hlt : g < w.heap.size := (Array.getElem?_eq_some_iff.1 hg).1
    exact ⟨hl, .inr ⟨g, cap, cur, hu, hB, (hk.1 g hlt (h g (by rw [hu]; rfl))).trans hg, hn, hm, hs, ht⟩⟩
/-- Behind an append to a row that is not the terminal's own. -/
theorem ter_append {B ga gs gp : Nat} {own : Nat → Prop} {w w' : World} {v v' : Value} (H : Ter B ga gs gp own w) (h : Off own v) (hg : w.grownBy w' v.ownBlock) (hv : v'.ownBlock = v.ownBlock ∨ v'.ownBlock = some w.heap.size) : Ter B ga gs gp own w' ∧ Off own v' := by
  refine ⟨H.stay (fun k hk => hg.block k (H.lt k hk) fun e => h k e.symm hk) hg.size, fun g hg' hc => ?_⟩
  rcases hv with h1 | h1
  · exact h g (h1 ▸ hg') hc
  · rw [h1] at hg'
    cases hg'
    have := H.lt _ hc
    omega
theorem below_append {w0 w w' : World} {base size n : Nat} {e : TypeId} {v : Value} {xs : List Value} (hb : Below base w0 w) (ho : w.ownsRow base e size v n xs) (hg : w.grownBy w' v.ownBlock) (hB : base ≤ w.heap.size) : Below base w0 w' :=
  hb.grown hg hB fun _ q => (own_lt ho q).1
theorem rune_info : (Tryz.prog.info? 21).map (fun i => (i.zero, i.size, i.bytes)) = some (some (.int .i32 0), 1, 4) := by kernel_rfl
section
variable {B ga gs gp m c : Nat} {A : Option Addr} {own : Nat → Prop} {w : World}
def FeedP (B ga gs gp m : Nat) (w : World) (e : Ending) (w' : World) : Prop := ∃ v own', e = .returned v ∧ w'.ownsRow B 21 1 v m (List.replicate m (.int .i32 0)) ∧ Off own' v ∧ Ter B ga gs gp own' w' ∧ Below B w w'
set_option maxHeartbeats 2000000 in
theorem feed_zeros (H : Ter B ga gs gp own w) (hm : m ≤ 5000) (hr : Reads w B 1 A m (bcells (List.replicate m 0))) : Calls Tryz.prog 63 #[.pointer (some ⟨gp, 0, none⟩), .slice A m c] w (FeedP B ga gs gp m w) := by
  obtain ⟨i0, hi, hz0, hz1, hz2⟩ := info_parts rune_info
  go_enter Tryz.func63, Tryz.ntmps63
  go_wp2
  go_loopw [5, 10] (fun v i wr => ∃ (k : Nat) (ow : Nat → Prop), k ≤ m ∧ i = .int .i64 k ∧ wr.ownsRow B 21 1 v k (List.replicate k (.int .i32 0)) ∧ Hid (Off ow v) ∧ Ter B ga gs gp ow wr ∧ Below B w wr) (fun _ i _ => m - (intOf i).toNat)
  case atStart => exact ⟨0, own, Nat.zero_le _, rfl, World.ownsRow_nil _ _ _ _, Lib.hid (fun g h => by simp [Value.ownBlock] at h), H, Below.refl _ _⟩
  case round =>
    obtain ⟨k, ow, hk, rfl, hown, hoff, HT, hbr⟩ := hrel
    by_cases hlt : k < m
    · have hlt' : (k : Int) < (m : Int) := by omega
      obtain ⟨ad, rfl, _, hc⟩ := (hr.below hbr).byte hlt
      have hz : byteAt (List.replicate m 0) k = 0 := by simp [byteAt, List.getD_eq_getElem?_getD, hlt]
      rw [hz] at hc
      have hc' : wr.cell? (ad.add k) = some (.int .u8 0) := hc
      clear hc hz
      go_wp2_with (first
        | (go_at_call 92; refine (step_any HT).mono ?_; rintro e w2 ⟨val, ow2, rfl, ⟨A2, c2, rfl, hr2⟩, HT2, hb2, hk2⟩; have hown2 := own_keeps hoff.out hk2 hown; have hoff2 := hoff.out.step hk2 hown)
        | (at_builtin; refine wpList_append_any _ rfl (.tmp 14) (.tmp 17) 154 rfl B 21 i0 (.int .i32 0) 1 4 Tryz.underlying154 hi hz0 hz1 hz2 rfl (by decide) _ k (List.replicate k (.int .i32 0)) rfl hown2 w2.heap.size A2 1 c2 [.int .i32 0] rfl hr2 (by intro u hu; simp at hu; subst hu; rfl) (by unfold maxLen; omega) (by omega) HT2.base ?_; intro v3 w3 hown3 hg3 hv3; obtain ⟨HT3, hoff3⟩ := ter_append HT2 hoff2 hg3 hv3; have hb3 := below_append (hbr.trans hb2) hown2 hg3 HT2.base))
      go_roundw
      case rel =>
        refine ⟨k + 1, ow2, by omega, by go_num, ?_, Lib.hid hoff3, HT3, hb3⟩
        rw [List.replicate_succ']
        exact hown3
      case measure => simp [intOf]; omega
    · obtain rfl : k = m := by omega
      go_wp2
      go_ret
      exact ⟨_, ow, rfl, hown, hoff.out, HT, hbr⟩
end
end Go.Proofs.YtdjbjcnkboggjaaGreatDoor

namespace Go.Proofs.YtdjbjcnkboggjaaGreatDoor
open Go.RowKit Go.Rep
set_option maxRecDepth 100000
def acts (m : Nat) : List Value := (List.replicate m actV).flatten
theorem acts_succ (m : Nat) : acts (m + 1) = actV ++ acts m := by simp [acts, List.replicate_succ]
theorem acts_length (m : Nat) : (acts m).length = m * 6 := by
  induction m with
  | zero => rfl
  | succ m ih => rw [acts_succ, List.length_append, ih]; simp [actV]; omega
theorem acts_snoc (m : Nat) : acts (m + 1) = acts m ++ actV := by
  unfold acts
  rw [List.replicate_succ', List.flatten_append]
  simp
theorem acts_at : ∀ (m i j : Nat), i < m → j < 6 → (acts m)[i * 6 + j]? = actV[j]?
  | 0, i, j, h, _ => by omega
  | m + 1, 0, j, _, hj => by rw [acts_succ, List.getElem?_append_left (by simp [actV]; omega)]; simp
  | m + 1, i + 1, j, h, hj => by
    rw [acts_succ, List.getElem?_append_right (by simp [actV]; omega), show (i + 1) * 6 + j - actV.length = i * 6 + j by simp [actV]; omega]
    exact acts_at m i j (by omega) hj
theorem act_info : (Tryz.prog.info? 125).map (fun i => (i.zero, i.size, i.bytes)) = some (some (.agg #[.int .i64 0, .int .i32 0, .int .i32 0, .string ⟨#[]⟩, .slice none 0 0, .string ⟨#[]⟩]), 6, 72) := by kernel_rfl
theorem own_ne {w : World} {b b' s s' n n' : Nat} {e e' : TypeId} {v v' : Value} {xs xs' : List Value} (h : w.ownsRow b e s v n xs) (h' : w.ownsRow b' e' s' v' n' xs') (hne : e ≠ e') : v.ownBlock = none ∨ v.ownBlock ≠ v'.ownBlock := by
  rcases h.2 with ⟨rfl, _⟩ | ⟨g, cap, cur, rfl, _, hg, _⟩
  · exact .inl rfl
  · refine .inr fun he => ?_
    rcases h'.2 with ⟨rfl, _⟩ | ⟨g', cap', cur', rfl, _, hg', _⟩
    · cases he
    · have e1 : g = g' := by simpa [Value.ownBlock] using he
      subst e1
      rw [hg] at hg'
      injection hg' with h1
      injection h1 with _ h2 _
      exact hne h2
section
variable {B ga gs gp m c : Nat} {A : Option Addr} {own : Nat → Prop} {w : World}
def PWriteP (B ga gs gp m : Nat) (w : World) (e : Ending) (w' : World) : Prop := ∃ v own', e = .returned v ∧ w'.ownsRow B 125 6 v m (acts m) ∧ Off own' v ∧ Ter B ga gs gp own' w' ∧ Below B w w'
set_option maxHeartbeats 2000000 in
theorem pwrite_zeros (H : Ter B ga gs gp own w) (hm : m ≤ 5000) (hr : Reads w B 1 A m (bcells (List.replicate m 0))) : Calls Tryz.prog 39 #[.pointer (some ⟨gp, 0, none⟩), .slice A m c] w (PWriteP B ga gs gp m w) := by
  obtain ⟨i0, hi, hz0, hz1, hz2⟩ := info_parts act_info
  go_enter Tryz.func39, Tryz.ntmps39
  go_wp2_with (go_at_call 63; refine (feed_zeros H hm hr).mono ?_; rintro e w1 ⟨v1, own1, rfl, hown1, hoff1, HT1, hb1⟩; obtain ⟨A1, c1, rfl, hmc1, hc1, _⟩ := own_slice hown1)
  go_loopw [5, 16] (fun v i wr => ∃ (k : Nat) (ow : Nat → Prop), k ≤ m ∧ i = .int .i64 k ∧ wr.ownsRow B 125 6 v k (acts k) ∧ wr.ownsRow B 21 1 (.slice A1 m c1) m (List.replicate m (.int .i32 0)) ∧ Hid (Off ow v) ∧ Hid (Off ow (.slice A1 m c1)) ∧ Ter B ga gs gp ow wr ∧ Below B w wr) (fun _ i _ => m - (intOf i).toNat)
  case atStart => exact ⟨0, own1, Nat.zero_le _, rfl, World.ownsRow_nil _ _ _ _, hown1, Lib.hid (fun g h => by simp [Value.ownBlock] at h), Lib.hid hoff1, HT1, hb1⟩
  case round =>
    obtain ⟨k, ow, hk, rfl, hown, hrun, hoff, hoffr, HT, hbr⟩ := hrel
    clear hown1 hoff1 HT1 hb1
    by_cases hlt : k < m
    · have hlt' : (k : Int) < (m : Int) := by omega
      obtain ⟨A1', c1', he1, _, _, hrr⟩ := own_slice hrun
      have he2 : A1 = A1' := by injection he1
      clear he1
      subst he2
      obtain ⟨ad, u, rfl, _, hu, hc⟩ := hrr.at_ hlt
      rw [List.getElem?_replicate, if_pos hlt] at hu
      cases hu
      go_wp2_with (first
        | (go_at_call 64; refine (pstep_any HT).mono ?_; rintro e w2 ⟨val, ow2, rfl, ⟨A2, c2, rfl, hr2⟩, HT2, hb2, hk2⟩; have hown2 := own_keeps hoff.out hk2 hown; have hoff2 := hoff.out.step hk2 hown; have hrun2 := own_keeps hoffr.out hk2 hrun; have hoffr2 := hoffr.out.step hk2 hrun)
        | (at_builtin; refine wpList_append_any _ rfl (.tmp 20) (.tmp 23) 120 rfl B 125 i0 (.agg #[.int .i64 0, .int .i32 0, .int .i32 0, .string ⟨#[]⟩, .slice none 0 0, .string ⟨#[]⟩]) 6 72 Tryz.underlying120 hi hz0 hz1 hz2 rfl (by decide) _ k (acts k) rfl hown2 w2.heap.size A2 1 c2 actV rfl hr2 (by intro u hu; simp only [actV, List.mem_cons, List.not_mem_nil, or_false] at hu; rcases hu with rfl | rfl | rfl | rfl | rfl | rfl <;> rfl) (by unfold maxLen; omega) (by omega) HT2.base ?_; intro v3 w3 hown3 hg3 hv3; obtain ⟨HT3, hoff3⟩ := ter_append HT2 hoff2 hg3 hv3; have hb3 := below_append (hbr.trans hb2) hown2 hg3 HT2.base; have hrun3 := hrun2.kept hg3 (own_ne hrun2 hown2 (by decide))))
      go_roundw
      case rel =>
        refine ⟨k + 1, ow2, by omega, by go_num, ?_, hrun3, Lib.hid hoff3, Lib.hid hoffr2, HT3, hb3⟩
        rw [acts_snoc]
        exact hown3
      case measure => simp [intOf]; omega
    · obtain rfl : k = m := by omega
      go_wp2
      go_ret
      exact ⟨_, ow, rfl, hown, hoff.out, HT, hbr⟩
end
end Go.Proofs.YtdjbjcnkboggjaaGreatDoor

namespace Go.Proofs.YtdjbjcnkboggjaaGreatDoor
open Go.RowKit Go.Rep
set_option maxRecDepth 100000
theorem Ter.alloc {B ga gs gp : Nat} {own : Nat → Prop} {w : World} (H : Ter B ga gs gp own w) (o : Obj) : Ter B ga gs gp own (w.alloc o) := H.stay (fun k hk => Below.heap_alloc w o k (H.lt k hk)) (by simp)
theorem Ter.drew {B ga gs gp : Nat} {own : Nat → Prop} {w : World} (H : Ter B ga gs gp own w) : Ter B ga gs gp own w.drew := H.stay (fun _ _ => rfl) (Nat.le_refl _)
theorem Reads.act {w : World} {B m k : Nat} {A : Option Addr} (h : Reads w B 6 A m (acts m)) (hk : k < m) :
    ∃ ad, A = some ad ∧ w.cell? (ad.add (k * 6)) = some (.int .i64 2) ∧ w.cell? ⟨(ad.add (k * 6)).block, (ad.add (k * 6)).off + 1, none⟩ = some (.int .i32 0) ∧ w.cell? ⟨(ad.add (k * 6)).block, (ad.add (k * 6)).off + 2, none⟩ = some (.int .i32 0) ∧
      w.cell? ⟨(ad.add (k * 6)).block, (ad.add (k * 6)).off + 3, none⟩ = some (.string ⟨#[]⟩) ∧ w.cell? ⟨(ad.add (k * 6)).block, (ad.add (k * 6)).off + 4, none⟩ = some (.slice none 0 0) ∧ w.cell? ⟨(ad.add (k * 6)).block, (ad.add (k * 6)).off + 5, none⟩ = some (.string ⟨#[]⟩) := by
  obtain ⟨ad, rfl, _, hc⟩ := h.2 (by omega)
  have g : ∀ j u, j < 6 → actV[j]? = some u → w.cell? (ad.add (k * 6 + j)) = some u := fun j u hj hu => hc _ u ((acts_at m k j hk hj).trans hu)
  refine ⟨ad, rfl, g 0 _ (by omega) rfl, ?_, ?_, ?_, ?_, ?_⟩
  · rw [← add_lit' _ (by omega), add_of_add]; exact g 1 _ (by omega) rfl
  · rw [← add_lit' _ (by omega), add_of_add]; exact g 2 _ (by omega) rfl
  · rw [← add_lit' _ (by omega), add_of_add]; exact g 3 _ (by omega) rfl
  · rw [← add_lit' _ (by omega), add_of_add]; exact g 4 _ (by omega) rfl
  · rw [← add_lit' _ (by omega), add_of_add]; exact g 5 _ (by omega) rfl
section
variable {B ga gs gp m c : Nat} {A : Option Addr} {own : Nat → Prop} {w : World}
def WriteP (B ga gs gp : Nat) (w : World) (e : Ending) (w' : World) : Prop := ∃ own', e = .returned (.tuple #[.int .i64 0, .int .i64 0]) ∧ Ter B ga gs gp own' w' ∧ Below B w w'
set_option maxHeartbeats 2000000 in
theorem write_zeros (H : Ter B ga gs gp own w) (hm : m ≤ 5000) (hr : Reads w B 1 A m (bcells (List.replicate m 0))) : Calls Tryz.prog 25 #[.pointer (some ⟨ga, 0, none⟩), .slice A m c] w (WriteP B ga gs gp w) := by
  go_enter Tryz.func25, Tryz.ntmps25
  go_wp2_with (first
    | (go_at_call 38; refine (zero_any H).mono ?_; rintro e w0 ⟨val0, own0, rfl, rfl, HT0, hb0, hk0⟩; obtain ⟨x0, x1⟩ := HT0.cells)
    | (go_at_call 39; refine (pwrite_zeros HT0 hm (hr.below hb0)).mono ?_; rintro e w1 ⟨v1, own1, rfl, hown1, hoff1, HT1, hb1⟩; obtain ⟨A1, c1, rfl, hmc1, hc1, _⟩ := own_slice hown1))
  go_loopw [6, 21] (fun n i wr => ∃ (k : Nat) (ow : Nat → Prop), k ≤ m ∧ n = .int .i64 0 ∧ i = .int .i64 k ∧ wr.ownsRow B 125 6 (.slice A1 m c1) m (acts m) ∧ Hid (Off ow (.slice A1 m c1)) ∧ Ter B ga gs gp ow wr ∧ Below B w wr) (fun _ i _ => m - (intOf i).toNat)
  case atStart => exact ⟨0, own1, Nat.zero_le _, rfl, rfl, hown1, Lib.hid hoff1, HT1, hb0.trans hb1⟩
  case round =>
    obtain ⟨k, ow, hk, rfl, rfl, hrun, hoffr, HT, hbr⟩ := hrel
    clear hown1 hoff1 HT1 hb1 x0 x1 HT0
    by_cases hlt : k < m
    · have hlt' : (k : Int) < (m : Int) := by omega
      obtain ⟨A1', c1', he1, _, _, hrr⟩ := own_slice hrun
      have he2 : A1 = A1' := by injection he1
      clear he1
      subst he2
      obtain ⟨ad, rfl, y0, y1, y2, y3, y4, y5⟩ := Reads.act hrr hlt
      have HTa := HT.alloc (.cells #[.int .i64 2, .int .i32 0, .int .i32 0, .string ⟨#[]⟩, .slice none 0 0, .string ⟨#[]⟩] 125)
      obtain ⟨z0, z1⟩ := HTa.cells
      have hba := hbr.alloc HT.base (.cells #[.int .i64 2, .int .i32 0, .int .i32 0, .string ⟨#[]⟩, .slice none 0 0, .string ⟨#[]⟩] 125)
      have hruna := hrun.alloc (.cells #[.int .i64 2, .int .i32 0, .int .i32 0, .string ⟨#[]⟩, .slice none 0 0, .string ⟨#[]⟩] 125)
      clear hrr
      go_wp2_with fail
      go_region_law (first
        | (go_simp; go_at_call 40; refine (do_any HTa.drew).mono ?_; rintro e w2 ⟨val2, ow2, rfl, rfl, HT2, hb2, hk2⟩; have hrun2 := own_keeps hoffr.out hk2 (World.ownsRow.drew hruna); have hoff2 := hoffr.out.step hk2 (World.ownsRow.drew hruna)))
      all_goals
        go_wp2_with (go_at_call 41; refine (follow_any HT2).mono ?_; rintro e w3 ⟨val3, ow3, rfl, rfl, HT3, hb3, hk3⟩)
        go_roundw
        case rel => exact ⟨k + 1, ow3, by omega, rfl, by go_num, own_keeps hoff2 hk3 hrun2, Lib.hid (hoff2.step hk3 hrun2), HT3, (hba.drew.trans hb2).trans hb3⟩
        case measure => simp [intOf]; omega
    · obtain rfl : k = m := by omega
      go_wp2
      go_ret2
      exact ⟨ow, rfl, HT, hbr⟩
end
end Go.Proofs.YtdjbjcnkboggjaaGreatDoor

namespace Go.Proofs.YtdjbjcnkboggjaaGreatDoor
open Go.RowKit Go.Rep
set_option maxRecDepth 100000
open Go.Abs (SnapAt AVal concs)
theorem alloc_size (w : World) (o : Obj) : (w.alloc o).heap.size = w.heap.size + 1 := by simp
/-- A list of slices of zeros. -/
def Zl (w : World) (B : Nat) (A : Option Addr) (n : Nat) : Prop := ∃ vs, Reads w B 1 A n vs ∧ ∀ i, i < n → ∃ A' m' c', vs[i]? = some (.slice A' m' c') ∧ m' ≤ 5000 ∧ Reads w B 1 A' m' (bcells (List.replicate m' 0))
theorem Zl.below {w w' : World} {B n : Nat} {A : Option Addr} (h : Zl w B A n) (hb : Below B w w') : Zl w' B A n := by
  obtain ⟨vs, h1, h2⟩ := h
  refine ⟨vs, h1.below hb, fun i hi => ?_⟩
  obtain ⟨A', m', c', h3, h4, h5⟩ := h2 i hi
  exact ⟨A', m', c', h3, h4, h5.below hb⟩
theorem Zl.at_ {w : World} {B n i : Nat} {A : Option Addr} (h : Zl w B A n) (hi : i < n) : ∃ ad A' m' c', A = some ad ∧ w.cell? (ad.add i) = some (.slice A' m' c') ∧ m' ≤ 5000 ∧ Reads w B 1 A' m' (bcells (List.replicate m' 0)) := by
  obtain ⟨vs, h1, h2⟩ := h
  obtain ⟨A', m', c', h3, h4, h5⟩ := h2 i hi
  obtain ⟨ad, u, rfl, _, hu, hc⟩ := h1.at_ hi
  rw [h3] at hu
  cases hu
  exact ⟨ad, A', m', c', rfl, hc, h4, h5⟩
theorem snap_form {w : World} {S : Nat → Prop} {v : Value} (h : SnapAt tlA c16A w S v) : ∃ A c, v = .agg #[.slice A 1 c, .int .i64 1, .int .i64 0, .int .i64 0, .int .i64 0, .int .i64 0, .int .i64 0, .bool false, .bool true, .bool false, .bool false, .bool true, .bool false, .bool false, .bool false, .int .i64 0, .int .i64 0, .int .i64 0, .int .u8 0, .int .u8 0, .int .u8 0, .int .u8 0, .int .i64 0, .int .u8 0, .int .u8 0, .int .u8 0, .int .u8 0, .int .u8 0, .string ⟨#[]⟩] := by
  obtain ⟨k1, s1, c1, k2, s2, c2, cur1, cur2, fr1, fr2, rfl, _⟩ := h
  exact ⟨_, _, rfl⟩
section
variable {n c : Nat} {A : Option Addr} {w : World}
theorem load_snap {w1 : World} {g : Nat} {cells : Array Value} (hb : Blk w1 g 48 cells) (hs : cells.size = 29) : (loadVar 48 ⟨g, 0, none⟩).run Tryz.prog w1 = .ok (.agg cells) w1 :=
  run_loadVar_row w1 g 48 48 cells (0, 0) _ hb Tryz.underlying48 rfl (by rw [hs]; kernel_rfl)
theorem res_snap {fn : Func} (e : fn.results = #[.cell 4 48, .tmp 5, .tmp 6]) {w1 : World} {g : Nat} {x y : Value} {cells tmps : Array Value} (hb : Blk w1 g 48 cells) (hs : cells.size = 29) (h4 : tmps[4]?.getD undef = .pointer (some ⟨g, 0, none⟩)) (h5 : tmps[5]?.getD undef = x) (h6 : tmps[6]?.getD undef = y) :
    (results fn tmps).run Tryz.prog w1 = .ok (.tuple #[.agg cells, x, y]) w1 := by
  have hl := load_snap hb hs
  simp [results, e, asAddr, hl, h4, h5, h6]
def RunP (w : World) (e : Ending) (w' : World) : Prop := ∃ A' c', e = .returned (.tuple #[.agg #[.slice A' 1 c', .int .i64 1, .int .i64 0, .int .i64 0, .int .i64 0, .int .i64 0, .int .i64 0, .bool false, .bool true, .bool false, .bool false, .bool true, .bool false, .bool false, .bool false, .int .i64 0, .int .i64 0, .int .i64 0, .int .u8 0, .int .u8 0, .int .u8 0, .int .u8 0, .int .i64 0, .int .u8 0, .int .u8 0, .int .u8 0, .int .u8 0, .int .u8 0, .string ⟨#[]⟩], .string ⟨#[]⟩, .int .i64 0]) ∧ SnapAt tlA c16A w' (fun k => w.heap.size ≤ k ∧ k < w'.heap.size) (.agg #[.slice A' 1 c', .int .i64 1, .int .i64 0, .int .i64 0, .int .i64 0, .int .i64 0, .int .i64 0, .bool false, .bool true, .bool false, .bool false, .bool true, .bool false, .bool false, .bool false, .int .i64 0, .int .i64 0, .int .i64 0, .int .u8 0, .int .u8 0, .int .u8 0, .int .u8 0, .int .i64 0, .int .u8 0, .int .u8 0, .int .u8 0, .int .u8 0, .int .u8 0, .string ⟨#[]⟩]) ∧ Below w.heap.size w w'
set_option maxHeartbeats 4000000 in
theorem run_zeros (hw : Tryz.prog.globals.size ≤ w.heap.size) (h : Zl w w.heap.size A n) (hn : n ≤ 4096) : Calls Tryz.prog 15 #[.agg #[.int .i64 1, .int .i64 1, .int .i64 0], .slice A n c] w (RunP w) := by
  have hn' : ¬ (4096 : Int) < (n : Int) := by omega
  go_enter Tryz.func15, Tryz.ntmps15
  go_wp2_with (go_at_call 24; refine (new_any _ (by simp only [alloc_size]; omega)).mono ?_; rintro e w1 ⟨ga, gs, gp, own, rfl, HT, hb⟩; have hbw := (((Below.refl w.heap.size w).alloc (Nat.le_refl _) (.cells #[.int .i64 1, .int .i64 1, .int .i64 0] 33)).alloc (by simp only [alloc_size]; omega) (.cells #[.slice none 0 0, .int .i64 0, .int .i64 0, .int .i64 0, .int .i64 0, .int .i64 0, .int .i64 0, .bool false, .bool false, .bool false, .bool false, .bool false, .bool false, .bool false, .bool false, .int .i64 0, .int .i64 0, .int .i64 0, .int .u8 0, .int .u8 0, .int .u8 0, .int .u8 0, .int .i64 0, .int .u8 0, .int .u8 0, .int .u8 0, .int .u8 0, .int .u8 0, .string ⟨#[]⟩] 48)).trans (hb.mono (by simp only [alloc_size]; omega)); have bT := (Blk.new (w.alloc (.cells #[.int .i64 1, .int .i64 1, .int .i64 0] 33)) 48 #[.slice none 0 0, .int .i64 0, .int .i64 0, .int .i64 0, .int .i64 0, .int .i64 0, .int .i64 0, .bool false, .bool false, .bool false, .bool false, .bool false, .bool false, .bool false, .bool false, .int .i64 0, .int .i64 0, .int .i64 0, .int .u8 0, .int .u8 0, .int .u8 0, .int .u8 0, .int .i64 0, .int .u8 0, .int .u8 0, .int .u8 0, .int .u8 0, .int .u8 0, .string ⟨#[]⟩]).below hb (by simp only [alloc_size]; omega); rw [alloc_size] at bT)
  have hb1 : w.heap.size + 1 + 1 ≤ w1.heap.size := by have := hb.size; simpa using this
  have HT' : Ter (w.heap.size + 1 + 1) ga gs gp own w1 := by simpa using HT
  clear HT hb
  go_loopw [20] (fun i wr => ∃ (k : Nat) (ow : Nat → Prop), k ≤ n ∧ i = .int .i64 k ∧ Ter (w.heap.size + 1 + 1) ga gs gp ow wr ∧ Below (w.heap.size + 1 + 1) w1 wr) (fun i _ => n - (intOf i).toNat)
  case atStart => exact ⟨0, own, Nat.zero_le _, rfl, HT', Below.refl _ _⟩
  case round =>
    obtain ⟨k, ow, hk, rfl, HTr, hbr⟩ := hrel
    clear HT'
    have hbwr := hbw.trans (hbr.mono (by omega))
    by_cases hlt : k < n
    · have hlt' : (k : Int) < (n : Int) := by omega
      obtain ⟨ad, A2, m2, c2, rfl, hc, hm2, hr2⟩ := (h.below hbwr).at_ hlt
      go_wp2_with (go_at_call 25; refine (write_zeros HTr hm2 (hr2.more (by omega))).mono ?_; rintro e w3 ⟨ow3, rfl, HT3, hb3⟩)
      go_roundw
      case rel => exact ⟨k + 1, ow3, by omega, by go_num, HT3, hbr.trans hb3⟩
      case measure => simp [intOf]; omega
    · obtain rfl : k = n := by omega
      have bTr := bT.below hbr (by omega)
      go_wp2_with (first
        | (go_at_call 26; refine (snap_any HTr).mono ?_; rintro e w4 ⟨val4, ow4, rfl, hs4, HT4, hb4, hk4⟩; obtain ⟨A4, c4, rfl⟩ := snap_form hs4; have bT4 := bTr.below hb4 (by omega))
        | (go_at_call 27; refine (rep_any HT4).mono ?_; rintro e w5 ⟨val5, ow5, rfl, rfl, HT5, hb5, hk5⟩; have bT5 := bT4.below hb5 (by omega))
        | ((with_reducible refine wpList_store_blk rfl 48 (.tmp 4) (.tmp 36) rfl (w.heap.size + 1) #[.slice none 0 0, .int .i64 0, .int .i64 0, .int .i64 0, .int .i64 0, .int .i64 0, .int .i64 0, .bool false, .bool false, .bool false, .bool false, .bool false, .bool false, .bool false, .bool false, .int .i64 0, .int .i64 0, .int .i64 0, .int .u8 0, .int .u8 0, .int .u8 0, .int .u8 0, .int .i64 0, .int .u8 0, .int .u8 0, .int .u8 0, .int .u8 0, .int .u8 0, .string ⟨#[]⟩] #[.slice A4 1 c4, .int .i64 1, .int .i64 0, .int .i64 0, .int .i64 0, .int .i64 0, .int .i64 0, .bool false, .bool true, .bool false, .bool false, .bool true, .bool false, .bool false, .bool false, .int .i64 0, .int .i64 0, .int .i64 0, .int .u8 0, .int .u8 0, .int .u8 0, .int .u8 0, .int .i64 0, .int .u8 0, .int .u8 0, .int .u8 0, .int .u8 0, .int .u8 0, .string ⟨#[]⟩] rfl rfl bT5 (by kernel_rfl) rfl (by kernel_rfl) ?_); intro w6 hst))
      have hb15 := ((hbwr.trans (hb4.mono (by omega))).trans (hb5.mono (by omega))).trans (hst.below.mono (by omega))
      have hs5 := ((hs4.stay (w' := w5) (fun k hk hlt => hk5.1 k hlt hk.2.2)).stay (w' := w6) (fun k hk _ => hst.far k (by have := hk.1; omega))).wide (S' := fun k => w.heap.size ≤ k ∧ k < w6.heap.size) (fun k hk hlt => ⟨by have := hk.1; omega, hlt⟩)
      refine bodyPost_ret (res_snap rfl hst.blk rfl rfl rfl rfl) rfl ?_
      exact ⟨A4, c4, rfl, hs5, hb15⟩
end
end Go.Proofs.YtdjbjcnkboggjaaGreatDoor
