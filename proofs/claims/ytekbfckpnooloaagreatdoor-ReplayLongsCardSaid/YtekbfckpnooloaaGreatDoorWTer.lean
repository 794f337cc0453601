/- A part of the proof of ReplayLongs. -/
import Derived.Test.YtekbfckpnooloaaGreatDoorWYes
import Derived.Test.YtekbfckpnooloaaGreatDoorGood
import Derived.Test.YtekbfckpnooloaaGreatDoorTabs
import Derived.Test.YtekbfckpnooloaaGreatDoorAbsI
import Derived.Test.YtekbfckpnooloaaGreatDoorAbsS
import Derived.Test.YtekbfckpnooloaaGreatDoorAbsP
import Derived.KernelRfl
namespace Go.Proofs.YtekbfckpnooloaaGreatDoor
open Go.RowKit Go.Abs Go.Rep
set_option maxRecDepth 100000
/-- A new terminal of one row and one column. -/
noncomputable def tst : List (Nat × AObj) := [(18, .cells (cellsR 189 5 5 false 0 0 0 false false [(0, 0, [.int .i64 (.ofNat 0), .int .i64 (.ofNat 64), .int .i64 (.ofNat 0), .int .i64 (.ofNat 0), .slice none 0 (.exact 0)])])),
  (19, .cells (cellsR 148 1 1 false 0 0 0 false false [(0, 0, [.ptr (some ⟨18, 0, 0⟩)])])),
  (20, .cells (cellsR 133 73 73 false 0 0 0 false false [(0, 0, [.int .i64 (.ofNat 1), .int .i64 (.ofNat 1), .ptr (some ⟨21, 0, 0⟩), .ptr (some ⟨19, 0, 0⟩), .int .i64 (.ofNat 0), .int .i64 (.ofNat 0), .bool false, .int .i64 (.ofNat 0), .int .u8 (.ofNat 0), .int .u8 (.ofNat 0), .int .u8 (.ofNat 0), .int .u8 (.ofNat 0), .int .i64 (.ofNat 0), .int .u8 (.ofNat 0), .int .u8 (.ofNat 0), .int .u8 (.ofNat 0), .int .u8 (.ofNat 0), .int .u8 (.ofNat 0), .bool true, .bool false, .bool false, .bool true, .bool false, .bool false, .bool false, .int .i64 (.ofNat 0), .int .i64 (.ofNat 0), .int .i64 (.ofNat 0), .int .i64 (.ofNat 0), .ptr (some ⟨41, 0, 0⟩), .int .i64 (.ofNat 0), .int .i64 (.ofNat 0), .int .i64 (.ofNat 0), .int .i64 (.ofNat 0), .int .i64 (.ofNat 0), .bool false, .int .i64 (.ofNat 0), .int .u8 (.ofNat 0), .int .u8 (.ofNat 0), .int .u8 (.ofNat 0), .int .u8 (.ofNat 0), .int .i64 (.ofNat 0), .int .u8 (.ofNat 0), .int .u8 (.ofNat 0), .int .u8 (.ofNat 0), .int .u8 (.ofNat 0), .int .u8 (.ofNat 0), .bool false, .int .i64 (.ofNat 0), .int .i64 (.ofNat 0), .int .i64 (.ofNat 0), .int .i64 (.ofNat 0), .int .i64 (.ofNat 0), .bool false, .int .i64 (.ofNat 0), .int .u8 (.ofNat 0), .int .u8 (.ofNat 0), .int .u8 (.ofNat 0), .int .u8 (.ofNat 0), .int .i64 (.ofNat 0), .int .u8 (.ofNat 0), .int .u8 (.ofNat 0), .int .u8 (.ofNat 0), .int .u8 (.ofNat 0), .int .u8 (.ofNat 0), .bool false, .int .i64 (.ofNat 0), .int .i64 (.ofNat 0), .int .i64 (.ofNat 0), .str [], .str [], .str [], .int .i64 (.ofNat 0)])])),
  (21, .cells (cellsR 174 5 5 false 0 0 0 false false [(0, 0, [.ptr (some ⟨22, 0, 0⟩), .ptr (some ⟨31, 0, 0⟩), .int .i64 (.ofNat 0), .int .i64 (.ofNat 0), .ptr none])])),
  (22, .cells (cellsR 176 2 2 false 0 0 0 false false [(0, 0, [.int .i64 (.ofNat 1), .slice (some ⟨30, 0, 0⟩) 1 .toEnd])])),
  (28, .cells (cellsR 143 16 16 false 0 0 0 false false [(0, 0, [.int .i32 (.ofNat 0), .int .i32 (.ofNat 0), .int .i32 (.ofNat 0), .int .i32 (.ofNat 0), .int .i64 (.ofNat 1), .int .i64 (.ofNat 0), .int .u8 (.ofNat 0), .int .u8 (.ofNat 0), .int .u8 (.ofNat 0), .int .u8 (.ofNat 0), .int .i64 (.ofNat 0), .int .u8 (.ofNat 0), .int .u8 (.ofNat 0), .int .u8 (.ofNat 0), .int .u8 (.ofNat 0), .int .u8 (.ofNat 0)])])),
  (30, .cells (cellsR 95 2 2 true 0 0 0 false false [(0, 0, [.slice (some ⟨28, 0, 0⟩) 1 (.exact 1), .bool false])])),
  (31, .cells (cellsR 176 2 2 false 0 0 0 false false [(0, 0, [.int .i64 (.ofNat 1), .slice (some ⟨39, 0, 0⟩) 1 .toEnd])])),
  (37, .cells (cellsR 143 16 16 false 0 0 0 false false [(0, 0, [.int .i32 (.ofNat 0), .int .i32 (.ofNat 0), .int .i32 (.ofNat 0), .int .i32 (.ofNat 0), .int .i64 (.ofNat 1), .int .i64 (.ofNat 0), .int .u8 (.ofNat 0), .int .u8 (.ofNat 0), .int .u8 (.ofNat 0), .int .u8 (.ofNat 0), .int .i64 (.ofNat 0), .int .u8 (.ofNat 0), .int .u8 (.ofNat 0), .int .u8 (.ofNat 0), .int .u8 (.ofNat 0), .int .u8 (.ofNat 0)])])),
  (39, .cells (cellsR 95 2 2 true 0 0 0 false false [(0, 0, [.slice (some ⟨37, 0, 0⟩) 1 (.exact 1), .bool false])])),
  (40, .amap .i64 []),
  (41, .cells (cellsR 228 2 2 false 0 0 0 false false [(0, 0, [.int .i64 (.ofNat 1), .map (some 40)])])),
  (46, .cells (cellsR 136 2 2 false 0 0 0 false false [(0, 0, (nats .i64 [1, 0]))])),
  (47, .cells (cellsR 112 26 26 false 0 0 0 false false [(0, 0, [.slice none 0 (.exact 0), .int .i64 (.ofNat 0), .int .u8 (.ofNat 0), .int .u8 (.ofNat 0), .int .i64 (.ofNat 0), .int .i32 (.ofNat 0), .str [], .int .i64 (.ofNat 0), .int .i64 (.ofNat 0), .int .i64 (.ofNat 0), .int .i64 (.ofNat 0), .int .i64 (.ofNat 0), .int .i64 (.ofNat 0), .int .i64 (.ofNat 0), .int .i64 (.ofNat 0), .int .i64 (.ofNat 0), .int .i64 (.ofNat 0), .int .i64 (.ofNat 0), .int .i64 (.ofNat 0), .int .i64 (.ofNat 0), .int .i64 (.ofNat 0), .int .i64 (.ofNat 0), .int .i64 (.ofNat 0), .int .i64 (.ofNat 0), .bool false, .slice none 0 (.exact 0)])])),
  (48, .cells (cellsR 48 3 3 false 0 0 0 false false [(0, 0, [.ptr (some ⟨47, 0, 0⟩), .ptr (some ⟨20, 0, 0⟩), .ptr (some ⟨46, 0, 0⟩)])]))]
def tAt : APtr := ⟨48, 0, 0⟩
/-- It lies at a. -/
def Ter (B : Nat) (a : Addr) (own : Nat → Prop) (w : World) : Prop := Inst Tryz.prog B tst 49 [.ptr (some tAt)] [.pointer (some a)] own w ∧ ∀ k, own k → k < w.heap.size
theorem Ter.stay {B : Nat} {a : Addr} {own : Nat → Prop} {w w' : World} (H : Ter B a own w) (hb : ∀ k, own k → k < w.heap.size → w'.heap[k]? = w.heap[k]?) (hs : w.heap.size ≤ w'.heap.size) : Ter B a own w' :=
  ⟨H.1.stay hb hs, fun k hk => Nat.lt_of_lt_of_le (H.2 k hk) hs⟩
theorem Ter.base {B : Nat} {a : Addr} {own : Nat → Prop} {w : World} (H : Ter B a own w) : B ≤ w.heap.size ∧ (∀ k, own k → k < w.heap.size) := by
  refine ⟨?_, H.2⟩
  obtain ⟨⟨σ, R, _⟩, _⟩ := H
  exact R.base
theorem gle49 : Tryz.prog.globals.size ≤ 49 := by rw [gsize]; decide
theorem gle50 : Tryz.prog.globals.size ≤ 50 := by rw [gsize]; decide
theorem new_ends : endsAt 15 (.ptr (some tAt)) tst 49 (fstep okMask Tryz.prog (fcallO Tryz.prog okMask 0 60 noS noY) (fun i hd => fcallO Tryz.prog okMask 0 60 noS (fext noY i hd)) 24 [.agg [.int .i64 (.ofNat 1), .int .i64 (.ofNat 1), .int .i64 (.ofNat 0)]] (heapL (tabObjs tabs) 15)) = true := by kernel_rfl
theorem new_any (w : World) (hw : Tabbed w) : Calls Tryz.prog 24 #[.agg #[.int .i64 1, .int .i64 1, .int .i64 0]] w fun e w' => ∃ a own, e = .returned (.pointer (some a)) ∧ Ter w.heap.size a own w' ∧ Below w.heap.size w w' := by
  refine (inst_call (sk := 0) (d := 60) (n := Tryz.prog.globals.size) (n' := 49) (objs' := tst) (v := .ptr (some tAt)) (args := [.agg [.int .i64 (.ofNat 1), .int .i64 (.ofNat 1), .int .i64 (.ofNat 0)]]) (avals := [.agg #[.int .i64 1, .int .i64 1, .int .i64 0]])
    Tryz.checked.mixed (good_of good) look_none Tryz.func24 rfl (Nat.le_refl _) ?_ rfl (fun σ _ _ => ⟨⟨⟨⟨trivial, trivial, trivial, trivial⟩, rfl⟩, trivial⟩, rfl⟩) (inst_start hw.1 hw.2)).mono ?_
  · rw [gsize]; exact new_ends
  · rintro e w' ⟨val, own, he, hI, hb, _, _⟩
    obtain ⟨a, rfl⟩ := hI.ptr
    exact ⟨a, _, he, ⟨hI.tight, fun k hk => hk.2⟩, hb⟩
theorem all_ends : endsAt 49 (.tuple [.slice (some ⟨74, 0, 0⟩) 1 .toEnd, .int .i64 (.ofNat 0), .int .i64 (.ofNat 0)]) tst 75 (fstep okMask Tryz.prog (fcallO Tryz.prog okMask 0 60 noS noY) (fun i hd => fcallO Tryz.prog okMask 0 60 noS (fext noY i hd)) 25 [.ptr (some tAt)] (heapL tst 49)) = true := by kernel_rfl
theorem cut75 : okL 49 (heapL tst 75) tst = true := by kernel_rfl
theorem cut50 : okL 49 (heapL tst 50) tst = true := by kernel_rfl
theorem all_any {B : Nat} {a : Addr} {own : Nat → Prop} {w : World} (hS : Ter B a own w) : Calls Tryz.prog 25 #[.pointer (some a)] w fun e w' => ∃ x own', e = .returned (.tuple #[x, .int .i64 0, .int .i64 0]) ∧ Ter B a own' w' ∧ Below B w w' := by
  refine (inst_call (sk := 0) (d := 60) (avals := [.pointer (some a)]) Tryz.checked.mixed (good_of good) look_none Tryz.func25 rfl gle49 all_ends rfl ?_ hS.1).mono ?_
  · intro σ h1 h2
    exact ⟨h1, h2⟩
  · rintro e w' ⟨val, own', he, hI, hb, _, _⟩
    have hv : ∃ x, val = .tuple #[x, .int .i64 0, .int .i64 0] := by
      obtain ⟨σ, _, _, _, hc, _⟩ := hI
      simp only [concs, List.cons.injEq] at hc
      exact ⟨_, hc.1.symm⟩
    obtain ⟨x, rfl⟩ := hv
    exact ⟨x, _, he, ⟨(hI.tail.cut gle49 cut75 rfl).tight, fun k hk => hk.2⟩, hb⟩
theorem write_ends (ety : TypeId) (cap : Nat) : endsAt 50 (.tuple [.int .i64 (.ofNat 0), .int .i64 (.ofNat 0)]) tst 50 (fstep okMask Tryz.prog (fcallO Tryz.prog okMask 0 60 noS noY) (fun i hd => fcallO Tryz.prog okMask 0 60 noS (fext noY i hd)) 26 [.ptr (some tAt), .slice (some ⟨49, 0, 0⟩) 0 (.exact cap)] (heapL ((49, .cells (readOnly ety 1 [])) :: tst) 50)) = true := by kernel_rfl
theorem write_any {B : Nat} {a : Addr} {own : Nat → Prop} {w : World} (hS : Ter B a own w) {k cap : Nat} {cur : Array Value} {ety : TypeId} {fr : Nat × Nat} (hno : ¬ own k) (hh : w.heap[k]? = some (.cells cur ety fr)) :
    Calls Tryz.prog 26 #[.pointer (some a), .slice (some ⟨k, 0, none⟩) 0 cap] w fun e w' => ∃ own', e = .returned (.tuple #[.int .i64 0, .int .i64 0]) ∧ Ter B a own' w' ∧ Below B w w' := by
  have hk : k < w.heap.size := (Array.getElem?_eq_some_iff.1 hh).1
  have hx : ∀ x ∈ tst, x.1 < 49 ∧ x.1 < 65536 := fun x hx => ⟨(okL_mem cut75 x hx).1, (okL_mem cut75 x hx).2.1⟩
  have hT := hS.1.taken (o := 0) (by decide) hx hk hno [] (es := 1) (by decide) rfl hh (Nat.zero_le _) (fun v hv => by cases hv) (fun i v hv => by simp at hv) 0 cap
  refine (inst_call (sk := 0) (d := 60) (args := [.ptr (some tAt), .slice (some ⟨49, 0, 0⟩) 0 (.exact cap)]) (avals := [.pointer (some a), .slice (some ⟨k, 0, none⟩) 0 cap]) Tryz.checked.mixed (good_of good) look_none Tryz.func26 rfl gle50 (write_ends ety cap) rfl ?_ hT).mono ?_
  · intro σ h1 h2
    refine ⟨⟨h1.2.1, h1.1, trivial⟩, ?_⟩
    simp only [concs, List.cons.injEq] at h2 ⊢
    exact ⟨h2.2.1, h2.1, trivial⟩
  · rintro e w' ⟨val, own', he, hI, hb, _, _⟩
    have hv := hI.plain (.tuple #[.int .i64 0, .int .i64 0]) fun _ => rfl
    rw [hv] at he
    exact ⟨_, he, ⟨(hI.tail.tail.cut gle49 cut50 rfl).tight, fun k hk => hk.2⟩, hb⟩
theorem valid_run : (fcall Tryz.prog okMask 60 17 [.agg [.int .i64 1, .str [], .int .i64 0, .int .i64 0, .int .i64 0]] (Abs.start 15 tabs)).val = some (.bool true) := by kernel_rfl
theorem valid_any (w : World) (hw : Tabbed w) : Calls Tryz.prog 17 #[.agg #[.int .i64 1, .string ⟨#[]⟩, .int .i64 0, .int .i64 0, .int .i64 0]] w fun e w' => e = .returned (.bool true) ∧ Below w.heap.size w w' := by
  have hk := valid_run
  rw [← gsize] at hk
  refine (calls_fast (args := [.agg [.int .i64 1, .str [], .int .i64 0, .int .i64 0, .int .i64 0]]) Tryz.checked.mixed (good_of good) Tryz.func17 rfl hw.1 hw.2 ⟨⟨⟨trivial, trivial, trivial, trivial, trivial, trivial⟩, rfl⟩, trivial⟩ hk).mono fun e w' he => ?_
  obtain ⟨σ', h1, _, h3⟩ := he
  exact ⟨h1, h3⟩
end Go.Proofs.YtekbfckpnooloaaGreatDoor
