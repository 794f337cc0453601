/- A part of the proof of ChunksMany. -/
import Derived.Test.YtdjbjcnkboggjaaGreatDoorTabs
import Derived.Test.YtdjbjcnkboggjaaGreatDoorAbsH
import Derived.Test.YtdjbjcnkboggjaaGreatDoorAbsF
import Derived.KernelRfl
namespace Go.Proofs.YtdjbjcnkboggjaaGreatDoor
open Go.RowKit Go.Abs Go.Rep
set_option maxRecDepth 100000
/-- A new terminal of one row and one column, and the same when it has read a byte 0. -/
noncomputable def tst0 : List (Nat × AObj) := [(18, .cells (cellsR 213 5 5 false 0 0 0 false false [(0, 0, [.int .i64 (.ofNat 0), .int .i64 (.ofNat 64), .int .i64 (.ofNat 0), .int .i64 (.ofNat 0), .slice none 0 (.exact 0)])])),
  (19, .cells (cellsR 168 1 1 false 0 0 0 false false [(0, 0, [.ptr (some ⟨18, 0, 0⟩)])])),
  (20, .cells (cellsR 150 73 73 false 0 0 0 false false [(0, 0, [.int .i64 (.ofNat 1), .int .i64 (.ofNat 1), .ptr (some ⟨21, 0, 0⟩), .ptr (some ⟨19, 0, 0⟩), .int .i64 (.ofNat 0), .int .i64 (.ofNat 0), .bool false, .int .i64 (.ofNat 0), .int .u8 (.ofNat 0), .int .u8 (.ofNat 0), .int .u8 (.ofNat 0), .int .u8 (.ofNat 0), .int .i64 (.ofNat 0), .int .u8 (.ofNat 0), .int .u8 (.ofNat 0), .int .u8 (.ofNat 0), .int .u8 (.ofNat 0), .int .u8 (.ofNat 0), .bool true, .bool false, .bool false, .bool true, .bool false, .bool false, .bool false, .int .i64 (.ofNat 0), .int .i64 (.ofNat 0), .int .i64 (.ofNat 0), .int .i64 (.ofNat 0), .ptr (some ⟨41, 0, 0⟩), .int .i64 (.ofNat 0), .int .i64 (.ofNat 0), .int .i64 (.ofNat 0), .int .i64 (.ofNat 0), .int .i64 (.ofNat 0), .bool false, .int .i64 (.ofNat 0), .int .u8 (.ofNat 0), .int .u8 (.ofNat 0), .int .u8 (.ofNat 0), .int .u8 (.ofNat 0), .int .i64 (.ofNat 0), .int .u8 (.ofNat 0), .int .u8 (.ofNat 0), .int .u8 (.ofNat 0), .int .u8 (.ofNat 0), .int .u8 (.ofNat 0), .bool false, .int .i64 (.ofNat 0), .int .i64 (.ofNat 0), .int .i64 (.ofNat 0), .int .i64 (.ofNat 0), .int .i64 (.ofNat 0), .bool false, .int .i64 (.ofNat 0), .int .u8 (.ofNat 0), .int .u8 (.ofNat 0), .int .u8 (.ofNat 0), .int .u8 (.ofNat 0), .int .i64 (.ofNat 0), .int .u8 (.ofNat 0), .int .u8 (.ofNat 0), .int .u8 (.ofNat 0), .int .u8 (.ofNat 0), .int .u8 (.ofNat 0), .bool false, .int .i64 (.ofNat 0), .int .i64 (.ofNat 0), .int .i64 (.ofNat 0), .str [], .str [], .str [], .int .i64 (.ofNat 0)])])),
  (21, .cells (cellsR 206 5 5 false 0 0 0 false false [(0, 0, [.ptr (some ⟨22, 0, 0⟩), .ptr (some ⟨31, 0, 0⟩), .int .i64 (.ofNat 0), .int .i64 (.ofNat 0), .ptr none])])),
  (22, .cells (cellsR 208 2 2 false 0 0 0 false false [(0, 0, [.int .i64 (.ofNat 1), .slice (some ⟨30, 0, 0⟩) 1 .toEnd])])),
  (28, .cells (cellsR 61 16 16 false 0 0 0 false false [(0, 0, [.int .i32 (.ofNat 0), .int .i32 (.ofNat 0), .int .i32 (.ofNat 0), .int .i32 (.ofNat 0), .int .i64 (.ofNat 1), .int .i64 (.ofNat 0), .int .u8 (.ofNat 0), .int .u8 (.ofNat 0), .int .u8 (.ofNat 0), .int .u8 (.ofNat 0), .int .i64 (.ofNat 0), .int .u8 (.ofNat 0), .int .u8 (.ofNat 0), .int .u8 (.ofNat 0), .int .u8 (.ofNat 0), .int .u8 (.ofNat 0)])])),
  (30, .cells (cellsR 58 2 2 true 0 0 0 false false [(0, 0, [.slice (some ⟨28, 0, 0⟩) 1 (.exact 1), .bool false])])),
  (31, .cells (cellsR 208 2 2 false 0 0 0 false false [(0, 0, [.int .i64 (.ofNat 1), .slice (some ⟨39, 0, 0⟩) 1 .toEnd])])),
  (37, .cells (cellsR 61 16 16 false 0 0 0 false false [(0, 0, [.int .i32 (.ofNat 0), .int .i32 (.ofNat 0), .int .i32 (.ofNat 0), .int .i32 (.ofNat 0), .int .i64 (.ofNat 1), .int .i64 (.ofNat 0), .int .u8 (.ofNat 0), .int .u8 (.ofNat 0), .int .u8 (.ofNat 0), .int .u8 (.ofNat 0), .int .i64 (.ofNat 0), .int .u8 (.ofNat 0), .int .u8 (.ofNat 0), .int .u8 (.ofNat 0), .int .u8 (.ofNat 0), .int .u8 (.ofNat 0)])])),
  (39, .cells (cellsR 58 2 2 true 0 0 0 false false [(0, 0, [.slice (some ⟨37, 0, 0⟩) 1 (.exact 1), .bool false])])),
  (40, .amap .i64 []),
  (41, .cells (cellsR 218 2 2 false 0 0 0 false false [(0, 0, [.int .i64 (.ofNat 1), .map (some 40)])])),
  (46, .cells (cellsR 153 2 2 false 0 0 0 false false [(0, 0, (nats .i64 [1, 0]))])),
  (47, .cells (cellsR 117 26 26 false 0 0 0 false false [(0, 0, [.slice none 0 (.exact 0), .int .i64 (.ofNat 0), .int .u8 (.ofNat 0), .int .u8 (.ofNat 0), .int .i64 (.ofNat 0), .int .i32 (.ofNat 0), .str [], .int .i64 (.ofNat 0), .int .i64 (.ofNat 0), .int .i64 (.ofNat 0), .int .i64 (.ofNat 0), .int .i64 (.ofNat 0), .int .i64 (.ofNat 0), .int .i64 (.ofNat 0), .int .i64 (.ofNat 0), .int .i64 (.ofNat 0), .int .i64 (.ofNat 0), .int .i64 (.ofNat 0), .int .i64 (.ofNat 0), .int .i64 (.ofNat 0), .int .i64 (.ofNat 0), .int .i64 (.ofNat 0), .int .i64 (.ofNat 0), .int .i64 (.ofNat 0), .bool false, .slice none 0 (.exact 0)])])),
  (48, .cells (cellsR 119 3 3 false 0 0 0 false false [(0, 0, [.ptr (some ⟨47, 0, 0⟩), .ptr (some ⟨20, 0, 0⟩), .ptr (some ⟨46, 0, 0⟩)])]))]
noncomputable def tst1 : List (Nat × AObj) := [(18, .cells (cellsR 213 5 5 false 0 0 0 false false [(0, 0, [.int .i64 (.ofNat 0), .int .i64 (.ofNat 64), .int .i64 (.ofNat 0), .int .i64 (.ofNat 0), .slice none 0 (.exact 0)])])),
  (19, .cells (cellsR 168 1 1 false 0 0 0 false false [(0, 0, [.ptr (some ⟨18, 0, 0⟩)])])),
  (20, .cells (cellsR 150 73 73 false 0 0 0 false false [(0, 0, [.int .i64 (.ofNat 1), .int .i64 (.ofNat 1), .ptr (some ⟨21, 0, 0⟩), .ptr (some ⟨19, 0, 0⟩), .int .i64 (.ofNat 0), .int .i64 (.ofNat 0), .bool false, .int .i64 (.ofNat 0), .int .u8 (.ofNat 0), .int .u8 (.ofNat 0), .int .u8 (.ofNat 0), .int .u8 (.ofNat 0), .int .i64 (.ofNat 0), .int .u8 (.ofNat 0), .int .u8 (.ofNat 0), .int .u8 (.ofNat 0), .int .u8 (.ofNat 0), .int .u8 (.ofNat 0), .bool true, .bool false, .bool false, .bool true, .bool false, .bool false, .bool false, .int .i64 (.ofNat 0), .int .i64 (.ofNat 0), .int .i64 (.ofNat 0), .int .i64 (.ofNat 0), .ptr (some ⟨41, 0, 0⟩), .int .i64 (.ofNat 0), .int .i64 (.ofNat 0), .int .i64 (.ofNat 0), .int .i64 (.ofNat 0), .int .i64 (.ofNat 0), .bool false, .int .i64 (.ofNat 0), .int .u8 (.ofNat 0), .int .u8 (.ofNat 0), .int .u8 (.ofNat 0), .int .u8 (.ofNat 0), .int .i64 (.ofNat 0), .int .u8 (.ofNat 0), .int .u8 (.ofNat 0), .int .u8 (.ofNat 0), .int .u8 (.ofNat 0), .int .u8 (.ofNat 0), .bool false, .int .i64 (.ofNat 0), .int .i64 (.ofNat 0), .int .i64 (.ofNat 0), .int .i64 (.ofNat 0), .int .i64 (.ofNat 0), .bool false, .int .i64 (.ofNat 0), .int .u8 (.ofNat 0), .int .u8 (.ofNat 0), .int .u8 (.ofNat 0), .int .u8 (.ofNat 0), .int .i64 (.ofNat 0), .int .u8 (.ofNat 0), .int .u8 (.ofNat 0), .int .u8 (.ofNat 0), .int .u8 (.ofNat 0), .int .u8 (.ofNat 0), .bool false, .int .i64 (.ofNat 0), .int .i64 (.ofNat 0), .int .i64 (.ofNat 0), .str [], .str [], .str [], .int .i64 (.ofNat 0)])])),
  (21, .cells (cellsR 206 5 5 false 0 0 0 false false [(0, 0, [.ptr (some ⟨22, 0, 0⟩), .ptr (some ⟨31, 0, 0⟩), .int .i64 (.ofNat 0), .int .i64 (.ofNat 0), .ptr none])])),
  (22, .cells (cellsR 208 2 2 false 0 0 0 false false [(0, 0, [.int .i64 (.ofNat 1), .slice (some ⟨30, 0, 0⟩) 1 .toEnd])])),
  (28, .cells (cellsR 61 16 16 false 0 0 0 false false [(0, 0, [.int .i32 (.ofNat 0), .int .i32 (.ofNat 0), .int .i32 (.ofNat 0), .int .i32 (.ofNat 0), .int .i64 (.ofNat 1), .int .i64 (.ofNat 0), .int .u8 (.ofNat 0), .int .u8 (.ofNat 0), .int .u8 (.ofNat 0), .int .u8 (.ofNat 0), .int .i64 (.ofNat 0), .int .u8 (.ofNat 0), .int .u8 (.ofNat 0), .int .u8 (.ofNat 0), .int .u8 (.ofNat 0), .int .u8 (.ofNat 0)])])),
  (30, .cells (cellsR 58 2 2 true 0 0 0 false false [(0, 0, [.slice (some ⟨28, 0, 0⟩) 1 (.exact 1), .bool false])])),
  (31, .cells (cellsR 208 2 2 false 0 0 0 false false [(0, 0, [.int .i64 (.ofNat 1), .slice (some ⟨39, 0, 0⟩) 1 .toEnd])])),
  (37, .cells (cellsR 61 16 16 false 0 0 0 false false [(0, 0, [.int .i32 (.ofNat 0), .int .i32 (.ofNat 0), .int .i32 (.ofNat 0), .int .i32 (.ofNat 0), .int .i64 (.ofNat 1), .int .i64 (.ofNat 0), .int .u8 (.ofNat 0), .int .u8 (.ofNat 0), .int .u8 (.ofNat 0), .int .u8 (.ofNat 0), .int .i64 (.ofNat 0), .int .u8 (.ofNat 0), .int .u8 (.ofNat 0), .int .u8 (.ofNat 0), .int .u8 (.ofNat 0), .int .u8 (.ofNat 0)])])),
  (39, .cells (cellsR 58 2 2 true 0 0 0 false false [(0, 0, [.slice (some ⟨37, 0, 0⟩) 1 (.exact 1), .bool false])])),
  (40, .amap .i64 []),
  (41, .cells (cellsR 218 2 2 false 0 0 0 false false [(0, 0, [.int .i64 (.ofNat 1), .map (some 40)])])),
  (46, .cells (cellsR 153 2 2 false 0 0 0 false false [(0, 0, (nats .i64 [1, 0]))])),
  (47, .cells (cellsR 117 26 26 false 0 0 0 false false [(0, 0, [.slice none 0 (.exact 0), .int .i64 (.ofNat 0), .int .u8 (.ofNat 128), .int .u8 (.ofNat 191), .int .i64 (.ofNat 0), .int .i32 (.ofNat 0), .str [], .int .i64 (.ofNat 0), .int .i64 (.ofNat 0), .int .i64 (.ofNat 0), .int .i64 (.ofNat 0), .int .i64 (.ofNat 0), .int .i64 (.ofNat 0), .int .i64 (.ofNat 0), .int .i64 (.ofNat 0), .int .i64 (.ofNat 0), .int .i64 (.ofNat 0), .int .i64 (.ofNat 0), .int .i64 (.ofNat 0), .int .i64 (.ofNat 0), .int .i64 (.ofNat 0), .int .i64 (.ofNat 0), .int .i64 (.ofNat 0), .int .i64 (.ofNat 0), .bool false, .slice none 0 (.exact 0)])])),
  (48, .cells (cellsR 119 3 3 false 0 0 0 false false [(0, 0, [.ptr (some ⟨47, 0, 0⟩), .ptr (some ⟨20, 0, 0⟩), .ptr (some ⟨46, 0, 0⟩)])]))]
noncomputable def tst (b : Bool) : List (Nat × AObj) := Bool.rec tst0 tst1 b
/-- It lies at ga, its screen at gs, its parser at gp. -/
def Ter (B ga gs gp : Nat) (own : Nat → Prop) (w : World) : Prop := ∃ b : Bool, Inst Tryz.prog B (tst b) 49 [.ptr (some ⟨48, 0, 0⟩), .ptr (some ⟨20, 0, 0⟩), .ptr (some ⟨47, 0, 0⟩)] [.pointer (some ⟨ga, 0, none⟩), .pointer (some ⟨gs, 0, none⟩), .pointer (some ⟨gp, 0, none⟩)] own w ∧ ∀ k, own k → k < w.heap.size
def Keeps (own own' : Nat → Prop) (w w' : World) : Prop := (∀ k, k < w.heap.size → ¬ own k → w'.heap[k]? = w.heap[k]?) ∧ (∀ k, own' k → own k ∨ w.heap.size ≤ k)
theorem gle49 : Tryz.prog.globals.size ≤ 49 := by rw [gsize]; decide
theorem gleG : Tryz.prog.globals.size ≤ 15 := by rw [gsize]; decide
section
variable {B ga gs gp : Nat} {own : Nat → Prop} {w w' : World}
theorem Ter.stay (H : Ter B ga gs gp own w) (hb : ∀ k, own k → w'.heap[k]? = w.heap[k]?) (hs : w.heap.size ≤ w'.heap.size) : Ter B ga gs gp own w' := by
  obtain ⟨b, h1, h2⟩ := H
  exact ⟨b, h1.stay (fun k hk _ => hb k hk) hs, fun k hk => Nat.lt_of_lt_of_le (h2 k hk) hs⟩
theorem Ter.base (H : Ter B ga gs gp own w) : B ≤ w.heap.size := by
  obtain ⟨b, ⟨σ, R, _⟩, _⟩ := H
  exact R.base
theorem Ter.lt (H : Ter B ga gs gp own w) : ∀ k, own k → k < w.heap.size := by
  obtain ⟨b, _, h⟩ := H
  exact h
theorem cell_p (b : Bool) : cellIn (heapL (tst b) 49) 48 0 = some (.ptr (some ⟨47, 0, 0⟩)) := by cases b <;> kernel_rfl
theorem cell_s (b : Bool) : cellIn (heapL (tst b) 49) 48 1 = some (.ptr (some ⟨20, 0, 0⟩)) := by cases b <;> kernel_rfl
theorem Ter.cells (H : Ter B ga gs gp own w) : w.cell? ⟨ga, 0, none⟩ = some (.pointer (some ⟨gp, 0, none⟩)) ∧ w.cell? ⟨ga, 1, none⟩ = some (.pointer (some ⟨gs, 0, none⟩)) := by
  obtain ⟨b, ⟨σ, R, hf, hv, hc, ho⟩, _⟩ := H
  simp only [concs, List.cons.injEq] at hc
  obtain ⟨_, _, q1, _⟩ := R.cell_in hv.1 hc.1 (cell_p b)
  obtain ⟨_, _, q2, _⟩ := R.cell_in hv.1 hc.1 (cell_s b)
  rw [hc.2.2.1] at q1
  rw [hc.2.1] at q2
  exact ⟨q1, q2⟩
/-- Names no address. -/
def plainB : AVal → Bool
  | .bool _ => true
  | .int _ _ => true
  | .str _ => true
  | .slice none _ (.exact _) => true
  | _ => false
theorem plainB_conc {v : AVal} (h : plainB v = true) (σ : Real) : conc σ v = conc (fun _ _ => none) v := by
  unfold plainB at h
  split at h <;> first | rfl | cases h
theorem plain_all {l : List AVal} (h : l.all plainB = true) : ∀ v ∈ l, ∀ σ, conc σ v = conc (fun _ _ => none) v := fun v hv σ => plainB_conc (List.all_eq_true.1 h v hv) σ
def actA : List AVal := [.int .i64 (.ofNat 2), .int .i32 (.ofNat 0), .int .i32 (.ofNat 0), .str [], .slice none 0 (.exact 0), .str []]
def actV : List Value := [.int .i64 2, .int .i32 0, .int .i32 0, .string ⟨#[]⟩, .slice none 0 0, .string ⟨#[]⟩]
def tlA : List AVal := [.int .i64 (.ofNat 1), .int .i64 (.ofNat 0), .int .i64 (.ofNat 0), .int .i64 (.ofNat 0), .int .i64 (.ofNat 0), .int .i64 (.ofNat 0), .bool false, .bool true, .bool false, .bool false, .bool true, .bool false, .bool false, .bool false, .int .i64 (.ofNat 0), .int .i64 (.ofNat 0), .int .i64 (.ofNat 0), .int .u8 (.ofNat 0), .int .u8 (.ofNat 0), .int .u8 (.ofNat 0), .int .u8 (.ofNat 0), .int .i64 (.ofNat 0), .int .u8 (.ofNat 0), .int .u8 (.ofNat 0), .int .u8 (.ofNat 0), .int .u8 (.ofNat 0), .int .u8 (.ofNat 0), .str []]
def c16A : List AVal := [.int .i32 (.ofNat 0), .int .i32 (.ofNat 0), .int .i32 (.ofNat 0), .int .i32 (.ofNat 0), .int .i64 (.ofNat 1), .int .i64 (.ofNat 0), .int .u8 (.ofNat 0), .int .u8 (.ofNat 0), .int .u8 (.ofNat 0), .int .u8 (.ofNat 0), .int .i64 (.ofNat 0), .int .u8 (.ofNat 0), .int .u8 (.ofNat 0), .int .u8 (.ofNat 0), .int .u8 (.ofNat 0), .int .u8 (.ofNat 0)]
theorem step_ends (b : Bool) : endsAt 49 (.slice (some ⟨49, 0, 0⟩) 1 (.exact 1)) ((49, .cells (cellsR 21 1 1 false 0 0 0 false false [(0, 0, [.int .i32 (.ofNat 0)])])) :: tst true) 50 (fstep okMask Tryz.prog (fcallO Tryz.prog okMask 0 60 noS noY) (fun i hd => fcallO Tryz.prog okMask 0 60 noS (fext noY i hd)) 92 [.ptr (some ⟨47, 0, 0⟩), .int .u8 (.ofNat 0)] (heapL (tst b) 49)) = true := by cases b <;> kernel_rfl
theorem step_cut (b : Bool) : okL 49 (heapL ((49, .cells (cellsR 21 1 1 false 0 0 0 false false [(0, 0, [.int .i32 (.ofNat 0)])])) :: tst true) 50) (tst true) = true := by cases b <;> kernel_rfl
theorem step_any (H : Ter B ga gs gp own w) : Calls Tryz.prog 92 #[.pointer (some ⟨gp, 0, none⟩), .int .u8 0] w fun e w' => ∃ val own', e = .returned val ∧ (∃ A c, val = .slice A 1 c ∧ Reads w' w'.heap.size 1 A 1 [.int .i32 0]) ∧ Ter B ga gs gp own' w' ∧ Below B w w' ∧ Keeps own own' w w' := by
  obtain ⟨b, HI, ht⟩ := H
  refine (inst_call (sk := 0) (d := 60) (args := [.ptr (some ⟨47, 0, 0⟩), .int .u8 (.ofNat 0)]) (avals := [.pointer (some ⟨gp, 0, none⟩), .int .u8 0]) Tryz.checked.mixed (good_of good) look_none Tryz.func92 rfl gle49 (step_ends b) rfl (fun σ h1 h2 => ?_) HI).mono ?_
  · simp only [concs, List.cons.injEq] at h2
    exact ⟨⟨h1.2.2.1, trivial, trivial⟩, by simp only [concs, List.cons.injEq]; exact ⟨h2.2.2.1, rfl, trivial⟩⟩
  · rintro e w' ⟨val, own', he, hI, hb, hk, ho⟩
    have hfact := hI.row (es := 1) (cs := [.int .i32 (.ofNat 0)]) (xs := [.int .i32 0]) (by kernel_rfl) (fun _ => rfl) rfl
    exact ⟨val, _, he, hfact, ⟨true, (hI.tail.drop gle49 (step_cut b) rfl).tight, fun k hk => hk.2⟩, hb, hk, fun k hk => ho k hk.1⟩
theorem pstep_ends (b : Bool) : endsAt 49 (.slice (some ⟨49, 0, 0⟩) 1 (.exact 1)) ((49, .cells (cellsR 125 6 6 false 0 0 0 false false [(0, 0, [.int .i64 (.ofNat 2), .int .i32 (.ofNat 0), .int .i32 (.ofNat 0), .str [], .slice none 0 (.exact 0), .str []])])) :: tst b) 50 (fstep okMask Tryz.prog (fcallO Tryz.prog okMask 0 60 noS noY) (fun i hd => fcallO Tryz.prog okMask 0 60 noS (fext noY i hd)) 64 [.ptr (some ⟨47, 0, 0⟩), .int .i32 (.ofNat 0)] (heapL (tst b) 49)) = true := by cases b <;> kernel_rfl
theorem pstep_cut (b : Bool) : okL 49 (heapL ((49, .cells (cellsR 125 6 6 false 0 0 0 false false [(0, 0, [.int .i64 (.ofNat 2), .int .i32 (.ofNat 0), .int .i32 (.ofNat 0), .str [], .slice none 0 (.exact 0), .str []])])) :: tst b) 50) (tst b) = true := by cases b <;> kernel_rfl
theorem pstep_any (H : Ter B ga gs gp own w) : Calls Tryz.prog 64 #[.pointer (some ⟨gp, 0, none⟩), .int .i32 0] w fun e w' => ∃ val own', e = .returned val ∧ (∃ A c, val = .slice A 1 c ∧ Reads w' w'.heap.size 6 A 1 actV) ∧ Ter B ga gs gp own' w' ∧ Below B w w' ∧ Keeps own own' w w' := by
  obtain ⟨b, HI, ht⟩ := H
  refine (inst_call (sk := 0) (d := 60) (args := [.ptr (some ⟨47, 0, 0⟩), .int .i32 (.ofNat 0)]) (avals := [.pointer (some ⟨gp, 0, none⟩), .int .i32 0]) Tryz.checked.mixed (good_of good) look_none Tryz.func64 rfl gle49 (pstep_ends b) rfl (fun σ h1 h2 => ?_) HI).mono ?_
  · simp only [concs, List.cons.injEq] at h2
    exact ⟨⟨h1.2.2.1, trivial, trivial⟩, by simp only [concs, List.cons.injEq]; exact ⟨h2.2.2.1, rfl, trivial⟩⟩
  · rintro e w' ⟨val, own', he, hI, hb, hk, ho⟩
    have hfact := hI.row (es := 6) (cs := actA) (xs := actV) (by cases b <;> kernel_rfl) (fun _ => rfl) rfl
    exact ⟨val, _, he, hfact, ⟨b, (hI.tail.drop gle49 (pstep_cut b) rfl).tight, fun k hk => hk.2⟩, hb, hk, fun k hk => ho k hk.1⟩
theorem do_ends (b : Bool) : endsAt 49 (.tuple [.int .i64 (.ofNat 0), .int .i64 (.ofNat 0)]) (tst b) 49 (fstep okMask Tryz.prog (fcallO Tryz.prog okMask 0 60 noS noY) (fun i hd => fcallO Tryz.prog okMask 0 60 noS (fext noY i hd)) 40 [.ptr (some ⟨20, 0, 0⟩), .agg actA] (heapL (tst b) 49)) = true := by cases b <;> kernel_rfl
theorem do_cut (b : Bool) : okL 49 (heapL (tst b) 49) (tst b) = true := by cases b <;> kernel_rfl
theorem do_any (H : Ter B ga gs gp own w) : Calls Tryz.prog 40 #[.pointer (some ⟨gs, 0, none⟩), .agg #[.int .i64 2, .int .i32 0, .int .i32 0, .string ⟨#[]⟩, .slice none 0 0, .string ⟨#[]⟩]] w fun e w' => ∃ val own', e = .returned val ∧ (val = .tuple #[.int .i64 0, .int .i64 0]) ∧ Ter B ga gs gp own' w' ∧ Below B w w' ∧ Keeps own own' w w' := by
  obtain ⟨b, HI, ht⟩ := H
  refine (inst_call (sk := 0) (d := 60) (args := [.ptr (some ⟨20, 0, 0⟩), .agg actA]) (avals := [.pointer (some ⟨gs, 0, none⟩), .agg #[.int .i64 2, .int .i32 0, .int .i32 0, .string ⟨#[]⟩, .slice none 0 0, .string ⟨#[]⟩]]) Tryz.checked.mixed (good_of good) look_none Tryz.func40 rfl gle49 (do_ends b) rfl (fun σ h1 h2 => ?_) HI).mono ?_
  · simp only [concs, List.cons.injEq] at h2
    exact ⟨⟨h1.2.1, ⟨⟨trivial, trivial, trivial, trivial, ⟨_, rfl⟩, trivial, trivial⟩, rfl⟩, trivial⟩, by simp only [concs, List.cons.injEq]; exact ⟨h2.2.1, rfl, trivial⟩⟩
  · rintro e w' ⟨val, own', he, hI, hb, hk, ho⟩
    have hfact := hI.plain (.tuple #[.int .i64 0, .int .i64 0]) fun _ => rfl
    exact ⟨val, _, he, hfact, ⟨b, (hI.tail.drop gle49 (do_cut b) rfl).tight, fun k hk => hk.2⟩, hb, hk, fun k hk => ho k hk.1⟩
theorem follow_ends (b : Bool) : endsAt 49 (.int .i64 (.ofNat 0)) (tst b) 49 (fstep okMask Tryz.prog (fcallO Tryz.prog okMask 0 60 noS noY) (fun i hd => fcallO Tryz.prog okMask 0 60 noS (fext noY i hd)) 41 [.ptr (some ⟨48, 0, 0⟩), .int .i64 (.ofNat 0)] (heapL (tst b) 49)) = true := by cases b <;> kernel_rfl
theorem follow_cut (b : Bool) : okL 49 (heapL (tst b) 49) (tst b) = true := by cases b <;> kernel_rfl
theorem follow_any (H : Ter B ga gs gp own w) : Calls Tryz.prog 41 #[.pointer (some ⟨ga, 0, none⟩), .int .i64 0] w fun e w' => ∃ val own', e = .returned val ∧ (val = .int .i64 0) ∧ Ter B ga gs gp own' w' ∧ Below B w w' ∧ Keeps own own' w w' := by
  obtain ⟨b, HI, ht⟩ := H
  refine (inst_call (sk := 0) (d := 60) (args := [.ptr (some ⟨48, 0, 0⟩), .int .i64 (.ofNat 0)]) (avals := [.pointer (some ⟨ga, 0, none⟩), .int .i64 0]) Tryz.checked.mixed (good_of good) look_none Tryz.func41 rfl gle49 (follow_ends b) rfl (fun σ h1 h2 => ?_) HI).mono ?_
  · simp only [concs, List.cons.injEq] at h2
    exact ⟨⟨h1.1, trivial, trivial⟩, by simp only [concs, List.cons.injEq]; exact ⟨h2.1, rfl, trivial⟩⟩
  · rintro e w' ⟨val, own', he, hI, hb, hk, ho⟩
    have hfact := hI.plain (.int .i64 0) fun _ => rfl
    exact ⟨val, _, he, hfact, ⟨b, (hI.tail.drop gle49 (follow_cut b) rfl).tight, fun k hk => hk.2⟩, hb, hk, fun k hk => ho k hk.1⟩
theorem zero_ends (b : Bool) : endsAt 49 (.bool false) (tst b) 49 (fstep okMask Tryz.prog (fcallO Tryz.prog okMask 0 60 noS noY) (fun i hd => fcallO Tryz.prog okMask 0 60 noS (fext noY i hd)) 38 [.ptr (some ⟨48, 0, 0⟩)] (heapL (tst b) 49)) = true := by cases b <;> kernel_rfl
theorem zero_cut (b : Bool) : okL 49 (heapL (tst b) 49) (tst b) = true := by cases b <;> kernel_rfl
theorem zero_any (H : Ter B ga gs gp own w) : Calls Tryz.prog 38 #[.pointer (some ⟨ga, 0, none⟩)] w fun e w' => ∃ val own', e = .returned val ∧ (val = .bool false) ∧ Ter B ga gs gp own' w' ∧ Below B w w' ∧ Keeps own own' w w' := by
  obtain ⟨b, HI, ht⟩ := H
  refine (inst_call (sk := 0) (d := 60) (args := [.ptr (some ⟨48, 0, 0⟩)]) (avals := [.pointer (some ⟨ga, 0, none⟩)]) Tryz.checked.mixed (good_of good) look_none Tryz.func38 rfl gle49 (zero_ends b) rfl (fun σ h1 h2 => ?_) HI).mono ?_
  · simp only [concs, List.cons.injEq] at h2
    exact ⟨⟨h1.1, trivial⟩, by simp only [concs, List.cons.injEq]; exact ⟨h2.1, trivial⟩⟩
  · rintro e w' ⟨val, own', he, hI, hb, hk, ho⟩
    have hfact := hI.plain (.bool false) fun _ => rfl
    exact ⟨val, _, he, hfact, ⟨b, (hI.tail.drop gle49 (zero_cut b) rfl).tight, fun k hk => hk.2⟩, hb, hk, fun k hk => ho k hk.1⟩
theorem rep_ends (b : Bool) : endsAt 49 (.str []) (tst b) 49 (fstep okMask Tryz.prog (fcallO Tryz.prog okMask 0 60 noS noY) (fun i hd => fcallO Tryz.prog okMask 0 60 noS (fext noY i hd)) 27 [.ptr (some ⟨48, 0, 0⟩)] (heapL (tst b) 49)) = true := by cases b <;> kernel_rfl
theorem rep_cut (b : Bool) : okL 49 (heapL (tst b) 49) (tst b) = true := by cases b <;> kernel_rfl
theorem rep_any (H : Ter B ga gs gp own w) : Calls Tryz.prog 27 #[.pointer (some ⟨ga, 0, none⟩)] w fun e w' => ∃ val own', e = .returned val ∧ (val = .string ⟨#[]⟩) ∧ Ter B ga gs gp own' w' ∧ Below B w w' ∧ Keeps own own' w w' := by
  obtain ⟨b, HI, ht⟩ := H
  refine (inst_call (sk := 0) (d := 60) (args := [.ptr (some ⟨48, 0, 0⟩)]) (avals := [.pointer (some ⟨ga, 0, none⟩)]) Tryz.checked.mixed (good_of good) look_none Tryz.func27 rfl gle49 (rep_ends b) rfl (fun σ h1 h2 => ?_) HI).mono ?_
  · simp only [concs, List.cons.injEq] at h2
    exact ⟨⟨h1.1, trivial⟩, by simp only [concs, List.cons.injEq]; exact ⟨h2.1, trivial⟩⟩
  · rintro e w' ⟨val, own', he, hI, hb, hk, ho⟩
    have hfact := hI.plain (.string ⟨#[]⟩) fun _ => rfl
    exact ⟨val, _, he, hfact, ⟨b, (hI.tail.drop gle49 (rep_cut b) rfl).tight, fun k hk => hk.2⟩, hb, hk, fun k hk => ho k hk.1⟩
theorem snap_ends (b : Bool) : endsAt 49 (.agg (.slice (some ⟨76, 0, 0⟩) 1 .toEnd :: tlA)) ((74, .cells (cellsR 61 16 16 true 0 0 0 false false [(0, 0, [.int .i32 (.ofNat 0), .int .i32 (.ofNat 0), .int .i32 (.ofNat 0), .int .i32 (.ofNat 0), .int .i64 (.ofNat 1), .int .i64 (.ofNat 0), .int .u8 (.ofNat 0), .int .u8 (.ofNat 0), .int .u8 (.ofNat 0), .int .u8 (.ofNat 0), .int .i64 (.ofNat 0), .int .u8 (.ofNat 0), .int .u8 (.ofNat 0), .int .u8 (.ofNat 0), .int .u8 (.ofNat 0), .int .u8 (.ofNat 0)])])) :: (76, .cells (cellsR 58 2 2 true 0 0 0 false false [(0, 0, [.slice (some ⟨74, 0, 0⟩) 1 .toEnd, .bool false])])) :: tst b) 77 (fstep okMask Tryz.prog (fcallO Tryz.prog okMask 0 60 noS noY) (fun i hd => fcallO Tryz.prog okMask 0 60 noS (fext noY i hd)) 26 [.ptr (some ⟨48, 0, 0⟩)] (heapL (tst b) 49)) = true := by cases b <;> kernel_rfl
theorem snap_cut (b : Bool) : okL 49 (heapL ((74, .cells (cellsR 61 16 16 true 0 0 0 false false [(0, 0, [.int .i32 (.ofNat 0), .int .i32 (.ofNat 0), .int .i32 (.ofNat 0), .int .i32 (.ofNat 0), .int .i64 (.ofNat 1), .int .i64 (.ofNat 0), .int .u8 (.ofNat 0), .int .u8 (.ofNat 0), .int .u8 (.ofNat 0), .int .u8 (.ofNat 0), .int .i64 (.ofNat 0), .int .u8 (.ofNat 0), .int .u8 (.ofNat 0), .int .u8 (.ofNat 0), .int .u8 (.ofNat 0), .int .u8 (.ofNat 0)])])) :: (76, .cells (cellsR 58 2 2 true 0 0 0 false false [(0, 0, [.slice (some ⟨74, 0, 0⟩) 1 .toEnd, .bool false])])) :: tst b) 77) (tst b) = true := by cases b <;> kernel_rfl
theorem snap_any (H : Ter B ga gs gp own w) : Calls Tryz.prog 26 #[.pointer (some ⟨ga, 0, none⟩)] w fun e w' => ∃ val own', e = .returned val ∧ SnapAt tlA c16A w' (fun k => B ≤ k ∧ k < w'.heap.size ∧ ¬ own' k) val ∧ Ter B ga gs gp own' w' ∧ Below B w w' ∧ Keeps own own' w w' := by
  obtain ⟨b, HI, ht⟩ := H
  refine (inst_call (sk := 0) (d := 60) (args := [.ptr (some ⟨48, 0, 0⟩)]) (avals := [.pointer (some ⟨ga, 0, none⟩)]) Tryz.checked.mixed (good_of good) look_none Tryz.func26 rfl gle49 (snap_ends b) rfl (fun σ h1 h2 => ?_) HI).mono ?_
  · simp only [concs, List.cons.injEq] at h2
    exact ⟨⟨h1.1, trivial⟩, by simp only [concs, List.cons.injEq]; exact ⟨h2.1, trivial⟩⟩
  · rintro e w' ⟨val, own', he, hI, hb, hk, ho⟩
    obtain ⟨own2, g1, g2, g3⟩ := hI.snapDrop (fl := 76) (fc := 74) (c16 := c16A) (by decide) (by cases b <;> kernel_rfl) (plain_all rfl) (plain_all rfl) (by decide) gle49 (snap_cut b) rfl (by decide) (by decide)
    exact ⟨val, own2, he, g3, ⟨b, g1, fun k hk => (g2 k hk).2⟩, hb, hk, fun k hk => ho k (g2 k hk).1⟩
end
theorem new_ends : endsAt 15 (.ptr (some ⟨48, 0, 0⟩)) (tst false) 49 (fstep okMask Tryz.prog (fcallO Tryz.prog okMask 0 60 noS noY) (fun i hd => fcallO Tryz.prog okMask 0 60 noS (fext noY i hd)) 24 [.agg [.int .i64 (.ofNat 1), .int .i64 (.ofNat 1), .int .i64 (.ofNat 0)]] (heapL [] 15)) = true := by kernel_rfl
theorem new_any (w : World) (hw : Tryz.prog.globals.size ≤ w.heap.size) : Calls Tryz.prog 24 #[.agg #[.int .i64 1, .int .i64 1, .int .i64 0]] w fun e w' => ∃ ga gs gp own, e = .returned (.pointer (some ⟨ga, 0, none⟩)) ∧ Ter w.heap.size ga gs gp own w' ∧ Below w.heap.size w w' := by
  have H0 := inst_start (P := Tryz.prog) (W := w) (ts := []) hw (fun t ht => by cases ht)
  rw [gsize] at H0
  refine (inst_call (sk := 0) (d := 60) (n := 15) (n' := 49) (objs' := tst false) (v := .ptr (some ⟨48, 0, 0⟩)) (args := [.agg [.int .i64 (.ofNat 1), .int .i64 (.ofNat 1), .int .i64 (.ofNat 0)]]) (avals := [.agg #[.int .i64 1, .int .i64 1, .int .i64 0]])
    Tryz.checked.mixed (good_of good) look_none Tryz.func24 rfl gleG new_ends rfl (fun σ _ _ => ⟨⟨⟨⟨trivial, trivial, trivial, trivial⟩, rfl⟩, trivial⟩, rfl⟩) H0).mono ?_
  rintro e w' ⟨val, own, he, hI, hb, _, _⟩
  obtain ⟨a, rfl⟩ := hI.ptr
  obtain ⟨p, hI⟩ := hI.ptrs (cell_p false)
  obtain ⟨s, hI⟩ := hI.ptrs (cell_s false)
  obtain ⟨σ, R, hf, hv, hc, ho⟩ := hI
  simp only [concs, List.cons.injEq] at hc
  obtain ⟨_, ha, _, _⟩ := R.cell_in hv.1 hc.1 (cell_p false)
  obtain ⟨_, hs, _, _⟩ := R.cell_in hv.2.1 hc.2.1 (i := 0) (v := .int .i64 (.ofNat 1)) (by kernel_rfl)
  obtain ⟨_, hp, _, _⟩ := R.cell_in hv.2.2.1 hc.2.2.1 (i := 1) (v := .int .i64 (.ofNat 0)) (by kernel_rfl)
  refine ⟨a.block, s.block, p.block, fun k => own k ∧ k < w'.heap.size, by rw [he, ← ha], ⟨false, ?_⟩, hb⟩
  rw [← ha, ← hs, ← hp]
  have hI : Inst Tryz.prog w.heap.size (tst false) 49 [.ptr (some ⟨48, 0, 0⟩), .ptr (some ⟨20, 0, 0⟩), .ptr (some ⟨47, 0, 0⟩)] [.pointer (some a), .pointer (some s), .pointer (some p)] own w' :=
    ⟨σ, R, hf, hv, by simp only [concs, List.cons.injEq]; exact hc, ho⟩
  exact ⟨hI.tight, fun k hk => hk.2⟩
/-- The reference's terminal. -/
noncomputable def rst : List (Nat × AObj) := [(19, .cells (cellsR 91 75 75 false 0 0 0 false false [(0, 0, [.int .i64 (.ofNat 1), .int .i64 (.ofNat 1), .int .i64 (.ofNat 0), .slice none 0 (.exact 0), .int .i64 (.ofNat 0), .ptr (some ⟨40, 0, 0⟩), .int .i64 (.ofNat 0), .int .i64 (.ofNat 0), .bool false, .int .i64 (.ofNat 0), .int .u8 (.ofNat 0), .int .u8 (.ofNat 0), .int .u8 (.ofNat 0), .int .u8 (.ofNat 0), .int .i64 (.ofNat 0), .int .u8 (.ofNat 0), .int .u8 (.ofNat 0), .int .u8 (.ofNat 0), .int .u8 (.ofNat 0), .int .u8 (.ofNat 0), .bool true, .bool false, .bool false, .bool true, .bool false, .bool false, .bool false, .int .i64 (.ofNat 0), .int .i64 (.ofNat 0), .int .i64 (.ofNat 0), .int .i64 (.ofNat 0), .ptr (some ⟨41, 0, 0⟩), .int .i64 (.ofNat 0), .int .i64 (.ofNat 0), .int .i64 (.ofNat 0), .int .i64 (.ofNat 0), .int .i64 (.ofNat 0), .bool false, .int .i64 (.ofNat 0), .int .u8 (.ofNat 0), .int .u8 (.ofNat 0), .int .u8 (.ofNat 0), .int .u8 (.ofNat 0), .int .i64 (.ofNat 0), .int .u8 (.ofNat 0), .int .u8 (.ofNat 0), .int .u8 (.ofNat 0), .int .u8 (.ofNat 0), .int .u8 (.ofNat 0), .bool false, .int .i64 (.ofNat 0), .int .i64 (.ofNat 0), .int .i64 (.ofNat 0), .int .i64 (.ofNat 0), .int .i64 (.ofNat 0), .bool false, .int .i64 (.ofNat 0), .int .u8 (.ofNat 0), .int .u8 (.ofNat 0), .int .u8 (.ofNat 0), .int .u8 (.ofNat 0), .int .i64 (.ofNat 0), .int .u8 (.ofNat 0), .int .u8 (.ofNat 0), .int .u8 (.ofNat 0), .int .u8 (.ofNat 0), .int .u8 (.ofNat 0), .bool false, .int .i64 (.ofNat 0), .int .i64 (.ofNat 0), .int .i64 (.ofNat 0), .str [], .str [], .str [], .int .i64 (.ofNat 0)])])),
  (20, .cells (cellsR 141 2 2 false 0 0 0 false false [(0, 0, [.int .i64 (.ofNat 1), .slice (some ⟨29, 0, 0⟩) 1 .toEnd])])),
  (27, .cells (cellsR 61 16 16 true 0 0 0 false false [(0, 0, [.int .i32 (.ofNat 0), .int .i32 (.ofNat 0), .int .i32 (.ofNat 0), .int .i32 (.ofNat 0), .int .i64 (.ofNat 1), .int .i64 (.ofNat 0), .int .u8 (.ofNat 0), .int .u8 (.ofNat 0), .int .u8 (.ofNat 0), .int .u8 (.ofNat 0), .int .i64 (.ofNat 0), .int .u8 (.ofNat 0), .int .u8 (.ofNat 0), .int .u8 (.ofNat 0), .int .u8 (.ofNat 0), .int .u8 (.ofNat 0)])])),
  (29, .cells (cellsR 58 2 2 true 0 0 0 false false [(0, 0, [.slice (some ⟨27, 0, 0⟩) 1 .toEnd, .bool false])])),
  (30, .cells (cellsR 141 2 2 false 0 0 0 false false [(0, 0, [.int .i64 (.ofNat 1), .slice (some ⟨39, 0, 0⟩) 1 .toEnd])])),
  (37, .cells (cellsR 61 16 16 true 0 0 0 false false [(0, 0, [.int .i32 (.ofNat 0), .int .i32 (.ofNat 0), .int .i32 (.ofNat 0), .int .i32 (.ofNat 0), .int .i64 (.ofNat 1), .int .i64 (.ofNat 0), .int .u8 (.ofNat 0), .int .u8 (.ofNat 0), .int .u8 (.ofNat 0), .int .u8 (.ofNat 0), .int .i64 (.ofNat 0), .int .u8 (.ofNat 0), .int .u8 (.ofNat 0), .int .u8 (.ofNat 0), .int .u8 (.ofNat 0), .int .u8 (.ofNat 0)])])),
  (39, .cells (cellsR 58 2 2 true 0 0 0 false false [(0, 0, [.slice (some ⟨37, 0, 0⟩) 1 .toEnd, .bool false])])),
  (40, .cells (cellsR 173 22 22 false 0 0 0 false false [(0, 0, [.ptr (some ⟨20, 0, 0⟩), .ptr (some ⟨30, 0, 0⟩), .int .i64 (.ofNat 0), .int .i64 (.ofNat 0), .int .i64 (.ofNat 0), .bool false, .int .i64 (.ofNat 0), .int .u8 (.ofNat 0), .int .u8 (.ofNat 0), .int .u8 (.ofNat 0), .int .u8 (.ofNat 0), .int .i64 (.ofNat 0), .int .u8 (.ofNat 0), .int .u8 (.ofNat 0), .int .u8 (.ofNat 0), .int .u8 (.ofNat 0), .int .u8 (.ofNat 0), .bool false, .int .i64 (.ofNat 0), .int .i64 (.ofNat 0), .int .i64 (.ofNat 0), .bool false])])),
  (41, .cells (cellsR 176 1 1 false 0 0 0 false false [(0, 0, [.slice (some ⟨43, 0, 0⟩) 1 .toEnd])])),
  (43, .cells (cellsR 4 1 1 true 0 0 0 false false [(0, 0, [.bool false])])),
  (45, .cells (cellsR 78 5 5 false 0 0 0 false false [(0, 0, [.str [], .str [], .slice none 0 (.exact 0), .ptr (some ⟨19, 0, 0⟩), .int .i64 (.ofNat 0)])]))]
def RTer (B : Nat) (a : Addr) (own : Nat → Prop) (w : World) : Prop := Inst Tryz.prog B rst 46 [.ptr (some ⟨45, 0, 0⟩)] [.pointer (some a)] own w
theorem gle46 : Tryz.prog.globals.size ≤ 46 := by rw [gsize]; decide
theorem rnew_ends : endsAt 15 (.ptr (some ⟨45, 0, 0⟩)) rst 46 (fstep okMask Tryz.prog (fcallO Tryz.prog okMask 0 60 noS noY) (fun i hd => fcallO Tryz.prog okMask 0 60 noS (fext noY i hd)) 12 [.agg [.int .i64 (.ofNat 1), .int .i64 (.ofNat 1), .int .i64 (.ofNat 0)]] (heapL [] 15)) = true := by kernel_rfl
theorem rnew_any (w : World) (hw : Tryz.prog.globals.size ≤ w.heap.size) : Calls Tryz.prog 12 #[.agg #[.int .i64 1, .int .i64 1, .int .i64 0]] w fun e w' => ∃ a own, e = .returned (.pointer (some a)) ∧ RTer w.heap.size a own w' ∧ Below w.heap.size w w' := by
  have H0 := inst_start (P := Tryz.prog) (W := w) (ts := []) hw (fun t ht => by cases ht)
  rw [gsize] at H0
  refine (inst_call (sk := 0) (d := 60) (n := 15) (n' := 46) (objs' := rst) (v := .ptr (some ⟨45, 0, 0⟩)) (args := [.agg [.int .i64 (.ofNat 1), .int .i64 (.ofNat 1), .int .i64 (.ofNat 0)]]) (avals := [.agg #[.int .i64 1, .int .i64 1, .int .i64 0]])
    Tryz.checked.mixed (good_of good) look_none Tryz.func12 rfl gleG rnew_ends rfl (fun σ _ _ => ⟨⟨⟨⟨trivial, trivial, trivial, trivial⟩, rfl⟩, trivial⟩, rfl⟩) H0).mono ?_
  rintro e w' ⟨val, own, he, hI, hb, _, _⟩
  obtain ⟨a, rfl⟩ := hI.ptr
  exact ⟨a, own, he, hI, hb⟩
theorem rsnap_ends : endsAt 46 (.agg (.slice (some ⟨50, 0, 0⟩) 1 .toEnd :: tlA)) ((47, .cells (cellsR 61 16 16 true 0 0 0 false false [(0, 0, [.int .i32 (.ofNat 0), .int .i32 (.ofNat 0), .int .i32 (.ofNat 0), .int .i32 (.ofNat 0), .int .i64 (.ofNat 1), .int .i64 (.ofNat 0), .int .u8 (.ofNat 0), .int .u8 (.ofNat 0), .int .u8 (.ofNat 0), .int .u8 (.ofNat 0), .int .i64 (.ofNat 0), .int .u8 (.ofNat 0), .int .u8 (.ofNat 0), .int .u8 (.ofNat 0), .int .u8 (.ofNat 0), .int .u8 (.ofNat 0)])])) :: (50, .cells (cellsR 58 2 2 true 0 0 0 false false [(0, 0, [.slice (some ⟨47, 0, 0⟩) 1 .toEnd, .bool false])])) :: []) 51 (fstep okMask Tryz.prog (fcallO Tryz.prog okMask 0 60 noS noY) (fun i hd => fcallO Tryz.prog okMask 0 60 noS (fext noY i hd)) 13 [.ptr (some ⟨45, 0, 0⟩)] (heapL rst 46)) = true := by kernel_rfl
theorem rsnap_any {B : Nat} {a : Addr} {own : Nat → Prop} {w : World} (H : RTer B a own w) : Calls Tryz.prog 13 #[.pointer (some a)] w fun e w' => ∃ val, e = .returned val ∧ SnapAt tlA c16A w' (fun k => B ≤ k ∧ k < w'.heap.size) val ∧ Below B w w' := by
  refine (inst_call (sk := 0) (d := 60) (args := [.ptr (some ⟨45, 0, 0⟩)]) (avals := [.pointer (some a)]) Tryz.checked.mixed (good_of good) look_none Tryz.func13 rfl gle46 rsnap_ends rfl (fun σ h1 h2 => ?_) H).mono ?_
  · exact ⟨h1, h2⟩
  · rintro e w' ⟨val, own', he, hI, hb, _, _⟩
    exact ⟨val, he, hI.snap (fl := 50) (fc := 47) (c16 := c16A) (by decide) (by kernel_rfl) (plain_all rfl) (plain_all rfl) (by decide), hb⟩
theorem eq_ends (c1 c2 d1 d2 : Nat) : endsAt 19 (.bool true) [] 19 (fstep okMask Tryz.prog (fcallO Tryz.prog okMask 0 60 noS noY) (fun i hd => fcallO Tryz.prog okMask 0 60 noS (fext noY i hd)) 29 [.agg (.slice (some ⟨16, 0, 0⟩) 1 (.exact c1) :: tlA), .agg (.slice (some ⟨18, 0, 0⟩) 1 (.exact d1) :: tlA)] (heapL ((18, .cells (readOnly 58 2 [.slice (some ⟨17, 0, 0⟩) 1 (.exact d2), .bool false])) :: (17, .cells (readOnly 61 16 c16A)) :: (16, .cells (readOnly 58 2 [.slice (some ⟨15, 0, 0⟩) 1 (.exact c2), .bool false])) :: (15, .cells (readOnly 61 16 c16A)) :: []) 19)) = true := by kernel_rfl
theorem eq_any {w : World} {S1 S2 : Nat → Prop} {x y : Value} (hw : Tryz.prog.globals.size ≤ w.heap.size) (h1 : ∀ k, S1 k → Tryz.prog.globals.size ≤ k) (h2 : ∀ k, S2 k → Tryz.prog.globals.size ≤ k) (h12 : ∀ k, S1 k → S2 k → False) (X : SnapAt tlA c16A w S1 x) (Y : SnapAt tlA c16A w S2 y) :
    Calls Tryz.prog 29 #[x, y] w fun e w' => e = .returned (.bool true) ∧ Below w.heap.size w w' := by
  obtain ⟨k1, s1, c1, k2, s2, c2, cur1, cur2, fr1, fr2, rfl, x1, x3, x5, x6, x7, x8, x9, x10, x11, x12⟩ := X
  obtain ⟨j1, t1, d1, j2, t2, d2, nur1, nur2, er1, er2, rfl, y1, y3, y5, y6, y7, y8, y9, y10, y11, y12⟩ := Y
  have H0 := inst_start (P := Tryz.prog) (W := w) (ts := []) hw (fun t ht => by cases ht)
  have hg := gsize
  have a1 := h1 k1 x1
  have a2 := h1 k2 x3
  have a3 := h2 j1 y1
  have a4 := h2 j2 y3
  have n11 : j1 ≠ k1 := fun e => h12 k1 x1 (e ▸ y1)
  have n12 : j1 ≠ k2 := fun e => h12 k2 x3 (e ▸ y1)
  have n21 : j2 ≠ k1 := fun e => h12 k1 x1 (e ▸ y3)
  have n22 : j2 ≠ k2 := fun e => h12 k2 x3 (e ▸ y3)
  rw [hg] at H0
  change Inst Tryz.prog w.heap.size [] 15 [] [] _ w at H0
  have pl : ∀ v ∈ c16A, v.scalar = true ∧ ∀ σ, okv σ v := by
    intro v hv
    simp only [c16A, List.mem_cons, List.not_mem_nil, or_false] at hv
    rcases hv with rfl | rfl | rfl | rfl | rfl | rfl | rfl | rfl | rfl | rfl | rfl | rfl | rfl | rfl | rfl | rfl <;> exact ⟨rfl, fun _ => trivial⟩
  have T1 := H0.taken (o := s2) (by decide) (fun x hx => by cases hx) (size_of x7) (show ¬ k2 < 15 by omega) c16A (es := 16) (by decide) rfl x7 x9 pl (fun i v hv σ => by rw [x12 i v hv]; exact congrArg some (plain_all rfl v (List.mem_of_getElem? hv) σ).symm) 1 c2
  have T2 := T1.taken2 (o := s1) (by decide) (fun x hx => by simp at hx; subst hx; simp) (size_of x6) (show ¬ (k1 < 15 ∨ k1 = k2) by omega) [.slice (some ⟨15, 0, 0⟩) 1 (.exact c2), .bool false] (es := 2) (by decide) (by simp) x6 (by exact x8) (fun σ q1 q2 i v hv => by
    simp only [concs, List.cons.injEq] at q2
    match i, hv with
    | 0, hv => cases hv; exact ⟨rfl, q1.1, by rw [Nat.add_zero, x10, q2.1]⟩
    | 1, hv => cases hv; exact ⟨rfl, trivial, x11⟩
    | n + 2, hv => simp at hv) 1 c1
  have T3 := T2.taken (o := t2) (by decide) (fun x hx => by simp at hx; rcases hx with rfl | rfl <;> simp) (size_of y7) (show ¬ ((j2 < 15 ∨ j2 = k2) ∨ j2 = k1) by omega) c16A (es := 16) (by decide) rfl y7 y9 pl (fun i v hv σ => by rw [y12 i v hv]; exact congrArg some (plain_all rfl v (List.mem_of_getElem? hv) σ).symm) 1 d2
  have T4 := T3.taken2 (o := t1) (by decide) (fun x hx => by simp at hx; rcases hx with rfl | rfl | rfl <;> simp) (size_of y6) (show ¬ (((j1 < 15 ∨ j1 = k2) ∨ j1 = k1) ∨ j1 = j2) by omega) [.slice (some ⟨17, 0, 0⟩) 1 (.exact d2), .bool false] (es := 2) (by decide) (by simp) y6 (by exact y8) (fun σ q1 q2 i v hv => by
    simp only [concs, List.cons.injEq] at q2
    match i, hv with
    | 0, hv => cases hv; exact ⟨rfl, q1.1, by rw [Nat.add_zero, y10, q2.1]⟩
    | 1, hv => cases hv; exact ⟨rfl, trivial, y11⟩
    | n + 2, hv => simp at hv) 1 d1
  have gle19 : Tryz.prog.globals.size ≤ 19 := by rw [gsize]; decide
  refine (inst_call (sk := 0) (d := 60) (args := [.agg (.slice (some ⟨16, 0, 0⟩) 1 (.exact c1) :: tlA), .agg (.slice (some ⟨18, 0, 0⟩) 1 (.exact d1) :: tlA)]) (avals := [.agg (Value.slice (some ⟨k1, s1, none⟩) 1 c1 :: concs (fun _ _ => none) tlA).toArray, .agg (Value.slice (some ⟨j1, t1, none⟩) 1 d1 :: concs (fun _ _ => none) tlA).toArray]) Tryz.checked.mixed (good_of good) look_none Tryz.func29 rfl gle19 (eq_ends c1 c2 d1 d2) rfl (fun σ q1 q2 => ?_) T4).mono ?_
  · simp only [concs, List.cons.injEq] at q2
    have ok : okvs σ tlA := okvs_iff.2 fun v hv => by
      have := List.all_eq_true.1 (show tlA.all plainB = true from rfl) v hv
      unfold plainB at this
      split at this <;> first | trivial | exact ⟨_, rfl⟩ | cases this
    refine ⟨⟨⟨⟨q1.2.2.1, ok⟩, rfl⟩, ⟨⟨q1.1, ok⟩, rfl⟩, trivial⟩, ?_⟩
    rw [← plain_concs (plain_all (l := tlA) rfl) σ, ← q2.1, ← q2.2.2.1]
    rfl
  · rintro e w' ⟨val, own', he, hI, hb, _, _⟩
    have hv := hI.plain (.bool true) fun _ => rfl
    rw [hv] at he
    exact ⟨he, hb⟩
theorem req_ends (c1 c2 d1 d2 : Nat) : endsAt 19 (.bool true) [] 19 (fstep okMask Tryz.prog (fcallO Tryz.prog okMask 0 60 noS noY) (fun i hd => fcallO Tryz.prog okMask 0 60 noS (fext noY i hd)) 20 [.agg (.slice (some ⟨16, 0, 0⟩) 1 (.exact c1) :: tlA), .agg (.slice (some ⟨18, 0, 0⟩) 1 (.exact d1) :: tlA)] (heapL ((18, .cells (readOnly 58 2 [.slice (some ⟨17, 0, 0⟩) 1 (.exact d2), .bool false])) :: (17, .cells (readOnly 61 16 c16A)) :: (16, .cells (readOnly 58 2 [.slice (some ⟨15, 0, 0⟩) 1 (.exact c2), .bool false])) :: (15, .cells (readOnly 61 16 c16A)) :: []) 19)) = true := by kernel_rfl
theorem req_any {w : World} {S1 S2 : Nat → Prop} {x y : Value} (hw : Tryz.prog.globals.size ≤ w.heap.size) (h1 : ∀ k, S1 k → Tryz.prog.globals.size ≤ k) (h2 : ∀ k, S2 k → Tryz.prog.globals.size ≤ k) (h12 : ∀ k, S1 k → S2 k → False) (X : SnapAt tlA c16A w S1 x) (Y : SnapAt tlA c16A w S2 y) :
    Calls Tryz.prog 20 #[x, y] w fun e w' => e = .returned (.bool true) ∧ Below w.heap.size w w' := by
  obtain ⟨k1, s1, c1, k2, s2, c2, cur1, cur2, fr1, fr2, rfl, x1, x3, x5, x6, x7, x8, x9, x10, x11, x12⟩ := X
  obtain ⟨j1, t1, d1, j2, t2, d2, nur1, nur2, er1, er2, rfl, y1, y3, y5, y6, y7, y8, y9, y10, y11, y12⟩ := Y
  have H0 := inst_start (P := Tryz.prog) (W := w) (ts := []) hw (fun t ht => by cases ht)
  have hg := gsize
  have a1 := h1 k1 x1
  have a2 := h1 k2 x3
  have a3 := h2 j1 y1
  have a4 := h2 j2 y3
  have n11 : j1 ≠ k1 := fun e => h12 k1 x1 (e ▸ y1)
  have n12 : j1 ≠ k2 := fun e => h12 k2 x3 (e ▸ y1)
  have n21 : j2 ≠ k1 := fun e => h12 k1 x1 (e ▸ y3)
  have n22 : j2 ≠ k2 := fun e => h12 k2 x3 (e ▸ y3)
  rw [hg] at H0
  change Inst Tryz.prog w.heap.size [] 15 [] [] _ w at H0
  have pl : ∀ v ∈ c16A, v.scalar = true ∧ ∀ σ, okv σ v := by
    intro v hv
    simp only [c16A, List.mem_cons, List.not_mem_nil, or_false] at hv
    rcases hv with rfl | rfl | rfl | rfl | rfl | rfl | rfl | rfl | rfl | rfl | rfl | rfl | rfl | rfl | rfl | rfl <;> exact ⟨rfl, fun _ => trivial⟩
  have T1 := H0.taken (o := s2) (by decide) (fun x hx => by cases hx) (size_of x7) (show ¬ k2 < 15 by omega) c16A (es := 16) (by decide) rfl x7 x9 pl (fun i v hv σ => by rw [x12 i v hv]; exact congrArg some (plain_all rfl v (List.mem_of_getElem? hv) σ).symm) 1 c2
  have T2 := T1.taken2 (o := s1) (by decide) (fun x hx => by simp at hx; subst hx; simp) (size_of x6) (show ¬ (k1 < 15 ∨ k1 = k2) by omega) [.slice (some ⟨15, 0, 0⟩) 1 (.exact c2), .bool false] (es := 2) (by decide) (by simp) x6 (by exact x8) (fun σ q1 q2 i v hv => by
    simp only [concs, List.cons.injEq] at q2
    match i, hv with
    | 0, hv => cases hv; exact ⟨rfl, q1.1, by rw [Nat.add_zero, x10, q2.1]⟩
    | 1, hv => cases hv; exact ⟨rfl, trivial, x11⟩
    | n + 2, hv => simp at hv) 1 c1
  have T3 := T2.taken (o := t2) (by decide) (fun x hx => by simp at hx; rcases hx with rfl | rfl <;> simp) (size_of y7) (show ¬ ((j2 < 15 ∨ j2 = k2) ∨ j2 = k1) by omega) c16A (es := 16) (by decide) rfl y7 y9 pl (fun i v hv σ => by rw [y12 i v hv]; exact congrArg some (plain_all rfl v (List.mem_of_getElem? hv) σ).symm) 1 d2
  have T4 := T3.taken2 (o := t1) (by decide) (fun x hx => by simp at hx; rcases hx with rfl | rfl | rfl <;> simp) (size_of y6) (show ¬ (((j1 < 15 ∨ j1 = k2) ∨ j1 = k1) ∨ j1 = j2) by omega) [.slice (some ⟨17, 0, 0⟩) 1 (.exact d2), .bool false] (es := 2) (by decide) (by simp) y6 (by exact y8) (fun σ q1 q2 i v hv => by
    simp only [concs, List.cons.injEq] at q2
    match i, hv with
    | 0, hv => cases hv; exact ⟨rfl, q1.1, by rw [Nat.add_zero, y10, q2.1]⟩
    | 1, hv => cases hv; exact ⟨rfl, trivial, y11⟩
    | n + 2, hv => simp at hv) 1 d1
  have gle19 : Tryz.prog.globals.size ≤ 19 := by rw [gsize]; decide
  refine (inst_call (sk := 0) (d := 60) (args := [.agg (.slice (some ⟨16, 0, 0⟩) 1 (.exact c1) :: tlA), .agg (.slice (some ⟨18, 0, 0⟩) 1 (.exact d1) :: tlA)]) (avals := [.agg (Value.slice (some ⟨k1, s1, none⟩) 1 c1 :: concs (fun _ _ => none) tlA).toArray, .agg (Value.slice (some ⟨j1, t1, none⟩) 1 d1 :: concs (fun _ _ => none) tlA).toArray]) Tryz.checked.mixed (good_of good) look_none Tryz.func20 rfl gle19 (req_ends c1 c2 d1 d2) rfl (fun σ q1 q2 => ?_) T4).mono ?_
  · simp only [concs, List.cons.injEq] at q2
    have ok : okvs σ tlA := okvs_iff.2 fun v hv => by
      have := List.all_eq_true.1 (show tlA.all plainB = true from rfl) v hv
      unfold plainB at this
      split at this <;> first | trivial | exact ⟨_, rfl⟩ | cases this
    refine ⟨⟨⟨⟨q1.2.2.1, ok⟩, rfl⟩, ⟨⟨q1.1, ok⟩, rfl⟩, trivial⟩, ?_⟩
    rw [← plain_concs (plain_all (l := tlA) rfl) σ, ← q2.1, ← q2.2.2.1]
    rfl
  · rintro e w' ⟨val, own', he, hI, hb, _, _⟩
    have hv := hI.plain (.bool true) fun _ => rfl
    rw [hv] at he
    exact ⟨he, hb⟩
end Go.Proofs.YtdjbjcnkboggjaaGreatDoor
