/- A part of the proof of ReplayLongs. -/
import Derived.Test.YtekbfckpnooloaaGreatDoorWTer
namespace Go.Proofs.YtekbfckpnooloaaGreatDoor
open Go.RowKit Go.Abs Go.Rep
set_option maxRecDepth 100000
def s63 : ByteArray := ⟨(List.replicate 63 0).toArray⟩
def o63 : TOp := ⟨1, s63, 0, 0, 0⟩
def a63 : List AVal := [.int .i64 (.ofNat 1), .str (List.replicate 63 0), .int .i64 (.ofNat 0), .int .i64 (.ofNat 0), .int .i64 (.ofNat 0)]
def csOf (m : Nat) : List AVal := (List.replicate m a63).flatten
theorem csOf_succ (m : Nat) : csOf (m + 1) = a63 ++ csOf m := by simp [csOf, List.replicate_succ]
theorem csOf_length (m : Nat) : (csOf m).length = m * 5 := by
  induction m with
  | zero => rfl
  | succ m ih => rw [csOf_succ, List.length_append, ih]; simp [a63]; omega
theorem csOf_plain (m : Nat) : ∀ v ∈ csOf m, v.scalar = true ∧ ∀ σ, okv σ v := by
  intro v hv
  simp only [csOf, List.mem_flatten, List.mem_replicate] at hv
  obtain ⟨l, ⟨_, rfl⟩, hl⟩ := hv
  simp only [a63, List.mem_cons, List.not_mem_nil, or_false] at hl
  rcases hl with rfl | rfl | rfl | rfl | rfl <;> exact ⟨rfl, fun _ => trivial⟩
theorem csOf_conc (σ : Real) (m : Nat) : (csOf m).map (conc σ) = opCells (List.replicate m o63) := by
  induction m with
  | zero => rfl
  | succ m ih =>
    rw [csOf_succ, List.map_append, ih, List.replicate_succ]
    rfl
def outOf (m : Nat) (x : Value) : Prop := if m ≤ 64 then ∃ A c, x = .tuple #[.slice A (64 * m) c, .int .i64 0] else x = .tuple #[.slice none 0 0, .int .i64 5]
theorem wr63 (cap : Nat) : endsAt 16 (.tuple [.slice (some ⟨19, 125, 0⟩) 4032 .toEnd, .int .i64 (.ofNat 0)]) [] 206 (fstep okMask Tryz.prog (fcallO Tryz.prog okMask 0 60 noS noY) (fun i hd => fcallO Tryz.prog okMask 0 60 noS (fext noY i hd)) 12 [.slice (some ⟨15, 0, 0⟩) 63 (.exact cap)] (heapL [(15, .cells (readOnly 38 5 (csOf 63)))] 16)) = true := by kernel_rfl
theorem wr64 (cap : Nat) : endsAt 16 (.tuple [.slice (some ⟨19, 127, 0⟩) 4096 .toEnd, .int .i64 (.ofNat 0)]) [] 209 (fstep okMask Tryz.prog (fcallO Tryz.prog okMask 0 60 noS noY) (fun i hd => fcallO Tryz.prog okMask 0 60 noS (fext noY i hd)) 12 [.slice (some ⟨15, 0, 0⟩) 64 (.exact cap)] (heapL [(15, .cells (readOnly 38 5 (csOf 64)))] 16)) = true := by kernel_rfl
theorem wr65 (cap : Nat) : endsAt 16 (.tuple [.slice none 0 (.exact 0), .int .i64 (.ofNat 5)]) [] 212 (fstep okMask Tryz.prog (fcallO Tryz.prog okMask 0 60 noS noY) (fun i hd => fcallO Tryz.prog okMask 0 60 noS (fext noY i hd)) 12 [.slice (some ⟨15, 0, 0⟩) 65 (.exact cap)] (heapL [(15, .cells (readOnly 38 5 (csOf 65)))] 16)) = true := by kernel_rfl
theorem gle16 : Tryz.prog.globals.size ≤ 16 := by rw [gsize]; decide
theorem write_m {w : World} {v : Value} {m base n' : Nat} {V : AVal} (hw : Tabbed w) (hbase : Tryz.prog.globals.size ≤ base) (hm : 0 < m) (hv : w.ownsRow base 38 5 v m (opCells (List.replicate m o63)))
    (he : ∀ cap, endsAt 16 V [] n' (fstep okMask Tryz.prog (fcallO Tryz.prog okMask 0 60 noS noY) (fun i hd => fcallO Tryz.prog okMask 0 60 noS (fext noY i hd)) 12 [.slice (some ⟨15, 0, 0⟩) m (.exact cap)] (heapL [(15, .cells (readOnly 38 5 (csOf m)))] 16)) = true) (ho : ∀ σ, okv σ V → outOf m (conc σ V)) :
    Calls Tryz.prog 12 #[v] w fun e w' => ∃ x, e = .returned x ∧ outOf m x ∧ Below w.heap.size w w' := by
  rcases hv.2 with ⟨_, h0⟩ | ⟨g, cap, cur, rfl, hg, hh, hmc, _, hcs, htk⟩
  · omega
  · have H0 := inst_start (P := Tryz.prog) (W := w) (ts := []) hw.1 (fun t ht => by cases ht)
    rw [gsize] at H0 hbase
    have hcur : ∀ (i : Nat) (u : AVal), (csOf m)[i]? = some u → ∀ σ, cur[0 + i]? = some (conc σ u) := by
      intro i u hu σ
      have h1 : ((csOf m).map (conc σ))[i]? = some (conc σ u) := by rw [List.getElem?_map, hu]; rfl
      rw [csOf_conc, ← htk, List.getElem?_take] at h1
      split at h1
      · rw [Nat.zero_add]; simpa using h1
      · cases h1
    have hT := H0.taken (o := 0) (by decide) (fun x hx => by cases hx) (Array.getElem?_eq_some_iff.1 hh).1 (show ¬ g < 15 by omega) (csOf m) (es := 5) (by decide) (by rw [csOf_length]; omega) hh
      (by rw [csOf_length, hcs]; have := Nat.mul_le_mul_right 5 hmc; omega) (csOf_plain m) hcur m cap
    refine (inst_call (sk := 0) (d := 60) (args := [.slice (some ⟨15, 0, 0⟩) m (.exact cap)]) (avals := [.slice (some ⟨g, 0, none⟩) m cap]) Tryz.checked.mixed (good_of good) look_none Tryz.func12 rfl gle16 (he cap) rfl ?_ hT).mono ?_
    · intro σ h1 h2
      exact ⟨h1, h2⟩
    · rintro e w' ⟨val, own', h1, hI, hb, _, _⟩
      obtain ⟨σ, _, _, hok, hc, _⟩ := hI
      simp only [concs, List.cons.injEq] at hc
      exact ⟨val, h1, hc.1 ▸ ho σ hok.1, hb⟩
theorem write_all {w : World} {v : Value} {m base : Nat} (hw : Tabbed w) (hbase : Tryz.prog.globals.size ≤ base) (h : m = 63 ∨ m = 64 ∨ m = 65) (hv : w.ownsRow base 38 5 v m (opCells (List.replicate m o63))) :
    Calls Tryz.prog 12 #[v] w fun e w' => ∃ x, e = .returned x ∧ outOf m x ∧ Below w.heap.size w w' := by
  rcases h with rfl | rfl | rfl
  · refine write_m hw hbase (by decide) hv wr63 fun σ _ => ?_
    simp only [outOf, conc, concs]
    cases σ 19 125 <;> exact ⟨_, _, rfl⟩
  · refine write_m hw hbase (by decide) hv wr64 fun σ _ => ?_
    simp only [outOf, conc, concs]
    cases σ 19 127 <;> exact ⟨_, _, rfl⟩
  · exact write_m hw hbase (by decide) hv wr65 fun σ _ => rfl
end Go.Proofs.YtekbfckpnooloaaGreatDoor
