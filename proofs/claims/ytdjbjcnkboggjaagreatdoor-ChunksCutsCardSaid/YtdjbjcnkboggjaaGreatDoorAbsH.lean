/- An evaluator of Go code over an abstract memory, and the proof that each of its runs is a run of the model, whatever the tape. It holds for each program, without conditions. -/
import Derived.Test.YtdjbjcnkboggjaaGreatDoorAbsI
import Derived.Test.YtdjbjcnkboggjaaGreatDoorAbsP
namespace Go.Abs
variable {P : Program} {B : Base}
theorem made_at (ety : TypeId) (vs : List AVal) {i : Nat} {v : AVal} (h : vs[i]? = some v) : (ACells.made ety 1 vs).cellAt i = some (v, 0) := by
  have hi : i < vs.length := (List.getElem?_eq_some_iff.1 h).1
  unfold ACells.cellAt ACells.made
  simp only []
  rw [setElems_get 1 0 (by decide) _ _ _ _ (Nat.le_refl _) (Nat.mod_one _), Nat.div_one, Nat.div_one, if_pos (by omega)]
  simp only [Nat.sub_zero, Nat.mul_one, Nat.mod_one, List.getElem?_take, List.getElem?_drop, Nat.add_zero, h]
  rfl
/-- Bytes that the evaluator holds, read in the world. -/
theorem Rel.reads_made {σ : Real} {h : Heap} {w : World} (H : Rel P B σ h w) {f g n cap : Nat} (hv : okv σ (.slice (some ⟨f, g, 0⟩) n (.exact cap))) {ety : TypeId} {vs : List AVal} (ho : h.obj f = some (.cells (ACells.made ety 1 vs)))
    {l : List UInt8} (hl : l.length = n) (hvs : ∀ σ, vs.map (conc σ) = Rep.bcells l) : ∃ A, conc σ (.slice (some ⟨f, g, 0⟩) n (.exact cap)) = .slice A n cap ∧ Rep.Reads w w.heap.size 1 A n (Rep.bcells l) := by
  obtain ⟨k, s, cc, e1, e2, e3, e4⟩ := H.slice_at hv ho
  refine ⟨some ⟨k, s, none⟩, by rw [e1, e2 cap rfl], by rw [Rep.bcells_length, hl, Nat.mul_one], fun _ => ⟨_, rfl, e3, fun j u hu => ?_⟩⟩
  rw [← hvs σ, List.getElem?_map] at hu
  obtain ⟨v, hv1, rfl⟩ := Option.map_eq_some_iff.1 hu
  have := (e4 j v rfl (by rw [Nat.zero_add]; exact made_at ety vs hv1)).2
  rw [← this]
  unfold Addr.add
  split
  · next h0 => rw [h0, Nat.add_zero]
  · rfl
theorem zeros_conc (m : Nat) (σ : Real) : (List.replicate m (AVal.int .u8 (.ofNat 0))).map (conc σ) = Rep.bcells (List.replicate m 0) := by
  rw [List.map_replicate, Rep.bcells, List.map_replicate]
  rfl
end Go.Abs
