/- A part of the proof of RecordReads. -/
import Derived.Test.YtiglllddgikeiabGreatDoorRP
import Derived.Test.YtiglllddgikeiabGreatDoorM1
import Derived.Test.YtiglllddgikeiabGreatDoorCKnown
import Derived.Test.YtiglllddgikeiabGreatDoorRows
import Derived.Test.YtiglllddgikeiabGreatDoorAbsD
import Derived.ChangeMaps5
namespace Go.Proofs.YtiglllddgikeiabGreatDoor
open Go.RowKit Go.Rep Go.ChangeShapes Go.WideShapes
set_option maxRecDepth 100000
theorem u16_wf {n : Int} (h : (Lit.int .u16 n).wf = true) : 0 ≤ n ∧ n ≤ 65535 := by
  simp [Lit.wf, IntKind.min, IntKind.max, IntKind.signed, IntKind.bits] at h
  omega
theorem u8_wf {n : Int} (h : (Lit.int .u8 n).wf = true) : 0 ≤ n ∧ n ≤ 255 := by
  simp [Lit.wf, IntKind.min, IntKind.max, IntKind.signed, IntKind.bits] at h
  omega
theorem trodAll_four {H : Type} {enc : TypeId × Value → H} {P : Program} {w : World} {base : Nat} {spare : Nat → Bool} {held : Bool} {t0 t1 t2 t3 : TypeId} {args : Array Value} {ds : List (DataW H)} {ps : List MemPlace} (h : DataW.TrodAll enc P w base spare held [t0, t1, t2, t3] args.toList ds ps) :
    ∃ v0 v1 v2 v3 d0 d1 d2 d3 p0 p1 p2 p3, args = #[v0, v1, v2, v3] ∧ DataW.Trod enc P w base spare held t0 v0 d0 p0 ∧ DataW.Trod enc P w base spare held t1 v1 d1 p1 ∧ DataW.Trod enc P w base spare held t2 v2 d2 p2 ∧ DataW.Trod enc P w base spare held t3 v3 d3 p3 := by
  obtain ⟨v0, vs0, d0, ds0, p0, q0, hargs, _, _, h0, r0⟩ := trodAll_cons h
  obtain ⟨v1, vs1, d1, ds1, p1, q1, rfl, _, _, h1, r1⟩ := trodAll_cons r0
  obtain ⟨v2, vs2, d2, ds2, p2, q2, rfl, _, _, h2, r2⟩ := trodAll_cons r1
  obtain ⟨v3, vs3, d3, ds3, p3, q3, rfl, _, _, h3, r3⟩ := trodAll_cons r2
  obtain ⟨rfl, _, _⟩ := trodAll_nil r3
  exact ⟨v0, v1, v2, v3, d0, d1, d2, d3, p0, p1, p2, p3, by cases args; simp_all, h0, h1, h2, h3⟩
theorem open_RecordReads {H : Type} {enc : TypeId × Value → H} {W : World} {base : Nat} {args : Array Value} {ds : List (DataW H)} {before : List MemPlace}
    (hval : ∀ (j : Nat) (t : TypeId) (v : Value), (#[26, 27, 5, 9] : Array TypeId)[j]? = some t → args[j]? = some v → Value.okWide Tryz.prog W .any base t v)
    (hA : DataW.TrodAll enc Tryz.prog W 0 (fun _ => true) true [26, 27, 5, 9] args.toList ds before)
    (_ : (DataW.weightsEach Tryz.prog Tryz.f3.params.toList ds).all (· ≤ reachBytes) = true)
    (hS : W.ShapedOpen Tryz.prog) (hL : laidMet Tryz.prog Rows.recordReadsRow.laid W) : Calls Tryz.prog 3 args W fun e W' => e = .returned (.bool true) ∧ Below W.heap.size W W' := by
  obtain ⟨v0, v1, v2, v3, d0, d1, d2, d3, p0, p1, p2, p3, rfl, h0, h1, h2, h3⟩ := trodAll_four hA
  obtain ⟨r, c, hh, A, m, cp, l, rfl, hr, hmc, hc⟩ := open_record (hval 0 26 v0 rfl rfl) h0
  obtain ⟨a, rfl, _, _, ha⟩ := open_int Tryz.underlying27 (hval 1 27 v1 rfl rfl) h1
  obtain ⟨b, rfl, _, _, hb⟩ := open_int Tryz.underlying5 (hval 2 5 v2 rfl rfl) h2
  obtain ⟨mo, rfl, _, _, _⟩ := Go.ChangeMaps.open_string Tryz.underlying9 (hval 3 9 v3 rfl rfl) h3
  by_cases hs : smallB l = true ∧ validB r c hh l = true ∧ mo.size ≤ 40
  · exact rr_main (laid_met hS hL) hr (Nat.le_refl _) hc hmc hs.1 hs.2.1 hs.2.2 (u16_wf ha).1 (u16_wf ha).2 (u8_wf hb).1 (u8_wf hb).2
  · exact rr_skip (laid_met hS hL) hr (Nat.le_refl _) hc hmc hs
end Go.Proofs.YtiglllddgikeiabGreatDoor
