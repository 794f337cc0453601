/- An evaluator of Go code over an abstract memory, and the proof that each of its runs is a run of the model, whatever the tape. It holds for each program, without conditions. -/
import Derived.Test.YthophmihgmjnfaaDoorAbsA
import Derived.Laws.BytesString
import Derived.Laws.Cover4
import Derived.Lib.UnsafeStr
import Derived.Laws.Append
import Derived.Lib.MakeNoZero
set_option linter.unusedVariables false
set_option linter.unusedSimpArgs false
-- --
/- An evaluator of Go code over an abstract memory, and the proof that each of its runs is a run of the model, whatever the tape. It holds for each program, without conditions. -/
namespace Go.Abs
variable {P : Program} {B : Nat} {σ : Real} {h : Heap} {w : World}

/-! ### Frozen cells -/

def newfr (fr : Nat × Nat) (k n : Nat) : Nat × Nat := if fr.1 == fr.2 then (k, k + n) else (min fr.1 k, max fr.2 (k + n))

theorem freeze_here {blk k n : Nat} {cs : Array Value} {ty : TypeId} {fr : Nat × Nat} (hh : w.heap[blk]? = some (.cells cs ty fr)) (hn : n ≠ 0) :
    (w.freeze ⟨blk, k, none⟩ n).heap[blk]? = some (.cells cs ty (newfr fr k n)) := by
  unfold World.freeze
  rw [if_neg hn]
  simp only [Array.getElem?_modify, if_true, hh, Option.map_some]
  rfl
theorem freeze_other {a : Addr} {n j : Nat} (hj : j ≠ a.block) : (w.freeze a n).heap[j]? = w.heap[j]? := by
  unfold World.freeze
  split
  · rfl
  · simp only [Array.getElem?_modify]
    rw [if_neg (Ne.symm hj)]
theorem freeze_size {a : Addr} {n : Nat} : (w.freeze a n).heap.size = w.heap.size := by
  unfold World.freeze
  split
  · rfl
  · simp
theorem freeze_os {a : Addr} {n : Nat} : (w.freeze a n).os = w.os := by unfold World.freeze; split <;> rfl
theorem freeze_tape {a : Addr} {n : Nat} : (w.freeze a n).tape = w.tape := by unfold World.freeze; split <;> rfl
theorem freeze_output {a : Addr} {n : Nat} : (w.freeze a n).output = w.output := by unfold World.freeze; split <;> rfl

theorem freeze_post (H : Rel P B σ h w) {f k n z : Nat} {c : ACells} {rb : RB} (hc : h.fam f = some c) (hrb : σ f c.gen = some rb) (hro : c.ro = false) (hn : n ≠ 0) (hz : c.frz ≤ z)
    (hfr : ∀ fr : Nat × Nat, (c.mark = false → fr = (0, 0)) → fr.1 ≤ fr.2 → (∀ j, c.frz ≤ j → rb.start ≤ j → j < rb.ends → ¬ (fr.1 ≤ j - rb.start ∧ j - rb.start < fr.2)) →
      ∀ j, z ≤ j → rb.start ≤ j → j < rb.ends → ¬ ((newfr fr k n).1 ≤ j - rb.start ∧ j - rb.start < (newfr fr k n).2)) :
    Post P B σ h w σ (h.put f (.cells { c with mark := true, frz := z })) (w.freeze ⟨rb.block, k, none⟩ n) := by
  have hobj := fam_obj hc
  have hco := H.cells hrb hc
  obtain ⟨cs, fr, hh, hle, hro2, hcell⟩ := hco.heap
  obtain ⟨hb0, hbs, hmk, hfle, hnf⟩ := hro2 hro
  have hwf := H.full f c hobj
  refine put_post H hobj (by simp [AObj.writable, hro]) (by simp [AObj.writable, hro]) (Real.le_refl σ) (fun _ _ _ => rfl) (fun g' b' hb => .inl hb) (fun g1 b1 g2 b2 h1 h2 hbk => H.alike _ _ _ _ _ h1 h2 hbk)
    (by rw [freeze_size]; exact Nat.le_refl _) (fun j _ hno => freeze_other (fun e => hno _ _ hrb e.symm)) freeze_os freeze_tape freeze_output (fun g' b' hb' => ?_) (fun c2 hc2 => by cases hc2; exact ⟨hwf.pos, hwf.full, hwf.bnd⟩)
  have hk := H.cells hb' hc
  obtain ⟨ds, fr2, k1, k2, k3, k4⟩ := hk.heap
  refine ⟨hk.gen, hk.es, hk.start, hk.size, hk.exact, ?_⟩
  by_cases hblk : b'.block = rb.block
  · obtain rfl : b' = rb := H.alike _ _ _ _ _ hrb hb' hblk.symm
    rw [hh] at k1
    cases k1
    refine ⟨cs, newfr fr k n, freeze_here hh hn, hle, fun _ => ⟨hb0, hbs, fun e => Bool.noConfusion e, ?_, hfr fr hmk hfle hnf⟩, k4⟩
    unfold newfr
    split
    · simp
    · simp only []; omega
  · refine ⟨ds, fr2, by rw [freeze_other hblk]; exact k1, k2, fun _ => ?_, k4⟩
    obtain ⟨m1, m2, m3, m4, m5⟩ := k3 hro
    exact ⟨m1, m2, fun e => Bool.noConfusion e, m4, fun j hj => m5 j (Nat.le_trans hz hj)⟩

/-! ### Cells of slices -/

theorem sliceCells_sound (H : Rel P B σ h w) {es n : Nat} {x : AVal} {vs : List AVal} (hs : sliceCells es n x h = some vs) (hx : okv σ x) :
    (Builtin.firstCells es n (conc σ x)).run P w = .ok (concs σ vs).toArray w ∧ okvs σ vs ∧ vs.all AVal.scalar = true := by
  unfold sliceCells at hs
  split at hs
  · rename_i p len cap
    split at hs
    · simp only [Option.bind_eq_some_iff] at hs
      obtain ⟨c, hc, hs⟩ := hs
      split at hs
      · rename_i hcr
        obtain ⟨_, c2, _⟩ := canRead_iff hcr
        obtain ⟨b, hb, hst, _⟩ := hx
        obtain ⟨r1, r2, r3, r4⟩ := H.read hb hc c2 hs
        have hl := run_loadCells_list (P := P) w (b.at p.off) (concs σ vs) r4
        rw [concs_length, r1] at hl
        exact ⟨by simp only [conc, hb, Builtin.firstCells]; exact hl, r2, r3⟩
      · cases hs
    · cases hs
  · split at hs
    · rename_i h0
      rw [Nat.beq_eq] at h0
      cases hs
      exact ⟨by simp [conc, Builtin.firstCells, concs], trivial, rfl⟩
    · cases hs
  · rename_i p l e
    split at hs
    · rename_i h0
      rw [Nat.beq_eq] at h0
      cases hs
      obtain ⟨a, c, e⟩ := conc_zslice σ p l _ hx
      exact ⟨by rw [e]; simp [Builtin.firstCells, loadCells, loadCellsFrom, h0, concs], trivial, rfl⟩
    · cases hs
  · rename_i s
    cases hs
    refine ⟨?_, okvs_iff.2 (fun v hv => ?_), List.all_eq_true.2 (fun v hv => ?_)⟩
    · simp only [conc, Builtin.firstCells, Sem.run_pure]
      congr 1
      apply Array.ext'
      simp [concs_eq, byteVal, ByteArray.data_extract, conc, Function.comp_def]
    · obtain ⟨b, _, rfl⟩ := List.mem_map.1 hv; exact trivial
    · obtain ⟨b, _, rfl⟩ := List.mem_map.1 hv; rfl
  · cases hs

theorem ofBytes_sound : ∀ {vs : List AVal} {s : List UInt8}, ofBytes vs = some s → ∃ ns : List Int, concs σ vs = ns.map (Value.int .u8) ∧ s = ns.map (fun n => UInt8.ofNat n.toNat)
  | [], s, h => by cases h; exact ⟨[], rfl, rfl⟩
  | .int .u8 n :: vs, s, h => by
    simp only [ofBytes, Option.map_eq_some_iff] at h
    obtain ⟨t, ht, rfl⟩ := h
    obtain ⟨ns, h1, h2⟩ := ofBytes_sound ht
    exact ⟨n :: ns, by simp [concs, conc, h1], by simp [h2]⟩
  | .bool _ :: _, _, h => by cases h
  | .str _ :: _, _, h => by cases h
  | .ptr _ :: _, _, h => by cases h
  | .slice _ _ _ :: _, _, h => by cases h
  | .zslice _ _ _ :: _, _, h => by cases h
  | .map _ :: _, _, h => by cases h
  | .func _ _ _ :: _, _, h => by cases h
  | .nilFunc :: _, _, h => by cases h
  | .iface _ _ :: _, _, h => by cases h
  | .nilIface :: _, _, h => by cases h
  | .agg _ :: _, _, h => by cases h
  | .tuple _ :: _, _, h => by cases h
  | .int .i8 _ :: _, _, h => by cases h
  | .int .i16 _ :: _, _, h => by cases h
  | .int .i32 _ :: _, _, h => by cases h
  | .int .i64 _ :: _, _, h => by cases h
  | .int .u16 _ :: _, _, h => by cases h
  | .int .u32 _ :: _, _, h => by cases h
  | .int .u64 _ :: _, _, h => by cases h

theorem ofRunes_sound : ∀ {vs : List AVal} {s : List UInt8}, ofRunes vs = some s → ∃ ns : List Int, concs σ vs = ns.map (Value.int .i32) ∧ s = ns.flatMap (fun n => (Utf8.encode n).data.toList)
  | [], s, h => by cases h; exact ⟨[], rfl, rfl⟩
  | .int .i32 n :: vs, s, h => by
    simp only [ofRunes, Option.map_eq_some_iff] at h
    obtain ⟨t, ht, rfl⟩ := h
    obtain ⟨ns, h1, h2⟩ := ofRunes_sound ht
    exact ⟨n :: ns, by simp [concs, conc, h1], by simp [h2]⟩
  | .bool _ :: _, _, h => by cases h
  | .str _ :: _, _, h => by cases h
  | .ptr _ :: _, _, h => by cases h
  | .slice _ _ _ :: _, _, h => by cases h
  | .zslice _ _ _ :: _, _, h => by cases h
  | .map _ :: _, _, h => by cases h
  | .func _ _ _ :: _, _, h => by cases h
  | .nilFunc :: _, _, h => by cases h
  | .iface _ _ :: _, _, h => by cases h
  | .nilIface :: _, _, h => by cases h
  | .agg _ :: _, _, h => by cases h
  | .tuple _ :: _, _, h => by cases h
  | .int .i8 _ :: _, _, h => by cases h
  | .int .i16 _ :: _, _, h => by cases h
  | .int .u8 _ :: _, _, h => by cases h
  | .int .i64 _ :: _, _, h => by cases h
  | .int .u16 _ :: _, _, h => by cases h
  | .int .u32 _ :: _, _, h => by cases h
  | .int .u64 _ :: _, _, h => by cases h

theorem foldl_push (ns : List Int) : ∀ s : ByteArray, ns.foldl (fun r n => r.push (UInt8.ofNat n.toNat)) s = ⟨s.data ++ (ns.map fun n => UInt8.ofNat n.toNat).toArray⟩ := by
  induction ns with
  | nil => intro s; simp
  | cons n ns ih =>
    intro s
    simp only [List.foldl_cons, ih, List.map_cons]
    apply ByteArray.ext
    simp [ByteArray.push]

theorem foldl_encode (ns : List Int) : ∀ s : ByteArray, ns.foldl (fun r n => r ++ Utf8.encode n) s = ⟨s.data ++ (ns.flatMap fun n => (Utf8.encode n).data.toList).toArray⟩ := by
  induction ns with
  | nil => intro s; simp
  | cons n ns ih =>
    intro s
    simp only [List.foldl_cons, ih, List.flatMap_cons]
    apply ByteArray.ext
    apply Array.ext'
    simp

/-! ### Families whose end is open -/

theorem cut_append {need old : Nat} {e : TypeId} (t : Nat) : need ≤ (Question.appendCap need old e).cut t := Nat.le_add_right _ _

theorem flexed_post (H : Rel P B σ h w) (hfree : Free σ h.next (h.next + 1)) {ety es : Nat} {vs : List AVal} {mark : Bool} {cs : Array Value} {fr : Nat × Nat} {w' : World}
    (he : 0 < es) (hm : vs.length % es = 0) (hvs : okvs σ vs) (hone : vs.all AVal.scalar = true) (hle : vs.length ≤ cs.size)
    (hcs : ∀ (i : Nat) (v : AVal), vs[i]? = some v → cs[i]? = some (conc σ v)) (hmk : mark = false → fr = (0, 0)) (hfle : fr.1 ≤ fr.2) (hfr : ∀ k, k < cs.size → ¬ (fr.1 ≤ k ∧ k < fr.2))
    (hw : w'.heap = w.heap.push (.cells cs ety fr)) (hos : w'.os = w.os) (htape : w'.tape = w.tape) (hout : w'.output = w.output) :
    Post P B σ h w (σ.add h.next ⟨w.heap.size, 0, 0, cs.size, es⟩) (h.push (.cells (flexed ety es vs mark))) w' :=
  fam_post (c := flexed ety es vs mark) (vs := vs) H hfree he hm rfl rfl rfl hvs hone (Nat.le_refl _) hle hle (fun e => Bool.noConfusion e) hcs hmk hfle hfr hw hos htape hout

theorem new_slice (σ : Real) (f n N es blk : Nat) (he : 0 < es) (hle : n * es ≤ N) :
    okv (σ.add f ⟨blk, 0, 0, N, es⟩) (.slice (some ⟨f, 0, 0⟩) n .toEnd) ∧ conc (σ.add f ⟨blk, 0, 0, N, es⟩) (.slice (some ⟨f, 0, 0⟩) n .toEnd) = .slice (some ⟨blk, 0, none⟩) n (N / es) :=
  ⟨⟨_, add_here _ _ _, Nat.zero_le _, fun _ => ⟨he, by simp only []; omega⟩⟩, by simp only [conc, add_here, RB.at, RB.cap, Nat.zero_add, Nat.sub_zero]⟩

theorem stringToBytes_sound (H : Rel P B σ h w) (hfree : Free σ h.next (h.next + 1)) (e : TypeId) (s : List UInt8) :
    ∃ σ' w', (Conv.stringToBytes e ⟨s.toArray⟩).run P w = .ok (conc σ' (.slice (some ⟨h.next, 0, 0⟩) s.length .toEnd)) w' ∧ okv σ' (.slice (some ⟨h.next, 0, 0⟩) s.length .toEnd) ∧
      Post P B σ h w σ' (h.push (.cells (flexed e 1 (s.map byteVal) true))) w' := by
  have hcap := cut_append (need := s.length) (old := 0) (e := e) (w.tape w.drawn (.appendCap s.length 0 e))
  generalize hN : (Question.appendCap s.length 0 e).cut (w.tape w.drawn (.appendCap s.length 0 e)) = N at hcap
  let cs : Array Value := (s.map fun b => Value.int .u8 b.toNat).toArray ++ Array.replicate (N - s.length) (.int .u8 0)
  have hcsz : cs.size = N := by simp [cs]; omega
  let w1 := w.drew.alloc (.cells cs e (0, 0))
  have hh : w1.heap[w.heap.size]? = some (.cells cs e (0, 0)) := heap_alloc_new w.drew _
  have hw' : (w1.freeze ⟨w.heap.size, cs.size, none⟩ 1).heap = w.heap.push (.cells cs e (cs.size, cs.size + 1)) := by
    apply Array.ext_getElem?
    intro j
    by_cases hj : j = w.heap.size
    · subst hj
      rw [freeze_here hh (by decide)]
      simp [newfr]
    · rw [freeze_other hj, Array.getElem?_push, if_neg hj]
      show (w.heap.push _)[j]? = _
      rw [Array.getElem?_push, if_neg hj]
  have hpost := flexed_post (ety := e) (es := 1) (vs := s.map byteVal) (mark := true) (cs := cs) (fr := (cs.size, cs.size + 1)) (w' := w1.freeze ⟨w.heap.size, cs.size, none⟩ 1) H hfree (by decide) (Nat.mod_one _)
    (okvs_iff.2 fun v hv => by obtain ⟨b, _, rfl⟩ := List.mem_map.1 hv; exact trivial) (List.all_eq_true.2 fun v hv => by obtain ⟨b, _, rfl⟩ := List.mem_map.1 hv; rfl)
    (by rw [hcsz]; simpa using hcap)
    (fun i v hv => by
      rw [List.getElem?_map] at hv
      cases hb : s[i]? with
      | none => rw [hb] at hv; cases hv
      | some b =>
        rw [hb] at hv; cases hv
        have hi := (List.getElem?_eq_some_iff.1 hb).1
        simp only [cs]
        rw [Array.getElem?_append_left (by simpa using hi)]
        simp [hb, conc, byteVal])
    (fun e => Bool.noConfusion e) (Nat.le_succ _) (fun k hk => by simp only []; omega) hw' freeze_os freeze_tape freeze_output
  have hsl := new_slice σ h.next s.length cs.size 1 w.heap.size (by decide) (by rw [hcsz]; omega)
  refine ⟨_, _, ?_, hsl.1, hpost⟩
  rw [hsl.2, hcsz, Nat.div_one]
  have hsz : (ByteArray.mk s.toArray).size = s.length := str_size s
  have harr : (ByteArray.mk s.toArray).data.map (fun b => Value.int .u8 b.toNat) = (s.map fun b => Value.int .u8 b.toNat).toArray := by simp
  have hsh : w1.shape? w.heap.size = some (e, cs.size) := by simp [World.shape?, hh]
  simp only [Conv.stringToBytes, hsz, harr, Sem.run_bind, run_choose, Question.forced, Bool.false_eq_true, if_false, Result.andThen_ok, hN, newRow, run_newObj, Sem.run_pure, markStringish, run_shape]
  have e1 : ({ w with drawn := w.drawn + 1 } : World).heap.size = w.heap.size := rfl
  have hw1 : ({ { w with drawn := w.drawn + 1 } with heap := w.heap.push (.cells cs e) } : World) = w1 := rfl
  simp only [cs] at hw1 hsh
  simp only [hw1, hsh]
  show Result.ok _ (w1.freeze ⟨w.heap.size, cs.size, none⟩ 1) = _
  rw [hcsz]
end Go.Abs

namespace Go.Abs
variable {P : Program} {B : Nat} {σ : Real} {h : Heap} {w : World}

/-! ### Conversions -/

theorem runes_from (s : ByteArray) : ∀ (b i : Nat) (acc : Array Value), (∀ v ∈ acc.toList, ∃ n, v = .int .i32 n) → ∀ v ∈ (Conv.runesFrom s b i acc).toList, ∃ n, v = .int .i32 n
  | 0, i, acc, h => h
  | b + 1, i, acc, h => by
    simp only [Conv.runesFrom]
    split
    · refine runes_from s b _ _ (fun v hv => ?_)
      simp only [Array.toList_push, List.mem_append, List.mem_singleton] at hv
      rcases hv with hv | rfl
      · exact h v hv
      · exact ⟨_, rfl⟩
    · exact h

theorem runesOf_conc (s : List UInt8) : concs σ (runesOf s) = (Conv.runesFrom ⟨s.toArray⟩ s.length 0 #[]).toList := by
  have key := runes_from ⟨s.toArray⟩ s.length 0 #[] (by simp)
  unfold runesOf
  generalize (Conv.runesFrom ⟨s.toArray⟩ s.length 0 #[]).toList = l at key
  induction l with
  | nil => rfl
  | cons v l ih =>
    obtain ⟨n, rfl⟩ := key v (by simp)
    simp only [List.filterMap_cons, concs, conc]
    rw [ih (fun u hu => key u (by simp [hu]))]

theorem runesOf_ok (s : List UInt8) : okvs σ (runesOf s) ∧ (runesOf s).all AVal.scalar = true := by
  unfold runesOf
  generalize (Conv.runesFrom ⟨s.toArray⟩ s.length 0 #[]).toList = l
  induction l with
  | nil => exact ⟨trivial, rfl⟩
  | cons v l ih =>
    simp only [List.filterMap_cons]
    split
    · exact ih
    · rename_i a hv
      cases v <;> first
        | (cases hv; done)
        | (cases hv; exact ⟨⟨trivial, ih.1⟩, by simp only [List.all_cons, ih.2, AVal.scalar, Bool.and_self]⟩)

theorem stringToRunes_sound (H : Rel P B σ h w) (hfree : Free σ h.next (h.next + 1)) (e : TypeId) (s : List UInt8) :
    ∃ σ' w', (Conv.stringToRunes e ⟨s.toArray⟩).run P w = .ok (conc σ' (.slice (some ⟨h.next, 0, 0⟩) (runesOf s).length .toEnd)) w' ∧ okv σ' (.slice (some ⟨h.next, 0, 0⟩) (runesOf s).length .toEnd) ∧
      Post P B σ h w σ' (h.push (.cells (flexed e 1 (runesOf s) false))) w' := by
  have hsz : (ByteArray.mk s.toArray).size = s.length := str_size s
  have hcc := runesOf_conc (σ := σ) s
  obtain ⟨ro1, ro2⟩ := runesOf_ok (σ := σ) s
  generalize runesOf s = rs at hcc ro1 ro2
  generalize hL : Conv.runesFrom ⟨s.toArray⟩ s.length 0 #[] = L at hcc
  have hLsz : L.size = rs.length := by rw [← Array.length_toList, ← hcc, concs_length]
  have hcap := cut_append (need := L.size) (old := 0) (e := e) (w.tape w.drawn (.appendCap L.size 0 e))
  generalize hN : (Question.appendCap L.size 0 e).cut (w.tape w.drawn (.appendCap L.size 0 e)) = N at hcap
  let cs : Array Value := L ++ Array.replicate (N - L.size) (.int .i32 0)
  have hcsz : cs.size = N := by simp [cs]; omega
  have hpost := flexed_post (ety := e) (es := 1) (vs := rs) (mark := false) (cs := cs) (fr := (0, 0)) (w' := w.drew.alloc (.cells cs e (0, 0))) H hfree (by decide) (Nat.mod_one _) ro1 ro2
    (by rw [hcsz, ← hLsz]; exact hcap)
    (fun i v hv => by
      have hi := (List.getElem?_eq_some_iff.1 hv).1
      simp only [cs]
      rw [Array.getElem?_append_left (by omega), ← Array.getElem?_toList, ← hcc, concs_eq, List.getElem?_map, hv]; rfl)
    (fun _ => rfl) (Nat.le_refl _) (fun k _ => by simp) rfl rfl rfl rfl
  have hsl := new_slice σ h.next rs.length cs.size 1 w.heap.size (by decide) (by rw [hcsz]; omega)
  refine ⟨_, _, ?_, hsl.1, hpost⟩
  rw [hsl.2, hcsz, Nat.div_one, ← hLsz]
  simp only [Conv.stringToRunes, hsz, hL, Sem.run_bind, run_choose, Question.forced, Bool.false_eq_true, if_false, Result.andThen_ok, hN, newRow, run_newObj, Sem.run_pure]
  rfl

theorem lenOf_le {x : AVal} {n : Nat} (hl : lenOf x = some n) (hx : okv σ x) : (Builtin.lenOf (conc σ x)).run P w = .ok n w := by
  unfold lenOf at hl
  split at hl
  · rename_i p _ _
    cases hl
    cases p with
    | none => simp [conc, Builtin.lenOf]
    | some p => obtain ⟨a, c, e⟩ := conc_slice σ p _ _ hx; rw [e]; simp [Builtin.lenOf]
  · cases hl
    obtain ⟨a, c, e⟩ := conc_zslice σ _ _ _ hx
    rw [e]; simp [Builtin.lenOf]
  · cases hl
    simp [conc, Builtin.lenOf, str_size]
  · cases hl

theorem bytesString_sound (H : Rel P B σ h w) {x : AVal} {n : Nat} {vs : List AVal} (hns : ∀ s, x ≠ .str s) (hl : lenOf x = some n) (hc : sliceCells 1 n x h = some vs) (hx : okv σ x) :
    (∀ s, ofBytes vs = some s → (Conv.bytesToString (conc σ x)).run P w = .ok (.string ⟨s.toArray⟩) w) ∧
    (∀ s, ofRunes vs = some s → (Conv.runesToString (conc σ x)).run P w = .ok (.string ⟨s.toArray⟩) w) := by
  obtain ⟨h1, _, _⟩ := sliceCells_sound H hc hx
  have hb : ∀ (a : Addr) (len cap : Nat) (s : List UInt8), (loadCells a len).run P w = .ok (concs σ vs).toArray w → ofBytes vs = some s →
      (Conv.bytesToString (.slice (some a) len cap)).run P w = .ok (.string ⟨s.toArray⟩) w := by
    intro a len cap s hload hs
    obtain ⟨ns, e1, e2⟩ := ofBytes_sound (σ := σ) hs
    rw [e1] at hload
    rw [run_bytesToString w a len cap ns hload, foldl_push, ← e2]
    simp [ByteArray.empty, ByteArray.emptyWithCapacity]
    rfl
  have hr : ∀ (a : Addr) (len cap : Nat) (s : List UInt8), (loadCells a len).run P w = .ok (concs σ vs).toArray w → ofRunes vs = some s →
      (Conv.runesToString (.slice (some a) len cap)).run P w = .ok (.string ⟨s.toArray⟩) w := by
    intro a len cap s hload hs
    obtain ⟨ns, e1, e2⟩ := ofRunes_sound (σ := σ) hs
    rw [e1] at hload
    rw [run_runesToString w a len cap ns hload, runesBytes, foldl_encode, ← e2]
    simp [ByteArray.empty, ByteArray.emptyWithCapacity]
    rfl
  cases x with
  | slice p len cap =>
    cases hl
    cases p with
    | none =>
      unfold sliceCells at hc
      simp only [] at hc
      split at hc
      · cases hc
        exact ⟨fun s hs => by cases hs; rfl, fun s hs => by cases hs; rfl⟩
      · cases hc
    | some p =>
      obtain ⟨a, c, e⟩ := conc_slice σ p _ _ hx
      rw [e] at h1 ⊢
      simp only [Builtin.firstCells, Nat.mul_one] at h1
      exact ⟨fun s => hb _ _ _ s h1, fun s => hr _ _ _ s h1⟩
  | zslice p l e =>
    cases hl
    obtain ⟨a, c, e⟩ := conc_zslice σ p l _ hx
    rw [e] at h1 ⊢
    simp only [Builtin.firstCells, Nat.zero_mul] at h1
    exact ⟨fun s => hb _ _ _ s h1, fun s => hr _ _ _ s h1⟩
  | str s => exact absurd rfl (hns s)
  | _ => cases hl

theorem markStringish_sound (H : Rel P B σ h w) {p : APtr} {len : Nat} {cap : ACap} {c : ACells} (hx : okv σ (.slice (some p) len cap)) (hc : h.fam p.fam = some c) (hro : c.ro = false) (hg : p.gen = c.gen) (hz : c.frz = 0) :
    ∃ a n w', conc σ (.slice (some p) len cap) = .slice (some a) len n ∧ (markStringish a).run P w = .ok () w' ∧ Post P B σ h w σ (h.put p.fam (.cells { c with mark := true })) w' := by
  obtain ⟨b, hb, hst, _⟩ := hx
  rw [hg] at hb
  have hco := H.cells hb hc
  obtain ⟨cs, fr, hh, hle, hro2, _⟩ := hco.heap
  obtain ⟨q1, q2, q3, q4, q5⟩ := hro2 hro
  have hpost := freeze_post (k := cs.size) (n := 1) (z := c.frz) H hc hb hro (by decide) (Nat.le_refl _) (fun fr' _ hle' hnf j hj1 hj2 hj3 => by
    have h0 := hnf j hj1 hj2 hj3
    unfold newfr
    split
    · simp only []; omega
    · rename_i hne
      simp only [beq_iff_eq] at hne
      have hlt : fr'.1 < fr'.2 := by omega
      -- what is frozen lies behind the block's end
      have : cs.size ≤ fr'.1 := by
        rcases Nat.lt_or_ge fr'.1 cs.size with h1 | h1
        · exact absurd ⟨by omega, by omega⟩ (hnf (fr'.1 + b.start) (by omega) (by omega) (by omega))
        · exact h1
      simp only []
      omega)
  refine ⟨b.at p.off, _, w.freeze ⟨b.block, cs.size, none⟩ 1, by simp only [conc, hg, hb]; rfl, ?_, hpost⟩
  have hsh : w.shape? b.block = some (c.ety, cs.size) := by simp [World.shape?, hh]
  simp [markStringish, RB.at, hsh]

theorem convert_sound (H : Rel P B σ h w) {src dst : TypeId} {x v : AVal} {h' : Heap} (hfree : Free σ h.next h'.next) (hc : convert P src dst x h = some (v, h')) (hx : okv σ x) :
    ∃ σ' w', (Go.convert src dst (conc σ x)).run P w = .ok (conc σ' v) w' ∧ okv σ' v ∧ Post P B σ h w σ' h' w' := by
  unfold convert at hc
  split at hc
  · rename_i u d hu hd
    split at hc
    · cases hc
      refine ⟨σ, w, ?_, trivial, Post.refl H⟩
      simp [Go.convert, run_underlying hu, run_underlying hd, conc, Conv.intToInt, wrap_eq]
    · cases hc
      refine ⟨σ, w, ?_, trivial, Post.refl H⟩
      simp [Go.convert, run_underlying hu, run_underlying hd, conc, Conv.intToString]
    · cases hc
      refine ⟨σ, w, ?_, trivial, Post.refl H⟩
      simp [Go.convert, run_underlying hu, run_underlying hd, conc]
    · rename_i e s
      split at hc
      · rename_i he
        cases hc
        obtain ⟨σ', w', r1, r2, r3⟩ := stringToBytes_sound H hfree e s
        refine ⟨σ', w', ?_, r2, r3⟩
        rw [← r1]
        simp [Go.convert, run_underlying hu, run_underlying hd, conc, run_underlying he]
      · rename_i he
        cases hc
        obtain ⟨σ', w', r1, r2, r3⟩ := stringToRunes_sound H hfree e s
        refine ⟨σ', w', ?_, r2, r3⟩
        rw [← r1]
        simp [Go.convert, run_underlying hu, run_underlying hd, conc, run_underlying he]
      · cases hc
    · rename_i e0 e p len cap
      split at hc
      · rename_i he
        split at hc
        · rename_i hbe
          rw [Nat.beq_eq] at hbe
          subst hbe
          simp only [Option.bind_eq_some_iff] at hc
          obtain ⟨c, hfc, hc⟩ := hc
          split at hc
          · rename_i hcond
            simp only [Bool.and_eq_true, Bool.not_eq_true', Nat.beq_eq] at hcond
            obtain ⟨⟨c1, c2⟩, c3⟩ := hcond
            cases hc
            obtain ⟨a, n, w', e1, e2, e3⟩ := markStringish_sound H hx hfc c1 c2 c3
            refine ⟨σ, w', ?_, hx, e3⟩
            obtain rfl : e0 = e := by rw [hu] at hd; cases hd; rfl
            rw [e1]
            simp [Go.convert, run_underlying hu, run_underlying he, e2]
          · cases hc
        · cases hc
      · cases hc
    · rename_i e x0 hns1 hns2
      simp only [Option.bind_eq_some_iff] at hc
      obtain ⟨n, hn, vs, hvs, hc⟩ := hc
      obtain ⟨s1, s2⟩ := bytesString_sound H (fun s e => hns2 s e) hn hvs hx
      have hconc : ∃ a l c, conc σ x = .slice a l c := by
        cases x with
        | slice p len cap => cases p with
          | none => exact ⟨_, _, _, rfl⟩
          | some p => obtain ⟨a, c, e⟩ := conc_slice σ p _ _ hx; exact ⟨_, _, _, e⟩
        | zslice p l e => obtain ⟨a, c, e⟩ := conc_zslice σ p l e hx; exact ⟨_, _, _, e⟩
        | str s => exact absurd rfl (hns2 s)
        | _ => cases hn
      obtain ⟨a, l, c, hcv⟩ := hconc
      rw [hcv] at s1 s2 ⊢
      split at hc
      · rename_i he
        simp only [Option.map_eq_some_iff] at hc
        obtain ⟨s, hs, hc⟩ := hc
        cases hc
        refine ⟨σ, w, ?_, trivial, Post.refl H⟩
        rw [show conc σ (.str s) = .string ⟨s.toArray⟩ from rfl, ← s1 s hs]
        simp [Go.convert, run_underlying hu, run_underlying hd, run_underlying he]
      · rename_i he
        simp only [Option.map_eq_some_iff] at hc
        obtain ⟨s, hs, hc⟩ := hc
        cases hc
        refine ⟨σ, w, ?_, trivial, Post.refl H⟩
        rw [show conc σ (.str s) = .string ⟨s.toArray⟩ from rfl, ← s2 s hs]
        simp [Go.convert, run_underlying hu, run_underlying hd, run_underlying he]
      · cases hc
    · cases hc
      refine ⟨σ, w, ?_, trivial, Post.refl H⟩
      simp [Go.convert, run_underlying hu, run_underlying hd, conc, Conv.unsafePointer]
    · rename_i t p
      simp only [Option.bind_eq_some_iff] at hc
      obtain ⟨c, hfc, n, hn, hc⟩ := hc
      split at hc
      · rename_i hcond
        simp only [Bool.and_eq_true, Bool.not_eq_true', Nat.blt_eq] at hcond
        obtain ⟨⟨c1, c2⟩, c3⟩ := hcond
        cases hc
        obtain ⟨b, hb, hst⟩ := hx
        have hco := H.cells hb hfc
        obtain ⟨cs, fr, hh, hle, _, _⟩ := hco.heap
        obtain ⟨x1, x2, x3, x4⟩ := hco.exact c2
        refine ⟨σ, w, ?_, ⟨b, hb, hst⟩, Post.refl H⟩
        have hsh : w.shape? b.block = some (c.ety, cs.size) := by simp [World.shape?, hh]
        simp only [conc, hb, Option.map_some]
        simp [Go.convert, run_underlying hu, run_underlying hd, Conv.unsafePointer, Conv.seenAt, viewAt, cellsIn, RB.at, hsh, run_sizeOf hn, show n ≠ 0 by omega,
          show ¬ (cs.size ≤ b.base + (p.off - b.start)) by omega]
      · cases hc
    · cases hc
      refine ⟨σ, w, ?_, trivial, Post.refl H⟩
      simp [Go.convert, run_underlying hu, run_underlying hd, conc, Conv.unsafePointer]
    · rename_i t p
      simp only [Option.bind_eq_some_iff] at hc
      obtain ⟨c, hfc, n, hn, hc⟩ := hc
      split at hc
      · rename_i hcond
        simp only [Bool.and_eq_true, Bool.not_eq_true', Nat.blt_eq] at hcond
        obtain ⟨⟨⟨c1, c2⟩, c3⟩, c4⟩ := hcond
        cases hc
        obtain ⟨b, hb, hst⟩ := hx
        have hco := H.cells hb hfc
        obtain ⟨cs, fr, hh, hle, hro, _⟩ := hco.heap
        obtain ⟨x1, x2, x3, x4⟩ := hco.exact c2
        obtain ⟨y1, y2, _⟩ := hro c3
        refine ⟨σ, w, ?_, ⟨b, hb, hst⟩, Post.refl H⟩
        have hcs : cs.size = c.size := by omega
        have hsh : w.shape? b.block = some (c.ety, c.size) := by simp [World.shape?, hh, hcs]
        simp only [conc, hb, Option.map_some]
        simp [Go.convert, run_underlying hu, run_underlying hd, Conv.unsafePointer, Conv.seenAt, viewAt, RB.at, hsh, run_sizeOf hn, show n ≠ 0 by omega, variablesAt, y1, x2, c4]
      · cases hc
    · cases hc
  · cases hc
end Go.Abs

namespace Go.Abs
variable {P : Program} {B : Nat} {σ : Real} {h : Heap} {w : World}

/-! ### append -/

/-- What append is given: the source, and the cells that it brings. -/
structure Src (P : Program) (σ : Real) (w : World) (es n : Nat) (vs : List AVal) (app : Sem (Array Value)) : Prop where
  run : ∀ w2 : World, w2.heap = w.heap → app.run P w2 = .ok (concs σ vs).toArray w2
  ok : okvs σ vs
  one : vs.all AVal.scalar = true
  len : vs.length = n * es

/-- How many elements the array has that a growing append draws. -/
def drawnCap (w : World) (need cap : Nat) (e : TypeId) : Nat := (Question.appendCap need cap e).cut (w.tape w.drawn (.appendCap need cap e))

/-- What is known of a run that appends: where there is room, and where there is none. -/
structure Appends (P : Program) (w : World) (es bytes : Nat) (e : TypeId) (a : Option Addr) (len cap n : Nat) (app : Sem (Array Value)) (m : Sem Value) : Prop where
  fits : len + n ≤ cap → ∀ (cs : Array Value) (w' : World), app.run P w = .ok cs w → (∀ b, a = some b → (storeCells (b.add (len * es)) cs.toList).run P w = .ok () w') → (a = none → w' = w) → m.run P w = .ok (.slice a (len + n) cap) w'
  grows : ¬ (len + n ≤ cap) → ¬ (((len + n : Nat) : Int) > IntKind.i64.max) → ¬ (Builtin.nextslicecap (len + n) cap * bytes > 2 ^ 48) → ∀ (old cs : Array Value) (z : Value),
    (∀ w2 : World, w2.heap = w.heap → app.run P w2 = .ok cs w2) → (∀ w2 : World, w2.heap = w.heap → (Builtin.firstCells es len (.slice a len cap)).run P w2 = .ok old w2) → (∀ w2 : World, (zeroValue e).run P w2 = .ok z w2) →
    m.run P w = .ok (.slice (some ⟨w.heap.size, 0, none⟩) (len + n) (drawnCap w (len + n) cap e)) (w.drew.alloc (.cells (old ++ cs ++ Builtin.zeroCells z.cells (drawnCap w (len + n) cap e - (len + n))) e (0, 0)))

/-- A growing append, over whatever the old cells are. -/
theorem grow_run {es bytes : Nat} {e : TypeId} {a : Option Addr} {len cap n : Nat} {app : Sem (Array Value)} {m : Sem Value} {vs : List AVal} {old : Array Value} {z : Value} (hm : Appends P w es bytes e a len cap n app m)
    (hsrc : Src P σ w es n vs app) (hgrow : cap < len + n) (hroom : (len + n) * (bytes + 1) ≤ 1000000000000)
    (hold : ∀ w2 : World, w2.heap = w.heap → (Builtin.firstCells es len (.slice a len cap)).run P w2 = .ok old w2)
    (hz : ∀ w2 : World, (zeroValue e).run P w2 = .ok z w2) (hzs : z.cells.size = es) :
    ∃ N rest, len + n ≤ N ∧ rest.size = (N - (len + n)) * es ∧
      m.run P w = .ok (.slice (some ⟨w.heap.size, 0, none⟩) (len + n) N) (w.drew.alloc (.cells (old ++ (concs σ vs).toArray ++ rest) e (0, 0))) := by
  have hcap := cut_append (need := len + n) (old := cap) (e := e) (w.tape w.drawn (.appendCap (len + n) cap e))
  have h1 : len + n ≤ 1000000000000 := by
    have : (len + n) * 1 ≤ (len + n) * (bytes + 1) := Nat.mul_le_mul_left _ (by omega)
    omega
  have h2 : (len + n) * bytes ≤ 140737488355328 := by
    have : (len + n) * bytes ≤ (len + n) * (bytes + 1) := Nat.mul_le_mul_left _ (by omega)
    omega
  have hfit := growslice_fits hgrow h2
  have h63 : ¬ (((len + n : Nat) : Int) > IntKind.i64.max) := by
    rw [IntKind.max_i64]; omega
  have h48 : ¬ (Builtin.nextslicecap (len + n) cap * bytes > 2 ^ 48) := by
    have : (2 : Nat) ^ 48 = 281474976710656 := by decide
    omega
  exact ⟨drawnCap w (len + n) cap e, Builtin.zeroCells z.cells (drawnCap w (len + n) cap e - (len + n)), hcap, by simp [Builtin.zeroCells, hzs], hm.grows (by omega) h63 h48 _ _ z hsrc.run hold hz⟩

theorem inplace_run {es bytes : Nat} {e : TypeId} {a : Option Addr} {len cap n : Nat} {app : Sem (Array Value)} {m : Sem Value} {vs : List AVal} (hm : Appends P w es bytes e a len cap n app m)
    (hsrc : Src P σ w es n vs app) (hfit : len + n ≤ cap) {w' : World} (hst : ∀ b, a = some b → (storeCells (b.add (len * es)) (concs σ vs)).run P w = .ok () w') (hnil : a = none → w' = w) :
    m.run P w = .ok (.slice a (len + n) cap) w' := hm.fits hfit _ w' (hsrc.run w rfl) hst hnil

theorem okvs_append {a b : List AVal} : okvs σ (a ++ b) ↔ okvs σ a ∧ okvs σ b := by
  simp only [okvs_iff, List.mem_append]
  exact ⟨fun h => ⟨fun v hv => h v (.inl hv), fun v hv => h v (.inr hv)⟩, fun h v hv => hv.elim (h.1 v) (h.2 v)⟩

theorem concs_append (a b : List AVal) : concs σ (a ++ b) = concs σ a ++ concs σ b := by simp [concs_eq]

/-- append makes a new family. -/
theorem grow_new (H : Rel P B σ h w) (hfree : Free σ h.next (h.next + 1)) {es bytes : Nat} {e : TypeId} {a : Option Addr} {len cap n : Nat} {app : Sem (Array Value)} {m : Sem Value} {vs old : List AVal} {z : Value} (hm : Appends P w es bytes e a len cap n app m)
    (hes : 0 < es) (hsrc : Src P σ w es n vs app) (hgrow : cap < len + n) (hroom : (len + n) * (bytes + 1) ≤ 1000000000000)
    (hold : ∀ w2 : World, w2.heap = w.heap → (Builtin.firstCells es len (.slice a len cap)).run P w2 = .ok (concs σ old).toArray w2) (hok : okvs σ old) (hone : old.all AVal.scalar = true) (hlen : old.length = len * es)
    (hz : ∀ w2 : World, (zeroValue e).run P w2 = .ok z w2) (hzs : z.cells.size = es) :
    ∃ σ' w', m.run P w = .ok (conc σ' (.slice (some ⟨h.next, 0, 0⟩) (len + n) .toEnd)) w' ∧ okv σ' (.slice (some ⟨h.next, 0, 0⟩) (len + n) .toEnd) ∧
      Post P B σ h w σ' (h.push (.cells (flexed e es (old ++ vs) false))) w' := by
  obtain ⟨N, rest, h1, h2, h3⟩ := grow_run hm hsrc hgrow hroom hold hz hzs
  let cs : Array Value := (concs σ old).toArray ++ (concs σ vs).toArray ++ rest
  have hcs : cs.size = N * es := by
    simp only [cs, Array.size_append, List.size_toArray, concs_length, hlen, hsrc.len, h2, ← Nat.add_mul]
    congr 1; omega
  have hpost := flexed_post (ety := e) (es := es) (vs := old ++ vs) (mark := false) (cs := cs) (fr := (0, 0)) (w' := w.drew.alloc (.cells cs e (0, 0))) H hfree hes
    (by rw [List.length_append, hlen, hsrc.len, ← Nat.add_mul]; exact Nat.mul_mod_left _ _) (okvs_append.2 ⟨hok, hsrc.ok⟩) (by rw [List.all_append, hone, hsrc.one]; rfl)
    (by simp only [cs, Array.size_append, List.size_toArray, concs_length, List.length_append]; omega)
    (fun i v hv => by
      have hi := (List.getElem?_eq_some_iff.1 hv).1
      simp only [cs]
      rw [Array.getElem?_append_left (by simp only [Array.size_append, List.size_toArray, concs_length]; simpa using hi), ← Array.getElem?_toList]
      simp only [Array.toList_append, ← concs_append]
      rw [concs_eq, List.getElem?_map, hv]; rfl)
    (fun _ => rfl) (Nat.le_refl _) (fun k _ => by simp) rfl rfl rfl rfl
  have hsl := new_slice σ h.next (len + n) cs.size es w.heap.size hes (by rw [hcs]; exact Nat.mul_le_mul_right _ h1)
  refine ⟨_, _, ?_, hsl.1, hpost⟩
  rw [hsl.2, h3, hcs, Nat.mul_div_cancel _ hes]

/-- append to a slice whose end is open, behind what is known of it: in place, or in a new array. -/
theorem grow_gen (H : Rel P B σ h w) {es bytes : Nat} {e : TypeId} {p : APtr} {len n : Nat} {app : Sem (Array Value)} {m : Sem Value} {vs : List AVal} {c : ACells} {z : Value} (hm : ∀ a l k, conc σ (.slice (some p) len .toEnd) = .slice a l k → Appends P w es bytes e a l k n app m)
    (hx : okv σ (.slice (some p) len .toEnd)) (hes : 0 < es) (hsrc : Src P σ w es n vs app) (hroom : (len + n) * (bytes + 1) ≤ 1000000000000) (hz : ∀ w2 : World, (zeroValue e).run P w2 = .ok z w2) (hzs : z.cells.size = es)
    (hc : h.fam p.fam = some c) (hg : p.gen = c.gen) (hst : c.start ≤ p.off) (hro : c.ro = false) (hfl : c.flex = true) (hce : c.es = es) (hmod : p.off % es = 0) 
    (hfz : c.frz ≤ p.off + len * es) (hty : c.ety = e) (hbig : ¬ p.off + (len + n) * es ≤ c.size) :
    ∃ σ' w', m.run P w = .ok (conc σ' (.slice (some ⟨p.fam, c.gen + 1, p.off⟩) (len + n) .toEnd)) w' ∧
      okv σ' (.slice (some ⟨p.fam, c.gen + 1, p.off⟩) (len + n) .toEnd) ∧
      Post P B σ h w σ' (h.put p.fam (.cells { c with size := p.off + (len + n) * es, gen := c.gen + 1, start := p.off, elems := setElems es (c.gen + 1) vs.length ((p.off + len * es) / es) vs c.elems })) w' := by
  obtain ⟨b, hb, hbst, hend⟩ := hx
  obtain ⟨_, hlen2⟩ := hend rfl
  rw [hg] at hb
  have hobj := fam_obj hc
  have hwf := H.full _ _ hobj
  have hco := H.cells hb hc
  have hbe : b.es = es := by rw [hco.es, hce]
  obtain ⟨cs, fr, hh, hle, hro2, hcell⟩ := hco.heap
  obtain ⟨q1, q2, q3, q4, q5⟩ := hro2 hro
  have hmul : (len + n) * es = len * es + n * es := Nat.add_mul _ _ _
  let c' : ACells := { c with size := p.off + (len + n) * es, gen := c.gen + 1, start := p.off, elems := setElems es (c.gen + 1) vs.length ((p.off + len * es) / es) vs c.elems }
  have hoffm : (p.off + len * es) % es = 0 := by rw [Nat.add_mul_mod_self_right]; exact hmod
  have hvm : vs.length % es = 0 := by rw [hsrc.len]; exact Nat.mul_mod_left _ _
  have hwrote : Wrote c c' (p.off + len * es) vs (c.gen + 1) := by
    refine wrote_setElems hwf (by rw [hce]; exact hoffm) (by rw [hce]; exact hvm) rfl (by rw [hce]) ?_ ?_ (Nat.le_succ _) (Nat.le_refl _)
    · show c.size ≤ p.off + (len + n) * es; omega
    · show p.off + len * es + vs.length ≤ p.off + (len + n) * es; rw [hsrc.len]; omega
  have hconc : conc σ (.slice (some p) len .toEnd) = .slice (some (b.at p.off)) len (b.cap p.off) := by simp only [conc, hg, hb]
  have hnone : σ p.fam (c.gen + 1) = none := by
    cases hs : σ p.fam (c.gen + 1) with
    | none => rfl
    | some b2 => have := (H.cells hs hc).gen; omega
  -- the new generation's place
  have addle : ∀ nb : RB, σ.le (fun f' g' => if f' = p.fam ∧ g' = c.gen + 1 then some nb else σ f' g') := by
    intro nb f' g' b' hb'
    simp only []
    split
    · rename_i he; obtain ⟨rfl, rfl⟩ := he; rw [hnone] at hb'; cases hb'
    · exact hb'
  by_cases hfit : len + n ≤ b.cap p.off
  · -- in place
    have hroomE : p.off + (len + n) * es ≤ b.ends := by
      unfold RB.cap at hfit
      rw [hbe] at hfit
      have h1 : (len + n) * es ≤ (b.ends - p.off) / es * es := Nat.mul_le_mul_right _ hfit
      have h2 : (b.ends - p.off) / es * es ≤ b.ends - p.off := Nat.div_mul_le_self _ _
      rw [hbe] at hlen2
      omega
    obtain ⟨w', hrun, hsp⟩ := run_storeCells (P := P) b.block (p.off + len * es - b.start) c.ety fr (concs σ vs) 0 w cs hh (by rw [concs_length, hsrc.len]; omega)
      (fun k h1 h2 => by
        rw [concs_length, hsrc.len] at h2
        have := q5 (k + b.start) (by omega) (by omega) (by omega)
        rwa [Nat.add_sub_cancel] at this) (mem_concs_one hsrc.one)
    obtain ⟨cs', g1, g2, g3⟩ := hsp.here
    let σ' : Real := fun f' g' => if f' = p.fam ∧ g' = c.gen + 1 then some b else σ f' g'
    have hle' : σ.le σ' := addle b
    have hs' : ∀ g' b', σ' p.fam g' = some b' → (g' = c.gen + 1 ∧ b' = b) ∨ (σ p.fam g' = some b' ∧ g' ≤ c.gen) := by
      intro g' b' hb'
      simp only [σ'] at hb'
      split at hb'
      · rename_i he; exact .inl ⟨he.2, (Option.some.inj hb').symm⟩
      · exact .inr ⟨hb', (H.cells hb' hc).gen⟩
    refine ⟨σ', w', ?_, ?_, ?_⟩
    · rw [inplace_run (w' := w') (hm _ _ _ hconc) hsrc hfit (fun b' hb' => by
        cases hb'
        rw [RB.at_add b hbst]
        have : b.at (p.off + len * es) = ⟨b.block, p.off + len * es - b.start, none⟩ := by simp [RB.at, q1]
        rw [this]; exact hrun) (fun e => absurd e (by simp))]
      simp only [conc, σ', and_self, if_true]
    · exact ⟨b, by simp [σ'], hbst, fun _ => ⟨by omega, by simp only []; rw [hbe]; exact hroomE⟩⟩
    · refine put_post H hobj (by simp [AObj.writable, hro]) (by simp [AObj.writable, hro]) hle' (fun f' g' hne => by simp [σ', hne])
        (fun g' b' hb' => by
          rcases hs' g' b' hb' with ⟨_, rfl⟩ | ⟨h1, _⟩
          · exact .inr ⟨by rw [hsp.size]; exact H.live _ _ _ hb, .inr ⟨_, _, hb, rfl⟩⟩
          · exact .inl h1)
        (fun g1' b1 g2' b2 h1 h2 hbk => by
          have e1 : ∃ g, σ p.fam g = some b1 := by rcases hs' _ _ h1 with ⟨_, rfl⟩ | ⟨h3, _⟩; exact ⟨_, hb⟩; exact ⟨_, h3⟩
          have e2 : ∃ g, σ p.fam g = some b2 := by rcases hs' _ _ h2 with ⟨_, rfl⟩ | ⟨h3, _⟩; exact ⟨_, hb⟩; exact ⟨_, h3⟩
          obtain ⟨_, e1⟩ := e1
          obtain ⟨_, e2⟩ := e2
          exact H.alike _ _ _ _ _ e1 e2 hbk)
        (by rw [hsp.size]; exact Nat.le_refl _) (fun k _ hno => hsp.other k (fun e => hno _ _ hb e.symm)) hsp.os hsp.tape hsp.output ?_ (fun c2 hc2 => by cases hc2; exact hwrote.wf)
      intro g' b' hb'
      have hold : ∃ g0, σ p.fam g0 = some b' ∧ g0 ≤ c.gen ∧ (g' = c.gen + 1 → g0 = c.gen ∧ b' = b) ∧ (g' ≠ c.gen + 1 → g0 = g') := by
        rcases hs' g' b' hb' with ⟨rfl, rfl⟩ | ⟨h1, h2⟩
        · exact ⟨c.gen, hb, Nat.le_refl _, fun _ => ⟨rfl, rfl⟩, fun hne => absurd rfl hne⟩
        · exact ⟨g', h1, h2, fun e => by omega, fun _ => rfl⟩
      obtain ⟨g0, hb0, hg0, hnew, hsame⟩ := hold
      have hk := H.cells hb0 hc
      obtain ⟨ds, fr2, k1, k2, k3, k4⟩ := hk.heap
      have hkst := hk.start
      refine ⟨?_, by rw [hk.es], by show b'.start ≤ p.off; omega, ?_, fun hf => absurd (hfl.symm.trans hf) (by simp), ?_⟩
      · show g' ≤ c.gen + 1
        by_cases hgn : g' = c.gen + 1
        · omega
        · have := hsame hgn; omega
      · intro hgn
        obtain ⟨_, rfl⟩ := hnew hgn
        exact hroomE
      · by_cases hblk : b'.block = b.block
        · obtain rfl : b' = b := H.alike _ _ _ _ _ hb hb0 hblk.symm
          refine ⟨cs', fr, g1, by rw [g2]; exact hle, fun _ => ⟨q1, by rw [g2]; exact q2, q3, q4, q5⟩, fun i v l hv his hil => ?_⟩
          have his : p.off ≤ i := his
          rcases hwrote.at_ i v l hv with ⟨a1, a2, a3, a4⟩ | ⟨a1, l0, a2, a3⟩
          · have hmem : v ∈ vs := List.mem_iff_getElem?.2 ⟨_, a3⟩
            obtain ⟨e1, e2⟩ := ext_v hle' v (okvs_iff.1 hsrc.ok v hmem)
            refine ⟨by rw [hsrc.len] at a2; omega, e1, List.all_eq_true.1 hsrc.one v hmem, ?_⟩
            rw [g3, if_pos (by rw [concs_length]; omega), concs_eq, List.getElem?_map]
            have : b'.base + (i - b'.start) - (p.off + len * es - b'.start + 0) = i - (p.off + len * es) := by omega
            rw [this, a3, e2]; rfl
          · have hl0 : l0 ≤ c.gen := by
              unfold ACells.cellAt at a3
              split at a3
              · rename_i us lo hq
                have := (hwf.bnd _ _ _ hq).1
                cases hx : us[i % c.es]? with
                | none => rw [hx] at a3; cases a3
                | some u => rw [hx] at a3; simp at a3; omega
              · cases a3
            obtain ⟨m1, m2, m3, m4⟩ := hcell i v l0 a3 (by omega) hl0
            obtain ⟨e1, e2⟩ := ext_v hle' v m2
            refine ⟨m1, e1, m3, ?_⟩
            rw [g3, if_neg, m4, e2]
            rw [concs_length]
            intro hr; exact a1 (by omega)
        · have hgne : g' ≠ c.gen + 1 := fun e => hblk (by rw [(hnew e).2])
          obtain rfl := hsame hgne
          refine ⟨ds, fr2, by rw [hsp.other _ hblk]; exact k1, k2, k3, fun i v l hv his hil => ?_⟩
          have his : p.off ≤ i := his
          rcases hwrote.at_ i v l hv with ⟨a1, a2, a3, a4⟩ | ⟨a1, l0, a2, a3⟩
          · omega
          · obtain ⟨m1, m2, m3, m4⟩ := k4 i v l0 a3 (by omega) (by omega)
            obtain ⟨e1, e2⟩ := ext_v hle' v m2
            exact ⟨m1, e1, m3, by rw [e2]; exact m4⟩
  · -- a new array
    have hsub : b.base + (p.off - b.start) + len * es ≤ cs.size := by rw [hbe] at hlen2; omega
    let old : Array Value := cs.extract (b.base + (p.off - b.start)) (b.base + (p.off - b.start) + len * es)
    have holdsz : old.size = len * es := by simp [old]; omega
    have hold : ∀ w2 : World, w2.heap = w.heap → (Builtin.firstCells es len (.slice (some (b.at p.off)) len (b.cap p.off))).run P w2 = .ok old w2 := by
      intro w2 hw2
      have hh2 : w2.heap[b.block]? = some (.cells cs c.ety fr) := by rw [hw2]; exact hh
      have := run_firstCells_some (P := P) w2 es len (b.at p.off) len (b.cap p.off) old.toList (by simp [holdsz]) (fun j v hv => by
        rw [RB.at_add b hbst, cell_of hh2]
        rw [Array.getElem?_toList] at hv
        have hj := (Array.getElem?_eq_some_iff.1 hv).1
        rw [holdsz] at hj
        simp only [old, Array.getElem?_extract] at hv
        rw [if_pos (by omega)] at hv
        rw [← hv]; congr 1; omega)
      simpa using this
    obtain ⟨N, rest, h1, h2, h3⟩ := grow_run (hm _ _ _ hconc) hsrc (by omega) hroom hold hz hzs
    let ds : Array Value := old ++ (concs σ vs).toArray ++ rest
    have hds : ds.size = N * es := by
      simp only [ds, Array.size_append, List.size_toArray, concs_length, holdsz, hsrc.len, h2, ← Nat.add_mul]
      congr 1; omega
    let nb : RB := ⟨w.heap.size, 0, p.off, p.off + N * es, es⟩
    let σ' : Real := fun f' g' => if f' = p.fam ∧ g' = c.gen + 1 then some nb else σ f' g'
    have hle' : σ.le σ' := addle nb
    have hs' : ∀ g' b', σ' p.fam g' = some b' → (g' = c.gen + 1 ∧ b' = nb) ∨ (σ p.fam g' = some b' ∧ g' ≤ c.gen) := by
      intro g' b' hb'
      simp only [σ'] at hb'
      split at hb'
      · rename_i he; exact .inl ⟨he.2, (Option.some.inj hb').symm⟩
      · exact .inr ⟨hb', (H.cells hb' hc).gen⟩
    have hNle : (len + n) * es ≤ N * es := Nat.mul_le_mul_right _ h1
    have hheap : ∀ k, k < w.heap.size → (w.drew.alloc (.cells ds e (0, 0))).heap[k]? = w.heap[k]? := fun k hk => heap_alloc_old w.drew _ k hk
    refine ⟨σ', w.drew.alloc (.cells ds e (0, 0)), ?_, ?_, ?_⟩
    · rw [h3]
      have e1 : nb.cap p.off = N := by simp only [nb, RB.cap, Nat.add_sub_cancel_left, Nat.mul_div_cancel _ hes]
      simp only [conc, σ', and_self, if_true, e1]
      simp only [nb, RB.at, Nat.sub_self, Nat.add_zero]
      rfl
    · exact ⟨nb, by simp [σ'], Nat.le_refl _, fun _ => ⟨hes, by simp only [nb]; omega⟩⟩
    · refine put_post H hobj (by simp [AObj.writable, hro]) (by simp [AObj.writable, hro]) hle' (fun f' g' hne => by simp [σ', hne])
        (fun g' b' hb' => by
          rcases hs' g' b' hb' with ⟨_, rfl⟩ | ⟨h4, _⟩
          · exact .inr ⟨by simp [nb], .inl (Nat.le_refl _)⟩
          · exact .inl h4)
        (fun g1' b1 g2' b2 h4 h5 hbk => by
          rcases hs' _ _ h4 with ⟨_, rfl⟩ | ⟨h6, _⟩ <;> rcases hs' _ _ h5 with ⟨_, rfl⟩ | ⟨h7, _⟩
          · rfl
          · have := H.live _ _ _ h7; simp only [nb] at hbk; omega
          · have := H.live _ _ _ h6; simp only [nb] at hbk; omega
          · exact H.alike _ _ _ _ _ h6 h7 hbk)
        (by simp) (fun k hk _ => hheap k hk) rfl rfl rfl ?_ (fun c2 hc2 => by cases hc2; exact hwrote.wf)
      intro g' b' hb'
      rcases hs' g' b' hb' with ⟨rfl, rfl⟩ | ⟨hb0, hg0⟩
      · refine ⟨Nat.le_refl _, by simp only [nb]; exact hce.symm, Nat.le_refl _, fun _ => by simp only [nb]; omega, fun hf => absurd (hfl.symm.trans hf) (by simp), ?_⟩
        refine ⟨ds, (0, 0), ?_, by simp only [nb]; omega, fun _ => ⟨rfl, by simp only [nb]; omega, fun _ => rfl, Nat.le_refl _, fun k _ _ _ => by simp⟩, fun i v l hv his hil => ?_⟩
        · show (w.drew.alloc (.cells ds e (0, 0))).heap[w.heap.size]? = some (.cells ds c.ety (0, 0))
          rw [hty]; exact heap_alloc_new w.drew _
        · have his : p.off ≤ i := his
          simp only [nb, Nat.zero_add]
          rcases hwrote.at_ i v l hv with ⟨a1, a2, a3, a4⟩ | ⟨a1, l0, a2, a3⟩
          · have hmem : v ∈ vs := List.mem_iff_getElem?.2 ⟨_, a3⟩
            obtain ⟨e1, e2⟩ := ext_v hle' v (okvs_iff.1 hsrc.ok v hmem)
            rw [hsrc.len] at a2
            refine ⟨by omega, e1, List.all_eq_true.1 hsrc.one v hmem, ?_⟩
            simp only [ds]
            rw [Array.getElem?_append_left (by simp only [Array.size_append, List.size_toArray, concs_length, holdsz, hsrc.len]; omega), Array.getElem?_append_right (by rw [holdsz]; omega), holdsz]
            have : i - p.off - len * es = i - (p.off + len * es) := by omega
            rw [this, List.getElem?_toArray, concs_eq, List.getElem?_map, a3, e2]; rfl
          · have hq0 : l0 ≤ c.gen ∧ i < c.size := by
              unfold ACells.cellAt at a3
              split at a3
              · rename_i us lo hq
                have hb2 := hwf.bnd _ _ _ hq
                have hi : i / c.es * c.es + i % c.es = i := by rw [Nat.mul_comm]; exact Nat.div_add_mod i c.es
                have hmd : i % c.es < c.es := Nat.mod_lt _ hwf.pos
                rw [Nat.succ_mul] at hb2
                cases hx : us[i % c.es]? with
                | none => rw [hx] at a3; cases a3
                | some u => rw [hx] at a3; simp at a3; exact ⟨by omega, by omega⟩
              · cases a3
            obtain ⟨m1, m2, m3, m4⟩ := hcell i v l0 a3 (by omega) hq0.1
            obtain ⟨e1, e2⟩ := ext_v hle' v m2
            have hi2 : i < p.off + len * es := by rw [hsrc.len] at a1; omega
            refine ⟨by omega, e1, m3, ?_⟩
            simp only [ds]
            rw [Array.getElem?_append_left (by simp only [Array.size_append, List.size_toArray, concs_length, holdsz, hsrc.len]; omega), Array.getElem?_append_left (by rw [holdsz]; omega)]
            simp only [old, Array.getElem?_extract]
            rw [if_pos (by omega), e2, ← m4]; congr 1; omega
      · have hk := H.cells hb0 hc
        obtain ⟨ds2, fr2, k1, k2, k3, k4⟩ := hk.heap
        have hkst := hk.start
        refine ⟨by show g' ≤ c.gen + 1; omega, by rw [hk.es], by show b'.start ≤ p.off; omega, fun e => by have : g' = c.gen + 1 := e; omega, fun hf => absurd (hfl.symm.trans hf) (by simp), ?_⟩
        refine ⟨ds2, fr2, by rw [hheap _ (H.live _ _ _ hb0)]; exact k1, k2, k3, fun i v l hv his hil => ?_⟩
        have his : p.off ≤ i := his
        rcases hwrote.at_ i v l hv with ⟨a1, a2, a3, a4⟩ | ⟨a1, l0, a2, a3⟩
        · omega
        · obtain ⟨m1, m2, m3, m4⟩ := k4 i v l0 a3 (by omega) (by omega)
          obtain ⟨e1, e2⟩ := ext_v hle' v m2
          exact ⟨m1, e1, m3, by rw [e2]; exact m4⟩
end Go.Abs

namespace Go.Abs
variable {P : Program} {B : Nat} {σ : Real} {h : Heap} {w : World}

theorem appendCells_sound (H : Rel P B σ h w) {e : TypeId} {es bytes n : Nat} {s v : AVal} {vs : List AVal} {h' : Heap} {app : Sem (Array Value)} {m : Sem Value} {z : Value} (hm : ∀ a l k, conc σ s = .slice a l k → Appends P w es bytes e a l k n app m) (hfree : Free σ h.next h'.next)
    (ha : appendCells e es bytes s vs n h = some (v, h')) (hs : okv σ s)
    (hsrc : vs.length = n * es → Src P σ w es n vs app) (hz : ∀ w2 : World, (zeroValue e).run P w2 = .ok z w2) (hzs : z.cells.size = es) :
    ∃ σ' w', m.run P w = .ok (conc σ' v) w' ∧ okv σ' v ∧ Post P B σ h w σ' h' w' := by
  unfold appendCells at ha
  split at ha
  · cases ha
  · rename_i hcond
    simp only [Bool.and_eq_true, Nat.blt_eq, Nat.beq_eq, Nat.ble_eq] at hcond
    obtain ⟨⟨hes, hvl⟩, hsmall⟩ := hcond
    have hsrc := hsrc hvl
    have hn0 : n = 0 → vs = [] := fun e => by subst e; rw [Nat.zero_mul] at hvl; exact List.length_eq_zero_iff.1 hvl
    have idle : ∀ (a : Option Addr) (len cap : Nat), conc σ s = .slice a len cap → n = 0 → len ≤ cap → v = s → h' = h →
        ∃ σ' w', m.run P w = .ok (conc σ' v) w' ∧ okv σ' v ∧ Post P B σ h w σ' h' w' := by
      intro a len cap hc hn hle hv hh
      subst hv hh
      refine ⟨σ, w, ?_, hs, Post.refl H⟩
      rw [hc, inplace_run (w' := w) (hm _ _ _ hc) hsrc (by omega) (fun b _ => by rw [hn0 hn]; rfl) (fun _ => rfl), hn, Nat.add_zero]
    split at ha
    · -- nil
      split at ha
      · cases ha
        exact idle none 0 0 rfl rfl (Nat.le_refl _) rfl rfl
      · rename_i k
        cases ha
        obtain ⟨σ', w', r1, r2, r3⟩ := grow_new (a := none) (len := 0) (cap := 0) (old := []) (hm := hm _ _ _ rfl) H hfree hes hsrc (by omega)
          (by rw [Nat.zero_add]; exact Nat.le_trans (Nat.mul_le_mul_right _ (by omega)) hsmall) (fun w2 _ => rfl) trivial rfl (by simp) hz hzs
        rw [Nat.zero_add] at r1 r2
        exact ⟨σ', w', r1, r2, r3⟩
    · -- its capacity is known
      rename_i p len cap
      obtain ⟨b, hb, hst, _⟩ := hs
      have hconc : conc σ (.slice (some p) len (.exact cap)) = .slice (some (b.at p.off)) len cap := by simp only [conc, hb]
      split at ha
      · rename_i hle
        have hle := Nat.le_of_ble_eq_true hle
        split at ha
        · cases ha
          exact idle _ len cap hconc rfl (by omega) rfl rfl
        · simp only [Option.bind_eq_some_iff] at ha
          obtain ⟨c, hc, ha⟩ := ha
          split at ha
          · rename_i hcw
            obtain ⟨w1, w2, w3, w4, w5⟩ := canWrite_iff hcw
            simp only [Option.map_eq_some_iff] at ha
            obtain ⟨c', hw, ha⟩ := ha
            cases ha
            rw [w1] at hb
            have hco := H.cells hb hc
            obtain ⟨q0, q1, q2, q3, q4, q5, q6, q7, q8, q9⟩ := write_sound (H.full _ _ (fam_obj hc)) (by rw [hvl]; exact w3) hw
            obtain ⟨w', hrun, hpost⟩ := write_post H hc hb w2 (by have := hco.size rfl; rw [hvl]; omega) w4 w5 hsrc.ok hsrc.one q0 q1 q2 q3 q4 q5 q6 q7 q8 q9
            refine ⟨σ, w', ?_, ⟨b, by simp only [w1]; exact hb, hst, fun e => ACap.noConfusion e⟩, hpost⟩
            rw [inplace_run (w' := w') (hm _ _ _ hconc) hsrc hle (fun b' hb' => by cases hb'; rw [RB.at_add b hst]; exact hrun) (fun e => absurd e (by simp))]
            simp only [conc, w1, hb]
          · cases ha
      · rename_i hle
        have hgrow : cap < len + n := by
          rcases Nat.lt_or_ge cap (len + n) with h1 | h1
          · exact h1
          · have h2 := Nat.ble_eq_true_of_le (show len + n ≤ cap from h1); rw [h2] at hle; cases hle
        simp only [Option.bind_eq_some_iff] at ha
        obtain ⟨old, ho, ha⟩ := ha
        split at ha
        · rename_i hroom
          have hroom := Nat.le_of_ble_eq_true hroom
          cases ha
          have hold : ∀ w2 : World, w2.heap = w.heap → (Builtin.firstCells es len (.slice (some (b.at p.off)) len cap)).run P w2 = .ok (concs σ old).toArray w2 := by
            intro w2 hw2
            have := (sliceCells_sound (H.drawn hw2) ho ⟨b, hb, hst, fun e => ACap.noConfusion e⟩).1
            rw [hconc] at this; exact this
          obtain ⟨_, o2, o3⟩ := sliceCells_sound H ho ⟨b, hb, hst, fun e => ACap.noConfusion e⟩
          have olen : old.length = len * es := by
            unfold sliceCells at ho
            simp only [] at ho
            split at ho
            · simp only [Option.bind_eq_some_iff] at ho
              obtain ⟨c, hc, ho⟩ := ho
              split at ho
              · rename_i hcr
                exact (H.read hb hc (canRead_iff hcr).2.1 ho).1
              · cases ho
            · cases ho
          obtain ⟨σ', w', r1, r2, r3⟩ := grow_new (hm := hm _ _ _ hconc) H hfree hes hsrc hgrow (Nat.le_trans (Nat.mul_le_mul_right _ (by omega)) hroom) hold o2 o3 olen hz hzs
          exact ⟨σ', w', r1, r2, r3⟩
        · cases ha
    · -- its end is open
      rename_i p len
      split at ha
      · cases ha
        obtain ⟨b, hb, hst, hend⟩ := hs
        obtain ⟨e1, e2⟩ := hend rfl
        refine idle (some (b.at p.off)) len (b.cap p.off) (by simp only [conc, hb]) rfl ?_ rfl rfl
        unfold RB.cap
        rw [Nat.le_div_iff_mul_le e1]; omega
      · rename_i k _
        simp only [Option.bind_eq_some_iff] at ha
        obtain ⟨c, hc, ha⟩ := ha
        split at ha
        · cases ha
        · rename_i hcond
          simp only [Bool.and_eq_true, Nat.beq_eq, Nat.ble_eq, Bool.not_eq_true'] at hcond
          obtain ⟨⟨⟨⟨⟨⟨⟨⟨⟨g1, g2⟩, g3⟩, g4⟩, gty⟩, g5⟩, g6⟩, g7⟩, g8⟩, g9⟩ := hcond
          split at ha
          · rename_i hle
            have hle := Nat.le_of_ble_eq_true hle
            simp only [Option.map_eq_some_iff] at ha
            obtain ⟨c', hw, ha⟩ := ha
            cases ha
            obtain ⟨b, hb, hst, hend⟩ := hs
            obtain ⟨e1, e2⟩ := hend rfl
            have hb' := hb
            rw [g1] at hb
            have hco := H.cells hb hc
            have hbe : b.es = es := by rw [hco.es, g5]
            have hsz := hco.size rfl
            have hmul : (len + k.succ) * es = len * es + k.succ * es := Nat.add_mul _ _ _
            obtain ⟨q0, q1, q2, q3, q4, q5, q6, q7, q8, q9⟩ := write_sound (H.full _ _ (fam_obj hc)) (by rw [hvl]; omega) hw
            obtain ⟨w', hrun, hpost⟩ := write_post (off := p.off + len * es) H hc hb (by omega) (by rw [hvl]; omega) g8 g3 hsrc.ok hsrc.one q0 q1 q2 q3 q4 q5 q6 q7 q8 q9
            refine ⟨σ, w', ?_, ⟨b, hb', hst, fun _ => ⟨e1, by rw [hbe]; omega⟩⟩, hpost⟩
            have hconc : conc σ (.slice (some p) len .toEnd) = .slice (some (b.at p.off)) len (b.cap p.off) := by simp only [conc, hb']
            rw [inplace_run (w' := w') (hm _ _ _ hconc) hsrc (by unfold RB.cap; rw [hbe, Nat.le_div_iff_mul_le hes]; omega) (fun b' hb' => by cases hb'; rw [RB.at_add b hst]; exact hrun) (fun e => absurd e (by simp))]
            simp only [conc, hb']
          · rename_i hle
            have hbig : ¬ p.off + (len + k.succ) * es ≤ c.size := by intro h1; rw [← Nat.ble_eq] at h1; rw [h1] at hle; cases hle
            cases ha
            exact grow_gen (hm := hm) H hs hes hsrc (Nat.le_trans (Nat.mul_le_mul_right _ (Nat.le_refl _)) g9) hz hzs hc g1 g2 g3 g4 g5 g6 g8 gty hbig
    · -- an empty slice behind what is known
      rename_i p l es2
      split at ha
      · cases ha
        obtain ⟨a, c, hc⟩ := conc_zslice σ p l es2 hs
        exact idle (some a) 0 c hc rfl (Nat.zero_le _) rfl rfl
      · cases ha
    · cases ha

set_option maxHeartbeats 4000000 in
theorem append_other {st xt e : TypeId} {argTypes : Array TypeId} {ty : TypeId} {i : TypeInfo} {u : TypeDesc} (h0 : argTypes[0]? = some st) (h1 : argTypes[1]? = some xt) (hst : P.underlying st = some (.slice e)) (hxt : P.underlying xt = some u)
    (hu : isInt u = false) (hi : P.info? e = some i) (a : Option Addr) (l c : Nat) {x : Value} {n : Nat} (w : World) (hn : (Builtin.lenOf x).run P w = .ok n w) :
    Appends P w i.size i.bytes e a l c n (Builtin.firstCells i.size n x) (Builtin.append_ argTypes ty #[.slice a l c, x]) := by
  have hti : ∀ w2, (typeInfo e).run P w2 = .ok i w2 := fun w2 => by simp [typeInfo, hi]
  have hsz : ∀ w2, (sizeOf e).run P w2 = .ok i.size w2 := fun w2 => by simp [sizeOf, typeInfo, hi]
  refine ⟨fun hfit cs w' happ hst' hnil => ?_, fun hneed h63 h48 old cs z happ hold hz => ?_⟩
  · unfold Builtin.append_
    cases u <;> first
      | (cases hu; done)
      | (simp only [h0, h1, List.getElem?_toArray, List.getElem?_cons_zero, List.getElem?_cons_succ, Sem.run_bind, run_underlying hst, run_underlying hxt, Result.andThen_ok, hsz, hti, Sem.run_pure, Bool.false_eq_true, if_false, hn, Sem.run_ite, Bool.not_false, if_true, false_or, if_pos hfit, happ]
         cases a with
         | none => rw [hnil rfl]; rfl
         | some b => simp only [Sem.run_bind, hst' b rfl, Result.andThen_ok, Sem.run_pure])
  · have hw : ({ w with drawn := w.drawn + 1 } : World).heap = w.heap := rfl
    unfold Builtin.append_
    cases u <;> first
      | (cases hu; done)
      | (simp only [h0, h1, List.getElem?_toArray, List.getElem?_cons_zero, List.getElem?_cons_succ, Sem.run_bind, run_underlying hst, run_underlying hxt, Result.andThen_ok, hsz, hti, Sem.run_pure, Bool.false_eq_true, if_false, hn, Sem.run_ite, Bool.not_false, if_true, if_neg hneed]
         rw [if_neg (fun h => h63 h.1), if_neg h48]
         simp only [run_choose, Question.forced, Bool.false_eq_true, if_false, Result.andThen_ok, run_askRoom]
         rw [hold _ hw]
         simp only [Result.andThen_ok]
         rw [happ _ hw]
         simp only [Result.andThen_ok, hz, newRow]
         rfl)

theorem append_int {st xt e : TypeId} {argTypes : Array TypeId} {ty : TypeId} {i : TypeInfo} {k : IntKind} (h0 : argTypes[0]? = some st) (h1 : argTypes[1]? = some xt) (hst : P.underlying st = some (.slice e)) (hxt : P.underlying xt = some (.int k))
    (hi : P.info? e = some i) (a : Option Addr) (l c : Nat) {k' : IntKind} {n : Nat} (w : World) (hn : n ≤ 100000000) (hb : n * i.bytes ≤ 1000000000000) :
    Appends P w i.size i.bytes e a l c n (if n * i.size = 0 then pure #[] else (do pure (Builtin.zeroCells (← zeroValue e).cells n))) (Builtin.append_ argTypes ty #[.slice a l c, .int k' n]) := by
  have hti : ∀ w2, (typeInfo e).run P w2 = .ok i w2 := fun w2 => by simp [typeInfo, hi]
  have hsz : ∀ w2, (sizeOf e).run P w2 = .ok i.size w2 := fun w2 => by simp [sizeOf, typeInfo, hi]
  have hw : IntKind.i64.wrap (n : Int) = (n : Int) := by rw [w_i64]; split <;> omega
  have hneg : ¬ ((n : Int) < 0) := by omega
  have hmul : ¬ ((n : Int) * (i.bytes : Int) > 2 ^ 48) := by
    have : ((n * i.bytes : Nat) : Int) ≤ 1000000000000 := Int.ofNat_le.2 hb
    rw [Int.natCast_mul] at this
    omega
  refine ⟨fun hfit cs w' happ hst' hnil => ?_, fun hneed h63 h48 old cs z happ hold hz => ?_⟩
  · unfold Builtin.append_
    simp only [h0, h1, List.getElem?_toArray, List.getElem?_cons_zero, List.getElem?_cons_succ, Sem.run_bind, run_underlying hst, run_underlying hxt, Result.andThen_ok, hsz, hti, Sem.run_pure, if_true, asInt, asIntOf, hw, if_neg hneg, if_neg hmul,
      Int.toNat_natCast, Sem.run_ite, Bool.not_true, Bool.false_eq_true, if_false, true_or, and_true, if_pos hfit]
    simp only [Sem.run_ite, Sem.run_bind, Sem.run_pure] at happ
    rw [happ]
    cases a with
    | none => rw [hnil rfl]; rfl
    | some b => simp only [Sem.run_bind, hst' b rfl, Result.andThen_ok, Sem.run_pure]
  · have hw2 : ({ w with drawn := w.drawn + 1 } : World).heap = w.heap := rfl
    have happ' := happ _ hw2
    simp only [Sem.run_ite, Sem.run_bind, Sem.run_pure] at happ'
    unfold Builtin.append_
    simp only [h0, h1, List.getElem?_toArray, List.getElem?_cons_zero, List.getElem?_cons_succ, Sem.run_bind, run_underlying hst, run_underlying hxt, Result.andThen_ok, hsz, hti, Sem.run_pure, if_true, asInt, asIntOf, hw, if_neg hneg, if_neg hmul,
      Int.toNat_natCast, Sem.run_ite, Bool.not_true, Bool.false_eq_true, if_false, if_neg hneed]
    rw [if_neg (fun h => h63 h.1), if_neg h48]
    simp only [run_choose, Question.forced, Bool.false_eq_true, if_false, Result.andThen_ok, run_askRoom]
    rw [hold _ hw2]
    simp only [Result.andThen_ok]
    rw [happ']
    simp only [Result.andThen_ok, hz, newRow]
    rfl
end Go.Abs

namespace Go.Abs
variable {P : Program} {B : Nat} {σ : Real} {h : Heap} {w : World}

set_option maxRecDepth 20000 in
theorem append_sound (H : Rel P B σ h w) {argTypes : Array TypeId} {ty : TypeId} {s x v : AVal} {h' : Heap} (hfree : Free σ h.next h'.next) (ha : append P argTypes s x h = some (v, h')) (hs : okv σ s) (hx : okv σ x) :
    ∃ σ' w', (Builtin.append_ argTypes ty #[conc σ s, conc σ x]).run P w = .ok (conc σ' v) w' ∧ okv σ' v ∧ Post P B σ h w σ' h' w' := by
  unfold append at ha
  simp only [Option.bind_eq_some_iff] at ha
  obtain ⟨st, h0, xt, h1, ha⟩ := ha
  split at ha
  · rename_i e u hst hxt
    simp only [Option.bind_eq_some_iff] at ha
    obtain ⟨i, hi, z, hz, zs, hf, ha⟩ := ha
    split at ha
    · cases ha
    · rename_i hzl
      rw [Nat.beq_eq] at hzl
      have hzr : ∃ zv, (∀ w2 : World, (zeroValue e).run P w2 = .ok zv w2) ∧ zv.cells.size = i.size ∧ zv.cells = (concs σ zs).toArray ∧ okvs σ zs ∧ zs.all AVal.scalar = true := by
        obtain ⟨zv, _, hzc, it, hit, hiz⟩ := run_zero hz w
        obtain ⟨o1, o2⟩ := hzc σ
        obtain ⟨f1, f2, f3⟩ := flat_sound hf o1
        rw [o2] at f1
        exact ⟨zv, fun w2 => by simp [zeroValue, typeInfo, hit, hiz], by rw [f1]; simp [concs_length, hzl], f1, f2, f3⟩
      obtain ⟨zv, z1, z2, z3, z4, z5⟩ := hzr
      have hsl : ∃ a l c, conc σ s = .slice a l c := by
        have hsh : (∃ p l c, s = .slice p l c) ∨ ∃ p l q, s = .zslice p l q := by
          have aux : ∀ n vs, appendCells e i.size i.bytes s vs n h = some (v, h') → (∃ p l c, s = .slice p l c) ∨ ∃ p l q, s = .zslice p l q := by
            intro n vs hac
            unfold appendCells at hac
            split at hac
            · cases hac
            · cases s with
              | slice p l c => exact .inl ⟨_, _, _, rfl⟩
              | zslice p l q => exact .inr ⟨_, _, _, rfl⟩
              | _ => cases hac
          split at ha
          · split at ha
            · simp only [Option.bind_eq_some_iff] at ha
              obtain ⟨n, _, ha⟩ := ha
              exact aux _ _ ha
            · cases ha
          · simp only [Option.bind_eq_some_iff] at ha
            obtain ⟨n, _, vs, _, ha⟩ := ha
            exact aux _ _ ha
        rcases hsh with ⟨p, l, c, rfl⟩ | ⟨p, l, q, rfl⟩
        · cases p with
          | none => exact ⟨_, _, _, rfl⟩
          | some p => obtain ⟨a, c', e⟩ := conc_slice σ p l c hs; exact ⟨_, _, _, e⟩
        · obtain ⟨a, c', e⟩ := conc_zslice σ p l q hs; exact ⟨_, _, _, e⟩
      obtain ⟨a, l, cc, hsc⟩ := hsl
      split at ha
      · rename_i hu
        split at ha
        · rename_i k' m
          simp only [Option.bind_eq_some_iff] at ha
          obtain ⟨n, hn, ha⟩ := ha
          obtain ⟨rfl, hnlt⟩ := natOf_sound hn
          obtain ⟨k, rfl⟩ : ∃ k, u = .int k := by cases u <;> first | exact ⟨_, rfl⟩ | cases hu
          have hbound : n * i.bytes ≤ 1000000000000 := by
            unfold appendCells at ha
            split at ha
            · cases ha
            · rename_i hcond
              simp only [Bool.and_eq_true, Nat.ble_eq] at hcond
              have h3 := hcond.2
              have : n * i.bytes ≤ (n + 1000) * (i.bytes + 1) := Nat.mul_le_mul (by omega) (by omega)
              omega
          have hrep : okvs σ (repeated zs n) := okvs_iff.2 fun u hu => okvs_iff.1 z4 u (repeated_mem hu)
          have hrep2 : (repeated zs n).all AVal.scalar = true := List.all_eq_true.2 fun u hu => List.all_eq_true.1 z5 u (repeated_mem hu)
          obtain ⟨σ', w', r1, r2, r3⟩ := appendCells_sound (m := Builtin.append_ argTypes ty #[conc σ s, .int k' n]) (app := if n * i.size = 0 then pure #[] else (do pure (Builtin.zeroCells (← zeroValue e).cells n))) (hm := fun a l k he => by rw [he]; exact append_int (ty := ty) (k' := k') h0 h1 hst hxt hi a l k w (by omega) hbound) H hfree ha hs
            (fun hl => ⟨fun w2 _ => by
              split
              · rename_i h00
                have : repeated zs n = [] := List.length_eq_zero_iff.1 (by rw [hl, h00])
                rw [this]; rfl
              · rename_i h00
                have hzp : 0 < zs.length := by
                  rw [hzl]
                  rcases Nat.eq_zero_or_pos i.size with e | e
                  · rw [e] at h00; simp at h00
                  · exact e
                simp only [Sem.run_bind, z1, Result.andThen_ok, Sem.run_pure, z3]
                congr 1
                unfold Builtin.zeroCells
                exact zeros_eq (σ := σ) zs hzp n _ (by simp [concs_length]), hrep, hrep2, hl⟩) z1 z2
          exact ⟨σ', w', r1, r2, r3⟩
        · cases ha
      · rename_i hu
        simp only [Option.bind_eq_some_iff] at ha
        obtain ⟨n, hn, vs, hvs, ha⟩ := ha
        obtain ⟨_, c2, c3⟩ := sliceCells_sound H hvs hx
        obtain ⟨σ', w', r1, r2, r3⟩ := appendCells_sound (m := Builtin.append_ argTypes ty #[conc σ s, conc σ x]) (app := Builtin.firstCells i.size n (conc σ x)) (hm := fun a l k he => by rw [he]; exact append_other (ty := ty) h0 h1 hst hxt hu hi a l k w (lenOf_le hn hx)) H hfree ha hs
          (fun hl => ⟨fun w2 hw2 => (sliceCells_sound (H.drawn hw2) hvs hx).1, c2, c3, hl⟩) z1 z2
        exact ⟨σ', w', r1, r2, r3⟩
  · cases ha

theorem least_eq (a b : Nat) : least a b = min a b := by
  unfold least
  cases hb : Nat.ble a b with
  | true => have := Nat.le_of_ble_eq_true hb; simp only []; omega
  | false =>
    have : ¬ a ≤ b := by intro h1; rw [← Nat.ble_eq] at h1; rw [h1] at hb; cases hb
    simp only []; omega

theorem slice_shape {d : AVal} {n : Nat} (hl : lenOf d = some n) (hns : ∀ s, d ≠ .str s) (hd : okv σ d) : ∃ a c, conc σ d = .slice a n c := by
  unfold lenOf at hl
  split at hl
  · rename_i p _ cap
    cases hl
    cases p with
    | none => exact ⟨_, _, rfl⟩
    | some p => obtain ⟨a, c', e⟩ := conc_slice σ p n cap hd; exact ⟨_, _, e⟩
  · cases hl; obtain ⟨a, c', e⟩ := conc_zslice σ _ _ _ hd; exact ⟨_, _, e⟩
  · exact absurd rfl (hns _)
  · cases hl

theorem firstCells_zero {x : AVal} {n : Nat} (hl : lenOf x = some n) (hx : okv σ x) (es : Nat) (w : World) : (Builtin.firstCells es 0 (conc σ x)).run P w = .ok #[] w := by
  by_cases hs : ∃ s, x = .str s
  · obtain ⟨s, rfl⟩ := hs
    simp [conc, Builtin.firstCells]
  · obtain ⟨a, c, e⟩ := slice_shape hl (fun s e => hs ⟨s, e⟩) hx
    rw [e]
    cases a <;> simp [Builtin.firstCells, loadCells, loadCellsFrom]

theorem copy_sound (H : Rel P B σ h w) {argTypes : Array TypeId} {ty : TypeId} {d x v : AVal} {h' : Heap} (hc : copyOf P argTypes d x h = some (v, h')) (hd : okv σ d) (hx : okv σ x) :
    ∃ w', (Builtin.copy_ argTypes ty #[conc σ d, conc σ x]).run P w = .ok (conc σ v) w' ∧ okv σ v ∧ Post P B σ h w σ h' w' := by
  unfold copyOf at hc
  simp only [Option.bind_eq_some_iff] at hc
  obtain ⟨st, h0, hc⟩ := hc
  split at hc
  · rename_i e hst
    simp only [Option.bind_eq_some_iff] at hc
    obtain ⟨es, hes, dn, hdn, xn, hxn, hc⟩ := hc
    have hlx := lenOf_le (P := P) (w := w) hxn hx
    have hmin : Nat.min xn dn = least xn dn := (least_eq xn dn).symm
    split at hc
    · cases hc
    · rename_i hns
      obtain ⟨a, cc, hdc⟩ := slice_shape hdn hns hd
      split at hc
      · rename_i hk
        cases hc
        refine ⟨w, ?_, trivial, Post.refl H⟩
        rw [hdc]
        simp only [Builtin.copy_, h0, List.getElem?_toArray, List.getElem?_cons_zero, List.getElem?_cons_succ, Sem.run_bind, run_underlying hst, Result.andThen_ok, hlx, run_sizeOf hes, hmin, hk, firstCells_zero (P := P) hxn hx]
        cases a <;> simp [storeCells, conc, goInt]
      · rename_i n hk
        simp only [Option.bind_eq_some_iff] at hc
        obtain ⟨vs, hvs, hc⟩ := hc
        split at hc
        · rename_i p len cap
          simp only [Option.bind_eq_some_iff] at hc
          obtain ⟨c, hfc, hc⟩ := hc
          split at hc
          · rename_i hcond
            simp only [Bool.and_eq_true, Nat.beq_eq] at hcond
            obtain ⟨hcw, hvl⟩ := hcond
            obtain ⟨w1, w2, w3, w4, w5⟩ := canWrite_iff hcw
            simp only [Option.map_eq_some_iff] at hc
            obtain ⟨c', hw, hc⟩ := hc
            cases hc
            obtain ⟨s1, s2, s3⟩ := sliceCells_sound H hvs hx
            obtain ⟨b, hb, hst', _⟩ := hd
            obtain ⟨cc', hconc⟩ : ∃ cc', conc σ (.slice (some p) len cap) = .slice (some (b.at p.off)) len cc' := ⟨_, by simp only [conc, hb]; rfl⟩
            rw [w1] at hb
            have hco := H.cells hb hfc
            obtain ⟨q0, q1, q2, q3, q4, q5, q6, q7, q8, q9⟩ := write_sound (H.full _ _ (fam_obj hfc)) (by rw [hvl]; exact w3) hw
            obtain ⟨w', hrun, hpost⟩ := write_post H hfc hb w2 (by have := hco.size rfl; rw [hvl]; omega) w4 w5 s2 s3 q0 q1 q2 q3 q4 q5 q6 q7 q8 q9
            refine ⟨w', ?_, trivial, hpost⟩
            have hdn' : dn = len := by cases hdn; rfl
            subst hdn'
            rw [hconc]
            simp only [Builtin.copy_, h0, List.getElem?_toArray, List.getElem?_cons_zero, List.getElem?_cons_succ, Sem.run_bind, run_underlying hst, Result.andThen_ok, hlx, run_sizeOf hes, hmin, hk, s1, hrun, Sem.run_pure, conc, goInt]
          · cases hc
        · cases hc
  · cases hc

theorem makeSlice_sound (H : Rel P B σ h w) {t : TypeId} {l c v : AVal} {h' : Heap} (hfree : Free σ h.next h'.next) (hm : makeSlice P t l c h = some (v, h')) :
    ∃ σ' w', (Instr.makeSlice t (conc σ l) (conc σ c)).run P w = .ok (conc σ' v) w' ∧ okv σ' v ∧ Post P B σ h w σ' h' w' := by
  unfold makeSlice at hm
  split at hm
  · rename_i e k1 l k2 c hu
    simp only [Option.bind_eq_some_iff] at hm
    obtain ⟨cn, hcn, ln, hln, i, hi, z, hz, zs, hf, hm⟩ := hm
    split at hm
    · rename_i hcond
      simp only [Bool.and_eq_true, Nat.blt_eq, Nat.beq_eq, Nat.ble_eq] at hcond
      obtain ⟨⟨c1, c2⟩, c3⟩ := hcond
      obtain ⟨rfl, hc4⟩ := natOf_sound hcn
      obtain ⟨rfl, hl4⟩ := natOf_sound hln
      cases hm
      obtain ⟨zv, hzr, hzc, it, hit, hiz⟩ := run_zero hz w
      obtain ⟨o1, o2⟩ := hzc σ
      obtain ⟨f1, f2, f3⟩ := flat_sound hf o1
      rw [o2] at f1
      have hrep : okvs σ (repeated zs cn) := okvs_iff.2 fun u hu => okvs_iff.1 f2 u (repeated_mem hu)
      have hrep2 : (repeated zs cn).all AVal.scalar = true := List.all_eq_true.2 fun u hu => List.all_eq_true.1 f3 u (repeated_mem hu)
      have hlen : (repeated zs cn).length = cn * i.size := by rw [repeated_length, c2]
      have hpost := fam_post (c := ACells.made e i.size (repeated zs cn)) (vs := repeated zs cn) (cs := (concs σ (repeated zs cn)).toArray) (fr := (0, 0)) (w' := w.alloc (.cells (concs σ (repeated zs cn)).toArray e (0, 0))) H hfree c1
        (by rw [hlen]; exact Nat.mul_mod_left _ _) rfl rfl rfl hrep hrep2
        (Nat.le_refl _) (by simp [ACells.made, concs_length]) (by simp [concs_length]) (fun _ => by simp [ACells.made, concs_length])
        (fun i v hi => by simp [concs_eq, hi]) (fun _ => rfl) (Nat.le_refl _) (fun k _ => by simp) rfl rfl rfl rfl
      refine ⟨_, _, ?_, ⟨_, add_here _ _ _, Nat.zero_le _, fun e => ACap.noConfusion e⟩, hpost⟩
      have hw1 : IntKind.i64.wrap (cn : Int) = (cn : Int) := by rw [w_i64]; split <;> omega
      have hw2 : IntKind.i64.wrap (ln : Int) = (ln : Int) := by rw [w_i64]; split <;> omega
      have hti : ∀ w2, (typeInfo e).run P w2 = .ok i w2 := fun w2 => by simp [typeInfo, hi]
      have hsz : ∀ w2, (sizeOf e).run P w2 = .ok i.size w2 := fun w2 => by simp [sizeOf, typeInfo, hi]
      have hb : ((i.bytes * cn : Nat) : Int) ≤ 100000000000 := Int.ofNat_le.2 c3
      rw [Int.natCast_mul] at hb
      have hcond2 : ¬ ((((decide ((cn : Int) < 0) || decide ((i.bytes : Int) * (cn : Int) > 2 ^ 48)) || decide ((ln : Int) < 0)) || decide ((ln : Int) > (cn : Int))) = true) := by
        simp only [Bool.or_eq_true, decide_eq_true_eq]
        omega
      have hz2 := zeros_eq (σ := σ) zs (by omega) cn (cn * i.size) (by rw [c2])
      simp only [conc, Instr.makeSlice, Sem.run_bind, run_underlying hu, Result.andThen_ok, asInt, asIntOf, Sem.run_pure, hti, hw1, hw2]
      rw [if_neg hcond2]
      simp only [Sem.run_bind, run_askRoom, Result.andThen_ok, hsz, Int.toNat_natCast]
      have hcells : ((if cn * i.size = 0 then pure #[] else do let __do_lift ← zeroValue e; pure __do_lift.cells : Sem (Array Value)).run P w) = .ok (if cn * i.size = 0 then #[] else (concs σ zs).toArray) w := by
        split
        · rfl
        · simp [hzr, f1]
      simp only [Sem.run_pure, Sem.run_bind, Result.andThen_ok, hcells, newRow, run_newObj]
      by_cases h0 : cn * i.size = 0
      · have hl0 : cn = 0 := by rcases Nat.mul_eq_zero.1 h0 with h1 | h1 <;> omega
        subst hl0
        simp only [Nat.zero_mul, if_true, add_here, RB.at, repeated]
        have : (Array.range 0).map (fun x => (#[] : Array Value)[x % (#[] : Array Value).size]!) = (concs σ []).toArray := by apply Array.ext'; simp [concs]
        simp only [Sem.run_bind, Sem.run_pure, Result.andThen_ok, this, run_newObj, newRow]
        rfl
      · simp only [if_neg h0, Sem.run_bind, Sem.run_pure, Result.andThen_ok, hzr, f1, hz2, add_here, RB.at, run_newObj]
        rfl
    · cases hm
  · cases hm
end Go.Abs

namespace Go.Abs
variable {P : Program} {B : Nat} {σ : Real} {h : Heap} {w : World}

theorem list_two {α : Type} {ts : Array α} {a b : α} (h : ts.toList = [a, b]) : ts = #[a, b] := by
  apply Array.ext'; simpa using h

theorem list_one {α : Type} {ts : Array α} {a : α} (h : ts.toList = [a]) : ts = #[a] := by
  apply Array.ext'; simpa using h

theorem minmax_min (k : IntKind) : ∀ (l : List AVal) (a : Int) (v : AVal), minmax true k a l = some v →
    ((concs σ l).foldlM Builtin.min2 (Value.int k a)).run P w = .ok (conc σ v) w ∧ okv σ v
  | [], a, v, h => by cases h; exact ⟨rfl, trivial⟩
  | .int k' b :: l, a, v, h => by
    simp only [minmax] at h
    obtain ⟨e1, e2⟩ := minmax_min k l _ v h
    refine ⟨?_, e2⟩
    simp only [concs, conc, List.foldlM_cons, Builtin.min2, Sem.run_bind, Sem.run_pure, Result.andThen_ok]
    exact e1

theorem minmax_max (k : IntKind) : ∀ (l : List AVal) (a : Int) (v : AVal), minmax false k a l = some v →
    ((concs σ l).foldlM Builtin.max2 (Value.int k a)).run P w = .ok (conc σ v) w ∧ okv σ v
  | [], a, v, h => by cases h; exact ⟨rfl, trivial⟩
  | .int k' b :: l, a, v, h => by
    simp only [minmax] at h
    obtain ⟨e1, e2⟩ := minmax_max k l _ v h
    refine ⟨?_, e2⟩
    simp only [concs, conc, List.foldlM_cons, Builtin.max2, Sem.run_bind, Sem.run_pure, Result.andThen_ok]
    exact e1

theorem byte_of (n : Int) : (n.toNat).toUInt8 = UInt8.ofNat n.toNat := rfl

/-- The bytes that lie in a row, as the model reads them one by one. -/
theorem run_loadInts : ∀ (ns : List Int) (a : Addr) (acc : ByteArray), (∀ j n, ns[j]? = some n → w.cell? (a.add j) = some (.int .u8 n)) →
    (loadBytes a acc ns.length).run P w = .ok ⟨acc.data ++ (ns.map fun n => UInt8.ofNat n.toNat).toArray⟩ w
  | [], a, acc, _ => by simp [loadBytes]
  | x :: l, a, acc, h => by
    have h0 : w.cell? a = some (.int .u8 x) := by
      have := h 0 x rfl
      simpa [Addr.add] using this
    have ih := run_loadInts l (a.add 1) (acc.push x.toNat.toUInt8) (fun j y hy => by
      have := h (j + 1) y (by simpa using hy)
      have e : (a.add 1).add j = a.add (j + 1) := by
        unfold Addr.add
        by_cases hj : j = 0
        · subst hj; simp
        · simp [hj]; omega
      rw [e]; exact this)
    simp only [List.length_cons, loadBytes, Sem.run_bind, run_load, h0, Result.andThen]
    rw [ih]
    congr 1
    apply ByteArray.ext
    simp [ByteArray.push]

theorem run_unsafeString {pt it ty e : TypeId} (hp : P.underlying pt = some (.pointer e)) (hc : P.cellsOf e = 1) (g cells n : Nat) (hsh : w.shape? g = some (e, cells)) (h0 : n ≠ 0) (hn : n ≤ cells) (h63 : n ≤ 9223372036854775807)
    {s : ByteArray} (hlb : (loadBytes ⟨g, 0, none⟩ .empty n).run P w = .ok s w) :
    (Builtin.unsafeString_ #[pt, it] ty #[.pointer (some ⟨g, 0, none⟩), .int .i64 n]).run P w = .ok (.string s) (w.freeze ⟨g, 0, none⟩ n) := by
  have hlies := Lib.liesAt_bytes (P := P) hc (cells / P.cellsOf e) n (by rw [hc]; simpa using hn)
  have h63' : ¬ (9223372036854775807 : Int) < (n : Int) := by omega
  have hmax : IntKind.i64.max = 9223372036854775807 := rfl
  have hneg : ¬ (n : Int) < 0 := by omega
  change Sem.run P (Bind.bind (asInt (.int .i64 n)) _) w = _
  simp [asInt, asIntOf, hmax, h63', hneg, h0, variablesAt, hsh, elemOf, run_underlying hp, hlies, hlb]

set_option maxRecDepth 20000 in
theorem unsafeString_sound (H : Rel P B σ h w) {pt it ty u : TypeId} {p : APtr} {n : Nat} {c : ACells} {vs : List AVal} {s : List UInt8} (hp : okv σ (.ptr (some p))) (hfc : h.fam p.fam = some c)
    (hu : P.underlying pt = some (.pointer u)) (he : u = c.ety) (hes : c.es = 1) (hcells : P.cellsOf c.ety = 1) (hcr : c.canRead p.gen p.off (n + 1) = true) (hg : p.gen = c.gen) (ho : p.off = 0) (hro : c.ro = false) (hn : n < 1000000000) (hmark : c.mark = false)
    (hr : c.read p.gen (n + 2) p.off (n + 1) = some vs) (hb : ofBytes vs = some s) :
    ∃ w', (Builtin.unsafeString_ #[pt, it] ty #[conc σ (.ptr (some p)), .int .i64 ((n + 1 : Nat) : Int)]).run P w = .ok (.string ⟨s.toArray⟩) w' ∧
      Post P B σ h w σ (h.put p.fam (.cells { c with mark := true, frz := match Nat.ble (n + 1) c.frz with | true => c.frz | false => n + 1 })) w' := by
  obtain ⟨b, hrb, hst⟩ := hp
  obtain ⟨c1, c2, c3⟩ := canRead_iff hcr
  have hco := H.cells hrb hfc
  obtain ⟨cs, fr, hh, hle, hro2, hcell⟩ := hco.heap
  obtain ⟨hb0, hbs, hmk, hfle, hnf⟩ := hro2 hro
  have hs0 : b.start = 0 := by omega
  have hsize := hco.size hg
  obtain ⟨r1, r2, r3, r4⟩ := H.read hrb hfc c2 hr
  obtain ⟨ns, n1, n2⟩ := ofBytes_sound (σ := σ) hb
  have hlen : ns.length = n + 1 := by have := congrArg List.length n1; rw [concs_length] at this; simp at this; omega
  have hconc : conc σ (.ptr (some p)) = .pointer (some ⟨b.block, 0, none⟩) := by
    simp only [conc, hrb, Option.map_some, RB.at, hb0, ho, hs0]
  have hat : b.at p.off = ⟨b.block, 0, none⟩ := by simp only [RB.at, hb0, ho, hs0]
  have hlb : (loadBytes ⟨b.block, 0, none⟩ .empty (n + 1)).run P w = .ok ⟨s.toArray⟩ w := by
    have := run_loadInts (P := P) (w := w) ns ⟨b.block, 0, none⟩ .empty (fun j x hx => by
      rw [← hat]
      refine r4 j _ ?_
      rw [n1, List.getElem?_map, hx]; rfl)
    rw [hlen] at this
    rw [this, n2]
    congr 1
    apply ByteArray.ext
    simp
  have hsh : w.shape? b.block = some (c.ety, cs.size) := by simp [World.shape?, hh]
  have hrun := run_unsafeString (it := it) (ty := ty) (he ▸ hu) hcells b.block cs.size (n + 1) hsh (by omega) (by omega) (by omega) hlb
  refine ⟨_, by rw [hconc]; exact hrun, ?_⟩
  rw [hg] at hrb
  refine freeze_post H hfc hrb hro (by omega) ?_ ?_
  · cases hz : Nat.ble (n + 1) c.frz
    · exact Nat.le_of_lt (by
        have : ¬ (n + 1 ≤ c.frz) := fun h => by rw [Nat.ble_eq_true_of_le h] at hz; cases hz
        simp only []; omega)
    · exact Nat.le_refl _
  · intro fr hfr0 hfr1 hfr2 j hj hj1 hj2
    obtain rfl := hfr0 hmark
    have hz : c.frz ≤ j ∧ n + 1 ≤ j := by
      cases hz : Nat.ble (n + 1) c.frz
      · rw [hz] at hj
        have : ¬ (n + 1 ≤ c.frz) := fun h => by rw [Nat.ble_eq_true_of_le h] at hz; cases hz
        simp only [] at hj
        omega
      · rw [hz] at hj
        have := Nat.le_of_ble_eq_true hz
        simp only [] at hj
        omega
    have := hfr2 j hz.1 hj1 hj2
    have hnf2 : newfr (0, 0) 0 (n + 1) = (0, n + 1) := by simp [newfr]
    rw [hnf2, hs0]
    simp only []
    omega

theorem run_len {argTypes : Array TypeId} {ty t : TypeId} {x : AVal} {v : AVal} {h' : Heap} (hb : builtin P .len argTypes [x] h = some (v, h')) (hx : okv σ x) (w : World) :
    (Builtin.len_ argTypes ty #[conc σ x]).run P w = .ok (conc σ v) w ∧ okv σ v ∧ h' = h := by
  simp only [builtin, Option.bind_eq_some_iff] at hb
  obtain ⟨t, h0, hb⟩ := hb
  have h0' : (argTypes[0]?, (#[conc σ x] : Array Value)[0]?) = (some t, some (conc σ x)) := by rw [h0]; rfl
  split at hb
  · rename_i s hu
    cases hb
    refine ⟨?_, trivial, rfl⟩
    unfold Builtin.len_
    rw [h0']
    simp only [Sem.run_bind, run_underlying hu, Result.andThen_ok]
    simp [conc, goInt, ByteArray.size]
  · rename_i n e x hu
    cases hb
    refine ⟨?_, trivial, rfl⟩
    unfold Builtin.len_
    rw [h0']
    simp only [Sem.run_bind, run_underlying hu, Result.andThen_ok]
    rfl
  · rename_i e hu
    split at hb
    · rename_i n e' hu'
      cases hb
      refine ⟨?_, trivial, rfl⟩
      unfold Builtin.len_
      rw [h0']
      simp only [Sem.run_bind, run_underlying hu, Result.andThen_ok]
      simp [run_underlying hu', conc, goInt]
    · cases hb
  · rename_i p n c hu
    cases hb
    refine ⟨?_, trivial, rfl⟩
    unfold Builtin.len_
    rw [h0']
    simp only [Sem.run_bind, run_underlying hu, Result.andThen_ok]
    cases p with
    | none => rfl
    | some p => obtain ⟨a, c', e⟩ := conc_slice σ p n c hx; rw [e]; rfl
  · rename_i p l q hu
    cases hb
    refine ⟨?_, trivial, rfl⟩
    unfold Builtin.len_
    rw [h0']
    simp only [Sem.run_bind, run_underlying hu, Result.andThen_ok]
    obtain ⟨a, c', e⟩ := conc_zslice σ p l q hx; rw [e]; rfl
  · cases hb

theorem run_cap {argTypes : Array TypeId} {ty t : TypeId} {x : AVal} {v : AVal} {h' : Heap} (hb : builtin P .cap argTypes [x] h = some (v, h')) (hx : okv σ x) (w : World) :
    (Builtin.cap_ argTypes ty #[conc σ x]).run P w = .ok (conc σ v) w ∧ okv σ v ∧ h' = h := by
  simp only [builtin, Option.bind_eq_some_iff] at hb
  obtain ⟨t, h0, hb⟩ := hb
  split at hb
  · rename_i e p n c hu
    cases hb
    refine ⟨?_, trivial, rfl⟩
    have h0' : (argTypes[0]?, (#[conc σ (.slice p n (.exact c))] : Array Value)[0]?) = (some t, some (conc σ (.slice p n (.exact c)))) := by rw [h0]; rfl
    unfold Builtin.cap_
    rw [h0']
    simp only [Sem.run_bind, run_underlying hu, Result.andThen_ok]
    cases p with
    | none => rfl
    | some p => obtain ⟨b, hb, _⟩ := hx; simp only [conc, hb]; rfl
  · cases hb

set_option maxRecDepth 20000 in
theorem builtin_sound (H : Rel P B σ h w) {b : Builtin} {argTypes : Array TypeId} {ty : TypeId} {consts : Array Bool} {args : List AVal} {v : AVal} {h' : Heap} (hfree : Free σ h.next h'.next)
    (hb : builtin P b argTypes args h = some (v, h')) (hargs : okvs σ args) :
    ∃ σ' w', (Go.builtin b argTypes ty consts (concs σ args).toArray).run P w = .ok (.value (conc σ' v)) w' ∧ okv σ' v ∧ Post P B σ h w σ' h' w' := by
  have lift : ∀ (s : Sem Value), (∃ σ' w', s.run P w = .ok (conc σ' v) w' ∧ okv σ' v ∧ Post P B σ h w σ' h' w') →
      ∃ σ' w', ((do pure (.value (← s)) : Sem Next)).run P w = .ok (.value (conc σ' v)) w' ∧ okv σ' v ∧ Post P B σ h w σ' h' w' := by
    rintro s ⟨σ', w', h1, h2, h3⟩
    exact ⟨σ', w', by simp [h1], h2, h3⟩
  have hb0 := hb
  unfold builtin at hb
  split at hb
  · rename_i s x
    obtain ⟨h1, h2, _⟩ := hargs
    exact lift (Builtin.append_ argTypes ty #[conc σ s, conc σ x]) (append_sound H hfree hb h1 h2)
  · rename_i d x
    obtain ⟨h1, h2, _⟩ := hargs
    obtain ⟨w', c1, c2, c3⟩ := copy_sound (ty := ty) H hb h1 h2
    exact lift (Builtin.copy_ argTypes ty #[conc σ d, conc σ x]) ⟨σ, w', c1, c2, c3⟩
  · rename_i x
    obtain ⟨c1, c2, rfl⟩ := run_len (ty := ty) (t := ty) hb0 hargs.1 w
    exact lift (Builtin.len_ argTypes ty #[conc σ x]) ⟨σ, w, c1, c2, Post.refl H⟩
  · rename_i x
    obtain ⟨c1, c2, rfl⟩ := run_cap (ty := ty) (t := ty) hb0 hargs.1 w
    exact lift (Builtin.cap_ argTypes ty #[conc σ x]) ⟨σ, w, c1, c2, Post.refl H⟩
  · rename_i k a xs
    simp only [Option.map_eq_some_iff] at hb
    obtain ⟨v', hm, hb⟩ := hb
    cases hb
    obtain ⟨c1, c2⟩ := minmax_min (σ := σ) (P := P) (w := w) k xs a _ hm
    exact lift (Builtin.min_ argTypes ty (concs σ (.int k a :: xs)).toArray) ⟨σ, w, by simp only [Builtin.min_, concs, conc]; exact c1, c2, Post.refl H⟩
  · rename_i k a xs
    simp only [Option.map_eq_some_iff] at hb
    obtain ⟨v', hm, hb⟩ := hb
    cases hb
    obtain ⟨c1, c2⟩ := minmax_max (σ := σ) (P := P) (w := w) k xs a _ hm
    exact lift (Builtin.max_ argTypes ty (concs σ (.int k a :: xs)).toArray) ⟨σ, w, by simp only [Builtin.max_, concs, conc]; exact c1, c2, Post.refl H⟩
  · rename_i x
    have hx := hargs.1
    refine lift (Builtin.unsafeSliceData_ argTypes ty #[conc σ x]) ⟨σ, w, ?_⟩
    split at hb
    · cases hb
      exact ⟨rfl, trivial, Post.refl H⟩
    · rename_i p n
      cases hb
      obtain ⟨b, hb, hst, hcap⟩ := hx
      obtain ⟨hes, hle⟩ := hcap rfl
      refine ⟨?_, ⟨b, hb, hst⟩, Post.refl H⟩
      simp only [conc, hb, Option.map_some]
      refine Lib.run_unsafeSliceData_row w argTypes ty _ _ _ ?_
      unfold RB.cap
      have : b.es ≤ b.ends - p.off := by rw [Nat.succ_mul] at hle; omega
      have := Nat.div_pos this hes
      omega
    · rename_i p n c
      cases hb
      obtain ⟨b, hb, hst, hcap⟩ := hx
      refine ⟨?_, ⟨b, hb, hst⟩, Post.refl H⟩
      simp only [conc, hb, Option.map_some]
      exact Lib.run_unsafeSliceData_row w argTypes ty _ _ _ (by omega)
    · cases hb
  · rename_i q n
    obtain ⟨h1, h2, _⟩ := hargs
    split at hb
    · split at hb
      · rename_i a b hts
        cases hb
        rw [list_two hts]
        refine lift (Builtin.unsafeString_ #[a, b] ty #[conc σ (.ptr q), .int .i64 0]) ⟨σ, w, ?_, trivial, Post.refl H⟩
        cases q with
        | none => exact Lib.run_unsafeString_none w a b ty none
        | some q => exact Lib.run_unsafeString_none w a b ty _
      · cases hb
    · rename_i n
      split at hb
      · cases hb
      · rename_i p
        simp only [Option.bind_eq_some_iff] at hb
        obtain ⟨c, hfc, hb⟩ := hb
        split at hb
        · rename_i t it hts
          split at hb
          · rename_i u hu
            split at hb
            · rename_i hcond
              simp only [Bool.and_eq_true, Nat.beq_eq, Nat.blt_eq, Bool.not_eq_true'] at hcond
              obtain ⟨⟨⟨⟨⟨⟨⟨⟨d1, d2⟩, d3⟩, d4⟩, d5⟩, d6⟩, d7⟩, d8⟩, d9⟩ := hcond
              simp only [Option.bind_eq_some_iff, Option.map_eq_some_iff] at hb
              obtain ⟨vs, hr, s, hs, hb⟩ := hb
              cases hb
              obtain ⟨w', e1, e2⟩ := unsafeString_sound (it := it) (ty := ty) H h1 hfc hu d1 d2 d3 d4 d5 d6 d7 d8 d9 hr hs
              rw [list_two hts]
              exact lift (Builtin.unsafeString_ #[t, it] ty #[conc σ (.ptr (some p)), .int .i64 ((n + 1 : Nat) : Int)]) ⟨σ, w', e1, trivial, e2⟩
            · cases hb
          · cases hb
        · cases hb
  · cases hb

end Go.Abs

namespace Go.Abs
variable {P : Program} {B : Nat} {σ : Real} {h : Heap} {w : World}

/-! ### Library functions without a body -/

theorem noNext {fn : Func} {n : String} (hn : fn.name = n) (ho : fn.origin = "") (h1 : Extern.allNextRows.lookup n = none) (h2 : Extern.allNextRows.lookup "" = none) : Extern.findNext fn = none := by
  simp only [Extern.findNext, hn, ho, h1, h2, Option.map_none]
  rfl

theorem found {fn : Func} {n : String} {e : Array Value → Sem Value} (hn : fn.name = n) (h1 : Extern.allGenericRows.lookup n = none) (h2 : Extern.allTypedRows.lookup n = none) (h3 : Extern.allRows.lookup n = some e) : Extern.find fn = some e := by
  simp only [Extern.find, hn, h1, h2, h3, Option.map_none]
  rfl

theorem foundTyped {fn : Func} {n : String} {e : Array TypeId → Array TypeId → Array Value → Sem Value} (hn : fn.name = n) (h1 : Extern.allGenericRows.lookup n = none) (h2 : Extern.allTypedRows.lookup n = some e) : Extern.find fn = some (e fn.params fn.resultTypes) := by
  simp only [Extern.find, hn, h1, h2, Option.map_none, Option.map_some]
  rfl

set_option maxRecDepth 20000 in
theorem extern_sound (H : Rel P B σ h w) {f : FuncId} {fn : Func} {args : List AVal} {v : AVal} {h' : Heap} (hf : P.funcs[f]? = some fn) (hname : (fn.name == "runtime.NumGoroutine") = false) (hbody : fn.body = none) (hfree : Free σ h.next h'.next)
    (he : extern P fn args h = some (v, h')) (hargs : okvs σ args) :
    ∃ σ' w', (callFunc f (concs σ args).toArray).run P w = .ok (.value (conc σ' v)) w' ∧ okv σ' v ∧ Post P B σ h w σ' h' w' := by
  have hb : fn.body.isNone = true := by rw [hbody]; rfl
  have h0 : Extern.allNextRows.lookup "" = none := by kernel_rfl
  unfold extern at he
  split at he
  · rename_i ho
    split at he
    · rename_i x hn
      cases he
      refine ⟨σ, w, ?_, hargs.1, Post.refl H⟩
      rw [run_callFunc_extern hf hname hb (noNext hn ho (by kernel_rfl) h0) (found (e := Extern.AbiNoEscape.same) hn (by kernel_rfl) (by kernel_rfl) (by kernel_rfl))]
      rfl
    · rename_i n hn
      simp only [Option.bind_eq_some_iff] at he
      obtain ⟨m, hm, he⟩ := he
      obtain ⟨rfl, hm4⟩ := natOf_sound hm
      split at he
      · rename_i t hts
        split at he
        · rename_i e hu
          cases he
          obtain ⟨cs, r1, r2, r3⟩ := Lib.run_makeNoZero (P := P) w fn.params t e hu m (by omega)
          have hpost := fam_post (c := { flexed e 1 [] false with size := m }) (vs := []) (cs := cs) (fr := (0, 0)) (w' := w.drew.drew.alloc (.cells cs e)) H hfree (Nat.le_refl 1) (Nat.zero_mod _) rfl rfl rfl trivial rfl
            (Nat.zero_le _) r2 (Nat.zero_le _) (fun e => Bool.noConfusion e) (fun i v hv => by simp at hv) (fun _ => rfl) (Nat.le_refl _) (fun k _ => by simp) rfl rfl rfl rfl
          obtain ⟨n1, n2⟩ := new_slice σ h.next m cs.size 1 w.heap.size (by decide) (by omega)
          refine ⟨_, _, ?_, n1, hpost⟩
          rw [run_callFunc_extern hf hname hb (noNext hn ho (by kernel_rfl) h0) (foundTyped (e := Extern.BytealgMakeNoZero.makeNoZero) hn (by kernel_rfl) (by kernel_rfl)), list_one hts]
          have : (concs σ [AVal.int .i64 (m : Int)]).toArray = #[Value.int .i64 m] := rfl
          rw [this, r1]
          simp only [Result.andThen_ok]
          congr 2
          have n2' := n2
          rw [Nat.div_one] at n2'
          exact n2'.symm
        · cases he
      · cases he
    · rename_i s c hn
      cases he
      refine ⟨σ, w, ?_, trivial, Post.refl H⟩
      rw [run_callFunc_extern hf hname hb (noNext hn ho (by kernel_rfl) h0) (found (e := Extern.BytealgIndexByte.indexByte) hn (by kernel_rfl) (by kernel_rfl) (by kernel_rfl))]
      have : (concs σ [AVal.str s, AVal.int .u8 c]).toArray = #[Value.string ⟨s.toArray⟩, Value.int .u8 c] := rfl
      rw [this, run_indexByte_string]
      rfl
    · rename_i s c hn
      cases he
      refine ⟨σ, w, ?_, trivial, Post.refl H⟩
      rw [run_callFunc_extern hf hname hb (noNext hn ho (by kernel_rfl) h0) (found (e := Extern.BytealgCount.count) hn (by kernel_rfl) (by kernel_rfl) (by kernel_rfl))]
      have : (concs σ [AVal.str s, AVal.int .u8 c]).toArray = #[Value.string ⟨s.toArray⟩, Value.int .u8 c] := rfl
      rw [this, Lib.run_countString]
      rfl
    · cases he
  · cases he

/-! ### Strings, rune by rune -/

theorem range_sound (H : Rel P B σ h w) {t : TypeId} {s : List UInt8} (hu : P.underlying t = some .string) (hfree : Free σ h.next (h.next + 1)) :
    ∃ σ' w', (Instr.range t (conc σ (.str s))).run P w = .ok (conc σ' (.ptr (some ⟨h.next, 0, 0⟩))) w' ∧ okv σ' (.ptr (some ⟨h.next, 0, 0⟩)) ∧ Post P B σ h w σ' (h.push (.siter s 0)) w' := by
  have hpost := push_post (o := .siter s 0) (b := ⟨w.heap.size, 0, 0, 0, 1⟩) (w' := w.alloc (.stringIter ⟨s.toArray⟩ 0)) H hfree rfl (by simp [World.alloc, -World.alloc_eq])
    (fun k hk => by simp only [World.alloc]; rw [Array.getElem?_push, if_neg (by omega)]) rfl rfl rfl
    ⟨by simp [World.alloc, -World.alloc_eq], rfl, rfl, rfl⟩ (fun c hc => by cases hc)
  obtain ⟨n1, n2⟩ := new_ptr σ h.next ⟨w.heap.size, 0, 0, 0, 1⟩ rfl rfl
  refine ⟨_, _, ?_, n1, hpost⟩
  rw [n2]
  simp only [Instr.range, conc, Sem.run_bind, run_underlying hu, Result.andThen_ok, Sem.run_pure, run_newObj]
  rfl

theorem next_sound (H : Rel P B σ h w) {ty : TypeId} {p : APtr} {s : List UInt8} {pos : Nat} {v : AVal} {h' : Heap} (hx : okv σ (.ptr (some p))) (ho : p.off = 0) (hob : h.objs.getL p.fam = some (.siter s pos))
    (hn : (match Nat.blt pos s.length with
        | true => let (c, width) := Utf8.decode ⟨s.toArray⟩ pos
          some (AVal.tuple [.bool true, .int .i64 pos, .int .i32 c], h.put p.fam (.siter s (pos + width)))
        | false => some (.tuple [.bool false], h)) = some (v, h')) :
    ∃ w', (Instr.next (conc σ (.ptr (some p))) true ty).run P w = .ok (conc σ v) w' ∧ okv σ v ∧ Post P B σ h w σ h' w' := by
  obtain ⟨b, hb, hst⟩ := hx
  have hobj : h.obj p.fam = some (.siter s pos) := hob
  obtain ⟨h1, h2, h3, h4⟩ := H.obj _ _ _ _ hb hobj
  have hconc : conc σ (.ptr (some p)) = .pointer (some ⟨b.block, 0, none⟩) := by
    simp only [conc, hb, Option.map_some, RB.at, h2, h3, ho]
  have hget : (getObj b.block).run P w = .ok (.stringIter ⟨s.toArray⟩ pos) w := by simp [getObj, Sem.run, h1]
  have hset : ∀ o, (setObj b.block o).run P w = .ok () { w with heap := w.heap.setIfInBounds b.block o } := fun o => by simp [setObj, Sem.run, h1]
  have hsz : (ByteArray.mk s.toArray).size = s.length := by simp [ByteArray.size]
  rw [hconc]
  cases hlt : Nat.blt pos s.length
  · rw [hlt] at hn
    cases hn
    have : ¬ pos < s.length := fun hh => by rw [show Nat.blt pos s.length = true from by rw [Nat.blt_eq]; exact hh] at hlt; cases hlt
    refine ⟨w, ?_, ⟨trivial, trivial⟩, Post.refl H⟩
    simp only [Instr.next, Sem.run_bind, hget, Result.andThen_ok, hsz]
    rw [if_neg this]
    rfl
  · rw [hlt] at hn
    rw [Nat.blt_eq] at hlt
    simp only [] at hn
    cases hn
    refine ⟨_, ?_, ⟨trivial, trivial, trivial, trivial⟩, put_post (o' := .siter s (pos + (Utf8.decode ⟨s.toArray⟩ pos).2)) (w' := { w with heap := w.heap.setIfInBounds b.block (.stringIter ⟨s.toArray⟩ (pos + (Utf8.decode ⟨s.toArray⟩ pos).2)) }) H hobj rfl rfl (Real.le_refl σ) (fun _ _ _ => rfl)
      (fun g' b' hb => .inl hb) (fun g1 b1 g2 b2 k1 k2 hbk => H.alike _ _ _ _ _ k1 k2 hbk) (by simp) (fun k hk hne => ?_) rfl rfl rfl (fun g' b' hb' => ?_) (fun c hc => by cases hc)⟩
    · simp only [Instr.next, Sem.run_bind, hget, Result.andThen_ok, hsz]
      rw [if_pos hlt]
      simp only [Sem.run_bind, hset, Result.andThen_ok]
      rfl
    · have := hne _ _ hb
      simp only [Array.getElem?_setIfInBounds_ne this]
    · obtain ⟨k1, k2, k3, k4⟩ := H.obj _ _ _ _ hb' hobj
      have hbb : b' = b := by rw [k4] at hb'; rw [h4] at hb; rw [hb'] at hb; exact Option.some.inj hb
      subst hbb
      refine ⟨?_, k2, k3, k4⟩
      have := H.live _ _ _ hb
      simp [this]

end Go.Abs

namespace Go.Abs
variable {P : Program} {B : Nat} {σ : Real} {h : Heap} {w : World} {callF : FuncId → List AVal → Heap → Option (AVal × Heap)}

/-- What the evaluator of calls says holds of the model's calls. -/
def CallSound (P : Program) (B : Nat) (callF : FuncId → List AVal → Heap → Option (AVal × Heap)) : Prop :=
  ∀ (f : FuncId) (args : List AVal) (h : Heap) (v : AVal) (h' : Heap) (σ : Real) (w : World) (o : Oper) (a : Act) (K : Act → World → Prop) (Q : Exit → Act → World → Prop),
    callF f args h = some (v, h') → Rel P B σ h w → okvs σ args → Free σ h.next h'.next →
    (∀ σ' w', okv σ' v → Post P B σ h w σ' h' w' → K (a.put o.dst (conc σ' v)) w') →
    o.upon P a K Q ((callFunc f (concs σ args).toArray).run P w)

/-- The operands are what the evaluator holds them for. -/
def Reads (P : Program) (σ : Real) (T : Env) (a : Act) (x : Operand) : Prop := ∀ v, eval P T x = some v → okv σ v ∧ a.eval x = conc σ v

theorem evals_on {T : Env} {a : Act} : ∀ {xs : List Operand} {vs : List AVal}, (∀ x ∈ xs, Reads P σ T a x) → evals P T xs = some vs → okvs σ vs ∧ xs.map a.eval = concs σ vs
  | [], vs, _, h => by cases h; exact ⟨trivial, rfl⟩
  | x :: xs, vs, hE, h => by
    simp only [evals, Option.bind_eq_some_iff, Option.map_eq_some_iff] at h
    obtain ⟨v, hv, us, hu, rfl⟩ := h
    obtain ⟨e1, e2⟩ := hE x (by simp) v hv
    obtain ⟨f1, f2⟩ := evals_on (fun y hy => hE y (by simp [hy])) hu
    exact ⟨⟨e1, f1⟩, by simp [concs, e2, f2]⟩

theorem parts_on {T : Env} {a : Act} : ∀ {xs : List (Nat × Operand)} {ps : List (Nat × AVal)}, (∀ x ∈ xs.map (·.2), Reads P σ T a x) → parts? P T xs = some ps →
    (∀ p ∈ ps, okv σ p.2) ∧ xs.map (fun x => (x.1, a.eval x.2)) = ps.map fun p => (p.1, conc σ p.2)
  | [], ps, _, h => by cases h; exact ⟨by simp, rfl⟩
  | (i, x) :: xs, ps, hE, h => by
    simp only [parts?, Option.bind_eq_some_iff, Option.map_eq_some_iff] at h
    obtain ⟨v, hv, us, hu, rfl⟩ := h
    obtain ⟨e1, e2⟩ := hE x (by simp) v hv
    obtain ⟨f1, f2⟩ := parts_on (fun y hy => hE y (by simp only [List.map_cons, List.mem_cons]; exact .inr hy)) hu
    exact ⟨fun p hp => by
      rcases List.mem_cons.1 hp with rfl | hp
      · exact e1
      · exact f1 p hp, by simp [e2, f2]⟩

theorem optEval_on {T : Env} {a : Act} {x : Option Operand} {v : Option AVal} (hE : ∀ y ∈ x.toList, Reads P σ T a y) (h : optEval P T x = some v) : x.map a.eval = v.map (conc σ) := by
  cases x with
  | none => cases h; rfl
  | some x =>
    simp only [optEval, Option.map_eq_some_iff] at h
    obtain ⟨u, hu, rfl⟩ := h
    simp [(hE x (by simp) u hu).2]

theorem ret_some {x : Option AVal} {v : AVal} {h h' : Heap} (e : ret x h = some (v, h')) : x = some v ∧ h' = h := by
  cases x with
  | none => cases e
  | some u => cases e; exact ⟨rfl, rfl⟩

section
variable {o : Oper} {a : Act} {K : Act → World → Prop} {Q : Exit → Act → World → Prop} {v : AVal} {h' : Heap}

theorem wp_value {s : Sem Value} (he : execOp a.eval o = (do pure (.value (← s)) : Sem Next)) (hr : ∃ σ' w', s.run P w = .ok (conc σ' v) w' ∧ okv σ' v ∧ Post P B σ h w σ' h' w')
    (hK : ∀ σ' w', okv σ' v → Post P B σ h w σ' h' w' → K (a.put o.dst (conc σ' v)) w') : o.wp P a w K Q := by
  obtain ⟨σ', w', h1, h2, h3⟩ := hr
  unfold Oper.wp
  rw [he]
  simp only [Sem.run_bind, h1, Result.andThen_ok, Sem.run_pure]
  exact hK σ' w' h2 h3

theorem wp_still {s : Sem Value} (H : Rel P B σ h w) (he : execOp a.eval o = (do pure (.value (← s)) : Sem Next)) (hr : s.run P w = .ok (conc σ v) w ∧ okv σ v)
    (hK : ∀ σ' w', okv σ' v → Post P B σ h w σ' h w' → K (a.put o.dst (conc σ' v)) w') : o.wp P a w K Q :=
  wp_value he ⟨σ, w, hr.1, hr.2, Post.refl H⟩ hK
end

section
variable {K : Act → World → Prop} {Q : Exit → Act → World → Prop} {v : AVal} {h' : Heap} {T : Env} {a : Act}

set_option maxHeartbeats 4000000 in
set_option maxRecDepth 20000 in
theorem op_sound (hcall : CallSound P B callF) (H : Rel P B σ h w) {o : Oper} (hfree : Free σ h.next h'.next) (hE : ∀ x ∈ o.op.operands, Reads P σ T a x)
    (ho : oper P callF o.op T h = some (v, h')) (hK : ∀ σ' w', okv σ' v → Post P B σ h w σ' h' w' → K (a.put o.dst (conc σ' v)) w') : o.wp P a w K Q := by
  obtain ⟨dst, op, type, pos, after, guard⟩ := o
  cases op with
  | move x =>
    change at_move P x T h = some (v, h') at ho
    unfold at_move at ho
    cases hx : eval P T x with
    | none => rw [hx] at ho; cases ho
    | some u =>
      rw [hx] at ho; cases ho
      obtain ⟨e1, e2⟩ := hE x (by simp [Op.operands]) _ hx
      unfold Oper.wp
      have : execOp a.eval ({ dst, op := .move x, type, pos, after, guard } : Oper) = pure (.value (a.eval x)) := rfl
      rw [this, e2]
      exact hK σ w e1 (Post.refl H)
  | assign x =>
    change at_move P x T h = some (v, h') at ho
    unfold at_move at ho
    cases hx : eval P T x with
    | none => rw [hx] at ho; cases ho
    | some u =>
      rw [hx] at ho; cases ho
      obtain ⟨e1, e2⟩ := hE x (by simp [Op.operands]) _ hx
      unfold Oper.wp
      have : execOp a.eval ({ dst, op := .assign x, type, pos, after, guard } : Oper) = pure (.value (a.eval x)) := rfl
      rw [this, e2]
      exact hK σ w e1 (Post.refl H)
  | pick c x y =>
    change at_pick P c x y T h = some (v, h') at ho
    unfold at_pick at ho
    split at ho
    · rename_i hc
      obtain ⟨e1, e2⟩ := hE c (by simp [Op.operands]) _ hc
      obtain ⟨hx, rfl⟩ := ret_some ho
      obtain ⟨f1, f2⟩ := hE x (by simp [Op.operands]) _ hx
      exact wp_value (s := do pure (if ← asBool (a.eval c) then a.eval x else a.eval y)) (by simp only [execOp, bind_assoc, pure_bind]) ⟨σ, w, by simp [e2, f2, conc, asBool], f1, Post.refl H⟩ hK
    · rename_i hc
      obtain ⟨e1, e2⟩ := hE c (by simp [Op.operands]) _ hc
      obtain ⟨hx, rfl⟩ := ret_some ho
      obtain ⟨f1, f2⟩ := hE y (by simp [Op.operands]) _ hx
      exact wp_value (s := do pure (if ← asBool (a.eval c) then a.eval x else a.eval y)) (by simp only [execOp, bind_assoc, pure_bind]) ⟨σ, w, by simp [e2, f2, conc, asBool], f1, Post.refl H⟩ hK
    · cases ho
  | alloc t =>
    change at_alloc P t T h = some (v, h') at ho
    unfold at_alloc at ho
    simp only [Option.bind_eq_some_iff] at ho
    obtain ⟨z, hz, ho⟩ := ho
    exact wp_value rfl (alloc_sound H hfree hz ho) hK
  | box t x =>
    change at_box P t x T h = some (v, h') at ho
    unfold at_box at ho
    simp only [Option.bind_eq_some_iff] at ho
    obtain ⟨u, hu, ho⟩ := ho
    obtain ⟨e1, e2⟩ := hE x (by simp [Op.operands]) _ hu
    exact wp_value (s := Instr.box t (a.eval x)) rfl (by rw [e2]; exact box_sound H hfree e1 ho) hK
  | build t ps =>
    change at_build P t ps T h = some (v, h') at ho
    unfold at_build at ho
    simp only [Option.bind_eq_some_iff] at ho
    obtain ⟨qs, hq, ho⟩ := ho
    obtain ⟨hb, rfl⟩ := ret_some ho
    obtain ⟨e1, e2⟩ := parts_on (fun x hx => hE x (by simpa [Op.operands] using hx)) hq
    exact wp_still H (s := Instr.build t (ps.map fun (i, x) => (i, a.eval x))) rfl (build_sound hb e1 w _ (by rw [← e2]; simp)) hK
  | buildSlice t n ps =>
    change at_buildSlice P t n ps T h = some (v, h') at ho
    unfold at_buildSlice at ho
    simp only [Option.bind_eq_some_iff] at ho
    obtain ⟨qs, hq, ho⟩ := ho
    obtain ⟨e1, e2⟩ := parts_on (fun x hx => hE x (by simpa [Op.operands] using hx)) hq
    exact wp_value (s := Instr.buildSlice t n (ps.map fun (i, x) => (i, a.eval x))) rfl (buildSlice_sound H hfree ho e1 _ (by rw [← e2]; simp)) hK
  | load t x =>
    change at_load P t x T h = some (v, h') at ho
    unfold at_load at ho
    simp only [Option.bind_eq_some_iff] at ho
    obtain ⟨u, hu, ho⟩ := ho
    obtain ⟨hl, rfl⟩ := ret_some ho
    obtain ⟨e1, e2⟩ := hE x (by simp [Op.operands]) _ hu
    exact wp_still H (s := Instr.loadAt t (a.eval x)) rfl (by rw [e2]; exact load_sound H e1 hl) hK
  | store t x y =>
    change at_store P t x y T h = some (v, h') at ho
    unfold at_store at ho
    simp only [Option.bind_eq_some_iff, Option.map_eq_some_iff] at ho
    obtain ⟨u, hu, z, hz, h2, hs, ho⟩ := ho
    cases ho
    obtain ⟨e1, e2⟩ := hE x (by simp [Op.operands]) _ hu
    obtain ⟨f1, f2⟩ := hE y (by simp [Op.operands]) _ hz
    obtain ⟨w', r1, r2⟩ := store_sound H e1 f1 hs
    unfold Oper.wp
    have : execOp a.eval ({ dst, op := .store t x y, type, pos, after, guard } : Oper) = (do Instr.storeAt t (a.eval x) (a.eval y); pure .skip) := rfl
    rw [this, e2, f2]
    simp only [Sem.run_bind, r1, Result.andThen_ok, Sem.run_pure]
    exact hK σ w' trivial r2
  | nilCheck x =>
    change at_nilCheck P x T h = some (v, h') at ho
    unfold at_nilCheck at ho
    unfold Oper.wp
    split at ho
    · rename_i p hx
      cases ho
      obtain ⟨e1, e2⟩ := hE x (by simp [Op.operands]) _ hx
      obtain ⟨b, hb, hs⟩ := e1
      have hc : conc σ (.ptr (some p)) = .pointer (some (b.at p.off)) := by simp only [conc, hb, Option.map_some]
      have : execOp a.eval ({ dst, op := .nilCheck x, type, pos, after, guard } : Oper) = pure (.value (conc σ (.ptr (some p)))) := by
        simp only [execOp, e2, hc]
      rw [this]
      exact hK σ w ⟨b, hb, hs⟩ (Post.refl H)
    · rename_i p n c hx
      cases ho
      obtain ⟨e1, e2⟩ := hE x (by simp [Op.operands]) _ hx
      have hc : ∃ q n' c', conc σ (.slice p n c) = .slice q n' c' := by
        cases p with
        | none => exact ⟨_, _, _, rfl⟩
        | some p => obtain ⟨q, c', e⟩ := conc_slice σ p n c e1; exact ⟨_, _, _, e⟩
      obtain ⟨q, n', c', hc⟩ := hc
      have : execOp a.eval ({ dst, op := .nilCheck x, type, pos, after, guard } : Oper) = pure (.value (conc σ (.slice p n c))) := by
        simp only [execOp, e2, hc]
      rw [this]
      exact hK σ w e1 (Post.refl H)
    · cases ho
  | binOp bop t x y yt =>
    change at_binOp P bop t x y T h = some (v, h') at ho
    unfold at_binOp at ho
    simp only [Option.bind_eq_some_iff] at ho
    obtain ⟨u, hu, z, hz, ho⟩ := ho
    obtain ⟨hb, rfl⟩ := ret_some ho
    obtain ⟨e1, e2⟩ := hE x (by simp [Op.operands]) _ hu
    obtain ⟨f1, f2⟩ := hE y (by simp [Op.operands]) _ hz
    exact wp_still H (s := do eqGuard bop t x y (a.eval x) (a.eval y); Go.binOp bop t (a.eval x) (a.eval y)) rfl (by rw [e2, f2]; exact binOp_sound H hb e1 f1) hK
  | unOp uop t x =>
    change at_unOp P uop x T h = some (v, h') at ho
    unfold at_unOp at ho
    simp only [Option.bind_eq_some_iff] at ho
    obtain ⟨u, hu, ho⟩ := ho
    obtain ⟨hb, rfl⟩ := ret_some ho
    obtain ⟨e1, e2⟩ := hE x (by simp [Op.operands]) _ hu
    exact wp_still H (s := Op.unary uop (a.eval x)) rfl (by rw [e2]; exact unOp_sound hb w) hK
  | convert s d x =>
    change at_convert P s d x T h = some (v, h') at ho
    unfold at_convert at ho
    simp only [Option.bind_eq_some_iff] at ho
    obtain ⟨u, hu, ho⟩ := ho
    obtain ⟨e1, e2⟩ := hE x (by simp [Op.operands]) _ hu
    exact wp_value (s := Go.convert s d (a.eval x)) rfl (by rw [e2]; exact convert_sound H hfree ho e1) hK
  | makeInterface t x =>
    change at_makeInterface P t x T h = some (v, h') at ho
    unfold at_makeInterface at ho
    simp only [Option.bind_eq_some_iff] at ho
    obtain ⟨u, hu, ho⟩ := ho
    obtain ⟨e1, e2⟩ := hE x (by simp [Op.operands]) _ hu
    refine wp_value (s := Instr.makeInterface t (a.eval x)) rfl ?_ hK
    rw [e2]
    split at ho
    · cases ho
    · rename_i d hne hd
      cases ho
      refine ⟨σ, w, ?_, e1, Post.refl H⟩
      simp only [Instr.makeInterface, Sem.run_bind, run_underlying hd, Result.andThen_ok]
      cases d <;> first | rfl | exact absurd hd (hne _)
    · cases ho
  | makeFunc fn first cap =>
    change at_makeFunc P fn first cap T h = some (v, h') at ho
    unfold at_makeFunc at ho
    simp only [Option.bind_eq_some_iff] at ho
    obtain ⟨u, hu, z, hz, ho⟩ := ho
    cases ho
    obtain ⟨e1, e2⟩ := evals_on (fun x hx => hE x (by simp only [Op.operands, Array.mem_append]; exact .inl (by simpa using hx))) hu
    obtain ⟨f1, f2⟩ := evals_on (fun x hx => hE x (by simp only [Op.operands, Array.mem_append]; exact .inr (by simpa using hx))) hz
    refine wp_still (v := .func fn u z) H (s := Instr.makeFunc fn (first.map a.eval) (cap.map a.eval)) rfl ⟨?_, e1, f1⟩ hK
    have g1 : first.map a.eval = (concs σ u).toArray := by apply Array.ext'; simp [← e2]
    have g2 : cap.map a.eval = (concs σ z).toArray := by apply Array.ext'; simp [← f2]
    rw [g1, g2]
    rfl
  | makeSlice t x y =>
    change at_makeSlice P t x y T h = some (v, h') at ho
    unfold at_makeSlice at ho
    simp only [Option.bind_eq_some_iff] at ho
    obtain ⟨u, hu, z, hz, ho⟩ := ho
    obtain ⟨e1, e2⟩ := hE x (by simp [Op.operands]) _ hu
    obtain ⟨f1, f2⟩ := hE y (by simp [Op.operands]) _ hz
    exact wp_value (s := Instr.makeSlice t (a.eval x) (a.eval y)) rfl (by rw [e2, f2]; exact makeSlice_sound H hfree ho) hK
  | slice t x lo hi mx =>
    change at_slice P t x lo hi mx T h = some (v, h') at ho
    unfold at_slice at ho
    simp only [Option.bind_eq_some_iff] at ho
    obtain ⟨u, hu, l, hl, i, hi', m, hm, ho⟩ := ho
    obtain ⟨hs, rfl⟩ := ret_some ho
    obtain ⟨e1, e2⟩ := hE x (by simp [Op.operands]) _ hu
    have g1 := optEval_on (fun y hy => hE y (by simp [Op.operands] at hy ⊢; simp [hy])) hl
    have g2 := optEval_on (fun y hy => hE y (by simp [Op.operands] at hy ⊢; simp [hy])) hi'
    have g3 := optEval_on (fun y hy => hE y (by simp [Op.operands] at hy ⊢; simp [hy])) hm
    exact wp_still H (s := Instr.sliceAt t (a.eval x) (lo.map a.eval) (hi.map a.eval) (mx.map a.eval)) rfl (by rw [e2, g1, g2, g3]; exact sliceOf_sound H hs e1) hK
  | fieldAddr s x i =>
    change at_fieldAddr P s x i T h = some (v, h') at ho
    unfold at_fieldAddr at ho
    simp only [Option.bind_eq_some_iff] at ho
    obtain ⟨u, hu, ho⟩ := ho
    obtain ⟨hb, rfl⟩ := ret_some ho
    obtain ⟨e1, e2⟩ := hE x (by simp [Op.operands]) _ hu
    exact wp_still H (s := Instr.fieldAt s (a.eval x) i) rfl (by rw [e2]; exact fieldAddr_sound hb e1 w) hK
  | field s x i =>
    change at_field P s x i T h = some (v, h') at ho
    unfold at_field at ho
    simp only [Option.bind_eq_some_iff] at ho
    obtain ⟨u, hu, ho⟩ := ho
    obtain ⟨hb, rfl⟩ := ret_some ho
    obtain ⟨e1, e2⟩ := hE x (by simp [Op.operands]) _ hu
    exact wp_still H (s := Instr.field s (a.eval x) i) rfl (by rw [e2]; exact fieldOf_sound hb e1 w) hK
  | indexAddr t x y =>
    change at_indexAddr P t x y T h = some (v, h') at ho
    unfold at_indexAddr at ho
    simp only [Option.bind_eq_some_iff] at ho
    obtain ⟨u, hu, z, hz, ho⟩ := ho
    obtain ⟨hb, rfl⟩ := ret_some ho
    obtain ⟨e1, e2⟩ := hE x (by simp [Op.operands]) _ hu
    obtain ⟨f1, f2⟩ := hE y (by simp [Op.operands]) _ hz
    exact wp_still H (s := Instr.indexAt t (a.eval x) (a.eval y)) rfl (by rw [e2, f2]; exact indexAddr_sound hb e1 w) hK
  | index t x y =>
    change at_index P t x y T h = some (v, h') at ho
    unfold at_index at ho
    simp only [Option.bind_eq_some_iff] at ho
    obtain ⟨u, hu, z, hz, ho⟩ := ho
    obtain ⟨hb, rfl⟩ := ret_some ho
    obtain ⟨e1, e2⟩ := hE x (by simp [Op.operands]) _ hu
    obtain ⟨f1, f2⟩ := hE y (by simp [Op.operands]) _ hz
    exact wp_still H (s := Instr.index t (a.eval x) (a.eval y)) rfl (by rw [e2, f2]; exact index_sound hb e1 w) hK
  | range t x =>
    change at_range P t x T h = some (v, h') at ho
    unfold at_range at ho
    simp only [Option.bind_eq_some_iff] at ho
    obtain ⟨u, hu, ho⟩ := ho
    obtain ⟨e1, e2⟩ := hE x (by simp [Op.operands]) _ hu
    split at ho
    · rename_i s hs
      cases ho
      exact wp_value (s := Instr.range t (a.eval x)) rfl (by rw [e2]; exact range_sound H hs hfree) hK
    · cases ho
  | next x b =>
    change at_next P x b T h = some (v, h') at ho
    unfold at_next at ho
    split at ho
    · cases ho
    · simp only [Option.bind_eq_some_iff] at ho
      obtain ⟨u, hu, ho⟩ := ho
      obtain ⟨e1, e2⟩ := hE x (by simp [Op.operands]) _ hu
      split at ho
      · rename_i p
        split at ho
        · rename_i s pos hoff hob
          obtain ⟨w', r1, r2, r3⟩ := next_sound (ty := type) H e1 hoff hob ho
          exact wp_value (s := Instr.next (a.eval x) true type) rfl ⟨σ, w', by rw [e2]; exact r1, r2, r3⟩ hK
        · cases ho
      · cases ho
  | extract x i =>
    change at_extract P x i T h = some (v, h') at ho
    unfold at_extract at ho
    simp only [Option.bind_eq_some_iff] at ho
    obtain ⟨u, hu, ho⟩ := ho
    obtain ⟨hb, rfl⟩ := ret_some ho
    obtain ⟨e1, e2⟩ := hE x (by simp [Op.operands]) _ hu
    exact wp_still H (s := Instr.extract (a.eval x) i) rfl (by rw [e2]; exact extract_sound hb e1 w) hK
  | call c =>
    change at_call P callF c T h = some (v, h') at ho
    unfold at_call at ho
    simp only [Option.bind_eq_some_iff] at ho
    obtain ⟨args, hargs, ho⟩ := ho
    obtain ⟨callee, cargs, cts⟩ := c
    obtain ⟨e1, e2⟩ := evals_on (fun x hx => hE x (by simp only [Op.operands, Call.operands, Array.mem_append]; exact .inr (by simpa using hx))) hargs
    have g1 : cargs.map a.eval = (concs σ args).toArray := by apply Array.ext'; simpa using e2
    cases callee with
    | value f =>
      simp only [] at ho
      split at ho
      · rename_i g first cap hf
        obtain ⟨f1, f2⟩ := hE f (by simp [Op.operands, Call.operands]) _ hf
        have hex : execOp a.eval ({ dst, op := .call ⟨.value f, cargs, cts⟩, type, pos, after, guard } : Oper) = callFunc g ((concs σ first).toArray ++ cargs.map a.eval ++ (concs σ cap).toArray) := by
          simp only [execOp, resolve, f2, conc, Deferred.ofValue]
          rfl
        unfold Oper.wp
        rw [hex, g1]
        have : (concs σ first).toArray ++ (concs σ args).toArray ++ (concs σ cap).toArray = (concs σ (first ++ args ++ cap)).toArray := by simp [concs_append]
        rw [this]
        exact hcall g _ h v h' σ w _ a K Q ho H (okvs_append.2 ⟨okvs_append.2 ⟨f1.1, e1⟩, f1.2⟩) hfree hK
      · cases ho
    | invoke r m => cases ho
    | builtin b =>
      simp only [] at ho
      unfold Oper.wp
      have hex : execOp a.eval ({ dst, op := .call ⟨.builtin b, cargs, cts⟩, type, pos, after, guard } : Oper) = Go.builtin b cts type (cargs.map fun | .const _ => true | _ => false) (cargs.map a.eval) := rfl
      rw [hex, g1]
      obtain ⟨σ', w', r1, r2, r3⟩ := builtin_sound (ty := type) (consts := cargs.map fun | .const _ => true | _ => false) H hfree ho e1
      rw [r1]
      exact hK σ' w' r2 r3
  | _ => cases ho

end
end Go.Abs
