/- A part of the proof of RecordEdits. -/
import Derived.Test.YtjohgmnabemakaaGreatDoorP1
import Derived.Deep.QuietTactic
import Derived.BigQuiet
import Derived.StillTailTactics
import Derived.OwnWalk
import Derived.IntWalk
import Derived.Deep.DeepCutAuto
import Derived.Test.YtjohgmnabemakaaGreatDoorAbsP
import Derived.Deep.Onto
namespace Go.Proofs.YtjohgmnabemakaaGreatDoor
open Go.RowKit Go.Rep
set_option maxRecDepth 100000
abbrev zero6 : Array Value := #[.int .i64 0, .int .i64 0, .string { data := #[] }, .int .i64 0, .int .i64 0, .int .i64 0]
theorem ev_info : (Tryz.prog.info? 35).map (fun i => (i.zero, i.size, i.bytes)) = some (some (.agg zero6), 6, 56) := by kernel_rfl
abbrev zeroRec : Array Value := #[.int .i64 0, .int .i64 0, .int .i64 0, .slice none 0 0]
def JoinP (r c h : Int) (l : List Ev) (w : World) (e : Ending) (w' : World) : Prop :=
  (validB r c h l = false → e = .returned (.tuple #[.agg zeroRec, .int .i64 2]) ∧ Below w.heap.size w w') ∧
  (validB r c h l = true → ∃ v, e = .returned (.tuple #[.agg #[.int .i64 r, .int .i64 c, .int .i64 h, v], .int .i64 0]) ∧ w'.ownsRow w.heap.size 35 6 v (joinTo l l.length).length (evCells (joinTo l l.length)) ∧ Below w.heap.size w w')
theorem res_rec {fn : Func} {t u : Tmp} (e : fn.results = #[.cell t 26, .tmp u]) {w1 : World} {b : Nat} {x0 x1 x2 v t3 : Value} {tmps : Array Value} (q0 : w1.cell? ⟨b, 0, none⟩ = some x0) (q1 : w1.cell? ⟨b, 1, none⟩ = some x1) (q2 : w1.cell? ⟨b, 2, none⟩ = some x2) (q3 : w1.cell? ⟨b, 3, none⟩ = some v)
    (ht : tmps[t]?.getD undef = .pointer (some ⟨b, 0, none⟩)) (h3 : tmps[u]?.getD undef = t3) :
    (results fn tmps).run Tryz.prog w1 = .ok (.tuple #[.agg #[x0, x1, x2, v], t3]) w1 := by
  simp [results, e, go_sem, q0, q1, q2, q3, ht, h3]
set_option maxHeartbeats 2000000 in
theorem join_no {r c h : Int} {A : Option Addr} {m cp B : Nat} {l : List Ev} {w : World} (hr : Reads w B 6 A m (evCells l)) (hB : B ≤ w.heap.size) (hc : cp ≤ maxLen) (hmc : m ≤ cp) (hv : validB r c h l = false) :
    Calls Tryz.prog 19 #[.agg #[.int .i64 r, .int .i64 c, .int .i64 h, .slice A m cp]] w fun e w' => e = .returned (.tuple #[.agg zeroRec, .int .i64 2]) ∧ Below w.heap.size w w' := by
  have HV := Lib.hid hv
  clear hv
  go_enter Tryz.func19, Tryz.ntmps19
  go_wp2_with (go_at_call 23; refine (valid_any ((hr.alloc hB _).alloc (by simp; omega) _) (by simp; omega) hc hmc).mono ?_; rintro e w1 ⟨rfl, hb1⟩; rw [HV.out]; have b2 : Blk w1 (w.heap.size + 1) 26 zeroRec := (congrArg (fun n => Blk w1 n 26 zeroRec) (show (w.alloc (.cells #[.int .i64 r, .int .i64 c, .int .i64 h, .slice A m cp] 26)).heap.size = w.heap.size + 1 by simp)).mp ((Blk.new (w.alloc (.cells #[.int .i64 r, .int .i64 c, .int .i64 h, .slice A m cp] 26)) 26 zeroRec).below hb1 (by simp)); have p0 : w1.cell? ⟨w.heap.size + 1, 0, none⟩ = some (.int .i64 0) := b2.cell 0; have p1 : w1.cell? ⟨w.heap.size + 1, 1, none⟩ = some (.int .i64 0) := b2.cell 1; have p2 : w1.cell? ⟨w.heap.size + 1, 2, none⟩ = some (.int .i64 0) := b2.cell 2; have p3 : w1.cell? ⟨w.heap.size + 1, 3, none⟩ = some (.slice none 0 0) := b2.cell 3; have f0 : w1.frozen? ⟨w.heap.size + 1, 0, none⟩ = false := b2.frozen 0; have f1 : w1.frozen? ⟨w.heap.size + 1, 1, none⟩ = false := b2.frozen 1; have f2 : w1.frozen? ⟨w.heap.size + 1, 2, none⟩ = false := b2.frozen 2; have f3 : w1.frozen? ⟨w.heap.size + 1, 3, none⟩ = false := b2.frozen 3)
  have hb2 : Below w.heap.size w w1 := Below.trans (((Below.refl w.heap.size w).alloc (Nat.le_refl _) _).alloc (by simp) _) (hb1.mono (by simp; omega))
  have hle : w.heap.size ≤ w.heap.size + 1 := by omega
  have b3 := (((b2.set_ 0 (.int .i64 0)).set_ 1 (.int .i64 0)).set_ 2 (.int .i64 0)).set_ 3 (.slice none 0 0)
  refine bodyPost_ret (res_rec rfl (b3.cell 0) (b3.cell 1) (b3.cell 2) (b3.cell 3) rfl rfl) rfl ?_
  exact ⟨rfl, (((hb2.setCell hle _).setCell hle _).setCell hle _).setCell hle _⟩
end Go.Proofs.YtjohgmnabemakaaGreatDoor

namespace Go.Proofs.YtjohgmnabemakaaGreatDoor
open Go.RowKit Go.Rep
set_option maxRecDepth 100000
theorem ev_new' {w1 : World} {n : Nat} (hn : w1.heap.size = n) (e : Ev) (T : TypeId) : ∀ (j : Nat) (u : Value), e.cells[j]? = some u → (w1.alloc (.cells #[.int .i64 e.at', .int .i64 e.o.k, .string e.o.s, .int .i64 e.o.r, .int .i64 e.o.c, .int .i64 e.o.n] T)).cell? ((⟨n, 0, none⟩ : Addr).add j) = some u := by
  subst hn
  exact ev_new w1 e T
theorem snoc_cases {α : Type} (xs : List α) : xs = [] ∨ ∃ zs z, xs = zs ++ [z] := by
  rcases List.eq_nil_or_concat xs with h | ⟨a, b, h⟩
  · exact .inl h
  · exact .inr ⟨a, b, by simpa using h⟩
theorem ev_snoc {w : World} {base n : Nat} {v : Value} {xs : List Ev} {e : Ev} (h : w.ownsRow base 35 6 v (n + 1) (evCells xs ++ e.cells)) (hn : n = xs.length) : w.ownsRow base 35 6 v (xs ++ [e]).length (evCells (xs ++ [e])) := by
  rw [List.length_append, evCells_snoc, ← hn]
  exact h
theorem own_glue {w : World} {base g n c : Nat} {zs : List Ev} {z e : Ev} (h : w.ownsRow base 35 6 (.slice (some ⟨g, 0, none⟩) n c) n (evCells (zs ++ [z]))) (hn : n = (zs ++ [z]).length) :
    (w.setCell ⟨g, (n - 1) * 6 + 2, none⟩ (.string (z.o.s ++ e.o.s))).ownsRow base 35 6 (.slice (some ⟨g, 0, none⟩) n c) (zs ++ [glue z e]).length (evCells (zs ++ [glue z e])) := by
  have h1 := (h.stored ((n - 1) * 6 + 2) (.string (z.o.s ++ e.o.s))).1
  have e1 : n - 1 = zs.length := by simp at hn; omega
  have e2 : (zs ++ [glue z e]).length = n := by simp at hn ⊢; omega
  rw [e1, evCells_glue] at h1
  rw [e1, e2]
  exact h1
set_option maxHeartbeats 20000000 in
theorem join_yes {r c h : Int} {A : Option Addr} {m cp B : Nat} {l : List Ev} {w : World} (hr : Reads w B 6 A m (evCells l)) (hB : B ≤ w.heap.size) (hc : cp ≤ maxLen) (hmc : m ≤ cp) (hm2 : m ≤ 2000) (hv : validB r c h l = true) :
    Calls Tryz.prog 19 #[.agg #[.int .i64 r, .int .i64 c, .int .i64 h, .slice A m cp]] w fun e w' => ∃ v, e = .returned (.tuple #[.agg #[.int .i64 r, .int .i64 c, .int .i64 h, v], .int .i64 0]) ∧ w'.ownsRow w.heap.size 35 6 v (joinTo l l.length).length (evCells (joinTo l l.length)) ∧ Below w.heap.size w w' := by
  have HV := Lib.hid hv
  have HL := Lib.hid hr.evs
  obtain ⟨i0, hi, hz0, hz1, hz2⟩ := info_parts ev_info
  clear hv
  go_enter Tryz.func19, Tryz.ntmps19
  go_wp2_with (go_at_call 23; refine (valid_any ((hr.alloc hB _).alloc (by simp; omega) _) (by simp; omega) hc hmc).mono ?_; rintro e w1 ⟨rfl, hb1⟩; rw [HV.out]; have b1 := ((Blk.new w 26 #[.int .i64 r, .int .i64 c, .int .i64 h, .slice A m cp]).alloc (.cells zeroRec 26)).below hb1 (by simp; omega); have b2 : Blk w1 (w.heap.size + 1) 26 zeroRec := (congrArg (fun n => Blk w1 n 26 zeroRec) (show (w.alloc (.cells #[.int .i64 r, .int .i64 c, .int .i64 h, .slice A m cp] 26)).heap.size = w.heap.size + 1 by simp)).mp ((Blk.new (w.alloc (.cells #[.int .i64 r, .int .i64 c, .int .i64 h, .slice A m cp] 26)) 26 zeroRec).below hb1 (by simp)); have q0 : w1.cell? ⟨w.heap.size, 0, none⟩ = some (.int .i64 r) := b1.cell 0; have q1 : w1.cell? ⟨w.heap.size, 1, none⟩ = some (.int .i64 c) := b1.cell 1; have q2 : w1.cell? ⟨w.heap.size, 2, none⟩ = some (.int .i64 h) := b1.cell 2; have q3 : w1.cell? ⟨w.heap.size, 3, none⟩ = some (.slice A m cp) := b1.cell 3; have q3a : (w1.alloc (.cells #[.int .i64 r, .int .i64 c, .int .i64 h, .slice none 0 0] 26)).cell? ⟨w.heap.size, 3, none⟩ = some (.slice A m cp) := (b1.alloc _).cell 3)
  have hs1 := hb1.size
  simp at hs1
  go_loopw [19] (fun i wr => ∃ (k : Nat) (xs : List Ev) (v : Value), k ≤ m ∧ i = .int .i64 k ∧ Blk wr (w.heap.size + 1) 26 zeroRec ∧ Blk wr w1.heap.size 26 #[.int .i64 r, .int .i64 c, .int .i64 h, v] ∧ wr.ownsRow (w1.heap.size + 1) 35 6 v xs.length (evCells xs) ∧ xs.length ≤ k ∧ Below w.heap.size w wr ∧ Hid (joinTo l k = xs)) (fun i _ => m - (intOf i).toNat)
  case atStart =>
    exact ⟨0, [], .slice none 0 0, Nat.zero_le _, rfl, b2.alloc _, Blk.new w1 26 _, World.ownsRow_nil _ _ _ _, Nat.le_refl _, ((((Below.refl w.heap.size w).alloc (Nat.le_refl _) _).alloc (by simp) _).trans (hb1.mono (by simp; omega))).alloc (by omega) _, Lib.hid rfl⟩
  case round =>
    obtain ⟨k, xs, v, hk, rfl, bZ, bX, hown, hxk, hbr, hJ⟩ := hrel
    have hsz := hbr.size
    have hXlt := bX.lt
    have hneX := own_blk_ne hown bX (by decide)
    have hneZ := own_blk_ne hown bZ (by decide)
    clear q0 q1 q2 q3 q3a
    have x3 : wr.cell? ⟨w1.heap.size, 3, none⟩ = some v := bX.cell 3
    by_cases hlt : k < m
    · obtain ⟨ad, e, rfl, he, y0, y1, y2, y3, y4, y5⟩ := ((hr.more hB).below hbr).ev hlt
      have HJ := Lib.hid ((joinTo_succ he).trans (congrArg (joinStep · e) hJ.out))
      have hes : (e.o.s.size : Int) ≤ 4096 := by exact_mod_cast valid_small HV.out _ (List.mem_of_getElem? he)
      clear he
      have bX6 := bX.alloc (.cells #[.int .i64 e.at', .int .i64 e.o.k, .string e.o.s, .int .i64 e.o.r, .int .i64 e.o.c, .int .i64 e.o.n] 35)
      have bZ6 := bZ.alloc (.cells #[.int .i64 e.at', .int .i64 e.o.k, .string e.o.s, .int .i64 e.o.r, .int .i64 e.o.c, .int .i64 e.o.n] 35)
      have own6 := hown.alloc (.cells #[.int .i64 e.at', .int .i64 e.o.k, .string e.o.s, .int .i64 e.o.r, .int .i64 e.o.c, .int .i64 e.o.n] 35)
      rcases snoc_cases xs with rfl | ⟨zs, z, rfl⟩
      · obtain ⟨A1, c1, rfl, _, _, _⟩ := own_slice hown
        go_wp2_with (at_builtin; refine wpList_append_own _ rfl (.tmp 81) (.tmp 83) 24 rfl (w1.heap.size + 1) 35 i0 (.agg zero6) 6 56 Tryz.underlying24 hi hz0 hz1 hz2 rfl (by decide) _ 0 (evCells []) rfl (own6.alloc _) ⟨wr.heap.size + 1, 0, none⟩ 1 1 e.cells rfl rfl (ev_new' (n := wr.heap.size + 1) (by simp) e _) (ev_cell e) (by unfold maxLen; omega) (by omega) (by simp; omega) ?_; intro v7 w7 hown7 hg7 _; obtain ⟨A7, c7, rfl, _, _, _⟩ := own_slice hown7; have bX7 := (bX6.alloc (.cells #[.int .i64 e.at', .int .i64 e.o.k, .string e.o.s, .int .i64 e.o.r, .int .i64 e.o.c, .int .i64 e.o.n] 35)).grown hg7 (fun q => hneX q.symm); have bZ7 := (bZ6.alloc (.cells #[.int .i64 e.at', .int .i64 e.o.k, .string e.o.s, .int .i64 e.o.r, .int .i64 e.o.c, .int .i64 e.o.n] 35)).grown hg7 (fun q => hneZ q.symm); have c37 : w7.cell? ⟨w1.heap.size, 3, none⟩ = some (.slice A1 0 c1) := bX7.cell 3; have f37 := bX7.frozen 3)
        go_roundw
        case rel =>
          refine ⟨k + 1, [] ++ [e], .slice A7 (0 + 1) c7, by omega, by go_num, bZ7.far (p := ⟨w1.heap.size, 3, none⟩) (by show w.heap.size + 1 ≠ w1.heap.size; omega) _, bX7.set_ 3 _, ?_, by first | (simp; done) | (rw [List.length_append, ← HN.out]; simp; omega), ?_, Lib.hid (HJ.out.trans (rfl))⟩
          · exact own_far (ev_snoc hown7 rfl) (by omega)
          · exact (((hbr.alloc hsz _).alloc (by simp; omega) _).grown hg7 (by simp; omega) (fun j q => by have := own_base hown q; omega)).setCell (by show w.heap.size ≤ w1.heap.size; omega) _
        case measure => simp [intOf]; omega
      · obtain ⟨n, hn⟩ : ∃ n, n = (zs ++ [z]).length := ⟨_, rfl⟩
        rw [← hn] at hown own6 hxk
        have hn1 : 1 ≤ n := by rw [hn]; simp
        have HN := Lib.hid hn
        clear hn
        obtain ⟨g, c1, rfl, hgB, hglt⟩ := World.ownsRow.form hown (by omega)
        by_cases hk1 : e.o.k = 1
        · have hl6 : (evCells (zs ++ [z])).length = n * 6 := by rw [evCells_length, HN.out]
          have hzat : ∀ j u, j < 6 → z.cells[j]? = some u → wr.cell? ⟨g, (n - 1) * 6 + j, none⟩ = some u := fun j u hj hu => by
            rw [hown.cellAt ((n - 1) * 6 + j) (by omega)]
            have e1 : n - 1 = zs.length := by have := HN.out; simp at this; omega
            rw [e1, evCells_at _ _ _ (by simp) hj]
            simpa using hu
          have z0 : wr.cell? ⟨g, (n - 1) * 6, none⟩ = some (.int .i64 z.at') := hzat 0 _ (by omega) rfl
          have z1 : wr.cell? ⟨g, (n - 1) * 6 + 1, none⟩ = some (.int .i64 z.o.k) := hzat 1 _ (by omega) rfl
          have z2 : wr.cell? ⟨g, (n - 1) * 6 + 2, none⟩ = some (.string z.o.s) := hzat 2 _ (by omega) rfl
          have zf := hown.frozenAt ((n - 1) * 6 + 2)
          clear hzat hl6
          obtain ⟨t, ⟨kk, s, er, ec, en⟩⟩ := e
          obtain ⟨zt, ⟨zk, zs', zr, zc, zn⟩⟩ := z
          have hzs : (zs'.size : Int) ≤ 4096 := by exact_mod_cast joinTo_small HV.out k ⟨zt, ⟨zk, zs', zr, zc, zn⟩⟩ (by rw [hJ.out]; simp)
          dsimp only at hes
          dsimp only at y0 y1 y2 y3 y4 y5 z0 z1 z2 bX6 bZ6 own6 hk1
          subst hk1
          go_upto_region 10 with fail
          go_cut [67] (fun cc wx => cc = .bool (canJoin (⟨zt, ⟨zk, zs', zr, zc, zn⟩⟩ : Ev) (⟨t, ⟨1, s, er, ec, en⟩⟩ : Ev)) ∧ Blk wx (w.heap.size + 1) 26 zeroRec ∧ Blk wx w1.heap.size 26 #[.int .i64 r, .int .i64 c, .int .i64 h, .slice (some ⟨g, 0, none⟩) n c1] ∧ wx.ownsRow (w1.heap.size + 1) 35 6 (.slice (some ⟨g, 0, none⟩) n c1) n (evCells (zs ++ [(⟨zt, ⟨zk, zs', zr, zc, zn⟩⟩ : Ev)])) ∧ Blk wx wr.heap.size 35 #[.int .i64 t, .int .i64 1, .string s, .int .i64 er, .int .i64 ec, .int .i64 en] ∧ Below w.heap.size w wx ∧ wr.heap.size + 1 ≤ wx.heap.size)
          case first =>
            have F := fun (q : Nat) => And.intro (bZ6.drewN q) (And.intro (bX6.drewN q) (And.intro (own_drewN own6 q) (And.intro ((Blk.new wr 35 #[.int .i64 t, .int .i64 1, .string s, .int .i64 er, .int .i64 ec, .int .i64 en]).drewN q) (And.intro (below_drewN (hbr.alloc hsz (.cells #[.int .i64 t, .int .i64 1, .string s, .int .i64 er, .int .i64 ec, .int .i64 en] 35)) q) (show wr.heap.size + 1 ≤ ((wr.alloc (.cells #[.int .i64 t, .int .i64 1, .string s, .int .i64 er, .int .i64 ec, .int .i64 en] 35)).drewN q).heap.size by simp)))))
            have HF := Lib.hid F
            clear F
            by_cases hk2 : zk = 1
            · subst hk2
              by_cases hk3 : zt = t
              · subst hk3
                by_cases hk4 : (zs'.size : Int) + s.size ≤ 4096
                · go_quiet (fail)
                  go_wp2
                  go_meet
                  exact ⟨congrArg Value.bool (by simp [canJoin, hk4]), HF.out nq⟩
                · go_quiet (fail)
                  go_wp2
                  go_meet
                  exact ⟨congrArg Value.bool (by simp [canJoin, hk4]), HF.out nq⟩
              · have hb3 : (zt == t) = false := by simp [hk3]
                go_quiet (fail)
                go_wp2
                go_meet
                exact ⟨congrArg Value.bool (by simp [canJoin, hk3]), HF.out nq⟩
            · have hb2 : (zk == 1) = false := by simp [hk2]
              go_quiet (fail)
              go_wp2
              go_meet
              exact ⟨congrArg Value.bool (by simp [canJoin, hk2]), HF.out nq⟩
          case rest =>
            clear bX6 bZ6 own6 bX bZ hown x3 y0 y1 y2 y3 y4 y5 z0 z1 z2 zf hbr
            obtain ⟨rfl, bZ, bX, hown, bE, hbr, hsz2⟩ := hcut
            have x3 : wc.cell? ⟨w1.heap.size, 3, none⟩ = some (.slice (some ⟨g, 0, none⟩) n c1) := bX.cell 3
            have y0 : wc.cell? ⟨wr.heap.size, 0, none⟩ = some (.int .i64 t) := bE.cell 0
            have y1 : wc.cell? ⟨wr.heap.size, 1, none⟩ = some (.int .i64 1) := bE.cell 1
            have y2 : wc.cell? ⟨wr.heap.size, 2, none⟩ = some (.string s) := bE.cell 2
            have y3 : wc.cell? ⟨wr.heap.size, 3, none⟩ = some (.int .i64 er) := bE.cell 3
            have y4 : wc.cell? ⟨wr.heap.size, 4, none⟩ = some (.int .i64 ec) := bE.cell 4
            have y5 : wc.cell? ⟨wr.heap.size, 5, none⟩ = some (.int .i64 en) := bE.cell 5
            have hnX : g ≠ w1.heap.size := by omega
            have hnZ : g ≠ w.heap.size + 1 := by omega
            have hle' : w.heap.size ≤ wc.heap.size := by omega
            by_cases hj : canJoin (⟨zt, ⟨zk, zs', zr, zc, zn⟩⟩ : Ev) (⟨t, ⟨1, s, er, ec, en⟩⟩ : Ev) = true
            · rw [hj]
              have HG := Lib.hid (HJ.out.trans (joinStep_yes rfl hj))
              clear hj
              have hl6 : (evCells (zs ++ [(⟨zt, ⟨zk, zs', zr, zc, zn⟩⟩ : Ev)])).length = n * 6 := by rw [evCells_length, HN.out]
              have z2 : wc.cell? ⟨g, (n - 1) * 6 + 2, none⟩ = some (.string zs') := by
                rw [hown.cellAt ((n - 1) * 6 + 2) (by omega)]
                have e1 : n - 1 = zs.length := by have := HN.out; simp at this; omega
                rw [e1, evCells_at _ _ _ (by simp) (by decide)]
                simp [Ev.cells, TOp.cells]
              have zf := hown.frozenAt ((n - 1) * 6 + 2)
              clear hl6
              have hcat : ¬ (9223372036854775807 < zs'.size + s.size) := by omega
              go_wp2
              go_still_tail 12, (by kernel_rfl)
              change wpList _ _ _ _ _ wc.drew
              go_wp2
              go_roundw
              case rel =>
                refine ⟨k + 1, zs ++ [glue (⟨zt, ⟨zk, zs', zr, zc, zn⟩⟩ : Ev) (⟨t, ⟨1, s, er, ec, en⟩⟩ : Ev)], .slice (some ⟨g, 0, none⟩) n c1, by omega, by go_num, (bZ.drew).far (p := ⟨g, (n - 1) * 6 + 2, none⟩) (fun q => hnZ q.symm) _, (bX.drew).far (p := ⟨g, (n - 1) * 6 + 2, none⟩) (fun q => hnX q.symm) _, own_glue (e := (⟨t, ⟨1, s, er, ec, en⟩⟩ : Ev)) (World.ownsRow.drew hown) HN.out, ?_, (hbr.drew).setCell (show w.heap.size ≤ (⟨g, (n - 1) * 6 + 2, none⟩ : Addr).block from (by show w.heap.size ≤ g; omega)) _, Lib.hid HG.out⟩
                have := HN.out; simp at this ⊢; omega
              case measure => simp [intOf]; omega
            · have hj : canJoin (⟨zt, ⟨zk, zs', zr, zc, zn⟩⟩ : Ev) (⟨t, ⟨1, s, er, ec, en⟩⟩ : Ev) = false := by simpa using hj
              rw [hj]
              have HG := Lib.hid (HJ.out.trans (joinStep_no hj))
              clear hj
              go_wp2_with (at_builtin; go_loud (refine wpList_append_own _ rfl (.tmp 81) (.tmp 83) 24 rfl (w1.heap.size + 1) 35 i0 (.agg zero6) 6 56 Tryz.underlying24 hi hz0 hz1 hz2 rfl (by decide) _ n (evCells (zs ++ [(⟨zt, ⟨zk, zs', zr, zc, zn⟩⟩ : Ev)])) rfl (hown.alloc _) ⟨wc.heap.size, 0, none⟩ 1 1 (⟨t, ⟨1, s, er, ec, en⟩⟩ : Ev).cells rfl rfl (ev_new' (n := wc.heap.size) rfl (⟨t, ⟨1, s, er, ec, en⟩⟩ : Ev) _) (ev_cell (⟨t, ⟨1, s, er, ec, en⟩⟩ : Ev)) (by unfold maxLen; omega) (by omega) (by simp; omega) ?_); intro v7 w7 hown7 hg7 _; obtain ⟨A7, c7, rfl, _, _, _⟩ := own_slice hown7; have bX7 := (bX.alloc (.cells #[.int .i64 t, .int .i64 1, .string s, .int .i64 er, .int .i64 ec, .int .i64 en] 35)).grown hg7 (fun q => hneX q.symm); have bZ7 := (bZ.alloc (.cells #[.int .i64 t, .int .i64 1, .string s, .int .i64 er, .int .i64 ec, .int .i64 en] 35)).grown hg7 (fun q => hneZ q.symm); have c37 : w7.cell? ⟨w1.heap.size, 3, none⟩ = some (.slice (some ⟨g, 0, none⟩) n c1) := bX7.cell 3; have f37 := bX7.frozen 3)
              go_roundw
              case rel =>
                refine ⟨k + 1, zs ++ [(⟨zt, ⟨zk, zs', zr, zc, zn⟩⟩ : Ev)] ++ [(⟨t, ⟨1, s, er, ec, en⟩⟩ : Ev)], .slice A7 (n + 1) c7, by omega, by go_num, bZ7.far (p := ⟨w1.heap.size, 3, none⟩) (by show w.heap.size + 1 ≠ w1.heap.size; omega) _, bX7.set_ 3 (.slice A7 (n + 1) c7), own_far (ev_snoc (e := (⟨t, ⟨1, s, er, ec, en⟩⟩ : Ev)) hown7 HN.out) (by omega), ?_, ((hbr.alloc hle' _).grown hg7 (by simp; omega) (fun j q => by have := own_base hown q; omega)).setCell (p := ⟨w1.heap.size, 3, none⟩) (by show w.heap.size ≤ w1.heap.size; omega) _, Lib.hid HG.out⟩
                have := HN.out; simp at this ⊢; omega
              case measure => simp [intOf]; omega
        · go_wp2_with (at_builtin; refine wpList_append_own _ rfl (.tmp 81) (.tmp 83) 24 rfl (w1.heap.size + 1) 35 i0 (.agg zero6) 6 56 Tryz.underlying24 hi hz0 hz1 hz2 rfl (by decide) _ n (evCells (zs ++ [z])) rfl (own6.alloc _) ⟨wr.heap.size + 1, 0, none⟩ 1 1 e.cells rfl rfl (ev_new' (n := wr.heap.size + 1) (by simp) e _) (ev_cell e) (by unfold maxLen; omega) (by omega) (by simp; omega) ?_; intro v7 w7 hown7 hg7 _; obtain ⟨A7, c7, rfl, _, _, _⟩ := own_slice hown7; have bX7 := (bX6.alloc (.cells #[.int .i64 e.at', .int .i64 e.o.k, .string e.o.s, .int .i64 e.o.r, .int .i64 e.o.c, .int .i64 e.o.n] 35)).grown hg7 (fun q => hneX q.symm); have bZ7 := (bZ6.alloc (.cells #[.int .i64 e.at', .int .i64 e.o.k, .string e.o.s, .int .i64 e.o.r, .int .i64 e.o.c, .int .i64 e.o.n] 35)).grown hg7 (fun q => hneZ q.symm); have c37 : w7.cell? ⟨w1.heap.size, 3, none⟩ = some (.slice (some ⟨g, 0, none⟩) n c1) := bX7.cell 3; have f37 := bX7.frozen 3)
          go_roundw
          case rel =>
            refine ⟨k + 1, zs ++ [z] ++ [e], .slice A7 (n + 1) c7, by omega, by go_num, bZ7.far (p := ⟨w1.heap.size, 3, none⟩) (by show w.heap.size + 1 ≠ w1.heap.size; omega) _, bX7.set_ 3 _, ?_, by first | (simp; done) | (rw [List.length_append, ← HN.out]; simp; omega), ?_, Lib.hid (HJ.out.trans (joinStep_other hk1))⟩
            · exact own_far (ev_snoc hown7 HN.out) (by omega)
            · exact (((hbr.alloc hsz _).alloc (by simp; omega) _).grown hg7 (by simp; omega) (fun j q => by have := own_base hown q; omega)).setCell (by show w.heap.size ≤ w1.heap.size; omega) _
          case measure => simp [intOf]; omega
    · obtain rfl : k = m := by omega
      obtain ⟨A1, c1, rfl, _, _, _⟩ := own_slice hown
      have x0 : wr.cell? ⟨w1.heap.size, 0, none⟩ = some (.int .i64 r) := bX.cell 0
      have x1 : wr.cell? ⟨w1.heap.size, 1, none⟩ = some (.int .i64 c) := bX.cell 1
      have x2 : wr.cell? ⟨w1.heap.size, 2, none⟩ = some (.int .i64 h) := bX.cell 2
      have p0 : wr.cell? ⟨w.heap.size + 1, 0, none⟩ = some (.int .i64 0) := bZ.cell 0
      have p1 : wr.cell? ⟨w.heap.size + 1, 1, none⟩ = some (.int .i64 0) := bZ.cell 1
      have p2 : wr.cell? ⟨w.heap.size + 1, 2, none⟩ = some (.int .i64 0) := bZ.cell 2
      have p3 : wr.cell? ⟨w.heap.size + 1, 3, none⟩ = some (.slice none 0 0) := bZ.cell 3
      have f0 := bZ.frozen 0
      have f1 := bZ.frozen 1
      have f2 := bZ.frozen 2
      have f3 := bZ.frozen 3
      go_wp2
      have hle : w.heap.size ≤ w.heap.size + 1 := by omega
      have b3 := (((bZ.set_ 0 (.int .i64 r)).set_ 1 (.int .i64 c)).set_ 2 (.int .i64 h)).set_ 3 (.slice A1 xs.length c1)
      have hfa : w.heap.size + 1 < w1.heap.size + 1 := by omega
      refine bodyPost_ret (res_rec rfl (b3.cell 0) (b3.cell 1) (b3.cell 2) (b3.cell 3) rfl rfl) rfl ?_
      have hj : joinTo l l.length = xs := by rw [HL.out]; exact hJ.out
      refine ⟨_, rfl, ?_, (((hbr.setCell hle _).setCell hle _).setCell hle _).setCell hle _⟩
      rw [hj]
      exact World.ownsRow.mono (own_far (own_far (own_far (own_far hown hfa) hfa) hfa) hfa) (by omega)
end Go.Proofs.YtjohgmnabemakaaGreatDoor
