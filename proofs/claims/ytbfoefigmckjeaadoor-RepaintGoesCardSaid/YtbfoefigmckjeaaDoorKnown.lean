/- The examples of the chapter are true: one run of the evaluator, by the kernel. The six listed tables are as the card lays them. -/
import Derived.Test.YtbfoefigmckjeaaDoorAbsC
import Derived.Test.YtbfoefigmckjeaaDoorChecked
import Derived.Shelf.Abstract
import Derived.Lib.ItoaNum
import Derived.KernelRfl
namespace Go.Abs
open Go.Proofs Go.RowKit
noncomputable def tabs : List Tab := [⟨5, 126, 1, [.int .u8 0, .int .u8 1, .int .u8 28, .int .u8 2, .int .u8 29, .int .u8 14, .int .u8 24, .int .u8 3, .int .u8 30, .int .u8 22, .int .u8 20, .int .u8 15, .int .u8 25, .int .u8 17, .int .u8 4, .int .u8 8, .int .u8 31, .int .u8 27, .int .u8 13, .int .u8 23, .int .u8 21, .int .u8 19, .int .u8 16, .int .u8 7, .int .u8 26, .int .u8 12, .int .u8 18, .int .u8 6, .int .u8 11, .int .u8 5, .int .u8 10, .int .u8 9]⟩,
  ⟨6, 127, 1, [.int .u8 0, .int .u8 1, .int .u8 56, .int .u8 2, .int .u8 57, .int .u8 49, .int .u8 28, .int .u8 3, .int .u8 61, .int .u8 58, .int .u8 42, .int .u8 50, .int .u8 38, .int .u8 29, .int .u8 17, .int .u8 4, .int .u8 62, .int .u8 47, .int .u8 59, .int .u8 36, .int .u8 45, .int .u8 43, .int .u8 51, .int .u8 22, .int .u8 53, .int .u8 39, .int .u8 33, .int .u8 30, .int .u8 24, .int .u8 18, .int .u8 12, .int .u8 5, .int .u8 63, .int .u8 55, .int .u8 48, .int .u8 27, .int .u8 60, .int .u8 41, .int .u8 37, .int .u8 16, .int .u8 46, .int .u8 35, .int .u8 44, .int .u8 21, .int .u8 52, .int .u8 32, .int .u8 23, .int .u8 11, .int .u8 54, .int .u8 26, .int .u8 40, .int .u8 15, .int .u8 34, .int .u8 20, .int .u8 31, .int .u8 10, .int .u8 25, .int .u8 14, .int .u8 19, .int .u8 9, .int .u8 13, .int .u8 8, .int .u8 7, .int .u8 6]⟩,
  ⟨3, 115, 1, [.int .u64 1, .int .u64 10, .int .u64 100, .int .u64 1000, .int .u64 10000, .int .u64 100000, .int .u64 1000000, .int .u64 10000000, .int .u64 100000000, .int .u64 1000000000, .int .u64 10000000000, .int .u64 100000000000, .int .u64 1000000000000, .int .u64 10000000000000, .int .u64 100000000000000, .int .u64 1000000000000000, .int .u64 10000000000000000, .int .u64 100000000000000000, .int .u64 1000000000000000000, .int .u64 10000000000000000000]⟩,
  ⟨1, 111, 2, [.int .i32 768, .int .i32 879, .int .i32 1155, .int .i32 1161, .int .i32 1425, .int .i32 1469, .int .i32 1552, .int .i32 1562, .int .i32 1611, .int .i32 1631, .int .i32 1750, .int .i32 1756, .int .i32 3633, .int .i32 3633, .int .i32 3636, .int .i32 3642, .int .i32 3655, .int .i32 3662, .int .i32 6832, .int .i32 6911, .int .i32 7616, .int .i32 7679, .int .i32 8203, .int .i32 8207, .int .i32 8400, .int .i32 8447, .int .i32 12330, .int .i32 12335, .int .i32 12441, .int .i32 12442, .int .i32 65024, .int .i32 65039, .int .i32 65056, .int .i32 65071, .int .i32 917760, .int .i32 917999]⟩,
  ⟨2, 112, 2, [.int .i32 4352, .int .i32 4447, .int .i32 9001, .int .i32 9002, .int .i32 11904, .int .i32 12329, .int .i32 12336, .int .i32 12350, .int .i32 12353, .int .i32 12440, .int .i32 12443, .int .i32 13311, .int .i32 13312, .int .i32 19903, .int .i32 19968, .int .i32 42191, .int .i32 43360, .int .i32 43391, .int .i32 44032, .int .i32 55203, .int .i32 63744, .int .i32 64255, .int .i32 65072, .int .i32 65135, .int .i32 65280, .int .i32 65376, .int .i32 65504, .int .i32 65510, .int .i32 127744, .int .i32 128591, .int .i32 128640, .int .i32 128767, .int .i32 129280, .int .i32 129535, .int .i32 131072, .int .i32 196605, .int .i32 196608, .int .i32 262141]⟩,
  ⟨0, 93, 2, [.int .u8 1, .int .i64 1, .int .u8 2, .int .i64 2, .int .u8 4, .int .i64 3, .int .u8 8, .int .i64 4, .int .u8 16, .int .i64 5, .int .u8 32, .int .i64 7, .int .u8 64, .int .i64 8, .int .u8 128, .int .i64 9]⟩]


theorem good_of {P : Program} {ok : Nat} (h : (List.range P.funcs.size).all (fun f => !Nat.testBit ok f || (match P.funcs[f]? with | some fn => goodFunc fn | none => true)) = true) :
    ∀ f, Nat.testBit ok f = true → ∀ fn, P.funcs[f]? = some fn → goodFunc fn = true := by
  intro f hf fn hfn
  have := List.all_eq_true.1 h f (List.mem_range.2 (Array.getElem?_eq_some_iff.1 hfn).1)
  rw [hf, hfn] at this
  simpa using this

def okMask : Nat := 1208925819614629174706175
def dec : Nat → Nat → List UInt8
  | 0, _ => []
  | k + 1, n => match Nat.blt n 10 with
    | true => [UInt8.ofNat (48 + n)]
    | false => dec k (n / 10) ++ [UInt8.ofNat (48 + n % 10)]
/-- What 'decimal' is to answer at numbers below m. -/
noncomputable def spec (m : Nat) (f : FuncId) (args : List AVal) (h : Heap) : Option (AVal × Heap) := match f, args with
  | 21, [.int .i64 (.ofNat n)] => match Nat.blt n m with
    | true => some (.str (dec 6 n), h)
    | false => none
  | _, _ => none
noncomputable def okDec (n : Nat) : Bool := match callStep Tryd.prog okMask (spec n) 21 [.int .i64 (.ofNat n)] (start 7 []) with
  | some (.str s, _) => s == dec 6 n
  | _ => false
def allF (f : Nat → Bool) : Nat → Nat → Bool
  | 0, _ => true
  | k + 1, n => match f n with
    | true => allF f k (n + 1)
    | false => false
theorem allF_get (f : Nat → Bool) (k : Nat) : ∀ n, allF f k n = true → ∀ i, i < k → f (n + i) = true := by
  induction k with
  | zero => intro n _ i hi; exact absurd hi (Nat.not_lt_zero i)
  | succ k ih =>
    intro n h i hi
    rw [allF] at h
    cases h0 : f n with
    | false => rw [h0] at h; cases h
    | true =>
      rw [h0] at h
      cases i with
      | zero => exact h0
      | succ i =>
        have := ih (n + 1) h i (Nat.lt_of_succ_lt_succ hi)
        rwa [show n + 1 + i = n + (i + 1) from by rw [Nat.add_assoc, Nat.add_comm 1 i]] at this
theorem dec_eq : ∀ (k n : Nat), n < 10 ^ k → 0 < k → dec k n = Lib.decDigits n
  | 0, _, _, h => by omega
  | k + 1, n, h, _ => by
    unfold dec
    rw [Lib.decDigits]
    by_cases hn : n < 10
    · rw [dif_pos hn, show Nat.blt n 10 = true by rw [Nat.blt_eq]; exact hn]
    · rw [dif_neg hn]
      have : Nat.blt n 10 = false := by
        cases hb : Nat.blt n 10
        · rfl
        · rw [Nat.blt_eq] at hb; exact absurd hb hn
      rw [this]
      have hk : 0 < k := by
        rcases Nat.eq_zero_or_pos k with e | e
        · subst e; omega
        · exact e
      have hp : 10 ^ (k + 1) = 10 ^ k * 10 := Nat.pow_succ _ _
      simp only []
      rw [dec_eq k (n / 10) (by omega) hk]
set_option maxRecDepth 100000
theorem good : (List.range Tryd.prog.funcs.size).all (fun f => !Nat.testBit okMask f || (match Tryd.prog.funcs[f]? with | some fn => goodFunc fn | none => true)) = true := by kernel_rfl
theorem known : (call Tryd.prog okMask 60 6 [] (start 7 tabs)).map Prod.fst = some (.bool true) := by kernel_rfl
end Go.Abs
