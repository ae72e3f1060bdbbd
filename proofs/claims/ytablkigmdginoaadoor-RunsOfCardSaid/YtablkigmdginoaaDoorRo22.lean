/- The numbers in a word, the least first. -/
import Derived.Test.YtablkigmdginoaaDoorRo21
import Derived.Lib.TrailingZeros
section
namespace Go.Eng
open Go
set_option linter.unusedSectionVars false

/-- the numbers below n of which a word tells that they are there -/
def bitsL (n x : Nat) : List Nat := (List.range n).filter fun i => x.testBit i
theorem ctz_spec {x : Nat} (h0 : x ≠ 0) (h : x < 2 ^ 64) : ∃ m, x = 2 ^ Go.Lib.ctz 64 x * (2 * m + 1) ∧ Go.Lib.ctz 64 x < 64 := by
  rw [Go.Lib.ctz, if_neg h0]
  exact Go.Lib.ctzFrom_spec 64 x (Nat.pos_of_ne_zero h0) h
theorem odd_bits (k m j : Nat) : (2 ^ k * (2 * m + 1)).testBit j = (decide (k = j) || (decide (k < j) && m.testBit (j - k - 1))) := by
  rw [Nat.testBit_two_pow_mul]
  by_cases h1 : k ≤ j
  · rw [decide_eq_true h1, Bool.true_and]
    by_cases h2 : k = j
    · subst h2
      rw [Nat.sub_self, decide_eq_true rfl, Bool.true_or, Nat.testBit_zero]
      simp
    · rw [decide_eq_false h2, decide_eq_true (show k < j by omega), Bool.false_or, Bool.true_and]
      obtain ⟨d, hd⟩ : ∃ d, j - k = d + 1 := ⟨j - k - 1, by omega⟩
      rw [hd, Nat.add_sub_cancel, Nat.testBit_succ]
      congr 1
      omega
  · rw [decide_eq_false h1, decide_eq_false (show ¬ k = j by omega), decide_eq_false (show ¬ k < j by omega)]
    rfl
theorem less_bits (k m j : Nat) : (2 ^ k * (2 * m + 1) - 1).testBit j = (decide (j < k) || (decide (k < j) && m.testBit (j - k - 1))) := by
  have e : 2 ^ k * (2 * m + 1) - 1 = 2 ^ k * (2 * m) + (2 ^ k - 1) := by
    have := Nat.one_le_two_pow (n := k)
    rw [Nat.mul_add, Nat.mul_one]
    omega
  have hlt : 2 ^ k - 1 < 2 ^ k := by
    have := Nat.one_le_two_pow (n := k)
    omega
  rw [e, Nat.testBit_two_pow_mul_add _ hlt]
  by_cases h1 : j < k
  · rw [if_pos h1, decide_eq_true h1, Bool.true_or, Nat.testBit_two_pow_sub_one, decide_eq_true h1]
  · rw [if_neg h1, decide_eq_false h1, Bool.false_or]
    by_cases h2 : k < j
    · rw [decide_eq_true h2, Bool.true_and]
      obtain ⟨d, hd⟩ : ∃ d, j - k = d + 1 := ⟨j - k - 1, by omega⟩
      rw [hd, Nat.add_sub_cancel, Nat.testBit_succ]
      congr 1
      omega
    · obtain rfl : j = k := by omega
      rw [decide_eq_false (Nat.lt_irrefl j), Nat.sub_self, Nat.testBit_zero]
      simp
theorem drop_bits {x : Nat} (h0 : x ≠ 0) (h : x < 2 ^ 64) (j : Nat) : (x &&& (x - 1)).testBit j = (x.testBit j && !decide (Go.Lib.ctz 64 x = j)) := by
  obtain ⟨m, e, _⟩ := ctz_spec h0 h
  generalize Go.Lib.ctz 64 x = k at e
  rw [Nat.testBit_and, e, odd_bits, less_bits]
  by_cases h1 : k = j
  · subst h1
    simp
  · by_cases h2 : k < j
    · rw [decide_eq_false h1, decide_eq_true h2, decide_eq_false (show ¬ j < k by omega)]
      simp
    · rw [decide_eq_false h1, decide_eq_false h2]
      simp
theorem drop_lt {x : Nat} (h : x < 2 ^ 64) : x &&& (x - 1) < 2 ^ 64 := Nat.lt_of_le_of_lt Nat.and_le_left h
theorem low_bits {x : Nat} (h0 : x ≠ 0) (h : x < 2 ^ 64) (j : Nat) (hj : j < Go.Lib.ctz 64 x) : x.testBit j = false := by
  obtain ⟨m, e, _⟩ := ctz_spec h0 h
  rw [e, odd_bits, decide_eq_false (by omega), decide_eq_false (by omega)]
  rfl
theorem at_bit {x : Nat} (h0 : x ≠ 0) (h : x < 2 ^ 64) : x.testBit (Go.Lib.ctz 64 x) = true := by
  obtain ⟨m, e, _⟩ := ctz_spec h0 h
  have := odd_bits (Go.Lib.ctz 64 x) m (Go.Lib.ctz 64 x)
  rw [← e] at this
  rw [this, decide_eq_true rfl, Bool.true_or]
theorem filter_first {p : Nat → Bool} : ∀ (n k : Nat), k < n → p k = true → (∀ j, j < k → p j = false) → (List.range n).filter p = k :: (List.range n).filter fun i => p i && !decide (k = i)
  | 0, _, h, _, _ => by omega
  | n + 1, k, h, hk, hj => by
    rw [List.range_succ, List.filter_append, List.filter_append]
    by_cases hn : k = n
    · subst hn
      have h1 : (List.range k).filter p = [] := List.filter_eq_nil_iff.2 fun i hi => by
        rw [hj i (List.mem_range.1 hi)]
        simp
      have h2 : ((List.range k).filter fun i => p i && !decide (k = i)) = [] := List.filter_eq_nil_iff.2 fun i hi => by
        rw [hj i (List.mem_range.1 hi)]
        simp
      rw [h1, h2]
      simp [hk]
    · rw [filter_first n k (by omega) hk hj, List.cons_append]
      congr 2
      rw [List.filter_cons, List.filter_cons, decide_eq_false hn]
      simp
theorem bits_zero (n : Nat) : bitsL n 0 = [] := by simp [bitsL]
theorem bits_step {x : Nat} (h0 : x ≠ 0) (h : x < 2 ^ 64) : bitsL 64 x = Go.Lib.ctz 64 x :: bitsL 64 (x &&& (x - 1)) := by
  obtain ⟨_, _, hk⟩ := ctz_spec h0 h
  unfold bitsL
  rw [filter_first 64 (Go.Lib.ctz 64 x) hk (at_bit h0 h) (low_bits h0 h)]
  congr 1
  exact List.filter_congr fun i _ => (drop_bits h0 h i).symm
/-- how many there are falls -/
theorem bits_len {x : Nat} : (bitsL 64 x).length ≤ 64 := by
  have := List.length_filter_le (fun i => x.testBit i) (List.range 64)
  rw [List.length_range] at this
  exact this
/-- the numbers of a set -/
def numsB (s : Nat × Nat) : List Nat := bitsL 64 s.1 ++ (bitsL 64 s.2).map (64 + ·)
theorem nums_eq (s : Nat × Nat) : numsB s = (List.range 128).filter (hasB s) := by
  have e : List.range 128 = List.range 64 ++ (List.range 64).map (64 + ·) := by decide
  have h1 : ((List.range 64).filter fun i => s.1.testBit i) = (List.range 64).filter (hasB s) := List.filter_congr fun i hi => by
    rw [hasB, if_pos (List.mem_range.1 hi)]
  have h2 : ((List.range 64).filter fun i => s.2.testBit i).map (64 + ·) = ((List.range 64).map (64 + ·)).filter (hasB s) := by
    rw [List.filter_map]
    refine congrArg (List.map (64 + ·)) (List.filter_congr fun i _ => ?_)
    simp only [Function.comp, hasB]
    rw [if_neg (by omega), Nat.add_sub_cancel_left]
  rw [e, List.filter_append]
  unfold numsB bitsL
  rw [h1, h2]
end Go.Eng
end
