/- Sets of numbers as two words, in plain terms. -/
import Derived.Test.YtablkigmdginoaaDoorRo19
import Derived.KernelRfl
section
namespace Go.Eng
open Go
set_option linter.unusedSectionVars false

/-- one more -/
def setB (s : Nat × Nat) (i : Nat) : Nat × Nat := if i < 64 then (s.1 ||| 2 ^ i, s.2) else (s.1, s.2 ||| 2 ^ (i - 64))
/-- is one there? -/
def hasB (s : Nat × Nat) (i : Nat) : Bool := if i < 64 then s.1.testBit i else s.2.testBit (i - 64)
def madeF : List Bool → Nat → Nat × Nat → Nat × Nat
  | [], _, s => s
  | x :: l, i, s => madeF l (i + 1) (if x then setB s i else s)
def fitB (s : Nat × Nat) : Prop := s.1 < 2 ^ 64 ∧ s.2 < 2 ^ 64
theorem setB_fit {s : Nat × Nat} (h : fitB s) {i : Nat} (hi : i < 128) : fitB (setB s i) := by
  unfold setB
  split
  · exact ⟨Nat.or_lt_two_pow h.1 (Nat.pow_lt_pow_right (by omega) (by omega)), h.2⟩
  · exact ⟨h.1, Nat.or_lt_two_pow h.2 (Nat.pow_lt_pow_right (by omega) (by omega))⟩
theorem setB_has {s : Nat × Nat} {i j : Nat} (hi : i < 128) (hj : j < 128) : hasB (setB s i) j = (hasB s j || decide (i = j)) := by
  unfold hasB setB
  by_cases h1 : i < 64 <;> by_cases h2 : j < 64
  · simp only [if_pos h1, if_pos h2, Nat.testBit_or, Nat.testBit_two_pow]
  · simp only [if_pos h1, if_neg h2]
    rw [show decide (i = j) = false by rw [decide_eq_false_iff_not]; omega, Bool.or_false]
  · simp only [if_neg h1, if_pos h2]
    rw [show decide (i = j) = false by rw [decide_eq_false_iff_not]; omega, Bool.or_false]
  · simp only [if_neg h1, if_neg h2, Nat.testBit_or, Nat.testBit_two_pow]
    congr 1
    rw [decide_eq_decide]
    omega
theorem madeF_fit : ∀ (l : List Bool) (i : Nat) (s : Nat × Nat), i + l.length ≤ 128 → fitB s → fitB (madeF l i s)
  | [], _, _, _, h => h
  | x :: l, i, s, hl, h => by
    simp only [List.length_cons] at hl
    refine madeF_fit l (i + 1) _ (by omega) ?_
    split
    · exact setB_fit h (by omega)
    · exact h
theorem madeF_has : ∀ (l : List Bool) (i : Nat) (s : Nat × Nat) (j : Nat), i + l.length ≤ 128 → j < 128 → hasB (madeF l i s) j = (hasB s j || (decide (i ≤ j) && l.getD (j - i) false))
  | [], i, s, j, _, _ => by simp [madeF]
  | x :: l, i, s, j, hl, hj => by
    simp only [List.length_cons] at hl
    rw [madeF, madeF_has l (i + 1) _ j (by omega) hj]
    have hs : hasB (if x = true then setB s i else s) j = (hasB s j || (x && decide (i = j))) := by
      cases x with
      | true => rw [if_pos rfl, setB_has (by omega) hj, Bool.true_and]
      | false => rw [if_neg (by simp), Bool.false_and, Bool.or_false]
    rw [hs, Bool.or_assoc]
    congr 1
    by_cases h1 : i = j
    · subst h1
      rw [Nat.sub_self, List.getD_cons_zero]
      rw [show decide (i + 1 ≤ i) = false by rw [decide_eq_false_iff_not]; omega]
      simp
    · rw [show decide (i = j) = false from decide_eq_false h1, Bool.and_false, Bool.false_or]
      by_cases h2 : i + 1 ≤ j
      · rw [decide_eq_true h2, decide_eq_true (show i ≤ j by omega), show j - i = (j - (i + 1)) + 1 by omega, List.getD_cons_succ]
      · rw [decide_eq_false h2, decide_eq_false (show ¬ i ≤ j by omega), Bool.false_and, Bool.false_and]
theorem ext_has {s t : Nat × Nat} (hs : fitB s) (ht : fitB t) (h : ∀ j, j < 128 → hasB s j = hasB t j) : s = t := by
  have h1 : s.1 = t.1 := Nat.eq_of_testBit_eq fun j => by
    by_cases hj : j < 64
    · have := h j (by omega)
      simpa only [hasB, if_pos hj] using this
    · rw [Nat.testBit_lt_two_pow (Nat.lt_of_lt_of_le hs.1 (Nat.pow_le_pow_right (by omega) (by omega))), Nat.testBit_lt_two_pow (Nat.lt_of_lt_of_le ht.1 (Nat.pow_le_pow_right (by omega) (by omega)))]
  have h2 : s.2 = t.2 := Nat.eq_of_testBit_eq fun j => by
    by_cases hj : j < 64
    · have := h (j + 64) (by omega)
      simp only [hasB, if_neg (show ¬ j + 64 < 64 by omega), Nat.add_sub_cancel] at this
      exact this
    · rw [Nat.testBit_lt_two_pow (Nat.lt_of_lt_of_le hs.2 (Nat.pow_le_pow_right (by omega) (by omega))), Nat.testBit_lt_two_pow (Nat.lt_of_lt_of_le ht.2 (Nat.pow_le_pow_right (by omega) (by omega)))]
  exact Prod.ext h1 h2
/-- of which numbers a set tells that they are there -/
def toldB (s : Nat × Nat) (n : Nat) : List Bool := (List.range n).map (hasB s)
theorem made_told {s : Nat × Nat} (hs : fitB s) {i : Nat} (hi : i < 128) : madeF ((toldB s 128).set i true) 0 (0, 0) = setB s i := by
  have hl : ((toldB s 128).set i true).length = 128 := by simp [toldB]
  refine ext_has (madeF_fit _ 0 _ (by omega) ⟨by decide, by decide⟩) (setB_fit hs hi) fun j hj => ?_
  rw [madeF_has _ 0 _ j (by omega) hj, setB_has hi hj]
  have h0 : hasB (0, 0) j = false := by
    unfold hasB
    split <;> simp
  rw [h0, Bool.false_or, decide_eq_true (Nat.zero_le j), Bool.true_and, Nat.sub_zero, List.getD_eq_getElem?_getD, List.getElem?_set]
  by_cases h : i = j
  · subst h
    simp [toldB, hi]
  · rw [if_neg h]
    simp [toldB, List.getElem?_map, hj, h]
end Go.Eng
end
