/- Steps as lines: both Line are lineS. -/
import Derived.Test.YtkbbgehnooncoaaGreatDoorWp34
section
namespace Go.Eng
open Go
set_option maxRecDepth 100000
set_option linter.unusedSimpArgs false
set_option linter.unusedVariables false

/-! ### along a road that is told -/
def follow {α : Type} : List Nat → Tr α → Tr α
  | 0 :: r, .frc s k => follow r (k s)
  | 1 :: r, .get (some x) k => follow r (k x)
  | 2 :: r, .ask _ t _ => follow r t
  | 3 :: r, .ask _ _ e => follow r e
  | _, t => t
def holds {α : Type} : List Nat → Tr α → Bool
  | 0 :: r, .frc s k => holds r (k s)
  | 1 :: r, .get (some x) k => holds r (k x)
  | 2 :: r, .ask b t _ => b && holds r t
  | 3 :: r, .ask b _ e => !b && holds r e
  | _, _ => true
theorem follow_run {α : Type} : ∀ (p : List Nat) (t : Tr α), holds p t = true → t.run = (follow p t).run
  | [], t, _ => by cases t <;> rfl
  | 0 :: r, t, h => by
    cases t with
    | frc s k => exact follow_run r (k s) h
    | _ => rfl
  | 1 :: r, t, h => by
    cases t with
    | get o k =>
      cases o with
      | some x => exact follow_run r (k x) h
      | none => rfl
    | _ => rfl
  | 2 :: r, t, h => by
    cases t with
    | ask b t e =>
      simp only [holds, Bool.and_eq_true] at h
      obtain ⟨h1, h2⟩ := h
      subst h1
      exact follow_run r t h2
    | _ => rfl
  | 3 :: r, t, h => by
    cases t with
    | ask b t e =>
      simp only [holds, Bool.and_eq_true, Bool.not_eq_true'] at h
      obtain ⟨h1, h2⟩ := h
      subst h1
      exact follow_run r e h2
    | _ => rfl
  | (n + 4) :: r, t, _ => by cases t <;> rfl
def roadA : List Nat := [2, 0, 2, 0, 2, 0, 2, 0, 1, 2, 0, 1, 1, 2, 0, 2, 0, 1, 2, 1, 2, 1, 2, 1, 2, 2, 0, 2, 0, 1, 2, 1, 2, 1, 2, 1, 2, 2, 0, 2, 0, 1, 2, 1, 2, 1, 2, 1, 2, 1, 2, 1, 2, 2, 0, 2, 0, 1, 2, 1, 2, 1, 2, 1, 2, 1, 2, 1, 2, 2, 0, 2, 0, 1, 2, 1, 2, 1, 2, 1, 2, 1, 2, 1, 2, 2, 0, 1, 2, 2, 0, 2, 0]
def roadB : List Nat := [2, 0, 2, 0, 2, 0, 2, 0, 1, 2, 0, 1, 1, 2, 0, 2, 0, 1, 3, 2, 0, 1, 3, 1, 2, 0, 1, 3, 1, 1, 2, 0, 1, 3, 2, 0, 2, 0, 1, 2, 1, 2, 1, 2, 1, 2, 2, 0, 2, 0, 1, 2, 1, 2, 1, 2, 1, 2, 1, 2, 1, 2, 2, 0, 2, 0, 1, 2, 1, 2, 1, 2, 1, 2, 1, 2, 1, 2, 2, 0, 2, 0, 1, 2, 1, 2, 1, 2, 1, 2, 1, 2, 1, 2, 2, 0, 1, 2, 2, 0, 2, 0]
theorem holdA (k nd a n : Int) (d : ByteArray) (s : Int) (lk : LK) (z : Nat) (l : Row) : holds roadA (g8t k nd a n d s lk z l) = (decide (k < 1) && true) := by kernel_rfl
theorem folA (k nd a n : Int) (d : ByteArray) (s : Int) (lk : LK) (z : Nat) (l : Row) : follow roadA (g8t k nd a n d s lk z l) = .ret (.tup [dS (ba []), jn 6], []) := by kernel_rfl
theorem holdB (k nd a n : Int) (d : ByteArray) (s : Int) (lk : LK) (z : Nat) (l : Row) : holds roadB (g8t k nd a n d s lk z l) = (!decide (k < 1) && (decide (k > 15) && true)) := by kernel_rfl
theorem folB (k nd a n : Int) (d : ByteArray) (s : Int) (lk : LK) (z : Nat) (l : Row) : follow roadB (g8t k nd a n d s lk z l) = .ret (.tup [dS (ba []), jn 6], []) := by kernel_rfl
theorem g8_lo {k nd a n : Int} {d : ByteArray} {s : Int} {lk : LK} {z : Nat} {l : Row} (h : k < 1) : (g8t k nd a n d s lk z l).run = eW 6 := by
  rw [follow_run roadA _ (by rw [holdA, decide_eq_true h]; rfl), folA]
  rfl
theorem g8_hi {k nd a n : Int} {d : ByteArray} {s : Int} {lk : LK} {z : Nat} {l : Row} (h : ¬ k < 1) (h2 : k > 15) : (g8t k nd a n d s lk z l).run = eW 6 := by
  rw [follow_run roadB _ (by rw [holdB, decide_eq_false h, decide_eq_true h2]; rfl), folB]
  rfl
theorem ref_run {x : Stw} {lk : LK} {z : Nat} (hf : fitW x) (hl : x.keep.length ≤ 10000) (hz : x.keep ≠ [] → z = 1) : R208 [stv x lk z] [] = some (oLg [] (lnS x)) := by
  obtain ⟨k, nd, a, n, d, s, l⟩ := x
  obtain ⟨f0, f1, f2, f3, f4⟩ := hf
  simp only at hl hz f0 f1 f2 f3 f4
  by_cases h1 : k < 1
  · exact (g8_lo (lk := lk) (z := z) h1).trans (ln6 (not_ok fun q => by have := q.1; simp only at this; omega))
  by_cases h2 : k > 15
  · exact (g8_hi (lk := lk) (z := z) h1 h2).trans (ln6 (not_ok fun q => by have := q.2.1; simp only at this; omega))
  have hk : k = 1 ∨ k = 2 ∨ k = 3 ∨ k = 4 ∨ k = 5 ∨ k = 6 ∨ k = 7 ∨ k = 8 ∨ k = 9 ∨ k = 10 ∨ k = 11 ∨ k = 12 ∨ k = 13 ∨ k = 14 ∨ k = 15 := by omega
  rcases hk with rfl | rfl | rfl | rfl | rfl | rfl | rfl | rfl | rfl | rfl | rfl | rfl | rfl | rfl | rfl
  · exact ref_1 f1 f2 f3 f4 hl hz
  · exact ref_2 f1 f2 f3 f4 hl hz
  · exact ref_3 f1 f2 f3 f4 hl hz
  · exact ref_4 f1 f2 f3 f4 hl hz
  · exact ref_5 f1 f2 f3 f4 hl hz
  · exact ref_6 f1 f2 f3 f4 hl hz
  · exact ref_7 f1 f2 f3 f4 hl hz
  · exact ref_8 f1 f2 f3 f4 hl hz
  · exact ref_9 f1 f2 f3 f4 hl hz
  · exact ref_10 f1 f2 f3 f4 hl hz
  · exact ref_11 f1 f2 f3 f4 hl hz
  · exact ref_12 f1 f2 f3 f4 hl hz
  · exact ref_13 f1 f2 f3 f4 hl hz
  · exact ref_14 f1 f2 f3 f4 hl hz
  · exact ref_15 f1 f2 f3 f4 hl hz
theorem p208 {x : Stw} {lk : LK} {z : Nat} (hf : fitW x) (hl : x.keep.length ≤ 10000) (hz : x.keep ≠ [] → z = 1) (G : List Ent) : P208 [stv x lk z] G = some (oLg G (lnS x)) := by
  unfold P208
  exact pureS_eq rfl (ref_run hf hl hz) rfl
/-! ### the program's -/
theorem g7t_eq (k nd a n : Int) (d : ByteArray) (s : Int) (lk : LK) (z : Nat) (l : Row) : (g7t k nd a n d s lk z l).ev =
 --folded
 (rAsk (decide (k < (1 : Int))) (eW 6)
 (rAsk (decide (k > (15 : Int))) (eW 6)
 (rAsk (decide (s < (0 : Int))) (eW 6)
 (rGet (fnS (oTd []) (P217 [(stA k nd a n d s lk z l)] [])) fun x1 =>
 (rGet (fnS (oB []) (P218 [(stA k nd a n d s lk z l), (stA x1.2.1 x1.2.2.1 x1.2.2.2.1 x1.2.2.2.2.1 x1.2.2.2.2.2.1 x1.2.2.2.2.2.2.1 x1.2.2.2.2.2.2.2.1 x1.2.2.2.2.2.2.2.2.1 x1.2.2.2.2.2.2.2.2.2)] [])) fun x2 =>
 (rAsk (!x2) (eW 6)
 (rAsk (k == (2 : Int))
 (rGet (fnS (oB []) (P219 [(dS d)] [])) fun x3 =>
 (rAsk (!x3) (eW 6)
 (rAsk (k == (12 : Int))
 (rAsk (decide (s > (0 : Int))) (eW 6)
 (rGet (fnS (oRw []) (P220 [] [])) fun x4 =>
 (rAsk (true && ((decide ((0 : Int) ≤ k)) && (decide (k < (((List.length x4) : Nat) : Int)))))
 (rGet x4[(Int.toNat k)]? fun x5 =>
 (rGet (List.head? (List.drop 0 x5)) fun x6 =>
 (rAsk ((LK.isNil x1.1.1) || (decide (x1.1.2.1 = 1)))
 (rAsk (true && (fitS (1 + (List.length x1.1.2.2))))
 (rAsk (List.isEmpty x1.1.2.2)
 (rAsk (decide (s > (0 : Int)))
 (rGet (fnS (oS []) (S21 [(jn s)] [])) fun x7 =>
 (rGet (fnS (oS []) (S12 [(AV.dat (D.list lk z l))] [])) fun x8 =>
 (rGet (fnS (oS []) (S16n [(AV.dat (D.list LK.any 1 [[(D.str (ba [115, 116, 111, 112]))], [(D.str x7)], [(D.str x8)], [x6]])), (dS (ba [32]))] [])) fun x9 =>
 (rAsk (decide ((((ByteArray.size x9) : Nat) : Int) > (300 : Int))) (eW 8) (vW x9)))))
 (rGet (fnS (oS []) (S16n [(AV.dat (D.list LK.full 1 [[x6]])), (dS (ba [32]))] [])) fun x10 =>
 (rAsk (decide ((((ByteArray.size x10) : Nat) : Int) > (300 : Int))) (eW 8) (vW x10))))
 (rAsk (decide (s > (0 : Int)))
 (rGet (fnS (oS []) (S21 [(jn s)] [])) fun x11 =>
 (rGet (fnS (oS []) (S12 [(AV.dat (D.list lk z l))] [])) fun x12 =>
 (rAsk (true && (fitS (3 + (List.length (List.take (1 + (List.length x1.1.2.2)) ([x6] :: x1.1.2.2))))))
 (rAsk (List.isEmpty (List.take (1 + (List.length x1.1.2.2)) ([x6] :: x1.1.2.2)))
 (rGet (fnS (oS []) (S16n [(AV.dat (D.list LK.full 1 [[(D.str (ba [115, 116, 111, 112]))], [(D.str x11)], [(D.str x12)]])), (dS (ba [32]))] [])) fun x13 =>
 (rAsk (decide ((((ByteArray.size x13) : Nat) : Int) > (300 : Int))) (eW 8) (vW x13)))
 (rGet (fnS (oS []) (S16n [(AV.dat (D.list LK.any 1 (List.take (3 + (List.length (List.take (1 + (List.length x1.1.2.2)) ([x6] :: x1.1.2.2)))) ([(D.str (ba [115, 116, 111, 112]))] :: [(D.str x11)] :: [(D.str x12)] :: (List.take (1 + (List.length x1.1.2.2)) ([x6] :: x1.1.2.2)))))), (dS (ba [32]))] [])) fun x14 =>
 (rAsk (decide ((((ByteArray.size x14) : Nat) : Int) > (300 : Int))) (eW 8) (vW x14)))) none)))
 (rGet (fnS (oS []) (S16n [(AV.dat (D.list LK.any 1 (List.take (1 + (List.length x1.1.2.2)) ([x6] :: x1.1.2.2)))), (dS (ba [32]))] [])) fun x15 =>
 (rAsk (decide ((((ByteArray.size x15) : Nat) : Int) > (300 : Int))) (eW 8) (vW x15))))) none) none))) none)))
 (rGet (fnS (oRw []) (P220 [] [])) fun x16 =>
 (rAsk (true && ((decide ((0 : Int) ≤ k)) && (decide (k < (((List.length x16) : Nat) : Int)))))
 (rGet x16[(Int.toNat k)]? fun x17 =>
 (rGet (List.head? (List.drop 0 x17)) fun x18 =>
 (rAsk ((LK.isNil x1.1.1) || (decide (x1.1.2.1 = 1)))
 (rAsk (true && (fitS (1 + (List.length x1.1.2.2))))
 (rAsk (List.isEmpty x1.1.2.2)
 (rAsk (decide (s > (0 : Int)))
 (rGet (fnS (oS []) (S21 [(jn s)] [])) fun x19 =>
 (rGet (fnS (oS []) (S12 [(AV.dat (D.list lk z l))] [])) fun x20 =>
 (rGet (fnS (oS []) (S16n [(AV.dat (D.list LK.any 1 [[(D.str (ba [115, 116, 111, 112]))], [(D.str x19)], [(D.str x20)], [x18]])), (dS (ba [32]))] [])) fun x21 =>
 (rAsk (decide ((((ByteArray.size x21) : Nat) : Int) > (300 : Int))) (eW 8) (vW x21)))))
 (rGet (fnS (oS []) (S16n [(AV.dat (D.list LK.full 1 [[x18]])), (dS (ba [32]))] [])) fun x22 =>
 (rAsk (decide ((((ByteArray.size x22) : Nat) : Int) > (300 : Int))) (eW 8) (vW x22))))
 (rAsk (decide (s > (0 : Int)))
 (rGet (fnS (oS []) (S21 [(jn s)] [])) fun x23 =>
 (rGet (fnS (oS []) (S12 [(AV.dat (D.list lk z l))] [])) fun x24 =>
 (rAsk (true && (fitS (3 + (List.length (List.take (1 + (List.length x1.1.2.2)) ([x18] :: x1.1.2.2))))))
 (rAsk (List.isEmpty (List.take (1 + (List.length x1.1.2.2)) ([x18] :: x1.1.2.2)))
 (rGet (fnS (oS []) (S16n [(AV.dat (D.list LK.full 1 [[(D.str (ba [115, 116, 111, 112]))], [(D.str x23)], [(D.str x24)]])), (dS (ba [32]))] [])) fun x25 =>
 (rAsk (decide ((((ByteArray.size x25) : Nat) : Int) > (300 : Int))) (eW 8) (vW x25)))
 (rGet (fnS (oS []) (S16n [(AV.dat (D.list LK.any 1 (List.take (3 + (List.length (List.take (1 + (List.length x1.1.2.2)) ([x18] :: x1.1.2.2)))) ([(D.str (ba [115, 116, 111, 112]))] :: [(D.str x23)] :: [(D.str x24)] :: (List.take (1 + (List.length x1.1.2.2)) ([x18] :: x1.1.2.2)))))), (dS (ba [32]))] [])) fun x26 =>
 (rAsk (decide ((((ByteArray.size x26) : Nat) : Int) > (300 : Int))) (eW 8) (vW x26)))) none)))
 (rGet (fnS (oS []) (S16n [(AV.dat (D.list LK.any 1 (List.take (1 + (List.length x1.1.2.2)) ([x18] :: x1.1.2.2)))), (dS (ba [32]))] [])) fun x27 =>
 (rAsk (decide ((((ByteArray.size x27) : Nat) : Int) > (300 : Int))) (eW 8) (vW x27))))) none) none))) none)))))
 (rAsk (k == (12 : Int))
 (rAsk (decide (s > (0 : Int))) (eW 6)
 (rGet (fnS (oRw []) (P220 [] [])) fun x28 =>
 (rAsk (true && ((decide ((0 : Int) ≤ k)) && (decide (k < (((List.length x28) : Nat) : Int)))))
 (rGet x28[(Int.toNat k)]? fun x29 =>
 (rGet (List.head? (List.drop 0 x29)) fun x30 =>
 (rAsk ((LK.isNil x1.1.1) || (decide (x1.1.2.1 = 1)))
 (rAsk (true && (fitS (1 + (List.length x1.1.2.2))))
 (rAsk (List.isEmpty x1.1.2.2)
 (rAsk (decide (s > (0 : Int)))
 (rGet (fnS (oS []) (S21 [(jn s)] [])) fun x31 =>
 (rGet (fnS (oS []) (S12 [(AV.dat (D.list lk z l))] [])) fun x32 =>
 (rGet (fnS (oS []) (S16n [(AV.dat (D.list LK.any 1 [[(D.str (ba [115, 116, 111, 112]))], [(D.str x31)], [(D.str x32)], [x30]])), (dS (ba [32]))] [])) fun x33 =>
 (rAsk (decide ((((ByteArray.size x33) : Nat) : Int) > (300 : Int))) (eW 8) (vW x33)))))
 (rGet (fnS (oS []) (S16n [(AV.dat (D.list LK.full 1 [[x30]])), (dS (ba [32]))] [])) fun x34 =>
 (rAsk (decide ((((ByteArray.size x34) : Nat) : Int) > (300 : Int))) (eW 8) (vW x34))))
 (rAsk (decide (s > (0 : Int)))
 (rGet (fnS (oS []) (S21 [(jn s)] [])) fun x35 =>
 (rGet (fnS (oS []) (S12 [(AV.dat (D.list lk z l))] [])) fun x36 =>
 (rAsk (true && (fitS (3 + (List.length (List.take (1 + (List.length x1.1.2.2)) ([x30] :: x1.1.2.2))))))
 (rAsk (List.isEmpty (List.take (1 + (List.length x1.1.2.2)) ([x30] :: x1.1.2.2)))
 (rGet (fnS (oS []) (S16n [(AV.dat (D.list LK.full 1 [[(D.str (ba [115, 116, 111, 112]))], [(D.str x35)], [(D.str x36)]])), (dS (ba [32]))] [])) fun x37 =>
 (rAsk (decide ((((ByteArray.size x37) : Nat) : Int) > (300 : Int))) (eW 8) (vW x37)))
 (rGet (fnS (oS []) (S16n [(AV.dat (D.list LK.any 1 (List.take (3 + (List.length (List.take (1 + (List.length x1.1.2.2)) ([x30] :: x1.1.2.2)))) ([(D.str (ba [115, 116, 111, 112]))] :: [(D.str x35)] :: [(D.str x36)] :: (List.take (1 + (List.length x1.1.2.2)) ([x30] :: x1.1.2.2)))))), (dS (ba [32]))] [])) fun x38 =>
 (rAsk (decide ((((ByteArray.size x38) : Nat) : Int) > (300 : Int))) (eW 8) (vW x38)))) none)))
 (rGet (fnS (oS []) (S16n [(AV.dat (D.list LK.any 1 (List.take (1 + (List.length x1.1.2.2)) ([x30] :: x1.1.2.2)))), (dS (ba [32]))] [])) fun x39 =>
 (rAsk (decide ((((ByteArray.size x39) : Nat) : Int) > (300 : Int))) (eW 8) (vW x39))))) none) none))) none)))
 (rGet (fnS (oRw []) (P220 [] [])) fun x40 =>
 (rAsk (true && ((decide ((0 : Int) ≤ k)) && (decide (k < (((List.length x40) : Nat) : Int)))))
 (rGet x40[(Int.toNat k)]? fun x41 =>
 (rGet (List.head? (List.drop 0 x41)) fun x42 =>
 (rAsk ((LK.isNil x1.1.1) || (decide (x1.1.2.1 = 1)))
 (rAsk (true && (fitS (1 + (List.length x1.1.2.2))))
 (rAsk (List.isEmpty x1.1.2.2)
 (rAsk (decide (s > (0 : Int)))
 (rGet (fnS (oS []) (S21 [(jn s)] [])) fun x43 =>
 (rGet (fnS (oS []) (S12 [(AV.dat (D.list lk z l))] [])) fun x44 =>
 (rGet (fnS (oS []) (S16n [(AV.dat (D.list LK.any 1 [[(D.str (ba [115, 116, 111, 112]))], [(D.str x43)], [(D.str x44)], [x42]])), (dS (ba [32]))] [])) fun x45 =>
 (rAsk (decide ((((ByteArray.size x45) : Nat) : Int) > (300 : Int))) (eW 8) (vW x45)))))
 (rGet (fnS (oS []) (S16n [(AV.dat (D.list LK.full 1 [[x42]])), (dS (ba [32]))] [])) fun x46 =>
 (rAsk (decide ((((ByteArray.size x46) : Nat) : Int) > (300 : Int))) (eW 8) (vW x46))))
 (rAsk (decide (s > (0 : Int)))
 (rGet (fnS (oS []) (S21 [(jn s)] [])) fun x47 =>
 (rGet (fnS (oS []) (S12 [(AV.dat (D.list lk z l))] [])) fun x48 =>
 (rAsk (true && (fitS (3 + (List.length (List.take (1 + (List.length x1.1.2.2)) ([x42] :: x1.1.2.2))))))
 (rAsk (List.isEmpty (List.take (1 + (List.length x1.1.2.2)) ([x42] :: x1.1.2.2)))
 (rGet (fnS (oS []) (S16n [(AV.dat (D.list LK.full 1 [[(D.str (ba [115, 116, 111, 112]))], [(D.str x47)], [(D.str x48)]])), (dS (ba [32]))] [])) fun x49 =>
 (rAsk (decide ((((ByteArray.size x49) : Nat) : Int) > (300 : Int))) (eW 8) (vW x49)))
 (rGet (fnS (oS []) (S16n [(AV.dat (D.list LK.any 1 (List.take (3 + (List.length (List.take (1 + (List.length x1.1.2.2)) ([x42] :: x1.1.2.2)))) ([(D.str (ba [115, 116, 111, 112]))] :: [(D.str x47)] :: [(D.str x48)] :: (List.take (1 + (List.length x1.1.2.2)) ([x42] :: x1.1.2.2)))))), (dS (ba [32]))] [])) fun x50 =>
 (rAsk (decide ((((ByteArray.size x50) : Nat) : Int) > (300 : Int))) (eW 8) (vW x50)))) none)))
 (rGet (fnS (oS []) (S16n [(AV.dat (D.list LK.any 1 (List.take (1 + (List.length x1.1.2.2)) ([x42] :: x1.1.2.2)))), (dS (ba [32]))] [])) fun x51 =>
 (rAsk (decide ((((ByteArray.size x51) : Nat) : Int) > (300 : Int))) (eW 8) (vW x51))))) none) none))) none))))))))))
  := by kernel_rfl
theorem g19r_eq (s : ByteArray) : (g19r s).ev =
 --folded
 (some ((AV.dat (D.bool ((((ByteArray.size s) : Nat) : Int) == (64 : Int)))), []))
  := by kernel_rfl
theorem p219 (d : List UInt8) (G : List Ent) : P219 [.dat (.str (ba d))] G = some (oB G (decide (d.length = 64))) := by
  have e := g19r_eq (ba d)
  rw [Tr.ev_run, ba_sz] at e
  unfold P219
  refine pureS_eq (G0 := []) rfl (e.trans ?_) rfl
  have : ((((d.length : Nat) : Int)) == 64) = decide (d.length = 64) := by
    rw [Bool.eq_iff_iff, beq_iff_eq, decide_eq_true_eq]
    omega
  rw [this]
theorem oTd_inj {G : List Ent} : ∀ x y, oTd G x = oTd G y → x = y := by
  rintro ⟨⟨u, v, w⟩, a, b, c, d, e, f, g, h, i⟩ ⟨⟨u', v', w'⟩, a', b', c', d', e', f', g', h', i'⟩ q
  simp [oTd, stT, stC, jn] at q
  obtain ⟨⟨rfl, rfl, rfl⟩, rfl, rfl, rfl, rfl, rfl, rfl, rfl, rfl, rfl⟩ := q
  rfl
theorem rowStrs_sRow2 : ∀ W : List (List UInt8), rowStrs (sRow W) = some (W.map ba)
  | [] => rfl
  | w :: W => by
    have ih := rowStrs_sRow2 W
    unfold sRow at ih ⊢
    rw [List.map_cons, rowStrs, ih]
    rfl
theorem s16w {kk : LK} (hk : kk ≠ .nil) {w : List UInt8} {ws : List (List UInt8)} (h : (w :: ws).length ≤ 2000) (hl : (J (w :: ws)).length ≤ 140737488355328) (G : List Ent) :
    S16n [.dat (.list kk 1 (sRow (w :: ws))), .dat (.str (ba [32]))] G = some (oS G (ba (J (w :: ws)))) := by
  have e1 : ((w :: ws).map ba).map (·.data.toList) = w :: ws := by
    rw [List.map_map]
    exact (List.map_congr_left fun x _ => rfl).trans (List.map_id _)
  have hj : sJoin [.dat (.list kk 1 (sRow (w :: ws))), .dat (.str (ba [32]))] G = some (oS G (ba (J (w :: ws)))) := by
    simp only [sJoin]
    rw [rowStrs_sRow2]
    simp only [List.map_cons] at e1 ⊢
    rw [if_pos]
    · simp only [List.map_cons, e1]
      rfl
    · refine ⟨hk, by simp only [List.length_cons, List.length_map] at h ⊢; omega, ?_⟩
      simp only [List.map_cons, e1]
      exact hl
  simp only [S16n, sJoinN]
  rw [hj]
theorem kind_at {k : Int} (h1 : 1 ≤ k) (h2 : k ≤ 15) : (sRow kindsW)[Int.toNat k]? = some [.str (ba (kindW k))] := by
  have hl : kindsW.length = 16 := rfl
  rw [sRow, List.getElem?_map, List.getElem?_eq_getElem (show Int.toNat k < kindsW.length by omega)]
  show some [D.str (ba _)] = _
  congr 3
  unfold kindW
  rw [List.getD_eq_getElem?_getD, List.getElem?_eq_getElem (show Int.toNat k < kindsW.length by omega)]
  rfl
theorem args_form (x : Stw) : argsW x = [] ∨ (∃ w, argsW x = [w]) ∨ ∃ w v, argsW x = [w, v] := by
  unfold argsW
  repeat (first | (split; first | exact .inr (.inl ⟨_, rfl⟩) | exact .inr (.inr ⟨_, _, rfl⟩)) | exact .inl rfl)
theorem fin7 {x : Stw} : rAsk (decide ((((ba (J (lineWd x))).size : Nat) : Int) > 300)) (eW 8) (vW (ba (J (lineWd x)))) = (if 300 < (J (lineWd x)).length then eW 8 else vW (ba (J (lineWd x)))) := by
  rw [ba_sz]
  by_cases h3 : 300 < (J (lineWd x)).length
  · rw [if_pos h3]
    exact aT (by rw [decide_eq_true_eq]; omega) rfl
  · rw [if_neg h3]
    exact aF (by rw [decide_eq_false_iff_not]; omega) rfl
theorem kindW_len {k : Int} (h1 : 1 ≤ k) (h2 : k ≤ 15) : (kindW k).length ≤ 10 := by
  have ha : (List.range 16).all (fun j => decide ((kindW (j : Nat)).length ≤ 10)) = true := by decide
  obtain ⟨j, rfl⟩ : ∃ j : Nat, k = (j : Int) := ⟨k.toNat, by omega⟩
  simpa using List.all_eq_true.1 ha j (List.mem_range.2 (by omega))
attribute [local irreducible] fnS loS P217 P218 P219 P220 S21 S12 S16n
/-- the words joined -/
theorem tail7 {x : Stw} {lk : LK} {z : Nat} {T : TK3} (hT : T = tdL x) (hf : fitW x) (h1 : 1 ≤ x.kind) (h2 : x.kind ≤ 15) (hl : x.keep.length ≤ 10000) :
    (fun (k s : Int) (l : Row) =>
 (rGet (fnS (oRw []) (P220 [] [])) fun x40 =>
 (rAsk (true && ((decide ((0 : Int) ≤ k)) && (decide (k < (((List.length x40) : Nat) : Int)))))
 (rGet x40[(Int.toNat k)]? fun x41 =>
 (rGet (List.head? (List.drop 0 x41)) fun x42 =>
 (rAsk ((LK.isNil T.1) || (decide (T.2.1 = 1)))
 (rAsk (true && (fitS (1 + (List.length T.2.2))))
 (rAsk (List.isEmpty T.2.2)
 (rAsk (decide (s > (0 : Int)))
 (rGet (fnS (oS []) (S21 [(jn s)] [])) fun x43 =>
 (rGet (fnS (oS []) (S12 [(AV.dat (D.list lk z l))] [])) fun x44 =>
 (rGet (fnS (oS []) (S16n [(AV.dat (D.list LK.any 1 [[(D.str (ba [115, 116, 111, 112]))], [(D.str x43)], [(D.str x44)], [x42]])), (dS (ba [32]))] [])) fun x45 =>
 (rAsk (decide ((((ByteArray.size x45) : Nat) : Int) > (300 : Int))) (eW 8) (vW x45)))))
 (rGet (fnS (oS []) (S16n [(AV.dat (D.list LK.full 1 [[x42]])), (dS (ba [32]))] [])) fun x46 =>
 (rAsk (decide ((((ByteArray.size x46) : Nat) : Int) > (300 : Int))) (eW 8) (vW x46))))
 (rAsk (decide (s > (0 : Int)))
 (rGet (fnS (oS []) (S21 [(jn s)] [])) fun x47 =>
 (rGet (fnS (oS []) (S12 [(AV.dat (D.list lk z l))] [])) fun x48 =>
 (rAsk (true && (fitS (3 + (List.length (List.take (1 + (List.length T.2.2)) ([x42] :: T.2.2))))))
 (rAsk (List.isEmpty (List.take (1 + (List.length T.2.2)) ([x42] :: T.2.2)))
 (rGet (fnS (oS []) (S16n [(AV.dat (D.list LK.full 1 [[(D.str (ba [115, 116, 111, 112]))], [(D.str x47)], [(D.str x48)]])), (dS (ba [32]))] [])) fun x49 =>
 (rAsk (decide ((((ByteArray.size x49) : Nat) : Int) > (300 : Int))) (eW 8) (vW x49)))
 (rGet (fnS (oS []) (S16n [(AV.dat (D.list LK.any 1 (List.take (3 + (List.length (List.take (1 + (List.length T.2.2)) ([x42] :: T.2.2)))) ([(D.str (ba [115, 116, 111, 112]))] :: [(D.str x47)] :: [(D.str x48)] :: (List.take (1 + (List.length T.2.2)) ([x42] :: T.2.2)))))), (dS (ba [32]))] [])) fun x50 =>
 (rAsk (decide ((((ByteArray.size x50) : Nat) : Int) > (300 : Int))) (eW 8) (vW x50)))) none)))
 (rGet (fnS (oS []) (S16n [(AV.dat (D.list LK.any 1 (List.take (1 + (List.length T.2.2)) ([x42] :: T.2.2)))), (dS (ba [32]))] [])) fun x51 =>
 (rAsk (decide ((((ByteArray.size x51) : Nat) : Int) > (300 : Int))) (eW 8) (vW x51))))) none) none))) none))
    ) x.kind x.stop (encB x.keep) = (if 300 < (J (lineWd x)).length then eW 8 else vW (ba (J (lineWd x)))) := by
  subst hT
  show _ = _
  have e20 := fnS_eq (out := oRw []) oRw_inj (p220 [])
  have e21 := fnS_eq (out := oS []) oS_inj (s21 hf.2.2.2.2 [])
  have e12 := fnS_eq (out := oS []) oS_inj (s12 (k := lk) (z := z) (l := x.keep) (by omega) [])
  have hkl := kindW_len h1 h2
  have hS := itoa_le hf.2.2.2.2
  have hA := itoa_le hf.2.2.1
  have hN := itoa_le hf.2.1
  have hM := itoa_le hf.2.2.2.1
  have hW := short_le x.data
  have hL := keepW_len x.keep
  have ha : ∀ w ∈ argsW x, w.length ≤ 10001 := by
    unfold argsW
    split
    · simp only [List.mem_singleton]; rintro w rfl; omega
    split
    · simp only [List.mem_cons, List.not_mem_nil, or_false]; rintro w (rfl | rfl) <;> omega
    split
    · simp only [List.mem_singleton]; rintro w rfl; omega
    split
    · simp only [List.mem_singleton]; rintro w rfl; omega
    split
    · simp only [List.mem_cons, List.not_mem_nil, or_false]; rintro w (rfl | rfl) <;> omega
    split
    · simp only [List.mem_cons, List.not_mem_nil, or_false]; rintro w (rfl | rfl) <;> omega
    · intro w hw; cases hw
  have hJ : (J (lineWd x)).length ≤ 140737488355328 := by
    rcases args_form x with e | ⟨w, e⟩ | ⟨w, v, e⟩
    all_goals
      rw [e] at ha
      unfold lineWd stopW
      rw [e]
    · split <;> simp [J_cons, J_one, wStop] <;> omega
    · have := ha w (by simp)
      split <;> simp [J_cons, J_one, wStop] <;> omega
    · have := ha w (by simp)
      have := ha v (by simp)
      split <;> simp [J_cons, J_one, wStop] <;> omega
  have b1 : (true && ((decide ((0 : Int) ≤ x.kind)) && (decide (x.kind < (((sRow kindsW).length : Nat) : Int))))) = true := by
    rw [sRow_length]
    have : kindsW.length = 16 := rfl
    rw [this]
    simp only [Bool.true_and, Bool.and_eq_true, decide_eq_true_eq]; omega
  refine gStep e20 (aT b1 (gStep (kind_at h1 h2) (gStep (x := .str (ba (kindW x.kind))) rfl ?_)))
  by_cases hs : 0 < x.stop
  · have hln : ∀ r, argsW x = r → lineWd x = wStop :: Go.Lib.itoa x.stop :: keepW x.keep :: kindW x.kind :: r := by
      rintro r rfl
      unfold lineWd stopW
      rw [if_pos hs]
      rfl
    rcases args_form x with e | ⟨w, e⟩ | ⟨w, v, e⟩
    · have hT : tdL x = (.nil, 0, []) := by unfold tdL; rw [e]
      have h3 := hln _ e
      have e16 := fnS_eq (out := oS []) oS_inj (s16w (kk := .any) (by simp) (w := wStop) (ws := [Go.Lib.itoa x.stop, keepW x.keep, kindW x.kind]) (by simp) (by rw [← h3]; exact hJ) [])
      rw [← congrArg J h3] at e16
      rw [hT]
      exact aT rfl (aT rfl (aT rfl (aT (decide_eq_true hs) (gStep e21 (gStep e12 (gStep e16 fin7))))))
    · have hT : tdL x = (.full, 1, sRow [w]) := by unfold tdL; rw [e]
      have h3 := hln _ e
      have e16 := fnS_eq (out := oS []) oS_inj (s16w (kk := .any) (by simp) (w := wStop) (ws := [Go.Lib.itoa x.stop, keepW x.keep, kindW x.kind, w]) (by simp) (by rw [← h3]; exact hJ) [])
      rw [← congrArg J h3] at e16
      rw [hT]
      exact aT rfl (aT rfl (aF rfl (aT (decide_eq_true hs) (gStep e21 (gStep e12 (aT rfl (aF rfl (gStep e16 fin7))))))))
    · have hT : tdL x = (.any, 1, sRow [w, v]) := by unfold tdL; rw [e]
      have h3 := hln _ e
      have e16 := fnS_eq (out := oS []) oS_inj (s16w (kk := .any) (by simp) (w := wStop) (ws := [Go.Lib.itoa x.stop, keepW x.keep, kindW x.kind, w, v]) (by simp) (by rw [← h3]; exact hJ) [])
      rw [← congrArg J h3] at e16
      rw [hT]
      exact aT rfl (aT rfl (aF rfl (aT (decide_eq_true hs) (gStep e21 (gStep e12 (aT rfl (aF rfl (gStep e16 fin7))))))))
  · have hln : ∀ r, argsW x = r → lineWd x = kindW x.kind :: r := by
      rintro r rfl
      unfold lineWd stopW
      rw [if_neg hs]
      rfl
    rcases args_form x with e | ⟨w, e⟩ | ⟨w, v, e⟩
    · have hT : tdL x = (.nil, 0, []) := by unfold tdL; rw [e]
      have h3 := hln _ e
      have e16 := fnS_eq (out := oS []) oS_inj (s16w (kk := .full) (by simp) (w := kindW x.kind) (ws := []) (by simp) (by rw [← h3]; exact hJ) [])
      rw [← congrArg J h3] at e16
      rw [hT]
      exact aT rfl (aT rfl (aT rfl (aF (decide_eq_false hs) (gStep e16 fin7))))
    · have hT : tdL x = (.full, 1, sRow [w]) := by unfold tdL; rw [e]
      have h3 := hln _ e
      have e16 := fnS_eq (out := oS []) oS_inj (s16w (kk := .any) (by simp) (w := kindW x.kind) (ws := [w]) (by simp) (by rw [← h3]; exact hJ) [])
      rw [← congrArg J h3] at e16
      rw [hT]
      exact aT rfl (aT rfl (aF rfl (aF (decide_eq_false hs) (gStep e16 fin7))))
    · have hT : tdL x = (.any, 1, sRow [w, v]) := by unfold tdL; rw [e]
      have h3 := hln _ e
      have e16 := fnS_eq (out := oS []) oS_inj (s16w (kk := .any) (by simp) (w := kindW x.kind) (ws := [w, v]) (by simp) (by rw [← h3]; exact hJ) [])
      rw [← congrArg J h3] at e16
      rw [hT]
      exact aT rfl (aT rfl (aF rfl (aF (decide_eq_false hs) (gStep e16 fin7))))
theorem ln_fin {x : Stw} (ho : okW x = true) : (if 300 < (J (lineWd x)).length then eW 8 else vW (ba (J (lineWd x)))) = some (oLg [] (lnS x)) := by
  unfold lnS lineS
  rw [if_pos ho]
  by_cases h3 : 300 < (J (lineWd x)).length
  · rw [if_pos h3, if_pos h3]; rfl
  · rw [if_neg h3, if_neg h3]; rfl
theorem prog_run {x : Stw} {lk : LK} {z : Nat} (hf : fitW x) (hl : x.keep.length ≤ 10000) (hz : x.keep ≠ [] → z = 1) : R207 [stv x lk z] [] = some (oLg [] (lnS x)) := by
  have key : ∀ o, (g7t x.kind x.node x.at_ x.n (ba x.data) x.stop lk z (encB x.keep)).ev = o → R207 [stv x lk z] [] = o := fun o h => by
    rw [Tr.ev_run] at h
    exact h
  refine key _ ?_
  rw [g7t_eq]
  by_cases h1 : x.kind < 1
  · exact aT (decide_eq_true h1) (ln6 (not_ok fun q => by have := q.1; omega))
  refine aF (decide_eq_false h1) ?_
  by_cases h2 : x.kind > 15
  · exact aT (decide_eq_true h2) (ln6 (not_ok fun q => by have := q.2.1; omega))
  refine aF (decide_eq_false h2) ?_
  by_cases h3 : x.stop < 0
  · exact aT (decide_eq_true h3) (ln6 (not_ok fun q => by have := q.2.2.1; omega))
  refine aF (decide_eq_false h3) ?_
  have e17 := fnS_eq (out := oTd []) oTd_inj (p217 (x := x) (lk := lk) (z := z) hf (by omega) (by omega) (by omega) [])
  obtain ⟨lk', z', hnm, hz'⟩ := nm_stv x lk z hz
  have e18 := fnS_eq (out := oB []) oB_inj (p218 (x := x) (y := namedW x) (lk := lk) (z := z) (lk' := lk') (z' := z') (by omega) hz hz' [])
  rw [← hnm] at e18
  have e19 := fnS_eq (out := oB []) oB_inj (p219 x.data [])
  refine gStep e17 (gStep e18 ?_)
  by_cases hnq : x = namedW x
  case neg => exact aT (by rw [decide_eq_false hnq]; rfl) (ln6 (not_ok fun q => hnq q.2.2.2.2.2))
  refine aF (by rw [decide_eq_true hnq]; rfl) ?_
  have tl := fun ho => (tail7 (x := x) (lk := lk) (z := z) (T := tdL x) rfl hf (by omega) (by omega) hl).trans (ln_fin ho)
  by_cases k2 : x.kind = 2
  · refine aT (by rw [beq_iff_eq]; exact k2) (gStep e19 ?_)
    by_cases h64 : x.data.length = 64
    case neg => exact aT (by rw [decide_eq_false h64]; rfl) (ln6 (not_ok fun q => h64 (q.2.2.2.2.1 k2)))
    exact aF (by rw [decide_eq_true h64]; rfl) (aF (by rw [beq_eq_false_iff_ne]; omega) (tl (ok_of (by omega) (by omega) (by omega) (by omega) (fun _ => h64) hnq)))
  · refine aF (by rw [beq_eq_false_iff_ne]; exact k2) ?_
    by_cases k12 : x.kind = 12
    · refine aT (by rw [beq_iff_eq]; exact k12) ?_
      by_cases hs : 0 < x.stop
      · exact aT (decide_eq_true hs) (ln6 (not_ok fun q => q.2.2.2.1 ⟨hs, k12⟩))
      · exact aF (decide_eq_false hs) (tl (ok_of (by omega) (by omega) (by omega) (by omega) (fun q => absurd q k2) hnq))
    · exact aF (by rw [beq_eq_false_iff_ne]; exact k12) (tl (ok_of (by omega) (by omega) (by omega) (by omega) (fun q => absurd q k2) hnq))
theorem p207 {x : Stw} {lk : LK} {z : Nat} (hf : fitW x) (hl : x.keep.length ≤ 10000) (hz : x.keep ≠ [] → z = 1) (G : List Ent) : P207 [stv x lk z] G = some (oLg G (lnS x)) := by
  unfold P207
  exact pureS_eq rfl (prog_run hf hl hz) rfl
end Go.Eng
end

/- Steps as lines: guesses and Parse of both sides; WordsLines and WordsParse answer true. -/
section
namespace Go.Eng
open Go
set_option maxRecDepth 100000
set_option linter.unusedSimpArgs false
set_option linter.unusedVariables false

theorem g28t_eq (s : ByteArray) : (g28t s).ev =
 --folded
 (rGet (fnS (fun (p : ByteArray × ByteArray) => ((dS p.1), [(Ent.obj [(dS p.2)])])) (R241 [(AV.ptr (Ref.glob 0) 0)] [(Ent.obj [(dS s)])])) fun x1 =>
 (rAsk ((ByteArray.toList x1.1) == [115, 116, 111, 112])
 (rGet (fnS (fun (p : Int × ByteArray) => ((jn p.1), [(Ent.obj [(dS p.2)])])) (R242 [(AV.ptr (Ref.glob 0) 0)] [(Ent.obj [(dS x1.2)])])) fun x2 =>
 (rGet (fnS (fun (p : TK3 × ByteArray) => ((AV.dat (D.list p.1.1 p.1.2.1 p.1.2.2)), [(Ent.obj [(dS p.2)])])) (R243 [(AV.ptr (Ref.glob 0) 0)] [(Ent.obj [(dS x2.2)])])) fun x3 =>
 (rGet (fnS (fun (p : ByteArray × ByteArray) => ((dS p.1), [(Ent.obj [(dS p.2)])])) (R241 [(AV.ptr (Ref.glob 0) 0)] [(Ent.obj [(dS x3.2)])])) fun x4 =>
 (rGet (fnS (fun (zr : Row) => ((AV.dat (D.list LK.full 1 zr)), [(Ent.obj [(dS x4.2)])])) (P220 [] [(Ent.obj [(dS x4.2)])])) fun x5 =>
 (rGet (fnS (fun (n : Int) => ((jn n), [(Ent.obj [(dS x4.2)])])) (P244 [(AV.dat (D.list LK.full 1 x5)), (dS x4.1)] [(Ent.obj [(dS x4.2)])])) fun x6 =>
 (rAsk ((if (true = true) then (if (x6 > (0 : Int)) then x6 else (0 : Int)) else (if (x6 < (0 : Int)) then x6 else (0 : Int))) == (1 : Int))
 (rGet (fnS (fun (p : Int × ByteArray) => ((jn p.1), [(Ent.obj [(dS p.2)])])) (R242 [(AV.ptr (Ref.glob 0) 0)] [(Ent.obj [(dS x4.2)])])) fun x7 => (some ((stA (if (true = true) then (if (x6 > (0 : Int)) then x6 else (0 : Int)) else (if (x6 < (0 : Int)) then x6 else (0 : Int))) (0 : Int) x7.1 (0 : Int) (ba []) x2.1 x3.1.1 x3.1.2.1 x3.1.2.2), [(Ent.obj [(dS x7.2)])])))
 (rAsk ((if (true = true) then (if (x6 > (0 : Int)) then x6 else (0 : Int)) else (if (x6 < (0 : Int)) then x6 else (0 : Int))) == (14 : Int))
 (rGet (fnS (fun (p : Int × ByteArray) => ((jn p.1), [(Ent.obj [(dS p.2)])])) (R242 [(AV.ptr (Ref.glob 0) 0)] [(Ent.obj [(dS x4.2)])])) fun x8 => (some ((stA (if (true = true) then (if (x6 > (0 : Int)) then x6 else (0 : Int)) else (if (x6 < (0 : Int)) then x6 else (0 : Int))) (0 : Int) x8.1 (0 : Int) (ba []) x2.1 x3.1.1 x3.1.2.1 x3.1.2.2), [(Ent.obj [(dS x8.2)])])))
 (rAsk ((if (true = true) then (if (x6 > (0 : Int)) then x6 else (0 : Int)) else (if (x6 < (0 : Int)) then x6 else (0 : Int))) == (2 : Int))
 (rGet (fnS (fun (p : Int × ByteArray) => ((jn p.1), [(Ent.obj [(dS p.2)])])) (R242 [(AV.ptr (Ref.glob 0) 0)] [(Ent.obj [(dS x4.2)])])) fun x9 =>
 (rGet (fnS (fun (p : ByteArray × Int) => ((AV.tup [(dS p.1), (jn p.2)]), [(Ent.obj [(dS x9.2)])])) (P138 [(dS x9.2)] [(Ent.obj [(dS x9.2)])])) fun x10 =>
 (rAsk (x10.2 == (0 : Int)) (some ((stA (if (true = true) then (if (x6 > (0 : Int)) then x6 else (0 : Int)) else (if (x6 < (0 : Int)) then x6 else (0 : Int))) (0 : Int) x9.1 (0 : Int) x10.1 x2.1 x3.1.1 x3.1.2.1 x3.1.2.2), [(Ent.obj [(dS x9.2)])])) (some ((stA (if (true = true) then (if (x6 > (0 : Int)) then x6 else (0 : Int)) else (if (x6 < (0 : Int)) then x6 else (0 : Int))) (0 : Int) x9.1 (0 : Int) (ba []) x2.1 x3.1.1 x3.1.2.1 x3.1.2.2), [(Ent.obj [(dS x9.2)])])))))
 (rAsk ((if (true = true) then (if (x6 > (0 : Int)) then x6 else (0 : Int)) else (if (x6 < (0 : Int)) then x6 else (0 : Int))) == (6 : Int))
 (rGet (fnS (fun (p : Int × ByteArray) => ((jn p.1), [(Ent.obj [(dS p.2)])])) (R242 [(AV.ptr (Ref.glob 0) 0)] [(Ent.obj [(dS x4.2)])])) fun x11 => (some ((stA (if (true = true) then (if (x6 > (0 : Int)) then x6 else (0 : Int)) else (if (x6 < (0 : Int)) then x6 else (0 : Int))) x11.1 (0 : Int) (0 : Int) (ba []) x2.1 x3.1.1 x3.1.2.1 x3.1.2.2), [(Ent.obj [(dS x11.2)])])))
 (rAsk ((if (true = true) then (if (x6 > (0 : Int)) then x6 else (0 : Int)) else (if (x6 < (0 : Int)) then x6 else (0 : Int))) == (15 : Int))
 (rGet (fnS (fun (p : Int × ByteArray) => ((jn p.1), [(Ent.obj [(dS p.2)])])) (R242 [(AV.ptr (Ref.glob 0) 0)] [(Ent.obj [(dS x4.2)])])) fun x12 => (some ((stA (if (true = true) then (if (x6 > (0 : Int)) then x6 else (0 : Int)) else (if (x6 < (0 : Int)) then x6 else (0 : Int))) x12.1 (0 : Int) (0 : Int) (ba []) x2.1 x3.1.1 x3.1.2.1 x3.1.2.2), [(Ent.obj [(dS x12.2)])])))
 (rAsk ((if (true = true) then (if (x6 > (0 : Int)) then x6 else (0 : Int)) else (if (x6 < (0 : Int)) then x6 else (0 : Int))) == (13 : Int))
 (rGet (fnS (fun (p : Int × ByteArray) => ((jn p.1), [(Ent.obj [(dS p.2)])])) (R242 [(AV.ptr (Ref.glob 0) 0)] [(Ent.obj [(dS x4.2)])])) fun x13 => (some ((stA (if (true = true) then (if (x6 > (0 : Int)) then x6 else (0 : Int)) else (if (x6 < (0 : Int)) then x6 else (0 : Int))) x13.1 (0 : Int) (0 : Int) (ba []) x2.1 x3.1.1 x3.1.2.1 x3.1.2.2), [(Ent.obj [(dS x13.2)])])))
 (rAsk ((if (true = true) then (if (x6 > (0 : Int)) then x6 else (0 : Int)) else (if (x6 < (0 : Int)) then x6 else (0 : Int))) == (7 : Int))
 (rGet (fnS (fun (p : Int × ByteArray) => ((jn p.1), [(Ent.obj [(dS p.2)])])) (R242 [(AV.ptr (Ref.glob 0) 0)] [(Ent.obj [(dS x4.2)])])) fun x14 => (some ((stA (if (true = true) then (if (x6 > (0 : Int)) then x6 else (0 : Int)) else (if (x6 < (0 : Int)) then x6 else (0 : Int))) (0 : Int) (0 : Int) x14.1 (ba []) x2.1 x3.1.1 x3.1.2.1 x3.1.2.2), [(Ent.obj [(dS x14.2)])])))
 (rAsk ((if (true = true) then (if (x6 > (0 : Int)) then x6 else (0 : Int)) else (if (x6 < (0 : Int)) then x6 else (0 : Int))) == (8 : Int))
 (rGet (fnS (fun (p : Int × ByteArray) => ((jn p.1), [(Ent.obj [(dS p.2)])])) (R242 [(AV.ptr (Ref.glob 0) 0)] [(Ent.obj [(dS x4.2)])])) fun x15 => (some ((stA (if (true = true) then (if (x6 > (0 : Int)) then x6 else (0 : Int)) else (if (x6 < (0 : Int)) then x6 else (0 : Int))) (0 : Int) (0 : Int) x15.1 (ba []) x2.1 x3.1.1 x3.1.2.1 x3.1.2.2), [(Ent.obj [(dS x15.2)])])))
 (rAsk ((if (true = true) then (if (x6 > (0 : Int)) then x6 else (0 : Int)) else (if (x6 < (0 : Int)) then x6 else (0 : Int))) == (9 : Int))
 (rGet (fnS (fun (p : Int × ByteArray) => ((jn p.1), [(Ent.obj [(dS p.2)])])) (R242 [(AV.ptr (Ref.glob 0) 0)] [(Ent.obj [(dS x4.2)])])) fun x16 => (some ((stA (if (true = true) then (if (x6 > (0 : Int)) then x6 else (0 : Int)) else (if (x6 < (0 : Int)) then x6 else (0 : Int))) (0 : Int) (0 : Int) x16.1 (ba []) x2.1 x3.1.1 x3.1.2.1 x3.1.2.2), [(Ent.obj [(dS x16.2)])])))
 (rAsk ((if (true = true) then (if (x6 > (0 : Int)) then x6 else (0 : Int)) else (if (x6 < (0 : Int)) then x6 else (0 : Int))) == (10 : Int))
 (rGet (fnS (fun (p : Int × ByteArray) => ((jn p.1), [(Ent.obj [(dS p.2)])])) (R242 [(AV.ptr (Ref.glob 0) 0)] [(Ent.obj [(dS x4.2)])])) fun x17 =>
 (rGet (fnS (fun (p : Int × ByteArray) => ((jn p.1), [(Ent.obj [(dS p.2)])])) (R242 [(AV.ptr (Ref.glob 0) 0)] [(Ent.obj [(dS x17.2)])])) fun x18 => (some ((stA (if (true = true) then (if (x6 > (0 : Int)) then x6 else (0 : Int)) else (if (x6 < (0 : Int)) then x6 else (0 : Int))) (0 : Int) x18.1 x17.1 (ba []) x2.1 x3.1.1 x3.1.2.1 x3.1.2.2), [(Ent.obj [(dS x18.2)])]))))
 (rAsk ((if (true = true) then (if (x6 > (0 : Int)) then x6 else (0 : Int)) else (if (x6 < (0 : Int)) then x6 else (0 : Int))) == (12 : Int))
 (rGet (fnS (fun (p : Int × ByteArray) => ((jn p.1), [(Ent.obj [(dS p.2)])])) (R242 [(AV.ptr (Ref.glob 0) 0)] [(Ent.obj [(dS x4.2)])])) fun x19 =>
 (rGet (fnS (fun (p : TK3 × ByteArray) => ((AV.dat (D.list p.1.1 p.1.2.1 p.1.2.2)), [(Ent.obj [(dS p.2)])])) (R243 [(AV.ptr (Ref.glob 0) 0)] [(Ent.obj [(dS x19.2)])])) fun x20 => (some ((stA (if (true = true) then (if (x6 > (0 : Int)) then x6 else (0 : Int)) else (if (x6 < (0 : Int)) then x6 else (0 : Int))) x19.1 (0 : Int) (0 : Int) (ba []) x2.1 x20.1.1 x20.1.2.1 x20.1.2.2), [(Ent.obj [(dS x20.2)])])))) (some ((stA (if (true = true) then (if (x6 > (0 : Int)) then x6 else (0 : Int)) else (if (x6 < (0 : Int)) then x6 else (0 : Int))) (0 : Int) (0 : Int) (0 : Int) (ba []) x2.1 x3.1.1 x3.1.2.1 x3.1.2.2), [(Ent.obj [(dS x4.2)])]))))))))))))))))))
 (rGet (fnS (fun (zr : Row) => ((AV.dat (D.list LK.full 1 zr)), [(Ent.obj [(dS x1.2)])])) (P220 [] [(Ent.obj [(dS x1.2)])])) fun x21 =>
 (rGet (fnS (fun (n : Int) => ((jn n), [(Ent.obj [(dS x1.2)])])) (P244 [(AV.dat (D.list LK.full 1 x21)), (dS x1.1)] [(Ent.obj [(dS x1.2)])])) fun x22 =>
 (rAsk ((if (true = true) then (if (x22 > (0 : Int)) then x22 else (0 : Int)) else (if (x22 < (0 : Int)) then x22 else (0 : Int))) == (1 : Int))
 (rGet (fnS (fun (p : Int × ByteArray) => ((jn p.1), [(Ent.obj [(dS p.2)])])) (R242 [(AV.ptr (Ref.glob 0) 0)] [(Ent.obj [(dS x1.2)])])) fun x23 => (some ((stA (if (true = true) then (if (x22 > (0 : Int)) then x22 else (0 : Int)) else (if (x22 < (0 : Int)) then x22 else (0 : Int))) (0 : Int) x23.1 (0 : Int) (ba []) (0 : Int) LK.nil 0 ([] : Row)), [(Ent.obj [(dS x23.2)])])))
 (rAsk ((if (true = true) then (if (x22 > (0 : Int)) then x22 else (0 : Int)) else (if (x22 < (0 : Int)) then x22 else (0 : Int))) == (14 : Int))
 (rGet (fnS (fun (p : Int × ByteArray) => ((jn p.1), [(Ent.obj [(dS p.2)])])) (R242 [(AV.ptr (Ref.glob 0) 0)] [(Ent.obj [(dS x1.2)])])) fun x24 => (some ((stA (if (true = true) then (if (x22 > (0 : Int)) then x22 else (0 : Int)) else (if (x22 < (0 : Int)) then x22 else (0 : Int))) (0 : Int) x24.1 (0 : Int) (ba []) (0 : Int) LK.nil 0 ([] : Row)), [(Ent.obj [(dS x24.2)])])))
 (rAsk ((if (true = true) then (if (x22 > (0 : Int)) then x22 else (0 : Int)) else (if (x22 < (0 : Int)) then x22 else (0 : Int))) == (2 : Int))
 (rGet (fnS (fun (p : Int × ByteArray) => ((jn p.1), [(Ent.obj [(dS p.2)])])) (R242 [(AV.ptr (Ref.glob 0) 0)] [(Ent.obj [(dS x1.2)])])) fun x25 =>
 (rGet (fnS (fun (p : ByteArray × Int) => ((AV.tup [(dS p.1), (jn p.2)]), [(Ent.obj [(dS x25.2)])])) (P138 [(dS x25.2)] [(Ent.obj [(dS x25.2)])])) fun x26 =>
 (rAsk (x26.2 == (0 : Int)) (some ((stA (if (true = true) then (if (x22 > (0 : Int)) then x22 else (0 : Int)) else (if (x22 < (0 : Int)) then x22 else (0 : Int))) (0 : Int) x25.1 (0 : Int) x26.1 (0 : Int) LK.nil 0 ([] : Row)), [(Ent.obj [(dS x25.2)])])) (some ((stA (if (true = true) then (if (x22 > (0 : Int)) then x22 else (0 : Int)) else (if (x22 < (0 : Int)) then x22 else (0 : Int))) (0 : Int) x25.1 (0 : Int) (ba []) (0 : Int) LK.nil 0 ([] : Row)), [(Ent.obj [(dS x25.2)])])))))
 (rAsk ((if (true = true) then (if (x22 > (0 : Int)) then x22 else (0 : Int)) else (if (x22 < (0 : Int)) then x22 else (0 : Int))) == (6 : Int))
 (rGet (fnS (fun (p : Int × ByteArray) => ((jn p.1), [(Ent.obj [(dS p.2)])])) (R242 [(AV.ptr (Ref.glob 0) 0)] [(Ent.obj [(dS x1.2)])])) fun x27 => (some ((stA (if (true = true) then (if (x22 > (0 : Int)) then x22 else (0 : Int)) else (if (x22 < (0 : Int)) then x22 else (0 : Int))) x27.1 (0 : Int) (0 : Int) (ba []) (0 : Int) LK.nil 0 ([] : Row)), [(Ent.obj [(dS x27.2)])])))
 (rAsk ((if (true = true) then (if (x22 > (0 : Int)) then x22 else (0 : Int)) else (if (x22 < (0 : Int)) then x22 else (0 : Int))) == (15 : Int))
 (rGet (fnS (fun (p : Int × ByteArray) => ((jn p.1), [(Ent.obj [(dS p.2)])])) (R242 [(AV.ptr (Ref.glob 0) 0)] [(Ent.obj [(dS x1.2)])])) fun x28 => (some ((stA (if (true = true) then (if (x22 > (0 : Int)) then x22 else (0 : Int)) else (if (x22 < (0 : Int)) then x22 else (0 : Int))) x28.1 (0 : Int) (0 : Int) (ba []) (0 : Int) LK.nil 0 ([] : Row)), [(Ent.obj [(dS x28.2)])])))
 (rAsk ((if (true = true) then (if (x22 > (0 : Int)) then x22 else (0 : Int)) else (if (x22 < (0 : Int)) then x22 else (0 : Int))) == (13 : Int))
 (rGet (fnS (fun (p : Int × ByteArray) => ((jn p.1), [(Ent.obj [(dS p.2)])])) (R242 [(AV.ptr (Ref.glob 0) 0)] [(Ent.obj [(dS x1.2)])])) fun x29 => (some ((stA (if (true = true) then (if (x22 > (0 : Int)) then x22 else (0 : Int)) else (if (x22 < (0 : Int)) then x22 else (0 : Int))) x29.1 (0 : Int) (0 : Int) (ba []) (0 : Int) LK.nil 0 ([] : Row)), [(Ent.obj [(dS x29.2)])])))
 (rAsk ((if (true = true) then (if (x22 > (0 : Int)) then x22 else (0 : Int)) else (if (x22 < (0 : Int)) then x22 else (0 : Int))) == (7 : Int))
 (rGet (fnS (fun (p : Int × ByteArray) => ((jn p.1), [(Ent.obj [(dS p.2)])])) (R242 [(AV.ptr (Ref.glob 0) 0)] [(Ent.obj [(dS x1.2)])])) fun x30 => (some ((stA (if (true = true) then (if (x22 > (0 : Int)) then x22 else (0 : Int)) else (if (x22 < (0 : Int)) then x22 else (0 : Int))) (0 : Int) (0 : Int) x30.1 (ba []) (0 : Int) LK.nil 0 ([] : Row)), [(Ent.obj [(dS x30.2)])])))
 (rAsk ((if (true = true) then (if (x22 > (0 : Int)) then x22 else (0 : Int)) else (if (x22 < (0 : Int)) then x22 else (0 : Int))) == (8 : Int))
 (rGet (fnS (fun (p : Int × ByteArray) => ((jn p.1), [(Ent.obj [(dS p.2)])])) (R242 [(AV.ptr (Ref.glob 0) 0)] [(Ent.obj [(dS x1.2)])])) fun x31 => (some ((stA (if (true = true) then (if (x22 > (0 : Int)) then x22 else (0 : Int)) else (if (x22 < (0 : Int)) then x22 else (0 : Int))) (0 : Int) (0 : Int) x31.1 (ba []) (0 : Int) LK.nil 0 ([] : Row)), [(Ent.obj [(dS x31.2)])])))
 (rAsk ((if (true = true) then (if (x22 > (0 : Int)) then x22 else (0 : Int)) else (if (x22 < (0 : Int)) then x22 else (0 : Int))) == (9 : Int))
 (rGet (fnS (fun (p : Int × ByteArray) => ((jn p.1), [(Ent.obj [(dS p.2)])])) (R242 [(AV.ptr (Ref.glob 0) 0)] [(Ent.obj [(dS x1.2)])])) fun x32 => (some ((stA (if (true = true) then (if (x22 > (0 : Int)) then x22 else (0 : Int)) else (if (x22 < (0 : Int)) then x22 else (0 : Int))) (0 : Int) (0 : Int) x32.1 (ba []) (0 : Int) LK.nil 0 ([] : Row)), [(Ent.obj [(dS x32.2)])])))
 (rAsk ((if (true = true) then (if (x22 > (0 : Int)) then x22 else (0 : Int)) else (if (x22 < (0 : Int)) then x22 else (0 : Int))) == (10 : Int))
 (rGet (fnS (fun (p : Int × ByteArray) => ((jn p.1), [(Ent.obj [(dS p.2)])])) (R242 [(AV.ptr (Ref.glob 0) 0)] [(Ent.obj [(dS x1.2)])])) fun x33 =>
 (rGet (fnS (fun (p : Int × ByteArray) => ((jn p.1), [(Ent.obj [(dS p.2)])])) (R242 [(AV.ptr (Ref.glob 0) 0)] [(Ent.obj [(dS x33.2)])])) fun x34 => (some ((stA (if (true = true) then (if (x22 > (0 : Int)) then x22 else (0 : Int)) else (if (x22 < (0 : Int)) then x22 else (0 : Int))) (0 : Int) x34.1 x33.1 (ba []) (0 : Int) LK.nil 0 ([] : Row)), [(Ent.obj [(dS x34.2)])]))))
 (rAsk ((if (true = true) then (if (x22 > (0 : Int)) then x22 else (0 : Int)) else (if (x22 < (0 : Int)) then x22 else (0 : Int))) == (12 : Int))
 (rGet (fnS (fun (p : Int × ByteArray) => ((jn p.1), [(Ent.obj [(dS p.2)])])) (R242 [(AV.ptr (Ref.glob 0) 0)] [(Ent.obj [(dS x1.2)])])) fun x35 =>
 (rGet (fnS (fun (p : TK3 × ByteArray) => ((AV.dat (D.list p.1.1 p.1.2.1 p.1.2.2)), [(Ent.obj [(dS p.2)])])) (R243 [(AV.ptr (Ref.glob 0) 0)] [(Ent.obj [(dS x35.2)])])) fun x36 => (some ((stA (if (true = true) then (if (x22 > (0 : Int)) then x22 else (0 : Int)) else (if (x22 < (0 : Int)) then x22 else (0 : Int))) x35.1 (0 : Int) (0 : Int) (ba []) (0 : Int) x36.1.1 x36.1.2.1 x36.1.2.2), [(Ent.obj [(dS x36.2)])])))) (some ((stA (if (true = true) then (if (x22 > (0 : Int)) then x22 else (0 : Int)) else (if (x22 < (0 : Int)) then x22 else (0 : Int))) (0 : Int) (0 : Int) (0 : Int) (ba []) (0 : Int) LK.nil 0 ([] : Row)), [(Ent.obj [(dS x1.2)])])))))))))))))))))
  := by kernel_rfl
theorem g29t_eq (s : ByteArray) : (g29t s).ev =
 --folded
 (rGet (fnS (fun (p : ByteArray × ByteArray) => ((AV.tup [(dS p.1), (dS p.2)]), [])) (P123 [(dS s)] [])) fun x1 =>
 (rAsk ((ByteArray.toList x1.1) == [115, 116, 111, 112])
 (rGet (fnS (fun (p : ByteArray × ByteArray) => ((AV.tup [(dS p.1), (dS p.2)]), [])) (P123 [(dS x1.2)] [])) fun x2 =>
 (rGet (fnS (fun (n : Int) => ((jn n), [])) (P124 [(dS x2.1)] [])) fun x3 =>
 (rGet (fnS (fun (p : ByteArray × ByteArray) => ((AV.tup [(dS p.1), (dS p.2)]), [])) (P123 [(dS x2.2)] [])) fun x4 =>
 (rGet (fnS (fun (p : TK3 × Int) => ((AV.tup [(AV.dat (D.list p.1.1 p.1.2.1 p.1.2.2)), (jn p.2)]), [])) (P214 [(dS x4.1)] [])) fun x5 =>
 (rGet (fnS (fun (p : ByteArray × ByteArray) => ((AV.tup [(dS p.1), (dS p.2)]), [])) (P123 [(dS x4.2)] [])) fun x6 =>
 (rGet (fnS (fun (n : Int) => ((jn n), [])) (P248 [(dS x6.1)] [])) fun x7 =>
 (rGet (fnS (fun (p : ByteArray × ByteArray) => ((AV.tup [(dS p.1), (dS p.2)]), [])) (P123 [(dS x6.2)] [])) fun x8 =>
 (rGet (fnS (fun (n : Int) => ((jn n), [])) (P124 [(dS x8.1)] [])) fun x9 =>
 (rAsk (x7 == (1 : Int)) (some ((stA x7 (0 : Int) x9 (0 : Int) (ba []) x3 x5.1.1 x5.1.2.1 x5.1.2.2), []))
 (rAsk (x7 == (14 : Int)) (some ((stA x7 (0 : Int) x9 (0 : Int) (ba []) x3 x5.1.1 x5.1.2.1 x5.1.2.2), []))
 (rAsk (x7 == (2 : Int))
 (rGet (fnS (fun (p : ByteArray × Int) => ((AV.tup [(dS p.1), (jn p.2)]), [])) (P126 [(dS x8.2)] [])) fun x10 => (some ((stA x7 (0 : Int) x9 (0 : Int) x10.1 x3 x5.1.1 x5.1.2.1 x5.1.2.2), [])))
 (rAsk (x7 == (6 : Int)) (some ((stA x7 x9 (0 : Int) (0 : Int) (ba []) x3 x5.1.1 x5.1.2.1 x5.1.2.2), []))
 (rAsk (x7 == (15 : Int)) (some ((stA x7 x9 (0 : Int) (0 : Int) (ba []) x3 x5.1.1 x5.1.2.1 x5.1.2.2), []))
 (rAsk (x7 == (13 : Int)) (some ((stA x7 x9 (0 : Int) (0 : Int) (ba []) x3 x5.1.1 x5.1.2.1 x5.1.2.2), []))
 (rAsk (x7 == (7 : Int)) (some ((stA x7 (0 : Int) (0 : Int) x9 (ba []) x3 x5.1.1 x5.1.2.1 x5.1.2.2), []))
 (rAsk (x7 == (8 : Int)) (some ((stA x7 (0 : Int) (0 : Int) x9 (ba []) x3 x5.1.1 x5.1.2.1 x5.1.2.2), []))
 (rAsk (x7 == (9 : Int)) (some ((stA x7 (0 : Int) (0 : Int) x9 (ba []) x3 x5.1.1 x5.1.2.1 x5.1.2.2), []))
 (rAsk (x7 == (10 : Int))
 (rGet (fnS (fun (n : Int) => ((jn n), [])) (P124 [(dS x8.2)] [])) fun x11 => (some ((stA x7 (0 : Int) x11 x9 (ba []) x3 x5.1.1 x5.1.2.1 x5.1.2.2), [])))
 (rAsk (x7 == (12 : Int))
 (rGet (fnS (fun (p : TK3 × Int) => ((AV.tup [(AV.dat (D.list p.1.1 p.1.2.1 p.1.2.2)), (jn p.2)]), [])) (P214 [(dS x8.2)] [])) fun x12 => (some ((stA x7 x9 (0 : Int) (0 : Int) (ba []) x3 x12.1.1 x12.1.2.1 x12.1.2.2), []))) (some ((stA x7 (0 : Int) (0 : Int) (0 : Int) (ba []) x3 x5.1.1 x5.1.2.1 x5.1.2.2), [])))))))))))))))))))))
 (rGet (fnS (fun (n : Int) => ((jn n), [])) (P248 [(dS x1.1)] [])) fun x13 =>
 (rGet (fnS (fun (p : ByteArray × ByteArray) => ((AV.tup [(dS p.1), (dS p.2)]), [])) (P123 [(dS x1.2)] [])) fun x14 =>
 (rGet (fnS (fun (n : Int) => ((jn n), [])) (P124 [(dS x14.1)] [])) fun x15 =>
 (rAsk (x13 == (1 : Int)) (some ((stA x13 (0 : Int) x15 (0 : Int) (ba []) (0 : Int) LK.nil 0 ([] : Row)), []))
 (rAsk (x13 == (14 : Int)) (some ((stA x13 (0 : Int) x15 (0 : Int) (ba []) (0 : Int) LK.nil 0 ([] : Row)), []))
 (rAsk (x13 == (2 : Int))
 (rGet (fnS (fun (p : ByteArray × Int) => ((AV.tup [(dS p.1), (jn p.2)]), [])) (P126 [(dS x14.2)] [])) fun x16 => (some ((stA x13 (0 : Int) x15 (0 : Int) x16.1 (0 : Int) LK.nil 0 ([] : Row)), [])))
 (rAsk (x13 == (6 : Int)) (some ((stA x13 x15 (0 : Int) (0 : Int) (ba []) (0 : Int) LK.nil 0 ([] : Row)), []))
 (rAsk (x13 == (15 : Int)) (some ((stA x13 x15 (0 : Int) (0 : Int) (ba []) (0 : Int) LK.nil 0 ([] : Row)), []))
 (rAsk (x13 == (13 : Int)) (some ((stA x13 x15 (0 : Int) (0 : Int) (ba []) (0 : Int) LK.nil 0 ([] : Row)), []))
 (rAsk (x13 == (7 : Int)) (some ((stA x13 (0 : Int) (0 : Int) x15 (ba []) (0 : Int) LK.nil 0 ([] : Row)), []))
 (rAsk (x13 == (8 : Int)) (some ((stA x13 (0 : Int) (0 : Int) x15 (ba []) (0 : Int) LK.nil 0 ([] : Row)), []))
 (rAsk (x13 == (9 : Int)) (some ((stA x13 (0 : Int) (0 : Int) x15 (ba []) (0 : Int) LK.nil 0 ([] : Row)), []))
 (rAsk (x13 == (10 : Int))
 (rGet (fnS (fun (n : Int) => ((jn n), [])) (P124 [(dS x14.2)] [])) fun x17 => (some ((stA x13 (0 : Int) x17 x15 (ba []) (0 : Int) LK.nil 0 ([] : Row)), [])))
 (rAsk (x13 == (12 : Int))
 (rGet (fnS (fun (p : TK3 × Int) => ((AV.tup [(AV.dat (D.list p.1.1 p.1.2.1 p.1.2.2)), (jn p.2)]), [])) (P214 [(dS x14.2)] [])) fun x18 => (some ((stA x13 x15 (0 : Int) (0 : Int) (ba []) (0 : Int) x18.1.1 x18.1.2.1 x18.1.2.2), []))) (some ((stA x13 (0 : Int) (0 : Int) (0 : Int) (ba []) (0 : Int) LK.nil 0 ([] : Row)), []))))))))))))))))))
  := by kernel_rfl
theorem g9t_eq (s : ByteArray) : (g9t s).ev =
 --folded
 (rAsk (decide ((((ByteArray.size s) : Nat) : Int) > (300 : Int))) (some ((AV.tup [(stA (0 : Int) (0 : Int) (0 : Int) (0 : Int) (ba []) (0 : Int) LK.nil 0 ([] : Row)), (jn (8 : Int))]), []))
 (rGet (fnS (oSt []) (P228 [(dS s)] [])) fun x1 =>
 (rGet (fnS (fun (p : ByteArray × Int) => ((AV.tup [(dS p.1), (jn p.2)]), [])) (P207 [(stA x1.1 x1.2.1 x1.2.2.1 x1.2.2.2.1 x1.2.2.2.2.1 x1.2.2.2.2.2.1 x1.2.2.2.2.2.2.1 x1.2.2.2.2.2.2.2.1 x1.2.2.2.2.2.2.2.2)] [])) fun x2 =>
 (rAsk (x2.2 != (0 : Int)) (some ((AV.tup [(stA (0 : Int) (0 : Int) (0 : Int) (0 : Int) (ba []) (0 : Int) LK.nil 0 ([] : Row)), (jn (6 : Int))]), []))
 (rAsk (!((ByteArray.toList x2.1) == (ByteArray.toList s))) (some ((AV.tup [(stA (0 : Int) (0 : Int) (0 : Int) (0 : Int) (ba []) (0 : Int) LK.nil 0 ([] : Row)), (jn (6 : Int))]), [])) (some ((AV.tup [(stA x1.1 x1.2.1 x1.2.2.1 x1.2.2.2.1 x1.2.2.2.2.1 x1.2.2.2.2.2.1 x1.2.2.2.2.2.2.1 x1.2.2.2.2.2.2.2.1 x1.2.2.2.2.2.2.2.2), (jn (0 : Int))]), [])))))))
  := by kernel_rfl
theorem g11t_eq (s : ByteArray) : (g11t s).ev =
 --folded
 (rAsk (decide ((((ByteArray.size s) : Nat) : Int) > (300 : Int))) (some ((AV.tup [(stA (0 : Int) (0 : Int) (0 : Int) (0 : Int) (ba []) (0 : Int) LK.nil 0 ([] : Row)), (jn (8 : Int))]), []))
 (rGet (fnS (oSt []) (P229 [(dS s)] [])) fun x1 =>
 (rGet (fnS (fun (p : ByteArray × Int) => ((AV.tup [(dS p.1), (jn p.2)]), [])) (P208 [(stA x1.1 x1.2.1 x1.2.2.1 x1.2.2.2.1 x1.2.2.2.2.1 x1.2.2.2.2.2.1 x1.2.2.2.2.2.2.1 x1.2.2.2.2.2.2.2.1 x1.2.2.2.2.2.2.2.2)] [])) fun x2 =>
 (rAsk (x2.2 != (0 : Int)) (some ((AV.tup [(stA (0 : Int) (0 : Int) (0 : Int) (0 : Int) (ba []) (0 : Int) LK.nil 0 ([] : Row)), (jn (6 : Int))]), []))
 (rAsk (!((ByteArray.toList x2.1) == (ByteArray.toList s))) (some ((AV.tup [(stA (0 : Int) (0 : Int) (0 : Int) (0 : Int) (ba []) (0 : Int) LK.nil 0 ([] : Row)), (jn (6 : Int))]), [])) (some ((AV.tup [(stA x1.1 x1.2.1 x1.2.2.1 x1.2.2.2.1 x1.2.2.2.2.1 x1.2.2.2.2.2.1 x1.2.2.2.2.2.2.1 x1.2.2.2.2.2.2.2.1 x1.2.2.2.2.2.2.2.2), (jn (0 : Int))]), [])))))))
  := by kernel_rfl
theorem g3t_eq (k nd a n : Int) (d : ByteArray) (s : Int) (lk : LK) (z : Nat) (l : Row) : (g3t k nd a n d s lk z l).ev =
 --folded
 (rAsk (decide ((((List.length l) : Nat) : Int) > (400 : Int)))
 (rGet (fnS (fun (x : Unit) => ((AV.dat (D.bool true)), [])) (P105 [] [])) fun _ => (some ((AV.dat (D.bool true)), [])))
 (rAsk (decide ((((ByteArray.size d) : Nat) : Int) > (200 : Int)))
 (rGet (fnS (fun (x : Unit) => ((AV.dat (D.bool true)), [])) (P105 [] [])) fun _ => (some ((AV.dat (D.bool true)), [])))
 (rGet (fnS (fun (p : ByteArray × Int) => ((AV.tup [(dS p.1), (jn p.2)]), [])) (P207 [(stA k nd a n d s lk z l)] [])) fun x3 =>
 (rGet (fnS (fun (p : ByteArray × Int) => ((AV.tup [(dS p.1), (jn p.2)]), [])) (P208 [(stA k nd a n d s lk z l)] [])) fun x4 =>
 (rAsk (!((ByteArray.toList x3.1) == (ByteArray.toList x4.1))) (some ((AV.dat (D.bool false)), []))
 (rAsk (x3.2 != x4.2) (some ((AV.dat (D.bool false)), []))
 (rAsk (x4.2 != (0 : Int))
 (rGet (fnS (fun (x : Unit) => ((AV.dat (D.bool true)), [])) (P105 [] [])) fun _ => (some ((AV.dat (D.bool true)), [])))
 (rGet (fnS (fun (p : TSt × Int) => ((AV.tup [(stA p.1.1 p.1.2.1 p.1.2.2.1 p.1.2.2.2.1 p.1.2.2.2.2.1 p.1.2.2.2.2.2.1 p.1.2.2.2.2.2.2.1 p.1.2.2.2.2.2.2.2.1 p.1.2.2.2.2.2.2.2.2), (jn p.2)]), [])) (P209 [(dS x3.1)] [])) fun x6 =>
 (rGet (fnS (oB []) (P210 [(stA k nd a n d s lk z l), (stA x6.1.1 x6.1.2.1 x6.1.2.2.1 x6.1.2.2.2.1 x6.1.2.2.2.2.1 x6.1.2.2.2.2.2.1 x6.1.2.2.2.2.2.2.1 x6.1.2.2.2.2.2.2.2.1 x6.1.2.2.2.2.2.2.2.2)] [])) fun x7 =>
 (rAsk x7
 (rAsk (x6.2 == (0 : Int))
 (rGet (fnS (fun (x : Unit) => ((AV.dat (D.bool true)), [])) (P105 [] [])) fun _ => (some ((AV.dat (D.bool true)), []))) (some ((AV.dat (D.bool false)), []))) (some ((AV.dat (D.bool false)), []))))))))))))
  := by kernel_rfl
theorem g4t_eq (s : ByteArray) : (g4t s).ev =
 --folded
 (rAsk (decide ((((ByteArray.size s) : Nat) : Int) > (300 : Int)))
 (rGet (fnS (fun (p : TSt × Int) => ((AV.tup [(stA p.1.1 p.1.2.1 p.1.2.2.1 p.1.2.2.2.1 p.1.2.2.2.2.1 p.1.2.2.2.2.2.1 p.1.2.2.2.2.2.2.1 p.1.2.2.2.2.2.2.2.1 p.1.2.2.2.2.2.2.2.2), (jn p.2)]), [])) (P209 [(dS s)] [])) fun x1 =>
 (rAsk (x1.2 == (8 : Int))
 (rGet (fnS (fun (x : Unit) => ((AV.dat (D.bool true)), [])) (P105 [] [])) fun _ => (some ((AV.dat (D.bool true)), []))) (some ((AV.dat (D.bool false)), []))))
 (rGet (fnS (fun (p : TSt × Int) => ((AV.tup [(stA p.1.1 p.1.2.1 p.1.2.2.1 p.1.2.2.2.1 p.1.2.2.2.2.1 p.1.2.2.2.2.2.1 p.1.2.2.2.2.2.2.1 p.1.2.2.2.2.2.2.2.1 p.1.2.2.2.2.2.2.2.2), (jn p.2)]), [])) (P209 [(dS s)] [])) fun x3 =>
 (rGet (fnS (fun (p : TSt × Int) => ((AV.tup [(stA p.1.1 p.1.2.1 p.1.2.2.1 p.1.2.2.2.1 p.1.2.2.2.2.1 p.1.2.2.2.2.2.1 p.1.2.2.2.2.2.2.1 p.1.2.2.2.2.2.2.2.1 p.1.2.2.2.2.2.2.2.2), (jn p.2)]), [])) (P211 [(dS s)] [])) fun x4 =>
 (rGet (fnS (oB []) (P210 [(stA x3.1.1 x3.1.2.1 x3.1.2.2.1 x3.1.2.2.2.1 x3.1.2.2.2.2.1 x3.1.2.2.2.2.2.1 x3.1.2.2.2.2.2.2.1 x3.1.2.2.2.2.2.2.2.1 x3.1.2.2.2.2.2.2.2.2), (stA x4.1.1 x4.1.2.1 x4.1.2.2.1 x4.1.2.2.2.1 x4.1.2.2.2.2.1 x4.1.2.2.2.2.2.1 x4.1.2.2.2.2.2.2.1 x4.1.2.2.2.2.2.2.2.1 x4.1.2.2.2.2.2.2.2.2)] [])) fun x5 =>
 (rAsk (!x5) (some ((AV.dat (D.bool false)), []))
 (rAsk (x3.2 != x4.2) (some ((AV.dat (D.bool false)), []))
 (rGet (fnS (fun (p : ByteArray × Int) => ((AV.tup [(dS p.1), (jn p.2)]), [])) (P207 [(stA x3.1.1 x3.1.2.1 x3.1.2.2.1 x3.1.2.2.2.1 x3.1.2.2.2.2.1 x3.1.2.2.2.2.2.1 x3.1.2.2.2.2.2.2.1 x3.1.2.2.2.2.2.2.2.1 x3.1.2.2.2.2.2.2.2.2)] [])) fun x6 =>
 (rAsk (x4.2 != (0 : Int))
 (rGet (fnS (fun (x : Unit) => ((AV.dat (D.bool true)), [])) (P105 [] [])) fun _ => (some ((AV.dat (D.bool true)), [])))
 (rAsk ((ByteArray.toList x6.1) == (ByteArray.toList s))
 (rAsk (x6.2 == (0 : Int))
 (rGet (fnS (fun (x : Unit) => ((AV.dat (D.bool true)), [])) (P105 [] [])) fun _ => (some ((AV.dat (D.bool true)), []))) (some ((AV.dat (D.bool false)), []))) (some ((AV.dat (D.bool false)), [])))))))))))
  := by kernel_rfl
/-- a step as it is handed back -/
def tSt (x : Stw) : TSt := (x.kind, x.node, x.at_, x.n, ba x.data, x.stop, kvL x.keep)
theorem ktOf_fst (o : Option (List Bool)) : (ktOf o).1 = kvL (o.getD []) := by
  cases o with
  | none => rfl
  | some l => cases l <;> rfl
theorem p138 {t : List UInt8} (h : t.length ≤ 2000) (G : List Ent) : P138 [.dat (.str (ba t))] G = some (oLg G (lgOf (progL t))) := by
  unfold P138
  exact pureS_eq rfl (f8_run h) rfl
theorem p126 (t : List UInt8) (G : List Ent) : P126 [.dat (.str (ba t))] G = some (oLg G (lgOf (refL t))) := by
  unfold P126
  exact pureS_eq (G0 := []) rfl (f9_run t) (by cases refL t <;> rfl)
theorem lg_fst (o : Option (List UInt8)) : (lgOf o).1 = ba (o.getD []) := by cases o <;> rfl
attribute [local irreducible] fnS loS R241 R242 R243 P220 P244 P138 P126 P123 P124 P214 P248 P207 P208 P210 P105
/-- the program's tail -/
theorem tail28 {kk st : Int} {l : List Bool} {r0 : List UInt8} (hr : r0.length ≤ 2000) : ∃ G', ((fun T r =>
 (rAsk (kk == (1 : Int))
 (rGet (fnS (fun (p : Int × ByteArray) => ((jn p.1), [(Ent.obj [(dS p.2)])])) (R242 [(AV.ptr (Ref.glob 0) 0)] [(Ent.obj [(dS r)])])) fun x7 => (some ((stA kk (0 : Int) x7.1 (0 : Int) (ba []) st T.1 T.2.1 T.2.2), [(Ent.obj [(dS x7.2)])])))
 (rAsk (kk == (14 : Int))
 (rGet (fnS (fun (p : Int × ByteArray) => ((jn p.1), [(Ent.obj [(dS p.2)])])) (R242 [(AV.ptr (Ref.glob 0) 0)] [(Ent.obj [(dS r)])])) fun x8 => (some ((stA kk (0 : Int) x8.1 (0 : Int) (ba []) st T.1 T.2.1 T.2.2), [(Ent.obj [(dS x8.2)])])))
 (rAsk (kk == (2 : Int))
 (rGet (fnS (fun (p : Int × ByteArray) => ((jn p.1), [(Ent.obj [(dS p.2)])])) (R242 [(AV.ptr (Ref.glob 0) 0)] [(Ent.obj [(dS r)])])) fun x9 =>
 (rGet (fnS (fun (p : ByteArray × Int) => ((AV.tup [(dS p.1), (jn p.2)]), [(Ent.obj [(dS x9.2)])])) (P138 [(dS x9.2)] [(Ent.obj [(dS x9.2)])])) fun x10 =>
 (rAsk (x10.2 == (0 : Int)) (some ((stA kk (0 : Int) x9.1 (0 : Int) x10.1 st T.1 T.2.1 T.2.2), [(Ent.obj [(dS x9.2)])])) (some ((stA kk (0 : Int) x9.1 (0 : Int) (ba []) st T.1 T.2.1 T.2.2), [(Ent.obj [(dS x9.2)])])))))
 (rAsk (kk == (6 : Int))
 (rGet (fnS (fun (p : Int × ByteArray) => ((jn p.1), [(Ent.obj [(dS p.2)])])) (R242 [(AV.ptr (Ref.glob 0) 0)] [(Ent.obj [(dS r)])])) fun x11 => (some ((stA kk x11.1 (0 : Int) (0 : Int) (ba []) st T.1 T.2.1 T.2.2), [(Ent.obj [(dS x11.2)])])))
 (rAsk (kk == (15 : Int))
 (rGet (fnS (fun (p : Int × ByteArray) => ((jn p.1), [(Ent.obj [(dS p.2)])])) (R242 [(AV.ptr (Ref.glob 0) 0)] [(Ent.obj [(dS r)])])) fun x12 => (some ((stA kk x12.1 (0 : Int) (0 : Int) (ba []) st T.1 T.2.1 T.2.2), [(Ent.obj [(dS x12.2)])])))
 (rAsk (kk == (13 : Int))
 (rGet (fnS (fun (p : Int × ByteArray) => ((jn p.1), [(Ent.obj [(dS p.2)])])) (R242 [(AV.ptr (Ref.glob 0) 0)] [(Ent.obj [(dS r)])])) fun x13 => (some ((stA kk x13.1 (0 : Int) (0 : Int) (ba []) st T.1 T.2.1 T.2.2), [(Ent.obj [(dS x13.2)])])))
 (rAsk (kk == (7 : Int))
 (rGet (fnS (fun (p : Int × ByteArray) => ((jn p.1), [(Ent.obj [(dS p.2)])])) (R242 [(AV.ptr (Ref.glob 0) 0)] [(Ent.obj [(dS r)])])) fun x14 => (some ((stA kk (0 : Int) (0 : Int) x14.1 (ba []) st T.1 T.2.1 T.2.2), [(Ent.obj [(dS x14.2)])])))
 (rAsk (kk == (8 : Int))
 (rGet (fnS (fun (p : Int × ByteArray) => ((jn p.1), [(Ent.obj [(dS p.2)])])) (R242 [(AV.ptr (Ref.glob 0) 0)] [(Ent.obj [(dS r)])])) fun x15 => (some ((stA kk (0 : Int) (0 : Int) x15.1 (ba []) st T.1 T.2.1 T.2.2), [(Ent.obj [(dS x15.2)])])))
 (rAsk (kk == (9 : Int))
 (rGet (fnS (fun (p : Int × ByteArray) => ((jn p.1), [(Ent.obj [(dS p.2)])])) (R242 [(AV.ptr (Ref.glob 0) 0)] [(Ent.obj [(dS r)])])) fun x16 => (some ((stA kk (0 : Int) (0 : Int) x16.1 (ba []) st T.1 T.2.1 T.2.2), [(Ent.obj [(dS x16.2)])])))
 (rAsk (kk == (10 : Int))
 (rGet (fnS (fun (p : Int × ByteArray) => ((jn p.1), [(Ent.obj [(dS p.2)])])) (R242 [(AV.ptr (Ref.glob 0) 0)] [(Ent.obj [(dS r)])])) fun x17 =>
 (rGet (fnS (fun (p : Int × ByteArray) => ((jn p.1), [(Ent.obj [(dS p.2)])])) (R242 [(AV.ptr (Ref.glob 0) 0)] [(Ent.obj [(dS x17.2)])])) fun x18 => (some ((stA kk (0 : Int) x18.1 x17.1 (ba []) st T.1 T.2.1 T.2.2), [(Ent.obj [(dS x18.2)])]))))
 (rAsk (kk == (12 : Int))
 (rGet (fnS (fun (p : Int × ByteArray) => ((jn p.1), [(Ent.obj [(dS p.2)])])) (R242 [(AV.ptr (Ref.glob 0) 0)] [(Ent.obj [(dS r)])])) fun x19 =>
 (rGet (fnS (fun (p : TK3 × ByteArray) => ((AV.dat (D.list p.1.1 p.1.2.1 p.1.2.2)), [(Ent.obj [(dS p.2)])])) (R243 [(AV.ptr (Ref.glob 0) 0)] [(Ent.obj [(dS x19.2)])])) fun x20 => (some ((stA kk x19.1 (0 : Int) (0 : Int) (ba []) st x20.1.1 x20.1.2.1 x20.1.2.2), [(Ent.obj [(dS x20.2)])])))) (some ((stA kk (0 : Int) (0 : Int) (0 : Int) (ba []) st T.1 T.2.1 T.2.2), [(Ent.obj [(dS r)])])))))))))))))
    ) : TK3 → ByteArray → Option (AV × List Ent)) (kvL l) (ba r0) = some (.agg (stT (tSt (tailP kk r0 ⟨kk, 0, 0, 0, [], st, l⟩))), G') := by
  have hw := wordR_le r0
  have e42 := fnS_eq (out := oTn (gTk (ba r0))) oTn_inj (r242 (s := r0) (by omega) (gTk (ba r0)))
  have e42' := fnS_eq (out := oTn (gTk (ba (wordR r0).2))) oTn_inj (r242 (s := (wordR r0).2) (by omega) (gTk (ba (wordR r0).2)))
  have e43 := fnS_eq (out := oTk (gTk (ba (wordR r0).2))) oTk_inj (r243 (s := (wordR r0).2) (by omega) (gTk (ba (wordR r0).2)))
  have e38 := fnS_eq (out := oLg (gTk (ba (wordR r0).2))) oLg_inj (p138 (t := (wordR r0).2) (by omega) (gTk (ba (wordR r0).2)))
  have bT : ∀ (j : Int), kk = j → (kk == j) = true := fun j h => by rw [beq_iff_eq]; exact h
  have bF : ∀ (j : Int), kk ≠ j → (kk == j) = false := fun j h => by rw [beq_eq_false_iff_ne]; exact h
  unfold tailP
  by_cases h1 : kk = 1
  · rw [if_pos (show kAt kk by omega)]
    exact ⟨_, aT (bT 1 h1) (gStep e42 rfl)⟩
  by_cases h14 : kk = 14
  · rw [if_pos (show kAt kk by omega)]
    exact ⟨_, aF (bF 1 h1) (aT (bT 14 h14) (gStep e42 rfl))⟩
  by_cases h2 : kk = 2
  · rw [if_neg (show ¬ (kAt kk) by omega), if_pos (show kk = 2 by omega)]
    cases hp : progL (wordR r0).2 with
    | none =>
      rw [hp] at e38
      exact ⟨_, aF (bF 1 h1) (aF (bF 14 h14) (aT (bT 2 h2) (gStep e42 (gStep e38 (aF rfl rfl)))))⟩
    | some q =>
      rw [hp] at e38
      exact ⟨_, aF (bF 1 h1) (aF (bF 14 h14) (aT (bT 2 h2) (gStep e42 (gStep e38 (aT rfl rfl)))))⟩
  by_cases h6 : kk = 6
  · rw [if_neg (show ¬ (kAt kk) by omega), if_neg (show ¬ (kk = 2) by omega), if_pos (show kNode kk by omega)]
    exact ⟨_, aF (bF 1 h1) (aF (bF 14 h14) (aF (bF 2 h2) (aT (bT 6 h6) (gStep e42 rfl))))⟩
  by_cases h15 : kk = 15
  · rw [if_neg (show ¬ (kAt kk) by omega), if_neg (show ¬ (kk = 2) by omega), if_pos (show kNode kk by omega)]
    exact ⟨_, aF (bF 1 h1) (aF (bF 14 h14) (aF (bF 2 h2) (aF (bF 6 h6) (aT (bT 15 h15) (gStep e42 rfl)))))⟩
  by_cases h13 : kk = 13
  · rw [if_neg (show ¬ (kAt kk) by omega), if_neg (show ¬ (kk = 2) by omega), if_pos (show kNode kk by omega)]
    exact ⟨_, aF (bF 1 h1) (aF (bF 14 h14) (aF (bF 2 h2) (aF (bF 6 h6) (aF (bF 15 h15) (aT (bT 13 h13) (gStep e42 rfl))))))⟩
  by_cases h7 : kk = 7
  · rw [if_neg (show ¬ (kAt kk) by omega), if_neg (show ¬ (kk = 2) by omega), if_neg (show ¬ (kNode kk) by omega), if_pos (show kN kk by omega)]
    exact ⟨_, aF (bF 1 h1) (aF (bF 14 h14) (aF (bF 2 h2) (aF (bF 6 h6) (aF (bF 15 h15) (aF (bF 13 h13) (aT (bT 7 h7) (gStep e42 rfl)))))))⟩
  by_cases h8 : kk = 8
  · rw [if_neg (show ¬ (kAt kk) by omega), if_neg (show ¬ (kk = 2) by omega), if_neg (show ¬ (kNode kk) by omega), if_pos (show kN kk by omega)]
    exact ⟨_, aF (bF 1 h1) (aF (bF 14 h14) (aF (bF 2 h2) (aF (bF 6 h6) (aF (bF 15 h15) (aF (bF 13 h13) (aF (bF 7 h7) (aT (bT 8 h8) (gStep e42 rfl))))))))⟩
  by_cases h9 : kk = 9
  · rw [if_neg (show ¬ (kAt kk) by omega), if_neg (show ¬ (kk = 2) by omega), if_neg (show ¬ (kNode kk) by omega), if_pos (show kN kk by omega)]
    exact ⟨_, aF (bF 1 h1) (aF (bF 14 h14) (aF (bF 2 h2) (aF (bF 6 h6) (aF (bF 15 h15) (aF (bF 13 h13) (aF (bF 7 h7) (aF (bF 8 h8) (aT (bT 9 h9) (gStep e42 rfl)))))))))⟩
  by_cases h10 : kk = 10
  · rw [if_neg (show ¬ (kAt kk) by omega), if_neg (show ¬ (kk = 2) by omega), if_neg (show ¬ (kNode kk) by omega), if_neg (show ¬ (kN kk) by omega), if_pos (show kk = 10 by omega)]
    exact ⟨_, aF (bF 1 h1) (aF (bF 14 h14) (aF (bF 2 h2) (aF (bF 6 h6) (aF (bF 15 h15) (aF (bF 13 h13) (aF (bF 7 h7) (aF (bF 8 h8) (aF (bF 9 h9) (aT (bT 10 h10) (gStep e42 (gStep e42' rfl)))))))))))⟩
  by_cases h12 : kk = 12
  · rw [if_neg (show ¬ (kAt kk) by omega), if_neg (show ¬ (kk = 2) by omega), if_neg (show ¬ (kNode kk) by omega), if_neg (show ¬ (kN kk) by omega), if_neg (show ¬ (kk = 10) by omega), if_pos (show kk = 12 by omega)]
    exact ⟨_, aF (bF 1 h1) (aF (bF 14 h14) (aF (bF 2 h2) (aF (bF 6 h6) (aF (bF 15 h15) (aF (bF 13 h13) (aF (bF 7 h7) (aF (bF 8 h8) (aF (bF 9 h9) (aF (bF 10 h10) (aT (bT 12 h12) (gStep e42 (gStep e43 rfl))))))))))))⟩
  rw [if_neg (show ¬ (kAt kk) by omega), if_neg (show ¬ (kk = 2) by omega), if_neg (show ¬ (kNode kk) by omega), if_neg (show ¬ (kN kk) by omega), if_neg (show ¬ (kk = 10) by omega), if_neg (show ¬ (kk = 12) by omega)]
  exact ⟨_, aF (bF 1 h1) (aF (bF 14 h14) (aF (bF 2 h2) (aF (bF 6 h6) (aF (bF 15 h15) (aF (bF 13 h13) (aF (bF 7 h7) (aF (bF 8 h8) (aF (bF 9 h9) (aF (bF 10 h10) (aF (bF 12 h12) (rfl)))))))))))⟩
/-- the document's tail -/
theorem tail29 {kk st : Int} {l : List Bool} {r0 : List UInt8} (hr : r0.length ≤ 2000) :
    ((fun T r nv =>
 (rAsk (kk == (1 : Int)) (some ((stA kk (0 : Int) nv (0 : Int) (ba []) st T.1 T.2.1 T.2.2), []))
 (rAsk (kk == (14 : Int)) (some ((stA kk (0 : Int) nv (0 : Int) (ba []) st T.1 T.2.1 T.2.2), []))
 (rAsk (kk == (2 : Int))
 (rGet (fnS (fun (p : ByteArray × Int) => ((AV.tup [(dS p.1), (jn p.2)]), [])) (P126 [(dS r)] [])) fun x10 => (some ((stA kk (0 : Int) nv (0 : Int) x10.1 st T.1 T.2.1 T.2.2), [])))
 (rAsk (kk == (6 : Int)) (some ((stA kk nv (0 : Int) (0 : Int) (ba []) st T.1 T.2.1 T.2.2), []))
 (rAsk (kk == (15 : Int)) (some ((stA kk nv (0 : Int) (0 : Int) (ba []) st T.1 T.2.1 T.2.2), []))
 (rAsk (kk == (13 : Int)) (some ((stA kk nv (0 : Int) (0 : Int) (ba []) st T.1 T.2.1 T.2.2), []))
 (rAsk (kk == (7 : Int)) (some ((stA kk (0 : Int) (0 : Int) nv (ba []) st T.1 T.2.1 T.2.2), []))
 (rAsk (kk == (8 : Int)) (some ((stA kk (0 : Int) (0 : Int) nv (ba []) st T.1 T.2.1 T.2.2), []))
 (rAsk (kk == (9 : Int)) (some ((stA kk (0 : Int) (0 : Int) nv (ba []) st T.1 T.2.1 T.2.2), []))
 (rAsk (kk == (10 : Int))
 (rGet (fnS (fun (n : Int) => ((jn n), [])) (P124 [(dS r)] [])) fun x11 => (some ((stA kk (0 : Int) x11 nv (ba []) st T.1 T.2.1 T.2.2), [])))
 (rAsk (kk == (12 : Int))
 (rGet (fnS (fun (p : TK3 × Int) => ((AV.tup [(AV.dat (D.list p.1.1 p.1.2.1 p.1.2.2)), (jn p.2)]), [])) (P214 [(dS r)] [])) fun x12 => (some ((stA kk nv (0 : Int) (0 : Int) (ba []) st x12.1.1 x12.1.2.1 x12.1.2.2), []))) (some ((stA kk (0 : Int) (0 : Int) (0 : Int) (ba []) st T.1 T.2.1 T.2.2), [])))))))))))))
    ) : TK3 → ByteArray → Int → Option (AV × List Ent)) (kvL l) (ba (wordR r0).2) (numR (wordR r0).1) = some (.agg (stT (tSt (tailR kk r0 ⟨kk, 0, 0, 0, [], st, l⟩))), []) := by
  have hw := wordR_le r0
  have e24 := fnS_eq (out := oI []) oI_injW (p124 (wordR r0).2 [])
  have e14 := fnS_eq (out := oKp []) oKp_inj (p214 (s := (wordR r0).2) (by omega) [])
  have e26 := fnS_eq (out := oLg []) oLg_inj (p126 (wordR r0).2 [])
  have bT : ∀ (j : Int), kk = j → (kk == j) = true := fun j h => by rw [beq_iff_eq]; exact h
  have bF : ∀ (j : Int), kk ≠ j → (kk == j) = false := fun j h => by rw [beq_eq_false_iff_ne]; exact h
  unfold tailR
  by_cases h1 : kk = 1
  · rw [if_pos (show kAt kk by omega)]
    exact aT (bT 1 h1) rfl
  by_cases h14 : kk = 14
  · rw [if_pos (show kAt kk by omega)]
    exact aF (bF 1 h1) (aT (bT 14 h14) rfl)
  by_cases h2 : kk = 2
  · rw [if_neg (show ¬ (kAt kk) by omega), if_pos (show kk = 2 by omega)]
    refine aF (bF 1 h1) (aF (bF 14 h14) (aT (bT 2 h2) (gStep e26 ?_)))
    rw [lg_fst]
    rfl
  by_cases h6 : kk = 6
  · rw [if_neg (show ¬ (kAt kk) by omega), if_neg (show ¬ (kk = 2) by omega), if_pos (show kNode kk by omega)]
    exact aF (bF 1 h1) (aF (bF 14 h14) (aF (bF 2 h2) (aT (bT 6 h6) rfl)))
  by_cases h15 : kk = 15
  · rw [if_neg (show ¬ (kAt kk) by omega), if_neg (show ¬ (kk = 2) by omega), if_pos (show kNode kk by omega)]
    exact aF (bF 1 h1) (aF (bF 14 h14) (aF (bF 2 h2) (aF (bF 6 h6) (aT (bT 15 h15) rfl))))
  by_cases h13 : kk = 13
  · rw [if_neg (show ¬ (kAt kk) by omega), if_neg (show ¬ (kk = 2) by omega), if_pos (show kNode kk by omega)]
    exact aF (bF 1 h1) (aF (bF 14 h14) (aF (bF 2 h2) (aF (bF 6 h6) (aF (bF 15 h15) (aT (bT 13 h13) rfl)))))
  by_cases h7 : kk = 7
  · rw [if_neg (show ¬ (kAt kk) by omega), if_neg (show ¬ (kk = 2) by omega), if_neg (show ¬ (kNode kk) by omega), if_pos (show kN kk by omega)]
    exact aF (bF 1 h1) (aF (bF 14 h14) (aF (bF 2 h2) (aF (bF 6 h6) (aF (bF 15 h15) (aF (bF 13 h13) (aT (bT 7 h7) rfl))))))
  by_cases h8 : kk = 8
  · rw [if_neg (show ¬ (kAt kk) by omega), if_neg (show ¬ (kk = 2) by omega), if_neg (show ¬ (kNode kk) by omega), if_pos (show kN kk by omega)]
    exact aF (bF 1 h1) (aF (bF 14 h14) (aF (bF 2 h2) (aF (bF 6 h6) (aF (bF 15 h15) (aF (bF 13 h13) (aF (bF 7 h7) (aT (bT 8 h8) rfl)))))))
  by_cases h9 : kk = 9
  · rw [if_neg (show ¬ (kAt kk) by omega), if_neg (show ¬ (kk = 2) by omega), if_neg (show ¬ (kNode kk) by omega), if_pos (show kN kk by omega)]
    exact aF (bF 1 h1) (aF (bF 14 h14) (aF (bF 2 h2) (aF (bF 6 h6) (aF (bF 15 h15) (aF (bF 13 h13) (aF (bF 7 h7) (aF (bF 8 h8) (aT (bT 9 h9) rfl))))))))
  by_cases h10 : kk = 10
  · rw [if_neg (show ¬ (kAt kk) by omega), if_neg (show ¬ (kk = 2) by omega), if_neg (show ¬ (kNode kk) by omega), if_neg (show ¬ (kN kk) by omega), if_pos (show kk = 10 by omega)]
    exact aF (bF 1 h1) (aF (bF 14 h14) (aF (bF 2 h2) (aF (bF 6 h6) (aF (bF 15 h15) (aF (bF 13 h13) (aF (bF 7 h7) (aF (bF 8 h8) (aF (bF 9 h9) (aT (bT 10 h10) (gStep e24 rfl))))))))))
  by_cases h12 : kk = 12
  · rw [if_neg (show ¬ (kAt kk) by omega), if_neg (show ¬ (kk = 2) by omega), if_neg (show ¬ (kNode kk) by omega), if_neg (show ¬ (kN kk) by omega), if_neg (show ¬ (kk = 10) by omega), if_pos (show kk = 12 by omega)]
    refine aF (bF 1 h1) (aF (bF 14 h14) (aF (bF 2 h2) (aF (bF 6 h6) (aF (bF 15 h15) (aF (bF 13 h13) (aF (bF 7 h7) (aF (bF 8 h8) (aF (bF 9 h9) (aF (bF 10 h10) (aT (bT 12 h12) (gStep e14 ?_)))))))))))
    rw [ktOf_fst]
    rfl
  rw [if_neg (show ¬ (kAt kk) by omega), if_neg (show ¬ (kk = 2) by omega), if_neg (show ¬ (kNode kk) by omega), if_neg (show ¬ (kN kk) by omega), if_neg (show ¬ (kk = 10) by omega), if_neg (show ¬ (kk = 12) by omega)]
  exact aF (bF 1 h1) (aF (bF 14 h14) (aF (bF 2 h2) (aF (bF 6 h6) (aF (bF 15 h15) (aF (bF 13 h13) (aF (bF 7 h7) (aF (bF 8 h8) (aF (bF 9 h9) (aF (bF 10 h10) (aF (bF 12 h12) (rfl)))))))))))
theorem guess_run28 {s : List UInt8} (h : s.length ≤ 2000) : ∃ G', R228 [.dat (.str (ba s))] [] = some (.agg (stT (tSt (guessWP s))), G') := by
  have key : ∀ o, (g28t (ba s)).ev = o → R228 [.dat (.str (ba s))] [] = o := fun o h => by
    rw [Tr.ev_run] at h
    exact h
  have w1 := wordR_le s
  have w2 := wordR_le (r1 s)
  have w3 := wordR_le (r1 (r1 s))
  have w4 := wordR_le (r1 (r1 (r1 s)))
  have hr1 : ∀ t, r1 t = (wordR t).2 := fun _ => rfl
  simp only [hr1] at w2 w3 w4
  have e1 := fnS_eq (out := oTw (gTk (ba s))) oTw_inj (r241 (s := s) (by omega) (gTk (ba s)))
  have hm : ∀ w, (if (true = true) then (if idxW w > 0 then idxW w else 0) else (if idxW w < 0 then idxW w else 0)) = kindOf w := fun w => by
    rw [if_pos rfl]
    exact idx_max w
  unfold guessWP
  by_cases hst : (wordR s).1 = wStop
  · rw [if_pos hst]
    have e2 := fnS_eq (out := oTn (gTk (ba (r1 s)))) oTn_inj (r242 (s := r1 s) (by rw [hr1]; omega) (gTk (ba (r1 s))))
    have e3 := fnS_eq (out := oTk (gTk (ba (r1 (r1 s))))) oTk_inj (r243 (s := r1 (r1 s)) (by simp only [hr1]; omega) (gTk (ba (r1 (r1 s)))))
    have e4 := fnS_eq (out := oTw (gTk (ba (r1 (r1 (r1 s)))))) oTw_inj (r241 (s := r1 (r1 (r1 s))) (by simp only [hr1]; omega) (gTk (ba (r1 (r1 (r1 s))))))
    have e5 := fnS_eq (out := oRw (gTk (ba (wordR (r1 (r1 (r1 s)))).2))) oRw_inj (p220 (gTk (ba (wordR (r1 (r1 (r1 s)))).2)))
    have e6 := fnS_eq (out := oI (gTk (ba (wordR (r1 (r1 (r1 s)))).2))) oI_injW (p244 (wordR (r1 (r1 (r1 s)))).1 (gTk (ba (wordR (r1 (r1 (r1 s)))).2)))
    obtain ⟨G', tl⟩ := tail28 (kk := kindOf (wordR (r1 (r1 (r1 s)))).1) (st := numP (wordR (r1 s)).1) (l := keptD (wordR (r1 (r1 s))).1) (r0 := (wordR (r1 (r1 (r1 s)))).2) (by simp only [hr1]; omega)
    refine ⟨G', key _ ?_⟩
    rw [g28t_eq]
    refine gStep e1 (aT (by rw [eqw]; exact decide_eq_true hst) (gStep e2 (gStep e3 (gStep e4 (gStep e5 (gStep e6 ?_))))))
    rw [hm]
    exact tl
  · rw [if_neg hst]
    have e5 := fnS_eq (out := oRw (gTk (ba (r1 s)))) oRw_inj (p220 (gTk (ba (r1 s))))
    have e6 := fnS_eq (out := oI (gTk (ba (r1 s)))) oI_injW (p244 (wordR s).1 (gTk (ba (r1 s))))
    obtain ⟨G', tl⟩ := tail28 (kk := kindOf (wordR s).1) (st := 0) (l := []) (r0 := r1 s) (by rw [hr1]; omega)
    refine ⟨G', key _ ?_⟩
    rw [g28t_eq]
    refine gStep e1 (aF (by rw [eqw]; exact decide_eq_false hst) (gStep e5 (gStep e6 ?_)))
    rw [hm]
    exact tl
theorem p228 {s : List UInt8} (h : s.length ≤ 2000) (G : List Ent) : P228 [.dat (.str (ba s))] G = some (oSt G (tSt (guessWP s))) := by
  obtain ⟨G', hr⟩ := guess_run28 h
  unfold P228
  refine pureS_eq rfl hr ?_
  unfold tSt
  cases (guessWP s).keep <;> rfl
theorem guess_run29 {s : List UInt8} (h : s.length ≤ 2000) : R229 [.dat (.str (ba s))] [] = some (.agg (stT (tSt (guessWR s))), []) := by
  have key : ∀ o, (g29t (ba s)).ev = o → R229 [.dat (.str (ba s))] [] = o := fun o h => by
    rw [Tr.ev_run] at h
    exact h
  have w1 := wordR_le s
  have w2 := wordR_le (r1 s)
  have w3 := wordR_le (r1 (r1 s))
  have w4 := wordR_le (r1 (r1 (r1 s)))
  have hr1 : ∀ t, r1 t = (wordR t).2 := fun _ => rfl
  simp only [hr1] at w2 w3 w4
  have e1 := fnS_eq (out := oWw []) oWw_inj (p123 (s := s) (by omega) [])
  refine key _ ?_
  rw [g29t_eq]
  unfold guessWR
  by_cases hst : (wordR s).1 = wStop
  · rw [if_pos hst]
    have e2 := fnS_eq (out := oWw []) oWw_inj (p123 (s := r1 s) (by rw [hr1]; omega) [])
    have e3 := fnS_eq (out := oI []) oI_injW (p124 (wordR (r1 s)).1 [])
    have e4 := fnS_eq (out := oWw []) oWw_inj (p123 (s := r1 (r1 s)) (by simp only [hr1]; omega) [])
    have e5 := fnS_eq (out := oKp []) oKp_inj (p214 (s := (wordR (r1 (r1 s))).1) (by simp only [hr1]; omega) [])
    have e6 := fnS_eq (out := oWw []) oWw_inj (p123 (s := r1 (r1 (r1 s))) (by simp only [hr1]; omega) [])
    have e7 := fnS_eq (out := oI []) oI_injW (p248 (wordR (r1 (r1 (r1 s)))).1 [])
    have e8 := fnS_eq (out := oWw []) oWw_inj (p123 (s := (wordR (r1 (r1 (r1 s)))).2) (by simp only [hr1]; omega) [])
    have e9 := fnS_eq (out := oI []) oI_injW (p124 (wordR (wordR (r1 (r1 (r1 s)))).2).1 [])
    have tl := tail29 (kk := kindOf (wordR (r1 (r1 (r1 s)))).1) (st := numR (wordR (r1 s)).1) (l := keptD (wordR (r1 (r1 s))).1) (r0 := (wordR (r1 (r1 (r1 s)))).2) (by simp only [hr1]; omega)
    refine gStep e1 (aT (by rw [wwOf]; exact (eqw _ _).trans (decide_eq_true hst)) (gStep e2 (gStep e3 (gStep e4 (gStep e5 (gStep e6 (gStep e7 (gStep e8 (gStep e9 ?_)))))))))
    rw [ktOf_fst]
    exact tl
  · rw [if_neg hst]
    have e7 := fnS_eq (out := oI []) oI_injW (p248 (wordR s).1 [])
    have e8 := fnS_eq (out := oWw []) oWw_inj (p123 (s := r1 s) (by rw [hr1]; omega) [])
    have e9 := fnS_eq (out := oI []) oI_injW (p124 (wordR (r1 s)).1 [])
    have tl := tail29 (kk := kindOf (wordR s).1) (st := 0) (l := []) (r0 := r1 s) (by rw [hr1]; omega)
    refine gStep e1 (aF (by rw [wwOf]; exact (eqw _ _).trans (decide_eq_false hst)) (gStep e7 (gStep e8 (gStep e9 ?_))))
    exact tl
theorem p229 {s : List UInt8} (h : s.length ≤ 2000) (G : List Ent) : P229 [.dat (.str (ba s))] G = some (oSt G (tSt (guessWR s))) := by
  unfold P229
  refine pureS_eq rfl (guess_run29 h) ?_
  unfold tSt
  cases (guessWR s).keep <;> rfl
/-! ### Parse -/
theorem keptD_len (w : List UInt8) : (keptD w).length ≤ w.length := by
  unfold keptD
  cases h : kept w with
  | none => exact Nat.zero_le _
  | some l => exact kept_len h
theorem tailP_keep (k : Int) (rest : List UInt8) (x : Stw) (m : Nat) (h1 : rest.length ≤ m) (h2 : x.keep.length ≤ m) : (tailP k rest x).keep.length ≤ m := by
  have a := wordR_le rest
  have b := wordR_le (wordR rest).2
  have c := keptD_len (wordR (wordR rest).2).1
  unfold tailP
  split
  · exact h2
  split
  · exact h2
  split
  · exact h2
  split
  · exact h2
  split
  · exact h2
  split
  · show (keptD (wordR (wordR rest).2).1).length ≤ m
    omega
  · exact h2
theorem tailR_keep (k : Int) (rest : List UInt8) (x : Stw) (m : Nat) (h1 : rest.length ≤ m) (h2 : x.keep.length ≤ m) : (tailR k rest x).keep.length ≤ m := by
  have a := wordR_le rest
  have c := keptD_len (wordR rest).2
  unfold tailR
  split
  · exact h2
  split
  · exact h2
  split
  · exact h2
  split
  · exact h2
  split
  · exact h2
  split
  · show (keptD (wordR rest).2).length ≤ m
    omega
  · exact h2
theorem guessP_keep (s : List UInt8) : (guessWP s).keep.length ≤ s.length := by
  have w1 := wordR_le s
  have w2 := wordR_le (r1 s)
  have w3 := wordR_le (r1 (r1 s))
  have w4 := wordR_le (r1 (r1 (r1 s)))
  have hr1 : ∀ t, r1 t = (wordR t).2 := fun _ => rfl
  have c := keptD_len (wordR (r1 (r1 s))).1
  unfold guessWP
  simp only [hr1] at w2 w3 w4 c ⊢
  split
  · exact tailP_keep _ _ _ _ (by omega) (by simp only; omega)
  · exact tailP_keep _ _ _ _ (by omega) (Nat.zero_le _)
theorem guessR_keep (s : List UInt8) : (guessWR s).keep.length ≤ s.length := by
  have w1 := wordR_le s
  have w2 := wordR_le (r1 s)
  have w3 := wordR_le (r1 (r1 s))
  have w4 := wordR_le (r1 (r1 (r1 s)))
  have hr1 : ∀ t, r1 t = (wordR t).2 := fun _ => rfl
  have c := keptD_len (wordR (r1 (r1 s))).1
  unfold guessWR
  simp only [hr1] at w2 w3 w4 c ⊢
  split
  · exact tailR_keep _ _ _ _ (by omega) (by simp only; omega)
  · exact tailR_keep _ _ _ _ (by omega) (Nat.zero_le _)
theorem st_stv (x : Stw) : ∃ lk z, (.agg (stT (tSt x)) : AV) = stv x lk z ∧ (x.keep ≠ [] → z = 1) := by
  unfold tSt stv
  cases h : x.keep with
  | nil => exact ⟨.nil, 0, rfl, fun q => absurd rfl q⟩
  | cons b l => exact ⟨.any, 1, rfl, fun _ => rfl⟩
def psOf (p : Stw × Int) : TSt × Int := (tSt p.1, p.2)
theorem oPs_inj {G : List Ent} : ∀ x y, oPs G x = oPs G y → x = y := by
  rintro ⟨⟨a, b, c, d, e, f, g, h, i⟩, j⟩ ⟨⟨a', b', c', d', e', f', g', h', i'⟩, j'⟩ q
  simp [oPs, stT, stC, jn] at q
  obtain ⟨⟨rfl, rfl, rfl, rfl, rfl, rfl, rfl, rfl, rfl⟩, rfl⟩ := q
  rfl
theorem neqB (a b : List UInt8) : (!((ba a).toList == (ba b).toList)) = !decide (a = b) := by rw [sameB]
theorem p209 (s : List UInt8) (G : List Ent) : P209 [.dat (.str (ba s))] G = some (oPs G (psOf (readW guessWP s))) := by
  have key : ∀ o, (g9t (ba s)).ev = o → R209 [.dat (.str (ba s))] [] = o := fun o h => by
    rw [Tr.ev_run] at h
    exact h
  have hr : R209 [.dat (.str (ba s))] [] = some (oPs [] (psOf (readW guessWP s))) := by
    refine key _ ?_
    rw [g9t_eq, ba_sz]
    unfold readW
    by_cases h3 : 300 < s.length
    · rw [if_pos h3]
      exact aT (by rw [decide_eq_true_eq]; omega) rfl
    rw [if_neg h3]
    obtain ⟨lk, z, hx, hz⟩ := st_stv (guessWP s)
    have e28 := fnS_eq (out := oSt []) oSt_inj (p228 (s := s) (by omega) [])
    have e7 := fnS_eq (out := oLg []) oLg_inj (p207 (lk := lk) (z := z) (guessWP_fit s) (by have := guessP_keep s; omega) hz [])
    rw [← hx] at e7
    refine aF (by rw [decide_eq_false_iff_not]; omega) (gStep e28 (gStep e7 ?_))
    have hn : (lnS (guessWP s)).1 = ba (lineS (guessWP s)).1 := rfl
    have hn2 : (lnS (guessWP s)).2 = (lineS (guessWP s)).2 := rfl
    rw [hn, hn2]
    by_cases q2 : (lineS (guessWP s)).2 = 0
    · refine aF (by rw [q2]; rfl) ?_
      by_cases q1 : (lineS (guessWP s)).1 = s
      · rw [if_pos (Prod.ext q1 q2)]
        exact aF (by rw [neqB, decide_eq_true q1]; rfl) rfl
      · rw [if_neg (fun e => q1 (congrArg Prod.fst e))]
        exact aT (by rw [neqB, decide_eq_false q1]; rfl) rfl
    · rw [if_neg (fun e => q2 (congrArg Prod.snd e))]
      exact aT (by rw [bne_iff_ne]; exact q2) rfl
  unfold P209
  refine pureS_eq rfl hr ?_
  unfold psOf tSt
  cases (readW guessWP s).1.keep <;> rfl
theorem p211 (s : List UInt8) (G : List Ent) : P211 [.dat (.str (ba s))] G = some (oPs G (psOf (readW guessWR s))) := by
  have key : ∀ o, (g11t (ba s)).ev = o → R211 [.dat (.str (ba s))] [] = o := fun o h => by
    rw [Tr.ev_run] at h
    exact h
  have hr : R211 [.dat (.str (ba s))] [] = some (oPs [] (psOf (readW guessWR s))) := by
    refine key _ ?_
    rw [g11t_eq, ba_sz]
    unfold readW
    by_cases h3 : 300 < s.length
    · rw [if_pos h3]
      exact aT (by rw [decide_eq_true_eq]; omega) rfl
    rw [if_neg h3]
    obtain ⟨lk, z, hx, hz⟩ := st_stv (guessWR s)
    have e28 := fnS_eq (out := oSt []) oSt_inj (p229 (s := s) (by omega) [])
    have e7 := fnS_eq (out := oLg []) oLg_inj (p208 (lk := lk) (z := z) (guessWR_fit s) (by have := guessR_keep s; omega) hz [])
    rw [← hx] at e7
    refine aF (by rw [decide_eq_false_iff_not]; omega) (gStep e28 (gStep e7 ?_))
    have hn : (lnS (guessWR s)).1 = ba (lineS (guessWR s)).1 := rfl
    have hn2 : (lnS (guessWR s)).2 = (lineS (guessWR s)).2 := rfl
    rw [hn, hn2]
    by_cases q2 : (lineS (guessWR s)).2 = 0
    · refine aF (by rw [q2]; rfl) ?_
      by_cases q1 : (lineS (guessWR s)).1 = s
      · rw [if_pos (Prod.ext q1 q2)]
        exact aF (by rw [neqB, decide_eq_true q1]; rfl) rfl
      · rw [if_neg (fun e => q1 (congrArg Prod.fst e))]
        exact aT (by rw [neqB, decide_eq_false q1]; rfl) rfl
    · rw [if_neg (fun e => q2 (congrArg Prod.snd e))]
      exact aT (by rw [bne_iff_ne]; exact q2) rfl
  unfold P211
  refine pureS_eq rfl hr ?_
  unfold psOf tSt
  cases (readW guessWR s).1.keep <;> rfl
attribute [local irreducible] P209 P211
/-! ### the laws -/
theorem f3_runW {x : Stw} {lk : LK} {z : Nat} (hf : fitW x) (hz : x.keep ≠ [] → z = 1) : R203 [stv x lk z] [] = some (.dat (.bool true), []) := by
  have key : ∀ o, (g3t x.kind x.node x.at_ x.n (ba x.data) x.stop lk z (encB x.keep)).ev = o → R203 [stv x lk z] [] = o := fun o h => by
    rw [Tr.ev_run] at h
    exact h
  refine key _ ?_
  rw [g3t_eq, encB_len, ba_sz]
  have e6 := fnS_eq (out := oT []) oT_inj (p105 (G := []))
  by_cases h1 : x.keep.length > 400
  · exact aT (by rw [decide_eq_true_eq]; omega) (gStep e6 rfl)
  refine aF (by rw [decide_eq_false_iff_not]; omega) ?_
  by_cases h2 : x.data.length > 200
  · exact aT (by rw [decide_eq_true_eq]; omega) (gStep e6 rfl)
  refine aF (by rw [decide_eq_false_iff_not]; omega) ?_
  have e7 := fnS_eq (out := oLg []) oLg_inj (p207 (lk := lk) hf (by omega) hz [])
  have e8 := fnS_eq (out := oLg []) oLg_inj (p208 (lk := lk) hf (by omega) hz [])
  refine gStep e7 (gStep e8 (aF (by simp) (aF (by simp) ?_)))
  have hn : (lnS x).1 = ba (lineS x).1 := rfl
  have hn2 : (lnS x).2 = (lineS x).2 := rfl
  rw [hn, hn2]
  by_cases q2 : (lineS x).2 = 0
  · refine aF (by rw [q2]; rfl) ?_
    have hl : lineS x = ((lineS x).1, 0) := Prod.ext rfl q2
    have e9 := fnS_eq (out := oPs []) oPs_inj (p209 (lineS x).1 [])
    have hrd := read_line false hf hl
    simp only [Bool.false_eq_true, if_false] at hrd
    rw [hrd] at e9
    obtain ⟨lk', z', hx, hz'⟩ := st_stv x
    have e10 := fnS_eq (out := oB []) oB_inj (p210 (x := x) (y := x) (lk := lk) (z := z) (lk' := lk') (z' := z') (by omega) hz hz' [])
    rw [← hx] at e10
    exact gStep e9 (gStep e10 (aT (decide_eq_true rfl) (aT rfl (gStep e6 rfl))))
  · exact aT (by rw [bne_iff_ne]; exact q2) (gStep e6 rfl)
theorem f4_runW (a : ByteArray) : R204 [.dat (.str a)] [] = some (.dat (.bool true), []) := by
  obtain ⟨s, rfl⟩ : ∃ t, a = ba t := ⟨_, ba_of a⟩
  have key : ∀ o, (g4t (ba s)).ev = o → R204 [.dat (.str (ba s))] [] = o := fun o h => by
    rw [Tr.ev_run] at h
    exact h
  refine key _ ?_
  rw [g4t_eq, ba_sz]
  have e6 := fnS_eq (out := oT []) oT_inj (p105 (G := []))
  have e9 := fnS_eq (out := oPs []) oPs_inj (p209 s [])
  by_cases h3 : 300 < s.length
  · have hrd : readW guessWP s = (st00, 8) := by unfold readW; rw [if_pos h3]
    rw [hrd] at e9
    exact aT (by rw [decide_eq_true_eq]; omega) (gStep e9 (aT rfl (gStep e6 rfl)))
  refine aF (by rw [decide_eq_false_iff_not]; omega) ?_
  have e11 := fnS_eq (out := oPs []) oPs_inj (p211 s [])
  rw [← words_eq] at e11
  refine gStep e9 (gStep e11 ?_)
  have hk : (readW guessWP s).1.keep.length ≤ 10000 ∧ fitW (readW guessWP s).1 := by
    unfold readW
    rw [if_neg h3]
    split
    · have := guessP_keep s
      exact ⟨by simp only; omega, guessWP_fit s⟩
    · exact ⟨Nat.zero_le _, fit0, fit0, fit0, fit0, fit0⟩
  have hok : (readW guessWP s).2 = 0 → lineS (readW guessWP s).1 = (s, 0) := fun q => (read_ok (g := guessWP) (s := s) (x := (readW guessWP s).1) (Prod.ext rfl q)).2
  generalize readW guessWP s = p at hk hok
  obtain ⟨x, c⟩ := p
  simp only at hk hok
  obtain ⟨lk, z, hx, hz⟩ := st_stv x
  have e10 := fnS_eq (out := oB []) oB_inj (p210 (x := x) (y := x) (lk := lk) (z := z) (lk' := lk) (z' := z) (by omega) hz hz [])
  have e7 := fnS_eq (out := oLg []) oLg_inj (p207 (x := x) (lk := lk) (z := z) hk.2 hk.1 hz [])
  rw [← hx] at e10 e7
  refine gStep e10 (aF (by rw [decide_eq_true rfl]; rfl) (aF (by simp) (gStep e7 ?_)))
  by_cases q : c = 0
  · subst q
    have hl := hok rfl
    have hn : (lnS x).1 = ba s := by show ba (lineS x).1 = _; rw [hl]
    have hn2 : (lnS x).2 = 0 := by show (lineS x).2 = _; rw [hl]
    rw [hn, hn2]
    exact aF rfl (aT (by rw [sameB]; simp) (aT rfl (gStep e6 rfl)))
  · exact aT (by rw [bne_iff_ne]; exact q) (gStep e6 rfl)
end Go.Eng
end

/- Steps as lines: the contracts. -/
section
namespace Go.Eng
open Go
set_option maxRecDepth 100000

theorem loV38_ok : ∀ c, Go.Proofs.Tryz.f38.body = some c → LoOk2 TT tNone.runs (HSc 34) lo34 c := lo_one (lp := lp34) (by kernel_rfl) fun st r h => by
  rw [show firstRegion lp34 = 3 from by kernel_rfl] at h
  exact tlo_ok h
theorem cV38 : COk PP 38 R134 := tok_fn (H := HSc 34) TT_ok TOk.nil Go.Proofs.Tryz.func38 (by kernel_rfl) loV38_ok
theorem cV26 : COk PP 26 R118 := tok_fn (H := fun _ => []) TT_ok (TOk.cons (COk.spec (out := fun _ G => oS G) cV38.pure) TOk.nil) Go.Proofs.Tryz.func26 (by kernel_rfl) fun _ _ => LoOk2.no _
theorem loV46_ok : ∀ c, Go.Proofs.Tryz.f46.body = some c → LoOk2 TT tNone.runs (HSp 23) lo23 c := lo_one (lp := lp23) (by kernel_rfl) fun st r h => by
  rw [show firstRegion lp23 = 2 from by kernel_rfl] at h
  exact tlo2_ok h
theorem cV46 : COk PP 46 R123 := tok_fn (H := HSp 23) TT_ok TOk.nil Go.Proofs.Tryz.func46 (by kernel_rfl) loV46_ok
theorem loV47_ok : ∀ c, Go.Proofs.Tryz.f47.body = some c → LoOk2 TT tNone.runs (HSp 24) lo24 c := lo_one (lp := lp24) (by kernel_rfl) fun st r h => by
  rw [show firstRegion lp24 = 6 from by kernel_rfl] at h
  exact tlo_ok h
theorem cV47 : COk PP 47 R124 := tok_fn (H := HSp 24) TT_ok TOk.nil Go.Proofs.Tryz.func47 (by kernel_rfl) loV47_ok
theorem loV34_ok : ∀ c, Go.Proofs.Tryz.f34.body = some c → LoOk2 TT tNone.runs (HSe 34) lo34e c := lo_one (lp := lp34e) (by kernel_rfl) fun st r h => by
  rw [show firstRegion lp34e = 4 from by kernel_rfl] at h
  exact tlo2_ok h
theorem cV34 : COk PP 34 R234 := tok_fn (H := HSe 34) TT_ok TOk.nil Go.Proofs.Tryz.func34 (by kernel_rfl) loV34_ok
theorem cV18 : COk PP 18 R218 := tok_fn (H := fun _ => []) TT_ok (TOk.cons (COk.spec (out := fun _ G => oB G) cV34.pure) TOk.nil) Go.Proofs.Tryz.func18 (by kernel_rfl) fun _ _ => LoOk2.no _
theorem loV10_ok : ∀ c, Go.Proofs.Tryz.f10.body = some c → LoOk2 TT tNone.runs (HSe 10) lo10s c := lo_one (lp := lp10s) (by kernel_rfl) fun st r h => by
  rw [show firstRegion lp10s = 4 from by kernel_rfl] at h
  exact tlo2_ok h
theorem cV10 : COk PP 10 R210 := tok_fn (H := HSe 10) TT_ok TOk.nil Go.Proofs.Tryz.func10 (by kernel_rfl) loV10_ok
theorem loV44_ok : ∀ c, Go.Proofs.Tryz.f44.body = some c → LoOk2 TT tNone.runs (HSe 44) lo44w c := lo_one (lp := lp44w) (by kernel_rfl) fun st r h => by
  rw [show firstRegion lp44w = 2 from by kernel_rfl] at h
  exact tlo2_ok h
theorem cV44 : COk PP 44 R244 := tok_fn (H := HSe 44) TT_ok TOk.nil Go.Proofs.Tryz.func44 (by kernel_rfl) loV44_ok
theorem t248_ok : TOk PP t248 := TOk.cons (COk.spec (out := fun _ G => oRw G) (E_ok 25).pure) TOk.nil
theorem loV48_ok : ∀ c, Go.Proofs.Tryz.f48.body = some c → LoOk2 TT t248.runs (HSe 48) lo48w c := lo_one (lp := lp48w) (by kernel_rfl) fun st r h => by
  rw [show firstRegion lp48w = 3 from by kernel_rfl] at h
  exact tlo2_ok h
theorem cV48 : COk PP 48 R248 := tok_fn (H := HSe 48) TT_ok t248_ok Go.Proofs.Tryz.func48 (by kernel_rfl) loV48_ok
theorem cV41 : COk PP 41 R241 := tok_fn (H := fun _ => []) TT_ok (TOk.cons (COk.spec (out := fun _ G => oC G) c66) TOk.nil) Go.Proofs.Tryz.func41 (by kernel_rfl) fun _ _ => LoOk2.no _
theorem cV42 : COk PP 42 R242 := tok_fn (H := fun _ => []) TT_ok (TOk.cons (COk.spec (out := fun _ G => oTw G) cV41) (TOk.cons (COk.spec2 (o1 := fun _ G => oAo G) (o2 := fun _ G => oAe G) c68) TOk.nil)) Go.Proofs.Tryz.func42 (by kernel_rfl) fun _ _ => LoOk2.no _
theorem cV43 : COk PP 43 R243 := tok_fn (H := fun _ => []) TT_ok (TOk.cons (COk.spec (out := fun _ G => oTw G) cV41) (TOk.cons (COk.spec (out := fun _ G => oKp G) cV13.pure) TOk.nil)) Go.Proofs.Tryz.func43 (by kernel_rfl) fun _ _ => LoOk2.no _
theorem t217_ok : TOk PP t217 := TOk.cons (COk.spec (out := fun _ G => oS G) c13) (TOk.cons (COk.spec (out := fun _ G => oS G) c7.pure) (TOk.cons (COk.spec (out := fun _ G => oS G) cKeep) TOk.nil))
theorem cV17 : COk PP 17 R217 := tok_fn (H := fun _ => []) TT_ok t217_ok Go.Proofs.Tryz.func17 (by kernel_rfl) fun _ _ => LoOk2.no _
theorem t207_ok : TOk PP t207 := TOk.cons (COk.spec (out := fun _ G => oTd G) cV17.pure) (TOk.cons (COk.spec (out := fun _ G => oB G) cV18.pure) (TOk.cons (COk.spec (out := fun _ G => oB G) (t8_ok 19).pure) (TOk.cons (COk.spec (out := fun _ G => oRw G) (E_ok 20).pure) (TOk.cons (COk.spec (out := fun _ G => oS G) c13) (TOk.cons (COk.spec (out := fun _ G => oS G) cKeep) (TOk.cons (COk.spec (out := fun _ G => oS G) c16n) TOk.nil))))))
theorem cV7 : COk PP 7 R207 := tok_fn (H := fun _ => []) TT_ok t207_ok Go.Proofs.Tryz.func7 (by kernel_rfl) fun _ _ => LoOk2.no _
theorem cV24 : COk PP 24 R224 := tok_fn (H := fun _ => []) TT_ok TOk.nil Go.Proofs.Tryz.func24 (by kernel_rfl) fun _ _ => LoOk2.no _
theorem t208_ok : TOk PP t208 := TOk.cons (COk.spec (out := fun _ G => oB G) (t8_ok 23).pure) (TOk.cons (COk.spec (out := fun _ G => oSt G) cV24.pure) (TOk.cons (COk.spec (out := fun _ G => oB G) cV10.pure) (TOk.cons (COk.spec (out := fun _ G => oRw G) (E_ok 25).pure) (TOk.cons (COk.spec (out := fun _ G => oS G) cV26.pure) (TOk.cons (COk.spec (out := fun _ G => oS G) c10.pure) (TOk.cons (COk.spec (out := fun _ G => oS G) cV15.pure) TOk.nil))))))
theorem cV8 : COk PP 8 R208 := tok_fn (H := fun _ => []) TT_ok t208_ok Go.Proofs.Tryz.func8 (by kernel_rfl) fun _ _ => LoOk2.no _
theorem t228_ok : TOk PP t228 := TOk.cons (COk.spec (out := fun _ G => oTw G) cV41) (TOk.cons (COk.spec (out := fun _ G => oTn G) cV42) (TOk.cons (COk.spec (out := fun _ G => oTk G) cV43) (TOk.cons (COk.spec (out := fun _ G => oRw G) (E_ok 20).pure) (TOk.cons (COk.spec (out := fun _ G => oI G) cV44.pure) (TOk.cons (COk.spec (out := fun _ G => oLg G) c8.pure) TOk.nil)))))
theorem cV28 : COk PP 28 R228 := tok_fn (H := fun _ => []) TT_ok t228_ok Go.Proofs.Tryz.func28 (by kernel_rfl) fun _ _ => LoOk2.no _
theorem t229_ok : TOk PP t229 := TOk.cons (COk.spec (out := fun _ G => oWw G) cV46.pure) (TOk.cons (COk.spec (out := fun _ G => oI G) cV47.pure) (TOk.cons (COk.spec (out := fun _ G => oKp G) cV14.pure) (TOk.cons (COk.spec (out := fun _ G => oI G) cV48.pure) (TOk.cons (COk.spec (out := fun _ G => oLg G) c9.pure) TOk.nil))))
theorem cV29 : COk PP 29 R229 := tok_fn (H := fun _ => []) TT_ok t229_ok Go.Proofs.Tryz.func29 (by kernel_rfl) fun _ _ => LoOk2.no _
theorem t209_ok : TOk PP t209 := TOk.cons (COk.spec (out := fun _ G => oSt G) cV28.pure) (TOk.cons (COk.spec (out := fun _ G => oLg G) cV7.pure) TOk.nil)
theorem cV9 : COk PP 9 R209 := tok_fn (H := fun _ => []) TT_ok t209_ok Go.Proofs.Tryz.func9 (by kernel_rfl) fun _ _ => LoOk2.no _
theorem t211_ok : TOk PP t211 := TOk.cons (COk.spec (out := fun _ G => oSt G) cV29.pure) (TOk.cons (COk.spec (out := fun _ G => oLg G) cV8.pure) TOk.nil)
theorem cV11 : COk PP 11 R211 := tok_fn (H := fun _ => []) TT_ok t211_ok Go.Proofs.Tryz.func11 (by kernel_rfl) fun _ _ => LoOk2.no _
theorem t203_ok : TOk PP t203 := TOk.cons (COk.spec (out := fun _ G => oT G) (E_ok 6).pure) (TOk.cons (COk.spec (out := fun _ G => oLg G) cV7.pure) (TOk.cons (COk.spec (out := fun _ G => oLg G) cV8.pure) (TOk.cons (COk.spec (out := fun _ G => oPs G) cV9.pure) (TOk.cons (COk.spec (out := fun _ G => oB G) cV10.pure) TOk.nil))))
theorem cV3 : COk PP 3 R203 := tok_fn (H := fun _ => []) TT_ok t203_ok Go.Proofs.Tryz.func3 (by kernel_rfl) fun _ _ => LoOk2.no _
theorem t204_ok : TOk PP t204 := TOk.cons (COk.spec (out := fun _ G => oT G) (E_ok 6).pure) (TOk.cons (COk.spec (out := fun _ G => oLg G) cV7.pure) (TOk.cons (COk.spec (out := fun _ G => oPs G) cV9.pure) (TOk.cons (COk.spec (out := fun _ G => oPs G) cV11.pure) (TOk.cons (COk.spec (out := fun _ G => oB G) cV10.pure) TOk.nil))))
theorem cV4 : COk PP 4 R204 := tok_fn (H := fun _ => []) TT_ok t204_ok Go.Proofs.Tryz.func4 (by kernel_rfl) fun _ _ => LoOk2.no _
end Go.Eng
end
