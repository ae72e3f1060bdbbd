/- Sectors out of short texts: the document's Long is the plain one. -/
import Derived.Test.YtnkiegafaiebiaaDoorSp29
section
namespace Go.Eng
open Go
set_option maxRecDepth 100000
set_option linter.unusedSimpArgs false

theorem rk9bt_eq (s acc : ByteArray) (l : Row) (i : Int) (c : ByteArray) (k : Int) : (rk9bt s acc l i c k).ev =
 (rAsk (decide (k > (0 : Int)))
 (rAsk (Nat.ble ((ByteArray.size acc) + (ByteArray.size c)) 9223372036854775807)
 (some (Ex.norm, (St.mk (mkT 0 59 [(0, (AV.dat (D.str s))), (4, (AV.dat (D.str (acc ++ c)))), (5, (AV.dat (D.list LK.full 1 l))), (6, (AV.dat (D.int IntKind.i64 i))), (7, (AV.dat (D.str c))), (9, (AV.dat (D.int IntKind.i64 (IntKind.wrap IntKind.i64 (k - (1 : Int))))))]) (Mem.mk [] [] 0))))
 none
 )
 (some ((Ex.exit 2), (St.mk (mkT 0 59 [(0, (AV.dat (D.str s))), (4, (AV.dat (D.str acc))), (5, (AV.dat (D.list LK.full 1 l))), (6, (AV.dat (D.int IntKind.i64 i)))]) (Mem.mk [] [] 0))))
 )
  := by kernel_rfl
theorem rk9bf_eq (s acc : ByteArray) (l : Row) (i : Int) (c : ByteArray) (k : Int) : (rk9bf s acc l i c k).ev =
 (rAsk (decide (k > (0 : Int)))
 (rAsk (Nat.ble ((ByteArray.size acc) + (ByteArray.size c)) 9223372036854775807)
 (some (Ex.norm, (St.mk (mkT 0 59 [(0, (AV.dat (D.str s))), (4, (AV.dat (D.str (acc ++ c)))), (5, (AV.sh false 0 1 0 (List.length l))), (6, (AV.dat (D.int IntKind.i64 i))), (7, (AV.dat (D.str c))), (9, (AV.dat (D.int IntKind.i64 (IntKind.wrap IntKind.i64 (k - (1 : Int))))))]) (Mem.mk [(Option.some (Ent.row Mode.excl 1 l))] [] 0))))
 none
 )
 (some ((Ex.exit 2), (St.mk (mkT 0 59 [(0, (AV.dat (D.str s))), (4, (AV.dat (D.str acc))), (5, (AV.sh false 0 1 0 (List.length l))), (6, (AV.dat (D.int IntKind.i64 i)))]) (Mem.mk [(Option.some (Ent.row Mode.excl 1 l))] [] 0))))
 )
  := by kernel_rfl
theorem rk9t_eq (s acc : ByteArray) (l : Row) (i : Int) : (rk9t s acc l i).ev =
 (rAsk (decide (i < (((List.length l) : Nat) : Int)))
 (rAsk (true && ((decide ((0 : Int) ≤ i)) && (decide (i < (((List.length l) : Nat) : Int)))))
 (rGet l[(Int.toNat i)]? fun x1 =>
 (rGet (List.head? (List.drop 0 x1)) fun x2 =>
 (rGet (D.str? x2) fun x3 =>
 (rAsk (decide ((((ByteArray.size x3) : Nat) : Int) < (2 : Int)))
 (some (Ex.ret, (St.mk (mkT 0 59 [(0, (AV.dat (D.str s))), (2, (AV.dat (D.str (ByteArray.mk (List.toArray []))))), (3, (AV.dat (D.int IntKind.i64 (6 : Int)))), (4, (AV.dat (D.str acc)))]) (Mem.mk [] [] 0))))
 (rAsk (true && ((decide ((0 : Int) ≤ i)) && (decide (i < (((List.length l) : Nat) : Int)))))
 (rGet l[(Int.toNat i)]? fun x4 =>
 (rGet (List.head? (List.drop 0 x4)) fun x5 =>
 (rGet (D.str? x5) fun x6 =>
 (rAsk (true && (true && (decide ((2 : Int) ≤ (((ByteArray.size x6) : Nat) : Int)))))
 (rGet (fnS (fun (p : ByteArray × Bool) => ((AV.tup [(AV.dat (D.str p.1)), (AV.dat (D.bool p.2))]), [])) (P29 [(AV.dat (D.str (ByteArray.extract x6 0 2)))] [])) fun x7 =>
 (rAsk (!x7.2)
 (some (Ex.ret, (St.mk (mkT 0 59 [(0, (AV.dat (D.str s))), (2, (AV.dat (D.str (ByteArray.mk (List.toArray []))))), (3, (AV.dat (D.int IntKind.i64 (6 : Int)))), (4, (AV.dat (D.str acc)))]) (Mem.mk [] [] 0))))
 (rAsk (true && ((decide ((0 : Int) ≤ i)) && (decide (i < (((List.length l) : Nat) : Int)))))
 (rGet l[(Int.toNat i)]? fun x8 =>
 (rGet (List.head? (List.drop 0 x8)) fun x9 =>
 (rGet (fnS (fun (n : Int) => ((AV.dat (D.int IntKind.i64 n)), [])) (P30 [(AV.dat x9)] [])) fun x10 =>
 (rGet (loS TT (TOrc.runs t9) (HSm 9) lp9b (out9b (AV.dat (D.str s)) (AV.dat (D.list LK.full 1 l)) (AV.dat (D.int IntKind.i64 i)) []) (St.mk (mkT 0 59 [(0, (AV.dat (D.str s))), (4, (AV.dat (D.str acc))), (5, (AV.dat (D.list LK.full 1 l))), (6, (AV.dat (D.int IntKind.i64 i))), (7, (AV.dat (D.str x7.1))), (9, (AV.dat (D.int IntKind.i64 x10)))]) (Mem.mk [] [] 0))) fun x11 =>
 (some (Ex.norm, (St.mk (mkT 0 59 [(0, (AV.dat (D.str s))), (4, (AV.dat (D.str x11))), (5, (AV.dat (D.list LK.full 1 l))), (6, (AV.dat (D.int IntKind.i64 (IntKind.wrap IntKind.i64 (i + (1 : Int))))))]) (Mem.mk [] [] 0))))
 )
 )
 )
 )
 none
 )
 )
 )
 none
 )
 )
 )
 )
 none
 )
 )
 )
 )
 )
 none
 )
 (some ((Ex.exit 0), (St.mk (mkT 0 59 [(0, (AV.dat (D.str s))), (4, (AV.dat (D.str acc)))]) (Mem.mk [] [] 0))))
 )
  := by kernel_rfl
theorem rk9f_eq (s acc : ByteArray) (l : Row) (i : Int) : (rk9f s acc l i).ev =
 (rAsk (decide (i < (((List.length l) : Nat) : Int)))
 (rAsk ((decide ((0 : Int) ≤ i)) && (decide (i < (((List.length l) : Nat) : Int))))
 (rGet l[(0 + (Int.toNat i))]? fun x1 =>
 (rGet (List.head? (List.drop 0 x1)) fun x2 =>
 (rGet (D.str? x2) fun x3 =>
 (rAsk (decide ((((ByteArray.size x3) : Nat) : Int) < (2 : Int)))
 (some (Ex.ret, (St.mk (mkT 0 59 [(0, (AV.dat (D.str s))), (2, (AV.dat (D.str (ByteArray.mk (List.toArray []))))), (3, (AV.dat (D.int IntKind.i64 (6 : Int)))), (4, (AV.dat (D.str acc)))]) (Mem.mk [] [] 0))))
 (rAsk ((decide ((0 : Int) ≤ i)) && (decide (i < (((List.length l) : Nat) : Int))))
 (rGet l[(0 + (Int.toNat i))]? fun x4 =>
 (rGet (List.head? (List.drop 0 x4)) fun x5 =>
 (rGet (D.str? x5) fun x6 =>
 (rAsk (true && (true && (decide ((2 : Int) ≤ (((ByteArray.size x6) : Nat) : Int)))))
 (rGet (fnS (fun (p : ByteArray × Bool) => ((AV.tup [(AV.dat (D.str p.1)), (AV.dat (D.bool p.2))]), [])) (P29 [(AV.dat (D.str (ByteArray.extract x6 0 2)))] [])) fun x7 =>
 (rAsk (!x7.2)
 (some (Ex.ret, (St.mk (mkT 0 59 [(0, (AV.dat (D.str s))), (2, (AV.dat (D.str (ByteArray.mk (List.toArray []))))), (3, (AV.dat (D.int IntKind.i64 (6 : Int)))), (4, (AV.dat (D.str acc)))]) (Mem.mk [] [] 0))))
 (rAsk ((decide ((0 : Int) ≤ i)) && (decide (i < (((List.length l) : Nat) : Int))))
 (rGet l[(0 + (Int.toNat i))]? fun x8 =>
 (rGet (List.head? (List.drop 0 x8)) fun x9 =>
 (rGet (fnS (fun (n : Int) => ((AV.dat (D.int IntKind.i64 n)), [])) (P30 [(AV.dat x9)] [])) fun x10 =>
 (rGet (loS TT (TOrc.runs t9) (HSm 9) lp9b (out9b (AV.dat (D.str s)) (AV.sh false 0 1 0 (List.length l)) (AV.dat (D.int IntKind.i64 i)) [(Option.some (Ent.row Mode.excl 1 l))]) (St.mk (mkT 0 59 [(0, (AV.dat (D.str s))), (4, (AV.dat (D.str acc))), (5, (AV.sh false 0 1 0 (List.length l))), (6, (AV.dat (D.int IntKind.i64 i))), (7, (AV.dat (D.str x7.1))), (9, (AV.dat (D.int IntKind.i64 x10)))]) (Mem.mk [(Option.some (Ent.row Mode.excl 1 l))] [] 0))) fun x11 =>
 (some (Ex.norm, (St.mk (mkT 0 59 [(0, (AV.dat (D.str s))), (4, (AV.dat (D.str x11))), (5, (AV.sh false 0 1 0 (List.length l))), (6, (AV.dat (D.int IntKind.i64 (IntKind.wrap IntKind.i64 (i + (1 : Int))))))]) (Mem.mk [(Option.some (Ent.row Mode.excl 1 l))] [] 0))))
 )
 )
 )
 )
 none
 )
 )
 )
 none
 )
 )
 )
 )
 none
 )
 )
 )
 )
 )
 none
 )
 (some ((Ex.exit 0), (St.mk (mkT 0 59 [(0, (AV.dat (D.str s))), (4, (AV.dat (D.str acc)))]) (Mem.mk [] [] 0))))
 )
  := by kernel_rfl
theorem f9t_eq (s : ByteArray) : (f9t s).ev =
 (rAsk (decide ((((ByteArray.size s) : Nat) : Int) > (200 : Int)))
 (some ((AV.tup [(AV.dat (D.str (ByteArray.mk (List.toArray [])))), (AV.dat (D.int IntKind.i64 (6 : Int)))]), []))
 (rAsk (Option.isSome (fnS (fun (zr : Row) => ((AV.dat (D.list LK.full 1 zr)), [])) (R28 [(AV.dat (D.str s))] [])))
 (rGet (fnS (fun (zr : Row) => ((AV.dat (D.list LK.full 1 zr)), [])) (R28 [(AV.dat (D.str s))] [])) fun x1 =>
 (rAsk (Option.isSome (loS TT (TOrc.runs t9) (HSm 9) lp9 (out9x (AV.dat (D.str s))) (St.mk (mkT 0 59 [(0, (AV.dat (D.str s))), (4, (AV.dat (D.str (ByteArray.mk (List.toArray []))))), (5, (AV.dat (D.list LK.full 1 x1))), (6, (AV.dat (D.int IntKind.i64 (0 : Int))))]) (Mem.mk [] [] 0))))
 (rGet (loS TT (TOrc.runs t9) (HSm 9) lp9 (out9x (AV.dat (D.str s))) (St.mk (mkT 0 59 [(0, (AV.dat (D.str s))), (4, (AV.dat (D.str (ByteArray.mk (List.toArray []))))), (5, (AV.dat (D.list LK.full 1 x1))), (6, (AV.dat (D.int IntKind.i64 (0 : Int))))]) (Mem.mk [] [] 0))) fun x2 =>
 (rGet (fnS (fun (zs : ByteArray) => ((AV.dat (D.str zs)), [])) (P10 [(AV.dat (D.str x2))] [])) fun x3 =>
 (rAsk (!((ByteArray.toList x3) == (ByteArray.toList s)))
 (some ((AV.tup [(AV.dat (D.str (ByteArray.mk (List.toArray [])))), (AV.dat (D.int IntKind.i64 (6 : Int)))]), []))
 (rAsk ((ByteArray.toList s) == [])
 (some ((AV.tup [(AV.dat (D.str (ByteArray.mk (List.toArray [])))), (AV.dat (D.int IntKind.i64 (6 : Int)))]), []))
 (some ((AV.tup [(AV.dat (D.str x2)), (AV.dat (D.int IntKind.i64 (0 : Int)))]), []))
 )
 )
 )
 )
 (rGet (loS TT (TOrc.runs t9) (HSm 9) lp9 (out9y (AV.dat (D.str s))) (St.mk (mkT 0 59 [(0, (AV.dat (D.str s))), (4, (AV.dat (D.str (ByteArray.mk (List.toArray []))))), (5, (AV.dat (D.list LK.full 1 x1))), (6, (AV.dat (D.int IntKind.i64 (0 : Int))))]) (Mem.mk [] [] 0))) fun _ =>
 (some ((AV.tup [(AV.dat (D.str (ByteArray.mk (List.toArray [])))), (AV.dat (D.int IntKind.i64 (6 : Int)))]), []))
 )
 )
 )
 (rGet (fnS (fun (zr : Row) => ((AV.own true 1 zr), [])) (R28 [(AV.dat (D.str s))] [])) fun x5 =>
 (rAsk (Option.isSome (loS TT (TOrc.runs t9) (HSm 9) lp9 (out9x (AV.dat (D.str s))) (St.mk (mkT 0 59 [(0, (AV.dat (D.str s))), (4, (AV.dat (D.str (ByteArray.mk (List.toArray []))))), (5, (AV.sh false 0 1 0 (List.length x5))), (6, (AV.dat (D.int IntKind.i64 (0 : Int))))]) (Mem.mk [(Option.some (Ent.row Mode.excl 1 x5))] [] 0))))
 (rGet (loS TT (TOrc.runs t9) (HSm 9) lp9 (out9x (AV.dat (D.str s))) (St.mk (mkT 0 59 [(0, (AV.dat (D.str s))), (4, (AV.dat (D.str (ByteArray.mk (List.toArray []))))), (5, (AV.sh false 0 1 0 (List.length x5))), (6, (AV.dat (D.int IntKind.i64 (0 : Int))))]) (Mem.mk [(Option.some (Ent.row Mode.excl 1 x5))] [] 0))) fun x6 =>
 (rGet (fnS (fun (zs : ByteArray) => ((AV.dat (D.str zs)), [])) (P10 [(AV.dat (D.str x6))] [])) fun x7 =>
 (rAsk (!((ByteArray.toList x7) == (ByteArray.toList s)))
 (some ((AV.tup [(AV.dat (D.str (ByteArray.mk (List.toArray [])))), (AV.dat (D.int IntKind.i64 (6 : Int)))]), []))
 (rAsk ((ByteArray.toList s) == [])
 (some ((AV.tup [(AV.dat (D.str (ByteArray.mk (List.toArray [])))), (AV.dat (D.int IntKind.i64 (6 : Int)))]), []))
 (some ((AV.tup [(AV.dat (D.str x6)), (AV.dat (D.int IntKind.i64 (0 : Int)))]), []))
 )
 )
 )
 )
 (rGet (loS TT (TOrc.runs t9) (HSm 9) lp9 (out9y (AV.dat (D.str s))) (St.mk (mkT 0 59 [(0, (AV.dat (D.str s))), (4, (AV.dat (D.str (ByteArray.mk (List.toArray []))))), (5, (AV.sh false 0 1 0 (List.length x5))), (6, (AV.dat (D.int IntKind.i64 (0 : Int))))]) (Mem.mk [(Option.some (Ent.row Mode.excl 1 x5))] [] 0))) fun _ =>
 (some ((AV.tup [(AV.dat (D.str (ByteArray.mk (List.toArray [])))), (AV.dat (D.int IntKind.i64 (6 : Int)))]), []))
 )
 )
 )
 )
 )
  := by kernel_rfl

/-! ### contracts -/
theorem lo30_ok : ∀ c, Go.Proofs.Tryd.f42.body = some c → LoOk2 TT tNone.runs (HSm 30) lo30 c := lo_one (lp := lp30) (by kernel_rfl) fun st r h => by
  rw [show firstRegion lp30 = 7 from by kernel_rfl] at h
  exact tlo2_ok h
theorem c30 : COk PP 42 R30 := tok_fn (H := HSm 30) TT_ok TOk.nil Go.Proofs.Tryd.func42 (by kernel_rfl) lo30_ok
theorem t29_ok : TOk PP t29 := TOk.cons (COk.spec (out := fun _ G => oI G) (E_ok 56).pure) TOk.nil
theorem lo29_ok : ∀ c, Go.Proofs.Tryd.f41.body = some c → LoOk2 TT t29.runs (HSm 29) lo29 c := lo_one (lp := lp29) (by kernel_rfl) fun st r h => by
  rw [show firstRegion lp29 = 3 from by kernel_rfl] at h
  exact tlo2_ok h
theorem c29 : COk PP 41 R29 := tok_fn (H := HSm 29) TT_ok t29_ok Go.Proofs.Tryd.func41 (by kernel_rfl) lo29_ok
theorem lo28_ok : ∀ c, Go.Proofs.Tryd.f40.body = some c → LoOk2 TT tNone.runs (HSm 28) lo28 c := lo_one (lp := lp28) (by kernel_rfl) fun st r h => by
  rw [show firstRegion lp28 = 3 from by kernel_rfl] at h
  exact tlo2_ok h
theorem c28 : COk PP 40 R28 := tok_fn (H := HSm 28) TT_ok TOk.nil Go.Proofs.Tryd.func40 (by kernel_rfl) lo28_ok
theorem t9_ok : TOk PP t9 := TOk.cons (COk.spec2 (o1 := fun _ G => oRw G) (o2 := fun _ G => oRwO G) c28) (TOk.cons (COk.spec (out := fun _ G => oPt G) c29.pure) (TOk.cons (COk.spec (out := fun _ G => oI G) c30.pure) (TOk.cons (COk.spec (out := fun _ G => oS G) c10.pure) TOk.nil)))
theorem lo9b_ok : LoOk2 TT t9.runs (HSm 9) lo9b lp9 := by
  refine LoOk2.of lp9 fun b hb st r h => ?_
  have hl : loops lp9 = [lp9b] := by kernel_rfl
  rw [hl] at hb
  obtain rfl := List.mem_singleton.1 hb
  rw [show firstRegion lp9b = 14 from by kernel_rfl] at h
  exact tlo_ok h
theorem lo9_ok : ∀ c, Go.Proofs.Tryd.f26.body = some c → LoOk2 TT t9.runs (HSm 9) lo9 c := lo_one (lp := lp9) (by kernel_rfl) fun st r h => by
  rw [show firstRegion lp9 = 6 from by kernel_rfl] at h
  exact tlo2_ok h
theorem c9 : COk PP 26 R9 := tok_fn (H := HSm 9) TT_ok t9_ok Go.Proofs.Tryd.func26 (by kernel_rfl) lo9_ok

/-! ### a byte, so many times -/
attribute [local irreducible] fnS loS tround P29 P30 P10
theorem out9b_inj {a b c : AV} {L : List (Option Ent)} : ∀ x y, out9b a b c L x = out9b a b c L y → x = y := by
  intro x y h
  simp [out9b, mkT] at h
  exact h
theorem go9b (b : Bool) (s acc : ByteArray) (l : Row) (i : Int) (c : ByteArray) (k : Int) {o} (h : ((if b then rk9bt s acc l i c k else rk9bf s acc l i c k)).ev = o) : (tround TT t9 noLo (HSm 9) lp9b (inv9b b s acc l i c k)).run = o := by
  rw [Tr.ev_run] at h
  cases b <;> exact h
theorem last9b (b : Bool) (s acc : ByteArray) (l : Row) (i : Int) (c : ByteArray) (k : Int) (hk : k ≤ 0) :
    LoopTo TT t9.runs (HSm 9) lp9b (inv9b b s acc l i c k) (out9b (.dat (.str s)) (w5 b l) (jn i) (wL b l) acc) := by
  refine LoopTo.last (orc := t9) (lo := noLo) (fun _ _ _ _ h => h) (LoOk2.no _) (go9b b _ _ _ _ _ _ ?_) (by simp [out9b])
  cases b with
  | true =>
    simp only [if_true]
    rw [rk9bt_eq]
    exact aF (by rw [decide_eq_false_iff_not]; omega) rfl
  | false =>
    simp only [Bool.false_eq_true, if_false]
    rw [rk9bf_eq]
    exact aF (by rw [decide_eq_false_iff_not]; omega) rfl
theorem loop9b (b : Bool) (s : ByteArray) (l : Row) (i : Int) (x : UInt8) : ∀ (k : Nat) (a : List UInt8), k ≤ 2000 → a.length + k ≤ 1000000000 →
    LoopTo TT t9.runs (HSm 9) lp9b (inv9b b s (ba a) l i (ba [x]) k) (out9b (.dat (.str s)) (w5 b l) (jn i) (wL b l) (ba (a ++ List.replicate k x)))
  | 0, a, _, _ => by
    rw [List.replicate_zero, List.append_nil]
    exact last9b b s (ba a) l i (ba [x]) 0 (Int.le_refl 0)
  | k + 1, a, hk, ha => by
    have wk : IntKind.wrap .i64 (((k + 1 : Nat) : Int) - 1) = ((k : Nat) : Int) := w64 (by omega) (by omega)
    have hsz : Nat.ble ((ba a).size + (ba [x]).size) 9223372036854775807 = true := by
      rw [ba_sz, ba_sz]
      exact Nat.ble_eq_true_of_le (by simp only [List.length_singleton]; omega)
    have step : (tround TT t9 noLo (HSm 9) lp9b (inv9b b s (ba a) l i (ba [x]) ((k + 1 : Nat) : Int))).run = some (.norm, inv9b b s (ba (a ++ [x])) l i (ba [x]) ((k : Nat) : Int)) := by
      refine go9b b _ _ _ _ _ _ ?_
      cases b with
      | true =>
        simp only [if_true]
        rw [rk9bt_eq, wk]
        refine aT (by rw [decide_eq_true_eq]; omega) (aT hsz ?_)
        rw [ba_app]
        rfl
      | false =>
        simp only [Bool.false_eq_true, if_false]
        rw [rk9bf_eq, wk]
        refine aT (by rw [decide_eq_true_eq]; omega) (aT hsz ?_)
        rw [ba_app]
        rfl
    have ih := loop9b b s l i x k (a ++ [x]) (by omega) (by rw [List.length_append, List.length_singleton]; omega)
    rw [List.append_assoc, List.singleton_append, ← List.replicate_succ] at ih
    exact LoopTo.more (orc := t9) (lo := noLo) (fun _ _ _ _ h => h) (LoOk2.no _) step ih
theorem loop9k (b : Bool) (s : ByteArray) (l : Row) (i : Int) (x : UInt8) (k : Int) (a : List UInt8) (hk : k ≤ 2000) (ha : a.length ≤ 900000000) :
    LoopTo TT t9.runs (HSm 9) lp9b (inv9b b s (ba a) l i (ba [x]) k) (out9b (.dat (.str s)) (w5 b l) (jn i) (wL b l) (ba (a ++ List.replicate k.toNat x))) := by
  by_cases h : k ≤ 0
  · rw [show k.toNat = 0 by omega, List.replicate_zero, List.append_nil]
    exact last9b b s (ba a) l i (ba [x]) k h
  · have := loop9b b s l i x k.toNat a (by omega) (by omega)
    rw [show ((k.toNat : Nat) : Int) = k by omega] at this
    exact this
end Go.Eng
end

/- Sectors out of short texts: the document's Long is the plain one. -/
section
namespace Go.Eng
open Go
set_option maxRecDepth 100000
set_option linter.unusedSimpArgs false

theorem runD_le (ds : List UInt8) (h : ds.length ≤ 2) : runD 0 ds ≤ 2000 := by
  match ds, h with
  | [], _ => simp [runD]
  | [a], _ =>
    have := a.toNat_lt
    simp only [runD]
    split <;> omega
  | [a, b], _ =>
    have := a.toNat_lt
    have := b.toNat_lt
    simp only [runD]
    split
    · omega
    · split <;> omega
  | _ :: _ :: _ :: _, h => simp at h
theorem runL_le (w : List UInt8) : runL w ≤ 2000 := by
  unfold runL
  split
  · omega
  · split
    · omega
    · exact runD_le _ (by rw [List.length_drop]; omega)
attribute [local irreducible] fnS loS tround P29 P30 P10
theorem go9 (b : Bool) (s acc : ByteArray) (l : Row) (i : Int) {o} (h : ((if b then rk9t s acc l i else rk9f s acc l i)).ev = o) : (tround TT t9 lo9b (HSm 9) lp9 (inv9 b s acc l i)).run = o := by
  rw [Tr.ev_run] at h
  cases b <;> exact h
def res9 (b : Bool) (s : ByteArray) (st : St) : Option (List UInt8) → Prop
  | some o => LoopTo TT t9.runs (HSm 9) lp9 st (out9x (.dat (.str s)) (ba o))
  | none => ∃ a, LoopTo TT t9.runs (HSm 9) lp9 st (out9y (.dat (.str s)) a)
theorem ba_two (a b : UInt8) (r : List UInt8) : (ba (a :: b :: r)).extract 0 2 = ba [a, b] := by
  apply ByteArray.ext
  apply Array.ext'
  rw [Go.Lib.extract_data]
  simp [ba]
theorem two {w : List UInt8} (h : ¬ w.length < 2) : ∃ a b r, w = a :: b :: r := by
  match w, h with
  | a :: b :: r, _ => exact ⟨a, b, r, rfl⟩
  | [], h => simp at h
  | [_], h => simp at h

theorem loop9 (b : Bool) (s : ByteArray) : ∀ (rest pre : List (List UInt8)) (acc : List UInt8), (pre ++ rest).length ≤ 1000 → acc.length + 2000 * rest.length ≤ 10000000 →
    res9 b s (inv9 b s (ba acc) (sRow (pre ++ rest)) pre.length) (refF rest acc)
  | [], pre, acc, hn, _ => by
    refine LoopTo.last (orc := t9) (lo := lo9b) (fun _ _ _ _ h => h) lo9b_ok (go9 b _ _ _ _ ?_) (by simp [out9x])
    have hd : decide (((pre.length : Nat) : Int) < (((sRow (pre ++ [])).length : Nat) : Int)) = false := by rw [decide_eq_false_iff_not, sRow_len, List.append_nil]; omega
    cases b with
    | true =>
      simp only [if_true]
      rw [rk9t_eq]
      exact aF hd rfl
    | false =>
      simp only [Bool.false_eq_true, if_false]
      rw [rk9f_eq]
      exact aF hd rfl
  | w :: rest, pre, acc, hn, ha => by
    have hlen : (sRow (pre ++ w :: rest)).length = pre.length + rest.length + 1 := by
      rw [sRow_len, List.length_append, List.length_cons]; omega
    rw [List.length_append, List.length_cons] at hn
    rw [List.length_cons] at ha
    have hat : (sRow (pre ++ w :: rest))[Int.toNat ((pre.length : Nat) : Int)]? = some [.str (ba w)] := by
      rw [Int.toNat_natCast]
      exact sRow_at (by simp)
    have hat0 : (sRow (pre ++ w :: rest))[0 + Int.toNat ((pre.length : Nat) : Int)]? = some [.str (ba w)] := by
      rw [Nat.zero_add]
      exact hat
    have bf : ((decide ((0 : Int) ≤ ((pre.length : Nat) : Int))) && (decide (((pre.length : Nat) : Int) < (((sRow (pre ++ w :: rest)).length : Nat) : Int)))) = true := by
      rw [Bool.and_eq_true, decide_eq_true_eq, decide_eq_true_eq]
      omega
    have bt : (true && ((decide ((0 : Int) ≤ ((pre.length : Nat) : Int))) && (decide (((pre.length : Nat) : Int) < (((sRow (pre ++ w :: rest)).length : Nat) : Int))))) = true := by
      rw [Bool.true_and]
      exact bf
    have a0 : decide (((pre.length : Nat) : Int) < (((sRow (pre ++ w :: rest)).length : Nat) : Int)) = true := by rw [decide_eq_true_eq]; omega
    have wi : IntKind.wrap .i64 (((pre.length : Nat) : Int) + 1) = ((pre.length + 1 : Nat) : Int) := w64 (by omega) (by omega)
    by_cases h2 : w.length < 2
    · have hu : undL w = none := by
        match w, h2 with
        | [], _ => rfl
        | [_], _ => rfl
        | _ :: _ :: _, h => exact absurd h (by simp only [List.length_cons]; omega)
      simp only [refF, hu]
      refine ⟨ba acc, LoopTo.last (orc := t9) (lo := lo9b) (fun _ _ _ _ h => h) lo9b_ok (go9 b _ _ _ _ ?_) (by simp [out9y])⟩
      have hs : decide ((((ba w).size : Nat) : Int) < 2) = true := by rw [ba_sz, decide_eq_true_eq]; omega
      cases b with
      | true =>
        simp only [if_true]
        rw [rk9t_eq]
        exact aT a0 (aT bt (gStep hat (gStep rfl (gStep (x := ba w) rfl (aT hs rfl)))))
      | false =>
        simp only [Bool.false_eq_true, if_false]
        rw [rk9f_eq]
        exact aT a0 (aT bf (gStep hat0 (gStep rfl (gStep (x := ba w) rfl (aT hs rfl)))))
    obtain ⟨x, y, r, rfl⟩ := two h2
    have hs : decide ((((ba (x :: y :: r)).size : Nat) : Int) < 2) = false := by rw [ba_sz, decide_eq_false_iff_not]; omega
    have hs2 : (true && (true && (decide ((2 : Int) ≤ (((ba (x :: y :: r)).size : Nat) : Int))))) = true := by
      rw [Bool.true_and, Bool.true_and, ba_sz, decide_eq_true_eq]; omega
    have e29 : fnS (oPt []) (P29 [(AV.dat (D.str ((ba (x :: y :: r)).extract 0 2)))] []) = some (if digL x < 0 ∨ digL y < 0 then (ba [], false) else (ba [byteR (digL x) (digL y)], true)) := by
      rw [ba_two]
      exact fnS_eq (out := oPt []) oPt_inj (p29 x y [])
    by_cases hd : digL x < 0 ∨ digL y < 0
    · have hu : undL (x :: y :: r) = none := by rw [undL, if_pos hd]
      simp only [refF, hu]
      rw [if_pos hd] at e29
      refine ⟨ba acc, LoopTo.last (orc := t9) (lo := lo9b) (fun _ _ _ _ h => h) lo9b_ok (go9 b _ _ _ _ ?_) (by simp [out9y])⟩
      cases b with
      | true =>
        simp only [if_true]
        rw [rk9t_eq]
        exact aT a0 (aT bt (gStep hat (gStep rfl (gStep (x := ba (x :: y :: r)) rfl (aF hs (aT bt (gStep hat (gStep rfl (gStep (x := ba (x :: y :: r)) rfl (aT hs2 (gStep e29 (aT rfl rfl))))))))))))
      | false =>
        simp only [Bool.false_eq_true, if_false]
        rw [rk9f_eq]
        exact aT a0 (aT bf (gStep hat0 (gStep rfl (gStep (x := ba (x :: y :: r)) rfl (aF hs (aT bf (gStep hat0 (gStep rfl (gStep (x := ba (x :: y :: r)) rfl (aT hs2 (gStep e29 (aT rfl rfl))))))))))))
    · have hu : undL (x :: y :: r) = some (List.replicate (runL (x :: y :: r)).toNat (byteR (digL x) (digL y))) := by rw [undL, if_neg hd]
      simp only [refF, hu]
      rw [if_neg hd] at e29
      have hr := runL_le (x :: y :: r)
      have e30 := fnS_eq (out := oI []) oI_inj (p30 (x :: y :: r) [])
      have hlo := loop9k b s (sRow (pre ++ (x :: y :: r) :: rest)) pre.length (byteR (digL x) (digL y)) (runL (x :: y :: r)) acc hr (by omega)
      have elo := loS_eq out9b_inj hlo
      have step : (tround TT t9 lo9b (HSm 9) lp9 (inv9 b s (ba acc) (sRow (pre ++ (x :: y :: r) :: rest)) pre.length)).run = some (.norm, inv9 b s (ba (acc ++ List.replicate (runL (x :: y :: r)).toNat (byteR (digL x) (digL y)))) (sRow (pre ++ (x :: y :: r) :: rest)) ((pre.length + 1 : Nat) : Int)) := by
        refine go9 b _ _ _ _ ?_
        cases b with
        | true =>
          simp only [if_true]
          rw [rk9t_eq]
          refine aT a0 (aT bt (gStep hat (gStep rfl (gStep (x := ba (x :: y :: r)) rfl (aF hs (aT bt (gStep hat (gStep rfl (gStep (x := ba (x :: y :: r)) rfl (aT hs2 (gStep e29 (aF rfl (aT bt (gStep hat (gStep rfl (gStep e30 (gStep elo ?_)))))))))))))))))
          rw [wi]
          rfl
        | false =>
          simp only [Bool.false_eq_true, if_false]
          rw [rk9f_eq]
          refine aT a0 (aT bf (gStep hat0 (gStep rfl (gStep (x := ba (x :: y :: r)) rfl (aF hs (aT bf (gStep hat0 (gStep rfl (gStep (x := ba (x :: y :: r)) rfl (aT hs2 (gStep e29 (aF rfl (aT bf (gStep hat0 (gStep rfl (gStep e30 (gStep elo ?_)))))))))))))))))
          rw [wi]
          rfl
      have ih := loop9 b s rest (pre ++ [x :: y :: r]) (acc ++ List.replicate (runL (x :: y :: r)).toNat (byteR (digL x) (digL y))) (by simp only [List.length_append, List.length_cons, List.length_nil]; omega)
        (by rw [List.length_append, List.length_replicate]; omega)
      rw [show pre ++ [x :: y :: r] ++ rest = pre ++ (x :: y :: r) :: rest by simp, show List.length (pre ++ [x :: y :: r]) = pre.length + 1 by simp] at ih
      cases hq : refF rest (acc ++ List.replicate (runL (x :: y :: r)).toNat (byteR (digL x) (digL y))) with
      | some o =>
        rw [hq] at ih
        exact LoopTo.more (orc := t9) (lo := lo9b) (fun _ _ _ _ h => h) lo9b_ok step ih
      | none =>
        rw [hq] at ih
        obtain ⟨a, ih⟩ := ih
        exact ⟨a, LoopTo.more (orc := t9) (lo := lo9b) (fun _ _ _ _ h => h) lo9b_ok step ih⟩

theorem out9x_inj {a0 : AV} : ∀ x y, out9x a0 x = out9x a0 y → x = y := by
  intro x y h
  simp [out9x, mkT] at h
  exact h
theorem out9y_inj {a0 : AV} : ∀ x y, out9y a0 x = out9y a0 y → x = y := by
  intro x y h
  simp [out9y, mkT] at h
  exact h
theorem out9_no {a0 : AV} {y : ByteArray} : ∀ x, out9x a0 x ≠ out9y a0 y := fun x h => by simp [out9x, out9y] at h
theorem oRwO_inj {G : List Ent} : ∀ x y, oRwO G x = oRwO G y → x = y := by intro x y h; simpa [oRwO] using h
theorem oRw_no {G : List Ent} {y : Row} : ∀ x, oRw G x ≠ oRwO G y := fun x h => by simp [oRw, oRwO] at h
theorem p10' {l : List UInt8} {G : List Ent} : fnS (oS G) (P10 [.dat (.str (ba l))] G) = some (ba (shortB l)) := fnS_eq (out := oS G) oS_inj p10
theorem f9_run (t : List UInt8) : R9 [.dat (.str (ba t))] [] = some (oLg [] (lgOf (refL t))) := by
  have key : ∀ o, (f9t (ba t)).ev = o → R9 [.dat (.str (ba t))] [] = o := fun o h => by
    rw [Tr.ev_run] at h
    exact h
  refine key _ ?_
  rw [f9t_eq]
  by_cases h200 : 200 < t.length
  · rw [refL, if_pos h200]
    exact aT (by rw [ba_sz, decide_eq_true_eq]; omega) rfl
  refine aF (by rw [ba_sz, decide_eq_false_iff_not]; omega) ?_
  rw [refL, if_neg h200]
  have hn := cuts_num 32 t
  have hl := fun b => loop9 b (ba t) (cutsL 32 t) [] [] (by simp only [List.nil_append]; omega) (by simp only [List.length_nil]; omega)
  simp only [List.nil_append, List.length_nil] at hl
  rcases f28_run (t := t) (by omega) with e28 | e28
  · refine aT (fnS_yes (o1 := oRw []) oRw_inj e28) (gStep (fnS_eq (out := oRw []) oRw_inj e28) ?_)
    have hl := hl true
    cases hp : refF (cutsL 32 t) [] with
    | none =>
      rw [hp] at hl
      obtain ⟨a, hl⟩ := hl
      exact aF (loS_no (o1 := out9x (.dat (.str (ba t)))) hl out9_no) (gStep (loS_eq (out := out9y (.dat (.str (ba t)))) out9y_inj hl) rfl)
    | some o =>
      rw [hp] at hl
      refine aT (loS_yes (o1 := out9x (.dat (.str (ba t)))) out9x_inj hl) (gStep (loS_eq (out := out9x (.dat (.str (ba t)))) out9x_inj hl) (gStep p10' ?_))
      simp only
      by_cases h1 : shortB o = t
      · refine aF (by rw [ba_list, ba_list, h1]; simp) ?_
        by_cases h0 : t = []
        · rw [if_pos (.inr h0)]
          exact aT (by rw [ba_list, h0]; rfl) rfl
        · rw [if_neg (by simp [h0, h1])]
          exact aF (by rw [ba_list]; simpa using h0) rfl
      · rw [if_pos (.inl h1)]
        exact aT (by rw [ba_list, ba_list]; simpa using h1) rfl
  · have e28' : R28 [.dat (.str (ba t))] [] = some (oRwO [] (sRow (cutsL 32 t))) := e28
    refine aF (fnS_no e28' oRw_no) (gStep (fnS_eq (out := oRwO []) oRwO_inj e28') ?_)
    have hl := hl false
    cases hp : refF (cutsL 32 t) [] with
    | none =>
      rw [hp] at hl
      obtain ⟨a, hl⟩ := hl
      exact aF (loS_no (o1 := out9x (.dat (.str (ba t)))) hl out9_no) (gStep (loS_eq (out := out9y (.dat (.str (ba t)))) out9y_inj hl) rfl)
    | some o =>
      rw [hp] at hl
      refine aT (loS_yes (o1 := out9x (.dat (.str (ba t)))) out9x_inj hl) (gStep (loS_eq (out := out9x (.dat (.str (ba t)))) out9x_inj hl) (gStep p10' ?_))
      simp only
      by_cases h1 : shortB o = t
      · refine aF (by rw [ba_list, ba_list, h1]; simp) ?_
        by_cases h0 : t = []
        · rw [if_pos (.inr h0)]
          exact aT (by rw [ba_list, h0]; rfl) rfl
        · rw [if_neg (by simp [h0, h1])]
          exact aF (by rw [ba_list]; simpa using h0) rfl
      · rw [if_pos (.inl h1)]
        exact aT (by rw [ba_list, ba_list]; simpa using h1) rfl
end Go.Eng
end
