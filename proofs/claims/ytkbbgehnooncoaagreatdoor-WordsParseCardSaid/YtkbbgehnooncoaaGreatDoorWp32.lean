/- Sectors out of short texts: the document's Long is the plain one. -/
import Derived.Test.YtkbbgehnooncoaaGreatDoorWp31
import Derived.Test.YtkbbgehnooncoaaGreatDoorWp27
import Derived.Test.YtkbbgehnooncoaaGreatDoorWp21
section
namespace Go.Eng
open Go
set_option maxRecDepth 100000
set_option linter.unusedSimpArgs false

theorem rk9bt_eq (s acc : ByteArray) (l : Row) (i : Int) (c : ByteArray) (k : Int) : (rk9bt s acc l i c k).ev =
 (rAsk (decide (k > (0 : Int)))
 (rAsk (Nat.ble ((ByteArray.size acc) + (ByteArray.size c)) 9223372036854775807)
 (some (Ex.norm, (St.mk (mkT 0 59 [(0, (AV.dat (D.str s))), (4, (AV.dat (D.str (acc ++ c)))), (5, (AV.dat (D.list LK.full 1 l))), (6, (AV.dat (D.int IntKind.i64 i))), (7, (AV.dat (D.str c))), (9, (AV.dat (D.int IntKind.i64 (IntKind.wrap IntKind.i64 (k - (1 : Int))))))]) (Mem.mk [] [] 0))))
 none)
 (some ((Ex.exit 2), (St.mk (mkT 0 59 [(0, (AV.dat (D.str s))), (4, (AV.dat (D.str acc))), (5, (AV.dat (D.list LK.full 1 l))), (6, (AV.dat (D.int IntKind.i64 i)))]) (Mem.mk [] [] 0)))))
  := by kernel_rfl
theorem rk9bf_eq (s acc : ByteArray) (l : Row) (i : Int) (c : ByteArray) (k : Int) : (rk9bf s acc l i c k).ev =
 (rAsk (decide (k > (0 : Int)))
 (rAsk (Nat.ble ((ByteArray.size acc) + (ByteArray.size c)) 9223372036854775807)
 (some (Ex.norm, (St.mk (mkT 0 59 [(0, (AV.dat (D.str s))), (4, (AV.dat (D.str (acc ++ c)))), (5, (AV.sh false 0 1 0 (List.length l))), (6, (AV.dat (D.int IntKind.i64 i))), (7, (AV.dat (D.str c))), (9, (AV.dat (D.int IntKind.i64 (IntKind.wrap IntKind.i64 (k - (1 : Int))))))]) (Mem.mk [(Option.some (Ent.row Mode.excl 1 l))] [] 0))))
 none)
 (some ((Ex.exit 2), (St.mk (mkT 0 59 [(0, (AV.dat (D.str s))), (4, (AV.dat (D.str acc))), (5, (AV.sh false 0 1 0 (List.length l))), (6, (AV.dat (D.int IntKind.i64 i)))]) (Mem.mk [(Option.some (Ent.row Mode.excl 1 l))] [] 0)))))
  := by kernel_rfl
theorem rk9t_eq (s acc : ByteArray) (l : Row) (i : Int) : (rk9t s acc l i).ev =
 (rAsk (decide (i < (((List.length l) : Nat) : Int)))
 (rAsk (true && ((decide ((0 : Int) ≤ i)) && (decide (i < (((List.length l) : Nat) : Int)))))
 (rGet l[(Int.toNat i)]? fun x1 =>
 (rGet (List.head? (List.drop 0 x1)) fun x2 =>
 (rGet (D.str? x2) fun x3 =>
 (rAsk (decide ((((ByteArray.size x3) : Nat) : Int) < (2 : Int)))
 (some (Ex.ret, (St.mk (mkT 0 59 [(0, (AV.dat (D.str s))), (2, (AV.dat (D.str (ByteArray.mk (List.toArray []))))), (3, (AV.dat (D.int IntKind.i64 (6 : Int)))), (4, (AV.dat (D.str acc)))]) (Mem.mk [] [] 0))))
 (rAsk (true && ((decide ((0 : Int) ≤ i)) && (decide (i < (((List.length l) : Nat) : Int)))))
 (rGet l[(Int.toNat i)]? fun x4 =>
 (rGet (List.head? (List.drop 0 x4)) fun x5 =>
 (rGet (D.str? x5) fun x6 =>
 (rAsk (true && (true && (decide ((2 : Int) ≤ (((ByteArray.size x6) : Nat) : Int)))))
 (rGet (fnS (fun (p : ByteArray × Bool) => ((AV.tup [(AV.dat (D.str p.1)), (AV.dat (D.bool p.2))]), [])) (P29 [(AV.dat (D.str (ByteArray.extract x6 0 2)))] [])) fun x7 =>
 (rAsk (!x7.2)
 (some (Ex.ret, (St.mk (mkT 0 59 [(0, (AV.dat (D.str s))), (2, (AV.dat (D.str (ByteArray.mk (List.toArray []))))), (3, (AV.dat (D.int IntKind.i64 (6 : Int)))), (4, (AV.dat (D.str acc)))]) (Mem.mk [] [] 0))))
 (rAsk (true && ((decide ((0 : Int) ≤ i)) && (decide (i < (((List.length l) : Nat) : Int)))))
 (rGet l[(Int.toNat i)]? fun x8 =>
 (rGet (List.head? (List.drop 0 x8)) fun x9 =>
 (rGet (fnS (fun (n : Int) => ((AV.dat (D.int IntKind.i64 n)), [])) (P30 [(AV.dat x9)] [])) fun x10 =>
 (rGet (loS TT (TOrc.runs t9) (HSm 9) lp9b (out9b (AV.dat (D.str s)) (AV.dat (D.list LK.full 1 l)) (AV.dat (D.int IntKind.i64 i)) []) (St.mk (mkT 0 59 [(0, (AV.dat (D.str s))), (4, (AV.dat (D.str acc))), (5, (AV.dat (D.list LK.full 1 l))), (6, (AV.dat (D.int IntKind.i64 i))), (7, (AV.dat (D.str x7.1))), (9, (AV.dat (D.int IntKind.i64 x10)))]) (Mem.mk [] [] 0))) fun x11 =>
 (some (Ex.norm, (St.mk (mkT 0 59 [(0, (AV.dat (D.str s))), (4, (AV.dat (D.str x11))), (5, (AV.dat (D.list LK.full 1 l))), (6, (AV.dat (D.int IntKind.i64 (IntKind.wrap IntKind.i64 (i + (1 : Int))))))]) (Mem.mk [] [] 0))))))))
 none)))
 none))))
 none)))))
 none)
 (some ((Ex.exit 0), (St.mk (mkT 0 59 [(0, (AV.dat (D.str s))), (4, (AV.dat (D.str acc)))]) (Mem.mk [] [] 0)))))
  := by kernel_rfl
theorem rk9f_eq (s acc : ByteArray) (l : Row) (i : Int) : (rk9f s acc l i).ev =
 (rAsk (decide (i < (((List.length l) : Nat) : Int)))
 (rAsk ((decide ((0 : Int) ≤ i)) && (decide (i < (((List.length l) : Nat) : Int))))
 (rGet l[(0 + (Int.toNat i))]? fun x1 =>
 (rGet (List.head? (List.drop 0 x1)) fun x2 =>
 (rGet (D.str? x2) fun x3 =>
 (rAsk (decide ((((ByteArray.size x3) : Nat) : Int) < (2 : Int)))
 (some (Ex.ret, (St.mk (mkT 0 59 [(0, (AV.dat (D.str s))), (2, (AV.dat (D.str (ByteArray.mk (List.toArray []))))), (3, (AV.dat (D.int IntKind.i64 (6 : Int)))), (4, (AV.dat (D.str acc)))]) (Mem.mk [] [] 0))))
 (rAsk ((decide ((0 : Int) ≤ i)) && (decide (i < (((List.length l) : Nat) : Int))))
 (rGet l[(0 + (Int.toNat i))]? fun x4 =>
 (rGet (List.head? (List.drop 0 x4)) fun x5 =>
 (rGet (D.str? x5) fun x6 =>
 (rAsk (true && (true && (decide ((2 : Int) ≤ (((ByteArray.size x6) : Nat) : Int)))))
 (rGet (fnS (fun (p : ByteArray × Bool) => ((AV.tup [(AV.dat (D.str p.1)), (AV.dat (D.bool p.2))]), [])) (P29 [(AV.dat (D.str (ByteArray.extract x6 0 2)))] [])) fun x7 =>
 (rAsk (!x7.2)
 (some (Ex.ret, (St.mk (mkT 0 59 [(0, (AV.dat (D.str s))), (2, (AV.dat (D.str (ByteArray.mk (List.toArray []))))), (3, (AV.dat (D.int IntKind.i64 (6 : Int)))), (4, (AV.dat (D.str acc)))]) (Mem.mk [] [] 0))))
 (rAsk ((decide ((0 : Int) ≤ i)) && (decide (i < (((List.length l) : Nat) : Int))))
 (rGet l[(0 + (Int.toNat i))]? fun x8 =>
 (rGet (List.head? (List.drop 0 x8)) fun x9 =>
 (rGet (fnS (fun (n : Int) => ((AV.dat (D.int IntKind.i64 n)), [])) (P30 [(AV.dat x9)] [])) fun x10 =>
 (rGet (loS TT (TOrc.runs t9) (HSm 9) lp9b (out9b (AV.dat (D.str s)) (AV.sh false 0 1 0 (List.length l)) (AV.dat (D.int IntKind.i64 i)) [(Option.some (Ent.row Mode.excl 1 l))]) (St.mk (mkT 0 59 [(0, (AV.dat (D.str s))), (4, (AV.dat (D.str acc))), (5, (AV.sh false 0 1 0 (List.length l))), (6, (AV.dat (D.int IntKind.i64 i))), (7, (AV.dat (D.str x7.1))), (9, (AV.dat (D.int IntKind.i64 x10)))]) (Mem.mk [(Option.some (Ent.row Mode.excl 1 l))] [] 0))) fun x11 =>
 (some (Ex.norm, (St.mk (mkT 0 59 [(0, (AV.dat (D.str s))), (4, (AV.dat (D.str x11))), (5, (AV.sh false 0 1 0 (List.length l))), (6, (AV.dat (D.int IntKind.i64 (IntKind.wrap IntKind.i64 (i + (1 : Int))))))]) (Mem.mk [(Option.some (Ent.row Mode.excl 1 l))] [] 0))))))))
 none)))
 none))))
 none)))))
 none)
 (some ((Ex.exit 0), (St.mk (mkT 0 59 [(0, (AV.dat (D.str s))), (4, (AV.dat (D.str acc)))]) (Mem.mk [] [] 0)))))
  := by kernel_rfl
theorem f9t_eq (s : ByteArray) : (f9t s).ev =
 (rAsk (decide ((((ByteArray.size s) : Nat) : Int) > (200 : Int)))
 (some ((AV.tup [(AV.dat (D.str (ByteArray.mk (List.toArray [])))), (AV.dat (D.int IntKind.i64 (6 : Int)))]), []))
 (rAsk (Option.isSome (fnS (fun (zr : Row) => ((AV.dat (D.list LK.full 1 zr)), [])) (R28 [(AV.dat (D.str s))] [])))
 (rGet (fnS (fun (zr : Row) => ((AV.dat (D.list LK.full 1 zr)), [])) (R28 [(AV.dat (D.str s))] [])) fun x1 =>
 (rAsk (Option.isSome (loS TT (TOrc.runs t9) (HSm 9) lp9 (out9x (AV.dat (D.str s))) (St.mk (mkT 0 59 [(0, (AV.dat (D.str s))), (4, (AV.dat (D.str (ByteArray.mk (List.toArray []))))), (5, (AV.dat (D.list LK.full 1 x1))), (6, (AV.dat (D.int IntKind.i64 (0 : Int))))]) (Mem.mk [] [] 0))))
 (rGet (loS TT (TOrc.runs t9) (HSm 9) lp9 (out9x (AV.dat (D.str s))) (St.mk (mkT 0 59 [(0, (AV.dat (D.str s))), (4, (AV.dat (D.str (ByteArray.mk (List.toArray []))))), (5, (AV.dat (D.list LK.full 1 x1))), (6, (AV.dat (D.int IntKind.i64 (0 : Int))))]) (Mem.mk [] [] 0))) fun x2 =>
 (rGet (fnS (fun (zs : ByteArray) => ((AV.dat (D.str zs)), [])) (P10 [(AV.dat (D.str x2))] [])) fun x3 =>
 (rAsk (!((ByteArray.toList x3) == (ByteArray.toList s)))
 (some ((AV.tup [(AV.dat (D.str (ByteArray.mk (List.toArray [])))), (AV.dat (D.int IntKind.i64 (6 : Int)))]), []))
 (rAsk ((ByteArray.toList s) == [])
 (some ((AV.tup [(AV.dat (D.str (ByteArray.mk (List.toArray [])))), (AV.dat (D.int IntKind.i64 (6 : Int)))]), []))
 (some ((AV.tup [(AV.dat (D.str x2)), (AV.dat (D.int IntKind.i64 (0 : Int)))]), []))))))
 (rGet (loS TT (TOrc.runs t9) (HSm 9) lp9 (out9y (AV.dat (D.str s))) (St.mk (mkT 0 59 [(0, (AV.dat (D.str s))), (4, (AV.dat (D.str (ByteArray.mk (List.toArray []))))), (5, (AV.dat (D.list LK.full 1 x1))), (6, (AV.dat (D.int IntKind.i64 (0 : Int))))]) (Mem.mk [] [] 0))) fun _ =>
 (some ((AV.tup [(AV.dat (D.str (ByteArray.mk (List.toArray [])))), (AV.dat (D.int IntKind.i64 (6 : Int)))]), [])))))
 (rGet (fnS (fun (zr : Row) => ((AV.own true 1 zr), [])) (R28 [(AV.dat (D.str s))] [])) fun x5 =>
 (rAsk (Option.isSome (loS TT (TOrc.runs t9) (HSm 9) lp9 (out9x (AV.dat (D.str s))) (St.mk (mkT 0 59 [(0, (AV.dat (D.str s))), (4, (AV.dat (D.str (ByteArray.mk (List.toArray []))))), (5, (AV.sh false 0 1 0 (List.length x5))), (6, (AV.dat (D.int IntKind.i64 (0 : Int))))]) (Mem.mk [(Option.some (Ent.row Mode.excl 1 x5))] [] 0))))
 (rGet (loS TT (TOrc.runs t9) (HSm 9) lp9 (out9x (AV.dat (D.str s))) (St.mk (mkT 0 59 [(0, (AV.dat (D.str s))), (4, (AV.dat (D.str (ByteArray.mk (List.toArray []))))), (5, (AV.sh false 0 1 0 (List.length x5))), (6, (AV.dat (D.int IntKind.i64 (0 : Int))))]) (Mem.mk [(Option.some (Ent.row Mode.excl 1 x5))] [] 0))) fun x6 =>
 (rGet (fnS (fun (zs : ByteArray) => ((AV.dat (D.str zs)), [])) (P10 [(AV.dat (D.str x6))] [])) fun x7 =>
 (rAsk (!((ByteArray.toList x7) == (ByteArray.toList s)))
 (some ((AV.tup [(AV.dat (D.str (ByteArray.mk (List.toArray [])))), (AV.dat (D.int IntKind.i64 (6 : Int)))]), []))
 (rAsk ((ByteArray.toList s) == [])
 (some ((AV.tup [(AV.dat (D.str (ByteArray.mk (List.toArray [])))), (AV.dat (D.int IntKind.i64 (6 : Int)))]), []))
 (some ((AV.tup [(AV.dat (D.str x6)), (AV.dat (D.int IntKind.i64 (0 : Int)))]), []))))))
 (rGet (loS TT (TOrc.runs t9) (HSm 9) lp9 (out9y (AV.dat (D.str s))) (St.mk (mkT 0 59 [(0, (AV.dat (D.str s))), (4, (AV.dat (D.str (ByteArray.mk (List.toArray []))))), (5, (AV.sh false 0 1 0 (List.length x5))), (6, (AV.dat (D.int IntKind.i64 (0 : Int))))]) (Mem.mk [(Option.some (Ent.row Mode.excl 1 x5))] [] 0))) fun _ =>
 (some ((AV.tup [(AV.dat (D.str (ByteArray.mk (List.toArray [])))), (AV.dat (D.int IntKind.i64 (6 : Int)))]), [])))))))
  := by kernel_rfl

/-! ### contracts -/
theorem lo30_ok : ∀ c, Go.Proofs.Tryz.f67.body = some c → LoOk2 TT tNone.runs (HSm 30) lo30 c := lo_one (lp := lp30) (by kernel_rfl) fun st r h => by
  rw [show firstRegion lp30 = 7 from by kernel_rfl] at h
  exact tlo2_ok h
theorem c30 : COk PP 67 R30 := tok_fn (H := HSm 30) TT_ok TOk.nil Go.Proofs.Tryz.func67 (by kernel_rfl) lo30_ok
theorem t29_ok : TOk PP t29 := TOk.cons (COk.spec (out := fun _ G => oI G) (E_ok 86).pure) TOk.nil
theorem lo29_ok : ∀ c, Go.Proofs.Tryz.f66.body = some c → LoOk2 TT t29.runs (HSm 29) lo29 c := lo_one (lp := lp29) (by kernel_rfl) fun st r h => by
  rw [show firstRegion lp29 = 3 from by kernel_rfl] at h
  exact tlo2_ok h
theorem c29 : COk PP 66 R29 := tok_fn (H := HSm 29) TT_ok t29_ok Go.Proofs.Tryz.func66 (by kernel_rfl) lo29_ok
theorem lo28_ok : ∀ c, Go.Proofs.Tryz.f65.body = some c → LoOk2 TT tNone.runs (HSm 28) lo28 c := lo_one (lp := lp28) (by kernel_rfl) fun st r h => by
  rw [show firstRegion lp28 = 3 from by kernel_rfl] at h
  exact tlo2_ok h
theorem c28 : COk PP 65 R28 := tok_fn (H := HSm 28) TT_ok TOk.nil Go.Proofs.Tryz.func65 (by kernel_rfl) lo28_ok
theorem t9_ok : TOk PP t9 := TOk.cons (COk.spec2 (o1 := fun _ G => oRw G) (o2 := fun _ G => oRwO G) c28) (TOk.cons (COk.spec (out := fun _ G => oPt G) c29.pure) (TOk.cons (COk.spec (out := fun _ G => oI G) c30.pure) (TOk.cons (COk.spec (out := fun _ G => oS G) c10.pure) TOk.nil)))
theorem lo9b_ok : LoOk2 TT t9.runs (HSm 9) lo9b lp9 := by
  refine LoOk2.of lp9 fun b hb st r h => ?_
  have hl : loops lp9 = [lp9b] := by kernel_rfl
  rw [hl] at hb
  obtain rfl := List.mem_singleton.1 hb
  rw [show firstRegion lp9b = 14 from by kernel_rfl] at h
  exact tlo_ok h
theorem lo9_ok : ∀ c, Go.Proofs.Tryz.f49.body = some c → LoOk2 TT t9.runs (HSm 9) lo9 c := lo_one (lp := lp9) (by kernel_rfl) fun st r h => by
  rw [show firstRegion lp9 = 6 from by kernel_rfl] at h
  exact tlo2_ok h
theorem c9 : COk PP 49 R9 := tok_fn (H := HSm 9) TT_ok t9_ok Go.Proofs.Tryz.func49 (by kernel_rfl) lo9_ok

/-! ### a byte, so many times -/
attribute [local irreducible] fnS loS tround P29 P30 P10
theorem out9b_inj {a b c : AV} {L : List (Option Ent)} : ∀ x y, out9b a b c L x = out9b a b c L y → x = y := by
  intro x y h
  simp [out9b, mkT] at h
  exact h
theorem go9b (b : Bool) (s acc : ByteArray) (l : Row) (i : Int) (c : ByteArray) (k : Int) {o} (h : ((if b then rk9bt s acc l i c k else rk9bf s acc l i c k)).ev = o) : (tround TT t9 noLo (HSm 9) lp9b (inv9b b s acc l i c k)).run = o := by
  rw [Tr.ev_run] at h
  cases b <;> exact h
theorem last9b (b : Bool) (s acc : ByteArray) (l : Row) (i : Int) (c : ByteArray) (k : Int) (hk : k ≤ 0) :
    LoopTo TT t9.runs (HSm 9) lp9b (inv9b b s acc l i c k) (out9b (.dat (.str s)) (w5 b l) (jn i) (wL b l) acc) := by
  refine LoopTo.last (orc := t9) (lo := noLo) (fun _ _ _ _ h => h) (LoOk2.no _) (go9b b _ _ _ _ _ _ ?_) (by simp [out9b])
  cases b with
  | true =>
    simp only [if_true]
    rw [rk9bt_eq]
    exact aF (by rw [decide_eq_false_iff_not]; omega) rfl
  | false =>
    simp only [Bool.false_eq_true, if_false]
    rw [rk9bf_eq]
    exact aF (by rw [decide_eq_false_iff_not]; omega) rfl
theorem loop9b (b : Bool) (s : ByteArray) (l : Row) (i : Int) (x : UInt8) : ∀ (k : Nat) (a : List UInt8), k ≤ 2000 → a.length + k ≤ 1000000000 →
    LoopTo TT t9.runs (HSm 9) lp9b (inv9b b s (ba a) l i (ba [x]) k) (out9b (.dat (.str s)) (w5 b l) (jn i) (wL b l) (ba (a ++ List.replicate k x)))
  | 0, a, _, _ => by
    rw [List.replicate_zero, List.append_nil]
    exact last9b b s (ba a) l i (ba [x]) 0 (Int.le_refl 0)
  | k + 1, a, hk, ha => by
    have wk : IntKind.wrap .i64 (((k + 1 : Nat) : Int) - 1) = ((k : Nat) : Int) := w64 (by omega) (by omega)
    have hsz : Nat.ble ((ba a).size + (ba [x]).size) 9223372036854775807 = true := by
      rw [ba_sz, ba_sz]
      exact Nat.ble_eq_true_of_le (by simp only [List.length_singleton]; omega)
    have step : (tround TT t9 noLo (HSm 9) lp9b (inv9b b s (ba a) l i (ba [x]) ((k + 1 : Nat) : Int))).run = some (.norm, inv9b b s (ba (a ++ [x])) l i (ba [x]) ((k : Nat) : Int)) := by
      refine go9b b _ _ _ _ _ _ ?_
      cases b with
      | true =>
        simp only [if_true]
        rw [rk9bt_eq, wk]
        refine aT (by rw [decide_eq_true_eq]; omega) (aT hsz ?_)
        rw [ba_app]
        rfl
      | false =>
        simp only [Bool.false_eq_true, if_false]
        rw [rk9bf_eq, wk]
        refine aT (by rw [decide_eq_true_eq]; omega) (aT hsz ?_)
        rw [ba_app]
        rfl
    have ih := loop9b b s l i x k (a ++ [x]) (by omega) (by rw [List.length_append, List.length_singleton]; omega)
    rw [List.append_assoc, List.singleton_append, ← List.replicate_succ] at ih
    exact LoopTo.more (orc := t9) (lo := noLo) (fun _ _ _ _ h => h) (LoOk2.no _) step ih
theorem loop9k (b : Bool) (s : ByteArray) (l : Row) (i : Int) (x : UInt8) (k : Int) (a : List UInt8) (hk : k ≤ 2000) (ha : a.length ≤ 900000000) :
    LoopTo TT t9.runs (HSm 9) lp9b (inv9b b s (ba a) l i (ba [x]) k) (out9b (.dat (.str s)) (w5 b l) (jn i) (wL b l) (ba (a ++ List.replicate k.toNat x))) := by
  by_cases h : k ≤ 0
  · rw [show k.toNat = 0 by omega, List.replicate_zero, List.append_nil]
    exact last9b b s (ba a) l i (ba [x]) k h
  · have := loop9b b s l i x k.toNat a (by omega) (by omega)
    rw [show ((k.toNat : Nat) : Int) = k by omega] at this
    exact this
end Go.Eng
end

/- Sectors out of short texts: the document's Long is the plain one. -/
section
namespace Go.Eng
open Go
set_option maxRecDepth 100000
set_option linter.unusedSimpArgs false

theorem runD_le (ds : List UInt8) (h : ds.length ≤ 2) : runD 0 ds ≤ 2000 := by
  match ds, h with
  | [], _ => simp [runD]
  | [a], _ =>
    have := a.toNat_lt
    simp only [runD]
    split <;> omega
  | [a, b], _ =>
    have := a.toNat_lt
    have := b.toNat_lt
    simp only [runD]
    split
    · omega
    · split <;> omega
  | _ :: _ :: _ :: _, h => simp at h
theorem runL_le (w : List UInt8) : runL w ≤ 2000 := by
  unfold runL
  split
  · omega
  · split
    · omega
    · exact runD_le _ (by rw [List.length_drop]; omega)
attribute [local irreducible] fnS loS tround P29 P30 P10
theorem go9 (b : Bool) (s acc : ByteArray) (l : Row) (i : Int) {o} (h : ((if b then rk9t s acc l i else rk9f s acc l i)).ev = o) : (tround TT t9 lo9b (HSm 9) lp9 (inv9 b s acc l i)).run = o := by
  rw [Tr.ev_run] at h
  cases b <;> exact h
def res9 (b : Bool) (s : ByteArray) (st : St) : Option (List UInt8) → Prop
  | some o => LoopTo TT t9.runs (HSm 9) lp9 st (out9x (.dat (.str s)) (ba o))
  | none => ∃ a, LoopTo TT t9.runs (HSm 9) lp9 st (out9y (.dat (.str s)) a)
theorem ba_two (a b : UInt8) (r : List UInt8) : (ba (a :: b :: r)).extract 0 2 = ba [a, b] := by
  apply ByteArray.ext
  apply Array.ext'
  rw [Go.Lib.extract_data]
  simp [ba]
theorem two {w : List UInt8} (h : ¬ w.length < 2) : ∃ a b r, w = a :: b :: r := by
  match w, h with
  | a :: b :: r, _ => exact ⟨a, b, r, rfl⟩
  | [], h => simp at h
  | [_], h => simp at h

theorem loop9 (b : Bool) (s : ByteArray) : ∀ (rest pre : List (List UInt8)) (acc : List UInt8), (pre ++ rest).length ≤ 1000 → acc.length + 2000 * rest.length ≤ 10000000 →
    res9 b s (inv9 b s (ba acc) (sRow (pre ++ rest)) pre.length) (refF rest acc)
  | [], pre, acc, hn, _ => by
    refine LoopTo.last (orc := t9) (lo := lo9b) (fun _ _ _ _ h => h) lo9b_ok (go9 b _ _ _ _ ?_) (by simp [out9x])
    have hd : decide (((pre.length : Nat) : Int) < (((sRow (pre ++ [])).length : Nat) : Int)) = false := by rw [decide_eq_false_iff_not, sRow_len, List.append_nil]; omega
    cases b with
    | true =>
      simp only [if_true]
      rw [rk9t_eq]
      exact aF hd rfl
    | false =>
      simp only [Bool.false_eq_true, if_false]
      rw [rk9f_eq]
      exact aF hd rfl
  | w :: rest, pre, acc, hn, ha => by
    have hlen : (sRow (pre ++ w :: rest)).length = pre.length + rest.length + 1 := by
      rw [sRow_len, List.length_append, List.length_cons]; omega
    rw [List.length_append, List.length_cons] at hn
    rw [List.length_cons] at ha
    have hat : (sRow (pre ++ w :: rest))[Int.toNat ((pre.length : Nat) : Int)]? = some [.str (ba w)] := by
      rw [Int.toNat_natCast]
      exact sRow_at (by simp)
    have hat0 : (sRow (pre ++ w :: rest))[0 + Int.toNat ((pre.length : Nat) : Int)]? = some [.str (ba w)] := by
      rw [Nat.zero_add]
      exact hat
    have bf : ((decide ((0 : Int) ≤ ((pre.length : Nat) : Int))) && (decide (((pre.length : Nat) : Int) < (((sRow (pre ++ w :: rest)).length : Nat) : Int)))) = true := by
      rw [Bool.and_eq_true, decide_eq_true_eq, decide_eq_true_eq]
      omega
    have bt : (true && ((decide ((0 : Int) ≤ ((pre.length : Nat) : Int))) && (decide (((pre.length : Nat) : Int) < (((sRow (pre ++ w :: rest)).length : Nat) : Int))))) = true := by
      rw [Bool.true_and]
      exact bf
    have a0 : decide (((pre.length : Nat) : Int) < (((sRow (pre ++ w :: rest)).length : Nat) : Int)) = true := by rw [decide_eq_true_eq]; omega
    have wi : IntKind.wrap .i64 (((pre.length : Nat) : Int) + 1) = ((pre.length + 1 : Nat) : Int) := w64 (by omega) (by omega)
    by_cases h2 : w.length < 2
    · have hu : undL w = none := by
        match w, h2 with
        | [], _ => rfl
        | [_], _ => rfl
        | _ :: _ :: _, h => exact absurd h (by simp only [List.length_cons]; omega)
      simp only [refF, hu]
      refine ⟨ba acc, LoopTo.last (orc := t9) (lo := lo9b) (fun _ _ _ _ h => h) lo9b_ok (go9 b _ _ _ _ ?_) (by simp [out9y])⟩
      have hs : decide ((((ba w).size : Nat) : Int) < 2) = true := by rw [ba_sz, decide_eq_true_eq]; omega
      cases b with
      | true =>
        simp only [if_true]
        rw [rk9t_eq]
        exact aT a0 (aT bt (gStep hat (gStep rfl (gStep (x := ba w) rfl (aT hs rfl)))))
      | false =>
        simp only [Bool.false_eq_true, if_false]
        rw [rk9f_eq]
        exact aT a0 (aT bf (gStep hat0 (gStep rfl (gStep (x := ba w) rfl (aT hs rfl)))))
    obtain ⟨x, y, r, rfl⟩ := two h2
    have hs : decide ((((ba (x :: y :: r)).size : Nat) : Int) < 2) = false := by rw [ba_sz, decide_eq_false_iff_not]; omega
    have hs2 : (true && (true && (decide ((2 : Int) ≤ (((ba (x :: y :: r)).size : Nat) : Int))))) = true := by
      rw [Bool.true_and, Bool.true_and, ba_sz, decide_eq_true_eq]; omega
    have e29 : fnS (oPt []) (P29 [(AV.dat (D.str ((ba (x :: y :: r)).extract 0 2)))] []) = some (if digL x < 0 ∨ digL y < 0 then (ba [], false) else (ba [byteR (digL x) (digL y)], true)) := by
      rw [ba_two]
      exact fnS_eq (out := oPt []) oPt_inj (p29 x y [])
    by_cases hd : digL x < 0 ∨ digL y < 0
    · have hu : undL (x :: y :: r) = none := by rw [undL, if_pos hd]
      simp only [refF, hu]
      rw [if_pos hd] at e29
      refine ⟨ba acc, LoopTo.last (orc := t9) (lo := lo9b) (fun _ _ _ _ h => h) lo9b_ok (go9 b _ _ _ _ ?_) (by simp [out9y])⟩
      cases b with
      | true =>
        simp only [if_true]
        rw [rk9t_eq]
        exact aT a0 (aT bt (gStep hat (gStep rfl (gStep (x := ba (x :: y :: r)) rfl (aF hs (aT bt (gStep hat (gStep rfl (gStep (x := ba (x :: y :: r)) rfl (aT hs2 (gStep e29 (aT rfl rfl))))))))))))
      | false =>
        simp only [Bool.false_eq_true, if_false]
        rw [rk9f_eq]
        exact aT a0 (aT bf (gStep hat0 (gStep rfl (gStep (x := ba (x :: y :: r)) rfl (aF hs (aT bf (gStep hat0 (gStep rfl (gStep (x := ba (x :: y :: r)) rfl (aT hs2 (gStep e29 (aT rfl rfl))))))))))))
    · have hu : undL (x :: y :: r) = some (List.replicate (runL (x :: y :: r)).toNat (byteR (digL x) (digL y))) := by rw [undL, if_neg hd]
      simp only [refF, hu]
      rw [if_neg hd] at e29
      have hr := runL_le (x :: y :: r)
      have e30 := fnS_eq (out := oI []) oI_inj (p30 (x :: y :: r) [])
      have hlo := loop9k b s (sRow (pre ++ (x :: y :: r) :: rest)) pre.length (byteR (digL x) (digL y)) (runL (x :: y :: r)) acc hr (by omega)
      have elo := loS_eq out9b_inj hlo
      have step : (tround TT t9 lo9b (HSm 9) lp9 (inv9 b s (ba acc) (sRow (pre ++ (x :: y :: r) :: rest)) pre.length)).run = some (.norm, inv9 b s (ba (acc ++ List.replicate (runL (x :: y :: r)).toNat (byteR (digL x) (digL y)))) (sRow (pre ++ (x :: y :: r) :: rest)) ((pre.length + 1 : Nat) : Int)) := by
        refine go9 b _ _ _ _ ?_
        cases b with
        | true =>
          simp only [if_true]
          rw [rk9t_eq]
          refine aT a0 (aT bt (gStep hat (gStep rfl (gStep (x := ba (x :: y :: r)) rfl (aF hs (aT bt (gStep hat (gStep rfl (gStep (x := ba (x :: y :: r)) rfl (aT hs2 (gStep e29 (aF rfl (aT bt (gStep hat (gStep rfl (gStep e30 (gStep elo ?_)))))))))))))))))
          rw [wi]
          rfl
        | false =>
          simp only [Bool.false_eq_true, if_false]
          rw [rk9f_eq]
          refine aT a0 (aT bf (gStep hat0 (gStep rfl (gStep (x := ba (x :: y :: r)) rfl (aF hs (aT bf (gStep hat0 (gStep rfl (gStep (x := ba (x :: y :: r)) rfl (aT hs2 (gStep e29 (aF rfl (aT bf (gStep hat0 (gStep rfl (gStep e30 (gStep elo ?_)))))))))))))))))
          rw [wi]
          rfl
      have ih := loop9 b s rest (pre ++ [x :: y :: r]) (acc ++ List.replicate (runL (x :: y :: r)).toNat (byteR (digL x) (digL y))) (by simp only [List.length_append, List.length_cons, List.length_nil]; omega)
        (by rw [List.length_append, List.length_replicate]; omega)
      rw [show pre ++ [x :: y :: r] ++ rest = pre ++ (x :: y :: r) :: rest by simp, show List.length (pre ++ [x :: y :: r]) = pre.length + 1 by simp] at ih
      cases hq : refF rest (acc ++ List.replicate (runL (x :: y :: r)).toNat (byteR (digL x) (digL y))) with
      | some o =>
        rw [hq] at ih
        exact LoopTo.more (orc := t9) (lo := lo9b) (fun _ _ _ _ h => h) lo9b_ok step ih
      | none =>
        rw [hq] at ih
        obtain ⟨a, ih⟩ := ih
        exact ⟨a, LoopTo.more (orc := t9) (lo := lo9b) (fun _ _ _ _ h => h) lo9b_ok step ih⟩

theorem out9x_inj {a0 : AV} : ∀ x y, out9x a0 x = out9x a0 y → x = y := by
  intro x y h
  simp [out9x, mkT] at h
  exact h
theorem out9y_inj {a0 : AV} : ∀ x y, out9y a0 x = out9y a0 y → x = y := by
  intro x y h
  simp [out9y, mkT] at h
  exact h
theorem out9_no {a0 : AV} {y : ByteArray} : ∀ x, out9x a0 x ≠ out9y a0 y := fun x h => by simp [out9x, out9y] at h
theorem oRwO_inj {G : List Ent} : ∀ x y, oRwO G x = oRwO G y → x = y := by intro x y h; simpa [oRwO] using h
theorem oRw_no {G : List Ent} {y : Row} : ∀ x, oRw G x ≠ oRwO G y := fun x h => by simp [oRw, oRwO] at h
theorem p10' {l : List UInt8} {G : List Ent} : fnS (oS G) (P10 [.dat (.str (ba l))] G) = some (ba (shortB l)) := fnS_eq (out := oS G) oS_inj p10
theorem f9_run (t : List UInt8) : R9 [.dat (.str (ba t))] [] = some (oLg [] (lgOf (refL t))) := by
  have key : ∀ o, (f9t (ba t)).ev = o → R9 [.dat (.str (ba t))] [] = o := fun o h => by
    rw [Tr.ev_run] at h
    exact h
  refine key _ ?_
  rw [f9t_eq]
  by_cases h200 : 200 < t.length
  · rw [refL, if_pos h200]
    exact aT (by rw [ba_sz, decide_eq_true_eq]; omega) rfl
  refine aF (by rw [ba_sz, decide_eq_false_iff_not]; omega) ?_
  rw [refL, if_neg h200]
  have hn := cuts_num 32 t
  have hl := fun b => loop9 b (ba t) (cutsL 32 t) [] [] (by simp only [List.nil_append]; omega) (by simp only [List.length_nil]; omega)
  simp only [List.nil_append, List.length_nil] at hl
  rcases f28_run (t := t) (by omega) with e28 | e28
  · refine aT (fnS_yes (o1 := oRw []) oRw_inj e28) (gStep (fnS_eq (out := oRw []) oRw_inj e28) ?_)
    have hl := hl true
    cases hp : refF (cutsL 32 t) [] with
    | none =>
      rw [hp] at hl
      obtain ⟨a, hl⟩ := hl
      exact aF (loS_no (o1 := out9x (.dat (.str (ba t)))) hl out9_no) (gStep (loS_eq (out := out9y (.dat (.str (ba t)))) out9y_inj hl) rfl)
    | some o =>
      rw [hp] at hl
      refine aT (loS_yes (o1 := out9x (.dat (.str (ba t)))) out9x_inj hl) (gStep (loS_eq (out := out9x (.dat (.str (ba t)))) out9x_inj hl) (gStep p10' ?_))
      simp only
      by_cases h1 : shortB o = t
      · refine aF (by rw [ba_list, ba_list, h1]; simp) ?_
        by_cases h0 : t = []
        · rw [if_pos (.inr h0)]
          exact aT (by rw [ba_list, h0]; rfl) rfl
        · rw [if_neg (by simp [h0, h1])]
          exact aF (by rw [ba_list]; simpa using h0) rfl
      · rw [if_pos (.inl h1)]
        exact aT (by rw [ba_list, ba_list]; simpa using h1) rfl
  · have e28' : R28 [.dat (.str (ba t))] [] = some (oRwO [] (sRow (cutsL 32 t))) := e28
    refine aF (fnS_no e28' oRw_no) (gStep (fnS_eq (out := oRwO []) oRwO_inj e28') ?_)
    have hl := hl false
    cases hp : refF (cutsL 32 t) [] with
    | none =>
      rw [hp] at hl
      obtain ⟨a, hl⟩ := hl
      exact aF (loS_no (o1 := out9x (.dat (.str (ba t)))) hl out9_no) (gStep (loS_eq (out := out9y (.dat (.str (ba t)))) out9y_inj hl) rfl)
    | some o =>
      rw [hp] at hl
      refine aT (loS_yes (o1 := out9x (.dat (.str (ba t)))) out9x_inj hl) (gStep (loS_eq (out := out9x (.dat (.str (ba t)))) out9x_inj hl) (gStep p10' ?_))
      simp only
      by_cases h1 : shortB o = t
      · refine aF (by rw [ba_list, ba_list, h1]; simp) ?_
        by_cases h0 : t = []
        · rw [if_pos (.inr h0)]
          exact aT (by rw [ba_list, h0]; rfl) rfl
        · rw [if_neg (by simp [h0, h1])]
          exact aF (by rw [ba_list]; simpa using h0) rfl
      · rw [if_pos (.inl h1)]
        exact aT (by rw [ba_list, ba_list]; simpa using h1) rfl
end Go.Eng
end

/- Steps as lines: the document's numbers and words, as trees. -/
section
namespace Go.Eng
open Go
set_option maxRecDepth 100000

def HSc (f : Nat) : Nat → List Nat := match f with
  | 34 => hOfS [(3, [0, 3, 4]), (1000003, [3])]
  | _ => fun _ => []
def HSp (f : Nat) : Nat → List Nat := match f with
  | 23 => hOfS [(2, [0, 4]), (1000002, [0, 2, 3])]
  | 24 => hOfS [(6, [0, 3, 4, 5]), (1000006, [3, 4])]
  | _ => fun _ => []
/-! ### digits, Num -/
noncomputable def lp34 : Code := lpOf (codeOf Go.Proofs.Tryz.f38) 0
def inv34 (n : Int) (s : ByteArray) (i : Int) : St := ⟨mkT 0 29 [(0, .dat (.int .u64 n)), (3, .dat (.str s)), (4, jn i)], ⟨[], [], 0⟩⟩
noncomputable def rk34 (n : Int) (s : ByteArray) (i : Int) : Tr (Ex × St) := tround TT tNone noLo (HSc 34) lp34 (inv34 n s i)
def out34 (s : ByteArray) : Ex × St := (.exit 0, ⟨mkT 0 29 [(3, .dat (.str s))], ⟨[], [], 0⟩⟩)
noncomputable def lo34 (n : Nat) (st : St) : Tr (Ex × St) := match n with
  | 3 => tlo TT tNone.runs (HSc 34) lp34 out34 st
  | _ => .fail
noncomputable def f34t (n : Int) : Tr (AV × List Ent) := tfn TT tNone lo34 Go.Proofs.Tryz.f38 [.dat (.int .u64 n)] []
noncomputable def R134 (a : List AV) (G : List Ent) : Option (AV × List Ent) := (tfn TT tNone lo34 Go.Proofs.Tryz.f38 a G).run
noncomputable def P134 := pureS R134
noncomputable def t118 : TOrc := tCons 38 (fun a G => tspec (oS G) (P134 a G)) tNone
noncomputable def f18t (n : Int) : Tr (AV × List Ent) := tfn TT t118 noLo Go.Proofs.Tryz.f26 [jn n] []
noncomputable def R118 (a : List AV) (G : List Ent) : Option (AV × List Ent) := (tfn TT t118 noLo Go.Proofs.Tryz.f26 a G).run
noncomputable def P118 := pureS R118
def oWw (G : List Ent) (p : ByteArray × ByteArray) : AV × List Ent := (.tup [.dat (.str p.1), .dat (.str p.2)], G)
/-! ### Word -/
noncomputable def lp23 : Code := lpOf (codeOf Go.Proofs.Tryz.f46) 0
def inv23 (s : ByteArray) (i : Int) : St := ⟨mkT 0 23 [(0, .dat (.str s)), (4, jn i)], ⟨[], [], 0⟩⟩
noncomputable def rk23 (s : ByteArray) (i : Int) : Tr (Ex × St) := tround TT tNone noLo (HSp 23) lp23 (inv23 s i)
def out23n (a0 : AV) (_ : Unit) : Ex × St := (.exit 0, ⟨mkT 0 23 [(0, a0)], ⟨[], [], 0⟩⟩)
def out23y (a0 : AV) (p : ByteArray × ByteArray) : Ex × St := (.ret, ⟨mkT 0 23 [(0, a0), (2, .dat (.str p.1)), (3, .dat (.str p.2))], ⟨[], [], 0⟩⟩)
noncomputable def lo23 (n : Nat) (st : St) : Tr (Ex × St) := match n with
  | 2 => tlo2 TT tNone.runs (HSp 23) lp23 (out23n (st.tmps.getD 0 .dead)) (out23y (st.tmps.getD 0 .dead)) st
  | _ => .fail
noncomputable def f23t (s : ByteArray) : Tr (AV × List Ent) := tfn TT tNone lo23 Go.Proofs.Tryz.f46 [.dat (.str s)] []
noncomputable def R123 (a : List AV) (G : List Ent) : Option (AV × List Ent) := (tfn TT tNone lo23 Go.Proofs.Tryz.f46 a G).run
noncomputable def P123 := pureS R123
/-! ### Number -/
noncomputable def lp24 : Code := lpOf (codeOf Go.Proofs.Tryz.f47) 0
def inv24 (s : ByteArray) (n fr i : Int) : St := ⟨mkT 0 38 [(0, .dat (.str s)), (3, .dat (.int .u64 n)), (4, jn fr), (5, jn i)], ⟨[], [], 0⟩⟩
noncomputable def rk24 (s : ByteArray) (n fr i : Int) : Tr (Ex × St) := tround TT tNone noLo (HSp 24) lp24 (inv24 s n fr i)
def out24 (a4 : AV) (n : Int) : Ex × St := (.exit 0, ⟨mkT 0 38 [(3, .dat (.int .u64 n)), (4, a4)], ⟨[], [], 0⟩⟩)
noncomputable def lo24 (n : Nat) (st : St) : Tr (Ex × St) := match n with
  | 6 => tlo TT tNone.runs (HSp 24) lp24 (out24 (st.tmps.getD 4 .dead)) st
  | _ => .fail
noncomputable def f24t (s : ByteArray) : Tr (AV × List Ent) := tfn TT tNone lo24 Go.Proofs.Tryz.f47 [.dat (.str s)] []
noncomputable def R124 (a : List AV) (G : List Ent) : Option (AV × List Ent) := (tfn TT tNone lo24 Go.Proofs.Tryz.f47 a G).run
noncomputable def P124 := pureS R124
end Go.Eng
end

/- Steps as lines: the document's numbers and words. -/
section
namespace Go.Eng
open Go
set_option maxRecDepth 100000
set_option linter.unusedSimpArgs false

theorem rk34_eq (n : Int) (s : ByteArray) (i : Int) : (rk34 n s i).ev =
 (rAsk (decide (i < (20 : Int)))
 (rAsk (i == (0 : Int))
 (rAsk ((decide ((0 : Int) ≤ (Int.tmod n (10 : Int)))) && ((decide ((Int.tmod n (10 : Int)) ≤ (IntKind.wrap IntKind.u64 ((Int.tmod n (10 : Int)) + (1 : Int))))) && (decide ((IntKind.wrap IntKind.u64 ((Int.tmod n (10 : Int)) + (1 : Int))) ≤ (10 : Int)))))
 (rAsk (Nat.ble ((ByteArray.size (ByteArray.extract (ByteArray.mk (List.toArray [48, 49, 50, 51, 52, 53, 54, 55, 56, 57])) (Int.toNat (Int.tmod n (10 : Int))) (Int.toNat (IntKind.wrap IntKind.u64 ((Int.tmod n (10 : Int)) + (1 : Int)))))) + (ByteArray.size s)) 9223372036854775807)
 (some (Ex.norm, (St.mk (mkT 0 29 [(0, (AV.dat (D.int IntKind.u64 (IntKind.wrap IntKind.u64 (Int.tdiv n (10 : Int)))))), (3, (AV.dat (D.str ((ByteArray.extract (ByteArray.mk (List.toArray [48, 49, 50, 51, 52, 53, 54, 55, 56, 57])) (Int.toNat (Int.tmod n (10 : Int))) (Int.toNat (IntKind.wrap IntKind.u64 ((Int.tmod n (10 : Int)) + (1 : Int))))) ++ s)))), (4, (AV.dat (D.int IntKind.i64 (IntKind.wrap IntKind.i64 (i + (1 : Int))))))]) (Mem.mk [] [] 0))))
 none)
 none)
 (rAsk (decide (n > (0 : Int)))
 (rAsk ((decide ((0 : Int) ≤ (Int.tmod n (10 : Int)))) && ((decide ((Int.tmod n (10 : Int)) ≤ (IntKind.wrap IntKind.u64 ((Int.tmod n (10 : Int)) + (1 : Int))))) && (decide ((IntKind.wrap IntKind.u64 ((Int.tmod n (10 : Int)) + (1 : Int))) ≤ (10 : Int)))))
 (rAsk (Nat.ble ((ByteArray.size (ByteArray.extract (ByteArray.mk (List.toArray [48, 49, 50, 51, 52, 53, 54, 55, 56, 57])) (Int.toNat (Int.tmod n (10 : Int))) (Int.toNat (IntKind.wrap IntKind.u64 ((Int.tmod n (10 : Int)) + (1 : Int)))))) + (ByteArray.size s)) 9223372036854775807)
 (some (Ex.norm, (St.mk (mkT 0 29 [(0, (AV.dat (D.int IntKind.u64 (IntKind.wrap IntKind.u64 (Int.tdiv n (10 : Int)))))), (3, (AV.dat (D.str ((ByteArray.extract (ByteArray.mk (List.toArray [48, 49, 50, 51, 52, 53, 54, 55, 56, 57])) (Int.toNat (Int.tmod n (10 : Int))) (Int.toNat (IntKind.wrap IntKind.u64 ((Int.tmod n (10 : Int)) + (1 : Int))))) ++ s)))), (4, (AV.dat (D.int IntKind.i64 (IntKind.wrap IntKind.i64 (i + (1 : Int))))))]) (Mem.mk [] [] 0))))
 none)
 none)
 (some ((Ex.exit 0), (St.mk (mkT 0 29 [(3, (AV.dat (D.str s)))]) (Mem.mk [] [] 0))))))
 (some ((Ex.exit 0), (St.mk (mkT 0 29 [(3, (AV.dat (D.str s)))]) (Mem.mk [] [] 0)))))
  := by kernel_rfl
theorem f34t_eq (n : Int) : (f34t n).ev =
 (rGet (loS TT (TOrc.runs tNone) (HSc 34) lp34 out34 (St.mk (mkT 0 29 [(0, (AV.dat (D.int IntKind.u64 n))), (3, (AV.dat (D.str (ByteArray.mk (List.toArray []))))), (4, (AV.dat (D.int IntKind.i64 (0 : Int))))]) (Mem.mk [] [] 0))) fun x1 =>
 (some ((AV.dat (D.str x1)), [])))
  := by kernel_rfl
theorem f18t_eq (n : Int) : (f18t n).ev =
 (rAsk (decide (n ≥ (0 : Int)))
 (rGet (fnS (fun (zs : ByteArray) => ((AV.dat (D.str zs)), [])) (P134 [(AV.dat (D.int IntKind.u64 (IntKind.wrap IntKind.u64 n)))] [])) fun x1 =>
 (some ((AV.dat (D.str x1)), [])))
 (rGet (fnS (fun (zs : ByteArray) => ((AV.dat (D.str zs)), [])) (P134 [(AV.dat (D.int IntKind.u64 (IntKind.wrap IntKind.u64 ((0 : Int) - (IntKind.wrap IntKind.u64 n)))))] [])) fun x2 =>
 (rAsk (Nat.ble (1 + (ByteArray.size x2)) 9223372036854775807)
 (some ((AV.dat (D.str ((ByteArray.mk (List.toArray [45])) ++ x2))), []))
 none)))
  := by kernel_rfl
theorem rk23_eq (s : ByteArray) (i : Int) : (rk23 s i).ev =
 (rAsk (decide (i < (((ByteArray.size s) : Nat) : Int)))
 (rAsk (decide ((0 : Int) ≤ i))
 (rGet s[(Int.toNat i)]? fun x1 =>
 (rAsk ((((UInt8.toNat x1) : Nat) : Int) == (32 : Int))
 (rAsk (true && ((decide ((0 : Int) ≤ i)) && (decide (i ≤ (((ByteArray.size s) : Nat) : Int)))))
 (rAsk ((decide ((0 : Int) ≤ (IntKind.wrap IntKind.i64 (i + (1 : Int))))) && ((decide ((IntKind.wrap IntKind.i64 (i + (1 : Int))) ≤ (((ByteArray.size s) : Nat) : Int))) && (decide ((((ByteArray.size s) : Nat) : Int) ≤ (((ByteArray.size s) : Nat) : Int)))))
 (some (Ex.ret, (St.mk (mkT 0 23 [(0, (AV.dat (D.str s))), (2, (AV.dat (D.str (ByteArray.extract s 0 (Int.toNat i))))), (3, (AV.dat (D.str (ByteArray.extract s (Int.toNat (IntKind.wrap IntKind.i64 (i + (1 : Int)))) (Int.toNat (((ByteArray.size s) : Nat) : Int))))))]) (Mem.mk [] [] 0))))
 none)
 none)
 (some (Ex.norm, (St.mk (mkT 0 23 [(0, (AV.dat (D.str s))), (4, (AV.dat (D.int IntKind.i64 (IntKind.wrap IntKind.i64 (i + (1 : Int))))))]) (Mem.mk [] [] 0))))))
 none)
 (some ((Ex.exit 0), (St.mk (mkT 0 23 [(0, (AV.dat (D.str s)))]) (Mem.mk [] [] 0)))))
  := by kernel_rfl
theorem f23t_eq (s : ByteArray) : (f23t s).ev =
 (rAsk (Option.isSome (loS TT (TOrc.runs tNone) (HSp 23) lp23 (out23n (AV.dat (D.str s))) (St.mk (mkT 0 23 [(0, (AV.dat (D.str s))), (4, (AV.dat (D.int IntKind.i64 (0 : Int))))]) (Mem.mk [] [] 0))))
 (rGet (loS TT (TOrc.runs tNone) (HSp 23) lp23 (out23n (AV.dat (D.str s))) (St.mk (mkT 0 23 [(0, (AV.dat (D.str s))), (4, (AV.dat (D.int IntKind.i64 (0 : Int))))]) (Mem.mk [] [] 0))) fun _ =>
 (some ((AV.tup [(AV.dat (D.str s)), (AV.dat (D.str (ByteArray.mk (List.toArray []))))]), [])))
 (rGet (loS TT (TOrc.runs tNone) (HSp 23) lp23 (out23y (AV.dat (D.str s))) (St.mk (mkT 0 23 [(0, (AV.dat (D.str s))), (4, (AV.dat (D.int IntKind.i64 (0 : Int))))]) (Mem.mk [] [] 0))) fun x2 =>
 (some ((AV.tup [(AV.dat (D.str x2.1)), (AV.dat (D.str x2.2))]), []))))
  := by kernel_rfl
theorem rk24_eq (s : ByteArray) (n fr i : Int) : (rk24 s n fr i).ev =
 (rAsk (decide (i < (((ByteArray.size s) : Nat) : Int)))
 (rAsk (decide (i < (20 : Int)))
 (rAsk (decide ((0 : Int) ≤ i))
 (rGet s[(Int.toNat i)]? fun x1 =>
 (some (Ex.norm, (St.mk (mkT 0 38 [(0, (AV.dat (D.str s))), (3, (AV.dat (D.int IntKind.u64 (IntKind.wrap IntKind.u64 ((IntKind.wrap IntKind.u64 (n * (10 : Int))) + (IntKind.wrap IntKind.u64 (IntKind.wrap IntKind.u8 ((((UInt8.toNat x1) : Nat) : Int) - (48 : Int))))))))), (4, (AV.dat (D.int IntKind.i64 fr))), (5, (AV.dat (D.int IntKind.i64 (IntKind.wrap IntKind.i64 (i + (1 : Int))))))]) (Mem.mk [] [] 0)))))
 none)
 (some ((Ex.exit 0), (St.mk (mkT 0 38 [(3, (AV.dat (D.int IntKind.u64 n))), (4, (AV.dat (D.int IntKind.i64 fr)))]) (Mem.mk [] [] 0)))))
 (some ((Ex.exit 0), (St.mk (mkT 0 38 [(3, (AV.dat (D.int IntKind.u64 n))), (4, (AV.dat (D.int IntKind.i64 fr)))]) (Mem.mk [] [] 0)))))
  := by kernel_rfl
theorem f24t_eq (s : ByteArray) : (f24t s).ev =
 (rAsk (!((ByteArray.toList s) == []))
 (rGet s[0]? fun x1 =>
 (rAsk ((((UInt8.toNat x1) : Nat) : Int) == (45 : Int))
 (rGet (loS TT (TOrc.runs tNone) (HSp 24) lp24 (out24 (AV.dat (D.int IntKind.i64 (1 : Int)))) (St.mk (mkT 0 38 [(0, (AV.dat (D.str s))), (3, (AV.dat (D.int IntKind.u64 (0 : Int)))), (4, (AV.dat (D.int IntKind.i64 (1 : Int)))), (5, (AV.dat (D.int IntKind.i64 (1 : Int))))]) (Mem.mk [] [] 0))) fun x2 =>
 (some ((AV.dat (D.int IntKind.i64 (IntKind.wrap IntKind.i64 (IntKind.wrap IntKind.u64 ((0 : Int) - x2))))), [])))
 (rGet (loS TT (TOrc.runs tNone) (HSp 24) lp24 (out24 (AV.dat (D.int IntKind.i64 (0 : Int)))) (St.mk (mkT 0 38 [(0, (AV.dat (D.str s))), (3, (AV.dat (D.int IntKind.u64 (0 : Int)))), (4, (AV.dat (D.int IntKind.i64 (0 : Int)))), (5, (AV.dat (D.int IntKind.i64 (0 : Int))))]) (Mem.mk [] [] 0))) fun x3 =>
 (some ((AV.dat (D.int IntKind.i64 (IntKind.wrap IntKind.i64 x3))), [])))))
 (rGet (loS TT (TOrc.runs tNone) (HSp 24) lp24 (out24 (AV.dat (D.int IntKind.i64 (0 : Int)))) (St.mk (mkT 0 38 [(0, (AV.dat (D.str s))), (3, (AV.dat (D.int IntKind.u64 (0 : Int)))), (4, (AV.dat (D.int IntKind.i64 (0 : Int)))), (5, (AV.dat (D.int IntKind.i64 (0 : Int))))]) (Mem.mk [] [] 0))) fun x4 =>
 (some ((AV.dat (D.int IntKind.i64 (IntKind.wrap IntKind.i64 x4))), []))))
  := by kernel_rfl
theorem ba_ext (l : List UInt8) (a b : Nat) : (ba l).extract a b = ba ((l.drop a).take (b - a)) := by
  rw [ba_of ((ba l).extract a b), ByteArray.data_extract, Array.toList_extract]
  rfl
theorem ba_head (p r : List UInt8) : (ba (p ++ r)).extract 0 (Int.toNat ((p.length : Nat) : Int)) = ba p := by
  rw [ba_ext, Int.toNat_natCast, List.drop_zero, Nat.sub_zero, List.take_left]
theorem ba_tail (p r : List UInt8) (n : Nat) (h : n ≤ r.length) : (ba (p ++ r)).extract (Int.toNat ((p.length + n : Nat) : Int)) (Int.toNat (((ba (p ++ r)).size : Nat) : Int)) = ba (r.drop n) := by
  rw [ba_ext, Int.toNat_natCast, Int.toNat_natCast, ba_sz]
  congr 1
  rw [List.drop_append, List.take_of_length_le (by simp; omega), List.drop_of_length_le (by omega)]
  simp
theorem out23n_inj {a0 : AV} : ∀ x y, out23n a0 x = out23n a0 y → x = y := fun _ _ _ => rfl
theorem out23y_inj {a0 : AV} : ∀ x y, out23y a0 x = out23y a0 y → x = y := by
  rintro ⟨a, b⟩ ⟨c, d⟩ h
  simp [out23y, mkT] at h
  obtain ⟨rfl, rfl⟩ := h
  rfl
theorem out23_no {a0 : AV} {y : ByteArray × ByteArray} : ∀ x, out23n a0 x ≠ out23y a0 y := fun x h => by simp [out23n, out23y] at h
theorem out24_inj {a0 : AV} : ∀ x y, out24 a0 x = out24 a0 y → x = y := by
  intro x y h
  simp [out24, mkT] at h
  exact h
theorem out34_inj : ∀ x y, out34 x = out34 y → x = y := by
  intro x y h
  have h2 : (AV.dat (D.str x)) = AV.dat (D.str y) := congrArg (fun e : Ex × St => e.2.tmps.getD 3 .dead) h
  simpa using h2
theorem cut_all : (List.range 10).all (fun k => decide ((ByteArray.mk (List.toArray [48, 49, 50, 51, 52, 53, 54, 55, 56, 57])).extract k (k + 1) = ba [UInt8.ofNat (48 + k)])) = true := by kernel_rfl
theorem cut_at {k : Nat} (h : k < 10) : (ByteArray.mk (List.toArray [48, 49, 50, 51, 52, 53, 54, 55, 56, 57])).extract k (k + 1) = ba [UInt8.ofNat (48 + k)] :=
  of_decide_eq_true (List.all_eq_true.1 cut_all k (List.mem_range.2 h))
attribute [local irreducible] fnS loS tround
theorem go34 {n : Int} {s : ByteArray} {i : Int} {o} (h : (rk34 n s i).ev = o) : (tround TT tNone noLo (HSc 34) lp34 (inv34 n s i)).run = o := by
  rw [Tr.ev_run] at h
  exact h
theorem end34 {s : ByteArray} {i : Nat} (hi : 0 < i) : LoopTo TT tNone.runs (HSc 34) lp34 (inv34 0 s i) (out34 s) := by
  refine LoopTo.last (orc := tNone) (lo := noLo) (fun _ _ _ _ h => h) (LoOk2.no _) (go34 ?_) (by simp [out34])
  rw [rk34_eq]
  by_cases h : ((i : Nat) : Int) < 20
  · exact aT (decide_eq_true h) (aF (by rw [beq_eq_false_iff_ne]; omega) (aF rfl rfl))
  · exact aF (decide_eq_false h) rfl
theorem step34 {u i : Nat} {s : List UInt8} (hu : u < 18446744073709551616) (hi : i < 20) (h : i = 0 ∨ 0 < u) (hs : s.length ≤ 1000) :
    (tround TT tNone noLo (HSc 34) lp34 (inv34 u (ba s) i)).run = some (.norm, inv34 ((u / 10 : Nat) : Int) (ba (UInt8.ofNat (48 + u % 10) :: s)) ((i + 1 : Nat) : Int)) := by
  refine go34 ?_
  rw [rk34_eq]
  have e1 : Int.tmod ((u : Nat) : Int) 10 = ((u % 10 : Nat) : Int) := rfl
  have e2 : Int.tdiv ((u : Nat) : Int) 10 = ((u / 10 : Nat) : Int) := rfl
  have hm : u % 10 < 10 := Nat.mod_lt _ (by omega)
  have e3 : IntKind.wrap IntKind.u64 (((u % 10 : Nat) : Int) + 1) = ((u % 10 + 1 : Nat) : Int) := by rw [wU64]; omega
  have e4 : IntKind.wrap IntKind.u64 ((u / 10 : Nat) : Int) = ((u / 10 : Nat) : Int) := by rw [wU64]; omega
  rw [e1, e2, e3, e4, w64 (n := i + 1) (by omega) (x := ((i : Nat) : Int) + 1) (by omega), Int.toNat_natCast, Int.toNat_natCast, cut_at hm, ba_app, ba_sz, ba_sz]
  have hin : ((decide ((0 : Int) ≤ ((u % 10 : Nat) : Int))) && ((decide (((u % 10 : Nat) : Int) ≤ ((u % 10 + 1 : Nat) : Int))) && (decide (((u % 10 + 1 : Nat) : Int) ≤ (10 : Int))))) = true := by
    simp only [Bool.and_eq_true, decide_eq_true_eq]
    omega
  refine aT (by rw [decide_eq_true_eq]; omega) ?_
  have fin : ∀ o, (rAsk ((decide ((0 : Int) ≤ ((u % 10 : Nat) : Int))) && ((decide (((u % 10 : Nat) : Int) ≤ ((u % 10 + 1 : Nat) : Int))) && (decide (((u % 10 + 1 : Nat) : Int) ≤ (10 : Int)))))
      (rAsk (Nat.ble ([UInt8.ofNat (48 + u % 10)].length + s.length) 9223372036854775807) (some o) none) none) = some (o : Ex × St) := fun o =>
    aT hin (aT (Nat.ble_eq_true_of_le (by simp only [List.length_singleton]; omega)) rfl)
  by_cases h0 : i = 0
  · subst h0
    exact aT rfl (fin _)
  · refine aF (by rw [beq_eq_false_iff_ne]; omega) (aT (by rw [decide_eq_true_eq]; omega) (fin _))
theorem loop34 : ∀ (k u i : Nat) (s : List UInt8), u < 10 ^ (k + 1) → u < 18446744073709551616 → i + k + 1 ≤ 20 → (i = 0 ∨ 0 < u) → s.length + k ≤ 900 →
    LoopTo TT tNone.runs (HSc 34) lp34 (inv34 u (ba s) i) (out34 (ba (Go.Lib.decDigits u ++ s)))
  | 0, u, i, s, hk, hu, hi, h, hs => by
    have hlt : u < 10 := by simpa using hk
    have st := step34 (s := s) hu (by omega) h (by omega)
    rw [show u / 10 = 0 by omega, show u % 10 = u by omega] at st
    rw [dec_small hlt]
    exact LoopTo.more (orc := tNone) (lo := noLo) (fun _ _ _ _ h => h) (LoOk2.no _) st (end34 (by omega))
  | k + 1, u, i, s, hk, hu, hi, h, hs => by
    have st := step34 (s := s) hu (by omega) h (by omega)
    by_cases hlt : u < 10
    · rw [show u / 10 = 0 by omega, show u % 10 = u by omega] at st
      rw [dec_small hlt]
      exact LoopTo.more (orc := tNone) (lo := noLo) (fun _ _ _ _ h => h) (LoOk2.no _) st (end34 (by omega))
    · have ih := loop34 k (u / 10) (i + 1) (UInt8.ofNat (48 + u % 10) :: s) (by rw [Nat.pow_succ] at hk; omega) (by omega) (by omega) (.inr (by omega)) (by rw [List.length_cons]; omega)
      rw [dec_big hlt, List.append_assoc]
      exact LoopTo.more (orc := tNone) (lo := noLo) (fun _ _ _ _ h => h) (LoOk2.no _) st ih
theorem p134 {u : Nat} (hu : u < 18446744073709551616) (G : List Ent) : P134 [.dat (.int .u64 u)] G = some (oS G (ba (Go.Lib.decDigits u))) := by
  have key : ∀ o, (f34t u).ev = o → R134 [.dat (.int .u64 u)] [] = o := fun o h => by
    rw [Tr.ev_run] at h
    exact h
  have hl := loop34 19 u 0 [] (by omega) hu (by omega) (.inl rfl) (by simp)
  rw [List.append_nil] at hl
  unfold P134
  refine pureS_eq (G0 := []) rfl (key _ ?_) rfl
  rw [f34t_eq]
  exact gStep (loS_eq (out := out34) out34_inj hl) rfl
attribute [local irreducible] P134
theorem p118 {v : Int} (h : fit64 v) (G : List Ent) : P118 [.dat (.int .i64 v)] G = some (oS G (ba (Go.Lib.itoa v))) := by
  obtain ⟨h0, h1⟩ := h
  have key : ∀ o, (f18t v).ev = o → R118 [.dat (.int .i64 v)] [] = o := fun o h => by
    rw [Tr.ev_run] at h
    exact h
  unfold P118
  refine pureS_eq (G0 := []) rfl (key _ ?_) rfl
  rw [f18t_eq]
  by_cases hn : v < 0
  · obtain ⟨u, hu⟩ : ∃ u : Nat, v = -(u : Int) := ⟨v.natAbs, by omega⟩
    subst hu
    have e : IntKind.wrap IntKind.u64 ((0 : Int) - (IntKind.wrap IntKind.u64 (-(u : Int)))) = ((u : Nat) : Int) := by rw [wU64, wU64]; omega
    have hd := dec_len_lt 18 u (by omega)
    rw [e, Go.Lib.itoa_neg u (by omega)]
    refine aF (by rw [decide_eq_false_iff_not]; omega) (gStep (fnS_eq (out := oS []) oS_inj (p134 (u := u) (by omega) [])) ?_)
    rw [ba_sz]
    refine aT (Nat.ble_eq_true_of_le (by omega)) ?_
    rw [show ByteArray.mk (List.toArray [45]) = ba [45] from rfl, ba_app]
    rfl
  · obtain ⟨u, hu⟩ : ∃ u : Nat, v = (u : Int) := ⟨v.toNat, by omega⟩
    subst hu
    have e : IntKind.wrap IntKind.u64 ((u : Nat) : Int) = ((u : Nat) : Int) := by rw [wU64]; omega
    rw [e, Go.Lib.itoa_nonneg u]
    exact aT (by rw [decide_eq_true_eq]; omega) (gStep (fnS_eq (out := oS []) oS_inj (p134 (u := u) (by omega) [])) rfl)
theorem oWw_inj {G : List Ent} : ∀ x y, oWw G x = oWw G y → x = y := by
  rintro ⟨a, b⟩ ⟨c, d⟩ h
  simp [oWw] at h
  obtain ⟨rfl, rfl⟩ := h
  rfl
theorem oI_injW {G : List Ent} : ∀ x y, oI G x = oI G y → x = y := by intro x y h; simpa [oI, jn] using h
/-! ### Word -/
theorem go23 {s : ByteArray} {i : Int} {o} (h : (rk23 s i).ev = o) : (tround TT tNone noLo (HSp 23) lp23 (inv23 s i)).run = o := by
  rw [Tr.ev_run] at h
  exact h
theorem cut1_no (b : UInt8) : ∀ l : List UInt8, (cut1 b l).2.2 = false → cut1 b l = (l, [], false)
  | [], _ => rfl
  | c :: l, h => by
    unfold cut1 at h ⊢
    split at h
    · cases h
    · rename_i hc
      rw [if_neg hc, cut1_no b l h]
def toW (t p : List UInt8) (c : List UInt8 × List UInt8 × Bool) (st : St) : Prop :=
  if c.2.2 = true then LoopTo TT tNone.runs (HSp 23) lp23 st (out23y (.dat (.str (ba t))) (ba (p ++ c.1), ba c.2.1))
  else LoopTo TT tNone.runs (HSp 23) lp23 st (out23n (.dat (.str (ba t))) ())
theorem loop23 : ∀ (l p : List UInt8), (p ++ l).length ≤ 4000 → toW (p ++ l) p (cut1 32 l) (inv23 (ba (p ++ l)) p.length)
  | [], p, _ => by
    unfold toW
    rw [cut1, if_neg (by simp)]
    refine LoopTo.last (orc := tNone) (lo := noLo) (fun _ _ _ _ h => h) (LoOk2.no _) (go23 ?_) (by simp [out23n])
    rw [rk23_eq, ba_sz]
    exact aF (by rw [decide_eq_false_iff_not, List.append_nil]; omega) rfl
  | c :: l, p, h => by
    have hlen : (p ++ c :: l).length = p.length + l.length + 1 := by rw [List.length_append, List.length_cons]; omega
    have a0 : decide ((0 : Int) ≤ ((p.length : Nat) : Int)) = true := by rw [decide_eq_true_eq]; omega
    have a1 : decide (((p.length : Nat) : Int) < (((ba (p ++ c :: l)).size : Nat) : Int)) = true := by rw [ba_sz, decide_eq_true_eq]; omega
    by_cases hc : c = 32
    · subst hc
      unfold toW
      rw [cut1, if_pos rfl, if_pos rfl]
      refine LoopTo.last (orc := tNone) (lo := noLo) (fun _ _ _ _ h => h) (LoOk2.no _) (go23 ?_) (by simp [out23y])
      rw [rk23_eq, w64 (n := p.length + 1) (by omega) (x := ((p.length : Nat) : Int) + 1) (by omega), ba_head, ba_tail p (32 :: l) 1 (by simp), ba_sz]
      rw [ba_sz] at a1
      refine aT a1 (aT a0 (gStep ba_mid (aT rfl (aT ?_ (aT ?_ ?_)))))
      · simp only [Bool.true_and, Bool.and_eq_true, decide_eq_true_eq]; omega
      · simp only [Bool.and_eq_true, decide_eq_true_eq]; omega
      · rw [List.append_nil]
        rfl
    · have step : (tround TT tNone noLo (HSp 23) lp23 (inv23 (ba (p ++ c :: l)) p.length)).run = some (.norm, inv23 (ba (p ++ c :: l)) ((p.length + 1 : Nat) : Int)) := by
        refine go23 ?_
        rw [rk23_eq, w64 (n := p.length + 1) (by omega) (x := ((p.length : Nat) : Int) + 1) (by omega)]
        refine aT a1 (aT a0 (gStep ba_mid (aF ?_ rfl)))
        rw [beq_eq_false_iff_ne]
        intro e
        have : c.toNat = 32 := by omega
        exact hc (UInt8.toNat_inj.1 this)
      have ih := loop23 l (p ++ [c]) (by simpa using h)
      rw [show p ++ [c] ++ l = p ++ c :: l by simp, show List.length (p ++ [c]) = p.length + 1 by simp] at ih
      unfold toW at ih ⊢
      rw [cut1, if_neg hc]
      simp only
      split at ih
      · rename_i hb
        rw [if_pos hb, show p ++ c :: (cut1 32 l).1 = p ++ [c] ++ (cut1 32 l).1 by simp]
        exact LoopTo.more (orc := tNone) (lo := noLo) (fun _ _ _ _ h => h) (LoOk2.no _) step ih
      · rename_i hb
        rw [if_neg hb]
        exact LoopTo.more (orc := tNone) (lo := noLo) (fun _ _ _ _ h => h) (LoOk2.no _) step ih
def wwOf (p : List UInt8 × List UInt8) : ByteArray × ByteArray := (ba p.1, ba p.2)
theorem p123 {s : List UInt8} (h : s.length ≤ 4000) (G : List Ent) : P123 [.dat (.str (ba s))] G = some (oWw G (wwOf (wordR s))) := by
  have key : ∀ o, (f23t (ba s)).ev = o → R123 [.dat (.str (ba s))] [] = o := fun o h => by
    rw [Tr.ev_run] at h
    exact h
  unfold P123
  refine pureS_eq (G0 := []) rfl (key _ ?_) rfl
  rw [f23t_eq]
  have hl := loop23 s [] h
  rw [List.nil_append] at hl
  unfold toW at hl
  split at hl
  · exact aF (loS_no (o1 := out23n (.dat (.str (ba s)))) hl out23_no) (gStep (loS_eq (out := out23y (.dat (.str (ba s)))) out23y_inj hl) rfl)
  · rename_i hb
    have e := cut1_no 32 s (by simpa using hb)
    refine aT (loS_yes (o1 := out23n (.dat (.str (ba s)))) out23n_inj hl) (gStep (loS_eq (out := out23n (.dat (.str (ba s)))) out23n_inj hl) ?_)
    unfold wordR
    rw [e]
    rfl
/-! ### Number -/
theorem go24 {s : ByteArray} {n fr i : Int} {o} (h : (rk24 s n fr i).ev = o) : (tround TT tNone noLo (HSp 24) lp24 (inv24 s n fr i)).run = o := by
  rw [Tr.ev_run] at h
  exact h
theorem numG_zero (n : Nat) (l : List UInt8) : numG 0 n l = n := by cases l <;> rfl
theorem numG_lt : ∀ (k n : Nat) (l : List UInt8), n < 18446744073709551616 → numG k n l < 18446744073709551616
  | _, _, [], h => by unfold numG; exact h
  | 0, _, _ :: _, h => by unfold numG; exact h
  | k + 1, n, d :: l, _ => by
    unfold numG
    exact numG_lt k _ l (Nat.mod_lt _ (by omega))
theorem dig_wrap (n : Nat) (c : UInt8) : IntKind.wrap IntKind.u64 ((IntKind.wrap IntKind.u64 ((n : Int) * (10 : Int))) + (IntKind.wrap IntKind.u64 (IntKind.wrap IntKind.u8 ((((UInt8.toNat c) : Nat) : Int) - (48 : Int))))) = (((n * 10 % 18446744073709551616 + (c.toNat + 208) % 256) % 18446744073709551616 : Nat) : Int) := by
  have hc := c.toNat_lt
  have e : IntKind.wrap .u8 (((c.toNat : Nat) : Int) - 48) = (((c.toNat + 208) % 256 : Nat) : Int) := by
    unfold IntKind.wrap
    simp [IntKind.bits, IntKind.signed]
    omega
  rw [e, wU64, wU64, wU64]
  omega
theorem loop24 {fr : Int} : ∀ (l p : List UInt8) (n : Nat), LoopTo TT tNone.runs (HSp 24) lp24 (inv24 (ba (p ++ l)) n fr p.length) (out24 (jn fr) ((numG (20 - p.length) n l : Nat) : Int))
  | [], p, n => by
    refine LoopTo.last (orc := tNone) (lo := noLo) (fun _ _ _ _ h => h) (LoOk2.no _) (go24 ?_) (by simp [out24])
    rw [rk24_eq, ba_sz]
    unfold numG
    exact aF (by rw [decide_eq_false_iff_not, List.append_nil]; omega) rfl
  | c :: l, p, n => by
    have hlen : (p ++ c :: l).length = p.length + l.length + 1 := by rw [List.length_append, List.length_cons]; omega
    have a0 : decide ((0 : Int) ≤ ((p.length : Nat) : Int)) = true := by rw [decide_eq_true_eq]; omega
    have a1 : decide (((p.length : Nat) : Int) < (((ba (p ++ c :: l)).size : Nat) : Int)) = true := by rw [ba_sz, decide_eq_true_eq]; omega
    by_cases h20 : p.length < 20
    · have step : (tround TT tNone noLo (HSp 24) lp24 (inv24 (ba (p ++ c :: l)) n fr p.length)).run = some (.norm, inv24 (ba (p ++ c :: l)) ((((n * 10 % 18446744073709551616 + (c.toNat + 208) % 256) % 18446744073709551616 : Nat)) : Int) fr ((p.length + 1 : Nat) : Int)) := by
        refine go24 ?_
        rw [rk24_eq, w64 (n := p.length + 1) (by omega) (x := ((p.length : Nat) : Int) + 1) (by omega)]
        refine aT a1 (aT (by rw [decide_eq_true_eq]; omega) (aT a0 (gStep ba_mid ?_)))
        rw [dig_wrap]
        rfl
      have ih := loop24 (fr := fr) l (p ++ [c]) ((n * 10 % 18446744073709551616 + (c.toNat + 208) % 256) % 18446744073709551616)
      rw [show p ++ [c] ++ l = p ++ c :: l by simp, show List.length (p ++ [c]) = p.length + 1 by simp] at ih
      rw [show 20 - p.length = (20 - (p.length + 1)) + 1 by omega, numG]
      exact LoopTo.more (orc := tNone) (lo := noLo) (fun _ _ _ _ h => h) (LoOk2.no _) step ih
    · rw [show 20 - p.length = 0 by omega, numG_zero]
      refine LoopTo.last (orc := tNone) (lo := noLo) (fun _ _ _ _ h => h) (LoOk2.no _) (go24 ?_) (by simp [out24])
      rw [rk24_eq]
      exact aT a1 (aF (by rw [decide_eq_false_iff_not]; omega) rfl)
theorem p124 (s : List UInt8) (G : List Ent) : P124 [.dat (.str (ba s))] G = some (oI G (numR s)) := by
  have key : ∀ o, (f24t (ba s)).ev = o → R124 [.dat (.str (ba s))] [] = o := fun o h => by
    rw [Tr.ev_run] at h
    exact h
  unfold P124
  refine pureS_eq (G0 := []) rfl (key _ ?_) rfl
  rw [f24t_eq, ba_list]
  have hl := loop24 (fr := 0) s [] 0
  rw [List.nil_append] at hl
  cases s with
  | nil => exact aF rfl (gStep (loS_eq (out := out24 (jn 0)) out24_inj hl) rfl)
  | cons c r =>
    refine aT rfl (gStep (x := c) (ba_at (i := 0) (by simp)) ?_)
    unfold numR
    simp only
    by_cases hc : c = 45
    · subst hc
      have hl1 := loop24 (fr := 1) r [45] 0
      rw [if_pos rfl]
      refine aT rfl (gStep (loS_eq (out := out24 (jn 1)) out24_inj hl1) ?_)
      have hlt := numG_lt 19 0 r (by omega)
      have e : IntKind.wrap IntKind.u64 ((0 : Int) - ((numG (20 - [(45 : UInt8)].length) 0 r : Nat) : Int)) = (((18446744073709551616 - numG 19 0 r) % 18446744073709551616 : Nat) : Int) := by
        rw [wU64]
        show ((0 : Int) - ((numG 19 0 r : Nat) : Int)) % _ = _
        omega
      rw [e]
      rfl
    · rw [if_neg hc]
      refine aF ?_ (gStep (loS_eq (out := out24 (jn 0)) out24_inj hl) rfl)
      rw [beq_eq_false_iff_ne]
      intro e
      have : c.toNat = 45 := by omega
      exact hc (UInt8.toNat_inj.1 this)
end Go.Eng
end

/- Steps as lines: what is kept, lists alike, words of kinds, the taker: as trees. -/
section
namespace Go.Eng
open Go
set_option maxRecDepth 100000

def HSe (f : Nat) : Nat → List Nat := match f with
  | 13 => hOfS [(7, [4, 17, 18, 19]), (1000007, [4])]
  | 14 => hOfS [(5, [0, 4, 5]), (1000005, [0, 2, 3, 4])]
  | 15 => hOfS [(5, [0, 3, 4]), (1000005, [3])]
  | 34 => hOfS [(4, [0, 1, 12, 13]), (1000004, [4])]
  | 10 => hOfS [(4, [2, 3, 5]), (1000004, [4])]
  | 44 => hOfS [(2, [0, 1, 7, 8]), (1000002, [4])]
  | 48 => hOfS [(3, [0, 3, 4]), (1000003, [2])]
  | _ => fun _ => []
/-! ### Kept -/
abbrev TK3 := LK × Nat × Row
def oKp (G : List Ent) (p : TK3 × Int) : AV × List Ent := (.tup [.dat (.list p.1.1 p.1.2.1 p.1.2.2), jn p.2], G)
noncomputable def S32 : Spec := sTrim
noncomputable def t213 : TOrc := tCons 32 (fun a G => tspec (oS G) (S32 a G)) tNone
noncomputable def lp13 : Code := lpOf (codeOf Go.Proofs.Tryz.f13) 0
def kM (b : Bool) (q : Row) : AV := if b then .sh false 0 1 0 q.length else .dat (.list .nil 0 [])
def eL (b : Bool) (q : Row) : List (Option Ent) := if b then [some (.row .excl 1 q)] else []
def inv13 (b : Bool) (s q : Row) (i : Int) : St := ⟨mkT 0 30 [(4, kM b q), (17, .sh false (if b then 1 else 0) 1 0 s.length), (18, jn (s.length : Nat)), (19, jn i)], ⟨eL b q ++ [some (.row .excl 1 s)], [], 0⟩⟩
noncomputable def rk13n (s : Row) (i : Int) : Tr (Ex × St) := tround TT t213 noLo (HSe 13) lp13 (inv13 false s [] i)
noncomputable def rk13r (s q : Row) (i : Int) : Tr (Ex × St) := tround TT t213 noLo (HSe 13) lp13 (inv13 true s q i)
def out13r (q : Row) : Ex × St := (.exit 0, ⟨mkT 0 30 [(4, .sh false 0 1 0 q.length)], ⟨[some (.row .excl 1 q)], [], 0⟩⟩)
noncomputable def lo13 (n : Nat) (st : St) : Tr (Ex × St) := match n with
  | 7 => tlo TT t213.runs (HSe 13) lp13 out13r st
  | _ => .fail
noncomputable def f13t (s : ByteArray) : Tr (AV × List Ent) := tfn TT t213 lo13 Go.Proofs.Tryz.f13 [.dat (.str s)] []
noncomputable def R213 (a : List AV) (G : List Ent) : Option (AV × List Ent) := (tfn TT t213 lo13 Go.Proofs.Tryz.f13 a G).run
noncomputable def P213 := pureS R213
/-! ### Kept, the document's -/
noncomputable def lp14 : Code := lpOf (codeOf Go.Proofs.Tryz.f14) 0
def inv14 (b : Bool) (s : ByteArray) (q : Row) (i : Int) : St := ⟨mkT 0 34 [(0, .dat (.str s)), (4, kM b q), (5, jn i)], ⟨eL b q, [], 0⟩⟩
noncomputable def rk14n (s : ByteArray) (i : Int) : Tr (Ex × St) := tround TT tNone noLo (HSe 14) lp14 (inv14 false s [] i)
noncomputable def rk14r (s : ByteArray) (q : Row) (i : Int) : Tr (Ex × St) := tround TT tNone noLo (HSe 14) lp14 (inv14 true s q i)
def out14n (a0 : AV) (_ : Unit) : Ex × St := (.exit 0, ⟨mkT 0 34 [(0, a0), (4, .dat (.list .nil 0 []))], ⟨[], [], 0⟩⟩)
def out14r (a0 : AV) (q : Row) : Ex × St := (.exit 0, ⟨mkT 0 34 [(0, a0), (4, .sh false 0 1 0 q.length)], ⟨[some (.row .excl 1 q)], [], 0⟩⟩)
def out14x (a0 : AV) (p : AV × List (Option Ent)) : Ex × St := (.ret, ⟨mkT 0 34 [(0, a0), (2, .dat (.list .nil 0 [])), (3, jn 6), (4, p.1)], ⟨p.2, [], 0⟩⟩)
noncomputable def lo14 (n : Nat) (st : St) : Tr (Ex × St) := match n with
  | 5 => tlo3 TT tNone.runs (HSe 14) lp14 (out14n (st.tmps.getD 0 .dead)) (out14r (st.tmps.getD 0 .dead)) (out14x (st.tmps.getD 0 .dead)) st
  | _ => .fail
noncomputable def f14t (s : ByteArray) : Tr (AV × List Ent) := tfn TT tNone lo14 Go.Proofs.Tryz.f14 [.dat (.str s)] []
noncomputable def R214 (a : List AV) (G : List Ent) : Option (AV × List Ent) := (tfn TT tNone lo14 Go.Proofs.Tryz.f14 a G).run
noncomputable def P214 := pureS R214
/-! ### Keep, the document's -/
noncomputable def lp15 : Code := lpOf (codeOf Go.Proofs.Tryz.f15) 0
def inv15 (k : LK) (z : Nat) (l : Row) (s : ByteArray) (i : Int) : St := ⟨mkT 0 23 [(0, .dat (.list k z l)), (3, .dat (.str s)), (4, jn i)], ⟨[], [], 0⟩⟩
noncomputable def rk15 (k : LK) (z : Nat) (l : Row) (s : ByteArray) (i : Int) : Tr (Ex × St) := tround TT tNone noLo (HSe 15) lp15 (inv15 k z l s i)
def out15 (s : ByteArray) : Ex × St := (.exit 0, ⟨mkT 0 23 [(3, .dat (.str s))], ⟨[], [], 0⟩⟩)
noncomputable def lo15 (n : Nat) (st : St) : Tr (Ex × St) := match n with
  | 5 => tlo TT tNone.runs (HSe 15) lp15 out15 st
  | _ => .fail
noncomputable def f15t (k : LK) (z : Nat) (l : Row) : Tr (AV × List Ent) := tfn TT tNone lo15 Go.Proofs.Tryz.f15 [.dat (.list k z l)] []
noncomputable def R215 (a : List AV) (G : List Ent) : Option (AV × List Ent) := (tfn TT tNone lo15 Go.Proofs.Tryz.f15 a G).run
noncomputable def P215 := pureS R215
/-! ### lists alike -/
noncomputable def lp34e : Code := lpOf (codeOf Go.Proofs.Tryz.f34) 0
def inv34e (k k' : LK) (z z' : Nat) (l r : Row) (m i : Int) : St := ⟨mkT 0 26 [(0, .dat (.list k z l)), (1, .dat (.list k' z' r)), (12, jn m), (13, jn i)], ⟨[], [], 0⟩⟩
noncomputable def rk34e (k k' : LK) (z z' : Nat) (l r : Row) (m i : Int) : Tr (Ex × St) := tround TT tNone noLo (HSe 34) lp34e (inv34e k k' z z' l r m i)
def out34e (_ : Unit) : Ex × St := (.exit 0, ⟨mkT 0 26 [], ⟨[], [], 0⟩⟩)
def out34x (_ : Unit) : Ex × St := (.ret, ⟨mkT 0 26 [(4, .dat (.bool false))], ⟨[], [], 0⟩⟩)
noncomputable def lo34e (n : Nat) (st : St) : Tr (Ex × St) := match n with
  | 4 => tlo2 TT tNone.runs (HSe 34) lp34e out34e out34x st
  | _ => .fail
noncomputable def g34t (k k' : LK) (z z' : Nat) (l r : Row) : Tr (AV × List Ent) := tfn TT tNone lo34e Go.Proofs.Tryz.f34 [.dat (.list k z l), .dat (.list k' z' r)] []
noncomputable def R234 (a : List AV) (G : List Ent) : Option (AV × List Ent) := (tfn TT tNone lo34e Go.Proofs.Tryz.f34 a G).run
noncomputable def P234 := pureS R234
/-! ### steps alike -/
def stC (k nd a n : Int) (d : ByteArray) (s : Int) (lk : LK) (z : Nat) (l : Row) : List AV := [jn k, jn nd, jn a, jn n, .dat (.str d), jn s, .dat (.list lk z l)]
noncomputable def t218w : TOrc := tCons 34 (fun a G => tspec (oB G) (P234 a G)) tNone
noncomputable def g18t (k nd a n : Int) (d : ByteArray) (s : Int) (lk : LK) (z : Nat) (l : Row) (k' nd' a' n' : Int) (d' : ByteArray) (s' : Int) (lk' : LK) (z' : Nat) (l' : Row) : Tr (AV × List Ent) := tfn TT t218w noLo Go.Proofs.Tryz.f18 [.agg (stC k nd a n d s lk z l), .agg (stC k' nd' a' n' d' s' lk' z' l')] []
noncomputable def R218 (a : List AV) (G : List Ent) : Option (AV × List Ent) := (tfn TT t218w noLo Go.Proofs.Tryz.f18 a G).run
noncomputable def P218 := pureS R218
noncomputable def lp10s : Code := lpOf (codeOf Go.Proofs.Tryz.f10) 0
def inv10s (x y : List AV) (i : Int) : St := ⟨mkT 0 73 [(2, .ptr (.loc 0) 0), (3, .ptr (.loc 1) 0), (5, jn i)], ⟨[some (.obj x), some (.obj y)], [], 0⟩⟩
noncomputable def rk10s (k nd a n : Int) (d : ByteArray) (s : Int) (lk : LK) (z : Nat) (l : Row) (k' nd' a' n' : Int) (d' : ByteArray) (s' : Int) (lk' : LK) (z' : Nat) (l' : Row) (i : Int) : Tr (Ex × St) := tround TT tNone noLo (HSe 10) lp10s (inv10s (stC k nd a n d s lk z l) (stC k' nd' a' n' d' s' lk' z' l') i)
def out10e (_ : Unit) : Ex × St := (.exit 0, ⟨mkT 0 73 [], ⟨[], [], 0⟩⟩)
def out10x (_ : Unit) : Ex × St := (.ret, ⟨mkT 0 73 [(4, .dat (.bool false))], ⟨[], [], 0⟩⟩)
noncomputable def lo10s (n : Nat) (st : St) : Tr (Ex × St) := match n with
  | 4 => tlo2 TT tNone.runs (HSe 10) lp10s out10e out10x st
  | _ => .fail
noncomputable def g10t (k nd a n : Int) (d : ByteArray) (s : Int) (lk : LK) (z : Nat) (l : Row) (k' nd' a' n' : Int) (d' : ByteArray) (s' : Int) (lk' : LK) (z' : Nat) (l' : Row) : Tr (AV × List Ent) := tfn TT tNone lo10s Go.Proofs.Tryz.f10 [.agg (stC k nd a n d s lk z l), .agg (stC k' nd' a' n' d' s' lk' z' l')] []
noncomputable def R210 (a : List AV) (G : List Ent) : Option (AV × List Ent) := (tfn TT tNone lo10s Go.Proofs.Tryz.f10 a G).run
noncomputable def P210 := pureS R210
/-! ### words of kinds -/
noncomputable def P220 := pureS (E 20)
noncomputable def P225 := pureS (E 25)
noncomputable def lp44w : Code := lpOf (codeOf Go.Proofs.Tryz.f44) 0
def inv44w (l : Row) (w : ByteArray) (m i : Int) : St := ⟨mkT 0 19 [(0, .dat (.list .full 1 l)), (1, .dat (.str w)), (7, jn m), (8, jn i)], ⟨[], [], 0⟩⟩
noncomputable def rk44w (l : Row) (w : ByteArray) (m i : Int) : Tr (Ex × St) := tround TT tNone noLo (HSe 44) lp44w (inv44w l w m i)
def out44e (_ : Unit) : Ex × St := (.exit 0, ⟨mkT 0 19 [], ⟨[], [], 0⟩⟩)
def out44x (n : Int) : Ex × St := (.ret, ⟨mkT 0 19 [(4, jn n)], ⟨[], [], 0⟩⟩)
noncomputable def lo44w (n : Nat) (st : St) : Tr (Ex × St) := match n with
  | 2 => tlo2 TT tNone.runs (HSe 44) lp44w out44e out44x st
  | _ => .fail
noncomputable def g44t (l : Row) (w : ByteArray) : Tr (AV × List Ent) := tfn TT tNone lo44w Go.Proofs.Tryz.f44 [.dat (.list .full 1 l), .dat (.str w)] []
noncomputable def R244 (a : List AV) (G : List Ent) : Option (AV × List Ent) := (tfn TT tNone lo44w Go.Proofs.Tryz.f44 a G).run
noncomputable def P244 := pureS R244
noncomputable def t248 : TOrc := tCons 25 (fun a G => tspec (oRw G) (P225 a G)) tNone
noncomputable def lp48w : Code := lpOf (codeOf Go.Proofs.Tryz.f48) 0
def inv48w (w : ByteArray) (l : Row) (i : Int) : St := ⟨mkT 0 19 [(0, .dat (.str w)), (3, .dat (.list .full 1 l)), (4, jn i)], ⟨[], [], 0⟩⟩
noncomputable def rk48w (w : ByteArray) (l : Row) (i : Int) : Tr (Ex × St) := tround TT t248 noLo (HSe 48) lp48w (inv48w w l i)
def out48e (_ : Unit) : Ex × St := (.exit 0, ⟨mkT 0 19 [], ⟨[], [], 0⟩⟩)
def out48x (n : Int) : Ex × St := (.ret, ⟨mkT 0 19 [(2, jn n)], ⟨[], [], 0⟩⟩)
noncomputable def lo48w (n : Nat) (st : St) : Tr (Ex × St) := match n with
  | 3 => tlo2 TT t248.runs (HSe 48) lp48w out48e out48x st
  | _ => .fail
noncomputable def g48t (w : ByteArray) : Tr (AV × List Ent) := tfn TT t248 lo48w Go.Proofs.Tryz.f48 [.dat (.str w)] []
noncomputable def R248 (a : List AV) (G : List Ent) : Option (AV × List Ent) := (tfn TT t248 lo48w Go.Proofs.Tryz.f48 a G).run
noncomputable def P248 := pureS R248
/-! ### the taker -/
def gTk (s : ByteArray) : List Ent := [.obj [.dat (.str s)]]
def oTw (_ : List Ent) (p : ByteArray × ByteArray) : AV × List Ent := (.dat (.str p.1), gTk p.2)
def oTn (_ : List Ent) (p : Int × ByteArray) : AV × List Ent := (jn p.1, gTk p.2)
def oTk (_ : List Ent) (p : TK3 × ByteArray) : AV × List Ent := (.dat (.list p.1.1 p.1.2.1 p.1.2.2), gTk p.2)
noncomputable def t241 : TOrc := tCons 61 (fun a G => tspec (oC G) (S43 a G)) tNone
noncomputable def g41t (s : ByteArray) : Tr (AV × List Ent) := tfn TT t241 noLo Go.Proofs.Tryz.f41 [.ptr (.glob 0) 0] (gTk s)
noncomputable def R241 (a : List AV) (G : List Ent) : Option (AV × List Ent) := (tfn TT t241 noLo Go.Proofs.Tryz.f41 a G).run
noncomputable def t242 : TOrc := tCons 41 (fun a G => tspec (oTw G) (R241 a G)) (tCons 62 (fun a G => tspec2 (oAo G) (oAe G) (S45 a G)) tNone)
noncomputable def g42t (s : ByteArray) : Tr (AV × List Ent) := tfn TT t242 noLo Go.Proofs.Tryz.f42 [.ptr (.glob 0) 0] (gTk s)
noncomputable def R242 (a : List AV) (G : List Ent) : Option (AV × List Ent) := (tfn TT t242 noLo Go.Proofs.Tryz.f42 a G).run
noncomputable def t243 : TOrc := tCons 41 (fun a G => tspec (oTw G) (R241 a G)) (tCons 13 (fun a G => tspec (oKp G) (P213 a G)) tNone)
noncomputable def g43t (s : ByteArray) : Tr (AV × List Ent) := tfn TT t243 noLo Go.Proofs.Tryz.f43 [.ptr (.glob 0) 0] (gTk s)
noncomputable def R243 (a : List AV) (G : List Ent) : Option (AV × List Ent) := (tfn TT t243 noLo Go.Proofs.Tryz.f43 a G).run
end Go.Eng
end

/- Steps as lines: what is kept, lists alike, words of kinds, the taker. -/
section
namespace Go.Eng
open Go
set_option maxRecDepth 100000
set_option linter.unusedSimpArgs false

theorem rk13n_eq (s : Row) (i : Int) : (rk13n s i).ev =
 (rAsk (decide (i < (((List.length s) : Nat) : Int)))
 (rAsk ((decide ((0 : Int) ≤ i)) && (decide (i < (((List.length s) : Nat) : Int))))
 (rGet s[(0 + (Int.toNat i))]? fun x1 =>
 (rGet (List.head? (List.drop 0 x1)) fun x2 =>
 (rGet (D.int? IntKind.u8 x2) fun x3 =>
 (some (Ex.norm, (St.mk (mkT 0 30 [(4, (AV.sh false 0 1 0 1)), (17, (AV.sh false 1 1 0 (List.length s))), (18, (AV.dat (D.int IntKind.i64 (((List.length s) : Nat) : Int)))), (19, (AV.dat (D.int IntKind.i64 (IntKind.wrap IntKind.i64 (i + (1 : Int))))))]) (Mem.mk [(Option.some (Ent.row Mode.excl 1 [[(D.bool (x3 == (49 : Int)))]])), (Option.some (Ent.row Mode.excl 1 s))] [] 0)))))))
 none)
 (some ((Ex.exit 0), (St.mk (mkT 0 30 [(4, (AV.dat (D.list LK.nil 0 ([] : Row))))]) (Mem.mk [] [] 0)))))
  := by kernel_rfl
theorem rk13r_eq (s q : Row) (i : Int) : (rk13r s q i).ev =
 (rAsk (decide (i < (((List.length s) : Nat) : Int)))
 (rAsk ((decide ((0 : Int) ≤ i)) && (decide (i < (((List.length s) : Nat) : Int))))
 (rGet s[(0 + (Int.toNat i))]? fun x1 =>
 (rGet (List.head? (List.drop 0 x1)) fun x2 =>
 (rGet (D.int? IntKind.u8 x2) fun x3 =>
 (rAsk ((decide ((0 + (List.length q)) ≤ (List.length q))) && (fits (TI.mk TK.bool 1 1 [(AV.dat (D.bool false))] true) ((List.length q) + 1)))
 (rAsk (true && (decide ((List.length q) = (List.length q))))
 (some (Ex.norm, (St.mk (mkT 0 30 [(4, (AV.sh false 0 1 0 ((List.length q) + 1))), (17, (AV.sh false 1 1 0 (List.length s))), (18, (AV.dat (D.int IntKind.i64 (((List.length s) : Nat) : Int)))), (19, (AV.dat (D.int IntKind.i64 (IntKind.wrap IntKind.i64 (i + (1 : Int))))))]) (Mem.mk [(Option.some (Ent.row Mode.excl 1 (q ++ [[(D.bool (x3 == (49 : Int)))]]))), (Option.some (Ent.row Mode.excl 1 s))] [] 0))))
 none)
 none))))
 none)
 (some ((Ex.exit 0), (St.mk (mkT 0 30 [(4, (AV.sh false 0 1 0 (List.length q)))]) (Mem.mk [(Option.some (Ent.row Mode.excl 1 q))] [] 0)))))
  := by kernel_rfl
theorem f13t_eq (s : ByteArray) : (f13t s).ev =
 (rAsk ((ByteArray.toList s) == [45])
 (some ((AV.tup [(AV.dat (D.list LK.nil 0 ([] : Row))), (AV.dat (D.int IntKind.i64 (0 : Int)))]), []))
 (rAsk ((ByteArray.toList s) == [])
 (some ((AV.tup [(AV.dat (D.list LK.nil 0 ([] : Row))), (AV.dat (D.int IntKind.i64 (6 : Int)))]), []))
 (rGet (fnS (fun (zs : ByteArray) => ((AV.dat (D.str zs)), [])) (S32 [(AV.dat (D.str s)), (AV.dat (D.str (ByteArray.mk (List.toArray [48, 49]))))] [])) fun x1 =>
 (rAsk (!((ByteArray.toList x1) == []))
 (some ((AV.tup [(AV.dat (D.list LK.nil 0 ([] : Row))), (AV.dat (D.int IntKind.i64 (6 : Int)))]), []))
 (rAsk (decide ((ByteArray.size s) ≤ 140737488355328))
 (rGet (loS TT (TOrc.runs t213) (HSe 13) lp13 out13r (St.mk (mkT 0 30 [(4, (AV.dat (D.list LK.nil 0 ([] : Row)))), (17, (AV.sh false 0 1 0 (ByteArray.size s))), (18, (AV.dat (D.int IntKind.i64 (((ByteArray.size s) : Nat) : Int)))), (19, (AV.dat (D.int IntKind.i64 (0 : Int))))]) (Mem.mk [(Option.some (Ent.row Mode.excl 1 (List.map byteRow (Array.toList (ByteArray.data s)))))] [] 0))) fun x2 =>
 (some ((AV.tup [(AV.dat (D.list LK.any 1 (List.take (List.length x2) (List.drop 0 x2)))), (AV.dat (D.int IntKind.i64 (0 : Int)))]), [])))
 none)))))
  := by kernel_rfl
theorem rk14n_eq (s : ByteArray) (i : Int) : (rk14n s i).ev =
 (rAsk (decide (i < (((ByteArray.size s) : Nat) : Int)))
 (rAsk (decide ((0 : Int) ≤ i))
 (rGet s[(Int.toNat i)]? fun x1 =>
 (rAsk ((((UInt8.toNat x1) : Nat) : Int) != (48 : Int))
 (rAsk (decide ((0 : Int) ≤ i))
 (rGet s[(Int.toNat i)]? fun x2 =>
 (rAsk ((((UInt8.toNat x2) : Nat) : Int) != (49 : Int))
 (some (Ex.ret, (St.mk (mkT 0 34 [(0, (AV.dat (D.str s))), (2, (AV.dat (D.list LK.nil 0 ([] : Row)))), (3, (AV.dat (D.int IntKind.i64 (6 : Int)))), (4, (AV.dat (D.list LK.nil 0 ([] : Row))))]) (Mem.mk [] [] 0))))
 (rAsk (decide ((0 : Int) ≤ i))
 (rGet s[(Int.toNat i)]? fun x3 =>
 (some (Ex.norm, (St.mk (mkT 0 34 [(0, (AV.dat (D.str s))), (4, (AV.sh false 0 1 0 1)), (5, (AV.dat (D.int IntKind.i64 (IntKind.wrap IntKind.i64 (i + (1 : Int))))))]) (Mem.mk [(Option.some (Ent.row Mode.excl 1 [[(D.bool ((((UInt8.toNat x3) : Nat) : Int) == (49 : Int)))]]))] [] 0)))))
 none)))
 none)
 (rAsk (decide ((0 : Int) ≤ i))
 (rGet s[(Int.toNat i)]? fun x4 =>
 (some (Ex.norm, (St.mk (mkT 0 34 [(0, (AV.dat (D.str s))), (4, (AV.sh false 0 1 0 1)), (5, (AV.dat (D.int IntKind.i64 (IntKind.wrap IntKind.i64 (i + (1 : Int))))))]) (Mem.mk [(Option.some (Ent.row Mode.excl 1 [[(D.bool ((((UInt8.toNat x4) : Nat) : Int) == (49 : Int)))]]))] [] 0)))))
 none)))
 none)
 (some ((Ex.exit 0), (St.mk (mkT 0 34 [(0, (AV.dat (D.str s))), (4, (AV.dat (D.list LK.nil 0 ([] : Row))))]) (Mem.mk [] [] 0)))))
  := by kernel_rfl
theorem rk14r_eq (s : ByteArray) (q : Row) (i : Int) : (rk14r s q i).ev =
 (rAsk (decide (i < (((ByteArray.size s) : Nat) : Int)))
 (rAsk (decide ((0 : Int) ≤ i))
 (rGet s[(Int.toNat i)]? fun x1 =>
 (rAsk ((((UInt8.toNat x1) : Nat) : Int) != (48 : Int))
 (rAsk (decide ((0 : Int) ≤ i))
 (rGet s[(Int.toNat i)]? fun x2 =>
 (rAsk ((((UInt8.toNat x2) : Nat) : Int) != (49 : Int))
 (some (Ex.ret, (St.mk (mkT 0 34 [(0, (AV.dat (D.str s))), (2, (AV.dat (D.list LK.nil 0 ([] : Row)))), (3, (AV.dat (D.int IntKind.i64 (6 : Int)))), (4, (AV.sh false 0 1 0 (List.length q)))]) (Mem.mk [(Option.some (Ent.row Mode.excl 1 q))] [] 0))))
 (rAsk (decide ((0 : Int) ≤ i))
 (rGet s[(Int.toNat i)]? fun x3 =>
 (rAsk ((decide ((0 + (List.length q)) ≤ (List.length q))) && (fits (TI.mk TK.bool 1 1 [(AV.dat (D.bool false))] true) ((List.length q) + 1)))
 (rAsk (true && (decide ((List.length q) = (List.length q))))
 (some (Ex.norm, (St.mk (mkT 0 34 [(0, (AV.dat (D.str s))), (4, (AV.sh false 0 1 0 ((List.length q) + 1))), (5, (AV.dat (D.int IntKind.i64 (IntKind.wrap IntKind.i64 (i + (1 : Int))))))]) (Mem.mk [(Option.some (Ent.row Mode.excl 1 (q ++ [[(D.bool ((((UInt8.toNat x3) : Nat) : Int) == (49 : Int)))]])))] [] 0))))
 none)
 none))
 none)))
 none)
 (rAsk (decide ((0 : Int) ≤ i))
 (rGet s[(Int.toNat i)]? fun x4 =>
 (rAsk ((decide ((0 + (List.length q)) ≤ (List.length q))) && (fits (TI.mk TK.bool 1 1 [(AV.dat (D.bool false))] true) ((List.length q) + 1)))
 (rAsk (true && (decide ((List.length q) = (List.length q))))
 (some (Ex.norm, (St.mk (mkT 0 34 [(0, (AV.dat (D.str s))), (4, (AV.sh false 0 1 0 ((List.length q) + 1))), (5, (AV.dat (D.int IntKind.i64 (IntKind.wrap IntKind.i64 (i + (1 : Int))))))]) (Mem.mk [(Option.some (Ent.row Mode.excl 1 (q ++ [[(D.bool ((((UInt8.toNat x4) : Nat) : Int) == (49 : Int)))]])))] [] 0))))
 none)
 none))
 none)))
 none)
 (some ((Ex.exit 0), (St.mk (mkT 0 34 [(0, (AV.dat (D.str s))), (4, (AV.sh false 0 1 0 (List.length q)))]) (Mem.mk [(Option.some (Ent.row Mode.excl 1 q))] [] 0)))))
  := by kernel_rfl
theorem f14t_eq (s : ByteArray) : (f14t s).ev =
 (rAsk ((ByteArray.toList s) == [45])
 (some ((AV.tup [(AV.dat (D.list LK.nil 0 ([] : Row))), (AV.dat (D.int IntKind.i64 (0 : Int)))]), []))
 (rAsk (Option.isSome (loS TT (TOrc.runs tNone) (HSe 14) lp14 (out14n (AV.dat (D.str s))) (St.mk (mkT 0 34 [(0, (AV.dat (D.str s))), (4, (AV.dat (D.list LK.nil 0 ([] : Row)))), (5, (AV.dat (D.int IntKind.i64 (0 : Int))))]) (Mem.mk [] [] 0))))
 (rGet (loS TT (TOrc.runs tNone) (HSe 14) lp14 (out14n (AV.dat (D.str s))) (St.mk (mkT 0 34 [(0, (AV.dat (D.str s))), (4, (AV.dat (D.list LK.nil 0 ([] : Row)))), (5, (AV.dat (D.int IntKind.i64 (0 : Int))))]) (Mem.mk [] [] 0))) fun _ =>
 (rAsk ((ByteArray.toList s) == [])
 (some ((AV.tup [(AV.dat (D.list LK.nil 0 ([] : Row))), (AV.dat (D.int IntKind.i64 (6 : Int)))]), []))
 (some ((AV.tup [(AV.dat (D.list LK.nil 0 ([] : Row))), (AV.dat (D.int IntKind.i64 (0 : Int)))]), []))))
 (rAsk (Option.isSome (loS TT (TOrc.runs tNone) (HSe 14) lp14 (out14r (AV.dat (D.str s))) (St.mk (mkT 0 34 [(0, (AV.dat (D.str s))), (4, (AV.dat (D.list LK.nil 0 ([] : Row)))), (5, (AV.dat (D.int IntKind.i64 (0 : Int))))]) (Mem.mk [] [] 0))))
 (rGet (loS TT (TOrc.runs tNone) (HSe 14) lp14 (out14r (AV.dat (D.str s))) (St.mk (mkT 0 34 [(0, (AV.dat (D.str s))), (4, (AV.dat (D.list LK.nil 0 ([] : Row)))), (5, (AV.dat (D.int IntKind.i64 (0 : Int))))]) (Mem.mk [] [] 0))) fun x2 =>
 (rAsk ((ByteArray.toList s) == [])
 (some ((AV.tup [(AV.dat (D.list LK.nil 0 ([] : Row))), (AV.dat (D.int IntKind.i64 (6 : Int)))]), []))
 (some ((AV.tup [(AV.dat (D.list LK.any 1 (List.take (List.length x2) (List.drop 0 x2)))), (AV.dat (D.int IntKind.i64 (0 : Int)))]), []))))
 (rGet (loS TT (TOrc.runs tNone) (HSe 14) lp14 (out14x (AV.dat (D.str s))) (St.mk (mkT 0 34 [(0, (AV.dat (D.str s))), (4, (AV.dat (D.list LK.nil 0 ([] : Row)))), (5, (AV.dat (D.int IntKind.i64 (0 : Int))))]) (Mem.mk [] [] 0))) fun _ =>
 (some ((AV.tup [(AV.dat (D.list LK.nil 0 ([] : Row))), (AV.dat (D.int IntKind.i64 (6 : Int)))]), []))))))
  := by kernel_rfl
theorem rk15_eq (k : LK) (z : Nat) (l : Row) (s : ByteArray) (i : Int) : (rk15 k z l s i).ev =
 (rAsk (decide (i < (((List.length l) : Nat) : Int)))
 (rAsk ((decide (z = 1)) && ((decide ((0 : Int) ≤ i)) && (decide (i < (((List.length l) : Nat) : Int)))))
 (rGet l[(Int.toNat i)]? fun x1 =>
 (rGet (List.head? (List.drop 0 x1)) fun x2 =>
 (rGet (D.bool? x2) fun x3 =>
 (rAsk x3
 (rAsk (Nat.ble ((ByteArray.size s) + 1) 9223372036854775807)
 (some (Ex.norm, (St.mk (mkT 0 23 [(0, (AV.dat (D.list k z l))), (3, (AV.dat (D.str (s ++ (ByteArray.mk (List.toArray [49])))))), (4, (AV.dat (D.int IntKind.i64 (IntKind.wrap IntKind.i64 (i + (1 : Int))))))]) (Mem.mk [] [] 0))))
 none)
 (rAsk (Nat.ble ((ByteArray.size s) + 1) 9223372036854775807)
 (some (Ex.norm, (St.mk (mkT 0 23 [(0, (AV.dat (D.list k z l))), (3, (AV.dat (D.str (s ++ (ByteArray.mk (List.toArray [48])))))), (4, (AV.dat (D.int IntKind.i64 (IntKind.wrap IntKind.i64 (i + (1 : Int))))))]) (Mem.mk [] [] 0))))
 none)))))
 none)
 (some ((Ex.exit 0), (St.mk (mkT 0 23 [(3, (AV.dat (D.str s)))]) (Mem.mk [] [] 0)))))
  := by kernel_rfl
theorem f15t_eq (k : LK) (z : Nat) (l : Row) : (f15t k z l).ev =
 (rAsk ((((List.length l) : Nat) : Int) == (0 : Int))
 (some ((AV.dat (D.str (ByteArray.mk (List.toArray [45])))), []))
 (rGet (loS TT (TOrc.runs tNone) (HSe 15) lp15 out15 (St.mk (mkT 0 23 [(0, (AV.dat (D.list k z l))), (3, (AV.dat (D.str (ByteArray.mk (List.toArray []))))), (4, (AV.dat (D.int IntKind.i64 (0 : Int))))]) (Mem.mk [] [] 0))) fun x1 =>
 (some ((AV.dat (D.str x1)), []))))
  := by kernel_rfl
theorem rk34e_eq (k k' : LK) (z z' : Nat) (l r : Row) (m i : Int) : (rk34e k k' z z' l r m i).ev =
 (rAsk (decide (i < m))
 (rAsk ((decide (z = 1)) && ((decide ((0 : Int) ≤ i)) && (decide (i < (((List.length l) : Nat) : Int)))))
 (rGet l[(Int.toNat i)]? fun x1 =>
 (rGet (List.head? (List.drop 0 x1)) fun x2 =>
 (rAsk ((decide (z' = 1)) && ((decide ((0 : Int) ≤ i)) && (decide (i < (((List.length r) : Nat) : Int)))))
 (rGet r[(Int.toNat i)]? fun x3 =>
 (rGet (List.head? (List.drop 0 x3)) fun x4 =>
 (rGet (D.bool? x2) fun x5 =>
 (rGet (D.bool? x4) fun x6 =>
 (rAsk (!(x5 == x6))
 (some (Ex.ret, (St.mk (mkT 0 26 [(4, (AV.dat (D.bool false)))]) (Mem.mk [] [] 0))))
 (some (Ex.norm, (St.mk (mkT 0 26 [(0, (AV.dat (D.list k z l))), (1, (AV.dat (D.list k' z' r))), (12, (AV.dat (D.int IntKind.i64 m))), (13, (AV.dat (D.int IntKind.i64 (IntKind.wrap IntKind.i64 (i + (1 : Int))))))]) (Mem.mk [] [] 0)))))))))
 none)))
 none)
 (some ((Ex.exit 0), (St.mk (mkT 0 26 []) (Mem.mk [] [] 0)))))
  := by kernel_rfl
theorem g34t_eq (k k' : LK) (z z' : Nat) (l r : Row) : (g34t k k' z z' l r).ev =
 (rAsk ((((List.length l) : Nat) : Int) != (((List.length r) : Nat) : Int))
 (some ((AV.dat (D.bool false)), []))
 (rAsk (Option.isSome (loS TT (TOrc.runs tNone) (HSe 34) lp34e out34e (St.mk (mkT 0 26 [(0, (AV.dat (D.list k z l))), (1, (AV.dat (D.list k' z' r))), (12, (AV.dat (D.int IntKind.i64 (((List.length l) : Nat) : Int)))), (13, (AV.dat (D.int IntKind.i64 (0 : Int))))]) (Mem.mk [] [] 0))))
 (rGet (loS TT (TOrc.runs tNone) (HSe 34) lp34e out34e (St.mk (mkT 0 26 [(0, (AV.dat (D.list k z l))), (1, (AV.dat (D.list k' z' r))), (12, (AV.dat (D.int IntKind.i64 (((List.length l) : Nat) : Int)))), (13, (AV.dat (D.int IntKind.i64 (0 : Int))))]) (Mem.mk [] [] 0))) fun _ =>
 (some ((AV.dat (D.bool true)), [])))
 (rGet (loS TT (TOrc.runs tNone) (HSe 34) lp34e out34x (St.mk (mkT 0 26 [(0, (AV.dat (D.list k z l))), (1, (AV.dat (D.list k' z' r))), (12, (AV.dat (D.int IntKind.i64 (((List.length l) : Nat) : Int)))), (13, (AV.dat (D.int IntKind.i64 (0 : Int))))]) (Mem.mk [] [] 0))) fun _ =>
 (some ((AV.dat (D.bool false)), [])))))
  := by kernel_rfl
theorem eqw (w c : List UInt8) : ((ba w).toList == c) = decide (w = c) := by
  rw [ba_list, Bool.eq_iff_iff, beq_iff_eq, decide_eq_true_eq]
theorem sameB (a b : List UInt8) : ((ba a).toList == (ba b).toList) = decide (a = b) := by
  rw [ba_list b, eqw]
theorem neq_of {a b : List UInt8} (h : a ≠ b) : (!((ba a).toList == b)) = true := by rw [eqw]; simp [h]
theorem eq_of {a b : List UInt8} (h : a = b) : (!((ba a).toList == b)) = false := by rw [eqw]; simp [h]
theorem dw_head {p : UInt8 → Bool} : ∀ (l : List UInt8) {a : UInt8} {t : List UInt8}, l.dropWhile p = a :: t → p a = false
  | [], _, _, h => by cases h
  | b :: l, a, t, h => by
    rw [List.dropWhile_cons] at h
    split at h
    · exact dw_head l h
    · rename_i hb
      injection h with h _
      subst h
      simpa using hb
theorem dw_nil {p : UInt8 → Bool} : ∀ (l : List UInt8), l.dropWhile p = [] → ∀ x ∈ l, p x = true
  | [], _, x, hx => by cases hx
  | b :: l, h, x, hx => by
    rw [List.dropWhile_cons] at h
    split at h
    · rename_i hb
      rcases List.mem_cons.1 hx with rfl | hx
      · exact hb
      · exact dw_nil l h x hx
    · cases h
theorem dw_all {p : UInt8 → Bool} : ∀ (l : List UInt8), (∀ x ∈ l, p x = true) → l.dropWhile p = []
  | [], _ => rfl
  | b :: l, h => by
    rw [List.dropWhile_cons, h b (by simp)]
    exact dw_all l fun x hx => h x (by simp [hx])
theorem in01 (b : UInt8) : ([48, 49] : List UInt8).contains b = isKb b := by
  rw [Bool.eq_iff_iff]
  simp [isKb]
theorem trim01 (s : List UInt8) : (Go.Lib.trimS s [48, 49] = []) ↔ s.all isKb = true := by
  have hp : (fun b => ([48, 49] : List UInt8).contains b) = isKb := funext in01
  unfold Go.Lib.trimS Go.Lib.trimLeftS Go.Lib.trimRightS
  rw [hp, List.all_eq_true]
  constructor
  · intro h
    have h1 := dw_nil _ h
    cases hr : s.reverse.dropWhile isKb with
    | nil =>
      have := dw_nil _ hr
      exact fun x hx => this x (by simpa using hx)
    | cons a t =>
      rw [hr] at h1
      have := h1 a (by simp)
      rw [dw_head _ hr] at this
      cases this
  · intro h
    rw [dw_all s.reverse fun x hx => h x (by simpa using hx)]
    rfl
def is1 (b : UInt8) : Bool := decide (b = 49)
theorem is1_eq (b : UInt8) : (((b.toNat : Nat) : Int) == 49) = is1 b := by
  unfold is1
  rw [Bool.eq_iff_iff, beq_iff_eq, decide_eq_true_eq]
  constructor
  · intro h
    have : b.toNat = 49 := by omega
    exact UInt8.toNat_inj.1 this
  · rintro rfl
    rfl
theorem bRow_at (pre ws : List UInt8) (b : UInt8) : (bRow (pre ++ b :: ws))[0 + Int.toNat ((pre.length : Nat) : Int)]? = some (byteRow b) := by
  rw [Nat.zero_add, Int.toNat_natCast, bRow, List.getElem?_map]
  simp
theorem encB_snoc (Q : List Bool) (v : Bool) : encB (Q ++ [v]) = encB Q ++ [[.bool v]] := by simp [encB]
theorem encB_at (pre : List Bool) (v : Bool) (l : List Bool) : (encB (pre ++ v :: l))[Int.toNat ((pre.length : Nat) : Int)]? = some [.bool v] := by
  rw [Int.toNat_natCast, encB, List.getElem?_map]
  simp
theorem take0 (q : Row) : List.take (List.length q) (List.drop 0 q) = q := by rw [List.drop_zero, List.take_length]
theorem s32 (s : List UInt8) (h : s.length ≤ 100000) (G : List Ent) : S32 [.dat (.str (ba s)), .dat (.str (ByteArray.mk (List.toArray [48, 49])))] G = some (oS G (ba (Go.Lib.trimS s [48, 49]))) := by
  simp only [S32, sTrim]
  rw [if_pos ⟨by rw [ba_sz]; omega, by decide, by decide⟩]
  rfl
def ktOf (o : Option (List Bool)) : TK3 × Int := match o with
  | none => ((.nil, 0, []), 6)
  | some [] => ((.nil, 0, []), 0)
  | some (b :: l) => ((.any, 1, encB (b :: l)), 0)
theorem oKp_inj {G : List Ent} : ∀ x y, oKp G x = oKp G y → x = y := by
  rintro ⟨⟨a, b, c⟩, d⟩ ⟨⟨a', b', c'⟩, d'⟩ h
  simp [oKp, jn] at h
  obtain ⟨⟨rfl, rfl, rfl⟩, rfl⟩ := h
  rfl
theorem out13r_inj : ∀ x y, out13r x = out13r y → x = y := by
  intro x y h
  simp [out13r, mkT] at h
  exact h.2
attribute [local irreducible] fnS loS tround S32
/-! ### Kept -/
theorem go13n {s : Row} {i : Int} {o} (h : (rk13n s i).ev = o) : (tround TT t213 noLo (HSe 13) lp13 (inv13 false s [] i)).run = o := by
  rw [Tr.ev_run] at h
  exact h
theorem go13r {s q : Row} {i : Int} {o} (h : (rk13r s q i).ev = o) : (tround TT t213 noLo (HSe 13) lp13 (inv13 true s q i)).run = o := by
  rw [Tr.ev_run] at h
  exact h
theorem loop13 : ∀ (ws pre : List UInt8), (pre ++ ws).length ≤ 100000 → LoopTo TT t213.runs (HSe 13) lp13 (inv13 true (bRow (pre ++ ws)) (encB (pre.map is1)) pre.length) (out13r (encB ((pre ++ ws).map is1)))
  | [], pre, _ => by
    refine LoopTo.last (orc := t213) (lo := noLo) (fun _ _ _ _ h => h) (LoOk2.no _) (go13r ?_) (by simp [out13r])
    rw [rk13r_eq, List.append_nil]
    exact aF (by rw [decide_eq_false_iff_not, bRow_length]; omega) rfl
  | b :: ws, pre, h => by
    have hl := h
    rw [List.length_append, List.length_cons] at hl
    have hb : ((decide ((0 : Int) ≤ ((pre.length : Nat) : Int))) && (decide (((pre.length : Nat) : Int) < (((bRow (pre ++ b :: ws)).length : Nat) : Int)))) = true := by
      rw [bRow_length, List.length_append, List.length_cons]
      simp only [Bool.and_eq_true, decide_eq_true_eq]; omega
    have step : (tround TT t213 noLo (HSe 13) lp13 (inv13 true (bRow (pre ++ b :: ws)) (encB (pre.map is1)) pre.length)).run = some (.norm, inv13 true (bRow (pre ++ b :: ws)) (encB ((pre ++ [b]).map is1)) ((pre.length + 1 : Nat) : Int)) := by
      refine go13r ?_
      rw [rk13r_eq, w64 (n := pre.length + 1) (by omega) (x := ((pre.length : Nat) : Int) + 1) (by omega)]
      refine aT (by rw [decide_eq_true_eq, bRow_length, List.length_append, List.length_cons]; omega) (aT hb (gStep (bRow_at pre ws b) (gStep rfl (gStep (x := ((b.toNat : Nat) : Int)) rfl (aT ?_ (aT (by simp) ?_))))))
      · rw [Nat.zero_add, Bool.and_eq_true, fits_iff, encB_len, List.length_map]
        exact ⟨decide_eq_true (Nat.le_refl _), by omega, by omega⟩
      · rw [is1_eq, List.map_append, List.map_cons, List.map_nil, encB_snoc]
        unfold inv13 kM eL
        simp only [if_true, List.length_append, List.length_singleton]
        rfl
    have ih := loop13 ws (pre ++ [b]) (by simpa using h)
    rw [show pre ++ [b] ++ ws = pre ++ b :: ws by simp, show List.length (pre ++ [b]) = pre.length + 1 by simp] at ih
    exact LoopTo.more (orc := t213) (lo := noLo) (fun _ _ _ _ h => h) (LoOk2.no _) step ih
theorem loop13n (b : UInt8) (ws : List UInt8) (h : (b :: ws).length ≤ 100000) : LoopTo TT t213.runs (HSe 13) lp13 (inv13 false (bRow (b :: ws)) [] 0) (out13r (encB ((b :: ws).map is1))) := by
  have ih := loop13 ws [b] h
  have step : (tround TT t213 noLo (HSe 13) lp13 (inv13 false (bRow (b :: ws)) [] 0)).run = some (.norm, inv13 true (bRow (b :: ws)) (encB [is1 b]) ((1 : Nat) : Int)) := by
    refine go13n ?_
    rw [rk13n_eq, w64 (n := 1) (by omega) (x := (0 : Int) + 1) (by omega)]
    refine aT (by rw [decide_eq_true_eq, bRow_length, List.length_cons]; omega) (aT (by rw [bRow_length, List.length_cons]; simp) (gStep (bRow_at [] ws b) (gStep rfl (gStep (x := ((b.toNat : Nat) : Int)) rfl ?_))))
    rw [is1_eq]
    rfl
  exact LoopTo.more (orc := t213) (lo := noLo) (fun _ _ _ _ h => h) (LoOk2.no _) step ih
theorem p213 {s : List UInt8} (h : s.length ≤ 100000) (G : List Ent) : P213 [.dat (.str (ba s))] G = some (oKp G (ktOf (kept s))) := by
  have key : ∀ o, (f13t (ba s)).ev = o → R213 [.dat (.str (ba s))] [] = o := fun o h => by
    rw [Tr.ev_run] at h
    exact h
  have hr : R213 [.dat (.str (ba s))] [] = some (oKp [] (ktOf (kept s))) := by
    refine key _ ?_
    rw [f13t_eq]
    unfold kept
    by_cases h1 : s = [45]
    · rw [if_pos h1]
      exact aT (by rw [eqw]; exact decide_eq_true h1) rfl
    rw [if_neg h1]
    refine aF (by rw [eqw]; exact decide_eq_false h1) ?_
    by_cases h2 : s = []
    · rw [if_pos h2]
      exact aT (by rw [eqw]; exact decide_eq_true h2) rfl
    rw [if_neg h2]
    refine aF (by rw [eqw]; exact decide_eq_false h2) (gStep (fnS_eq (out := oS []) oS_inj (s32 s h [])) ?_)
    by_cases h3 : s.all isKb = true
    · rw [if_pos h3]
      refine aF (eq_of ((trim01 s).2 h3)) (aT (by rw [ba_sz]; exact decide_eq_true (by omega)) ?_)
      cases s with
      | nil => exact absurd rfl h2
      | cons b ws =>
        have hl := loop13n b ws h
        refine gStep (x := encB ((b :: ws).map is1)) (loS_eq (out := out13r) out13r_inj ?_) ?_
        · rw [ba_sz]
          have e : (bRow (b :: ws)).length = (b :: ws).length := bRow_length _
          unfold inv13 at hl
          rw [e] at hl
          exact hl
        · rw [take0]
          rfl
    · rw [if_neg h3]
      exact aT (neq_of fun q => h3 ((trim01 s).1 q)) rfl
  unfold P213
  refine pureS_eq (G0 := []) rfl hr ?_
  cases kept s with
  | none => rfl
  | some l => cases l <;> rfl
/-! ### Kept, the document's -/
theorem go14n {s : ByteArray} {i : Int} {o} (h : (rk14n s i).ev = o) : (tround TT tNone noLo (HSe 14) lp14 (inv14 false s [] i)).run = o := by
  rw [Tr.ev_run] at h
  exact h
theorem go14r {s : ByteArray} {q : Row} {i : Int} {o} (h : (rk14r s q i).ev = o) : (tround TT tNone noLo (HSe 14) lp14 (inv14 true s q i)).run = o := by
  rw [Tr.ev_run] at h
  exact h
theorem b48 (b : UInt8) : (((b.toNat : Nat) : Int) != 48) = !(b == 48) := by
  rw [Bool.eq_iff_iff, bne_iff_ne, Bool.not_eq_true', beq_eq_false_iff_ne]
  constructor
  · rintro h rfl
    exact h rfl
  · intro h e
    exact h (UInt8.toNat_inj.1 (show b.toNat = 48 by omega))
theorem b49 (b : UInt8) : (((b.toNat : Nat) : Int) != 49) = !(b == 49) := by
  rw [Bool.eq_iff_iff, bne_iff_ne, Bool.not_eq_true', beq_eq_false_iff_ne]
  constructor
  · rintro h rfl
    exact h rfl
  · intro h e
    exact h (UInt8.toNat_inj.1 (show b.toNat = 49 by omega))
def res14 (t : List UInt8) (ok : Bool) (Q : List Bool) (st : St) : Prop :=
  if ok = true then LoopTo TT tNone.runs (HSe 14) lp14 st (out14r (.dat (.str (ba t))) (encB Q)) else ∃ p, LoopTo TT tNone.runs (HSe 14) lp14 st (out14x (.dat (.str (ba t))) p)
theorem loop14 : ∀ (ws pre : List UInt8), (pre ++ ws).length ≤ 100000 → res14 (pre ++ ws) (ws.all isKb) ((pre ++ ws).map is1) (inv14 true (ba (pre ++ ws)) (encB (pre.map is1)) pre.length)
  | [], pre, _ => by
    unfold res14
    rw [List.all_nil, if_pos rfl]
    refine LoopTo.last (orc := tNone) (lo := noLo) (fun _ _ _ _ h => h) (LoOk2.no _) (go14r ?_) (by simp [out14r])
    rw [rk14r_eq, List.append_nil, ba_sz]
    exact aF (by rw [decide_eq_false_iff_not]; omega) rfl
  | b :: ws, pre, h => by
    have hl := h
    rw [List.length_append, List.length_cons] at hl
    have a0 : decide ((0 : Int) ≤ ((pre.length : Nat) : Int)) = true := by rw [decide_eq_true_eq]; omega
    have a1 : decide (((pre.length : Nat) : Int) < (((ba (pre ++ b :: ws)).size : Nat) : Int)) = true := by rw [ba_sz, decide_eq_true_eq, List.length_append, List.length_cons]; omega
    have hf : ((decide ((0 + (encB (pre.map is1)).length) ≤ (encB (pre.map is1)).length)) && (fits (TI.mk TK.bool 1 1 [(AV.dat (D.bool false))] true) ((encB (pre.map is1)).length + 1))) = true := by
      rw [Nat.zero_add, Bool.and_eq_true, fits_iff, encB_len, List.length_map]
      exact ⟨decide_eq_true (Nat.le_refl _), by omega, by omega⟩
    by_cases hk : isKb b = true
    · have step : (tround TT tNone noLo (HSe 14) lp14 (inv14 true (ba (pre ++ b :: ws)) (encB (pre.map is1)) pre.length)).run = some (.norm, inv14 true (ba (pre ++ b :: ws)) (encB ((pre ++ [b]).map is1)) ((pre.length + 1 : Nat) : Int)) := by
        refine go14r ?_
        rw [rk14r_eq, w64 (n := pre.length + 1) (by omega) (x := ((pre.length : Nat) : Int) + 1) (by omega)]
        have hfin : ∀ c : Bool, c = is1 b → some (Ex.norm, (St.mk (mkT 0 34 [(0, (AV.dat (D.str (ba (pre ++ b :: ws))))), (4, (AV.sh false 0 1 0 ((List.length (encB (pre.map is1))) + 1))), (5, (AV.dat (D.int IntKind.i64 ((pre.length + 1 : Nat) : Int))))]) (Mem.mk [(Option.some (Ent.row Mode.excl 1 (encB (pre.map is1) ++ [[(D.bool c)]])))] [] 0))) = some (Ex.norm, inv14 true (ba (pre ++ b :: ws)) (encB ((pre ++ [b]).map is1)) ((pre.length + 1 : Nat) : Int)) := by
          rintro c rfl
          rw [List.map_append, List.map_cons, List.map_nil, encB_snoc]
          unfold inv14 kM eL
          simp only [if_true, List.length_append, List.length_singleton]
          rfl
        by_cases h48 : b = 48
        · refine aT a1 (aT a0 (gStep ba_mid (aF (by rw [b48]; simp [h48]) (aT a0 (gStep ba_mid (aT hf (aT (by simp) ?_)))))))
          exact hfin _ (is1_eq b)
        · have h49 : b = 49 := by
            unfold isKb at hk
            simp only [Bool.or_eq_true, beq_iff_eq] at hk
            exact hk.resolve_left h48
          refine aT a1 (aT a0 (gStep ba_mid (aT (by rw [b48]; simp [h48]) (aT a0 (gStep ba_mid (aF (by rw [b49]; simp [h49]) (aT a0 (gStep ba_mid (aT hf (aT (by simp) ?_))))))))))
          exact hfin _ (is1_eq b)
      have ih := loop14 ws (pre ++ [b]) (by simpa using h)
      rw [show pre ++ [b] ++ ws = pre ++ b :: ws by simp, show List.length (pre ++ [b]) = pre.length + 1 by simp] at ih
      unfold res14 at ih ⊢
      rw [List.all_cons, hk, Bool.true_and]
      split at ih
      · rename_i q
        rw [if_pos q]
        exact LoopTo.more (orc := tNone) (lo := noLo) (fun _ _ _ _ h => h) (LoOk2.no _) step ih
      · rename_i q
        rw [if_neg q]
        obtain ⟨p, ih⟩ := ih
        exact ⟨p, LoopTo.more (orc := tNone) (lo := noLo) (fun _ _ _ _ h => h) (LoOk2.no _) step ih⟩
    · have h48 : b ≠ 48 := by rintro rfl; exact hk rfl
      have h49 : b ≠ 49 := by rintro rfl; exact hk rfl
      unfold res14
      rw [List.all_cons, show isKb b = false by simpa using hk, Bool.false_and, if_neg (by simp)]
      refine ⟨(.sh false 0 1 0 (encB (pre.map is1)).length, [some (.row .excl 1 (encB (pre.map is1)))]), LoopTo.last (orc := tNone) (lo := noLo) (fun _ _ _ _ h => h) (LoOk2.no _) (go14r ?_) (by simp [out14x])⟩
      rw [rk14r_eq]
      exact aT a1 (aT a0 (gStep ba_mid (aT (by rw [b48]; simp [h48]) (aT a0 (gStep ba_mid (aT (by rw [b49]; simp [h49]) rfl))))))
theorem loop14n (b : UInt8) (ws : List UInt8) (h : (b :: ws).length ≤ 100000) : res14 (b :: ws) ((b :: ws).all isKb) ((b :: ws).map is1) (inv14 false (ba (b :: ws)) [] 0) := by
  have a1 : decide ((0 : Int) < (((ba (b :: ws)).size : Nat) : Int)) = true := by rw [ba_sz, decide_eq_true_eq, List.length_cons]; omega
  have hm : (ba (b :: ws))[Int.toNat (0 : Int)]? = some b := ba_mid (p := [])
  by_cases hk : isKb b = true
  · have step : (tround TT tNone noLo (HSe 14) lp14 (inv14 false (ba (b :: ws)) [] 0)).run = some (.norm, inv14 true (ba (b :: ws)) (encB [is1 b]) ((1 : Nat) : Int)) := by
      refine go14n ?_
      rw [rk14n_eq, w64 (n := 1) (by omega) (x := (0 : Int) + 1) (by omega)]
      by_cases h48 : b = 48
      · refine aT a1 (aT rfl (gStep hm (aF (by rw [b48]; simp [h48]) (aT rfl (gStep hm ?_)))))
        rw [is1_eq]
        rfl
      · have h49 : b = 49 := by
          unfold isKb at hk
          simp only [Bool.or_eq_true, beq_iff_eq] at hk
          exact hk.resolve_left h48
        refine aT a1 (aT rfl (gStep hm (aT (by rw [b48]; simp [h48]) (aT rfl (gStep hm (aF (by rw [b49]; simp [h49]) (aT rfl (gStep hm ?_))))))))
        rw [is1_eq]
        rfl
    have ih := loop14 ws [b] h
    unfold res14 at ih ⊢
    rw [List.all_cons, hk, Bool.true_and]
    split at ih
    · rename_i q
      rw [if_pos q]
      exact LoopTo.more (orc := tNone) (lo := noLo) (fun _ _ _ _ h => h) (LoOk2.no _) step ih
    · rename_i q
      rw [if_neg q]
      obtain ⟨p, ih⟩ := ih
      exact ⟨p, LoopTo.more (orc := tNone) (lo := noLo) (fun _ _ _ _ h => h) (LoOk2.no _) step ih⟩
  · have h48 : b ≠ 48 := by rintro rfl; exact hk rfl
    have h49 : b ≠ 49 := by rintro rfl; exact hk rfl
    unfold res14
    rw [List.all_cons, show isKb b = false by simpa using hk, Bool.false_and, if_neg (by simp)]
    refine ⟨(.dat (.list .nil 0 []), []), LoopTo.last (orc := tNone) (lo := noLo) (fun _ _ _ _ h => h) (LoOk2.no _) (go14n ?_) (by simp [out14x])⟩
    rw [rk14n_eq]
    exact aT a1 (aT rfl (gStep hm (aT (by rw [b48]; simp [h48]) (aT rfl (gStep hm (aT (by rw [b49]; simp [h49]) rfl))))))
theorem out14n_inj {a0 : AV} : ∀ x y, out14n a0 x = out14n a0 y → x = y := fun _ _ _ => rfl
theorem out14r_inj {a0 : AV} : ∀ x y, out14r a0 x = out14r a0 y → x = y := by
  intro x y h
  simp [out14r, mkT] at h
  exact h.2
theorem out14x_inj {a0 : AV} : ∀ x y, out14x a0 x = out14x a0 y → x = y := by
  rintro ⟨x, y⟩ ⟨x', y'⟩ h
  simp [out14x, mkT] at h
  obtain ⟨rfl, rfl⟩ := h
  rfl
theorem out14_nr {a0 : AV} {y : Row} : ∀ x, out14n a0 x ≠ out14r a0 y := fun x h => by simp [out14n, out14r] at h
theorem out14_nx {a0 : AV} {y : AV × List (Option Ent)} : ∀ x, out14n a0 x ≠ out14x a0 y := fun x h => by simp [out14n, out14x] at h
theorem out14_rx {a0 : AV} {y : AV × List (Option Ent)} : ∀ x, out14r a0 x ≠ out14x a0 y := fun x h => by simp [out14r, out14x] at h
theorem p214 {s : List UInt8} (h : s.length ≤ 100000) (G : List Ent) : P214 [.dat (.str (ba s))] G = some (oKp G (ktOf (kept s))) := by
  have key : ∀ o, (f14t (ba s)).ev = o → R214 [.dat (.str (ba s))] [] = o := fun o h => by
    rw [Tr.ev_run] at h
    exact h
  have hr : R214 [.dat (.str (ba s))] [] = some (oKp [] (ktOf (kept s))) := by
    refine key _ ?_
    rw [f14t_eq]
    unfold kept
    by_cases h1 : s = [45]
    · rw [if_pos h1]
      exact aT (by rw [eqw]; exact decide_eq_true h1) rfl
    rw [if_neg h1]
    refine aF (by rw [eqw]; exact decide_eq_false h1) ?_
    cases s with
    | nil =>
      rw [if_pos rfl]
      have hl : LoopTo TT tNone.runs (HSe 14) lp14 (inv14 false (ba []) [] 0) (out14n (.dat (.str (ba []))) ()) := by
        refine LoopTo.last (orc := tNone) (lo := noLo) (fun _ _ _ _ h => h) (LoOk2.no _) (go14n ?_) (by simp [out14n])
        rw [rk14n_eq]
        exact aF rfl rfl
      exact aT (loS_yes (o1 := out14n (.dat (.str (ba [])))) out14n_inj hl) (gStep (loS_eq (out := out14n (.dat (.str (ba [])))) out14n_inj hl) (aT (by rw [eqw]; rfl) rfl))
    | cons b ws =>
      rw [if_neg (by simp)]
      have hl := loop14n b ws h
      unfold res14 at hl
      by_cases h3 : (b :: ws).all isKb = true
      · rw [if_pos h3] at hl ⊢
        refine aF (loS_no (o1 := out14n (.dat (.str (ba (b :: ws))))) hl out14_nr) (aT (loS_yes (o1 := out14r (.dat (.str (ba (b :: ws))))) out14r_inj hl) (gStep (loS_eq (out := out14r (.dat (.str (ba (b :: ws))))) out14r_inj hl) (aF (by rw [eqw]; simp) ?_)))
        rw [take0]
        rfl
      · rw [if_neg h3] at hl ⊢
        obtain ⟨p, hl⟩ := hl
        exact aF (loS_no (o1 := out14n (.dat (.str (ba (b :: ws))))) hl out14_nx) (aF (loS_no (o1 := out14r (.dat (.str (ba (b :: ws))))) hl out14_rx) (gStep (loS_eq (out := out14x (.dat (.str (ba (b :: ws))))) out14x_inj hl) rfl))
  unfold P214
  refine pureS_eq (G0 := []) rfl hr ?_
  cases kept s with
  | none => rfl
  | some l => cases l <;> rfl
/-! ### Keep, the document's -/
theorem out15_inj : ∀ x y, out15 x = out15 y → x = y := by
  intro x y h
  simp [out15, mkT] at h
  exact h
theorem go15 {k : LK} {z : Nat} {l : Row} {s : ByteArray} {i : Int} {o} (h : (rk15 k z l s i).ev = o) : (tround TT tNone noLo (HSe 15) lp15 (inv15 k z l s i)).run = o := by
  rw [Tr.ev_run] at h
  exact h
theorem loop15 {k : LK} : ∀ (l pre : List Bool), (pre ++ l).length ≤ 100000 → LoopTo TT tNone.runs (HSe 15) lp15 (inv15 k 1 (encB (pre ++ l)) (ba (keepB pre)) pre.length) (out15 (ba (keepB (pre ++ l))))
  | [], pre, _ => by
    refine LoopTo.last (orc := tNone) (lo := noLo) (fun _ _ _ _ h => h) (LoOk2.no _) (go15 ?_) (by simp [out15])
    rw [rk15_eq, List.append_nil]
    exact aF (by rw [decide_eq_false_iff_not, encB_len]; omega) rfl
  | b :: l, pre, h => by
    have hl := h
    rw [List.length_append, List.length_cons] at hl
    have hsz : (ba (keepB pre)).size = pre.length := by rw [ba_sz]; simp [keepB]
    have hb : ((decide (1 = 1)) && ((decide ((0 : Int) ≤ ((pre.length : Nat) : Int))) && (decide (((pre.length : Nat) : Int) < (((encB (pre ++ b :: l)).length : Nat) : Int))))) = true := by
      rw [encB_len, List.length_append, List.length_cons]
      simp only [Bool.and_eq_true, decide_eq_true_eq, true_and]; omega
    have step : (tround TT tNone noLo (HSe 15) lp15 (inv15 k 1 (encB (pre ++ b :: l)) (ba (keepB pre)) pre.length)).run = some (.norm, inv15 k 1 (encB (pre ++ b :: l)) (ba (keepB (pre ++ [b]))) ((pre.length + 1 : Nat) : Int)) := by
      refine go15 ?_
      rw [rk15_eq, w64 (n := pre.length + 1) (by omega) (x := ((pre.length : Nat) : Int) + 1) (by omega), hsz]
      have e : keepB (pre ++ [b]) = keepB pre ++ [if b then 49 else 48] := by simp [keepB]
      rw [e, ← ba_app]
      have hs : Nat.ble (pre.length + 1) 9223372036854775807 = true := Nat.ble_eq_true_of_le (by omega)
      cases b with
      | true => exact aT (by rw [decide_eq_true_eq, encB_len, List.length_append, List.length_cons]; omega) (aT hb (gStep (encB_at pre true l) (gStep rfl (gStep (x := true) rfl (aT rfl (aT hs rfl))))))
      | false => exact aT (by rw [decide_eq_true_eq, encB_len, List.length_append, List.length_cons]; omega) (aT hb (gStep (encB_at pre false l) (gStep rfl (gStep (x := false) rfl (aF rfl (aT hs rfl))))))
    have ih := loop15 (k := k) l (pre ++ [b]) (by simpa using h)
    rw [show pre ++ [b] ++ l = pre ++ b :: l by simp, show List.length (pre ++ [b]) = pre.length + 1 by simp] at ih
    exact LoopTo.more (orc := tNone) (lo := noLo) (fun _ _ _ _ h => h) (LoOk2.no _) step ih
theorem p215 {k : LK} {z : Nat} {l : List Bool} (hz : l ≠ [] → z = 1) (h : l.length ≤ 100000) (G : List Ent) : P215 [.dat (.list k z (encB l))] G = some (oS G (ba (keepW l))) := by
  have key : ∀ o, (f15t k z (encB l)).ev = o → R215 [.dat (.list k z (encB l))] [] = o := fun o h => by
    rw [Tr.ev_run] at h
    exact h
  unfold P215
  refine pureS_eq (G0 := []) rfl (key _ ?_) rfl
  rw [f15t_eq, encB_len]
  cases l with
  | nil => exact aT rfl rfl
  | cons b l =>
    obtain rfl := hz (by simp)
    have hl := loop15 (k := k) (b :: l) [] h
    refine aF (by rw [beq_eq_false_iff_ne, List.length_cons]; omega) (gStep (loS_eq (out := out15) out15_inj hl) ?_)
    unfold keepW
    rw [if_neg (by simp)]
    rfl
/-! ### lists alike -/
theorem go34e {k k' : LK} {z z' : Nat} {l r : Row} {m i : Int} {o} (h : (rk34e k k' z z' l r m i).ev = o) : (tround TT tNone noLo (HSe 34) lp34e (inv34e k k' z z' l r m i)).run = o := by
  rw [Tr.ev_run] at h
  exact h
def res34 (c : Bool) (st : St) : Prop := if c = true then LoopTo TT tNone.runs (HSe 34) lp34e st (out34e ()) else LoopTo TT tNone.runs (HSe 34) lp34e st (out34x ())
theorem loop34e {k k' : LK} : ∀ (l r p q : List Bool), l.length = r.length → p.length = q.length → (p ++ l).length ≤ 100000 →
    res34 (decide (l = r)) (inv34e k k' 1 1 (encB (p ++ l)) (encB (q ++ r)) ((p ++ l).length : Nat) p.length)
  | [], [], p, q, _, _, _ => by
    unfold res34
    rw [decide_eq_true rfl, if_pos rfl]
    refine LoopTo.last (orc := tNone) (lo := noLo) (fun _ _ _ _ h => h) (LoOk2.no _) (go34e ?_) (by simp [out34e])
    rw [rk34e_eq, List.append_nil]
    exact aF (by rw [decide_eq_false_iff_not]; omega) rfl
  | a :: l, b :: r, p, q, hlr, hpq, h => by
    have hl := h
    rw [List.length_append, List.length_cons] at hl
    rw [List.length_cons, List.length_cons] at hlr
    have hb : ((decide (1 = 1)) && ((decide ((0 : Int) ≤ ((p.length : Nat) : Int))) && (decide (((p.length : Nat) : Int) < (((encB (p ++ a :: l)).length : Nat) : Int))))) = true := by
      rw [encB_len, List.length_append, List.length_cons]
      simp only [Bool.and_eq_true, decide_eq_true_eq, true_and]; omega
    have hb' : ((decide (1 = 1)) && ((decide ((0 : Int) ≤ ((p.length : Nat) : Int))) && (decide (((p.length : Nat) : Int) < (((encB (q ++ b :: r)).length : Nat) : Int))))) = true := by
      rw [encB_len, List.length_append, List.length_cons]
      simp only [Bool.and_eq_true, decide_eq_true_eq, true_and]; omega
    have a0 : decide (((p.length : Nat) : Int) < (((p ++ a :: l).length : Nat) : Int)) = true := by rw [decide_eq_true_eq, List.length_append, List.length_cons]; omega
    have hat := encB_at q b r
    rw [← hpq] at hat
    by_cases e : a = b
    · subst e
      have step : (tround TT tNone noLo (HSe 34) lp34e (inv34e k k' 1 1 (encB (p ++ a :: l)) (encB (q ++ a :: r)) ((p ++ a :: l).length : Nat) p.length)).run = some (.norm, inv34e k k' 1 1 (encB (p ++ a :: l)) (encB (q ++ a :: r)) ((p ++ a :: l).length : Nat) ((p.length + 1 : Nat) : Int)) := by
        refine go34e ?_
        rw [rk34e_eq, w64 (n := p.length + 1) (by omega) (x := ((p.length : Nat) : Int) + 1) (by omega)]
        exact aT a0 (aT hb (gStep (encB_at p a l) (gStep rfl (aT hb' (gStep hat (gStep rfl (gStep (x := a) rfl (gStep (x := a) rfl (aF (by simp) rfl)))))))))
      have ih := loop34e (k := k) (k' := k') l r (p ++ [a]) (q ++ [a]) (by omega) (by simp [hpq]) (by simpa using h)
      rw [show p ++ [a] ++ l = p ++ a :: l by simp, show q ++ [a] ++ r = q ++ a :: r by simp, show List.length (p ++ [a]) = p.length + 1 by simp] at ih
      unfold res34 at ih ⊢
      rw [show decide (a :: l = a :: r) = decide (l = r) by simp]
      split at ih
      · rename_i c
        rw [if_pos c]
        exact LoopTo.more (orc := tNone) (lo := noLo) (fun _ _ _ _ h => h) (LoOk2.no _) step ih
      · rename_i c
        rw [if_neg c]
        exact LoopTo.more (orc := tNone) (lo := noLo) (fun _ _ _ _ h => h) (LoOk2.no _) step ih
    · unfold res34
      rw [if_neg (by simp [e])]
      refine LoopTo.last (orc := tNone) (lo := noLo) (fun _ _ _ _ h => h) (LoOk2.no _) (go34e ?_) (by simp [out34x])
      rw [rk34e_eq]
      exact aT a0 (aT hb (gStep (encB_at p a l) (gStep rfl (aT hb' (gStep hat (gStep rfl (gStep (x := a) rfl (gStep (x := b) rfl (aT (by cases a <;> cases b <;> simp_all) rfl)))))))))
theorem out34e_inj : ∀ x y, out34e x = out34e y → x = y := fun _ _ _ => rfl
theorem out34x_inj : ∀ x y, out34x x = out34x y → x = y := fun _ _ _ => rfl
theorem out34_no {y : Unit} : ∀ x, out34e x ≠ out34x y := fun x h => by simp [out34e, out34x] at h
theorem p234 {k k' : LK} {z z' : Nat} {l r : List Bool} (h : l.length ≤ 100000) (hz : l ≠ [] → z = 1) (hz' : r ≠ [] → z' = 1) (G : List Ent) : P234 [.dat (.list k z (encB l)), .dat (.list k' z' (encB r))] G = some (oB G (decide (l = r))) := by
  have key : ∀ o, (g34t k k' z z' (encB l) (encB r)).ev = o → R234 [.dat (.list k z (encB l)), .dat (.list k' z' (encB r))] [] = o := fun o h => by
    rw [Tr.ev_run] at h
    exact h
  unfold P234
  refine pureS_eq (G0 := []) rfl (key _ ?_) rfl
  rw [g34t_eq, encB_len, encB_len]
  by_cases hl : l.length = r.length
  · refine aF (by rw [hl]; simp) ?_
    have hlo : res34 (decide (l = r)) (inv34e k k' z z' (encB l) (encB r) (l.length : Nat) 0) := by
      cases l with
      | nil =>
        cases r with
        | nil =>
          unfold res34
          rw [decide_eq_true rfl, if_pos rfl]
          refine LoopTo.last (orc := tNone) (lo := noLo) (fun _ _ _ _ h => h) (LoOk2.no _) (go34e ?_) (by simp [out34e])
          rw [rk34e_eq]
          exact aF rfl rfl
        | cons b r => simp at hl
      | cons a l =>
        cases r with
        | nil => simp at hl
        | cons b r =>
          obtain rfl := hz (by simp)
          obtain rfl := hz' (by simp)
          exact loop34e (k := k) (k' := k') (a :: l) (b :: r) [] [] hl rfl h
    unfold res34 at hlo
    split at hlo
    · rename_i c
      rw [c]
      exact aT (loS_yes (o1 := out34e) out34e_inj hlo) (gStep (loS_eq (out := out34e) out34e_inj hlo) rfl)
    · rename_i c
      rw [show decide (l = r) = false by simpa using c]
      exact aF (loS_no (o1 := out34e) hlo out34_no) (gStep (loS_eq (out := out34x) out34x_inj hlo) rfl)
  · have : l ≠ r := fun e => hl (by rw [e])
    rw [decide_eq_false this]
    exact aT (by rw [bne_iff_ne]; omega) rfl
end Go.Eng
end
