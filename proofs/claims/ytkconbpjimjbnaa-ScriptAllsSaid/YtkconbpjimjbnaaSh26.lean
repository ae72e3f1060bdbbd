/- Both Reads: what they come to. -/
import Derived.Test.YtkconbpjimjbnaaSh25
import Derived.Test.YtkconbpjimjbnaaSh24
section
namespace Go.Eng
open Go
set_option maxRecDepth 100000
set_option linter.unusedSimpArgs false

theorem yn27_eq (b : AV) (kd nd at' nn : Int) (s : ByteArray) (p : Int) (d : D) (e : Int) : (yn27 b kd nd at' nn s p d e).ev =
  (rAsk (e != (0 : Int))
   (some ((AV.dat (D.bool false)), [(Ent.obj [b]), (Ent.obj [(AV.dat (D.list LK.nil 0 ([] : Row)))]), (Ent.obj [(AV.dat (D.int IntKind.i64 e))]), (Ent.obj [(AV.dat (D.list LK.nil 0 ([] : Row)))]), (Ent.lrec (LS.done Ex.ret) (mkT 0 24 [(2, (AV.ptr (Ref.glob 1) 0)), (3, (AV.ptr (Ref.glob 2) 0)), (4, (AV.ptr (Ref.glob 3) 0)), (8, (AV.fn 58 [(AV.ptr (Ref.glob 0) 0)]))]) [9, 10] asg27 bd27)]))
   (some ((AV.dat (D.bool true)), [(Ent.obj [b]), (Ent.obj [(AV.dat (D.list LK.nil 0 ([] : Row)))]), (Ent.obj [(AV.dat (D.int IntKind.i64 (0 : Int)))]), (Ent.obj [(AV.rowc Mode.excl 7 [[(D.int IntKind.i64 kd), (D.int IntKind.i64 nd), (D.int IntKind.i64 at'), (D.int IntKind.i64 nn), (D.str s), (D.int IntKind.i64 p), d]])]), (Ent.lrec LS.ready (mkT 0 24 [(2, (AV.ptr (Ref.glob 1) 0)), (3, (AV.ptr (Ref.glob 2) 0)), (4, (AV.ptr (Ref.glob 3) 0)), (8, (AV.fn 58 [(AV.ptr (Ref.glob 0) 0)]))]) [9, 10] asg27 bd27)]))
  )
  := by kernel_rfl

theorem yr27_eq (b : AV) (l : Row) (kd nd at' nn : Int) (s : ByteArray) (p : Int) (d : D) (e : Int) : (yr27 b l kd nd at' nn s p d e).ev =
  (rAsk ((((List.length l) : Nat) : Int) == (300 : Int))
   (some ((AV.dat (D.bool false)), [(Ent.obj [b]), (Ent.obj [(AV.dat (D.list LK.nil 0 ([] : Row)))]), (Ent.obj [(AV.dat (D.int IntKind.i64 (8 : Int)))]), (Ent.obj [(AV.rowc Mode.excl 7 l)]), (Ent.lrec (LS.done Ex.ret) (mkT 0 24 [(2, (AV.ptr (Ref.glob 1) 0)), (3, (AV.ptr (Ref.glob 2) 0)), (4, (AV.ptr (Ref.glob 3) 0)), (8, (AV.fn 58 [(AV.ptr (Ref.glob 0) 0)]))]) [9, 10] asg27 bd27)]))
   (rAsk (e != (0 : Int))
    (some ((AV.dat (D.bool false)), [(Ent.obj [b]), (Ent.obj [(AV.dat (D.list LK.nil 0 ([] : Row)))]), (Ent.obj [(AV.dat (D.int IntKind.i64 e))]), (Ent.obj [(AV.rowc Mode.excl 7 l)]), (Ent.lrec (LS.done Ex.ret) (mkT 0 24 [(2, (AV.ptr (Ref.glob 1) 0)), (3, (AV.ptr (Ref.glob 2) 0)), (4, (AV.ptr (Ref.glob 3) 0)), (8, (AV.fn 58 [(AV.ptr (Ref.glob 0) 0)]))]) [9, 10] asg27 bd27)]))
    (rAsk ((decide ((0 + (List.length l)) ≤ (List.length l))) && (fits (TI.mk (TK.struct [(0, 3), (1, 3), (2, 3), (3, 3), (4, 9), (5, 3), (6, 42)]) 7 80 [(AV.dat (D.int IntKind.i64 (0 : Int))), (AV.dat (D.int IntKind.i64 (0 : Int))), (AV.dat (D.int IntKind.i64 (0 : Int))), (AV.dat (D.int IntKind.i64 (0 : Int))), (AV.dat (D.str (ByteArray.mk (List.toArray [])))), (AV.dat (D.int IntKind.i64 (0 : Int))), (AV.dat (D.list LK.nil 0 ([] : Row)))] false) ((List.length l) + 1)))
     (rAsk (true && (decide ((List.length l) = (List.length l))))
      (rAsk (wholeB false 0 ((List.length l) + 1) (List.length (l ++ [[(D.int IntKind.i64 kd), (D.int IntKind.i64 nd), (D.int IntKind.i64 at'), (D.int IntKind.i64 nn), (D.str s), (D.int IntKind.i64 p), d]])))
       (some ((AV.dat (D.bool true)), [(Ent.obj [b]), (Ent.obj [(AV.dat (D.list LK.nil 0 ([] : Row)))]), (Ent.obj [(AV.dat (D.int IntKind.i64 (0 : Int)))]), (Ent.obj [(AV.rowc Mode.excl 7 (l ++ [[(D.int IntKind.i64 kd), (D.int IntKind.i64 nd), (D.int IntKind.i64 at'), (D.int IntKind.i64 nn), (D.str s), (D.int IntKind.i64 p), d]]))]), (Ent.lrec LS.ready (mkT 0 24 [(2, (AV.ptr (Ref.glob 1) 0)), (3, (AV.ptr (Ref.glob 2) 0)), (4, (AV.ptr (Ref.glob 3) 0)), (8, (AV.fn 58 [(AV.ptr (Ref.glob 0) 0)]))]) [9, 10] asg27 bd27)]))
       (some ((AV.dat (D.bool true)), [(Ent.obj [b]), (Ent.obj [(AV.dat (D.list LK.nil 0 ([] : Row)))]), (Ent.obj [(AV.dat (D.int IntKind.i64 (0 : Int)))]), (Ent.obj [(AV.dat (D.list LK.any 7 (List.take ((List.length l) + 1) (List.drop 0 (l ++ [[(D.int IntKind.i64 kd), (D.int IntKind.i64 nd), (D.int IntKind.i64 at'), (D.int IntKind.i64 nn), (D.str s), (D.int IntKind.i64 p), d]])))))]), (Ent.lrec LS.ready (mkT 0 24 [(2, (AV.ptr (Ref.glob 1) 0)), (3, (AV.ptr (Ref.glob 2) 0)), (4, (AV.ptr (Ref.glob 3) 0)), (8, (AV.fn 58 [(AV.ptr (Ref.glob 0) 0)]))]) [9, 10] asg27 bd27)]))
      )
      none
     )
     none
    )
   )
  )
  := by kernel_rfl

theorem rk58_eq (k : LK) (sz : Nat) (xs : Row) (c4 : AV) : (rk58 k sz xs c4).ev =
  (rAsk (decide ((((List.length xs) : Nat) : Int) > (0 : Int)))
   (rGet (fnS (fun (p : Int × Int × Int × Int × ByteArray × Int × D × Int × Int) => ((AV.tup [(AV.agg [(AV.dat (D.int IntKind.i64 p.1)), (AV.dat (D.int IntKind.i64 p.2.1)), (AV.dat (D.int IntKind.i64 p.2.2.1)), (AV.dat (D.int IntKind.i64 p.2.2.2.1)), (AV.dat (D.str p.2.2.2.2.1)), (AV.dat (D.int IntKind.i64 p.2.2.2.2.2.1)), (AV.dat p.2.2.2.2.2.2.1)]), (AV.dat (D.int IntKind.i64 p.2.2.2.2.2.2.2.1)), (AV.dat (D.int IntKind.i64 p.2.2.2.2.2.2.2.2))]), [(Ent.obj [(AV.dat (D.list k sz xs))]), (Ent.obj [(AV.dat (D.list LK.nil 0 ([] : Row)))]), (Ent.obj [(AV.dat (D.int IntKind.i64 (0 : Int)))]), (Ent.obj [c4]), (Ent.lrec LS.ready (mkT 0 24 [(2, (AV.ptr (Ref.glob 1) 0)), (3, (AV.ptr (Ref.glob 2) 0)), (4, (AV.ptr (Ref.glob 3) 0)), (8, (AV.fn 58 [(AV.ptr (Ref.glob 0) 0)]))]) [9, 10] asg27 bd27)])) (P23 [(AV.dat (D.list k sz xs))] [(Ent.obj [(AV.dat (D.list k sz xs))]), (Ent.obj [(AV.dat (D.list LK.nil 0 ([] : Row)))]), (Ent.obj [(AV.dat (D.int IntKind.i64 (0 : Int)))]), (Ent.obj [c4]), (Ent.lrec LS.ready (mkT 0 24 [(2, (AV.ptr (Ref.glob 1) 0)), (3, (AV.ptr (Ref.glob 2) 0)), (4, (AV.ptr (Ref.glob 3) 0)), (8, (AV.fn 58 [(AV.ptr (Ref.glob 0) 0)]))]) [9, 10] asg27 bd27)])) fun x1 =>
    (rAsk (Option.isSome (fnS (fun (l : Row) => ((AV.dat (D.bool true)), [(Ent.obj [(AV.dat (D.list k sz xs))]), (Ent.obj [(AV.dat (D.list LK.nil 0 ([] : Row)))]), (Ent.obj [(AV.dat (D.int IntKind.i64 (0 : Int)))]), (Ent.obj [(AV.rowc Mode.excl 7 l)]), (Ent.lrec LS.ready (mkT 0 24 [(2, (AV.ptr (Ref.glob 1) 0)), (3, (AV.ptr (Ref.glob 2) 0)), (4, (AV.ptr (Ref.glob 3) 0)), (8, (AV.fn 58 [(AV.ptr (Ref.glob 0) 0)]))]) [9, 10] asg27 bd27)])) (Y27 [(AV.agg [(AV.dat (D.int IntKind.i64 x1.1)), (AV.dat (D.int IntKind.i64 x1.2.1)), (AV.dat (D.int IntKind.i64 x1.2.2.1)), (AV.dat (D.int IntKind.i64 x1.2.2.2.1)), (AV.dat (D.str x1.2.2.2.2.1)), (AV.dat (D.int IntKind.i64 x1.2.2.2.2.2.1)), (AV.dat x1.2.2.2.2.2.2.1)]), (AV.dat (D.int IntKind.i64 x1.2.2.2.2.2.2.2.2))] [(Ent.obj [(AV.dat (D.list k sz xs))]), (Ent.obj [(AV.dat (D.list LK.nil 0 ([] : Row)))]), (Ent.obj [(AV.dat (D.int IntKind.i64 (0 : Int)))]), (Ent.obj [c4]), (Ent.lrec LS.ready (mkT 0 24 [(2, (AV.ptr (Ref.glob 1) 0)), (3, (AV.ptr (Ref.glob 2) 0)), (4, (AV.ptr (Ref.glob 3) 0)), (8, (AV.fn 58 [(AV.ptr (Ref.glob 0) 0)]))]) [9, 10] asg27 bd27)])))
     (rGet (fnS (fun (l : Row) => ((AV.dat (D.bool true)), [(Ent.obj [(AV.dat (D.list k sz xs))]), (Ent.obj [(AV.dat (D.list LK.nil 0 ([] : Row)))]), (Ent.obj [(AV.dat (D.int IntKind.i64 (0 : Int)))]), (Ent.obj [(AV.rowc Mode.excl 7 l)]), (Ent.lrec LS.ready (mkT 0 24 [(2, (AV.ptr (Ref.glob 1) 0)), (3, (AV.ptr (Ref.glob 2) 0)), (4, (AV.ptr (Ref.glob 3) 0)), (8, (AV.fn 58 [(AV.ptr (Ref.glob 0) 0)]))]) [9, 10] asg27 bd27)])) (Y27 [(AV.agg [(AV.dat (D.int IntKind.i64 x1.1)), (AV.dat (D.int IntKind.i64 x1.2.1)), (AV.dat (D.int IntKind.i64 x1.2.2.1)), (AV.dat (D.int IntKind.i64 x1.2.2.2.1)), (AV.dat (D.str x1.2.2.2.2.1)), (AV.dat (D.int IntKind.i64 x1.2.2.2.2.2.1)), (AV.dat x1.2.2.2.2.2.2.1)]), (AV.dat (D.int IntKind.i64 x1.2.2.2.2.2.2.2.2))] [(Ent.obj [(AV.dat (D.list k sz xs))]), (Ent.obj [(AV.dat (D.list LK.nil 0 ([] : Row)))]), (Ent.obj [(AV.dat (D.int IntKind.i64 (0 : Int)))]), (Ent.obj [c4]), (Ent.lrec LS.ready (mkT 0 24 [(2, (AV.ptr (Ref.glob 1) 0)), (3, (AV.ptr (Ref.glob 2) 0)), (4, (AV.ptr (Ref.glob 3) 0)), (8, (AV.fn 58 [(AV.ptr (Ref.glob 0) 0)]))]) [9, 10] asg27 bd27)])) fun x2 =>
      (rAsk (x1.2.2.2.2.2.2.2.2 != (0 : Int))
       (some (Ex.ret, (St.mk (mkT 0 27 []) (Mem.mk [] [(Ent.obj [(AV.dat (D.list k sz xs))]), (Ent.obj [(AV.dat (D.list LK.nil 0 ([] : Row)))]), (Ent.obj [(AV.dat (D.int IntKind.i64 (0 : Int)))]), (Ent.obj [(AV.rowc Mode.excl 7 x2)]), (Ent.lrec LS.ready (mkT 0 24 [(2, (AV.ptr (Ref.glob 1) 0)), (3, (AV.ptr (Ref.glob 2) 0)), (4, (AV.ptr (Ref.glob 3) 0)), (8, (AV.fn 58 [(AV.ptr (Ref.glob 0) 0)]))]) [9, 10] asg27 bd27)] 0))))
       (rAsk ((decide ((0 : Int) ≤ x1.2.2.2.2.2.2.2.1)) && ((decide (x1.2.2.2.2.2.2.2.1 ≤ (((List.length xs) : Nat) : Int))) && (decide ((((List.length xs) : Nat) : Int) ≤ (((List.length xs) : Nat) : Int)))))
        (rAsk ((decide (k = LK.nil)) || (decide (sz = 1)))
         (some (Ex.norm, (St.mk (mkT 0 27 [(0, (AV.yld 4)), (1, (AV.ptr (Ref.glob 0) 0))]) (Mem.mk [] [(Ent.obj [(AV.dat (D.list (if ((k = LK.full) ∧ ((((List.length xs) : Nat) : Int) < (((List.length xs) : Nat) : Int))) then LK.any else k) sz (List.take ((Int.toNat (((List.length xs) : Nat) : Int)) - (Int.toNat x1.2.2.2.2.2.2.2.1)) (List.drop (Int.toNat x1.2.2.2.2.2.2.2.1) xs))))]), (Ent.obj [(AV.dat (D.list LK.nil 0 ([] : Row)))]), (Ent.obj [(AV.dat (D.int IntKind.i64 (0 : Int)))]), (Ent.obj [(AV.rowc Mode.excl 7 x2)]), (Ent.lrec LS.ready (mkT 0 24 [(2, (AV.ptr (Ref.glob 1) 0)), (3, (AV.ptr (Ref.glob 2) 0)), (4, (AV.ptr (Ref.glob 3) 0)), (8, (AV.fn 58 [(AV.ptr (Ref.glob 0) 0)]))]) [9, 10] asg27 bd27)] 0))))
         none
        )
        none
       )
      )
     )
     (rGet (fnS (fun (p : Int × AV) => ((AV.dat (D.bool false)), [(Ent.obj [(AV.dat (D.list k sz xs))]), (Ent.obj [(AV.dat (D.list LK.nil 0 ([] : Row)))]), (Ent.obj [(AV.dat (D.int IntKind.i64 p.1))]), (Ent.obj [p.2]), (Ent.lrec (LS.done Ex.ret) (mkT 0 24 [(2, (AV.ptr (Ref.glob 1) 0)), (3, (AV.ptr (Ref.glob 2) 0)), (4, (AV.ptr (Ref.glob 3) 0)), (8, (AV.fn 58 [(AV.ptr (Ref.glob 0) 0)]))]) [9, 10] asg27 bd27)])) (Y27 [(AV.agg [(AV.dat (D.int IntKind.i64 x1.1)), (AV.dat (D.int IntKind.i64 x1.2.1)), (AV.dat (D.int IntKind.i64 x1.2.2.1)), (AV.dat (D.int IntKind.i64 x1.2.2.2.1)), (AV.dat (D.str x1.2.2.2.2.1)), (AV.dat (D.int IntKind.i64 x1.2.2.2.2.2.1)), (AV.dat x1.2.2.2.2.2.2.1)]), (AV.dat (D.int IntKind.i64 x1.2.2.2.2.2.2.2.2))] [(Ent.obj [(AV.dat (D.list k sz xs))]), (Ent.obj [(AV.dat (D.list LK.nil 0 ([] : Row)))]), (Ent.obj [(AV.dat (D.int IntKind.i64 (0 : Int)))]), (Ent.obj [c4]), (Ent.lrec LS.ready (mkT 0 24 [(2, (AV.ptr (Ref.glob 1) 0)), (3, (AV.ptr (Ref.glob 2) 0)), (4, (AV.ptr (Ref.glob 3) 0)), (8, (AV.fn 58 [(AV.ptr (Ref.glob 0) 0)]))]) [9, 10] asg27 bd27)])) fun x3 =>
      (some (Ex.ret, (St.mk (mkT 0 27 []) (Mem.mk [] [(Ent.obj [(AV.dat (D.list k sz xs))]), (Ent.obj [(AV.dat (D.list LK.nil 0 ([] : Row)))]), (Ent.obj [(AV.dat (D.int IntKind.i64 x3.1))]), (Ent.obj [x3.2]), (Ent.lrec (LS.done Ex.ret) (mkT 0 24 [(2, (AV.ptr (Ref.glob 1) 0)), (3, (AV.ptr (Ref.glob 2) 0)), (4, (AV.ptr (Ref.glob 3) 0)), (8, (AV.fn 58 [(AV.ptr (Ref.glob 0) 0)]))]) [9, 10] asg27 bd27)] 0))))
     )
    )
   )
   (some ((Ex.exit 0), (St.mk (mkT 0 27 []) (Mem.mk [] [(Ent.obj [(AV.dat (D.list k sz xs))]), (Ent.obj [(AV.dat (D.list LK.nil 0 ([] : Row)))]), (Ent.obj [(AV.dat (D.int IntKind.i64 (0 : Int)))]), (Ent.obj [c4]), (Ent.lrec LS.ready (mkT 0 24 [(2, (AV.ptr (Ref.glob 1) 0)), (3, (AV.ptr (Ref.glob 2) 0)), (4, (AV.ptr (Ref.glob 3) 0)), (8, (AV.fn 58 [(AV.ptr (Ref.glob 0) 0)]))]) [9, 10] asg27 bd27)] 0))))
  )
  := by kernel_rfl

theorem f58t_eq (k : LK) (sz : Nat) (xs : Row) (c4 : AV) : (f58t k sz xs c4).ev =
  (rAsk (Option.isSome (loS TT (TOrc.runs t58) (HSr 58) lp58 out58a (St.mk (mkT 0 27 [(0, (AV.yld 4)), (1, (AV.ptr (Ref.glob 0) 0))]) (Mem.mk [] [(Ent.obj [(AV.dat (D.list k sz xs))]), (Ent.obj [(AV.dat (D.list LK.nil 0 ([] : Row)))]), (Ent.obj [(AV.dat (D.int IntKind.i64 (0 : Int)))]), (Ent.obj [c4]), (Ent.lrec LS.ready (mkT 0 24 [(2, (AV.ptr (Ref.glob 1) 0)), (3, (AV.ptr (Ref.glob 2) 0)), (4, (AV.ptr (Ref.glob 3) 0)), (8, (AV.fn 58 [(AV.ptr (Ref.glob 0) 0)]))]) [9, 10] asg27 bd27)] 0))))
   (rGet (loS TT (TOrc.runs t58) (HSr 58) lp58 out58a (St.mk (mkT 0 27 [(0, (AV.yld 4)), (1, (AV.ptr (Ref.glob 0) 0))]) (Mem.mk [] [(Ent.obj [(AV.dat (D.list k sz xs))]), (Ent.obj [(AV.dat (D.list LK.nil 0 ([] : Row)))]), (Ent.obj [(AV.dat (D.int IntKind.i64 (0 : Int)))]), (Ent.obj [c4]), (Ent.lrec LS.ready (mkT 0 24 [(2, (AV.ptr (Ref.glob 1) 0)), (3, (AV.ptr (Ref.glob 2) 0)), (4, (AV.ptr (Ref.glob 3) 0)), (8, (AV.fn 58 [(AV.ptr (Ref.glob 0) 0)]))]) [9, 10] asg27 bd27)] 0))) fun x1 =>
    (some ((AV.tup []), x1))
   )
   (rGet (loS TT (TOrc.runs t58) (HSr 58) lp58 out58r (St.mk (mkT 0 27 [(0, (AV.yld 4)), (1, (AV.ptr (Ref.glob 0) 0))]) (Mem.mk [] [(Ent.obj [(AV.dat (D.list k sz xs))]), (Ent.obj [(AV.dat (D.list LK.nil 0 ([] : Row)))]), (Ent.obj [(AV.dat (D.int IntKind.i64 (0 : Int)))]), (Ent.obj [c4]), (Ent.lrec LS.ready (mkT 0 24 [(2, (AV.ptr (Ref.glob 1) 0)), (3, (AV.ptr (Ref.glob 2) 0)), (4, (AV.ptr (Ref.glob 3) 0)), (8, (AV.fn 58 [(AV.ptr (Ref.glob 0) 0)]))]) [9, 10] asg27 bd27)] 0))) fun x2 =>
    (some ((AV.tup []), x2))
   )
  )
  := by kernel_rfl

theorem f27t_eq (k : LK) (sz : Nat) (xs : Row) : (f27t k sz xs).ev =
  (rAsk (Option.isSome (fnS (fun (p : AV) => ((AV.tup []), [(Ent.obj [p]), (Ent.obj [(AV.dat (D.list LK.nil 0 ([] : Row)))]), (Ent.obj [(AV.dat (D.int IntKind.i64 (0 : Int)))]), (Ent.obj [(AV.dat (D.list LK.nil 0 ([] : Row)))]), (Ent.lrec LS.ready (mkT 0 24 [(2, (AV.ptr (Ref.glob 1) 0)), (3, (AV.ptr (Ref.glob 2) 0)), (4, (AV.ptr (Ref.glob 3) 0)), (8, (AV.fn 58 [(AV.ptr (Ref.glob 0) 0)]))]) [9, 10] asg27 bd27)])) (R58 [(AV.yld 4), (AV.ptr (Ref.glob 0) 0)] [(Ent.obj [(AV.dat (D.list k sz xs))]), (Ent.obj [(AV.dat (D.list LK.nil 0 ([] : Row)))]), (Ent.obj [(AV.dat (D.int IntKind.i64 (0 : Int)))]), (Ent.obj [(AV.dat (D.list LK.nil 0 ([] : Row)))]), (Ent.lrec LS.ready (mkT 0 24 [(2, (AV.ptr (Ref.glob 1) 0)), (3, (AV.ptr (Ref.glob 2) 0)), (4, (AV.ptr (Ref.glob 3) 0)), (8, (AV.fn 58 [(AV.ptr (Ref.glob 0) 0)]))]) [9, 10] asg27 bd27)])))
   (rGet (fnS (fun (p : AV) => ((AV.tup []), [(Ent.obj [p]), (Ent.obj [(AV.dat (D.list LK.nil 0 ([] : Row)))]), (Ent.obj [(AV.dat (D.int IntKind.i64 (0 : Int)))]), (Ent.obj [(AV.dat (D.list LK.nil 0 ([] : Row)))]), (Ent.lrec LS.ready (mkT 0 24 [(2, (AV.ptr (Ref.glob 1) 0)), (3, (AV.ptr (Ref.glob 2) 0)), (4, (AV.ptr (Ref.glob 3) 0)), (8, (AV.fn 58 [(AV.ptr (Ref.glob 0) 0)]))]) [9, 10] asg27 bd27)])) (R58 [(AV.yld 4), (AV.ptr (Ref.glob 0) 0)] [(Ent.obj [(AV.dat (D.list k sz xs))]), (Ent.obj [(AV.dat (D.list LK.nil 0 ([] : Row)))]), (Ent.obj [(AV.dat (D.int IntKind.i64 (0 : Int)))]), (Ent.obj [(AV.dat (D.list LK.nil 0 ([] : Row)))]), (Ent.lrec LS.ready (mkT 0 24 [(2, (AV.ptr (Ref.glob 1) 0)), (3, (AV.ptr (Ref.glob 2) 0)), (4, (AV.ptr (Ref.glob 3) 0)), (8, (AV.fn 58 [(AV.ptr (Ref.glob 0) 0)]))]) [9, 10] asg27 bd27)])) fun x1 =>
    (some ((AV.tup [(AV.dat (D.list LK.nil 0 ([] : Row))), (AV.dat (D.int IntKind.i64 (0 : Int)))]), [(Ent.obj [x1]), (Ent.obj [(AV.dat (D.list LK.nil 0 ([] : Row)))]), (Ent.obj [(AV.dat (D.int IntKind.i64 (0 : Int)))]), (Ent.obj [(AV.dat (D.list LK.nil 0 ([] : Row)))]), Ent.gone]))
   )
   (rAsk (Option.isSome (fnS (fun (p : AV × Row) => ((AV.tup []), [(Ent.obj [p.1]), (Ent.obj [(AV.dat (D.list LK.nil 0 ([] : Row)))]), (Ent.obj [(AV.dat (D.int IntKind.i64 (0 : Int)))]), (Ent.obj [(AV.rowc Mode.excl 7 p.2)]), (Ent.lrec LS.ready (mkT 0 24 [(2, (AV.ptr (Ref.glob 1) 0)), (3, (AV.ptr (Ref.glob 2) 0)), (4, (AV.ptr (Ref.glob 3) 0)), (8, (AV.fn 58 [(AV.ptr (Ref.glob 0) 0)]))]) [9, 10] asg27 bd27)])) (R58 [(AV.yld 4), (AV.ptr (Ref.glob 0) 0)] [(Ent.obj [(AV.dat (D.list k sz xs))]), (Ent.obj [(AV.dat (D.list LK.nil 0 ([] : Row)))]), (Ent.obj [(AV.dat (D.int IntKind.i64 (0 : Int)))]), (Ent.obj [(AV.dat (D.list LK.nil 0 ([] : Row)))]), (Ent.lrec LS.ready (mkT 0 24 [(2, (AV.ptr (Ref.glob 1) 0)), (3, (AV.ptr (Ref.glob 2) 0)), (4, (AV.ptr (Ref.glob 3) 0)), (8, (AV.fn 58 [(AV.ptr (Ref.glob 0) 0)]))]) [9, 10] asg27 bd27)])))
    (rGet (fnS (fun (p : AV × Row) => ((AV.tup []), [(Ent.obj [p.1]), (Ent.obj [(AV.dat (D.list LK.nil 0 ([] : Row)))]), (Ent.obj [(AV.dat (D.int IntKind.i64 (0 : Int)))]), (Ent.obj [(AV.rowc Mode.excl 7 p.2)]), (Ent.lrec LS.ready (mkT 0 24 [(2, (AV.ptr (Ref.glob 1) 0)), (3, (AV.ptr (Ref.glob 2) 0)), (4, (AV.ptr (Ref.glob 3) 0)), (8, (AV.fn 58 [(AV.ptr (Ref.glob 0) 0)]))]) [9, 10] asg27 bd27)])) (R58 [(AV.yld 4), (AV.ptr (Ref.glob 0) 0)] [(Ent.obj [(AV.dat (D.list k sz xs))]), (Ent.obj [(AV.dat (D.list LK.nil 0 ([] : Row)))]), (Ent.obj [(AV.dat (D.int IntKind.i64 (0 : Int)))]), (Ent.obj [(AV.dat (D.list LK.nil 0 ([] : Row)))]), (Ent.lrec LS.ready (mkT 0 24 [(2, (AV.ptr (Ref.glob 1) 0)), (3, (AV.ptr (Ref.glob 2) 0)), (4, (AV.ptr (Ref.glob 3) 0)), (8, (AV.fn 58 [(AV.ptr (Ref.glob 0) 0)]))]) [9, 10] asg27 bd27)])) fun x2 =>
     (some ((AV.tup [(AV.dat (D.list LK.any 7 (List.take (List.length x2.2) (List.drop 0 x2.2)))), (AV.dat (D.int IntKind.i64 (0 : Int)))]), [(Ent.obj [x2.1]), (Ent.obj [(AV.dat (D.list LK.any 7 (List.take (List.length x2.2) (List.drop 0 x2.2))))]), (Ent.obj [(AV.dat (D.int IntKind.i64 (0 : Int)))]), (Ent.obj [(AV.rowc Mode.own 7 x2.2)]), Ent.gone]))
    )
    (rGet (fnS (fun (p : AV × Int × AV) => ((AV.tup []), [(Ent.obj [p.1]), (Ent.obj [(AV.dat (D.list LK.nil 0 ([] : Row)))]), (Ent.obj [(AV.dat (D.int IntKind.i64 p.2.1))]), (Ent.obj [p.2.2]), (Ent.lrec (LS.done Ex.ret) (mkT 0 24 [(2, (AV.ptr (Ref.glob 1) 0)), (3, (AV.ptr (Ref.glob 2) 0)), (4, (AV.ptr (Ref.glob 3) 0)), (8, (AV.fn 58 [(AV.ptr (Ref.glob 0) 0)]))]) [9, 10] asg27 bd27)])) (R58 [(AV.yld 4), (AV.ptr (Ref.glob 0) 0)] [(Ent.obj [(AV.dat (D.list k sz xs))]), (Ent.obj [(AV.dat (D.list LK.nil 0 ([] : Row)))]), (Ent.obj [(AV.dat (D.int IntKind.i64 (0 : Int)))]), (Ent.obj [(AV.dat (D.list LK.nil 0 ([] : Row)))]), (Ent.lrec LS.ready (mkT 0 24 [(2, (AV.ptr (Ref.glob 1) 0)), (3, (AV.ptr (Ref.glob 2) 0)), (4, (AV.ptr (Ref.glob 3) 0)), (8, (AV.fn 58 [(AV.ptr (Ref.glob 0) 0)]))]) [9, 10] asg27 bd27)])) fun x3 =>
     (some ((AV.tup [(AV.dat (D.list LK.nil 0 ([] : Row))), (AV.dat (D.int IntKind.i64 x3.2.1))]), [(Ent.obj [x3.1]), (Ent.obj [(AV.dat (D.list LK.nil 0 ([] : Row)))]), (Ent.obj [(AV.dat (D.int IntKind.i64 x3.2.1))]), (Ent.obj [x3.2.2]), Ent.gone]))
    )
   )
  )
  := by kernel_rfl

/-! ### a round's yield -/
/-- the steps so far, in their cell -/
def AC (acc : List Stp) (c : AV) : Prop := (acc = [] ∧ c = .dat (.list .nil 0 [])) ∨ (acc ≠ [] ∧ ∃ ys, SR acc ys ∧ c = .rowc .excl 7 ys)

theorem y27_run {b : AV} {acc : List Stp} {c4 : AV} {s : Stp} {d : D} {e : Int} (hc : AC acc c4) (ha : acc.length ≤ 300) (hd : KD s.keep d) :
    (300 ≤ acc.length → ∃ c, Y27 [stpV s d, .dat (.int .i64 e)] (G27 b 0 c4 .ready) = some (oYn (G27 b 0 c4 .ready) (8, c))) ∧
    (¬ 300 ≤ acc.length → e ≠ 0 → ∃ c, Y27 [stpV s d, .dat (.int .i64 e)] (G27 b 0 c4 .ready) = some (oYn (G27 b 0 c4 .ready) (e, c))) ∧
    (¬ 300 ≤ acc.length → e = 0 → ∃ zs, SR (acc ++ [s]) zs ∧ Y27 [stpV s d, .dat (.int .i64 e)] (G27 b 0 c4 .ready) = some (oYy (G27 b 0 c4 .ready) zs)) := by
  rcases hc with ⟨rfl, rfl⟩ | ⟨hne, ys, hsr, rfl⟩
  · have key : ∀ o, (yn27 b s.kind s.node s.at' s.n s.data s.stop d e).ev = o → Y27 [stpV s d, .dat (.int .i64 e)] (G27 b 0 (.dat (.list .nil 0 [])) .ready) = o := fun o h => by
      rw [Tr.ev_run] at h
      exact h
    refine ⟨fun h => absurd h (by simp), fun _ h => ⟨.dat (.list .nil 0 []), key _ ?_⟩, fun _ h => ⟨[stpD s d], SR.nil.snoc hd, key _ ?_⟩⟩
    · rw [yn27_eq]
      exact aT (by simpa using h) rfl
    · rw [yn27_eq]
      exact aF (by simpa using h) rfl
  · have key : ∀ o, (yr27 b ys s.kind s.node s.at' s.n s.data s.stop d e).ev = o → Y27 [stpV s d, .dat (.int .i64 e)] (G27 b 0 (.rowc .excl 7 ys) .ready) = o := fun o h => by
      rw [Tr.ev_run] at h
      exact h
    have hl := hsr.1
    refine ⟨fun h => ⟨.rowc .excl 7 ys, key _ ?_⟩, fun h1 h => ⟨.rowc .excl 7 ys, key _ ?_⟩, fun h1 h => ⟨ys ++ [stpD s d], hsr.snoc hd, key _ ?_⟩⟩
    · rw [yr27_eq]
      exact aT (by rw [hl, beq_iff_eq]; omega) rfl
    · rw [yr27_eq]
      exact aF (by rw [hl, beq_eq_false_iff_ne]; omega) (aT (by simpa using h) rfl)
    · rw [yr27_eq]
      refine aF (by rw [hl, beq_eq_false_iff_ne]; omega) (aF (by simpa using h) (aT ?_ (aT (by simp) (aT ?_ rfl))))
      · rw [Nat.zero_add, Bool.and_eq_true, fits_iff]
        refine ⟨by simp, ?_⟩
        omega
      · rw [whole_iff]
        simp

theorem oYy_inj {G : List Ent} : ∀ x y, oYy G x = oYy G y → x = y := by
  intro x y h
  simp [oYy, G27] at h
  exact h
theorem oYn_inj {G : List Ent} : ∀ x y, oYn G x = oYn G y → x = y := by
  rintro ⟨a, b⟩ ⟨c, d⟩ h
  simp [oYn, G27] at h
  obtain ⟨rfl, rfl⟩ := h
  rfl
theorem oYy_no {G : List Ent} {p : Int × AV} : ∀ x, oYy G x ≠ oYn G p := fun x h => by simp [oYy, oYn] at h
theorem out58a_inj : ∀ x y, out58a x = out58a y → x = y := by
  intro x y h
  simp [out58a] at h
  exact h
theorem out58r_inj : ∀ x y, out58r x = out58r y → x = y := by
  intro x y h
  simp [out58r] at h
  exact h

attribute [local irreducible] fnS loS P23 Y27

set_option maxHeartbeats 1000000 in
theorem loop58 : ∀ (f : Nat) (l : List UInt8) (k : LK) (sz : Nat) (acc : List Stp) (c4 : AV), (l ≠ [] → sz = 1) → l.length ≤ f → l.length ≤ 1000000 → AC acc c4 → acc.length ≤ 300 → ∀ r, readF f l acc = r →
    (r.2 = 0 → ∃ b' c', AC r.1 c' ∧ LoopTo TT t58.runs (HSr 58) lp58 (inv58 k sz (bRow l) c4) (out58a (G27 b' 0 c' .ready))) ∧
    (r.2 ≠ 0 → ∃ b' c', LoopTo TT t58.runs (HSr 58) lp58 (inv58 k sz (bRow l) c4) (out58r (G27 b' r.2 c' (.done .ret)))) := by
  intro f
  induction f with
  | zero =>
    intro l k sz acc c4 hsz hf hl hc ha r hr
    obtain rfl : l = [] := List.length_eq_zero_iff.1 (by omega)
    rw [readF_nil] at hr
    subst hr
    refine ⟨fun _ => ⟨.dat (.list k sz (bRow [])), c4, hc, LoopTo.last (orc := t58) (lo := noLo) (fun _ _ _ _ h => h) (LoOk2.no _) ?_ (by simp [out58a])⟩, fun h => absurd rfl h⟩
    show (rk58 k sz (bRow []) c4).run = _
    rw [← Tr.ev_run, rk58_eq]
    exact aF (by simp) rfl
  | succ f ih =>
    intro l k sz acc c4 hsz hf hl hc ha r hr
    by_cases h0 : l = []
    · subst h0
      rw [readF_nil] at hr
      subst hr
      refine ⟨fun _ => ⟨.dat (.list k sz (bRow [])), c4, hc, LoopTo.last (orc := t58) (lo := noLo) (fun _ _ _ _ h => h) (LoOk2.no _) ?_ (by simp [out58a])⟩, fun h => absurd rfl h⟩
      show (rk58 k sz (bRow []) c4).run = _
      rw [← Tr.ev_run, rk58_eq]
      exact aF (by simp) rfl
    · obtain rfl : sz = 1 := hsz h0
      have hlt : 0 < l.length := by
        cases l with
        | nil => exact absurd rfl h0
        | cons a l => simp
      simp only [readF, if_neg h0] at hr
      obtain ⟨d, hd, hP⟩ := p23 (k := k) (l := l) (G := G27 (.dat (.list k 1 (bRow l))) 0 c4 .ready) (by omega)
      have hy := y27_run (b := .dat (.list k 1 (bRow l))) (s := (getS l).1) (d := d) (e := (getS l).2.2) hc ha hd.kd
      by_cases h1 : 300 ≤ acc.length
      · rw [if_pos h1] at hr
        subst hr
        obtain ⟨c, hY⟩ := hy.1 h1
        refine ⟨fun h => absurd h (by decide), fun _ => ⟨.dat (.list k 1 (bRow l)), c, LoopTo.last (orc := t58) (lo := noLo) (fun _ _ _ _ h => h) (LoOk2.no _) ?_ (by simp [out58r])⟩⟩
        show (rk58 k 1 (bRow l) c4).run = _
        rw [← Tr.ev_run, rk58_eq]
        refine aT (by simpa using hlt) (gStep (fnS_eq (out := o23 _) o23_inj hP) ?_)
        exact aF (fnS_no (o1 := oYy (G27 (.dat (.list k 1 (bRow l))) 0 c4 .ready)) hY oYy_no) (gStep (fnS_eq (out := oYn (G27 (.dat (.list k 1 (bRow l))) 0 c4 .ready)) oYn_inj hY) rfl)
      · rw [if_neg h1] at hr
        by_cases h2 : (getS l).2.2 ≠ 0
        · rw [if_pos h2] at hr
          subst hr
          obtain ⟨c, hY⟩ := hy.2.1 h1 h2
          refine ⟨fun h => absurd h h2, fun _ => ⟨.dat (.list k 1 (bRow l)), c, LoopTo.last (orc := t58) (lo := noLo) (fun _ _ _ _ h => h) (LoOk2.no _) ?_ (by simp [out58r])⟩⟩
          show (rk58 k 1 (bRow l) c4).run = _
          rw [← Tr.ev_run, rk58_eq]
          refine aT (by simpa using hlt) (gStep (fnS_eq (out := o23 _) o23_inj hP) ?_)
          exact aF (fnS_no (o1 := oYy (G27 (.dat (.list k 1 (bRow l))) 0 c4 .ready)) hY oYy_no) (gStep (fnS_eq (out := oYn (G27 (.dat (.list k 1 (bRow l))) 0 c4 .ready)) oYn_inj hY) rfl)
        · rw [if_neg h2] at hr
          have h2 : (getS l).2.2 = 0 := by simpa using h2
          obtain ⟨zs, hzs, hY⟩ := hy.2.2 h1 h2
          have hp := getS_pos h2
          have hcut : List.take ((Int.toNat (((List.length (bRow l)) : Nat) : Int)) - (Int.toNat (getS l).2.1)) (List.drop (Int.toNat (getS l).2.1) (bRow l)) = bRow (l.drop (getS l).2.1.toNat) := by
            rw [Int.toNat_natCast, bRow_drop, List.take_of_length_le]
            simp
          have ih2 := ih (l.drop (getS l).2.1.toNat) (if ((k = LK.full) ∧ ((((List.length (bRow l)) : Nat) : Int) < (((List.length (bRow l)) : Nat) : Int))) then LK.any else k) 1 (acc ++ [(getS l).1]) (.rowc .excl 7 zs) (fun _ => rfl) (by rw [List.length_drop]; omega) (by rw [List.length_drop]; omega) (.inr ⟨by simp, zs, hzs, rfl⟩) (by simp; omega) r hr
          have step : (rk58 k 1 (bRow l) c4).run = some (.norm, inv58 (if ((k = LK.full) ∧ ((((List.length (bRow l)) : Nat) : Int) < (((List.length (bRow l)) : Nat) : Int))) then LK.any else k) 1 (bRow (l.drop (getS l).2.1.toNat)) (.rowc .excl 7 zs)) := by
            rw [← Tr.ev_run, rk58_eq]
            refine aT (by simpa using hlt) (gStep (fnS_eq (out := o23 _) o23_inj hP) ?_)
            refine aT (fnS_yes (o1 := oYy (G27 (.dat (.list k 1 (bRow l))) 0 c4 .ready)) oYy_inj hY) (gStep (fnS_eq (out := oYy (G27 (.dat (.list k 1 (bRow l))) 0 c4 .ready)) oYy_inj hY) ?_)
            refine aF (by simpa using h2) (aT (by simp; omega) (aT (by simp) ?_))
            simp only [hcut]
            rfl
          refine ⟨fun h => ?_, fun h => ?_⟩
          · obtain ⟨b', c', q1, q2⟩ := ih2.1 h
            exact ⟨b', c', q1, LoopTo.more (orc := t58) (lo := noLo) (fun _ _ _ _ h => h) (LoOk2.no _) step q2⟩
          · obtain ⟨b', c', q2⟩ := ih2.2 h
            exact ⟨b', c', LoopTo.more (orc := t58) (lo := noLo) (fun _ _ _ _ h => h) (LoOk2.no _) step q2⟩

theorem R58_run {k : LK} {sz : Nat} {l : List UInt8} (hsz : l ≠ [] → sz = 1) (hl : l.length ≤ 1000000) :
    ((readL l).2 = 0 → ∃ b' c', AC (readL l).1 c' ∧ R58 [.yld 4, .ptr (.glob 0) 0] (G27 (.dat (.list k sz (bRow l))) 0 (.dat (.list .nil 0 [])) .ready) = some (.tup [], G27 b' 0 c' .ready)) ∧
    ((readL l).2 ≠ 0 → ∃ b' c', R58 [.yld 4, .ptr (.glob 0) 0] (G27 (.dat (.list k sz (bRow l))) 0 (.dat (.list .nil 0 [])) .ready) = some (.tup [], G27 b' (readL l).2 c' (.done .ret))) := by
  have key : ∀ o, (f58t k sz (bRow l) (.dat (.list .nil 0 []))).ev = o → R58 [.yld 4, .ptr (.glob 0) 0] (G27 (.dat (.list k sz (bRow l))) 0 (.dat (.list .nil 0 [])) .ready) = o := fun o h => by
    rw [Tr.ev_run] at h
    exact h
  have hp := loop58 l.length l k sz [] (.dat (.list .nil 0 [])) hsz (Nat.le_refl _) hl (.inl ⟨rfl, rfl⟩) (by simp) _ rfl
  refine ⟨fun h => ?_, fun h => ?_⟩
  · obtain ⟨b', c', q1, q2⟩ := hp.1 h
    refine ⟨b', c', q1, key _ ?_⟩
    rw [f58t_eq]
    exact aT (loS_yes out58a_inj q2) (gStep (loS_eq out58a_inj q2) rfl)
  · obtain ⟨b', c', q2⟩ := hp.2 h
    refine ⟨b', c', key _ ?_⟩
    rw [f58t_eq]
    exact aF (loS_no (o1 := out58a) q2 (fun x h => by simp [out58a, out58r] at h)) (gStep (loS_eq out58r_inj q2) rfl)

theorem o58a_inj {G : List Ent} : ∀ x y, o58a G x = o58a G y → x = y := by
  intro x y h
  simp [o58a, G27] at h
  exact h
theorem o58b_inj {G : List Ent} : ∀ x y, o58b G x = o58b G y → x = y := by
  rintro ⟨a, b⟩ ⟨d, e⟩ h
  simp [o58b, G27] at h
  obtain ⟨rfl, rfl⟩ := h
  rfl
theorem o58c_inj {G : List Ent} : ∀ x y, o58c G x = o58c G y → x = y := by
  rintro ⟨a, b, c⟩ ⟨e, f, g⟩ q
  simp [o58c, G27] at q
  obtain ⟨rfl, rfl, rfl⟩ := q
  rfl

def o28y (G : List Ent) (ys : Row) : AV × List Ent := (.tup [.dat (.list .any 7 ys), .dat (.int .i64 0)], G)
theorem o28y_inj {G : List Ent} : ∀ x y, o28y G x = o28y G y → x = y := by intro x y h; simpa [o28y] using h

/-- what both Reads come to -/
def resR (l : List UInt8) (o : Option (AV × List Ent)) : Prop :=
  ((readL l).2 = 0 ∧ (readL l).1 = [] ∧ ∃ G, o = some (o30n G 0)) ∨ ((readL l).2 = 0 ∧ (readL l).1 ≠ [] ∧ ∃ ys G, SR (readL l).1 ys ∧ o = some (o28y G ys)) ∨ ((readL l).2 ≠ 0 ∧ ∃ G, o = some (o30n G (readL l).2))

attribute [local irreducible] R58

theorem R27_run {k : LK} {sz : Nat} {l : List UInt8} (hsz : l ≠ [] → sz = 1) (hl : l.length ≤ 1000000) : resR l (R27 [.dat (.list k sz (bRow l))] []) := by
  show resR l (f27t k sz (bRow l)).run
  rw [← Tr.ev_run, f27t_eq]
  have hp := R58_run (k := k) hsz hl
  by_cases h : (readL l).2 = 0
  · obtain ⟨b', c', q1, q2⟩ := hp.1 h
    rcases q1 with ⟨e, rfl⟩ | ⟨e, ys, hsr, rfl⟩
    · have q : R58 [.yld 4, .ptr (.glob 0) 0] (G27 (.dat (.list k sz (bRow l))) 0 (.dat (.list .nil 0 [])) .ready) = some (o58a [] b') := q2
      exact aTP (resR l) (fnS_yes (o1 := o58a []) o58a_inj q) (gP (resR l) (fnS_eq (out := o58a []) o58a_inj q) (.inl ⟨h, e, _, rfl⟩))
    · have q : R58 [.yld 4, .ptr (.glob 0) 0] (G27 (.dat (.list k sz (bRow l))) 0 (.dat (.list .nil 0 [])) .ready) = some (o58b [] (b', ys)) := q2
      refine aFP (resR l) (fnS_no (o1 := o58a []) q (fun x h => by simp [o58a, o58b, G27] at h)) (aTP (resR l) (fnS_yes (o1 := o58b []) o58b_inj q) (gP (resR l) (fnS_eq (out := o58b []) o58b_inj q) ?_))
      simp only [List.drop_zero, List.take_length]
      exact .inr (.inl ⟨h, e, ys, _, hsr, rfl⟩)
  · obtain ⟨b', c', q2⟩ := hp.2 h
    have q : R58 [.yld 4, .ptr (.glob 0) 0] (G27 (.dat (.list k sz (bRow l))) 0 (.dat (.list .nil 0 [])) .ready) = some (o58c [] (b', (readL l).2, c')) := q2
    exact aFP (resR l) (fnS_no (o1 := o58a []) q (fun x h => by simp [o58a, o58c, G27, lr27] at h)) (aFP (resR l) (fnS_no (o1 := o58b []) q (fun x h => by simp [o58b, o58c, G27, lr27] at h)) (gP (resR l) (fnS_eq (out := o58c []) o58c_inj q) (.inr (.inr ⟨h, _, rfl⟩))))

attribute [local irreducible] P26

theorem R28_run {k : LK} {l : List UInt8} (hl : l.length ≤ 1000000) : resR l (R28 [.dat (.list k 1 (bRow l))] []) := by
  show resR l (f28t k (bRow l) []).run
  rw [← Tr.ev_run, f28t_eq]
  by_cases h0 : l = []
  · subst h0
    have hr : readL [] = ([], 0) := readF_nil
    have q : LoopTo TT t28.runs (HSg 28) lp28 (inv28a k (bRow []) [] 0) (out28a [] ()) := by
      refine LoopTo.last (orc := t28) (lo := noLo) (fun _ _ _ _ h => h) (LoOk2.no _) ?_ (by simp [out28a])
      show (rk28a k (bRow []) [] 0).run = _
      rw [← Tr.ev_run, rk28a_eq]
      exact aF (by simp) rfl
    exact aTP (resR []) (loS_yes (o1 := out28a []) out28a_inj q) (gP (resR []) (loS_eq (out := out28a []) out28a_inj q) (.inl ⟨by rw [hr], by rw [hr], _, rfl⟩))
  · obtain ⟨f, hf⟩ : ∃ f, l.length = f + 1 := by
      cases l with
      | nil => exact absurd rfl h0
      | cons a l => exact ⟨l.length, by simp⟩
    have hr : readL l = (if (getS l).2.2 ≠ 0 then ([], (getS l).2.2) else readF f (l.drop (getS l).2.1.toNat) [(getS l).1]) := by
      unfold readL
      rw [hf]
      simp [readF, h0]
    obtain ⟨d, hd, hP⟩ := p26 (k := if ((k = LK.full) ∧ ((((List.length (bRow l)) : Nat) : Int) < (((List.length (bRow l)) : Nat) : Int))) then LK.any else k) (l := l) (G := []) (by omega)
    have hcut : List.take ((Int.toNat (((List.length (bRow l)) : Nat) : Int)) - (Int.toNat (0 : Int))) (List.drop (Int.toNat (0 : Int)) (bRow l)) = bRow l := by
      rw [Int.toNat_natCast, Int.toNat_zero, List.drop_zero, List.take_of_length_le]
      simp
    by_cases h2 : (getS l).2.2 ≠ 0
    · rw [if_pos h2] at hr
      have q : LoopTo TT t28.runs (HSg 28) lp28 (inv28a k (bRow l) [] 0) (out28c [] ((getS l).2.2, .dat (.list .nil 0 []), [])) := by
        refine LoopTo.last (orc := t28) (lo := noLo) (fun _ _ _ _ h => h) (LoOk2.no _) ?_ (by simp [out28c])
        show (rk28a k (bRow l) [] 0).run = _
        rw [← Tr.ev_run, rk28a_eq, hcut]
        refine aT (by simp; omega) (aT (by simp) (aT (by simp) (gStep (fnS_eq (out := o23 []) o23_inj hP) (aT (by simpa using h2) rfl))))
      refine aFP (resR l) (loS_no (o1 := out28a []) q (fun x h => by simp [out28a, out28c] at h)) (aFP (resR l) (loS_no (o1 := out28b []) q (fun x h => by simp [out28b, out28c] at h)) (gP (resR l) (loS_eq (out := out28c []) out28c_inj q) (.inr (.inr ⟨by rw [hr]; exact h2, [], by rw [hr]; rfl⟩))))
    · rw [if_neg h2] at hr
      have h2 : (getS l).2.2 = 0 := by simpa using h2
      have hp := getS_pos h2
      have step : (rk28a k (bRow l) [] 0).run = some (.norm, inv28b k (bRow l) [stpD (getS l).1 d] [] (((getS l).2.1.toNat : Nat) : Int)) := by
        rw [← Tr.ev_run, rk28a_eq, hcut]
        refine aT (by simp; omega) (aT (by simp) (aT (by simp) (gStep (fnS_eq (out := o23 []) o23_inj hP) (aF (by simpa using h2) ?_))))
        have hw : IntKind.wrap .i64 ((0 : Int) + (getS l).2.1) = (((getS l).2.1.toNat : Nat) : Int) := by
          rw [IntKind.wrap_i64]; omega
        simp only [hw]
        rfl
      have hlp := loop28b (k := k) (l := l) (G := []) hl f (getS l).2.1.toNat [(getS l).1] [stpD (getS l).1 d] hp.2.1 (by omega) (SR.nil.snoc hd.kd) (by simp) _ hr.symm
      by_cases h : (readL l).2 = 0
      · obtain ⟨zs, q1, q2, q3⟩ := hlp.1 h
        have q : LoopTo TT t28.runs (HSg 28) lp28 (inv28a k (bRow l) [] 0) (out28b [] zs) := LoopTo.more (orc := t28) (lo := noLo) (fun _ _ _ _ h => h) (LoOk2.no _) step q3
        refine aFP (resR l) (loS_no (o1 := out28a []) q (fun x h => by simp [out28a, out28b] at h)) (aTP (resR l) (loS_yes (o1 := out28b []) out28b_inj q) (gP (resR l) (loS_eq (out := out28b []) out28b_inj q) ?_))
        refine .inr (.inl ⟨h, fun e => by rw [e] at q2; simp at q2, zs, [], q1, ?_⟩)
        simp only [List.drop_zero, List.take_length]
        rfl
      · obtain ⟨p, q3⟩ := hlp.2 h
        have q : LoopTo TT t28.runs (HSg 28) lp28 (inv28a k (bRow l) [] 0) (out28c [] ((readL l).2, p)) := LoopTo.more (orc := t28) (lo := noLo) (fun _ _ _ _ h => h) (LoOk2.no _) step q3
        exact aFP (resR l) (loS_no (o1 := out28a []) q (fun x h => by simp [out28a, out28c] at h)) (aFP (resR l) (loS_no (o1 := out28b []) q (fun x h => by simp [out28b, out28c] at h)) (gP (resR l) (loS_eq (out := out28c []) out28c_inj q) (.inr (.inr ⟨h, _, rfl⟩))))

end Go.Eng
end

/- Scripts: the contracts; the laws as trees. -/
section
namespace Go.Eng
open Go
set_option maxRecDepth 100000

theorem tG_ok : TOk Go.Proofs.Try.prog tG := TOk.cons (COk.spec (out := fun _ G => out50 (argG G).1 (argG G).2) (tX_ok 50)) (TOk.cons (COk.spec2 (o1 := fun _ G => out51y (argG G).1 (argG G).2) (o2 := fun _ G => out51n (argG G).1 (argG G).2) (tX_ok 51)) TOk.nil)

theorem lo26_ok : ∀ c, Go.Proofs.Try.f26.body = some c → LoOk2 TT tG.runs (HSg 26) lo26 c := by
  intro c hc
  refine LoOk2.of c fun b hb st r h => ?_
  have hcc : c = codeOf Go.Proofs.Try.f26 := by unfold codeOf; rw [hc]; rfl
  have hl : loops c = [lp26] := by rw [hcc]; kernel_rfl
  rw [hl] at hb
  obtain rfl := List.mem_singleton.1 hb
  rw [show firstRegion lp26 = 15 from by kernel_rfl] at h
  exact tlo3_ok h

theorem lo28_ok : ∀ c, Go.Proofs.Try.f28.body = some c → LoOk2 TT t28.runs (HSg 28) lo28 c := by
  intro c hc
  refine LoOk2.of c fun b hb st r h => ?_
  have hcc : c = codeOf Go.Proofs.Try.f28 := by unfold codeOf; rw [hc]; rfl
  have hl : loops c = [lp28] := by rw [hcc]; kernel_rfl
  rw [hl] at hb
  obtain rfl := List.mem_singleton.1 hb
  rw [show firstRegion lp28 = 3 from by kernel_rfl] at h
  exact tlo3_ok h

theorem lo29_ok : ∀ c, Go.Proofs.Try.f29.body = some c → LoOk2 TT t29.runs (HSg 29) lo29 c := by
  intro c hc
  refine LoOk2.of c fun b hb st r h => ?_
  have hcc : c = codeOf Go.Proofs.Try.f29 := by unfold codeOf; rw [hc]; rfl
  have hl : loops c = [lp29] := by rw [hcc]; kernel_rfl
  rw [hl] at hb
  obtain rfl := List.mem_singleton.1 hb
  rw [show firstRegion lp29 = 4 from by kernel_rfl] at h
  exact tloB_ok h

theorem lo30_ok : ∀ c, Go.Proofs.Try.f30.body = some c → LoOk2 TT t30.runs (HSg 30) lo30 c := by
  intro c hc
  refine LoOk2.of c fun b hb st r h => ?_
  have hcc : c = codeOf Go.Proofs.Try.f30 := by unfold codeOf; rw [hc]; rfl
  have hl : loops c = [lp30] := by rw [hcc]; kernel_rfl
  rw [hl] at hb
  obtain rfl := List.mem_singleton.1 hb
  rw [show firstRegion lp30 = 5 from by kernel_rfl] at h
  exact tlo3_ok h

theorem lo31_ok : ∀ c, Go.Proofs.Try.f31.body = some c → LoOk2 TT t31.runs (HSg 31) lo31 c := by
  intro c hc
  refine LoOk2.of c fun b hb st r h => ?_
  have hcc : c = codeOf Go.Proofs.Try.f31 := by unfold codeOf; rw [hc]; rfl
  have hl : loops c = [lp31] := by rw [hcc]; kernel_rfl
  rw [hl] at hb
  obtain rfl := List.mem_singleton.1 hb
  rw [show firstRegion lp31 = 5 from by kernel_rfl] at h
  exact tlo2_ok h

theorem lo58_ok : ∀ c, Go.Proofs.Try.f58.body = some c → LoOk2 TT t58.runs (HSr 58) lo58 c := by
  intro c hc
  refine LoOk2.of c fun b hb st r h => ?_
  have hcc : c = codeOf Go.Proofs.Try.f58 := by unfold codeOf; rw [hc]; rfl
  have hl : loops c = [lp58] := by rw [hcc]; kernel_rfl
  rw [hl] at hb
  obtain rfl := List.mem_singleton.1 hb
  rw [show firstRegion lp58 = 0 from by kernel_rfl] at h
  exact tlo2_ok h

theorem c26 : COk Go.Proofs.Try.prog 26 R26 := tok_fnR (H := HSg 26) TT_ok tG_ok Go.Proofs.Try.func26 (by kernel_rfl) rfl lo26_ok
theorem t28_ok : TOk Go.Proofs.Try.prog t28 := TOk.cons (COk.spec (out := fun _ G => o23 G) c26.pure) TOk.nil
theorem t29_ok : TOk Go.Proofs.Try.prog t29 := TOk.cons (COk.spec (out := fun _ G => oB G) c22.pure) TOk.nil
theorem t30_ok : TOk Go.Proofs.Try.prog t30 := TOk.cons (COk.spec2 (o1 := fun _ G => o19y G) (o2 := fun _ G => o19n G) c19.pure) TOk.nil
theorem t31_ok : TOk Go.Proofs.Try.prog t31 := TOk.cons (COk.spec2 (o1 := fun _ G => o20y G) (o2 := fun _ G => o20n G) c20.pure) TOk.nil
theorem c28 : COk Go.Proofs.Try.prog 28 R28 := tok_fn TT_ok t28_ok Go.Proofs.Try.func28 (by kernel_rfl) lo28_ok
theorem c29 : COk Go.Proofs.Try.prog 29 R29 := tok_fn TT_ok t29_ok Go.Proofs.Try.func29 (by kernel_rfl) lo29_ok
theorem c30 : COk Go.Proofs.Try.prog 30 R30 := tok_fn TT_ok t30_ok Go.Proofs.Try.func30 (by kernel_rfl) lo30_ok
theorem c31 : COk Go.Proofs.Try.prog 31 R31 := tok_fn TT_ok t31_ok Go.Proofs.Try.func31 (by kernel_rfl) lo31_ok
theorem cY27 : COk Go.Proofs.Try.prog (yB + 4) Y27 := tok_yld (H := fun _ => []) TT_ok TOk.nil rfl (fun _ => LoOk2.no _) 4
theorem t58_ok : TOk Go.Proofs.Try.prog t58 := TOk.cons (COk.spec (out := fun _ G => o23 G) c23.pure) (TOk.cons (COk.spec2 (o1 := fun _ G => oYy G) (o2 := fun _ G => oYn G) cY27) TOk.nil)
theorem c58 : COk Go.Proofs.Try.prog 58 R58 := tok_fn TT_ok t58_ok Go.Proofs.Try.func58 (by kernel_rfl) lo58_ok
theorem t52_ok : TOk Go.Proofs.Try.prog t52 := tinU_ok TT_ok (FT := FT) (fun _ _ h => FT_fine h) (HS := HSr) (fuel := 6) (base := []) TOk.nil 2
theorem t27_ok : TOk Go.Proofs.Try.prog t27 := TOk.cons (c58.sub fun _ _ _ hr => tspec3_ok hr) (TOk.cons (t52_ok 52) TOk.nil)
theorem c27 : COk Go.Proofs.Try.prog 27 R27 := tok_fnR (H := HSr 27) TT_ok t27_ok Go.Proofs.Try.func27 (by kernel_rfl) rfl fun _ _ => LoOk2.no _

noncomputable def P27 := pureS R27
noncomputable def P28 := pureS R28
noncomputable def P29 := pureS R29
noncomputable def P30 := pureS R30
noncomputable def P31 := pureS R31

noncomputable def t6 : TOrc := tCons 18 (fun a G => tspec (oT G) (P18 a G)) (tCons 22 (fun a G => tspec (oB G) (P22 a G)) (tCons 23 (fun a G => tspec (o23 G) (P23 a G)) (tCons 26 (fun a G => tspec (o23 G) (P26 a G))
  (tCons 27 (fun a G => tspec2 (o28y G) (o30n G) (P27 a G)) (tCons 28 (fun a G => tspec2 (o28y G) (o30n G) (P28 a G)) (tCons 29 (fun a G => tspec (oB G) (P29 a G)) (tCons 30 (fun a G => tspec2 (o30y G) (o30n G) (P30 a G)) (tCons 31 (fun a G => tspec (o31 G) (P31 a G)) tNone))))))))
theorem t6_ok : TOk Go.Proofs.Try.prog t6 := TOk.cons (COk.spec (out := fun _ G => oT G) c18.pure) (TOk.cons (COk.spec (out := fun _ G => oB G) c22.pure) (TOk.cons (COk.spec (out := fun _ G => o23 G) c23.pure) (TOk.cons (COk.spec (out := fun _ G => o23 G) c26.pure)
  (TOk.cons (COk.spec2 (o1 := fun _ G => o28y G) (o2 := fun _ G => o30n G) c27.pure) (TOk.cons (COk.spec2 (o1 := fun _ G => o28y G) (o2 := fun _ G => o30n G) c28.pure) (TOk.cons (COk.spec (out := fun _ G => oB G) c29.pure) (TOk.cons (COk.spec2 (o1 := fun _ G => o30y G) (o2 := fun _ G => o30n G) c30.pure) (TOk.cons (COk.spec (out := fun _ G => o31 G) c31.pure) TOk.nil))))))))
noncomputable def f6t (k : LK) (xs : Row) : Tr (AV × List Ent) := tfn TT t6 noLo Go.Proofs.Try.f6 [.dat (.list k 1 xs)] []
noncomputable def lp7 : Code := lpOf (codeOf Go.Proofs.Try.f7) 0
noncomputable def h7 (op : St → Option (Ex × St)) (k : LK) (xs : Row) : Tr (AV × List Ent) :=
  tfn TT t6 (fun n st => .get (op (tidy (HSg 7 n) st)) fun x => .ret x) Go.Proofs.Try.f7 [.dat (.list k 7 xs)] []
end Go.Eng
end

/- ScriptGets answers true at any bytes. -/
section
namespace Go.Eng
open Go
set_option maxRecDepth 100000
set_option linter.unusedSimpArgs false

theorem f6t_eq (k : LK) (xs : Row) : (f6t k xs).ev =
  (rAsk (decide ((((List.length xs) : Nat) : Int) > (3000 : Int)))
   (rGet (fnS (fun (x : Unit) => ((AV.dat (D.bool true)), [])) (P18 [] [])) fun x1 =>
    (some ((AV.dat (D.bool true)), []))
   )
   (rGet (fnS (fun (p : Int × Int × Int × Int × ByteArray × Int × D × Int × Int) => ((AV.tup [(AV.agg [(AV.dat (D.int IntKind.i64 p.1)), (AV.dat (D.int IntKind.i64 p.2.1)), (AV.dat (D.int IntKind.i64 p.2.2.1)), (AV.dat (D.int IntKind.i64 p.2.2.2.1)), (AV.dat (D.str p.2.2.2.2.1)), (AV.dat (D.int IntKind.i64 p.2.2.2.2.2.1)), (AV.dat p.2.2.2.2.2.2.1)]), (AV.dat (D.int IntKind.i64 p.2.2.2.2.2.2.2.1)), (AV.dat (D.int IntKind.i64 p.2.2.2.2.2.2.2.2))]), [])) (P23 [(AV.dat (D.list k 1 xs))] [])) fun x2 =>
    (rGet (fnS (fun (p : Int × Int × Int × Int × ByteArray × Int × D × Int × Int) => ((AV.tup [(AV.agg [(AV.dat (D.int IntKind.i64 p.1)), (AV.dat (D.int IntKind.i64 p.2.1)), (AV.dat (D.int IntKind.i64 p.2.2.1)), (AV.dat (D.int IntKind.i64 p.2.2.2.1)), (AV.dat (D.str p.2.2.2.2.1)), (AV.dat (D.int IntKind.i64 p.2.2.2.2.2.1)), (AV.dat p.2.2.2.2.2.2.1)]), (AV.dat (D.int IntKind.i64 p.2.2.2.2.2.2.2.1)), (AV.dat (D.int IntKind.i64 p.2.2.2.2.2.2.2.2))]), [])) (P26 [(AV.dat (D.list k 1 xs))] [])) fun x3 =>
     (rAsk (Option.isSome (fnS (fun (ys : Row) => ((AV.tup [(AV.dat (D.list LK.any 7 ys)), (AV.dat (D.int IntKind.i64 (0 : Int)))]), [])) (P27 [(AV.dat (D.list k 1 xs))] [])))
      (rGet (fnS (fun (ys : Row) => ((AV.tup [(AV.dat (D.list LK.any 7 ys)), (AV.dat (D.int IntKind.i64 (0 : Int)))]), [])) (P27 [(AV.dat (D.list k 1 xs))] [])) fun x4 =>
       (rAsk (Option.isSome (fnS (fun (ys : Row) => ((AV.tup [(AV.dat (D.list LK.any 7 ys)), (AV.dat (D.int IntKind.i64 (0 : Int)))]), [])) (P28 [(AV.dat (D.list k 1 xs))] [])))
        (rGet (fnS (fun (ys : Row) => ((AV.tup [(AV.dat (D.list LK.any 7 ys)), (AV.dat (D.int IntKind.i64 (0 : Int)))]), [])) (P28 [(AV.dat (D.list k 1 xs))] [])) fun x5 =>
         (rGet (fnS (fun (b : Bool) => ((AV.dat (D.bool b)), [])) (P22 [(AV.agg [(AV.dat (D.int IntKind.i64 x2.1)), (AV.dat (D.int IntKind.i64 x2.2.1)), (AV.dat (D.int IntKind.i64 x2.2.2.1)), (AV.dat (D.int IntKind.i64 x2.2.2.2.1)), (AV.dat (D.str x2.2.2.2.2.1)), (AV.dat (D.int IntKind.i64 x2.2.2.2.2.2.1)), (AV.dat x2.2.2.2.2.2.2.1)]), (AV.agg [(AV.dat (D.int IntKind.i64 x3.1)), (AV.dat (D.int IntKind.i64 x3.2.1)), (AV.dat (D.int IntKind.i64 x3.2.2.1)), (AV.dat (D.int IntKind.i64 x3.2.2.2.1)), (AV.dat (D.str x3.2.2.2.2.1)), (AV.dat (D.int IntKind.i64 x3.2.2.2.2.2.1)), (AV.dat x3.2.2.2.2.2.2.1)])] [])) fun x6 =>
          (rAsk (!x6)
           (some ((AV.dat (D.bool false)), []))
           (rAsk (x2.2.2.2.2.2.2.2.1 != x3.2.2.2.2.2.2.2.1)
            (some ((AV.dat (D.bool false)), []))
            (rAsk (x2.2.2.2.2.2.2.2.2 != x3.2.2.2.2.2.2.2.2)
             (some ((AV.dat (D.bool false)), []))
             (rGet (fnS (fun (b : Bool) => ((AV.dat (D.bool b)), [])) (P29 [(AV.dat (D.list LK.any 7 x4)), (AV.dat (D.list LK.any 7 x5))] [])) fun x7 =>
              (rAsk (!x7)
               (some ((AV.dat (D.bool false)), []))
               (rAsk (Option.isSome (fnS (fun (xs : Row) => ((AV.tup [(AV.dat (D.list LK.any 1 xs)), (AV.dat (D.int IntKind.i64 (0 : Int)))]), [])) (P30 [(AV.dat (D.list LK.any 7 x4))] [])))
                (rGet (fnS (fun (xs : Row) => ((AV.tup [(AV.dat (D.list LK.any 1 xs)), (AV.dat (D.int IntKind.i64 (0 : Int)))]), [])) (P30 [(AV.dat (D.list LK.any 7 x4))] [])) fun x8 =>
                 (rGet (rowBytes x8) fun x9 =>
                  (rGet (rowBytes xs) fun x10 =>
                   (rAsk ((ByteArray.toList (ByteArray.mk (List.toArray x9))) == (ByteArray.toList (ByteArray.mk (List.toArray x10))))
                    (rGet (fnS (fun (x : Unit) => ((AV.dat (D.bool true)), [])) (P18 [] [])) fun x11 =>
                     (some ((AV.dat (D.bool true)), []))
                    )
                    (some ((AV.dat (D.bool false)), []))
                   )
                  )
                 )
                )
                (rGet (fnS (fun (e : Int) => ((AV.tup [(AV.dat (D.list LK.nil 0 ([] : Row))), (AV.dat (D.int IntKind.i64 e))]), [])) (P30 [(AV.dat (D.list LK.any 7 x4))] [])) fun x12 =>
                 (rGet (rowBytes xs) fun x13 =>
                  (rAsk ([] == (ByteArray.toList (ByteArray.mk (List.toArray x13))))
                   (rAsk (x12 == (0 : Int))
                    (rGet (fnS (fun (x : Unit) => ((AV.dat (D.bool true)), [])) (P18 [] [])) fun x14 =>
                     (some ((AV.dat (D.bool true)), []))
                    )
                    (some ((AV.dat (D.bool false)), []))
                   )
                   (some ((AV.dat (D.bool false)), []))
                  )
                 )
                )
               )
              )
             )
            )
           )
          )
         )
        )
        (rGet (fnS (fun (e : Int) => ((AV.tup [(AV.dat (D.list LK.nil 0 ([] : Row))), (AV.dat (D.int IntKind.i64 e))]), [])) (P28 [(AV.dat (D.list k 1 xs))] [])) fun x15 =>
         (rGet (fnS (fun (b : Bool) => ((AV.dat (D.bool b)), [])) (P22 [(AV.agg [(AV.dat (D.int IntKind.i64 x2.1)), (AV.dat (D.int IntKind.i64 x2.2.1)), (AV.dat (D.int IntKind.i64 x2.2.2.1)), (AV.dat (D.int IntKind.i64 x2.2.2.2.1)), (AV.dat (D.str x2.2.2.2.2.1)), (AV.dat (D.int IntKind.i64 x2.2.2.2.2.2.1)), (AV.dat x2.2.2.2.2.2.2.1)]), (AV.agg [(AV.dat (D.int IntKind.i64 x3.1)), (AV.dat (D.int IntKind.i64 x3.2.1)), (AV.dat (D.int IntKind.i64 x3.2.2.1)), (AV.dat (D.int IntKind.i64 x3.2.2.2.1)), (AV.dat (D.str x3.2.2.2.2.1)), (AV.dat (D.int IntKind.i64 x3.2.2.2.2.2.1)), (AV.dat x3.2.2.2.2.2.2.1)])] [])) fun x16 =>
          (rAsk (!x16)
           (some ((AV.dat (D.bool false)), []))
           (rAsk (x2.2.2.2.2.2.2.2.1 != x3.2.2.2.2.2.2.2.1)
            (some ((AV.dat (D.bool false)), []))
            (rAsk (x2.2.2.2.2.2.2.2.2 != x3.2.2.2.2.2.2.2.2)
             (some ((AV.dat (D.bool false)), []))
             (rGet (fnS (fun (b : Bool) => ((AV.dat (D.bool b)), [])) (P29 [(AV.dat (D.list LK.any 7 x4)), (AV.dat (D.list LK.nil 0 ([] : Row)))] [])) fun x17 =>
              (rAsk (!x17)
               (some ((AV.dat (D.bool false)), []))
               (rAsk ((0 : Int) != x15)
                (some ((AV.dat (D.bool false)), []))
                (rAsk (Option.isSome (fnS (fun (xs : Row) => ((AV.tup [(AV.dat (D.list LK.any 1 xs)), (AV.dat (D.int IntKind.i64 (0 : Int)))]), [])) (P30 [(AV.dat (D.list LK.any 7 x4))] [])))
                 (rGet (fnS (fun (xs : Row) => ((AV.tup [(AV.dat (D.list LK.any 1 xs)), (AV.dat (D.int IntKind.i64 (0 : Int)))]), [])) (P30 [(AV.dat (D.list LK.any 7 x4))] [])) fun x18 =>
                  (rAsk (x15 != (0 : Int))
                   (rGet (fnS (fun (x : Unit) => ((AV.dat (D.bool true)), [])) (P18 [] [])) fun x19 =>
                    (some ((AV.dat (D.bool true)), []))
                   )
                   (rGet (rowBytes x18) fun x20 =>
                    (rGet (rowBytes xs) fun x21 =>
                     (rAsk ((ByteArray.toList (ByteArray.mk (List.toArray x20))) == (ByteArray.toList (ByteArray.mk (List.toArray x21))))
                      (rGet (fnS (fun (x : Unit) => ((AV.dat (D.bool true)), [])) (P18 [] [])) fun x22 =>
                       (some ((AV.dat (D.bool true)), []))
                      )
                      (some ((AV.dat (D.bool false)), []))
                     )
                    )
                   )
                  )
                 )
                 (rGet (fnS (fun (e : Int) => ((AV.tup [(AV.dat (D.list LK.nil 0 ([] : Row))), (AV.dat (D.int IntKind.i64 e))]), [])) (P30 [(AV.dat (D.list LK.any 7 x4))] [])) fun x23 =>
                  (rAsk (x15 != (0 : Int))
                   (rGet (fnS (fun (x : Unit) => ((AV.dat (D.bool true)), [])) (P18 [] [])) fun x24 =>
                    (some ((AV.dat (D.bool true)), []))
                   )
                   (rGet (rowBytes xs) fun x25 =>
                    (rAsk ([] == (ByteArray.toList (ByteArray.mk (List.toArray x25))))
                     (rAsk (x23 == (0 : Int))
                      (rGet (fnS (fun (x : Unit) => ((AV.dat (D.bool true)), [])) (P18 [] [])) fun x26 =>
                       (some ((AV.dat (D.bool true)), []))
                      )
                      (some ((AV.dat (D.bool false)), []))
                     )
                     (some ((AV.dat (D.bool false)), []))
                    )
                   )
                  )
                 )
                )
               )
              )
             )
            )
           )
          )
         )
        )
       )
      )
      (rGet (fnS (fun (e : Int) => ((AV.tup [(AV.dat (D.list LK.nil 0 ([] : Row))), (AV.dat (D.int IntKind.i64 e))]), [])) (P27 [(AV.dat (D.list k 1 xs))] [])) fun x27 =>
       (rAsk (Option.isSome (fnS (fun (ys : Row) => ((AV.tup [(AV.dat (D.list LK.any 7 ys)), (AV.dat (D.int IntKind.i64 (0 : Int)))]), [])) (P28 [(AV.dat (D.list k 1 xs))] [])))
        (rGet (fnS (fun (ys : Row) => ((AV.tup [(AV.dat (D.list LK.any 7 ys)), (AV.dat (D.int IntKind.i64 (0 : Int)))]), [])) (P28 [(AV.dat (D.list k 1 xs))] [])) fun x28 =>
         (rGet (fnS (fun (b : Bool) => ((AV.dat (D.bool b)), [])) (P22 [(AV.agg [(AV.dat (D.int IntKind.i64 x2.1)), (AV.dat (D.int IntKind.i64 x2.2.1)), (AV.dat (D.int IntKind.i64 x2.2.2.1)), (AV.dat (D.int IntKind.i64 x2.2.2.2.1)), (AV.dat (D.str x2.2.2.2.2.1)), (AV.dat (D.int IntKind.i64 x2.2.2.2.2.2.1)), (AV.dat x2.2.2.2.2.2.2.1)]), (AV.agg [(AV.dat (D.int IntKind.i64 x3.1)), (AV.dat (D.int IntKind.i64 x3.2.1)), (AV.dat (D.int IntKind.i64 x3.2.2.1)), (AV.dat (D.int IntKind.i64 x3.2.2.2.1)), (AV.dat (D.str x3.2.2.2.2.1)), (AV.dat (D.int IntKind.i64 x3.2.2.2.2.2.1)), (AV.dat x3.2.2.2.2.2.2.1)])] [])) fun x29 =>
          (rAsk (!x29)
           (some ((AV.dat (D.bool false)), []))
           (rAsk (x2.2.2.2.2.2.2.2.1 != x3.2.2.2.2.2.2.2.1)
            (some ((AV.dat (D.bool false)), []))
            (rAsk (x2.2.2.2.2.2.2.2.2 != x3.2.2.2.2.2.2.2.2)
             (some ((AV.dat (D.bool false)), []))
             (rGet (fnS (fun (b : Bool) => ((AV.dat (D.bool b)), [])) (P29 [(AV.dat (D.list LK.nil 0 ([] : Row))), (AV.dat (D.list LK.any 7 x28))] [])) fun x30 =>
              (rAsk (!x30)
               (some ((AV.dat (D.bool false)), []))
               (rAsk (x27 != (0 : Int))
                (some ((AV.dat (D.bool false)), []))
                (rAsk (Option.isSome (fnS (fun (xs : Row) => ((AV.tup [(AV.dat (D.list LK.any 1 xs)), (AV.dat (D.int IntKind.i64 (0 : Int)))]), [])) (P30 [(AV.dat (D.list LK.nil 0 ([] : Row)))] [])))
                 (rGet (fnS (fun (xs : Row) => ((AV.tup [(AV.dat (D.list LK.any 1 xs)), (AV.dat (D.int IntKind.i64 (0 : Int)))]), [])) (P30 [(AV.dat (D.list LK.nil 0 ([] : Row)))] [])) fun x31 =>
                  (rGet (rowBytes x31) fun x32 =>
                   (rGet (rowBytes xs) fun x33 =>
                    (rAsk ((ByteArray.toList (ByteArray.mk (List.toArray x32))) == (ByteArray.toList (ByteArray.mk (List.toArray x33))))
                     (rGet (fnS (fun (x : Unit) => ((AV.dat (D.bool true)), [])) (P18 [] [])) fun x34 =>
                      (some ((AV.dat (D.bool true)), []))
                     )
                     (some ((AV.dat (D.bool false)), []))
                    )
                   )
                  )
                 )
                 (rGet (fnS (fun (e : Int) => ((AV.tup [(AV.dat (D.list LK.nil 0 ([] : Row))), (AV.dat (D.int IntKind.i64 e))]), [])) (P30 [(AV.dat (D.list LK.nil 0 ([] : Row)))] [])) fun x35 =>
                  (rGet (rowBytes xs) fun x36 =>
                   (rAsk ([] == (ByteArray.toList (ByteArray.mk (List.toArray x36))))
                    (rAsk (x35 == (0 : Int))
                     (rGet (fnS (fun (x : Unit) => ((AV.dat (D.bool true)), [])) (P18 [] [])) fun x37 =>
                      (some ((AV.dat (D.bool true)), []))
                     )
                     (some ((AV.dat (D.bool false)), []))
                    )
                    (some ((AV.dat (D.bool false)), []))
                   )
                  )
                 )
                )
               )
              )
             )
            )
           )
          )
         )
        )
        (rGet (fnS (fun (e : Int) => ((AV.tup [(AV.dat (D.list LK.nil 0 ([] : Row))), (AV.dat (D.int IntKind.i64 e))]), [])) (P28 [(AV.dat (D.list k 1 xs))] [])) fun x38 =>
         (rGet (fnS (fun (b : Bool) => ((AV.dat (D.bool b)), [])) (P22 [(AV.agg [(AV.dat (D.int IntKind.i64 x2.1)), (AV.dat (D.int IntKind.i64 x2.2.1)), (AV.dat (D.int IntKind.i64 x2.2.2.1)), (AV.dat (D.int IntKind.i64 x2.2.2.2.1)), (AV.dat (D.str x2.2.2.2.2.1)), (AV.dat (D.int IntKind.i64 x2.2.2.2.2.2.1)), (AV.dat x2.2.2.2.2.2.2.1)]), (AV.agg [(AV.dat (D.int IntKind.i64 x3.1)), (AV.dat (D.int IntKind.i64 x3.2.1)), (AV.dat (D.int IntKind.i64 x3.2.2.1)), (AV.dat (D.int IntKind.i64 x3.2.2.2.1)), (AV.dat (D.str x3.2.2.2.2.1)), (AV.dat (D.int IntKind.i64 x3.2.2.2.2.2.1)), (AV.dat x3.2.2.2.2.2.2.1)])] [])) fun x39 =>
          (rAsk (!x39)
           (some ((AV.dat (D.bool false)), []))
           (rAsk (x2.2.2.2.2.2.2.2.1 != x3.2.2.2.2.2.2.2.1)
            (some ((AV.dat (D.bool false)), []))
            (rAsk (x2.2.2.2.2.2.2.2.2 != x3.2.2.2.2.2.2.2.2)
             (some ((AV.dat (D.bool false)), []))
             (rGet (fnS (fun (b : Bool) => ((AV.dat (D.bool b)), [])) (P29 [(AV.dat (D.list LK.nil 0 ([] : Row))), (AV.dat (D.list LK.nil 0 ([] : Row)))] [])) fun x40 =>
              (rAsk (!x40)
               (some ((AV.dat (D.bool false)), []))
               (rAsk (x27 != x38)
                (some ((AV.dat (D.bool false)), []))
                (rAsk (Option.isSome (fnS (fun (xs : Row) => ((AV.tup [(AV.dat (D.list LK.any 1 xs)), (AV.dat (D.int IntKind.i64 (0 : Int)))]), [])) (P30 [(AV.dat (D.list LK.nil 0 ([] : Row)))] [])))
                 (rGet (fnS (fun (xs : Row) => ((AV.tup [(AV.dat (D.list LK.any 1 xs)), (AV.dat (D.int IntKind.i64 (0 : Int)))]), [])) (P30 [(AV.dat (D.list LK.nil 0 ([] : Row)))] [])) fun x41 =>
                  (rAsk (x38 != (0 : Int))
                   (rGet (fnS (fun (x : Unit) => ((AV.dat (D.bool true)), [])) (P18 [] [])) fun x42 =>
                    (some ((AV.dat (D.bool true)), []))
                   )
                   (rGet (rowBytes x41) fun x43 =>
                    (rGet (rowBytes xs) fun x44 =>
                     (rAsk ((ByteArray.toList (ByteArray.mk (List.toArray x43))) == (ByteArray.toList (ByteArray.mk (List.toArray x44))))
                      (rGet (fnS (fun (x : Unit) => ((AV.dat (D.bool true)), [])) (P18 [] [])) fun x45 =>
                       (some ((AV.dat (D.bool true)), []))
                      )
                      (some ((AV.dat (D.bool false)), []))
                     )
                    )
                   )
                  )
                 )
                 (rGet (fnS (fun (e : Int) => ((AV.tup [(AV.dat (D.list LK.nil 0 ([] : Row))), (AV.dat (D.int IntKind.i64 e))]), [])) (P30 [(AV.dat (D.list LK.nil 0 ([] : Row)))] [])) fun x46 =>
                  (rAsk (x38 != (0 : Int))
                   (rGet (fnS (fun (x : Unit) => ((AV.dat (D.bool true)), [])) (P18 [] [])) fun x47 =>
                    (some ((AV.dat (D.bool true)), []))
                   )
                   (rGet (rowBytes xs) fun x48 =>
                    (rAsk ([] == (ByteArray.toList (ByteArray.mk (List.toArray x48))))
                     (rAsk (x46 == (0 : Int))
                      (rGet (fnS (fun (x : Unit) => ((AV.dat (D.bool true)), [])) (P18 [] [])) fun x49 =>
                       (some ((AV.dat (D.bool true)), []))
                      )
                      (some ((AV.dat (D.bool false)), []))
                     )
                     (some ((AV.dat (D.bool false)), []))
                    )
                   )
                  )
                 )
                )
               )
              )
             )
            )
           )
          )
         )
        )
       )
      )
     )
    )
   )
  )
  := by kernel_rfl

theorem getS_zero {l : List UInt8} (h : (getS l).2.2 ≠ 0) : (getS l).1 = Stp.zero := by
  unfold getS at h ⊢
  simp only at h ⊢
  split
  · rfl
  · rename_i h1
    rw [if_neg h1] at h
    split
    · rfl
    · rename_i h2
      rw [if_neg h2] at h
      exact absurd rfl h

theorem getS_keep {l : List UInt8} : (getS l).1.keep.length ≤ 255 := by
  by_cases h : (getS l).2.2 = 0
  · exact (getS_inv h).1.2.1
  · rw [getS_zero h]
    simp [Stp.zero]

/-! ### the callees -/
def resP (l : List UInt8) (G : List Ent) (o : Option (AV × List Ent)) : Prop :=
  ((readL l).2 = 0 ∧ (readL l).1 = [] ∧ o = some (o30n G 0)) ∨ ((readL l).2 = 0 ∧ (readL l).1 ≠ [] ∧ ∃ ys, SR (readL l).1 ys ∧ o = some (o28y G ys)) ∨ ((readL l).2 ≠ 0 ∧ o = some (o30n G (readL l).2))

theorem p27 {k : LK} {sz : Nat} {l : List UInt8} {G : List Ent} (hsz : l ≠ [] → sz = 1) (hl : l.length ≤ 1000000) : resP l G (P27 [.dat (.list k sz (bRow l))] G) := by
  rcases R27_run (k := k) hsz hl with ⟨h1, h2, G', h3⟩ | ⟨h1, h2, ys, G', hs, h3⟩ | ⟨h1, G', h3⟩
  · exact .inl ⟨h1, h2, pureS_eq rfl h3 rfl⟩
  · exact .inr (.inl ⟨h1, h2, ys, hs, pureS_eq rfl h3 rfl⟩)
  · exact .inr (.inr ⟨h1, pureS_eq rfl h3 rfl⟩)
theorem p28 {k : LK} {l : List UInt8} {G : List Ent} (hl : l.length ≤ 1000000) : resP l G (P28 [.dat (.list k 1 (bRow l))] G) := by
  rcases R28_run (k := k) hl with ⟨h1, h2, G', h3⟩ | ⟨h1, h2, ys, G', hs, h3⟩ | ⟨h1, G', h3⟩
  · exact .inl ⟨h1, h2, pureS_eq rfl h3 rfl⟩
  · exact .inr (.inl ⟨h1, h2, ys, hs, pureS_eq rfl h3 rfl⟩)
  · exact .inr (.inr ⟨h1, pureS_eq rfl h3 rfl⟩)
theorem p29 {sz sz' : Nat} {k k' : LK} {xs ys : Row} {G : List Ent} {ss : List Stp} (hsx : SR ss xs) (hsy : SR ss ys) (hz : ss ≠ [] → sz = 7) (hz' : ss ≠ [] → sz' = 7) (hn : ss.length ≤ 1000) (hk : ∀ s ∈ ss, s.keep.length ≤ maxLen) :
    P29 [.dat (.list k sz xs), .dat (.list k' sz' ys)] G = some (oB G true) := pureS_eq rfl (f29_run (G := []) hsx hsy hz hz' hn hk) rfl
theorem p30y {sz : Nat} {k : LK} {xs : Row} {G : List Ent} {ss : List Stp} (hsr : SR ss xs) (hz : ss ≠ [] → sz = 7) (h : ss.length ≤ 300) (hne : ss ≠ []) (hok : ∀ s ∈ ss, okT s) :
    P30 [.dat (.list k sz xs)] G = some (o30y G (bRow (allT ss))) := pureS_eq rfl ((f30_run (G := []) (k := k) hsr hz).2.2.2 h hne hok) rfl
theorem p30z {sz : Nat} {k : LK} {G : List Ent} : P30 [.dat (.list k sz [])] G = some (o30n G 0) := pureS_eq rfl ((f30_run (G := []) (k := k) (sz := sz) (ss := []) SR.nil (fun h => absurd rfl h)).2.2.1 rfl) rfl
theorem p30e {sz : Nat} {k : LK} {xs : Row} {G : List Ent} {ss : List Stp} (hsr : SR ss xs) (hz : ss ≠ [] → sz = 7) (h : ss.length ≤ 300) (hok : ¬ ∀ s ∈ ss, okT s) :
    P30 [.dat (.list k sz xs)] G = some (o30n G 6) := pureS_eq rfl ((f30_run (G := []) (k := k) hsr hz).2.1 h hok) rfl
theorem p30l {sz : Nat} {k : LK} {xs : Row} {G : List Ent} {ss : List Stp} (hsr : SR ss xs) (hz : ss ≠ [] → sz = 7) (h : 300 < ss.length) :
    P30 [.dat (.list k sz xs)] G = some (o30n G 8) := pureS_eq rfl ((f30_run (G := []) (k := k) hsr hz).1 h) rfl
theorem p31 {k : LK} {xs : Row} {G : List Ent} {ss : List Stp} (hsr : SR1 ss xs) : P31 [.dat (.list k 7 xs)] G = some (o31 G (⟨(allR ss).1.toArray⟩, (allR ss).2)) :=
  pureS_eq rfl (f31_run (G := []) (k := k) hsr) rfl

theorem readL_ok {l : List UInt8} (h : (readL l).2 = 0) : (∀ s ∈ (readL l).1, okT s) ∧ allT (readL l).1 = l ∧ (readL l).1.length ≤ 300 := by
  obtain ⟨ts, h1, h2, h3, h4⟩ := readF_all l.length l [] (Nat.le_refl _) (by simp) h
  have e : (readL l).1 = ts := by
    have : (readF l.length l []).1 = ts := by simpa using h1
    exact this
  rw [e]
  exact ⟨h2, h3, by simpa using h4⟩

theorem no28 {G : List Ent} {e : Int} : ∀ x, o28y G x ≠ o30n G e := fun x h => by simp [o28y, o30n] at h
theorem no30 {G : List Ent} {e : Int} : ∀ x, o30y G x ≠ o30n G e := fun x h => by simp [o30y, o30n] at h
theorem okT_keep {s : Stp} (h : okT s) : s.keep.length ≤ maxLen := by
  have := h.2.1
  unfold maxLen
  omega

attribute [local irreducible] fnS loS P18 P22 P23 P26 P27 P28 P29 P30

set_option maxHeartbeats 2000000 in
theorem f6_run {k : LK} {l : List UInt8} : ∃ G', (f6t k (bRow l)).run = some (.dat (.bool true), G') := by
  refine ⟨[], ?_⟩
  rw [← Tr.ev_run, f6t_eq]
  have e18 := fnS_eq (out := oT []) oT_inj p18
  by_cases c0 : l.length ≤ 3000
  case neg => exact aT (by rw [bRow_length, decide_eq_true_eq]; omega) (gStep e18 rfl)
  refine aF (by rw [bRow_length, decide_eq_false_iff_not]; omega) ?_
  obtain ⟨d1, hd1, e23⟩ := p23 (k := k) (l := l) (G := []) (by omega)
  obtain ⟨d2, hd2, e26⟩ := p26 (k := k) (l := l) (G := []) (by omega)
  refine gStep (fnS_eq (out := o23 []) o23_inj e23) (gStep (fnS_eq (out := o23 []) o23_inj e26) ?_)
  have hkl : (getS l).1.keep.length ≤ maxLen := by have := getS_keep (l := l); unfold maxLen; omega
  obtain ⟨kk1, z1, rfl, hz1⟩ := hd1.kd
  obtain ⟨kk2, z2, rfl, hz2⟩ := hd2.kd
  have e22 := p22z (k := (getS l).1.kind) (nd := (getS l).1.node) (at' := (getS l).1.at') (n := (getS l).1.n) (s := (getS l).1.data) (p := (getS l).1.stop) (kk := kk1) (sz := z1) (a := (getS l).1.keep) (k' := (getS l).1.kind) (nd' := (getS l).1.node) (at'' := (getS l).1.at') (n' := (getS l).1.n) (s' := (getS l).1.data) (p' := (getS l).1.stop) (kk' := kk2) (sz' := z2) (b := (getS l).1.keep) (G := []) hkl hz1 hz2
  rw [sameS_self] at e22
  rcases p27 (k := k) (sz := 1) (l := l) (G := []) (fun _ => rfl) (by omega) with ⟨h1, h2, e27⟩ | ⟨h1, h2, ys, hys, e27⟩ | ⟨h1, e27⟩
  · rcases p28 (k := k) (l := l) (G := []) (by omega) with ⟨_, _, e28⟩ | ⟨_, h3, _⟩ | ⟨h3, _⟩
    · have hl0 : l = [] := by rw [← (readL_ok h1).2.1, h2]; rfl
      have e29 := p29 (sz := 0) (sz' := 0) (k := .nil) (k' := .nil) (G := []) SR.nil SR.nil (fun h => absurd rfl h) (fun h => absurd rfl h) (by simp) (by simp)
      have e30 := p30z (sz := 0) (k := .nil) (G := [])
      refine aF (fnS_no e27 no28) (gStep (fnS_eq (out := o30n []) o30n_inj e27) (aF (fnS_no e28 no28) (gStep (fnS_eq (out := o30n []) o30n_inj e28) ?_)))
      refine gStep (fnS_eq (out := oB []) oB_inj e22) (aF rfl (aF (by simp) (aF (by simp) (gStep (fnS_eq (out := oB []) oB_inj e29) (aF rfl (aF (by simp) ?_))))))
      refine aF (fnS_no e30 no30) (gStep (fnS_eq (out := o30n []) o30n_inj e30) (aF (by simp) (gStep (rowBytes_bRow l) (aT (by rw [hl0, ByteArray.toList_eq]; rfl) (aT rfl (gStep e18 rfl))))))
    · exact absurd h2 h3
    · exact absurd h1 h3
  · rcases p28 (k := k) (l := l) (G := []) (by omega) with ⟨_, h3, _⟩ | ⟨_, _, zs, hzs, e28⟩ | ⟨h3, _⟩
    · exact absurd h3 h2
    · obtain ⟨hok, hall, hlen⟩ := readL_ok h1
      have e29 := p29 (sz := 7) (sz' := 7) (k := .any) (k' := .any) (G := []) hys hzs (fun _ => rfl) (fun _ => rfl) (by omega) (fun s hs => okT_keep (hok s hs))
      have e30 := p30y (sz := 7) (k := .any) (G := []) hys (fun _ => rfl) hlen h2 hok
      rw [hall] at e30
      refine aT (fnS_yes (o1 := o28y []) o28y_inj e27) (gStep (fnS_eq (out := o28y []) o28y_inj e27) (aT (fnS_yes (o1 := o28y []) o28y_inj e28) (gStep (fnS_eq (out := o28y []) o28y_inj e28) ?_)))
      refine gStep (fnS_eq (out := oB []) oB_inj e22) (aF rfl (aF (by simp) (aF (by simp) (gStep (fnS_eq (out := oB []) oB_inj e29) (aF rfl ?_)))))
      refine aT (fnS_yes (o1 := o30y []) o30y_inj e30) (gStep (fnS_eq (out := o30y []) o30y_inj e30) (gStep (rowBytes_bRow l) (gStep (rowBytes_bRow l) (aT (by simp) (gStep e18 rfl)))))
    · exact absurd h1 h3
  · rcases p28 (k := k) (l := l) (G := []) (by omega) with ⟨h3, _⟩ | ⟨h3, _⟩ | ⟨_, e28⟩
    · exact absurd h3 h1
    · exact absurd h3 h1
    · have e29 := p29 (sz := 0) (sz' := 0) (k := .nil) (k' := .nil) (G := []) SR.nil SR.nil (fun h => absurd rfl h) (fun h => absurd rfl h) (by simp) (by simp)
      have e30 := p30z (sz := 0) (k := .nil) (G := [])
      refine aF (fnS_no e27 no28) (gStep (fnS_eq (out := o30n []) o30n_inj e27) (aF (fnS_no e28 no28) (gStep (fnS_eq (out := o30n []) o30n_inj e28) ?_)))
      refine gStep (fnS_eq (out := oB []) oB_inj e22) (aF rfl (aF (by simp) (aF (by simp) (gStep (fnS_eq (out := oB []) oB_inj e29) (aF rfl (aF (by simp) ?_))))))
      exact aF (fnS_no e30 no30) (gStep (fnS_eq (out := o30n []) o30n_inj e30) (aT (by simpa using h1) (gStep e18 rfl)))

end Go.Eng
end

/- ScriptAlls answers true at any steps. -/
section
namespace Go.Eng
open Go
set_option maxRecDepth 100000
set_option linter.unusedSimpArgs false

def HS7 (f : Nat) : Nat → List Nat := match f with
  | 7 => hOfS [(4, [0, 3]), (1000004, [0, 2])]
  | f => HSg f
noncomputable def inv7 (k : LK) (xs : Row) (i : Int) : St := ⟨mkT 0 74 [(0, .dat (.list k 7 xs)), (3, .dat (.int .i64 i))], ⟨[], [], 0⟩⟩
noncomputable def rk7 (k : LK) (xs : Row) (i : Int) : Tr (Ex × St) := tround TT t6 noLo (HS7 7) lp7 (inv7 k xs i)
def out7y (k : LK) (xs : Row) (_ : Unit) : Ex × St := (.exit 0, ⟨mkT 0 74 [(0, .dat (.list k 7 xs))], ⟨[], [], 0⟩⟩)
def out7n (k : LK) (xs : Row) (_ : Unit) : Ex × St := (.ret, ⟨mkT 0 74 [(0, .dat (.list k 7 xs)), (2, .dat (.bool true))], ⟨[], [], 0⟩⟩)
def arg7 (st : St) : LK × Row := match st.tmps.getD 0 .dead with
  | .dat (.list k _ xs) => (k, xs)
  | _ => (.nil, [])
noncomputable def lo7 (n : Nat) (st : St) : Tr (Ex × St) := match n with
  | 4 => tlo2 TT t6.runs (HS7 7) lp7 (out7y (arg7 st).1 (arg7 st).2) (out7n (arg7 st).1 (arg7 st).2) st
  | _ => .fail
noncomputable def f7t (k : LK) (xs : Row) : Tr (AV × List Ent) := tfn TT t6 lo7 Go.Proofs.Try.f7 [.dat (.list k 7 xs)] []
theorem rk7_eq (k : LK) (xs : Row) (i : Int) : (rk7 k xs i).ev =
  (rAsk (decide (i < (((List.length xs) : Nat) : Int)))
   (rAsk (true && ((decide ((0 : Int) ≤ i)) && (decide (i < (((List.length xs) : Nat) : Int)))))
    (rGet xs[(Int.toNat i)]? fun x1 =>
     (rGet (List.head? (List.drop 6 x1)) fun x2 =>
      (rGet (D.list? x2) fun x3 =>
       (rAsk (decide ((((List.length x3.2.2) : Nat) : Int) > (40 : Int)))
        (rGet (fnS (fun (x : Unit) => ((AV.dat (D.bool true)), [])) (P18 [] [])) fun x4 =>
         (some (Ex.ret, (St.mk (mkT 0 74 [(0, (AV.dat (D.list k 7 xs))), (2, (AV.dat (D.bool true)))]) (Mem.mk [] [] 0))))
        )
        (rAsk (true && ((decide ((0 : Int) ≤ i)) && (decide (i < (((List.length xs) : Nat) : Int)))))
         (rGet xs[(Int.toNat i)]? fun x5 =>
          (rGet (List.head? (List.drop 4 x5)) fun x6 =>
           (rGet (D.str? x6) fun x7 =>
            (rAsk (decide ((((ByteArray.size x7) : Nat) : Int) > (200 : Int)))
             (rGet (fnS (fun (x : Unit) => ((AV.dat (D.bool true)), [])) (P18 [] [])) fun x8 =>
              (some (Ex.ret, (St.mk (mkT 0 74 [(0, (AV.dat (D.list k 7 xs))), (2, (AV.dat (D.bool true)))]) (Mem.mk [] [] 0))))
             )
             (some (Ex.norm, (St.mk (mkT 0 74 [(0, (AV.dat (D.list k 7 xs))), (3, (AV.dat (D.int IntKind.i64 (IntKind.wrap IntKind.i64 (i + (1 : Int))))))]) (Mem.mk [] [] 0))))
            )
           )
          )
         )
         none
        )
       )
      )
     )
    )
    none
   )
   (some ((Ex.exit 0), (St.mk (mkT 0 74 [(0, (AV.dat (D.list k 7 xs)))]) (Mem.mk [] [] 0))))
  )
  := by kernel_rfl

theorem f7t_eq (k : LK) (xs : Row) : (f7t k xs).ev =
  (rAsk (decide ((((List.length xs) : Nat) : Int) > (310 : Int)))
   (rGet (fnS (fun (x : Unit) => ((AV.dat (D.bool true)), [])) (P18 [] [])) fun x1 =>
    (some ((AV.dat (D.bool true)), []))
   )
   (rAsk (Option.isSome (loS TT (TOrc.runs t6) (HS7 7) lp7 (out7y k xs) (St.mk (mkT 0 74 [(0, (AV.dat (D.list k 7 xs))), (3, (AV.dat (D.int IntKind.i64 (0 : Int))))]) (Mem.mk [] [] 0))))
    (rGet (loS TT (TOrc.runs t6) (HS7 7) lp7 (out7y k xs) (St.mk (mkT 0 74 [(0, (AV.dat (D.list k 7 xs))), (3, (AV.dat (D.int IntKind.i64 (0 : Int))))]) (Mem.mk [] [] 0))) fun x2 =>
     (rAsk (Option.isSome (fnS (fun (xs : Row) => ((AV.tup [(AV.dat (D.list LK.any 1 xs)), (AV.dat (D.int IntKind.i64 (0 : Int)))]), [])) (P30 [(AV.dat (D.list k 7 xs))] [])))
      (rGet (fnS (fun (xs : Row) => ((AV.tup [(AV.dat (D.list LK.any 1 xs)), (AV.dat (D.int IntKind.i64 (0 : Int)))]), [])) (P30 [(AV.dat (D.list k 7 xs))] [])) fun x3 =>
       (rGet (fnS (fun (p : ByteArray × Int) => ((AV.tup [(AV.dat (D.str p.1)), (AV.dat (D.int IntKind.i64 p.2))]), [])) (P31 [(AV.dat (D.list k 7 xs))] [])) fun x4 =>
        (rGet (rowBytes x3) fun x5 =>
         (rAsk (!((ByteArray.toList (ByteArray.mk (List.toArray x5))) == (ByteArray.toList x4.1)))
          (some ((AV.dat (D.bool false)), []))
          (rAsk ((0 : Int) != x4.2)
           (some ((AV.dat (D.bool false)), []))
           (rAsk (x4.2 != (0 : Int))
            (rGet (fnS (fun (x : Unit) => ((AV.dat (D.bool true)), [])) (P18 [] [])) fun x6 =>
             (some ((AV.dat (D.bool true)), []))
            )
            (rAsk (Option.isSome (fnS (fun (ys : Row) => ((AV.tup [(AV.dat (D.list LK.any 7 ys)), (AV.dat (D.int IntKind.i64 (0 : Int)))]), [])) (P27 [(AV.dat (D.list LK.any 1 x3))] [])))
             (rGet (fnS (fun (ys : Row) => ((AV.tup [(AV.dat (D.list LK.any 7 ys)), (AV.dat (D.int IntKind.i64 (0 : Int)))]), [])) (P27 [(AV.dat (D.list LK.any 1 x3))] [])) fun x7 =>
              (rGet (fnS (fun (b : Bool) => ((AV.dat (D.bool b)), [])) (P29 [(AV.dat (D.list LK.any 7 x7)), (AV.dat (D.list k 7 xs))] [])) fun x8 =>
               (rAsk x8
                (rGet (fnS (fun (x : Unit) => ((AV.dat (D.bool true)), [])) (P18 [] [])) fun x9 =>
                 (some ((AV.dat (D.bool true)), []))
                )
                (some ((AV.dat (D.bool false)), []))
               )
              )
             )
             (rGet (fnS (fun (e : Int) => ((AV.tup [(AV.dat (D.list LK.nil 0 ([] : Row))), (AV.dat (D.int IntKind.i64 e))]), [])) (P27 [(AV.dat (D.list LK.any 1 x3))] [])) fun x10 =>
              (rGet (fnS (fun (b : Bool) => ((AV.dat (D.bool b)), [])) (P29 [(AV.dat (D.list LK.nil 0 ([] : Row))), (AV.dat (D.list k 7 xs))] [])) fun x11 =>
               (rAsk x11
                (rAsk (x10 == (0 : Int))
                 (rGet (fnS (fun (x : Unit) => ((AV.dat (D.bool true)), [])) (P18 [] [])) fun x12 =>
                  (some ((AV.dat (D.bool true)), []))
                 )
                 (some ((AV.dat (D.bool false)), []))
                )
                (some ((AV.dat (D.bool false)), []))
               )
              )
             )
            )
           )
          )
         )
        )
       )
      )
      (rGet (fnS (fun (e : Int) => ((AV.tup [(AV.dat (D.list LK.nil 0 ([] : Row))), (AV.dat (D.int IntKind.i64 e))]), [])) (P30 [(AV.dat (D.list k 7 xs))] [])) fun x13 =>
       (rGet (fnS (fun (p : ByteArray × Int) => ((AV.tup [(AV.dat (D.str p.1)), (AV.dat (D.int IntKind.i64 p.2))]), [])) (P31 [(AV.dat (D.list k 7 xs))] [])) fun x14 =>
        (rAsk (!([] == (ByteArray.toList x14.1)))
         (some ((AV.dat (D.bool false)), []))
         (rAsk (x13 != x14.2)
          (some ((AV.dat (D.bool false)), []))
          (rAsk (x14.2 != (0 : Int))
           (rGet (fnS (fun (x : Unit) => ((AV.dat (D.bool true)), [])) (P18 [] [])) fun x15 =>
            (some ((AV.dat (D.bool true)), []))
           )
           (rAsk (Option.isSome (fnS (fun (ys : Row) => ((AV.tup [(AV.dat (D.list LK.any 7 ys)), (AV.dat (D.int IntKind.i64 (0 : Int)))]), [])) (P27 [(AV.dat (D.list LK.nil 0 ([] : Row)))] [])))
            (rGet (fnS (fun (ys : Row) => ((AV.tup [(AV.dat (D.list LK.any 7 ys)), (AV.dat (D.int IntKind.i64 (0 : Int)))]), [])) (P27 [(AV.dat (D.list LK.nil 0 ([] : Row)))] [])) fun x16 =>
             (rGet (fnS (fun (b : Bool) => ((AV.dat (D.bool b)), [])) (P29 [(AV.dat (D.list LK.any 7 x16)), (AV.dat (D.list k 7 xs))] [])) fun x17 =>
              (rAsk x17
               (rGet (fnS (fun (x : Unit) => ((AV.dat (D.bool true)), [])) (P18 [] [])) fun x18 =>
                (some ((AV.dat (D.bool true)), []))
               )
               (some ((AV.dat (D.bool false)), []))
              )
             )
            )
            (rGet (fnS (fun (e : Int) => ((AV.tup [(AV.dat (D.list LK.nil 0 ([] : Row))), (AV.dat (D.int IntKind.i64 e))]), [])) (P27 [(AV.dat (D.list LK.nil 0 ([] : Row)))] [])) fun x19 =>
             (rGet (fnS (fun (b : Bool) => ((AV.dat (D.bool b)), [])) (P29 [(AV.dat (D.list LK.nil 0 ([] : Row))), (AV.dat (D.list k 7 xs))] [])) fun x20 =>
              (rAsk x20
               (rAsk (x19 == (0 : Int))
                (rGet (fnS (fun (x : Unit) => ((AV.dat (D.bool true)), [])) (P18 [] [])) fun x21 =>
                 (some ((AV.dat (D.bool true)), []))
                )
                (some ((AV.dat (D.bool false)), []))
               )
               (some ((AV.dat (D.bool false)), []))
              )
             )
            )
           )
          )
         )
        )
       )
      )
     )
    )
    (rGet (loS TT (TOrc.runs t6) (HS7 7) lp7 (out7n k xs) (St.mk (mkT 0 74 [(0, (AV.dat (D.list k 7 xs))), (3, (AV.dat (D.int IntKind.i64 (0 : Int))))]) (Mem.mk [] [] 0))) fun x22 =>
     (some ((AV.dat (D.bool true)), []))
    )
   )
  )
  := by kernel_rfl

theorem out7y_inj {k : LK} {xs : Row} : ∀ x y, out7y k xs x = out7y k xs y → x = y := fun _ _ _ => rfl
theorem out7n_inj {k : LK} {xs : Row} : ∀ x y, out7n k xs x = out7n k xs y → x = y := fun _ _ _ => rfl
theorem out7_no {k : LK} {xs : Row} : ∀ x, out7y k xs x ≠ out7n k xs () := fun x h => by simp [out7y, out7n] at h

attribute [local irreducible] fnS loS P18 P22 P23 P26 P27 P28 P29 P30 P31

theorem loop7 {k : LK} {xs : Row} : ∀ (ts pre : List Stp), SR1 (pre ++ ts) xs → (pre ++ ts).length ≤ 310 →
    LoopTo TT t6.runs (HS7 7) lp7 (inv7 k xs pre.length) (out7y k xs ()) ∨ LoopTo TT t6.runs (HS7 7) lp7 (inv7 k xs pre.length) (out7n k xs ())
  | [], pre, hsr, hn => by
    refine .inl (LoopTo.last (orc := t6) (lo := noLo) (fun _ _ _ _ h => h) (LoOk2.no _) ?_ (by simp [out7y]))
    show (rk7 k xs pre.length).run = _
    rw [← Tr.ev_run, rk7_eq]
    have hl := hsr.1
    exact aF (by rw [hl]; simp) rfl
  | s :: ts, pre, hsr, hn => by
    have hl := hsr.1
    obtain ⟨kk, hx⟩ := hsr.get rfl
    have hlt : pre.length < xs.length := by rw [hl]; simp
    have hpn : pre.length ≤ 1000 := by simp at hn; omega
    have e18 := fnS_eq (out := oT []) oT_inj p18
    have hx' : xs[Int.toNat (pre.length : Int)]? = some (stpD s (.list kk 1 (tRow s.keep))) := by rw [Int.toNat_natCast]; exact hx
    by_cases h1 : s.keep.length ≤ 40
    case neg =>
      refine .inr (LoopTo.last (orc := t6) (lo := noLo) (fun _ _ _ _ h => h) (LoOk2.no _) ?_ (by simp [out7n]))
      show (rk7 k xs pre.length).run = _
      rw [← Tr.ev_run, rk7_eq]
      exact aT (by simpa using hlt) (aT (by simpa using hlt) (gStep hx' (gStep rfl (gStep (x := (kk, 1, tRow s.keep)) rfl (aT (by rw [tRow_length, decide_eq_true_eq]; omega) (gStep e18 rfl))))))
    by_cases h2 : s.data.size ≤ 200
    case neg =>
      refine .inr (LoopTo.last (orc := t6) (lo := noLo) (fun _ _ _ _ h => h) (LoOk2.no _) ?_ (by simp [out7n]))
      show (rk7 k xs pre.length).run = _
      rw [← Tr.ev_run, rk7_eq]
      exact aT (by simpa using hlt) (aT (by simpa using hlt) (gStep hx' (gStep rfl (gStep (x := (kk, 1, tRow s.keep)) rfl (aF (by rw [tRow_length, decide_eq_false_iff_not]; omega) (aT (by simpa using hlt) (gStep hx' (gStep rfl (gStep (x := s.data) rfl (aT (by rw [decide_eq_true_eq]; omega) (gStep e18 rfl)))))))))))
    have step : (rk7 k xs pre.length).run = some (.norm, inv7 k xs ((pre ++ [s]).length : Nat)) := by
      rw [← Tr.ev_run, rk7_eq]
      refine aT (by simpa using hlt) (aT (by simpa using hlt) (gStep hx' (gStep rfl (gStep (x := (kk, 1, tRow s.keep)) rfl (aF (by rw [tRow_length, decide_eq_false_iff_not]; omega) (aT (by simpa using hlt) (gStep hx' (gStep rfl (gStep (x := s.data) rfl (aF (by rw [decide_eq_false_iff_not]; omega) ?_))))))))))
      rw [wI1 (s := s) hpn]
      rfl
    rcases loop7 (k := k) ts (pre ++ [s]) (by simpa using hsr) (by simpa using hn) with ih | ih
    · exact .inl (LoopTo.more (orc := t6) (lo := noLo) (fun _ _ _ _ h => h) (LoOk2.no _) step ih)
    · exact .inr (LoopTo.more (orc := t6) (lo := noLo) (fun _ _ _ _ h => h) (LoOk2.no _) step ih)

theorem ba_nil : ByteArray.toList ⟨#[]⟩ = [] := by rw [ByteArray.toList_eq]

set_option maxHeartbeats 2000000 in
theorem f7_run {k : LK} {xs : Row} {ss : List Stp} (hsr : SR1 ss xs) : ∃ G', (f7t k xs).run = some (.dat (.bool true), G') := by
  refine ⟨[], ?_⟩
  rw [← Tr.ev_run, f7t_eq]
  have e18 := fnS_eq (out := oT []) oT_inj p18
  have hl := hsr.1
  by_cases c0 : ss.length ≤ 310
  case neg => exact aT (by rw [hl, decide_eq_true_eq]; omega) (gStep e18 rfl)
  refine aF (by rw [hl, decide_eq_false_iff_not]; omega) ?_
  rcases loop7 (k := k) ss [] hsr c0 with hp | hp
  case inr => exact aF (loS_no (o1 := out7y k xs) hp out7_no) (gStep (loS_eq (out := out7n k xs) out7n_inj hp) rfl)
  refine aT (loS_yes (o1 := out7y k xs) out7y_inj hp) (gStep (loS_eq (out := out7y k xs) out7y_inj hp) ?_)
  have e31 := p31 (k := k) (G := []) hsr
  unfold allR at e31
  by_cases h1 : 300 < ss.length
  · have e30 := p30l (k := k) (sz := 7) (G := []) hsr.sr (fun _ => rfl) h1
    rw [if_pos h1] at e31
    exact aF (fnS_no e30 no30) (gStep (fnS_eq (out := o30n []) o30n_inj e30) (gStep (fnS_eq (out := o31 []) o31_inj e31) (aF (by rw [ba_nil]; rfl) (aF (by simp) (aT (by simp) (gStep e18 rfl))))))
  rw [if_neg h1] at e31
  by_cases hok : ∀ s ∈ ss, okT s
  case neg =>
    have e30 := p30e (k := k) (sz := 7) (G := []) hsr.sr (fun _ => rfl) (by omega) hok
    rw [if_neg hok] at e31
    exact aF (fnS_no e30 no30) (gStep (fnS_eq (out := o30n []) o30n_inj e30) (gStep (fnS_eq (out := o31 []) o31_inj e31) (aF (by rw [ba_nil]; rfl) (aF (by simp) (aT (by simp) (gStep e18 rfl))))))
  rw [if_pos hok] at e31
  have hrl : readL (allT ss) = (ss, 0) := by
    have := readF_put ss (allT ss).length [] (Nat.le_refl _) (by simp; omega) hok
    rw [List.nil_append] at this
    exact this
  have hlen : (allT ss).length ≤ 1000000 := by
    have : ∀ ts : List Stp, (∀ s ∈ ts, okT s) → (allT ts).length ≤ 400 * ts.length := by
      intro ts
      induction ts with
      | nil => intro _; simp [allT]
      | cons s ts ih =>
        intro h
        have h1 := putW_len (h s (by simp))
        have h2 := ih fun t ht => h t (by simp [ht])
        rw [allT_cons, List.length_append, List.length_cons]
        omega
    have := this ss hok
    omega
  by_cases hne : ss = []
  · subst hne
    obtain rfl : xs = [] := List.length_eq_zero_iff.1 hl
    have e30 := p30z (k := k) (sz := 7) (G := [])
    refine aF (fnS_no e30 no30) (gStep (fnS_eq (out := o30n []) o30n_inj e30) (gStep (fnS_eq (out := o31 []) o31_inj e31) (aF (by show (!([] == ByteArray.toList ⟨#[]⟩)) = false; rw [ba_nil]; rfl) (aF (by simp) (aF (by simp) ?_)))))
    have e29 := p29 (sz := 0) (sz' := 7) (k := .nil) (k' := k) (G := []) SR.nil SR.nil (fun h => absurd rfl h) (fun h => absurd rfl h) (by simp) (by simp)
    rcases p27 (k := .nil) (sz := 0) (l := []) (G := []) (fun h => absurd rfl h) (by simp) with ⟨_, _, e27⟩ | ⟨_, h3, _⟩ | ⟨h3, _⟩
    · exact aF (fnS_no e27 no28) (gStep (fnS_eq (out := o30n []) o30n_inj e27) (gStep (fnS_eq (out := oB []) oB_inj e29) (aT rfl (aT rfl (gStep e18 rfl)))))
    · exact absurd (by rw [show readL [] = ([], 0) from readF_nil]) h3
    · exact absurd (by rw [show readL [] = ([], 0) from readF_nil]) h3
  · have e30 := p30y (k := k) (sz := 7) (G := []) hsr.sr (fun _ => rfl) (by omega) hne hok
    refine aT (fnS_yes (o1 := o30y []) o30y_inj e30) (gStep (fnS_eq (out := o30y []) o30y_inj e30) (gStep (fnS_eq (out := o31 []) o31_inj e31) (gStep (rowBytes_bRow (allT ss)) (aF (by simp) (aF (by simp) (aF (by simp) ?_))))))
    rcases p27 (k := .any) (sz := 1) (l := allT ss) (G := []) (fun _ => rfl) hlen with ⟨_, h3, _⟩ | ⟨_, _, ys, hys, e27⟩ | ⟨h3, _⟩
    · rw [hrl] at h3
      exact absurd h3 hne
    · rw [hrl] at hys
      have e29 := p29 (sz := 7) (sz' := 7) (k := .any) (k' := k) (G := []) hys hsr.sr (fun _ => rfl) (fun _ => rfl) (by simp only; omega) (fun s hs => okT_keep (hok s hs))
      exact aT (fnS_yes (o1 := o28y []) o28y_inj e27) (gStep (fnS_eq (out := o28y []) o28y_inj e27) (gStep (fnS_eq (out := oB []) oB_inj e29) (aT rfl (gStep e18 rfl))))
    · rw [hrl] at h3
      exact absurd rfl h3

end Go.Eng
end
