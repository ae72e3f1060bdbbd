/- Sets of runs: the range over runs, for the program's Of. -/
import Derived.Test.YtablkigmdginoaaDoorRo31
section
namespace Go.Eng
open Go
set_option maxRecDepth 100000
set_option linter.unusedSimpArgs false

theorem yn13_eq (a b m n : Int) : (yn13 a b m n).ev =
  (some ((AV.dat (D.bool true)), [(Ent.obj [(AV.dat (D.int IntKind.u64 a)), (AV.dat (D.int IntKind.u64 b))]), (Ent.obj [(AV.rowc Mode.excl 2 [[(D.int IntKind.i64 m), (D.int IntKind.i64 n)]])]), (Ent.lrec LS.ready (mkT 0 13 [(3, (AV.ptr (Ref.glob 1) 0)), (6, (AV.fn 37 [(AV.ptr (Ref.glob 0) 0)]))]) [7] asg13 bd13)]))
  := by kernel_rfl
theorem yr13_eq (a b : Int) (l : Row) (m n : Int) : (yr13 a b l m n).ev =
  (rAsk ((decide ((0 + (List.length l)) ≤ (List.length l))) && (fits (TI.mk (TK.struct [(0, 3), (1, 3)]) 2 16 [(AV.dat (D.int IntKind.i64 (0 : Int))), (AV.dat (D.int IntKind.i64 (0 : Int)))] true) ((List.length l) + 1)))
   (rAsk (true && (decide ((List.length l) = (List.length l))))
    (rAsk (wholeB false 0 ((List.length l) + 1) (List.length (l ++ [[(D.int IntKind.i64 m), (D.int IntKind.i64 n)]])))
     (some ((AV.dat (D.bool true)), [(Ent.obj [(AV.dat (D.int IntKind.u64 a)), (AV.dat (D.int IntKind.u64 b))]), (Ent.obj [(AV.rowc Mode.excl 2 (l ++ [[(D.int IntKind.i64 m), (D.int IntKind.i64 n)]]))]), (Ent.lrec LS.ready (mkT 0 13 [(3, (AV.ptr (Ref.glob 1) 0)), (6, (AV.fn 37 [(AV.ptr (Ref.glob 0) 0)]))]) [7] asg13 bd13)]))
     (some ((AV.dat (D.bool true)), [(Ent.obj [(AV.dat (D.int IntKind.u64 a)), (AV.dat (D.int IntKind.u64 b))]), (Ent.obj [(AV.dat (D.list LK.any 2 (List.take ((List.length l) + 1) (List.drop 0 (l ++ [[(D.int IntKind.i64 m), (D.int IntKind.i64 n)]])))))]), (Ent.lrec LS.ready (mkT 0 13 [(3, (AV.ptr (Ref.glob 1) 0)), (6, (AV.fn 37 [(AV.ptr (Ref.glob 0) 0)]))]) [7] asg13 bd13)]))
    )
    none
   )
   none
  )
  := by kernel_rfl
theorem rk37on_eq (a b m n : Int) (l : Row) (i : Int) : (rk37on a b m n l i).ev =
  (rAsk (decide (i < (((List.length l) : Nat) : Int)))
   (rAsk ((decide ((0 : Int) ≤ i)) && (decide (i < (((List.length l) : Nat) : Int))))
    (rGet l[(0 + (Int.toNat i))]? fun x1 =>
     (rGet (List.head? (List.drop 0 x1)) fun x2 =>
      (rAsk (decide (n > (0 : Int)))
       (rGet (D.int? IntKind.i64 x2) fun x3 =>
        (rAsk (x3 == (IntKind.wrap IntKind.i64 (m + n)))
         (some (Ex.norm, (St.mk (mkT 0 49 [(0, (AV.yld 2)), (3, (AV.ptr (Ref.loc 0) 0)), (7, (AV.sh false 1 1 0 (List.length l))), (8, (AV.dat (D.int IntKind.i64 (((List.length l) : Nat) : Int)))), (9, (AV.dat (D.int IntKind.i64 (IntKind.wrap IntKind.i64 (i + (1 : Int))))))]) (Mem.mk [(Option.some (Ent.obj [(AV.dat (D.int IntKind.i64 m)), (AV.dat (D.int IntKind.i64 (IntKind.wrap IntKind.i64 (n + (1 : Int)))))])), (Option.some (Ent.row Mode.excl 1 l))] [(Ent.obj [(AV.dat (D.int IntKind.u64 a)), (AV.dat (D.int IntKind.u64 b))]), (Ent.obj [(AV.dat (D.list LK.nil 0 ([] : Row)))]), (Ent.lrec LS.ready (mkT 0 13 [(3, (AV.ptr (Ref.glob 1) 0)), (6, (AV.fn 37 [(AV.ptr (Ref.glob 0) 0)]))]) [7] asg13 bd13)] 0))))
         (rAsk (decide (n > (0 : Int)))
          (rGet (fnS (fun (l : Row) => ((AV.dat (D.bool true)), [(Ent.obj [(AV.dat (D.int IntKind.u64 a)), (AV.dat (D.int IntKind.u64 b))]), (Ent.obj [(AV.rowc Mode.excl 2 l)]), (Ent.lrec LS.ready (mkT 0 13 [(3, (AV.ptr (Ref.glob 1) 0)), (6, (AV.fn 37 [(AV.ptr (Ref.glob 0) 0)]))]) [7] asg13 bd13)])) (Y13 [(AV.agg [(AV.dat (D.int IntKind.i64 m)), (AV.dat (D.int IntKind.i64 n))])] [(Ent.obj [(AV.dat (D.int IntKind.u64 a)), (AV.dat (D.int IntKind.u64 b))]), (Ent.obj [(AV.dat (D.list LK.nil 0 ([] : Row)))]), (Ent.lrec LS.ready (mkT 0 13 [(3, (AV.ptr (Ref.glob 1) 0)), (6, (AV.fn 37 [(AV.ptr (Ref.glob 0) 0)]))]) [7] asg13 bd13)])) fun x4 =>
           (some (Ex.norm, (St.mk (mkT 0 49 [(0, (AV.yld 2)), (3, (AV.ptr (Ref.loc 0) 0)), (7, (AV.sh false 1 1 0 (List.length l))), (8, (AV.dat (D.int IntKind.i64 (((List.length l) : Nat) : Int)))), (9, (AV.dat (D.int IntKind.i64 (IntKind.wrap IntKind.i64 (i + (1 : Int))))))]) (Mem.mk [(Option.some (Ent.obj [(AV.dat x2), (AV.dat (D.int IntKind.i64 (1 : Int)))])), (Option.some (Ent.row Mode.excl 1 l))] [(Ent.obj [(AV.dat (D.int IntKind.u64 a)), (AV.dat (D.int IntKind.u64 b))]), (Ent.obj [(AV.rowc Mode.excl 2 x4)]), (Ent.lrec LS.ready (mkT 0 13 [(3, (AV.ptr (Ref.glob 1) 0)), (6, (AV.fn 37 [(AV.ptr (Ref.glob 0) 0)]))]) [7] asg13 bd13)] 0))))
          )
          (some (Ex.norm, (St.mk (mkT 0 49 [(0, (AV.yld 2)), (3, (AV.ptr (Ref.loc 0) 0)), (7, (AV.sh false 1 1 0 (List.length l))), (8, (AV.dat (D.int IntKind.i64 (((List.length l) : Nat) : Int)))), (9, (AV.dat (D.int IntKind.i64 (IntKind.wrap IntKind.i64 (i + (1 : Int))))))]) (Mem.mk [(Option.some (Ent.obj [(AV.dat x2), (AV.dat (D.int IntKind.i64 (1 : Int)))])), (Option.some (Ent.row Mode.excl 1 l))] [(Ent.obj [(AV.dat (D.int IntKind.u64 a)), (AV.dat (D.int IntKind.u64 b))]), (Ent.obj [(AV.dat (D.list LK.nil 0 ([] : Row)))]), (Ent.lrec LS.ready (mkT 0 13 [(3, (AV.ptr (Ref.glob 1) 0)), (6, (AV.fn 37 [(AV.ptr (Ref.glob 0) 0)]))]) [7] asg13 bd13)] 0))))
         )
        )
       )
       (rAsk (decide (n > (0 : Int)))
        (rGet (fnS (fun (l : Row) => ((AV.dat (D.bool true)), [(Ent.obj [(AV.dat (D.int IntKind.u64 a)), (AV.dat (D.int IntKind.u64 b))]), (Ent.obj [(AV.rowc Mode.excl 2 l)]), (Ent.lrec LS.ready (mkT 0 13 [(3, (AV.ptr (Ref.glob 1) 0)), (6, (AV.fn 37 [(AV.ptr (Ref.glob 0) 0)]))]) [7] asg13 bd13)])) (Y13 [(AV.agg [(AV.dat (D.int IntKind.i64 m)), (AV.dat (D.int IntKind.i64 n))])] [(Ent.obj [(AV.dat (D.int IntKind.u64 a)), (AV.dat (D.int IntKind.u64 b))]), (Ent.obj [(AV.dat (D.list LK.nil 0 ([] : Row)))]), (Ent.lrec LS.ready (mkT 0 13 [(3, (AV.ptr (Ref.glob 1) 0)), (6, (AV.fn 37 [(AV.ptr (Ref.glob 0) 0)]))]) [7] asg13 bd13)])) fun x5 =>
         (some (Ex.norm, (St.mk (mkT 0 49 [(0, (AV.yld 2)), (3, (AV.ptr (Ref.loc 0) 0)), (7, (AV.sh false 1 1 0 (List.length l))), (8, (AV.dat (D.int IntKind.i64 (((List.length l) : Nat) : Int)))), (9, (AV.dat (D.int IntKind.i64 (IntKind.wrap IntKind.i64 (i + (1 : Int))))))]) (Mem.mk [(Option.some (Ent.obj [(AV.dat x2), (AV.dat (D.int IntKind.i64 (1 : Int)))])), (Option.some (Ent.row Mode.excl 1 l))] [(Ent.obj [(AV.dat (D.int IntKind.u64 a)), (AV.dat (D.int IntKind.u64 b))]), (Ent.obj [(AV.rowc Mode.excl 2 x5)]), (Ent.lrec LS.ready (mkT 0 13 [(3, (AV.ptr (Ref.glob 1) 0)), (6, (AV.fn 37 [(AV.ptr (Ref.glob 0) 0)]))]) [7] asg13 bd13)] 0))))
        )
        (some (Ex.norm, (St.mk (mkT 0 49 [(0, (AV.yld 2)), (3, (AV.ptr (Ref.loc 0) 0)), (7, (AV.sh false 1 1 0 (List.length l))), (8, (AV.dat (D.int IntKind.i64 (((List.length l) : Nat) : Int)))), (9, (AV.dat (D.int IntKind.i64 (IntKind.wrap IntKind.i64 (i + (1 : Int))))))]) (Mem.mk [(Option.some (Ent.obj [(AV.dat x2), (AV.dat (D.int IntKind.i64 (1 : Int)))])), (Option.some (Ent.row Mode.excl 1 l))] [(Ent.obj [(AV.dat (D.int IntKind.u64 a)), (AV.dat (D.int IntKind.u64 b))]), (Ent.obj [(AV.dat (D.list LK.nil 0 ([] : Row)))]), (Ent.lrec LS.ready (mkT 0 13 [(3, (AV.ptr (Ref.glob 1) 0)), (6, (AV.fn 37 [(AV.ptr (Ref.glob 0) 0)]))]) [7] asg13 bd13)] 0))))
       )
      )
     )
    )
    none
   )
   (some ((Ex.exit 0), (St.mk (mkT 0 49 [(0, (AV.yld 2)), (3, (AV.ptr (Ref.loc 0) 0))]) (Mem.mk [(Option.some (Ent.obj [(AV.dat (D.int IntKind.i64 m)), (AV.dat (D.int IntKind.i64 n))]))] [(Ent.obj [(AV.dat (D.int IntKind.u64 a)), (AV.dat (D.int IntKind.u64 b))]), (Ent.obj [(AV.dat (D.list LK.nil 0 ([] : Row)))]), (Ent.lrec LS.ready (mkT 0 13 [(3, (AV.ptr (Ref.glob 1) 0)), (6, (AV.fn 37 [(AV.ptr (Ref.glob 0) 0)]))]) [7] asg13 bd13)] 0))))
  )
  := by kernel_rfl
theorem rk37or_eq (r : Row) (a b m n : Int) (l : Row) (i : Int) : (rk37or r a b m n l i).ev =
  (rAsk (decide (i < (((List.length l) : Nat) : Int)))
   (rAsk ((decide ((0 : Int) ≤ i)) && (decide (i < (((List.length l) : Nat) : Int))))
    (rGet l[(0 + (Int.toNat i))]? fun x1 =>
     (rGet (List.head? (List.drop 0 x1)) fun x2 =>
      (rAsk (decide (n > (0 : Int)))
       (rGet (D.int? IntKind.i64 x2) fun x3 =>
        (rAsk (x3 == (IntKind.wrap IntKind.i64 (m + n)))
         (some (Ex.norm, (St.mk (mkT 0 49 [(0, (AV.yld 2)), (3, (AV.ptr (Ref.loc 0) 0)), (7, (AV.sh false 1 1 0 (List.length l))), (8, (AV.dat (D.int IntKind.i64 (((List.length l) : Nat) : Int)))), (9, (AV.dat (D.int IntKind.i64 (IntKind.wrap IntKind.i64 (i + (1 : Int))))))]) (Mem.mk [(Option.some (Ent.obj [(AV.dat (D.int IntKind.i64 m)), (AV.dat (D.int IntKind.i64 (IntKind.wrap IntKind.i64 (n + (1 : Int)))))])), (Option.some (Ent.row Mode.excl 1 l))] [(Ent.obj [(AV.dat (D.int IntKind.u64 a)), (AV.dat (D.int IntKind.u64 b))]), (Ent.obj [(AV.rowc Mode.excl 2 r)]), (Ent.lrec LS.ready (mkT 0 13 [(3, (AV.ptr (Ref.glob 1) 0)), (6, (AV.fn 37 [(AV.ptr (Ref.glob 0) 0)]))]) [7] asg13 bd13)] 0))))
         (rAsk (decide (n > (0 : Int)))
          (rGet (fnS (fun (l : Row) => ((AV.dat (D.bool true)), [(Ent.obj [(AV.dat (D.int IntKind.u64 a)), (AV.dat (D.int IntKind.u64 b))]), (Ent.obj [(AV.rowc Mode.excl 2 l)]), (Ent.lrec LS.ready (mkT 0 13 [(3, (AV.ptr (Ref.glob 1) 0)), (6, (AV.fn 37 [(AV.ptr (Ref.glob 0) 0)]))]) [7] asg13 bd13)])) (Y13 [(AV.agg [(AV.dat (D.int IntKind.i64 m)), (AV.dat (D.int IntKind.i64 n))])] [(Ent.obj [(AV.dat (D.int IntKind.u64 a)), (AV.dat (D.int IntKind.u64 b))]), (Ent.obj [(AV.rowc Mode.excl 2 r)]), (Ent.lrec LS.ready (mkT 0 13 [(3, (AV.ptr (Ref.glob 1) 0)), (6, (AV.fn 37 [(AV.ptr (Ref.glob 0) 0)]))]) [7] asg13 bd13)])) fun x4 =>
           (some (Ex.norm, (St.mk (mkT 0 49 [(0, (AV.yld 2)), (3, (AV.ptr (Ref.loc 0) 0)), (7, (AV.sh false 1 1 0 (List.length l))), (8, (AV.dat (D.int IntKind.i64 (((List.length l) : Nat) : Int)))), (9, (AV.dat (D.int IntKind.i64 (IntKind.wrap IntKind.i64 (i + (1 : Int))))))]) (Mem.mk [(Option.some (Ent.obj [(AV.dat x2), (AV.dat (D.int IntKind.i64 (1 : Int)))])), (Option.some (Ent.row Mode.excl 1 l))] [(Ent.obj [(AV.dat (D.int IntKind.u64 a)), (AV.dat (D.int IntKind.u64 b))]), (Ent.obj [(AV.rowc Mode.excl 2 x4)]), (Ent.lrec LS.ready (mkT 0 13 [(3, (AV.ptr (Ref.glob 1) 0)), (6, (AV.fn 37 [(AV.ptr (Ref.glob 0) 0)]))]) [7] asg13 bd13)] 0))))
          )
          (some (Ex.norm, (St.mk (mkT 0 49 [(0, (AV.yld 2)), (3, (AV.ptr (Ref.loc 0) 0)), (7, (AV.sh false 1 1 0 (List.length l))), (8, (AV.dat (D.int IntKind.i64 (((List.length l) : Nat) : Int)))), (9, (AV.dat (D.int IntKind.i64 (IntKind.wrap IntKind.i64 (i + (1 : Int))))))]) (Mem.mk [(Option.some (Ent.obj [(AV.dat x2), (AV.dat (D.int IntKind.i64 (1 : Int)))])), (Option.some (Ent.row Mode.excl 1 l))] [(Ent.obj [(AV.dat (D.int IntKind.u64 a)), (AV.dat (D.int IntKind.u64 b))]), (Ent.obj [(AV.rowc Mode.excl 2 r)]), (Ent.lrec LS.ready (mkT 0 13 [(3, (AV.ptr (Ref.glob 1) 0)), (6, (AV.fn 37 [(AV.ptr (Ref.glob 0) 0)]))]) [7] asg13 bd13)] 0))))
         )
        )
       )
       (rAsk (decide (n > (0 : Int)))
        (rGet (fnS (fun (l : Row) => ((AV.dat (D.bool true)), [(Ent.obj [(AV.dat (D.int IntKind.u64 a)), (AV.dat (D.int IntKind.u64 b))]), (Ent.obj [(AV.rowc Mode.excl 2 l)]), (Ent.lrec LS.ready (mkT 0 13 [(3, (AV.ptr (Ref.glob 1) 0)), (6, (AV.fn 37 [(AV.ptr (Ref.glob 0) 0)]))]) [7] asg13 bd13)])) (Y13 [(AV.agg [(AV.dat (D.int IntKind.i64 m)), (AV.dat (D.int IntKind.i64 n))])] [(Ent.obj [(AV.dat (D.int IntKind.u64 a)), (AV.dat (D.int IntKind.u64 b))]), (Ent.obj [(AV.rowc Mode.excl 2 r)]), (Ent.lrec LS.ready (mkT 0 13 [(3, (AV.ptr (Ref.glob 1) 0)), (6, (AV.fn 37 [(AV.ptr (Ref.glob 0) 0)]))]) [7] asg13 bd13)])) fun x5 =>
         (some (Ex.norm, (St.mk (mkT 0 49 [(0, (AV.yld 2)), (3, (AV.ptr (Ref.loc 0) 0)), (7, (AV.sh false 1 1 0 (List.length l))), (8, (AV.dat (D.int IntKind.i64 (((List.length l) : Nat) : Int)))), (9, (AV.dat (D.int IntKind.i64 (IntKind.wrap IntKind.i64 (i + (1 : Int))))))]) (Mem.mk [(Option.some (Ent.obj [(AV.dat x2), (AV.dat (D.int IntKind.i64 (1 : Int)))])), (Option.some (Ent.row Mode.excl 1 l))] [(Ent.obj [(AV.dat (D.int IntKind.u64 a)), (AV.dat (D.int IntKind.u64 b))]), (Ent.obj [(AV.rowc Mode.excl 2 x5)]), (Ent.lrec LS.ready (mkT 0 13 [(3, (AV.ptr (Ref.glob 1) 0)), (6, (AV.fn 37 [(AV.ptr (Ref.glob 0) 0)]))]) [7] asg13 bd13)] 0))))
        )
        (some (Ex.norm, (St.mk (mkT 0 49 [(0, (AV.yld 2)), (3, (AV.ptr (Ref.loc 0) 0)), (7, (AV.sh false 1 1 0 (List.length l))), (8, (AV.dat (D.int IntKind.i64 (((List.length l) : Nat) : Int)))), (9, (AV.dat (D.int IntKind.i64 (IntKind.wrap IntKind.i64 (i + (1 : Int))))))]) (Mem.mk [(Option.some (Ent.obj [(AV.dat x2), (AV.dat (D.int IntKind.i64 (1 : Int)))])), (Option.some (Ent.row Mode.excl 1 l))] [(Ent.obj [(AV.dat (D.int IntKind.u64 a)), (AV.dat (D.int IntKind.u64 b))]), (Ent.obj [(AV.rowc Mode.excl 2 r)]), (Ent.lrec LS.ready (mkT 0 13 [(3, (AV.ptr (Ref.glob 1) 0)), (6, (AV.fn 37 [(AV.ptr (Ref.glob 0) 0)]))]) [7] asg13 bd13)] 0))))
       )
      )
     )
    )
    none
   )
   (some ((Ex.exit 0), (St.mk (mkT 0 49 [(0, (AV.yld 2)), (3, (AV.ptr (Ref.loc 0) 0))]) (Mem.mk [(Option.some (Ent.obj [(AV.dat (D.int IntKind.i64 m)), (AV.dat (D.int IntKind.i64 n))]))] [(Ent.obj [(AV.dat (D.int IntKind.u64 a)), (AV.dat (D.int IntKind.u64 b))]), (Ent.obj [(AV.rowc Mode.excl 2 r)]), (Ent.lrec LS.ready (mkT 0 13 [(3, (AV.ptr (Ref.glob 1) 0)), (6, (AV.fn 37 [(AV.ptr (Ref.glob 0) 0)]))]) [7] asg13 bd13)] 0))))
  )
  := by kernel_rfl
theorem rk37oz_eq (a b : Int) : (rk37oz a b).ev =
  (some ((Ex.exit 0), (St.mk (mkT 0 49 [(0, (AV.yld 2)), (3, (AV.ptr (Ref.loc 0) 0))]) (Mem.mk [(Option.some (Ent.obj [(AV.dat (D.int IntKind.i64 (0 : Int))), (AV.dat (D.int IntKind.i64 (0 : Int)))]))] [(Ent.obj [(AV.dat (D.int IntKind.u64 a)), (AV.dat (D.int IntKind.u64 b))]), (Ent.obj [(AV.dat (D.list LK.nil 0 ([] : Row)))]), (Ent.lrec LS.ready (mkT 0 13 [(3, (AV.ptr (Ref.glob 1) 0)), (6, (AV.fn 37 [(AV.ptr (Ref.glob 0) 0)]))]) [7] asg13 bd13)] 0))))
  := by kernel_rfl
theorem f37ot_eq (a b : Int) : (f37ot a b).ev =
  (rAsk (Option.isSome (fnS (fun (x : Unit) => ((AV.dat (D.list LK.nil 0 ([] : Row))), [(Ent.obj [(AV.dat (D.int IntKind.u64 a)), (AV.dat (D.int IntKind.u64 b))]), (Ent.obj [(AV.dat (D.list LK.nil 0 ([] : Row)))]), (Ent.lrec LS.ready (mkT 0 13 [(3, (AV.ptr (Ref.glob 1) 0)), (6, (AV.fn 37 [(AV.ptr (Ref.glob 0) 0)]))]) [7] asg13 bd13)])) (P38 [(AV.agg [(AV.dat (D.int IntKind.u64 a)), (AV.dat (D.int IntKind.u64 b))])] [(Ent.obj [(AV.dat (D.int IntKind.u64 a)), (AV.dat (D.int IntKind.u64 b))]), (Ent.obj [(AV.dat (D.list LK.nil 0 ([] : Row)))]), (Ent.lrec LS.ready (mkT 0 13 [(3, (AV.ptr (Ref.glob 1) 0)), (6, (AV.fn 37 [(AV.ptr (Ref.glob 0) 0)]))]) [7] asg13 bd13)])))
   (rGet (fnS (fun (x : Unit) => ((AV.dat (D.list LK.nil 0 ([] : Row))), [(Ent.obj [(AV.dat (D.int IntKind.u64 a)), (AV.dat (D.int IntKind.u64 b))]), (Ent.obj [(AV.dat (D.list LK.nil 0 ([] : Row)))]), (Ent.lrec LS.ready (mkT 0 13 [(3, (AV.ptr (Ref.glob 1) 0)), (6, (AV.fn 37 [(AV.ptr (Ref.glob 0) 0)]))]) [7] asg13 bd13)])) (P38 [(AV.agg [(AV.dat (D.int IntKind.u64 a)), (AV.dat (D.int IntKind.u64 b))])] [(Ent.obj [(AV.dat (D.int IntKind.u64 a)), (AV.dat (D.int IntKind.u64 b))]), (Ent.obj [(AV.dat (D.list LK.nil 0 ([] : Row)))]), (Ent.lrec LS.ready (mkT 0 13 [(3, (AV.ptr (Ref.glob 1) 0)), (6, (AV.fn 37 [(AV.ptr (Ref.glob 0) 0)]))]) [7] asg13 bd13)])) fun _ =>
    (rGet (loS TT (TOrc.runs t37o) (HSt 37) lp37 (out37op a b) (St.mk (mkT 0 49 [(0, (AV.yld 2)), (3, (AV.ptr (Ref.loc 0) 0)), (7, (AV.dat (D.list LK.nil 0 ([] : Row)))), (8, (AV.dat (D.int IntKind.i64 (0 : Int)))), (9, (AV.dat (D.int IntKind.i64 (0 : Int))))]) (Mem.mk [(Option.some (Ent.obj [(AV.dat (D.int IntKind.i64 (0 : Int))), (AV.dat (D.int IntKind.i64 (0 : Int)))]))] [(Ent.obj [(AV.dat (D.int IntKind.u64 a)), (AV.dat (D.int IntKind.u64 b))]), (Ent.obj [(AV.dat (D.list LK.nil 0 ([] : Row)))]), (Ent.lrec LS.ready (mkT 0 13 [(3, (AV.ptr (Ref.glob 1) 0)), (6, (AV.fn 37 [(AV.ptr (Ref.glob 0) 0)]))]) [7] asg13 bd13)] 0))) fun x2 =>
     (rAsk (decide (x2.2.2 > (0 : Int)))
      (rGet (fnS (fun (l : Row) => ((AV.dat (D.bool true)), [(Ent.obj [(AV.dat (D.int IntKind.u64 a)), (AV.dat (D.int IntKind.u64 b))]), (Ent.obj [(AV.rowc Mode.excl 2 l)]), (Ent.lrec LS.ready (mkT 0 13 [(3, (AV.ptr (Ref.glob 1) 0)), (6, (AV.fn 37 [(AV.ptr (Ref.glob 0) 0)]))]) [7] asg13 bd13)])) (Y13 [(AV.agg [(AV.dat (D.int IntKind.i64 x2.2.1)), (AV.dat (D.int IntKind.i64 x2.2.2))])] [(Ent.obj [(AV.dat (D.int IntKind.u64 a)), (AV.dat (D.int IntKind.u64 b))]), (Ent.obj [x2.1]), (Ent.lrec LS.ready (mkT 0 13 [(3, (AV.ptr (Ref.glob 1) 0)), (6, (AV.fn 37 [(AV.ptr (Ref.glob 0) 0)]))]) [7] asg13 bd13)])) fun x3 =>
       (some ((AV.tup []), [(Ent.obj [(AV.dat (D.int IntKind.u64 a)), (AV.dat (D.int IntKind.u64 b))]), (Ent.obj [(AV.rowc Mode.excl 2 x3)]), (Ent.lrec LS.ready (mkT 0 13 [(3, (AV.ptr (Ref.glob 1) 0)), (6, (AV.fn 37 [(AV.ptr (Ref.glob 0) 0)]))]) [7] asg13 bd13)]))
      )
      (some ((AV.tup []), [(Ent.obj [(AV.dat (D.int IntKind.u64 a)), (AV.dat (D.int IntKind.u64 b))]), (Ent.obj [x2.1]), (Ent.lrec LS.ready (mkT 0 13 [(3, (AV.ptr (Ref.glob 1) 0)), (6, (AV.fn 37 [(AV.ptr (Ref.glob 0) 0)]))]) [7] asg13 bd13)]))
     )
    )
   )
   (rGet (fnS (fun (zr : Row) => ((AV.own true 1 zr), [(Ent.obj [(AV.dat (D.int IntKind.u64 a)), (AV.dat (D.int IntKind.u64 b))]), (Ent.obj [(AV.dat (D.list LK.nil 0 ([] : Row)))]), (Ent.lrec LS.ready (mkT 0 13 [(3, (AV.ptr (Ref.glob 1) 0)), (6, (AV.fn 37 [(AV.ptr (Ref.glob 0) 0)]))]) [7] asg13 bd13)])) (P38 [(AV.agg [(AV.dat (D.int IntKind.u64 a)), (AV.dat (D.int IntKind.u64 b))])] [(Ent.obj [(AV.dat (D.int IntKind.u64 a)), (AV.dat (D.int IntKind.u64 b))]), (Ent.obj [(AV.dat (D.list LK.nil 0 ([] : Row)))]), (Ent.lrec LS.ready (mkT 0 13 [(3, (AV.ptr (Ref.glob 1) 0)), (6, (AV.fn 37 [(AV.ptr (Ref.glob 0) 0)]))]) [7] asg13 bd13)])) fun x4 =>
    (rGet (loS TT (TOrc.runs t37o) (HSt 37) lp37 (out37op a b) (St.mk (mkT 0 49 [(0, (AV.yld 2)), (3, (AV.ptr (Ref.loc 0) 0)), (7, (AV.sh false 1 1 0 (List.length x4))), (8, (AV.dat (D.int IntKind.i64 (((List.length x4) : Nat) : Int)))), (9, (AV.dat (D.int IntKind.i64 (0 : Int))))]) (Mem.mk [(Option.some (Ent.obj [(AV.dat (D.int IntKind.i64 (0 : Int))), (AV.dat (D.int IntKind.i64 (0 : Int)))])), (Option.some (Ent.row Mode.excl 1 x4))] [(Ent.obj [(AV.dat (D.int IntKind.u64 a)), (AV.dat (D.int IntKind.u64 b))]), (Ent.obj [(AV.dat (D.list LK.nil 0 ([] : Row)))]), (Ent.lrec LS.ready (mkT 0 13 [(3, (AV.ptr (Ref.glob 1) 0)), (6, (AV.fn 37 [(AV.ptr (Ref.glob 0) 0)]))]) [7] asg13 bd13)] 0))) fun x5 =>
     (rAsk (decide (x5.2.2 > (0 : Int)))
      (rGet (fnS (fun (l : Row) => ((AV.dat (D.bool true)), [(Ent.obj [(AV.dat (D.int IntKind.u64 a)), (AV.dat (D.int IntKind.u64 b))]), (Ent.obj [(AV.rowc Mode.excl 2 l)]), (Ent.lrec LS.ready (mkT 0 13 [(3, (AV.ptr (Ref.glob 1) 0)), (6, (AV.fn 37 [(AV.ptr (Ref.glob 0) 0)]))]) [7] asg13 bd13)])) (Y13 [(AV.agg [(AV.dat (D.int IntKind.i64 x5.2.1)), (AV.dat (D.int IntKind.i64 x5.2.2))])] [(Ent.obj [(AV.dat (D.int IntKind.u64 a)), (AV.dat (D.int IntKind.u64 b))]), (Ent.obj [x5.1]), (Ent.lrec LS.ready (mkT 0 13 [(3, (AV.ptr (Ref.glob 1) 0)), (6, (AV.fn 37 [(AV.ptr (Ref.glob 0) 0)]))]) [7] asg13 bd13)])) fun x6 =>
       (some ((AV.tup []), [(Ent.obj [(AV.dat (D.int IntKind.u64 a)), (AV.dat (D.int IntKind.u64 b))]), (Ent.obj [(AV.rowc Mode.excl 2 x6)]), (Ent.lrec LS.ready (mkT 0 13 [(3, (AV.ptr (Ref.glob 1) 0)), (6, (AV.fn 37 [(AV.ptr (Ref.glob 0) 0)]))]) [7] asg13 bd13)]))
      )
      (some ((AV.tup []), [(Ent.obj [(AV.dat (D.int IntKind.u64 a)), (AV.dat (D.int IntKind.u64 b))]), (Ent.obj [x5.1]), (Ent.lrec LS.ready (mkT 0 13 [(3, (AV.ptr (Ref.glob 1) 0)), (6, (AV.fn 37 [(AV.ptr (Ref.glob 0) 0)]))]) [7] asg13 bd13)]))
     )
    )
   )
  )
  := by kernel_rfl
theorem f13t_eq (a b : Int) : (f13t a b).ev =
  (rAsk (Option.isSome (fnS (fun (x : Unit) => ((AV.tup []), [(Ent.obj [(AV.dat (D.int IntKind.u64 a)), (AV.dat (D.int IntKind.u64 b))]), (Ent.obj [(AV.dat (D.list LK.nil 0 ([] : Row)))]), (Ent.lrec LS.ready (mkT 0 13 [(3, (AV.ptr (Ref.glob 1) 0)), (6, (AV.fn 37 [(AV.ptr (Ref.glob 0) 0)]))]) [7] asg13 bd13)])) (R37o [(AV.yld 2), (AV.ptr (Ref.glob 0) 0)] [(Ent.obj [(AV.dat (D.int IntKind.u64 a)), (AV.dat (D.int IntKind.u64 b))]), (Ent.obj [(AV.dat (D.list LK.nil 0 ([] : Row)))]), (Ent.lrec LS.ready (mkT 0 13 [(3, (AV.ptr (Ref.glob 1) 0)), (6, (AV.fn 37 [(AV.ptr (Ref.glob 0) 0)]))]) [7] asg13 bd13)])))
   (rGet (fnS (fun (x : Unit) => ((AV.tup []), [(Ent.obj [(AV.dat (D.int IntKind.u64 a)), (AV.dat (D.int IntKind.u64 b))]), (Ent.obj [(AV.dat (D.list LK.nil 0 ([] : Row)))]), (Ent.lrec LS.ready (mkT 0 13 [(3, (AV.ptr (Ref.glob 1) 0)), (6, (AV.fn 37 [(AV.ptr (Ref.glob 0) 0)]))]) [7] asg13 bd13)])) (R37o [(AV.yld 2), (AV.ptr (Ref.glob 0) 0)] [(Ent.obj [(AV.dat (D.int IntKind.u64 a)), (AV.dat (D.int IntKind.u64 b))]), (Ent.obj [(AV.dat (D.list LK.nil 0 ([] : Row)))]), (Ent.lrec LS.ready (mkT 0 13 [(3, (AV.ptr (Ref.glob 1) 0)), (6, (AV.fn 37 [(AV.ptr (Ref.glob 0) 0)]))]) [7] asg13 bd13)])) fun _ =>
    (some ((AV.dat (D.list LK.nil 0 ([] : Row))), [(Ent.obj [(AV.dat (D.int IntKind.u64 a)), (AV.dat (D.int IntKind.u64 b))]), (Ent.obj [(AV.dat (D.list LK.nil 0 ([] : Row)))]), Ent.gone]))
   )
   (rGet (fnS (fun (l : Row) => ((AV.tup []), [(Ent.obj [(AV.dat (D.int IntKind.u64 a)), (AV.dat (D.int IntKind.u64 b))]), (Ent.obj [(AV.rowc Mode.excl 2 l)]), (Ent.lrec LS.ready (mkT 0 13 [(3, (AV.ptr (Ref.glob 1) 0)), (6, (AV.fn 37 [(AV.ptr (Ref.glob 0) 0)]))]) [7] asg13 bd13)])) (R37o [(AV.yld 2), (AV.ptr (Ref.glob 0) 0)] [(Ent.obj [(AV.dat (D.int IntKind.u64 a)), (AV.dat (D.int IntKind.u64 b))]), (Ent.obj [(AV.dat (D.list LK.nil 0 ([] : Row)))]), (Ent.lrec LS.ready (mkT 0 13 [(3, (AV.ptr (Ref.glob 1) 0)), (6, (AV.fn 37 [(AV.ptr (Ref.glob 0) 0)]))]) [7] asg13 bd13)])) fun x2 =>
    (some ((AV.dat (D.list LK.any 2 (List.take (List.length x2) (List.drop 0 x2)))), [(Ent.obj [(AV.dat (D.int IntKind.u64 a)), (AV.dat (D.int IntKind.u64 b))]), (Ent.obj [(AV.rowc Mode.own 2 x2)]), Ent.gone]))
   )
  )
  := by kernel_rfl
theorem oYo_inj {a b : Int} {c1 : AV} : ∀ x y, oYo (G13 a b c1) x = oYo (G13 a b c1) y → x = y := by
  intro x y h
  simp [oYo, G13] at h
  exact h
attribute [local irreducible] fnS loS tround P38
theorem y13n {a b : Int} {m n : Nat} (_h1 : 1 ≤ n) (_h2 : m + n ≤ 128) :
    Y13 [.agg [jn m, jn n]] (G13 a b (.dat (.list .nil 0 []))) = some (oYo (G13 a b (.dat (.list .nil 0 []))) (rowC [(m, n)])) := by
  show (yn13 a b m n).run = _
  rw [← Tr.ev_run, yn13_eq]
  rfl
theorem y13r {a b : Int} {m n : Nat} (_h1 : 1 ≤ n) (_h2 : m + n ≤ 128) (ws : List (Nat × Nat)) (hw : ws.length ≤ 1000) :
    Y13 [.agg [jn m, jn n]] (G13 a b (.rowc .excl 2 (rowC ws))) = some (oYo (G13 a b (.rowc .excl 2 (rowC ws))) (rowC (ws ++ [(m, n)]))) := by
  show (yr13 a b (rowC ws) m n).run = _
  rw [← Tr.ev_run, yr13_eq, rowC_snoc]
  refine aT ?_ (aT (by simp) (aT (by rw [whole_iff, List.length_append]; exact ⟨rfl, rfl⟩) rfl))
  rw [Nat.zero_add, Bool.and_eq_true, fits_iff, rowC_len]
  exact ⟨decide_eq_true (Nat.le_refl _), by omega, by omega⟩
attribute [local irreducible] Y13
/-- the words so far, in their cell -/
def cO : List (Nat × Nat) → AV
  | [] => .dat (.list .nil 0 [])
  | w :: W => .rowc .excl 2 (rowC (w :: W))
theorem go37o {W : List (Nat × Nat)} {a b m n : Int} {l : Row} {i : Int} {o} (h : (match W with
    | [] => rk37on a b m n l i
    | w :: W => rk37or (rowC (w :: W)) a b m n l i).ev = o) : (tround TT t37o noLo (HSt 37) lp37 (inv37o (cO W) a b m n l i)).run = o := by
  rw [Tr.ev_run] at h
  cases W <;> exact h
theorem yld_cO {a b : Int} {W : List (Nat × Nat)} {r : Nat × Nat} (h1 : 1 ≤ r.2) (h2 : r.1 + r.2 ≤ 128) (hW : W.length ≤ 1000) :
    fnS (oYo (G13 a b (cO W))) (Y13 [.agg [jn r.1, jn r.2]] (G13 a b (cO W))) = some (rowC (W ++ [r])) := by
  cases W with
  | nil => exact fnS_eq (out := oYo (G13 a b (cO []))) oYo_inj (y13n h1 h2)
  | cons w W =>
    have := y13r (a := a) (b := b) h1 h2 (w :: W) hW
    exact fnS_eq (out := oYo (G13 a b (cO (w :: W)))) oYo_inj this
theorem cO_app (W : List (Nat × Nat)) (r : Nat × Nat) : cO (W ++ [r]) = .rowc .excl 2 (rowC (W ++ [r])) := by
  cases W <;> rfl
theorem step37o {a b : Int} (W : List (Nat × Nat)) (r : Nat × Nat) (pre : List Nat) (k : Nat) (l : List Nat) (hW : W.length ≤ 1000) (hr : r.1 + r.2 ≤ 128) (hk : k < 128) (hl : (pre ++ k :: l).length ≤ 1000) :
    (tround TT t37o noLo (HSt 37) lp37 (inv37o (cO W) a b r.1 r.2 (rowN (pre ++ k :: l)) pre.length)).run = some (.norm,
      if r.2 > 0 ∧ k = r.1 + r.2 then inv37o (cO W) a b r.1 ((r.2 + 1 : Nat) : Int) (rowN (pre ++ k :: l)) ((pre.length + 1 : Nat) : Int)
      else if r.2 > 0 then inv37o (cO (W ++ [r])) a b k 1 (rowN (pre ++ k :: l)) ((pre.length + 1 : Nat) : Int)
      else inv37o (cO W) a b k 1 (rowN (pre ++ k :: l)) ((pre.length + 1 : Nat) : Int)) := by
  have hlen : (rowN (pre ++ k :: l)).length = pre.length + l.length + 1 := by rw [rowN_len, List.length_append, List.length_cons]; omega
  rw [List.length_append, List.length_cons] at hl
  have hb : ((decide ((0 : Int) ≤ ((pre.length : Nat) : Int))) && (decide (((pre.length : Nat) : Int) < (((rowN (pre ++ k :: l)).length : Nat) : Int)))) = true := by
    rw [Bool.and_eq_true, decide_eq_true_eq, decide_eq_true_eq]
    omega
  have a0 : decide (((pre.length : Nat) : Int) < (((rowN (pre ++ k :: l)).length : Nat) : Int)) = true := by rw [decide_eq_true_eq]; omega
  have hat := rowN_at pre k l
  have hwi : IntKind.wrap IntKind.i64 (((pre.length : Nat) : Int) + 1) = ((pre.length + 1 : Nat) : Int) := w64 (by omega) (by omega)
  have hwr : IntKind.wrap IntKind.i64 (((r.1 : Nat) : Int) + ((r.2 : Nat) : Int)) = ((r.1 + r.2 : Nat) : Int) := w64 (by omega) (by omega)
  have hw1 : IntKind.wrap IntKind.i64 (((r.2 : Nat) : Int) + 1) = ((r.2 + 1 : Nat) : Int) := w64 (by omega) (by omega)
  have ye := fun h1 : r.2 > 0 => yld_cO (a := a) (b := b) (W := W) (r := r) h1 hr hW
  rw [cO_app]
  cases W with
  | nil =>
      refine go37o ?_
      simp only
      rw [rk37on_eq, hwi, hwr]
      refine aT a0 (aT hb (gStep hat (gStep rfl ?_)))
      by_cases h0 : r.2 > 0
      · refine aT (by rw [decide_eq_true_eq]; omega) (gStep (x := ((k : Nat) : Int)) rfl ?_)
        by_cases hk : k = r.1 + r.2
        · refine aT (by rw [beq_iff_eq, hk]) ?_
          rw [if_pos ⟨h0, hk⟩, hw1]
          rfl
        · refine aF (by rw [beq_eq_false_iff_ne]; omega) (aT (by rw [decide_eq_true_eq]; omega) (gStep (ye h0) ?_))
          rw [if_neg (fun h => hk h.2), if_pos h0]
          rfl
      · refine aF (by rw [decide_eq_false_iff_not]; omega) (aF (by rw [decide_eq_false_iff_not]; omega) ?_)
        rw [if_neg (fun h => h0 h.1), if_neg h0]
        rfl
  | cons w W =>
      refine go37o ?_
      simp only
      rw [rk37or_eq, hwi, hwr]
      refine aT a0 (aT hb (gStep hat (gStep rfl ?_)))
      by_cases h0 : r.2 > 0
      · refine aT (by rw [decide_eq_true_eq]; omega) (gStep (x := ((k : Nat) : Int)) rfl ?_)
        by_cases hk : k = r.1 + r.2
        · refine aT (by rw [beq_iff_eq, hk]) ?_
          rw [if_pos ⟨h0, hk⟩, hw1]
          rfl
        · refine aF (by rw [beq_eq_false_iff_ne]; omega) (aT (by rw [decide_eq_true_eq]; omega) (gStep (ye h0) ?_))
          rw [if_neg (fun h => hk h.2), if_pos h0]
          rfl
      · refine aF (by rw [decide_eq_false_iff_not]; omega) (aF (by rw [decide_eq_false_iff_not]; omega) ?_)
        rw [if_neg (fun h => h0 h.1), if_neg h0]
        rfl
theorem last37o {a b : Int} (W : List (Nat × Nat)) (r : Nat × Nat) (l : List Nat) : LoopTo TT t37o.runs (HSt 37) lp37 (inv37o (cO W) a b r.1 r.2 (rowN l) l.length) (out37o (cO W) a b (r.1, r.2)) := by
  refine LoopTo.last (orc := t37o) (lo := noLo) (fun _ _ _ _ h => h) (LoOk2.no _) (go37o ?_) (by simp [out37o])
  have a0 : decide (((l.length : Nat) : Int) < (((rowN l).length : Nat) : Int)) = false := by rw [decide_eq_false_iff_not, rowN_len]; omega
  cases W with
  | nil =>
    simp only
    rw [rk37on_eq]
    exact aF a0 rfl
  | cons w W =>
    simp only
    rw [rk37or_eq]
    exact aF a0 rfl
theorem loop37o {a b : Int} : ∀ (rest pre : List Nat) (r : Nat × Nat) (W : List (Nat × Nat)), (∀ k ∈ rest, k < 128) → r.1 + r.2 ≤ 128 → (pre ++ rest).length ≤ 1000 → W.length + rest.length ≤ 1000 →
    LoopTo TT t37o.runs (HSt 37) lp37 (inv37o (cO W) a b r.1 r.2 (rowN (pre ++ rest)) pre.length) (out37o (cO (W ++ (runE rest r).1)) a b ((runE rest r).2.1, (runE rest r).2.2))
  | [], pre, r, W, _, _, _, _ => by
    rw [runE, List.append_nil, List.append_nil]
    exact last37o W r pre
  | k :: rest, pre, r, W, hk, hr, hl, hW => by
    rw [List.length_cons] at hW
    have hk1 := hk k (by simp)
    have step := step37o (a := a) (b := b) W r pre k rest (by omega) hr hk1 hl
    have e : pre ++ k :: rest = (pre ++ [k]) ++ rest := by simp
    have el : List.length (pre ++ [k]) = pre.length + 1 := by simp
    unfold runE
    split at step
    · rename_i h0
      rw [if_pos h0]
      have ih := loop37o (a := a) (b := b) rest (pre ++ [k]) (r.1, r.2 + 1) W (fun j hj => hk j (by simp [hj])) (by simp only; omega) (by rw [← e]; exact hl) (by omega)
      rw [← e, el] at ih
      exact LoopTo.more (orc := t37o) (lo := noLo) (fun _ _ _ _ h => h) (LoOk2.no _) step ih
    · rename_i h0
      rw [if_neg h0]
      split at step
      · rename_i h1
        rw [if_pos h1]
        have ih := loop37o (a := a) (b := b) rest (pre ++ [k]) (k, 1) (W ++ [r]) (fun j hj => hk j (by simp [hj])) (by simp only; omega) (by rw [← e]; exact hl) (by rw [List.length_append, List.length_singleton]; omega)
        rw [← e, el, List.append_assoc, List.singleton_append] at ih
        exact LoopTo.more (orc := t37o) (lo := noLo) (fun _ _ _ _ h => h) (LoOk2.no _) step ih
      · rename_i h1
        rw [if_neg h1]
        have ih := loop37o (a := a) (b := b) rest (pre ++ [k]) (k, 1) W (fun j hj => hk j (by simp [hj])) (by simp only; omega) (by rw [← e]; exact hl) (by omega)
        rw [← e, el] at ih
        exact LoopTo.more (orc := t37o) (lo := noLo) (fun _ _ _ _ h => h) (LoOk2.no _) step ih
theorem out37op_inj {a b : Int} : ∀ x y, out37op a b x = out37op a b y → x = y := by
  rintro ⟨c, m, n⟩ ⟨d, m', n'⟩ h
  simp [out37op, out37o, G13, jn] at h
  obtain ⟨⟨rfl, rfl⟩, rfl⟩ := h
  rfl
theorem f37o_run {s : Nat × Nat} (h : fitB s) : R37o [.yld 2, .ptr (.glob 0) 0] (G13 s.1 s.2 (.dat (.list .nil 0 []))) = some (.tup [], G13 s.1 s.2 (cO (runsB s))) := by
  have key : ∀ o, (f37ot s.1 s.2).ev = o → R37o [.yld 2, .ptr (.glob 0) 0] (G13 s.1 s.2 (.dat (.list .nil 0 []))) = o := fun o h => by
    rw [Tr.ev_run] at h
    exact h
  refine key _ ?_
  rw [f37ot_eq]
  have e38 := p38 h (G13 s.1 s.2 (.dat (.list .nil 0 [])))
  by_cases h0 : numsB s = []
  · rw [if_pos h0] at e38
    have er : runsB s = [] := by
      unfold runsB
      rw [h0]
      rfl
    rw [er]
    have hl : LoopTo TT t37o.runs (HSt 37) lp37 ⟨mkT 0 49 [(0, .yld 2), (3, .ptr (.loc 0) 0), (7, .dat (.list .nil 0 [])), (8, jn 0), (9, jn 0)], ⟨[some (.obj [jn 0, jn 0])], G13 s.1 s.2 (.dat (.list .nil 0 [])), 0⟩⟩ (out37op s.1 s.2 (.dat (.list .nil 0 []), 0, 0)) := by
      refine LoopTo.last (orc := t37o) (lo := noLo) (fun _ _ _ _ h => h) (LoOk2.no _) ?_ (by simp [out37op, out37o])
      show (rk37oz s.1 s.2).run = _
      rw [← Tr.ev_run, rk37oz_eq]
      rfl
    exact aT (fnS_yes (o1 := oNlI (G13 s.1 s.2 (.dat (.list .nil 0 [])))) oNlI_inj e38) (gStep (fnS_eq (out := oNlI (G13 s.1 s.2 (.dat (.list .nil 0 [])))) oNlI_inj e38) (gStep (loS_eq (out := out37op s.1 s.2) out37op_inj hl) (aF rfl rfl)))
  · rw [if_neg h0] at e38
    have hn := nums_len s
    have he := runE_len (numsB s) (0, 0)
    have hl0 := loop37o (a := s.1) (b := s.2) (numsB s) [] (0, 0) [] (fun k hk => (mem_nums.1 hk).1) (by decide) (by simp only [List.nil_append]; omega) (by simp only [List.length_nil]; omega)
    rw [List.nil_append, List.nil_append] at hl0
    have hl : LoopTo TT t37o.runs (HSt 37) lp37 (inv37o (cO []) s.1 s.2 0 0 (rowN (numsB s)) 0) (out37op s.1 s.2 (cO (runE (numsB s) (0, 0)).1, ((runE (numsB s) (0, 0)).2.1, (runE (numsB s) (0, 0)).2.2))) := hl0
    have er : runsB s = (runE (numsB s) (0, 0)).1 ++ (if (runE (numsB s) (0, 0)).2.2 > 0 then [(runE (numsB s) (0, 0)).2] else []) := runE_eq _ _
    refine aF (fnS_no e38 oNlI_no) (gStep (fnS_eq (out := oOwI (G13 s.1 s.2 (.dat (.list .nil 0 [])))) oOwI_inj e38) (gStep (loS_eq (out := out37op s.1 s.2) out37op_inj hl) ?_))
    by_cases hr : (runE (numsB s) (0, 0)).2.2 > 0
    · rw [if_pos hr] at er
      have hle := runs_le (s := s) (r := (runE (numsB s) (0, 0)).2) (by rw [er]; simp)
      refine aT (by rw [decide_eq_true_eq]; simp only; omega) (gStep (yld_cO (a := s.1) (b := s.2) hle.1 hle.2 (by omega)) ?_)
      rw [er, cO_app]
      rfl
    · rw [if_neg hr, List.append_nil] at er
      refine aF (by rw [decide_eq_false_iff_not]; simp only; omega) ?_
      rw [er]
      rfl

theorem o37on_inj {G : List Ent} : ∀ x y, o37on G x = o37on G y → x = y := fun _ _ _ => rfl
theorem o37or_inj {a b : Int} {c1 : AV} : ∀ x y, o37or (G13 a b c1) x = o37or (G13 a b c1) y → x = y := by
  intro x y h
  simp [o37or, G13] at h
  exact h
theorem o37o_no {a b : Int} {c1 : AV} {y : Row} : ∀ x, o37on (G13 a b c1) x ≠ o37or (G13 a b c1) y := fun x h => by simp [o37on, o37or, G13] at h
end Go.Eng
end

/- Sets of runs: the range over runs, for the program's Longest. -/
section
namespace Go.Eng
open Go
set_option maxRecDepth 100000
set_option linter.unusedSimpArgs false

theorem ym18_eq (a b c d m n : Int) : (ym18 a b c d m n).ev =
  (rAsk (decide (n > d))
   (some ((AV.dat (D.bool true)), [(Ent.obj [(AV.dat (D.int IntKind.u64 a)), (AV.dat (D.int IntKind.u64 b))]), (Ent.obj [(AV.dat (D.int IntKind.i64 m)), (AV.dat (D.int IntKind.i64 n))]), (Ent.lrec LS.ready (mkT 0 15 [(3, (AV.ptr (Ref.glob 1) 0)), (6, (AV.fn 37 [(AV.ptr (Ref.glob 0) 0)]))]) [7] asg18 bd18)]))
   (some ((AV.dat (D.bool true)), [(Ent.obj [(AV.dat (D.int IntKind.u64 a)), (AV.dat (D.int IntKind.u64 b))]), (Ent.obj [(AV.dat (D.int IntKind.i64 c)), (AV.dat (D.int IntKind.i64 d))]), (Ent.lrec LS.ready (mkT 0 15 [(3, (AV.ptr (Ref.glob 1) 0)), (6, (AV.fn 37 [(AV.ptr (Ref.glob 0) 0)]))]) [7] asg18 bd18)]))
  )
  := by kernel_rfl
theorem rk37g_eq (a b c d m n : Int) (l : Row) (i : Int) : (rk37g a b c d m n l i).ev =
  (rAsk (decide (i < (((List.length l) : Nat) : Int)))
   (rAsk ((decide ((0 : Int) ≤ i)) && (decide (i < (((List.length l) : Nat) : Int))))
    (rGet l[(0 + (Int.toNat i))]? fun x1 =>
     (rGet (List.head? (List.drop 0 x1)) fun x2 =>
      (rAsk (decide (n > (0 : Int)))
       (rGet (D.int? IntKind.i64 x2) fun x3 =>
        (rAsk (x3 == (IntKind.wrap IntKind.i64 (m + n)))
         (some (Ex.norm, (St.mk (mkT 0 49 [(0, (AV.yld 2)), (3, (AV.ptr (Ref.loc 0) 0)), (7, (AV.sh false 1 1 0 (List.length l))), (8, (AV.dat (D.int IntKind.i64 (((List.length l) : Nat) : Int)))), (9, (AV.dat (D.int IntKind.i64 (IntKind.wrap IntKind.i64 (i + (1 : Int))))))]) (Mem.mk [(Option.some (Ent.obj [(AV.dat (D.int IntKind.i64 m)), (AV.dat (D.int IntKind.i64 (IntKind.wrap IntKind.i64 (n + (1 : Int)))))])), (Option.some (Ent.row Mode.excl 1 l))] [(Ent.obj [(AV.dat (D.int IntKind.u64 a)), (AV.dat (D.int IntKind.u64 b))]), (Ent.obj [(AV.dat (D.int IntKind.i64 c)), (AV.dat (D.int IntKind.i64 d))]), (Ent.lrec LS.ready (mkT 0 15 [(3, (AV.ptr (Ref.glob 1) 0)), (6, (AV.fn 37 [(AV.ptr (Ref.glob 0) 0)]))]) [7] asg18 bd18)] 0))))
         (rAsk (decide (n > (0 : Int)))
          (rGet (fnS (fun (p : Int × Int) => ((AV.dat (D.bool true)), [(Ent.obj [(AV.dat (D.int IntKind.u64 a)), (AV.dat (D.int IntKind.u64 b))]), (Ent.obj [(AV.dat (D.int IntKind.i64 p.1)), (AV.dat (D.int IntKind.i64 p.2))]), (Ent.lrec LS.ready (mkT 0 15 [(3, (AV.ptr (Ref.glob 1) 0)), (6, (AV.fn 37 [(AV.ptr (Ref.glob 0) 0)]))]) [7] asg18 bd18)])) (Y18 [(AV.agg [(AV.dat (D.int IntKind.i64 m)), (AV.dat (D.int IntKind.i64 n))])] [(Ent.obj [(AV.dat (D.int IntKind.u64 a)), (AV.dat (D.int IntKind.u64 b))]), (Ent.obj [(AV.dat (D.int IntKind.i64 c)), (AV.dat (D.int IntKind.i64 d))]), (Ent.lrec LS.ready (mkT 0 15 [(3, (AV.ptr (Ref.glob 1) 0)), (6, (AV.fn 37 [(AV.ptr (Ref.glob 0) 0)]))]) [7] asg18 bd18)])) fun x4 =>
           (some (Ex.norm, (St.mk (mkT 0 49 [(0, (AV.yld 2)), (3, (AV.ptr (Ref.loc 0) 0)), (7, (AV.sh false 1 1 0 (List.length l))), (8, (AV.dat (D.int IntKind.i64 (((List.length l) : Nat) : Int)))), (9, (AV.dat (D.int IntKind.i64 (IntKind.wrap IntKind.i64 (i + (1 : Int))))))]) (Mem.mk [(Option.some (Ent.obj [(AV.dat x2), (AV.dat (D.int IntKind.i64 (1 : Int)))])), (Option.some (Ent.row Mode.excl 1 l))] [(Ent.obj [(AV.dat (D.int IntKind.u64 a)), (AV.dat (D.int IntKind.u64 b))]), (Ent.obj [(AV.dat (D.int IntKind.i64 x4.1)), (AV.dat (D.int IntKind.i64 x4.2))]), (Ent.lrec LS.ready (mkT 0 15 [(3, (AV.ptr (Ref.glob 1) 0)), (6, (AV.fn 37 [(AV.ptr (Ref.glob 0) 0)]))]) [7] asg18 bd18)] 0))))
          )
          (some (Ex.norm, (St.mk (mkT 0 49 [(0, (AV.yld 2)), (3, (AV.ptr (Ref.loc 0) 0)), (7, (AV.sh false 1 1 0 (List.length l))), (8, (AV.dat (D.int IntKind.i64 (((List.length l) : Nat) : Int)))), (9, (AV.dat (D.int IntKind.i64 (IntKind.wrap IntKind.i64 (i + (1 : Int))))))]) (Mem.mk [(Option.some (Ent.obj [(AV.dat x2), (AV.dat (D.int IntKind.i64 (1 : Int)))])), (Option.some (Ent.row Mode.excl 1 l))] [(Ent.obj [(AV.dat (D.int IntKind.u64 a)), (AV.dat (D.int IntKind.u64 b))]), (Ent.obj [(AV.dat (D.int IntKind.i64 c)), (AV.dat (D.int IntKind.i64 d))]), (Ent.lrec LS.ready (mkT 0 15 [(3, (AV.ptr (Ref.glob 1) 0)), (6, (AV.fn 37 [(AV.ptr (Ref.glob 0) 0)]))]) [7] asg18 bd18)] 0))))
         )
        )
       )
       (rAsk (decide (n > (0 : Int)))
        (rGet (fnS (fun (p : Int × Int) => ((AV.dat (D.bool true)), [(Ent.obj [(AV.dat (D.int IntKind.u64 a)), (AV.dat (D.int IntKind.u64 b))]), (Ent.obj [(AV.dat (D.int IntKind.i64 p.1)), (AV.dat (D.int IntKind.i64 p.2))]), (Ent.lrec LS.ready (mkT 0 15 [(3, (AV.ptr (Ref.glob 1) 0)), (6, (AV.fn 37 [(AV.ptr (Ref.glob 0) 0)]))]) [7] asg18 bd18)])) (Y18 [(AV.agg [(AV.dat (D.int IntKind.i64 m)), (AV.dat (D.int IntKind.i64 n))])] [(Ent.obj [(AV.dat (D.int IntKind.u64 a)), (AV.dat (D.int IntKind.u64 b))]), (Ent.obj [(AV.dat (D.int IntKind.i64 c)), (AV.dat (D.int IntKind.i64 d))]), (Ent.lrec LS.ready (mkT 0 15 [(3, (AV.ptr (Ref.glob 1) 0)), (6, (AV.fn 37 [(AV.ptr (Ref.glob 0) 0)]))]) [7] asg18 bd18)])) fun x5 =>
         (some (Ex.norm, (St.mk (mkT 0 49 [(0, (AV.yld 2)), (3, (AV.ptr (Ref.loc 0) 0)), (7, (AV.sh false 1 1 0 (List.length l))), (8, (AV.dat (D.int IntKind.i64 (((List.length l) : Nat) : Int)))), (9, (AV.dat (D.int IntKind.i64 (IntKind.wrap IntKind.i64 (i + (1 : Int))))))]) (Mem.mk [(Option.some (Ent.obj [(AV.dat x2), (AV.dat (D.int IntKind.i64 (1 : Int)))])), (Option.some (Ent.row Mode.excl 1 l))] [(Ent.obj [(AV.dat (D.int IntKind.u64 a)), (AV.dat (D.int IntKind.u64 b))]), (Ent.obj [(AV.dat (D.int IntKind.i64 x5.1)), (AV.dat (D.int IntKind.i64 x5.2))]), (Ent.lrec LS.ready (mkT 0 15 [(3, (AV.ptr (Ref.glob 1) 0)), (6, (AV.fn 37 [(AV.ptr (Ref.glob 0) 0)]))]) [7] asg18 bd18)] 0))))
        )
        (some (Ex.norm, (St.mk (mkT 0 49 [(0, (AV.yld 2)), (3, (AV.ptr (Ref.loc 0) 0)), (7, (AV.sh false 1 1 0 (List.length l))), (8, (AV.dat (D.int IntKind.i64 (((List.length l) : Nat) : Int)))), (9, (AV.dat (D.int IntKind.i64 (IntKind.wrap IntKind.i64 (i + (1 : Int))))))]) (Mem.mk [(Option.some (Ent.obj [(AV.dat x2), (AV.dat (D.int IntKind.i64 (1 : Int)))])), (Option.some (Ent.row Mode.excl 1 l))] [(Ent.obj [(AV.dat (D.int IntKind.u64 a)), (AV.dat (D.int IntKind.u64 b))]), (Ent.obj [(AV.dat (D.int IntKind.i64 c)), (AV.dat (D.int IntKind.i64 d))]), (Ent.lrec LS.ready (mkT 0 15 [(3, (AV.ptr (Ref.glob 1) 0)), (6, (AV.fn 37 [(AV.ptr (Ref.glob 0) 0)]))]) [7] asg18 bd18)] 0))))
       )
      )
     )
    )
    none
   )
   (some ((Ex.exit 0), (St.mk (mkT 0 49 [(0, (AV.yld 2)), (3, (AV.ptr (Ref.loc 0) 0))]) (Mem.mk [(Option.some (Ent.obj [(AV.dat (D.int IntKind.i64 m)), (AV.dat (D.int IntKind.i64 n))]))] [(Ent.obj [(AV.dat (D.int IntKind.u64 a)), (AV.dat (D.int IntKind.u64 b))]), (Ent.obj [(AV.dat (D.int IntKind.i64 c)), (AV.dat (D.int IntKind.i64 d))]), (Ent.lrec LS.ready (mkT 0 15 [(3, (AV.ptr (Ref.glob 1) 0)), (6, (AV.fn 37 [(AV.ptr (Ref.glob 0) 0)]))]) [7] asg18 bd18)] 0))))
  )
  := by kernel_rfl
theorem rk37gz_eq (a b : Int) : (rk37gz a b).ev =
  (some ((Ex.exit 0), (St.mk (mkT 0 49 [(0, (AV.yld 2)), (3, (AV.ptr (Ref.loc 0) 0))]) (Mem.mk [(Option.some (Ent.obj [(AV.dat (D.int IntKind.i64 (0 : Int))), (AV.dat (D.int IntKind.i64 (0 : Int)))]))] [(Ent.obj [(AV.dat (D.int IntKind.u64 a)), (AV.dat (D.int IntKind.u64 b))]), (Ent.obj [(AV.dat (D.int IntKind.i64 (0 : Int))), (AV.dat (D.int IntKind.i64 (0 : Int)))]), (Ent.lrec LS.ready (mkT 0 15 [(3, (AV.ptr (Ref.glob 1) 0)), (6, (AV.fn 37 [(AV.ptr (Ref.glob 0) 0)]))]) [7] asg18 bd18)] 0))))
  := by kernel_rfl
theorem f37gt_eq (a b : Int) : (f37gt a b).ev =
  (rAsk (Option.isSome (fnS (fun (x : Unit) => ((AV.dat (D.list LK.nil 0 ([] : Row))), [(Ent.obj [(AV.dat (D.int IntKind.u64 a)), (AV.dat (D.int IntKind.u64 b))]), (Ent.obj [(AV.dat (D.int IntKind.i64 (0 : Int))), (AV.dat (D.int IntKind.i64 (0 : Int)))]), (Ent.lrec LS.ready (mkT 0 15 [(3, (AV.ptr (Ref.glob 1) 0)), (6, (AV.fn 37 [(AV.ptr (Ref.glob 0) 0)]))]) [7] asg18 bd18)])) (P38 [(AV.agg [(AV.dat (D.int IntKind.u64 a)), (AV.dat (D.int IntKind.u64 b))])] [(Ent.obj [(AV.dat (D.int IntKind.u64 a)), (AV.dat (D.int IntKind.u64 b))]), (Ent.obj [(AV.dat (D.int IntKind.i64 (0 : Int))), (AV.dat (D.int IntKind.i64 (0 : Int)))]), (Ent.lrec LS.ready (mkT 0 15 [(3, (AV.ptr (Ref.glob 1) 0)), (6, (AV.fn 37 [(AV.ptr (Ref.glob 0) 0)]))]) [7] asg18 bd18)])))
   (rGet (fnS (fun (x : Unit) => ((AV.dat (D.list LK.nil 0 ([] : Row))), [(Ent.obj [(AV.dat (D.int IntKind.u64 a)), (AV.dat (D.int IntKind.u64 b))]), (Ent.obj [(AV.dat (D.int IntKind.i64 (0 : Int))), (AV.dat (D.int IntKind.i64 (0 : Int)))]), (Ent.lrec LS.ready (mkT 0 15 [(3, (AV.ptr (Ref.glob 1) 0)), (6, (AV.fn 37 [(AV.ptr (Ref.glob 0) 0)]))]) [7] asg18 bd18)])) (P38 [(AV.agg [(AV.dat (D.int IntKind.u64 a)), (AV.dat (D.int IntKind.u64 b))])] [(Ent.obj [(AV.dat (D.int IntKind.u64 a)), (AV.dat (D.int IntKind.u64 b))]), (Ent.obj [(AV.dat (D.int IntKind.i64 (0 : Int))), (AV.dat (D.int IntKind.i64 (0 : Int)))]), (Ent.lrec LS.ready (mkT 0 15 [(3, (AV.ptr (Ref.glob 1) 0)), (6, (AV.fn 37 [(AV.ptr (Ref.glob 0) 0)]))]) [7] asg18 bd18)])) fun _ =>
    (rGet (loS TT (TOrc.runs t37g) (HSt 37) lp37 (out37g a b) (St.mk (mkT 0 49 [(0, (AV.yld 2)), (3, (AV.ptr (Ref.loc 0) 0)), (7, (AV.dat (D.list LK.nil 0 ([] : Row)))), (8, (AV.dat (D.int IntKind.i64 (0 : Int)))), (9, (AV.dat (D.int IntKind.i64 (0 : Int))))]) (Mem.mk [(Option.some (Ent.obj [(AV.dat (D.int IntKind.i64 (0 : Int))), (AV.dat (D.int IntKind.i64 (0 : Int)))]))] [(Ent.obj [(AV.dat (D.int IntKind.u64 a)), (AV.dat (D.int IntKind.u64 b))]), (Ent.obj [(AV.dat (D.int IntKind.i64 (0 : Int))), (AV.dat (D.int IntKind.i64 (0 : Int)))]), (Ent.lrec LS.ready (mkT 0 15 [(3, (AV.ptr (Ref.glob 1) 0)), (6, (AV.fn 37 [(AV.ptr (Ref.glob 0) 0)]))]) [7] asg18 bd18)] 0))) fun x2 =>
     (rAsk (decide (x2.2.2 > (0 : Int)))
      (rGet (fnS (fun (p : Int × Int) => ((AV.dat (D.bool true)), [(Ent.obj [(AV.dat (D.int IntKind.u64 a)), (AV.dat (D.int IntKind.u64 b))]), (Ent.obj [(AV.dat (D.int IntKind.i64 p.1)), (AV.dat (D.int IntKind.i64 p.2))]), (Ent.lrec LS.ready (mkT 0 15 [(3, (AV.ptr (Ref.glob 1) 0)), (6, (AV.fn 37 [(AV.ptr (Ref.glob 0) 0)]))]) [7] asg18 bd18)])) (Y18 [(AV.agg [(AV.dat (D.int IntKind.i64 x2.2.1)), (AV.dat (D.int IntKind.i64 x2.2.2))])] [(Ent.obj [(AV.dat (D.int IntKind.u64 a)), (AV.dat (D.int IntKind.u64 b))]), (Ent.obj [(AV.dat (D.int IntKind.i64 x2.1.1)), (AV.dat (D.int IntKind.i64 x2.1.2))]), (Ent.lrec LS.ready (mkT 0 15 [(3, (AV.ptr (Ref.glob 1) 0)), (6, (AV.fn 37 [(AV.ptr (Ref.glob 0) 0)]))]) [7] asg18 bd18)])) fun x3 =>
       (some ((AV.tup []), [(Ent.obj [(AV.dat (D.int IntKind.u64 a)), (AV.dat (D.int IntKind.u64 b))]), (Ent.obj [(AV.dat (D.int IntKind.i64 x3.1)), (AV.dat (D.int IntKind.i64 x3.2))]), (Ent.lrec LS.ready (mkT 0 15 [(3, (AV.ptr (Ref.glob 1) 0)), (6, (AV.fn 37 [(AV.ptr (Ref.glob 0) 0)]))]) [7] asg18 bd18)]))
      )
      (some ((AV.tup []), [(Ent.obj [(AV.dat (D.int IntKind.u64 a)), (AV.dat (D.int IntKind.u64 b))]), (Ent.obj [(AV.dat (D.int IntKind.i64 x2.1.1)), (AV.dat (D.int IntKind.i64 x2.1.2))]), (Ent.lrec LS.ready (mkT 0 15 [(3, (AV.ptr (Ref.glob 1) 0)), (6, (AV.fn 37 [(AV.ptr (Ref.glob 0) 0)]))]) [7] asg18 bd18)]))
     )
    )
   )
   (rGet (fnS (fun (zr : Row) => ((AV.own true 1 zr), [(Ent.obj [(AV.dat (D.int IntKind.u64 a)), (AV.dat (D.int IntKind.u64 b))]), (Ent.obj [(AV.dat (D.int IntKind.i64 (0 : Int))), (AV.dat (D.int IntKind.i64 (0 : Int)))]), (Ent.lrec LS.ready (mkT 0 15 [(3, (AV.ptr (Ref.glob 1) 0)), (6, (AV.fn 37 [(AV.ptr (Ref.glob 0) 0)]))]) [7] asg18 bd18)])) (P38 [(AV.agg [(AV.dat (D.int IntKind.u64 a)), (AV.dat (D.int IntKind.u64 b))])] [(Ent.obj [(AV.dat (D.int IntKind.u64 a)), (AV.dat (D.int IntKind.u64 b))]), (Ent.obj [(AV.dat (D.int IntKind.i64 (0 : Int))), (AV.dat (D.int IntKind.i64 (0 : Int)))]), (Ent.lrec LS.ready (mkT 0 15 [(3, (AV.ptr (Ref.glob 1) 0)), (6, (AV.fn 37 [(AV.ptr (Ref.glob 0) 0)]))]) [7] asg18 bd18)])) fun x4 =>
    (rGet (loS TT (TOrc.runs t37g) (HSt 37) lp37 (out37g a b) (St.mk (mkT 0 49 [(0, (AV.yld 2)), (3, (AV.ptr (Ref.loc 0) 0)), (7, (AV.sh false 1 1 0 (List.length x4))), (8, (AV.dat (D.int IntKind.i64 (((List.length x4) : Nat) : Int)))), (9, (AV.dat (D.int IntKind.i64 (0 : Int))))]) (Mem.mk [(Option.some (Ent.obj [(AV.dat (D.int IntKind.i64 (0 : Int))), (AV.dat (D.int IntKind.i64 (0 : Int)))])), (Option.some (Ent.row Mode.excl 1 x4))] [(Ent.obj [(AV.dat (D.int IntKind.u64 a)), (AV.dat (D.int IntKind.u64 b))]), (Ent.obj [(AV.dat (D.int IntKind.i64 (0 : Int))), (AV.dat (D.int IntKind.i64 (0 : Int)))]), (Ent.lrec LS.ready (mkT 0 15 [(3, (AV.ptr (Ref.glob 1) 0)), (6, (AV.fn 37 [(AV.ptr (Ref.glob 0) 0)]))]) [7] asg18 bd18)] 0))) fun x5 =>
     (rAsk (decide (x5.2.2 > (0 : Int)))
      (rGet (fnS (fun (p : Int × Int) => ((AV.dat (D.bool true)), [(Ent.obj [(AV.dat (D.int IntKind.u64 a)), (AV.dat (D.int IntKind.u64 b))]), (Ent.obj [(AV.dat (D.int IntKind.i64 p.1)), (AV.dat (D.int IntKind.i64 p.2))]), (Ent.lrec LS.ready (mkT 0 15 [(3, (AV.ptr (Ref.glob 1) 0)), (6, (AV.fn 37 [(AV.ptr (Ref.glob 0) 0)]))]) [7] asg18 bd18)])) (Y18 [(AV.agg [(AV.dat (D.int IntKind.i64 x5.2.1)), (AV.dat (D.int IntKind.i64 x5.2.2))])] [(Ent.obj [(AV.dat (D.int IntKind.u64 a)), (AV.dat (D.int IntKind.u64 b))]), (Ent.obj [(AV.dat (D.int IntKind.i64 x5.1.1)), (AV.dat (D.int IntKind.i64 x5.1.2))]), (Ent.lrec LS.ready (mkT 0 15 [(3, (AV.ptr (Ref.glob 1) 0)), (6, (AV.fn 37 [(AV.ptr (Ref.glob 0) 0)]))]) [7] asg18 bd18)])) fun x6 =>
       (some ((AV.tup []), [(Ent.obj [(AV.dat (D.int IntKind.u64 a)), (AV.dat (D.int IntKind.u64 b))]), (Ent.obj [(AV.dat (D.int IntKind.i64 x6.1)), (AV.dat (D.int IntKind.i64 x6.2))]), (Ent.lrec LS.ready (mkT 0 15 [(3, (AV.ptr (Ref.glob 1) 0)), (6, (AV.fn 37 [(AV.ptr (Ref.glob 0) 0)]))]) [7] asg18 bd18)]))
      )
      (some ((AV.tup []), [(Ent.obj [(AV.dat (D.int IntKind.u64 a)), (AV.dat (D.int IntKind.u64 b))]), (Ent.obj [(AV.dat (D.int IntKind.i64 x5.1.1)), (AV.dat (D.int IntKind.i64 x5.1.2))]), (Ent.lrec LS.ready (mkT 0 15 [(3, (AV.ptr (Ref.glob 1) 0)), (6, (AV.fn 37 [(AV.ptr (Ref.glob 0) 0)]))]) [7] asg18 bd18)]))
     )
    )
   )
  )
  := by kernel_rfl
theorem f18t_eq (a b : Int) : (f18t a b).ev =
  (rGet (fnS (fun (p : Int × Int) => ((AV.tup []), [(Ent.obj [(AV.dat (D.int IntKind.u64 a)), (AV.dat (D.int IntKind.u64 b))]), (Ent.obj [(AV.dat (D.int IntKind.i64 p.1)), (AV.dat (D.int IntKind.i64 p.2))]), (Ent.lrec LS.ready (mkT 0 15 [(3, (AV.ptr (Ref.glob 1) 0)), (6, (AV.fn 37 [(AV.ptr (Ref.glob 0) 0)]))]) [7] asg18 bd18)])) (R37g [(AV.yld 2), (AV.ptr (Ref.glob 0) 0)] [(Ent.obj [(AV.dat (D.int IntKind.u64 a)), (AV.dat (D.int IntKind.u64 b))]), (Ent.obj [(AV.dat (D.int IntKind.i64 (0 : Int))), (AV.dat (D.int IntKind.i64 (0 : Int)))]), (Ent.lrec LS.ready (mkT 0 15 [(3, (AV.ptr (Ref.glob 1) 0)), (6, (AV.fn 37 [(AV.ptr (Ref.glob 0) 0)]))]) [7] asg18 bd18)])) fun x1 =>
   (some ((AV.agg [(AV.dat (D.int IntKind.i64 x1.1)), (AV.dat (D.int IntKind.i64 x1.2))]), [(Ent.obj [(AV.dat (D.int IntKind.u64 a)), (AV.dat (D.int IntKind.u64 b))]), (Ent.obj [(AV.dat (D.int IntKind.i64 x1.1)), (AV.dat (D.int IntKind.i64 x1.2))]), Ent.gone]))
  )
  := by kernel_rfl
def upB (B r : Nat × Nat) : Nat × Nat := if r.2 > B.2 then r else B
def longF : List (Nat × Nat) → Nat × Nat → Nat × Nat
  | [], b => b
  | r :: l, b => longF l (upB b r)
theorem longF_app (r : Nat × Nat) : ∀ (l : List (Nat × Nat)) (b : Nat × Nat), longF (l ++ [r]) b = upB (longF l b) r
  | [], _ => rfl
  | q :: l, b => longF_app r l (upB b q)
theorem oYg_inj {a b c d : Int} : ∀ x y, oYg (G18 a b c d) x = oYg (G18 a b c d) y → x = y := by
  rintro ⟨x, y⟩ ⟨z, w⟩ h
  simp [oYg, G18, jn] at h
  obtain ⟨rfl, rfl⟩ := h
  rfl
theorem o37g_inj {a b c d : Int} : ∀ x y, o37g (G18 a b c d) x = o37g (G18 a b c d) y → x = y := by
  rintro ⟨x, y⟩ ⟨z, w⟩ h
  simp [o37g, G18, jn] at h
  obtain ⟨rfl, rfl⟩ := h
  rfl
theorem out37g_inj {a b : Int} : ∀ x y, out37g a b x = out37g a b y → x = y := by
  rintro ⟨⟨x, y⟩, z, w⟩ ⟨⟨x', y'⟩, z', w'⟩ h
  simp [out37g, G18, jn] at h
  obtain ⟨⟨rfl, rfl⟩, rfl, rfl⟩ := h
  rfl
attribute [local irreducible] fnS loS tround P38
theorem y18r {a b : Int} (B : Nat × Nat) (r : Nat × Nat) : Y18 [.agg [jn r.1, jn r.2]] (G18 a b B.1 B.2) = some (oYg (G18 a b B.1 B.2) (c2 (upB B r))) := by
  show (ym18 a b B.1 B.2 r.1 r.2).run = _
  rw [← Tr.ev_run, ym18_eq]
  unfold upB
  by_cases h : r.2 > B.2
  · rw [if_pos h]
    exact aT (by rw [decide_eq_true_eq]; omega) rfl
  · rw [if_neg h]
    exact aF (by rw [decide_eq_false_iff_not]; omega) rfl
attribute [local irreducible] Y18
theorem yld_g {a b : Int} (B r : Nat × Nat) : fnS (oYg (G18 a b B.1 B.2)) (Y18 [.agg [jn r.1, jn r.2]] (G18 a b B.1 B.2)) = some (c2 (upB B r)) := fnS_eq (out := oYg (G18 a b B.1 B.2)) oYg_inj (y18r B r)
theorem go37g {B : Nat × Nat} {a b m n : Int} {l : Row} {i : Int} {o} (h : (rk37g a b B.1 B.2 m n l i).ev = o) : (tround TT t37g noLo (HSt 37) lp37 (inv37g a b B.1 B.2 m n l i)).run = o := by
  rw [Tr.ev_run] at h
  exact h
theorem step37g {a b : Int} (B : Nat × Nat) (r : Nat × Nat) (pre : List Nat) (k : Nat) (l : List Nat) (hr : r.1 + r.2 ≤ 128) (hk : k < 128) (hl : (pre ++ k :: l).length ≤ 1000) :
    (tround TT t37g noLo (HSt 37) lp37 (inv37g a b B.1 B.2 r.1 r.2 (rowN (pre ++ k :: l)) pre.length)).run = some (.norm,
      if r.2 > 0 ∧ k = r.1 + r.2 then inv37g a b B.1 B.2 r.1 ((r.2 + 1 : Nat) : Int) (rowN (pre ++ k :: l)) ((pre.length + 1 : Nat) : Int)
      else if r.2 > 0 then inv37g a b (upB B r).1 (upB B r).2 k 1 (rowN (pre ++ k :: l)) ((pre.length + 1 : Nat) : Int)
      else inv37g a b B.1 B.2 k 1 (rowN (pre ++ k :: l)) ((pre.length + 1 : Nat) : Int)) := by
  have hlen : (rowN (pre ++ k :: l)).length = pre.length + l.length + 1 := by rw [rowN_len, List.length_append, List.length_cons]; omega
  rw [List.length_append, List.length_cons] at hl
  have hb : ((decide ((0 : Int) ≤ ((pre.length : Nat) : Int))) && (decide (((pre.length : Nat) : Int) < (((rowN (pre ++ k :: l)).length : Nat) : Int)))) = true := by
    rw [Bool.and_eq_true, decide_eq_true_eq, decide_eq_true_eq]
    omega
  have a0 : decide (((pre.length : Nat) : Int) < (((rowN (pre ++ k :: l)).length : Nat) : Int)) = true := by rw [decide_eq_true_eq]; omega
  have hat := rowN_at pre k l
  have hwi : IntKind.wrap IntKind.i64 (((pre.length : Nat) : Int) + 1) = ((pre.length + 1 : Nat) : Int) := w64 (by omega) (by omega)
  have hwr : IntKind.wrap IntKind.i64 (((r.1 : Nat) : Int) + ((r.2 : Nat) : Int)) = ((r.1 + r.2 : Nat) : Int) := w64 (by omega) (by omega)
  have hw1 : IntKind.wrap IntKind.i64 (((r.2 : Nat) : Int) + 1) = ((r.2 + 1 : Nat) : Int) := w64 (by omega) (by omega)
  have ye := yld_g (a := a) (b := b) B r
  refine go37g ?_
  rw [rk37g_eq, hwi, hwr]
  refine aT a0 (aT hb (gStep hat (gStep rfl ?_)))
  by_cases h0 : r.2 > 0
  · refine aT (by rw [decide_eq_true_eq]; omega) (gStep (x := ((k : Nat) : Int)) rfl ?_)
    by_cases hk : k = r.1 + r.2
    · refine aT (by rw [beq_iff_eq, hk]) ?_
      rw [if_pos ⟨h0, hk⟩, hw1]
      rfl
    · refine aF (by rw [beq_eq_false_iff_ne]; omega) (aT (by rw [decide_eq_true_eq]; omega) (gStep ye ?_))
      rw [if_neg (fun h => hk h.2), if_pos h0]
      rfl
  · refine aF (by rw [decide_eq_false_iff_not]; omega) (aF (by rw [decide_eq_false_iff_not]; omega) ?_)
    rw [if_neg (fun h => h0 h.1), if_neg h0]
    rfl
theorem loop37g {a b : Int} : ∀ (rest pre : List Nat) (r B : Nat × Nat), (∀ k ∈ rest, k < 128) → r.1 + r.2 ≤ 128 → (pre ++ rest).length ≤ 1000 →
    LoopTo TT t37g.runs (HSt 37) lp37 (inv37g a b B.1 B.2 r.1 r.2 (rowN (pre ++ rest)) pre.length) (out37g a b (c2 (longF (runE rest r).1 B), c2 (runE rest r).2))
  | [], pre, r, B, _, _, _ => by
    rw [runE, List.append_nil]
    refine LoopTo.last (orc := t37g) (lo := noLo) (fun _ _ _ _ h => h) (LoOk2.no _) (go37g ?_) (by simp [out37g])
    have a0 : decide (((pre.length : Nat) : Int) < (((rowN pre).length : Nat) : Int)) = false := by rw [decide_eq_false_iff_not, rowN_len]; omega
    rw [rk37g_eq]
    exact aF a0 rfl
  | k :: rest, pre, r, B, hk, hr, hl => by
    have hk1 := hk k (by simp)
    have step := step37g (a := a) (b := b) B r pre k rest hr hk1 hl
    have e : pre ++ k :: rest = (pre ++ [k]) ++ rest := by simp
    have el : List.length (pre ++ [k]) = pre.length + 1 := by simp
    unfold runE
    split at step
    · rename_i h0
      rw [if_pos h0]
      have ih := loop37g (a := a) (b := b) rest (pre ++ [k]) (r.1, r.2 + 1) B (fun j hj => hk j (by simp [hj])) (by simp only; omega) (by rw [← e]; exact hl)
      rw [← e, el] at ih
      exact LoopTo.more (orc := t37g) (lo := noLo) (fun _ _ _ _ h => h) (LoOk2.no _) step ih
    · rename_i h0
      rw [if_neg h0]
      split at step
      · rename_i h1
        rw [if_pos h1]
        have ih := loop37g (a := a) (b := b) rest (pre ++ [k]) (k, 1) (upB B r) (fun j hj => hk j (by simp [hj])) (by simp only; omega) (by rw [← e]; exact hl)
        rw [← e, el] at ih
        exact LoopTo.more (orc := t37g) (lo := noLo) (fun _ _ _ _ h => h) (LoOk2.no _) step ih
      · rename_i h1
        rw [if_neg h1]
        have ih := loop37g (a := a) (b := b) rest (pre ++ [k]) (k, 1) B (fun j hj => hk j (by simp [hj])) (by simp only; omega) (by rw [← e]; exact hl)
        rw [← e, el] at ih
        exact LoopTo.more (orc := t37g) (lo := noLo) (fun _ _ _ _ h => h) (LoOk2.no _) step ih
theorem f37g_run {s : Nat × Nat} (h : fitB s) : R37g [.yld 2, .ptr (.glob 0) 0] (G18 s.1 s.2 0 0) = some (o37g (G18 s.1 s.2 0 0) (c2 (longF (runsB s) (0, 0)))) := by
  have key : ∀ o, (f37gt s.1 s.2).ev = o → R37g [.yld 2, .ptr (.glob 0) 0] (G18 s.1 s.2 0 0) = o := fun o h => by
    rw [Tr.ev_run] at h
    exact h
  refine key _ ?_
  rw [f37gt_eq]
  have e38 := p38 h (G18 s.1 s.2 0 0)
  by_cases h0 : numsB s = []
  · rw [if_pos h0] at e38
    have er : runsB s = [] := by
      unfold runsB
      rw [h0]
      rfl
    rw [er]
    have hl : LoopTo TT t37g.runs (HSt 37) lp37 ⟨mkT 0 49 [(0, .yld 2), (3, .ptr (.loc 0) 0), (7, .dat (.list .nil 0 [])), (8, jn 0), (9, jn 0)], ⟨[some (.obj [jn 0, jn 0])], G18 s.1 s.2 0 0, 0⟩⟩ (out37g s.1 s.2 ((0, 0), (0, 0))) := by
      refine LoopTo.last (orc := t37g) (lo := noLo) (fun _ _ _ _ h => h) (LoOk2.no _) ?_ (by simp [out37g])
      show (rk37gz s.1 s.2).run = _
      rw [← Tr.ev_run, rk37gz_eq]
      rfl
    exact aT (fnS_yes (o1 := oNlI (G18 s.1 s.2 0 0)) oNlI_inj e38) (gStep (fnS_eq (out := oNlI (G18 s.1 s.2 0 0)) oNlI_inj e38) (gStep (loS_eq (out := out37g s.1 s.2) out37g_inj hl) (aF rfl rfl)))
  · rw [if_neg h0] at e38
    have hl0 := loop37g (a := s.1) (b := s.2) (numsB s) [] (0, 0) (0, 0) (fun k hk => (mem_nums.1 hk).1) (by decide) (by have := nums_len s; simp only [List.nil_append]; omega)
    rw [List.nil_append] at hl0
    have er : runsB s = (runE (numsB s) (0, 0)).1 ++ (if (runE (numsB s) (0, 0)).2.2 > 0 then [(runE (numsB s) (0, 0)).2] else []) := runE_eq _ _
    refine aF (fnS_no e38 oNlI_no) (gStep (fnS_eq (out := oOwI (G18 s.1 s.2 0 0)) oOwI_inj e38) (gStep (loS_eq (out := out37g s.1 s.2) out37g_inj hl0) ?_))
    by_cases hr : (runE (numsB s) (0, 0)).2.2 > 0
    · rw [if_pos hr] at er
      refine aT (by rw [decide_eq_true_eq]; simp only [c2]; omega) (gStep (yld_g (a := s.1) (b := s.2) (longF (runE (numsB s) (0, 0)).1 (0, 0)) (runE (numsB s) (0, 0)).2) ?_)
      rw [er, longF_app]
      rfl
    · rw [if_neg hr, List.append_nil] at er
      refine aF (by rw [decide_eq_false_iff_not]; simp only [c2]; omega) ?_
      rw [er]
      rfl
theorem f18_run {s : Nat × Nat} (h : fitB s) : ∃ G', R18 [st2 s.1 s.2] [] = some (.agg [jn (longF (runsB s) (0, 0)).1, jn (longF (runsB s) (0, 0)).2], G') := by
  have key : ∀ o, (f18t s.1 s.2).ev = o → R18 [st2 s.1 s.2] [] = o := fun o h => by
    rw [Tr.ev_run] at h
    exact h
  have e := f37g_run h
  refine ⟨[.obj [.dat (.int .u64 s.1), .dat (.int .u64 s.2)], .obj [jn (longF (runsB s) (0, 0)).1, jn (longF (runsB s) (0, 0)).2], .gone], key _ ?_⟩
  rw [f18t_eq]
  exact gStep (fnS_eq (out := o37g (G18 s.1 s.2 0 0)) o37g_inj e) rfl
end Go.Eng
end

/- Sets of runs: Of, the document's Longest; RunsOf's law answers true. -/
section
namespace Go.Eng
open Go
set_option maxRecDepth 100000
set_option linter.unusedSimpArgs false

theorem rk19_eq (r : Row) (c d : Int) (i : Int) : (rk19 r c d i).ev =
  (rAsk (decide (i < (((List.length r) : Nat) : Int)))
   (rAsk ((decide ((0 : Int) ≤ i)) && (decide (i < (((List.length r) : Nat) : Int))))
    (rGet r[(0 + (Int.toNat i))]? fun x1 =>
     (rGet (List.head? (List.drop 1 x1)) fun x2 =>
      (rGet (D.int? IntKind.i64 x2) fun x3 =>
       (rAsk (decide (x3 > d))
        (rAsk ((decide ((0 : Int) ≤ i)) && (decide (i < (((List.length r) : Nat) : Int))))
         (rGet r[(0 + (Int.toNat i))]? fun x4 =>
          (rGet (List.head? (List.drop 0 x4)) fun x5 =>
           (rGet (List.head? (List.tail (List.drop 0 x4))) fun x6 =>
            (some (Ex.norm, (St.mk (mkT 0 28 [(2, (AV.ptr (Ref.loc 0) 0)), (3, (AV.ptr (Ref.loc 1) 0)), (4, (AV.sh false 2 2 0 (List.length r))), (5, (AV.dat (D.int IntKind.i64 (IntKind.wrap IntKind.i64 (i + (1 : Int))))))]) (Mem.mk [(Option.some (Ent.obj [(AV.dat (D.int IntKind.i64 (0 : Int))), (AV.dat (D.int IntKind.i64 (0 : Int)))])), (Option.some (Ent.obj [(AV.dat x5), (AV.dat x6)])), (Option.some (Ent.row Mode.excl 2 r))] [] 0))))
           )
          )
         )
         none
        )
        (some (Ex.norm, (St.mk (mkT 0 28 [(2, (AV.ptr (Ref.loc 0) 0)), (3, (AV.ptr (Ref.loc 1) 0)), (4, (AV.sh false 2 2 0 (List.length r))), (5, (AV.dat (D.int IntKind.i64 (IntKind.wrap IntKind.i64 (i + (1 : Int))))))]) (Mem.mk [(Option.some (Ent.obj [(AV.dat (D.int IntKind.i64 (0 : Int))), (AV.dat (D.int IntKind.i64 (0 : Int)))])), (Option.some (Ent.obj [(AV.dat (D.int IntKind.i64 c)), (AV.dat (D.int IntKind.i64 d))])), (Option.some (Ent.row Mode.excl 2 r))] [] 0))))
       )
      )
     )
    )
    none
   )
   (some ((Ex.exit 0), (St.mk (mkT 0 28 [(2, (AV.ptr (Ref.loc 0) 0)), (3, (AV.ptr (Ref.loc 1) 0))]) (Mem.mk [(Option.some (Ent.obj [(AV.dat (D.int IntKind.i64 (0 : Int))), (AV.dat (D.int IntKind.i64 (0 : Int)))])), (Option.some (Ent.obj [(AV.dat (D.int IntKind.i64 c)), (AV.dat (D.int IntKind.i64 d))]))] [] 0))))
  )
  := by kernel_rfl
theorem rk19z_eq : rk19z.ev =
  (some ((Ex.exit 0), (St.mk (mkT 0 28 [(2, (AV.ptr (Ref.loc 0) 0)), (3, (AV.ptr (Ref.loc 1) 0))]) (Mem.mk [(Option.some (Ent.obj [(AV.dat (D.int IntKind.i64 (0 : Int))), (AV.dat (D.int IntKind.i64 (0 : Int)))])), (Option.some (Ent.obj [(AV.dat (D.int IntKind.i64 (0 : Int))), (AV.dat (D.int IntKind.i64 (0 : Int)))]))] [] 0))))
  := by kernel_rfl
theorem f19t_eq (a b : Int) : (f19t a b).ev =
  (rAsk (Option.isSome (fnS (fun (x : Unit) => ((AV.dat (D.list LK.nil 0 ([] : Row))), [])) (P16 [(AV.agg [(AV.dat (D.int IntKind.u64 a)), (AV.dat (D.int IntKind.u64 b))])] [])))
   (rGet (fnS (fun (x : Unit) => ((AV.dat (D.list LK.nil 0 ([] : Row))), [])) (P16 [(AV.agg [(AV.dat (D.int IntKind.u64 a)), (AV.dat (D.int IntKind.u64 b))])] [])) fun _ =>
    (rGet (loS TT (TOrc.runs t19) (HSu 19) lp19 out19 (St.mk (mkT 0 28 [(2, (AV.ptr (Ref.loc 0) 0)), (3, (AV.ptr (Ref.loc 1) 0)), (4, (AV.dat (D.list LK.nil 0 ([] : Row)))), (5, (AV.dat (D.int IntKind.i64 (0 : Int))))]) (Mem.mk [(Option.some (Ent.obj [(AV.dat (D.int IntKind.i64 (0 : Int))), (AV.dat (D.int IntKind.i64 (0 : Int)))])), (Option.some (Ent.obj [(AV.dat (D.int IntKind.i64 (0 : Int))), (AV.dat (D.int IntKind.i64 (0 : Int)))]))] [] 0))) fun x2 =>
     (some ((AV.agg [(AV.dat (D.int IntKind.i64 x2.1)), (AV.dat (D.int IntKind.i64 x2.2))]), []))
    )
   )
   (rGet (fnS (fun (zr : Row) => ((AV.own true 2 zr), [])) (P16 [(AV.agg [(AV.dat (D.int IntKind.u64 a)), (AV.dat (D.int IntKind.u64 b))])] [])) fun x3 =>
    (rGet (loS TT (TOrc.runs t19) (HSu 19) lp19 out19 (St.mk (mkT 0 28 [(2, (AV.ptr (Ref.loc 0) 0)), (3, (AV.ptr (Ref.loc 1) 0)), (4, (AV.sh false 2 2 0 (List.length x3))), (5, (AV.dat (D.int IntKind.i64 (0 : Int))))]) (Mem.mk [(Option.some (Ent.obj [(AV.dat (D.int IntKind.i64 (0 : Int))), (AV.dat (D.int IntKind.i64 (0 : Int)))])), (Option.some (Ent.obj [(AV.dat (D.int IntKind.i64 (0 : Int))), (AV.dat (D.int IntKind.i64 (0 : Int)))])), (Option.some (Ent.row Mode.excl 2 x3))] [] 0))) fun x4 =>
     (some ((AV.agg [(AV.dat (D.int IntKind.i64 x4.1)), (AV.dat (D.int IntKind.i64 x4.2))]), []))
    )
   )
  )
  := by kernel_rfl
theorem f5t_eq (a b : Int) : (f5t a b).ev =
  (rAsk (Option.isSome (fnS (fun (x : Unit) => ((AV.dat (D.list LK.nil 0 ([] : Row))), [])) (P13 [(AV.agg [(AV.dat (D.int IntKind.u64 a)), (AV.dat (D.int IntKind.u64 b))])] [])))
   (rGet (fnS (fun (x : Unit) => ((AV.dat (D.list LK.nil 0 ([] : Row))), [])) (P13 [(AV.agg [(AV.dat (D.int IntKind.u64 a)), (AV.dat (D.int IntKind.u64 b))])] [])) fun _ =>
    (rGet (fnS (fun (p : (Int × Int) × Int) => ((AV.tup [(AV.agg [(AV.dat (D.int IntKind.u64 p.1.1)), (AV.dat (D.int IntKind.u64 p.1.2))]), (AV.dat (D.int IntKind.i64 p.2))]), [])) (P7p [(AV.dat (D.list LK.nil 0 ([] : Row)))] [])) fun x2 =>
     (rGet (fnS (fun (zs : ByteArray) => ((AV.dat (D.str zs)), [])) (P12 [(AV.agg [(AV.dat (D.int IntKind.u64 a)), (AV.dat (D.int IntKind.u64 b))])] [])) fun x3 =>
      (rGet (fnS (fun (p : (Int × Int) × Int) => ((AV.tup [(AV.agg [(AV.dat (D.int IntKind.u64 p.1.1)), (AV.dat (D.int IntKind.u64 p.1.2))]), (AV.dat (D.int IntKind.i64 p.2))]), [])) (P10 [(AV.dat (D.str x3))] [])) fun x4 =>
       (rAsk (Option.isSome (fnS (fun (x : Unit) => ((AV.dat (D.list LK.nil 0 ([] : Row))), [])) (P15 [(AV.dat (D.list LK.nil 0 ([] : Row)))] [])))
        (rGet (fnS (fun (x : Unit) => ((AV.dat (D.list LK.nil 0 ([] : Row))), [])) (P15 [(AV.dat (D.list LK.nil 0 ([] : Row)))] [])) fun _ =>
         (rAsk (Option.isSome (fnS (fun (x : Unit) => ((AV.dat (D.list LK.nil 0 ([] : Row))), [])) (P16 [(AV.agg [(AV.dat (D.int IntKind.u64 a)), (AV.dat (D.int IntKind.u64 b))])] [])))
          (rGet (fnS (fun (x : Unit) => ((AV.dat (D.list LK.nil 0 ([] : Row))), [])) (P16 [(AV.agg [(AV.dat (D.int IntKind.u64 a)), (AV.dat (D.int IntKind.u64 b))])] [])) fun _ =>
           (rGet (fnS (fun (b : Bool) => ((AV.dat (D.bool b)), [])) (P14 [(AV.dat (D.list LK.nil 0 ([] : Row))), (AV.dat (D.list LK.nil 0 ([] : Row)))] [])) fun x7 =>
            (rAsk x7
             (rGet (fnS (fun (zs : ByteArray) => ((AV.dat (D.str zs)), [])) (P12 [(AV.agg [(AV.dat (D.int IntKind.u64 a)), (AV.dat (D.int IntKind.u64 b))])] [])) fun x8 =>
              (rGet (fnS (fun (zs : ByteArray) => ((AV.dat (D.str zs)), [])) (P17 [(AV.agg [(AV.dat (D.int IntKind.u64 a)), (AV.dat (D.int IntKind.u64 b))])] [])) fun x9 =>
               (rAsk ((ByteArray.toList x8) == (ByteArray.toList x9))
                (rGet (fnS (fun (p : Int × Int) => ((AV.agg [(AV.dat (D.int IntKind.i64 p.1)), (AV.dat (D.int IntKind.i64 p.2))]), [])) (P18 [(AV.agg [(AV.dat (D.int IntKind.u64 a)), (AV.dat (D.int IntKind.u64 b))])] [])) fun x10 =>
                 (rGet (fnS (fun (p : Int × Int) => ((AV.agg [(AV.dat (D.int IntKind.i64 p.1)), (AV.dat (D.int IntKind.i64 p.2))]), [])) (P19 [(AV.agg [(AV.dat (D.int IntKind.u64 a)), (AV.dat (D.int IntKind.u64 b))])] [])) fun x11 =>
                  (rAsk ((x10.1 == x11.1) && ((x10.2 == x11.2) && true))
                   (rAsk ((x2.1.1 == a) && ((x2.1.2 == b) && true))
                    (rAsk (x2.2 == (0 : Int))
                     (rAsk ((x4.1.1 == a) && ((x4.1.2 == b) && true))
                      (rAsk (x4.2 == (0 : Int))
                       (rGet (fnS (fun (x : Unit) => ((AV.dat (D.bool true)), [])) (P6 [] [])) fun _ =>
                        (some ((AV.dat (D.bool true)), []))
                       )
                       (some ((AV.dat (D.bool false)), []))
                      )
                      (some ((AV.dat (D.bool false)), []))
                     )
                     (some ((AV.dat (D.bool false)), []))
                    )
                    (some ((AV.dat (D.bool false)), []))
                   )
                   (some ((AV.dat (D.bool false)), []))
                  )
                 )
                )
                (some ((AV.dat (D.bool false)), []))
               )
              )
             )
             (some ((AV.dat (D.bool false)), []))
            )
           )
          )
          (rGet (fnS (fun (zr : Row) => ((AV.own true 2 zr), [])) (P16 [(AV.agg [(AV.dat (D.int IntKind.u64 a)), (AV.dat (D.int IntKind.u64 b))])] [])) fun x13 =>
           (rGet (fnS (fun (b : Bool) => ((AV.dat (D.bool b)), [])) (P14 [(AV.dat (D.list LK.nil 0 ([] : Row))), (AV.dat (D.list LK.any 2 (List.take (List.length x13) (List.drop 0 x13))))] [])) fun x14 =>
            (rAsk x14
             (rGet (fnS (fun (zs : ByteArray) => ((AV.dat (D.str zs)), [])) (P12 [(AV.agg [(AV.dat (D.int IntKind.u64 a)), (AV.dat (D.int IntKind.u64 b))])] [])) fun x15 =>
              (rGet (fnS (fun (zs : ByteArray) => ((AV.dat (D.str zs)), [])) (P17 [(AV.agg [(AV.dat (D.int IntKind.u64 a)), (AV.dat (D.int IntKind.u64 b))])] [])) fun x16 =>
               (rAsk ((ByteArray.toList x15) == (ByteArray.toList x16))
                (rGet (fnS (fun (p : Int × Int) => ((AV.agg [(AV.dat (D.int IntKind.i64 p.1)), (AV.dat (D.int IntKind.i64 p.2))]), [])) (P18 [(AV.agg [(AV.dat (D.int IntKind.u64 a)), (AV.dat (D.int IntKind.u64 b))])] [])) fun x17 =>
                 (rGet (fnS (fun (p : Int × Int) => ((AV.agg [(AV.dat (D.int IntKind.i64 p.1)), (AV.dat (D.int IntKind.i64 p.2))]), [])) (P19 [(AV.agg [(AV.dat (D.int IntKind.u64 a)), (AV.dat (D.int IntKind.u64 b))])] [])) fun x18 =>
                  (rAsk ((x17.1 == x18.1) && ((x17.2 == x18.2) && true))
                   (rAsk ((x2.1.1 == a) && ((x2.1.2 == b) && true))
                    (rAsk (x2.2 == (0 : Int))
                     (rAsk ((x4.1.1 == a) && ((x4.1.2 == b) && true))
                      (rAsk (x4.2 == (0 : Int))
                       (rGet (fnS (fun (x : Unit) => ((AV.dat (D.bool true)), [])) (P6 [] [])) fun _ =>
                        (some ((AV.dat (D.bool true)), []))
                       )
                       (some ((AV.dat (D.bool false)), []))
                      )
                      (some ((AV.dat (D.bool false)), []))
                     )
                     (some ((AV.dat (D.bool false)), []))
                    )
                    (some ((AV.dat (D.bool false)), []))
                   )
                   (some ((AV.dat (D.bool false)), []))
                  )
                 )
                )
                (some ((AV.dat (D.bool false)), []))
               )
              )
             )
             (some ((AV.dat (D.bool false)), []))
            )
           )
          )
         )
        )
        (rGet (fnS (fun (zr : Row) => ((AV.own true 2 zr), [])) (P15 [(AV.dat (D.list LK.nil 0 ([] : Row)))] [])) fun x20 =>
         (rAsk (Option.isSome (fnS (fun (x : Unit) => ((AV.dat (D.list LK.nil 0 ([] : Row))), [])) (P16 [(AV.agg [(AV.dat (D.int IntKind.u64 a)), (AV.dat (D.int IntKind.u64 b))])] [])))
          (rGet (fnS (fun (x : Unit) => ((AV.dat (D.list LK.nil 0 ([] : Row))), [])) (P16 [(AV.agg [(AV.dat (D.int IntKind.u64 a)), (AV.dat (D.int IntKind.u64 b))])] [])) fun _ =>
           (rGet (fnS (fun (b : Bool) => ((AV.dat (D.bool b)), [])) (P14 [(AV.dat (D.list LK.any 2 (List.take (List.length x20) (List.drop 0 x20)))), (AV.dat (D.list LK.nil 0 ([] : Row)))] [])) fun x22 =>
            (rAsk x22
             (rGet (fnS (fun (zs : ByteArray) => ((AV.dat (D.str zs)), [])) (P12 [(AV.agg [(AV.dat (D.int IntKind.u64 a)), (AV.dat (D.int IntKind.u64 b))])] [])) fun x23 =>
              (rGet (fnS (fun (zs : ByteArray) => ((AV.dat (D.str zs)), [])) (P17 [(AV.agg [(AV.dat (D.int IntKind.u64 a)), (AV.dat (D.int IntKind.u64 b))])] [])) fun x24 =>
               (rAsk ((ByteArray.toList x23) == (ByteArray.toList x24))
                (rGet (fnS (fun (p : Int × Int) => ((AV.agg [(AV.dat (D.int IntKind.i64 p.1)), (AV.dat (D.int IntKind.i64 p.2))]), [])) (P18 [(AV.agg [(AV.dat (D.int IntKind.u64 a)), (AV.dat (D.int IntKind.u64 b))])] [])) fun x25 =>
                 (rGet (fnS (fun (p : Int × Int) => ((AV.agg [(AV.dat (D.int IntKind.i64 p.1)), (AV.dat (D.int IntKind.i64 p.2))]), [])) (P19 [(AV.agg [(AV.dat (D.int IntKind.u64 a)), (AV.dat (D.int IntKind.u64 b))])] [])) fun x26 =>
                  (rAsk ((x25.1 == x26.1) && ((x25.2 == x26.2) && true))
                   (rAsk ((x2.1.1 == a) && ((x2.1.2 == b) && true))
                    (rAsk (x2.2 == (0 : Int))
                     (rAsk ((x4.1.1 == a) && ((x4.1.2 == b) && true))
                      (rAsk (x4.2 == (0 : Int))
                       (rGet (fnS (fun (x : Unit) => ((AV.dat (D.bool true)), [])) (P6 [] [])) fun _ =>
                        (some ((AV.dat (D.bool true)), []))
                       )
                       (some ((AV.dat (D.bool false)), []))
                      )
                      (some ((AV.dat (D.bool false)), []))
                     )
                     (some ((AV.dat (D.bool false)), []))
                    )
                    (some ((AV.dat (D.bool false)), []))
                   )
                   (some ((AV.dat (D.bool false)), []))
                  )
                 )
                )
                (some ((AV.dat (D.bool false)), []))
               )
              )
             )
             (some ((AV.dat (D.bool false)), []))
            )
           )
          )
          (rGet (fnS (fun (zr : Row) => ((AV.own true 2 zr), [])) (P16 [(AV.agg [(AV.dat (D.int IntKind.u64 a)), (AV.dat (D.int IntKind.u64 b))])] [])) fun x28 =>
           (rGet (fnS (fun (b : Bool) => ((AV.dat (D.bool b)), [])) (P14 [(AV.dat (D.list LK.any 2 (List.take (List.length x20) (List.drop 0 x20)))), (AV.dat (D.list LK.any 2 (List.take (List.length x28) (List.drop 0 x28))))] [])) fun x29 =>
            (rAsk x29
             (rGet (fnS (fun (zs : ByteArray) => ((AV.dat (D.str zs)), [])) (P12 [(AV.agg [(AV.dat (D.int IntKind.u64 a)), (AV.dat (D.int IntKind.u64 b))])] [])) fun x30 =>
              (rGet (fnS (fun (zs : ByteArray) => ((AV.dat (D.str zs)), [])) (P17 [(AV.agg [(AV.dat (D.int IntKind.u64 a)), (AV.dat (D.int IntKind.u64 b))])] [])) fun x31 =>
               (rAsk ((ByteArray.toList x30) == (ByteArray.toList x31))
                (rGet (fnS (fun (p : Int × Int) => ((AV.agg [(AV.dat (D.int IntKind.i64 p.1)), (AV.dat (D.int IntKind.i64 p.2))]), [])) (P18 [(AV.agg [(AV.dat (D.int IntKind.u64 a)), (AV.dat (D.int IntKind.u64 b))])] [])) fun x32 =>
                 (rGet (fnS (fun (p : Int × Int) => ((AV.agg [(AV.dat (D.int IntKind.i64 p.1)), (AV.dat (D.int IntKind.i64 p.2))]), [])) (P19 [(AV.agg [(AV.dat (D.int IntKind.u64 a)), (AV.dat (D.int IntKind.u64 b))])] [])) fun x33 =>
                  (rAsk ((x32.1 == x33.1) && ((x32.2 == x33.2) && true))
                   (rAsk ((x2.1.1 == a) && ((x2.1.2 == b) && true))
                    (rAsk (x2.2 == (0 : Int))
                     (rAsk ((x4.1.1 == a) && ((x4.1.2 == b) && true))
                      (rAsk (x4.2 == (0 : Int))
                       (rGet (fnS (fun (x : Unit) => ((AV.dat (D.bool true)), [])) (P6 [] [])) fun _ =>
                        (some ((AV.dat (D.bool true)), []))
                       )
                       (some ((AV.dat (D.bool false)), []))
                      )
                      (some ((AV.dat (D.bool false)), []))
                     )
                     (some ((AV.dat (D.bool false)), []))
                    )
                    (some ((AV.dat (D.bool false)), []))
                   )
                   (some ((AV.dat (D.bool false)), []))
                  )
                 )
                )
                (some ((AV.dat (D.bool false)), []))
               )
              )
             )
             (some ((AV.dat (D.bool false)), []))
            )
           )
          )
         )
        )
       )
      )
     )
    )
   )
   (rGet (fnS (fun (zr : Row) => ((AV.dat (D.list LK.any 2 zr)), [])) (P13 [(AV.agg [(AV.dat (D.int IntKind.u64 a)), (AV.dat (D.int IntKind.u64 b))])] [])) fun x35 =>
    (rGet (fnS (fun (p : (Int × Int) × Int) => ((AV.tup [(AV.agg [(AV.dat (D.int IntKind.u64 p.1.1)), (AV.dat (D.int IntKind.u64 p.1.2))]), (AV.dat (D.int IntKind.i64 p.2))]), [])) (P7p [(AV.dat (D.list LK.any 2 x35))] [])) fun x36 =>
     (rGet (fnS (fun (zs : ByteArray) => ((AV.dat (D.str zs)), [])) (P12 [(AV.agg [(AV.dat (D.int IntKind.u64 a)), (AV.dat (D.int IntKind.u64 b))])] [])) fun x37 =>
      (rGet (fnS (fun (p : (Int × Int) × Int) => ((AV.tup [(AV.agg [(AV.dat (D.int IntKind.u64 p.1.1)), (AV.dat (D.int IntKind.u64 p.1.2))]), (AV.dat (D.int IntKind.i64 p.2))]), [])) (P10 [(AV.dat (D.str x37))] [])) fun x38 =>
       (rAsk (Option.isSome (fnS (fun (x : Unit) => ((AV.dat (D.list LK.nil 0 ([] : Row))), [])) (P15 [(AV.dat (D.list LK.any 2 x35))] [])))
        (rGet (fnS (fun (x : Unit) => ((AV.dat (D.list LK.nil 0 ([] : Row))), [])) (P15 [(AV.dat (D.list LK.any 2 x35))] [])) fun _ =>
         (rAsk (Option.isSome (fnS (fun (x : Unit) => ((AV.dat (D.list LK.nil 0 ([] : Row))), [])) (P16 [(AV.agg [(AV.dat (D.int IntKind.u64 a)), (AV.dat (D.int IntKind.u64 b))])] [])))
          (rGet (fnS (fun (x : Unit) => ((AV.dat (D.list LK.nil 0 ([] : Row))), [])) (P16 [(AV.agg [(AV.dat (D.int IntKind.u64 a)), (AV.dat (D.int IntKind.u64 b))])] [])) fun _ =>
           (rGet (fnS (fun (b : Bool) => ((AV.dat (D.bool b)), [])) (P14 [(AV.dat (D.list LK.nil 0 ([] : Row))), (AV.dat (D.list LK.nil 0 ([] : Row)))] [])) fun x41 =>
            (rAsk x41
             (rGet (fnS (fun (zs : ByteArray) => ((AV.dat (D.str zs)), [])) (P12 [(AV.agg [(AV.dat (D.int IntKind.u64 a)), (AV.dat (D.int IntKind.u64 b))])] [])) fun x42 =>
              (rGet (fnS (fun (zs : ByteArray) => ((AV.dat (D.str zs)), [])) (P17 [(AV.agg [(AV.dat (D.int IntKind.u64 a)), (AV.dat (D.int IntKind.u64 b))])] [])) fun x43 =>
               (rAsk ((ByteArray.toList x42) == (ByteArray.toList x43))
                (rGet (fnS (fun (p : Int × Int) => ((AV.agg [(AV.dat (D.int IntKind.i64 p.1)), (AV.dat (D.int IntKind.i64 p.2))]), [])) (P18 [(AV.agg [(AV.dat (D.int IntKind.u64 a)), (AV.dat (D.int IntKind.u64 b))])] [])) fun x44 =>
                 (rGet (fnS (fun (p : Int × Int) => ((AV.agg [(AV.dat (D.int IntKind.i64 p.1)), (AV.dat (D.int IntKind.i64 p.2))]), [])) (P19 [(AV.agg [(AV.dat (D.int IntKind.u64 a)), (AV.dat (D.int IntKind.u64 b))])] [])) fun x45 =>
                  (rAsk ((x44.1 == x45.1) && ((x44.2 == x45.2) && true))
                   (rAsk ((x36.1.1 == a) && ((x36.1.2 == b) && true))
                    (rAsk (x36.2 == (0 : Int))
                     (rAsk ((x38.1.1 == a) && ((x38.1.2 == b) && true))
                      (rAsk (x38.2 == (0 : Int))
                       (rGet (fnS (fun (x : Unit) => ((AV.dat (D.bool true)), [])) (P6 [] [])) fun _ =>
                        (some ((AV.dat (D.bool true)), []))
                       )
                       (some ((AV.dat (D.bool false)), []))
                      )
                      (some ((AV.dat (D.bool false)), []))
                     )
                     (some ((AV.dat (D.bool false)), []))
                    )
                    (some ((AV.dat (D.bool false)), []))
                   )
                   (some ((AV.dat (D.bool false)), []))
                  )
                 )
                )
                (some ((AV.dat (D.bool false)), []))
               )
              )
             )
             (some ((AV.dat (D.bool false)), []))
            )
           )
          )
          (rGet (fnS (fun (zr : Row) => ((AV.own true 2 zr), [])) (P16 [(AV.agg [(AV.dat (D.int IntKind.u64 a)), (AV.dat (D.int IntKind.u64 b))])] [])) fun x47 =>
           (rGet (fnS (fun (b : Bool) => ((AV.dat (D.bool b)), [])) (P14 [(AV.dat (D.list LK.nil 0 ([] : Row))), (AV.dat (D.list LK.any 2 (List.take (List.length x47) (List.drop 0 x47))))] [])) fun x48 =>
            (rAsk x48
             (rGet (fnS (fun (zs : ByteArray) => ((AV.dat (D.str zs)), [])) (P12 [(AV.agg [(AV.dat (D.int IntKind.u64 a)), (AV.dat (D.int IntKind.u64 b))])] [])) fun x49 =>
              (rGet (fnS (fun (zs : ByteArray) => ((AV.dat (D.str zs)), [])) (P17 [(AV.agg [(AV.dat (D.int IntKind.u64 a)), (AV.dat (D.int IntKind.u64 b))])] [])) fun x50 =>
               (rAsk ((ByteArray.toList x49) == (ByteArray.toList x50))
                (rGet (fnS (fun (p : Int × Int) => ((AV.agg [(AV.dat (D.int IntKind.i64 p.1)), (AV.dat (D.int IntKind.i64 p.2))]), [])) (P18 [(AV.agg [(AV.dat (D.int IntKind.u64 a)), (AV.dat (D.int IntKind.u64 b))])] [])) fun x51 =>
                 (rGet (fnS (fun (p : Int × Int) => ((AV.agg [(AV.dat (D.int IntKind.i64 p.1)), (AV.dat (D.int IntKind.i64 p.2))]), [])) (P19 [(AV.agg [(AV.dat (D.int IntKind.u64 a)), (AV.dat (D.int IntKind.u64 b))])] [])) fun x52 =>
                  (rAsk ((x51.1 == x52.1) && ((x51.2 == x52.2) && true))
                   (rAsk ((x36.1.1 == a) && ((x36.1.2 == b) && true))
                    (rAsk (x36.2 == (0 : Int))
                     (rAsk ((x38.1.1 == a) && ((x38.1.2 == b) && true))
                      (rAsk (x38.2 == (0 : Int))
                       (rGet (fnS (fun (x : Unit) => ((AV.dat (D.bool true)), [])) (P6 [] [])) fun _ =>
                        (some ((AV.dat (D.bool true)), []))
                       )
                       (some ((AV.dat (D.bool false)), []))
                      )
                      (some ((AV.dat (D.bool false)), []))
                     )
                     (some ((AV.dat (D.bool false)), []))
                    )
                    (some ((AV.dat (D.bool false)), []))
                   )
                   (some ((AV.dat (D.bool false)), []))
                  )
                 )
                )
                (some ((AV.dat (D.bool false)), []))
               )
              )
             )
             (some ((AV.dat (D.bool false)), []))
            )
           )
          )
         )
        )
        (rGet (fnS (fun (zr : Row) => ((AV.own true 2 zr), [])) (P15 [(AV.dat (D.list LK.any 2 x35))] [])) fun x54 =>
         (rAsk (Option.isSome (fnS (fun (x : Unit) => ((AV.dat (D.list LK.nil 0 ([] : Row))), [])) (P16 [(AV.agg [(AV.dat (D.int IntKind.u64 a)), (AV.dat (D.int IntKind.u64 b))])] [])))
          (rGet (fnS (fun (x : Unit) => ((AV.dat (D.list LK.nil 0 ([] : Row))), [])) (P16 [(AV.agg [(AV.dat (D.int IntKind.u64 a)), (AV.dat (D.int IntKind.u64 b))])] [])) fun _ =>
           (rGet (fnS (fun (b : Bool) => ((AV.dat (D.bool b)), [])) (P14 [(AV.dat (D.list LK.any 2 (List.take (List.length x54) (List.drop 0 x54)))), (AV.dat (D.list LK.nil 0 ([] : Row)))] [])) fun x56 =>
            (rAsk x56
             (rGet (fnS (fun (zs : ByteArray) => ((AV.dat (D.str zs)), [])) (P12 [(AV.agg [(AV.dat (D.int IntKind.u64 a)), (AV.dat (D.int IntKind.u64 b))])] [])) fun x57 =>
              (rGet (fnS (fun (zs : ByteArray) => ((AV.dat (D.str zs)), [])) (P17 [(AV.agg [(AV.dat (D.int IntKind.u64 a)), (AV.dat (D.int IntKind.u64 b))])] [])) fun x58 =>
               (rAsk ((ByteArray.toList x57) == (ByteArray.toList x58))
                (rGet (fnS (fun (p : Int × Int) => ((AV.agg [(AV.dat (D.int IntKind.i64 p.1)), (AV.dat (D.int IntKind.i64 p.2))]), [])) (P18 [(AV.agg [(AV.dat (D.int IntKind.u64 a)), (AV.dat (D.int IntKind.u64 b))])] [])) fun x59 =>
                 (rGet (fnS (fun (p : Int × Int) => ((AV.agg [(AV.dat (D.int IntKind.i64 p.1)), (AV.dat (D.int IntKind.i64 p.2))]), [])) (P19 [(AV.agg [(AV.dat (D.int IntKind.u64 a)), (AV.dat (D.int IntKind.u64 b))])] [])) fun x60 =>
                  (rAsk ((x59.1 == x60.1) && ((x59.2 == x60.2) && true))
                   (rAsk ((x36.1.1 == a) && ((x36.1.2 == b) && true))
                    (rAsk (x36.2 == (0 : Int))
                     (rAsk ((x38.1.1 == a) && ((x38.1.2 == b) && true))
                      (rAsk (x38.2 == (0 : Int))
                       (rGet (fnS (fun (x : Unit) => ((AV.dat (D.bool true)), [])) (P6 [] [])) fun _ =>
                        (some ((AV.dat (D.bool true)), []))
                       )
                       (some ((AV.dat (D.bool false)), []))
                      )
                      (some ((AV.dat (D.bool false)), []))
                     )
                     (some ((AV.dat (D.bool false)), []))
                    )
                    (some ((AV.dat (D.bool false)), []))
                   )
                   (some ((AV.dat (D.bool false)), []))
                  )
                 )
                )
                (some ((AV.dat (D.bool false)), []))
               )
              )
             )
             (some ((AV.dat (D.bool false)), []))
            )
           )
          )
          (rGet (fnS (fun (zr : Row) => ((AV.own true 2 zr), [])) (P16 [(AV.agg [(AV.dat (D.int IntKind.u64 a)), (AV.dat (D.int IntKind.u64 b))])] [])) fun x62 =>
           (rGet (fnS (fun (b : Bool) => ((AV.dat (D.bool b)), [])) (P14 [(AV.dat (D.list LK.any 2 (List.take (List.length x54) (List.drop 0 x54)))), (AV.dat (D.list LK.any 2 (List.take (List.length x62) (List.drop 0 x62))))] [])) fun x63 =>
            (rAsk x63
             (rGet (fnS (fun (zs : ByteArray) => ((AV.dat (D.str zs)), [])) (P12 [(AV.agg [(AV.dat (D.int IntKind.u64 a)), (AV.dat (D.int IntKind.u64 b))])] [])) fun x64 =>
              (rGet (fnS (fun (zs : ByteArray) => ((AV.dat (D.str zs)), [])) (P17 [(AV.agg [(AV.dat (D.int IntKind.u64 a)), (AV.dat (D.int IntKind.u64 b))])] [])) fun x65 =>
               (rAsk ((ByteArray.toList x64) == (ByteArray.toList x65))
                (rGet (fnS (fun (p : Int × Int) => ((AV.agg [(AV.dat (D.int IntKind.i64 p.1)), (AV.dat (D.int IntKind.i64 p.2))]), [])) (P18 [(AV.agg [(AV.dat (D.int IntKind.u64 a)), (AV.dat (D.int IntKind.u64 b))])] [])) fun x66 =>
                 (rGet (fnS (fun (p : Int × Int) => ((AV.agg [(AV.dat (D.int IntKind.i64 p.1)), (AV.dat (D.int IntKind.i64 p.2))]), [])) (P19 [(AV.agg [(AV.dat (D.int IntKind.u64 a)), (AV.dat (D.int IntKind.u64 b))])] [])) fun x67 =>
                  (rAsk ((x66.1 == x67.1) && ((x66.2 == x67.2) && true))
                   (rAsk ((x36.1.1 == a) && ((x36.1.2 == b) && true))
                    (rAsk (x36.2 == (0 : Int))
                     (rAsk ((x38.1.1 == a) && ((x38.1.2 == b) && true))
                      (rAsk (x38.2 == (0 : Int))
                       (rGet (fnS (fun (x : Unit) => ((AV.dat (D.bool true)), [])) (P6 [] [])) fun _ =>
                        (some ((AV.dat (D.bool true)), []))
                       )
                       (some ((AV.dat (D.bool false)), []))
                      )
                      (some ((AV.dat (D.bool false)), []))
                     )
                     (some ((AV.dat (D.bool false)), []))
                    )
                    (some ((AV.dat (D.bool false)), []))
                   )
                   (some ((AV.dat (D.bool false)), []))
                  )
                 )
                )
                (some ((AV.dat (D.bool false)), []))
               )
              )
             )
             (some ((AV.dat (D.bool false)), []))
            )
           )
          )
         )
        )
       )
      )
     )
    )
   )
  )
  := by kernel_rfl
theorem oLa_inj {G : List Ent} : ∀ x y, oLa G x = oLa G y → x = y := by intro x y h; simpa [oLa] using h
theorem oLa_no {G : List Ent} {y : Row} : ∀ x, oNl G x ≠ oLa G y := fun x h => by simp [oNl, oLa] at h
theorem oR2_inj {G : List Ent} : ∀ x y, oR2 G x = oR2 G y → x = y := by
  rintro ⟨a, b⟩ ⟨c, d⟩ h
  simp [oR2, jn] at h
  obtain ⟨rfl, rfl⟩ := h
  rfl
theorem out19_inj : ∀ x y, out19 x = out19 y → x = y := by
  rintro ⟨a, b⟩ ⟨c, d⟩ h
  simp [out19, jn] at h
  obtain ⟨rfl, rfl⟩ := h
  rfl
attribute [local irreducible] fnS loS tround P29 P30 P16 R37o
/-! ### Of -/
theorem f13_run {s : Nat × Nat} (h : fitB s) : ∃ G', R13 [st2 s.1 s.2] [] = some ((match runsB s with
    | [] => .dat (.list .nil 0 [])
    | p :: l => .dat (.list .any 2 (rowC (p :: l)))), G') := by
  have key : ∀ o, (f13t s.1 s.2).ev = o → R13 [st2 s.1 s.2] [] = o := fun o h => by
    rw [Tr.ev_run] at h
    exact h
  have e := f37o_run h
  generalize runsB s = L at e
  cases L with
  | nil =>
    have e : R37o [.yld 2, .ptr (.glob 0) 0] (G13 s.1 s.2 (.dat (.list .nil 0 []))) = some (o37on (G13 s.1 s.2 (.dat (.list .nil 0 []))) ()) := e
    refine ⟨[.obj [.dat (.int .u64 s.1), .dat (.int .u64 s.2)], .obj [.dat (.list .nil 0 [])], .gone], key _ ?_⟩
    rw [f13t_eq]
    exact aT (fnS_yes (o1 := o37on (G13 s.1 s.2 (.dat (.list .nil 0 [])))) o37on_inj e) (gStep (fnS_eq (out := o37on (G13 s.1 s.2 (.dat (.list .nil 0 [])))) o37on_inj e) rfl)
  | cons p l =>
    have e : R37o [.yld 2, .ptr (.glob 0) 0] (G13 s.1 s.2 (.dat (.list .nil 0 []))) = some (o37or (G13 s.1 s.2 (.dat (.list .nil 0 []))) (rowC (p :: l))) := e
    refine ⟨[.obj [.dat (.int .u64 s.1), .dat (.int .u64 s.2)], .obj [.rowc .own 2 (rowC (p :: l))], .gone], key _ ?_⟩
    rw [f13t_eq]
    refine aF (fnS_no e o37o_no) (gStep (fnS_eq (out := o37or (G13 s.1 s.2 (.dat (.list .nil 0 [])))) o37or_inj e) ?_)
    rw [List.drop_zero, List.take_length]
theorem p13 {s : Nat × Nat} (h : fitB s) (G : List Ent) : P13 [st2 s.1 s.2] G = some (match runsB s with
    | [] => oNl G ()
    | p :: l => oLa G (rowC (p :: l))) := by
  obtain ⟨G', q⟩ := f13_run h
  unfold P13
  cases hL : runsB s with
  | nil =>
    rw [hL] at q
    exact pureS_eq rfl q rfl
  | cons p l =>
    rw [hL] at q
    exact pureS_eq rfl q rfl
theorem p18 {s : Nat × Nat} (h : fitB s) (G : List Ent) : P18 [st2 s.1 s.2] G = some (oR2 G (c2 (longF (runsB s) (0, 0)))) := by
  obtain ⟨G', q⟩ := f18_run h
  unfold P18
  exact pureS_eq rfl q rfl
/-! ### the document's Longest -/
theorem go19 {r : Row} {c d : Int} {i : Int} {o} (h : (rk19 r c d i).ev = o) : (tround TT t19 noLo (HSu 19) lp19 (inv19 r c d i)).run = o := by
  rw [Tr.ev_run] at h
  exact h
theorem loop19 : ∀ (rest pre : List (Nat × Nat)) (B : Nat × Nat), (pre ++ rest).length ≤ 1000 →
    LoopTo TT t19.runs (HSu 19) lp19 (inv19 (rowC (pre ++ rest)) B.1 B.2 pre.length) (out19 (c2 (longF rest B)))
  | [], pre, B, hl => by
    refine LoopTo.last (orc := t19) (lo := noLo) (fun _ _ _ _ h => h) (LoOk2.no _) (go19 ?_) (by simp [out19])
    rw [rk19_eq, List.append_nil, rowC_len]
    exact aF (by rw [decide_eq_false_iff_not]; omega) rfl
  | r :: rest, pre, B, hl => by
    have ih := loop19 rest (pre ++ [r]) (upB B r) (by simpa using hl)
    rw [show pre ++ [r] ++ rest = pre ++ r :: rest by simp, show (pre ++ [r]).length = pre.length + 1 by simp] at ih
    have hlen : (rowC (pre ++ r :: rest)).length = pre.length + rest.length + 1 := by rw [rowC_len, List.length_append, List.length_cons]; omega
    rw [List.length_append, List.length_cons] at hl
    have a0 : decide (((pre.length : Nat) : Int) < (((rowC (pre ++ r :: rest)).length : Nat) : Int)) = true := by rw [decide_eq_true_eq]; omega
    have hb : ((decide ((0 : Int) ≤ ((pre.length : Nat) : Int))) && (decide (((pre.length : Nat) : Int) < (((rowC (pre ++ r :: rest)).length : Nat) : Int)))) = true := by
      rw [Bool.and_eq_true, decide_eq_true_eq, decide_eq_true_eq]
      omega
    have hat := rowC_at pre r rest
    have hw : IntKind.wrap IntKind.i64 (((pre.length : Nat) : Int) + (1 : Int)) = ((pre.length + 1 : Nat) : Int) := w64 (by omega) (by omega)
    have step : (tround TT t19 noLo (HSu 19) lp19 (inv19 (rowC (pre ++ r :: rest)) B.1 B.2 pre.length)).run = some (.norm, inv19 (rowC (pre ++ r :: rest)) (upB B r).1 (upB B r).2 ((pre.length + 1 : Nat) : Int)) := by
      refine go19 ?_
      rw [rk19_eq, hw]
      refine aT a0 (aT hb (gStep hat (gStep rfl (gStep (x := ((r.2 : Nat) : Int)) rfl ?_))))
      unfold upB
      by_cases h : r.2 > B.2
      · rw [if_pos h]
        exact aT (by rw [decide_eq_true_eq]; omega) (aT hb (gStep hat (gStep rfl (gStep rfl rfl))))
      · rw [if_neg h]
        exact aF (by rw [decide_eq_false_iff_not]; omega) rfl
    exact LoopTo.more (orc := t19) (lo := noLo) (fun _ _ _ _ h => h) (LoOk2.no _) step ih
theorem f19_run {s : Nat × Nat} (h : fitB s) : R19 [st2 s.1 s.2] [] = some (oR2 [] (c2 (longF (runsB s) (0, 0)))) := by
  have key : ∀ o, (f19t s.1 s.2).ev = o → R19 [st2 s.1 s.2] [] = o := fun o h => by
    rw [Tr.ev_run] at h
    exact h
  refine key _ ?_
  rw [f19t_eq]
  have e16 := p16 h []
  have hnum := runs_num s
  generalize runsB s = L at e16 hnum
  cases L with
  | nil =>
    have e16 : P16 [st2 s.1 s.2] [] = some (oNl [] ()) := e16
    have hl : LoopTo TT t19.runs (HSu 19) lp19 inv19z (out19 (0, 0)) := by
      refine LoopTo.last (orc := t19) (lo := noLo) (fun _ _ _ _ h => h) (LoOk2.no _) ?_ (by simp [out19])
      have := rk19z_eq
      rw [Tr.ev_run] at this
      exact this
    exact aT (fnS_yes (o1 := oNl []) oNl_inj e16) (gStep (fnS_eq (out := oNl []) oNl_inj e16) (gStep (loS_eq (out := out19) out19_inj hl) rfl))
  | cons p l =>
    have e16 : P16 [st2 s.1 s.2] [] = some (oOw [] (rowC (p :: l))) := e16
    have hl := loop19 (p :: l) [] (0, 0) (by simp only [List.nil_append]; omega)
    exact aF (fnS_no e16 oNl_no) (gStep (fnS_eq (out := oOw []) oOw_inj e16) (gStep (loS_eq (out := out19) out19_inj hl) rfl))
theorem p19 {s : Nat × Nat} (h : fitB s) (G : List Ent) : P19 [st2 s.1 s.2] G = some (oR2 G (c2 (longF (runsB s) (0, 0)))) := by
  unfold P19
  exact pureS_eq rfl (f19_run h) rfl
/-! ### taken, Runs -/
theorem p15n (G : List Ent) : P15 [.dat (.list .nil 0 [])] G = some (oNl G ()) := by
  unfold P15
  exact pureS_eq rfl f15_nil rfl
theorem p15r {p : Nat × Nat} {l : List (Nat × Nat)} (h : l.length + 1 ≤ 1000) (G : List Ent) : P15 [.dat (.list .any 2 (rowC (p :: l)))] G = some (oOw G (rowC (p :: l))) := by
  unfold P15
  exact pureS_eq rfl (f15_run (k := .any) (p := ciR p) (ps := l.map ciR) (by rw [List.length_map]; exact h)) rfl
theorem f14_nil : R14 [.dat (.list .nil 0 []), .dat (.list .nil 0 [])] [] = some (oB [] true) := by
  have key : ∀ o, f14z.ev = o → R14 [.dat (.list .nil 0 []), .dat (.list .nil 0 [])] [] = o := fun o h => by
    rw [Tr.ev_run] at h
    exact h
  refine key _ ?_
  rw [f14z_eq]
  have hl : LoopTo TT tNone.runs (HSu 14) lp14 ⟨mkT 0 26 [(0, .dat (.list .nil 0 [])), (1, .dat (.list .nil 0 [])), (5, jn 0)], ⟨[], [], 0⟩⟩ (out14 ()) := by
    refine LoopTo.last (orc := tNone) (lo := noLo) (fun _ _ _ _ h => h) (LoOk2.no _) ?_ (by simp [out14])
    have := rk14z_eq
    rw [Tr.ev_run] at this
    exact this
  exact gStep (loS_eq (out := out14) out14_inj hl) rfl
theorem f14_run {L : List (Nat × Nat)} (h : L.length ≤ 1000) : R14 [.dat (.list .any 2 (rowC L)), .dat (.list .any 2 (rowC L))] [] = some (oB [] true) := by
  have key : ∀ o, (f14t (rowC L) (rowC L)).ev = o → R14 [.dat (.list .any 2 (rowC L)), .dat (.list .any 2 (rowC L))] [] = o := fun o h => by
    rw [Tr.ev_run] at h
    exact h
  refine key _ ?_
  rw [f14t_eq]
  have hl := loop14 (L.map ciR) [] (by rw [List.nil_append, List.length_map]; exact h)
  exact aF (by simp) (gStep (loS_eq (out := out14) out14_inj hl) rfl)
theorem p14n (G : List Ent) : P14 [.dat (.list .nil 0 []), .dat (.list .nil 0 [])] G = some (oB G true) := by
  unfold P14
  exact pureS_eq rfl f14_nil rfl
theorem p14r {L : List (Nat × Nat)} (h : L.length ≤ 1000) (G : List Ent) : P14 [.dat (.list .any 2 (rowC L)), .dat (.list .any 2 (rowC L))] G = some (oB G true) := by
  unfold P14
  exact pureS_eq rfl (f14_run h) rfl
theorem p7n (G : List Ent) : P7p [.dat (.list .nil 0 [])] G = some (oW G (c2 (setF [] (0, 0)).1, 0)) := by
  unfold P7p
  exact pureS_eq rfl f7_nil rfl
theorem progP_textB {s : Nat × Nat} (h : fitB s) : progP (textB s) = some s := by
  by_cases h0 : textB s = []
  · have hr : runsB s = [] := by
      cases hr : runsB s with
      | nil => rfl
      | cons r rs =>
        have hle := fun q (hq : q ∈ runsB s) => runs_le (s := s) (r := q) hq
        rw [hr] at hle
        have := join_len_le rs r fun q hq => by have := hle q hq; omega
        unfold textB at h0
        rw [hr] at h0
        rw [h0] at this
        simp at this
    have hf := fills_runs h
    rw [hr] at hf
    rw [h0, ← hf]
    rfl
  · exact (both_text h rfl h0).1
theorem textB_len (s : Nat × Nat) : (textB s).length ≤ 1100 := by
  have h1 := txt_len (runsB s) fun r hr => runs_le hr
  have h2 := runs_num s
  have : textB s = txt (runsB s) := rfl
  rw [this]
  omega
theorem p10' {s : Nat × Nat} (h : fitB s) (G : List Ent) : P10 [.dat (.str (ba (textB s)))] G = some (oW G (c2 s, 0)) := by
  have e := f10_run (t := textB s) (by have := textB_len s; omega)
  rw [progP_textB h] at e
  unfold P10
  exact pureS_eq rfl e rfl
attribute [local irreducible] P6 P7p P10 P12 P13 P14 P15 P17 P18 P19
theorem f5_run {s : Nat × Nat} (h : fitB s) : R5 [st2 s.1 s.2] [] = some (.dat (.bool true), []) := by
  have key : ∀ o, (f5t s.1 s.2).ev = o → R5 [st2 s.1 s.2] [] = o := fun o h => by
    rw [Tr.ev_run] at h
    exact h
  refine key _ ?_
  rw [f5t_eq]
  have e6 := fnS_eq (out := oT []) oT_inj (p6 (G := []))
  have e10 := fnS_eq (out := oW []) oW_inj' (p10' h [])
  have e12 := fnS_eq (out := oS []) oS_inj (p12 h [])
  have e13 := p13 h []
  have e16 := p16 h []
  have e17 := fnS_eq (out := oS []) oS_inj (p17 h [])
  have e18 := fnS_eq (out := oR2 []) oR2_inj (p18 h [])
  have e19 := fnS_eq (out := oR2 []) oR2_inj (p19 h [])
  have hf := fills_runs h
  have hnum := runs_num s
  have hset := setF_runs (runsB s) (0, 0) fun r hr => runs_le hr
  rw [hf] at hset
  have ht : ((ba (textB s)).toList == (ba (textB s)).toList) = true := by simp
  cases hL : runsB s with
  | nil =>
    rw [hL] at e13 e16 hset hnum
    have e13 : P13 [st2 s.1 s.2] [] = some (oNl [] ()) := e13
    have e16 : P16 [st2 s.1 s.2] [] = some (oNl [] ()) := e16
    have e7 := p7n []
    rw [show (setF [] (0, 0)).1 = s from congrArg (·.1) hset] at e7
    have e7 := fnS_eq (out := oW []) oW_inj' e7
    have e14 := fnS_eq (out := oB []) oB_inj (p14n [])
    refine aT (fnS_yes (o1 := oNl []) oNl_inj e13) (gStep (fnS_eq (out := oNl []) oNl_inj e13) (gStep e7 (gStep e12 (gStep e10 ?_))))
    refine aT (fnS_yes (o1 := oNl []) oNl_inj (p15n [])) (gStep (fnS_eq (out := oNl []) oNl_inj (p15n [])) ?_)
    refine aT (fnS_yes (o1 := oNl []) oNl_inj e16) (gStep (fnS_eq (out := oNl []) oNl_inj e16) ?_)
    exact gStep e14 (aT rfl (gStep e12 (gStep e17 (aT ht (gStep e18 (gStep e19 (aT (by simp) (aT (by simp [c2]) (aT rfl (aT (by simp [c2]) (aT rfl (gStep e6 rfl))))))))))))
  | cons p l =>
    rw [hL] at e13 e16 hset hnum
    rw [List.length_cons] at hnum
    have e13 : P13 [st2 s.1 s.2] [] = some (oLa [] (rowC (p :: l))) := e13
    have e16 : P16 [st2 s.1 s.2] [] = some (oOw [] (rowC (p :: l))) := e16
    have e7 := p7p (k := .any) (ps := (p :: l).map ciR) (by rw [List.length_map, List.length_cons]; omega) []
    rw [hset] at e7
    have e7 := fnS_eq (out := oW []) oW_inj' e7
    have e15 := p15r (p := p) (l := l) (by omega) []
    have e14 : fnS (oB []) (P14 [.dat (.list .any 2 (List.take (List.length (rowC (p :: l))) (List.drop 0 (rowC (p :: l))))), .dat (.list .any 2 (List.take (List.length (rowC (p :: l))) (List.drop 0 (rowC (p :: l)))))] []) = some true := by
      rw [List.drop_zero, List.take_length]
      exact fnS_eq (out := oB []) oB_inj (p14r (L := p :: l) (by rw [List.length_cons]; omega) [])
    refine aF (fnS_no e13 oLa_no) (gStep (fnS_eq (out := oLa []) oLa_inj e13) (gStep e7 (gStep e12 (gStep e10 ?_))))
    refine aF (fnS_no e15 oNl_no) (gStep (fnS_eq (out := oOw []) oOw_inj e15) ?_)
    refine aF (fnS_no e16 oNl_no) (gStep (fnS_eq (out := oOw []) oOw_inj e16) ?_)
    exact gStep e14 (aT rfl (gStep e12 (gStep e17 (aT ht (gStep e18 (gStep e19 (aT (by simp) (aT (by simp [c2]) (aT rfl (aT (by simp [c2]) (aT rfl (gStep e6 rfl))))))))))))
end Go.Eng
end
