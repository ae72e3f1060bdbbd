/- DrillSteps and DrillFirst answer true. -/
import Derived.Test.YtkconbpjimjbnabDf21
section
namespace Go.Eng
open Go
set_option maxRecDepth 100000
set_option linter.unusedSimpArgs false

theorem f5t_eq (x n m : Int) : (f5t x n m).ev =
  (rAsk (Option.isSome (fnS (fun (ys : Row) => ((AV.tup [(AV.agg [(AV.dat (D.int IntKind.u32 (1 : Int))), (AV.dat (D.int IntKind.i64 (4 : Int))), (AV.dat (D.int IntKind.i64 (2 : Int))), (AV.dat (D.int IntKind.i64 (2 : Int))), (AV.dat (D.int IntKind.i64 (11 : Int))), (AV.dat (D.int IntKind.u64 (100 : Int)))]), (AV.dat (D.list LK.any 7 ys)), (AV.dat (D.int IntKind.i64 (0 : Int)))]), [])) (P15 [(AV.dat (D.int IntKind.u64 x)), (AV.dat (D.int IntKind.i64 n))] [])))
   (rGet (fnS (fun (ys : Row) => ((AV.tup [(AV.agg [(AV.dat (D.int IntKind.u32 (1 : Int))), (AV.dat (D.int IntKind.i64 (4 : Int))), (AV.dat (D.int IntKind.i64 (2 : Int))), (AV.dat (D.int IntKind.i64 (2 : Int))), (AV.dat (D.int IntKind.i64 (11 : Int))), (AV.dat (D.int IntKind.u64 (100 : Int)))]), (AV.dat (D.list LK.any 7 ys)), (AV.dat (D.int IntKind.i64 (0 : Int)))]), [])) (P15 [(AV.dat (D.int IntKind.u64 x)), (AV.dat (D.int IntKind.i64 n))] [])) fun x1 =>
    (rAsk (Option.isSome (fnS (fun (ys : Row) => ((AV.tup [(AV.agg [(AV.dat (D.int IntKind.u32 (1 : Int))), (AV.dat (D.int IntKind.i64 (4 : Int))), (AV.dat (D.int IntKind.i64 (2 : Int))), (AV.dat (D.int IntKind.i64 (2 : Int))), (AV.dat (D.int IntKind.i64 (11 : Int))), (AV.dat (D.int IntKind.u64 (100 : Int)))]), (AV.dat (D.list LK.any 7 ys)), (AV.dat (D.int IntKind.i64 (0 : Int)))]), [])) (P15 [(AV.dat (D.int IntKind.u64 x)), (AV.dat (D.int IntKind.i64 m))] [])))
     (rGet (fnS (fun (ys : Row) => ((AV.tup [(AV.agg [(AV.dat (D.int IntKind.u32 (1 : Int))), (AV.dat (D.int IntKind.i64 (4 : Int))), (AV.dat (D.int IntKind.i64 (2 : Int))), (AV.dat (D.int IntKind.i64 (2 : Int))), (AV.dat (D.int IntKind.i64 (11 : Int))), (AV.dat (D.int IntKind.u64 (100 : Int)))]), (AV.dat (D.list LK.any 7 ys)), (AV.dat (D.int IntKind.i64 (0 : Int)))]), [])) (P15 [(AV.dat (D.int IntKind.u64 x)), (AV.dat (D.int IntKind.i64 m))] [])) fun x2 =>
      (rAsk (decide (n > m))
       (rAsk (decide (n > m))
        (rGet (fnS (fun (x : Unit) => ((AV.dat (D.bool true)), [])) (P11 [] [])) fun x3 =>
         (some ((AV.dat (D.bool true)), []))
        )
        (some ((AV.dat (D.bool false)), []))
       )
       (rAsk (decide ((((List.length x1) : Nat) : Int) > (((List.length x2) : Nat) : Int)))
        (rAsk (decide (n > m))
         (rGet (fnS (fun (x : Unit) => ((AV.dat (D.bool true)), [])) (P11 [] [])) fun x4 =>
          (some ((AV.dat (D.bool true)), []))
         )
         (some ((AV.dat (D.bool false)), []))
        )
        (rAsk ((((List.length x1) : Nat) : Int) == n)
         (rAsk (true && (true && (decide ((((List.length x1) : Nat) : Int) ≤ (((List.length x2) : Nat) : Int)))))
          (rGet (fnS (fun (b : Bool) => ((AV.dat (D.bool b)), [])) (P17 [(AV.dat (D.list LK.any 7 x1)), (AV.dat (D.list LK.any 7 (List.take ((Int.toNat (((List.length x1) : Nat) : Int)) - 0) (List.drop 0 x2))))] [])) fun x5 =>
           (rAsk x5
            (rGet (fnS (fun (x : Unit) => ((AV.dat (D.bool true)), [])) (P11 [] [])) fun x6 =>
             (some ((AV.dat (D.bool true)), []))
            )
            (some ((AV.dat (D.bool false)), []))
           )
          )
          none
         )
         (some ((AV.dat (D.bool false)), []))
        )
       )
      )
     )
     (rGet (fnS (fun (p : Int × Int × Int × Int × Int × Int × Int) => ((AV.tup [(AV.agg [(AV.dat (D.int IntKind.u32 p.1)), (AV.dat (D.int IntKind.i64 p.2.1)), (AV.dat (D.int IntKind.i64 p.2.2.1)), (AV.dat (D.int IntKind.i64 p.2.2.2.1)), (AV.dat (D.int IntKind.i64 p.2.2.2.2.1)), (AV.dat (D.int IntKind.u64 p.2.2.2.2.2.1))]), (AV.dat (D.list LK.nil 0 ([] : Row))), (AV.dat (D.int IntKind.i64 p.2.2.2.2.2.2))]), [])) (P15 [(AV.dat (D.int IntKind.u64 x)), (AV.dat (D.int IntKind.i64 m))] [])) fun x7 =>
      (rAsk (x7.2.2.2.2.2.2 != (0 : Int))
       (rAsk (x7.2.2.2.2.2.2 != (0 : Int))
        (rGet (fnS (fun (x : Unit) => ((AV.dat (D.bool true)), [])) (P11 [] [])) fun x8 =>
         (some ((AV.dat (D.bool true)), []))
        )
        (rAsk (decide (n > m))
         (rGet (fnS (fun (x : Unit) => ((AV.dat (D.bool true)), [])) (P11 [] [])) fun x9 =>
          (some ((AV.dat (D.bool true)), []))
         )
         (some ((AV.dat (D.bool false)), []))
        )
       )
       (rAsk (decide (n > m))
        (rAsk (x7.2.2.2.2.2.2 != (0 : Int))
         (rGet (fnS (fun (x : Unit) => ((AV.dat (D.bool true)), [])) (P11 [] [])) fun x10 =>
          (some ((AV.dat (D.bool true)), []))
         )
         (rAsk (decide (n > m))
          (rGet (fnS (fun (x : Unit) => ((AV.dat (D.bool true)), [])) (P11 [] [])) fun x11 =>
           (some ((AV.dat (D.bool true)), []))
          )
          (some ((AV.dat (D.bool false)), []))
         )
        )
        (rAsk (decide ((((List.length x1) : Nat) : Int) > (0 : Int)))
         (rAsk (x7.2.2.2.2.2.2 != (0 : Int))
          (rGet (fnS (fun (x : Unit) => ((AV.dat (D.bool true)), [])) (P11 [] [])) fun x12 =>
           (some ((AV.dat (D.bool true)), []))
          )
          (rAsk (decide (n > m))
           (rGet (fnS (fun (x : Unit) => ((AV.dat (D.bool true)), [])) (P11 [] [])) fun x13 =>
            (some ((AV.dat (D.bool true)), []))
           )
           (some ((AV.dat (D.bool false)), []))
          )
         )
         (rAsk ((((List.length x1) : Nat) : Int) == n)
          (rAsk (true && (true && (decide ((((List.length x1) : Nat) : Int) ≤ (0 : Int)))))
           (rGet (fnS (fun (b : Bool) => ((AV.dat (D.bool b)), [])) (P17 [(AV.dat (D.list LK.any 7 x1)), (AV.dat (D.list LK.nil 0 (List.take ((Int.toNat (((List.length x1) : Nat) : Int)) - 0) ([] : Row))))] [])) fun x14 =>
            (rAsk x14
             (rGet (fnS (fun (x : Unit) => ((AV.dat (D.bool true)), [])) (P11 [] [])) fun x15 =>
              (some ((AV.dat (D.bool true)), []))
             )
             (some ((AV.dat (D.bool false)), []))
            )
           )
           none
          )
          (some ((AV.dat (D.bool false)), []))
         )
        )
       )
      )
     )
    )
   )
   (rGet (fnS (fun (p : Int × Int × Int × Int × Int × Int × Int) => ((AV.tup [(AV.agg [(AV.dat (D.int IntKind.u32 p.1)), (AV.dat (D.int IntKind.i64 p.2.1)), (AV.dat (D.int IntKind.i64 p.2.2.1)), (AV.dat (D.int IntKind.i64 p.2.2.2.1)), (AV.dat (D.int IntKind.i64 p.2.2.2.2.1)), (AV.dat (D.int IntKind.u64 p.2.2.2.2.2.1))]), (AV.dat (D.list LK.nil 0 ([] : Row))), (AV.dat (D.int IntKind.i64 p.2.2.2.2.2.2))]), [])) (P15 [(AV.dat (D.int IntKind.u64 x)), (AV.dat (D.int IntKind.i64 n))] [])) fun x16 =>
    (rAsk (Option.isSome (fnS (fun (ys : Row) => ((AV.tup [(AV.agg [(AV.dat (D.int IntKind.u32 (1 : Int))), (AV.dat (D.int IntKind.i64 (4 : Int))), (AV.dat (D.int IntKind.i64 (2 : Int))), (AV.dat (D.int IntKind.i64 (2 : Int))), (AV.dat (D.int IntKind.i64 (11 : Int))), (AV.dat (D.int IntKind.u64 (100 : Int)))]), (AV.dat (D.list LK.any 7 ys)), (AV.dat (D.int IntKind.i64 (0 : Int)))]), [])) (P15 [(AV.dat (D.int IntKind.u64 x)), (AV.dat (D.int IntKind.i64 m))] [])))
     (rGet (fnS (fun (ys : Row) => ((AV.tup [(AV.agg [(AV.dat (D.int IntKind.u32 (1 : Int))), (AV.dat (D.int IntKind.i64 (4 : Int))), (AV.dat (D.int IntKind.i64 (2 : Int))), (AV.dat (D.int IntKind.i64 (2 : Int))), (AV.dat (D.int IntKind.i64 (11 : Int))), (AV.dat (D.int IntKind.u64 (100 : Int)))]), (AV.dat (D.list LK.any 7 ys)), (AV.dat (D.int IntKind.i64 (0 : Int)))]), [])) (P15 [(AV.dat (D.int IntKind.u64 x)), (AV.dat (D.int IntKind.i64 m))] [])) fun x17 =>
      (rAsk (x16.2.2.2.2.2.2 != (0 : Int))
       (rAsk (x16.2.2.2.2.2.2 != (0 : Int))
        (rGet (fnS (fun (x : Unit) => ((AV.dat (D.bool true)), [])) (P11 [] [])) fun x18 =>
         (some ((AV.dat (D.bool true)), []))
        )
        (rAsk (decide (n > m))
         (rGet (fnS (fun (x : Unit) => ((AV.dat (D.bool true)), [])) (P11 [] [])) fun x19 =>
          (some ((AV.dat (D.bool true)), []))
         )
         (some ((AV.dat (D.bool false)), []))
        )
       )
       (rAsk (decide (n > m))
        (rAsk (x16.2.2.2.2.2.2 != (0 : Int))
         (rGet (fnS (fun (x : Unit) => ((AV.dat (D.bool true)), [])) (P11 [] [])) fun x20 =>
          (some ((AV.dat (D.bool true)), []))
         )
         (rAsk (decide (n > m))
          (rGet (fnS (fun (x : Unit) => ((AV.dat (D.bool true)), [])) (P11 [] [])) fun x21 =>
           (some ((AV.dat (D.bool true)), []))
          )
          (some ((AV.dat (D.bool false)), []))
         )
        )
        (rAsk ((0 : Int) == n)
         (rGet (fnS (fun (b : Bool) => ((AV.dat (D.bool b)), [])) (P17 [(AV.dat (D.list LK.nil 0 ([] : Row))), (AV.dat (D.list LK.any 7 ([] : Row)))] [])) fun x22 =>
          (rAsk x22
           (rGet (fnS (fun (x : Unit) => ((AV.dat (D.bool true)), [])) (P11 [] [])) fun x23 =>
            (some ((AV.dat (D.bool true)), []))
           )
           (some ((AV.dat (D.bool false)), []))
          )
         )
         (some ((AV.dat (D.bool false)), []))
        )
       )
      )
     )
     (rGet (fnS (fun (p : Int × Int × Int × Int × Int × Int × Int) => ((AV.tup [(AV.agg [(AV.dat (D.int IntKind.u32 p.1)), (AV.dat (D.int IntKind.i64 p.2.1)), (AV.dat (D.int IntKind.i64 p.2.2.1)), (AV.dat (D.int IntKind.i64 p.2.2.2.1)), (AV.dat (D.int IntKind.i64 p.2.2.2.2.1)), (AV.dat (D.int IntKind.u64 p.2.2.2.2.2.1))]), (AV.dat (D.list LK.nil 0 ([] : Row))), (AV.dat (D.int IntKind.i64 p.2.2.2.2.2.2))]), [])) (P15 [(AV.dat (D.int IntKind.u64 x)), (AV.dat (D.int IntKind.i64 m))] [])) fun x24 =>
      (rAsk (x16.2.2.2.2.2.2 != (0 : Int))
       (rAsk (x16.2.2.2.2.2.2 != (0 : Int))
        (rGet (fnS (fun (x : Unit) => ((AV.dat (D.bool true)), [])) (P11 [] [])) fun x25 =>
         (some ((AV.dat (D.bool true)), []))
        )
        (rAsk (x24.2.2.2.2.2.2 != (0 : Int))
         (rGet (fnS (fun (x : Unit) => ((AV.dat (D.bool true)), [])) (P11 [] [])) fun x26 =>
          (some ((AV.dat (D.bool true)), []))
         )
         (rAsk (decide (n > m))
          (rGet (fnS (fun (x : Unit) => ((AV.dat (D.bool true)), [])) (P11 [] [])) fun x27 =>
           (some ((AV.dat (D.bool true)), []))
          )
          (some ((AV.dat (D.bool false)), []))
         )
        )
       )
       (rAsk (x24.2.2.2.2.2.2 != (0 : Int))
        (rAsk (x16.2.2.2.2.2.2 != (0 : Int))
         (rGet (fnS (fun (x : Unit) => ((AV.dat (D.bool true)), [])) (P11 [] [])) fun x28 =>
          (some ((AV.dat (D.bool true)), []))
         )
         (rAsk (x24.2.2.2.2.2.2 != (0 : Int))
          (rGet (fnS (fun (x : Unit) => ((AV.dat (D.bool true)), [])) (P11 [] [])) fun x29 =>
           (some ((AV.dat (D.bool true)), []))
          )
          (rAsk (decide (n > m))
           (rGet (fnS (fun (x : Unit) => ((AV.dat (D.bool true)), [])) (P11 [] [])) fun x30 =>
            (some ((AV.dat (D.bool true)), []))
           )
           (some ((AV.dat (D.bool false)), []))
          )
         )
        )
        (rAsk (decide (n > m))
         (rAsk (x16.2.2.2.2.2.2 != (0 : Int))
          (rGet (fnS (fun (x : Unit) => ((AV.dat (D.bool true)), [])) (P11 [] [])) fun x31 =>
           (some ((AV.dat (D.bool true)), []))
          )
          (rAsk (x24.2.2.2.2.2.2 != (0 : Int))
           (rGet (fnS (fun (x : Unit) => ((AV.dat (D.bool true)), [])) (P11 [] [])) fun x32 =>
            (some ((AV.dat (D.bool true)), []))
           )
           (rAsk (decide (n > m))
            (rGet (fnS (fun (x : Unit) => ((AV.dat (D.bool true)), [])) (P11 [] [])) fun x33 =>
             (some ((AV.dat (D.bool true)), []))
            )
            (some ((AV.dat (D.bool false)), []))
           )
          )
         )
         (rAsk ((0 : Int) == n)
          (rGet (fnS (fun (b : Bool) => ((AV.dat (D.bool b)), [])) (P17 [(AV.dat (D.list LK.nil 0 ([] : Row))), (AV.dat (D.list LK.nil 0 ([] : Row)))] [])) fun x34 =>
           (rAsk x34
            (rGet (fnS (fun (x : Unit) => ((AV.dat (D.bool true)), [])) (P11 [] [])) fun x35 =>
             (some ((AV.dat (D.bool true)), []))
            )
            (some ((AV.dat (D.bool false)), []))
           )
          )
          (some ((AV.dat (D.bool false)), []))
         )
        )
       )
      )
     )
    )
   )
  )
  := by kernel_rfl
theorem rk4a_eq (x n : Int) (i : Int) : (rk4a x n i).ev =
  (rAsk (decide (i < (30 : Int)))
   (rGet (fnS (fun (p : Int × Int × Int × Int × ByteArray × Int × D × Int) => ((AV.agg [(AV.dat (D.int IntKind.i64 p.1)), (AV.dat (D.int IntKind.i64 p.2.1)), (AV.dat (D.int IntKind.i64 p.2.2.1)), (AV.dat (D.int IntKind.i64 p.2.2.2.1)), (AV.dat (D.str p.2.2.2.2.1)), (AV.dat (D.int IntKind.i64 p.2.2.2.2.2.1)), (AV.dat p.2.2.2.2.2.2.1)]), [(Ent.obj [(AV.dat (D.int IntKind.u64 p.2.2.2.2.2.2.2))])])) (R13 [(AV.ptr (Ref.glob 0) 0)] [(Ent.obj [(AV.dat (D.int IntKind.u64 x))])])) fun x1 =>
    (rGet (fnS (fun (p : Int × Int × Int × Int × ByteArray × Int × D × Int) => ((AV.agg [(AV.dat (D.int IntKind.i64 p.1)), (AV.dat (D.int IntKind.i64 p.2.1)), (AV.dat (D.int IntKind.i64 p.2.2.1)), (AV.dat (D.int IntKind.i64 p.2.2.2.1)), (AV.dat (D.str p.2.2.2.2.1)), (AV.dat (D.int IntKind.i64 p.2.2.2.2.2.1)), (AV.dat p.2.2.2.2.2.2.1)]), [(Ent.obj [(AV.dat (D.int IntKind.u64 x1.2.2.2.2.2.2.2))]), (Ent.obj [(AV.dat (D.int IntKind.u64 p.2.2.2.2.2.2.2))])])) (R14 [(AV.ptr (Ref.glob 1) 0)] [(Ent.obj [(AV.dat (D.int IntKind.u64 x1.2.2.2.2.2.2.2))]), (Ent.obj [(AV.dat (D.int IntKind.u64 x))])])) fun x2 =>
     (rGet (fnS (fun (b : Bool) => ((AV.dat (D.bool b)), [(Ent.obj [(AV.dat (D.int IntKind.u64 x1.2.2.2.2.2.2.2))]), (Ent.obj [(AV.dat (D.int IntKind.u64 x2.2.2.2.2.2.2.2))])])) (P12 [(AV.agg [(AV.dat (D.int IntKind.i64 x1.1)), (AV.dat (D.int IntKind.i64 x1.2.1)), (AV.dat (D.int IntKind.i64 x1.2.2.1)), (AV.dat (D.int IntKind.i64 x1.2.2.2.1)), (AV.dat (D.str x1.2.2.2.2.1)), (AV.dat (D.int IntKind.i64 x1.2.2.2.2.2.1)), (AV.dat x1.2.2.2.2.2.2.1)]), (AV.agg [(AV.dat (D.int IntKind.i64 x2.1)), (AV.dat (D.int IntKind.i64 x2.2.1)), (AV.dat (D.int IntKind.i64 x2.2.2.1)), (AV.dat (D.int IntKind.i64 x2.2.2.2.1)), (AV.dat (D.str x2.2.2.2.2.1)), (AV.dat (D.int IntKind.i64 x2.2.2.2.2.2.1)), (AV.dat x2.2.2.2.2.2.2.1)])] [(Ent.obj [(AV.dat (D.int IntKind.u64 x1.2.2.2.2.2.2.2))]), (Ent.obj [(AV.dat (D.int IntKind.u64 x2.2.2.2.2.2.2.2))])])) fun x3 =>
      (rAsk (!x3)
       (some (Ex.ret, (St.mk (mkT 0 59 [(0, (AV.dat (D.int IntKind.u64 x))), (1, (AV.dat (D.int IntKind.i64 n)))]) (Mem.mk [] [(Ent.obj [(AV.dat (D.int IntKind.u64 x1.2.2.2.2.2.2.2))]), (Ent.obj [(AV.dat (D.int IntKind.u64 x2.2.2.2.2.2.2.2))])] 0))))
       (some (Ex.norm, (St.mk (mkT 0 59 [(0, (AV.dat (D.int IntKind.u64 x))), (1, (AV.dat (D.int IntKind.i64 n))), (5, (AV.ptr (Ref.glob 0) 0)), (6, (AV.ptr (Ref.glob 1) 0)), (7, (AV.dat (D.int IntKind.i64 (IntKind.wrap IntKind.i64 (i + (1 : Int))))))]) (Mem.mk [] [(Ent.obj [(AV.dat (D.int IntKind.u64 x1.2.2.2.2.2.2.2))]), (Ent.obj [(AV.dat (D.int IntKind.u64 x2.2.2.2.2.2.2.2))])] 0))))
      )
     )
    )
   )
   (some ((Ex.exit 0), (St.mk (mkT 0 59 [(0, (AV.dat (D.int IntKind.u64 x))), (1, (AV.dat (D.int IntKind.i64 n)))]) (Mem.mk [] [(Ent.obj [(AV.dat (D.int IntKind.u64 x))])] 0))))
  )
  := by kernel_rfl
theorem rk4b_eq (x n y z : Int) (i : Int) : (rk4b x n y z i).ev =
  (rAsk (decide (i < (30 : Int)))
   (rGet (fnS (fun (p : Int × Int × Int × Int × ByteArray × Int × D × Int) => ((AV.agg [(AV.dat (D.int IntKind.i64 p.1)), (AV.dat (D.int IntKind.i64 p.2.1)), (AV.dat (D.int IntKind.i64 p.2.2.1)), (AV.dat (D.int IntKind.i64 p.2.2.2.1)), (AV.dat (D.str p.2.2.2.2.1)), (AV.dat (D.int IntKind.i64 p.2.2.2.2.2.1)), (AV.dat p.2.2.2.2.2.2.1)]), [(Ent.obj [(AV.dat (D.int IntKind.u64 p.2.2.2.2.2.2.2))]), (Ent.obj [(AV.dat (D.int IntKind.u64 z))])])) (R13 [(AV.ptr (Ref.glob 0) 0)] [(Ent.obj [(AV.dat (D.int IntKind.u64 y))]), (Ent.obj [(AV.dat (D.int IntKind.u64 z))])])) fun x1 =>
    (rGet (fnS (fun (p : Int × Int × Int × Int × ByteArray × Int × D × Int) => ((AV.agg [(AV.dat (D.int IntKind.i64 p.1)), (AV.dat (D.int IntKind.i64 p.2.1)), (AV.dat (D.int IntKind.i64 p.2.2.1)), (AV.dat (D.int IntKind.i64 p.2.2.2.1)), (AV.dat (D.str p.2.2.2.2.1)), (AV.dat (D.int IntKind.i64 p.2.2.2.2.2.1)), (AV.dat p.2.2.2.2.2.2.1)]), [(Ent.obj [(AV.dat (D.int IntKind.u64 x1.2.2.2.2.2.2.2))]), (Ent.obj [(AV.dat (D.int IntKind.u64 p.2.2.2.2.2.2.2))])])) (R14 [(AV.ptr (Ref.glob 1) 0)] [(Ent.obj [(AV.dat (D.int IntKind.u64 x1.2.2.2.2.2.2.2))]), (Ent.obj [(AV.dat (D.int IntKind.u64 z))])])) fun x2 =>
     (rGet (fnS (fun (b : Bool) => ((AV.dat (D.bool b)), [(Ent.obj [(AV.dat (D.int IntKind.u64 x1.2.2.2.2.2.2.2))]), (Ent.obj [(AV.dat (D.int IntKind.u64 x2.2.2.2.2.2.2.2))])])) (P12 [(AV.agg [(AV.dat (D.int IntKind.i64 x1.1)), (AV.dat (D.int IntKind.i64 x1.2.1)), (AV.dat (D.int IntKind.i64 x1.2.2.1)), (AV.dat (D.int IntKind.i64 x1.2.2.2.1)), (AV.dat (D.str x1.2.2.2.2.1)), (AV.dat (D.int IntKind.i64 x1.2.2.2.2.2.1)), (AV.dat x1.2.2.2.2.2.2.1)]), (AV.agg [(AV.dat (D.int IntKind.i64 x2.1)), (AV.dat (D.int IntKind.i64 x2.2.1)), (AV.dat (D.int IntKind.i64 x2.2.2.1)), (AV.dat (D.int IntKind.i64 x2.2.2.2.1)), (AV.dat (D.str x2.2.2.2.2.1)), (AV.dat (D.int IntKind.i64 x2.2.2.2.2.2.1)), (AV.dat x2.2.2.2.2.2.2.1)])] [(Ent.obj [(AV.dat (D.int IntKind.u64 x1.2.2.2.2.2.2.2))]), (Ent.obj [(AV.dat (D.int IntKind.u64 x2.2.2.2.2.2.2.2))])])) fun x3 =>
      (rAsk (!x3)
       (some (Ex.ret, (St.mk (mkT 0 59 [(0, (AV.dat (D.int IntKind.u64 x))), (1, (AV.dat (D.int IntKind.i64 n)))]) (Mem.mk [] [(Ent.obj [(AV.dat (D.int IntKind.u64 x1.2.2.2.2.2.2.2))]), (Ent.obj [(AV.dat (D.int IntKind.u64 x2.2.2.2.2.2.2.2))])] 0))))
       (some (Ex.norm, (St.mk (mkT 0 59 [(0, (AV.dat (D.int IntKind.u64 x))), (1, (AV.dat (D.int IntKind.i64 n))), (5, (AV.ptr (Ref.glob 0) 0)), (6, (AV.ptr (Ref.glob 1) 0)), (7, (AV.dat (D.int IntKind.i64 (IntKind.wrap IntKind.i64 (i + (1 : Int))))))]) (Mem.mk [] [(Ent.obj [(AV.dat (D.int IntKind.u64 x1.2.2.2.2.2.2.2))]), (Ent.obj [(AV.dat (D.int IntKind.u64 x2.2.2.2.2.2.2.2))])] 0))))
      )
     )
    )
   )
   (some ((Ex.exit 0), (St.mk (mkT 0 59 [(0, (AV.dat (D.int IntKind.u64 x))), (1, (AV.dat (D.int IntKind.i64 n)))]) (Mem.mk [] [(Ent.obj [(AV.dat (D.int IntKind.u64 y))]), (Ent.obj [(AV.dat (D.int IntKind.u64 z))])] 0))))
  )
  := by kernel_rfl
theorem f4t_eq (x n : Int) : (f4t x n).ev =
  (rGet (loS TT (TOrc.runs tZ) (HSc 4) lp4 (out4 x n) (St.mk (mkT 0 59 [(0, (AV.dat (D.int IntKind.u64 x))), (1, (AV.dat (D.int IntKind.i64 n))), (5, (AV.ptr (Ref.glob 0) 0)), (6, (AV.ptr (Ref.loc 0) 0)), (7, (AV.dat (D.int IntKind.i64 (0 : Int))))]) (Mem.mk [(Option.some (Ent.obj [(AV.dat (D.int IntKind.u64 x))]))] [(Ent.obj [(AV.dat (D.int IntKind.u64 x))])] 0))) fun x1 =>
   (rAsk (Option.isSome (fnS (fun (ys : Row) => ((AV.tup [(AV.agg [(AV.dat (D.int IntKind.u32 (1 : Int))), (AV.dat (D.int IntKind.i64 (4 : Int))), (AV.dat (D.int IntKind.i64 (2 : Int))), (AV.dat (D.int IntKind.i64 (2 : Int))), (AV.dat (D.int IntKind.i64 (11 : Int))), (AV.dat (D.int IntKind.u64 (100 : Int)))]), (AV.dat (D.list LK.any 7 ys)), (AV.dat (D.int IntKind.i64 (0 : Int)))]), x1)) (P15 [(AV.dat (D.int IntKind.u64 x)), (AV.dat (D.int IntKind.i64 n))] x1)))
    (rGet (fnS (fun (ys : Row) => ((AV.tup [(AV.agg [(AV.dat (D.int IntKind.u32 (1 : Int))), (AV.dat (D.int IntKind.i64 (4 : Int))), (AV.dat (D.int IntKind.i64 (2 : Int))), (AV.dat (D.int IntKind.i64 (2 : Int))), (AV.dat (D.int IntKind.i64 (11 : Int))), (AV.dat (D.int IntKind.u64 (100 : Int)))]), (AV.dat (D.list LK.any 7 ys)), (AV.dat (D.int IntKind.i64 (0 : Int)))]), x1)) (P15 [(AV.dat (D.int IntKind.u64 x)), (AV.dat (D.int IntKind.i64 n))] x1)) fun x2 =>
     (rAsk (Option.isSome (fnS (fun (ys : Row) => ((AV.tup [(AV.agg [(AV.dat (D.int IntKind.u32 (1 : Int))), (AV.dat (D.int IntKind.i64 (4 : Int))), (AV.dat (D.int IntKind.i64 (2 : Int))), (AV.dat (D.int IntKind.i64 (2 : Int))), (AV.dat (D.int IntKind.i64 (11 : Int))), (AV.dat (D.int IntKind.u64 (100 : Int)))]), (AV.dat (D.list LK.any 7 ys)), (AV.dat (D.int IntKind.i64 (0 : Int)))]), x1)) (P16 [(AV.dat (D.int IntKind.u64 x)), (AV.dat (D.int IntKind.i64 n))] x1)))
      (rGet (fnS (fun (ys : Row) => ((AV.tup [(AV.agg [(AV.dat (D.int IntKind.u32 (1 : Int))), (AV.dat (D.int IntKind.i64 (4 : Int))), (AV.dat (D.int IntKind.i64 (2 : Int))), (AV.dat (D.int IntKind.i64 (2 : Int))), (AV.dat (D.int IntKind.i64 (11 : Int))), (AV.dat (D.int IntKind.u64 (100 : Int)))]), (AV.dat (D.list LK.any 7 ys)), (AV.dat (D.int IntKind.i64 (0 : Int)))]), x1)) (P16 [(AV.dat (D.int IntKind.u64 x)), (AV.dat (D.int IntKind.i64 n))] x1)) fun x3 =>
       (rGet (fnS (fun (b : Bool) => ((AV.dat (D.bool b)), x1)) (P17 [(AV.dat (D.list LK.any 7 x2)), (AV.dat (D.list LK.any 7 x3))] x1)) fun x4 =>
        (rAsk x4
         (rGet (fnS (fun (x : Unit) => ((AV.dat (D.bool true)), x1)) (P11 [] x1)) fun x5 =>
          (some ((AV.dat (D.bool true)), x1))
         )
         (some ((AV.dat (D.bool false)), x1))
        )
       )
      )
      (rGet (fnS (fun (p : Int × Int × Int × Int × Int × Int × Int) => ((AV.tup [(AV.agg [(AV.dat (D.int IntKind.u32 p.1)), (AV.dat (D.int IntKind.i64 p.2.1)), (AV.dat (D.int IntKind.i64 p.2.2.1)), (AV.dat (D.int IntKind.i64 p.2.2.2.1)), (AV.dat (D.int IntKind.i64 p.2.2.2.2.1)), (AV.dat (D.int IntKind.u64 p.2.2.2.2.2.1))]), (AV.dat (D.list LK.nil 0 ([] : Row))), (AV.dat (D.int IntKind.i64 p.2.2.2.2.2.2))]), x1)) (P16 [(AV.dat (D.int IntKind.u64 x)), (AV.dat (D.int IntKind.i64 n))] x1)) fun x6 =>
       (rAsk (((1 : Int) == x6.1) && ((((4 : Int) == x6.2.1) && (((2 : Int) == x6.2.2.1) && (((2 : Int) == x6.2.2.2.1) && (((11 : Int) == x6.2.2.2.2.1) && true)))) && (((100 : Int) == x6.2.2.2.2.2.1) && true)))
        (rGet (fnS (fun (b : Bool) => ((AV.dat (D.bool b)), x1)) (P17 [(AV.dat (D.list LK.any 7 x2)), (AV.dat (D.list LK.nil 0 ([] : Row)))] x1)) fun x7 =>
         (rAsk x7
          (rAsk ((0 : Int) == x6.2.2.2.2.2.2)
           (rGet (fnS (fun (x : Unit) => ((AV.dat (D.bool true)), x1)) (P11 [] x1)) fun x8 =>
            (some ((AV.dat (D.bool true)), x1))
           )
           (some ((AV.dat (D.bool false)), x1))
          )
          (some ((AV.dat (D.bool false)), x1))
         )
        )
        (some ((AV.dat (D.bool false)), x1))
       )
      )
     )
    )
    (rGet (fnS (fun (p : Int × Int × Int × Int × Int × Int × Int) => ((AV.tup [(AV.agg [(AV.dat (D.int IntKind.u32 p.1)), (AV.dat (D.int IntKind.i64 p.2.1)), (AV.dat (D.int IntKind.i64 p.2.2.1)), (AV.dat (D.int IntKind.i64 p.2.2.2.1)), (AV.dat (D.int IntKind.i64 p.2.2.2.2.1)), (AV.dat (D.int IntKind.u64 p.2.2.2.2.2.1))]), (AV.dat (D.list LK.nil 0 ([] : Row))), (AV.dat (D.int IntKind.i64 p.2.2.2.2.2.2))]), x1)) (P15 [(AV.dat (D.int IntKind.u64 x)), (AV.dat (D.int IntKind.i64 n))] x1)) fun x9 =>
     (rAsk (Option.isSome (fnS (fun (ys : Row) => ((AV.tup [(AV.agg [(AV.dat (D.int IntKind.u32 (1 : Int))), (AV.dat (D.int IntKind.i64 (4 : Int))), (AV.dat (D.int IntKind.i64 (2 : Int))), (AV.dat (D.int IntKind.i64 (2 : Int))), (AV.dat (D.int IntKind.i64 (11 : Int))), (AV.dat (D.int IntKind.u64 (100 : Int)))]), (AV.dat (D.list LK.any 7 ys)), (AV.dat (D.int IntKind.i64 (0 : Int)))]), x1)) (P16 [(AV.dat (D.int IntKind.u64 x)), (AV.dat (D.int IntKind.i64 n))] x1)))
      (rGet (fnS (fun (ys : Row) => ((AV.tup [(AV.agg [(AV.dat (D.int IntKind.u32 (1 : Int))), (AV.dat (D.int IntKind.i64 (4 : Int))), (AV.dat (D.int IntKind.i64 (2 : Int))), (AV.dat (D.int IntKind.i64 (2 : Int))), (AV.dat (D.int IntKind.i64 (11 : Int))), (AV.dat (D.int IntKind.u64 (100 : Int)))]), (AV.dat (D.list LK.any 7 ys)), (AV.dat (D.int IntKind.i64 (0 : Int)))]), x1)) (P16 [(AV.dat (D.int IntKind.u64 x)), (AV.dat (D.int IntKind.i64 n))] x1)) fun x10 =>
       (rAsk ((x9.1 == (1 : Int)) && (((x9.2.1 == (4 : Int)) && ((x9.2.2.1 == (2 : Int)) && ((x9.2.2.2.1 == (2 : Int)) && ((x9.2.2.2.2.1 == (11 : Int)) && true)))) && ((x9.2.2.2.2.2.1 == (100 : Int)) && true)))
        (rGet (fnS (fun (b : Bool) => ((AV.dat (D.bool b)), x1)) (P17 [(AV.dat (D.list LK.nil 0 ([] : Row))), (AV.dat (D.list LK.any 7 x10))] x1)) fun x11 =>
         (rAsk x11
          (rAsk (x9.2.2.2.2.2.2 == (0 : Int))
           (rGet (fnS (fun (x : Unit) => ((AV.dat (D.bool true)), x1)) (P11 [] x1)) fun x12 =>
            (some ((AV.dat (D.bool true)), x1))
           )
           (some ((AV.dat (D.bool false)), x1))
          )
          (some ((AV.dat (D.bool false)), x1))
         )
        )
        (some ((AV.dat (D.bool false)), x1))
       )
      )
      (rGet (fnS (fun (p : Int × Int × Int × Int × Int × Int × Int) => ((AV.tup [(AV.agg [(AV.dat (D.int IntKind.u32 p.1)), (AV.dat (D.int IntKind.i64 p.2.1)), (AV.dat (D.int IntKind.i64 p.2.2.1)), (AV.dat (D.int IntKind.i64 p.2.2.2.1)), (AV.dat (D.int IntKind.i64 p.2.2.2.2.1)), (AV.dat (D.int IntKind.u64 p.2.2.2.2.2.1))]), (AV.dat (D.list LK.nil 0 ([] : Row))), (AV.dat (D.int IntKind.i64 p.2.2.2.2.2.2))]), x1)) (P16 [(AV.dat (D.int IntKind.u64 x)), (AV.dat (D.int IntKind.i64 n))] x1)) fun x13 =>
       (rAsk ((x9.1 == x13.1) && (((x9.2.1 == x13.2.1) && ((x9.2.2.1 == x13.2.2.1) && ((x9.2.2.2.1 == x13.2.2.2.1) && ((x9.2.2.2.2.1 == x13.2.2.2.2.1) && true)))) && ((x9.2.2.2.2.2.1 == x13.2.2.2.2.2.1) && true)))
        (rGet (fnS (fun (b : Bool) => ((AV.dat (D.bool b)), x1)) (P17 [(AV.dat (D.list LK.nil 0 ([] : Row))), (AV.dat (D.list LK.nil 0 ([] : Row)))] x1)) fun x14 =>
         (rAsk x14
          (rAsk (x9.2.2.2.2.2.2 == x13.2.2.2.2.2.2)
           (rGet (fnS (fun (x : Unit) => ((AV.dat (D.bool true)), x1)) (P11 [] x1)) fun x15 =>
            (some ((AV.dat (D.bool true)), x1))
           )
           (some ((AV.dat (D.bool false)), x1))
          )
          (some ((AV.dat (D.bool false)), x1))
         )
        )
        (some ((AV.dat (D.bool false)), x1))
       )
      )
     )
    )
   )
  )
  := by kernel_rfl

theorem keepN_len : ∀ (n : Nat) (x : Int), (keepN n x).1.length = n
  | 0, _ => rfl
  | n + 1, x => by simp [keepN, keepN_len n]
theorem bodyS_keep (k x : Int) : (bodyS k x).1.keep.length ≤ 3 := by
  have h := roll_lt (x := (roll x 2).2) (b := 4) (by omega) (by omega)
  unfold bodyS
  repeat' split
  all_goals first
    | (simp only [List.length_nil]; omega)
    | (simp only [keepN_len]; omega)
theorem stepS_keep (x : Int) : (stepS x).1.keep.length ≤ maxLen := by
  have h := bodyS_keep (roll x 20).1 (roll x 20).2
  have : (stepS x).1.keep = (bodyS (roll x 20).1 (roll x 20).2).1.keep := by
    simp only [stepS]
    split <;> rfl
  rw [this]
  unfold maxLen
  omega
theorem scriptN_keep : ∀ (n : Nat) (x : Int), ∀ s ∈ (scriptN n x).1, s.keep.length ≤ maxLen
  | 0, _, s, h => by simp [scriptN] at h
  | n + 1, x, s, h => by
    rcases List.mem_cons.1 h with rfl | h
    · exact stepS_keep x
    · exact scriptN_keep n _ s h

/-! ### the callees -/
def resQ (x n : Int) (G : List Ent) (o : Option (AV × List Ent)) : Prop :=
  (¬ (0 ≤ n ∧ n ≤ 300) ∧ o = some (o15n G (0, 0, 0, 0, 0, 0, 2))) ∨ (n = 0 ∧ o = some (o15n G (1, 4, 2, 2, 11, 100, 0))) ∨ (1 ≤ n ∧ n ≤ 300 ∧ ∃ ys, SR (scriptN n.toNat x).1 ys ∧ o = some (o15y G ys))
theorem p15 {x n : Int} {G : List Ent} : resQ x n G (P15 [.dat (.int .u64 x), .dat (.int .i64 n)] G) := by
  rcases R15_run (x := x) (n := n) with ⟨h1, G', h3⟩ | ⟨h1, G', h3⟩ | ⟨h1, h2, ys, G', hs, h3⟩
  · exact .inl ⟨h1, pureS_eq rfl h3 rfl⟩
  · exact .inr (.inl ⟨h1, pureS_eq rfl h3 rfl⟩)
  · exact .inr (.inr ⟨h1, h2, ys, hs, pureS_eq rfl h3 rfl⟩)
theorem p16 {x n : Int} {G : List Ent} : resQ x n G (P16 [.dat (.int .u64 x), .dat (.int .i64 n)] G) := by
  rcases R16_run (x := x) (n := n) with ⟨h1, G', h3⟩ | ⟨h1, G', h3⟩ | ⟨h1, h2, ys, G', hs, h3⟩
  · exact .inl ⟨h1, pureS_eq rfl h3 rfl⟩
  · exact .inr (.inl ⟨h1, pureS_eq rfl h3 rfl⟩)
  · exact .inr (.inr ⟨h1, h2, ys, hs, pureS_eq rfl h3 rfl⟩)
theorem p17 {sz sz' : Nat} {k k' : LK} {xs ys : Row} {G : List Ent} {ss : List Stp} (hsx : SR ss xs) (hsy : SR ss ys) (hz : ss ≠ [] → sz = 7) (hz' : ss ≠ [] → sz' = 7) (hn : ss.length ≤ 1000) (hk : ∀ s ∈ ss, s.keep.length ≤ maxLen) :
    P17 [.dat (.list k sz xs), .dat (.list k' sz' ys)] G = some (oB G true) := pureS_eq rfl (f17_run (G := []) hsx hsy hz hz' hn hk) rfl
theorem SR.take {ss : List Stp} {xs : Row} (h : SR ss xs) (n : Nat) : SR (ss.take n) (xs.take n) := by
  refine ⟨by simp [h.1], fun i hi => ?_⟩
  have h1 : i < ss.length := by simp at hi; omega
  have h2 : i < n := by simp at hi; omega
  obtain ⟨d, q1, q2⟩ := h.2 i h1
  refine ⟨d, by simpa using q1, ?_⟩
  rw [List.getElem?_take, if_pos h2]
  simpa using q2
theorem no15 {G : List Ent} {p : Int × Int × Int × Int × Int × Int × Int} : ∀ x, o15y G x ≠ o15n G p := fun x h => by simp [o15y, o15n] at h

attribute [local irreducible] fnS loS P11 P12 R13 R14 P15 P16 P17

theorem f5_run {x n m : Int} : ∃ G', (f5t x n m).run = some (.dat (.bool true), G') := by
  refine ⟨[], ?_⟩
  rw [← Tr.ev_run, f5t_eq]
  have e18 := fnS_eq (out := oT []) oT_inj p11
  have pz : ∀ (sz sz' : Nat) (k k' : LK), P17 [.dat (.list k sz []), .dat (.list k' sz' [])] [] = some (oB [] true) := fun sz sz' k k' => p17 SR.nil SR.nil (fun h => absurd rfl h) (fun h => absurd rfl h) (by simp) (by simp)
  rcases p15 (x := x) (n := n) (G := []) with ⟨hn, en⟩ | ⟨hn, en⟩ | ⟨hn1, hn2, xs, hxs, en⟩
  · refine aF (fnS_no en no15) (gStep (fnS_eq (out := o15n []) o15n_inj en) ?_)
    rcases p15 (x := x) (n := m) (G := []) with ⟨hm, em⟩ | ⟨hm, em⟩ | ⟨hm1, hm2, ys, hys, em⟩
    · exact aF (fnS_no em no15) (gStep (fnS_eq (out := o15n []) o15n_inj em) (aT rfl (aT rfl (gStep e18 rfl))))
    · exact aF (fnS_no em no15) (gStep (fnS_eq (out := o15n []) o15n_inj em) (aT rfl (aT rfl (gStep e18 rfl))))
    · exact aT (fnS_yes (o1 := o15y []) o15y_inj em) (gStep (fnS_eq (out := o15y []) o15y_inj em) (aT rfl (aT rfl (gStep e18 rfl))))
  · subst hn
    refine aF (fnS_no en no15) (gStep (fnS_eq (out := o15n []) o15n_inj en) ?_)
    rcases p15 (x := x) (n := m) (G := []) with ⟨hm, em⟩ | ⟨hm, em⟩ | ⟨hm1, hm2, ys, hys, em⟩
    · exact aF (fnS_no em no15) (gStep (fnS_eq (out := o15n []) o15n_inj em) (aF rfl (aT rfl (aF rfl (aT rfl (gStep e18 rfl))))))
    · subst hm
      exact aF (fnS_no em no15) (gStep (fnS_eq (out := o15n []) o15n_inj em) (aF rfl (aF rfl (aF rfl (aT rfl (gStep (fnS_eq (out := oB []) oB_inj (pz 0 0 .nil .nil)) (aT rfl (gStep e18 rfl))))))))
    · exact aT (fnS_yes (o1 := o15y []) o15y_inj em) (gStep (fnS_eq (out := o15y []) o15y_inj em) (aF rfl (aF (by rw [decide_eq_false_iff_not]; omega) (aT rfl (gStep (fnS_eq (out := oB []) oB_inj (pz 0 7 .nil .any)) (aT rfl (gStep e18 rfl)))))))
  · have hlx : xs.length = n.toNat := by rw [hxs.1, scriptN_len]
    refine aT (fnS_yes (o1 := o15y []) o15y_inj en) (gStep (fnS_eq (out := o15y []) o15y_inj en) ?_)
    rcases p15 (x := x) (n := m) (G := []) with ⟨hm, em⟩ | ⟨hm, em⟩ | ⟨hm1, hm2, ys, hys, em⟩
    · exact aF (fnS_no em no15) (gStep (fnS_eq (out := o15n []) o15n_inj em) (aT rfl (aT rfl (gStep e18 rfl))))
    · exact aF (fnS_no em no15) (gStep (fnS_eq (out := o15n []) o15n_inj em) (aF rfl (aT (by rw [decide_eq_true_eq]; omega) (aF rfl (aT (by rw [decide_eq_true_eq]; omega) (gStep e18 rfl))))))
    · have hly : ys.length = m.toNat := by rw [hys.1, scriptN_len]
      refine aT (fnS_yes (o1 := o15y []) o15y_inj em) (gStep (fnS_eq (out := o15y []) o15y_inj em) ?_)
      by_cases hnm : n > m
      · exact aT (by rw [decide_eq_true_eq]; omega) (aT (by rw [decide_eq_true_eq]; omega) (gStep e18 rfl))
      refine aF (by rw [decide_eq_false_iff_not]; omega) (aF (by rw [decide_eq_false_iff_not]; omega) (aT (by rw [beq_iff_eq]; omega) (aT (by simp; omega) ?_)))
      have hcut : List.take ((Int.toNat (((List.length xs) : Nat) : Int)) - 0) (List.drop 0 ys) = ys.take n.toNat := by
        rw [Int.toNat_natCast, List.drop_zero, Nat.sub_zero, hlx]
      rw [hcut]
      have hsy := hys.take n.toNat
      rw [scriptN_take n.toNat m.toNat x (by omega)] at hsy
      have e17 := p17 (k := .any) (k' := .any) (sz := 7) (sz' := 7) (G := []) hxs hsy (fun _ => rfl) (fun _ => rfl) (by rw [scriptN_len]; omega) (scriptN_keep _ _)
      exact gStep (fnS_eq (out := oB []) oB_inj e17) (aT rfl (gStep e18 rfl))

/-! ### DrillSteps -/
theorem loop4b {x n : Int} : ∀ (d i : Nat) (y : Int), i + d = 30 → ∃ z, LoopTo TT tZ.runs (HSc 4) lp4 (inv4b x n y y i) (out4 x n [.obj [.dat (.int .u64 z)], .obj [.dat (.int .u64 z)]])
  | 0, i, y, h => by
    refine ⟨y, LoopTo.last (orc := tZ) (lo := noLo) (fun _ _ _ _ h => h) (LoOk2.no _) ?_ (by simp [out4])⟩
    show (rk4b x n y y i).run = _
    rw [← Tr.ev_run, rk4b_eq]
    exact aF (by rw [decide_eq_false_iff_not]; omega) rfl
  | d + 1, i, y, h => by
    obtain ⟨d1, hd1, hg1⟩ := g13 (x := y) (R := [.obj [.dat (.int .u64 y)]])
    obtain ⟨d2, hd2, hg2⟩ := g14b (e := .obj [.dat (.int .u64 (stepS y).2)]) (x := y) (R := [])
    obtain ⟨k1, z1, rfl, hz1⟩ := hd1.kd
    obtain ⟨k2, z2, rfl, hz2⟩ := hd2.kd
    have e12 := p12 (k := (stepS y).1.kind) (nd := (stepS y).1.node) (at' := (stepS y).1.at') (n := (stepS y).1.n) (s := (stepS y).1.data) (p := (stepS y).1.stop) (kk := k1) (sz := z1) (a := (stepS y).1.keep) (k' := (stepS y).1.kind) (nd' := (stepS y).1.node) (at'' := (stepS y).1.at') (n' := (stepS y).1.n) (s' := (stepS y).1.data) (p' := (stepS y).1.stop) (kk' := k2) (sz' := z2) (b := (stepS y).1.keep) (G := [.obj [.dat (.int .u64 (stepS y).2)], .obj [.dat (.int .u64 (stepS y).2)]]) (stepS_keep y) hz1 hz2
    rw [sameS_self] at e12
    have step : (rk4b x n y y i).run = some (.norm, inv4b x n (stepS y).2 (stepS y).2 ((i + 1 : Nat) : Int)) := by
      rw [← Tr.ev_run, rk4b_eq]
      refine aT (by rw [decide_eq_true_eq]; omega) (gStep hg1 (gStep hg2 (gStep (fnS_eq (out := oB [.obj [.dat (.int .u64 (stepS y).2)], .obj [.dat (.int .u64 (stepS y).2)]]) oB_inj e12) (aF rfl ?_))))
      rw [wI (by omega)]
      rfl
    obtain ⟨z, ih⟩ := loop4b (x := x) (n := n) d (i + 1) (stepS y).2 (by omega)
    exact ⟨z, LoopTo.more (orc := tZ) (lo := noLo) (fun _ _ _ _ h => h) (LoOk2.no _) step ih⟩

theorem loop4a {x n : Int} : ∃ z, LoopTo TT tZ.runs (HSc 4) lp4 (inv4a x n 0) (out4 x n [.obj [.dat (.int .u64 z)], .obj [.dat (.int .u64 z)]]) := by
  obtain ⟨d1, hd1, hg1⟩ := g13 (x := x) (R := [])
  obtain ⟨d2, hd2, hg2⟩ := g14b (e := .obj [.dat (.int .u64 (stepS x).2)]) (x := x) (R := [])
  obtain ⟨k1, z1, rfl, hz1⟩ := hd1.kd
  obtain ⟨k2, z2, rfl, hz2⟩ := hd2.kd
  have e12 := p12 (k := (stepS x).1.kind) (nd := (stepS x).1.node) (at' := (stepS x).1.at') (n := (stepS x).1.n) (s := (stepS x).1.data) (p := (stepS x).1.stop) (kk := k1) (sz := z1) (a := (stepS x).1.keep) (k' := (stepS x).1.kind) (nd' := (stepS x).1.node) (at'' := (stepS x).1.at') (n' := (stepS x).1.n) (s' := (stepS x).1.data) (p' := (stepS x).1.stop) (kk' := k2) (sz' := z2) (b := (stepS x).1.keep) (G := [.obj [.dat (.int .u64 (stepS x).2)], .obj [.dat (.int .u64 (stepS x).2)]]) (stepS_keep x) hz1 hz2
  rw [sameS_self] at e12
  have step : (rk4a x n 0).run = some (.norm, inv4b x n (stepS x).2 (stepS x).2 ((1 : Nat) : Int)) := by
    rw [← Tr.ev_run, rk4a_eq]
    exact aT rfl (gStep hg1 (gStep hg2 (gStep (fnS_eq (out := oB [.obj [.dat (.int .u64 (stepS x).2)], .obj [.dat (.int .u64 (stepS x).2)]]) oB_inj e12) (aF rfl rfl))))
  obtain ⟨z, ih⟩ := loop4b (x := x) (n := n) 29 1 (stepS x).2 (by omega)
  exact ⟨z, LoopTo.more (orc := tZ) (lo := noLo) (fun _ _ _ _ h => h) (LoOk2.no _) step ih⟩

theorem out4_inj {x n : Int} : ∀ p q, out4 x n p = out4 x n q → p = q := by
  intro p q h
  simp [out4, mkT] at h
  exact h

theorem f4_run {x n : Int} : ∃ G', (f4t x n).run = some (.dat (.bool true), G') := by
  obtain ⟨z, hp⟩ := loop4a (x := x) (n := n)
  generalize [Ent.obj [.dat (.int .u64 z)], .obj [.dat (.int .u64 z)]] = G at hp
  refine ⟨G, ?_⟩
  rw [← Tr.ev_run, f4t_eq]
  have e18 := fnS_eq (out := oT G) oT_inj p11
  have pz : ∀ (sz sz' : Nat) (k k' : LK), P17 [.dat (.list k sz []), .dat (.list k' sz' [])] G = some (oB G true) := fun sz sz' k k' => p17 SR.nil SR.nil (fun h => absurd rfl h) (fun h => absurd rfl h) (by simp) (by simp)
  refine gStep (loS_eq (out := out4 x n) out4_inj hp) ?_
  rcases p15 (x := x) (n := n) (G := G) with ⟨hn, en⟩ | ⟨hn, en⟩ | ⟨hn1, hn2, xs, hxs, en⟩
  · rcases p16 (x := x) (n := n) (G := G) with ⟨hm, em⟩ | ⟨hm, em⟩ | ⟨hm1, hm2, ys, hys, em⟩
    · exact aF (fnS_no en no15) (gStep (fnS_eq (out := o15n G) o15n_inj en) (aF (fnS_no em no15) (gStep (fnS_eq (out := o15n G) o15n_inj em) (aT rfl (gStep (fnS_eq (out := oB G) oB_inj (pz 0 0 .nil .nil)) (aT rfl (aT rfl (gStep e18 rfl))))))))
    · omega
    · omega
  · rcases p16 (x := x) (n := n) (G := G) with ⟨hm, em⟩ | ⟨hm, em⟩ | ⟨hm1, hm2, ys, hys, em⟩
    · omega
    · exact aF (fnS_no en no15) (gStep (fnS_eq (out := o15n G) o15n_inj en) (aF (fnS_no em no15) (gStep (fnS_eq (out := o15n G) o15n_inj em) (aT rfl (gStep (fnS_eq (out := oB G) oB_inj (pz 0 0 .nil .nil)) (aT rfl (aT rfl (gStep e18 rfl))))))))
    · omega
  · rcases p16 (x := x) (n := n) (G := G) with ⟨hm, em⟩ | ⟨hm, em⟩ | ⟨hm1, hm2, ys, hys, em⟩
    · omega
    · omega
    · have e17 := p17 (k := .any) (k' := .any) (sz := 7) (sz' := 7) (G := G) hxs hys (fun _ => rfl) (fun _ => rfl) (by rw [scriptN_len]; omega) (scriptN_keep _ _)
      exact aT (fnS_yes (o1 := o15y G) o15y_inj en) (gStep (fnS_eq (out := o15y G) o15y_inj en) (aT (fnS_yes (o1 := o15y G) o15y_inj em) (gStep (fnS_eq (out := o15y G) o15y_inj em) (gStep (fnS_eq (out := oB G) oB_inj e17) (aT rfl (gStep e18 rfl))))))

end Go.Eng
end
