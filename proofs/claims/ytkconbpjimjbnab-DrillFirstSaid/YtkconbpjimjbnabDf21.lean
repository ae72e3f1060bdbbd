/- The document's Step, as a tree: the dice are the second of what is everybody's. -/
import Derived.Test.YtkconbpjimjbnabDf20
section
namespace Go.Eng
open Go
set_option maxRecDepth 100000

theorem m14b_eq (e : Ent) (x : Int) (R : List Ent) : (m14b e x R).ev =
  (rGet (fnS (fun (p : Int × Int) => ((AV.dat (D.int IntKind.i64 p.1)), (e :: (Ent.obj [(AV.dat (D.int IntKind.u64 p.2))]) :: R))) (R10 [(AV.ptr (Ref.glob 1) 0), (AV.dat (D.int IntKind.i64 (20 : Int)))] (e :: (Ent.obj [(AV.dat (D.int IntKind.u64 x))]) :: R))) fun x1 =>
   (rAsk (decide (x1.1 < (5 : Int)))
    (rGet (fnS (fun (p : Int × Int) => ((AV.dat (D.int IntKind.i64 p.1)), (e :: (Ent.obj [(AV.dat (D.int IntKind.u64 p.2))]) :: R))) (R10 [(AV.ptr (Ref.glob 1) 0), (AV.dat (D.int IntKind.i64 (4 : Int)))] (e :: (Ent.obj [(AV.dat (D.int IntKind.u64 x1.2))]) :: R))) fun x2 =>
     (rGet (fnS (fun (p : Int × Int) => ((AV.dat (D.int IntKind.i64 p.1)), (e :: (Ent.obj [(AV.dat (D.int IntKind.u64 p.2))]) :: R))) (R10 [(AV.ptr (Ref.glob 1) 0), (AV.dat (D.int IntKind.i64 (5 : Int)))] (e :: (Ent.obj [(AV.dat (D.int IntKind.u64 x2.2))]) :: R))) fun x3 =>
      (rGet (fnS (fun (s : ByteArray) => ((AV.dat (D.str s)), (e :: (Ent.obj [(AV.dat (D.int IntKind.u64 x3.2))]) :: R))) (P25 [(AV.dat (D.int IntKind.u8 (IntKind.wrap IntKind.u8 x3.1)))] (e :: (Ent.obj [(AV.dat (D.int IntKind.u64 x3.2))]) :: R))) fun x4 =>
       (rGet (fnS (fun (p : Int × Int) => ((AV.dat (D.int IntKind.i64 p.1)), (e :: (Ent.obj [(AV.dat (D.int IntKind.u64 p.2))]) :: R))) (R10 [(AV.ptr (Ref.glob 1) 0), (AV.dat (D.int IntKind.i64 (8 : Int)))] (e :: (Ent.obj [(AV.dat (D.int IntKind.u64 x3.2))]) :: R))) fun x5 =>
        (rAsk (x5.1 == (0 : Int))
         (rAsk (x1.1 != (17 : Int))
          (rGet (fnS (fun (p : Int × Int) => ((AV.dat (D.int IntKind.i64 p.1)), (e :: (Ent.obj [(AV.dat (D.int IntKind.u64 p.2))]) :: R))) (R10 [(AV.ptr (Ref.glob 1) 0), (AV.dat (D.int IntKind.i64 (8 : Int)))] (e :: (Ent.obj [(AV.dat (D.int IntKind.u64 x5.2))]) :: R))) fun x6 =>
           (some ((AV.agg [(AV.dat (D.int IntKind.i64 (2 : Int))), (AV.dat (D.int IntKind.i64 (0 : Int))), (AV.dat (D.int IntKind.i64 x2.1)), (AV.dat (D.int IntKind.i64 (0 : Int))), (AV.dat (D.str x4)), (AV.dat (D.int IntKind.i64 (IntKind.wrap IntKind.i64 ((1 : Int) + x6.1)))), (AV.dat (D.list LK.nil 0 ([] : Row)))]), (e :: (Ent.obj [(AV.dat (D.int IntKind.u64 x6.2))]) :: R)))
          )
          (some ((AV.agg [(AV.dat (D.int IntKind.i64 (2 : Int))), (AV.dat (D.int IntKind.i64 (0 : Int))), (AV.dat (D.int IntKind.i64 x2.1)), (AV.dat (D.int IntKind.i64 (0 : Int))), (AV.dat (D.str x4)), (AV.dat (D.int IntKind.i64 (0 : Int))), (AV.dat (D.list LK.nil 0 ([] : Row)))]), (e :: (Ent.obj [(AV.dat (D.int IntKind.u64 x5.2))]) :: R)))
         )
         (some ((AV.agg [(AV.dat (D.int IntKind.i64 (2 : Int))), (AV.dat (D.int IntKind.i64 (0 : Int))), (AV.dat (D.int IntKind.i64 x2.1)), (AV.dat (D.int IntKind.i64 (0 : Int))), (AV.dat (D.str x4)), (AV.dat (D.int IntKind.i64 (0 : Int))), (AV.dat (D.list LK.nil 0 ([] : Row)))]), (e :: (Ent.obj [(AV.dat (D.int IntKind.u64 x5.2))]) :: R)))
        )
       )
      )
     )
    )
    (rAsk (x1.1 == (5 : Int))
     (rGet (fnS (fun (p : Int × Int) => ((AV.dat (D.int IntKind.i64 p.1)), (e :: (Ent.obj [(AV.dat (D.int IntKind.u64 p.2))]) :: R))) (R10 [(AV.ptr (Ref.glob 1) 0), (AV.dat (D.int IntKind.i64 (8 : Int)))] (e :: (Ent.obj [(AV.dat (D.int IntKind.u64 x1.2))]) :: R))) fun x7 =>
      (rAsk (x7.1 == (0 : Int))
       (rAsk (x1.1 != (17 : Int))
        (rGet (fnS (fun (p : Int × Int) => ((AV.dat (D.int IntKind.i64 p.1)), (e :: (Ent.obj [(AV.dat (D.int IntKind.u64 p.2))]) :: R))) (R10 [(AV.ptr (Ref.glob 1) 0), (AV.dat (D.int IntKind.i64 (8 : Int)))] (e :: (Ent.obj [(AV.dat (D.int IntKind.u64 x7.2))]) :: R))) fun x8 =>
         (some ((AV.agg [(AV.dat (D.int IntKind.i64 (3 : Int))), (AV.dat (D.int IntKind.i64 (0 : Int))), (AV.dat (D.int IntKind.i64 (0 : Int))), (AV.dat (D.int IntKind.i64 (0 : Int))), (AV.dat (D.str (ByteArray.mk (List.toArray [])))), (AV.dat (D.int IntKind.i64 (IntKind.wrap IntKind.i64 ((1 : Int) + x8.1)))), (AV.dat (D.list LK.nil 0 ([] : Row)))]), (e :: (Ent.obj [(AV.dat (D.int IntKind.u64 x8.2))]) :: R)))
        )
        (some ((AV.agg [(AV.dat (D.int IntKind.i64 (3 : Int))), (AV.dat (D.int IntKind.i64 (0 : Int))), (AV.dat (D.int IntKind.i64 (0 : Int))), (AV.dat (D.int IntKind.i64 (0 : Int))), (AV.dat (D.str (ByteArray.mk (List.toArray [])))), (AV.dat (D.int IntKind.i64 (0 : Int))), (AV.dat (D.list LK.nil 0 ([] : Row)))]), (e :: (Ent.obj [(AV.dat (D.int IntKind.u64 x7.2))]) :: R)))
       )
       (some ((AV.agg [(AV.dat (D.int IntKind.i64 (3 : Int))), (AV.dat (D.int IntKind.i64 (0 : Int))), (AV.dat (D.int IntKind.i64 (0 : Int))), (AV.dat (D.int IntKind.i64 (0 : Int))), (AV.dat (D.str (ByteArray.mk (List.toArray [])))), (AV.dat (D.int IntKind.i64 (0 : Int))), (AV.dat (D.list LK.nil 0 ([] : Row)))]), (e :: (Ent.obj [(AV.dat (D.int IntKind.u64 x7.2))]) :: R)))
      )
     )
     (rAsk (x1.1 == (6 : Int))
      (rGet (fnS (fun (p : Int × Int) => ((AV.dat (D.int IntKind.i64 p.1)), (e :: (Ent.obj [(AV.dat (D.int IntKind.u64 p.2))]) :: R))) (R10 [(AV.ptr (Ref.glob 1) 0), (AV.dat (D.int IntKind.i64 (8 : Int)))] (e :: (Ent.obj [(AV.dat (D.int IntKind.u64 x1.2))]) :: R))) fun x9 =>
       (rAsk (x9.1 == (0 : Int))
        (rAsk (x1.1 != (17 : Int))
         (rGet (fnS (fun (p : Int × Int) => ((AV.dat (D.int IntKind.i64 p.1)), (e :: (Ent.obj [(AV.dat (D.int IntKind.u64 p.2))]) :: R))) (R10 [(AV.ptr (Ref.glob 1) 0), (AV.dat (D.int IntKind.i64 (8 : Int)))] (e :: (Ent.obj [(AV.dat (D.int IntKind.u64 x9.2))]) :: R))) fun x10 =>
          (some ((AV.agg [(AV.dat (D.int IntKind.i64 (4 : Int))), (AV.dat (D.int IntKind.i64 (0 : Int))), (AV.dat (D.int IntKind.i64 (0 : Int))), (AV.dat (D.int IntKind.i64 (0 : Int))), (AV.dat (D.str (ByteArray.mk (List.toArray [])))), (AV.dat (D.int IntKind.i64 (IntKind.wrap IntKind.i64 ((1 : Int) + x10.1)))), (AV.dat (D.list LK.nil 0 ([] : Row)))]), (e :: (Ent.obj [(AV.dat (D.int IntKind.u64 x10.2))]) :: R)))
         )
         (some ((AV.agg [(AV.dat (D.int IntKind.i64 (4 : Int))), (AV.dat (D.int IntKind.i64 (0 : Int))), (AV.dat (D.int IntKind.i64 (0 : Int))), (AV.dat (D.int IntKind.i64 (0 : Int))), (AV.dat (D.str (ByteArray.mk (List.toArray [])))), (AV.dat (D.int IntKind.i64 (0 : Int))), (AV.dat (D.list LK.nil 0 ([] : Row)))]), (e :: (Ent.obj [(AV.dat (D.int IntKind.u64 x9.2))]) :: R)))
        )
        (some ((AV.agg [(AV.dat (D.int IntKind.i64 (4 : Int))), (AV.dat (D.int IntKind.i64 (0 : Int))), (AV.dat (D.int IntKind.i64 (0 : Int))), (AV.dat (D.int IntKind.i64 (0 : Int))), (AV.dat (D.str (ByteArray.mk (List.toArray [])))), (AV.dat (D.int IntKind.i64 (0 : Int))), (AV.dat (D.list LK.nil 0 ([] : Row)))]), (e :: (Ent.obj [(AV.dat (D.int IntKind.u64 x9.2))]) :: R)))
       )
      )
      (rAsk (x1.1 == (7 : Int))
       (rGet (fnS (fun (p : Int × Int) => ((AV.dat (D.int IntKind.i64 p.1)), (e :: (Ent.obj [(AV.dat (D.int IntKind.u64 p.2))]) :: R))) (R10 [(AV.ptr (Ref.glob 1) 0), (AV.dat (D.int IntKind.i64 (8 : Int)))] (e :: (Ent.obj [(AV.dat (D.int IntKind.u64 x1.2))]) :: R))) fun x11 =>
        (rAsk (x11.1 == (0 : Int))
         (rAsk (x1.1 != (17 : Int))
          (rGet (fnS (fun (p : Int × Int) => ((AV.dat (D.int IntKind.i64 p.1)), (e :: (Ent.obj [(AV.dat (D.int IntKind.u64 p.2))]) :: R))) (R10 [(AV.ptr (Ref.glob 1) 0), (AV.dat (D.int IntKind.i64 (8 : Int)))] (e :: (Ent.obj [(AV.dat (D.int IntKind.u64 x11.2))]) :: R))) fun x12 =>
           (some ((AV.agg [(AV.dat (D.int IntKind.i64 (5 : Int))), (AV.dat (D.int IntKind.i64 (0 : Int))), (AV.dat (D.int IntKind.i64 (0 : Int))), (AV.dat (D.int IntKind.i64 (0 : Int))), (AV.dat (D.str (ByteArray.mk (List.toArray [])))), (AV.dat (D.int IntKind.i64 (IntKind.wrap IntKind.i64 ((1 : Int) + x12.1)))), (AV.dat (D.list LK.nil 0 ([] : Row)))]), (e :: (Ent.obj [(AV.dat (D.int IntKind.u64 x12.2))]) :: R)))
          )
          (some ((AV.agg [(AV.dat (D.int IntKind.i64 (5 : Int))), (AV.dat (D.int IntKind.i64 (0 : Int))), (AV.dat (D.int IntKind.i64 (0 : Int))), (AV.dat (D.int IntKind.i64 (0 : Int))), (AV.dat (D.str (ByteArray.mk (List.toArray [])))), (AV.dat (D.int IntKind.i64 (0 : Int))), (AV.dat (D.list LK.nil 0 ([] : Row)))]), (e :: (Ent.obj [(AV.dat (D.int IntKind.u64 x11.2))]) :: R)))
         )
         (some ((AV.agg [(AV.dat (D.int IntKind.i64 (5 : Int))), (AV.dat (D.int IntKind.i64 (0 : Int))), (AV.dat (D.int IntKind.i64 (0 : Int))), (AV.dat (D.int IntKind.i64 (0 : Int))), (AV.dat (D.str (ByteArray.mk (List.toArray [])))), (AV.dat (D.int IntKind.i64 (0 : Int))), (AV.dat (D.list LK.nil 0 ([] : Row)))]), (e :: (Ent.obj [(AV.dat (D.int IntKind.u64 x11.2))]) :: R)))
        )
       )
       (rAsk (decide (x1.1 < (14 : Int)))
        (rGet (fnS (fun (p : Int × Int) => ((AV.dat (D.int IntKind.i64 p.1)), (e :: (Ent.obj [(AV.dat (D.int IntKind.u64 p.2))]) :: R))) (R10 [(AV.ptr (Ref.glob 1) 0), (AV.dat (D.int IntKind.i64 (8 : Int)))] (e :: (Ent.obj [(AV.dat (D.int IntKind.u64 x1.2))]) :: R))) fun x13 =>
         (rAsk (x13.1 == (0 : Int))
          (rAsk (x1.1 != (17 : Int))
           (rGet (fnS (fun (p : Int × Int) => ((AV.dat (D.int IntKind.i64 p.1)), (e :: (Ent.obj [(AV.dat (D.int IntKind.u64 p.2))]) :: R))) (R10 [(AV.ptr (Ref.glob 1) 0), (AV.dat (D.int IntKind.i64 (8 : Int)))] (e :: (Ent.obj [(AV.dat (D.int IntKind.u64 x13.2))]) :: R))) fun x14 =>
            (some ((AV.agg [(AV.dat (D.int IntKind.i64 (7 : Int))), (AV.dat (D.int IntKind.i64 (0 : Int))), (AV.dat (D.int IntKind.i64 (0 : Int))), (AV.dat (D.int IntKind.i64 (0 : Int))), (AV.dat (D.str (ByteArray.mk (List.toArray [])))), (AV.dat (D.int IntKind.i64 (IntKind.wrap IntKind.i64 ((1 : Int) + x14.1)))), (AV.dat (D.list LK.nil 0 ([] : Row)))]), (e :: (Ent.obj [(AV.dat (D.int IntKind.u64 x14.2))]) :: R)))
           )
           (some ((AV.agg [(AV.dat (D.int IntKind.i64 (7 : Int))), (AV.dat (D.int IntKind.i64 (0 : Int))), (AV.dat (D.int IntKind.i64 (0 : Int))), (AV.dat (D.int IntKind.i64 (0 : Int))), (AV.dat (D.str (ByteArray.mk (List.toArray [])))), (AV.dat (D.int IntKind.i64 (0 : Int))), (AV.dat (D.list LK.nil 0 ([] : Row)))]), (e :: (Ent.obj [(AV.dat (D.int IntKind.u64 x13.2))]) :: R)))
          )
          (some ((AV.agg [(AV.dat (D.int IntKind.i64 (7 : Int))), (AV.dat (D.int IntKind.i64 (0 : Int))), (AV.dat (D.int IntKind.i64 (0 : Int))), (AV.dat (D.int IntKind.i64 (0 : Int))), (AV.dat (D.str (ByteArray.mk (List.toArray [])))), (AV.dat (D.int IntKind.i64 (0 : Int))), (AV.dat (D.list LK.nil 0 ([] : Row)))]), (e :: (Ent.obj [(AV.dat (D.int IntKind.u64 x13.2))]) :: R)))
         )
        )
        (rAsk (x1.1 == (14 : Int))
         (rGet (fnS (fun (p : Int × Int) => ((AV.dat (D.int IntKind.i64 p.1)), (e :: (Ent.obj [(AV.dat (D.int IntKind.u64 p.2))]) :: R))) (R10 [(AV.ptr (Ref.glob 1) 0), (AV.dat (D.int IntKind.i64 (2 : Int)))] (e :: (Ent.obj [(AV.dat (D.int IntKind.u64 x1.2))]) :: R))) fun x15 =>
          (rGet (fnS (fun (p : Int × Int) => ((AV.dat (D.int IntKind.i64 p.1)), (e :: (Ent.obj [(AV.dat (D.int IntKind.u64 p.2))]) :: R))) (R10 [(AV.ptr (Ref.glob 1) 0), (AV.dat (D.int IntKind.i64 (8 : Int)))] (e :: (Ent.obj [(AV.dat (D.int IntKind.u64 x15.2))]) :: R))) fun x16 =>
           (rAsk (x16.1 == (0 : Int))
            (rAsk (x1.1 != (17 : Int))
             (rGet (fnS (fun (p : Int × Int) => ((AV.dat (D.int IntKind.i64 p.1)), (e :: (Ent.obj [(AV.dat (D.int IntKind.u64 p.2))]) :: R))) (R10 [(AV.ptr (Ref.glob 1) 0), (AV.dat (D.int IntKind.i64 (8 : Int)))] (e :: (Ent.obj [(AV.dat (D.int IntKind.u64 x16.2))]) :: R))) fun x17 =>
              (some ((AV.agg [(AV.dat (D.int IntKind.i64 (6 : Int))), (AV.dat (D.int IntKind.i64 x15.1)), (AV.dat (D.int IntKind.i64 (0 : Int))), (AV.dat (D.int IntKind.i64 (0 : Int))), (AV.dat (D.str (ByteArray.mk (List.toArray [])))), (AV.dat (D.int IntKind.i64 (IntKind.wrap IntKind.i64 ((1 : Int) + x17.1)))), (AV.dat (D.list LK.nil 0 ([] : Row)))]), (e :: (Ent.obj [(AV.dat (D.int IntKind.u64 x17.2))]) :: R)))
             )
             (some ((AV.agg [(AV.dat (D.int IntKind.i64 (6 : Int))), (AV.dat (D.int IntKind.i64 x15.1)), (AV.dat (D.int IntKind.i64 (0 : Int))), (AV.dat (D.int IntKind.i64 (0 : Int))), (AV.dat (D.str (ByteArray.mk (List.toArray [])))), (AV.dat (D.int IntKind.i64 (0 : Int))), (AV.dat (D.list LK.nil 0 ([] : Row)))]), (e :: (Ent.obj [(AV.dat (D.int IntKind.u64 x16.2))]) :: R)))
            )
            (some ((AV.agg [(AV.dat (D.int IntKind.i64 (6 : Int))), (AV.dat (D.int IntKind.i64 x15.1)), (AV.dat (D.int IntKind.i64 (0 : Int))), (AV.dat (D.int IntKind.i64 (0 : Int))), (AV.dat (D.str (ByteArray.mk (List.toArray [])))), (AV.dat (D.int IntKind.i64 (0 : Int))), (AV.dat (D.list LK.nil 0 ([] : Row)))]), (e :: (Ent.obj [(AV.dat (D.int IntKind.u64 x16.2))]) :: R)))
           )
          )
         )
         (rAsk (x1.1 == (15 : Int))
          (rGet (fnS (fun (p : Int × Int) => ((AV.dat (D.int IntKind.i64 p.1)), (e :: (Ent.obj [(AV.dat (D.int IntKind.u64 p.2))]) :: R))) (R10 [(AV.ptr (Ref.glob 1) 0), (AV.dat (D.int IntKind.i64 (2 : Int)))] (e :: (Ent.obj [(AV.dat (D.int IntKind.u64 x1.2))]) :: R))) fun x18 =>
           (rGet (fnS (fun (p : Int × Int) => ((AV.dat (D.int IntKind.i64 p.1)), (e :: (Ent.obj [(AV.dat (D.int IntKind.u64 p.2))]) :: R))) (R10 [(AV.ptr (Ref.glob 1) 0), (AV.dat (D.int IntKind.i64 (8 : Int)))] (e :: (Ent.obj [(AV.dat (D.int IntKind.u64 x18.2))]) :: R))) fun x19 =>
            (rAsk (x19.1 == (0 : Int))
             (rAsk (x1.1 != (17 : Int))
              (rGet (fnS (fun (p : Int × Int) => ((AV.dat (D.int IntKind.i64 p.1)), (e :: (Ent.obj [(AV.dat (D.int IntKind.u64 p.2))]) :: R))) (R10 [(AV.ptr (Ref.glob 1) 0), (AV.dat (D.int IntKind.i64 (8 : Int)))] (e :: (Ent.obj [(AV.dat (D.int IntKind.u64 x19.2))]) :: R))) fun x20 =>
               (some ((AV.agg [(AV.dat (D.int IntKind.i64 (8 : Int))), (AV.dat (D.int IntKind.i64 (0 : Int))), (AV.dat (D.int IntKind.i64 (0 : Int))), (AV.dat (D.int IntKind.i64 x18.1)), (AV.dat (D.str (ByteArray.mk (List.toArray [])))), (AV.dat (D.int IntKind.i64 (IntKind.wrap IntKind.i64 ((1 : Int) + x20.1)))), (AV.dat (D.list LK.nil 0 ([] : Row)))]), (e :: (Ent.obj [(AV.dat (D.int IntKind.u64 x20.2))]) :: R)))
              )
              (some ((AV.agg [(AV.dat (D.int IntKind.i64 (8 : Int))), (AV.dat (D.int IntKind.i64 (0 : Int))), (AV.dat (D.int IntKind.i64 (0 : Int))), (AV.dat (D.int IntKind.i64 x18.1)), (AV.dat (D.str (ByteArray.mk (List.toArray [])))), (AV.dat (D.int IntKind.i64 (0 : Int))), (AV.dat (D.list LK.nil 0 ([] : Row)))]), (e :: (Ent.obj [(AV.dat (D.int IntKind.u64 x19.2))]) :: R)))
             )
             (some ((AV.agg [(AV.dat (D.int IntKind.i64 (8 : Int))), (AV.dat (D.int IntKind.i64 (0 : Int))), (AV.dat (D.int IntKind.i64 (0 : Int))), (AV.dat (D.int IntKind.i64 x18.1)), (AV.dat (D.str (ByteArray.mk (List.toArray [])))), (AV.dat (D.int IntKind.i64 (0 : Int))), (AV.dat (D.list LK.nil 0 ([] : Row)))]), (e :: (Ent.obj [(AV.dat (D.int IntKind.u64 x19.2))]) :: R)))
            )
           )
          )
          (rAsk (x1.1 == (16 : Int))
           (rGet (fnS (fun (p : Int × Int) => ((AV.dat (D.int IntKind.i64 p.1)), (e :: (Ent.obj [(AV.dat (D.int IntKind.u64 p.2))]) :: R))) (R10 [(AV.ptr (Ref.glob 1) 0), (AV.dat (D.int IntKind.i64 (8 : Int)))] (e :: (Ent.obj [(AV.dat (D.int IntKind.u64 x1.2))]) :: R))) fun x21 =>
            (rAsk (x21.1 == (0 : Int))
             (rAsk (x1.1 != (17 : Int))
              (rGet (fnS (fun (p : Int × Int) => ((AV.dat (D.int IntKind.i64 p.1)), (e :: (Ent.obj [(AV.dat (D.int IntKind.u64 p.2))]) :: R))) (R10 [(AV.ptr (Ref.glob 1) 0), (AV.dat (D.int IntKind.i64 (8 : Int)))] (e :: (Ent.obj [(AV.dat (D.int IntKind.u64 x21.2))]) :: R))) fun x22 =>
               (some ((AV.agg [(AV.dat (D.int IntKind.i64 (9 : Int))), (AV.dat (D.int IntKind.i64 (0 : Int))), (AV.dat (D.int IntKind.i64 (0 : Int))), (AV.dat (D.int IntKind.i64 (0 : Int))), (AV.dat (D.str (ByteArray.mk (List.toArray [])))), (AV.dat (D.int IntKind.i64 (IntKind.wrap IntKind.i64 ((1 : Int) + x22.1)))), (AV.dat (D.list LK.nil 0 ([] : Row)))]), (e :: (Ent.obj [(AV.dat (D.int IntKind.u64 x22.2))]) :: R)))
              )
              (some ((AV.agg [(AV.dat (D.int IntKind.i64 (9 : Int))), (AV.dat (D.int IntKind.i64 (0 : Int))), (AV.dat (D.int IntKind.i64 (0 : Int))), (AV.dat (D.int IntKind.i64 (0 : Int))), (AV.dat (D.str (ByteArray.mk (List.toArray [])))), (AV.dat (D.int IntKind.i64 (0 : Int))), (AV.dat (D.list LK.nil 0 ([] : Row)))]), (e :: (Ent.obj [(AV.dat (D.int IntKind.u64 x21.2))]) :: R)))
             )
             (some ((AV.agg [(AV.dat (D.int IntKind.i64 (9 : Int))), (AV.dat (D.int IntKind.i64 (0 : Int))), (AV.dat (D.int IntKind.i64 (0 : Int))), (AV.dat (D.int IntKind.i64 (0 : Int))), (AV.dat (D.str (ByteArray.mk (List.toArray [])))), (AV.dat (D.int IntKind.i64 (0 : Int))), (AV.dat (D.list LK.nil 0 ([] : Row)))]), (e :: (Ent.obj [(AV.dat (D.int IntKind.u64 x21.2))]) :: R)))
            )
           )
           (rAsk (x1.1 == (17 : Int))
            (rGet (fnS (fun (p : Int × Int) => ((AV.dat (D.int IntKind.i64 p.1)), (e :: (Ent.obj [(AV.dat (D.int IntKind.u64 p.2))]) :: R))) (R10 [(AV.ptr (Ref.glob 1) 0), (AV.dat (D.int IntKind.i64 (2 : Int)))] (e :: (Ent.obj [(AV.dat (D.int IntKind.u64 x1.2))]) :: R))) fun x23 =>
             (rGet (fnS (fun (p : Int × Int) => ((AV.dat (D.int IntKind.i64 p.1)), (e :: (Ent.obj [(AV.dat (D.int IntKind.u64 p.2))]) :: R))) (R10 [(AV.ptr (Ref.glob 1) 0), (AV.dat (D.int IntKind.i64 (4 : Int)))] (e :: (Ent.obj [(AV.dat (D.int IntKind.u64 x23.2))]) :: R))) fun x24 =>
              (rAsk (decide ((0 : Int) < x24.1))
               (rGet (fnS (fun (p : Int × Int) => ((AV.dat (D.int IntKind.i64 p.1)), (e :: (Ent.obj [(AV.dat (D.int IntKind.u64 p.2))]) :: R))) (R10 [(AV.ptr (Ref.glob 1) 0), (AV.dat (D.int IntKind.i64 (2 : Int)))] (e :: (Ent.obj [(AV.dat (D.int IntKind.u64 x24.2))]) :: R))) fun x25 =>
                (rAsk (decide ((1 : Int) < x24.1))
                 (rGet (fnS (fun (p : Int × Int) => ((AV.dat (D.int IntKind.i64 p.1)), (e :: (Ent.obj [(AV.dat (D.int IntKind.u64 p.2))]) :: R))) (R10 [(AV.ptr (Ref.glob 1) 0), (AV.dat (D.int IntKind.i64 (2 : Int)))] (e :: (Ent.obj [(AV.dat (D.int IntKind.u64 x25.2))]) :: R))) fun x26 =>
                  (rAsk (decide ((2 : Int) < x24.1))
                   (rGet (fnS (fun (p : Int × Int) => ((AV.dat (D.int IntKind.i64 p.1)), (e :: (Ent.obj [(AV.dat (D.int IntKind.u64 p.2))]) :: R))) (R10 [(AV.ptr (Ref.glob 1) 0), (AV.dat (D.int IntKind.i64 (2 : Int)))] (e :: (Ent.obj [(AV.dat (D.int IntKind.u64 x26.2))]) :: R))) fun x27 =>
                    (rAsk (decide ((3 : Int) < x24.1))
                     (rGet (fnS (fun (p : Int × Int) => ((AV.dat (D.int IntKind.i64 p.1)), (e :: (Ent.obj [(AV.dat (D.int IntKind.u64 p.2))]) :: R))) (R10 [(AV.ptr (Ref.glob 1) 0), (AV.dat (D.int IntKind.i64 (2 : Int)))] (e :: (Ent.obj [(AV.dat (D.int IntKind.u64 x27.2))]) :: R))) fun x28 =>
                      (rAsk (decide ((4 : Int) < x24.1))
                       (rGet (fnS (fun (p : Int × Int) => ((AV.dat (D.int IntKind.i64 p.1)), (e :: (Ent.obj [(AV.dat (D.int IntKind.u64 p.2))]) :: R))) (R10 [(AV.ptr (Ref.glob 1) 0), (AV.dat (D.int IntKind.i64 (2 : Int)))] (e :: (Ent.obj [(AV.dat (D.int IntKind.u64 x28.2))]) :: R))) fun x29 =>
                        (rAsk (decide ((5 : Int) < x24.1))
                         (rGet (fnS (fun (p : Int × Int) => ((AV.dat (D.int IntKind.i64 p.1)), (e :: (Ent.obj [(AV.dat (D.int IntKind.u64 p.2))]) :: R))) (R10 [(AV.ptr (Ref.glob 1) 0), (AV.dat (D.int IntKind.i64 (2 : Int)))] (e :: (Ent.obj [(AV.dat (D.int IntKind.u64 x29.2))]) :: R))) fun x30 =>
                          none
                         )
                         (rGet (fnS (fun (p : Int × Int) => ((AV.dat (D.int IntKind.i64 p.1)), (e :: (Ent.obj [(AV.dat (D.int IntKind.u64 p.2))]) :: R))) (R10 [(AV.ptr (Ref.glob 1) 0), (AV.dat (D.int IntKind.i64 (8 : Int)))] (e :: (Ent.obj [(AV.dat (D.int IntKind.u64 x29.2))]) :: R))) fun x31 =>
                          (rAsk (x31.1 == (0 : Int))
                           (rAsk (x1.1 != (17 : Int))
                            (rGet (fnS (fun (p : Int × Int) => ((AV.dat (D.int IntKind.i64 p.1)), (e :: (Ent.obj [(AV.dat (D.int IntKind.u64 p.2))]) :: R))) (R10 [(AV.ptr (Ref.glob 1) 0), (AV.dat (D.int IntKind.i64 (8 : Int)))] (e :: (Ent.obj [(AV.dat (D.int IntKind.u64 x31.2))]) :: R))) fun x32 =>
                             (some ((AV.agg [(AV.dat (D.int IntKind.i64 (12 : Int))), (AV.dat (D.int IntKind.i64 x23.1)), (AV.dat (D.int IntKind.i64 (0 : Int))), (AV.dat (D.int IntKind.i64 (0 : Int))), (AV.dat (D.str (ByteArray.mk (List.toArray [])))), (AV.dat (D.int IntKind.i64 (IntKind.wrap IntKind.i64 ((1 : Int) + x32.1)))), (AV.dat (D.list LK.any 1 [[(D.bool (x25.1 == (1 : Int)))], [(D.bool (x26.1 == (1 : Int)))], [(D.bool (x27.1 == (1 : Int)))], [(D.bool (x28.1 == (1 : Int)))], [(D.bool (x29.1 == (1 : Int)))]]))]), (e :: (Ent.obj [(AV.dat (D.int IntKind.u64 x32.2))]) :: R)))
                            )
                            (some ((AV.agg [(AV.dat (D.int IntKind.i64 (12 : Int))), (AV.dat (D.int IntKind.i64 x23.1)), (AV.dat (D.int IntKind.i64 (0 : Int))), (AV.dat (D.int IntKind.i64 (0 : Int))), (AV.dat (D.str (ByteArray.mk (List.toArray [])))), (AV.dat (D.int IntKind.i64 (0 : Int))), (AV.dat (D.list LK.any 1 [[(D.bool (x25.1 == (1 : Int)))], [(D.bool (x26.1 == (1 : Int)))], [(D.bool (x27.1 == (1 : Int)))], [(D.bool (x28.1 == (1 : Int)))], [(D.bool (x29.1 == (1 : Int)))]]))]), (e :: (Ent.obj [(AV.dat (D.int IntKind.u64 x31.2))]) :: R)))
                           )
                           (some ((AV.agg [(AV.dat (D.int IntKind.i64 (12 : Int))), (AV.dat (D.int IntKind.i64 x23.1)), (AV.dat (D.int IntKind.i64 (0 : Int))), (AV.dat (D.int IntKind.i64 (0 : Int))), (AV.dat (D.str (ByteArray.mk (List.toArray [])))), (AV.dat (D.int IntKind.i64 (0 : Int))), (AV.dat (D.list LK.any 1 [[(D.bool (x25.1 == (1 : Int)))], [(D.bool (x26.1 == (1 : Int)))], [(D.bool (x27.1 == (1 : Int)))], [(D.bool (x28.1 == (1 : Int)))], [(D.bool (x29.1 == (1 : Int)))]]))]), (e :: (Ent.obj [(AV.dat (D.int IntKind.u64 x31.2))]) :: R)))
                          )
                         )
                        )
                       )
                       (rGet (fnS (fun (p : Int × Int) => ((AV.dat (D.int IntKind.i64 p.1)), (e :: (Ent.obj [(AV.dat (D.int IntKind.u64 p.2))]) :: R))) (R10 [(AV.ptr (Ref.glob 1) 0), (AV.dat (D.int IntKind.i64 (8 : Int)))] (e :: (Ent.obj [(AV.dat (D.int IntKind.u64 x28.2))]) :: R))) fun x33 =>
                        (rAsk (x33.1 == (0 : Int))
                         (rAsk (x1.1 != (17 : Int))
                          (rGet (fnS (fun (p : Int × Int) => ((AV.dat (D.int IntKind.i64 p.1)), (e :: (Ent.obj [(AV.dat (D.int IntKind.u64 p.2))]) :: R))) (R10 [(AV.ptr (Ref.glob 1) 0), (AV.dat (D.int IntKind.i64 (8 : Int)))] (e :: (Ent.obj [(AV.dat (D.int IntKind.u64 x33.2))]) :: R))) fun x34 =>
                           (some ((AV.agg [(AV.dat (D.int IntKind.i64 (12 : Int))), (AV.dat (D.int IntKind.i64 x23.1)), (AV.dat (D.int IntKind.i64 (0 : Int))), (AV.dat (D.int IntKind.i64 (0 : Int))), (AV.dat (D.str (ByteArray.mk (List.toArray [])))), (AV.dat (D.int IntKind.i64 (IntKind.wrap IntKind.i64 ((1 : Int) + x34.1)))), (AV.dat (D.list LK.any 1 [[(D.bool (x25.1 == (1 : Int)))], [(D.bool (x26.1 == (1 : Int)))], [(D.bool (x27.1 == (1 : Int)))], [(D.bool (x28.1 == (1 : Int)))]]))]), (e :: (Ent.obj [(AV.dat (D.int IntKind.u64 x34.2))]) :: R)))
                          )
                          (some ((AV.agg [(AV.dat (D.int IntKind.i64 (12 : Int))), (AV.dat (D.int IntKind.i64 x23.1)), (AV.dat (D.int IntKind.i64 (0 : Int))), (AV.dat (D.int IntKind.i64 (0 : Int))), (AV.dat (D.str (ByteArray.mk (List.toArray [])))), (AV.dat (D.int IntKind.i64 (0 : Int))), (AV.dat (D.list LK.any 1 [[(D.bool (x25.1 == (1 : Int)))], [(D.bool (x26.1 == (1 : Int)))], [(D.bool (x27.1 == (1 : Int)))], [(D.bool (x28.1 == (1 : Int)))]]))]), (e :: (Ent.obj [(AV.dat (D.int IntKind.u64 x33.2))]) :: R)))
                         )
                         (some ((AV.agg [(AV.dat (D.int IntKind.i64 (12 : Int))), (AV.dat (D.int IntKind.i64 x23.1)), (AV.dat (D.int IntKind.i64 (0 : Int))), (AV.dat (D.int IntKind.i64 (0 : Int))), (AV.dat (D.str (ByteArray.mk (List.toArray [])))), (AV.dat (D.int IntKind.i64 (0 : Int))), (AV.dat (D.list LK.any 1 [[(D.bool (x25.1 == (1 : Int)))], [(D.bool (x26.1 == (1 : Int)))], [(D.bool (x27.1 == (1 : Int)))], [(D.bool (x28.1 == (1 : Int)))]]))]), (e :: (Ent.obj [(AV.dat (D.int IntKind.u64 x33.2))]) :: R)))
                        )
                       )
                      )
                     )
                     (rGet (fnS (fun (p : Int × Int) => ((AV.dat (D.int IntKind.i64 p.1)), (e :: (Ent.obj [(AV.dat (D.int IntKind.u64 p.2))]) :: R))) (R10 [(AV.ptr (Ref.glob 1) 0), (AV.dat (D.int IntKind.i64 (8 : Int)))] (e :: (Ent.obj [(AV.dat (D.int IntKind.u64 x27.2))]) :: R))) fun x35 =>
                      (rAsk (x35.1 == (0 : Int))
                       (rAsk (x1.1 != (17 : Int))
                        (rGet (fnS (fun (p : Int × Int) => ((AV.dat (D.int IntKind.i64 p.1)), (e :: (Ent.obj [(AV.dat (D.int IntKind.u64 p.2))]) :: R))) (R10 [(AV.ptr (Ref.glob 1) 0), (AV.dat (D.int IntKind.i64 (8 : Int)))] (e :: (Ent.obj [(AV.dat (D.int IntKind.u64 x35.2))]) :: R))) fun x36 =>
                         (some ((AV.agg [(AV.dat (D.int IntKind.i64 (12 : Int))), (AV.dat (D.int IntKind.i64 x23.1)), (AV.dat (D.int IntKind.i64 (0 : Int))), (AV.dat (D.int IntKind.i64 (0 : Int))), (AV.dat (D.str (ByteArray.mk (List.toArray [])))), (AV.dat (D.int IntKind.i64 (IntKind.wrap IntKind.i64 ((1 : Int) + x36.1)))), (AV.dat (D.list LK.any 1 [[(D.bool (x25.1 == (1 : Int)))], [(D.bool (x26.1 == (1 : Int)))], [(D.bool (x27.1 == (1 : Int)))]]))]), (e :: (Ent.obj [(AV.dat (D.int IntKind.u64 x36.2))]) :: R)))
                        )
                        (some ((AV.agg [(AV.dat (D.int IntKind.i64 (12 : Int))), (AV.dat (D.int IntKind.i64 x23.1)), (AV.dat (D.int IntKind.i64 (0 : Int))), (AV.dat (D.int IntKind.i64 (0 : Int))), (AV.dat (D.str (ByteArray.mk (List.toArray [])))), (AV.dat (D.int IntKind.i64 (0 : Int))), (AV.dat (D.list LK.any 1 [[(D.bool (x25.1 == (1 : Int)))], [(D.bool (x26.1 == (1 : Int)))], [(D.bool (x27.1 == (1 : Int)))]]))]), (e :: (Ent.obj [(AV.dat (D.int IntKind.u64 x35.2))]) :: R)))
                       )
                       (some ((AV.agg [(AV.dat (D.int IntKind.i64 (12 : Int))), (AV.dat (D.int IntKind.i64 x23.1)), (AV.dat (D.int IntKind.i64 (0 : Int))), (AV.dat (D.int IntKind.i64 (0 : Int))), (AV.dat (D.str (ByteArray.mk (List.toArray [])))), (AV.dat (D.int IntKind.i64 (0 : Int))), (AV.dat (D.list LK.any 1 [[(D.bool (x25.1 == (1 : Int)))], [(D.bool (x26.1 == (1 : Int)))], [(D.bool (x27.1 == (1 : Int)))]]))]), (e :: (Ent.obj [(AV.dat (D.int IntKind.u64 x35.2))]) :: R)))
                      )
                     )
                    )
                   )
                   (rGet (fnS (fun (p : Int × Int) => ((AV.dat (D.int IntKind.i64 p.1)), (e :: (Ent.obj [(AV.dat (D.int IntKind.u64 p.2))]) :: R))) (R10 [(AV.ptr (Ref.glob 1) 0), (AV.dat (D.int IntKind.i64 (8 : Int)))] (e :: (Ent.obj [(AV.dat (D.int IntKind.u64 x26.2))]) :: R))) fun x37 =>
                    (rAsk (x37.1 == (0 : Int))
                     (rAsk (x1.1 != (17 : Int))
                      (rGet (fnS (fun (p : Int × Int) => ((AV.dat (D.int IntKind.i64 p.1)), (e :: (Ent.obj [(AV.dat (D.int IntKind.u64 p.2))]) :: R))) (R10 [(AV.ptr (Ref.glob 1) 0), (AV.dat (D.int IntKind.i64 (8 : Int)))] (e :: (Ent.obj [(AV.dat (D.int IntKind.u64 x37.2))]) :: R))) fun x38 =>
                       (some ((AV.agg [(AV.dat (D.int IntKind.i64 (12 : Int))), (AV.dat (D.int IntKind.i64 x23.1)), (AV.dat (D.int IntKind.i64 (0 : Int))), (AV.dat (D.int IntKind.i64 (0 : Int))), (AV.dat (D.str (ByteArray.mk (List.toArray [])))), (AV.dat (D.int IntKind.i64 (IntKind.wrap IntKind.i64 ((1 : Int) + x38.1)))), (AV.dat (D.list LK.any 1 [[(D.bool (x25.1 == (1 : Int)))], [(D.bool (x26.1 == (1 : Int)))]]))]), (e :: (Ent.obj [(AV.dat (D.int IntKind.u64 x38.2))]) :: R)))
                      )
                      (some ((AV.agg [(AV.dat (D.int IntKind.i64 (12 : Int))), (AV.dat (D.int IntKind.i64 x23.1)), (AV.dat (D.int IntKind.i64 (0 : Int))), (AV.dat (D.int IntKind.i64 (0 : Int))), (AV.dat (D.str (ByteArray.mk (List.toArray [])))), (AV.dat (D.int IntKind.i64 (0 : Int))), (AV.dat (D.list LK.any 1 [[(D.bool (x25.1 == (1 : Int)))], [(D.bool (x26.1 == (1 : Int)))]]))]), (e :: (Ent.obj [(AV.dat (D.int IntKind.u64 x37.2))]) :: R)))
                     )
                     (some ((AV.agg [(AV.dat (D.int IntKind.i64 (12 : Int))), (AV.dat (D.int IntKind.i64 x23.1)), (AV.dat (D.int IntKind.i64 (0 : Int))), (AV.dat (D.int IntKind.i64 (0 : Int))), (AV.dat (D.str (ByteArray.mk (List.toArray [])))), (AV.dat (D.int IntKind.i64 (0 : Int))), (AV.dat (D.list LK.any 1 [[(D.bool (x25.1 == (1 : Int)))], [(D.bool (x26.1 == (1 : Int)))]]))]), (e :: (Ent.obj [(AV.dat (D.int IntKind.u64 x37.2))]) :: R)))
                    )
                   )
                  )
                 )
                 (rGet (fnS (fun (p : Int × Int) => ((AV.dat (D.int IntKind.i64 p.1)), (e :: (Ent.obj [(AV.dat (D.int IntKind.u64 p.2))]) :: R))) (R10 [(AV.ptr (Ref.glob 1) 0), (AV.dat (D.int IntKind.i64 (8 : Int)))] (e :: (Ent.obj [(AV.dat (D.int IntKind.u64 x25.2))]) :: R))) fun x39 =>
                  (rAsk (x39.1 == (0 : Int))
                   (rAsk (x1.1 != (17 : Int))
                    (rGet (fnS (fun (p : Int × Int) => ((AV.dat (D.int IntKind.i64 p.1)), (e :: (Ent.obj [(AV.dat (D.int IntKind.u64 p.2))]) :: R))) (R10 [(AV.ptr (Ref.glob 1) 0), (AV.dat (D.int IntKind.i64 (8 : Int)))] (e :: (Ent.obj [(AV.dat (D.int IntKind.u64 x39.2))]) :: R))) fun x40 =>
                     (some ((AV.agg [(AV.dat (D.int IntKind.i64 (12 : Int))), (AV.dat (D.int IntKind.i64 x23.1)), (AV.dat (D.int IntKind.i64 (0 : Int))), (AV.dat (D.int IntKind.i64 (0 : Int))), (AV.dat (D.str (ByteArray.mk (List.toArray [])))), (AV.dat (D.int IntKind.i64 (IntKind.wrap IntKind.i64 ((1 : Int) + x40.1)))), (AV.dat (D.list LK.any 1 [[(D.bool (x25.1 == (1 : Int)))]]))]), (e :: (Ent.obj [(AV.dat (D.int IntKind.u64 x40.2))]) :: R)))
                    )
                    (some ((AV.agg [(AV.dat (D.int IntKind.i64 (12 : Int))), (AV.dat (D.int IntKind.i64 x23.1)), (AV.dat (D.int IntKind.i64 (0 : Int))), (AV.dat (D.int IntKind.i64 (0 : Int))), (AV.dat (D.str (ByteArray.mk (List.toArray [])))), (AV.dat (D.int IntKind.i64 (0 : Int))), (AV.dat (D.list LK.any 1 [[(D.bool (x25.1 == (1 : Int)))]]))]), (e :: (Ent.obj [(AV.dat (D.int IntKind.u64 x39.2))]) :: R)))
                   )
                   (some ((AV.agg [(AV.dat (D.int IntKind.i64 (12 : Int))), (AV.dat (D.int IntKind.i64 x23.1)), (AV.dat (D.int IntKind.i64 (0 : Int))), (AV.dat (D.int IntKind.i64 (0 : Int))), (AV.dat (D.str (ByteArray.mk (List.toArray [])))), (AV.dat (D.int IntKind.i64 (0 : Int))), (AV.dat (D.list LK.any 1 [[(D.bool (x25.1 == (1 : Int)))]]))]), (e :: (Ent.obj [(AV.dat (D.int IntKind.u64 x39.2))]) :: R)))
                  )
                 )
                )
               )
               (rGet (fnS (fun (p : Int × Int) => ((AV.dat (D.int IntKind.i64 p.1)), (e :: (Ent.obj [(AV.dat (D.int IntKind.u64 p.2))]) :: R))) (R10 [(AV.ptr (Ref.glob 1) 0), (AV.dat (D.int IntKind.i64 (8 : Int)))] (e :: (Ent.obj [(AV.dat (D.int IntKind.u64 x24.2))]) :: R))) fun x41 =>
                (rAsk (x41.1 == (0 : Int))
                 (rAsk (x1.1 != (17 : Int))
                  (rGet (fnS (fun (p : Int × Int) => ((AV.dat (D.int IntKind.i64 p.1)), (e :: (Ent.obj [(AV.dat (D.int IntKind.u64 p.2))]) :: R))) (R10 [(AV.ptr (Ref.glob 1) 0), (AV.dat (D.int IntKind.i64 (8 : Int)))] (e :: (Ent.obj [(AV.dat (D.int IntKind.u64 x41.2))]) :: R))) fun x42 =>
                   (some ((AV.agg [(AV.dat (D.int IntKind.i64 (12 : Int))), (AV.dat (D.int IntKind.i64 x23.1)), (AV.dat (D.int IntKind.i64 (0 : Int))), (AV.dat (D.int IntKind.i64 (0 : Int))), (AV.dat (D.str (ByteArray.mk (List.toArray [])))), (AV.dat (D.int IntKind.i64 (IntKind.wrap IntKind.i64 ((1 : Int) + x42.1)))), (AV.dat (D.list LK.nil 0 ([] : Row)))]), (e :: (Ent.obj [(AV.dat (D.int IntKind.u64 x42.2))]) :: R)))
                  )
                  (some ((AV.agg [(AV.dat (D.int IntKind.i64 (12 : Int))), (AV.dat (D.int IntKind.i64 x23.1)), (AV.dat (D.int IntKind.i64 (0 : Int))), (AV.dat (D.int IntKind.i64 (0 : Int))), (AV.dat (D.str (ByteArray.mk (List.toArray [])))), (AV.dat (D.int IntKind.i64 (0 : Int))), (AV.dat (D.list LK.nil 0 ([] : Row)))]), (e :: (Ent.obj [(AV.dat (D.int IntKind.u64 x41.2))]) :: R)))
                 )
                 (some ((AV.agg [(AV.dat (D.int IntKind.i64 (12 : Int))), (AV.dat (D.int IntKind.i64 x23.1)), (AV.dat (D.int IntKind.i64 (0 : Int))), (AV.dat (D.int IntKind.i64 (0 : Int))), (AV.dat (D.str (ByteArray.mk (List.toArray [])))), (AV.dat (D.int IntKind.i64 (0 : Int))), (AV.dat (D.list LK.nil 0 ([] : Row)))]), (e :: (Ent.obj [(AV.dat (D.int IntKind.u64 x41.2))]) :: R)))
                )
               )
              )
             )
            )
            (rAsk (x1.1 == (18 : Int))
             (rGet (fnS (fun (p : Int × Int) => ((AV.dat (D.int IntKind.i64 p.1)), (e :: (Ent.obj [(AV.dat (D.int IntKind.u64 p.2))]) :: R))) (R10 [(AV.ptr (Ref.glob 1) 0), (AV.dat (D.int IntKind.i64 (2 : Int)))] (e :: (Ent.obj [(AV.dat (D.int IntKind.u64 x1.2))]) :: R))) fun x43 =>
              (rGet (fnS (fun (p : Int × Int) => ((AV.dat (D.int IntKind.i64 p.1)), (e :: (Ent.obj [(AV.dat (D.int IntKind.u64 p.2))]) :: R))) (R10 [(AV.ptr (Ref.glob 1) 0), (AV.dat (D.int IntKind.i64 (8 : Int)))] (e :: (Ent.obj [(AV.dat (D.int IntKind.u64 x43.2))]) :: R))) fun x44 =>
               (rAsk (x44.1 == (0 : Int))
                (rAsk (x1.1 != (17 : Int))
                 (rGet (fnS (fun (p : Int × Int) => ((AV.dat (D.int IntKind.i64 p.1)), (e :: (Ent.obj [(AV.dat (D.int IntKind.u64 p.2))]) :: R))) (R10 [(AV.ptr (Ref.glob 1) 0), (AV.dat (D.int IntKind.i64 (8 : Int)))] (e :: (Ent.obj [(AV.dat (D.int IntKind.u64 x44.2))]) :: R))) fun x45 =>
                  (some ((AV.agg [(AV.dat (D.int IntKind.i64 (13 : Int))), (AV.dat (D.int IntKind.i64 x43.1)), (AV.dat (D.int IntKind.i64 (0 : Int))), (AV.dat (D.int IntKind.i64 (0 : Int))), (AV.dat (D.str (ByteArray.mk (List.toArray [])))), (AV.dat (D.int IntKind.i64 (IntKind.wrap IntKind.i64 ((1 : Int) + x45.1)))), (AV.dat (D.list LK.nil 0 ([] : Row)))]), (e :: (Ent.obj [(AV.dat (D.int IntKind.u64 x45.2))]) :: R)))
                 )
                 (some ((AV.agg [(AV.dat (D.int IntKind.i64 (13 : Int))), (AV.dat (D.int IntKind.i64 x43.1)), (AV.dat (D.int IntKind.i64 (0 : Int))), (AV.dat (D.int IntKind.i64 (0 : Int))), (AV.dat (D.str (ByteArray.mk (List.toArray [])))), (AV.dat (D.int IntKind.i64 (0 : Int))), (AV.dat (D.list LK.nil 0 ([] : Row)))]), (e :: (Ent.obj [(AV.dat (D.int IntKind.u64 x44.2))]) :: R)))
                )
                (some ((AV.agg [(AV.dat (D.int IntKind.i64 (13 : Int))), (AV.dat (D.int IntKind.i64 x43.1)), (AV.dat (D.int IntKind.i64 (0 : Int))), (AV.dat (D.int IntKind.i64 (0 : Int))), (AV.dat (D.str (ByteArray.mk (List.toArray [])))), (AV.dat (D.int IntKind.i64 (0 : Int))), (AV.dat (D.list LK.nil 0 ([] : Row)))]), (e :: (Ent.obj [(AV.dat (D.int IntKind.u64 x44.2))]) :: R)))
               )
              )
             )
             (rGet (fnS (fun (p : Int × Int) => ((AV.dat (D.int IntKind.i64 p.1)), (e :: (Ent.obj [(AV.dat (D.int IntKind.u64 p.2))]) :: R))) (R10 [(AV.ptr (Ref.glob 1) 0), (AV.dat (D.int IntKind.i64 (4 : Int)))] (e :: (Ent.obj [(AV.dat (D.int IntKind.u64 x1.2))]) :: R))) fun x46 =>
              (rGet (fnS (fun (p : Int × Int) => ((AV.dat (D.int IntKind.i64 p.1)), (e :: (Ent.obj [(AV.dat (D.int IntKind.u64 p.2))]) :: R))) (R10 [(AV.ptr (Ref.glob 1) 0), (AV.dat (D.int IntKind.i64 (8 : Int)))] (e :: (Ent.obj [(AV.dat (D.int IntKind.u64 x46.2))]) :: R))) fun x47 =>
               (rAsk (x47.1 == (0 : Int))
                (rAsk (x1.1 != (17 : Int))
                 (rGet (fnS (fun (p : Int × Int) => ((AV.dat (D.int IntKind.i64 p.1)), (e :: (Ent.obj [(AV.dat (D.int IntKind.u64 p.2))]) :: R))) (R10 [(AV.ptr (Ref.glob 1) 0), (AV.dat (D.int IntKind.i64 (8 : Int)))] (e :: (Ent.obj [(AV.dat (D.int IntKind.u64 x47.2))]) :: R))) fun x48 =>
                  (some ((AV.agg [(AV.dat (D.int IntKind.i64 (14 : Int))), (AV.dat (D.int IntKind.i64 (0 : Int))), (AV.dat (D.int IntKind.i64 x46.1)), (AV.dat (D.int IntKind.i64 (0 : Int))), (AV.dat (D.str (ByteArray.mk (List.toArray [])))), (AV.dat (D.int IntKind.i64 (IntKind.wrap IntKind.i64 ((1 : Int) + x48.1)))), (AV.dat (D.list LK.nil 0 ([] : Row)))]), (e :: (Ent.obj [(AV.dat (D.int IntKind.u64 x48.2))]) :: R)))
                 )
                 (some ((AV.agg [(AV.dat (D.int IntKind.i64 (14 : Int))), (AV.dat (D.int IntKind.i64 (0 : Int))), (AV.dat (D.int IntKind.i64 x46.1)), (AV.dat (D.int IntKind.i64 (0 : Int))), (AV.dat (D.str (ByteArray.mk (List.toArray [])))), (AV.dat (D.int IntKind.i64 (0 : Int))), (AV.dat (D.list LK.nil 0 ([] : Row)))]), (e :: (Ent.obj [(AV.dat (D.int IntKind.u64 x47.2))]) :: R)))
                )
                (some ((AV.agg [(AV.dat (D.int IntKind.i64 (14 : Int))), (AV.dat (D.int IntKind.i64 (0 : Int))), (AV.dat (D.int IntKind.i64 x46.1)), (AV.dat (D.int IntKind.i64 (0 : Int))), (AV.dat (D.str (ByteArray.mk (List.toArray [])))), (AV.dat (D.int IntKind.i64 (0 : Int))), (AV.dat (D.list LK.nil 0 ([] : Row)))]), (e :: (Ent.obj [(AV.dat (D.int IntKind.u64 x47.2))]) :: R)))
               )
              )
             )
            )
           )
          )
         )
        )
       )
      )
     )
    )
   )
  )
  := by kernel_rfl
end Go.Eng
end

/- A step that is rolled: what both Steps come to. -/
section
namespace Go.Eng
open Go
set_option maxRecDepth 100000
set_option linter.unusedSimpArgs false

/-- a sector of bytes alike -/
def fillB (c : Int) : ByteArray := ⟨(List.replicate 64 (UInt8.ofNat c.toNat)).toArray⟩
/-- truths that are rolled -/
def keepN : Nat → Int → List Bool × Int
  | 0, x => ([], x)
  | n + 1, x => (((roll x 2).1 == 1) :: (keepN n (roll x 2).2).1, (keepN n (roll x 2).2).2)
/-- a step but for its stop -/
def bodyS (k x : Int) : Stp × Int :=
  if k < 5 then (⟨2, 0, (roll x 4).1, 0, fillB (roll (roll x 4).2 5).1, 0, []⟩, (roll (roll x 4).2 5).2)
  else if k = 5 then (⟨3, 0, 0, 0, ⟨#[]⟩, 0, []⟩, x)
  else if k = 6 then (⟨4, 0, 0, 0, ⟨#[]⟩, 0, []⟩, x)
  else if k = 7 then (⟨5, 0, 0, 0, ⟨#[]⟩, 0, []⟩, x)
  else if k < 14 then (⟨7, 0, 0, 0, ⟨#[]⟩, 0, []⟩, x)
  else if k = 14 then (⟨6, (roll x 2).1, 0, 0, ⟨#[]⟩, 0, []⟩, (roll x 2).2)
  else if k = 15 then (⟨8, 0, 0, (roll x 2).1, ⟨#[]⟩, 0, []⟩, (roll x 2).2)
  else if k = 16 then (⟨9, 0, 0, 0, ⟨#[]⟩, 0, []⟩, x)
  else if k = 17 then (⟨12, (roll x 2).1, 0, 0, ⟨#[]⟩, 0, (keepN (roll (roll x 2).2 4).1.toNat (roll (roll x 2).2 4).2).1⟩, (keepN (roll (roll x 2).2 4).1.toNat (roll (roll x 2).2 4).2).2)
  else if k = 18 then (⟨13, (roll x 2).1, 0, 0, ⟨#[]⟩, 0, []⟩, (roll x 2).2)
  else (⟨14, 0, (roll x 4).1, 0, ⟨#[]⟩, 0, []⟩, (roll x 4).2)
/-- the next step, and the dice behind it -/
def stepS (x : Int) : Stp × Int :=
  let k := roll x 20
  let b := bodyS k.1 k.2
  let q := roll b.2 8
  if q.1 = 0 ∧ k.1 ≠ 17 then ({ b.1 with stop := 1 + (roll q.2 8).1 }, (roll q.2 8).2) else (b.1, q.2)

theorem roll_lt {x b : Int} (h : 1 ≤ b) (h2 : b ≤ 2147483648) : 0 ≤ (roll x b).1 ∧ (roll x b).1 < b := by
  unfold roll
  rw [if_pos ⟨h, h2⟩]
  exact ⟨Int.emod_nonneg _ (by omega), Int.emod_lt_of_pos _ (by omega)⟩

def stV (s : Stp) (d : D) : AV := .agg [.dat (.int .i64 s.kind), .dat (.int .i64 s.node), .dat (.int .i64 s.at'), .dat (.int .i64 s.n), .dat (.str s.data), .dat (.int .i64 s.stop), .dat d]
/-- what a Step comes to -/
def resT (x : Int) (G : Int → List Ent) (o : Option (AV × List Ent)) : Prop := ∃ d, KeepD (stepS x).1.keep d ∧ o = some (stV (stepS x).1 d, G (stepS x).2)

theorem fillP47 {c : Int} {G : List Ent} (h : 0 ≤ c ∧ c < 5) : P47 [.dat (.int .u8 (IntKind.wrap .u8 c))] G = some (oS G (fillB c)) := by
  have key : ∀ n : Int, (R47 [.dat (.int .u8 n)] []).map (·.1) = some (.dat (.str (fillB n))) → P47 [.dat (.int .u8 n)] G = some (oS G (fillB n)) := by
    intro n hn
    cases ho : R47 [.dat (.int .u8 n)] [] with
    | none => rw [ho] at hn; cases hn
    | some r =>
      rw [ho] at hn
      simp only [Option.map_some, Option.some.injEq] at hn
      obtain ⟨r1, r2⟩ := r
      simp only at hn
      subst hn
      exact pureS_eq rfl ho rfl
  have hc : c = 0 ∨ c = 1 ∨ c = 2 ∨ c = 3 ∨ c = 4 := by omega
  rcases hc with rfl | rfl | rfl | rfl | rfl
  · exact key 0 (by kernel_rfl)
  · exact key 1 (by kernel_rfl)
  · exact key 2 (by kernel_rfl)
  · exact key 3 (by kernel_rfl)
  · exact key 4 (by kernel_rfl)
theorem fillP25 {c : Int} {G : List Ent} (h : 0 ≤ c ∧ c < 5) : P25 [.dat (.int .u8 (IntKind.wrap .u8 c))] G = some (oS G (fillB c)) := by
  have key : ∀ n : Int, (R25 [.dat (.int .u8 n)] []).map (·.1) = some (.dat (.str (fillB n))) → P25 [.dat (.int .u8 n)] G = some (oS G (fillB n)) := by
    intro n hn
    cases ho : R25 [.dat (.int .u8 n)] [] with
    | none => rw [ho] at hn; cases hn
    | some r =>
      rw [ho] at hn
      simp only [Option.map_some, Option.some.injEq] at hn
      obtain ⟨r1, r2⟩ := r
      simp only at hn
      subst hn
      exact pureS_eq rfl ho rfl
  have hc : c = 0 ∨ c = 1 ∨ c = 2 ∨ c = 3 ∨ c = 4 := by omega
  rcases hc with rfl | rfl | rfl | rfl | rfl
  · exact key 0 (by kernel_rfl)
  · exact key 1 (by kernel_rfl)
  · exact key 2 (by kernel_rfl)
  · exact key 3 (by kernel_rfl)
  · exact key 4 (by kernel_rfl)

attribute [local irreducible] fnS R9 R10 P47 P25

section
variable {rl : Int → Int → Option (Int × Int)} {G : Int → List Ent}

/-- behind the kind: the program's -/
theorem tailA (hrl : ∀ x b, rl x b = some (roll x b)) {x k y : Int} {b : Stp × Int} {d : D} (hk : roll x 20 = (k, y)) (hb : bodyS k y = b) (h17 : k ≠ 17) (hs : b.1.stop = 0) (hd : KeepD b.1.keep d) :
    resT x G (rGet (rl b.2 8) fun q => rAsk (q.1 == (0 : Int)) (rGet (rl q.2 8) fun w => some (.agg [.dat (.int .i64 b.1.kind), .dat (.int .i64 b.1.node), .dat (.int .i64 b.1.at'), .dat (.int .i64 b.1.n), .dat (.str b.1.data), .dat (.int .i64 (IntKind.wrap .i64 (1 + w.1))), .dat d], G w.2))
      (some (.agg [.dat (.int .i64 b.1.kind), .dat (.int .i64 b.1.node), .dat (.int .i64 b.1.at'), .dat (.int .i64 b.1.n), .dat (.str b.1.data), .dat (.int .i64 0), .dat d], G q.2))) := by
  refine gP (resT x G) (hrl b.2 8) ?_
  have hst : stepS x = if (roll b.2 8).1 = 0 ∧ k ≠ 17 then ({ b.1 with stop := 1 + (roll (roll b.2 8).2 8).1 }, (roll (roll b.2 8).2 8).2) else (b.1, (roll b.2 8).2) := by
    simp only [stepS, hk, hb]
  by_cases h0 : (roll b.2 8).1 = 0
  · refine aTP (resT x G) (by simpa using h0) (gP (resT x G) (hrl _ 8) ?_)
    rw [if_pos ⟨h0, h17⟩] at hst
    have hw := roll_lt (x := (roll b.2 8).2) (b := 8) (by omega) (by omega)
    unfold resT
    rw [hst]
    refine ⟨d, hd, ?_⟩
    rw [IntWalk.i64_in (1 + (roll (roll b.2 8).2 8).1) (by omega)]
    rfl
  · refine aFP (resT x G) (by simpa using h0) ?_
    rw [if_neg (fun h => h0 h.1)] at hst
    unfold resT
    rw [hst]
    refine ⟨d, hd, ?_⟩
    simp only [stV, hs]
theorem tailA17 (hrl : ∀ x b, rl x b = some (roll x b)) {x k y : Int} {b : Stp × Int} {d : D} (hk : roll x 20 = (k, y)) (hb : bodyS k y = b) (h17 : k = 17) (hs : b.1.stop = 0) (hd : KeepD b.1.keep d) :
    resT x G (rGet (rl b.2 8) fun q => rAsk (q.1 == (0 : Int)) (some (.agg [.dat (.int .i64 b.1.kind), .dat (.int .i64 b.1.node), .dat (.int .i64 b.1.at'), .dat (.int .i64 b.1.n), .dat (.str b.1.data), .dat (.int .i64 0), .dat d], G q.2))
      (some (.agg [.dat (.int .i64 b.1.kind), .dat (.int .i64 b.1.node), .dat (.int .i64 b.1.at'), .dat (.int .i64 b.1.n), .dat (.str b.1.data), .dat (.int .i64 0), .dat d], G q.2))) := by
  refine gP (resT x G) (hrl b.2 8) ?_
  have hst : stepS x = (b.1, (roll b.2 8).2) := by
    simp only [stepS, hk, hb]
    rw [if_neg (fun h => h.2 h17)]
  have hres : resT x G (some (.agg [.dat (.int .i64 b.1.kind), .dat (.int .i64 b.1.node), .dat (.int .i64 b.1.at'), .dat (.int .i64 b.1.n), .dat (.str b.1.data), .dat (.int .i64 0), .dat d], G (roll b.2 8).2)) := by
    unfold resT
    rw [hst]
    refine ⟨d, hd, ?_⟩
    simp only [stV, hs]
  by_cases h0 : (roll b.2 8).1 = 0
  · exact aTP (resT x G) (by simpa using h0) hres
  · exact aFP (resT x G) (by simpa using h0) hres
/-- the document's -/
theorem tailB (hrl : ∀ x b, rl x b = some (roll x b)) {x k y : Int} {b : Stp × Int} {d : D} (hk : roll x 20 = (k, y)) (hb : bodyS k y = b) (hs : b.1.stop = 0) (hd : KeepD b.1.keep d) :
    resT x G (rGet (rl b.2 8) fun q => rAsk (q.1 == (0 : Int)) (rAsk (k != (17 : Int)) (rGet (rl q.2 8) fun w => some (.agg [.dat (.int .i64 b.1.kind), .dat (.int .i64 b.1.node), .dat (.int .i64 b.1.at'), .dat (.int .i64 b.1.n), .dat (.str b.1.data), .dat (.int .i64 (IntKind.wrap .i64 (1 + w.1))), .dat d], G w.2))
      (some (.agg [.dat (.int .i64 b.1.kind), .dat (.int .i64 b.1.node), .dat (.int .i64 b.1.at'), .dat (.int .i64 b.1.n), .dat (.str b.1.data), .dat (.int .i64 0), .dat d], G q.2)))
      (some (.agg [.dat (.int .i64 b.1.kind), .dat (.int .i64 b.1.node), .dat (.int .i64 b.1.at'), .dat (.int .i64 b.1.n), .dat (.str b.1.data), .dat (.int .i64 0), .dat d], G q.2))) := by
  by_cases h17 : k = 17
  · refine gP (resT x G) (hrl b.2 8) ?_
    have hst : stepS x = (b.1, (roll b.2 8).2) := by
      simp only [stepS, hk, hb]
      rw [if_neg (fun h => h.2 h17)]
    have hres : resT x G (some (.agg [.dat (.int .i64 b.1.kind), .dat (.int .i64 b.1.node), .dat (.int .i64 b.1.at'), .dat (.int .i64 b.1.n), .dat (.str b.1.data), .dat (.int .i64 0), .dat d], G (roll b.2 8).2)) := by
      unfold resT
      rw [hst]
      refine ⟨d, hd, ?_⟩
      simp only [stV, hs]
    by_cases h0 : (roll b.2 8).1 = 0
    · exact aTP (resT x G) (by simpa using h0) (aFP (resT x G) (by simpa using h17) hres)
    · exact aFP (resT x G) (by simpa using h0) hres
  · have := tailA (G := G) hrl hk hb h17 hs hd
    refine gP (resT x G) (hrl b.2 8) ?_
    rw [hrl b.2 8] at this
    by_cases h0 : (roll b.2 8).1 = 0
    · refine aTP (resT x G) (by simpa using h0) (aTP (resT x G) (by simpa using h17) ?_)
      have e : ((roll b.2 8).1 == (0 : Int)) = true := by simpa using h0
      simp only [rGet, e, rAsk] at this
      exact this
    · refine aFP (resT x G) (by simpa using h0) ?_
      have e : ((roll b.2 8).1 == (0 : Int)) = false := by simpa using h0
      simp only [rGet, e, rAsk] at this
      exact this
end

/-- a node's fall: the truths that are kept -/
theorem keep0 : KeepD [] (.list .nil 0 []) := .inl ⟨rfl, rfl⟩
theorem keepY {l : List Bool} (h : l ≠ []) : KeepD l (.list .any 1 (tRow l)) := .inr ⟨rfl, h⟩

set_option maxHeartbeats 4000000 in
theorem c13 {x : Int} {R : List Ent} : resT x (fun v => .obj [.dat (.int .u64 v)] :: R) (R13 [.ptr (.glob 0) 0] (.obj [.dat (.int .u64 x)] :: R)) := by
  show resT x (fun v => .obj [.dat (.int .u64 v)] :: R) (m13 x R).run
  rw [← Tr.ev_run, m13_eq]
  obtain ⟨P, hP⟩ : ∃ P, P = resT x (fun v => .obj [.dat (.int .u64 v)] :: R) := ⟨_, rfl⟩
  rw [← hP]
  have hrl : ∀ x b, (fun x b => fnS (oRoll [.ptr (.glob 0) 0, .dat (.int .i64 b)] (.obj [.dat (.int .u64 x)] :: R)) (R9 [.ptr (.glob 0) 0, .dat (.int .i64 b)] (.obj [.dat (.int .u64 x)] :: R))) x b = some (roll x b) := fun x b => g9
  have hA := fun {k y} {b : Stp × Int} {d : D} => tailA (G := fun v => .obj [.dat (.int .u64 v)] :: R) (x := x) (k := k) (y := y) (b := b) (d := d) hrl
  have hA17 := fun {k y} {b : Stp × Int} {d : D} => tailA17 (G := fun v => .obj [.dat (.int .u64 v)] :: R) (x := x) (k := k) (y := y) (b := b) (d := d) hrl
  rw [← hP] at hA hA17
  have hr := roll_lt (x := x) (b := 20) (by omega) (by omega)
  refine gP P g9 ?_
  generalize hk : roll x 20 = q at hr hA hA17
  obtain ⟨k, y⟩ := q
  simp only at hr
  by_cases c5 : k < 5
  · refine aTP P (by simpa using c5) (gP P g9 (gP P g9 (gP P (fnS_eq oS_inj (fillP47 (roll_lt (by omega) (by omega)))) ?_)))
    exact hA (b := (⟨2, 0, (roll y 4).1, 0, fillB (roll (roll y 4).2 5).1, 0, []⟩, (roll (roll y 4).2 5).2)) rfl (by unfold bodyS; rw [if_pos c5]) (by omega) rfl keep0
  refine aFP P (by simpa using c5) ?_
  by_cases c8 : k < 8
  · have hw : IntKind.wrap .i64 (k - 5) = k - 5 := IntWalk.i64_in _ (by omega)
    refine aTP P (by simpa using c8) ?_
    simp only [hw]
    by_cases d0 : k = 5
    · exact aTP P (by rw [beq_iff_eq]; omega) (hA (b := (⟨3, 0, 0, 0, ⟨#[]⟩, 0, []⟩, y)) rfl (by unfold bodyS; rw [if_neg c5, if_pos d0]) (by omega) rfl keep0)
    refine aFP P (by rw [beq_eq_false_iff_ne]; omega) ?_
    by_cases d1 : k = 6
    · exact aTP P (by rw [beq_iff_eq]; omega) (hA (b := (⟨4, 0, 0, 0, ⟨#[]⟩, 0, []⟩, y)) rfl (by unfold bodyS; rw [if_neg c5, if_neg d0, if_pos d1]) (by omega) rfl keep0)
    refine aFP P (by rw [beq_eq_false_iff_ne]; omega) ?_
    have d2 : k = 7 := by omega
    exact aTP P (by rw [beq_iff_eq]; omega) (hA (b := (⟨5, 0, 0, 0, ⟨#[]⟩, 0, []⟩, y)) rfl (by unfold bodyS; rw [if_neg c5, if_neg d0, if_neg d1, if_pos d2]) (by omega) rfl keep0)
  refine aFP P (by simpa using c8) ?_
  have e5 : ¬ k = 5 := by omega
  have e6 : ¬ k = 6 := by omega
  have e7 : ¬ k = 7 := by omega
  by_cases c14 : k < 14
  · exact aTP P (by simpa using c14) (hA (b := (⟨7, 0, 0, 0, ⟨#[]⟩, 0, []⟩, y)) rfl (by unfold bodyS; rw [if_neg c5, if_neg e5, if_neg e6, if_neg e7, if_pos c14]) (by omega) rfl keep0)
  refine aFP P (by simpa using c14) ?_
  by_cases e14 : k = 14
  · exact aTP P (by simpa using e14) (gP P g9 (hA (b := (⟨6, (roll y 2).1, 0, 0, ⟨#[]⟩, 0, []⟩, (roll y 2).2)) rfl (by unfold bodyS; rw [if_neg c5, if_neg e5, if_neg e6, if_neg e7, if_neg c14, if_pos e14]) (by omega) rfl keep0))
  refine aFP P (by simpa using e14) ?_
  by_cases e15 : k = 15
  · exact aTP P (by simpa using e15) (gP P g9 (hA (b := (⟨8, 0, 0, (roll y 2).1, ⟨#[]⟩, 0, []⟩, (roll y 2).2)) rfl (by unfold bodyS; rw [if_neg c5, if_neg e5, if_neg e6, if_neg e7, if_neg c14, if_neg e14, if_pos e15]) (by omega) rfl keep0))
  refine aFP P (by simpa using e15) ?_
  by_cases e16 : k = 16
  · exact aTP P (by simpa using e16) (hA (b := (⟨9, 0, 0, 0, ⟨#[]⟩, 0, []⟩, y)) rfl (by unfold bodyS; rw [if_neg c5, if_neg e5, if_neg e6, if_neg e7, if_neg c14, if_neg e14, if_neg e15, if_pos e16]) (by omega) rfl keep0)
  refine aFP P (by simpa using e16) ?_
  by_cases e17 : k = 17
  · refine aTP P (by simpa using e17) (gP P g9 (gP P g9 ?_))
    have hn := roll_lt (x := (roll y 2).2) (b := 4) (by omega) (by omega)
    have hbody : bodyS k y = (⟨12, (roll y 2).1, 0, 0, ⟨#[]⟩, 0, (keepN (roll (roll y 2).2 4).1.toNat (roll (roll y 2).2 4).2).1⟩, (keepN (roll (roll y 2).2 4).1.toNat (roll (roll y 2).2 4).2).2) := by
      unfold bodyS
      rw [if_neg c5, if_neg e5, if_neg e6, if_neg e7, if_neg c14, if_neg e14, if_neg e15, if_neg e16, if_pos e17]
    generalize roll (roll y 2).2 4 = q at hn hbody
    obtain ⟨n, z⟩ := q
    simp only at hn hbody
    have hc : n = 0 ∨ n = 1 ∨ n = 2 ∨ n = 3 := by omega
    rcases hc with rfl | rfl | rfl | rfl
    · exact aFP P rfl (hA17 (b := _) rfl hbody e17 rfl keep0)
    · exact aTP P rfl (gP P g9 (aFP P rfl (hA17 (b := _) rfl hbody e17 rfl (keepY (by simp [keepN])))))
    · exact aTP P rfl (gP P g9 (aTP P rfl (gP P g9 (aFP P rfl (hA17 (b := _) rfl hbody e17 rfl (keepY (by simp [keepN])))))))
    · exact aTP P rfl (gP P g9 (aTP P rfl (gP P g9 (aTP P rfl (gP P g9 (aFP P rfl (hA17 (b := _) rfl hbody e17 rfl (keepY (by simp [keepN])))))))))
  refine aFP P (by simpa using e17) ?_
  by_cases e18 : k = 18
  · exact aTP P (by simpa using e18) (gP P g9 (hA (b := (⟨13, (roll y 2).1, 0, 0, ⟨#[]⟩, 0, []⟩, (roll y 2).2)) rfl (by unfold bodyS; rw [if_neg c5, if_neg e5, if_neg e6, if_neg e7, if_neg c14, if_neg e14, if_neg e15, if_neg e16, if_neg e17, if_pos e18]) (by omega) rfl keep0))
  refine aFP P (by simpa using e18) (gP P g9 ?_)
  exact hA (b := (⟨14, 0, (roll y 4).1, 0, ⟨#[]⟩, 0, []⟩, (roll y 4).2)) rfl (by unfold bodyS; rw [if_neg c5, if_neg e5, if_neg e6, if_neg e7, if_neg c14, if_neg e14, if_neg e15, if_neg e16, if_neg e17, if_neg e18]) (by omega) rfl keep0

end Go.Eng
end

/- A step that is rolled: what the document's Step comes to. -/
section
namespace Go.Eng
open Go
set_option maxRecDepth 100000
set_option linter.unusedSimpArgs false

attribute [local irreducible] fnS R9 R10 P47 P25

set_option maxHeartbeats 4000000 in
theorem c14a {x : Int} {R : List Ent} : resT x (fun v => .obj [.dat (.int .u64 v)] :: R) (R14 [.ptr (.glob 0) 0] (.obj [.dat (.int .u64 x)] :: R)) := by
  show resT x (fun v => .obj [.dat (.int .u64 v)] :: R) (m14a x R).run
  rw [← Tr.ev_run, m14a_eq]
  obtain ⟨P, hP⟩ : ∃ P, P = resT x (fun v => .obj [.dat (.int .u64 v)] :: R) := ⟨_, rfl⟩
  rw [← hP]
  have hrl : ∀ x b, (fun x b => fnS (oRoll [.ptr (.glob 0) 0, .dat (.int .i64 b)] (.obj [.dat (.int .u64 x)] :: R)) (R10 [.ptr (.glob 0) 0, .dat (.int .i64 b)] (.obj [.dat (.int .u64 x)] :: R))) x b = some (roll x b) := fun x b => g10a
  have hA := fun {k y} {b : Stp × Int} {d : D} => tailB (G := fun v => .obj [.dat (.int .u64 v)] :: R) (x := x) (k := k) (y := y) (b := b) (d := d) hrl
  rw [← hP] at hA
  have hr := roll_lt (x := x) (b := 20) (by omega) (by omega)
  refine gP P g10a ?_
  generalize hk : roll x 20 = q at hr hA
  obtain ⟨k, y⟩ := q
  simp only at hr
  by_cases c5 : k < 5
  · refine aTP P (by simpa using c5) (gP P g10a (gP P g10a (gP P (fnS_eq oS_inj (fillP25 (roll_lt (by omega) (by omega)))) ?_)))
    exact hA (b := (⟨2, 0, (roll y 4).1, 0, fillB (roll (roll y 4).2 5).1, 0, []⟩, (roll (roll y 4).2 5).2)) rfl (by unfold bodyS; rw [if_pos c5]) rfl keep0
  refine aFP P (by simpa using c5) ?_
  by_cases e5 : k = 5
  · exact aTP P (by simpa using e5) (hA (b := (⟨3, 0, 0, 0, ⟨#[]⟩, 0, []⟩, y)) rfl (by unfold bodyS; rw [if_neg c5, if_pos e5]) rfl keep0)
  refine aFP P (by simpa using e5) ?_
  by_cases e6 : k = 6
  · exact aTP P (by simpa using e6) (hA (b := (⟨4, 0, 0, 0, ⟨#[]⟩, 0, []⟩, y)) rfl (by unfold bodyS; rw [if_neg c5, if_neg e5, if_pos e6]) rfl keep0)
  refine aFP P (by simpa using e6) ?_
  by_cases e7 : k = 7
  · exact aTP P (by simpa using e7) (hA (b := (⟨5, 0, 0, 0, ⟨#[]⟩, 0, []⟩, y)) rfl (by unfold bodyS; rw [if_neg c5, if_neg e5, if_neg e6, if_pos e7]) rfl keep0)
  refine aFP P (by simpa using e7) ?_
  by_cases c14 : k < 14
  · exact aTP P (by simpa using c14) (hA (b := (⟨7, 0, 0, 0, ⟨#[]⟩, 0, []⟩, y)) rfl (by unfold bodyS; rw [if_neg c5, if_neg e5, if_neg e6, if_neg e7, if_pos c14]) rfl keep0)
  refine aFP P (by simpa using c14) ?_
  by_cases e14 : k = 14
  · exact aTP P (by simpa using e14) (gP P g10a (hA (b := (⟨6, (roll y 2).1, 0, 0, ⟨#[]⟩, 0, []⟩, (roll y 2).2)) rfl (by unfold bodyS; rw [if_neg c5, if_neg e5, if_neg e6, if_neg e7, if_neg c14, if_pos e14]) rfl keep0))
  refine aFP P (by simpa using e14) ?_
  by_cases e15 : k = 15
  · exact aTP P (by simpa using e15) (gP P g10a (hA (b := (⟨8, 0, 0, (roll y 2).1, ⟨#[]⟩, 0, []⟩, (roll y 2).2)) rfl (by unfold bodyS; rw [if_neg c5, if_neg e5, if_neg e6, if_neg e7, if_neg c14, if_neg e14, if_pos e15]) rfl keep0))
  refine aFP P (by simpa using e15) ?_
  by_cases e16 : k = 16
  · exact aTP P (by simpa using e16) (hA (b := (⟨9, 0, 0, 0, ⟨#[]⟩, 0, []⟩, y)) rfl (by unfold bodyS; rw [if_neg c5, if_neg e5, if_neg e6, if_neg e7, if_neg c14, if_neg e14, if_neg e15, if_pos e16]) rfl keep0)
  refine aFP P (by simpa using e16) ?_
  by_cases e17 : k = 17
  · refine aTP P (by simpa using e17) (gP P g10a (gP P g10a ?_))
    have hn := roll_lt (x := (roll y 2).2) (b := 4) (by omega) (by omega)
    have hbody : bodyS k y = (⟨12, (roll y 2).1, 0, 0, ⟨#[]⟩, 0, (keepN (roll (roll y 2).2 4).1.toNat (roll (roll y 2).2 4).2).1⟩, (keepN (roll (roll y 2).2 4).1.toNat (roll (roll y 2).2 4).2).2) := by
      unfold bodyS
      rw [if_neg c5, if_neg e5, if_neg e6, if_neg e7, if_neg c14, if_neg e14, if_neg e15, if_neg e16, if_pos e17]
    generalize roll (roll y 2).2 4 = q at hn hbody
    obtain ⟨n, z⟩ := q
    simp only at hn hbody
    have hc : n = 0 ∨ n = 1 ∨ n = 2 ∨ n = 3 := by omega
    rcases hc with rfl | rfl | rfl | rfl
    · exact aFP P rfl (hA (b := _) rfl hbody rfl keep0)
    · exact aTP P rfl (gP P g10a (aFP P rfl (hA (b := _) rfl hbody rfl (keepY (by simp [keepN])))))
    · exact aTP P rfl (gP P g10a (aTP P rfl (gP P g10a (aFP P rfl (hA (b := _) rfl hbody rfl (keepY (by simp [keepN])))))))
    · exact aTP P rfl (gP P g10a (aTP P rfl (gP P g10a (aTP P rfl (gP P g10a (aFP P rfl (hA (b := _) rfl hbody rfl (keepY (by simp [keepN])))))))))
  refine aFP P (by simpa using e17) ?_
  by_cases e18 : k = 18
  · exact aTP P (by simpa using e18) (gP P g10a (hA (b := (⟨13, (roll y 2).1, 0, 0, ⟨#[]⟩, 0, []⟩, (roll y 2).2)) rfl (by unfold bodyS; rw [if_neg c5, if_neg e5, if_neg e6, if_neg e7, if_neg c14, if_neg e14, if_neg e15, if_neg e16, if_neg e17, if_pos e18]) rfl keep0))
  refine aFP P (by simpa using e18) (gP P g10a ?_)
  exact hA (b := (⟨14, 0, (roll y 4).1, 0, ⟨#[]⟩, 0, []⟩, (roll y 4).2)) rfl (by unfold bodyS; rw [if_neg c5, if_neg e5, if_neg e6, if_neg e7, if_neg c14, if_neg e14, if_neg e15, if_neg e16, if_neg e17, if_neg e18]) rfl keep0

set_option maxHeartbeats 4000000 in
theorem c14b {e : Ent} {x : Int} {R : List Ent} : resT x (fun v => e :: .obj [.dat (.int .u64 v)] :: R) (R14 [.ptr (.glob 1) 0] (e :: .obj [.dat (.int .u64 x)] :: R)) := by
  show resT x (fun v => e :: .obj [.dat (.int .u64 v)] :: R) (m14b e x R).run
  rw [← Tr.ev_run, m14b_eq]
  obtain ⟨P, hP⟩ : ∃ P, P = resT x (fun v => e :: .obj [.dat (.int .u64 v)] :: R) := ⟨_, rfl⟩
  rw [← hP]
  have hrl : ∀ x b, (fun x b => fnS (oRoll [.ptr (.glob 1) 0, .dat (.int .i64 b)] (e :: .obj [.dat (.int .u64 x)] :: R)) (R10 [.ptr (.glob 1) 0, .dat (.int .i64 b)] (e :: .obj [.dat (.int .u64 x)] :: R))) x b = some (roll x b) := fun x b => g10b
  have hA := fun {k y} {b : Stp × Int} {d : D} => tailB (G := fun v => e :: .obj [.dat (.int .u64 v)] :: R) (x := x) (k := k) (y := y) (b := b) (d := d) hrl
  rw [← hP] at hA
  have hr := roll_lt (x := x) (b := 20) (by omega) (by omega)
  refine gP P g10b ?_
  generalize hk : roll x 20 = q at hr hA
  obtain ⟨k, y⟩ := q
  simp only at hr
  by_cases c5 : k < 5
  · refine aTP P (by simpa using c5) (gP P g10b (gP P g10b (gP P (fnS_eq oS_inj (fillP25 (roll_lt (by omega) (by omega)))) ?_)))
    exact hA (b := (⟨2, 0, (roll y 4).1, 0, fillB (roll (roll y 4).2 5).1, 0, []⟩, (roll (roll y 4).2 5).2)) rfl (by unfold bodyS; rw [if_pos c5]) rfl keep0
  refine aFP P (by simpa using c5) ?_
  by_cases e5 : k = 5
  · exact aTP P (by simpa using e5) (hA (b := (⟨3, 0, 0, 0, ⟨#[]⟩, 0, []⟩, y)) rfl (by unfold bodyS; rw [if_neg c5, if_pos e5]) rfl keep0)
  refine aFP P (by simpa using e5) ?_
  by_cases e6 : k = 6
  · exact aTP P (by simpa using e6) (hA (b := (⟨4, 0, 0, 0, ⟨#[]⟩, 0, []⟩, y)) rfl (by unfold bodyS; rw [if_neg c5, if_neg e5, if_pos e6]) rfl keep0)
  refine aFP P (by simpa using e6) ?_
  by_cases e7 : k = 7
  · exact aTP P (by simpa using e7) (hA (b := (⟨5, 0, 0, 0, ⟨#[]⟩, 0, []⟩, y)) rfl (by unfold bodyS; rw [if_neg c5, if_neg e5, if_neg e6, if_pos e7]) rfl keep0)
  refine aFP P (by simpa using e7) ?_
  by_cases c14 : k < 14
  · exact aTP P (by simpa using c14) (hA (b := (⟨7, 0, 0, 0, ⟨#[]⟩, 0, []⟩, y)) rfl (by unfold bodyS; rw [if_neg c5, if_neg e5, if_neg e6, if_neg e7, if_pos c14]) rfl keep0)
  refine aFP P (by simpa using c14) ?_
  by_cases e14 : k = 14
  · exact aTP P (by simpa using e14) (gP P g10b (hA (b := (⟨6, (roll y 2).1, 0, 0, ⟨#[]⟩, 0, []⟩, (roll y 2).2)) rfl (by unfold bodyS; rw [if_neg c5, if_neg e5, if_neg e6, if_neg e7, if_neg c14, if_pos e14]) rfl keep0))
  refine aFP P (by simpa using e14) ?_
  by_cases e15 : k = 15
  · exact aTP P (by simpa using e15) (gP P g10b (hA (b := (⟨8, 0, 0, (roll y 2).1, ⟨#[]⟩, 0, []⟩, (roll y 2).2)) rfl (by unfold bodyS; rw [if_neg c5, if_neg e5, if_neg e6, if_neg e7, if_neg c14, if_neg e14, if_pos e15]) rfl keep0))
  refine aFP P (by simpa using e15) ?_
  by_cases e16 : k = 16
  · exact aTP P (by simpa using e16) (hA (b := (⟨9, 0, 0, 0, ⟨#[]⟩, 0, []⟩, y)) rfl (by unfold bodyS; rw [if_neg c5, if_neg e5, if_neg e6, if_neg e7, if_neg c14, if_neg e14, if_neg e15, if_pos e16]) rfl keep0)
  refine aFP P (by simpa using e16) ?_
  by_cases e17 : k = 17
  · refine aTP P (by simpa using e17) (gP P g10b (gP P g10b ?_))
    have hn := roll_lt (x := (roll y 2).2) (b := 4) (by omega) (by omega)
    have hbody : bodyS k y = (⟨12, (roll y 2).1, 0, 0, ⟨#[]⟩, 0, (keepN (roll (roll y 2).2 4).1.toNat (roll (roll y 2).2 4).2).1⟩, (keepN (roll (roll y 2).2 4).1.toNat (roll (roll y 2).2 4).2).2) := by
      unfold bodyS
      rw [if_neg c5, if_neg e5, if_neg e6, if_neg e7, if_neg c14, if_neg e14, if_neg e15, if_neg e16, if_pos e17]
    generalize roll (roll y 2).2 4 = q at hn hbody
    obtain ⟨n, z⟩ := q
    simp only at hn hbody
    have hc : n = 0 ∨ n = 1 ∨ n = 2 ∨ n = 3 := by omega
    rcases hc with rfl | rfl | rfl | rfl
    · exact aFP P rfl (hA (b := _) rfl hbody rfl keep0)
    · exact aTP P rfl (gP P g10b (aFP P rfl (hA (b := _) rfl hbody rfl (keepY (by simp [keepN])))))
    · exact aTP P rfl (gP P g10b (aTP P rfl (gP P g10b (aFP P rfl (hA (b := _) rfl hbody rfl (keepY (by simp [keepN])))))))
    · exact aTP P rfl (gP P g10b (aTP P rfl (gP P g10b (aTP P rfl (gP P g10b (aFP P rfl (hA (b := _) rfl hbody rfl (keepY (by simp [keepN])))))))))
  refine aFP P (by simpa using e17) ?_
  by_cases e18 : k = 18
  · exact aTP P (by simpa using e18) (gP P g10b (hA (b := (⟨13, (roll y 2).1, 0, 0, ⟨#[]⟩, 0, []⟩, (roll y 2).2)) rfl (by unfold bodyS; rw [if_neg c5, if_neg e5, if_neg e6, if_neg e7, if_neg c14, if_neg e14, if_neg e15, if_neg e16, if_neg e17, if_pos e18]) rfl keep0))
  refine aFP P (by simpa using e18) (gP P g10b ?_)
  exact hA (b := (⟨14, 0, (roll y 4).1, 0, ⟨#[]⟩, 0, []⟩, (roll y 4).2)) rfl (by unfold bodyS; rw [if_neg c5, if_neg e5, if_neg e6, if_neg e7, if_neg c14, if_neg e14, if_neg e15, if_neg e16, if_neg e17, if_neg e18]) rfl keep0

end Go.Eng
end

/- Scripts that are rolled: the functions as trees. -/
section
namespace Go.Eng
open Go

def HSc (f : Nat) : Nat → List Nat := match f with
  | 4 => hOfS [(4, [0, 1, 5, 6, 7]), (1000004, [0, 1])]
  | 15 => hOfS [(3000000, [10060007, 10060019])]
  | 16 => hOfS [(6, [1, 4, 7, 8, 9]), (1000006, [4, 8])]
  | 34 => hOfS [(1, [0, 2, 4, 5])]
  | _ => fun _ => []
noncomputable def t14 : TOrc := tCons 14 (fun a G => tspec (oStep a G) (R14 a G)) tNone
noncomputable def tE : TOrc := tinU FT TT HSc 6 [14] t14 2
noncomputable def lp16 : Code := lpOf (codeOf Go.Proofs.Try.f16) 0
/-! the program's: ranges over a function -/
noncomputable def t8 : TOrc := tinU FT TT HSc 6 [] tNone 3
def rfOf : Code → Option (Code × Code)
  | .seq a b => (rfOf a).orElse fun _ => rfOf b
  | .block _ b => rfOf b
  | .rangeFunc _ _ asg body => some (asg, body)
  | _ => none
noncomputable def asg15 : Code := ((rfOf (codeOf Go.Proofs.Try.f15)).getD (.skip, .skip)).1
noncomputable def bd15 : Code := ((rfOf (codeOf Go.Proofs.Try.f15)).getD (.skip, .skip)).2
noncomputable def lr15 (s : LS) : Ent := .lrec s (mkT 0 28 [(7, .ptr (.glob 3) 0), (19, .fn 34 [.ptr (.glob 1) 0, .ptr (.glob 2) 0])]) [20] asg15 bd15
noncomputable def G15 (x n : Int) (c4 : AV) : List Ent := [.obj [.dat (.int .u64 x)], .obj [.dat (.int .i64 n)], .obj [.ptr (.glob 0) 0], .obj [c4], lr15 .ready]
noncomputable def y15 (a : List AV) (G : List Ent) : Tr (AV × List Ent) := tyld TT tNone (fun _ => noLo) [] 4 a G
noncomputable def Y15 (a : List AV) (G : List Ent) : Option (AV × List Ent) := (y15 a G).run
noncomputable def yn15 (x n : Int) (kd nd at' nn : Int) (s : ByteArray) (p : Int) (d : D) : Tr (AV × List Ent) :=
  y15 [.agg [.dat (.int .i64 kd), .dat (.int .i64 nd), .dat (.int .i64 at'), .dat (.int .i64 nn), .dat (.str s), .dat (.int .i64 p), .dat d]] (G15 x n (.dat (.list .nil 0 [])))
noncomputable def yr15 (x n : Int) (l : Row) (kd nd at' nn : Int) (s : ByteArray) (p : Int) (d : D) : Tr (AV × List Ent) :=
  y15 [.agg [.dat (.int .i64 kd), .dat (.int .i64 nd), .dat (.int .i64 at'), .dat (.int .i64 nn), .dat (.str s), .dat (.int .i64 p), .dat d]] (G15 x n (.rowc .excl 7 l))
def oYl (G : List Ent) (l : Row) : AV × List Ent := (.dat (.bool true), G.set 3 (.obj [.rowc .excl 7 l]))
noncomputable def t34 : TOrc := tCons 13 (fun a G => tspec (oStep a G) (R13 a G)) (tCons (yB + 4) (fun a G => tspec (oYl G) (Y15 a G)) tNone)
noncomputable def lp34 : Code := lpOf (codeOf Go.Proofs.Try.f34) 0
noncomputable def inv34 (x n : Int) (c4 : AV) (i : Int) : St := ⟨mkT 0 13 [(0, .yld 4), (2, .ptr (.glob 2) 0), (4, .dat (.int .i64 n)), (5, .dat (.int .i64 i))], ⟨[], G15 x n c4, 0⟩⟩
noncomputable def rk34 (x n : Int) (c4 : AV) (i : Int) : Tr (Ex × St) := tround TT t34 noLo (HSc 34) lp34 (inv34 x n c4 i)
def out34 (G : List Ent) : Ex × St := (.exit 0, ⟨mkT 0 13 [], ⟨[], G, 0⟩⟩)
noncomputable def lo34 (n : Nat) (st : St) : Tr (Ex × St) := match n with
  | 1 => tlo TT t34.runs (HSc 34) lp34 out34 st
  | _ => .fail
noncomputable def f34t (x n : Int) (c4 : AV) : Tr (AV × List Ent) := tfn TT t34 lo34 Go.Proofs.Try.f34 [.yld 4, .ptr (.glob 1) 0, .ptr (.glob 2) 0] (G15 x n c4)
noncomputable def R34 (a : List AV) (G : List Ent) : Option (AV × List Ent) := (tfn TT t34 lo34 Go.Proofs.Try.f34 a G).run
noncomputable def o34a (_ : List Ent) (p : Int × Int) : AV × List Ent := (.tup [], G15 p.1 p.2 (.dat (.list .nil 0 [])))
noncomputable def o34b (_ : List Ent) (p : Int × Int × Row) : AV × List Ent := (.tup [], G15 p.1 p.2.1 (.rowc .excl 7 p.2.2))
noncomputable def t15 : TOrc := tCons 34 (fun a G => tspec2 (o34a G) (o34b G) (R34 a G)) (tCons 8 (fun a G => t8 8 a G) (tCons 26 (fun a G => t8 26 a G) tNone))
noncomputable def f15t (x n : Int) : Tr (AV × List Ent) := tfnR TT t15 noLo (HSc 15 3000000) Go.Proofs.Try.f15 [.dat (.int .u64 x), .dat (.int .i64 n)] []
noncomputable def R15 (a : List AV) (G : List Ent) : Option (AV × List Ent) := (tfnR TT t15 noLo (HSc 15 3000000) Go.Proofs.Try.f15 a G).run

/-! the document's -/
def cfg0 : List AV := [.dat (.int .u32 0), .dat (.int .i64 0), .dat (.int .i64 0), .dat (.int .i64 0), .dat (.int .i64 0), .dat (.int .u64 0)]
def inv16a (x n : Int) (i : Int) : St := ⟨mkT 0 32 [(1, .dat (.int .i64 n)), (4, .ptr (.loc 0) 0), (7, .ptr (.loc 1) 0), (8, .dat (.list .nil 0 [])), (9, .dat (.int .i64 i))], ⟨[some (.obj cfg0), some (.obj [.dat (.int .u64 x)])], [], 0⟩⟩
noncomputable def rk16a (x n : Int) (i : Int) : Tr (Ex × St) := tround TT tE noLo (HSc 16) lp16 (inv16a x n i)
def inv16b (x n : Int) (l : Row) (i : Int) : St := ⟨mkT 0 32 [(1, .dat (.int .i64 n)), (4, .ptr (.loc 0) 0), (7, .ptr (.glob 0) 0), (8, .sh false 1 7 0 l.length), (9, .dat (.int .i64 i))], ⟨[some (.obj cfg0), some (.row .excl 7 l)], [.obj [.dat (.int .u64 x)]], 0⟩⟩
noncomputable def rk16b (x n : Int) (l : Row) (i : Int) : Tr (Ex × St) := tround TT tE noLo (HSc 16) lp16 (inv16b x n l i)
def out16a (_ : Unit) : Ex × St := (.exit 0, ⟨mkT 0 32 [(4, .ptr (.loc 0) 0), (8, .dat (.list .nil 0 []))], ⟨[some (.obj cfg0)], [], 0⟩⟩)
def out16b (p : Row × Int) : Ex × St := (.exit 0, ⟨mkT 0 32 [(4, .ptr (.loc 0) 0), (8, .sh false 1 7 0 p.1.length)], ⟨[some (.obj cfg0), some (.row .excl 7 p.1)], [.obj [.dat (.int .u64 p.2)]], 0⟩⟩)
noncomputable def lo16 (n : Nat) (st : St) : Tr (Ex × St) := match n with
  | 6 => tlo2 TT tE.runs (HSc 16) lp16 out16a out16b st
  | _ => .fail
noncomputable def f16t (x n : Int) : Tr (AV × List Ent) := tfn TT tE lo16 Go.Proofs.Try.f16 [.dat (.int .u64 x), .dat (.int .i64 n)] []
noncomputable def R16 (a : List AV) (G : List Ent) : Option (AV × List Ent) := (tfn TT tE lo16 Go.Proofs.Try.f16 a G).run
end Go.Eng
end

/- Scripts that are rolled: what both come to. -/
section
namespace Go.Eng
open Go
set_option maxRecDepth 100000
set_option linter.unusedSimpArgs false

theorem yn15_eq (x n : Int) (kd nd at' nn : Int) (s : ByteArray) (p : Int) (d : D) : (yn15 x n kd nd at' nn s p d).ev =
  (some ((AV.dat (D.bool true)), [(Ent.obj [(AV.dat (D.int IntKind.u64 x))]), (Ent.obj [(AV.dat (D.int IntKind.i64 n))]), (Ent.obj [(AV.ptr (Ref.glob 0) 0)]), (Ent.obj [(AV.rowc Mode.excl 7 [[(D.int IntKind.i64 kd), (D.int IntKind.i64 nd), (D.int IntKind.i64 at'), (D.int IntKind.i64 nn), (D.str s), (D.int IntKind.i64 p), d]])]), (Ent.lrec LS.ready (mkT 0 28 [(7, (AV.ptr (Ref.glob 3) 0)), (19, (AV.fn 34 [(AV.ptr (Ref.glob 1) 0), (AV.ptr (Ref.glob 2) 0)]))]) [20] asg15 bd15)]))
  := by kernel_rfl
theorem yr15_eq (x n : Int) (l : Row) (kd nd at' nn : Int) (s : ByteArray) (p : Int) (d : D) : (yr15 x n l kd nd at' nn s p d).ev =
  (rAsk ((decide ((0 + (List.length l)) ≤ (List.length l))) && (fits (TI.mk (TK.struct [(0, 3), (1, 3), (2, 3), (3, 3), (4, 9), (5, 3), (6, 33)]) 7 80 [(AV.dat (D.int IntKind.i64 (0 : Int))), (AV.dat (D.int IntKind.i64 (0 : Int))), (AV.dat (D.int IntKind.i64 (0 : Int))), (AV.dat (D.int IntKind.i64 (0 : Int))), (AV.dat (D.str (ByteArray.mk (List.toArray [])))), (AV.dat (D.int IntKind.i64 (0 : Int))), (AV.dat (D.list LK.nil 0 ([] : Row)))] false) ((List.length l) + 1)))
   (rAsk (true && (decide ((List.length l) = (List.length l))))
    (rAsk (wholeB false 0 ((List.length l) + 1) (List.length (l ++ [[(D.int IntKind.i64 kd), (D.int IntKind.i64 nd), (D.int IntKind.i64 at'), (D.int IntKind.i64 nn), (D.str s), (D.int IntKind.i64 p), d]])))
     (some ((AV.dat (D.bool true)), [(Ent.obj [(AV.dat (D.int IntKind.u64 x))]), (Ent.obj [(AV.dat (D.int IntKind.i64 n))]), (Ent.obj [(AV.ptr (Ref.glob 0) 0)]), (Ent.obj [(AV.rowc Mode.excl 7 (l ++ [[(D.int IntKind.i64 kd), (D.int IntKind.i64 nd), (D.int IntKind.i64 at'), (D.int IntKind.i64 nn), (D.str s), (D.int IntKind.i64 p), d]]))]), (Ent.lrec LS.ready (mkT 0 28 [(7, (AV.ptr (Ref.glob 3) 0)), (19, (AV.fn 34 [(AV.ptr (Ref.glob 1) 0), (AV.ptr (Ref.glob 2) 0)]))]) [20] asg15 bd15)]))
     (some ((AV.dat (D.bool true)), [(Ent.obj [(AV.dat (D.int IntKind.u64 x))]), (Ent.obj [(AV.dat (D.int IntKind.i64 n))]), (Ent.obj [(AV.ptr (Ref.glob 0) 0)]), (Ent.obj [(AV.dat (D.list LK.any 7 (List.take ((List.length l) + 1) (List.drop 0 (l ++ [[(D.int IntKind.i64 kd), (D.int IntKind.i64 nd), (D.int IntKind.i64 at'), (D.int IntKind.i64 nn), (D.str s), (D.int IntKind.i64 p), d]])))))]), (Ent.lrec LS.ready (mkT 0 28 [(7, (AV.ptr (Ref.glob 3) 0)), (19, (AV.fn 34 [(AV.ptr (Ref.glob 1) 0), (AV.ptr (Ref.glob 2) 0)]))]) [20] asg15 bd15)]))
    )
    none
   )
   none
  )
  := by kernel_rfl
theorem rk34_eq (x n : Int) (c4 : AV) (i : Int) : (rk34 x n c4 i).ev =
  (rAsk (decide (i < n))
   (rGet (fnS (fun (p : Int × Int × Int × Int × ByteArray × Int × D × Int) => ((AV.agg [(AV.dat (D.int IntKind.i64 p.1)), (AV.dat (D.int IntKind.i64 p.2.1)), (AV.dat (D.int IntKind.i64 p.2.2.1)), (AV.dat (D.int IntKind.i64 p.2.2.2.1)), (AV.dat (D.str p.2.2.2.2.1)), (AV.dat (D.int IntKind.i64 p.2.2.2.2.2.1)), (AV.dat p.2.2.2.2.2.2.1)]), [(Ent.obj [(AV.dat (D.int IntKind.u64 p.2.2.2.2.2.2.2))]), (Ent.obj [(AV.dat (D.int IntKind.i64 n))]), (Ent.obj [(AV.ptr (Ref.glob 0) 0)]), (Ent.obj [c4]), (Ent.lrec LS.ready (mkT 0 28 [(7, (AV.ptr (Ref.glob 3) 0)), (19, (AV.fn 34 [(AV.ptr (Ref.glob 1) 0), (AV.ptr (Ref.glob 2) 0)]))]) [20] asg15 bd15)])) (R13 [(AV.ptr (Ref.glob 0) 0)] [(Ent.obj [(AV.dat (D.int IntKind.u64 x))]), (Ent.obj [(AV.dat (D.int IntKind.i64 n))]), (Ent.obj [(AV.ptr (Ref.glob 0) 0)]), (Ent.obj [c4]), (Ent.lrec LS.ready (mkT 0 28 [(7, (AV.ptr (Ref.glob 3) 0)), (19, (AV.fn 34 [(AV.ptr (Ref.glob 1) 0), (AV.ptr (Ref.glob 2) 0)]))]) [20] asg15 bd15)])) fun x1 =>
    (rGet (fnS (fun (l : Row) => ((AV.dat (D.bool true)), [(Ent.obj [(AV.dat (D.int IntKind.u64 x1.2.2.2.2.2.2.2))]), (Ent.obj [(AV.dat (D.int IntKind.i64 n))]), (Ent.obj [(AV.ptr (Ref.glob 0) 0)]), (Ent.obj [(AV.rowc Mode.excl 7 l)]), (Ent.lrec LS.ready (mkT 0 28 [(7, (AV.ptr (Ref.glob 3) 0)), (19, (AV.fn 34 [(AV.ptr (Ref.glob 1) 0), (AV.ptr (Ref.glob 2) 0)]))]) [20] asg15 bd15)])) (Y15 [(AV.agg [(AV.dat (D.int IntKind.i64 x1.1)), (AV.dat (D.int IntKind.i64 x1.2.1)), (AV.dat (D.int IntKind.i64 x1.2.2.1)), (AV.dat (D.int IntKind.i64 x1.2.2.2.1)), (AV.dat (D.str x1.2.2.2.2.1)), (AV.dat (D.int IntKind.i64 x1.2.2.2.2.2.1)), (AV.dat x1.2.2.2.2.2.2.1)])] [(Ent.obj [(AV.dat (D.int IntKind.u64 x1.2.2.2.2.2.2.2))]), (Ent.obj [(AV.dat (D.int IntKind.i64 n))]), (Ent.obj [(AV.ptr (Ref.glob 0) 0)]), (Ent.obj [c4]), (Ent.lrec LS.ready (mkT 0 28 [(7, (AV.ptr (Ref.glob 3) 0)), (19, (AV.fn 34 [(AV.ptr (Ref.glob 1) 0), (AV.ptr (Ref.glob 2) 0)]))]) [20] asg15 bd15)])) fun x2 =>
     (some (Ex.norm, (St.mk (mkT 0 13 [(0, (AV.yld 4)), (2, (AV.ptr (Ref.glob 2) 0)), (4, (AV.dat (D.int IntKind.i64 n))), (5, (AV.dat (D.int IntKind.i64 (IntKind.wrap IntKind.i64 (i + (1 : Int))))))]) (Mem.mk [] [(Ent.obj [(AV.dat (D.int IntKind.u64 x1.2.2.2.2.2.2.2))]), (Ent.obj [(AV.dat (D.int IntKind.i64 n))]), (Ent.obj [(AV.ptr (Ref.glob 0) 0)]), (Ent.obj [(AV.rowc Mode.excl 7 x2)]), (Ent.lrec LS.ready (mkT 0 28 [(7, (AV.ptr (Ref.glob 3) 0)), (19, (AV.fn 34 [(AV.ptr (Ref.glob 1) 0), (AV.ptr (Ref.glob 2) 0)]))]) [20] asg15 bd15)] 0))))
    )
   )
   (some ((Ex.exit 0), (St.mk (mkT 0 13 []) (Mem.mk [] [(Ent.obj [(AV.dat (D.int IntKind.u64 x))]), (Ent.obj [(AV.dat (D.int IntKind.i64 n))]), (Ent.obj [(AV.ptr (Ref.glob 0) 0)]), (Ent.obj [c4]), (Ent.lrec LS.ready (mkT 0 28 [(7, (AV.ptr (Ref.glob 3) 0)), (19, (AV.fn 34 [(AV.ptr (Ref.glob 1) 0), (AV.ptr (Ref.glob 2) 0)]))]) [20] asg15 bd15)] 0))))
  )
  := by kernel_rfl
theorem f34t_eq (x n : Int) (c4 : AV) : (f34t x n c4).ev =
  (rGet (loS TT (TOrc.runs t34) (HSc 34) lp34 out34 (St.mk (mkT 0 13 [(0, (AV.yld 4)), (2, (AV.ptr (Ref.glob 2) 0)), (4, (AV.dat (D.int IntKind.i64 n))), (5, (AV.dat (D.int IntKind.i64 (0 : Int))))]) (Mem.mk [] [(Ent.obj [(AV.dat (D.int IntKind.u64 x))]), (Ent.obj [(AV.dat (D.int IntKind.i64 n))]), (Ent.obj [(AV.ptr (Ref.glob 0) 0)]), (Ent.obj [c4]), (Ent.lrec LS.ready (mkT 0 28 [(7, (AV.ptr (Ref.glob 3) 0)), (19, (AV.fn 34 [(AV.ptr (Ref.glob 1) 0), (AV.ptr (Ref.glob 2) 0)]))]) [20] asg15 bd15)] 0))) fun x1 =>
   (some ((AV.tup []), x1))
  )
  := by kernel_rfl
theorem f15t_eq (x n : Int) : (f15t x n).ev =
  (rAsk (decide (n < (0 : Int)))
   (some ((AV.tup [(AV.agg [(AV.dat (D.int IntKind.u32 (0 : Int))), (AV.dat (D.int IntKind.i64 (0 : Int))), (AV.dat (D.int IntKind.i64 (0 : Int))), (AV.dat (D.int IntKind.i64 (0 : Int))), (AV.dat (D.int IntKind.i64 (0 : Int))), (AV.dat (D.int IntKind.u64 (0 : Int)))]), (AV.dat (D.list LK.nil 0 ([] : Row))), (AV.dat (D.int IntKind.i64 (2 : Int)))]), []))
   (rAsk (decide (n > (300 : Int)))
    (some ((AV.tup [(AV.agg [(AV.dat (D.int IntKind.u32 (0 : Int))), (AV.dat (D.int IntKind.i64 (0 : Int))), (AV.dat (D.int IntKind.i64 (0 : Int))), (AV.dat (D.int IntKind.i64 (0 : Int))), (AV.dat (D.int IntKind.i64 (0 : Int))), (AV.dat (D.int IntKind.u64 (0 : Int)))]), (AV.dat (D.list LK.nil 0 ([] : Row))), (AV.dat (D.int IntKind.i64 (2 : Int)))]), []))
    (rAsk (Option.isSome (fnS (fun (p : Int × Int) => ((AV.tup []), [(Ent.obj [(AV.dat (D.int IntKind.u64 p.1))]), (Ent.obj [(AV.dat (D.int IntKind.i64 p.2))]), (Ent.obj [(AV.ptr (Ref.glob 0) 0)]), (Ent.obj [(AV.dat (D.list LK.nil 0 ([] : Row)))]), (Ent.lrec LS.ready (mkT 0 28 [(7, (AV.ptr (Ref.glob 3) 0)), (19, (AV.fn 34 [(AV.ptr (Ref.glob 1) 0), (AV.ptr (Ref.glob 2) 0)]))]) [20] asg15 bd15)])) (R34 [(AV.yld 4), (AV.ptr (Ref.glob 1) 0), (AV.ptr (Ref.glob 2) 0)] [(Ent.obj [(AV.dat (D.int IntKind.u64 x))]), (Ent.obj [(AV.dat (D.int IntKind.i64 n))]), (Ent.obj [(AV.ptr (Ref.glob 0) 0)]), (Ent.obj [(AV.dat (D.list LK.nil 0 ([] : Row)))]), (Ent.lrec LS.ready (mkT 0 28 [(7, (AV.ptr (Ref.glob 3) 0)), (19, (AV.fn 34 [(AV.ptr (Ref.glob 1) 0), (AV.ptr (Ref.glob 2) 0)]))]) [20] asg15 bd15)])))
     (rGet (fnS (fun (p : Int × Int) => ((AV.tup []), [(Ent.obj [(AV.dat (D.int IntKind.u64 p.1))]), (Ent.obj [(AV.dat (D.int IntKind.i64 p.2))]), (Ent.obj [(AV.ptr (Ref.glob 0) 0)]), (Ent.obj [(AV.dat (D.list LK.nil 0 ([] : Row)))]), (Ent.lrec LS.ready (mkT 0 28 [(7, (AV.ptr (Ref.glob 3) 0)), (19, (AV.fn 34 [(AV.ptr (Ref.glob 1) 0), (AV.ptr (Ref.glob 2) 0)]))]) [20] asg15 bd15)])) (R34 [(AV.yld 4), (AV.ptr (Ref.glob 1) 0), (AV.ptr (Ref.glob 2) 0)] [(Ent.obj [(AV.dat (D.int IntKind.u64 x))]), (Ent.obj [(AV.dat (D.int IntKind.i64 n))]), (Ent.obj [(AV.ptr (Ref.glob 0) 0)]), (Ent.obj [(AV.dat (D.list LK.nil 0 ([] : Row)))]), (Ent.lrec LS.ready (mkT 0 28 [(7, (AV.ptr (Ref.glob 3) 0)), (19, (AV.fn 34 [(AV.ptr (Ref.glob 1) 0), (AV.ptr (Ref.glob 2) 0)]))]) [20] asg15 bd15)])) fun x1 =>
      (some ((AV.tup [(AV.agg [(AV.dat (D.int IntKind.u32 (1 : Int))), (AV.dat (D.int IntKind.i64 (4 : Int))), (AV.dat (D.int IntKind.i64 (2 : Int))), (AV.dat (D.int IntKind.i64 (2 : Int))), (AV.dat (D.int IntKind.i64 (11 : Int))), (AV.dat (D.int IntKind.u64 (100 : Int)))]), (AV.dat (D.list LK.nil 0 ([] : Row))), (AV.dat (D.int IntKind.i64 (0 : Int)))]), [(Ent.obj [(AV.dat (D.int IntKind.u64 x1.1))]), (Ent.obj [(AV.dat (D.int IntKind.i64 x1.2))]), (Ent.obj [(AV.ptr (Ref.glob 0) 0)]), (Ent.obj [(AV.dat (D.list LK.nil 0 ([] : Row)))]), Ent.gone]))
     )
     (rGet (fnS (fun (p : Int × Int × Row) => ((AV.tup []), [(Ent.obj [(AV.dat (D.int IntKind.u64 p.1))]), (Ent.obj [(AV.dat (D.int IntKind.i64 p.2.1))]), (Ent.obj [(AV.ptr (Ref.glob 0) 0)]), (Ent.obj [(AV.rowc Mode.excl 7 p.2.2)]), (Ent.lrec LS.ready (mkT 0 28 [(7, (AV.ptr (Ref.glob 3) 0)), (19, (AV.fn 34 [(AV.ptr (Ref.glob 1) 0), (AV.ptr (Ref.glob 2) 0)]))]) [20] asg15 bd15)])) (R34 [(AV.yld 4), (AV.ptr (Ref.glob 1) 0), (AV.ptr (Ref.glob 2) 0)] [(Ent.obj [(AV.dat (D.int IntKind.u64 x))]), (Ent.obj [(AV.dat (D.int IntKind.i64 n))]), (Ent.obj [(AV.ptr (Ref.glob 0) 0)]), (Ent.obj [(AV.dat (D.list LK.nil 0 ([] : Row)))]), (Ent.lrec LS.ready (mkT 0 28 [(7, (AV.ptr (Ref.glob 3) 0)), (19, (AV.fn 34 [(AV.ptr (Ref.glob 1) 0), (AV.ptr (Ref.glob 2) 0)]))]) [20] asg15 bd15)])) fun x2 =>
      (some ((AV.tup [(AV.agg [(AV.dat (D.int IntKind.u32 (1 : Int))), (AV.dat (D.int IntKind.i64 (4 : Int))), (AV.dat (D.int IntKind.i64 (2 : Int))), (AV.dat (D.int IntKind.i64 (2 : Int))), (AV.dat (D.int IntKind.i64 (11 : Int))), (AV.dat (D.int IntKind.u64 (100 : Int)))]), (AV.dat (D.list LK.any 7 (List.take (List.length x2.2.2) (List.drop 0 x2.2.2)))), (AV.dat (D.int IntKind.i64 (0 : Int)))]), [(Ent.obj [(AV.dat (D.int IntKind.u64 x2.1))]), (Ent.obj [(AV.dat (D.int IntKind.i64 x2.2.1))]), (Ent.obj [(AV.ptr (Ref.glob 0) 0)]), (Ent.obj [(AV.rowc Mode.own 7 x2.2.2)]), Ent.gone]))
     )
    )
   )
  )
  := by kernel_rfl
theorem rk16a_eq (x n : Int) (i : Int) : (rk16a x n i).ev =
  (rAsk (decide (i < n))
   (rGet (fnS (fun (p : Int × Int × Int × Int × ByteArray × Int × D × Int) => ((AV.agg [(AV.dat (D.int IntKind.i64 p.1)), (AV.dat (D.int IntKind.i64 p.2.1)), (AV.dat (D.int IntKind.i64 p.2.2.1)), (AV.dat (D.int IntKind.i64 p.2.2.2.1)), (AV.dat (D.str p.2.2.2.2.1)), (AV.dat (D.int IntKind.i64 p.2.2.2.2.2.1)), (AV.dat p.2.2.2.2.2.2.1)]), [(Ent.obj [(AV.dat (D.int IntKind.u64 p.2.2.2.2.2.2.2))])])) (R14 [(AV.ptr (Ref.glob 0) 0)] [(Ent.obj [(AV.dat (D.int IntKind.u64 x))])])) fun x1 =>
    (some (Ex.norm, (St.mk (mkT 0 32 [(1, (AV.dat (D.int IntKind.i64 n))), (4, (AV.ptr (Ref.loc 0) 0)), (7, (AV.ptr (Ref.glob 0) 0)), (8, (AV.sh false 1 7 0 1)), (9, (AV.dat (D.int IntKind.i64 (IntKind.wrap IntKind.i64 (i + (1 : Int))))))]) (Mem.mk [(Option.some (Ent.obj [(AV.dat (D.int IntKind.u32 (0 : Int))), (AV.dat (D.int IntKind.i64 (0 : Int))), (AV.dat (D.int IntKind.i64 (0 : Int))), (AV.dat (D.int IntKind.i64 (0 : Int))), (AV.dat (D.int IntKind.i64 (0 : Int))), (AV.dat (D.int IntKind.u64 (0 : Int)))])), (Option.some (Ent.row Mode.excl 7 [[(D.int IntKind.i64 x1.1), (D.int IntKind.i64 x1.2.1), (D.int IntKind.i64 x1.2.2.1), (D.int IntKind.i64 x1.2.2.2.1), (D.str x1.2.2.2.2.1), (D.int IntKind.i64 x1.2.2.2.2.2.1), x1.2.2.2.2.2.2.1]]))] [(Ent.obj [(AV.dat (D.int IntKind.u64 x1.2.2.2.2.2.2.2))])] 0))))
   )
   (some ((Ex.exit 0), (St.mk (mkT 0 32 [(4, (AV.ptr (Ref.loc 0) 0)), (8, (AV.dat (D.list LK.nil 0 ([] : Row))))]) (Mem.mk [(Option.some (Ent.obj [(AV.dat (D.int IntKind.u32 (0 : Int))), (AV.dat (D.int IntKind.i64 (0 : Int))), (AV.dat (D.int IntKind.i64 (0 : Int))), (AV.dat (D.int IntKind.i64 (0 : Int))), (AV.dat (D.int IntKind.i64 (0 : Int))), (AV.dat (D.int IntKind.u64 (0 : Int)))]))] [] 0))))
  )
  := by kernel_rfl
theorem rk16b_eq (x n : Int) (l : Row) (i : Int) : (rk16b x n l i).ev =
  (rAsk (decide (i < n))
   (rGet (fnS (fun (p : Int × Int × Int × Int × ByteArray × Int × D × Int) => ((AV.agg [(AV.dat (D.int IntKind.i64 p.1)), (AV.dat (D.int IntKind.i64 p.2.1)), (AV.dat (D.int IntKind.i64 p.2.2.1)), (AV.dat (D.int IntKind.i64 p.2.2.2.1)), (AV.dat (D.str p.2.2.2.2.1)), (AV.dat (D.int IntKind.i64 p.2.2.2.2.2.1)), (AV.dat p.2.2.2.2.2.2.1)]), [(Ent.obj [(AV.dat (D.int IntKind.u64 p.2.2.2.2.2.2.2))])])) (R14 [(AV.ptr (Ref.glob 0) 0)] [(Ent.obj [(AV.dat (D.int IntKind.u64 x))])])) fun x1 =>
    (rAsk ((decide ((0 + (List.length l)) ≤ (List.length l))) && (fits (TI.mk (TK.struct [(0, 3), (1, 3), (2, 3), (3, 3), (4, 9), (5, 3), (6, 33)]) 7 80 [(AV.dat (D.int IntKind.i64 (0 : Int))), (AV.dat (D.int IntKind.i64 (0 : Int))), (AV.dat (D.int IntKind.i64 (0 : Int))), (AV.dat (D.int IntKind.i64 (0 : Int))), (AV.dat (D.str (ByteArray.mk (List.toArray [])))), (AV.dat (D.int IntKind.i64 (0 : Int))), (AV.dat (D.list LK.nil 0 ([] : Row)))] false) ((List.length l) + 1)))
     (rAsk (true && (decide ((List.length l) = (List.length l))))
      (some (Ex.norm, (St.mk (mkT 0 32 [(1, (AV.dat (D.int IntKind.i64 n))), (4, (AV.ptr (Ref.loc 0) 0)), (7, (AV.ptr (Ref.glob 0) 0)), (8, (AV.sh false 1 7 0 ((List.length l) + 1))), (9, (AV.dat (D.int IntKind.i64 (IntKind.wrap IntKind.i64 (i + (1 : Int))))))]) (Mem.mk [(Option.some (Ent.obj [(AV.dat (D.int IntKind.u32 (0 : Int))), (AV.dat (D.int IntKind.i64 (0 : Int))), (AV.dat (D.int IntKind.i64 (0 : Int))), (AV.dat (D.int IntKind.i64 (0 : Int))), (AV.dat (D.int IntKind.i64 (0 : Int))), (AV.dat (D.int IntKind.u64 (0 : Int)))])), (Option.some (Ent.row Mode.excl 7 (l ++ [[(D.int IntKind.i64 x1.1), (D.int IntKind.i64 x1.2.1), (D.int IntKind.i64 x1.2.2.1), (D.int IntKind.i64 x1.2.2.2.1), (D.str x1.2.2.2.2.1), (D.int IntKind.i64 x1.2.2.2.2.2.1), x1.2.2.2.2.2.2.1]])))] [(Ent.obj [(AV.dat (D.int IntKind.u64 x1.2.2.2.2.2.2.2))])] 0))))
      none
     )
     none
    )
   )
   (some ((Ex.exit 0), (St.mk (mkT 0 32 [(4, (AV.ptr (Ref.loc 0) 0)), (8, (AV.sh false 1 7 0 (List.length l)))]) (Mem.mk [(Option.some (Ent.obj [(AV.dat (D.int IntKind.u32 (0 : Int))), (AV.dat (D.int IntKind.i64 (0 : Int))), (AV.dat (D.int IntKind.i64 (0 : Int))), (AV.dat (D.int IntKind.i64 (0 : Int))), (AV.dat (D.int IntKind.i64 (0 : Int))), (AV.dat (D.int IntKind.u64 (0 : Int)))])), (Option.some (Ent.row Mode.excl 7 l))] [(Ent.obj [(AV.dat (D.int IntKind.u64 x))])] 0))))
  )
  := by kernel_rfl
theorem f16t_eq (x n : Int) : (f16t x n).ev =
  (rAsk (decide (n < (0 : Int)))
   (some ((AV.tup [(AV.agg [(AV.dat (D.int IntKind.u32 (0 : Int))), (AV.dat (D.int IntKind.i64 (0 : Int))), (AV.dat (D.int IntKind.i64 (0 : Int))), (AV.dat (D.int IntKind.i64 (0 : Int))), (AV.dat (D.int IntKind.i64 (0 : Int))), (AV.dat (D.int IntKind.u64 (0 : Int)))]), (AV.dat (D.list LK.nil 0 ([] : Row))), (AV.dat (D.int IntKind.i64 (2 : Int)))]), []))
   (rAsk (decide (n > (300 : Int)))
    (some ((AV.tup [(AV.agg [(AV.dat (D.int IntKind.u32 (0 : Int))), (AV.dat (D.int IntKind.i64 (0 : Int))), (AV.dat (D.int IntKind.i64 (0 : Int))), (AV.dat (D.int IntKind.i64 (0 : Int))), (AV.dat (D.int IntKind.i64 (0 : Int))), (AV.dat (D.int IntKind.u64 (0 : Int)))]), (AV.dat (D.list LK.nil 0 ([] : Row))), (AV.dat (D.int IntKind.i64 (2 : Int)))]), []))
    (rAsk (Option.isSome (loS TT (TOrc.runs tE) (HSc 16) lp16 out16a (St.mk (mkT 0 32 [(1, (AV.dat (D.int IntKind.i64 n))), (4, (AV.ptr (Ref.loc 0) 0)), (7, (AV.ptr (Ref.loc 1) 0)), (8, (AV.dat (D.list LK.nil 0 ([] : Row)))), (9, (AV.dat (D.int IntKind.i64 (0 : Int))))]) (Mem.mk [(Option.some (Ent.obj [(AV.dat (D.int IntKind.u32 (0 : Int))), (AV.dat (D.int IntKind.i64 (0 : Int))), (AV.dat (D.int IntKind.i64 (0 : Int))), (AV.dat (D.int IntKind.i64 (0 : Int))), (AV.dat (D.int IntKind.i64 (0 : Int))), (AV.dat (D.int IntKind.u64 (0 : Int)))])), (Option.some (Ent.obj [(AV.dat (D.int IntKind.u64 x))]))] [] 0))))
     (rGet (loS TT (TOrc.runs tE) (HSc 16) lp16 out16a (St.mk (mkT 0 32 [(1, (AV.dat (D.int IntKind.i64 n))), (4, (AV.ptr (Ref.loc 0) 0)), (7, (AV.ptr (Ref.loc 1) 0)), (8, (AV.dat (D.list LK.nil 0 ([] : Row)))), (9, (AV.dat (D.int IntKind.i64 (0 : Int))))]) (Mem.mk [(Option.some (Ent.obj [(AV.dat (D.int IntKind.u32 (0 : Int))), (AV.dat (D.int IntKind.i64 (0 : Int))), (AV.dat (D.int IntKind.i64 (0 : Int))), (AV.dat (D.int IntKind.i64 (0 : Int))), (AV.dat (D.int IntKind.i64 (0 : Int))), (AV.dat (D.int IntKind.u64 (0 : Int)))])), (Option.some (Ent.obj [(AV.dat (D.int IntKind.u64 x))]))] [] 0))) fun x1 =>
      (some ((AV.tup [(AV.agg [(AV.dat (D.int IntKind.u32 (1 : Int))), (AV.dat (D.int IntKind.i64 (4 : Int))), (AV.dat (D.int IntKind.i64 (2 : Int))), (AV.dat (D.int IntKind.i64 (2 : Int))), (AV.dat (D.int IntKind.i64 (11 : Int))), (AV.dat (D.int IntKind.u64 (100 : Int)))]), (AV.dat (D.list LK.nil 0 ([] : Row))), (AV.dat (D.int IntKind.i64 (0 : Int)))]), []))
     )
     (rGet (loS TT (TOrc.runs tE) (HSc 16) lp16 out16b (St.mk (mkT 0 32 [(1, (AV.dat (D.int IntKind.i64 n))), (4, (AV.ptr (Ref.loc 0) 0)), (7, (AV.ptr (Ref.loc 1) 0)), (8, (AV.dat (D.list LK.nil 0 ([] : Row)))), (9, (AV.dat (D.int IntKind.i64 (0 : Int))))]) (Mem.mk [(Option.some (Ent.obj [(AV.dat (D.int IntKind.u32 (0 : Int))), (AV.dat (D.int IntKind.i64 (0 : Int))), (AV.dat (D.int IntKind.i64 (0 : Int))), (AV.dat (D.int IntKind.i64 (0 : Int))), (AV.dat (D.int IntKind.i64 (0 : Int))), (AV.dat (D.int IntKind.u64 (0 : Int)))])), (Option.some (Ent.obj [(AV.dat (D.int IntKind.u64 x))]))] [] 0))) fun x2 =>
      (some ((AV.tup [(AV.agg [(AV.dat (D.int IntKind.u32 (1 : Int))), (AV.dat (D.int IntKind.i64 (4 : Int))), (AV.dat (D.int IntKind.i64 (2 : Int))), (AV.dat (D.int IntKind.i64 (2 : Int))), (AV.dat (D.int IntKind.i64 (11 : Int))), (AV.dat (D.int IntKind.u64 (100 : Int)))]), (AV.dat (D.list LK.any 7 (List.take (List.length x2.1) (List.drop 0 x2.1)))), (AV.dat (D.int IntKind.i64 (0 : Int)))]), [(Ent.obj [(AV.dat (D.int IntKind.u64 x2.2))])]))
     )
    )
   )
  )
  := by kernel_rfl

/-- so many steps, and the dice behind them -/
def scriptN : Nat → Int → List Stp × Int
  | 0, x => ([], x)
  | n + 1, x => ((stepS x).1 :: (scriptN n (stepS x).2).1, (scriptN n (stepS x).2).2)

theorem scriptN_len : ∀ (n : Nat) (x : Int), (scriptN n x).1.length = n
  | 0, _ => rfl
  | n + 1, x => by simp [scriptN, scriptN_len n]
theorem scriptN_take : ∀ (n m : Nat) (x : Int), n ≤ m → (scriptN m x).1.take n = (scriptN n x).1
  | 0, m, x, _ => by simp [scriptN]
  | n + 1, 0, x, h => absurd h (by omega)
  | n + 1, m + 1, x, h => by simp [scriptN, scriptN_take n m _ (by omega)]

theorem oStep_inj0 {x : Int} {R : List Ent} : ∀ p q, oStep [.ptr (.glob 0) 0] (.obj [.dat (.int .u64 x)] :: R) p = oStep [.ptr (.glob 0) 0] (.obj [.dat (.int .u64 x)] :: R) q → p = q := by
  rintro ⟨x1, x2, x3, x4, x5, x6, x7, x8⟩ ⟨y1, y2, y3, y4, y5, y6, y7, y8⟩ h
  simp [oStep, ptrI] at h
  obtain ⟨⟨rfl, rfl, rfl, rfl, rfl, rfl, rfl⟩, rfl⟩ := h
  rfl
theorem oStep_inj1 {e : Ent} {x : Int} {R : List Ent} : ∀ p q, oStep [.ptr (.glob 1) 0] (e :: .obj [.dat (.int .u64 x)] :: R) p = oStep [.ptr (.glob 1) 0] (e :: .obj [.dat (.int .u64 x)] :: R) q → p = q := by
  rintro ⟨x1, x2, x3, x4, x5, x6, x7, x8⟩ ⟨y1, y2, y3, y4, y5, y6, y7, y8⟩ h
  simp [oStep, ptrI] at h
  obtain ⟨⟨rfl, rfl, rfl, rfl, rfl, rfl, rfl⟩, rfl⟩ := h
  rfl

attribute [local irreducible] fnS loS R13 R14

theorem g13 {x : Int} {R : List Ent} : ∃ d, KeepD (stepS x).1.keep d ∧ fnS (oStep [.ptr (.glob 0) 0] (.obj [.dat (.int .u64 x)] :: R)) (R13 [.ptr (.glob 0) 0] (.obj [.dat (.int .u64 x)] :: R)) = some ((stepS x).1.kind, (stepS x).1.node, (stepS x).1.at', (stepS x).1.n, (stepS x).1.data, (stepS x).1.stop, d, (stepS x).2) := by
  obtain ⟨d, hd, h⟩ := c13 (x := x) (R := R)
  exact ⟨d, hd, fnS_eq oStep_inj0 h⟩
theorem g14a {x : Int} {R : List Ent} : ∃ d, KeepD (stepS x).1.keep d ∧ fnS (oStep [.ptr (.glob 0) 0] (.obj [.dat (.int .u64 x)] :: R)) (R14 [.ptr (.glob 0) 0] (.obj [.dat (.int .u64 x)] :: R)) = some ((stepS x).1.kind, (stepS x).1.node, (stepS x).1.at', (stepS x).1.n, (stepS x).1.data, (stepS x).1.stop, d, (stepS x).2) := by
  obtain ⟨d, hd, h⟩ := c14a (x := x) (R := R)
  exact ⟨d, hd, fnS_eq oStep_inj0 h⟩
theorem g14b {e : Ent} {x : Int} {R : List Ent} : ∃ d, KeepD (stepS x).1.keep d ∧ fnS (oStep [.ptr (.glob 1) 0] (e :: .obj [.dat (.int .u64 x)] :: R)) (R14 [.ptr (.glob 1) 0] (e :: .obj [.dat (.int .u64 x)] :: R)) = some ((stepS x).1.kind, (stepS x).1.node, (stepS x).1.at', (stepS x).1.n, (stepS x).1.data, (stepS x).1.stop, d, (stepS x).2) := by
  obtain ⟨d, hd, h⟩ := c14b (e := e) (x := x) (R := R)
  exact ⟨d, hd, fnS_eq oStep_inj1 h⟩

/-! ### the document's -/
theorem wI {i : Nat} (h : i ≤ 100000) : IntKind.wrap .i64 ((i : Int) + 1) = ((i + 1 : Nat) : Int) := by rw [IntKind.wrap_i64]; omega

theorem loop16b {n : Nat} (hn : n ≤ 300) : ∀ (d i : Nat) (x : Int) (acc : List Stp) (ys : Row), i + d = n → SR acc ys → acc.length ≤ i →
    ∃ zs, SR (acc ++ (scriptN d x).1) zs ∧ LoopTo TT tE.runs (HSc 16) lp16 (inv16b x n ys i) (out16b (zs, (scriptN d x).2))
  | 0, i, x, acc, ys, h, hsr, ha => by
    refine ⟨ys, by simpa [scriptN] using hsr, LoopTo.last (orc := tE) (lo := noLo) (fun _ _ _ _ h => h) (LoOk2.no _) ?_ (by simp [out16b])⟩
    show (rk16b x n ys i).run = _
    rw [← Tr.ev_run, rk16b_eq]
    exact aF (by rw [decide_eq_false_iff_not]; omega) rfl
  | d + 1, i, x, acc, ys, h, hsr, ha => by
    obtain ⟨dd, hd, hg⟩ := g14a (x := x) (R := [])
    have hl := hsr.1
    have step : (rk16b x n ys i).run = some (.norm, inv16b (stepS x).2 n (ys ++ [stpD (stepS x).1 dd]) ((i + 1 : Nat) : Int)) := by
      rw [← Tr.ev_run, rk16b_eq]
      refine aT (by rw [decide_eq_true_eq]; omega) (gStep hg (aT ?_ (aT (by simp) ?_)))
      · rw [Nat.zero_add, Bool.and_eq_true, fits_iff]
        refine ⟨by simp, ?_⟩
        omega
      · rw [wI (by omega)]
        unfold inv16b
        rw [List.length_append, List.length_singleton]
        rfl
    obtain ⟨zs, q1, q2⟩ := loop16b hn d (i + 1) (stepS x).2 (acc ++ [(stepS x).1]) (ys ++ [stpD (stepS x).1 dd]) (by omega) (hsr.snoc hd.kd) (by simp; omega)
    refine ⟨zs, by simpa [scriptN] using q1, LoopTo.more (orc := tE) (lo := noLo) (fun _ _ _ _ h => h) (LoOk2.no _) step q2⟩

def o15y (G : List Ent) (ys : Row) : AV × List Ent := (.tup [.agg [.dat (.int .u32 1), .dat (.int .i64 4), .dat (.int .i64 2), .dat (.int .i64 2), .dat (.int .i64 11), .dat (.int .u64 100)], .dat (.list .any 7 ys), .dat (.int .i64 0)], G)
def o15n (G : List Ent) (p : Int × Int × Int × Int × Int × Int × Int) : AV × List Ent := (.tup [.agg [.dat (.int .u32 p.1), .dat (.int .i64 p.2.1), .dat (.int .i64 p.2.2.1), .dat (.int .i64 p.2.2.2.1), .dat (.int .i64 p.2.2.2.2.1), .dat (.int .u64 p.2.2.2.2.2.1)], .dat (.list .nil 0 []), .dat (.int .i64 p.2.2.2.2.2.2)], G)
theorem o15y_inj {G : List Ent} : ∀ x y, o15y G x = o15y G y → x = y := by intro x y h; simpa [o15y] using h
theorem o15n_inj {G : List Ent} : ∀ x y, o15n G x = o15n G y → x = y := by
  rintro ⟨x1, x2, x3, x4, x5, x6, x7⟩ ⟨y1, y2, y3, y4, y5, y6, y7⟩ h
  simp [o15n] at h
  obtain ⟨⟨rfl, rfl, rfl, rfl, rfl, rfl⟩, rfl⟩ := h
  rfl

/-- what a script comes to -/
def resC (x n : Int) (o : Option (AV × List Ent)) : Prop :=
  (¬ (0 ≤ n ∧ n ≤ 300) ∧ ∃ G, o = some (o15n G (0, 0, 0, 0, 0, 0, 2))) ∨ (n = 0 ∧ ∃ G, o = some (o15n G (1, 4, 2, 2, 11, 100, 0))) ∨ (1 ≤ n ∧ n ≤ 300 ∧ ∃ ys G, SR (scriptN n.toNat x).1 ys ∧ o = some (o15y G ys))

theorem out16a_inj : ∀ x y, out16a x = out16a y → x = y := fun _ _ _ => rfl
theorem out16b_inj : ∀ x y, out16b x = out16b y → x = y := by
  rintro ⟨a, b⟩ ⟨c, d⟩ h
  simp [out16b, mkT] at h
  obtain ⟨_, rfl, rfl⟩ := h
  rfl

theorem R16_run {x n : Int} : resC x n (R16 [.dat (.int .u64 x), .dat (.int .i64 n)] []) := by
  show resC x n (f16t x n).run
  rw [← Tr.ev_run, f16t_eq]
  by_cases h0 : n < 0
  · exact aTP (resC x n) (by simpa using h0) (.inl ⟨by omega, _, rfl⟩)
  refine aFP (resC x n) (by simpa using h0) ?_
  by_cases h1 : n > 300
  · exact aTP (resC x n) (by simpa using h1) (.inl ⟨by omega, _, rfl⟩)
  refine aFP (resC x n) (by simpa using h1) ?_
  by_cases h2 : n = 0
  · subst h2
    have hp : LoopTo TT tE.runs (HSc 16) lp16 (inv16a x 0 0) (out16a ()) := by
      refine LoopTo.last (orc := tE) (lo := noLo) (fun _ _ _ _ h => h) (LoOk2.no _) ?_ (by simp [out16a])
      show (rk16a x 0 0).run = _
      rw [← Tr.ev_run, rk16a_eq]
      exact aF rfl rfl
    exact aTP (resC x 0) (loS_yes out16a_inj hp) (gP (resC x 0) (loS_eq out16a_inj hp) (.inr (.inl ⟨rfl, _, rfl⟩)))
  · obtain ⟨m, rfl⟩ : ∃ m : Nat, n = ((m + 1 : Nat) : Int) := ⟨(n - 1).toNat, by omega⟩
    obtain ⟨dd, hd, hg⟩ := g14a (x := x) (R := [])
    have step : (rk16a x ((m + 1 : Nat) : Int) 0).run = some (.norm, inv16b (stepS x).2 ((m + 1 : Nat) : Int) [stpD (stepS x).1 dd] ((1 : Nat) : Int)) := by
      rw [← Tr.ev_run, rk16a_eq]
      exact aT (by rw [decide_eq_true_eq]; omega) (gStep hg rfl)
    obtain ⟨zs, q1, q2⟩ := loop16b (n := m + 1) (by omega) m 1 (stepS x).2 [(stepS x).1] [stpD (stepS x).1 dd] (by omega) (SR.nil.snoc hd.kd) (by simp)
    have hp := LoopTo.more (orc := tE) (lo := noLo) (fun _ _ _ _ h => h) (LoOk2.no _) step q2
    refine aFP (resC x _) (loS_no (o1 := out16a) hp (fun x h => by simp [out16a, out16b] at h)) (gP (resC x _) (loS_eq out16b_inj hp) ?_)
    simp only [List.drop_zero, List.take_length]
    exact .inr (.inr ⟨by omega, by omega, zs, _, by rw [Int.toNat_natCast]; exact q1, rfl⟩)

/-! ### the program's -/
def AC (acc : List Stp) (c : AV) : Prop := (acc = [] ∧ c = .dat (.list .nil 0 [])) ∨ (acc ≠ [] ∧ ∃ ys, SR acc ys ∧ c = .rowc .excl 7 ys)

theorem y15_run {x n : Int} {acc : List Stp} {c4 : AV} {s : Stp} {d : D} (hc : AC acc c4) (ha : acc.length ≤ 300) (hd : KD s.keep d) :
    ∃ zs, SR (acc ++ [s]) zs ∧ Y15 [stV s d] (G15 x n c4) = some (oYl (G15 x n c4) zs) := by
  rcases hc with ⟨rfl, rfl⟩ | ⟨hne, ys, hsr, rfl⟩
  · have key : ∀ o, (yn15 x n s.kind s.node s.at' s.n s.data s.stop d).ev = o → Y15 [stV s d] (G15 x n (.dat (.list .nil 0 []))) = o := fun o h => by
      rw [Tr.ev_run] at h
      exact h
    refine ⟨[stpD s d], SR.nil.snoc hd, key _ ?_⟩
    rw [yn15_eq]
    rfl
  · have key : ∀ o, (yr15 x n ys s.kind s.node s.at' s.n s.data s.stop d).ev = o → Y15 [stV s d] (G15 x n (.rowc .excl 7 ys)) = o := fun o h => by
      rw [Tr.ev_run] at h
      exact h
    have hl := hsr.1
    refine ⟨ys ++ [stpD s d], hsr.snoc hd, key _ ?_⟩
    rw [yr15_eq]
    refine aT ?_ (aT (by simp) (aT ?_ rfl))
    · rw [Nat.zero_add, Bool.and_eq_true, fits_iff]
      refine ⟨by simp, ?_⟩
      omega
    · rw [whole_iff]
      simp

theorem oYl_inj {x n : Int} {c4 : AV} : ∀ p q, oYl (G15 x n c4) p = oYl (G15 x n c4) q → p = q := by
  intro p q h
  simp [oYl, G15] at h
  exact h
theorem out34_inj : ∀ x y, out34 x = out34 y → x = y := by
  intro x y h
  simp [out34] at h
  exact h

attribute [local irreducible] Y15

theorem loop34 {n : Nat} (hn : n ≤ 300) : ∀ (d i : Nat) (x : Int) (acc : List Stp) (c4 : AV), i + d = n → AC acc c4 → acc.length ≤ i →
    ∃ c', AC (acc ++ (scriptN d x).1) c' ∧ LoopTo TT t34.runs (HSc 34) lp34 (inv34 x n c4 i) (out34 (G15 (scriptN d x).2 n c'))
  | 0, i, x, acc, c4, h, hc, ha => by
    refine ⟨c4, by simpa [scriptN] using hc, LoopTo.last (orc := t34) (lo := noLo) (fun _ _ _ _ h => h) (LoOk2.no _) ?_ (by simp [out34])⟩
    show (rk34 x n c4 i).run = _
    rw [← Tr.ev_run, rk34_eq]
    exact aF (by rw [decide_eq_false_iff_not]; omega) rfl
  | d + 1, i, x, acc, c4, h, hc, ha => by
    obtain ⟨dd, hd, hg⟩ := g13 (x := x) (R := (G15 x n c4).tail)
    obtain ⟨zs, hzs, hy⟩ := y15_run (x := (stepS x).2) (n := n) hc (by omega) hd.kd
    have step : (rk34 x n c4 i).run = some (.norm, inv34 (stepS x).2 n (.rowc .excl 7 zs) ((i + 1 : Nat) : Int)) := by
      rw [← Tr.ev_run, rk34_eq]
      refine aT (by rw [decide_eq_true_eq]; omega) (gStep hg (gStep (fnS_eq (out := oYl (G15 (stepS x).2 n c4)) oYl_inj hy) ?_))
      rw [wI (by omega)]
      rfl
    obtain ⟨c', q1, q2⟩ := loop34 hn d (i + 1) (stepS x).2 (acc ++ [(stepS x).1]) (.rowc .excl 7 zs) (by omega) (.inr ⟨by simp, zs, hzs, rfl⟩) (by simp; omega)
    exact ⟨c', by simpa [scriptN] using q1, LoopTo.more (orc := t34) (lo := noLo) (fun _ _ _ _ h => h) (LoOk2.no _) step q2⟩

theorem R34_run {x : Int} {n : Nat} (hn : n ≤ 300) : ∃ c', AC (scriptN n x).1 c' ∧ R34 [.yld 4, .ptr (.glob 1) 0, .ptr (.glob 2) 0] (G15 x n (.dat (.list .nil 0 []))) = some (.tup [], G15 (scriptN n x).2 n c') := by
  have key : ∀ o, (f34t x n (.dat (.list .nil 0 []))).ev = o → R34 [.yld 4, .ptr (.glob 1) 0, .ptr (.glob 2) 0] (G15 x n (.dat (.list .nil 0 []))) = o := fun o h => by
    rw [Tr.ev_run] at h
    exact h
  obtain ⟨c', q1, q2⟩ := loop34 hn n 0 x [] (.dat (.list .nil 0 [])) (by omega) (.inl ⟨rfl, rfl⟩) (by simp)
  refine ⟨c', q1, key _ ?_⟩
  rw [f34t_eq]
  exact gStep (loS_eq out34_inj q2) rfl

theorem o34a_inj {G : List Ent} : ∀ x y, o34a G x = o34a G y → x = y := by
  rintro ⟨a, b⟩ ⟨c, d⟩ h
  simp [o34a, G15] at h
  obtain ⟨rfl, rfl⟩ := h
  rfl
theorem o34b_inj {G : List Ent} : ∀ x y, o34b G x = o34b G y → x = y := by
  rintro ⟨a, b, e⟩ ⟨c, d, f⟩ h
  simp [o34b, G15] at h
  obtain ⟨rfl, rfl, rfl⟩ := h
  rfl

attribute [local irreducible] R34

theorem R15_run {x n : Int} : resC x n (R15 [.dat (.int .u64 x), .dat (.int .i64 n)] []) := by
  show resC x n (f15t x n).run
  rw [← Tr.ev_run, f15t_eq]
  by_cases h0 : n < 0
  · exact aTP (resC x n) (by simpa using h0) (.inl ⟨by omega, _, rfl⟩)
  refine aFP (resC x n) (by simpa using h0) ?_
  by_cases h1 : n > 300
  · exact aTP (resC x n) (by simpa using h1) (.inl ⟨by omega, _, rfl⟩)
  refine aFP (resC x n) (by simpa using h1) ?_
  obtain ⟨m, rfl⟩ : ∃ m : Nat, n = (m : Int) := ⟨n.toNat, by omega⟩
  obtain ⟨c', q1, q2⟩ := R34_run (x := x) (n := m) (by omega)
  have hlen := scriptN_len m x
  rcases q1 with ⟨e, rfl⟩ | ⟨e, ys, hsr, rfl⟩
  · have q : R34 [.yld 4, .ptr (.glob 1) 0, .ptr (.glob 2) 0] (G15 x m (.dat (.list .nil 0 []))) = some (o34a [] ((scriptN m x).2, (m : Int))) := q2
    have hm : m = 0 := by rw [e] at hlen; simpa using hlen.symm
    exact aTP (resC x m) (fnS_yes (o1 := o34a []) o34a_inj q) (gP (resC x m) (fnS_eq (out := o34a []) o34a_inj q) (.inr (.inl ⟨by omega, _, rfl⟩)))
  · have q : R34 [.yld 4, .ptr (.glob 1) 0, .ptr (.glob 2) 0] (G15 x m (.dat (.list .nil 0 []))) = some (o34b [] ((scriptN m x).2, (m : Int), ys)) := q2
    have hm : m ≠ 0 := fun h => e (by rw [h]; rfl)
    refine aFP (resC x m) (fnS_no (o1 := o34a []) q (fun x h => by simp [o34a, o34b, G15] at h)) (gP (resC x m) (fnS_eq (out := o34b []) o34b_inj q) ?_)
    simp only [List.drop_zero, List.take_length]
    exact .inr (.inr ⟨by omega, by omega, ys, _, by rw [Int.toNat_natCast]; exact hsr, rfl⟩)

end Go.Eng
end

/- Scripts that are rolled: the contracts; the laws as trees. -/
section
namespace Go.Eng
open Go
set_option maxRecDepth 100000

theorem lo12_ok : ∀ c, Go.Proofs.Try.f12.body = some c → LoOk2 TT tNone.runs (HSt 12) lo12 c := by
  intro c hc
  refine LoOk2.of c fun b hb st r h => ?_
  have hcc : c = codeOf Go.Proofs.Try.f12 := by unfold codeOf; rw [hc]; rfl
  have hl : loops c = [lp12] := by rw [hcc]; kernel_rfl
  rw [hl] at hb
  obtain rfl := List.mem_singleton.1 hb
  rw [show firstRegion lp12 = 4 from by kernel_rfl] at h
  exact tloB_ok h
theorem c12 : COk Go.Proofs.Try.prog 12 R12 := tok_fn TT_ok TOk.nil Go.Proofs.Try.func12 (by kernel_rfl) lo12_ok
theorem t17_ok : TOk Go.Proofs.Try.prog t17 := TOk.cons (COk.spec (out := fun _ G => oB G) c12.pure) TOk.nil
theorem lo17_ok : ∀ c, Go.Proofs.Try.f17.body = some c → LoOk2 TT t17.runs (HSt 17) lo17 c := by
  intro c hc
  refine LoOk2.of c fun b hb st r h => ?_
  have hcc : c = codeOf Go.Proofs.Try.f17 := by unfold codeOf; rw [hc]; rfl
  have hl : loops c = [lp17] := by rw [hcc]; kernel_rfl
  rw [hl] at hb
  obtain rfl := List.mem_singleton.1 hb
  rw [show firstRegion lp17 = 4 from by kernel_rfl] at h
  exact tloB_ok h
theorem c17 : COk Go.Proofs.Try.prog 17 R17 := tok_fn TT_ok t17_ok Go.Proofs.Try.func17 (by kernel_rfl) lo17_ok
theorem cR13 : COk Go.Proofs.Try.prog 13 R13 := tS_ok 13
theorem cR14 : COk Go.Proofs.Try.prog 14 R14 := tS_ok 14
theorem t14_ok : TOk Go.Proofs.Try.prog t14 := TOk.cons (COk.spec (out := fun a G => oStep a G) cR14) TOk.nil
theorem tE_ok : TOk Go.Proofs.Try.prog tE := tinU_ok TT_ok (FT := FT) (fun _ _ h => FT_fine h) (HS := HSc) (fuel := 6) (base := [14]) t14_ok 2
theorem lo16_ok : ∀ c, Go.Proofs.Try.f16.body = some c → LoOk2 TT tE.runs (HSc 16) lo16 c := by
  intro c hc
  refine LoOk2.of c fun b hb st r h => ?_
  have hcc : c = codeOf Go.Proofs.Try.f16 := by unfold codeOf; rw [hc]; rfl
  have hl : loops c = [lp16] := by rw [hcc]; kernel_rfl
  rw [hl] at hb
  obtain rfl := List.mem_singleton.1 hb
  rw [show firstRegion lp16 = 6 from by kernel_rfl] at h
  exact tlo2_ok h
theorem c16 : COk Go.Proofs.Try.prog 16 R16 := tok_fn TT_ok tE_ok Go.Proofs.Try.func16 (by kernel_rfl) lo16_ok
theorem cY15 : COk Go.Proofs.Try.prog (yB + 4) Y15 := tok_yld (H := fun _ => []) TT_ok TOk.nil rfl (fun _ => LoOk2.no _) 4
theorem t34_ok : TOk Go.Proofs.Try.prog t34 := TOk.cons (COk.spec (out := fun a G => oStep a G) cR13) (TOk.cons (COk.spec (out := fun _ G => oYl G) cY15) TOk.nil)
theorem lo34_ok : ∀ c, Go.Proofs.Try.f34.body = some c → LoOk2 TT t34.runs (HSc 34) lo34 c := by
  intro c hc
  refine LoOk2.of c fun b hb st r h => ?_
  have hcc : c = codeOf Go.Proofs.Try.f34 := by unfold codeOf; rw [hc]; rfl
  have hl : loops c = [lp34] := by rw [hcc]; kernel_rfl
  rw [hl] at hb
  obtain rfl := List.mem_singleton.1 hb
  rw [show firstRegion lp34 = 1 from by kernel_rfl] at h
  exact tlo_ok h
theorem c34 : COk Go.Proofs.Try.prog 34 R34 := tok_fn TT_ok t34_ok Go.Proofs.Try.func34 (by kernel_rfl) lo34_ok
theorem t8_ok : TOk Go.Proofs.Try.prog t8 := tinU_ok TT_ok (FT := FT) (fun _ _ h => FT_fine h) (HS := HSc) (fuel := 6) (base := []) TOk.nil 3
theorem t15_ok : TOk Go.Proofs.Try.prog t15 := TOk.cons (COk.spec2 (o1 := fun _ G => o34a G) (o2 := fun _ G => o34b G) c34) (TOk.cons (t8_ok 8) (TOk.cons (t8_ok 26) TOk.nil))
theorem c15 : COk Go.Proofs.Try.prog 15 R15 := tok_fnR (H := HSc 15) TT_ok t15_ok Go.Proofs.Try.func15 (by kernel_rfl) rfl fun _ _ => LoOk2.no _

noncomputable def P15 := pureS R15
noncomputable def P16 := pureS R16
noncomputable def P17 := pureS R17
noncomputable def tZ : TOrc := tCons 11 (fun a G => tspec (oT G) (P11 a G)) (tCons 12 (fun a G => tspec (oB G) (P12 a G)) (tCons 13 (fun a G => tspec (oStep a G) (R13 a G)) (tCons 14 (fun a G => tspec (oStep a G) (R14 a G))
  (tCons 15 (fun a G => tspec2 (o15y G) (o15n G) (P15 a G)) (tCons 16 (fun a G => tspec2 (o15y G) (o15n G) (P16 a G)) (tCons 17 (fun a G => tspec (oB G) (P17 a G)) (tCons 8 (fun a G => t8 8 a G) tNone)))))))
theorem tZ_ok : TOk Go.Proofs.Try.prog tZ := TOk.cons (COk.spec (out := fun _ G => oT G) c11.pure) (TOk.cons (COk.spec (out := fun _ G => oB G) c12.pure) (TOk.cons (COk.spec (out := fun a G => oStep a G) cR13) (TOk.cons (COk.spec (out := fun a G => oStep a G) cR14)
  (TOk.cons (COk.spec2 (o1 := fun _ G => o15y G) (o2 := fun _ G => o15n G) c15.pure) (TOk.cons (COk.spec2 (o1 := fun _ G => o15y G) (o2 := fun _ G => o15n G) c16.pure) (TOk.cons (COk.spec (out := fun _ G => oB G) c17.pure) (TOk.cons (t8_ok 8) TOk.nil)))))))
noncomputable def f5t (x n m : Int) : Tr (AV × List Ent) := tfn TT tZ noLo Go.Proofs.Try.f5 [.dat (.int .u64 x), .dat (.int .i64 n), .dat (.int .i64 m)] []
noncomputable def lp4 : Code := lpOf (codeOf Go.Proofs.Try.f4) 0
def inv4a (x n : Int) (i : Int) : St := ⟨mkT 0 59 [(0, .dat (.int .u64 x)), (1, .dat (.int .i64 n)), (5, .ptr (.glob 0) 0), (6, .ptr (.loc 0) 0), (7, .dat (.int .i64 i))], ⟨[some (.obj [.dat (.int .u64 x)])], [.obj [.dat (.int .u64 x)]], 0⟩⟩
noncomputable def rk4a (x n : Int) (i : Int) : Tr (Ex × St) := tround TT tZ noLo (HSc 4) lp4 (inv4a x n i)
def inv4b (x n y z : Int) (i : Int) : St := ⟨mkT 0 59 [(0, .dat (.int .u64 x)), (1, .dat (.int .i64 n)), (5, .ptr (.glob 0) 0), (6, .ptr (.glob 1) 0), (7, .dat (.int .i64 i))], ⟨[], [.obj [.dat (.int .u64 y)], .obj [.dat (.int .u64 z)]], 0⟩⟩
noncomputable def rk4b (x n y z : Int) (i : Int) : Tr (Ex × St) := tround TT tZ noLo (HSc 4) lp4 (inv4b x n y z i)
def out4 (x n : Int) (G : List Ent) : Ex × St := (.exit 0, ⟨mkT 0 59 [(0, .dat (.int .u64 x)), (1, .dat (.int .i64 n))], ⟨[], G, 0⟩⟩)
def arg4 (st : St) : Int × Int := match st.tmps.getD 0 .dead, st.tmps.getD 1 .dead with
  | .dat (.int _ x), .dat (.int _ n) => (x, n)
  | _, _ => (0, 0)
noncomputable def lo4 (n : Nat) (st : St) : Tr (Ex × St) := match n with
  | 4 => tlo TT tZ.runs (HSc 4) lp4 (out4 (arg4 st).1 (arg4 st).2) st
  | _ => .fail
noncomputable def f4t (x n : Int) : Tr (AV × List Ent) := tfn TT tZ lo4 Go.Proofs.Try.f4 [.dat (.int .u64 x), .dat (.int .i64 n)] []
end Go.Eng
end
