/- The document's Get: what it comes to. -/
import Derived.Test.YtkconbpjimjbnaaSh23
section
namespace Go.Eng
open Go
set_option maxRecDepth 100000
set_option linter.unusedSimpArgs false

theorem rk26a_eq (k : LK) (xs : Row) (kd nd at' nn : Int) (s : ByteArray) (p : Int) (n i : Int) (at0 e : Int) : (rk26a k xs kd nd at' nn s p n i at0 e).ev =
  (rAsk (decide (i < n))
   (rGet (fnS (fun (p : Int × Int × Int) => ((AV.dat (D.int IntKind.u64 p.1)), [(Ent.obj [(AV.dat (D.list k 1 xs)), (AV.dat (D.int IntKind.i64 p.2.1)), (AV.dat (D.int IntKind.i64 p.2.2))])])) (R50 [(AV.ptr (Ref.glob 0) 0), (AV.dat (D.int IntKind.i64 (1 : Int)))] [(Ent.obj [(AV.dat (D.list k 1 xs)), (AV.dat (D.int IntKind.i64 at0)), (AV.dat (D.int IntKind.i64 e))])])) fun x1 =>
    (rAsk (x1.2.2 == (0 : Int))
     (rAsk (decide (x1.1 > (1 : Int)))
      (some (Ex.ret, (St.mk (mkT 0 91 [(2, (AV.ptr (Ref.loc 0) 0)), (3, (AV.dat (D.int IntKind.i64 (0 : Int)))), (4, (AV.dat (D.int IntKind.i64 (6 : Int)))), (5, (AV.ptr (Ref.glob 0) 0)), (6, (AV.ptr (Ref.loc 1) 0))]) (Mem.mk [(Option.some (Ent.obj [(AV.dat (D.int IntKind.i64 (0 : Int))), (AV.dat (D.int IntKind.i64 (0 : Int))), (AV.dat (D.int IntKind.i64 (0 : Int))), (AV.dat (D.int IntKind.i64 (0 : Int))), (AV.dat (D.str (ByteArray.mk (List.toArray [])))), (AV.dat (D.int IntKind.i64 (0 : Int))), (AV.dat (D.list LK.nil 0 ([] : Row)))])), (Option.some (Ent.obj [(AV.dat (D.int IntKind.i64 kd)), (AV.dat (D.int IntKind.i64 nd)), (AV.dat (D.int IntKind.i64 at')), (AV.dat (D.int IntKind.i64 nn)), (AV.dat (D.str s)), (AV.dat (D.int IntKind.i64 p)), (AV.dat (D.list LK.nil 0 ([] : Row)))]))] [(Ent.obj [(AV.dat (D.list k 1 xs)), (AV.dat (D.int IntKind.i64 x1.2.1)), (AV.dat (D.int IntKind.i64 x1.2.2))])] 0))))
      (some (Ex.norm, (St.mk (mkT 0 91 [(2, (AV.ptr (Ref.loc 0) 0)), (5, (AV.ptr (Ref.glob 0) 0)), (6, (AV.ptr (Ref.loc 1) 0)), (8, (AV.dat (D.int IntKind.i64 n))), (9, (AV.dat (D.int IntKind.i64 (IntKind.wrap IntKind.i64 (i + (1 : Int))))))]) (Mem.mk [(Option.some (Ent.obj [(AV.dat (D.int IntKind.i64 (0 : Int))), (AV.dat (D.int IntKind.i64 (0 : Int))), (AV.dat (D.int IntKind.i64 (0 : Int))), (AV.dat (D.int IntKind.i64 (0 : Int))), (AV.dat (D.str (ByteArray.mk (List.toArray [])))), (AV.dat (D.int IntKind.i64 (0 : Int))), (AV.dat (D.list LK.nil 0 ([] : Row)))])), (Option.some (Ent.obj [(AV.dat (D.int IntKind.i64 kd)), (AV.dat (D.int IntKind.i64 nd)), (AV.dat (D.int IntKind.i64 at')), (AV.dat (D.int IntKind.i64 nn)), (AV.dat (D.str s)), (AV.dat (D.int IntKind.i64 p)), (AV.sh false 2 1 0 1)])), (Option.some (Ent.row Mode.excl 1 [[(D.bool (x1.1 == (1 : Int)))]]))] [(Ent.obj [(AV.dat (D.list k 1 xs)), (AV.dat (D.int IntKind.i64 x1.2.1)), (AV.dat (D.int IntKind.i64 x1.2.2))])] 0))))
     )
     (some (Ex.norm, (St.mk (mkT 0 91 [(2, (AV.ptr (Ref.loc 0) 0)), (5, (AV.ptr (Ref.glob 0) 0)), (6, (AV.ptr (Ref.loc 1) 0)), (8, (AV.dat (D.int IntKind.i64 n))), (9, (AV.dat (D.int IntKind.i64 (IntKind.wrap IntKind.i64 (i + (1 : Int))))))]) (Mem.mk [(Option.some (Ent.obj [(AV.dat (D.int IntKind.i64 (0 : Int))), (AV.dat (D.int IntKind.i64 (0 : Int))), (AV.dat (D.int IntKind.i64 (0 : Int))), (AV.dat (D.int IntKind.i64 (0 : Int))), (AV.dat (D.str (ByteArray.mk (List.toArray [])))), (AV.dat (D.int IntKind.i64 (0 : Int))), (AV.dat (D.list LK.nil 0 ([] : Row)))])), (Option.some (Ent.obj [(AV.dat (D.int IntKind.i64 kd)), (AV.dat (D.int IntKind.i64 nd)), (AV.dat (D.int IntKind.i64 at')), (AV.dat (D.int IntKind.i64 nn)), (AV.dat (D.str s)), (AV.dat (D.int IntKind.i64 p)), (AV.sh false 2 1 0 1)])), (Option.some (Ent.row Mode.excl 1 [[(D.bool (x1.1 == (1 : Int)))]]))] [(Ent.obj [(AV.dat (D.list k 1 xs)), (AV.dat (D.int IntKind.i64 x1.2.1)), (AV.dat (D.int IntKind.i64 x1.2.2))])] 0))))
    )
   )
   (some ((Ex.exit 0), (St.mk (mkT 0 91 [(2, (AV.ptr (Ref.loc 0) 0)), (5, (AV.ptr (Ref.glob 0) 0)), (6, (AV.ptr (Ref.loc 1) 0))]) (Mem.mk [(Option.some (Ent.obj [(AV.dat (D.int IntKind.i64 (0 : Int))), (AV.dat (D.int IntKind.i64 (0 : Int))), (AV.dat (D.int IntKind.i64 (0 : Int))), (AV.dat (D.int IntKind.i64 (0 : Int))), (AV.dat (D.str (ByteArray.mk (List.toArray [])))), (AV.dat (D.int IntKind.i64 (0 : Int))), (AV.dat (D.list LK.nil 0 ([] : Row)))])), (Option.some (Ent.obj [(AV.dat (D.int IntKind.i64 kd)), (AV.dat (D.int IntKind.i64 nd)), (AV.dat (D.int IntKind.i64 at')), (AV.dat (D.int IntKind.i64 nn)), (AV.dat (D.str s)), (AV.dat (D.int IntKind.i64 p)), (AV.dat (D.list LK.nil 0 ([] : Row)))]))] [(Ent.obj [(AV.dat (D.list k 1 xs)), (AV.dat (D.int IntKind.i64 at0)), (AV.dat (D.int IntKind.i64 e))])] 0))))
  )
  := by kernel_rfl
theorem rk26b_eq (k : LK) (xs : Row) (kd nd at' nn : Int) (s : ByteArray) (p : Int) (keep : Row) (n i : Int) (at0 e : Int) : (rk26b k xs kd nd at' nn s p keep n i at0 e).ev =
  (rAsk (decide (i < n))
   (rGet (fnS (fun (p : Int × Int × Int) => ((AV.dat (D.int IntKind.u64 p.1)), [(Ent.obj [(AV.dat (D.list k 1 xs)), (AV.dat (D.int IntKind.i64 p.2.1)), (AV.dat (D.int IntKind.i64 p.2.2))])])) (R50 [(AV.ptr (Ref.glob 0) 0), (AV.dat (D.int IntKind.i64 (1 : Int)))] [(Ent.obj [(AV.dat (D.list k 1 xs)), (AV.dat (D.int IntKind.i64 at0)), (AV.dat (D.int IntKind.i64 e))])])) fun x1 =>
    (rAsk (x1.2.2 == (0 : Int))
     (rAsk (decide (x1.1 > (1 : Int)))
      (some (Ex.ret, (St.mk (mkT 0 91 [(2, (AV.ptr (Ref.loc 0) 0)), (3, (AV.dat (D.int IntKind.i64 (0 : Int)))), (4, (AV.dat (D.int IntKind.i64 (6 : Int)))), (5, (AV.ptr (Ref.glob 0) 0)), (6, (AV.ptr (Ref.loc 1) 0))]) (Mem.mk [(Option.some (Ent.obj [(AV.dat (D.int IntKind.i64 (0 : Int))), (AV.dat (D.int IntKind.i64 (0 : Int))), (AV.dat (D.int IntKind.i64 (0 : Int))), (AV.dat (D.int IntKind.i64 (0 : Int))), (AV.dat (D.str (ByteArray.mk (List.toArray [])))), (AV.dat (D.int IntKind.i64 (0 : Int))), (AV.dat (D.list LK.nil 0 ([] : Row)))])), (Option.some (Ent.obj [(AV.dat (D.int IntKind.i64 kd)), (AV.dat (D.int IntKind.i64 nd)), (AV.dat (D.int IntKind.i64 at')), (AV.dat (D.int IntKind.i64 nn)), (AV.dat (D.str s)), (AV.dat (D.int IntKind.i64 p)), (AV.sh false 2 1 0 (List.length keep))])), (Option.some (Ent.row Mode.excl 1 keep))] [(Ent.obj [(AV.dat (D.list k 1 xs)), (AV.dat (D.int IntKind.i64 x1.2.1)), (AV.dat (D.int IntKind.i64 x1.2.2))])] 0))))
      (rAsk ((decide ((0 + (List.length keep)) ≤ (List.length keep))) && (fits (TI.mk TK.bool 1 1 [(AV.dat (D.bool false))] true) ((List.length keep) + 1)))
       (rAsk (true && (decide ((List.length keep) = (List.length keep))))
        (some (Ex.norm, (St.mk (mkT 0 91 [(2, (AV.ptr (Ref.loc 0) 0)), (5, (AV.ptr (Ref.glob 0) 0)), (6, (AV.ptr (Ref.loc 1) 0)), (8, (AV.dat (D.int IntKind.i64 n))), (9, (AV.dat (D.int IntKind.i64 (IntKind.wrap IntKind.i64 (i + (1 : Int))))))]) (Mem.mk [(Option.some (Ent.obj [(AV.dat (D.int IntKind.i64 (0 : Int))), (AV.dat (D.int IntKind.i64 (0 : Int))), (AV.dat (D.int IntKind.i64 (0 : Int))), (AV.dat (D.int IntKind.i64 (0 : Int))), (AV.dat (D.str (ByteArray.mk (List.toArray [])))), (AV.dat (D.int IntKind.i64 (0 : Int))), (AV.dat (D.list LK.nil 0 ([] : Row)))])), (Option.some (Ent.obj [(AV.dat (D.int IntKind.i64 kd)), (AV.dat (D.int IntKind.i64 nd)), (AV.dat (D.int IntKind.i64 at')), (AV.dat (D.int IntKind.i64 nn)), (AV.dat (D.str s)), (AV.dat (D.int IntKind.i64 p)), (AV.sh false 2 1 0 ((List.length keep) + 1))])), (Option.some (Ent.row Mode.excl 1 (keep ++ [[(D.bool (x1.1 == (1 : Int)))]])))] [(Ent.obj [(AV.dat (D.list k 1 xs)), (AV.dat (D.int IntKind.i64 x1.2.1)), (AV.dat (D.int IntKind.i64 x1.2.2))])] 0))))
        none
       )
       none
      )
     )
     (rAsk ((decide ((0 + (List.length keep)) ≤ (List.length keep))) && (fits (TI.mk TK.bool 1 1 [(AV.dat (D.bool false))] true) ((List.length keep) + 1)))
      (rAsk (true && (decide ((List.length keep) = (List.length keep))))
       (some (Ex.norm, (St.mk (mkT 0 91 [(2, (AV.ptr (Ref.loc 0) 0)), (5, (AV.ptr (Ref.glob 0) 0)), (6, (AV.ptr (Ref.loc 1) 0)), (8, (AV.dat (D.int IntKind.i64 n))), (9, (AV.dat (D.int IntKind.i64 (IntKind.wrap IntKind.i64 (i + (1 : Int))))))]) (Mem.mk [(Option.some (Ent.obj [(AV.dat (D.int IntKind.i64 (0 : Int))), (AV.dat (D.int IntKind.i64 (0 : Int))), (AV.dat (D.int IntKind.i64 (0 : Int))), (AV.dat (D.int IntKind.i64 (0 : Int))), (AV.dat (D.str (ByteArray.mk (List.toArray [])))), (AV.dat (D.int IntKind.i64 (0 : Int))), (AV.dat (D.list LK.nil 0 ([] : Row)))])), (Option.some (Ent.obj [(AV.dat (D.int IntKind.i64 kd)), (AV.dat (D.int IntKind.i64 nd)), (AV.dat (D.int IntKind.i64 at')), (AV.dat (D.int IntKind.i64 nn)), (AV.dat (D.str s)), (AV.dat (D.int IntKind.i64 p)), (AV.sh false 2 1 0 ((List.length keep) + 1))])), (Option.some (Ent.row Mode.excl 1 (keep ++ [[(D.bool (x1.1 == (1 : Int)))]])))] [(Ent.obj [(AV.dat (D.list k 1 xs)), (AV.dat (D.int IntKind.i64 x1.2.1)), (AV.dat (D.int IntKind.i64 x1.2.2))])] 0))))
       none
      )
      none
     )
    )
   )
   (some ((Ex.exit 0), (St.mk (mkT 0 91 [(2, (AV.ptr (Ref.loc 0) 0)), (5, (AV.ptr (Ref.glob 0) 0)), (6, (AV.ptr (Ref.loc 1) 0))]) (Mem.mk [(Option.some (Ent.obj [(AV.dat (D.int IntKind.i64 (0 : Int))), (AV.dat (D.int IntKind.i64 (0 : Int))), (AV.dat (D.int IntKind.i64 (0 : Int))), (AV.dat (D.int IntKind.i64 (0 : Int))), (AV.dat (D.str (ByteArray.mk (List.toArray [])))), (AV.dat (D.int IntKind.i64 (0 : Int))), (AV.dat (D.list LK.nil 0 ([] : Row)))])), (Option.some (Ent.obj [(AV.dat (D.int IntKind.i64 kd)), (AV.dat (D.int IntKind.i64 nd)), (AV.dat (D.int IntKind.i64 at')), (AV.dat (D.int IntKind.i64 nn)), (AV.dat (D.str s)), (AV.dat (D.int IntKind.i64 p)), (AV.sh false 2 1 0 (List.length keep))])), (Option.some (Ent.row Mode.excl 1 keep))] [(Ent.obj [(AV.dat (D.list k 1 xs)), (AV.dat (D.int IntKind.i64 at0)), (AV.dat (D.int IntKind.i64 e))])] 0))))
  )
  := by kernel_rfl
theorem f26t_eq (k : LK) (xs : Row) : (f26t k xs).ev =
  (rGet (fnS (fun (p : Int × Int × Int) => ((AV.dat (D.int IntKind.u64 p.1)), [(Ent.obj [(AV.dat (D.list k 1 xs)), (AV.dat (D.int IntKind.i64 p.2.1)), (AV.dat (D.int IntKind.i64 p.2.2))])])) (R50 [(AV.ptr (Ref.glob 0) 0), (AV.dat (D.int IntKind.i64 (1 : Int)))] [(Ent.obj [(AV.dat (D.list k 1 xs)), (AV.dat (D.int IntKind.i64 (0 : Int))), (AV.dat (D.int IntKind.i64 (0 : Int)))])])) fun x1 =>
   (rGet (fnS (fun (p : Int × Int × Int) => ((AV.dat (D.int IntKind.u64 p.1)), [(Ent.obj [(AV.dat (D.list k 1 xs)), (AV.dat (D.int IntKind.i64 p.2.1)), (AV.dat (D.int IntKind.i64 p.2.2))])])) (R50 [(AV.ptr (Ref.glob 0) 0), (AV.dat (D.int IntKind.i64 (1 : Int)))] [(Ent.obj [(AV.dat (D.list k 1 xs)), (AV.dat (D.int IntKind.i64 x1.2.1)), (AV.dat (D.int IntKind.i64 x1.2.2))])])) fun x2 =>
    (rGet (fnS (fun (p : Int × Int × Int) => ((AV.dat (D.int IntKind.u64 p.1)), [(Ent.obj [(AV.dat (D.list k 1 xs)), (AV.dat (D.int IntKind.i64 p.2.1)), (AV.dat (D.int IntKind.i64 p.2.2))])])) (R50 [(AV.ptr (Ref.glob 0) 0), (AV.dat (D.int IntKind.i64 (2 : Int)))] [(Ent.obj [(AV.dat (D.list k 1 xs)), (AV.dat (D.int IntKind.i64 x2.2.1)), (AV.dat (D.int IntKind.i64 x2.2.2))])])) fun x3 =>
     (rGet (fnS (fun (p : Int × Int × Int) => ((AV.dat (D.int IntKind.u64 p.1)), [(Ent.obj [(AV.dat (D.list k 1 xs)), (AV.dat (D.int IntKind.i64 p.2.1)), (AV.dat (D.int IntKind.i64 p.2.2))])])) (R50 [(AV.ptr (Ref.glob 0) 0), (AV.dat (D.int IntKind.i64 (2 : Int)))] [(Ent.obj [(AV.dat (D.list k 1 xs)), (AV.dat (D.int IntKind.i64 x3.2.1)), (AV.dat (D.int IntKind.i64 x3.2.2))])])) fun x4 =>
      (rGet (fnS (fun (p : Int × Int × Int) => ((AV.dat (D.int IntKind.u64 p.1)), [(Ent.obj [(AV.dat (D.list k 1 xs)), (AV.dat (D.int IntKind.i64 p.2.1)), (AV.dat (D.int IntKind.i64 p.2.2))])])) (R50 [(AV.ptr (Ref.glob 0) 0), (AV.dat (D.int IntKind.i64 (2 : Int)))] [(Ent.obj [(AV.dat (D.list k 1 xs)), (AV.dat (D.int IntKind.i64 x4.2.1)), (AV.dat (D.int IntKind.i64 x4.2.2))])])) fun x5 =>
       (rGet (fnS (fun (p : Int × Int × Int) => ((AV.dat (D.int IntKind.u64 p.1)), [(Ent.obj [(AV.dat (D.list k 1 xs)), (AV.dat (D.int IntKind.i64 p.2.1)), (AV.dat (D.int IntKind.i64 p.2.2))])])) (R50 [(AV.ptr (Ref.glob 0) 0), (AV.dat (D.int IntKind.i64 (1 : Int)))] [(Ent.obj [(AV.dat (D.list k 1 xs)), (AV.dat (D.int IntKind.i64 x5.2.1)), (AV.dat (D.int IntKind.i64 x5.2.2))])])) fun x6 =>
        (rAsk (x6.2.2 == (0 : Int))
         (rAsk (decide (x6.1 > (1 : Int)))
          (some ((AV.tup [(AV.agg [(AV.dat (D.int IntKind.i64 (0 : Int))), (AV.dat (D.int IntKind.i64 (0 : Int))), (AV.dat (D.int IntKind.i64 (0 : Int))), (AV.dat (D.int IntKind.i64 (0 : Int))), (AV.dat (D.str (ByteArray.mk (List.toArray [])))), (AV.dat (D.int IntKind.i64 (0 : Int))), (AV.dat (D.list LK.nil 0 ([] : Row)))]), (AV.dat (D.int IntKind.i64 (0 : Int))), (AV.dat (D.int IntKind.i64 (6 : Int)))]), [(Ent.obj [(AV.dat (D.list k 1 xs)), (AV.dat (D.int IntKind.i64 x6.2.1)), (AV.dat (D.int IntKind.i64 x6.2.2))])]))
          (rAsk (x6.1 == (1 : Int))
           (rAsk (Option.isSome (fnS (fun (p : LK × Row × Int × Int) => ((AV.dat (D.list p.1 1 p.2.1)), [(Ent.obj [(AV.dat (D.list k 1 xs)), (AV.dat (D.int IntKind.i64 p.2.2.1)), (AV.dat (D.int IntKind.i64 p.2.2.2))])])) (R51 [(AV.ptr (Ref.glob 0) 0), (AV.dat (D.int IntKind.i64 (64 : Int)))] [(Ent.obj [(AV.dat (D.list k 1 xs)), (AV.dat (D.int IntKind.i64 x6.2.1)), (AV.dat (D.int IntKind.i64 x6.2.2))])])))
            (rGet (fnS (fun (p : LK × Row × Int × Int) => ((AV.dat (D.list p.1 1 p.2.1)), [(Ent.obj [(AV.dat (D.list k 1 xs)), (AV.dat (D.int IntKind.i64 p.2.2.1)), (AV.dat (D.int IntKind.i64 p.2.2.2))])])) (R51 [(AV.ptr (Ref.glob 0) 0), (AV.dat (D.int IntKind.i64 (64 : Int)))] [(Ent.obj [(AV.dat (D.list k 1 xs)), (AV.dat (D.int IntKind.i64 x6.2.1)), (AV.dat (D.int IntKind.i64 x6.2.2))])])) fun x7 =>
             (rGet (rowBytes x7.2.1) fun x8 =>
              (rGet (fnS (fun (p : Int × Int × Int) => ((AV.dat (D.int IntKind.u64 p.1)), [(Ent.obj [(AV.dat (D.list k 1 xs)), (AV.dat (D.int IntKind.i64 p.2.1)), (AV.dat (D.int IntKind.i64 p.2.2))])])) (R50 [(AV.ptr (Ref.glob 0) 0), (AV.dat (D.int IntKind.i64 (1 : Int)))] [(Ent.obj [(AV.dat (D.list k 1 xs)), (AV.dat (D.int IntKind.i64 x7.2.2.1)), (AV.dat (D.int IntKind.i64 x7.2.2.2))])])) fun x9 =>
               (rAsk (Option.isSome (loS TT (TOrc.runs tG) (HSg 26) lp26 (out26a k xs) (St.mk (mkT 0 91 [(2, (AV.ptr (Ref.loc 0) 0)), (5, (AV.ptr (Ref.glob 0) 0)), (6, (AV.ptr (Ref.loc 1) 0)), (8, (AV.dat (D.int IntKind.i64 (IntKind.wrap IntKind.i64 x9.1)))), (9, (AV.dat (D.int IntKind.i64 (0 : Int))))]) (Mem.mk [(Option.some (Ent.obj [(AV.dat (D.int IntKind.i64 (0 : Int))), (AV.dat (D.int IntKind.i64 (0 : Int))), (AV.dat (D.int IntKind.i64 (0 : Int))), (AV.dat (D.int IntKind.i64 (0 : Int))), (AV.dat (D.str (ByteArray.mk (List.toArray [])))), (AV.dat (D.int IntKind.i64 (0 : Int))), (AV.dat (D.list LK.nil 0 ([] : Row)))])), (Option.some (Ent.obj [(AV.dat (D.int IntKind.i64 (IntKind.wrap IntKind.i64 x1.1))), (AV.dat (D.int IntKind.i64 (IntKind.wrap IntKind.i64 x2.1))), (AV.dat (D.int IntKind.i64 (IntKind.wrap IntKind.i64 x3.1))), (AV.dat (D.int IntKind.i64 (IntKind.wrap IntKind.i64 x4.1))), (AV.dat (D.str (ByteArray.mk (List.toArray x8)))), (AV.dat (D.int IntKind.i64 (IntKind.wrap IntKind.i64 x5.1))), (AV.dat (D.list LK.nil 0 ([] : Row)))]))] [(Ent.obj [(AV.dat (D.list k 1 xs)), (AV.dat (D.int IntKind.i64 x9.2.1)), (AV.dat (D.int IntKind.i64 x9.2.2))])] 0))))
                (rGet (loS TT (TOrc.runs tG) (HSg 26) lp26 (out26a k xs) (St.mk (mkT 0 91 [(2, (AV.ptr (Ref.loc 0) 0)), (5, (AV.ptr (Ref.glob 0) 0)), (6, (AV.ptr (Ref.loc 1) 0)), (8, (AV.dat (D.int IntKind.i64 (IntKind.wrap IntKind.i64 x9.1)))), (9, (AV.dat (D.int IntKind.i64 (0 : Int))))]) (Mem.mk [(Option.some (Ent.obj [(AV.dat (D.int IntKind.i64 (0 : Int))), (AV.dat (D.int IntKind.i64 (0 : Int))), (AV.dat (D.int IntKind.i64 (0 : Int))), (AV.dat (D.int IntKind.i64 (0 : Int))), (AV.dat (D.str (ByteArray.mk (List.toArray [])))), (AV.dat (D.int IntKind.i64 (0 : Int))), (AV.dat (D.list LK.nil 0 ([] : Row)))])), (Option.some (Ent.obj [(AV.dat (D.int IntKind.i64 (IntKind.wrap IntKind.i64 x1.1))), (AV.dat (D.int IntKind.i64 (IntKind.wrap IntKind.i64 x2.1))), (AV.dat (D.int IntKind.i64 (IntKind.wrap IntKind.i64 x3.1))), (AV.dat (D.int IntKind.i64 (IntKind.wrap IntKind.i64 x4.1))), (AV.dat (D.str (ByteArray.mk (List.toArray x8)))), (AV.dat (D.int IntKind.i64 (IntKind.wrap IntKind.i64 x5.1))), (AV.dat (D.list LK.nil 0 ([] : Row)))]))] [(Ent.obj [(AV.dat (D.list k 1 xs)), (AV.dat (D.int IntKind.i64 x9.2.1)), (AV.dat (D.int IntKind.i64 x9.2.2))])] 0))) fun x10 =>
                 (rAsk (x10.2.2.2.2.2.2.2 != (0 : Int))
                  (some ((AV.tup [(AV.agg [(AV.dat (D.int IntKind.i64 (0 : Int))), (AV.dat (D.int IntKind.i64 (0 : Int))), (AV.dat (D.int IntKind.i64 (0 : Int))), (AV.dat (D.int IntKind.i64 (0 : Int))), (AV.dat (D.str (ByteArray.mk (List.toArray [])))), (AV.dat (D.int IntKind.i64 (0 : Int))), (AV.dat (D.list LK.nil 0 ([] : Row)))]), (AV.dat (D.int IntKind.i64 (0 : Int))), (AV.dat (D.int IntKind.i64 (7 : Int)))]), [(Ent.obj [(AV.dat (D.list k 1 xs)), (AV.dat (D.int IntKind.i64 x10.2.2.2.2.2.2.1)), (AV.dat (D.int IntKind.i64 x10.2.2.2.2.2.2.2))])]))
                  (some ((AV.tup [(AV.agg [(AV.dat (D.int IntKind.i64 x10.1)), (AV.dat (D.int IntKind.i64 x10.2.1)), (AV.dat (D.int IntKind.i64 x10.2.2.1)), (AV.dat (D.int IntKind.i64 x10.2.2.2.1)), (AV.dat (D.str x10.2.2.2.2.1)), (AV.dat (D.int IntKind.i64 x10.2.2.2.2.2.1)), (AV.dat (D.list LK.nil 0 ([] : Row)))]), (AV.dat (D.int IntKind.i64 x10.2.2.2.2.2.2.1)), (AV.dat (D.int IntKind.i64 (0 : Int)))]), [(Ent.obj [(AV.dat (D.list k 1 xs)), (AV.dat (D.int IntKind.i64 x10.2.2.2.2.2.2.1)), (AV.dat (D.int IntKind.i64 x10.2.2.2.2.2.2.2))])]))
                 )
                )
                (rAsk (Option.isSome (loS TT (TOrc.runs tG) (HSg 26) lp26 (out26b k xs) (St.mk (mkT 0 91 [(2, (AV.ptr (Ref.loc 0) 0)), (5, (AV.ptr (Ref.glob 0) 0)), (6, (AV.ptr (Ref.loc 1) 0)), (8, (AV.dat (D.int IntKind.i64 (IntKind.wrap IntKind.i64 x9.1)))), (9, (AV.dat (D.int IntKind.i64 (0 : Int))))]) (Mem.mk [(Option.some (Ent.obj [(AV.dat (D.int IntKind.i64 (0 : Int))), (AV.dat (D.int IntKind.i64 (0 : Int))), (AV.dat (D.int IntKind.i64 (0 : Int))), (AV.dat (D.int IntKind.i64 (0 : Int))), (AV.dat (D.str (ByteArray.mk (List.toArray [])))), (AV.dat (D.int IntKind.i64 (0 : Int))), (AV.dat (D.list LK.nil 0 ([] : Row)))])), (Option.some (Ent.obj [(AV.dat (D.int IntKind.i64 (IntKind.wrap IntKind.i64 x1.1))), (AV.dat (D.int IntKind.i64 (IntKind.wrap IntKind.i64 x2.1))), (AV.dat (D.int IntKind.i64 (IntKind.wrap IntKind.i64 x3.1))), (AV.dat (D.int IntKind.i64 (IntKind.wrap IntKind.i64 x4.1))), (AV.dat (D.str (ByteArray.mk (List.toArray x8)))), (AV.dat (D.int IntKind.i64 (IntKind.wrap IntKind.i64 x5.1))), (AV.dat (D.list LK.nil 0 ([] : Row)))]))] [(Ent.obj [(AV.dat (D.list k 1 xs)), (AV.dat (D.int IntKind.i64 x9.2.1)), (AV.dat (D.int IntKind.i64 x9.2.2))])] 0))))
                 (rGet (loS TT (TOrc.runs tG) (HSg 26) lp26 (out26b k xs) (St.mk (mkT 0 91 [(2, (AV.ptr (Ref.loc 0) 0)), (5, (AV.ptr (Ref.glob 0) 0)), (6, (AV.ptr (Ref.loc 1) 0)), (8, (AV.dat (D.int IntKind.i64 (IntKind.wrap IntKind.i64 x9.1)))), (9, (AV.dat (D.int IntKind.i64 (0 : Int))))]) (Mem.mk [(Option.some (Ent.obj [(AV.dat (D.int IntKind.i64 (0 : Int))), (AV.dat (D.int IntKind.i64 (0 : Int))), (AV.dat (D.int IntKind.i64 (0 : Int))), (AV.dat (D.int IntKind.i64 (0 : Int))), (AV.dat (D.str (ByteArray.mk (List.toArray [])))), (AV.dat (D.int IntKind.i64 (0 : Int))), (AV.dat (D.list LK.nil 0 ([] : Row)))])), (Option.some (Ent.obj [(AV.dat (D.int IntKind.i64 (IntKind.wrap IntKind.i64 x1.1))), (AV.dat (D.int IntKind.i64 (IntKind.wrap IntKind.i64 x2.1))), (AV.dat (D.int IntKind.i64 (IntKind.wrap IntKind.i64 x3.1))), (AV.dat (D.int IntKind.i64 (IntKind.wrap IntKind.i64 x4.1))), (AV.dat (D.str (ByteArray.mk (List.toArray x8)))), (AV.dat (D.int IntKind.i64 (IntKind.wrap IntKind.i64 x5.1))), (AV.dat (D.list LK.nil 0 ([] : Row)))]))] [(Ent.obj [(AV.dat (D.list k 1 xs)), (AV.dat (D.int IntKind.i64 x9.2.1)), (AV.dat (D.int IntKind.i64 x9.2.2))])] 0))) fun x11 =>
                  (rAsk (x11.2.2.2.2.2.2.2.2 != (0 : Int))
                   (some ((AV.tup [(AV.agg [(AV.dat (D.int IntKind.i64 (0 : Int))), (AV.dat (D.int IntKind.i64 (0 : Int))), (AV.dat (D.int IntKind.i64 (0 : Int))), (AV.dat (D.int IntKind.i64 (0 : Int))), (AV.dat (D.str (ByteArray.mk (List.toArray [])))), (AV.dat (D.int IntKind.i64 (0 : Int))), (AV.dat (D.list LK.nil 0 ([] : Row)))]), (AV.dat (D.int IntKind.i64 (0 : Int))), (AV.dat (D.int IntKind.i64 (7 : Int)))]), [(Ent.obj [(AV.dat (D.list k 1 xs)), (AV.dat (D.int IntKind.i64 x11.2.2.2.2.2.2.2.1)), (AV.dat (D.int IntKind.i64 x11.2.2.2.2.2.2.2.2))])]))
                   (some ((AV.tup [(AV.agg [(AV.dat (D.int IntKind.i64 x11.1)), (AV.dat (D.int IntKind.i64 x11.2.1)), (AV.dat (D.int IntKind.i64 x11.2.2.1)), (AV.dat (D.int IntKind.i64 x11.2.2.2.1)), (AV.dat (D.str x11.2.2.2.2.1)), (AV.dat (D.int IntKind.i64 x11.2.2.2.2.2.1)), (AV.dat (D.list LK.any 1 (List.take (List.length x11.2.2.2.2.2.2.1) (List.drop 0 x11.2.2.2.2.2.2.1))))]), (AV.dat (D.int IntKind.i64 x11.2.2.2.2.2.2.2.1)), (AV.dat (D.int IntKind.i64 (0 : Int)))]), [(Ent.obj [(AV.dat (D.list k 1 xs)), (AV.dat (D.int IntKind.i64 x11.2.2.2.2.2.2.2.1)), (AV.dat (D.int IntKind.i64 x11.2.2.2.2.2.2.2.2))])]))
                  )
                 )
                 (rGet (loS TT (TOrc.runs tG) (HSg 26) lp26 (out26c k xs) (St.mk (mkT 0 91 [(2, (AV.ptr (Ref.loc 0) 0)), (5, (AV.ptr (Ref.glob 0) 0)), (6, (AV.ptr (Ref.loc 1) 0)), (8, (AV.dat (D.int IntKind.i64 (IntKind.wrap IntKind.i64 x9.1)))), (9, (AV.dat (D.int IntKind.i64 (0 : Int))))]) (Mem.mk [(Option.some (Ent.obj [(AV.dat (D.int IntKind.i64 (0 : Int))), (AV.dat (D.int IntKind.i64 (0 : Int))), (AV.dat (D.int IntKind.i64 (0 : Int))), (AV.dat (D.int IntKind.i64 (0 : Int))), (AV.dat (D.str (ByteArray.mk (List.toArray [])))), (AV.dat (D.int IntKind.i64 (0 : Int))), (AV.dat (D.list LK.nil 0 ([] : Row)))])), (Option.some (Ent.obj [(AV.dat (D.int IntKind.i64 (IntKind.wrap IntKind.i64 x1.1))), (AV.dat (D.int IntKind.i64 (IntKind.wrap IntKind.i64 x2.1))), (AV.dat (D.int IntKind.i64 (IntKind.wrap IntKind.i64 x3.1))), (AV.dat (D.int IntKind.i64 (IntKind.wrap IntKind.i64 x4.1))), (AV.dat (D.str (ByteArray.mk (List.toArray x8)))), (AV.dat (D.int IntKind.i64 (IntKind.wrap IntKind.i64 x5.1))), (AV.dat (D.list LK.nil 0 ([] : Row)))]))] [(Ent.obj [(AV.dat (D.list k 1 xs)), (AV.dat (D.int IntKind.i64 x9.2.1)), (AV.dat (D.int IntKind.i64 x9.2.2))])] 0))) fun x12 =>
                  (some ((AV.tup [(AV.agg [(AV.dat (D.int IntKind.i64 (0 : Int))), (AV.dat (D.int IntKind.i64 (0 : Int))), (AV.dat (D.int IntKind.i64 (0 : Int))), (AV.dat (D.int IntKind.i64 (0 : Int))), (AV.dat (D.str (ByteArray.mk (List.toArray [])))), (AV.dat (D.int IntKind.i64 (0 : Int))), (AV.dat (D.list LK.nil 0 ([] : Row)))]), (AV.dat (D.int IntKind.i64 (0 : Int))), (AV.dat (D.int IntKind.i64 (6 : Int)))]), [(Ent.obj [(AV.dat (D.list k 1 xs)), (AV.dat (D.int IntKind.i64 x12.2.1)), (AV.dat (D.int IntKind.i64 x12.2.2))])]))
                 )
                )
               )
              )
             )
            )
            (rGet (fnS (fun (p : Int × Int) => ((AV.dat (D.list LK.nil 0 ([] : Row))), [(Ent.obj [(AV.dat (D.list k 1 xs)), (AV.dat (D.int IntKind.i64 p.1)), (AV.dat (D.int IntKind.i64 p.2))])])) (R51 [(AV.ptr (Ref.glob 0) 0), (AV.dat (D.int IntKind.i64 (64 : Int)))] [(Ent.obj [(AV.dat (D.list k 1 xs)), (AV.dat (D.int IntKind.i64 x6.2.1)), (AV.dat (D.int IntKind.i64 x6.2.2))])])) fun x13 =>
             (rGet (fnS (fun (p : Int × Int × Int) => ((AV.dat (D.int IntKind.u64 p.1)), [(Ent.obj [(AV.dat (D.list k 1 xs)), (AV.dat (D.int IntKind.i64 p.2.1)), (AV.dat (D.int IntKind.i64 p.2.2))])])) (R50 [(AV.ptr (Ref.glob 0) 0), (AV.dat (D.int IntKind.i64 (1 : Int)))] [(Ent.obj [(AV.dat (D.list k 1 xs)), (AV.dat (D.int IntKind.i64 x13.1)), (AV.dat (D.int IntKind.i64 x13.2))])])) fun x14 =>
              (rAsk (Option.isSome (loS TT (TOrc.runs tG) (HSg 26) lp26 (out26a k xs) (St.mk (mkT 0 91 [(2, (AV.ptr (Ref.loc 0) 0)), (5, (AV.ptr (Ref.glob 0) 0)), (6, (AV.ptr (Ref.loc 1) 0)), (8, (AV.dat (D.int IntKind.i64 (IntKind.wrap IntKind.i64 x14.1)))), (9, (AV.dat (D.int IntKind.i64 (0 : Int))))]) (Mem.mk [(Option.some (Ent.obj [(AV.dat (D.int IntKind.i64 (0 : Int))), (AV.dat (D.int IntKind.i64 (0 : Int))), (AV.dat (D.int IntKind.i64 (0 : Int))), (AV.dat (D.int IntKind.i64 (0 : Int))), (AV.dat (D.str (ByteArray.mk (List.toArray [])))), (AV.dat (D.int IntKind.i64 (0 : Int))), (AV.dat (D.list LK.nil 0 ([] : Row)))])), (Option.some (Ent.obj [(AV.dat (D.int IntKind.i64 (IntKind.wrap IntKind.i64 x1.1))), (AV.dat (D.int IntKind.i64 (IntKind.wrap IntKind.i64 x2.1))), (AV.dat (D.int IntKind.i64 (IntKind.wrap IntKind.i64 x3.1))), (AV.dat (D.int IntKind.i64 (IntKind.wrap IntKind.i64 x4.1))), (AV.dat (D.str (ByteArray.mk (List.toArray [])))), (AV.dat (D.int IntKind.i64 (IntKind.wrap IntKind.i64 x5.1))), (AV.dat (D.list LK.nil 0 ([] : Row)))]))] [(Ent.obj [(AV.dat (D.list k 1 xs)), (AV.dat (D.int IntKind.i64 x14.2.1)), (AV.dat (D.int IntKind.i64 x14.2.2))])] 0))))
               (rGet (loS TT (TOrc.runs tG) (HSg 26) lp26 (out26a k xs) (St.mk (mkT 0 91 [(2, (AV.ptr (Ref.loc 0) 0)), (5, (AV.ptr (Ref.glob 0) 0)), (6, (AV.ptr (Ref.loc 1) 0)), (8, (AV.dat (D.int IntKind.i64 (IntKind.wrap IntKind.i64 x14.1)))), (9, (AV.dat (D.int IntKind.i64 (0 : Int))))]) (Mem.mk [(Option.some (Ent.obj [(AV.dat (D.int IntKind.i64 (0 : Int))), (AV.dat (D.int IntKind.i64 (0 : Int))), (AV.dat (D.int IntKind.i64 (0 : Int))), (AV.dat (D.int IntKind.i64 (0 : Int))), (AV.dat (D.str (ByteArray.mk (List.toArray [])))), (AV.dat (D.int IntKind.i64 (0 : Int))), (AV.dat (D.list LK.nil 0 ([] : Row)))])), (Option.some (Ent.obj [(AV.dat (D.int IntKind.i64 (IntKind.wrap IntKind.i64 x1.1))), (AV.dat (D.int IntKind.i64 (IntKind.wrap IntKind.i64 x2.1))), (AV.dat (D.int IntKind.i64 (IntKind.wrap IntKind.i64 x3.1))), (AV.dat (D.int IntKind.i64 (IntKind.wrap IntKind.i64 x4.1))), (AV.dat (D.str (ByteArray.mk (List.toArray [])))), (AV.dat (D.int IntKind.i64 (IntKind.wrap IntKind.i64 x5.1))), (AV.dat (D.list LK.nil 0 ([] : Row)))]))] [(Ent.obj [(AV.dat (D.list k 1 xs)), (AV.dat (D.int IntKind.i64 x14.2.1)), (AV.dat (D.int IntKind.i64 x14.2.2))])] 0))) fun x15 =>
                (rAsk (x15.2.2.2.2.2.2.2 != (0 : Int))
                 (some ((AV.tup [(AV.agg [(AV.dat (D.int IntKind.i64 (0 : Int))), (AV.dat (D.int IntKind.i64 (0 : Int))), (AV.dat (D.int IntKind.i64 (0 : Int))), (AV.dat (D.int IntKind.i64 (0 : Int))), (AV.dat (D.str (ByteArray.mk (List.toArray [])))), (AV.dat (D.int IntKind.i64 (0 : Int))), (AV.dat (D.list LK.nil 0 ([] : Row)))]), (AV.dat (D.int IntKind.i64 (0 : Int))), (AV.dat (D.int IntKind.i64 (7 : Int)))]), [(Ent.obj [(AV.dat (D.list k 1 xs)), (AV.dat (D.int IntKind.i64 x15.2.2.2.2.2.2.1)), (AV.dat (D.int IntKind.i64 x15.2.2.2.2.2.2.2))])]))
                 (some ((AV.tup [(AV.agg [(AV.dat (D.int IntKind.i64 x15.1)), (AV.dat (D.int IntKind.i64 x15.2.1)), (AV.dat (D.int IntKind.i64 x15.2.2.1)), (AV.dat (D.int IntKind.i64 x15.2.2.2.1)), (AV.dat (D.str x15.2.2.2.2.1)), (AV.dat (D.int IntKind.i64 x15.2.2.2.2.2.1)), (AV.dat (D.list LK.nil 0 ([] : Row)))]), (AV.dat (D.int IntKind.i64 x15.2.2.2.2.2.2.1)), (AV.dat (D.int IntKind.i64 (0 : Int)))]), [(Ent.obj [(AV.dat (D.list k 1 xs)), (AV.dat (D.int IntKind.i64 x15.2.2.2.2.2.2.1)), (AV.dat (D.int IntKind.i64 x15.2.2.2.2.2.2.2))])]))
                )
               )
               (rAsk (Option.isSome (loS TT (TOrc.runs tG) (HSg 26) lp26 (out26b k xs) (St.mk (mkT 0 91 [(2, (AV.ptr (Ref.loc 0) 0)), (5, (AV.ptr (Ref.glob 0) 0)), (6, (AV.ptr (Ref.loc 1) 0)), (8, (AV.dat (D.int IntKind.i64 (IntKind.wrap IntKind.i64 x14.1)))), (9, (AV.dat (D.int IntKind.i64 (0 : Int))))]) (Mem.mk [(Option.some (Ent.obj [(AV.dat (D.int IntKind.i64 (0 : Int))), (AV.dat (D.int IntKind.i64 (0 : Int))), (AV.dat (D.int IntKind.i64 (0 : Int))), (AV.dat (D.int IntKind.i64 (0 : Int))), (AV.dat (D.str (ByteArray.mk (List.toArray [])))), (AV.dat (D.int IntKind.i64 (0 : Int))), (AV.dat (D.list LK.nil 0 ([] : Row)))])), (Option.some (Ent.obj [(AV.dat (D.int IntKind.i64 (IntKind.wrap IntKind.i64 x1.1))), (AV.dat (D.int IntKind.i64 (IntKind.wrap IntKind.i64 x2.1))), (AV.dat (D.int IntKind.i64 (IntKind.wrap IntKind.i64 x3.1))), (AV.dat (D.int IntKind.i64 (IntKind.wrap IntKind.i64 x4.1))), (AV.dat (D.str (ByteArray.mk (List.toArray [])))), (AV.dat (D.int IntKind.i64 (IntKind.wrap IntKind.i64 x5.1))), (AV.dat (D.list LK.nil 0 ([] : Row)))]))] [(Ent.obj [(AV.dat (D.list k 1 xs)), (AV.dat (D.int IntKind.i64 x14.2.1)), (AV.dat (D.int IntKind.i64 x14.2.2))])] 0))))
                (rGet (loS TT (TOrc.runs tG) (HSg 26) lp26 (out26b k xs) (St.mk (mkT 0 91 [(2, (AV.ptr (Ref.loc 0) 0)), (5, (AV.ptr (Ref.glob 0) 0)), (6, (AV.ptr (Ref.loc 1) 0)), (8, (AV.dat (D.int IntKind.i64 (IntKind.wrap IntKind.i64 x14.1)))), (9, (AV.dat (D.int IntKind.i64 (0 : Int))))]) (Mem.mk [(Option.some (Ent.obj [(AV.dat (D.int IntKind.i64 (0 : Int))), (AV.dat (D.int IntKind.i64 (0 : Int))), (AV.dat (D.int IntKind.i64 (0 : Int))), (AV.dat (D.int IntKind.i64 (0 : Int))), (AV.dat (D.str (ByteArray.mk (List.toArray [])))), (AV.dat (D.int IntKind.i64 (0 : Int))), (AV.dat (D.list LK.nil 0 ([] : Row)))])), (Option.some (Ent.obj [(AV.dat (D.int IntKind.i64 (IntKind.wrap IntKind.i64 x1.1))), (AV.dat (D.int IntKind.i64 (IntKind.wrap IntKind.i64 x2.1))), (AV.dat (D.int IntKind.i64 (IntKind.wrap IntKind.i64 x3.1))), (AV.dat (D.int IntKind.i64 (IntKind.wrap IntKind.i64 x4.1))), (AV.dat (D.str (ByteArray.mk (List.toArray [])))), (AV.dat (D.int IntKind.i64 (IntKind.wrap IntKind.i64 x5.1))), (AV.dat (D.list LK.nil 0 ([] : Row)))]))] [(Ent.obj [(AV.dat (D.list k 1 xs)), (AV.dat (D.int IntKind.i64 x14.2.1)), (AV.dat (D.int IntKind.i64 x14.2.2))])] 0))) fun x16 =>
                 (rAsk (x16.2.2.2.2.2.2.2.2 != (0 : Int))
                  (some ((AV.tup [(AV.agg [(AV.dat (D.int IntKind.i64 (0 : Int))), (AV.dat (D.int IntKind.i64 (0 : Int))), (AV.dat (D.int IntKind.i64 (0 : Int))), (AV.dat (D.int IntKind.i64 (0 : Int))), (AV.dat (D.str (ByteArray.mk (List.toArray [])))), (AV.dat (D.int IntKind.i64 (0 : Int))), (AV.dat (D.list LK.nil 0 ([] : Row)))]), (AV.dat (D.int IntKind.i64 (0 : Int))), (AV.dat (D.int IntKind.i64 (7 : Int)))]), [(Ent.obj [(AV.dat (D.list k 1 xs)), (AV.dat (D.int IntKind.i64 x16.2.2.2.2.2.2.2.1)), (AV.dat (D.int IntKind.i64 x16.2.2.2.2.2.2.2.2))])]))
                  (some ((AV.tup [(AV.agg [(AV.dat (D.int IntKind.i64 x16.1)), (AV.dat (D.int IntKind.i64 x16.2.1)), (AV.dat (D.int IntKind.i64 x16.2.2.1)), (AV.dat (D.int IntKind.i64 x16.2.2.2.1)), (AV.dat (D.str x16.2.2.2.2.1)), (AV.dat (D.int IntKind.i64 x16.2.2.2.2.2.1)), (AV.dat (D.list LK.any 1 (List.take (List.length x16.2.2.2.2.2.2.1) (List.drop 0 x16.2.2.2.2.2.2.1))))]), (AV.dat (D.int IntKind.i64 x16.2.2.2.2.2.2.2.1)), (AV.dat (D.int IntKind.i64 (0 : Int)))]), [(Ent.obj [(AV.dat (D.list k 1 xs)), (AV.dat (D.int IntKind.i64 x16.2.2.2.2.2.2.2.1)), (AV.dat (D.int IntKind.i64 x16.2.2.2.2.2.2.2.2))])]))
                 )
                )
                (rGet (loS TT (TOrc.runs tG) (HSg 26) lp26 (out26c k xs) (St.mk (mkT 0 91 [(2, (AV.ptr (Ref.loc 0) 0)), (5, (AV.ptr (Ref.glob 0) 0)), (6, (AV.ptr (Ref.loc 1) 0)), (8, (AV.dat (D.int IntKind.i64 (IntKind.wrap IntKind.i64 x14.1)))), (9, (AV.dat (D.int IntKind.i64 (0 : Int))))]) (Mem.mk [(Option.some (Ent.obj [(AV.dat (D.int IntKind.i64 (0 : Int))), (AV.dat (D.int IntKind.i64 (0 : Int))), (AV.dat (D.int IntKind.i64 (0 : Int))), (AV.dat (D.int IntKind.i64 (0 : Int))), (AV.dat (D.str (ByteArray.mk (List.toArray [])))), (AV.dat (D.int IntKind.i64 (0 : Int))), (AV.dat (D.list LK.nil 0 ([] : Row)))])), (Option.some (Ent.obj [(AV.dat (D.int IntKind.i64 (IntKind.wrap IntKind.i64 x1.1))), (AV.dat (D.int IntKind.i64 (IntKind.wrap IntKind.i64 x2.1))), (AV.dat (D.int IntKind.i64 (IntKind.wrap IntKind.i64 x3.1))), (AV.dat (D.int IntKind.i64 (IntKind.wrap IntKind.i64 x4.1))), (AV.dat (D.str (ByteArray.mk (List.toArray [])))), (AV.dat (D.int IntKind.i64 (IntKind.wrap IntKind.i64 x5.1))), (AV.dat (D.list LK.nil 0 ([] : Row)))]))] [(Ent.obj [(AV.dat (D.list k 1 xs)), (AV.dat (D.int IntKind.i64 x14.2.1)), (AV.dat (D.int IntKind.i64 x14.2.2))])] 0))) fun x17 =>
                 (some ((AV.tup [(AV.agg [(AV.dat (D.int IntKind.i64 (0 : Int))), (AV.dat (D.int IntKind.i64 (0 : Int))), (AV.dat (D.int IntKind.i64 (0 : Int))), (AV.dat (D.int IntKind.i64 (0 : Int))), (AV.dat (D.str (ByteArray.mk (List.toArray [])))), (AV.dat (D.int IntKind.i64 (0 : Int))), (AV.dat (D.list LK.nil 0 ([] : Row)))]), (AV.dat (D.int IntKind.i64 (0 : Int))), (AV.dat (D.int IntKind.i64 (6 : Int)))]), [(Ent.obj [(AV.dat (D.list k 1 xs)), (AV.dat (D.int IntKind.i64 x17.2.1)), (AV.dat (D.int IntKind.i64 x17.2.2))])]))
                )
               )
              )
             )
            )
           )
           (rGet (fnS (fun (p : Int × Int × Int) => ((AV.dat (D.int IntKind.u64 p.1)), [(Ent.obj [(AV.dat (D.list k 1 xs)), (AV.dat (D.int IntKind.i64 p.2.1)), (AV.dat (D.int IntKind.i64 p.2.2))])])) (R50 [(AV.ptr (Ref.glob 0) 0), (AV.dat (D.int IntKind.i64 (1 : Int)))] [(Ent.obj [(AV.dat (D.list k 1 xs)), (AV.dat (D.int IntKind.i64 x6.2.1)), (AV.dat (D.int IntKind.i64 x6.2.2))])])) fun x18 =>
            (rAsk (Option.isSome (loS TT (TOrc.runs tG) (HSg 26) lp26 (out26a k xs) (St.mk (mkT 0 91 [(2, (AV.ptr (Ref.loc 0) 0)), (5, (AV.ptr (Ref.glob 0) 0)), (6, (AV.ptr (Ref.loc 1) 0)), (8, (AV.dat (D.int IntKind.i64 (IntKind.wrap IntKind.i64 x18.1)))), (9, (AV.dat (D.int IntKind.i64 (0 : Int))))]) (Mem.mk [(Option.some (Ent.obj [(AV.dat (D.int IntKind.i64 (0 : Int))), (AV.dat (D.int IntKind.i64 (0 : Int))), (AV.dat (D.int IntKind.i64 (0 : Int))), (AV.dat (D.int IntKind.i64 (0 : Int))), (AV.dat (D.str (ByteArray.mk (List.toArray [])))), (AV.dat (D.int IntKind.i64 (0 : Int))), (AV.dat (D.list LK.nil 0 ([] : Row)))])), (Option.some (Ent.obj [(AV.dat (D.int IntKind.i64 (IntKind.wrap IntKind.i64 x1.1))), (AV.dat (D.int IntKind.i64 (IntKind.wrap IntKind.i64 x2.1))), (AV.dat (D.int IntKind.i64 (IntKind.wrap IntKind.i64 x3.1))), (AV.dat (D.int IntKind.i64 (IntKind.wrap IntKind.i64 x4.1))), (AV.dat (D.str (ByteArray.mk (List.toArray [])))), (AV.dat (D.int IntKind.i64 (IntKind.wrap IntKind.i64 x5.1))), (AV.dat (D.list LK.nil 0 ([] : Row)))]))] [(Ent.obj [(AV.dat (D.list k 1 xs)), (AV.dat (D.int IntKind.i64 x18.2.1)), (AV.dat (D.int IntKind.i64 x18.2.2))])] 0))))
             (rGet (loS TT (TOrc.runs tG) (HSg 26) lp26 (out26a k xs) (St.mk (mkT 0 91 [(2, (AV.ptr (Ref.loc 0) 0)), (5, (AV.ptr (Ref.glob 0) 0)), (6, (AV.ptr (Ref.loc 1) 0)), (8, (AV.dat (D.int IntKind.i64 (IntKind.wrap IntKind.i64 x18.1)))), (9, (AV.dat (D.int IntKind.i64 (0 : Int))))]) (Mem.mk [(Option.some (Ent.obj [(AV.dat (D.int IntKind.i64 (0 : Int))), (AV.dat (D.int IntKind.i64 (0 : Int))), (AV.dat (D.int IntKind.i64 (0 : Int))), (AV.dat (D.int IntKind.i64 (0 : Int))), (AV.dat (D.str (ByteArray.mk (List.toArray [])))), (AV.dat (D.int IntKind.i64 (0 : Int))), (AV.dat (D.list LK.nil 0 ([] : Row)))])), (Option.some (Ent.obj [(AV.dat (D.int IntKind.i64 (IntKind.wrap IntKind.i64 x1.1))), (AV.dat (D.int IntKind.i64 (IntKind.wrap IntKind.i64 x2.1))), (AV.dat (D.int IntKind.i64 (IntKind.wrap IntKind.i64 x3.1))), (AV.dat (D.int IntKind.i64 (IntKind.wrap IntKind.i64 x4.1))), (AV.dat (D.str (ByteArray.mk (List.toArray [])))), (AV.dat (D.int IntKind.i64 (IntKind.wrap IntKind.i64 x5.1))), (AV.dat (D.list LK.nil 0 ([] : Row)))]))] [(Ent.obj [(AV.dat (D.list k 1 xs)), (AV.dat (D.int IntKind.i64 x18.2.1)), (AV.dat (D.int IntKind.i64 x18.2.2))])] 0))) fun x19 =>
              (rAsk (x19.2.2.2.2.2.2.2 != (0 : Int))
               (some ((AV.tup [(AV.agg [(AV.dat (D.int IntKind.i64 (0 : Int))), (AV.dat (D.int IntKind.i64 (0 : Int))), (AV.dat (D.int IntKind.i64 (0 : Int))), (AV.dat (D.int IntKind.i64 (0 : Int))), (AV.dat (D.str (ByteArray.mk (List.toArray [])))), (AV.dat (D.int IntKind.i64 (0 : Int))), (AV.dat (D.list LK.nil 0 ([] : Row)))]), (AV.dat (D.int IntKind.i64 (0 : Int))), (AV.dat (D.int IntKind.i64 (7 : Int)))]), [(Ent.obj [(AV.dat (D.list k 1 xs)), (AV.dat (D.int IntKind.i64 x19.2.2.2.2.2.2.1)), (AV.dat (D.int IntKind.i64 x19.2.2.2.2.2.2.2))])]))
               (some ((AV.tup [(AV.agg [(AV.dat (D.int IntKind.i64 x19.1)), (AV.dat (D.int IntKind.i64 x19.2.1)), (AV.dat (D.int IntKind.i64 x19.2.2.1)), (AV.dat (D.int IntKind.i64 x19.2.2.2.1)), (AV.dat (D.str x19.2.2.2.2.1)), (AV.dat (D.int IntKind.i64 x19.2.2.2.2.2.1)), (AV.dat (D.list LK.nil 0 ([] : Row)))]), (AV.dat (D.int IntKind.i64 x19.2.2.2.2.2.2.1)), (AV.dat (D.int IntKind.i64 (0 : Int)))]), [(Ent.obj [(AV.dat (D.list k 1 xs)), (AV.dat (D.int IntKind.i64 x19.2.2.2.2.2.2.1)), (AV.dat (D.int IntKind.i64 x19.2.2.2.2.2.2.2))])]))
              )
             )
             (rAsk (Option.isSome (loS TT (TOrc.runs tG) (HSg 26) lp26 (out26b k xs) (St.mk (mkT 0 91 [(2, (AV.ptr (Ref.loc 0) 0)), (5, (AV.ptr (Ref.glob 0) 0)), (6, (AV.ptr (Ref.loc 1) 0)), (8, (AV.dat (D.int IntKind.i64 (IntKind.wrap IntKind.i64 x18.1)))), (9, (AV.dat (D.int IntKind.i64 (0 : Int))))]) (Mem.mk [(Option.some (Ent.obj [(AV.dat (D.int IntKind.i64 (0 : Int))), (AV.dat (D.int IntKind.i64 (0 : Int))), (AV.dat (D.int IntKind.i64 (0 : Int))), (AV.dat (D.int IntKind.i64 (0 : Int))), (AV.dat (D.str (ByteArray.mk (List.toArray [])))), (AV.dat (D.int IntKind.i64 (0 : Int))), (AV.dat (D.list LK.nil 0 ([] : Row)))])), (Option.some (Ent.obj [(AV.dat (D.int IntKind.i64 (IntKind.wrap IntKind.i64 x1.1))), (AV.dat (D.int IntKind.i64 (IntKind.wrap IntKind.i64 x2.1))), (AV.dat (D.int IntKind.i64 (IntKind.wrap IntKind.i64 x3.1))), (AV.dat (D.int IntKind.i64 (IntKind.wrap IntKind.i64 x4.1))), (AV.dat (D.str (ByteArray.mk (List.toArray [])))), (AV.dat (D.int IntKind.i64 (IntKind.wrap IntKind.i64 x5.1))), (AV.dat (D.list LK.nil 0 ([] : Row)))]))] [(Ent.obj [(AV.dat (D.list k 1 xs)), (AV.dat (D.int IntKind.i64 x18.2.1)), (AV.dat (D.int IntKind.i64 x18.2.2))])] 0))))
              (rGet (loS TT (TOrc.runs tG) (HSg 26) lp26 (out26b k xs) (St.mk (mkT 0 91 [(2, (AV.ptr (Ref.loc 0) 0)), (5, (AV.ptr (Ref.glob 0) 0)), (6, (AV.ptr (Ref.loc 1) 0)), (8, (AV.dat (D.int IntKind.i64 (IntKind.wrap IntKind.i64 x18.1)))), (9, (AV.dat (D.int IntKind.i64 (0 : Int))))]) (Mem.mk [(Option.some (Ent.obj [(AV.dat (D.int IntKind.i64 (0 : Int))), (AV.dat (D.int IntKind.i64 (0 : Int))), (AV.dat (D.int IntKind.i64 (0 : Int))), (AV.dat (D.int IntKind.i64 (0 : Int))), (AV.dat (D.str (ByteArray.mk (List.toArray [])))), (AV.dat (D.int IntKind.i64 (0 : Int))), (AV.dat (D.list LK.nil 0 ([] : Row)))])), (Option.some (Ent.obj [(AV.dat (D.int IntKind.i64 (IntKind.wrap IntKind.i64 x1.1))), (AV.dat (D.int IntKind.i64 (IntKind.wrap IntKind.i64 x2.1))), (AV.dat (D.int IntKind.i64 (IntKind.wrap IntKind.i64 x3.1))), (AV.dat (D.int IntKind.i64 (IntKind.wrap IntKind.i64 x4.1))), (AV.dat (D.str (ByteArray.mk (List.toArray [])))), (AV.dat (D.int IntKind.i64 (IntKind.wrap IntKind.i64 x5.1))), (AV.dat (D.list LK.nil 0 ([] : Row)))]))] [(Ent.obj [(AV.dat (D.list k 1 xs)), (AV.dat (D.int IntKind.i64 x18.2.1)), (AV.dat (D.int IntKind.i64 x18.2.2))])] 0))) fun x20 =>
               (rAsk (x20.2.2.2.2.2.2.2.2 != (0 : Int))
                (some ((AV.tup [(AV.agg [(AV.dat (D.int IntKind.i64 (0 : Int))), (AV.dat (D.int IntKind.i64 (0 : Int))), (AV.dat (D.int IntKind.i64 (0 : Int))), (AV.dat (D.int IntKind.i64 (0 : Int))), (AV.dat (D.str (ByteArray.mk (List.toArray [])))), (AV.dat (D.int IntKind.i64 (0 : Int))), (AV.dat (D.list LK.nil 0 ([] : Row)))]), (AV.dat (D.int IntKind.i64 (0 : Int))), (AV.dat (D.int IntKind.i64 (7 : Int)))]), [(Ent.obj [(AV.dat (D.list k 1 xs)), (AV.dat (D.int IntKind.i64 x20.2.2.2.2.2.2.2.1)), (AV.dat (D.int IntKind.i64 x20.2.2.2.2.2.2.2.2))])]))
                (some ((AV.tup [(AV.agg [(AV.dat (D.int IntKind.i64 x20.1)), (AV.dat (D.int IntKind.i64 x20.2.1)), (AV.dat (D.int IntKind.i64 x20.2.2.1)), (AV.dat (D.int IntKind.i64 x20.2.2.2.1)), (AV.dat (D.str x20.2.2.2.2.1)), (AV.dat (D.int IntKind.i64 x20.2.2.2.2.2.1)), (AV.dat (D.list LK.any 1 (List.take (List.length x20.2.2.2.2.2.2.1) (List.drop 0 x20.2.2.2.2.2.2.1))))]), (AV.dat (D.int IntKind.i64 x20.2.2.2.2.2.2.2.1)), (AV.dat (D.int IntKind.i64 (0 : Int)))]), [(Ent.obj [(AV.dat (D.list k 1 xs)), (AV.dat (D.int IntKind.i64 x20.2.2.2.2.2.2.2.1)), (AV.dat (D.int IntKind.i64 x20.2.2.2.2.2.2.2.2))])]))
               )
              )
              (rGet (loS TT (TOrc.runs tG) (HSg 26) lp26 (out26c k xs) (St.mk (mkT 0 91 [(2, (AV.ptr (Ref.loc 0) 0)), (5, (AV.ptr (Ref.glob 0) 0)), (6, (AV.ptr (Ref.loc 1) 0)), (8, (AV.dat (D.int IntKind.i64 (IntKind.wrap IntKind.i64 x18.1)))), (9, (AV.dat (D.int IntKind.i64 (0 : Int))))]) (Mem.mk [(Option.some (Ent.obj [(AV.dat (D.int IntKind.i64 (0 : Int))), (AV.dat (D.int IntKind.i64 (0 : Int))), (AV.dat (D.int IntKind.i64 (0 : Int))), (AV.dat (D.int IntKind.i64 (0 : Int))), (AV.dat (D.str (ByteArray.mk (List.toArray [])))), (AV.dat (D.int IntKind.i64 (0 : Int))), (AV.dat (D.list LK.nil 0 ([] : Row)))])), (Option.some (Ent.obj [(AV.dat (D.int IntKind.i64 (IntKind.wrap IntKind.i64 x1.1))), (AV.dat (D.int IntKind.i64 (IntKind.wrap IntKind.i64 x2.1))), (AV.dat (D.int IntKind.i64 (IntKind.wrap IntKind.i64 x3.1))), (AV.dat (D.int IntKind.i64 (IntKind.wrap IntKind.i64 x4.1))), (AV.dat (D.str (ByteArray.mk (List.toArray [])))), (AV.dat (D.int IntKind.i64 (IntKind.wrap IntKind.i64 x5.1))), (AV.dat (D.list LK.nil 0 ([] : Row)))]))] [(Ent.obj [(AV.dat (D.list k 1 xs)), (AV.dat (D.int IntKind.i64 x18.2.1)), (AV.dat (D.int IntKind.i64 x18.2.2))])] 0))) fun x21 =>
               (some ((AV.tup [(AV.agg [(AV.dat (D.int IntKind.i64 (0 : Int))), (AV.dat (D.int IntKind.i64 (0 : Int))), (AV.dat (D.int IntKind.i64 (0 : Int))), (AV.dat (D.int IntKind.i64 (0 : Int))), (AV.dat (D.str (ByteArray.mk (List.toArray [])))), (AV.dat (D.int IntKind.i64 (0 : Int))), (AV.dat (D.list LK.nil 0 ([] : Row)))]), (AV.dat (D.int IntKind.i64 (0 : Int))), (AV.dat (D.int IntKind.i64 (6 : Int)))]), [(Ent.obj [(AV.dat (D.list k 1 xs)), (AV.dat (D.int IntKind.i64 x21.2.1)), (AV.dat (D.int IntKind.i64 x21.2.2))])]))
              )
             )
            )
           )
          )
         )
         (rAsk (x6.1 == (1 : Int))
          (rAsk (Option.isSome (fnS (fun (p : LK × Row × Int × Int) => ((AV.dat (D.list p.1 1 p.2.1)), [(Ent.obj [(AV.dat (D.list k 1 xs)), (AV.dat (D.int IntKind.i64 p.2.2.1)), (AV.dat (D.int IntKind.i64 p.2.2.2))])])) (R51 [(AV.ptr (Ref.glob 0) 0), (AV.dat (D.int IntKind.i64 (64 : Int)))] [(Ent.obj [(AV.dat (D.list k 1 xs)), (AV.dat (D.int IntKind.i64 x6.2.1)), (AV.dat (D.int IntKind.i64 x6.2.2))])])))
           (rGet (fnS (fun (p : LK × Row × Int × Int) => ((AV.dat (D.list p.1 1 p.2.1)), [(Ent.obj [(AV.dat (D.list k 1 xs)), (AV.dat (D.int IntKind.i64 p.2.2.1)), (AV.dat (D.int IntKind.i64 p.2.2.2))])])) (R51 [(AV.ptr (Ref.glob 0) 0), (AV.dat (D.int IntKind.i64 (64 : Int)))] [(Ent.obj [(AV.dat (D.list k 1 xs)), (AV.dat (D.int IntKind.i64 x6.2.1)), (AV.dat (D.int IntKind.i64 x6.2.2))])])) fun x22 =>
            (rGet (rowBytes x22.2.1) fun x23 =>
             (rGet (fnS (fun (p : Int × Int × Int) => ((AV.dat (D.int IntKind.u64 p.1)), [(Ent.obj [(AV.dat (D.list k 1 xs)), (AV.dat (D.int IntKind.i64 p.2.1)), (AV.dat (D.int IntKind.i64 p.2.2))])])) (R50 [(AV.ptr (Ref.glob 0) 0), (AV.dat (D.int IntKind.i64 (1 : Int)))] [(Ent.obj [(AV.dat (D.list k 1 xs)), (AV.dat (D.int IntKind.i64 x22.2.2.1)), (AV.dat (D.int IntKind.i64 x22.2.2.2))])])) fun x24 =>
              (rAsk (Option.isSome (loS TT (TOrc.runs tG) (HSg 26) lp26 (out26a k xs) (St.mk (mkT 0 91 [(2, (AV.ptr (Ref.loc 0) 0)), (5, (AV.ptr (Ref.glob 0) 0)), (6, (AV.ptr (Ref.loc 1) 0)), (8, (AV.dat (D.int IntKind.i64 (IntKind.wrap IntKind.i64 x24.1)))), (9, (AV.dat (D.int IntKind.i64 (0 : Int))))]) (Mem.mk [(Option.some (Ent.obj [(AV.dat (D.int IntKind.i64 (0 : Int))), (AV.dat (D.int IntKind.i64 (0 : Int))), (AV.dat (D.int IntKind.i64 (0 : Int))), (AV.dat (D.int IntKind.i64 (0 : Int))), (AV.dat (D.str (ByteArray.mk (List.toArray [])))), (AV.dat (D.int IntKind.i64 (0 : Int))), (AV.dat (D.list LK.nil 0 ([] : Row)))])), (Option.some (Ent.obj [(AV.dat (D.int IntKind.i64 (IntKind.wrap IntKind.i64 x1.1))), (AV.dat (D.int IntKind.i64 (IntKind.wrap IntKind.i64 x2.1))), (AV.dat (D.int IntKind.i64 (IntKind.wrap IntKind.i64 x3.1))), (AV.dat (D.int IntKind.i64 (IntKind.wrap IntKind.i64 x4.1))), (AV.dat (D.str (ByteArray.mk (List.toArray x23)))), (AV.dat (D.int IntKind.i64 (IntKind.wrap IntKind.i64 x5.1))), (AV.dat (D.list LK.nil 0 ([] : Row)))]))] [(Ent.obj [(AV.dat (D.list k 1 xs)), (AV.dat (D.int IntKind.i64 x24.2.1)), (AV.dat (D.int IntKind.i64 x24.2.2))])] 0))))
               (rGet (loS TT (TOrc.runs tG) (HSg 26) lp26 (out26a k xs) (St.mk (mkT 0 91 [(2, (AV.ptr (Ref.loc 0) 0)), (5, (AV.ptr (Ref.glob 0) 0)), (6, (AV.ptr (Ref.loc 1) 0)), (8, (AV.dat (D.int IntKind.i64 (IntKind.wrap IntKind.i64 x24.1)))), (9, (AV.dat (D.int IntKind.i64 (0 : Int))))]) (Mem.mk [(Option.some (Ent.obj [(AV.dat (D.int IntKind.i64 (0 : Int))), (AV.dat (D.int IntKind.i64 (0 : Int))), (AV.dat (D.int IntKind.i64 (0 : Int))), (AV.dat (D.int IntKind.i64 (0 : Int))), (AV.dat (D.str (ByteArray.mk (List.toArray [])))), (AV.dat (D.int IntKind.i64 (0 : Int))), (AV.dat (D.list LK.nil 0 ([] : Row)))])), (Option.some (Ent.obj [(AV.dat (D.int IntKind.i64 (IntKind.wrap IntKind.i64 x1.1))), (AV.dat (D.int IntKind.i64 (IntKind.wrap IntKind.i64 x2.1))), (AV.dat (D.int IntKind.i64 (IntKind.wrap IntKind.i64 x3.1))), (AV.dat (D.int IntKind.i64 (IntKind.wrap IntKind.i64 x4.1))), (AV.dat (D.str (ByteArray.mk (List.toArray x23)))), (AV.dat (D.int IntKind.i64 (IntKind.wrap IntKind.i64 x5.1))), (AV.dat (D.list LK.nil 0 ([] : Row)))]))] [(Ent.obj [(AV.dat (D.list k 1 xs)), (AV.dat (D.int IntKind.i64 x24.2.1)), (AV.dat (D.int IntKind.i64 x24.2.2))])] 0))) fun x25 =>
                (rAsk (x25.2.2.2.2.2.2.2 != (0 : Int))
                 (some ((AV.tup [(AV.agg [(AV.dat (D.int IntKind.i64 (0 : Int))), (AV.dat (D.int IntKind.i64 (0 : Int))), (AV.dat (D.int IntKind.i64 (0 : Int))), (AV.dat (D.int IntKind.i64 (0 : Int))), (AV.dat (D.str (ByteArray.mk (List.toArray [])))), (AV.dat (D.int IntKind.i64 (0 : Int))), (AV.dat (D.list LK.nil 0 ([] : Row)))]), (AV.dat (D.int IntKind.i64 (0 : Int))), (AV.dat (D.int IntKind.i64 (7 : Int)))]), [(Ent.obj [(AV.dat (D.list k 1 xs)), (AV.dat (D.int IntKind.i64 x25.2.2.2.2.2.2.1)), (AV.dat (D.int IntKind.i64 x25.2.2.2.2.2.2.2))])]))
                 (some ((AV.tup [(AV.agg [(AV.dat (D.int IntKind.i64 x25.1)), (AV.dat (D.int IntKind.i64 x25.2.1)), (AV.dat (D.int IntKind.i64 x25.2.2.1)), (AV.dat (D.int IntKind.i64 x25.2.2.2.1)), (AV.dat (D.str x25.2.2.2.2.1)), (AV.dat (D.int IntKind.i64 x25.2.2.2.2.2.1)), (AV.dat (D.list LK.nil 0 ([] : Row)))]), (AV.dat (D.int IntKind.i64 x25.2.2.2.2.2.2.1)), (AV.dat (D.int IntKind.i64 (0 : Int)))]), [(Ent.obj [(AV.dat (D.list k 1 xs)), (AV.dat (D.int IntKind.i64 x25.2.2.2.2.2.2.1)), (AV.dat (D.int IntKind.i64 x25.2.2.2.2.2.2.2))])]))
                )
               )
               (rAsk (Option.isSome (loS TT (TOrc.runs tG) (HSg 26) lp26 (out26b k xs) (St.mk (mkT 0 91 [(2, (AV.ptr (Ref.loc 0) 0)), (5, (AV.ptr (Ref.glob 0) 0)), (6, (AV.ptr (Ref.loc 1) 0)), (8, (AV.dat (D.int IntKind.i64 (IntKind.wrap IntKind.i64 x24.1)))), (9, (AV.dat (D.int IntKind.i64 (0 : Int))))]) (Mem.mk [(Option.some (Ent.obj [(AV.dat (D.int IntKind.i64 (0 : Int))), (AV.dat (D.int IntKind.i64 (0 : Int))), (AV.dat (D.int IntKind.i64 (0 : Int))), (AV.dat (D.int IntKind.i64 (0 : Int))), (AV.dat (D.str (ByteArray.mk (List.toArray [])))), (AV.dat (D.int IntKind.i64 (0 : Int))), (AV.dat (D.list LK.nil 0 ([] : Row)))])), (Option.some (Ent.obj [(AV.dat (D.int IntKind.i64 (IntKind.wrap IntKind.i64 x1.1))), (AV.dat (D.int IntKind.i64 (IntKind.wrap IntKind.i64 x2.1))), (AV.dat (D.int IntKind.i64 (IntKind.wrap IntKind.i64 x3.1))), (AV.dat (D.int IntKind.i64 (IntKind.wrap IntKind.i64 x4.1))), (AV.dat (D.str (ByteArray.mk (List.toArray x23)))), (AV.dat (D.int IntKind.i64 (IntKind.wrap IntKind.i64 x5.1))), (AV.dat (D.list LK.nil 0 ([] : Row)))]))] [(Ent.obj [(AV.dat (D.list k 1 xs)), (AV.dat (D.int IntKind.i64 x24.2.1)), (AV.dat (D.int IntKind.i64 x24.2.2))])] 0))))
                (rGet (loS TT (TOrc.runs tG) (HSg 26) lp26 (out26b k xs) (St.mk (mkT 0 91 [(2, (AV.ptr (Ref.loc 0) 0)), (5, (AV.ptr (Ref.glob 0) 0)), (6, (AV.ptr (Ref.loc 1) 0)), (8, (AV.dat (D.int IntKind.i64 (IntKind.wrap IntKind.i64 x24.1)))), (9, (AV.dat (D.int IntKind.i64 (0 : Int))))]) (Mem.mk [(Option.some (Ent.obj [(AV.dat (D.int IntKind.i64 (0 : Int))), (AV.dat (D.int IntKind.i64 (0 : Int))), (AV.dat (D.int IntKind.i64 (0 : Int))), (AV.dat (D.int IntKind.i64 (0 : Int))), (AV.dat (D.str (ByteArray.mk (List.toArray [])))), (AV.dat (D.int IntKind.i64 (0 : Int))), (AV.dat (D.list LK.nil 0 ([] : Row)))])), (Option.some (Ent.obj [(AV.dat (D.int IntKind.i64 (IntKind.wrap IntKind.i64 x1.1))), (AV.dat (D.int IntKind.i64 (IntKind.wrap IntKind.i64 x2.1))), (AV.dat (D.int IntKind.i64 (IntKind.wrap IntKind.i64 x3.1))), (AV.dat (D.int IntKind.i64 (IntKind.wrap IntKind.i64 x4.1))), (AV.dat (D.str (ByteArray.mk (List.toArray x23)))), (AV.dat (D.int IntKind.i64 (IntKind.wrap IntKind.i64 x5.1))), (AV.dat (D.list LK.nil 0 ([] : Row)))]))] [(Ent.obj [(AV.dat (D.list k 1 xs)), (AV.dat (D.int IntKind.i64 x24.2.1)), (AV.dat (D.int IntKind.i64 x24.2.2))])] 0))) fun x26 =>
                 (rAsk (x26.2.2.2.2.2.2.2.2 != (0 : Int))
                  (some ((AV.tup [(AV.agg [(AV.dat (D.int IntKind.i64 (0 : Int))), (AV.dat (D.int IntKind.i64 (0 : Int))), (AV.dat (D.int IntKind.i64 (0 : Int))), (AV.dat (D.int IntKind.i64 (0 : Int))), (AV.dat (D.str (ByteArray.mk (List.toArray [])))), (AV.dat (D.int IntKind.i64 (0 : Int))), (AV.dat (D.list LK.nil 0 ([] : Row)))]), (AV.dat (D.int IntKind.i64 (0 : Int))), (AV.dat (D.int IntKind.i64 (7 : Int)))]), [(Ent.obj [(AV.dat (D.list k 1 xs)), (AV.dat (D.int IntKind.i64 x26.2.2.2.2.2.2.2.1)), (AV.dat (D.int IntKind.i64 x26.2.2.2.2.2.2.2.2))])]))
                  (some ((AV.tup [(AV.agg [(AV.dat (D.int IntKind.i64 x26.1)), (AV.dat (D.int IntKind.i64 x26.2.1)), (AV.dat (D.int IntKind.i64 x26.2.2.1)), (AV.dat (D.int IntKind.i64 x26.2.2.2.1)), (AV.dat (D.str x26.2.2.2.2.1)), (AV.dat (D.int IntKind.i64 x26.2.2.2.2.2.1)), (AV.dat (D.list LK.any 1 (List.take (List.length x26.2.2.2.2.2.2.1) (List.drop 0 x26.2.2.2.2.2.2.1))))]), (AV.dat (D.int IntKind.i64 x26.2.2.2.2.2.2.2.1)), (AV.dat (D.int IntKind.i64 (0 : Int)))]), [(Ent.obj [(AV.dat (D.list k 1 xs)), (AV.dat (D.int IntKind.i64 x26.2.2.2.2.2.2.2.1)), (AV.dat (D.int IntKind.i64 x26.2.2.2.2.2.2.2.2))])]))
                 )
                )
                (rGet (loS TT (TOrc.runs tG) (HSg 26) lp26 (out26c k xs) (St.mk (mkT 0 91 [(2, (AV.ptr (Ref.loc 0) 0)), (5, (AV.ptr (Ref.glob 0) 0)), (6, (AV.ptr (Ref.loc 1) 0)), (8, (AV.dat (D.int IntKind.i64 (IntKind.wrap IntKind.i64 x24.1)))), (9, (AV.dat (D.int IntKind.i64 (0 : Int))))]) (Mem.mk [(Option.some (Ent.obj [(AV.dat (D.int IntKind.i64 (0 : Int))), (AV.dat (D.int IntKind.i64 (0 : Int))), (AV.dat (D.int IntKind.i64 (0 : Int))), (AV.dat (D.int IntKind.i64 (0 : Int))), (AV.dat (D.str (ByteArray.mk (List.toArray [])))), (AV.dat (D.int IntKind.i64 (0 : Int))), (AV.dat (D.list LK.nil 0 ([] : Row)))])), (Option.some (Ent.obj [(AV.dat (D.int IntKind.i64 (IntKind.wrap IntKind.i64 x1.1))), (AV.dat (D.int IntKind.i64 (IntKind.wrap IntKind.i64 x2.1))), (AV.dat (D.int IntKind.i64 (IntKind.wrap IntKind.i64 x3.1))), (AV.dat (D.int IntKind.i64 (IntKind.wrap IntKind.i64 x4.1))), (AV.dat (D.str (ByteArray.mk (List.toArray x23)))), (AV.dat (D.int IntKind.i64 (IntKind.wrap IntKind.i64 x5.1))), (AV.dat (D.list LK.nil 0 ([] : Row)))]))] [(Ent.obj [(AV.dat (D.list k 1 xs)), (AV.dat (D.int IntKind.i64 x24.2.1)), (AV.dat (D.int IntKind.i64 x24.2.2))])] 0))) fun x27 =>
                 (some ((AV.tup [(AV.agg [(AV.dat (D.int IntKind.i64 (0 : Int))), (AV.dat (D.int IntKind.i64 (0 : Int))), (AV.dat (D.int IntKind.i64 (0 : Int))), (AV.dat (D.int IntKind.i64 (0 : Int))), (AV.dat (D.str (ByteArray.mk (List.toArray [])))), (AV.dat (D.int IntKind.i64 (0 : Int))), (AV.dat (D.list LK.nil 0 ([] : Row)))]), (AV.dat (D.int IntKind.i64 (0 : Int))), (AV.dat (D.int IntKind.i64 (6 : Int)))]), [(Ent.obj [(AV.dat (D.list k 1 xs)), (AV.dat (D.int IntKind.i64 x27.2.1)), (AV.dat (D.int IntKind.i64 x27.2.2))])]))
                )
               )
              )
             )
            )
           )
           (rGet (fnS (fun (p : Int × Int) => ((AV.dat (D.list LK.nil 0 ([] : Row))), [(Ent.obj [(AV.dat (D.list k 1 xs)), (AV.dat (D.int IntKind.i64 p.1)), (AV.dat (D.int IntKind.i64 p.2))])])) (R51 [(AV.ptr (Ref.glob 0) 0), (AV.dat (D.int IntKind.i64 (64 : Int)))] [(Ent.obj [(AV.dat (D.list k 1 xs)), (AV.dat (D.int IntKind.i64 x6.2.1)), (AV.dat (D.int IntKind.i64 x6.2.2))])])) fun x28 =>
            (rGet (fnS (fun (p : Int × Int × Int) => ((AV.dat (D.int IntKind.u64 p.1)), [(Ent.obj [(AV.dat (D.list k 1 xs)), (AV.dat (D.int IntKind.i64 p.2.1)), (AV.dat (D.int IntKind.i64 p.2.2))])])) (R50 [(AV.ptr (Ref.glob 0) 0), (AV.dat (D.int IntKind.i64 (1 : Int)))] [(Ent.obj [(AV.dat (D.list k 1 xs)), (AV.dat (D.int IntKind.i64 x28.1)), (AV.dat (D.int IntKind.i64 x28.2))])])) fun x29 =>
             (rAsk (Option.isSome (loS TT (TOrc.runs tG) (HSg 26) lp26 (out26a k xs) (St.mk (mkT 0 91 [(2, (AV.ptr (Ref.loc 0) 0)), (5, (AV.ptr (Ref.glob 0) 0)), (6, (AV.ptr (Ref.loc 1) 0)), (8, (AV.dat (D.int IntKind.i64 (IntKind.wrap IntKind.i64 x29.1)))), (9, (AV.dat (D.int IntKind.i64 (0 : Int))))]) (Mem.mk [(Option.some (Ent.obj [(AV.dat (D.int IntKind.i64 (0 : Int))), (AV.dat (D.int IntKind.i64 (0 : Int))), (AV.dat (D.int IntKind.i64 (0 : Int))), (AV.dat (D.int IntKind.i64 (0 : Int))), (AV.dat (D.str (ByteArray.mk (List.toArray [])))), (AV.dat (D.int IntKind.i64 (0 : Int))), (AV.dat (D.list LK.nil 0 ([] : Row)))])), (Option.some (Ent.obj [(AV.dat (D.int IntKind.i64 (IntKind.wrap IntKind.i64 x1.1))), (AV.dat (D.int IntKind.i64 (IntKind.wrap IntKind.i64 x2.1))), (AV.dat (D.int IntKind.i64 (IntKind.wrap IntKind.i64 x3.1))), (AV.dat (D.int IntKind.i64 (IntKind.wrap IntKind.i64 x4.1))), (AV.dat (D.str (ByteArray.mk (List.toArray [])))), (AV.dat (D.int IntKind.i64 (IntKind.wrap IntKind.i64 x5.1))), (AV.dat (D.list LK.nil 0 ([] : Row)))]))] [(Ent.obj [(AV.dat (D.list k 1 xs)), (AV.dat (D.int IntKind.i64 x29.2.1)), (AV.dat (D.int IntKind.i64 x29.2.2))])] 0))))
              (rGet (loS TT (TOrc.runs tG) (HSg 26) lp26 (out26a k xs) (St.mk (mkT 0 91 [(2, (AV.ptr (Ref.loc 0) 0)), (5, (AV.ptr (Ref.glob 0) 0)), (6, (AV.ptr (Ref.loc 1) 0)), (8, (AV.dat (D.int IntKind.i64 (IntKind.wrap IntKind.i64 x29.1)))), (9, (AV.dat (D.int IntKind.i64 (0 : Int))))]) (Mem.mk [(Option.some (Ent.obj [(AV.dat (D.int IntKind.i64 (0 : Int))), (AV.dat (D.int IntKind.i64 (0 : Int))), (AV.dat (D.int IntKind.i64 (0 : Int))), (AV.dat (D.int IntKind.i64 (0 : Int))), (AV.dat (D.str (ByteArray.mk (List.toArray [])))), (AV.dat (D.int IntKind.i64 (0 : Int))), (AV.dat (D.list LK.nil 0 ([] : Row)))])), (Option.some (Ent.obj [(AV.dat (D.int IntKind.i64 (IntKind.wrap IntKind.i64 x1.1))), (AV.dat (D.int IntKind.i64 (IntKind.wrap IntKind.i64 x2.1))), (AV.dat (D.int IntKind.i64 (IntKind.wrap IntKind.i64 x3.1))), (AV.dat (D.int IntKind.i64 (IntKind.wrap IntKind.i64 x4.1))), (AV.dat (D.str (ByteArray.mk (List.toArray [])))), (AV.dat (D.int IntKind.i64 (IntKind.wrap IntKind.i64 x5.1))), (AV.dat (D.list LK.nil 0 ([] : Row)))]))] [(Ent.obj [(AV.dat (D.list k 1 xs)), (AV.dat (D.int IntKind.i64 x29.2.1)), (AV.dat (D.int IntKind.i64 x29.2.2))])] 0))) fun x30 =>
               (rAsk (x30.2.2.2.2.2.2.2 != (0 : Int))
                (some ((AV.tup [(AV.agg [(AV.dat (D.int IntKind.i64 (0 : Int))), (AV.dat (D.int IntKind.i64 (0 : Int))), (AV.dat (D.int IntKind.i64 (0 : Int))), (AV.dat (D.int IntKind.i64 (0 : Int))), (AV.dat (D.str (ByteArray.mk (List.toArray [])))), (AV.dat (D.int IntKind.i64 (0 : Int))), (AV.dat (D.list LK.nil 0 ([] : Row)))]), (AV.dat (D.int IntKind.i64 (0 : Int))), (AV.dat (D.int IntKind.i64 (7 : Int)))]), [(Ent.obj [(AV.dat (D.list k 1 xs)), (AV.dat (D.int IntKind.i64 x30.2.2.2.2.2.2.1)), (AV.dat (D.int IntKind.i64 x30.2.2.2.2.2.2.2))])]))
                (some ((AV.tup [(AV.agg [(AV.dat (D.int IntKind.i64 x30.1)), (AV.dat (D.int IntKind.i64 x30.2.1)), (AV.dat (D.int IntKind.i64 x30.2.2.1)), (AV.dat (D.int IntKind.i64 x30.2.2.2.1)), (AV.dat (D.str x30.2.2.2.2.1)), (AV.dat (D.int IntKind.i64 x30.2.2.2.2.2.1)), (AV.dat (D.list LK.nil 0 ([] : Row)))]), (AV.dat (D.int IntKind.i64 x30.2.2.2.2.2.2.1)), (AV.dat (D.int IntKind.i64 (0 : Int)))]), [(Ent.obj [(AV.dat (D.list k 1 xs)), (AV.dat (D.int IntKind.i64 x30.2.2.2.2.2.2.1)), (AV.dat (D.int IntKind.i64 x30.2.2.2.2.2.2.2))])]))
               )
              )
              (rAsk (Option.isSome (loS TT (TOrc.runs tG) (HSg 26) lp26 (out26b k xs) (St.mk (mkT 0 91 [(2, (AV.ptr (Ref.loc 0) 0)), (5, (AV.ptr (Ref.glob 0) 0)), (6, (AV.ptr (Ref.loc 1) 0)), (8, (AV.dat (D.int IntKind.i64 (IntKind.wrap IntKind.i64 x29.1)))), (9, (AV.dat (D.int IntKind.i64 (0 : Int))))]) (Mem.mk [(Option.some (Ent.obj [(AV.dat (D.int IntKind.i64 (0 : Int))), (AV.dat (D.int IntKind.i64 (0 : Int))), (AV.dat (D.int IntKind.i64 (0 : Int))), (AV.dat (D.int IntKind.i64 (0 : Int))), (AV.dat (D.str (ByteArray.mk (List.toArray [])))), (AV.dat (D.int IntKind.i64 (0 : Int))), (AV.dat (D.list LK.nil 0 ([] : Row)))])), (Option.some (Ent.obj [(AV.dat (D.int IntKind.i64 (IntKind.wrap IntKind.i64 x1.1))), (AV.dat (D.int IntKind.i64 (IntKind.wrap IntKind.i64 x2.1))), (AV.dat (D.int IntKind.i64 (IntKind.wrap IntKind.i64 x3.1))), (AV.dat (D.int IntKind.i64 (IntKind.wrap IntKind.i64 x4.1))), (AV.dat (D.str (ByteArray.mk (List.toArray [])))), (AV.dat (D.int IntKind.i64 (IntKind.wrap IntKind.i64 x5.1))), (AV.dat (D.list LK.nil 0 ([] : Row)))]))] [(Ent.obj [(AV.dat (D.list k 1 xs)), (AV.dat (D.int IntKind.i64 x29.2.1)), (AV.dat (D.int IntKind.i64 x29.2.2))])] 0))))
               (rGet (loS TT (TOrc.runs tG) (HSg 26) lp26 (out26b k xs) (St.mk (mkT 0 91 [(2, (AV.ptr (Ref.loc 0) 0)), (5, (AV.ptr (Ref.glob 0) 0)), (6, (AV.ptr (Ref.loc 1) 0)), (8, (AV.dat (D.int IntKind.i64 (IntKind.wrap IntKind.i64 x29.1)))), (9, (AV.dat (D.int IntKind.i64 (0 : Int))))]) (Mem.mk [(Option.some (Ent.obj [(AV.dat (D.int IntKind.i64 (0 : Int))), (AV.dat (D.int IntKind.i64 (0 : Int))), (AV.dat (D.int IntKind.i64 (0 : Int))), (AV.dat (D.int IntKind.i64 (0 : Int))), (AV.dat (D.str (ByteArray.mk (List.toArray [])))), (AV.dat (D.int IntKind.i64 (0 : Int))), (AV.dat (D.list LK.nil 0 ([] : Row)))])), (Option.some (Ent.obj [(AV.dat (D.int IntKind.i64 (IntKind.wrap IntKind.i64 x1.1))), (AV.dat (D.int IntKind.i64 (IntKind.wrap IntKind.i64 x2.1))), (AV.dat (D.int IntKind.i64 (IntKind.wrap IntKind.i64 x3.1))), (AV.dat (D.int IntKind.i64 (IntKind.wrap IntKind.i64 x4.1))), (AV.dat (D.str (ByteArray.mk (List.toArray [])))), (AV.dat (D.int IntKind.i64 (IntKind.wrap IntKind.i64 x5.1))), (AV.dat (D.list LK.nil 0 ([] : Row)))]))] [(Ent.obj [(AV.dat (D.list k 1 xs)), (AV.dat (D.int IntKind.i64 x29.2.1)), (AV.dat (D.int IntKind.i64 x29.2.2))])] 0))) fun x31 =>
                (rAsk (x31.2.2.2.2.2.2.2.2 != (0 : Int))
                 (some ((AV.tup [(AV.agg [(AV.dat (D.int IntKind.i64 (0 : Int))), (AV.dat (D.int IntKind.i64 (0 : Int))), (AV.dat (D.int IntKind.i64 (0 : Int))), (AV.dat (D.int IntKind.i64 (0 : Int))), (AV.dat (D.str (ByteArray.mk (List.toArray [])))), (AV.dat (D.int IntKind.i64 (0 : Int))), (AV.dat (D.list LK.nil 0 ([] : Row)))]), (AV.dat (D.int IntKind.i64 (0 : Int))), (AV.dat (D.int IntKind.i64 (7 : Int)))]), [(Ent.obj [(AV.dat (D.list k 1 xs)), (AV.dat (D.int IntKind.i64 x31.2.2.2.2.2.2.2.1)), (AV.dat (D.int IntKind.i64 x31.2.2.2.2.2.2.2.2))])]))
                 (some ((AV.tup [(AV.agg [(AV.dat (D.int IntKind.i64 x31.1)), (AV.dat (D.int IntKind.i64 x31.2.1)), (AV.dat (D.int IntKind.i64 x31.2.2.1)), (AV.dat (D.int IntKind.i64 x31.2.2.2.1)), (AV.dat (D.str x31.2.2.2.2.1)), (AV.dat (D.int IntKind.i64 x31.2.2.2.2.2.1)), (AV.dat (D.list LK.any 1 (List.take (List.length x31.2.2.2.2.2.2.1) (List.drop 0 x31.2.2.2.2.2.2.1))))]), (AV.dat (D.int IntKind.i64 x31.2.2.2.2.2.2.2.1)), (AV.dat (D.int IntKind.i64 (0 : Int)))]), [(Ent.obj [(AV.dat (D.list k 1 xs)), (AV.dat (D.int IntKind.i64 x31.2.2.2.2.2.2.2.1)), (AV.dat (D.int IntKind.i64 x31.2.2.2.2.2.2.2.2))])]))
                )
               )
               (rGet (loS TT (TOrc.runs tG) (HSg 26) lp26 (out26c k xs) (St.mk (mkT 0 91 [(2, (AV.ptr (Ref.loc 0) 0)), (5, (AV.ptr (Ref.glob 0) 0)), (6, (AV.ptr (Ref.loc 1) 0)), (8, (AV.dat (D.int IntKind.i64 (IntKind.wrap IntKind.i64 x29.1)))), (9, (AV.dat (D.int IntKind.i64 (0 : Int))))]) (Mem.mk [(Option.some (Ent.obj [(AV.dat (D.int IntKind.i64 (0 : Int))), (AV.dat (D.int IntKind.i64 (0 : Int))), (AV.dat (D.int IntKind.i64 (0 : Int))), (AV.dat (D.int IntKind.i64 (0 : Int))), (AV.dat (D.str (ByteArray.mk (List.toArray [])))), (AV.dat (D.int IntKind.i64 (0 : Int))), (AV.dat (D.list LK.nil 0 ([] : Row)))])), (Option.some (Ent.obj [(AV.dat (D.int IntKind.i64 (IntKind.wrap IntKind.i64 x1.1))), (AV.dat (D.int IntKind.i64 (IntKind.wrap IntKind.i64 x2.1))), (AV.dat (D.int IntKind.i64 (IntKind.wrap IntKind.i64 x3.1))), (AV.dat (D.int IntKind.i64 (IntKind.wrap IntKind.i64 x4.1))), (AV.dat (D.str (ByteArray.mk (List.toArray [])))), (AV.dat (D.int IntKind.i64 (IntKind.wrap IntKind.i64 x5.1))), (AV.dat (D.list LK.nil 0 ([] : Row)))]))] [(Ent.obj [(AV.dat (D.list k 1 xs)), (AV.dat (D.int IntKind.i64 x29.2.1)), (AV.dat (D.int IntKind.i64 x29.2.2))])] 0))) fun x32 =>
                (some ((AV.tup [(AV.agg [(AV.dat (D.int IntKind.i64 (0 : Int))), (AV.dat (D.int IntKind.i64 (0 : Int))), (AV.dat (D.int IntKind.i64 (0 : Int))), (AV.dat (D.int IntKind.i64 (0 : Int))), (AV.dat (D.str (ByteArray.mk (List.toArray [])))), (AV.dat (D.int IntKind.i64 (0 : Int))), (AV.dat (D.list LK.nil 0 ([] : Row)))]), (AV.dat (D.int IntKind.i64 (0 : Int))), (AV.dat (D.int IntKind.i64 (6 : Int)))]), [(Ent.obj [(AV.dat (D.list k 1 xs)), (AV.dat (D.int IntKind.i64 x32.2.1)), (AV.dat (D.int IntKind.i64 x32.2.2))])]))
               )
              )
             )
            )
           )
          )
          (rGet (fnS (fun (p : Int × Int × Int) => ((AV.dat (D.int IntKind.u64 p.1)), [(Ent.obj [(AV.dat (D.list k 1 xs)), (AV.dat (D.int IntKind.i64 p.2.1)), (AV.dat (D.int IntKind.i64 p.2.2))])])) (R50 [(AV.ptr (Ref.glob 0) 0), (AV.dat (D.int IntKind.i64 (1 : Int)))] [(Ent.obj [(AV.dat (D.list k 1 xs)), (AV.dat (D.int IntKind.i64 x6.2.1)), (AV.dat (D.int IntKind.i64 x6.2.2))])])) fun x33 =>
           (rAsk (Option.isSome (loS TT (TOrc.runs tG) (HSg 26) lp26 (out26a k xs) (St.mk (mkT 0 91 [(2, (AV.ptr (Ref.loc 0) 0)), (5, (AV.ptr (Ref.glob 0) 0)), (6, (AV.ptr (Ref.loc 1) 0)), (8, (AV.dat (D.int IntKind.i64 (IntKind.wrap IntKind.i64 x33.1)))), (9, (AV.dat (D.int IntKind.i64 (0 : Int))))]) (Mem.mk [(Option.some (Ent.obj [(AV.dat (D.int IntKind.i64 (0 : Int))), (AV.dat (D.int IntKind.i64 (0 : Int))), (AV.dat (D.int IntKind.i64 (0 : Int))), (AV.dat (D.int IntKind.i64 (0 : Int))), (AV.dat (D.str (ByteArray.mk (List.toArray [])))), (AV.dat (D.int IntKind.i64 (0 : Int))), (AV.dat (D.list LK.nil 0 ([] : Row)))])), (Option.some (Ent.obj [(AV.dat (D.int IntKind.i64 (IntKind.wrap IntKind.i64 x1.1))), (AV.dat (D.int IntKind.i64 (IntKind.wrap IntKind.i64 x2.1))), (AV.dat (D.int IntKind.i64 (IntKind.wrap IntKind.i64 x3.1))), (AV.dat (D.int IntKind.i64 (IntKind.wrap IntKind.i64 x4.1))), (AV.dat (D.str (ByteArray.mk (List.toArray [])))), (AV.dat (D.int IntKind.i64 (IntKind.wrap IntKind.i64 x5.1))), (AV.dat (D.list LK.nil 0 ([] : Row)))]))] [(Ent.obj [(AV.dat (D.list k 1 xs)), (AV.dat (D.int IntKind.i64 x33.2.1)), (AV.dat (D.int IntKind.i64 x33.2.2))])] 0))))
            (rGet (loS TT (TOrc.runs tG) (HSg 26) lp26 (out26a k xs) (St.mk (mkT 0 91 [(2, (AV.ptr (Ref.loc 0) 0)), (5, (AV.ptr (Ref.glob 0) 0)), (6, (AV.ptr (Ref.loc 1) 0)), (8, (AV.dat (D.int IntKind.i64 (IntKind.wrap IntKind.i64 x33.1)))), (9, (AV.dat (D.int IntKind.i64 (0 : Int))))]) (Mem.mk [(Option.some (Ent.obj [(AV.dat (D.int IntKind.i64 (0 : Int))), (AV.dat (D.int IntKind.i64 (0 : Int))), (AV.dat (D.int IntKind.i64 (0 : Int))), (AV.dat (D.int IntKind.i64 (0 : Int))), (AV.dat (D.str (ByteArray.mk (List.toArray [])))), (AV.dat (D.int IntKind.i64 (0 : Int))), (AV.dat (D.list LK.nil 0 ([] : Row)))])), (Option.some (Ent.obj [(AV.dat (D.int IntKind.i64 (IntKind.wrap IntKind.i64 x1.1))), (AV.dat (D.int IntKind.i64 (IntKind.wrap IntKind.i64 x2.1))), (AV.dat (D.int IntKind.i64 (IntKind.wrap IntKind.i64 x3.1))), (AV.dat (D.int IntKind.i64 (IntKind.wrap IntKind.i64 x4.1))), (AV.dat (D.str (ByteArray.mk (List.toArray [])))), (AV.dat (D.int IntKind.i64 (IntKind.wrap IntKind.i64 x5.1))), (AV.dat (D.list LK.nil 0 ([] : Row)))]))] [(Ent.obj [(AV.dat (D.list k 1 xs)), (AV.dat (D.int IntKind.i64 x33.2.1)), (AV.dat (D.int IntKind.i64 x33.2.2))])] 0))) fun x34 =>
             (rAsk (x34.2.2.2.2.2.2.2 != (0 : Int))
              (some ((AV.tup [(AV.agg [(AV.dat (D.int IntKind.i64 (0 : Int))), (AV.dat (D.int IntKind.i64 (0 : Int))), (AV.dat (D.int IntKind.i64 (0 : Int))), (AV.dat (D.int IntKind.i64 (0 : Int))), (AV.dat (D.str (ByteArray.mk (List.toArray [])))), (AV.dat (D.int IntKind.i64 (0 : Int))), (AV.dat (D.list LK.nil 0 ([] : Row)))]), (AV.dat (D.int IntKind.i64 (0 : Int))), (AV.dat (D.int IntKind.i64 (7 : Int)))]), [(Ent.obj [(AV.dat (D.list k 1 xs)), (AV.dat (D.int IntKind.i64 x34.2.2.2.2.2.2.1)), (AV.dat (D.int IntKind.i64 x34.2.2.2.2.2.2.2))])]))
              (some ((AV.tup [(AV.agg [(AV.dat (D.int IntKind.i64 x34.1)), (AV.dat (D.int IntKind.i64 x34.2.1)), (AV.dat (D.int IntKind.i64 x34.2.2.1)), (AV.dat (D.int IntKind.i64 x34.2.2.2.1)), (AV.dat (D.str x34.2.2.2.2.1)), (AV.dat (D.int IntKind.i64 x34.2.2.2.2.2.1)), (AV.dat (D.list LK.nil 0 ([] : Row)))]), (AV.dat (D.int IntKind.i64 x34.2.2.2.2.2.2.1)), (AV.dat (D.int IntKind.i64 (0 : Int)))]), [(Ent.obj [(AV.dat (D.list k 1 xs)), (AV.dat (D.int IntKind.i64 x34.2.2.2.2.2.2.1)), (AV.dat (D.int IntKind.i64 x34.2.2.2.2.2.2.2))])]))
             )
            )
            (rAsk (Option.isSome (loS TT (TOrc.runs tG) (HSg 26) lp26 (out26b k xs) (St.mk (mkT 0 91 [(2, (AV.ptr (Ref.loc 0) 0)), (5, (AV.ptr (Ref.glob 0) 0)), (6, (AV.ptr (Ref.loc 1) 0)), (8, (AV.dat (D.int IntKind.i64 (IntKind.wrap IntKind.i64 x33.1)))), (9, (AV.dat (D.int IntKind.i64 (0 : Int))))]) (Mem.mk [(Option.some (Ent.obj [(AV.dat (D.int IntKind.i64 (0 : Int))), (AV.dat (D.int IntKind.i64 (0 : Int))), (AV.dat (D.int IntKind.i64 (0 : Int))), (AV.dat (D.int IntKind.i64 (0 : Int))), (AV.dat (D.str (ByteArray.mk (List.toArray [])))), (AV.dat (D.int IntKind.i64 (0 : Int))), (AV.dat (D.list LK.nil 0 ([] : Row)))])), (Option.some (Ent.obj [(AV.dat (D.int IntKind.i64 (IntKind.wrap IntKind.i64 x1.1))), (AV.dat (D.int IntKind.i64 (IntKind.wrap IntKind.i64 x2.1))), (AV.dat (D.int IntKind.i64 (IntKind.wrap IntKind.i64 x3.1))), (AV.dat (D.int IntKind.i64 (IntKind.wrap IntKind.i64 x4.1))), (AV.dat (D.str (ByteArray.mk (List.toArray [])))), (AV.dat (D.int IntKind.i64 (IntKind.wrap IntKind.i64 x5.1))), (AV.dat (D.list LK.nil 0 ([] : Row)))]))] [(Ent.obj [(AV.dat (D.list k 1 xs)), (AV.dat (D.int IntKind.i64 x33.2.1)), (AV.dat (D.int IntKind.i64 x33.2.2))])] 0))))
             (rGet (loS TT (TOrc.runs tG) (HSg 26) lp26 (out26b k xs) (St.mk (mkT 0 91 [(2, (AV.ptr (Ref.loc 0) 0)), (5, (AV.ptr (Ref.glob 0) 0)), (6, (AV.ptr (Ref.loc 1) 0)), (8, (AV.dat (D.int IntKind.i64 (IntKind.wrap IntKind.i64 x33.1)))), (9, (AV.dat (D.int IntKind.i64 (0 : Int))))]) (Mem.mk [(Option.some (Ent.obj [(AV.dat (D.int IntKind.i64 (0 : Int))), (AV.dat (D.int IntKind.i64 (0 : Int))), (AV.dat (D.int IntKind.i64 (0 : Int))), (AV.dat (D.int IntKind.i64 (0 : Int))), (AV.dat (D.str (ByteArray.mk (List.toArray [])))), (AV.dat (D.int IntKind.i64 (0 : Int))), (AV.dat (D.list LK.nil 0 ([] : Row)))])), (Option.some (Ent.obj [(AV.dat (D.int IntKind.i64 (IntKind.wrap IntKind.i64 x1.1))), (AV.dat (D.int IntKind.i64 (IntKind.wrap IntKind.i64 x2.1))), (AV.dat (D.int IntKind.i64 (IntKind.wrap IntKind.i64 x3.1))), (AV.dat (D.int IntKind.i64 (IntKind.wrap IntKind.i64 x4.1))), (AV.dat (D.str (ByteArray.mk (List.toArray [])))), (AV.dat (D.int IntKind.i64 (IntKind.wrap IntKind.i64 x5.1))), (AV.dat (D.list LK.nil 0 ([] : Row)))]))] [(Ent.obj [(AV.dat (D.list k 1 xs)), (AV.dat (D.int IntKind.i64 x33.2.1)), (AV.dat (D.int IntKind.i64 x33.2.2))])] 0))) fun x35 =>
              (rAsk (x35.2.2.2.2.2.2.2.2 != (0 : Int))
               (some ((AV.tup [(AV.agg [(AV.dat (D.int IntKind.i64 (0 : Int))), (AV.dat (D.int IntKind.i64 (0 : Int))), (AV.dat (D.int IntKind.i64 (0 : Int))), (AV.dat (D.int IntKind.i64 (0 : Int))), (AV.dat (D.str (ByteArray.mk (List.toArray [])))), (AV.dat (D.int IntKind.i64 (0 : Int))), (AV.dat (D.list LK.nil 0 ([] : Row)))]), (AV.dat (D.int IntKind.i64 (0 : Int))), (AV.dat (D.int IntKind.i64 (7 : Int)))]), [(Ent.obj [(AV.dat (D.list k 1 xs)), (AV.dat (D.int IntKind.i64 x35.2.2.2.2.2.2.2.1)), (AV.dat (D.int IntKind.i64 x35.2.2.2.2.2.2.2.2))])]))
               (some ((AV.tup [(AV.agg [(AV.dat (D.int IntKind.i64 x35.1)), (AV.dat (D.int IntKind.i64 x35.2.1)), (AV.dat (D.int IntKind.i64 x35.2.2.1)), (AV.dat (D.int IntKind.i64 x35.2.2.2.1)), (AV.dat (D.str x35.2.2.2.2.1)), (AV.dat (D.int IntKind.i64 x35.2.2.2.2.2.1)), (AV.dat (D.list LK.any 1 (List.take (List.length x35.2.2.2.2.2.2.1) (List.drop 0 x35.2.2.2.2.2.2.1))))]), (AV.dat (D.int IntKind.i64 x35.2.2.2.2.2.2.2.1)), (AV.dat (D.int IntKind.i64 (0 : Int)))]), [(Ent.obj [(AV.dat (D.list k 1 xs)), (AV.dat (D.int IntKind.i64 x35.2.2.2.2.2.2.2.1)), (AV.dat (D.int IntKind.i64 x35.2.2.2.2.2.2.2.2))])]))
              )
             )
             (rGet (loS TT (TOrc.runs tG) (HSg 26) lp26 (out26c k xs) (St.mk (mkT 0 91 [(2, (AV.ptr (Ref.loc 0) 0)), (5, (AV.ptr (Ref.glob 0) 0)), (6, (AV.ptr (Ref.loc 1) 0)), (8, (AV.dat (D.int IntKind.i64 (IntKind.wrap IntKind.i64 x33.1)))), (9, (AV.dat (D.int IntKind.i64 (0 : Int))))]) (Mem.mk [(Option.some (Ent.obj [(AV.dat (D.int IntKind.i64 (0 : Int))), (AV.dat (D.int IntKind.i64 (0 : Int))), (AV.dat (D.int IntKind.i64 (0 : Int))), (AV.dat (D.int IntKind.i64 (0 : Int))), (AV.dat (D.str (ByteArray.mk (List.toArray [])))), (AV.dat (D.int IntKind.i64 (0 : Int))), (AV.dat (D.list LK.nil 0 ([] : Row)))])), (Option.some (Ent.obj [(AV.dat (D.int IntKind.i64 (IntKind.wrap IntKind.i64 x1.1))), (AV.dat (D.int IntKind.i64 (IntKind.wrap IntKind.i64 x2.1))), (AV.dat (D.int IntKind.i64 (IntKind.wrap IntKind.i64 x3.1))), (AV.dat (D.int IntKind.i64 (IntKind.wrap IntKind.i64 x4.1))), (AV.dat (D.str (ByteArray.mk (List.toArray [])))), (AV.dat (D.int IntKind.i64 (IntKind.wrap IntKind.i64 x5.1))), (AV.dat (D.list LK.nil 0 ([] : Row)))]))] [(Ent.obj [(AV.dat (D.list k 1 xs)), (AV.dat (D.int IntKind.i64 x33.2.1)), (AV.dat (D.int IntKind.i64 x33.2.2))])] 0))) fun x36 =>
              (some ((AV.tup [(AV.agg [(AV.dat (D.int IntKind.i64 (0 : Int))), (AV.dat (D.int IntKind.i64 (0 : Int))), (AV.dat (D.int IntKind.i64 (0 : Int))), (AV.dat (D.int IntKind.i64 (0 : Int))), (AV.dat (D.str (ByteArray.mk (List.toArray [])))), (AV.dat (D.int IntKind.i64 (0 : Int))), (AV.dat (D.list LK.nil 0 ([] : Row)))]), (AV.dat (D.int IntKind.i64 (0 : Int))), (AV.dat (D.int IntKind.i64 (6 : Int)))]), [(Ent.obj [(AV.dat (D.list k 1 xs)), (AV.dat (D.int IntKind.i64 x36.2.1)), (AV.dat (D.int IntKind.i64 x36.2.2))])]))
             )
            )
           )
          )
         )
        )
       )
      )
     )
    )
   )
  )
  := by kernel_rfl

/-- so many truths: none if one is no truth; what is not there is read as false -/
def keepX : Nat → RS → Option (List Bool) × RS
  | 0, s => (some [], s)
  | m + 1, s => if (numS 1 s).2.2 = 0 ∧ (numS 1 s).1 > 1 then (none, (numS 1 s).2) else ((keepX m (numS 1 s).2).1.map (((numS 1 s).1 == 1) :: ·), (keepX m (numS 1 s).2).2)

theorem keepX_bad {m : Nat} {s : RS} (h : (numS 1 s).2.2 = 0 ∧ (numS 1 s).1 > 1) : keepX (m + 1) s = (none, (numS 1 s).2) := by simp [keepX, h]
theorem keepX_go {m : Nat} {s : RS} (h : ¬ ((numS 1 s).2.2 = 0 ∧ (numS 1 s).1 > 1)) : keepX (m + 1) s = ((keepX m (numS 1 s).2).1.map (((numS 1 s).1 == 1) :: ·), (keepX m (numS 1 s).2).2) := by simp only [keepX, if_neg h]

theorem keepX_len : ∀ (m : Nat) (s : RS) (ks : List Bool), (keepX m s).1 = some ks → ks.length = m
  | 0, s, ks, h => by simp [keepX] at h; simp [← h]
  | m + 1, s, ks, h => by
    by_cases hb : (numS 1 s).2.2 = 0 ∧ (numS 1 s).1 > 1
    · rw [keepX_bad hb] at h; cases h
    · rw [keepX_go hb] at h
      obtain ⟨k, hk, rfl⟩ := Option.map_eq_some_iff.1 h
      simp [keepX_len m _ k hk]

theorem keepX_err : ∀ (m : Nat) (s : RS), s.2 ≠ 0 → ∃ ks, keepX m s = (some ks, s)
  | 0, s, _ => ⟨[], rfl⟩
  | m + 1, s, h => by
    have e := numS_err (w := 1) h
    have hb : ¬ ((numS 1 s).2.2 = 0 ∧ (numS 1 s).1 > 1) := by rw [e]; simp
    obtain ⟨ks, hk⟩ := keepX_err m s h
    rw [keepX_go hb, e]
    exact ⟨_, by rw [hk]; rfl⟩

theorem numS_bad {s : RS} (h : (numS 1 s).1 > 1) : (numS 1 s).2.2 = 0 := by
  unfold numS at h ⊢
  split at h
  · simp at h
  · split at h
    · simp at h
    · rename_i h1 h2; simp [h1, h2]

theorem keepX_S : ∀ (m : Nat) (s : RS), (keepS m s false).2.2 = true → (keepX m s).1 = none
  | 0, s, h => by simp [keepS] at h
  | m + 1, s, h => by
    by_cases he : s.2 = 0
    · rw [keepS_go he] at h
      by_cases hb : (numS 1 s).1 > 1
      · rw [keepX_bad ⟨numS_bad hb, hb⟩]
      · rw [keepX_go (fun q => hb q.2)]
        rw [decide_eq_false hb] at h
        simp [keepX_S m _ h]
    · rw [keepS_stop (by simp [he])] at h; cases h

theorem keepX_0 : ∀ (m : Nat) (s : RS), (keepS m s false).2.2 = false → (keepS m s false).2.1.2 = 0 → keepX m s = (some (keepS m s false).1, (keepS m s false).2.1)
  | 0, s, h, h0 => by simp [keepS, keepX]
  | m + 1, s, h, h0 => by
    by_cases he : s.2 = 0
    · rw [keepS_go he] at h h0 ⊢
      by_cases hb : (numS 1 s).1 > 1
      · rw [decide_eq_true hb, keepS_stop (by simp)] at h; cases h
      · rw [decide_eq_false hb] at h h0 ⊢
        rw [keepX_go (fun q => hb q.2), keepX_0 m _ h h0]
        rfl
    · rw [keepS_stop (by simp [he])] at h0; exact absurd h0 he

theorem keepX_e : ∀ (m : Nat) (s : RS), (keepS m s false).2.2 = false → (keepS m s false).2.1.2 ≠ 0 → ∃ ks r, keepX m s = (some ks, r) ∧ r.2 ≠ 0
  | 0, s, h, h0 => ⟨[], s, rfl, by simpa [keepS] using h0⟩
  | m + 1, s, h, h0 => by
    by_cases he : s.2 = 0
    · rw [keepS_go he] at h h0
      by_cases hb : (numS 1 s).1 > 1
      · rw [decide_eq_true hb, keepS_stop (by simp)] at h; cases h
      · rw [decide_eq_false hb] at h h0
        obtain ⟨ks, r, hk, hr⟩ := keepX_e m _ h h0
        rw [keepX_go (fun q => hb q.2), hk]
        exact ⟨_, _, rfl, hr⟩
    · obtain ⟨ks, hk⟩ := keepX_err (m + 1) s he
      exact ⟨ks, s, hk, he⟩

theorem numS_wrap {w : Nat} {s : RS} (hw : w = 1 ∨ w = 2) : IntKind.wrap .i64 (numS w s).1 = (numS w s).1 := by
  have : 0 ≤ (numS w s).1 ∧ (numS w s).1 < 65536 := by
    unfold numS
    split
    · simp
    · split
      · simp
      · rename_i h1 h2
        have := val_small2 (l := s.1.take w) (by simp; omega)
        simp only
        omega
  exact IntWalk.i64_in _ (by omega)

theorem out26a_inj {k : LK} {xs : Row} : ∀ x y, out26a k xs x = out26a k xs y → x = y := by
  rintro ⟨x1, x2, x3, x4, x5, x6, x7, x8⟩ ⟨y1, y2, y3, y4, y5, y6, y7, y8⟩ h
  simp [out26a, rd0, stp26] at h
  simp [h]
theorem out26b_inj {k : LK} {xs : Row} : ∀ x y, out26b k xs x = out26b k xs y → x = y := by
  rintro ⟨x1, x2, x3, x4, x5, x6, x7, x8, x9⟩ ⟨y1, y2, y3, y4, y5, y6, y7, y8, y9⟩ h
  simp [out26b, rd0, stp26] at h
  simp [h]
theorem out26c_inj {k : LK} {xs : Row} : ∀ x y, out26c k xs x = out26c k xs y → x = y := by
  rintro ⟨x1, x2, x3⟩ ⟨y1, y2, y3⟩ h
  simp [out26c, rd0] at h
  obtain ⟨rfl, rfl, rfl⟩ := h
  rfl

attribute [local irreducible] fnS loS R50 R51

/-- what the loop comes to -/
def End26 (k : LK) (L : List UInt8) (kd nd at' nn : Int) (s : ByteArray) (p : Int) (keep : List Bool) (st : St) (o : Option (List Bool) × RS) : Prop :=
  (∀ ks, o.1 = some ks → LoopTo TT tG.runs (HSg 26) lp26 st (out26b k (bRow L) (kd, nd, at', nn, s, p, tRow (keep ++ ks), posI L o.2, o.2.2))) ∧
  (o.1 = none → ∃ x, LoopTo TT tG.runs (HSg 26) lp26 st (out26c k (bRow L) x))

theorem loop26b {k : LK} {L : List UInt8} {kd nd at' nn : Int} {s : ByteArray} {p : Int} {n : Nat} (hn : n ≤ 300) (hl : L.length ≤ 140737488355328) : ∀ (m i : Nat) (keep : List Bool) (r : RS), r.1 <:+ L → i + m = n → keep.length + m ≤ 300 →
    End26 k L kd nd at' nn s p keep (inv26b k (bRow L) kd nd at' nn s p (tRow keep) n i (posI L r) r.2) (keepX m r)
  | 0, i, keep, r, hr, hi, hk => by
    have : (rk26b k (bRow L) kd nd at' nn s p (tRow keep) n i (posI L r) r.2).run = some (out26b k (bRow L) (kd, nd, at', nn, s, p, tRow keep, posI L r, r.2)) := by
      rw [← Tr.ev_run, rk26b_eq]
      exact aF (by first | with_reducible rfl | with_reducible assumption | (simp only [Bool.and_eq_true, Bool.and_eq_false_iff, Bool.or_eq_true, Bool.true_and, Bool.and_true, decide_eq_true_eq, decide_eq_false_iff_not, Bool.not_eq_true', Bool.not_eq_false', beq_iff_eq, beq_eq_false_iff_ne, bne_iff_ne, bne_eq_false_iff_eq, ne_eq, fits_iff, whole_iff, List.length_append, List.length_map, List.length_cons, List.length_nil, List.length_take, List.length_drop, bRow_length, tRow_length, List.nil_append, Nat.zero_add, Nat.add_zero, Int.toNat_natCast, and_self, and_true, true_and, true_or, or_true, false_or, or_false, not_true_eq_false, not_false_eq_true] <;> omega)) rfl
    refine ⟨fun ks h => ?_, fun h => (by cases h)⟩
    simp only [keepX, Option.some.injEq] at h
    subst h
    simp only [keepX, List.append_nil]
    exact LoopTo.last (orc := tG) (lo := noLo) (fun _ _ _ _ h => h) (LoOk2.no _) this (by simp [out26b])
  | m + 1, i, keep, r, hr, hi, hk => by
    have e50 := fnS_eq (out := out50 _ _) out50_inj (c50 (k := k) (w := 1) hr hl (.inl rfl))
    have hw : IntKind.wrap .i64 ((i : Int) + 1) = ((i + 1 : Nat) : Int) := by rw [IntWalk.i64_in _ (by omega)]; rfl
    by_cases hb : (numS 1 r).2.2 = 0 ∧ (numS 1 r).1 > 1
    · rw [keepX_bad hb]
      refine ⟨fun ks h => (by cases h), fun _ => ⟨_, LoopTo.last (orc := tG) (lo := noLo) (fun _ _ _ _ h => h) (LoOk2.no _) (show (rk26b k (bRow L) kd nd at' nn s p (tRow keep) n i (posI L r) r.2).run = some (out26c k (bRow L) ([stp26 kd nd at' nn s p (.sh false 2 1 0 (tRow keep).length), some (.row .excl 1 (tRow keep))], posI L (numS 1 r).2, (numS 1 r).2.2)) from ?_) (by simp [out26c])⟩⟩
      rw [← Tr.ev_run, rk26b_eq]
      exact aT (by first | with_reducible rfl | with_reducible assumption | (simp only [Bool.and_eq_true, Bool.and_eq_false_iff, Bool.or_eq_true, Bool.true_and, Bool.and_true, decide_eq_true_eq, decide_eq_false_iff_not, Bool.not_eq_true', Bool.not_eq_false', beq_iff_eq, beq_eq_false_iff_ne, bne_iff_ne, bne_eq_false_iff_eq, ne_eq, fits_iff, whole_iff, List.length_append, List.length_map, List.length_cons, List.length_nil, List.length_take, List.length_drop, bRow_length, tRow_length, List.nil_append, Nat.zero_add, Nat.add_zero, Int.toNat_natCast, and_self, and_true, true_and, true_or, or_true, false_or, or_false, not_true_eq_false, not_false_eq_true] <;> omega)) (gStep e50 (aT (by simpa using hb.1) (aT (by simpa using hb.2) rfl)))
    · have h3 := loop26b (k := k) (kd := kd) (nd := nd) (at' := at') (nn := nn) (s := s) (p := p) hn hl m (i + 1) (keep ++ [(numS 1 r).1 == 1]) (numS 1 r).2 (suf_num hr) (by omega) (by simp; omega)
      have : (rk26b k (bRow L) kd nd at' nn s p (tRow keep) n i (posI L r) r.2).run = some (.norm, inv26b k (bRow L) kd nd at' nn s p (tRow (keep ++ [(numS 1 r).1 == 1])) n ((i + 1 : Nat) : Int) (posI L (numS 1 r).2) (numS 1 r).2.2) := by
        rw [← Tr.ev_run, rk26b_eq]
        refine aT (by first | with_reducible rfl | with_reducible assumption | (simp only [Bool.and_eq_true, Bool.and_eq_false_iff, Bool.or_eq_true, Bool.true_and, Bool.and_true, decide_eq_true_eq, decide_eq_false_iff_not, Bool.not_eq_true', Bool.not_eq_false', beq_iff_eq, beq_eq_false_iff_ne, bne_iff_ne, bne_eq_false_iff_eq, ne_eq, fits_iff, whole_iff, List.length_append, List.length_map, List.length_cons, List.length_nil, List.length_take, List.length_drop, bRow_length, tRow_length, List.nil_append, Nat.zero_add, Nat.add_zero, Int.toNat_natCast, and_self, and_true, true_and, true_or, or_true, false_or, or_false, not_true_eq_false, not_false_eq_true] <;> omega)) (gStep e50 ?_)
        by_cases h0 : (numS 1 r).2.2 = 0
        · refine aT (by simpa using h0) (aF (by simpa using fun q => hb ⟨h0, q⟩) ?_)
          simp only [tRow_length]
          refine aT (by first | with_reducible rfl | with_reducible assumption | (simp only [Bool.and_eq_true, Bool.and_eq_false_iff, Bool.or_eq_true, Bool.true_and, Bool.and_true, decide_eq_true_eq, decide_eq_false_iff_not, Bool.not_eq_true', Bool.not_eq_false', beq_iff_eq, beq_eq_false_iff_ne, bne_iff_ne, bne_eq_false_iff_eq, ne_eq, fits_iff, whole_iff, List.length_append, List.length_map, List.length_cons, List.length_nil, List.length_take, List.length_drop, bRow_length, tRow_length, List.nil_append, Nat.zero_add, Nat.add_zero, Int.toNat_natCast, and_self, and_true, true_and, true_or, or_true, false_or, or_false, not_true_eq_false, not_false_eq_true, tRow_length] <;> omega)) (aT (by first | with_reducible rfl | with_reducible assumption | (simp only [Bool.and_eq_true, Bool.and_eq_false_iff, Bool.or_eq_true, Bool.true_and, Bool.and_true, decide_eq_true_eq, decide_eq_false_iff_not, Bool.not_eq_true', Bool.not_eq_false', beq_iff_eq, beq_eq_false_iff_ne, bne_iff_ne, bne_eq_false_iff_eq, ne_eq, fits_iff, whole_iff, List.length_append, List.length_map, List.length_cons, List.length_nil, List.length_take, List.length_drop, bRow_length, tRow_length, List.nil_append, Nat.zero_add, Nat.add_zero, Int.toNat_natCast, and_self, and_true, true_and, true_or, or_true, false_or, or_false, not_true_eq_false, not_false_eq_true, tRow_length] <;> omega)) ?_)
          rw [hw]
          simp only [inv26b, tRow_length, tRow_append, List.length_append, List.length_cons, List.length_nil, Nat.zero_add]
          rfl
        · refine aF (by simpa using h0) ?_
          simp only [tRow_length]
          refine aT (by first | with_reducible rfl | with_reducible assumption | (simp only [Bool.and_eq_true, Bool.and_eq_false_iff, Bool.or_eq_true, Bool.true_and, Bool.and_true, decide_eq_true_eq, decide_eq_false_iff_not, Bool.not_eq_true', Bool.not_eq_false', beq_iff_eq, beq_eq_false_iff_ne, bne_iff_ne, bne_eq_false_iff_eq, ne_eq, fits_iff, whole_iff, List.length_append, List.length_map, List.length_cons, List.length_nil, List.length_take, List.length_drop, bRow_length, tRow_length, List.nil_append, Nat.zero_add, Nat.add_zero, Int.toNat_natCast, and_self, and_true, true_and, true_or, or_true, false_or, or_false, not_true_eq_false, not_false_eq_true, tRow_length] <;> omega)) (aT (by first | with_reducible rfl | with_reducible assumption | (simp only [Bool.and_eq_true, Bool.and_eq_false_iff, Bool.or_eq_true, Bool.true_and, Bool.and_true, decide_eq_true_eq, decide_eq_false_iff_not, Bool.not_eq_true', Bool.not_eq_false', beq_iff_eq, beq_eq_false_iff_ne, bne_iff_ne, bne_eq_false_iff_eq, ne_eq, fits_iff, whole_iff, List.length_append, List.length_map, List.length_cons, List.length_nil, List.length_take, List.length_drop, bRow_length, tRow_length, List.nil_append, Nat.zero_add, Nat.add_zero, Int.toNat_natCast, and_self, and_true, true_and, true_or, or_true, false_or, or_false, not_true_eq_false, not_false_eq_true, tRow_length] <;> omega)) ?_)
          rw [hw]
          simp only [inv26b, tRow_length, tRow_append, List.length_append, List.length_cons, List.length_nil, Nat.zero_add]
          rfl
      rw [keepX_go hb]
      refine ⟨fun ks h => ?_, fun h => ?_⟩
      · obtain ⟨k1, hk1, rfl⟩ := Option.map_eq_some_iff.1 h
        have := LoopTo.more (orc := tG) (lo := noLo) (fun _ _ _ _ h => h) (LoOk2.no _) this (h3.1 k1 hk1)
        simpa only [List.append_assoc, List.cons_append, List.nil_append] using this
      · have h4 : (keepX m (numS 1 r).2).1 = none := by simpa using h
        obtain ⟨x, hx⟩ := h3.2 h4
        exact ⟨x, LoopTo.more (orc := tG) (lo := noLo) (fun _ _ _ _ h => h) (LoOk2.no _) this hx⟩

theorem loop26a {k : LK} {L : List UInt8} {kd nd at' nn : Int} {s : ByteArray} {p : Int} {m : Nat} (hn : m + 1 ≤ 300) (hl : L.length ≤ 140737488355328) {r : RS} (hr : r.1 <:+ L) :
    End26 k L kd nd at' nn s p [] (inv26a k (bRow L) kd nd at' nn s p ((m + 1 : Nat) : Int) 0 (posI L r) r.2) (keepX (m + 1) r) := by
  have e50 := fnS_eq (out := out50 _ _) out50_inj (c50 (k := k) (w := 1) hr hl (.inl rfl))
  by_cases hb : (numS 1 r).2.2 = 0 ∧ (numS 1 r).1 > 1
  · rw [keepX_bad hb]
    refine ⟨fun ks h => (by cases h), fun _ => ⟨_, LoopTo.last (orc := tG) (lo := noLo) (fun _ _ _ _ h => h) (LoOk2.no _) (show (rk26a k (bRow L) kd nd at' nn s p ((m + 1 : Nat) : Int) 0 (posI L r) r.2).run = some (out26c k (bRow L) ([stp26 kd nd at' nn s p (.dat (.list .nil 0 []))], posI L (numS 1 r).2, (numS 1 r).2.2)) from ?_) (by simp [out26c])⟩⟩
    rw [← Tr.ev_run, rk26a_eq]
    exact aT (by first | with_reducible rfl | with_reducible assumption | (simp only [Bool.and_eq_true, Bool.and_eq_false_iff, Bool.or_eq_true, Bool.true_and, Bool.and_true, decide_eq_true_eq, decide_eq_false_iff_not, Bool.not_eq_true', Bool.not_eq_false', beq_iff_eq, beq_eq_false_iff_ne, bne_iff_ne, bne_eq_false_iff_eq, ne_eq, fits_iff, whole_iff, List.length_append, List.length_map, List.length_cons, List.length_nil, List.length_take, List.length_drop, bRow_length, tRow_length, List.nil_append, Nat.zero_add, Nat.add_zero, Int.toNat_natCast, and_self, and_true, true_and, true_or, or_true, false_or, or_false, not_true_eq_false, not_false_eq_true] <;> omega)) (gStep e50 (aT (by simpa using hb.1) (aT (by simpa using hb.2) rfl)))
  · have h3 := loop26b (k := k) (kd := kd) (nd := nd) (at' := at') (nn := nn) (s := s) (p := p) hn hl m 1 [(numS 1 r).1 == 1] (numS 1 r).2 (suf_num hr) (by omega) (by simp; omega)
    have : (rk26a k (bRow L) kd nd at' nn s p ((m + 1 : Nat) : Int) 0 (posI L r) r.2).run = some (.norm, inv26b k (bRow L) kd nd at' nn s p (tRow [(numS 1 r).1 == 1]) ((m + 1 : Nat) : Int) ((1 : Nat) : Int) (posI L (numS 1 r).2) (numS 1 r).2.2) := by
      rw [← Tr.ev_run, rk26a_eq]
      refine aT (by first | with_reducible rfl | with_reducible assumption | (simp only [Bool.and_eq_true, Bool.and_eq_false_iff, Bool.or_eq_true, Bool.true_and, Bool.and_true, decide_eq_true_eq, decide_eq_false_iff_not, Bool.not_eq_true', Bool.not_eq_false', beq_iff_eq, beq_eq_false_iff_ne, bne_iff_ne, bne_eq_false_iff_eq, ne_eq, fits_iff, whole_iff, List.length_append, List.length_map, List.length_cons, List.length_nil, List.length_take, List.length_drop, bRow_length, tRow_length, List.nil_append, Nat.zero_add, Nat.add_zero, Int.toNat_natCast, and_self, and_true, true_and, true_or, or_true, false_or, or_false, not_true_eq_false, not_false_eq_true] <;> omega)) (gStep e50 ?_)
      by_cases h0 : (numS 1 r).2.2 = 0
      · exact aT (by simpa using h0) (aF (by simpa using fun q => hb ⟨h0, q⟩) rfl)
      · exact aF (by simpa using h0) rfl
    rw [keepX_go hb]
    refine ⟨fun ks h => ?_, fun h => ?_⟩
    · obtain ⟨k1, hk1, rfl⟩ := Option.map_eq_some_iff.1 h
      exact LoopTo.more (orc := tG) (lo := noLo) (fun _ _ _ _ h => h) (LoOk2.no _) this (h3.1 k1 hk1)
    · have h4 : (keepX m (numS 1 r).2).1 = none := by simpa using h
      obtain ⟨x, hx⟩ := h3.2 h4
      exact ⟨x, LoopTo.more (orc := tG) (lo := noLo) (fun _ _ _ _ h => h) (LoOk2.no _) this hx⟩

theorem loop26z {k : LK} {L : List UInt8} {kd nd at' nn : Int} {s : ByteArray} {p : Int} {r : RS} :
    LoopTo TT tG.runs (HSg 26) lp26 (inv26a k (bRow L) kd nd at' nn s p 0 0 (posI L r) r.2) (out26a k (bRow L) (kd, nd, at', nn, s, p, posI L r, r.2)) := by
  have : (rk26a k (bRow L) kd nd at' nn s p 0 0 (posI L r) r.2).run = some (out26a k (bRow L) (kd, nd, at', nn, s, p, posI L r, r.2)) := by
    rw [← Tr.ev_run, rk26a_eq]
    exact aF rfl rfl
  exact LoopTo.last (orc := tG) (lo := noLo) (fun _ _ _ _ h => h) (LoOk2.no _) this (by simp [out26a])

end Go.Eng
end

/- The document's Get: the step that bytes begin with. -/
section
namespace Go.Eng
open Go
set_option maxRecDepth 100000
set_option linter.unusedSimpArgs false

noncomputable def R26 (a : List AV) (G : List Ent) : Option (AV × List Ent) := (tfnR TT tG lo26 (HSg 26 3000000) Go.Proofs.Try.f26 a G).run

attribute [local irreducible] fnS loS R50 R51

def err26 (e : Int) (G : List Ent) : AV × List Ent := (.tup [.agg [.dat (.int .i64 0), .dat (.int .i64 0), .dat (.int .i64 0), .dat (.int .i64 0), .dat (.str ⟨#[]⟩), .dat (.int .i64 0), .dat (.list .nil 0 [])], .dat (.int .i64 0), .dat (.int .i64 e)], G)
def yes26 (kd nd at' nn : Int) (s : ByteArray) (p : Int) (d : D) (at0 : Int) (G : List Ent) : AV × List Ent := (.tup [.agg [.dat (.int .i64 kd), .dat (.int .i64 nd), .dat (.int .i64 at'), .dat (.int .i64 nn), .dat (.str s), .dat (.int .i64 p), .dat d], .dat (.int .i64 at0), .dat (.int .i64 0)], G)

/-- behind the loop -/
noncomputable def tail26 (k : LK) (xs : Row) (S : St) : Option (AV × List Ent) :=
  rAsk (loS TT tG.runs (HSg 26) lp26 (out26a k xs) S).isSome
    (rGet (loS TT tG.runs (HSg 26) lp26 (out26a k xs) S) fun x =>
      rAsk (x.2.2.2.2.2.2.2 != 0) (some (err26 7 [rd0 k xs x.2.2.2.2.2.2.1 x.2.2.2.2.2.2.2])) (some (yes26 x.1 x.2.1 x.2.2.1 x.2.2.2.1 x.2.2.2.2.1 x.2.2.2.2.2.1 (.list .nil 0 []) x.2.2.2.2.2.2.1 [rd0 k xs x.2.2.2.2.2.2.1 x.2.2.2.2.2.2.2])))
    (rAsk (loS TT tG.runs (HSg 26) lp26 (out26b k xs) S).isSome
      (rGet (loS TT tG.runs (HSg 26) lp26 (out26b k xs) S) fun x =>
        rAsk (x.2.2.2.2.2.2.2.2 != 0) (some (err26 7 [rd0 k xs x.2.2.2.2.2.2.2.1 x.2.2.2.2.2.2.2.2])) (some (yes26 x.1 x.2.1 x.2.2.1 x.2.2.2.1 x.2.2.2.2.1 x.2.2.2.2.2.1 (.list .any 1 (List.take (List.length x.2.2.2.2.2.2.1) (List.drop 0 x.2.2.2.2.2.2.1))) x.2.2.2.2.2.2.2.1 [rd0 k xs x.2.2.2.2.2.2.2.1 x.2.2.2.2.2.2.2.2])))
      (rGet (loS TT tG.runs (HSg 26) lp26 (out26c k xs) S) fun x => some (err26 6 [rd0 k xs x.2.1 x.2.2])))

theorem res26_err {l : List UInt8} {e : Int} {G : List Ent} (h : getS l = (Stp.zero, 0, e)) : res23 l (some (err26 e G)) := by
  refine ⟨.list .nil 0 [], G, ?_, ?_⟩ <;> rw [h]
  · exact .inl ⟨rfl, rfl⟩
  · rfl

theorem tail26_ok {k : LK} {L : List UInt8} (hl : L.length ≤ 140737488355328) {r : Rs} (hrs : readS L = r) (hsuf : r.m.2.1 <:+ L) (hm : ∃ m : Nat, r.m.1 = m ∧ m ≤ 255) (hf : ¬ r.f.1 > 1) {s : ByteArray} (hs : s = ⟨(r.b.1.getD []).toArray⟩) :
    res23 L (tail26 k (bRow L) (inv26a k (bRow L) r.k.1 r.nd.1 r.at'.1 r.n.1 s r.p.1 r.m.1 0 (posI L r.m.2) r.m.2.2)) := by
  obtain ⟨m, hm, hm2⟩ := hm
  have hq := getS_of hrs
  have hk : keepR r = keepS m r.m.2 false := by unfold keepR; rw [hm, decide_eq_false hf]; rfl
  rw [hk] at hq
  unfold tail26
  cases m with
  | zero =>
    have hlp := loop26z (k := k) (L := L) (kd := r.k.1) (nd := r.nd.1) (at' := r.at'.1) (nn := r.n.1) (s := s) (p := r.p.1) (r := r.m.2)
    rw [hm]
    refine aTP (res23 L) (loS_yes (o1 := out26a _ _) out26a_inj hlp) (gP (res23 L) (loS_eq (out := out26a _ _) out26a_inj hlp) ?_)
    simp only [keepS] at hq
    by_cases he : r.m.2.2 = 0
    · refine aFP (res23 L) (by simpa using he) ?_
      have hq2 : getS L = (⟨r.k.1, r.nd.1, r.at'.1, r.n.1, s, r.p.1, []⟩, posI L r.m.2, 0) := by
        rw [hq, hs]
        have : r.m.2 = (r.m.2.1, 0) := by rw [← he]
        rw [this, getT_ok]
        rfl
      exact res23_of hq2 (.inl ⟨rfl, rfl⟩)
    · refine aTP (res23 L) (by simpa using he) (res26_err ?_)
      have : r.m.2 = (r.m.2.1, r.m.2.2) := rfl
      rw [hq, this, getT_err he]
  | succ m =>
    have hlp := loop26a (k := k) (L := L) (kd := r.k.1) (nd := r.nd.1) (at' := r.at'.1) (nn := r.n.1) (s := s) (p := r.p.1) (m := m) (by omega) hl (r := r.m.2) hsuf
    rw [← hm] at hlp
    cases hwr : (keepS (m + 1) r.m.2 false).2.2 with
    | true =>
      obtain ⟨x, hx⟩ := hlp.2 (keepX_S _ _ hwr)
      refine aFP (res23 L) (loS_no hx (fun x h => by simp [out26a, out26c] at h)) (aFP (res23 L) (loS_no hx (fun x h => by simp [out26b, out26c] at h)) (gP (res23 L) (loS_eq (out := out26c _ _) out26c_inj hx) (res26_err ?_)))
      rw [hq]
      simp [getT, hwr]
    | false =>
      by_cases he : (keepS (m + 1) r.m.2 false).2.1.2 = 0
      · have h0 := keepX_0 _ _ hwr he
        have hx := hlp.1 _ (by rw [h0])
        have hlen := keepX_len (m + 1) r.m.2 _ (by rw [h0])
        rw [h0] at hx
        refine aFP (res23 L) (loS_no hx (fun x h => by simp [out26a, out26b] at h)) (aTP (res23 L) (loS_yes (o1 := out26b _ _) out26b_inj hx) (gP (res23 L) (loS_eq (out := out26b _ _) out26b_inj hx) (aFP (res23 L) (by simpa using he) ?_)))
        generalize keepS (m + 1) r.m.2 false = q at hq hwr he hlen
        obtain ⟨ks, ⟨l9, e9⟩, wr9⟩ := q
        simp only at hwr he hlen
        subst hwr he
        have hq2 : getS L = (⟨r.k.1, r.nd.1, r.at'.1, r.n.1, s, r.p.1, ks⟩, posI L (l9, 0), 0) := by
          rw [hq, hs, getT_ok]
          rfl
        refine res23_of hq2 (.inr ⟨?_, fun h => ?_⟩)
        · simp only [List.nil_append, List.drop_zero, List.take_length]
        · simp only at h; rw [h] at hlen; simp at hlen
      · obtain ⟨ks, r9, h0, h9⟩ := keepX_e _ _ hwr he
        have hx := hlp.1 ks (by rw [h0])
        rw [h0] at hx
        refine aFP (res23 L) (loS_no hx (fun x h => by simp [out26a, out26b] at h)) (aTP (res23 L) (loS_yes (o1 := out26b _ _) out26b_inj hx) (gP (res23 L) (loS_eq (out := out26b _ _) out26b_inj hx) (aTP (res23 L) (by simpa using h9) (res26_err ?_))))
        rw [hq]
        simp [getT, hwr, he]

end Go.Eng
end

/- The document's Get: what it comes to. -/
section
namespace Go.Eng
open Go
set_option maxRecDepth 100000
set_option linter.unusedSimpArgs false

attribute [local irreducible] fnS loS R50 R51

theorem numS_le1 {s : RS} (h : ¬ ((numS 1 s).2.2 = 0 ∧ (numS 1 s).1 > 1)) : ¬ (numS 1 s).1 > 1 := fun q => h ⟨numS_bad q, q⟩

theorem numS_pos {s : RS} (h : (numS 1 s).1 = 1) : (numS 1 s).2.2 = 0 := by
  unfold numS at h ⊢
  split at h
  · simp at h
  · split at h
    · simp at h
    · rename_i h1 h2; simp [h1, h2]

set_option maxHeartbeats 4000000 in
theorem R26_run {k : LK} {l : List UInt8} (hl : l.length ≤ 140737488355328) : res23 l (R26 [.dat (.list k 1 (bRow l))] []) := by
  show res23 l ((f26t k (bRow l)).run)
  rw [← Tr.ev_run, f26t_eq]
  have s0 : ((l, 0) : RS).1 <:+ l := List.suffix_refl l
  have e1 := c50 (k := k) (s := (l, 0)) (w := 1) s0 hl (.inl rfl)
  have hp0 : posI l (l, 0) = 0 := by simp [posI]
  unfold rdE at e1
  rw [hp0] at e1
  have S1 := suf_num (w := 1) s0
  have W1 := numS_wrap (w := 1) (s := (l, 0)) (.inl rfl)
  generalize hq1 : numS 1 (l, 0) = q1 at e1 S1 W1
  refine gP (res23 l) (fnS_eq (out := out50 _ _) out50_inj e1) ?_
  have e2 := c50 (k := k) (s := q1.2) (w := 1) S1 hl (.inl rfl)
  have S2 := suf_num (w := 1) S1
  have W2 := numS_wrap (w := 1) (s := q1.2) (.inl rfl)
  generalize hq2 : numS 1 q1.2 = q2 at e2 S2 W2
  refine gP (res23 l) (fnS_eq (out := out50 _ _) out50_inj e2) ?_
  have e3 := c50 (k := k) (s := q2.2) (w := 2) S2 hl (.inr rfl)
  have S3 := suf_num (w := 2) S2
  have W3 := numS_wrap (w := 2) (s := q2.2) (.inr rfl)
  generalize hq3 : numS 2 q2.2 = q3 at e3 S3 W3
  refine gP (res23 l) (fnS_eq (out := out50 _ _) out50_inj e3) ?_
  have e4 := c50 (k := k) (s := q3.2) (w := 2) S3 hl (.inr rfl)
  have S4 := suf_num (w := 2) S3
  have W4 := numS_wrap (w := 2) (s := q3.2) (.inr rfl)
  generalize hq4 : numS 2 q3.2 = q4 at e4 S4 W4
  refine gP (res23 l) (fnS_eq (out := out50 _ _) out50_inj e4) ?_
  have e5 := c50 (k := k) (s := q4.2) (w := 2) S4 hl (.inr rfl)
  have S5 := suf_num (w := 2) S4
  have W5 := numS_wrap (w := 2) (s := q4.2) (.inr rfl)
  generalize hq5 : numS 2 q4.2 = q5 at e5 S5 W5
  refine gP (res23 l) (fnS_eq (out := out50 _ _) out50_inj e5) ?_
  have e6 := c50 (k := k) (s := q5.2) (w := 1) S5 hl (.inl rfl)
  have S6 := suf_num (w := 1) S5
  have B6 := numS_bad (s := q5.2)
  have P6 := numS_pos (s := q5.2)
  generalize hq6 : numS 1 q5.2 = q6 at e6 S6 B6 P6
  refine gP (res23 l) (fnS_eq (out := out50 _ _) out50_inj e6) ?_
  simp only [W1, W2, W3, W4, W5]
  -- behind the number of truths
  have nodata : q6.1 ≠ 1 → ¬ q6.1 > 1 → ∀ X : Int × Int × Int → Option (AV × List Ent),
      (∀ q7 : Int × RS, q7 = numS 1 q6.2 → X (q7.1, posI l q7.2, q7.2.2) = tail26 k (bRow l) (inv26a k (bRow l) q1.1 q2.1 q3.1 q4.1 ⟨#[]⟩ q5.1 q7.1 0 (posI l q7.2) q7.2.2)) →
      res23 l (rGet (fnS (out50 k (bRow l)) (R50 [.ptr (.glob 0) 0, .dat (.int .i64 1)] [rdE k l q6.2])) X) := by
    intro h1 h2 X hX
    have e7 := c50 (k := k) (s := q6.2) (w := 1) S6 hl (.inl rfl)
    have S7 := suf_num (w := 1) S6
    refine gP (res23 l) (fnS_eq (out := out50 _ _) out50_inj e7) ?_
    rw [hX _ rfl]
    exact tail26_ok hl (r := ⟨q1, q2, q3, q4, q5, q6, (none, q6.2), numS 1 q6.2⟩) (by simp only [readS, hq1, hq2, hq3, hq4, hq5, hq6, if_neg h1]) S7 (numS_nat _) h2 rfl
  by_cases c0 : q6.2.2 = 0
  · refine aTP (res23 l) (by simpa using c0) ?_
    by_cases c1 : q6.1 > 1
    · refine aTP (res23 l) (by simpa using c1) (res26_err ?_)
      have hrs : ∃ m, readS l = ⟨q1, q2, q3, q4, q5, q6, (none, q6.2), m⟩ := ⟨_, by simp only [readS, hq1, hq2, hq3, hq4, hq5, hq6, if_neg (show ¬ q6.1 = 1 by omega)]; rfl⟩
      obtain ⟨m, hrs⟩ := hrs
      rw [getS_of hrs]
      have : keepR ⟨q1, q2, q3, q4, q5, q6, (none, q6.2), m⟩ = ([], m.2, true) := by
        unfold keepR
        simp only [decide_eq_true c1]
        exact keepS_stop (by simp)
      rw [this]
      rfl
    · refine aFP (res23 l) (by simpa using c1) ?_
      by_cases c2 : q6.1 = 1
      · refine aTP (res23 l) (by simpa using c2) ?_
        obtain ⟨k', e7⟩ := c51 (k := k) (s := q6.2) S6 hl
        have S7 := suf_bytes S6
        generalize hqb : bytesS q6.2 = qb at e7 S7
        obtain ⟨ob, sb⟩ := qb
        cases ob with
        | some b =>
          simp only at e7
          refine aTP (res23 l) (fnS_yes (o1 := out51y _ _) out51y_inj e7) (gP (res23 l) (fnS_eq (out := out51y _ _) out51y_inj e7) (gP (res23 l) (x := b) (rowBytes_bRow b) ?_))
          have e8 := c50 (k := k) (s := sb) (w := 1) S7 hl (.inl rfl)
          have S8 := suf_num (w := 1) S7
          have W8 := numS_wrap (w := 1) (s := sb) (.inl rfl)
          refine gP (res23 l) (fnS_eq (out := out50 _ _) out50_inj e8) ?_
          simp only [W8]
          exact tail26_ok hl (r := ⟨q1, q2, q3, q4, q5, q6, (some b, sb), numS 1 sb⟩) (by simp only [readS, hq1, hq2, hq3, hq4, hq5, hq6, if_pos c2, hqb]) S8 (numS_nat _) c1 rfl
        | none =>
          simp only at e7
          refine aFP (res23 l) (fnS_no e7 (fun x h => by simp [out51y, out51n] at h)) (gP (res23 l) (fnS_eq (out := out51n _ _) out51n_inj e7) ?_)
          have e8 := c50 (k := k) (s := sb) (w := 1) S7 hl (.inl rfl)
          have S8 := suf_num (w := 1) S7
          have W8 := numS_wrap (w := 1) (s := sb) (.inl rfl)
          refine gP (res23 l) (fnS_eq (out := out50 _ _) out50_inj e8) ?_
          simp only [W8]
          exact tail26_ok hl (r := ⟨q1, q2, q3, q4, q5, q6, (none, sb), numS 1 sb⟩) (by simp only [readS, hq1, hq2, hq3, hq4, hq5, hq6, if_pos c2, hqb]) S8 (numS_nat _) c1 rfl
      · refine aFP (res23 l) (by simpa using c2) (nodata c2 c1 _ fun q7 h7 => ?_)
        have W8 := numS_wrap (w := 1) (s := q6.2) (.inl rfl)
        rw [← h7] at W8
        simp only [W8]
        rfl
  · refine aFP (res23 l) (by simpa using c0) ?_
    have c2 : q6.1 ≠ 1 := fun h => c0 (P6 h)
    have c1 : ¬ q6.1 > 1 := fun h => c0 (B6 h)
    refine aFP (res23 l) (by simpa using c2) (nodata c2 c1 _ fun q7 h7 => ?_)
    have W8 := numS_wrap (w := 1) (s := q6.2) (.inl rfl)
    rw [← h7] at W8
    simp only [W8]
    rfl

end Go.Eng
end

/- All, Steps and the document's Read, as trees. -/
section
namespace Go.Eng
open Go

noncomputable def P26 := pureS R26
noncomputable def lp28 : Code := lpOf (codeOf Go.Proofs.Try.f28) 0
noncomputable def lp29 : Code := lpOf (codeOf Go.Proofs.Try.f29) 0
noncomputable def lp30 : Code := lpOf (codeOf Go.Proofs.Try.f30) 0
noncomputable def lp31 : Code := lpOf (codeOf Go.Proofs.Try.f31) 0
noncomputable def t30 : TOrc := tCons 19 (fun a G => tspec2 (o19y G) (o19n G) (P19 a G)) tNone
noncomputable def t31 : TOrc := tCons 20 (fun a G => tspec2 (o20y G) (o20n G) (P20 a G)) tNone
noncomputable def t29 : TOrc := tCons 22 (fun a G => tspec (oB G) (P22 a G)) tNone
noncomputable def t28 : TOrc := tCons 26 (fun a G => tspec (o23 G) (P26 a G)) tNone

def inv29 (sz : Nat) (k : LK) (xs : Row) (sz' : Nat) (k' : LK) (ys : Row) (G : List Ent) (i : Int) : St := ⟨mkT 0 27 [(0, .dat (.list k sz xs)), (1, .dat (.list k' sz' ys)), (5, .dat (.int .i64 i))], ⟨[], G, 0⟩⟩
noncomputable def rk29 (sz : Nat) (k : LK) (xs : Row) (sz' : Nat) (k' : LK) (ys : Row) (G : List Ent) (i : Int) : Tr (Ex × St) := tround TT t29 noLo (HSg 29) lp29 (inv29 sz k xs sz' k' ys G i)
def inv30a (sz : Nat) (k : LK) (xs : Row) (G : List Ent) (i : Int) : St := ⟨mkT 0 31 [(4, .dat (.list .nil 0 [])), (12, .dat (.list k sz xs)), (13, .dat (.int .i64 xs.length)), (14, .dat (.int .i64 i))], ⟨[], G, 0⟩⟩
noncomputable def rk30a (sz : Nat) (k : LK) (xs : Row) (G : List Ent) (i : Int) : Tr (Ex × St) := tround TT t30 noLo (HSg 30) lp30 (inv30a sz k xs G i)
def inv30b (sz : Nat) (k : LK) (xs : Row) (bs : Row) (G : List Ent) (i : Int) : St := ⟨mkT 0 31 [(4, .sh false 0 1 0 bs.length), (12, .dat (.list k sz xs)), (13, .dat (.int .i64 xs.length)), (14, .dat (.int .i64 i))], ⟨[some (.row .excl 1 bs)], G, 0⟩⟩
noncomputable def rk30b (sz : Nat) (k : LK) (xs : Row) (bs : Row) (G : List Ent) (i : Int) : Tr (Ex × St) := tround TT t30 noLo (HSg 30) lp30 (inv30b sz k xs bs G i)
def inv31 (k : LK) (xs : Row) (s : ByteArray) (G : List Ent) (i : Int) : St := ⟨mkT 0 32 [(0, .dat (.list k 7 xs)), (4, .dat (.str s)), (5, .dat (.int .i64 i))], ⟨[], G, 0⟩⟩
noncomputable def rk31 (k : LK) (xs : Row) (s : ByteArray) (G : List Ent) (i : Int) : Tr (Ex × St) := tround TT t31 noLo (HSg 31) lp31 (inv31 k xs s G i)
def inv28a (k : LK) (xs : Row) (G : List Ent) (i : Int) : St := ⟨mkT 0 35 [(0, .dat (.list k 1 xs)), (4, .dat (.list .nil 0 [])), (5, .dat (.int .i64 i))], ⟨[], G, 0⟩⟩
noncomputable def rk28a (k : LK) (xs : Row) (G : List Ent) (i : Int) : Tr (Ex × St) := tround TT t28 noLo (HSg 28) lp28 (inv28a k xs G i)
def inv28b (k : LK) (xs : Row) (ys : Row) (G : List Ent) (i : Int) : St := ⟨mkT 0 35 [(0, .dat (.list k 1 xs)), (4, .sh false 0 7 0 ys.length), (5, .dat (.int .i64 i))], ⟨[some (.row .excl 7 ys)], G, 0⟩⟩
noncomputable def rk28b (k : LK) (xs : Row) (ys : Row) (G : List Ent) (i : Int) : Tr (Ex × St) := tround TT t28 noLo (HSg 28) lp28 (inv28b k xs ys G i)

def out29 (G : List Ent) (b : Bool) : Ex × St := match b with
  | true => (.exit 0, ⟨mkT 0 27 [], ⟨[], G, 0⟩⟩)
  | false => (.ret, ⟨mkT 0 27 [(4, .dat (.bool false))], ⟨[], G, 0⟩⟩)
def out30a (G : List Ent) (_ : Unit) : Ex × St := (.exit 0, ⟨mkT 0 31 [(4, .dat (.list .nil 0 []))], ⟨[], G, 0⟩⟩)
def out30b (G : List Ent) (bs : Row) : Ex × St := (.exit 0, ⟨mkT 0 31 [(4, .sh false 0 1 0 bs.length)], ⟨[some (.row .excl 1 bs)], G, 0⟩⟩)
def out30c (G : List Ent) (p : AV × List (Option Ent)) : Ex × St := (.ret, ⟨mkT 0 31 [(2, .dat (.list .nil 0 [])), (3, .dat (.int .i64 6)), (4, p.1)], ⟨p.2, G, 0⟩⟩)
def out31y (G : List Ent) (s : ByteArray) : Ex × St := (.exit 0, ⟨mkT 0 32 [(4, .dat (.str s))], ⟨[], G, 0⟩⟩)
def out31n (G : List Ent) (s : ByteArray) : Ex × St := (.ret, ⟨mkT 0 32 [(2, .dat (.str ⟨#[]⟩)), (3, .dat (.int .i64 6)), (4, .dat (.str s))], ⟨[], G, 0⟩⟩)
def out28a (G : List Ent) (_ : Unit) : Ex × St := (.exit 0, ⟨mkT 0 35 [(4, .dat (.list .nil 0 []))], ⟨[], G, 0⟩⟩)
def out28b (G : List Ent) (ys : Row) : Ex × St := (.exit 0, ⟨mkT 0 35 [(4, .sh false 0 7 0 ys.length)], ⟨[some (.row .excl 7 ys)], G, 0⟩⟩)
def out28c (G : List Ent) (p : Int × AV × List (Option Ent)) : Ex × St := (.ret, ⟨mkT 0 35 [(2, .dat (.list .nil 0 [])), (3, .dat (.int .i64 p.1)), (4, p.2.1)], ⟨p.2.2, G, 0⟩⟩)

noncomputable def lo29 (n : Nat) (st : St) : Tr (Ex × St) := match n with
  | 4 => tloB TT t29.runs (HSg 29) lp29 (out29 st.mem.G) st
  | _ => .fail
noncomputable def lo30 (n : Nat) (st : St) : Tr (Ex × St) := match n with
  | 5 => tlo3 TT t30.runs (HSg 30) lp30 (out30a st.mem.G) (out30b st.mem.G) (out30c st.mem.G) st
  | _ => .fail
noncomputable def lo31 (n : Nat) (st : St) : Tr (Ex × St) := match n with
  | 5 => tlo2 TT t31.runs (HSg 31) lp31 (out31y st.mem.G) (out31n st.mem.G) st
  | _ => .fail
noncomputable def lo28 (n : Nat) (st : St) : Tr (Ex × St) := match n with
  | 3 => tlo3 TT t28.runs (HSg 28) lp28 (out28a st.mem.G) (out28b st.mem.G) (out28c st.mem.G) st
  | _ => .fail
noncomputable def f29t (sz : Nat) (k : LK) (xs : Row) (sz' : Nat) (k' : LK) (ys : Row) (G : List Ent) : Tr (AV × List Ent) := tfn TT t29 lo29 Go.Proofs.Try.f29 [.dat (.list k sz xs), .dat (.list k' sz' ys)] G
noncomputable def f30t (sz : Nat) (k : LK) (xs : Row) (G : List Ent) : Tr (AV × List Ent) := tfn TT t30 lo30 Go.Proofs.Try.f30 [.dat (.list k sz xs)] G
noncomputable def f31t (k : LK) (xs : Row) (G : List Ent) : Tr (AV × List Ent) := tfn TT t31 lo31 Go.Proofs.Try.f31 [.dat (.list k 7 xs)] G
noncomputable def f28t (k : LK) (xs : Row) (G : List Ent) : Tr (AV × List Ent) := tfn TT t28 lo28 Go.Proofs.Try.f28 [.dat (.list k 1 xs)] G
noncomputable def R28 (a : List AV) (G : List Ent) : Option (AV × List Ent) := (tfn TT t28 lo28 Go.Proofs.Try.f28 a G).run
noncomputable def R29 (a : List AV) (G : List Ent) : Option (AV × List Ent) := (tfn TT t29 lo29 Go.Proofs.Try.f29 a G).run
noncomputable def R30 (a : List AV) (G : List Ent) : Option (AV × List Ent) := (tfn TT t30 lo30 Go.Proofs.Try.f30 a G).run
noncomputable def R31 (a : List AV) (G : List Ent) : Option (AV × List Ent) := (tfn TT t31 lo31 Go.Proofs.Try.f31 a G).run

/-! ### Put and Same, of steps whose truths may be nil -/
def inv19z (xs : Row) (sz : Nat) (kk : LK) (ks : Row) (G : List Ent) (i : Int) : St := ⟨mkT 0 79 [(4, .sh false 0 1 0 xs.length), (67, .dat (.list kk sz ks)), (68, jnt .i64 ks.length), (69, jnt .i64 i)], ⟨[some (.row .excl 1 xs)], G, 0⟩⟩
noncomputable def rk19z (xs : Row) (sz : Nat) (kk : LK) (ks : Row) (G : List Ent) (i : Int) : Tr (Ex × St) := tround TT tVo noLo (HSa 19) lp19b (inv19z xs sz kk ks G i)
noncomputable def f19z (k nd at' n : Int) (s : ByteArray) (p : Int) (kk : LK) (sz : Nat) (ks : Row) (G : List Ent) : Tr (AV × List Ent) :=
  tfn TT tVo lo19 Go.Proofs.Try.f19 [stpz k nd at' n s p kk sz ks] G
def inv22z (k nd at' n : Int) (s : ByteArray) (p : Int) (kk : LK) (sz : Nat) (ks : Row) (k' nd' at'' n' : Int) (s' : ByteArray) (p' : Int) (kk' : LK) (sz' : Nat) (ks' : Row) (G : List Ent) (i : Int) : St :=
  ⟨mkT 0 73 [(2, .ptr (.loc 0) 0), (3, .ptr (.loc 1) 0), (5, jnt .i64 i)], ⟨[some (.obj [jnt .i64 k, jnt .i64 nd, jnt .i64 at', jnt .i64 n, .dat (.str s), jnt .i64 p, .dat (.list kk sz ks)]), some (.obj [jnt .i64 k', jnt .i64 nd', jnt .i64 at'', jnt .i64 n', .dat (.str s'), jnt .i64 p', .dat (.list kk' sz' ks')])], G, 0⟩⟩
noncomputable def rk22z (k nd at' n : Int) (s : ByteArray) (p : Int) (kk : LK) (sz : Nat) (ks : Row) (k' nd' at'' n' : Int) (s' : ByteArray) (p' : Int) (kk' : LK) (sz' : Nat) (ks' : Row) (G : List Ent) (i : Int) : Tr (Ex × St) :=
  tround TT tNone noLo (HSa 22) lp22 (inv22z k nd at' n s p kk sz ks k' nd' at'' n' s' p' kk' sz' ks' G i)
noncomputable def f22z (k nd at' n : Int) (s : ByteArray) (p : Int) (kk : LK) (sz : Nat) (ks : Row) (k' nd' at'' n' : Int) (s' : ByteArray) (p' : Int) (kk' : LK) (sz' : Nat) (ks' : Row) (G : List Ent) : Tr (AV × List Ent) :=
  tfn TT tNone lo22 Go.Proofs.Try.f22 [stpz k nd at' n s p kk sz ks, stpz k' nd' at'' n' s' p' kk' sz' ks'] G
end Go.Eng
end

/- All, Steps and both Reads, as trees; the program's Read ranges over a function. -/
section
namespace Go.Eng
open Go

/-! ### the program's Read -/
def HSr (f : Nat) : Nat → List Nat := match f with
  | 27 => hOfS [(3000000, [10050002, 10050003, 10050004, 10050008])]
  | 58 => hOfS [(0, [0, 1])]
  | f => HSg f
def rfOf : Code → Option (Code × Code)
  | .seq a b => (rfOf a).orElse fun _ => rfOf b
  | .block _ b => rfOf b
  | .rangeFunc _ _ asg body => some (asg, body)
  | _ => none
noncomputable def asg27 : Code := ((rfOf (codeOf Go.Proofs.Try.f27)).getD (.skip, .skip)).1
noncomputable def bd27 : Code := ((rfOf (codeOf Go.Proofs.Try.f27)).getD (.skip, .skip)).2
noncomputable def lr27 (s : LS) : Ent := .lrec s (mkT 0 24 [(2, .ptr (.glob 1) 0), (3, .ptr (.glob 2) 0), (4, .ptr (.glob 3) 0), (8, .fn 58 [.ptr (.glob 0) 0])]) [9, 10] asg27 bd27
noncomputable def G27 (b : AV) (e : Int) (c4 : AV) (s : LS) : List Ent := [.obj [b], .obj [.dat (.list .nil 0 [])], .obj [.dat (.int .i64 e)], .obj [c4], lr27 s]
def stV (kd nd at' nn : Int) (s : ByteArray) (p : Int) (d : D) : AV := .agg [.dat (.int .i64 kd), .dat (.int .i64 nd), .dat (.int .i64 at'), .dat (.int .i64 nn), .dat (.str s), .dat (.int .i64 p), .dat d]
noncomputable def y27 (a : List AV) (G : List Ent) : Tr (AV × List Ent) := tyld TT tNone (fun _ => noLo) [] 4 a G
noncomputable def yn27 (b : AV) (kd nd at' nn : Int) (s : ByteArray) (p : Int) (d : D) (e : Int) : Tr (AV × List Ent) :=
  y27 [stV kd nd at' nn s p d, .dat (.int .i64 e)] (G27 b 0 (.dat (.list .nil 0 [])) .ready)
noncomputable def yr27 (b : AV) (l : Row) (kd nd at' nn : Int) (s : ByteArray) (p : Int) (d : D) (e : Int) : Tr (AV × List Ent) :=
  y27 [stV kd nd at' nn s p d, .dat (.int .i64 e)] (G27 b 0 (.rowc .excl 7 l) .ready)
noncomputable def Y27 (a : List AV) (G : List Ent) : Option (AV × List Ent) := (y27 a G).run
def boxG (G : List Ent) : AV := match G with
  | .obj (a :: _) :: _ => a
  | _ => .undef
noncomputable def oYy (G : List Ent) (l : Row) : AV × List Ent := (.dat (.bool true), G27 (boxG G) 0 (.rowc .excl 7 l) .ready)
noncomputable def oYn (G : List Ent) (p : Int × AV) : AV × List Ent := (.dat (.bool false), G27 (boxG G) p.1 p.2 (.done .ret))
noncomputable def t58 : TOrc := tCons 23 (fun a G => tspec (o23 G) (P23 a G)) (tCons (yB + 4) (fun a G => tspec2 (oYy G) (oYn G) (Y27 a G)) tNone)
noncomputable def lp58 : Code := lpOf (codeOf Go.Proofs.Try.f58) 0
noncomputable def inv58 (k : LK) (sz : Nat) (xs : Row) (c4 : AV) : St := ⟨mkT 0 27 [(0, .yld 4), (1, .ptr (.glob 0) 0)], ⟨[], G27 (.dat (.list k sz xs)) 0 c4 .ready, 0⟩⟩
noncomputable def rk58 (k : LK) (sz : Nat) (xs : Row) (c4 : AV) : Tr (Ex × St) := tround TT t58 noLo (HSr 58) lp58 (inv58 k sz xs c4)
def out58a (G : List Ent) : Ex × St := (.exit 0, ⟨mkT 0 27 [], ⟨[], G, 0⟩⟩)
def out58r (G : List Ent) : Ex × St := (.ret, ⟨mkT 0 27 [], ⟨[], G, 0⟩⟩)
noncomputable def lo58 (n : Nat) (st : St) : Tr (Ex × St) := match n with
  | 0 => tlo2 TT t58.runs (HSr 58) lp58 out58a out58r st
  | _ => .fail
noncomputable def f58t (k : LK) (sz : Nat) (xs : Row) (c4 : AV) : Tr (AV × List Ent) := tfn TT t58 lo58 Go.Proofs.Try.f58 [.yld 4, .ptr (.glob 0) 0] (G27 (.dat (.list k sz xs)) 0 c4 .ready)
noncomputable def R58 (a : List AV) (G : List Ent) : Option (AV × List Ent) := (tfn TT t58 lo58 Go.Proofs.Try.f58 a G).run

/-- results of three forms -/
noncomputable def tspec3 {A B C : Type} (o1 : A → AV × List Ent) (o2 : B → AV × List Ent) (o3 : C → AV × List Ent) (o : Option (AV × List Ent)) : Tr (AV × List Ent) := .ask (fnS o1 o).isSome (tspec o1 o) (tspec2 o2 o3 o)
theorem tspec3_ok {A B C : Type} {o1 : A → AV × List Ent} {o2 : B → AV × List Ent} {o3 : C → AV × List Ent} {o : Option (AV × List Ent)} {r : AV × List Ent} (h : (tspec3 o1 o2 o3 o).run = some r) : o = some r := by
  unfold tspec3 at h
  rcases run_ask h with ⟨_, h⟩ | ⟨_, h⟩
  · exact tspec_ok h
  · exact tspec2_ok h
noncomputable def o58a (_ : List Ent) (p : AV) : AV × List Ent := (.tup [], G27 p 0 (.dat (.list .nil 0 [])) .ready)
noncomputable def o58b (_ : List Ent) (p : AV × Row) : AV × List Ent := (.tup [], G27 p.1 0 (.rowc .excl 7 p.2) .ready)
noncomputable def o58c (_ : List Ent) (p : AV × Int × AV) : AV × List Ent := (.tup [], G27 p.1 p.2.1 p.2.2 (.done .ret))
noncomputable def t52 : TOrc := tinU FT TT HSr 6 [] tNone 2
noncomputable def t27 : TOrc := tCons 58 (fun a G => tspec3 (o58a G) (o58b G) (o58c G) (R58 a G)) (tCons 52 (fun a G => t52 52 a G) tNone)
noncomputable def f27t (k : LK) (sz : Nat) (xs : Row) : Tr (AV × List Ent) := tfnR TT t27 noLo (HSr 27 3000000) Go.Proofs.Try.f27 [.dat (.list k sz xs)] []
noncomputable def R27 (a : List AV) (G : List Ent) : Option (AV × List Ent) := (tfnR TT t27 noLo (HSr 27 3000000) Go.Proofs.Try.f27 a G).run
end Go.Eng
end
